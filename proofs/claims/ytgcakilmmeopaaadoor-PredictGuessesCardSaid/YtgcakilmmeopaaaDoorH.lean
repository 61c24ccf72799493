/- Part H of the proofs over 'predict': the plain law of the ring of returns. No program in sight. -/
import Derived.Test.YtgcakilmmeopaaaDoorG
namespace Go.Proofs.YtgcakilmmeopaaaDoor
open Go.RowKit Go.XHeap Go.Sx
set_option linter.unusedVariables false
set_option maxRecDepth 100000

def callI : In := ⟨3, 1, 0, 0, 400⟩
def backI : In := ⟨4, 0, 1, 0, 0⟩
def beqI : In := ⟨5, 0, 0, 0, 8⟩
theorem class3 : classP 3 = 3 := by decide
theorem class4 : classP 4 = 3 := by decide
theorem class5 : classP 5 = 2 := by decide
theorem on_call (S : PS) (pc : Int) (t : Bool) : S.on pc callI t = { S with top := (S.top + 1) % S.stack.length, stack := S.stack.set ((S.top + 1) % S.stack.length) (IntKind.wrap .u32 (pc + 4)) } := by
  unfold PS.on
  rw [if_neg (by show ¬ classP 3 = 2; rw [class3]; decide), if_neg (by decide), if_pos (by show (classP 3 == 3 && _) = true; rw [class3]; decide)]
theorem on_back (S : PS) (pc : Int) (t : Bool) : S.on pc backI t = { S with top := (S.top + S.stack.length - 1) % S.stack.length } := by
  unfold PS.on
  rw [if_neg (by show ¬ classP 4 = 2; rw [class4]; decide), if_pos (by decide)]
theorem on_beq (S : PS) (pc : Int) (t : Bool) : S.on pc beqI t = { S with hist := nh S.hist S.mask t } := by
  unfold PS.on
  rw [if_pos (show classP beqI.op = 2 from class5)]
theorem nh3_zero (h : Int) : nh3 h 0 = 0 := by
  unfold nh3
  rw [show BitVec.ofInt (IntKind.bits .i64) 0 = 0#_ from rfl, BitVec.and_zero]
  rfl
theorem nh_zero (h : Int) (t : Bool) : nh h 0 t = 0 := nh3_zero _
structure RI (S : PS) (l : List Int) (r k : Nat) : Prop where
  dir : S.dir = fixedV
  mask : S.mask = 0
  hist : S.hist = 0
  len : S.stack.length = r
  top : S.top = k % r
  ent : ∀ j, j < k → S.stack[(j + 1) % r]? = some (IntKind.wrap .u32 (l.getD j 0 + 4))
theorem ring_ne {j k r : Nat} (hj : j < k) (hk : k < r) : (j + 1) % r ≠ (k + 1) % r := by
  have h1 : (j + 1) % r = j + 1 := Nat.mod_eq_of_lt (by omega)
  rw [h1]
  by_cases e : k + 1 = r
  · rw [e, Nat.mod_self]; omega
  · rw [Nat.mod_eq_of_lt (by omega)]; omega
/-- behind a call -/
theorem RI.call {S : PS} {l : List Int} {r k : Nat} (h : RI S l r k) (hk : k < r) : RI (S.on (l.getD k 0) callI false) l r (k + 1) := by
  have ht : (S.top + 1) % S.stack.length = (k + 1) % r := by rw [h.top, h.len, Nat.mod_add_mod]
  rw [on_call, ht]
  refine ⟨h.dir, h.mask, h.hist, by show (S.stack.set _ _).length = r; rw [List.length_set, h.len], rfl, ?_⟩
  intro j hj
  show (S.stack.set _ _)[_]? = _
  by_cases e : j = k
  · subst e
    rw [List.getElem?_set_self (by rw [h.len]; exact Nat.mod_lt _ (by omega))]
  · rw [List.getElem?_set_ne (Ne.symm (ring_ne (by omega) hk))]
    exact h.ent j (by omega)
/-- a return finds where the call was -/
theorem RI.ret {S : PS} {l : List Int} {r k : Nat} (h : RI S l r (k + 1)) (pc : Int) : S.next pc backI = IntKind.wrap .u32 (l.getD k 0 + 4) := by
  unfold PS.next
  rw [if_neg (by show ¬ classP 4 = 2; rw [class4]; decide), if_neg (by decide), if_pos (by decide), h.top, List.getD_eq_getElem?_getD, h.ent k (by omega)]
  rfl
theorem RI.pop {S : PS} {l : List Int} {r k : Nat} (h : RI S l r (k + 1)) (hk : k < r) (pc : Int) : RI (S.on pc backI false) l r k := by
  rw [on_back]
  refine ⟨h.dir, h.mask, h.hist, h.len, ?_, fun j hj => h.ent j (by omega)⟩
  show (S.top + S.stack.length - 1) % S.stack.length = k % r
  rw [h.top, h.len]
  by_cases e : k + 1 = r
  · rw [e, Nat.mod_self, Nat.zero_add, ← e]; rfl
  · rw [Nat.mod_eq_of_lt (show k + 1 < r by omega), show k + 1 + r - 1 = k + r by omega, Nat.add_mod_right]
theorem RI.beq {S : PS} {l : List Int} {r k : Nat} (h : RI S l r k) (pc : Int) (t : Bool) : RI (S.on pc beqI t) l r k := by
  rw [on_beq]
  refine ⟨h.dir, h.mask, ?_, h.len, h.top, h.ent⟩
  show nh S.hist S.mask t = 0
  rw [h.mask, nh_zero]
/-- wrong ways write but the cell that the mark mends -/
theorem RI.mend {S S4 : PS} {l : List Int} {r k : Nat} (h : RI S l r k) (hr : 0 < r) (d : S4.dir = S.dir) (m : S4.mask = S.mask) (hl : S4.stack.length = r) (hs : ∀ i, i ≠ S.top → S4.stack[i]? = S.stack[i]?) : RI (S4.back S.hist S.top (S.stack.getD S.top 0)) l r k := by
  refine ⟨d.trans h.dir, m.trans h.mask, h.hist, by show (S4.stack.set _ _).length = r; rw [List.length_set, hl], h.top, ?_⟩
  intro j hj
  show (S4.stack.set _ _)[_]? = _
  have hlt : S.top < r := by rw [h.top]; exact Nat.mod_lt _ hr
  by_cases e : (j + 1) % r = S.top
  · rw [e, List.getElem?_set_self (by rw [hl]; exact hlt), List.getD_eq_getElem?_getD, ← e, h.ent j hj]
    rfl
  · rw [List.getElem?_set_ne (Ne.symm e), hs _ e]
    exact h.ent j hj
end Go.Proofs.YtgcakilmmeopaaaDoor
