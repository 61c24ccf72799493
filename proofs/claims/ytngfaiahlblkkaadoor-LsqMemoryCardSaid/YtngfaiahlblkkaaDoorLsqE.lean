/- The queue, part E: span, Contains, Spoil, Address. No condition. -/
import Derived.Test.YtngfaiahlblkkaaDoorLsqD
namespace Go.Proofs.YtngfaiahlblkkaaDoor
open Go.RowKit Go.XHeap Go.Sx Go.Sep
set_option linter.unusedVariables false
set_option maxRecDepth 100000
variable {W w' : World} {b : Nat} {q v : PQ}

def spanD (e a : Nat) : Int := ((e : Int) - a + 2147483648) % 4294967296 - 2147483648
def spanLo (e a : Nat) : Int := if spanD e a > 0 then spanD e a else 0
def spanHi (e es a s : Nat) : Int := if spanD e a + es < s then spanD e a + es else s
theorem span_in {e es a s : Nat} (h1 : e + es ≤ 4294967296) (h2 : a + s ≤ 4294967296) (hs : s ≤ 4) (hes : es ≤ 4) (b : Nat) : (spanLo e a ≤ b ∧ (b : Int) < spanHi e es a s) ↔ (b < s ∧ e ≤ a + b ∧ a + b < e + es) := by
  unfold spanLo spanHi spanD
  split <;> split <;> omega
theorem span_lo (e a : Nat) : 0 ≤ spanLo e a := by unfold spanLo; split <;> omega
theorem span_hi (e es a s : Nat) : spanHi e es a s ≤ s := by unfold spanHi; split <;> omega
theorem span_any {A : World} {x : Nat × En} (hb : Blk A x.1 x.2.cells 90) (ho : x.2.Ok) (a s : Nat) (ha : a < 4294967296) (hs : s ≤ 4) :
    Calls Tryd.prog 43 #[.pointer (some ⟨x.1, 0, none⟩), .int .u32 a, .int .i64 s] A fun e w => e = .returned (.tuple #[.int .i64 (spanLo x.2.addr a), .int .i64 (spanHi x.2.addr x.2.size a s)]) ∧ ∃ n, w = A.drewN n := by
  have h1 := ho.addr
  have h2 : x.2.size ≤ 4 := by rcases ho.size with e | e | e | e <;> omega
  refine vc43 x.1 0 a s ⟨x.2.addr, hb.cell' rfl, ?_⟩
  rintro z2 rfl z3 rfl z4 rfl
  refine ⟨x.2.size, hb.cell' rfl, ?_⟩
  rintro z6 rfl w n rfl
  have e3 : IntKind.wrap .i32 (IntKind.wrap .u32 ((x.2.addr : Int) - a)) = spanD x.2.addr a := by
    rw [w32m, IntKind.wrap_i32]; unfold spanD; omega
  have hd : -2147483648 ≤ spanD x.2.addr a ∧ spanD x.2.addr a < 2147483648 := by unfold spanD; omega
  rw [e3, w64 (e := spanD x.2.addr a) (by omega) (by omega), w64 (e := spanD x.2.addr a + (x.2.size : Int)) (by omega) (by omega)]
  exact ⟨rfl, n, rfl⟩
theorem span_drew {A : World} {x : Nat × En} (hb : Blk A x.1 x.2.cells 90) (ho : x.2.Ok) (a s : Nat) (ha : a < 4294967296) (hs : s ≤ 4) (k : Nat) :
    Calls Tryd.prog 43 #[.pointer (some ⟨x.1, 0, none⟩), .int .u32 a, .int .i64 s] (A.drewN k) fun e w => e = .returned (.tuple #[.int .i64 (spanLo x.2.addr a), .int .i64 (spanHi x.2.addr x.2.size a s)]) ∧ ∃ n, w = A.drewN n :=
  (span_any (hb.drewN k) ho a s ha hs).mono fun e w ⟨h1, n, h2⟩ => ⟨h1, k + n, by rw [h2, World.drewN_drewN]⟩
theorem index_any {A : World} {g o n c : Nat} {f : Nat → Int} (hf : ∀ i, i < n → A.cell? ⟨g, o + i, none⟩ = some (.int .i64 (f i))) (hn : n ≤ 4) (s : Int) (k : Nat) :
    Calls Tryd.prog 61 #[.slice (some ⟨g, o, none⟩) n c, .int .i64 s] (A.drewN k) fun e w => ∃ z : Int, e = .returned (.int .i64 z) ∧ (decide (z ≥ 0) = (List.range n).any fun i => s == f i) ∧ w = A.drewN k := by
  refine vc61 (some ⟨g, o, none⟩) n c s ⟨fun i B => ∃ j : Nat, i = j ∧ j ≤ n ∧ B = A.drewN k ∧ ∀ i, i < j → ¬ s = f i, fun i _ => n - i.toNat, ⟨0, rfl, Nat.zero_le _, rfl, fun i hi => by omega⟩, fun _ => ?_⟩
  rintro i B ⟨j, rfl, hj, rfl, hnot⟩
  refine split_of (fun q => ?_) (fun q => ?_)
  · have q := of_decide_eq_true q
    refine ⟨⟨by omega, q⟩, adr_some ⟨f j, by rw [ix1]; exact hf j (by omega), split_of (fun q1 => ?_) (fun q1 => ?_)⟩⟩
    · refine ⟨j, rfl, ?_, rfl⟩
      rw [decide_eq_true (by omega)]
      exact (List.any_eq_true.2 ⟨j, List.mem_range.2 (by omega), q1⟩).symm
    · rintro z rfl
      rw [w64 (by omega) (by omega)]
      refine ⟨⟨j + 1, by omega, by omega, rfl, fun i hi => ?_⟩, by show n - ((j : Int) + 1).toNat < n - (j : Int).toNat; omega⟩
      by_cases e : i = j
      · subst e; simpa using q1
      · exact hnot i (by omega)
  · have q := of_decide_eq_false q
    refine ⟨-1, rfl, ?_, rfl⟩
    rw [decide_eq_false (by omega)]
    refine (Bool.eq_false_iff.2 fun h => ?_).symm
    obtain ⟨i, hi, he⟩ := List.any_eq_true.1 h
    exact hnot i (by have := List.mem_range.1 hi; omega) (by simpa using he)
theorem contains_any {A : World} {g o n c : Nat} {f : Nat → Int} (hf : ∀ i, i < n → A.cell? ⟨g, o + i, none⟩ = some (.int .i64 (f i))) (hn : n ≤ 4) (s : Int) (k : Nat) :
    Calls Tryd.prog 53 #[.slice (some ⟨g, o, none⟩) n c, .int .i64 s] (A.drewN k) fun e w => e = .returned (.bool ((List.range n).any fun i => s == f i)) ∧ ∃ k, w = A.drewN k :=
  vc53 (some ⟨g, o, none⟩) n c s ((index_any hf hn s k).mono fun e w ⟨z, h1, h2, h3⟩ => ⟨z, h1, by rw [h2], k, h3⟩)
/-! ### Spoil -/
theorem xor16 {a l : Nat} : (a ^^^ l) < 16 ↔ a / 16 = l / 16 := by
  have e : (a ^^^ l) / 2 ^ 4 = a / 2 ^ 4 ^^^ l / 2 ^ 4 := Nat.xor_div_two_pow
  have e : (a ^^^ l) / 16 = a / 16 ^^^ l / 16 := e
  constructor
  · intro h
    have h0 : a / 16 ^^^ l / 16 = 0 := by rw [← e]; omega
    have := congrArg (fun x => x ^^^ l / 16) h0
    simpa [Nat.xor_assoc] using this
  · intro h
    rw [h, Nat.xor_self] at e
    omega
def spoilP (l : Nat) (e : En) : Bool := e.loaded && (decide (e.addr / 16 = l / 16) && (List.range e.size).any fun b => (-1 : Int) == e.fr b)
def seqOf : Option (Nat × En) → Int
  | some x => x.2.seq
  | none => -1
theorem xor_cast {a l : Nat} (ha : a < 4294967296) (hl : l < 4294967296) : IntKind.wrap .u32 (((BitVec.ofInt (IntKind.bits .u32) (a : Int) ^^^ BitVec.ofInt (IntKind.bits .u32) (l : Int)).toNat : Nat) : Int) = ((a ^^^ l : Nat) : Int) := by
  have h : a ^^^ l < 2 ^ 32 := Nat.xor_lt_two_pow (by omega) (by omega)
  have e1 : (BitVec.ofInt (IntKind.bits .u32) (a : Int) ^^^ BitVec.ofInt (IntKind.bits .u32) (l : Int)).toNat = a ^^^ l := by
    show (BitVec.ofInt 32 (a : Int) ^^^ BitVec.ofInt 32 (l : Int)).toNat = _
    rw [BitVec.toNat_xor, BitVec.toNat_ofInt, BitVec.toNat_ofInt]
    have f1 : ((a : Int) % ((2 ^ 32 : Nat) : Int)).toNat = a := by omega
    have f2 : ((l : Int) % ((2 ^ 32 : Nat) : Int)).toNat = l := by omega
    rw [f1, f2]
  rw [e1, w32m]; omega
theorem and_zero {x : Nat} (hx : x < 16) : IntKind.wrap .u32 (((BitVec.ofInt (IntKind.bits .u32) (x : Int) &&& ~~~BitVec.ofInt (IntKind.bits .u32) 15).toNat : Nat) : Int) = 0 := by
  have : ∀ y : Fin 16, IntKind.wrap .u32 (((BitVec.ofInt (IntKind.bits .u32) ((y.val : Nat) : Int) &&& ~~~BitVec.ofInt (IntKind.bits .u32) 15).toNat : Nat) : Int) = 0 := by decide
  exact this ⟨x, hx⟩
theorem spoil_any (h : (qA b q).at_ W) (ho : AllOk q.es) (hn : q.es.length ≤ 32) (l : Nat) (hl : l < 4294967296) : Calls Tryd.prog 32 #[.pointer (some ⟨b, 0, none⟩), .int .u32 l] W fun e w => e = .returned (.int .i64 (seqOf (q.es.find? fun x => spoilP l x.2))) ∧ Hush W w := by
  have R := q_open h
  refine vc32 b 0 l ⟨_, _, _, R.ld 0 rfl rfl, fun i A => ∃ j : Nat, i = j ∧ j ≤ q.es.length ∧ Hush W A ∧ (∀ (i : Nat) (y : Nat × En), i < j → q.es[i]? = some y → spoilP l y.2 = false), fun i _ => q.es.length - i.toNat, ⟨0, rfl, Nat.zero_le _, XTouch.refl _ _, fun i y hi => by omega⟩, fun _ => ?_⟩
  clear R
  rintro i A ⟨j, rfl, hj, hh, hnot⟩
  have R := q_open ((qA b q).keep h hh (fun _ _ e => e))
  refine split_of (fun q1 => ?_) (fun q1 => ?_)
  · have q1 := of_decide_eq_true q1
    have hjl : j < q.es.length := by omega
    have hx := List.getElem?_eq_getElem hjl
    obtain ⟨x, hxe⟩ : ∃ x, x = q.es[j] := ⟨_, rfl⟩
    rw [← hxe] at hx
    have hxo := ho x (List.mem_of_getElem? hx)
    have hsz : x.2.size ≤ 4 := by rcases hxo.size with e | e | e | e <;> omega
    obtain ⟨g, o, hpp, hc⟩ := ptr_at (R.nth 1 rfl) hx
    have hB := ent_blk (R.nth 2 rfl) hx
    have miss : spoilP l x.2 = false → ∀ (B : World), Hush W B → ∀ z8 : Int, z8 = IntKind.wrap .i64 ((j : Int) + 1) → (∃ j : Nat, z8 = j ∧ j ≤ q.es.length ∧ Hush W B ∧ (∀ (i : Nat) (y : Nat × En), i < j → q.es[i]? = some y → spoilP l y.2 = false)) ∧ q.es.length - z8.toNat < q.es.length - (j : Int).toNat := by
      rintro hm B hB z8 rfl
      rw [w64 (by omega) (by omega)]
      refine ⟨⟨j + 1, by omega, by omega, hB, fun i y hi hy => ?_⟩, by omega⟩
      by_cases e : i = j
      · subst e
        rw [hx] at hy
        cases hy
        exact hm
      · exact hnot i y (by omega) hy
    refine ⟨⟨by omega, q1⟩, adr_eq hpp ⟨_, hc, ptr_some ⟨x.2.loaded, by rw [add_none]; exact hB.cell' rfl, split_of (fun q2 => ?_) (fun q2 B n hB' => ?_)⟩⟩⟩
    · refine ptr_some ⟨x.2.addr, by rw [add_none]; exact hB.cell' rfl, ?_⟩
      rintro z2 rfl
      rw [xor_cast hxo.addr hl]
      refine split_of (fun q3 => ?_) (fun q3 B n hB' => ?_)
      · have q3 : x.2.addr ^^^ l < 16 := by have := of_decide_eq_true q3; omega
        have hline := xor16.1 q3
        refine ptr_some ⟨x.2.addr, by rw [add_none]; exact hB.cell' rfl, ?_⟩
        rintro z4 rfl
        rw [xor_cast hxo.addr hl]
        rintro z5 rfl
        rw [and_zero q3]
        refine split_of (fun _ => ?_) (fun q => by simp at q)
        have hfr : ∀ i, i < x.2.size → A.cell? ⟨x.1, 8 + i, none⟩ = some (.int .i64 (x.2.fr i)) := fun i hi => hB.cell' (cells_fr _ (by omega))
        refine ptr_some (ptr_some ⟨x.2.size, by rw [add_none]; exact hB.cell' rfl, ⟨by omega, by omega⟩, ((List.range x.2.size).any fun i => (-1 : Int) == x.2.fr i), fun k5 => ?_, ?_⟩)
        · rw [add_none, Int.toNat_natCast, Nat.zero_add]
          exact contains_any hfr hsz (-1) k5
        · rintro B n rfl
          have hh2 : Hush W (A.drewN n) := hh.drewN n
          refine split_of (fun q4 => ?_) (fun q4 => ?_)
          · refine ptr_some ⟨x.2.seq, by rw [add_none]; exact (hB.drewN n).cell' rfl, ?_, hh2⟩
            have : q.es.find? (fun x => spoilP l x.2) = some x := by
              rw [List.find?_eq_some_iff_getElem]
              refine ⟨by unfold spoilP; rw [q2, decide_eq_true hline, q4]; rfl, j, hjl, hxe.symm, fun i hi => ?_⟩
              rw [hnot i _ hi (List.getElem?_eq_getElem (by omega))]; rfl
            rw [this]; rfl
          · exact miss (by unfold spoilP; rw [q4, Bool.and_false, Bool.and_false]) _ hh2
      · subst hB'
        have q3 : ¬ x.2.addr ^^^ l < 16 := fun e => by have := of_decide_eq_false q3; omega
        exact miss (by unfold spoilP; rw [decide_eq_false (fun e => q3 (xor16.2 e)), Bool.false_and, Bool.and_false]) _ (hh.drewN n)
    · subst hB'
      exact miss (by unfold spoilP; rw [q2, Bool.false_and]) _ (hh.drewN n)
  · have q1 := of_decide_eq_false q1
    refine ⟨?_, hh⟩
    have : q.es.find? (fun x => spoilP l x.2) = none := by
      rw [List.find?_eq_none]
      intro x hx
      obtain ⟨i, hi, rfl⟩ := List.getElem_of_mem hx
      rw [hnot i _ (by omega) (List.getElem?_eq_getElem hi)]; decide
    rw [this]; rfl
/-! ### Address -/
inductive AddR where
  | err (n : Int)
  | ok (k : Nat)
def addrR (s : Int) (a : Nat) (sz : Int) (es : Ens) : AddR := match posOf (findP s) es with
  | none => .err 7
  | some k => match es[k]? with
    | none => .err 7
    | some x => if x.2.placed = true then .err 7 else if (sz = 1 ∨ sz = 2 ∨ sz = 4) ∧ (a : Int) % sz = 0 then .ok k else .err 3
def aheadP (s : Int) (a sz : Nat) (e : En) : Bool := e.loaded && (List.range e.size).any fun c => decide (a ≤ e.addr + c ∧ e.addr + c < a + sz) && decide (e.fr c < s)
def aheadR (s : Int) (a sz : Nat) (k : Nat) (es : Ens) (e : En) : Int := if e.store = true then seqOf ((es.drop (k + 1)).find? fun x => aheadP s a sz x.2) else -1
def AddrPost (W : World) (b : Nat) (q : PQ) (s : Int) (a : Nat) (sz : Int) (e : Ending) (w : World) : Prop := match addrR s a sz q.es with
  | .err n => e = .returned (.tuple #[.int .i64 (-1), errN n]) ∧ Sep.Post (qA b q) W (qA b q) w
  | .ok k => ∃ x, q.es[k]? = some x ∧ e = .returned (.tuple #[.int .i64 (aheadR s a sz.toNat k q.es x.2), .nilIface]) ∧ Sep.Post (qA b q) W (qA b { q with es := q.es.set k (x.1, { x.2 with placed := true, addr := a, size := sz.toNat }) }) w
theorem addr_any (h : (qA b q).at_ W) (ho : AllOk q.es) (hn : q.es.length ≤ 32) (s : Int) (a : Nat) (ha : a < 4294967296) (sz : Int) :
    Calls Tryd.prog 18 #[.pointer (some ⟨b, 0, none⟩), .int .i64 s, .int .u32 a, .int .i64 sz] W (AddrPost W b q s a sz) := by
  refine vc18 b 0 s a sz ((find_any h hn s).mono ?_)
  rintro e A ⟨rfl, hh⟩
  have bad : ∀ n, addrR s a sz q.es = .err n → AddrPost W b q s a sz (.returned (.tuple #[.int .i64 (-1), errN n])) A := fun n e => by unfold AddrPost; rw [e]; exact ⟨rfl, q_same h hh⟩
  have H : St W (qA b q).own A (q.pieces b ++ []) := (q_open h).quiet hh
  cases hp : posOf (findP s) q.es with
  | none => exact ⟨-1, rfl, split_of (fun _ => bad 7 (by unfold addrR; rw [hp])) (fun q => by simp at q)⟩
  | some k =>
    obtain ⟨x, hx, -, -⟩ := pos_some hp
    have hkl := (List.getElem?_eq_some_iff.1 hx).1
    obtain ⟨g, o, hpp, hc⟩ := ptr_at (H.nth 1 rfl) hx
    have hB := ent_blk (H.nth 2 rfl) hx
    have hr : addrR s a sz q.es = if x.2.placed = true then .err 7 else if (sz = 1 ∨ sz = 2 ∨ sz = 4) ∧ (a : Int) % sz = 0 then .ok k else .err 3 := by unfold addrR; rw [hp]; show (match q.es[k]? with | none => _ | some x => _) = _; rw [hx]
    refine ⟨((k : Nat) : Int), rfl, split_of (fun q => ?_) (fun _ => ?_)⟩
    · have := of_decide_eq_true q; omega
    refine ⟨_, _, _, H.ld 0 rfl rfl, ⟨by omega, by omega⟩, adr_eq hpp ⟨_, hc, ptr_some ⟨x.2.placed, by rw [add_none]; exact hB.cell' rfl, split_of (fun q1 => bad 7 (by rw [hr, if_pos q1])) (fun q1 => ?_)⟩⟩⟩
    have hsize : ∀ z : Nat, sz = z → (z = 1 ∨ z = 2 ∨ z = 4) → ∀ z2 : Int, z2 = IntKind.wrap .u32 sz → z2 ≠ 0 ∧ ∀ z3 : Int, z3 = Int.tmod a z2 → Sx.split (z3 != 0) (AddrPost W b q s a sz (.returned (.tuple #[.int .i64 (-1), errN 3])) A) ((sz = 1 ∨ sz = 2 ∨ sz = 4) ∧ (a : Int) % sz = 0 ∧ A = A) := by
      rintro z rfl hz z2 rfl
      rw [w32 (by omega) (by omega)]
      refine ⟨by omega, ?_⟩
      rintro z3 rfl
      rw [Int.tmod_eq_emod_of_nonneg (by omega)]
      refine split_of (fun q2 => ?_) (fun q2 => ?_)
      · have q2 : ¬ (a : Int) % (z : Nat) = 0 := by simpa using q2
        exact bad 3 (by rw [hr, if_neg (by rw [q1]; decide), if_neg (fun e => q2 e.2)])
      · have q2 : (a : Int) % (z : Nat) = 0 := by simpa using q2
        exact ⟨by omega, q2, rfl⟩
    refine ⟨fun B => (sz = 1 ∨ sz = 2 ∨ sz = 4) ∧ (a : Int) % sz = 0 ∧ B = A, ?_, fun _ => ?_⟩
    · refine split_of (fun q2 => split_of (fun q3 => split_of (fun q4 => ?_) (fun q4 => ?_)) (fun q3 => ?_)) (fun q2 => ?_)
      · have q2 : ¬ sz = 1 := by simpa using q2
        have q3 : ¬ sz = 2 := by simpa using q3
        have q4 : ¬ sz = 4 := by simpa using q4
        exact bad 3 (by rw [hr, if_neg (by rw [q1]; decide), if_neg (by rintro ⟨e | e | e, -⟩; exact q2 e; exact q3 e; exact q4 e)])
      · exact hsize 4 (by simpa using q4) (by omega)
      · exact hsize 2 (by simpa using q3) (by omega)
      · exact hsize 1 (by simpa using q2) (by omega)
    · rintro B ⟨hsz, hal, rfl⟩
      obtain ⟨z, rfl⟩ : ∃ z : Nat, sz = z := ⟨sz.toNat, by omega⟩
      have hz4 : z = 1 ∨ z = 2 ∨ z = 4 := by omega
      have hfit : a + z ≤ 4294967296 := by
        have hal : a % z = 0 := by omega
        rcases hz4 with rfl | rfl | rfl <;> omega
      refine ⟨_, _, _, H.ld 0 rfl rfl, ⟨by omega, by omega⟩, adr_eq hpp ⟨_, hc, ptr_some ?_⟩⟩
      rw [add_none]
      refine H.ent 2 rfl hx { x.2 with placed := true } (by omega) rfl fun C H => ptr_some ?_
      rw [add_none]
      have hx2 : ∀ e2 : En, (q.es.set k (x.1, e2))[k]? = some (x.1, e2) := fun e2 => by rw [List.getElem?_set_self hkl]
      refine H.ent 2 rfl (hx2 _) { x.2 with placed := true, addr := a } (by omega) rfl fun D H => ptr_some ?_
      rw [List.set_set, List.set_set] at H
      rw [add_none]
      refine H.ent 2 rfl (hx2 _) { x.2 with placed := true, addr := a, size := z } (by omega) rfl fun E H => ?_
      rw [List.set_set, List.set_set] at H
      obtain ⟨x', hx'⟩ : ∃ x' : En, x' = { x.2 with placed := true, addr := a, size := z } := ⟨_, rfl⟩
      have H : St W (qA b q).own E ([blk b q.root 81, sl 87 1 (.slice q.p q.es.length q.cap) q.es.length (ptrs q.es), entsA (q.es.set k (x.1, x'))] ++ []) := by rw [hx']; exact H
      have hB := ent_blk (H.nth 2 rfl) (hx2 x')
      have hok' : x'.Ok := by
        have hxo := ho x (List.mem_of_getElem? hx)
        rw [hx']
        exact ⟨ha, hxo.data, by show z = 0 ∨ z = 1 ∨ z = 2 ∨ z = 4; omega, hfit, fun _ => by show z ≠ 0; omega, (fun e => by cases e), fun e => ⟨rfl, (hxo.load e).2⟩, fun e => ⟨(hxo.ret e).1, rfl, (hxo.ret e).2.2⟩, hxo.pos⟩
      have fin : ∀ {F : World}, St W (qA b q).own F ([blk b q.root 81, sl 87 1 (.slice q.p q.es.length q.cap) q.es.length (ptrs q.es), entsA (q.es.set k (x.1, x'))] ++ []) → ∀ r : Int, r = aheadR s a z k q.es x.2 → AddrPost W b q s a ((z : Nat) : Int) (.returned (.tuple #[.int .i64 r, .nilIface])) F := by
        intro F H r hr2
        unfold AddrPost
        rw [hr, if_neg (by rw [q1]; decide), if_pos ⟨hsz, hal⟩]
        refine ⟨x, hx, by rw [hr2, Int.toNat_natCast], ?_⟩
        rw [Int.toNat_natCast, ← hx']
        exact q_turned hx (L := []) H
      refine ptr_some ⟨x.2.store, by rw [add_none]; exact hB.cell' (by rw [hx']; rfl), split_of (fun q2 => ?_) (fun q2 => ?_)⟩
      · have q2 : x.2.store = false := by simpa using q2
        exact fin H (-1) (by unfold aheadR; rw [q2]; rfl)
      have q2 : x.2.store = true := by simpa using q2
      refine ⟨_, _, _, H.ld 0 rfl rfl, ?_⟩
      rintro z8 rfl
      rw [w64 (by omega) (by omega), show ((k : Nat) : Int) + 1 = ((k + 1 : Nat) : Int) by omega]
      refine ⟨⟨by omega, by omega⟩, ?_⟩
      rw [Int.toNat_natCast]
      refine ⟨fun i F => ∃ j : Nat, i = j ∧ j ≤ q.es.length - (k + 1) ∧ (∀ (i : Nat) (y : Nat × En), i < j → q.es[k + 1 + i]? = some y → aheadP s a z y.2 = false) ∧ St W (qA b q).own F ([blk b q.root 81, sl 87 1 (.slice q.p q.es.length q.cap) q.es.length (ptrs q.es), entsA (q.es.set k (x.1, x'))] ++ []), fun i _ => q.es.length - i.toNat, ⟨0, rfl, Nat.zero_le _, fun i y hi => by omega, H⟩, fun _ => ?_⟩
      clear H hB hpp hc
      rintro i F ⟨j, rfl, hj, hnot, H⟩
      refine split_of (fun q3 => ?_) (fun q3 => ?_)
      · have q3 := of_decide_eq_true q3
        have hjl : k + 1 + j < q.es.length := by omega
        have hy := List.getElem?_eq_getElem hjl
        obtain ⟨y, hye⟩ : ∃ y, y = q.es[k + 1 + j] := ⟨_, rfl⟩
        rw [← hye] at hy
        have hyo := ho y (List.mem_of_getElem? hy)
        have hysz : y.2.size ≤ 4 := by rcases hyo.size with e | e | e | e <;> omega
        have hy2 : (q.es.set k (x.1, x'))[k + 1 + j]? = some y := by rw [List.getElem?_set_ne (by omega)]; exact hy
        have hadr : ∀ {f : Nat → Nat → Prop}, (∀ g o, F.cell? ⟨g, o + ((j : Nat) : Int).toNat * 1, none⟩ = some (.pointer (some ⟨y.1, 0, none⟩)) → f g o) → Sx.adr (Sx.sub q.p q.cap (k + 1) 1) f := by
          intro f hf
          have hs : Sl F 87 1 (.slice q.p q.es.length q.cap) q.es.length (ptrs q.es) := H.nth 1 rfl
          obtain ⟨hle, -, g, o, hpp, hcell⟩ := slr_cells hs (by omega)
          rw [hpp]
          unfold Sx.sub
          rw [if_neg (by omega), Option.map_some, add_none]
          refine adr_some (hf g _ ?_)
          rw [ix1, Nat.mul_one, Nat.add_assoc]
          exact hcell _ _ (by simp [ptrs, hy])
        refine ⟨⟨by omega, q3⟩, hadr fun g o hc => ⟨_, hc, ?_⟩⟩
        have hB := ent_blk (H.nth 2 rfl) hy2
        have hBx := ent_blk (H.nth 2 rfl) (hx2 x')
        refine ptr_some ⟨y.2.addr, by rw [add_none]; exact hB.cell' rfl, ptr_some ⟨y.2.size, by rw [add_none]; exact hB.cell' rfl, _, _, fun k13 => span_drew hBx hok' y.2.addr y.2.size hyo.addr hysz k13, ?_⟩⟩
        rintro G n rfl
        have H := H.drewN n
        have ex1 : x'.addr = a := by rw [hx']
        have ex2 : x'.size = z := by rw [hx']
        have hin := fun c => span_in (e := a) (es := z) (a := y.2.addr) (s := y.2.size) hfit hyo.fits hysz (by omega) c
        show ∃ I4 I5, _
        rw [ex1, ex2]
        have hlo := span_lo a y.2.addr
        have hhi := span_hi a z y.2.addr y.2.size
        refine ⟨fun i F => ∃ c : Nat, i = c ∧ spanLo a y.2.addr ≤ c ∧ (c : Int) ≤ max (spanLo a y.2.addr) (spanHi a z y.2.addr y.2.size) ∧ (y.2.loaded = true → ∀ c2 : Nat, c2 < c → spanLo a y.2.addr ≤ c2 → ¬ y.2.fr c2 < s) ∧ St W (qA b q).own F ([blk b q.root 81, sl 87 1 (.slice q.p q.es.length q.cap) q.es.length (ptrs q.es), entsA (q.es.set k (x.1, x'))] ++ []), fun i _ => 100 - i.toNat, ⟨(spanLo a y.2.addr).toNat, by omega, by omega, by omega, fun _ c2 h1 h2 => by omega, H⟩, fun _ => ?_⟩
        clear H hB hBx hadr hc
        rintro i G ⟨c, rfl, hc1, hc2, hcn, H⟩
        have hB := ent_blk (H.nth 2 rfl) hy2
        have miss : aheadP s a z y.2 = false → ∀ z16 : Int, z16 = IntKind.wrap .i64 ((j : Int) + 1) → (∃ j : Nat, z16 = j ∧ j ≤ q.es.length - (k + 1) ∧ (∀ (i : Nat) (y : Nat × En), i < j → q.es[k + 1 + i]? = some y → aheadP s a z y.2 = false) ∧ St W (qA b q).own G ([blk b q.root 81, sl 87 1 (.slice q.p q.es.length q.cap) q.es.length (ptrs q.es), entsA (q.es.set k (x.1, x'))] ++ [])) ∧ q.es.length - z16.toNat < q.es.length - (j : Int).toNat := by
          rintro hm z16 rfl
          rw [w64 (by omega) (by omega)]
          refine ⟨⟨j + 1, by omega, by omega, fun i y' hi hy' => ?_, H⟩, by omega⟩
          by_cases e : i = j
          · subst e
            rw [hy] at hy'
            cases hy'
            exact hm
          · exact hnot i y' (by omega) hy'
        refine ptr_some ⟨y.2.loaded, by rw [add_none]; exact hB.cell' rfl, split_of (fun q4 => split_of (fun q5 => ?_) (fun q5 => ?_)) (fun q4 => ?_)⟩
        · have q5 := of_decide_eq_true q5
          have hc4 : c < 4 := by omega
          refine ptr_some ⟨⟨by omega, by omega⟩, y.2.fr c, ?_, split_of (fun q6 => ?_) (fun q6 => ?_)⟩
          · show G.cell? ⟨y.1, 0 + 8 + (c : Int).toNat * 1, none⟩ = _
            rw [show 0 + 8 + (c : Int).toNat * 1 = 8 + c by omega]
            exact hB.cell' (cells_fr _ hc4)
          · have q6 := of_decide_eq_true q6
            refine ptr_some ⟨y.2.seq, by rw [add_none]; exact hB.cell' rfl, fin H _ ?_⟩
            unfold aheadR
            rw [if_pos q2]
            have : (q.es.drop (k + 1)).find? (fun x => aheadP s a z x.2) = some y := by
              rw [List.find?_eq_some_iff_getElem]
              have hin2 := (hin c).1 ⟨hc1, q5⟩
              refine ⟨?_, j, by rw [List.length_drop]; omega, by rw [List.getElem_drop, hye], fun i hi => ?_⟩
              · unfold aheadP
                rw [q4, Bool.true_and]
                refine List.any_eq_true.2 ⟨c, List.mem_range.2 hin2.1, ?_⟩
                rw [decide_eq_true hin2.2, decide_eq_true q6]; rfl
              · rw [List.getElem_drop, hnot i _ hi (List.getElem?_eq_getElem (by omega))]; rfl
            rw [this]; rfl
          · have q6 := of_decide_eq_false q6
            rintro z11 rfl
            rw [w64 (by omega) (by omega)]
            refine ⟨⟨c + 1, by omega, by omega, by omega, fun hl c2 h1 h2 => ?_, H⟩, by show 100 - ((c : Int) + 1).toNat < 100 - (c : Int).toNat; omega⟩
            by_cases e : c2 = c
            · subst e; exact q6
            · exact hcn hl c2 (by omega) h2
        · have q5 := of_decide_eq_false q5
          refine miss ?_
          unfold aheadP
          rw [q4, Bool.true_and]
          refine Bool.eq_false_iff.2 fun h => ?_
          obtain ⟨c2, h1, h2⟩ := List.any_eq_true.1 h
          rw [Bool.and_eq_true, decide_eq_true_iff, decide_eq_true_iff] at h2
          have hin2 := (hin c2).2 ⟨List.mem_range.1 h1, h2.1⟩
          exact hcn q4 c2 (by omega) hin2.1 h2.2
        · exact miss (by unfold aheadP; rw [q4, Bool.false_and])
      · have q3 := of_decide_eq_false q3
        refine fin H (-1) ?_
        unfold aheadR
        rw [if_pos q2]
        have : (q.es.drop (k + 1)).find? (fun x => aheadP s a z x.2) = none := by
          rw [List.find?_eq_none]
          intro y hy
          obtain ⟨i, hi, rfl⟩ := List.getElem_of_mem hy
          rw [List.length_drop] at hi
          rw [List.getElem_drop, hnot i _ (by omega) (List.getElem?_eq_getElem (by omega))]; decide
        rw [this]; rfl
end Go.Proofs.YtngfaiahlblkkaaDoor
