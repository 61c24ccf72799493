import Derived.Test.YthacioiefgabbaaGreatDoorSxB
import Derived.Test.YthacioiefgabbaaGreatDoorChecked
import Derived.Test.YthacioiefgabbaaGreatDoorBits
/- What each function asks, reckoned out of its text; printed by a program of mine (wip/tpl/VcTool.lean). No condition. -/
namespace Go.Proofs.YthacioiefgabbaaGreatDoor
open Go Go.Proofs
set_option linter.unusedVariables false
set_option maxRecDepth 100000
theorem vc22 {W : World} {Q : Ending → World → Prop} (code : Option Addr) (coden : Nat) (codec : Nat) (data : Int)
 (hVC :
 Sx.split (decide ((↑coden : Int) < 1))
 (Q (.returned (.iface 33 (Value.int .i64 1))) W)
 (Sx.split (decide ((↑coden : Int) > 4096))
 (Q (.returned (.iface 33 (Value.int .i64 1))) W)
 (Sx.split (decide (data < 0))
 (Q (.returned (.iface 33 (Value.int .i64 1))) W)
 (Sx.split (decide (data > 4096))
 (Q (.returned (.iface 33 (Value.int .i64 1))) W)
 (((16 : Int) ≠ (0 : Int) ∧
 (∀ z : Int, (z = Int.tmod data 16 →
 Sx.split (z != 0)
 (Q (.returned (.iface 33 (Value.int .i64 1))) W)
 (Q (.returned Value.nilIface) W))))))))) :
 Calls Tryz.prog 22 #[.slice code coden codec, .int .i64 data] W Q :=
 Sx.sound Tryz.func22 .leaf [Value.slice code coden codec, .int .i64 data] rfl (Eq.mp (by kernel_rfl) hVC)
theorem vc43 {W : World} {Q : Ending → World → Prop} (hart : Int)
 (hVC :
 (∀ z : Int, (z = IntKind.wrap .u32 hart →
 (∀ k : Nat, (∀ W2 : World, (k = Array.size (World.heap W) →
 (W2 = World.alloc W (Obj.map #[] 0) →
 (∀ vs : Array Value, (vs = #[.int .u32 z, .int .u32 0, Value.map (some k)] →
 (∀ k2 : Nat, (∀ W3 : World, (k2 = Array.size (World.heap W2) →
 (W3 = World.alloc W2 (Obj.cells (Value.cells (Value.agg vs)) 200) →
 Q (.returned (.pointer (some (Addr.mk k2 0 none)))) W3))))))))))))) :
 Calls Tryz.prog 43 #[.int .i64 hart] W Q :=
 Sx.sound Tryz.func43 .leaf [Value.int .i64 hart] rfl (Eq.mp (by kernel_rfl) hVC)
theorem vc223 {W : World} {Q : Ending → World → Prop} (code : Option Addr) (coden : Nat) (codec : Nat) (pc : Int)
 (hVC :
 ((0 : Int) ≤ (2 : Int) ∧
 (∀ z : Int, (z = Int.fdiv pc (2 ^ min 2 (IntKind.bits .u32)) →
 (∀ z2 : Int, (z2 = IntKind.wrap .i64 z →
 Sx.split (decide (z2 < (↑coden : Int)))
 ((((0 : Int) ≤ z2 ∧
 z2 < (↑coden : Int)) ∧
 Sx.adr code (fun k =>
 (fun k2 =>
 (∃ z3 : Int, (World.cell? W (.mk k (k2 + Int.toNat z2 * 1) none) = some (.int .u32 z3) ∧
 Q (.returned (.tuple #[.int .u32 z3, .bool true])) W))))))
 (Q (.returned (.tuple #[.int .u32 0, .bool false])) W))))))) :
 Calls Tryz.prog 223 #[.slice code coden codec, .int .u32 pc] W Q :=
 Sx.sound Tryz.func223 .leaf [Value.slice code coden codec, .int .u32 pc] rfl (Eq.mp (by kernel_rfl) hVC)
theorem vc230 {W : World} {Q : Ending → World → Prop} (n : Int)
 (hVC :
 Sx.split (n == 768)
 (Q (.returned (.tuple #[.int .u32 136, .bool true])) W)
 (Sx.split (n == 772)
 (Q (.returned (.tuple #[.int .u32 2048, .bool true])) W)
 (Sx.split (n == 773)
 (Q (.returned (.tuple #[.int .u32 4294967292, .bool true])) W)
 (Sx.split (n == 833)
 (Q (.returned (.tuple #[.int .u32 4294967292, .bool true])) W)
 (Sx.split (n == 832)
 (Q (.returned (.tuple #[.int .u32 4294967295, .bool true])) W)
 (Sx.split (n == 834)
 (Q (.returned (.tuple #[.int .u32 4294967295, .bool true])) W)
 (Sx.split (n == 835)
 (Q (.returned (.tuple #[.int .u32 4294967295, .bool true])) W)
 (Q (.returned (.tuple #[.int .u32 0, .bool false])) W)))))))) :
 Calls Tryz.prog 230 #[.int .i64 n] W Q :=
 Sx.sound Tryz.func230 .leaf [Value.int .i64 n] rfl (Eq.mp (by kernel_rfl) hVC)
theorem vc195 {W : World} {Q : Ending → World → Prop} (r : Nat) (ro : Nat) (n : Int) (v : Int)
 (hVC :
 Calls Tryz.prog 230 #[.int .i64 n] W (fun e =>
 (fun W2 =>
 (∃ z : Int, (∃ t : Bool, (e = .returned (.tuple #[.int .u32 z, .bool t]) ∧
 (∃ p : Option Nat, (World.cell? W2 (.mk r (ro + 2) none) = some (.map p) ∧
 (∀ z2 : Int, (z2 = IntKind.wrap .u32 (↑(BitVec.toNat (BitVec.ofInt (IntKind.bits .u32) v &&& BitVec.ofInt (IntKind.bits .u32) z)) : Int) →
 Sx.mapp p (fun k =>
 (∃ I : Int → Option Value, (Sx.Mp W2 IntKind.i64 k I ∧
 (∀ W3 : World, (Sx.Mp W3 IntKind.i64 k (Sx.upd I n (some (.int .u32 z2))) →
 (XHeap.XTouch (fun q => q = k) W2 W3 →
 Q (.returned (.tuple #[])) W3)))))))))))))))) :
 Calls Tryz.prog 195 #[.pointer (some ⟨r, ro, none⟩), .int .i64 n, .int .u32 v] W Q :=
 Sx.sound Tryz.func195 .leaf [Value.pointer (some ⟨r, ro, none⟩), .int .i64 n, .int .u32 v] rfl (Eq.mp (by kernel_rfl) hVC)
theorem vc147 {W : World} {Q : Ending → World → Prop} (r : Nat) (ro : Nat) (pc : Int) (cause : Int) (tval : Int)
 (hVC :
 (∃ p : Option Nat, (World.cell? W (.mk r (ro + 2) none) = some (.map p) ∧
 Sx.mapp p (fun k =>
 (∃ I : Int → Option Value, (Sx.Mp W IntKind.i64 k I ∧
 (∃ z : Int, (Option.getD (I 773) (Value.int .u32 0) = Value.int .u32 z ∧
 Sx.split (z == 0)
 (Q (.returned (.tuple #[.int .u32 pc, .bool false])) W)
 (Calls Tryz.prog 195 #[.pointer (some (Addr.mk r ro none)), .int .i64 833, .int .u32 pc] W (fun e =>
 (fun W2 =>
 (e = .returned (.tuple #[]) ∧
 (∀ z2 : Int, (z2 = IntKind.wrap .u32 cause →
 Calls Tryz.prog 195 #[.pointer (some (Addr.mk r ro none)), .int .i64 834, .int .u32 z2] W2 (fun e2 =>
 (fun W3 =>
 (e2 = .returned (.tuple #[]) ∧
 Calls Tryz.prog 195 #[.pointer (some (Addr.mk r ro none)), .int .i64 835, .int .u32 tval] W3 (fun e3 =>
 (fun W4 =>
 (e3 = .returned (.tuple #[]) ∧
 (∃ p2 : Option Nat, (World.cell? W4 (.mk r (ro + 2) none) = some (.map p2) ∧
 Sx.mapp p2 (fun k2 =>
 (∃ I2 : Int → Option Value, (Sx.Mp W4 IntKind.i64 k2 I2 ∧
 (∃ z3 : Int, (Option.getD (I2 768) (Value.int .u32 0) = Value.int .u32 z3 ∧
 (∀ z4 : Int, (z4 = IntKind.wrap .u32 (↑(BitVec.toNat (BitVec.ofInt (IntKind.bits .u32) z3 &&& BitVec.ofInt (IntKind.bits .u32) 8)) : Int) →
 ((0 : Int) ≤ (4 : Int) ∧
 (∀ z5 : Int, (z5 = IntKind.wrap .u32 (z4 * 2 ^ min 4 (IntKind.bits .u32)) →
 Calls Tryz.prog 195 #[.pointer (some (Addr.mk r ro none)), .int .i64 768, .int .u32 z5] W4 (fun e4 =>
 (fun W5 =>
 (e4 = .returned (.tuple #[]) ∧
 Q (.returned (.tuple #[.int .u32 z, .bool true])) W5))))))))))))))))))))))))))))))))))) :
 Calls Tryz.prog 147 #[.pointer (some ⟨r, ro, none⟩), .int .u32 pc, .int .i64 cause, .int .u32 tval] W Q :=
 Sx.sound Tryz.func147 .leaf [Value.pointer (some ⟨r, ro, none⟩), .int .u32 pc, .int .i64 cause, .int .u32 tval] rfl (Eq.mp (by kernel_rfl) hVC)
end Go.Proofs.YthacioiefgabbaaGreatDoor
/- Control registers as they lie in memory, what of them a core asks. No condition. -/
namespace Go.Proofs.YthacioiefgabbaaGreatDoor.csr
open Go.RowKit Go.XHeap Go.Sx Go.Sep
set_option linter.unusedVariables false
set_option maxRecDepth 100000
/-! ### numbers of 32 bits -/
def U32 (x : Int) : Prop := 0 ≤ x ∧ x < 4294967296
def wr (x : Int) : Int := IntKind.wrap .u32 x
def and32 (a b : Int) : Int := IntKind.wrap .u32 ((BitVec.ofInt (IntKind.bits .u32) a &&& BitVec.ofInt (IntKind.bits .u32) b).toNat : Int)
def or32 (a b : Int) : Int := IntKind.wrap .u32 ((BitVec.ofInt (IntKind.bits .u32) a ||| BitVec.ofInt (IntKind.bits .u32) b).toNat : Int)
def andn32 (a b : Int) : Int := IntKind.wrap .u32 ((BitVec.ofInt (IntKind.bits .u32) a &&& ~~~BitVec.ofInt (IntKind.bits .u32) b).toNat : Int)
/-! ### control registers -/
structure RS where
  hart : Int
  ret : Int
  csr : Int → Option Int
def maskF (n : Int) : Int := if n = 768 then 136 else if n = 772 then 2048 else if n = 773 then 4294967292 else if n = 833 then 4294967292 else if n = 832 then 4294967295 else if n = 834 then 4294967295 else if n = 835 then 4294967295 else 0
def maskOk (n : Int) : Bool := decide (n = 768 ∨ n = 772 ∨ n = 773 ∨ n = 833 ∨ n = 832 ∨ n = 834 ∨ n = 835)
def RS.at (R : RS) (n : Int) : Int := (R.csr n).getD 0
def RS.get (R : RS) (n : Int) : Int := if n = 3074 then R.ret else if n = 3860 then R.hart else R.at n
def RS.has (n : Int) : Bool := decide (n = 3074) || (decide (n = 3860) || maskOk n)
def RS.set (R : RS) (n v : Int) : RS := { R with csr := fun z => if z = n then some (and32 v (maskF n)) else R.csr z }
def RS.newv (R : RS) (op imm a : Int) : Int := if op = 63 ∨ op = 66 then or32 a (R.get imm) else if op = 64 ∨ op = 67 then andn32 (R.get imm) a else a
def RS.access (R : RS) (op rs1 imm a : Int) : Int × Bool × RS :=
  if ¬ (op = 62 ∨ op = 65) ∧ rs1 = 0 then (R.get imm, RS.has imm, R)
  else if RS.has imm = false ∨ imm / 1024 = 3 then (0, false, R)
  else (R.get imm, true, R.set imm (R.newv op imm (if 65 ≤ op then wr rs1 else a)))
def RS.trapped (R : RS) (pc cause tval : Int) : RS := (((R.set 833 pc).set 834 (wr cause)).set 835 tval).set 768 (wr (and32 (R.at 768) 8 * 16))
def RS.trap (R : RS) (pc cause tval : Int) : Int × Bool × RS := if R.at 773 = 0 then (pc, false, R) else (R.at 773, true, R.trapped pc cause tval)
def RS.back (R : RS) : RS := R.set 768 (or32 (and32 (R.at 768) 128 / 16) 128)
def csrV (f : Int → Option Int) : Int → Option Value := fun z => (f z).map (.int .u32)
def regsL (r m : Nat) (R : RS) : List Asn := [blk r #[.int .u32 R.hart, .int .u32 R.ret, .map (some m)] 200, mp .i64 m (csrV R.csr)]
def regsA (r m : Nat) (R : RS) : Asn := all (regsL r m R)
variable {W w : World} {r m : Nat} {R : RS} {L : List Asn}
theorem regs_open {R : RS} (h : (regsA r m R).at_ W) : St W (regsA r m R).own W (regsL r m R ++ []) := (St.begin h).open_
theorem regs_shut {R R' : RS} (H : St W (regsA r m R).own w (regsL r m R' ++ L)) : Sep.Post (regsA r m R) W (regsA r m R') w := (St.shut H).post 0 rfl
theorem csr_at (R : RS) (n : Int) : Option.getD (csrV R.csr n) (.int .u32 0) = .int .u32 (R.at n) := by
  unfold csrV RS.at
  cases R.csr n <;> rfl
theorem csr_set (R : RS) (n v : Int) : Sx.upd (csrV R.csr) n (some (.int .u32 (and32 v (maskF n)))) = csrV (R.set n v).csr := by
  funext z
  unfold Sx.upd csrV RS.set
  simp only
  by_cases h : z = n
  · rw [if_pos h, if_pos h]; rfl
  · rw [if_neg h, if_neg h]
theorem beq_i {a b : Int} (h : (a == b) = true) : a = b := by simpa using h
theorem bne_i {a b : Int} (h : (a == b) = false) : a ≠ b := by simpa using h
theorem mask_any (n : Int) (W : World) : Calls Tryz.prog 230 #[.int .i64 n] W fun e w => e = .returned (.tuple #[.int .u32 (maskF n), .bool (maskOk n)]) ∧ w = W := by
  refine vc230 n ?_
  refine split_of (fun q => ?_) (fun q => ?_)
  · have q := beq_i q; subst q; exact ⟨rfl, rfl⟩
  refine split_of (fun q2 => ?_) (fun q2 => ?_)
  · have q2 := beq_i q2; subst q2; exact ⟨rfl, rfl⟩
  refine split_of (fun q3 => ?_) (fun q3 => ?_)
  · have q3 := beq_i q3; subst q3; exact ⟨rfl, rfl⟩
  refine split_of (fun q4 => ?_) (fun q4 => ?_)
  · have q4 := beq_i q4; subst q4; exact ⟨rfl, rfl⟩
  refine split_of (fun q5 => ?_) (fun q5 => ?_)
  · have q5 := beq_i q5; subst q5; exact ⟨rfl, rfl⟩
  refine split_of (fun q6 => ?_) (fun q6 => ?_)
  · have q6 := beq_i q6; subst q6; exact ⟨rfl, rfl⟩
  refine split_of (fun q7 => ?_) (fun q7 => ?_)
  · have q7 := beq_i q7; subst q7; exact ⟨rfl, rfl⟩
  have q := bne_i q; have q2 := bne_i q2; have q3 := bne_i q3; have q4 := bne_i q4; have q5 := bne_i q5; have q6 := bne_i q6; have q7 := bne_i q7
  refine ⟨?_, rfl⟩
  have e1 : maskF n = 0 := by unfold maskF; rw [if_neg q, if_neg q2, if_neg q3, if_neg q4, if_neg q5, if_neg q6, if_neg q7]
  have e2 : maskOk n = false := decide_eq_false (by rintro (h | h | h | h | h | h | h) <;> omega)
  rw [e1, e2]
theorem set_any (hA : (regsA r m R).at_ W) (n v : Int) : Calls Tryz.prog 195 #[.pointer (some ⟨r, 0, none⟩), .int .i64 n, .int .u32 v] W fun e w => e = .returned (.tuple #[]) ∧ Sep.Post (regsA r m R) W (regsA r m (R.set n v)) w := by
  have H := regs_open hA
  refine vc195 r 0 n v ((mask_any n W).mono ?_)
  rintro e w2 ⟨rfl, rfl⟩
  refine ⟨_, _, rfl, _, H.ld 0 rfl rfl, ?_⟩
  rintro z rfl
  refine ⟨_, H.look 1 rfl, H.put 1 rfl fun w3 H => ⟨rfl, ?_⟩⟩
  rw [show IntKind.wrap .u32 ((BitVec.ofInt (IntKind.bits .u32) v &&& BitVec.ofInt (IntKind.bits .u32) (maskF n)).toNat : Int) = and32 v (maskF n) from rfl, csr_set] at H
  exact regs_shut (L := []) H
theorem trap_any (hA : (regsA r m R).at_ W) (pc cause tval : Int) : Calls Tryz.prog 147 #[.pointer (some ⟨r, 0, none⟩), .int .u32 pc, .int .i64 cause, .int .u32 tval] W fun e w => e = .returned (.tuple #[.int .u32 (R.trap pc cause tval).1, .bool (R.trap pc cause tval).2.1]) ∧ Sep.Post (regsA r m R) W (regsA r m (R.trap pc cause tval).2.2) w := by
  have H := regs_open hA
  refine vc147 r 0 pc cause tval ⟨_, H.ld 0 rfl rfl, _, H.look 1 rfl, _, csr_at R 773, split_of (fun q => ?_) (fun q => ?_)⟩
  · have q := beq_i q
    have e : R.trap pc cause tval = (pc, false, R) := by unfold RS.trap; rw [if_pos q]
    rw [e]
    exact ⟨rfl, hA, XTouch.refl _ _, fun q h => .inl h⟩
  · have q := bne_i q
    have e : R.trap pc cause tval = (R.at 773, true, R.trapped pc cause tval) := by unfold RS.trap; rw [if_neg q]
    rw [e]
    have H := St.begin hA
    refine H.call 0 rfl (set_any hA 833 pc) fun w2 H => ⟨rfl, ?_⟩
    rintro z rfl
    refine H.call 0 rfl (set_any (H.nth 0 rfl) 834 _) fun w3 H => ⟨rfl, ?_⟩
    refine H.call 0 rfl (set_any (H.nth 0 rfl) 835 _) fun w4 H => ⟨rfl, ?_⟩
    have H2 := regs_open (H.nth 0 rfl)
    refine ⟨_, H2.ld 0 rfl rfl, _, H2.look 1 rfl, _, csr_at _ 768, ?_⟩
    rintro z rfl
    refine ⟨by decide, ?_⟩
    rintro z2 rfl
    exact H.call 0 rfl (set_any (H.nth 0 rfl) 768 _) fun w5 H => ⟨rfl, rfl, H.post 0 rfl⟩
theorem newregs_any (n : Int) (W : World) : Calls Tryz.prog 43 #[.int .i64 n] W fun e w => ∃ x : Nat × Nat, e = .returned (.pointer (some ⟨x.1, 0, none⟩)) ∧ Sep.Post emp W (regsA x.1 x.2 ⟨wr n, 0, fun _ => none⟩) w := by
  refine vc43 n ?_
  rintro z rfl
  refine (St.nil W).mkm .i64 fun k w2 H => ?_
  rintro vs rfl
  refine H.al fun k2 w3 H => ⟨(k2, k), rfl, ?_⟩
  have H := H.pick [1, 0]
  exact (St.shut (L' := []) H).new 0 rfl
def imageOk (n : Nat) (data : Int) : Bool := decide ((1 ≤ n ∧ n ≤ 4096) ∧ 0 ≤ data ∧ data ≤ 4096 ∧ data % 16 = 0)
def errV (n : Int) : Value := .iface 33 (.int .i64 n)
theorem image_any (p : Option Addr) (n c : Nat) (data : Int) (W : World) : Calls Tryz.prog 22 #[.slice p n c, .int .i64 data] W fun e w => e = .returned (if imageOk n data then .nilIface else errV 1) ∧ w = W := by
  have no : ¬ ((1 ≤ n ∧ n ≤ 4096) ∧ 0 ≤ data ∧ data ≤ 4096 ∧ data % 16 = 0) → imageOk n data = false := fun h => decide_eq_false h
  refine vc22 p n c data (split_of (fun q => ?_) fun q => split_of (fun q2 => ?_) fun q2 => split_of (fun q3 => ?_) fun q3 => split_of (fun q4 => ?_) fun q4 => ⟨by decide, ?_⟩)
  · have q := of_decide_eq_true q
    refine ⟨?_, rfl⟩
    rw [no (by omega)]; rfl
  · have q2 := of_decide_eq_true q2
    refine ⟨?_, rfl⟩
    rw [no (by omega)]; rfl
  · have q3 := of_decide_eq_true q3
    refine ⟨?_, rfl⟩
    rw [no (by omega)]; rfl
  · have q4 := of_decide_eq_true q4
    refine ⟨?_, rfl⟩
    rw [no (by omega)]; rfl
  · have q := of_decide_eq_false q; have q2 := of_decide_eq_false q2; have q3 := of_decide_eq_false q3; have q4 := of_decide_eq_false q4
    rintro z rfl
    rw [Int.tmod_eq_emod_of_nonneg (by omega)]
    refine split_of (fun q5 => ?_) (fun q5 => ?_)
    · have q5 : data % 16 ≠ 0 := by simpa using q5
      refine ⟨?_, rfl⟩
      rw [no (by omega)]; rfl
    · have q5 : data % 16 = 0 := by simpa using q5
      refine ⟨?_, rfl⟩
      rw [show imageOk n data = true from decide_eq_true (by omega)]; rfl
end Go.Proofs.YthacioiefgabbaaGreatDoor.csr
