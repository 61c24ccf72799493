/- A hart: trap, Interrupt, Do. No condition but the tables as they are laid. -/
import Derived.Test.YtcpmgklhfpcaeaaGreatDoorArchB
namespace Go.Proofs.YtcpmgklhfpcaeaaGreatDoor
open Go.RowKit Go.XHeap Go.Sx Go.Sep
set_option linter.unusedVariables false
set_option maxRecDepth 100000

/-! ### what alu gives are numbers of 32 bits -/
theorem m32_u (x : Int) : U32 (x % 4294967296) := ⟨by omega, by omega⟩
theorem bits_u (f : BinOp) {a b : Int} (ha : U32 a) (hb : U32 b) : U32 (bits f .u32 a b) := by
  unfold bits
  exact wr_u _
theorem sx8_u {r : Int} : U32 (alu.sx8 r) := by unfold alu.sx8; exact ⟨by split <;> omega, by split <;> omega⟩
theorem sx16_u {r : Int} : U32 (alu.sx16 r) := by unfold alu.sx16; exact ⟨by split <;> omega, by split <;> omega⟩
theorem widenF_u {op r : Int} (h : U32 r) : U32 (alu.widenF op r) := by
  unfold alu.widenF
  split
  · exact sx8_u
  split
  · exact sx16_u
  split
  · exact ⟨by omega, by omega⟩
  split
  · exact ⟨by omega, by omega⟩
  split
  · exact h
  split
  · exact h
  · exact u32_lit (by decide) (by decide)
theorem one_u {c : Prop} [Decidable c] : U32 (if c then 1 else 0) := by split <;> exact u32_lit (by decide) (by decide)
theorem mulhu_u {a b : Int} (ha : U32 a) (hb : U32 b) : U32 (a * b / 4294967296) := by
  obtain ⟨a0, a1⟩ := ha
  obtain ⟨b0, b1⟩ := hb
  have h1 : a * b ≤ 4294967295 * 4294967295 := Int.mul_le_mul (by omega) (by omega) b0 (by decide)
  have h0 : 0 ≤ a * b := Int.mul_nonneg a0 b0
  generalize a * b = c at h1 h0
  exact ⟨by omega, by omega⟩
theorem div_u {a b : Int} (ha : U32 a) (hb : 0 ≤ b) : U32 (a / b) := by
  obtain ⟨a0, a1⟩ := ha
  refine ⟨Int.ediv_nonneg a0 hb, ?_⟩
  have := Int.ediv_le_self b a0
  omega
theorem mod_u {a b : Int} (hb : U32 b) (hn : b ≠ 0) : U32 (a % b) := by
  obtain ⟨b0, b1⟩ := hb
  have := Int.emod_lt_of_pos a (show 0 < b by omega)
  exact ⟨Int.emod_nonneg _ hn, by omega⟩
theorem execF_u {op a b : Int} (ha : U32 a) (hb : U32 b) : U32 (alu.execF op a b) := by
  have hp : ∀ n : Nat, (0 : Int) ≤ 2 ^ n := fun n => Int.pow_nonneg (by decide)
  unfold alu.execF
  split <;> first
    | exact m32_u _
    | exact bits_u _ ha hb
    | exact one_u
    | exact div_u ha (hp _)
    | exact mulhu_u ha hb
    | (unfold alu.quoF; split; exact u32_lit (by decide) (by decide); exact m32_u _)
    | (unfold alu.remF; split; exact ha; exact m32_u _)
    | (unfold alu.divuF; split; exact u32_lit (by decide) (by decide); exact div_u ha hb.1)
    | (unfold alu.remuF; split; exact ha; exact mod_u hb (by assumption))
    | exact u32_lit (by decide) (by decide)
variable {W w : World} {g : HP} {S S' : HS} {L : List Asn} {B : Nat} {M : Nat → Prop} {W0 : World}
theorem rt_one (r : Rt) : ∀ v ∈ r.vs.toList, v.oneCell' = true := by
  intro v hv
  simp only [Rt.vs, List.mem_cons, List.not_mem_nil, or_false] at hv
  rcases hv with rfl | rfl | rfl | rfl | rfl | rfl | rfl <;> rfl
theorem trap1_any (hA : (hartA g S).at_ W) (h32 : S.x.length = 32) (wd cause tval : Int) : Calls Tryz.prog 42 #[.pointer (some ⟨g.b, 0, none⟩), .int .u32 wd, .int .i64 cause, .int .u32 tval] W fun e w => e = .returned (.agg (S.trap wd cause tval).1.vs) ∧ Sep.Post (hartA g S) W (hartA g (S.trap wd cause tval).2) w := by
  have H := hart_open hA
  have hsz : ∀ S' : HS, S'.x.length = 32 → 36 < (rootC g S').size := fun S' h => by rw [root_size h]; decide
  refine vc42 g.b 0 wd cause tval (H.al fun k w2 H => ?_)
  refine ⟨_, H.ld 0 rfl ((root_at 3).trans rfl), ?_⟩
  rintro vs rfl
  refine H.al fun k2 w3 H => H.sts0 4 rfl rfl rfl (rt_one ⟨S.pc, wd, 0, 0, cause, tval, 0⟩) fun w4 H => H.dr fun w5 H => ⟨_, H.ld 0 rfl ((root_at 0).trans rfl), _, H.ld 0 rfl ((root_at 3).trans rfl), ?_⟩
  refine H.call 1 rfl (trap_any (H.nth 1 rfl) S.pc cause tval) fun w6 H => ⟨_, _, rfl, H.st 0 rfl (hsz S h32) fun w7 H => ?_⟩
  have H := H.conv 0 (A' := blk g.b (rootC g { S with halted := !(S.R.trap S.pc cause tval).2.1 }) 74) rfl (fun h => by rw [← root_seth h32]; exact h) (fun q h => h)
  refine H.st 0 rfl (Nat.lt_trans (by decide) (hsz _ h32)) fun w8 H => ?_
  have H := H.conv 0 (A' := blk g.b (rootC g (S.trap wd cause tval).2) 74) rfl (fun h => by rw [show rootC g (S.trap wd cause tval).2 = _ from (root_setpc (S := { S with halted := !(S.R.trap S.pc cause tval).2.1 }) _).symm]; exact h) (fun q h => h)
  refine H.st 4 rfl (show 6 < 7 by decide) fun w9 H => ⟨_, rfl, H.cells 4 rfl, H.sts0 3 rfl rfl rfl (rt_one (S.trap wd cause tval).1) fun w10 H => ⟨_, rfl, H.cells 3 rfl, rfl, ?_⟩⟩
  exact hart_shut (S' := (S.trap wd cause tval).2) (L := []) (H.pick [0, 1, 2])
/-- a trap, and its result in the cell of the caller's result -/
theorem trap_tail {k : Nat} {cs : Array Value} {wd cause tval : Int} {Φ : Array Value → World → Prop} (H : St W0 M w (hartA g S :: blk k cs 43 :: L)) (h32 : S.x.length = 32) (hs : cs.size = 7)
    (hq : ∀ w', St W0 M w' (hartA g (S.trap wd cause tval).2 :: blk k (S.trap wd cause tval).1.vs 43 :: L) → Φ (S.trap wd cause tval).1.vs w') :
    Calls Tryz.prog 42 #[.pointer (some ⟨g.b, 0, none⟩), .int .u32 wd, .int .i64 cause, .int .u32 tval] w fun e w' => ∃ vs : Array Value, e = .returned (.agg vs) ∧ vs.size = 7 ∧ (∀ j : Nat, j < 7 → (∃ v, w'.cell? ⟨k, 0 + j, none⟩ = some v) ∧ w'.frozen? ⟨k, 0 + j, none⟩ = false) ∧ (∀ v : Value, v ∈ vs.toList → v.oneCell' = true) ∧
      ∀ w8 : World, w8 = w'.setCells k 0 vs.toList → ∃ vs4 : Array Value, vs4.size = 7 ∧ cellsAt w8 ⟨k, 0, none⟩ vs4 ∧ Φ vs4 w8 :=
  H.call 0 rfl (trap1_any (H.nth 0 rfl) h32 wd cause tval) fun w' H => ⟨_, rfl, H.sts0 1 rfl rfl hs (rt_one _) fun w8 H => ⟨_, rfl, H.cells 1 rfl, hq _ H⟩⟩
def HS.intr (S : HS) : (Rt × Bool) × HS := if S.irq then (((S.trap 0 2147483659 0).1, true), (S.trap 0 2147483659 0).2) else ((noRt, false), S)
theorem interrupt_any (hA : (hartA g S).at_ W) (h32 : S.x.length = 32) : Calls Tryz.prog 10 #[.pointer (some ⟨g.b, 0, none⟩)] W fun e w => e = .returned (.tuple #[.agg S.intr.1.1.vs, .bool S.intr.1.2]) ∧ Sep.Post (hartA g S) W (hartA g S.intr.2) w := by
  refine vc10 g.b 0 ((St.begin hA).al fun k w2 H => ⟨_, (hart_open (H.nth 0 rfl)).ld 0 rfl (root_h h32), split_of (fun q => ?_) (fun q => ?_)⟩)
  · rintro vs rfl
    refine H.sts0 1 rfl rfl rfl (rt_one noRt) fun w3 H => ⟨_, rfl, H.cells 1 rfl, ?_⟩
    have e : S.intr = ((noRt, false), S) := by unfold HS.intr HS.irq; rw [q]; rfl
    rw [e]
    exact ⟨rfl, H.post 0 rfl⟩
  · refine ⟨_, (hart_open (H.nth 0 rfl)).ld 0 rfl ((root_at 0).trans rfl), ?_⟩
    refine H.callp (inter_any ((hart_open (H.nth 0 rfl)).nth 1 rfl)) ⟨_, rfl, split_of (fun q2 => ?_) (fun q2 => ?_)⟩
    · rintro vs rfl
      refine H.sts0 1 rfl rfl rfl (rt_one noRt) fun w3 H => ⟨_, rfl, H.cells 1 rfl, ?_⟩
      have e : S.intr = ((noRt, false), S) := by
        unfold HS.intr HS.irq
        rw [show S.R.inter = false by simpa using q2, Bool.and_false]
        rfl
      rw [e]
      exact ⟨rfl, H.post 0 rfl⟩
    · refine trap_tail (Φ := fun vs w => _ ∧ _) (H : St W _ _ (hartA g S :: blk k _ 43 :: [])) h32 rfl fun w3 H => ?_
      have e : S.intr = (((S.trap 0 2147483659 0).1, true), (S.trap 0 2147483659 0).2) := by
        unfold HS.intr HS.irq
        rw [q, show S.R.inter = true by simpa using q2]
        rfl
      rw [e]
      exact ⟨rfl, H.post 0 rfl⟩
theorem x_ld (H : St W0 M w (hartA g S :: L)) (h32 : S.x.length = 32) (i : Int) (h0 : 0 ≤ i) (h1 : i < 32) : w.cell? ⟨g.b, 0 + 4 + i.toNat * 1, none⟩ = some (.int .u32 (S.reg i)) := by
  rw [Nat.mul_one, Nat.zero_add]
  exact (hart_open (H.nth 0 rfl)).ld 0 rfl (root_x h32 (by omega))
theorem pc_ld (H : St W0 M w (hartA g S :: L)) : w.cell? ⟨g.b, 0 + 3, none⟩ = some (.int .u32 S.pc) := (hart_open (H.nth 0 rfl)).ld 0 rfl ((root_at 3).trans rfl)
theorem dt_ld (H : St W0 M w (hartA g S :: L)) : w.cell? ⟨g.b, 0 + 2, none⟩ = some (.int .i64 S.data) := (hart_open (H.nth 0 rfl)).ld 0 rfl ((root_at 2).trans rfl)
theorem cd_ld (H : St W0 M w (hartA g S :: L)) : w.cell? ⟨g.b, 0 + 1, none⟩ = some (.slice g.p S.code.length g.c) := (hart_open (H.nth 0 rfl)).ld 0 rfl ((root_at 1).trans rfl)
theorem rg_ld (H : St W0 M w (hartA g S :: L)) : w.cell? ⟨g.b, 0, none⟩ = some (.pointer (some ⟨g.r, 0, none⟩)) := (hart_open (H.nth 0 rfl)).ld 0 rfl ((root_at 0).trans rfl)
theorem hl_ld (H : St W0 M w (hartA g S :: L)) (h32 : S.x.length = 32) : w.cell? ⟨g.b, 0 + 36, none⟩ = some (.bool S.halted) := (hart_open (H.nth 0 rfl)).ld 0 rfl (root_h h32)
/-- the control registers of a hart turn -/
theorem regs_post {R : RS} (hA : (hartA g S).at_ W) (hp : Sep.Post (regsA g.r g.m S.R) W (regsA g.r g.m R) w) : Sep.Post (hartA g S) W (hartA g { S with R := R }) w :=
  hart_shut (S' := { S with R := R }) (L := []) ((hart_open hA).upd 1 rfl hp)
theorem pc_post (hA : (hartA g S).at_ W) (h32 : S.x.length = 32) (v : Int) : Sep.Post (hartA g S) W (hartA g { S with pc := v }) (W.setCell ⟨g.b, 0 + 3, none⟩ (.int .u32 v)) := by
  have H := (hart_open hA).wr 0 rfl (0 + 3) (.int .u32 v)
  have H := H.conv 0 (A' := blk g.b (rootC g { S with pc := v }) 74) rfl (fun h => by rw [← root_setpc]; exact h) (fun q h => h)
  exact hart_shut (S' := { S with pc := v }) (L := []) H
theorem x_post (hA : (hartA g S).at_ W) (h32 : S.x.length = 32) {i : Nat} (hi : i < 32) (v : Int) : Sep.Post (hartA g S) W (hartA g { S with x := S.x.set i v }) (W.setCell ⟨g.b, 4 + i, none⟩ (.int .u32 v)) := by
  have H := (hart_open hA).wr 0 rfl (4 + i) (.int .u32 v)
  have H := H.conv 0 (A' := blk g.b (rootC g { S with x := S.x.set i v }) 74) rfl (fun h => by rw [← root_setx h32 hi]; exact h) (fun q h => h)
  exact hart_shut (S' := { S with x := S.x.set i v }) (L := []) H
theorem root_cell (hA : (hartA g S).at_ W) (h32 : S.x.length = 32) {i : Nat} (hi : i < 37) : (∃ v, W.cell? ⟨g.b, i, none⟩ = some v) ∧ W.frozen? ⟨g.b, i, none⟩ = false := by
  have h := (hart_open hA).blk 0 rfl
  exact ⟨⟨_, h.cell' (Array.getElem?_eq_getElem (by rw [root_size h32]; exact hi))⟩, h.frozen i⟩
end Go.Proofs.YtcpmgklhfpcaeaaGreatDoor
