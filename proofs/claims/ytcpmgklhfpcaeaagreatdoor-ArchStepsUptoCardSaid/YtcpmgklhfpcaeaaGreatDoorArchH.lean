/- The machine: what holds stays so. No program in sight; no condition. -/
import Derived.Test.YtcpmgklhfpcaeaaGreatDoorArchG
namespace Go.Proofs.YtcpmgklhfpcaeaaGreatDoor
open Go.RowKit Go.XHeap Go.Sx Go.Sep
set_option linter.unusedVariables false
set_option maxRecDepth 100000

variable {S S' : HS} {loaded : Int} {held : Bool}
theorem swapF_u {op a b : Int} (ha : U32 a) (hb : U32 b) : U32 (alu.swapF op a b) := by
  unfold alu.swapF
  split
  · exact hb
  split
  · exact m32_u _
  split
  · exact bits_u _ ha hb
  split
  · exact bits_u _ ha hb
  split
  · exact bits_u _ ha hb
  split
  · split
    · exact ha
    · exact hb
  split
  · split
    · exact hb
    · exact ha
  split
  · split
    · exact ha
    · exact hb
  split
  · split
    · exact hb
    · exact ha
  · exact ha
theorem HS.Ok.mid (ho : S.Ok) (hl : U32 loaded) {v next : Int} {R : RS} (h : S.mid loaded held = .go v next R) : U32 v ∧ U32 next ∧ R.Ok := by
  have ha := ho.reg S.ins.rs1
  have hb := ho.reg S.ins.rs2
  have hu := operF_u (op := S.ins.op) (imm := S.ins.imm) ho.pc ha hb
  have h0 : U32 0 := u32_lit (by decide) (by decide)
  have h1 : U32 1 := u32_lit (by decide) (by decide)
  unfold HS.mid at h
  simp only at h
  split at h
  · cases h; exact ⟨execF_u hu.1 hu.2, wr_u _, ho.R⟩
  split at h
  · cases h
    refine ⟨h0, ?_, ho.R⟩
    split
    · exact targF_u _ _ _ _
    · exact wr_u _
  split at h
  · cases h; exact ⟨wr_u _, targF_u _ _ _ _, ho.R⟩
  split at h
  · split at h
    · cases h
    split at h
    · cases h
    split at h
    · cases h; exact ⟨h0, (ho.R.back).at 833, ho.R.back⟩
    split at h
    · cases h; exact ⟨h0, wr_u _, ho.R⟩
    split at h
    · cases h
      have := ho.R.access S.ins.op S.ins.rs1 S.ins.imm (S.reg S.ins.rs1)
      exact ⟨this.2, wr_u _, this.1⟩
    · cases h
  split at h
  · cases h
  · cases h
    refine ⟨?_, wr_u _, ho.R⟩
    split
    · split
      · exact h0
      · exact h1
    · exact widenF_u hl
theorem RS.Ok.trap {R : RS} (h : R.Ok) {pc : Int} (hp : U32 pc) (cause tval : Int) : (R.trap pc cause tval).2.2.Ok ∧ U32 (R.trap pc cause tval).1 := by
  unfold RS.trap
  split
  · exact ⟨h, hp⟩
  · exact ⟨h.trapped _ _ _, h.at _⟩
theorem HS.Ok.trap (ho : S.Ok) (w cause tval : Int) : (S.trap w cause tval).2.Ok :=
  ⟨ho.len, ho.code, ho.data, (ho.R.trap ho.pc cause tval).2, ho.x32, ho.x, ho.x0, (ho.R.trap ho.pc cause tval).1⟩
theorem reg_zero (h : S.x.length = 32) : S.reg 0 = S.x.getD 0 0 := rfl
theorem HS.Ok.fin (ho : S.Ok) {v next : Int} {R : RS} (hv : U32 v) (hn : U32 next) (hR : R.Ok) : (S.fin v next R).2.Ok := by
  unfold HS.fin
  split
  · exact HS.Ok.trap (S := { S with R := R }) ⟨ho.len, ho.code, ho.data, ho.pc, ho.x32, ho.x, ho.x0, hR⟩ _ _ _
  · have key : ∀ c : Bool, (c = true → 0 < S.ins.rd) → (if c then S.x.set S.ins.rd.toNat v else S.x).length = 32 ∧ (∀ y ∈ (if c then S.x.set S.ins.rd.toNat v else S.x), U32 y) ∧ (if c then S.x.set S.ins.rd.toNat v else S.x).getD 0 0 = 0 := by
      intro c hc
      cases c with
      | false => exact ⟨ho.x32, ho.x, ho.x0⟩
      | true =>
        have hr := hc rfl
        rw [if_pos rfl]
        refine ⟨by rw [List.length_set]; exact ho.x32, fun y hy => ?_, ?_⟩
        · rcases List.mem_or_eq_of_mem_set hy with e | rfl
          · exact ho.x y e
          · exact hv
        · rw [List.getD_eq_getElem?_getD, List.getElem?_set_ne (by omega), ← List.getD_eq_getElem?_getD]
          exact ho.x0
    have hk := key S.wrs (fun h => by unfold HS.wrs at h; simp only [Bool.and_eq_true, decide_eq_true_eq] at h; exact h.2)
    exact ⟨ho.len, ho.code, ho.data, hn, hk.1, hk.2.1, hk.2.2, hR.counted⟩
theorem HS.Ok.done (ho : S.Ok) (hl : U32 loaded) : (S.done loaded held).2.Ok := by
  unfold HS.done
  split
  · exact ho
  split
  · exact ho.trap _ _ _
  split
  · exact ho.trap _ _ _
  split
  · exact ho.trap _ _ _
  · rename_i h
    have := ho.mid hl h
    exact ho.fin this.1 this.2.1 this.2.2
theorem HS.Ok.intr (ho : S.Ok) : S.intr.2.Ok := by
  unfold HS.intr
  split
  · exact ho.trap 0 2147483659 0
  · exact ho
theorem done_code : (S.done loaded held).2.code = S.code ∧ (S.done loaded held).2.data = S.data := by
  unfold HS.done
  split
  · exact ⟨rfl, rfl⟩
  split
  · exact ⟨rfl, rfl⟩
  split
  · exact ⟨rfl, rfl⟩
  split
  · exact ⟨rfl, rfl⟩
  · unfold HS.fin
    split <;> exact ⟨rfl, rfl⟩
theorem intr_code : S.intr.2.code = S.code ∧ S.intr.2.data = S.data := by
  unfold HS.intr
  split <;> exact ⟨rfl, rfl⟩
variable {M : MS}
theorem MS.Ok.rd (h : M.Ok) (q : Rq) (hq : q.size = 1 ∨ q.size = 2 ∨ q.size = 4) : U32 (M.rd q) := by
  unfold MS.rd
  have h1 := le_lt (l := (M.data.drop (MS.at q)).take q.size.toNat) (fun x hx => h.byte x (List.mem_of_mem_drop (List.mem_of_mem_take hx)))
  have h2 : ((M.data.drop (MS.at q)).take q.size.toNat).length ≤ 4 := by rw [List.length_take]; omega
  have h3 : 256 ^ ((M.data.drop (MS.at q)).take q.size.toNat).length ≤ 256 ^ 4 := Nat.pow_le_pow_right (by decide) h2
  refine ⟨by omega, ?_⟩
  have : (256 : Nat) ^ 4 = 4294967296 := rfl
  omega
theorem MS.Ok.acc (h : M.Ok) (q : Rq) (hq : q.size = 1 ∨ q.size = 2 ∨ q.size = 4) (hd : U32 q.data) (ha : U32 q.addr) : U32 (M.acc q).v ∧ U32 (M.acc q).res := by
  have hr := h.rd q hq
  have hs : U32 (alu.swapF q.op (M.rd q) q.data) := swapF_u hr hd
  unfold MS.acc
  split
  · exact ⟨hd, h.res⟩
  split
  · split
    · exact ⟨hs, ha⟩
    split
    · exact ⟨hs, show U32 0 from u32_lit (by decide) (by decide)⟩
    · exact ⟨hs, h.res⟩
  · exact ⟨hd, h.res⟩
theorem HS.Ok.ask_addr (ho : S.Ok) : U32 S.ask.addr := by
  unfold HS.ask
  split
  · exact whereF_u (ho.reg _)
  · exact u32_lit (by decide) (by decide)
theorem HS.Ok.ask_data (ho : S.Ok) : U32 S.ask.data := by
  unfold HS.ask
  split
  · show U32 (if _ then _ else _)
    split
    · exact u32_lit (by decide) (by decide)
    · unfold cutF; exact div_u (wr_u _) (Int.pow_nonneg (by decide))
  · exact u32_lit (by decide) (by decide)
theorem MS.Ok.step (h : M.Ok) : M.step.2.Ok := by
  have h0 : U32 0 := u32_lit (by decide) (by decide)
  unfold MS.step
  split
  · exact h
  split
  · exact ⟨h.h.intr, by show M.h.intr.2.data = _; rw [intr_code.2]; exact h.len, h.byte, h.res⟩
  split
  · exact ⟨h.h.done h0, by show (M.h.done 0 false).2.data = _; rw [done_code.2]; exact h.len, h.byte, h.res⟩
  split
  · exact ⟨h.h.done h0, by show (M.h.done 0 false).2.data = _; rw [done_code.2]; exact h.len, h.byte, h.res⟩
  · rename_i hop hlt
    obtain ⟨-, -, hs, hd⟩ := ask_in h.h hop (by omega)
    have hr := h.rd M.h.ask hs
    have ha := h.acc M.h.ask hs hd h.h.ask_addr
    refine ⟨h.h.done hr, ?_, ?_, ha.2⟩
    · show (M.h.done _ _).2.data = _
      rw [done_code.2, h.len]
      show ((M.data.length : Nat) : Int) = ((if _ then _ else _ : List Nat).length : Nat)
      split
      · rw [wrN_len]
      · rfl
    · intro x hx
      have hx : x ∈ (if (M.acc M.h.ask).write then wrN M.data (MS.at M.h.ask) (M.acc M.h.ask).v.toNat M.h.ask.size.toNat else M.data) := hx
      split at hx
      · exact wrN_byte h.byte _ _ _ x hx
      · exact h.byte x hx
end Go.Proofs.YtcpmgklhfpcaeaaGreatDoor
