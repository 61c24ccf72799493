/- The machine: New; what one step leaves as it was. No condition but the tables as they are laid. -/
import Derived.Test.YtcpmgklhfpcaeaaGreatDoorArchI
namespace Go.Proofs.YtcpmgklhfpcaeaaGreatDoor
open Go.RowKit Go.XHeap Go.Sx Go.Sep
set_option linter.unusedVariables false
set_option maxRecDepth 100000

/-! ### New -/
section new
variable {W w : World}
def NewIs (code : List Int) (data : List Nat) (W : World) (e : Ending) (w : World) : Prop :=
  if imageOk code.length data.length = false then e = .returned (.tuple #[.pointer none, errV 1]) ∧ w = W
  else ∃ P : MP, e = .returned (.tuple #[.pointer (some ⟨P.b, 0, none⟩), .nilIface]) ∧ Sep.Post emp W (machA P (MS.new code data)) w
theorem newIs_bad {code : List Int} {data : List Nat} {e : Ending} (h : imageOk code.length data.length = false) (hq : e = .returned (.tuple #[.pointer none, errV 1]) ∧ w = W) : NewIs code data W e w := by
  unfold NewIs; rw [if_pos h]; exact hq
theorem newIs_new {code : List Int} {data : List Nat} {e : Ending} (h : imageOk code.length data.length = true) (hq : ∃ P : MP, e = .returned (.tuple #[.pointer (some ⟨P.b, 0, none⟩), .nilIface]) ∧ Sep.Post emp W (machA P (MS.new code data)) w) : NewIs code data W e w := by
  unfold NewIs; rw [if_neg (by rw [h]; decide)]; exact hq
theorem BytesAt.keep {p : Option Addr} {l : List Nat} (h : BytesAt W p l) (ht : XTouch (fun _ => False) W w) : BytesAt w p l := fun i x hx => by
  obtain ⟨g, off, e, hg, hc⟩ := h i x hx
  exact ⟨g, off, e, Nat.lt_of_lt_of_le hg ht.size, (ht.cell (p := ⟨g, off + i, none⟩) hg (fun e => e)).trans hc⟩
theorem WordsAt.keep {p : Option Addr} {l : List Int} (h : WordsAt W p l) (ht : XTouch (fun _ => False) W w) : WordsAt w p l := fun i x hx => by
  obtain ⟨g, off, e, hg, hc⟩ := h i x hx
  exact ⟨g, off, e, Nat.lt_of_lt_of_le hg ht.size, (ht.cell (p := ⟨g, off + i, none⟩) hg (fun e => e)).trans hc⟩
theorem new_any {cp dp : Option Addr} {code : List Int} {data : List Nat} {cc dc : Nat} (hc : WordsAt W cp code) (hd : BytesAt W dp data) (hs : dp = none ∨ ∃ g off, dp = some ⟨g, off, none⟩) :
    Calls Tryz.prog 16 #[.slice cp code.length cc, .slice dp data.length dc] W (NewIs code data W) := by
  refine vc16 cp code.length cc dp data.length dc ((newhart_any hc data.length 0).mono ?_)
  intro e w2 h
  by_cases hi : imageOk code.length data.length = false
  · unfold NewHartIs at h
    rw [if_pos hi] at h
    obtain ⟨rfl, rfl⟩ := h
    exact ⟨_, _, rfl, nil_false (split_of (fun _ => newIs_bad hi ⟨rfl, rfl⟩) (fun q => by cases q))⟩
  have hi : imageOk code.length data.length = true := by simpa using hi
  unfold NewHartIs at h
  rw [if_neg (by rw [hi]; decide), if_neg (by decide)] at h
  obtain ⟨g, rfl, hp⟩ := h
  have H := (St.nil W).add hp
  have hi2 := of_decide_eq_true hi
  refine ⟨_, _, rfl, nil_true (split_of (fun q => by cases q) (fun _ => ?_))⟩
  refine H.calln (clone_any (hd.keep H.touch) hs (by omega)) fun z w3 H => ⟨_, _, _, rfl, ?_⟩
  rintro vs rfl
  have H := H.add (A := memA none 0 []) ⟨Sl.nil _ _ _, XTouch.refl _ _, fun q e => by cases e⟩
  refine H.al fun k w4 H => newIs_new hi ⟨⟨k, g, z.1, z.2, none, 0⟩, rfl, ?_⟩
  have H := H.pick [3, 0, 1, 2]
  exact (St.shut (L := machL ⟨k, g, z.1, z.2, none, 0⟩ (MS.new code data)) (L' := []) H).new 0 rfl
end new
theorem new_ok {code : List Int} {data : List Nat} (h : imageOk code.length data.length = true) (hc : ∀ v ∈ code, U32 v) (hd : ∀ x ∈ data, x < 256) : (MS.new code data).Ok := by
  have h := of_decide_eq_true h
  have h0 : U32 0 := u32_lit (by decide) (by decide)
  exact ⟨⟨h.1, hc, h.2, h0, rfl, fun v hv => by rw [(List.mem_replicate.1 hv).2]; exact h0, rfl, ⟨wr_u _, h0, fun n v h => (by cases h), fun n v h => (by cases h)⟩⟩, rfl, hd, h0⟩
/-! ### what one step does -/
theorem low_ok : ((List.range 67).all fun i => decide (classP (i + 1 : Nat) = 0 ∨ classP (i + 1 : Nat) = 1 ∨ classP (i + 1 : Nat) = 4 ∨ classP (i + 1 : Nat) = 5 ∨ classP (i + 1 : Nat) = 6) || (decide (vN i &&& 127 = 111 ∨ vN i &&& 127 = 103 ∨ vN i &&& 127 = 99 ∨ vN i &&& 127 = 115) || decide (i + 1 = 57))) = true := by kernel_rfl
theorem low_bits {op x : Int} (h1 : 1 ≤ op) (h2 : op ≤ 67) (hx : U32 x) (h : Mt op x) : and32 x 127 = (vN (op.toNat - 1) &&& 127 : Nat) := by
  obtain ⟨x0, x1⟩ := hx
  have hm := (mt_nat h1 h2 x0 x1).1 h
  have hk := List.all_eq_true.1 codes_ok (op.toNat - 1) (List.mem_range.2 (by omega))
  simp only [Bool.and_eq_true, beq_iff_eq] at hk
  obtain ⟨n, rfl⟩ : ∃ n : Nat, x = n := ⟨x.toNat, by omega⟩
  rw [Int.toNat_natCast] at hm
  unfold and32
  rw [show (127 : Int) = ((127 : Nat) : Int) from rfl, Bits.land32 (by omega) (by decide)]
  rw [← hm, Nat.and_assoc, hk.1]
/-- what an event says of a step from S to S' -/
structure RtIs (S S' : HS) (r : Rt) : Prop where
  pc : r.pc = S.pc
  next : r.next = S'.pc
  val : r.rd = 0 → r.value = 0
  cause : r.cause ≠ -1 → r.rd = 0
  same : ∀ i : Int, 0 ≤ i → i < 32 → S'.reg i = if i = r.rd then r.value else S.reg i
  far : r.cause = -1 → and32 r.word 127 ≠ 111 → and32 r.word 127 ≠ 103 → and32 r.word 127 ≠ 99 → and32 r.word 127 ≠ 115 → r.next = wr (S.pc + 4)
variable {S S' : HS} {loaded : Int} {held : Bool}
theorem trap_is (ho : S.Ok) {w cause tval : Int} (hc : cause ≠ -1) : RtIs S (S.trap w cause tval).2 (S.trap w cause tval).1 :=
  ⟨rfl, rfl, fun _ => rfl, fun _ => rfl, fun i h0 h1 => by
    show S.reg i = if i = 0 then 0 else S.reg i
    split
    · rename_i h; rw [h]; exact ho.x0
    · rfl, fun h => absurd h hc⟩
theorem fin_is (ho : S.Ok) {v next : Int} {R : RS} (hok : S.ins.Ok) (hf : and32 S.word 127 ≠ 111 → and32 S.word 127 ≠ 103 → and32 S.word 127 ≠ 99 → and32 S.word 127 ≠ 115 → next = wr (S.pc + 4)) : RtIs S (S.fin v next R).2 (S.fin v next R).1 := by
  unfold HS.fin
  split
  · exact ⟨rfl, rfl, fun _ => rfl, fun _ => rfl, (trap_is (w := S.word) (tval := next) ho (show (0 : Int) ≠ -1 by decide)).same, fun h => absurd h (show (0 : Int) ≠ -1 by decide)⟩
  · refine ⟨rfl, rfl, fun h => ?_, fun h => absurd rfl h, fun i h0 h1 => ?_, fun _ a b c d => hf a b c d⟩
    · show (if S.wrs then v else 0) = 0
      have h : (if S.wrs then S.ins.rd else 0) = 0 := h
      cases hw : S.wrs with
      | false => rfl
      | true =>
        rw [hw, if_pos rfl] at h
        unfold HS.wrs at hw
        simp only [Bool.and_eq_true, decide_eq_true_eq] at hw
        omega
    · show (if S.wrs then S.x.set S.ins.rd.toNat v else S.x).getD i.toNat 0 = if i = (if S.wrs then S.ins.rd else 0) then (if S.wrs then v else 0) else S.x.getD i.toNat 0
      have hx0 : S.x.getD 0 0 = 0 := ho.x0
      cases hw : S.wrs with
      | false =>
        show S.x.getD i.toNat 0 = if i = 0 then 0 else S.x.getD i.toNat 0
        split
        · rename_i h; rw [h]; exact hx0
        · rfl
      | true =>
        rw [if_pos rfl, if_pos rfl, if_pos rfl]
        have hrd := hok.1
        rw [List.getD_eq_getElem?_getD, List.getD_eq_getElem?_getD, List.getElem?_set]
        by_cases e : i = S.ins.rd
        · subst e
          rw [if_pos rfl, if_pos rfl, if_pos (by rw [ho.x32]; omega)]
          rfl
        · rw [if_neg (by omega), if_neg e]
theorem class57 : classP 57 = 7 := by kernel_rfl
theorem mid_next {v next : Int} {R : RS} (hmid : S.mid loaded held = .go v next R) (hcl : (classP S.ins.op = 0 ∨ classP S.ins.op = 1 ∨ classP S.ins.op = 4 ∨ classP S.ins.op = 5 ∨ classP S.ins.op = 6) ∨ S.ins.op = 57) : next = S.p4 := by
  have hc : classP S.ins.op ≠ 2 ∧ classP S.ins.op ≠ 3 ∧ (classP S.ins.op = 7 → S.ins.op = 57) := by
    rcases hcl with h | h
    · exact ⟨by omega, by omega, fun e => by omega⟩
    · rw [h, class57]; exact ⟨by decide, by decide, fun _ => rfl⟩
  clear hcl
  unfold HS.mid at hmid
  simp only at hmid
  split at hmid
  · cases hmid; rfl
  split at hmid
  · exact absurd (by assumption) hc.1
  split at hmid
  · exact absurd (by assumption) hc.2.1
  split at hmid
  · rename_i h7
    have h57 := hc.2.2 h7
    split at hmid
    · cases hmid
    split at hmid
    · cases hmid
    split at hmid
    · omega
    split at hmid
    · cases hmid; rfl
    · omega
  split at hmid
  · cases hmid
  · cases hmid; rfl
theorem done_is (ho : S.Ok) (hn : ¬ S.halted = true) : RtIs S (S.done loaded held).2 (S.done loaded held).1 := by
  by_cases ht : S.there = false
  · have e : S.done loaded held = S.trap 0 1 S.pc := by unfold HS.done; exact (if_neg hn).trans (if_pos ht)
    rw [e]; exact trap_is ho (by decide)
  by_cases hd : decOk S.word = false
  · have e : S.done loaded held = S.trap S.word 2 S.word := by unfold HS.done; exact ((if_neg hn).trans (if_neg ht)).trans (if_pos hd)
    rw [e]; exact trap_is ho (by decide)
  have hdone := done_mid (loaded := loaded) (held := held) hn ht hd
  have hd : decOk S.word = true := by simpa using hd
  obtain ⟨op, hop⟩ : ∃ op, opF S.word = some op := Option.isSome_iff_exists.1 hd
  obtain ⟨h1, h2, hm⟩ := opF_some hop
  have hio : S.ins.op = op := by show (decF S.word).op = op; rw [decF_op, hop]; rfl
  have hl := low_bits h1 h2 ho.word hm
  have ht67 := List.all_eq_true.1 low_ok (op.toNat - 1) (List.mem_range.2 (by omega))
  simp only [Bool.or_eq_true, decide_eq_true_eq] at ht67
  rw [show ((op.toNat - 1 + 1 : Nat) : Int) = op by omega] at ht67
  cases hmid : S.mid loaded held with
  | trap cause tval =>
    rw [hmid] at hdone
    rw [hdone]
    refine trap_is ho ?_
    unfold HS.mid at hmid
    simp only at hmid
    split at hmid
    · cases hmid
    split at hmid
    · cases hmid
    split at hmid
    · cases hmid
    split at hmid
    · split at hmid
      · cases hmid; decide
      split at hmid
      · cases hmid; decide
      split at hmid
      · cases hmid
      split at hmid
      · cases hmid
      split at hmid
      · cases hmid
      · cases hmid; decide
    split at hmid
    · cases hmid; assumption
    · cases hmid
  | go v next R =>
    rw [hmid] at hdone
    rw [hdone]
    refine fin_is ho (decF_ok S.word) (fun a b c d => ?_)
    rw [hl] at a b c d
    have hcl : (classP S.ins.op = 0 ∨ classP S.ins.op = 1 ∨ classP S.ins.op = 4 ∨ classP S.ins.op = 5 ∨ classP S.ins.op = 6) ∨ S.ins.op = 57 := by
      rw [hio]
      rcases ht67 with h | h | h
      · exact .inl h
      · omega
      · exact .inr (by omega)
    exact mid_next hmid hcl
theorem step_is {M : MS} (ho : M.Ok) : (M.step.1.2 = false → M.step.2.h.pc = M.h.pc) ∧ (M.step.1.2 = true → RtIs M.h M.step.2.h M.step.1.1) := by
  unfold MS.step
  split
  · exact ⟨fun _ => rfl, fun h => by cases h⟩
  rename_i hn
  split
  · rename_i h
    refine ⟨fun h => (by cases h), fun _ => ?_⟩
    have h2 := (Bool.and_eq_true_iff.1 h).2
    show RtIs M.h M.h.intr.2 M.h.intr.1.1
    unfold HS.intr at h2 ⊢
    split at h2
    · rename_i hq; rw [if_pos hq]; exact trap_is ho.h (by decide)
    · cases h2
  split
  · exact ⟨fun h => (by cases h), fun _ => done_is ho.h hn⟩
  split
  · exact ⟨fun h => (by cases h), fun _ => done_is ho.h hn⟩
  · exact ⟨fun h => (by cases h), fun _ => done_is ho.h hn⟩
theorem step_out {M : MS} : M.step.2.out.length ≤ M.out.length + 1 := by
  unfold MS.step
  split
  · exact Nat.le_succ _
  split
  · exact Nat.le_succ _
  split
  · exact Nat.le_succ _
  split
  · show (M.out ++ [_]).length ≤ _
    rw [List.length_append]; exact Nat.le_refl _
  · exact Nat.le_succ _
end Go.Proofs.YtcpmgklhfpcaeaaGreatDoor
