/- A hart: Ask. No condition but the tables as they are laid. -/
import Derived.Test.YtcpmgklhfpcaeaaGreatDoorArchD
namespace Go.Proofs.YtcpmgklhfpcaeaaGreatDoor
open Go.RowKit Go.XHeap Go.Sx Go.Sep
set_option linter.unusedVariables false
set_option maxRecDepth 100000

variable {W w : World} {g : HP} {S S' : HS} {L : List Asn} {B : Nat} {M : Nat → Prop} {W0 : World}
theorem rq_one (r : Rq) : ∀ v ∈ r.vs.toList, v.oneCell' = true := by
  intro v hv
  simp only [Rq.vs, List.mem_cons, List.not_mem_nil, or_false] at hv
  rcases hv with rfl | rfl | rfl | rfl <;> rfl
def noRq : Rq := ⟨0, 0, 0, 0⟩
theorem ask_none {k : Nat} (H : St W (hartA g S).own w (hartA g S :: blk k noRq.vs 37 :: L)) (hn : S.asks = false) :
    ∀ vs : Array Value, vs = noRq.vs → vs.size = 4 ∧ (∀ j : Nat, j < 4 → (∃ v, w.cell? ⟨k, 0 + j, none⟩ = some v) ∧ w.frozen? ⟨k, 0 + j, none⟩ = false) ∧ (∀ v : Value, v ∈ vs.toList → v.oneCell' = true) ∧
      ∀ w9 : World, w9 = w.setCells k 0 vs.toList → ∃ vs3 : Array Value, vs3.size = 4 ∧ cellsAt w9 ⟨k, 0, none⟩ vs3 ∧ (Ending.returned (.agg vs3) = .returned (.agg S.ask.vs) ∧ Sep.Post (hartA g S) W (hartA g S) w9) := by
  rintro vs rfl
  refine H.sts0 1 rfl rfl rfl (rq_one noRq) fun w3 H => ⟨_, rfl, H.cells 1 rfl, ?_, H.post 0 rfl⟩
  have e : S.ask = noRq := by unfold HS.ask; rw [hn]; rfl
  rw [e]
theorem size_cases (op : Int) : alu.sizeF op = 0 ∨ alu.sizeF op = 1 ∨ alu.sizeF op = 2 ∨ alu.sizeF op = 4 := by
  unfold alu.sizeF
  split
  · exact .inr (.inl rfl)
  split
  · exact .inr (.inr (.inl rfl))
  split
  · exact .inr (.inr (.inr rfl))
  split
  · exact .inr (.inr (.inr rfl))
  · exact .inl rfl
theorem ask_any (hA : (hartA g S).at_ W) (ho : S.Ok) (hT : Tabs B W) (hi : ∀ k, (hartA g S).own k → B ≤ k) :
    Calls Tryz.prog 8 #[.pointer (some ⟨g.b, 0, none⟩)] W fun e w => e = .returned (.agg S.ask.vs) ∧ Sep.Post (hartA g S) W (hartA g S) w := by
  have h32 := ho.x32
  have hok : S.ins.Ok := decF_ok S.word
  refine vc8 g.b 0 ((St.begin hA).al fun k w2 H => ⟨_, _, _, cd_ld H, _, pc_ld H, _, _, fun k4 => (word_any ((H.drewN k4).nth 0 rfl) ho).mono (fun e w' h => ⟨h.1, k4, h.2⟩), H.drN fun w4 H =>
    H.callq (decode_s (hT.st H hi) ho) fun w5 H => ⟨_, _, rfl, H.al fun k7 w6 H => H.sts0 2 rfl rfl rfl (ins_one S.ins) fun w7 H => ⟨_, H.ld 2 rfl rfl, H.callp (size_q _ _) ⟨_, rfl, ?_⟩⟩⟩⟩)
  refine split_of (fun q => ?_) (fun q => split_of (fun q2 => ?_) (fun q2 => ⟨_, hl_ld H h32, split_of (fun q3 => ?_) (fun q3 => split_of (fun q4 => ?_) (fun q4 => ?_))⟩))
  · exact ask_none (L := [_]) H (by unfold HS.asks; rw [not_t q]; rfl)
  · exact ask_none (L := [_]) H (by unfold HS.asks; rw [not_t q2, Bool.false_and, Bool.and_false])
  · exact ask_none (L := [_]) H (by unfold HS.asks; rw [q3]; simp)
  · exact ask_none (L := [_]) H (by unfold HS.asks; rw [beq_i q4]; simp)
  have a1 := not_f q; have a2 := not_f q2; have a3 := q3; have a4 : alu.sizeF S.ins.op ≠ 0 := bne_i q4
  refine ⟨fun p w => ∃ k13, p = some ⟨k13, 0, none⟩ ∧ St W (hartA g S).own w [hartA g S, blk k noRq.vs 37, blk k7 S.ins.vs 83, blk k13 (⟨S.ins.op, S.addr, alu.sizeF S.ins.op, 0⟩ : Rq).vs 37], ?_, ?_⟩
  · refine H.dr fun w13 H => ⟨_, rfl, H.cells 2 rfl, _, H.ld 2 rfl rfl, hok.2.1, _, x_ld H h32 _ hok.2.1.1 hok.2.1.2, ?_, ?_, ?_⟩
    · refine ⟨_, H.ld 2 rfl rfl, Below.refl _ _, ?_, ?_⟩
      · refine H.callq (where_any (hT.st H hi) S.ins _) fun w14 H => ⟨_, rfl, ?_⟩
        rintro vs rfl
        exact H.al fun k13 w15 H => H.sts0 3 rfl rfl rfl (rq_one ⟨S.ins.op, S.addr, alu.sizeF S.ins.op, 0⟩) fun w16 H => ⟨_, rfl, H⟩
      · refine H.alb fun k13 w17 H _ hb => ⟨hb, H.callq (where_any (hT.st H hi) S.ins _) fun w14 H => ⟨_, rfl, ?_⟩⟩
        rintro vs rfl
        exact H.sts0 3 rfl rfl rfl (rq_one ⟨S.ins.op, S.addr, alu.sizeF S.ins.op, 0⟩) fun w16 H => ⟨_, rfl, H⟩
    · refine H.callq (where_any (hT.st H hi) S.ins _) fun w14 H => ⟨_, rfl, ?_, ?_⟩
      · refine ⟨_, H.ld 2 rfl rfl, ?_⟩
        rintro vs rfl
        exact H.al fun k13 w15 H => H.sts0 3 rfl rfl rfl (rq_one ⟨S.ins.op, S.addr, alu.sizeF S.ins.op, 0⟩) fun w16 H => ⟨_, rfl, H⟩
      · refine H.al fun k13 w15 H => ⟨_, H.ld 2 rfl rfl, ?_⟩
        rintro vs rfl
        exact H.sts0 3 rfl rfl rfl (rq_one ⟨S.ins.op, S.addr, alu.sizeF S.ins.op, 0⟩) fun w16 H => ⟨_, rfl, H⟩
    · refine H.alb fun k13 w17 H _ hb => ⟨hb, ⟨_, H.ld 2 rfl rfl, hb, ?_⟩, ?_⟩
      · refine H.callq (where_any (hT.st H hi) S.ins _) fun w14 H => ⟨_, rfl, ?_⟩
        rintro vs rfl
        exact H.sts0 3 rfl rfl rfl (rq_one ⟨S.ins.op, S.addr, alu.sizeF S.ins.op, 0⟩) fun w16 H => ⟨_, rfl, H⟩
      · refine H.callq (where_any (hT.st H hi) S.ins _) fun w14 H => ⟨_, rfl, _, H.ld 2 rfl rfl, ?_⟩
        rintro vs rfl
        exact H.sts0 3 rfl rfl rfl (rq_one ⟨S.ins.op, S.addr, alu.sizeF S.ins.op, 0⟩) fun w16 H => ⟨_, rfl, H⟩
  rintro J p w30 ⟨k13, rfl, H⟩
  refine H.dr fun w31 H => ⟨_, H.ld 2 rfl rfl, _, H.ld 3 rfl rfl, _, dt_ld H, H.callq (reach_any (hT.st H hi) _ _ _) fun w32 H => ⟨_, rfl, split_of (fun q5 => ?_) (fun q5 => ?_)⟩⟩
  · exact ask_none (L := [_, _]) H (by unfold HS.asks; rw [decide_eq_false (bne_t q5)]; simp)
  have a5 := bne_f q5
  have hasks : S.asks = true := by
    unfold HS.asks
    rw [a1, a2, a3, decide_eq_true a4, decide_eq_true a5]
    rfl
  refine ⟨_, H.ld 2 rfl rfl, H.callq (class_q (hT.st H hi) _) fun w34 H => ⟨_, rfl, split_of (fun q6 => ?_) (fun q6 => ?_)⟩⟩
  · have e : S.ask = ⟨S.ins.op, S.addr, alu.sizeF S.ins.op, cutF (alu.sizeF S.ins.op) (S.reg S.ins.rs2)⟩ := by
      unfold HS.ask
      rw [if_pos hasks, if_neg (bne_t q6)]
    rw [e]
    refine H.dr fun w35 H => ⟨_, H.ld 2 rfl rfl, hok.2.2, _, x_ld H h32 _ hok.2.2.1 hok.2.2.2, ?_⟩
    have hs := size_cases S.ins.op
    generalize hn : alu.sizeF S.ins.op = n at H hs
    have e8 : IntKind.wrap .i64 (8 * n) = 8 * n := w64 (by omega) (by omega)
    have e9 : IntKind.wrap .i64 (32 - 8 * n) = 32 - 8 * n := w64 (by omega) (by omega)
    rw [e8]
    rintro z rfl
    rw [e9]
    rintro z rfl
    refine ⟨by omega, ?_⟩
    rintro z rfl z rfl
    rw [e9]
    rintro z rfl
    refine ⟨by omega, ?_⟩
    rw [show min (32 - 8 * n).toNat (IntKind.bits .u32) = (32 - 8 * n).toNat from Nat.min_eq_left (by show (32 - 8 * n).toNat ≤ 32; omega)]
    rw [Int.fdiv_eq_ediv_of_nonneg _ (Int.pow_nonneg (by decide))]
    rintro z rfl
    exact H.st 3 rfl (show 3 < 4 by decide) fun w36 H => ⟨_, rfl, H.cells 3 rfl, H.sts0 1 rfl rfl rfl (rq_one ⟨S.ins.op, S.addr, n, cutF n (S.reg S.ins.rs2)⟩) fun w37 H => ⟨_, rfl, H.cells 1 rfl, rfl, H.post 0 rfl⟩⟩
  · have e : S.ask = ⟨S.ins.op, S.addr, alu.sizeF S.ins.op, 0⟩ := by
      unfold HS.ask
      rw [if_pos hasks, if_pos (bne_f q6)]
    rw [e]
    exact ⟨_, rfl, H.cells 3 rfl, H.sts0 1 rfl rfl rfl (rq_one _) fun w37 H => ⟨_, rfl, H.cells 1 rfl, rfl, H.post 0 rfl⟩⟩
end Go.Proofs.YtcpmgklhfpcaeaaGreatDoor
