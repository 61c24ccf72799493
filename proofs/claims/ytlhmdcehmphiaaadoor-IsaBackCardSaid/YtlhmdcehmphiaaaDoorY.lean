/- Part Y: the laws of encoding, walked. -/
import Derived.Test.YtlhmdcehmphiaaaDoorX
namespace Go.Proofs.YtlhmdcehmphiaaaDoor
open Go.RowKit Go.XHeap
set_option linter.unusedVariables false

set_option maxRecDepth 100000 in
set_option maxHeartbeats 1000000 in
theorem encodes_walk (op rd rs1 rs2 imm : Int) (m0 : -9223372036854775808 ≤ imm) (m1 : imm ≤ 9223372036854775807) (w : World) (hT : Tab w) :
    Calls Tryd.prog 5 #[.int .i64 op, .int .i64 rd, .int .i64 rs1, .int .i64 rs2, .int .i64 imm] w fun e w' => e = .returned (.bool true) ∧ Grown w w' := by
  obtain ⟨y, ok, h1, h2, -⟩ := enc_same op rd rs1 rs2 imm m0 m1
  have H1 := Lib.hid h1; have H2 := Lib.hid h2; have HT := Lib.hid hT
  clear h1 h2 hT
  go_enter Tryd.func5, Tryd.ntmps5
  go_wp2_with fail
  refine (instr_ag op rd rs1 rs2 imm _).mono ?_
  rintro e w1 ⟨rfl, hG⟩
  have HB := Lib.hid (blk_grown (Blk.new w #[.int .i64 op, .int .i64 rd, .int .i64 rs1, .int .i64 rs2, .int .i64 imm] 29) hG)
  have HG1 := Lib.hid (grown_trans ((Grown.refl w).alloc _ _) hG)
  clear hG
  go_wp2_with fail
  refine (H1.out _ (HT.out.grown HG1.out)).mono ?_
  rintro e w2 ⟨rfl, hG⟩
  have hB := blk_grown HB.out hG
  have HG2 := Lib.hid (grown_trans HG1.out hG)
  have k0 : w2.cell? ⟨w.heap.size, 0, none⟩ = some (.int .i64 op) := hB.cell' (i := 0) rfl
  have k1 : w2.cell? ⟨w.heap.size, 1, none⟩ = some (.int .i64 rd) := hB.cell' (i := 1) rfl
  have k2 : w2.cell? ⟨w.heap.size, 2, none⟩ = some (.int .i64 rs1) := hB.cell' (i := 2) rfl
  have k3 : w2.cell? ⟨w.heap.size, 3, none⟩ = some (.int .i64 rs2) := hB.cell' (i := 3) rfl
  have k4 : w2.cell? ⟨w.heap.size, 4, none⟩ = some (.int .i64 imm) := hB.cell' (i := 4) rfl
  clear hG hB
  go_wp2_with fail
  refine (H2.out _).mono ?_
  rintro e w3 ⟨rfl, hG⟩
  have HG3 := Lib.hid (grown_trans HG2.out hG)
  clear hG k0 k1 k2 k3 k4
  go_wp2
  go_ret
  exact ⟨rfl, HG3.out⟩
theorem code_grown {a b : World} {g : Nat} {ls : List (List Int)} (h : CodeAt a g ls) (hg : Grown a b) : CodeAt b g ls := fun c l hl =>
  ⟨fun e => grown_cell hg ((h c l hl).1 e), fun hne => let ⟨b', off, cap, h1, h2⟩ := (h c l hl).2 hne; ⟨b', off, cap, grown_cell hg h1, fun i n hi => grown_cell hg (h2 i n hi)⟩⟩
/-- what is said of an encoding -/
def EncV (op rd rs1 rs2 imm y : Int) (ok : Bool) : Prop := (ok = true ∧ Rng op rd rs1 rs2 ∧ okF (shP op).1 rd rs1 rs2 imm ∧ y = (shP op).2.2 + fldF (shP op).1 rd rs1 rs2 imm) ∨ (ok = false ∧ y = 0 ∧ ¬ (Rng op rd rs1 rs2 ∧ okF (shP op).1 rd rs1 rs2 imm))
theorem addi_ok (w : World) (hT : Tab w) : Calls Tryd.prog 17 #[.agg #[.int .i64 19, .int .i64 1, .int .i64 2, .int .i64 0, .int .i64 (-3)]] w fun e w' => (∃ y, e = .returned (.tuple #[.int .u32 y, .bool true])) ∧ Grown w w' := by
  obtain ⟨y, ok, h1, -, h3⟩ := enc_same 19 1 2 0 (-3) (by decide) (by decide)
  have hok : ok = true := by
    rcases h3 with h | ⟨-, -, h⟩
    · exact h.1
    · refine absurd ?_ h
      refine ⟨by unfold Rng; decide, ?_⟩
      rw [show (shP 19).1 = 6 by kernel_rfl]
      simp [okF]
  subst hok
  exact (h1 w hT).mono fun e w' ⟨h, hg⟩ => ⟨⟨y, h⟩, hg⟩
set_option maxRecDepth 100000 in
set_option maxHeartbeats 1000000 in
theorem there_walk (op rd rs1 rs2 imm : Int) (m0 : -9223372036854775808 ≤ imm) (m1 : imm ≤ 9223372036854775807) (w : World) (hT : Tab w) (hC : CodeAt w 0 codeL) :
    Calls Tryd.prog 6 #[.int .i64 op, .int .i64 rd, .int .i64 rs1, .int .i64 rs2, .int .i64 imm] w fun e w' => e = .returned (.bool true) ∧ Grown w w' := by
  obtain ⟨y, ok, h1, -, h3⟩ := enc_same op rd rs1 rs2 imm m0 m1
  have H1 := Lib.hid h1; have H3 := Lib.hid h3; have HT := Lib.hid hT; have HC := Lib.hid hC
  clear h1 h3 hT hC
  go_enter Tryd.func6, Tryd.ntmps6
  go_wp2_with fail
  refine (addi_ok _ HT.out).mono ?_
  rintro e w1 ⟨⟨y0, rfl⟩, hG⟩
  have HG1 := Lib.hid (grown_trans hG ((Grown.refl w1).alloc #[.int .i64 op, .int .i64 rd, .int .i64 rs1, .int .i64 rs2, .int .i64 imm] 25))
  clear hG
  go_wp2_with fail
  refine (H1.out _ (HT.out.grown HG1.out)).mono ?_
  rintro e w2 ⟨rfl, hG⟩
  have HB := Lib.hid (blk_grown (Blk.new w1 #[.int .i64 op, .int .i64 rd, .int .i64 rs1, .int .i64 rs2, .int .i64 imm] 25) hG)
  have HG2 := Lib.hid (grown_trans HG1.out hG)
  clear hG
  rcases H3.out with ⟨rfl, hr, ho, rfl⟩ | ⟨rfl, rfl, -⟩
  · obtain ⟨o1, o2, d0, d1, a0, a1, b0, b1⟩ := hr
    obtain ⟨x0, x1, hM, hrd, -, -⟩ := fld_bd op rd rs1 rs2 imm o1 o2 d0 (by omega) a0 (by omega) b0 (by omega) ho
    have HM := Lib.hid hM; have HR := Lib.hid hrd; have HO := Lib.hid (And.intro o1 o2)
    clear hM hrd ho d0 d1 a0 a1 b0 b1 o1 o2
    generalize (shP op).2.2 + fldF (shP op).1 rd rs1 rs2 imm = x at *
    go_wp2_with fail
    refine (decode_any x x0 x1 _ (HT.out.grown HG2.out) ?_).mono ?_
    · exact code_grown HC.out HG2.out
    rintro e w3 ⟨hD, hG⟩
    obtain rfl : e = .returned (.tuple #[.agg #[.int .i64 op, .int .i64 rd, .int .i64 rs1, .int .i64 rs2, .int .i64 imm], .bool true]) := by
      rcases hD with ⟨op', p1, p2, hM', rfl⟩ | ⟨hno, rfl⟩
      · obtain rfl := mt_one HO.out.1 HO.out.2 p1 p2 x0 x1 HM.out hM'
        show Ending.returned (.tuple #[insT op (readT (shP op).1 x), .bool true]) = _
        rw [HR.out]; rfl
      · exact absurd HM.out (hno op HO.out.1 HO.out.2)
    have hB := blk_grown HB.out hG
    have hlt := hB.lt
    have HG3 := Lib.hid (grown_trans HG2.out hG)
    have k0 : w3.cell? ⟨w1.heap.size, 0, none⟩ = some (.int .i64 op) := hB.cell' (i := 0) rfl
    have k1 : w3.cell? ⟨w1.heap.size, 1, none⟩ = some (.int .i64 rd) := hB.cell' (i := 1) rfl
    have k2 : w3.cell? ⟨w1.heap.size, 2, none⟩ = some (.int .i64 rs1) := hB.cell' (i := 2) rfl
    have k3 : w3.cell? ⟨w1.heap.size, 3, none⟩ = some (.int .i64 rs2) := hB.cell' (i := 3) rfl
    have k4 : w3.cell? ⟨w1.heap.size, 4, none⟩ = some (.int .i64 imm) := hB.cell' (i := 4) rfl
    clear hG hB hD
    go_wp2
    go_ret
    exact ⟨rfl, HG3.out.alloc _ _⟩
  · go_wp2
    go_ret
    exact ⟨rfl, HG2.out⟩
set_option maxRecDepth 100000 in
set_option maxHeartbeats 1000000 in
theorem back_walk (x : Int) (x0 : 0 ≤ x) (x1 : x < 4294967296) (w : World) (hT : Tab w) (hC : CodeAt w 0 codeL) :
    Calls Tryd.prog 7 #[.int .u32 x] w fun e w' => e = .returned (.bool true) ∧ Grown w w' := by
  have HT := Lib.hid hT; have HC := Lib.hid hC
  clear hT hC
  go_enter Tryd.func7, Tryd.ntmps7
  go_wp2_with fail
  refine (decode_any 19 (by decide) (by decide) _ HT.out HC.out).mono ?_
  rintro e w1 ⟨hD, hG⟩
  obtain ⟨t0, t1, t2, t3, t4, rfl⟩ : ∃ t0 t1 t2 t3 t4, e = .returned (.tuple #[.agg #[.int .i64 t0, .int .i64 t1, .int .i64 t2, .int .i64 t3, .int .i64 t4], .bool true]) := by
    rcases hD with ⟨op', p1, p2, hM', rfl⟩ | ⟨hno, rfl⟩
    · exact ⟨_, _, _, _, _, rfl⟩
    · exact absurd (by unfold Mt; kernel_rfl) (hno 19 (by decide) (by decide))
  have HG1 := Lib.hid (grown_trans hG ((Grown.refl w1).alloc #[.int .i64 t0, .int .i64 t1, .int .i64 t2, .int .i64 t3, .int .i64 t4] 25))
  clear hG hD
  go_wp2_with fail
  refine (decode_any x x0 x1 _ (HT.out.grown HG1.out) (code_grown HC.out HG1.out)).mono ?_
  rintro e w2 ⟨hD, hG⟩
  have HG2 := Lib.hid (grown_trans HG1.out hG)
  clear hG
  rcases hD with ⟨op, o1, o2, hM, heq⟩ | ⟨hno, rfl⟩
  · obtain ⟨t, ht, rfl⟩ : ∃ t, t = readT (shP op).1 x ∧ e = .returned (.tuple #[.agg #[.int .i64 op, .int .i64 t.1, .int .i64 t.2.1, .int .i64 t.2.2.1, .int .i64 t.2.2.2], .bool true]) := ⟨_, rfl, heq⟩
    obtain ⟨f0, f1, -, hk, v0, v1⟩ := forms_at op o1 o2
    obtain ⟨ho, hv⟩ := dec_back _ _ x f0 f1 hk v0 v1 x0 x1 ((mt_arith op o1 o2 x x0 x1).1 hM)
    obtain ⟨⟨d0, d1⟩, ⟨a0, a1⟩, ⟨b0, b1⟩⟩ := read_rg (shP op).1 x f0 f1
    have he := fun W hW => encode_ok op _ _ _ _ o1 o2 d0 d1 a0 a1 b0 b1 ho W hW
    rw [hv, ← ht] at he
    have HE := Lib.hid he
    clear ho hv hM he d0 d1 a0 a1 b0 b1 f0 f1 hk v0 v1 ht
    go_wp2_with fail
    refine (HE.out _ (HT.out.grown (HG2.out.alloc _ _))).mono ?_
    rintro e w3 ⟨rfl, hG⟩
    have HG3 := Lib.hid (grown_trans (HG2.out.alloc _ _) hG)
    clear hG
    go_wp2
    go_ret
    exact ⟨rfl, HG3.out⟩
  · unfold ins
    go_wp2
    go_ret
    exact ⟨rfl, HG2.out.alloc _ _⟩
end Go.Proofs.YtlhmdcehmphiaaaDoor
