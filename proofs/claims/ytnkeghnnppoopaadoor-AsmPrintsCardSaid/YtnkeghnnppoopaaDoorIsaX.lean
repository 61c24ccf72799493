/- Part X: encoding, of the document. -/
import Derived.Test.YtnkeghnnppoopaaDoorIsaW
namespace Go.Proofs.YtnkeghnnppoopaaDoor
open Go.RowKit Go.XHeap
set_option linter.unusedVariables false

def Rng (op rd rs1 rs2 : Int) : Prop := 1 ≤ op ∧ op ≤ 67 ∧ 0 ≤ rd ∧ rd ≤ 31 ∧ 0 ≤ rs1 ∧ rs1 ≤ 31 ∧ 0 ≤ rs2 ∧ rs2 ≤ 31
set_option maxRecDepth 100000 in
set_option maxHeartbeats 1000000 in
theorem rencode_bad (op rd rs1 rs2 imm : Int) (h : ¬ Rng op rd rs1 rs2) (w : World) : Calls Tryd.prog 11 #[.agg #[.int .i64 op, .int .i64 rd, .int .i64 rs1, .int .i64 rs2, .int .i64 imm]] w (EncN w) := by
  have HH := Lib.hid h
  clear h
  go_enter Tryd.func11, Tryd.ntmps11
  go_wp2_with fail
  all_goals first
    | (go_ret2; exact ⟨rfl, (Grown.refl _).alloc _ _⟩)
    | (exact absurd (by unfold Rng; omega) HH.out)
theorem fixedIs_unfold {a b : Int} {w w' : World} {e : Ending} (h : FixedIs a b w e w') : e = .returned (.tuple #[.int .u32 a, .int .u32 b]) ∧ Grown w w' := h
theorem neq_run (A B : Array Value) (a0 a1 a2 a3 a4 b0 b1 b2 b3 b4 : Int) (hA : A = #[.int .i64 a0, .int .i64 a1, .int .i64 a2, .int .i64 a3, .int .i64 a4]) (hB : B = #[.int .i64 b0, .int .i64 b1, .int .i64 b2, .int .i64 b3, .int .i64 b4]) (h : ¬ (a0 = b0 ∧ a1 = b1 ∧ a2 = b2 ∧ a3 = b3 ∧ a4 = b4)) (w : World) :
    (binOp .neq 28 (.agg A) (.agg B)).run Tryd.prog w = .ok (.bool true) w := by
  subst hA hB
  by_cases h0 : a0 = b0
  · by_cases h1 : a1 = b1
    · by_cases h2 : a2 = b2
      · by_cases h3 : a3 = b3
        · have h4 : ¬ a4 = b4 := fun h4 => h ⟨h0, h1, h2, h3, h4⟩
          have e4 : (a4 == b4) = false := by simpa using h4
          subst h0 h1 h2 h3
          simp [go_sem, e4]
        · have e3 : (a3 == b3) = false := by simpa using h3
          subst h0 h1 h2
          simp [go_sem, e3]
      · have e2 : (a2 == b2) = false := by simpa using h2
        subst h0 h1
        simp [go_sem, e2]
    · have e1 : (a1 == b1) = false := by simpa using h1
      subst h0
      simp [go_sem, e1]
  · have e0 : (a0 == b0) = false := by simpa using h0
    simp [go_sem, e0]
theorem pair_in (op : Int) (h1 : 1 ≤ op) (h2 : op ≤ 67) : ((shP op).1, rF op) ∈ ((10, 75) :: pairsL) := by
  by_cases h46 : op = 46
  · subst h46
    obtain ⟨p1, p2, -, -⟩ := pair46
    rw [p1, p2]; exact .head _
  · have h := List.all_eq_true.1 pairs_ok (op.toNat - 1) (List.mem_range.2 (by omega))
    have e : ((op.toNat - 1 + 1 : Nat) : Int) = op := by omega
    rw [e] at h
    simp only [Bool.or_eq_true, beq_iff_eq] at h
    rcases h with h | h
    · omega
    · exact List.mem_cons_of_mem _ (List.contains_iff_mem.1 h)
def RInP (op rd rs1 rs2 imm : Int) (w : World) (e : Ending) (w' : World) : Prop :=
  ((okF (shP op).1 rd rs1 rs2 imm ∧ e = .returned (.tuple #[.int .u32 ((shP op).2.2 + fldF (shP op).1 rd rs1 rs2 imm), .bool true])) ∨ (¬ okF (shP op).1 rd rs1 rs2 imm ∧ e = .returned (.tuple #[.int .u32 0, .bool false]))) ∧ Grown w w'
set_option maxRecDepth 100000 in
set_option maxHeartbeats 2000000 in
theorem rencode_in (op rd rs1 rs2 imm : Int) (h : Rng op rd rs1 rs2) (w : World) : Calls Tryd.prog 11 #[.agg #[.int .i64 op, .int .i64 rd, .int .i64 rs1, .int .i64 rs2, .int .i64 imm]] w (RInP op rd rs1 rs2 imm w) := by
  obtain ⟨o1, o2, d0, d1, a0, a1, b0, b1⟩ := h
  have HG0 := Lib.hid ((Grown.refl w).alloc #[.int .i64 op, .int .i64 rd, .int .i64 rs1, .int .i64 rs2, .int .i64 imm] 28)
  obtain ⟨f0, f1, -, hk, v0, v1⟩ := forms_at op o1 o2
  have sb := spF_bd (rF op) rd rs1 rs2 imm d0 (by omega) a0 (by omega) b0 (by omega)
  have HFX := Lib.hid (fun W => fixed_op op o1 o2 W)
  have HSP := Lib.hid (fun W => spread_any op o1 o2 op rd rs1 rs2 imm d0 (by omega) a0 (by omega) b0 (by omega) W)
  have HK := Lib.hid hk
  have HF := Lib.hid (And.intro f0 f1)
  clear f0 f1 hk
  go_enter Tryd.func11, Tryd.ntmps11
  go_wp2_with fail
  refine (rows_made _).mono ?_
  rintro e w1 ⟨b, rfl, hR, hG⟩
  obtain ⟨c0, c1, c2, c3, c4⟩ := hR op o1 o2
  have hB := blk_grown (Blk.new w #[.int .i64 op, .int .i64 rd, .int .i64 rs1, .int .i64 rs2, .int .i64 imm] 28) hG
  have k0 : w1.cell? ⟨w.heap.size, 0, none⟩ = some (.int .i64 op) := hB.cell' (i := 0) rfl
  have hlt := hB.lt
  have HB := Lib.hid hB
  have HG1 := Lib.hid (grown_trans HG0.out hG)
  clear hR hG hB
  go_wp2_with fail
  refine (HFX.out _).mono ?_
  rintro e w2 ⟨rfl, hG⟩
  have hB2 := blk_grown HB.out (grown_trans ((Grown.refl w1).alloc _ _) hG)
  have hR2 := blk_grown (Blk.new w1 #[.string (rowAt op).1, .int .u8 (rF op), .int .i64 (rC op), .int .i64 (rA op), .int .i64 (rG op)] 44) hG
  have HG2 := Lib.hid (grown_trans (HG1.out.alloc #[.string (rowAt op).1, .int .u8 (rF op), .int .i64 (rC op), .int .i64 (rA op), .int .i64 (rG op)] 44) hG)
  clear c0 c1 c2 c3 c4 k0
  have k0 : w2.cell? ⟨w.heap.size, 0, none⟩ = some (.int .i64 op) := hB2.cell' (i := 0) rfl
  have k1 : w2.cell? ⟨w.heap.size, 1, none⟩ = some (.int .i64 rd) := hB2.cell' (i := 1) rfl
  have k2 : w2.cell? ⟨w.heap.size, 2, none⟩ = some (.int .i64 rs1) := hB2.cell' (i := 2) rfl
  have k3 : w2.cell? ⟨w.heap.size, 3, none⟩ = some (.int .i64 rs2) := hB2.cell' (i := 3) rfl
  have k4 : w2.cell? ⟨w.heap.size, 4, none⟩ = some (.int .i64 imm) := hB2.cell' (i := 4) rfl
  have c0 : w2.cell? ⟨w1.heap.size, 0, none⟩ = some (.string (rowAt op).1) := hR2.cell' (i := 0) rfl
  have c1 : w2.cell? ⟨w1.heap.size, 1, none⟩ = some (.int .u8 (rF op)) := hR2.cell' (i := 1) rfl
  have c2 : w2.cell? ⟨w1.heap.size, 2, none⟩ = some (.int .i64 (rC op)) := hR2.cell' (i := 2) rfl
  have c3 : w2.cell? ⟨w1.heap.size, 3, none⟩ = some (.int .i64 (rA op)) := hR2.cell' (i := 3) rfl
  have c4 : w2.cell? ⟨w1.heap.size, 4, none⟩ = some (.int .i64 (rG op)) := hR2.cell' (i := 4) rfl
  have HB2 := Lib.hid hB2
  clear hG hB2 hR2
  go_wp2_with fail
  refine (HSP.out _).mono ?_
  rintro e w3 ⟨rfl, hG⟩
  have HG3 := Lib.hid (grown_trans HG2.out hG)
  have HB3 := Lib.hid (blk_grown HB2.out hG)
  clear hG c0 c1 c2 c3 c4 k0 k1 k2 k3 k4
  go_wp2_with fail
  have hx0 : 0 ≤ bits BinOp.or IntKind.u32 (shP op).2.2 (spF (rF op) rd rs1 rs2 imm) := by
    rw [u32_or _ _ v0 v1 sb.1 sb.2]; omega
  have hx1 : bits BinOp.or IntKind.u32 (shP op).2.2 (spF (rF op) rd rs1 rs2 imm) < 4294967296 := by
    rw [u32_or _ _ v0 v1 sb.1 sb.2]
    have : (shP op).2.2.toNat ||| (spF (rF op) rd rs1 rs2 imm).toNat < 2 ^ 32 := Nat.or_lt_two_pow (by omega) (by omega)
    omega
  have hxo : okF (shP op).1 rd rs1 rs2 imm → bits BinOp.or IntKind.u32 (shP op).2.2 (spF (rF op) rd rs1 rs2 imm) = (shP op).2.2 + fldF (shP op).1 rd rs1 rs2 imm := fun ho => by
    rw [spF_ok _ _ (pair_in op o1 o2) rd rs1 rs2 imm ho]
    exact (fld_bd op rd rs1 rs2 imm o1 o2 d0 (by omega) a0 (by omega) b0 (by omega) ho).2.2.2.2.2
  have HXO := Lib.hid hxo
  clear hxo
  generalize bits BinOp.or IntKind.u32 (shP op).2.2 (spF (rF op) rd rs1 rs2 imm) = x at *
  refine (rdecode_any x hx0 hx1 _).mono ?_
  rintro e w4 ⟨hD, hG⟩
  have hB4 := blk_grown HB3.out hG
  have hlt4 := hB4.lt
  have k0 : w4.cell? ⟨w.heap.size, 0, none⟩ = some (.int .i64 op) := hB4.cell' (i := 0) rfl
  have k1 : w4.cell? ⟨w.heap.size, 1, none⟩ = some (.int .i64 rd) := hB4.cell' (i := 1) rfl
  have k2 : w4.cell? ⟨w.heap.size, 2, none⟩ = some (.int .i64 rs1) := hB4.cell' (i := 2) rfl
  have k3 : w4.cell? ⟨w.heap.size, 3, none⟩ = some (.int .i64 rs2) := hB4.cell' (i := 3) rfl
  have k4 : w4.cell? ⟨w.heap.size, 4, none⟩ = some (.int .i64 imm) := hB4.cell' (i := 4) rfl
  have HG4 := Lib.hid (grown_trans HG3.out hG)
  clear hG hB4 sb v0 v1
  have HD := Lib.hid hD
  clear hD
  by_cases ho : okF (shP op).1 rd rs1 rs2 imm
  · have hx := HXO.out ho
    subst hx
    obtain ⟨x0, x1, hM, hr, -, -⟩ := fld_bd op rd rs1 rs2 imm o1 o2 d0 (by omega) a0 (by omega) b0 (by omega) ho
    obtain rfl : e = .returned (.tuple #[.agg #[.int .i64 op, .int .i64 rd, .int .i64 rs1, .int .i64 rs2, .int .i64 imm], .bool true]) := by
      rcases HD.out with ⟨op', p1, p2, hM', rfl⟩ | ⟨hno, rfl⟩
      · obtain rfl := mt_one o1 o2 p1 p2 x0 x1 hM hM'
        have e2 := fields_eq op o1 o2 _ x0 x1 hM
        rw [hr] at e2
        show Ending.returned (.tuple #[insT op (fieldsT (rF op) _), .bool true]) = _
        rw [← e2]; rfl
      · exact absurd hM (hno op o1 o2)
    have HO := Lib.hid ho
    clear hM hr hx0 hx1 x0 x1 ho
    generalize hx : (shP op).2.2 + fldF (shP op).1 rd rs1 rs2 imm = x at *
    have HXE := Lib.hid hx
    clear hx
    go_wp2
    go_ret2
    exact ⟨.inl ⟨HO.out, by rw [HXE.out]; rfl⟩, HG4.out.alloc _ _⟩
  · have HN := Lib.hid ho
    obtain ⟨op', a, b', c, d, ok, rfl, HX⟩ : ∃ op' a b' c d ok, e = .returned (.tuple #[.agg #[.int .i64 op', .int .i64 a, .int .i64 b', .int .i64 c, .int .i64 d], .bool ok]) ∧ Hid (ok = true → ¬ (op' = op ∧ a = rd ∧ b' = rs1 ∧ c = rs2 ∧ d = imm)) := by
      rcases HD.out with ⟨op', p1, p2, hM', rfl⟩ | ⟨hno, rfl⟩
      · refine ⟨op', _, _, _, _, true, rfl, Lib.hid fun _ hh => ho ?_⟩
        obtain ⟨rfl, h1, h2, h3, h4⟩ := hh
        have hA := (mt_arith op' p1 p2 x hx0 hx1).1 hM'
        obtain ⟨f0, f1, -, hk, v0, v1⟩ := forms_at op' p1 p2
        have := (dec_back _ _ x f0 f1 hk v0 v1 hx0 hx1 hA).1
        rw [fields_eq op' p1 p2 x hx0 hx1 hM', h1, h2, h3, h4] at this
        exact this
      · exact ⟨_, _, _, _, _, false, rfl, Lib.hid fun h => by cases h⟩
    clear HD ho
    cases ok
    · go_wp2
      go_ret2
      exact ⟨.inr ⟨HN.out, rfl⟩, HG4.out.alloc _ _⟩
    · have hneq := neq_run _ _ op' a b' c d op rd rs1 rs2 imm rfl rfl (HX.out rfl)
      go_wp2
      go_ret2
      exact ⟨.inr ⟨HN.out, rfl⟩, HG4.out.alloc _ _⟩
/-- the two encodings agree, whatever the instruction -/
theorem enc_same (op rd rs1 rs2 imm : Int) (m0 : -9223372036854775808 ≤ imm) (m1 : imm ≤ 9223372036854775807) : ∃ y ok,
    (∀ W, Tab W → Calls Tryd.prog 6 #[.agg #[.int .i64 op, .int .i64 rd, .int .i64 rs1, .int .i64 rs2, .int .i64 imm]] W fun e w' => e = .returned (.tuple #[.int .u32 y, .bool ok]) ∧ Grown W w') ∧
    (∀ W, Calls Tryd.prog 11 #[.agg #[.int .i64 op, .int .i64 rd, .int .i64 rs1, .int .i64 rs2, .int .i64 imm]] W fun e w' => e = .returned (.tuple #[.int .u32 y, .bool ok]) ∧ Grown W w') ∧
    ((ok = true ∧ Rng op rd rs1 rs2 ∧ okF (shP op).1 rd rs1 rs2 imm ∧ y = (shP op).2.2 + fldF (shP op).1 rd rs1 rs2 imm) ∨ (ok = false ∧ y = 0 ∧ ¬ (Rng op rd rs1 rs2 ∧ okF (shP op).1 rd rs1 rs2 imm))) := by
  by_cases hr : Rng op rd rs1 rs2
  · obtain ⟨o1, o2, d0, d1, a0, a1, b0, b1⟩ := id hr
    by_cases ho : okF (shP op).1 rd rs1 rs2 imm
    · refine ⟨_, true, fun W hT => encode_ok op rd rs1 rs2 imm o1 o2 d0 (by omega) a0 (by omega) b0 (by omega) ho W hT, fun W => (rencode_in op rd rs1 rs2 imm hr W).mono ?_, .inl ⟨rfl, hr, ho, rfl⟩⟩
      rintro e w' ⟨⟨-, rfl⟩ | ⟨hn, rfl⟩, hg⟩
      · exact ⟨rfl, hg⟩
      · exact absurd ho hn
    · refine ⟨0, false, fun W hT => encode_no op rd rs1 rs2 imm o1 o2 d0 (by omega) a0 (by omega) b0 (by omega) m0 m1 ho W hT, fun W => (rencode_in op rd rs1 rs2 imm hr W).mono ?_, .inr ⟨rfl, rfl, fun h => ho h.2⟩⟩
      rintro e w' ⟨⟨h, rfl⟩ | ⟨hn, rfl⟩, hg⟩
      · exact absurd h ho
      · exact ⟨rfl, hg⟩
  · refine ⟨0, false, fun W hT => ?_, fun W => rencode_bad op rd rs1 rs2 imm hr W, .inr ⟨rfl, rfl, fun h => hr h.1⟩⟩
    by_cases h1 : op ≤ 0 ∨ 68 ≤ op
    · exact encode_op op rd rs1 rs2 imm h1 W
    · exact encode_reg op rd rs1 rs2 imm (by omega) (by omega) (by unfold Rng at hr; omega) W
end Go.Proofs.YtnkeghnnppoopaaDoor
