/- Part N: the law of decoding. -/
import Derived.Test.YtlhmdcehmphiaaaDoorM
import Derived.Deep.RegionHeld3
import Derived.Laws.StructEq
namespace Go.Proofs.YtlhmdcehmphiaaaDoor
open Go.RowKit Go.XHeap
set_option linter.unusedVariables false

theorem instr_ag (op a b c d : Int) (w : World) : Calls Tryd.prog 10 #[.agg #[.int .i64 op, .int .i64 a, .int .i64 b, .int .i64 c, .int .i64 d]] w fun e w' => e = .returned (.agg #[.int .i64 op, .int .i64 a, .int .i64 b, .int .i64 c, .int .i64 d]) ∧ Grown w w' := instr_any op a b c d w
set_option maxRecDepth 20000 in
set_option maxHeartbeats 1000000 in
theorem decodes_walk (x : Int) (hx0 : 0 ≤ x) (hx1 : x < 4294967296) (w : World) (hT : Tab w) (hC : CodeAt w 0 codeL) : Calls Tryd.prog 3 #[.int .u32 x] w fun e w' => e = .returned (.bool true) ∧ Grown w w' := by
  have HD := Lib.hid (decode_any x hx0 hx1 w hT hC)
  clear hT hC
  go_enter Tryd.func3, Tryd.ntmps3
  go_wp2_with fail
  refine (HD.out).mono ?_
  rintro e w1 ⟨hD, hG1⟩
  have HG1 := Lib.hid hG1
  clear hG1
  obtain ⟨op, a, b, c, d, ok, rfl, HX⟩ : ∃ op a b c d ok, e = .returned (.tuple #[ins op a b c d, .bool ok]) ∧ Hid ((ok = true ∧ 1 ≤ op ∧ op ≤ 67 ∧ Mt op x ∧ (a, b, c, d) = readT (shP op).1 x) ∨ (ok = false ∧ (∀ op : Int, 1 ≤ op → op ≤ 67 → ¬ Mt op x) ∧ op = 0 ∧ (a, b, c, d) = (0, 0, 0, 0))) := by
    rcases hD with ⟨op, o1, o2, hM, rfl⟩ | ⟨hno, rfl⟩
    · exact ⟨_, _, _, _, _, _, rfl, Lib.hid (.inl ⟨rfl, o1, o2, hM, rfl⟩)⟩
    · exact ⟨_, _, _, _, _, _, rfl, Lib.hid (.inr ⟨rfl, hno, rfl, rfl⟩)⟩
  unfold ins
  go_wp2_with fail
  refine (rdecode_any x hx0 hx1 _).mono ?_
  rintro e w2 ⟨hD, hG2⟩
  have HG2 := Lib.hid hG2
  clear hG2
  obtain rfl : e = .returned (.tuple #[ins op a b c d, .bool ok]) := by
    rcases hD with ⟨op', p1, p2, hM', rfl⟩ | ⟨hno, rfl⟩
    · rcases HX.out with ⟨rfl, o1, o2, hM, hr⟩ | ⟨rfl, hno, rfl, hr⟩
      · obtain rfl := mt_one o1 o2 p1 p2 hx0 hx1 hM hM'
        rw [fields_eq op o1 o2 x hx0 hx1 hM] at hr
        show Ending.returned (.tuple #[insT op (fieldsT (rF op) x), .bool true]) = _
        rw [← hr]; rfl
      · exact absurd hM' (hno op' p1 p2)
    · rcases HX.out with ⟨rfl, o1, o2, hM, hr⟩ | ⟨rfl, hno', rfl, hr⟩
      · exact absurd hM (hno op o1 o2)
      · cases hr; rfl
  clear hD
  unfold ins
  have HG0 := Lib.hid (grown_trans (grown_trans HG1.out ((Grown.refl w1).alloc #[.int .i64 op, .int .i64 a, .int .i64 b, .int .i64 c, .int .i64 d] 25)) HG2.out)
  have hB := blk_grown (Blk.new w1 #[.int .i64 op, .int .i64 a, .int .i64 b, .int .i64 c, .int .i64 d] 25) HG2.out
  have k0 : w2.cell? ⟨w1.heap.size, 0, none⟩ = some (.int .i64 op) := hB.cell' (i := 0) rfl
  have k1 : w2.cell? ⟨w1.heap.size, 1, none⟩ = some (.int .i64 a) := hB.cell' (i := 1) rfl
  have k2 : w2.cell? ⟨w1.heap.size, 2, none⟩ = some (.int .i64 b) := hB.cell' (i := 2) rfl
  have k3 : w2.cell? ⟨w1.heap.size, 3, none⟩ = some (.int .i64 c) := hB.cell' (i := 3) rfl
  have k4 : w2.cell? ⟨w1.heap.size, 4, none⟩ = some (.int .i64 d) := hB.cell' (i := 4) rfl
  have hlt := hB.lt
  clear hB
  cases ok
  all_goals
    go_wp2_with fail
    go_region_held3 (fun w' => w'.cell? ⟨w1.heap.size, 0, none⟩ = some (.int .i64 op) ∧ w'.cell? ⟨w1.heap.size, 1, none⟩ = some (.int .i64 a) ∧ w'.cell? ⟨w1.heap.size, 2, none⟩ = some (.int .i64 b) ∧ w'.cell? ⟨w1.heap.size, 3, none⟩ = some (.int .i64 c) ∧ w'.cell? ⟨w1.heap.size, 4, none⟩ = some (.int .i64 d) ∧
      w'.cell? ⟨w2.heap.size, 0, none⟩ = some (.int .i64 op) ∧ w'.cell? ⟨w2.heap.size, 1, none⟩ = some (.int .i64 a) ∧ w'.cell? ⟨w2.heap.size, 2, none⟩ = some (.int .i64 b) ∧ w'.cell? ⟨w2.heap.size, 3, none⟩ = some (.int .i64 c) ∧ w'.cell? ⟨w2.heap.size, 4, none⟩ = some (.int .i64 d) ∧ Hid (Grown w w'))
      (first
        | (go_split_ands; exact ⟨grown_cell hg (by assumption), grown_cell hg (by assumption), grown_cell hg (by assumption), grown_cell hg (by assumption), grown_cell hg (by assumption), grown_cell hg (by assumption), grown_cell hg (by assumption), grown_cell hg (by assumption), grown_cell hg (by assumption), grown_cell hg (by assumption), Lib.hid (grown_trans (Hid.out (by assumption)) hg)⟩)
        | (have hg1 := ((Grown.refl w2).alloc #[.int .i64 op, .int .i64 a, .int .i64 b, .int .i64 c, .int .i64 d] 29).drew; exact ⟨grown_cell hg1 k0, grown_cell hg1 k1, grown_cell hg1 k2, grown_cell hg1 k3, grown_cell hg1 k4, World.cell?_alloc_new _ _ _ 0, World.cell?_alloc_new _ _ _ 1, World.cell?_alloc_new _ _ _ 2, World.cell?_alloc_new _ _ _ 3, World.cell?_alloc_new _ _ _ 4, Lib.hid (grown_trans HG0.out hg1)⟩))
      ((first | (go_at_call 10; refine (instr_ag op a b c d _).mono ?_; rintro e w' ⟨rfl, hg⟩)))
    all_goals go_wp2
    rename_i hS
    go_ret
    exact ⟨rfl, hS.2.2.2.2.2.2.2.2.2.2.out⟩
theorem code_of_laid {W : World} {l : List (String × DataW Unit)} (h : laidMet Tryd.prog l W) (h0 : ("oocore/isa.byCode", Rows.laid_oocore_isa_byCode) ∈ l) : CodeAt W 0 codeL :=
  codeAt_of (g := 0) (t := 47) (n := 128) (by kernel_rfl) (by kernel_rfl) Tryd.underlying47 (code_eq ▸ Lib.laidMet.reads h h0)
end Go.Proofs.YtlhmdcehmphiaaaDoor
