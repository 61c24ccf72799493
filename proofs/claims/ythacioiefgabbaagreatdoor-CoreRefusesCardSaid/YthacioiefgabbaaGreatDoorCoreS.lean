import Derived.Test.YthacioiefgabbaaGreatDoorRows
import Derived.Test.YthacioiefgabbaaGreatDoorTold
import Derived.LaidHandle
import Derived.Test.YthacioiefgabbaaGreatDoorCoreR
import Derived.WalkKit
import Derived.ProofKit
import Derived.OpenShut
import Derived.Deep.Slices
import Derived.ChangeMaps5
import Derived.LaidMore
/- Part He of the proofs over 'rename': the handle of the type 'error', out of the card's condition. -/
namespace Go.Proofs.YthacioiefgabbaaGreatDoor
open Go.RowKit Go.XHeap
set_option linter.unusedVariables false

theorem hE_of_laid {w : World} (hh : handlesMet Tryz.prog [("errors.errorType", Rows.laid_errors_errorType)] w) : w.cell? ⟨0, 0, none⟩ = some (.iface 164 (.agg #[.pointer (some ⟨4, 40, none⟩)])) := by
  obtain ⟨name, u, ty, e1, e2, hlt, hrow, hv⟩ : ∃ name u ty, DataW.handleName? (Rows.laid_errors_errorType (H := Unit)) = some name ∧ (Tryz.prog.cutTypes.find? (·.1 == "internal/reflectlite.rtype")).map (·.2) = some u ∧ ty < Tryz.prog.types.size ∧ Tryz.prog.rowNamed ty name = true ∧
      w.var? Tryz.prog "errors.errorType" = some #[.iface u (.agg #[typeHandle Tryz.prog ty])] := hh _ (.head _)
  have f1 : DataW.handleName? (Rows.laid_errors_errorType (H := Unit)) = some [101, 114, 114, 111, 114] := by kernel_rfl
  have f2 : (Tryz.prog.cutTypes.find? (·.1 == "internal/reflectlite.rtype")).map (·.2) = some 164 := by kernel_rfl
  have f3 : (List.range Tryz.prog.types.size).all (fun t => !Tryz.prog.rowNamed t [101, 114, 114, 111, 114] || t == 40) = true := by kernel_rfl
  have f4 : Tryz.prog.globalNamed "errors.errorType" = some 0 := by kernel_rfl
  have f5 : typeHandle Tryz.prog 40 = .pointer (some ⟨4, 40, none⟩) := by kernel_rfl
  obtain rfl := Option.some.inj (f1.symm.trans e1)
  obtain rfl := Option.some.inj (f2.symm.trans e2)
  have h25 : ty = 40 := by
    have := List.all_eq_true.1 f3 ty (List.mem_range.2 hlt)
    simpa [hrow] using this
  subst h25
  rw [f5] at hv
  unfold World.var? at hv
  rw [f4] at hv
  simp only [Option.bind_some] at hv
  unfold World.cell?
  cases hb : w.heap[0]? with
  | none => rw [hb] at hv; simp at hv
  | some o =>
    rw [hb] at hv
    cases o with
    | cells cs t fr => simp at hv; subst hv; simp
    | _ => simp at hv
end Go.Proofs.YthacioiefgabbaaGreatDoor
/- What the card's condition lays, and the law's struct opened. No condition. -/
namespace Go.Proofs.YthacioiefgabbaaGreatDoor
open Go.ChangeShapes Go.WideShapes Go.ChangeAt Go.RowKit Go.Deep Go.XHeap
set_option linter.unusedVariables false
set_option maxRecDepth 100000

theorem code_of_laid {W : World} {l : List (String × DataW Unit)} (h : laidMet Tryz.prog l W) (h0 : ("oocore/isa.byCode", Rows.laid_oocore_isa_byCode) ∈ l) : CodeAt W 1 codeL :=
  codeAt_of (g := 1) (t := 419) (n := 128) (by kernel_rfl) (by kernel_rfl) Tryz.underlying419 (code_eq ▸ Lib.laidMet.reads h h0)
theorem list15 {α : Type} {l : List α} (h : l.length = 15) : ∃ a b c d e f g h' i j k m n o p, l = [a, b, c, d, e, f, g, h', i, j, k, m, n, o, p] := by
  match l, h with
  | [a, b, c, d, e, f, g, h', i, j, k, m, n, o, p], _ => exact ⟨a, b, c, d, e, f, g, h', i, j, k, m, n, o, p, rfl⟩
section
variable {H : Type} {enc : TypeId × Value → H} {W : World}
theorem one1 : Tryz.prog.cellsOf 3 = 1 := by kernel_rfl
theorem one4 : Tryz.prog.cellsOf 4 = 1 := by kernel_rfl
theorem fld_int {n o : Nat} {l : List Value} {v : Value} {y : Option (DataW H × List MemPlace)} (h : DataW.trod enc Tryz.prog W 0 (fun _ => true) true n 3 ((l.drop o).take (Tryz.prog.cellsOf 3)) = y) (hy : y.isSome) (hl : (l.drop o).take 1 = [v]) : ∃ z, v = .int .i64 z ∧ I64 z := by
  obtain ⟨y, rfl⟩ := Option.isSome_iff_exists.1 hy
  rw [one1, hl] at h
  obtain ⟨z, h1, -, hw⟩ := DataW.trod_int Tryz.underlying3 h
  have : -9223372036854775808 ≤ z ∧ z ≤ 9223372036854775807 := by simpa [Lit.wf, IntKind.min, IntKind.max, IntKind.signed, IntKind.bits] using hw
  exact ⟨z, by simpa using h1, this.1, this.2⟩
theorem fld_bool {n o : Nat} {l : List Value} {v : Value} {y : Option (DataW H × List MemPlace)} (h : DataW.trod enc Tryz.prog W 0 (fun _ => true) true n 4 ((l.drop o).take (Tryz.prog.cellsOf 4)) = y) (hy : y.isSome) (hl : (l.drop o).take 1 = [v]) : ∃ z, v = .bool z := by
  obtain ⟨y, rfl⟩ := Option.isSome_iff_exists.1 hy
  rw [one4, hl] at h
  obtain ⟨z, h1, -⟩ := DataW.trod_bool Tryz.underlying4 h
  exact ⟨z, by simpa using h1⟩
theorem su_of {cs : Array Value} {fuel : Nat} {x : DataW H × List MemPlace} (hsz : cs.size = Tryz.prog.cellsOf 23) (h : DataW.trod enc Tryz.prog W 0 (fun _ => true) true fuel 23 cs.toList = some x) : ∃ s : Su, s.rng ∧ cs = s.cells := by
  have h15 : Tryz.prog.cellsOf 23 = 15 := by kernel_rfl
  obtain ⟨xs, n, -, -, -, hlen, hf⟩ := DataW.trod_struct Tryz.underlying23 h
  obtain ⟨l⟩ := cs
  obtain ⟨c0, c1, c2, c3, c4, c5, c6, c7, c8, c9, c10, c11, c12, c13, c14, rfl⟩ := list15 (l := l) (hsz.trans h15)
  have hlen : xs.length = 15 := hlen
  have some_ : ∀ i, i < 15 → (xs[i]?).isSome := fun i hi => by rw [List.getElem?_eq_getElem (by omega)]; rfl
  obtain ⟨z0, rfl, w0⟩ := fld_int (v := c0) (hf 0 _ rfl) (some_ 0 (by decide)) rfl
  obtain ⟨z1, rfl, w1⟩ := fld_int (v := c1) (hf 1 _ rfl) (some_ 1 (by decide)) rfl
  obtain ⟨z2, rfl, w2⟩ := fld_int (v := c2) (hf 2 _ rfl) (some_ 2 (by decide)) rfl
  obtain ⟨z3, rfl, w3⟩ := fld_int (v := c3) (hf 3 _ rfl) (some_ 3 (by decide)) rfl
  obtain ⟨z4, rfl, w4⟩ := fld_int (v := c4) (hf 4 _ rfl) (some_ 4 (by decide)) rfl
  obtain ⟨z5, rfl, w5⟩ := fld_int (v := c5) (hf 5 _ rfl) (some_ 5 (by decide)) rfl
  obtain ⟨z6, rfl, w6⟩ := fld_int (v := c6) (hf 6 _ rfl) (some_ 6 (by decide)) rfl
  obtain ⟨z7, rfl, w7⟩ := fld_int (v := c7) (hf 7 _ rfl) (some_ 7 (by decide)) rfl
  obtain ⟨z8, rfl, w8⟩ := fld_int (v := c8) (hf 8 _ rfl) (some_ 8 (by decide)) rfl
  obtain ⟨z9, rfl, w9⟩ := fld_int (v := c9) (hf 9 _ rfl) (some_ 9 (by decide)) rfl
  obtain ⟨z10, rfl, w10⟩ := fld_int (v := c10) (hf 10 _ rfl) (some_ 10 (by decide)) rfl
  obtain ⟨z11, rfl, w11⟩ := fld_int (v := c11) (hf 11 _ rfl) (some_ 11 (by decide)) rfl
  obtain ⟨z12, rfl, w12⟩ := fld_int (v := c12) (hf 12 _ rfl) (some_ 12 (by decide)) rfl
  obtain ⟨z13, rfl, w13⟩ := fld_int (v := c13) (hf 13 _ rfl) (some_ 13 (by decide)) rfl
  obtain ⟨b, rfl⟩ := fld_bool (v := c14) (hf 14 _ rfl) (some_ 14 (by decide)) rfl
  exact ⟨⟨z0, z1, z2, z3, z4, z5, z6, z7, z8, z9, z10, z11, z12, z13, b⟩, ⟨w0, w1, w2, w3, w4, w5, w6, w7, w8, w9, w10, w11, w12, w13⟩, rfl⟩
end
end Go.Proofs.YthacioiefgabbaaGreatDoor
