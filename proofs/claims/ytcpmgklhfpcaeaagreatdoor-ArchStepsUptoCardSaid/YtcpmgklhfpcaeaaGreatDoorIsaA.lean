/- Part A of the proofs over 'isa': the tables, as the row lists them. -/
import Derived.Test.YtcpmgklhfpcaeaaGreatDoorRows
import Derived.WalkKit
import Derived.ProofKit
import Derived.OpenShut
import Derived.LaidMore
import Derived.Lib.LaidU8
import Derived.Lib.Hide
namespace Go.Proofs.YtcpmgklhfpcaeaaGreatDoor
open Go.RowKit
set_option linter.unusedVariables false
set_option maxRecDepth 100000

def earlyL : List (Int × Int × Int) := [(0, 0, 0), (1, 127, 55), (1, 127, 23), (2, 127, 111), (4, 28799, 103), (3, 28799, 99), (3, 28799, 4195), (3, 28799, 16483), (3, 28799, 20579), (3, 28799, 24675), (3, 28799, 28771), (4, 28799, 3), (4, 28799, 4099), (4, 28799, 8195), (4, 28799, 16387), (4, 28799, 20483), (5, 28799, 35), (5, 28799, 4131), (5, 28799, 8227), (6, 28799, 19), (6, 28799, 8211), (6, 28799, 12307), (6, 28799, 16403), (6, 28799, 24595), (6, 28799, 28691), (7, 4261441663, 4115), (7, 4261441663, 20499), (7, 4261441663, 1073762323)]
def lateL : List (Int × Int × Int) := [(8, 4261441663, 51), (8, 4261441663, 1073741875), (8, 4261441663, 4147), (8, 4261441663, 8243), (8, 4261441663, 12339), (8, 4261441663, 16435), (8, 4261441663, 20531), (8, 4261441663, 1073762355), (8, 4261441663, 24627), (8, 4261441663, 28723), (8, 4261441663, 33554483), (8, 4261441663, 33558579), (8, 4261441663, 33562675), (8, 4261441663, 33566771), (8, 4261441663, 33570867), (8, 4261441663, 33574963), (8, 4261441663, 33579059), (8, 4261441663, 33583155), (10, 4193284223, 268443695), (9, 4160778367, 402661423), (9, 4160778367, 134225967), (9, 4160778367, 8239), (9, 4160778367, 536879151), (9, 4160778367, 1610620975), (9, 4160778367, 1073750063), (9, 4160778367, 2147491887), (9, 4160778367, 2684362799), (9, 4160778367, 3221233711), (9, 4160778367, 3758104623), (11, 4027580415, 15), (0, 4294967295, 115), (0, 4294967295, 1048691), (0, 4294967295, 807403635), (0, 4294967295, 273678451), (12, 28799, 4211), (12, 28799, 8307), (12, 28799, 12403), (13, 28799, 20595), (13, 28799, 24691), (13, 28799, 28787)]
def codeL : List (List Int) := [[], [], [], [11, 12, 13, 14, 15], [], [], [], [], [], [], [], [], [], [], [], [57], [], [], [], [19, 20, 21, 22, 23, 24, 25, 26, 27], [], [], [], [2], [], [], [], [], [], [], [], [], [], [], [], [16, 17, 18], [], [], [], [], [], [], [], [], [], [], [], [46, 47, 48, 49, 50, 51, 52, 53, 54, 55, 56], [], [], [], [28, 29, 30, 31, 32, 33, 34, 35, 36, 37, 38, 39, 40, 41, 42, 43, 44, 45], [], [], [], [1], [], [], [], [], [], [], [], [], [], [], [], [], [], [], [], [], [], [], [], [], [], [], [], [], [], [], [], [], [], [], [], [], [], [], [], [], [], [], [], [], [], [], [], [5, 6, 7, 8, 9, 10], [], [], [], [4], [], [], [], [], [], [], [], [3], [], [], [], [58, 59, 60, 61, 62, 63, 64, 65, 66, 67], [], [], [], [], [], [], [], [], [], [], [], []]
def triD {H : Type} (x : Int × Int × Int) : DataW H := .agg [.lit (.int .i64 x.1), .lit (.int .u32 x.2.1), .lit (.int .u32 x.2.2)]
def codeD {H : Type} (l : List Int) : DataW H := if l.isEmpty then .nil else .slice (l.map fun n => .lit (.int .i64 n)) []
theorem early_eq {H : Type} : (Rows.laid_oocore_isa_early : DataW H) = .agg (earlyL.map triD) := by kernel_rfl
theorem late_eq {H : Type} : (Rows.laid_oocore_isa_late : DataW H) = .agg (lateL.map triD) := by kernel_rfl
theorem code_eq {H : Type} : (Rows.laid_oocore_isa_byCode : DataW H) = .agg (codeL.map codeD) := by kernel_rfl
theorem cells150 : Tryz.prog.cellsOf 150 = 3 := by kernel_rfl
theorem cells148 : Tryz.prog.cellsOf 148 = 1 := by kernel_rfl
theorem cells35 : Tryz.prog.cellsOf 35 = 1 := by kernel_rfl
theorem cells146 : Tryz.prog.cellsOf 146 = 1 := by kernel_rfl
theorem cells34 : Tryz.prog.cellsOf 34 = 1 := by kernel_rfl

theorem tri_cells {H : Type} {enc : TypeId × Value → H} {w : World} {base fuel : Nat} {sp : Nat → Bool} {held : Bool} {cs : List Value} {x : Int × Int × Int} {p : List MemPlace}
    (h : DataW.trod enc Tryz.prog w base sp held fuel 150 cs = some (triD x, p)) : cs = [.int .i64 x.1, .int .u32 x.2.1, .int .u32 x.2.2] := by
  obtain ⟨xs, n, -, hx, hl, hxl, hf⟩ := DataW.trod_struct Tryz.underlying150 h
  rw [cells150] at hl
  obtain ⟨c0, c1, c2, rfl⟩ : ∃ c0 c1 c2, cs = [c0, c1, c2] := by
    match cs, hl with
    | [a, b, c], _ => exact ⟨a, b, c, rfl⟩
  obtain ⟨y0, y1, y2, rfl⟩ : ∃ y0 y1 y2, xs = [y0, y1, y2] := by
    match xs, hxl with
    | [a, b, c], _ => exact ⟨a, b, c, rfl⟩
  have h0 : DataW.trod enc Tryz.prog w base sp held n 148 [c0] = some y0 := by have := hf 0 _ rfl; simpa [cells148] using this
  have h1 : DataW.trod enc Tryz.prog w base sp held n 35 [c1] = some y1 := by have := hf 1 _ rfl; simpa [cells35] using this
  have h2 : DataW.trod enc Tryz.prog w base sp held n 35 [c2] = some y2 := by have := hf 2 _ rfl; simpa [cells35] using this
  obtain ⟨n0, e0, d0, -⟩ := DataW.trod_int Tryz.underlying148 h0
  obtain ⟨n1, e1, d1, -⟩ := DataW.trod_int Tryz.underlying35 h1
  obtain ⟨n2, e2, d2, -⟩ := DataW.trod_int Tryz.underlying35 h2
  simp [triD, d0, d1, d2] at hx
  simp at e0 e1 e2
  obtain ⟨⟨rfl, rfl, rfl⟩, _⟩ := hx
  rw [e0, e1, e2]

theorem list_three (l : List Value) (i : Nat) (a b c : Value) (h : (l.drop (i * 3)).take 3 = [a, b, c]) : l[i * 3]? = some a ∧ l[i * 3 + 1]? = some b ∧ l[i * 3 + 2]? = some c := by
  have g : ∀ j, j < 3 → l[i * 3 + j]? = [a, b, c][j]? := by
    intro j hj
    rw [← h, List.getElem?_take_of_lt hj, List.getElem?_drop]
  exact ⟨g 0 (by omega), g 1 (by omega), g 2 (by omega)⟩

/-- the cells of a table of shapes -/
def TriAt (w : World) (g : Nat) (l : List (Int × Int × Int)) : Prop := ∀ (i : Nat) (x : Int × Int × Int), l[i]? = some x →
    w.cell? ⟨g, i * 3, none⟩ = some (.int .i64 x.1) ∧ w.cell? ⟨g, i * 3 + 1, none⟩ = some (.int .u32 x.2.1) ∧ w.cell? ⟨g, i * 3 + 2, none⟩ = some (.int .u32 x.2.2)
theorem triAt_of {W : World} {name : String} {g t n : Nat} {l : List (Int × Int × Int)} (hg : Tryz.prog.globalNamed name = some g) (hty : (Tryz.prog.globals[g]?).map (·.type) = some t)
    (ht : Tryz.prog.underlying t = some (.array n 150)) (h : Lib.VarReads Tryz.prog W name (.agg (l.map triD))) : TriAt W g l := by
  obtain ⟨g', t', cs, fuel, p, hg', ht', hvar, hd⟩ := h
  obtain rfl := Option.some.inj (hg.symm.trans hg')
  obtain rfl := Option.some.inj (hty.symm.trans ht')
  obtain ⟨xs, m, -, hx, hl, hxl, hf⟩ := DataW.trod_array ht hd
  intro i x hi
  have hxs : xs.map (·.1) = l.map triD := by
    have := congrArg Prod.fst hx; simpa using this.symm
  have hlen : l.length = xs.length := by simpa using (congrArg List.length hxs).symm
  have hil : i < l.length := by
    rcases Nat.lt_or_ge i l.length with h | h
    · exact h
    · rw [List.getElem?_eq_none h] at hi; cases hi
  obtain ⟨y, hy⟩ : ∃ y, xs[i]? = some y := ⟨xs[i]'(by omega), List.getElem?_eq_getElem (by omega)⟩
  have h1 : y.1 = triD x := by
    have := congrArg (·[i]?) hxs
    simp [hy, hi] at this
    exact this
  have h2 := hf i (by omega)
  rw [hy, cells150] at h2
  obtain ⟨y1, y2⟩ := y
  simp only at h1
  subst h1
  have h3 := list_three _ _ _ _ _ (tri_cells h2)
  simp only [World.var?_cell hg hvar]
  simpa using h3

/-- the cells of the table of lists -/
def CodeAt (w : World) (g : Nat) (ls : List (List Int)) : Prop := ∀ (c : Nat) (l : List Int), ls[c]? = some l →
    (l = [] → w.cell? ⟨g, c, none⟩ = some (.slice none 0 0)) ∧
    (l ≠ [] → ∃ b off cap, w.cell? ⟨g, c, none⟩ = some (.slice (some ⟨b, off, none⟩) l.length cap) ∧ ∀ i n, l[i]? = some n → w.cell? ⟨b, off + i, none⟩ = some (.int .i64 n))
theorem codeAt_of {W : World} {name : String} {g t n : Nat} {ls : List (List Int)} (hg : Tryz.prog.globalNamed name = some g) (hty : (Tryz.prog.globals[g]?).map (·.type) = some t)
    (ht : Tryz.prog.underlying t = some (.array n 146)) (h : Lib.VarReads Tryz.prog W name (.agg (ls.map codeD))) : CodeAt W g ls := by
  obtain ⟨g', t', cs, fuel, p, hg', ht', hvar, hd⟩ := h
  obtain rfl := Option.some.inj (hg.symm.trans hg')
  obtain rfl := Option.some.inj (hty.symm.trans ht')
  obtain ⟨xs, m, -, hx, hl, hxl, hf⟩ := DataW.trod_array ht hd
  intro i l hi
  have hxs : xs.map (·.1) = ls.map codeD := by
    have := congrArg Prod.fst hx; simpa using this.symm
  have hlen : ls.length = xs.length := by simpa using (congrArg List.length hxs).symm
  have hil : i < ls.length := by
    rcases Nat.lt_or_ge i ls.length with h | h
    · exact h
    · rw [List.getElem?_eq_none h] at hi; cases hi
  obtain ⟨y, hy⟩ : ∃ y, xs[i]? = some y := ⟨xs[i]'(by omega), List.getElem?_eq_getElem (by omega)⟩
  have h1 : y.1 = codeD l := by
    have := congrArg (·[i]?) hxs
    simp [hy, hi] at this
    exact this
  have h2 := hf i (by omega)
  rw [hy, cells146] at h2
  obtain ⟨y1, y2⟩ := y
  simp only at h1
  subst h1
  rw [Nat.mul_one] at h2
  have hcell : ∀ v, (cs.toList.drop i).take 1 = [v] → W.cell? ⟨g, i, none⟩ = some v := by
    intro v hv
    rw [World.var?_cell hg hvar]
    have : cs.toList[i]? = some v := by
      have h3 : ((cs.toList.drop i).take 1)[0]? = some v := by rw [hv]; rfl
      rw [List.getElem?_take_of_lt (by omega), List.getElem?_drop] at h3
      simpa using h3
    simpa using this
  refine ⟨fun he => ?_, fun hne => ?_⟩
  · subst he
    have h3 : DataW.trod (fun _ => ()) Tryz.prog W 0 (fun _ => true) false m 146 ((cs.toList.drop i).take 1) = some (.nil, y2) := h2
    rcases DataW.trod_slice Tryz.underlying146 h3 with ⟨hc, -⟩ | ⟨a, len, cap, elems, rest, n, -, -, hx, -⟩
    · exact hcell _ hc
    · simp at hx
  · have h3 : DataW.trod (fun _ => ()) Tryz.prog W 0 (fun _ => true) false m 146 ((cs.toList.drop i).take 1) = some (.slice (l.map fun n => .lit (.int .i64 n)) [], y2) := by
      rw [h2]; unfold codeD; simp [hne]
    obtain ⟨a, cap, hc, -, hel⟩ := open_row Tryz.underlying146 cells34 h3
    have hcells : ∀ j n, l[j]? = some n → W.cell? (a.add j) = some (.int .i64 n) := by
      intro j n hj
      obtain ⟨v, k, q, hv, hr⟩ := hel j (.lit (.int .i64 n)) (by simp [hj])
      obtain ⟨n', e0, d0, -⟩ := DataW.trod_int Tryz.underlying34 hr
      simp at e0 d0
      rw [hv, e0, d0.1]
    obtain ⟨n0, hn0⟩ : ∃ n0, l[0]? = some n0 := by
      cases l with
      | nil => exact absurd rfl hne
      | cons x r => exact ⟨x, rfl⟩
    obtain ⟨b, off, spot⟩ := a
    have hspot : spot = none := by simpa [Addr.add] using World.cell?_spot (hcells 0 n0 hn0)
    subst hspot
    refine ⟨b, off, cap, ?_, fun j n hj => ?_⟩
    · have := hcell _ hc; simpa using this
    · have := hcells j n hj
      rwa [show (⟨b, off, none⟩ : Addr).add j = ⟨b, off + j, none⟩ by unfold Addr.add; split <;> simp_all] at this
end Go.Proofs.YtcpmgklhfpcaeaaGreatDoor
