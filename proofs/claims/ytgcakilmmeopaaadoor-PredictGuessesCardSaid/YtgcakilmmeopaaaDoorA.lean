/- Part A of the proofs over 'predict': the tables of package isa, as the row lists them (turned from wip/L1D, part A); classes of operations. -/
import Derived.Test.YtgcakilmmeopaaaDoorRows
import Derived.WalkKit
import Derived.ProofKit
import Derived.OpenShut
import Derived.LaidMore
import Derived.Lib.LaidU8
import Derived.Lib.Hide
import Derived.Test.YtgcakilmmeopaaaDoorXHeap
import Derived.Test.YtgcakilmmeopaaaDoorSxH
import Derived.Test.YtgcakilmmeopaaaDoorVc
namespace Go.Proofs.YtgcakilmmeopaaaDoor
open Go.RowKit
set_option linter.unusedVariables false
set_option maxRecDepth 100000

def earlyL : List (Int × Int × Int) := [(0, 0, 0), (1, 127, 55), (1, 127, 23), (2, 127, 111), (4, 28799, 103), (3, 28799, 99), (3, 28799, 4195), (3, 28799, 16483), (3, 28799, 20579), (3, 28799, 24675), (3, 28799, 28771), (4, 28799, 3), (4, 28799, 4099), (4, 28799, 8195), (4, 28799, 16387), (4, 28799, 20483), (5, 28799, 35), (5, 28799, 4131), (5, 28799, 8227), (6, 28799, 19), (6, 28799, 8211), (6, 28799, 12307), (6, 28799, 16403), (6, 28799, 24595), (6, 28799, 28691), (7, 4261441663, 4115), (7, 4261441663, 20499), (7, 4261441663, 1073762323)]
def lateL : List (Int × Int × Int) := [(8, 4261441663, 51), (8, 4261441663, 1073741875), (8, 4261441663, 4147), (8, 4261441663, 8243), (8, 4261441663, 12339), (8, 4261441663, 16435), (8, 4261441663, 20531), (8, 4261441663, 1073762355), (8, 4261441663, 24627), (8, 4261441663, 28723), (8, 4261441663, 33554483), (8, 4261441663, 33558579), (8, 4261441663, 33562675), (8, 4261441663, 33566771), (8, 4261441663, 33570867), (8, 4261441663, 33574963), (8, 4261441663, 33579059), (8, 4261441663, 33583155), (10, 4193284223, 268443695), (9, 4160778367, 402661423), (9, 4160778367, 134225967), (9, 4160778367, 8239), (9, 4160778367, 536879151), (9, 4160778367, 1610620975), (9, 4160778367, 1073750063), (9, 4160778367, 2147491887), (9, 4160778367, 2684362799), (9, 4160778367, 3221233711), (9, 4160778367, 3758104623), (11, 4027580415, 15), (0, 4294967295, 115), (0, 4294967295, 1048691), (0, 4294967295, 807403635), (0, 4294967295, 273678451), (12, 28799, 4211), (12, 28799, 8307), (12, 28799, 12403), (13, 28799, 20595), (13, 28799, 24691), (13, 28799, 28787)]
def triD {H : Type} (x : Int × Int × Int) : DataW H := .agg [.lit (.int .i64 x.1), .lit (.int .u32 x.2.1), .lit (.int .u32 x.2.2)]
theorem early_eq {H : Type} : (Rows.laid_oocore_isa_early : DataW H) = .agg (earlyL.map triD) := by kernel_rfl
theorem late_eq {H : Type} : (Rows.laid_oocore_isa_late : DataW H) = .agg (lateL.map triD) := by kernel_rfl
theorem cells105 : Tryd.prog.cellsOf 105 = 3 := by kernel_rfl
theorem cells103 : Tryd.prog.cellsOf 103 = 1 := by kernel_rfl
theorem cells35 : Tryd.prog.cellsOf 35 = 1 := by kernel_rfl

theorem tri_cells {H : Type} {enc : TypeId × Value → H} {w : World} {base fuel : Nat} {sp : Nat → Bool} {held : Bool} {cs : List Value} {x : Int × Int × Int} {p : List MemPlace}
    (h : DataW.trod enc Tryd.prog w base sp held fuel 105 cs = some (triD x, p)) : cs = [.int .i64 x.1, .int .u32 x.2.1, .int .u32 x.2.2] := by
  obtain ⟨xs, n, -, hx, hl, hxl, hf⟩ := DataW.trod_struct Tryd.underlying105 h
  rw [cells105] at hl
  obtain ⟨c0, c1, c2, rfl⟩ : ∃ c0 c1 c2, cs = [c0, c1, c2] := by
    match cs, hl with
    | [a, b, c], _ => exact ⟨a, b, c, rfl⟩
  obtain ⟨y0, y1, y2, rfl⟩ : ∃ y0 y1 y2, xs = [y0, y1, y2] := by
    match xs, hxl with
    | [a, b, c], _ => exact ⟨a, b, c, rfl⟩
  have h0 : DataW.trod enc Tryd.prog w base sp held n 103 [c0] = some y0 := by have := hf 0 _ rfl; simpa [cells103] using this
  have h1 : DataW.trod enc Tryd.prog w base sp held n 35 [c1] = some y1 := by have := hf 1 _ rfl; simpa [cells35] using this
  have h2 : DataW.trod enc Tryd.prog w base sp held n 35 [c2] = some y2 := by have := hf 2 _ rfl; simpa [cells35] using this
  obtain ⟨n0, e0, d0, -⟩ := DataW.trod_int Tryd.underlying103 h0
  obtain ⟨n1, e1, d1, -⟩ := DataW.trod_int Tryd.underlying35 h1
  obtain ⟨n2, e2, d2, -⟩ := DataW.trod_int Tryd.underlying35 h2
  simp [triD, d0, d1, d2] at hx
  simp at e0 e1 e2
  obtain ⟨⟨rfl, rfl, rfl⟩, _⟩ := hx
  rw [e0, e1, e2]

theorem list_three (l : List Value) (i : Nat) (a b c : Value) (h : (l.drop (i * 3)).take 3 = [a, b, c]) : l[i * 3]? = some a ∧ l[i * 3 + 1]? = some b ∧ l[i * 3 + 2]? = some c := by
  have g : ∀ j, j < 3 → l[i * 3 + j]? = [a, b, c][j]? := by
    intro j hj
    rw [← h, List.getElem?_take_of_lt hj, List.getElem?_drop]
  exact ⟨g 0 (by omega), g 1 (by omega), g 2 (by omega)⟩

/-- the cells of a table of shapes -/
def TriAt (w : World) (g : Nat) (l : List (Int × Int × Int)) : Prop := ∀ (i : Nat) (x : Int × Int × Int), l[i]? = some x →
    w.cell? ⟨g, i * 3, none⟩ = some (.int .i64 x.1) ∧ w.cell? ⟨g, i * 3 + 1, none⟩ = some (.int .u32 x.2.1) ∧ w.cell? ⟨g, i * 3 + 2, none⟩ = some (.int .u32 x.2.2)
theorem triAt_of {W : World} {name : String} {g t n : Nat} {l : List (Int × Int × Int)} (hg : Tryd.prog.globalNamed name = some g) (hty : (Tryd.prog.globals[g]?).map (·.type) = some t)
    (ht : Tryd.prog.underlying t = some (.array n 105)) (h : Lib.VarReads Tryd.prog W name (.agg (l.map triD))) : TriAt W g l := by
  obtain ⟨g', t', cs, fuel, p, hg', ht', hvar, hd⟩ := h
  obtain rfl := Option.some.inj (hg.symm.trans hg')
  obtain rfl := Option.some.inj (hty.symm.trans ht')
  obtain ⟨xs, m, -, hx, hl, hxl, hf⟩ := DataW.trod_array ht hd
  intro i x hi
  have hxs : xs.map (·.1) = l.map triD := by
    have := congrArg Prod.fst hx; simpa using this.symm
  have hlen : l.length = xs.length := by simpa using (congrArg List.length hxs).symm
  have hil : i < l.length := by
    rcases Nat.lt_or_ge i l.length with h | h
    · exact h
    · rw [List.getElem?_eq_none h] at hi; cases hi
  obtain ⟨y, hy⟩ : ∃ y, xs[i]? = some y := ⟨xs[i]'(by omega), List.getElem?_eq_getElem (by omega)⟩
  have h1 : y.1 = triD x := by
    have := congrArg (·[i]?) hxs
    simp [hy, hi] at this
    exact this
  have h2 := hf i (by omega)
  rw [hy, cells105] at h2
  obtain ⟨y1, y2⟩ := y
  simp only at h1
  subst h1
  have h3 := list_three _ _ _ _ _ (tri_cells h2)
  simp only [World.var?_cell hg hvar]
  simpa using h3


/-- the shape of an operation -/
def shP (op : Int) : Int × Int × Int := if op < 28 then earlyL.getD op.toNat (0, 0, 0) else lateL.getD (op.toNat - 28) (0, 0, 0)
def Tab (w : World) : Prop := TriAt w 1 earlyL ∧ TriAt w 2 lateL
open Go.XHeap Go.Sx
theorem TriAt.keep {w w' : World} {T : Nat → Prop} {g : Nat} {l : List (Int × Int × Int)} (h : TriAt w g l) (ht : XTouch T w w') (hn : ¬ T g) : TriAt w' g l := by
  intro i x hi
  obtain ⟨h0, h1, h2⟩ := h i x hi
  have hg := World.block_lt_of_cell? _ _ h0
  exact ⟨(ht.cell (p := ⟨g, i * 3, none⟩) hg hn).trans h0, (ht.cell (p := ⟨g, i * 3 + 1, none⟩) hg hn).trans h1, (ht.cell (p := ⟨g, i * 3 + 2, none⟩) hg hn).trans h2⟩
theorem Tab.keep {w w' : World} {T : Nat → Prop} (h : Tab w) (ht : XTouch T w w') (h1 : ¬ T 1) (h2 : ¬ T 2) : Tab w' := ⟨h.1.keep ht h1, h.2.keep ht h2⟩
theorem Tab.early {w : World} (h : Tab w) (op : Nat) (h1 : op < 28) :
    w.cell? ⟨1, op * 3, none⟩ = some (.int .i64 (shP op).1) ∧ w.cell? ⟨1, op * 3 + 1, none⟩ = some (.int .u32 (shP op).2.1) ∧ w.cell? ⟨1, op * 3 + 2, none⟩ = some (.int .u32 (shP op).2.2) := by
  have hl : earlyL.length = 28 := by decide
  have e : shP op = earlyL[op]'(by omega) := by
    unfold shP; rw [if_pos (by omega), List.getD_eq_getElem?_getD, Int.toNat_natCast, List.getElem?_eq_getElem (by omega)]; rfl
  rw [e]
  exact h.1 op _ (List.getElem?_eq_getElem (by omega))
theorem Tab.late {w : World} (h : Tab w) (op : Nat) (h0 : 28 ≤ op) (h1 : op < 68) :
    w.cell? ⟨2, (op - 28) * 3, none⟩ = some (.int .i64 (shP op).1) ∧ w.cell? ⟨2, (op - 28) * 3 + 1, none⟩ = some (.int .u32 (shP op).2.1) ∧ w.cell? ⟨2, (op - 28) * 3 + 2, none⟩ = some (.int .u32 (shP op).2.2) := by
  have hl : lateL.length = 40 := by decide
  have e : shP op = lateL[op - 28]'(by omega) := by
    unfold shP; rw [if_neg (by omega), List.getD_eq_getElem?_getD, Int.toNat_natCast, List.getElem?_eq_getElem (by omega)]; rfl
  rw [e]
  exact h.2 _ _ (List.getElem?_eq_getElem (by omega))
def shC (op : Int) : Array Value := #[.int .i64 (shP op).1, .int .u32 (shP op).2.1, .int .u32 (shP op).2.2]
theorem three_at {w : World} {g o : Nat} {a b c : Value} (h0 : w.cell? ⟨g, o, none⟩ = some a) (h1 : w.cell? ⟨g, o + 1, none⟩ = some b) (h2 : w.cell? ⟨g, o + 2, none⟩ = some c) : cellsAt w ⟨g, o, none⟩ #[a, b, c] := by
  intro i v hi
  rw [add_none]
  match i, hi with
  | 0, hi => cases hi; exact h0
  | 1, hi => cases hi; exact h1
  | 2, hi => cases hi; exact h2
theorem shC_one (op : Int) : ∀ v ∈ (shC op).toList, v.oneCell' = true := by
  intro v hv
  simp only [shC, List.mem_cons, List.not_mem_nil, or_false] at hv
  rcases hv with rfl | rfl | rfl <;> rfl
def zero3 : Array Value := #[.int .i64 0, .int .u32 0, .int .u32 0]
theorem shaped_any {W : World} (hT : Tab W) (op : Nat) (h1 : op < 68) : Calls Tryd.prog 37 #[.int .i64 op] W fun e w => e = .returned (.agg (shC op)) ∧ XTouch (fun _ => False) W w := by
  refine vc37 op ?_
  rintro k w2 rfl rfl
  have hT2 : XTouch (fun _ => False) W (W.alloc (.cells zero3 105)) := (XTouch.refl _ W).alloc _
  have hb2 : Blk (W.alloc (.cells zero3 105)) W.heap.size zero3 105 := Blk.new W _ _
  have tab2 := hT.keep hT2 (fun e => e) (fun e => e)
  refine split_of (fun q => ?_) (fun q => ?_)
  · have q := of_decide_eq_true q
    obtain ⟨c0, c1, c2⟩ := tab2.early op (by omega)
    refine ⟨⟨by omega, by omega⟩, shC op, rfl, ?_, ?_⟩
    · rw [show 0 + ((op : Nat) : Int).toNat * 3 = op * 3 by omega]
      exact three_at c0 c1 c2
    refine out_cell (shC op) hb2 rfl rfl (shC_one op) ?_
    intro w3 hb3 hT3
    refine ⟨shC op, rfl, cellsAt_self hb3, rfl, hT2.trans hT3 ?_⟩
    intro q hq e
    omega
  · have q := of_decide_eq_false q
    rintro z hz
    rw [w64 (by omega) (by omega)] at hz
    obtain rfl : z = ((op - 28 : Nat) : Int) := by omega
    obtain ⟨c0, c1, c2⟩ := tab2.late op (by omega) h1
    refine ⟨⟨by omega, by omega⟩, shC op, rfl, ?_, ?_⟩
    · rw [show 0 + ((op - 28 : Nat) : Int).toNat * 3 = (op - 28) * 3 by omega]
      exact three_at c0 c1 c2
    refine out_cell (shC op) hb2 rfl rfl (shC_one op) ?_
    intro w3 hb3 hT3
    refine ⟨shC op, rfl, cellsAt_self hb3, rfl, hT2.trans hT3 ?_⟩
    intro q hq e
    omega
theorem of_any {W : World} (hT : Tab W) (op : Nat) (h0 : 0 < op) (h1 : op < 68) : Calls Tryd.prog 31 #[.int .i64 op] W fun e w => e = .returned (.agg (shC op)) ∧ XTouch (fun _ => False) W w := by
  refine vc31 op ?_
  rintro k w2 rfl rfl
  have hT2 : XTouch (fun _ => False) W (W.alloc (.cells zero3 105)) := (XTouch.refl _ W).alloc _
  have hb2 : Blk (W.alloc (.cells zero3 105)) W.heap.size zero3 105 := Blk.new W _ _
  have tab2 := hT.keep hT2 (fun e => e) (fun e => e)
  refine split_of (fun q => absurd (of_decide_eq_true q) (by omega)) (fun _ => ?_)
  refine split_of (fun q => absurd (of_decide_eq_true q) (by omega)) (fun _ => ?_)
  refine (shaped_any tab2 op h1).mono ?_
  rintro e w5 ⟨rfl, hT5⟩
  refine ⟨_, rfl, out_cell (shC op) (hb2.keep hT5 (fun e => e)) rfl rfl (shC_one op) ?_⟩
  intro w6 hb6 hT6
  refine ⟨shC op, rfl, cellsAt_self hb6, rfl, (hT2.trans hT5 (fun _ _ e => e)).trans hT6 ?_⟩
  intro q hq e
  omega
def classP (op : Nat) : Int := if 38 ≤ op ∧ op ≤ 45 then 1 else if op = 4 then 3 else
  let z := (shP op).1
  if z = 1 ∨ z = 6 ∨ z = 7 ∨ z = 8 then 0 else if z = 2 then 3 else if z = 3 then 2 else if z = 4 then 4 else if z = 5 then 5 else if z = 9 ∨ z = 10 then 6 else 7
theorem class_any {W : World} (hT : Tab W) (op : Nat) (h0 : 0 < op) (h1 : op < 68) : Calls Tryd.prog 22 #[.int .i64 op] W fun e w => e = .returned (.int .i64 (classP op)) ∧ XTouch (fun _ => False) W w := by
  refine vc22 op ?_
  have rest : ∀ {w : World} {z : Int} (hz : z = (shP op).1) (h4 : op ≠ 4) (hm : ¬ (38 ≤ op ∧ op ≤ 45)) (hw : XTouch (fun _ => False) W w),
      split (z == 1) (Ending.returned (Value.int IntKind.i64 0) = .returned (.int .i64 (classP op)) ∧ XTouch (fun _ => False) W w)
      (split (z == 6) (Ending.returned (Value.int IntKind.i64 0) = .returned (.int .i64 (classP op)) ∧ XTouch (fun _ => False) W w)
      (split (z == 7) (Ending.returned (Value.int IntKind.i64 0) = .returned (.int .i64 (classP op)) ∧ XTouch (fun _ => False) W w)
      (split (z == 8) (Ending.returned (Value.int IntKind.i64 0) = .returned (.int .i64 (classP op)) ∧ XTouch (fun _ => False) W w)
      (split (z == 2) (Ending.returned (Value.int IntKind.i64 3) = .returned (.int .i64 (classP op)) ∧ XTouch (fun _ => False) W w)
      (split (z == 3) (Ending.returned (Value.int IntKind.i64 2) = .returned (.int .i64 (classP op)) ∧ XTouch (fun _ => False) W w)
      (split (z == 4) (Ending.returned (Value.int IntKind.i64 4) = .returned (.int .i64 (classP op)) ∧ XTouch (fun _ => False) W w)
      (split (z == 5) (Ending.returned (Value.int IntKind.i64 5) = .returned (.int .i64 (classP op)) ∧ XTouch (fun _ => False) W w)
      (split (z == 9) (Ending.returned (Value.int IntKind.i64 6) = .returned (.int .i64 (classP op)) ∧ XTouch (fun _ => False) W w)
      (split (z == 10) (Ending.returned (Value.int IntKind.i64 6) = .returned (.int .i64 (classP op)) ∧ XTouch (fun _ => False) W w)
      (Ending.returned (Value.int IntKind.i64 7) = .returned (.int .i64 (classP op)) ∧ XTouch (fun _ => False) W w)))))))))) := by
    intro w z hz h4 hm hw
    have e : classP op = (if z = 1 ∨ z = 6 ∨ z = 7 ∨ z = 8 then 0 else if z = 2 then 3 else if z = 3 then 2 else if z = 4 then 4 else if z = 5 then 5 else if z = 9 ∨ z = 10 then 6 else 7) := by
      unfold classP; rw [if_neg hm, if_neg h4, hz]
    rw [e]
    clear e hz
    refine split_of (fun q => ⟨by simp_all, hw⟩) (fun q1 => ?_)
    refine split_of (fun q => ⟨by simp_all, hw⟩) (fun q2 => ?_)
    refine split_of (fun q => ⟨by simp_all, hw⟩) (fun q3 => ?_)
    refine split_of (fun q => ⟨by simp_all, hw⟩) (fun q4 => ?_)
    refine split_of (fun q => ⟨by simp_all, hw⟩) (fun q5 => ?_)
    refine split_of (fun q => ⟨by simp_all, hw⟩) (fun q6 => ?_)
    refine split_of (fun q => ⟨by simp_all, hw⟩) (fun q7 => ?_)
    refine split_of (fun q => ⟨by simp_all, hw⟩) (fun q8 => ?_)
    refine split_of (fun q => ⟨by simp_all, hw⟩) (fun q9 => ?_)
    refine split_of (fun q => ⟨by simp_all, hw⟩) (fun q10 => ?_)
    exact ⟨by simp_all, hw⟩
  refine split_of (fun q => ?_) (fun q => ?_)
  · have q := of_decide_eq_true q
    refine split_of (fun q2 => ?_) (fun q2 => ?_)
    · have q2 := of_decide_eq_true q2
      exact ⟨by unfold classP; rw [if_pos ⟨by omega, by omega⟩], XTouch.refl _ _⟩
    · have q2 := of_decide_eq_false q2
      refine split_of (fun q3 => absurd (by simpa using q3) (show ¬ ((op : Int) = 4) by omega)) (fun _ => ?_)
      refine (of_any hT op h0 h1).mono ?_
      rintro e w ⟨rfl, hw⟩
      exact ⟨_, rfl, _, rfl, rest rfl (by omega) (by omega) hw⟩
  · have q := of_decide_eq_false q
    refine split_of (fun q3 => ?_) (fun q3 => ?_)
    · have q3 : (op : Int) = 4 := by simpa using q3
      exact ⟨by unfold classP; rw [if_neg (by omega), if_pos (by omega)], XTouch.refl _ _⟩
    · have q3 : ¬ ((op : Int) = 4) := by simpa using q3
      refine (of_any hT op h0 h1).mono ?_
      rintro e w ⟨rfl, hw⟩
      exact ⟨_, rfl, _, rfl, rest rfl (by omega) (by omega) hw⟩
end Go.Proofs.YtgcakilmmeopaaaDoor
