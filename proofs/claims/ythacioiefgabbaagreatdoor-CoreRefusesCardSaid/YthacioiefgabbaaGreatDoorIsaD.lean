import Derived.Test.YthacioiefgabbaaGreatDoorRows
import Derived.WalkKit
import Derived.ProofKit
import Derived.OpenShut
import Derived.LaidMore
import Derived.Lib.LaidU8
import Derived.Lib.Hide
import Derived.Test.YthacioiefgabbaaGreatDoorXHeap
import Derived.WalkLawsBesides
import Derived.Deep.QuietTactic
import Derived.BigQuiet
import Derived.Outline
/- Part A of the proofs over 'isa': the tables, as the row lists them. -/
namespace Go.Proofs.YthacioiefgabbaaGreatDoor
open Go.RowKit
set_option linter.unusedVariables false
set_option maxRecDepth 100000

def earlyL : List (Int × Int × Int) := [(0, 0, 0), (1, 127, 55), (1, 127, 23), (2, 127, 111), (4, 28799, 103), (3, 28799, 99), (3, 28799, 4195), (3, 28799, 16483), (3, 28799, 20579), (3, 28799, 24675), (3, 28799, 28771), (4, 28799, 3), (4, 28799, 4099), (4, 28799, 8195), (4, 28799, 16387), (4, 28799, 20483), (5, 28799, 35), (5, 28799, 4131), (5, 28799, 8227), (6, 28799, 19), (6, 28799, 8211), (6, 28799, 12307), (6, 28799, 16403), (6, 28799, 24595), (6, 28799, 28691), (7, 4261441663, 4115), (7, 4261441663, 20499), (7, 4261441663, 1073762323)]
def lateL : List (Int × Int × Int) := [(8, 4261441663, 51), (8, 4261441663, 1073741875), (8, 4261441663, 4147), (8, 4261441663, 8243), (8, 4261441663, 12339), (8, 4261441663, 16435), (8, 4261441663, 20531), (8, 4261441663, 1073762355), (8, 4261441663, 24627), (8, 4261441663, 28723), (8, 4261441663, 33554483), (8, 4261441663, 33558579), (8, 4261441663, 33562675), (8, 4261441663, 33566771), (8, 4261441663, 33570867), (8, 4261441663, 33574963), (8, 4261441663, 33579059), (8, 4261441663, 33583155), (10, 4193284223, 268443695), (9, 4160778367, 402661423), (9, 4160778367, 134225967), (9, 4160778367, 8239), (9, 4160778367, 536879151), (9, 4160778367, 1610620975), (9, 4160778367, 1073750063), (9, 4160778367, 2147491887), (9, 4160778367, 2684362799), (9, 4160778367, 3221233711), (9, 4160778367, 3758104623), (11, 4027580415, 15), (0, 4294967295, 115), (0, 4294967295, 1048691), (0, 4294967295, 807403635), (0, 4294967295, 273678451), (12, 28799, 4211), (12, 28799, 8307), (12, 28799, 12403), (13, 28799, 20595), (13, 28799, 24691), (13, 28799, 28787)]
def codeL : List (List Int) := [[], [], [], [11, 12, 13, 14, 15], [], [], [], [], [], [], [], [], [], [], [], [57], [], [], [], [19, 20, 21, 22, 23, 24, 25, 26, 27], [], [], [], [2], [], [], [], [], [], [], [], [], [], [], [], [16, 17, 18], [], [], [], [], [], [], [], [], [], [], [], [46, 47, 48, 49, 50, 51, 52, 53, 54, 55, 56], [], [], [], [28, 29, 30, 31, 32, 33, 34, 35, 36, 37, 38, 39, 40, 41, 42, 43, 44, 45], [], [], [], [1], [], [], [], [], [], [], [], [], [], [], [], [], [], [], [], [], [], [], [], [], [], [], [], [], [], [], [], [], [], [], [], [], [], [], [], [], [], [], [], [], [], [], [], [5, 6, 7, 8, 9, 10], [], [], [], [4], [], [], [], [], [], [], [], [3], [], [], [], [58, 59, 60, 61, 62, 63, 64, 65, 66, 67], [], [], [], [], [], [], [], [], [], [], [], []]
def triD {H : Type} (x : Int × Int × Int) : DataW H := .agg [.lit (.int .i64 x.1), .lit (.int .u32 x.2.1), .lit (.int .u32 x.2.2)]
def codeD {H : Type} (l : List Int) : DataW H := if l.isEmpty then .nil else .slice (l.map fun n => .lit (.int .i64 n)) []
theorem early_eq {H : Type} : (Rows.laid_oocore_isa_early : DataW H) = .agg (earlyL.map triD) := by kernel_rfl
theorem late_eq {H : Type} : (Rows.laid_oocore_isa_late : DataW H) = .agg (lateL.map triD) := by kernel_rfl
theorem code_eq {H : Type} : (Rows.laid_oocore_isa_byCode : DataW H) = .agg (codeL.map codeD) := by kernel_rfl
theorem cells394 : Tryz.prog.cellsOf 394 = 3 := by kernel_rfl
theorem cells392 : Tryz.prog.cellsOf 392 = 1 := by kernel_rfl
theorem cells43 : Tryz.prog.cellsOf 43 = 1 := by kernel_rfl
theorem cells418 : Tryz.prog.cellsOf 418 = 1 := by kernel_rfl
theorem cells50 : Tryz.prog.cellsOf 50 = 1 := by kernel_rfl

theorem tri_cells {H : Type} {enc : TypeId × Value → H} {w : World} {base fuel : Nat} {sp : Nat → Bool} {held : Bool} {cs : List Value} {x : Int × Int × Int} {p : List MemPlace}
    (h : DataW.trod enc Tryz.prog w base sp held fuel 394 cs = some (triD x, p)) : cs = [.int .i64 x.1, .int .u32 x.2.1, .int .u32 x.2.2] := by
  obtain ⟨xs, n, -, hx, hl, hxl, hf⟩ := DataW.trod_struct Tryz.underlying394 h
  rw [cells394] at hl
  obtain ⟨c0, c1, c2, rfl⟩ : ∃ c0 c1 c2, cs = [c0, c1, c2] := by
    match cs, hl with
    | [a, b, c], _ => exact ⟨a, b, c, rfl⟩
  obtain ⟨y0, y1, y2, rfl⟩ : ∃ y0 y1 y2, xs = [y0, y1, y2] := by
    match xs, hxl with
    | [a, b, c], _ => exact ⟨a, b, c, rfl⟩
  have h0 : DataW.trod enc Tryz.prog w base sp held n 392 [c0] = some y0 := by have := hf 0 _ rfl; simpa [cells392] using this
  have h1 : DataW.trod enc Tryz.prog w base sp held n 43 [c1] = some y1 := by have := hf 1 _ rfl; simpa [cells43] using this
  have h2 : DataW.trod enc Tryz.prog w base sp held n 43 [c2] = some y2 := by have := hf 2 _ rfl; simpa [cells43] using this
  obtain ⟨n0, e0, d0, -⟩ := DataW.trod_int Tryz.underlying392 h0
  obtain ⟨n1, e1, d1, -⟩ := DataW.trod_int Tryz.underlying43 h1
  obtain ⟨n2, e2, d2, -⟩ := DataW.trod_int Tryz.underlying43 h2
  simp [triD, d0, d1, d2] at hx
  simp at e0 e1 e2
  obtain ⟨⟨rfl, rfl, rfl⟩, _⟩ := hx
  rw [e0, e1, e2]

theorem list_three (l : List Value) (i : Nat) (a b c : Value) (h : (l.drop (i * 3)).take 3 = [a, b, c]) : l[i * 3]? = some a ∧ l[i * 3 + 1]? = some b ∧ l[i * 3 + 2]? = some c := by
  have g : ∀ j, j < 3 → l[i * 3 + j]? = [a, b, c][j]? := by
    intro j hj
    rw [← h, List.getElem?_take_of_lt hj, List.getElem?_drop]
  exact ⟨g 0 (by omega), g 1 (by omega), g 2 (by omega)⟩

/-- the cells of a table of shapes -/
def TriAt (w : World) (g : Nat) (l : List (Int × Int × Int)) : Prop := ∀ (i : Nat) (x : Int × Int × Int), l[i]? = some x →
    w.cell? ⟨g, i * 3, none⟩ = some (.int .i64 x.1) ∧ w.cell? ⟨g, i * 3 + 1, none⟩ = some (.int .u32 x.2.1) ∧ w.cell? ⟨g, i * 3 + 2, none⟩ = some (.int .u32 x.2.2)
theorem triAt_of {W : World} {name : String} {g t n : Nat} {l : List (Int × Int × Int)} (hg : Tryz.prog.globalNamed name = some g) (hty : (Tryz.prog.globals[g]?).map (·.type) = some t)
    (ht : Tryz.prog.underlying t = some (.array n 394)) (h : Lib.VarReads Tryz.prog W name (.agg (l.map triD))) : TriAt W g l := by
  obtain ⟨g', t', cs, fuel, p, hg', ht', hvar, hd⟩ := h
  obtain rfl := Option.some.inj (hg.symm.trans hg')
  obtain rfl := Option.some.inj (hty.symm.trans ht')
  obtain ⟨xs, m, -, hx, hl, hxl, hf⟩ := DataW.trod_array ht hd
  intro i x hi
  have hxs : xs.map (·.1) = l.map triD := by
    have := congrArg Prod.fst hx; simpa using this.symm
  have hlen : l.length = xs.length := by simpa using (congrArg List.length hxs).symm
  have hil : i < l.length := by
    rcases Nat.lt_or_ge i l.length with h | h
    · exact h
    · rw [List.getElem?_eq_none h] at hi; cases hi
  obtain ⟨y, hy⟩ : ∃ y, xs[i]? = some y := ⟨xs[i]'(by omega), List.getElem?_eq_getElem (by omega)⟩
  have h1 : y.1 = triD x := by
    have := congrArg (·[i]?) hxs
    simp [hy, hi] at this
    exact this
  have h2 := hf i (by omega)
  rw [hy, cells394] at h2
  obtain ⟨y1, y2⟩ := y
  simp only at h1
  subst h1
  have h3 := list_three _ _ _ _ _ (tri_cells h2)
  simp only [World.var?_cell hg hvar]
  simpa using h3

/-- the cells of the table of lists -/
def CodeAt (w : World) (g : Nat) (ls : List (List Int)) : Prop := ∀ (c : Nat) (l : List Int), ls[c]? = some l →
    (l = [] → w.cell? ⟨g, c, none⟩ = some (.slice none 0 0)) ∧
    (l ≠ [] → ∃ b off cap, w.cell? ⟨g, c, none⟩ = some (.slice (some ⟨b, off, none⟩) l.length cap) ∧ ∀ i n, l[i]? = some n → w.cell? ⟨b, off + i, none⟩ = some (.int .i64 n))
theorem codeAt_of {W : World} {name : String} {g t n : Nat} {ls : List (List Int)} (hg : Tryz.prog.globalNamed name = some g) (hty : (Tryz.prog.globals[g]?).map (·.type) = some t)
    (ht : Tryz.prog.underlying t = some (.array n 418)) (h : Lib.VarReads Tryz.prog W name (.agg (ls.map codeD))) : CodeAt W g ls := by
  obtain ⟨g', t', cs, fuel, p, hg', ht', hvar, hd⟩ := h
  obtain rfl := Option.some.inj (hg.symm.trans hg')
  obtain rfl := Option.some.inj (hty.symm.trans ht')
  obtain ⟨xs, m, -, hx, hl, hxl, hf⟩ := DataW.trod_array ht hd
  intro i l hi
  have hxs : xs.map (·.1) = ls.map codeD := by
    have := congrArg Prod.fst hx; simpa using this.symm
  have hlen : ls.length = xs.length := by simpa using (congrArg List.length hxs).symm
  have hil : i < ls.length := by
    rcases Nat.lt_or_ge i ls.length with h | h
    · exact h
    · rw [List.getElem?_eq_none h] at hi; cases hi
  obtain ⟨y, hy⟩ : ∃ y, xs[i]? = some y := ⟨xs[i]'(by omega), List.getElem?_eq_getElem (by omega)⟩
  have h1 : y.1 = codeD l := by
    have := congrArg (·[i]?) hxs
    simp [hy, hi] at this
    exact this
  have h2 := hf i (by omega)
  rw [hy, cells418] at h2
  obtain ⟨y1, y2⟩ := y
  simp only at h1
  subst h1
  rw [Nat.mul_one] at h2
  have hcell : ∀ v, (cs.toList.drop i).take 1 = [v] → W.cell? ⟨g, i, none⟩ = some v := by
    intro v hv
    rw [World.var?_cell hg hvar]
    have : cs.toList[i]? = some v := by
      have h3 : ((cs.toList.drop i).take 1)[0]? = some v := by rw [hv]; rfl
      rw [List.getElem?_take_of_lt (by omega), List.getElem?_drop] at h3
      simpa using h3
    simpa using this
  refine ⟨fun he => ?_, fun hne => ?_⟩
  · subst he
    have h3 : DataW.trod (fun _ => ()) Tryz.prog W 0 (fun _ => true) false m 418 ((cs.toList.drop i).take 1) = some (.nil, y2) := h2
    rcases DataW.trod_slice Tryz.underlying418 h3 with ⟨hc, -⟩ | ⟨a, len, cap, elems, rest, n, -, -, hx, -⟩
    · exact hcell _ hc
    · simp at hx
  · have h3 : DataW.trod (fun _ => ()) Tryz.prog W 0 (fun _ => true) false m 418 ((cs.toList.drop i).take 1) = some (.slice (l.map fun n => .lit (.int .i64 n)) [], y2) := by
      rw [h2]; unfold codeD; simp [hne]
    obtain ⟨a, cap, hc, -, hel⟩ := open_row Tryz.underlying418 cells50 h3
    have hcells : ∀ j n, l[j]? = some n → W.cell? (a.add j) = some (.int .i64 n) := by
      intro j n hj
      obtain ⟨v, k, q, hv, hr⟩ := hel j (.lit (.int .i64 n)) (by simp [hj])
      obtain ⟨n', e0, d0, -⟩ := DataW.trod_int Tryz.underlying50 hr
      simp at e0 d0
      rw [hv, e0, d0.1]
    obtain ⟨n0, hn0⟩ : ∃ n0, l[0]? = some n0 := by
      cases l with
      | nil => exact absurd rfl hne
      | cons x r => exact ⟨x, rfl⟩
    obtain ⟨b, off, spot⟩ := a
    have hspot : spot = none := by simpa [Addr.add] using World.cell?_spot (hcells 0 n0 hn0)
    subst hspot
    refine ⟨b, off, cap, ?_, fun j n hj => ?_⟩
    · have := hcell _ hc; simpa using this
    · have := hcells j n hj
      rwa [show (⟨b, off, none⟩ : Addr).add j = ⟨b, off + j, none⟩ by unfold Addr.add; split <;> simp_all] at this
end Go.Proofs.YthacioiefgabbaaGreatDoor
/- What calls that write nothing old keep: blocks, tape, output. A name of its own (it shadows the kit's), so that texts over the kit's walk hand on 'XTouch'. No condition. -/
namespace Go.Proofs.YthacioiefgabbaaGreatDoor
open Go.RowKit Go.XHeap
set_option linter.unusedVariables false

/-- of what was there nothing turns -/
def Grown (W w : World) : Prop := XTouch (fun _ => False) W w
theorem Grown.refl (W : World) : Grown W W := XTouch.refl _ W
theorem Grown.alloc {W w : World} (h : Grown W w) (c : Array Value) (t : TypeId) : Grown W (w.alloc (.cells c t)) := XTouch.alloc h _
theorem Grown.setCell {W w : World} (h : Grown W w) {a : Addr} (ha : W.heap.size ≤ a.block) (v : Value) : Grown W (w.setCell a v) := XTouch.setCell h (.inr ha) v
theorem Grown.drew {W w : World} (h : Grown W w) : Grown W w.drew := XTouch.drew h
theorem grown_dr {a w : World} (h : Grown a w) (n : Nat) : Grown a (w.drewN n) := XTouch.drewN h n
theorem grown_trans {a b c : World} (h1 : Grown a b) (h2 : Grown b c) : Grown a c := XTouch.trans h1 h2 (fun _ _ e => e)
theorem grown_cell {a b : World} (h : Grown a b) {g o : Nat} {v : Value} (hc : a.cell? ⟨g, o, none⟩ = some v) : b.cell? ⟨g, o, none⟩ = some v :=
  (XTouch.cell h (World.block_lt_of_cell? _ _ hc) (fun f => f)).trans hc
theorem blk_grown {w w' : World} {k : Nat} {cs : Array Value} {t : TypeId} (h : Blk w k cs t) (hg : Grown w w') : Blk w' k cs t := h.keep hg (fun e => e)
end Go.Proofs.YthacioiefgabbaaGreatDoor
/- A run that the kernel reckons: code whose tests are decided and whose operations hand back values, whatever the world. No condition. -/
namespace Go.XRun
set_option linter.unusedVariables false
set_option maxRecDepth 100000

abbrev Caller := FuncId → Array Value → World → Option (Value × World)

/-- a list of operations, run in its order as far as each hands back a value -/
noncomputable def runOps (P : Program) (call : Caller) (ops : Array Oper) : List Oper → Act → World → Option (Act × World)
  | [], a, w => some (a, w)
  | o :: rest, a, w =>
    if Region.wanted o (yielded ops a.tmps) = true then
      match (execOp a.eval o).run P w with
      | .ok (.value v) w' => runOps P call ops rest (a.put o.dst v) w'
      | .ok (.enter f args) w' => match call f args w' with
        | some (v, w'') => runOps P call ops rest (a.put o.dst v) w''
        | none => none
      | _ => none
    else runOps P call ops rest (a.put o.dst undef) w

noncomputable def runCode (P : Program) (call : Caller) : Code → Act → World → Option (Exit × Act × World)
  | .skip, a, w => some (.normal, a, w)
  | .ret, a, w => some (.ret, a, w)
  | .exit id, a, w => some (.exit id, a, w)
  | .region _ ops false, a, w => match runOps P call ops ops.toList a w with
    | some (a', w') => some (.normal, a', w')
    | none => none
  | .seq x y, a, w => match runCode P call x a w with
    | some (.normal, a', w') => runCode P call y a' w'
    | r => r
  | .cond c x y, a, w => match a.eval c with
    | .bool true => runCode P call x a w
    | .bool false => runCode P call y a w
    | _ => none
  | .block id x, a, w => match runCode P call x a w with
    | some (.exit id', a', w') => if id' = id then some (.normal, a', w') else some (.exit id', a', w')
    | r => r
  | _, _, _ => none

/-- results that lie in slots -/
def tmpResults : List ResultVar → Array Value → Option Value
  | [], _ => some (.tuple #[])
  | [.tmp t], tmps => some (tmps.getD t undef)
  | [.tmp t, .tmp u], tmps => some (.tuple #[tmps.getD t undef, tmps.getD u undef])
  | [.tmp t, .tmp u, .tmp v], tmps => some (.tuple #[tmps.getD t undef, tmps.getD u undef, tmps.getD v undef])
  | _, _ => none

theorem results_of_tmp {P : Program} {fn : Func} {tmps : Array Value} {v : Value} (w : World) (h : tmpResults fn.results.toList tmps = some v) : (results fn tmps).run P w = .ok v w := by
  generalize hr : fn.results = r at h
  obtain ⟨l⟩ := r
  dsimp only at h
  unfold tmpResults at h
  split at h
  · cases h; simp [results, hr]
  · cases h; simp [results, hr]
  · cases h; simp [results, hr]
  · cases h; simp [results, hr]
  · cases h

noncomputable def runFn (P : Program) : Nat → Caller
  | 0 => fun _ _ _ => none
  | n + 1 => fun f args w => match P.funcs[f]? with
    | none => none
    | some fn => match fn.body with
      | none => none
      | some c => match runCode P (runFn P n) c { tmps := args ++ Array.replicate (fn.ntmps - args.size) undef, defers := [] } w with
        | some (.normal, a, w') | some (.ret, a, w') => if a.defers.isEmpty then (tmpResults fn.results.toList a.tmps).map (·, w') else none
        | _ => none

def Sound (P : Program) (call : Caller) : Prop :=
  ∀ f args w v w', call f args w = some (v, w') → Calls P f args w fun e w'' => e = .returned v ∧ w' = w''

theorem wpList_of_runOps {P : Program} {call : Caller} (hs : Sound P call) {ops : Array Oper} {Q : Exit → Act → World → Prop} {a' : Act} {w' : World} (l : List Oper) :
    ∀ (a : Act) (w : World), runOps P call ops l a w = some (a', w') → Q .normal a' w' → wpList P ops Q l a w := by
  induction l with
  | nil => intro a w h hq; simp only [runOps, Option.some.injEq, Prod.mk.injEq] at h; obtain ⟨rfl, rfl⟩ := h; exact hq
  | cons o rest ih =>
    intro a w h hq
    unfold runOps at h
    unfold wpList
    split at h
    · rename_i hw
      rw [if_pos hw]
      split at h
      · rename_i v w1 hr
        exact .inl (by unfold Oper.wp; rw [hr, Oper.upon_value]; exact ih _ _ h hq)
      · rename_i f args w1 hr
        split at h
        · rename_i v w2 hc
          refine .inl (by
            unfold Oper.wp; rw [hr, Oper.upon_enter]
            refine (hs _ _ _ _ _ hc).mono ?_
            rintro e w3 ⟨rfl, rfl⟩
            exact ih _ _ h hq)
        · cases h
      · cases h
    · rename_i hw
      rw [if_neg hw]
      exact ih _ _ h hq

theorem wp_of_runCode {P : Program} {call : Caller} (hs : Sound P call) (c : Code) : ∀ {Q : Exit → Act → World → Prop} (e : Exit) (a a' : Act) (w w' : World),
    runCode P call c a w = some (e, a', w') → Q e a' w' → c.wp P Q a w := by
  induction c with
  | skip => intro Q e a a' w w' h hq; simp only [runCode, Option.some.injEq, Prod.mk.injEq] at h; obtain ⟨rfl, rfl, rfl⟩ := h; exact wp_skip hq
  | ret => intro Q e a a' w w' h hq; simp only [runCode, Option.some.injEq, Prod.mk.injEq] at h; obtain ⟨rfl, rfl, rfl⟩ := h; exact wp_ret hq
  | exit id => intro Q e a a' w w' h hq; simp only [runCode, Option.some.injEq, Prod.mk.injEq] at h; obtain ⟨rfl, rfl, rfl⟩ := h; exact wp_exit hq
  | region id ops d =>
    intro Q e a a' w w' h hq
    cases d with
    | true => simp [runCode] at h
    | false =>
      simp only [runCode] at h
      split at h
      · rename_i a1 w1 hr
        simp only [Option.some.injEq, Prod.mk.injEq] at h; obtain ⟨rfl, rfl, rfl⟩ := h
        exact wp_region_list (wpList_of_runOps hs _ _ _ hr hq)
      · cases h
  | seq x y ihx ihy =>
    intro Q e a a' w w' h hq
    simp only [runCode] at h
    split at h
    · rename_i a1 w1 hr
      exact wp_seq (ihx _ _ _ _ _ hr (ihy _ _ _ _ _ h hq))
    · rename_i hne
      refine wp_seq (ihx _ _ _ _ _ h ?_)
      cases e with
      | normal => exact absurd h (hne _ _)
      | _ => exact hq
  | cond c x y ihx ihy =>
    intro Q e a a' w w' h hq
    simp only [runCode] at h
    split at h
    · rename_i hc; exact wp_cond_true hc (ihx _ _ _ _ _ h hq)
    · rename_i hc; exact wp_cond_false hc (ihy _ _ _ _ _ h hq)
    · cases h
  | block id x ih =>
    intro Q e a a' w w' h hq
    simp only [runCode] at h
    split at h
    · rename_i id' a1 w1 hr
      refine wp_block (ih _ _ _ _ _ hr ?_)
      by_cases hid : id' = id
      · rw [if_pos hid] at h
        simp only [Option.some.injEq, Prod.mk.injEq] at h; obtain ⟨rfl, rfl, rfl⟩ := h
        simp only [Exit.inBlock, hid, if_true]; exact hq
      · rw [if_neg hid] at h
        simp only [Option.some.injEq, Prod.mk.injEq] at h; obtain ⟨rfl, rfl, rfl⟩ := h
        simp only [Exit.inBlock, hid, if_false]; exact hq
    · rename_i hne
      refine wp_block (ih _ _ _ _ _ h ?_)
      cases e with
      | exit id' => exact absurd h (hne _ _ _)
      | _ => exact hq
  | _ => intro Q e a a' w w' h hq; simp [runCode] at h

theorem sound (P : Program) : ∀ n, Sound P (runFn P n)
  | 0 => fun _ _ _ _ _ h => by simp [runFn] at h
  | n + 1 => fun f args w v w' h => by
    have ih := sound P n
    unfold runFn at h
    split at h
    · cases h
    · rename_i fn hf
      split at h
      · cases h
      · rename_i c hb
        split at h
        all_goals first
          | (cases h; done)
          | (rename_i a1 w1 hr
             split at h
             · rename_i hd
               simp only [Option.map_eq_some_iff, Prod.mk.injEq] at h
               obtain ⟨v1, hres, rfl, rfl⟩ := h
               exact calls_of_wp hf hb (wp_of_runCode ih c _ _ _ _ _ hr ⟨by simpa using hd, _, results_of_tmp _ hres, rfl, rfl⟩)
             · cases h)
end Go.XRun
/- Part B: the rows of the reference; classes; shapes. -/
namespace Go.Proofs.YthacioiefgabbaaGreatDoor
open Go.RowKit
set_option linter.unusedVariables false
set_option maxRecDepth 100000

/-- the rows of the reference: name, format, code, F, G -/
def rowsL : List (ByteArray × Int × Int × Int × Int) := [
  (⟨#[108, 117, 105]⟩, 85, 55, 0, 0),
  (⟨#[97, 117, 105, 112, 99]⟩, 85, 23, 0, 0),
  (⟨#[106, 97, 108]⟩, 74, 111, 0, 0),
  (⟨#[106, 97, 108, 114]⟩, 76, 103, 0, 0),
  (⟨#[98, 101, 113]⟩, 66, 99, 0, 0),
  (⟨#[98, 110, 101]⟩, 66, 99, 1, 0),
  (⟨#[98, 108, 116]⟩, 66, 99, 4, 0),
  (⟨#[98, 103, 101]⟩, 66, 99, 5, 0),
  (⟨#[98, 108, 116, 117]⟩, 66, 99, 6, 0),
  (⟨#[98, 103, 101, 117]⟩, 66, 99, 7, 0),
  (⟨#[108, 98]⟩, 76, 3, 0, 0),
  (⟨#[108, 104]⟩, 76, 3, 1, 0),
  (⟨#[108, 119]⟩, 76, 3, 2, 0),
  (⟨#[108, 98, 117]⟩, 76, 3, 4, 0),
  (⟨#[108, 104, 117]⟩, 76, 3, 5, 0),
  (⟨#[115, 98]⟩, 83, 35, 0, 0),
  (⟨#[115, 104]⟩, 83, 35, 1, 0),
  (⟨#[115, 119]⟩, 83, 35, 2, 0),
  (⟨#[97, 100, 100, 105]⟩, 73, 19, 0, 0),
  (⟨#[115, 108, 116, 105]⟩, 73, 19, 2, 0),
  (⟨#[115, 108, 116, 105, 117]⟩, 73, 19, 3, 0),
  (⟨#[120, 111, 114, 105]⟩, 73, 19, 4, 0),
  (⟨#[111, 114, 105]⟩, 73, 19, 6, 0),
  (⟨#[97, 110, 100, 105]⟩, 73, 19, 7, 0),
  (⟨#[115, 108, 108, 105]⟩, 72, 19, 1, 0),
  (⟨#[115, 114, 108, 105]⟩, 72, 19, 5, 0),
  (⟨#[115, 114, 97, 105]⟩, 72, 19, 5, 32),
  (⟨#[97, 100, 100]⟩, 82, 51, 0, 0),
  (⟨#[115, 117, 98]⟩, 82, 51, 0, 32),
  (⟨#[115, 108, 108]⟩, 82, 51, 1, 0),
  (⟨#[115, 108, 116]⟩, 82, 51, 2, 0),
  (⟨#[115, 108, 116, 117]⟩, 82, 51, 3, 0),
  (⟨#[120, 111, 114]⟩, 82, 51, 4, 0),
  (⟨#[115, 114, 108]⟩, 82, 51, 5, 0),
  (⟨#[115, 114, 97]⟩, 82, 51, 5, 32),
  (⟨#[111, 114]⟩, 82, 51, 6, 0),
  (⟨#[97, 110, 100]⟩, 82, 51, 7, 0),
  (⟨#[109, 117, 108]⟩, 82, 51, 0, 1),
  (⟨#[109, 117, 108, 104]⟩, 82, 51, 1, 1),
  (⟨#[109, 117, 108, 104, 115, 117]⟩, 82, 51, 2, 1),
  (⟨#[109, 117, 108, 104, 117]⟩, 82, 51, 3, 1),
  (⟨#[100, 105, 118]⟩, 82, 51, 4, 1),
  (⟨#[100, 105, 118, 117]⟩, 82, 51, 5, 1),
  (⟨#[114, 101, 109]⟩, 82, 51, 6, 1),
  (⟨#[114, 101, 109, 117]⟩, 82, 51, 7, 1),
  (⟨#[108, 114, 46, 119]⟩, 75, 47, 2, 2),
  (⟨#[115, 99, 46, 119]⟩, 65, 47, 2, 3),
  (⟨#[97, 109, 111, 115, 119, 97, 112, 46, 119]⟩, 65, 47, 2, 1),
  (⟨#[97, 109, 111, 97, 100, 100, 46, 119]⟩, 65, 47, 2, 0),
  (⟨#[97, 109, 111, 120, 111, 114, 46, 119]⟩, 65, 47, 2, 4),
  (⟨#[97, 109, 111, 97, 110, 100, 46, 119]⟩, 65, 47, 2, 12),
  (⟨#[97, 109, 111, 111, 114, 46, 119]⟩, 65, 47, 2, 8),
  (⟨#[97, 109, 111, 109, 105, 110, 46, 119]⟩, 65, 47, 2, 16),
  (⟨#[97, 109, 111, 109, 97, 120, 46, 119]⟩, 65, 47, 2, 20),
  (⟨#[97, 109, 111, 109, 105, 110, 117, 46, 119]⟩, 65, 47, 2, 24),
  (⟨#[97, 109, 111, 109, 97, 120, 117, 46, 119]⟩, 65, 47, 2, 28),
  (⟨#[102, 101, 110, 99, 101]⟩, 70, 15, 0, 0),
  (⟨#[101, 99, 97, 108, 108]⟩, 78, 115, 0, 0),
  (⟨#[101, 98, 114, 101, 97, 107]⟩, 78, 115, 0, 1),
  (⟨#[109, 114, 101, 116]⟩, 78, 115, 0, 770),
  (⟨#[119, 102, 105]⟩, 78, 115, 0, 261),
  (⟨#[99, 115, 114, 114, 119]⟩, 67, 115, 1, 0),
  (⟨#[99, 115, 114, 114, 115]⟩, 67, 115, 2, 0),
  (⟨#[99, 115, 114, 114, 99]⟩, 67, 115, 3, 0),
  (⟨#[99, 115, 114, 114, 119, 105]⟩, 68, 115, 5, 0),
  (⟨#[99, 115, 114, 114, 115, 105]⟩, 68, 115, 6, 0),
  (⟨#[99, 115, 114, 114, 99, 105]⟩, 68, 115, 7, 0)]
def rowCells (r : ByteArray × Int × Int × Int × Int) : List Value := [.string r.1, .int .u8 r.2.1, .int .i64 r.2.2.1, .int .i64 r.2.2.2.1, .int .i64 r.2.2.2.2]
def ROWS : Array Value := (rowsL.flatMap rowCells).toArray
theorem rows_run (w : World) : XRun.runFn Tryz.prog 1 30 #[] w = some (.slice (some ⟨w.heap.size, 0, none⟩) 67 67, w.alloc (.cells ROWS 104)) := by kernel_rfl
theorem rows_any (w : World) : Calls Tryz.prog 30 #[] w fun e w' => e = .returned (.slice (some ⟨w.heap.size, 0, none⟩) 67 67) ∧ w.alloc (.cells ROWS 104) = w' :=
  XRun.sound _ _ _ _ _ _ _ (rows_run w)
def rowAt (op : Int) : ByteArray × Int × Int × Int × Int := rowsL.getD (op.toNat - 1) (⟨#[]⟩, 0, 0, 0, 0)
def nm (op : Int) : ByteArray := if op < 1 ∨ 67 < op then ⟨#[]⟩ else (rowAt op).1
def rF (op : Int) : Int := (rowAt op).2.1
def rC (op : Int) : Int := (rowAt op).2.2.1
def rA (op : Int) : Int := (rowAt op).2.2.2.1
def rG (op : Int) : Int := (rowAt op).2.2.2.2

theorem flat_at {α : Type} (f : α → List Value) (n : Nat) (hf : ∀ x, (f x).length = n) : ∀ (l : List α) (k j : Nat), j < n → (l.flatMap f)[n * k + j]? = (l[k]?).bind (fun x => (f x)[j]?)
  | [], k, j, _ => by simp
  | x :: l, 0, j, h => by simp [List.getElem?_append_left (show j < (f x).length by rw [hf]; exact h)]
  | x :: l, k + 1, j, h => by
    rw [List.flatMap_cons, List.getElem?_append_right (by rw [hf, Nat.mul_succ]; omega), hf, show n * (k + 1) + j - n = n * k + j by rw [Nat.mul_succ]; omega, flat_at f n hf l k j h]
    rfl
theorem rows_at (op : Int) (h1 : 1 ≤ op) (h2 : op ≤ 67) (j : Nat) (hj : j < 5) : ROWS[5 * (op.toNat - 1) + j]? = (rowCells (rowAt op))[j]? := by
  have hl : rowsL.length = 67 := by decide +kernel
  unfold ROWS
  rw [List.getElem?_toArray, flat_at rowCells 5 (fun _ => rfl) rowsL _ j hj, List.getElem?_eq_getElem (show op.toNat - 1 < rowsL.length by omega)]
  unfold rowAt
  simp [List.getD_eq_getElem?_getD, List.getElem?_eq_getElem (show op.toNat - 1 < rowsL.length by omega)]

/-- block b holds the rows of the reference -/
def RowsAt (w : World) (b : Nat) : Prop := ∀ op : Int, 1 ≤ op → op ≤ 67 →
    w.cell? ⟨b, (op.toNat - 1) * 5, none⟩ = some (.string (rowAt op).1) ∧
    w.cell? ⟨b, (op.toNat - 1) * 5 + 1, none⟩ = some (.int .u8 (rF op)) ∧
    w.cell? ⟨b, (op.toNat - 1) * 5 + 2, none⟩ = some (.int .i64 (rC op)) ∧
    w.cell? ⟨b, (op.toNat - 1) * 5 + 3, none⟩ = some (.int .i64 (rA op)) ∧
    w.cell? ⟨b, (op.toNat - 1) * 5 + 4, none⟩ = some (.int .i64 (rG op))
theorem rowsAt_new (w : World) : RowsAt (w.alloc (.cells ROWS 104)) w.heap.size := by
  intro op h1 h2
  have e : (op.toNat - 1) * 5 = 5 * (op.toNat - 1) + 0 := by omega
  simp only [World.cell?_alloc_new]
  rw [e]
  exact ⟨rows_at op h1 h2 0 (by omega), rows_at op h1 h2 1 (by omega), rows_at op h1 h2 2 (by omega), rows_at op h1 h2 3 (by omega), rows_at op h1 h2 4 (by omega)⟩
/-- what 'Rows' does -/
def RowsMade (w : World) (e : Ending) (w' : World) : Prop := ∃ b, e = .returned (.slice (some ⟨b, 0, none⟩) 67 67) ∧ RowsAt w' b ∧ Grown w w'
theorem rows_made (w : World) : Calls Tryz.prog 30 #[] w (RowsMade w) := by
  refine (rows_any w).mono ?_
  rintro e w' ⟨rfl, rfl⟩
  exact ⟨_, rfl, rowsAt_new w, (Grown.refl _).alloc _ _⟩

end Go.Proofs.YthacioiefgabbaaGreatDoor
/- Part C: shapes of operations. -/
namespace Go.Proofs.YthacioiefgabbaaGreatDoor
open Go.RowKit
set_option linter.unusedVariables false
set_option maxRecDepth 100000

/-- the shape of an operation -/
def shP (op : Int) : Int × Int × Int := if op < 28 then earlyL.getD op.toNat (0, 0, 0) else lateL.getD (op.toNat - 28) (0, 0, 0)
def Tab (w : World) : Prop := TriAt w 2 earlyL ∧ TriAt w 3 lateL
theorem Tab.grown {a b : World} (h : Tab a) (hg : Grown a b) : Tab b :=
  ⟨fun i x hi => ⟨grown_cell hg (h.1 i x hi).1, grown_cell hg (h.1 i x hi).2.1, grown_cell hg (h.1 i x hi).2.2⟩, fun i x hi => ⟨grown_cell hg (h.2 i x hi).1, grown_cell hg (h.2 i x hi).2.1, grown_cell hg (h.2 i x hi).2.2⟩⟩
theorem Tab.early {w : World} (h : Tab w) (op : Int) (h0 : 0 ≤ op) (h1 : op < 28) :
    w.cell? ⟨2, op.toNat * 3, none⟩ = some (.int .i64 (shP op).1) ∧ w.cell? ⟨2, op.toNat * 3 + 1, none⟩ = some (.int .u32 (shP op).2.1) ∧ w.cell? ⟨2, op.toNat * 3 + 2, none⟩ = some (.int .u32 (shP op).2.2) := by
  have hl : earlyL.length = 28 := by decide
  have e : shP op = earlyL[op.toNat]'(by omega) := by
    unfold shP; rw [if_pos h1, List.getD_eq_getElem?_getD, List.getElem?_eq_getElem (by omega)]; rfl
  rw [e]
  exact h.1 op.toNat _ (List.getElem?_eq_getElem (by omega))
theorem Tab.late {w : World} (h : Tab w) (op : Int) (h0 : 28 ≤ op) (h1 : op < 68) :
    w.cell? ⟨3, (op - 28).toNat * 3, none⟩ = some (.int .i64 (shP op).1) ∧ w.cell? ⟨3, (op - 28).toNat * 3 + 1, none⟩ = some (.int .u32 (shP op).2.1) ∧ w.cell? ⟨3, (op - 28).toNat * 3 + 2, none⟩ = some (.int .u32 (shP op).2.2) := by
  have hl : lateL.length = 40 := by decide
  have e : shP op = lateL[op.toNat - 28]'(by omega) := by
    unfold shP; rw [if_neg (by omega), List.getD_eq_getElem?_getD, List.getElem?_eq_getElem (by omega)]; rfl
  rw [e, show (op - 28).toNat = op.toNat - 28 by omega]
  exact h.2 _ _ (List.getElem?_eq_getElem (by omega))
theorem tab_of_laid {W : World} {l : List (String × DataW Unit)} (h : laidMet Tryz.prog l W) (h1 : ("oocore/isa.early", Rows.laid_oocore_isa_early) ∈ l) (h2 : ("oocore/isa.late", Rows.laid_oocore_isa_late) ∈ l) : Tab W :=
  ⟨triAt_of (g := 2) (t := 424) (n := 28) (by kernel_rfl) (by kernel_rfl) Tryz.underlying424 (early_eq ▸ Lib.laidMet.reads h h1), triAt_of (g := 3) (t := 425) (n := 40) (by kernel_rfl) (by kernel_rfl) Tryz.underlying425 (late_eq ▸ Lib.laidMet.reads h h2)⟩
def Shaped (x : Int × Int × Int) (w : World) (e : Ending) (w' : World) : Prop := e = .returned (.agg #[.int .i64 x.1, .int .u32 x.2.1, .int .u32 x.2.2]) ∧ Grown w w'
theorem Tab.lt {w : World} (h : Tab w) : 2 < w.heap.size ∧ 3 < w.heap.size :=
  ⟨World.block_lt_of_cell? _ _ (h.early 0 (by omega) (by omega)).1, World.block_lt_of_cell? _ _ (h.late 28 (by omega) (by omega)).1⟩
theorem shaped_any (op : Int) (h0 : 0 ≤ op) (h1 : op < 68) (w : World) (hT : Tab w) : Calls Tryz.prog 270 #[.int .i64 op] w (Shaped (shP op) w) := by
  obtain ⟨s1, s2⟩ := hT.lt
  by_cases h2 : op < 28
  · obtain ⟨c0, c1, c2⟩ := hT.early op h0 h2
    clear hT
    go_enter Tryz.func270, Tryz.ntmps270
    go_wp2
    exact bodyPost_ret (v := .agg #[.int .i64 (shP op).1, .int .u32 (shP op).2.1, .int .u32 (shP op).2.2]) (by simp [results, Tryz.results270, go_sem]) rfl ⟨rfl, (Grown.refl w).alloc _ _⟩
  · obtain ⟨c0, c1, c2⟩ := hT.late op (by omega) h1
    clear hT
    have h2' : 28 ≤ op := by omega
    clear h2
    go_enter Tryz.func270, Tryz.ntmps270
    go_wp2
    exact bodyPost_ret (v := .agg #[.int .i64 (shP op).1, .int .u32 (shP op).2.1, .int .u32 (shP op).2.2]) (by simp [results, Tryz.results270, go_sem]) rfl ⟨rfl, (Grown.refl w).alloc _ _⟩

def ofP (op : Int) : Int × Int × Int := if op ≤ 0 ∨ 68 ≤ op then (0, 0, 0) else shP op
theorem of_any (op : Int) (w : World) (hT : Tab w) : Calls Tryz.prog 225 #[.int .i64 op] w (Shaped (ofP op) w) := by
  by_cases h1 : op ≤ 0 ∨ 68 ≤ op
  · have e : ofP op = (0, 0, 0) := by unfold ofP; rw [if_pos h1]
    rw [e]
    clear e hT
    rcases h1 with h1 | h1
    all_goals
      go_enter Tryz.func225, Tryz.ntmps225
      go_wp2
      exact bodyPost_ret (v := .agg #[.int .i64 0, .int .u32 0, .int .u32 0]) (by simp [results, Tryz.results225, go_sem]) rfl ⟨rfl, (Grown.refl w).alloc _ _⟩
  · have e : ofP op = shP op := by unfold ofP; rw [if_neg h1]
    rw [e]
    have h2 : 1 ≤ op := by omega
    have h3 : op < 68 := by omega
    have HS := Lib.hid (fun w1 (hT1 : Tab w1) => shaped_any op (by omega) h3 w1 hT1)
    have HT := Lib.hid hT
    clear e hT h1
    have HG := Lib.hid ((Grown.refl w).alloc #[.int .i64 0, .int .u32 0, .int .u32 0] 394)
    go_enter Tryz.func225, Tryz.ntmps225
    go_wp2_with fail
    refine (HS.out _ (HT.out.grown HG.out)).mono ?_
    rintro e w1 ⟨rfl, hg⟩
    have HG2 := Lib.hid (grown_trans HG.out hg)
    have k0 := grown_cell hg (World.cell?_alloc_new w #[.int .i64 0, .int .u32 0, .int .u32 0] 394 0)
    have k1 := grown_cell hg (World.cell?_alloc_new w #[.int .i64 0, .int .u32 0, .int .u32 0] 394 1)
    have k2 := grown_cell hg (World.cell?_alloc_new w #[.int .i64 0, .int .u32 0, .int .u32 0] 394 2)
    have f0 : ∀ i, w1.frozen? ⟨w.heap.size, i, none⟩ = false := fun i => (blk_grown (Go.XHeap.Blk.new w _ _) hg).frozen i
    clear hg
    go_wp2
    exact bodyPost_ret (v := .agg #[.int .i64 (shP op).1, .int .u32 (shP op).2.1, .int .u32 (shP op).2.2]) (by simp [results, Tryz.results225, go_sem, k0, k1, k2]) rfl
      ⟨rfl, (((HG2.out).setCell (by simp) _).setCell (by simp) _).setCell (by simp) _⟩

theorem field0 (a b c : Int) (w : World) : (Instr.field 394 (.agg #[.int .i64 a, .int .u32 b, .int .u32 c]) 0).run Tryz.prog w = .ok (.int .i64 a) w := by kernel_rfl
def classP (op : Int) : Int :=
  if 38 ≤ op ∧ op ≤ 45 then 1 else if op = 4 then 3 else
  let f := (ofP op).1
  if f = 1 ∨ f = 6 ∨ f = 7 ∨ f = 8 then 0 else if f = 2 then 3 else if f = 3 then 2 else if f = 4 then 4 else if f = 5 then 5 else if f = 9 ∨ f = 10 then 6 else 7
theorem pclass_any (op : Int) (w : World) (hT : Tab w) : Calls Tryz.prog 188 #[.int .i64 op] w fun e w' => e = .returned (.int .i64 (classP op)) ∧ Grown w w' := by
  have HO := Lib.hid (of_any op w hT)
  have HG := Lib.hid (Grown.refl w)
  have hfld := field0
  clear hT
  go_enter Tryz.func188, Tryz.ntmps188
  go_wp2_with (go_at_call 225; refine HO.out.mono ?_; rintro e w1 ⟨rfl, hg⟩; have HG := Lib.hid hg; clear hg)
  all_goals
    go_ret
    refine ⟨congrArg (fun x => Ending.returned (.int .i64 x)) ?_, HG.out⟩
    clear HG HO hfld
    unfold classP
    go_tidy
    simp only [beq_iff_eq, beq_eq_false_iff_ne] at *
    first
      | (simp_all; done)
      | (simp_all; omega)
def readsP (op : Int) : Bool × Bool :=
  let f := (ofP op).1
  if f = 3 ∨ f = 5 ∨ f = 8 ∨ f = 9 then (true, true) else if f = 4 ∨ f = 6 ∨ f = 7 ∨ f = 10 ∨ f = 12 then (true, false) else (false, false)
theorem two_bools {a b : Bool} {x : Bool × Bool} (h : (a, b) = x) : Ending.returned (.tuple #[.bool a, .bool b]) = .returned (.tuple #[.bool x.1, .bool x.2]) := by rw [← h]
theorem preads_any (op : Int) (w : World) (hT : Tab w) : Calls Tryz.prog 174 #[.int .i64 op] w fun e w' => e = .returned (.tuple #[.bool (readsP op).1, .bool (readsP op).2]) ∧ Grown w w' := by
  have HO := Lib.hid (of_any op w hT)
  have HG := Lib.hid (Grown.refl w)
  have hfld := field0
  clear hT
  go_enter Tryz.func174, Tryz.ntmps174
  go_wp2_with (go_at_call 225; refine HO.out.mono ?_; rintro e w1 ⟨rfl, hg⟩; have HG := Lib.hid hg; clear hg)
  all_goals
    go_ret2
    refine ⟨two_bools ?_, HG.out⟩
    clear HG HO hfld
    unfold readsP
    go_tidy
    simp only [beq_iff_eq, beq_eq_false_iff_ne] at *
    first
      | (simp_all; done)
      | (simp_all; omega)
def writesP (op : Int) : Bool :=
  let f := (ofP op).1
  if f = 0 ∨ f = 3 ∨ f = 5 ∨ f = 11 then false else true
theorem pwrites_any (op : Int) (w : World) (hT : Tab w) : Calls Tryz.prog 170 #[.int .i64 op] w fun e w' => e = .returned (.bool (writesP op)) ∧ Grown w w' := by
  have HO := Lib.hid (of_any op w hT)
  have HG := Lib.hid (Grown.refl w)
  have hfld := field0
  clear hT
  go_enter Tryz.func170, Tryz.ntmps170
  go_wp2_with (go_at_call 225; refine HO.out.mono ?_; rintro e w1 ⟨rfl, hg⟩; have HG := Lib.hid hg; clear hg)
  all_goals
    go_ret
    refine ⟨congrArg (fun x => Ending.returned (.bool x)) ?_, HG.out⟩
    clear HG HO hfld
    unfold writesP
    go_tidy
    simp only [beq_iff_eq, beq_eq_false_iff_ne] at *
    first
      | (simp_all; done)
      | (simp_all; omega)
end Go.Proofs.YthacioiefgabbaaGreatDoor
/- Part D: what operations read and write; the law of kinds. -/
namespace Go.Proofs.YthacioiefgabbaaGreatDoor
open Go.RowKit
set_option linter.unusedVariables false
set_option maxRecDepth 100000

end Go.Proofs.YthacioiefgabbaaGreatDoor
