/- A range over a closure with captured values ('for l := range c.Lines()'): its law, with invariants in the style of XTouch. No condition. -/
import Derived.RangeFuncNested
import Derived.RangeFuncLeaves
import Derived.Shelf.Abstract
import Derived.Test.YtbiogceijdcoiaaXHeap
namespace Go.RangeC
open Go.RowKit Go.XHeap Go.Shelf
set_option linter.unusedVariables false
variable {P : Program} {n : Nat}

/-- a function that hands out enc 0, enc 1 .. enc (N - 1), and reads, between two rounds, what Inv says -/
def Gives (n : Nat) (P : Program) (gf : Nat) (lb : Array Value) (N : Nat) (enc : Nat → Value) (Inv : World → Prop) : Prop :=
  ∀ (l : Nat) (J : Nat → World → Prop) (Jx : World → Prop) (W : World),
    (∀ k A B, J k A → XTouch (fun _ => False) A B → J k B) → (∀ A B, Jx A → XTouch (fun _ => False) A B → Jx B) → (∀ k A, J k A → Inv A) →
    (∀ k A, k < N → J k A → YieldAt Fence.wide n P l #[enc k] A fun e B => (e = .returned (.bool true) ∧ J (k + 1) B) ∨ (e = .returned (.bool false) ∧ Jx B)) →
    J 0 W → Calls P gf (#[.func (.yield l) #[] #[]] ++ lb) W fun e B => (∃ v, e = .returned v) ∧ (J N B ∨ Jx B)
/-- the two blocks that the loop lays lie as they lay -/
def Two (w W W' : World) : Prop := ∀ q, q = w.heap.size ∨ q = w.heap.size + 1 → W'.heap[q]? = W.heap[q]?
def Rec (w : World) : Nat → Prop := fun q => q = w.heap.size ∨ q = w.heap.size + 1
/-- how a round may be left -/
def roundEnd (w : World) (I : Nat → World → Prop) (Ix : Code → World → Prop) (k : Nat) (W : World) : Exit → Act → World → Prop
  | .normal, _, W' => Two w W W' ∧ I (k + 1) W'
  | .ret, _, W' => Two w W W' ∧ Ix .ret W'
  | .exit id, _, W' => Two w W W' ∧ Ix (.exit id) W'
  | .goto t, _, W' => Two w W W' ∧ Ix (.goto t) W'
  | .panic _, _, _ => False
  | .outgrown, _, _ => False
theorem touch_putObj (W : World) (l : Nat) (o : Obj) : XTouch (fun q => q = l) W (W.putObj l o) :=
  ⟨rfl, rfl, rfl, by simp [World.putObj], fun q _ hn => World.putObj_heap_other (fun e => hn (by rw [e]))⟩
theorem range_m {g : Operand} {p : Tmp} {assign body : Code} {Q : Exit → Act → World → Prop} {a : Act} {w : World} {gf : Nat} {lb : Array Value} {N : Nat} {enc : Nat → Value} {Inv : World → Prop}
    (hg : a.eval g = .func (.func gf) #[] lb) (eg : ∀ args w, (callFunc gf args).run P w = .ok (.enter gf args) w) (hgive : Gives n P gf lb N enc Inv)
    (I : Nat → World → Prop) (Ix : Code → World → Prop) (Asg : Nat → Act → World → Prop) (hI : ∀ k A B, I k A → XTouch (Rec w) A B → I k B) (hIx : ∀ c A B, Ix c A → XTouch (Rec w) A B → Ix c B) (hAsg : ∀ k a A B, Asg k a A → XTouch (Rec w) A B → Asg k a B) (hInv : ∀ k A, I k A → Inv A) (h0 : I 0 w)
    (hassign : ∀ (l k : Nat) (W : World) (K : Act → World → Prop), k < N → I k W → w.heap.size + 2 ≤ W.heap.size → (∀ a' W', Asg k a' W' → Two w W W' → W.heap.size ≤ W'.heap.size → K a' W') → assign.wpIn (Fence.wide.inRound l) n P (Exit.then K (fun _ _ _ => False)) { tmps := a.tmps.setIfInBounds p (enc k), defers := [] } W)
    (hbody : ∀ (l k : Nat) (a' : Act) (W : World), k < N → Asg k a' W → w.heap.size + 2 ≤ W.heap.size → body.wpIn (Fence.wide.inRound l) n P (roundEnd w I Ix k W) a' W)
    (hdone : ∀ W : World, I N W → W.heap[w.heap.size]? = some (.deferred (some [])) → Q .normal { a with defers := { target := .collected w.heap.size, args := #[] } :: a.defers } W)
    (hstop : ∀ (c : Code) (W : World), Ix c W → W.heap[w.heap.size]? = some (.deferred (some [])) → c.wpIn Fence.wide n P Q { a with defers := { target := .collected w.heap.size, args := #[] } :: a.defers } W) :
    (Code.rangeFunc g #[p] assign body).wpIn Fence.wide n P Q a w := by
  refine wpIn_rangeFunc fun fn hfn => ?_
  obtain ⟨rc, hrc⟩ : ∃ rc : LoopState → Option Code → Loop, rc = fun st pe => { state := st, pending := pe, fn, tmps := a.tmps, params := #[p], assign, body, defers := w.heap.size } := ⟨_, rfl⟩
  obtain ⟨W1, hW1⟩ : ∃ W1, (w.alloc (.deferred (some []))).alloc (.loop (rc .ready none)) = W1 := ⟨_, rfl⟩
  have hsz : (w.alloc (.deferred (some []))).heap.size = w.heap.size + 1 := by simp
  have hl1 : W1.heap[w.heap.size + 1]? = some (.loop (rc .ready none)) := by
    rw [← hW1, ← hsz]; exact World.alloc_heap_new _ _
  have hd1 : W1.heap[w.heap.size]? = some (.deferred (some [])) := by
    rw [← hW1]; exact (Below.heap_alloc _ _ _ (by simp)).trans (World.alloc_heap_new w _)
  have ht1 : XTouch (Rec w) w W1 := by
    rw [← hW1]
    exact ((XTouch.refl (Rec w) w).alloc _).alloc _
  refine ⟨w.heap.size + 1, [{ target := .collected w.heap.size, args := #[] }], W1, { target := .fn (.func gf) lb, args := #[.func (.yield (w.heap.size + 1)) #[] #[]] }, W1, gf, #[.func (.yield (w.heap.size + 1)) #[] #[]] ++ lb, W1, ?_, ?_, ?_, ?_, ?_, ?_⟩
  · rw [← hW1, hrc]; exact run_enterLoop_outer _ _ _ _ _
  · simp only [resolve, hg]
    simp [go_sem]
  · intro f' hf'; trivial
  · simp [invoke, go_sem, eg]
  · intro h; cases h
  have rcb : ∀ st pe, ({ rc .ready none with state := st, pending := pe } : Loop) = rc st pe := by intro st pe; rw [hrc]
  refine callsIn_wide.2 ((hgive (w.heap.size + 1)
      (fun k W => I k W ∧ W.heap[w.heap.size + 1]? = some (.loop (rc .ready none)) ∧ W.heap[w.heap.size]? = some (.deferred (some [])))
      (fun W => ∃ c, Ix c W ∧ W.heap[w.heap.size + 1]? = some (.loop (rc .done (some c))) ∧ W.heap[w.heap.size]? = some (.deferred (some [])))
      W1 ?_ ?_ (fun k A h => hInv k A h.1) ?_ ⟨hI 0 w W1 h0 ht1, hl1, hd1⟩).mono ?_)
  · rintro k A B ⟨hi, hl, hd⟩ ht
    have hlt : ∀ {q o}, A.heap[q]? = some o → q < A.heap.size := fun h => (Array.getElem?_eq_some_iff.1 h).1
    exact ⟨hI k A B hi (ht.mono fun _ _ e => e.elim), (ht.block _ (hlt hl) id).trans hl, (ht.block _ (hlt hd) id).trans hd⟩
  · rintro A B ⟨c, hi, hl, hd⟩ ht
    have hlt : ∀ {q o}, A.heap[q]? = some o → q < A.heap.size := fun h => (Array.getElem?_eq_some_iff.1 h).1
    exact ⟨c, hIx c A B hi (ht.mono fun _ _ e => e.elim), (ht.block _ (hlt hl) id).trans hl, (ht.block _ (hlt hd) id).trans hd⟩
  · -- a round
    rintro k W hk ⟨hi, hl, hd⟩
    have hlt : w.heap.size + 1 < W.heap.size := (Array.getElem?_eq_some_iff.1 hl).1
    have hy : (Instr.yield (w.heap.size + 1) #[enc k]).run P W = .ok (.round (w.heap.size + 1) fn (a.tmps.setIfInBounds p (enc k)) assign body) W := by
      have hy := run_yield (P := P) (args := #[enc k]) hl (by rw [hrc]; rfl)
      rw [hrc] at hy
      simpa using hy
    refine ⟨fn, _, assign, body, hy, roundIn_of_wpIn hfn ?_⟩
    refine hassign (w.heap.size + 1) k W _ hk hi (by omega) ?_
    intro a' W' hasg htwo hgr
    have hl' := (htwo _ (.inr rfl)).trans hl
    have hd' := (htwo _ (.inl rfl)).trans hd
    have hlt' : w.heap.size + 1 < W'.heap.size := (Array.getElem?_eq_some_iff.1 hl').1
    have hl2 : (W'.putObj (w.heap.size + 1) (.loop (rc .busy none))).heap[w.heap.size + 1]? = some (.loop (rc .busy none)) := World.putObj_heap_same hlt'
    have hd2 : (W'.putObj (w.heap.size + 1) (.loop (rc .busy none))).heap[w.heap.size]? = some (.deferred (some [])) := (World.putObj_heap_other (by omega)).trans hd'
    have hbr : (Instr.beginRound (w.heap.size + 1)).run P W' = .ok () (W'.putObj (w.heap.size + 1) (.loop (rc .busy none))) := by
      have := run_beginRound (P := P) hl' (by rw [hrc])
      rw [hrc] at this ⊢
      exact this
    have hi2 : Asg k a' (W'.putObj (w.heap.size + 1) (.loop (rc .busy none))) := hAsg k a' _ _ hasg ((touch_putObj W' _ _).mono fun q _ e => .inr e)
    refine ⟨_, hbr, ?_⟩
    refine wpIn_mono (hbody _ k a' _ hk hi2 (by simp [World.putObj]; omega)) ?_
    have fin : ∀ (jump : Option Code) (W3 : World), Two w (W'.putObj (w.heap.size + 1) (.loop (rc .busy none))) W3 →
        (Instr.endRound (w.heap.size + 1) jump).run P W3 = .ok (.bool jump.isNone) (W3.putObj (w.heap.size + 1) (.loop (rc (if jump.isNone then .ready else .done) jump))) ∧
        XTouch (Rec w) W3 (W3.putObj (w.heap.size + 1) (.loop (rc (if jump.isNone then .ready else .done) jump))) ∧
        (W3.putObj (w.heap.size + 1) (.loop (rc (if jump.isNone then .ready else .done) jump))).heap[w.heap.size + 1]? = some (.loop (rc (if jump.isNone then .ready else .done) jump)) ∧
        (W3.putObj (w.heap.size + 1) (.loop (rc (if jump.isNone then .ready else .done) jump))).heap[w.heap.size]? = some (.deferred (some [])) := fun jump W3 h3 => by
      have hl3 := (h3 _ (.inr rfl)).trans hl2
      have hd3 := (h3 _ (.inl rfl)).trans hd2
      have hr := run_endRound (P := P) jump hl3
      rw [hrc] at hr ⊢
      exact ⟨hr, (touch_putObj W3 _ _).mono fun q _ e => .inr e, World.putObj_heap_same (Array.getElem?_eq_some_iff.1 hl3).1, (World.putObj_heap_other (by omega)).trans hd3⟩
    rintro e a3 W3 hp
    cases e with
    | normal =>
      obtain ⟨h1, h2, h3, h4⟩ := fin none W3 hp.1
      exact ⟨_, _, h1, .inl ⟨rfl, hI _ _ _ hp.2 h2, h3, h4⟩⟩
    | ret =>
      obtain ⟨h1, h2, h3, h4⟩ := fin (some .ret) W3 hp.1
      exact ⟨_, _, h1, .inr ⟨rfl, .ret, hIx _ _ _ hp.2 h2, h3, h4⟩⟩
    | exit id =>
      obtain ⟨h1, h2, h3, h4⟩ := fin (some (.exit id)) W3 hp.1
      exact ⟨_, _, h1, .inr ⟨rfl, .exit id, hIx _ _ _ hp.2 h2, h3, h4⟩⟩
    | goto t =>
      obtain ⟨h1, h2, h3, h4⟩ := fin (some (.goto t)) W3 hp.1
      exact ⟨_, _, h1, .inr ⟨rfl, .goto t, hIx _ _ _ hp.2 h2, h3, h4⟩⟩
    | panic ch => exact hp.elim
    | outgrown => exact hp.elim
  · -- behind it
    rintro e W2 ⟨⟨v, rfl⟩, (⟨hi, hl, hd⟩ | ⟨c, hi, hl, hd⟩)⟩
    · have hr := run_endLoop (P := P) hl (by rw [hrc]; simp)
      refine ⟨none, W2.putObj (w.heap.size + 1) (.loop (rc .exhausted none)), by rw [hrc] at hr ⊢; exact hr, hdone _ (hI _ _ _ hi ((touch_putObj W2 _ _).mono fun q _ e => .inr e)) ((World.putObj_heap_other (by omega)).trans hd)⟩
    · have hr := run_endLoop (P := P) hl (by rw [hrc]; simp)
      refine ⟨some c, W2.putObj (w.heap.size + 1) (.loop (rc .exhausted (some c))), by rw [hrc] at hr ⊢; exact hr, hstop c _ (hIx _ _ _ hi ((touch_putObj W2 _ _).mono fun q _ e => .inr e)) ((World.putObj_heap_other (by omega)).trans hd)⟩
end Go.RangeC
