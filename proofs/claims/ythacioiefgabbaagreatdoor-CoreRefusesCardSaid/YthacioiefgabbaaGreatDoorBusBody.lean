import Derived.RangeFuncNested
import Derived.RangeFuncLeaves
import Derived.Shelf.Abstract
import Derived.Test.YthacioiefgabbaaGreatDoorXHeap
import Derived.Test.YthacioiefgabbaaGreatDoorBusE
import Derived.RangeFuncBound
import Derived.RangeFuncCalls
import Derived.Shelf.RegionOpen
import Derived.WalkKit
import Derived.OwnWalkIn
import Derived.TacticsInMore
import Derived.LoopNIn
import Derived.LoopIn
import Derived.Test.YthacioiefgabbaaGreatDoorSxB
import Derived.Test.YthacioiefgabbaaGreatDoorWinD
import Derived.Test.YthacioiefgabbaaGreatDoorChecked
/- A range over a closure with captured values ('for l := range c.Lines()'): its law, with invariants in the style of XTouch. No condition. -/
namespace Go.RangeC
open Go.RowKit Go.XHeap Go.Shelf
set_option linter.unusedVariables false
variable {P : Program} {n : Nat}

/-- a function that hands out enc 0, enc 1 .. enc (N - 1), and reads, between two rounds, what Inv says -/
def Gives (n : Nat) (P : Program) (gf : Nat) (lb : Array Value) (N : Nat) (enc : Nat → Value) (Inv : World → Prop) : Prop :=
  ∀ (l : Nat) (J : Nat → World → Prop) (Jx : World → Prop) (W : World),
    (∀ k A B, J k A → XTouch (fun _ => False) A B → J k B) → (∀ A B, Jx A → XTouch (fun _ => False) A B → Jx B) → (∀ k A, J k A → Inv A) →
    (∀ k A, k < N → J k A → YieldAt Fence.wide n P l #[enc k] A fun e B => (e = .returned (.bool true) ∧ J (k + 1) B) ∨ (e = .returned (.bool false) ∧ Jx B)) →
    J 0 W → Calls P gf (#[.func (.yield l) #[] #[]] ++ lb) W fun e B => (∃ v, e = .returned v) ∧ (J N B ∨ Jx B)
/-- the two blocks that the loop lays lie as they lay -/
def Two (w W W' : World) : Prop := ∀ q, q = w.heap.size ∨ q = w.heap.size + 1 → W'.heap[q]? = W.heap[q]?
def Rec (w : World) : Nat → Prop := fun q => q = w.heap.size ∨ q = w.heap.size + 1
/-- how a round may be left -/
def roundEnd (w : World) (I : Nat → World → Prop) (Ix : Code → World → Prop) (k : Nat) (W : World) : Exit → Act → World → Prop
  | .normal, _, W' => Two w W W' ∧ I (k + 1) W'
  | .ret, _, W' => Two w W W' ∧ Ix .ret W'
  | .exit id, _, W' => Two w W W' ∧ Ix (.exit id) W'
  | .goto t, _, W' => Two w W W' ∧ Ix (.goto t) W'
  | .panic _, _, _ => False
  | .outgrown, _, _ => False
theorem touch_putObj (W : World) (l : Nat) (o : Obj) : XTouch (fun q => q = l) W (W.putObj l o) :=
  ⟨rfl, rfl, rfl, by simp [World.putObj], fun q _ hn => World.putObj_heap_other (fun e => hn (by rw [e]))⟩
theorem range_m {g : Operand} {p : Tmp} {assign body : Code} {Q : Exit → Act → World → Prop} {a : Act} {w : World} {gf : Nat} {lb : Array Value} {N : Nat} {enc : Nat → Value} {Inv : World → Prop}
    (hg : a.eval g = .func (.func gf) #[] lb) (eg : ∀ args w, (callFunc gf args).run P w = .ok (.enter gf args) w) (hgive : Gives n P gf lb N enc Inv)
    (I : Nat → World → Prop) (Ix : Code → World → Prop) (Asg : Nat → Act → World → Prop) (hI : ∀ k A B, I k A → XTouch (Rec w) A B → I k B) (hIx : ∀ c A B, Ix c A → XTouch (Rec w) A B → Ix c B) (hAsg : ∀ k a A B, Asg k a A → XTouch (Rec w) A B → Asg k a B) (hInv : ∀ k A, I k A → Inv A) (h0 : I 0 w)
    (hassign : ∀ (l k : Nat) (W : World) (K : Act → World → Prop), k < N → I k W → w.heap.size + 2 ≤ W.heap.size → (∀ a' W', Asg k a' W' → Two w W W' → W.heap.size ≤ W'.heap.size → K a' W') → assign.wpIn (Fence.wide.inRound l) n P (Exit.then K (fun _ _ _ => False)) { tmps := a.tmps.setIfInBounds p (enc k), defers := [] } W)
    (hbody : ∀ (l k : Nat) (a' : Act) (W : World), k < N → Asg k a' W → w.heap.size + 2 ≤ W.heap.size → body.wpIn (Fence.wide.inRound l) n P (roundEnd w I Ix k W) a' W)
    (hdone : ∀ W : World, I N W → W.heap[w.heap.size]? = some (.deferred (some [])) → Q .normal { a with defers := { target := .collected w.heap.size, args := #[] } :: a.defers } W)
    (hstop : ∀ (c : Code) (W : World), Ix c W → W.heap[w.heap.size]? = some (.deferred (some [])) → c.wpIn Fence.wide n P Q { a with defers := { target := .collected w.heap.size, args := #[] } :: a.defers } W) :
    (Code.rangeFunc g #[p] assign body).wpIn Fence.wide n P Q a w := by
  refine wpIn_rangeFunc fun fn hfn => ?_
  obtain ⟨rc, hrc⟩ : ∃ rc : LoopState → Option Code → Loop, rc = fun st pe => { state := st, pending := pe, fn, tmps := a.tmps, params := #[p], assign, body, defers := w.heap.size } := ⟨_, rfl⟩
  obtain ⟨W1, hW1⟩ : ∃ W1, (w.alloc (.deferred (some []))).alloc (.loop (rc .ready none)) = W1 := ⟨_, rfl⟩
  have hsz : (w.alloc (.deferred (some []))).heap.size = w.heap.size + 1 := by simp
  have hl1 : W1.heap[w.heap.size + 1]? = some (.loop (rc .ready none)) := by
    rw [← hW1, ← hsz]; exact World.alloc_heap_new _ _
  have hd1 : W1.heap[w.heap.size]? = some (.deferred (some [])) := by
    rw [← hW1]; exact (Below.heap_alloc _ _ _ (by simp)).trans (World.alloc_heap_new w _)
  have ht1 : XTouch (Rec w) w W1 := by
    rw [← hW1]
    exact ((XTouch.refl (Rec w) w).alloc _).alloc _
  refine ⟨w.heap.size + 1, [{ target := .collected w.heap.size, args := #[] }], W1, { target := .fn (.func gf) lb, args := #[.func (.yield (w.heap.size + 1)) #[] #[]] }, W1, gf, #[.func (.yield (w.heap.size + 1)) #[] #[]] ++ lb, W1, ?_, ?_, ?_, ?_, ?_, ?_⟩
  · rw [← hW1, hrc]; exact run_enterLoop_outer _ _ _ _ _
  · simp only [resolve, hg]
    simp [go_sem]
  · intro f' hf'; trivial
  · simp [invoke, go_sem, eg]
  · intro h; cases h
  have rcb : ∀ st pe, ({ rc .ready none with state := st, pending := pe } : Loop) = rc st pe := by intro st pe; rw [hrc]
  refine callsIn_wide.2 ((hgive (w.heap.size + 1)
      (fun k W => I k W ∧ W.heap[w.heap.size + 1]? = some (.loop (rc .ready none)) ∧ W.heap[w.heap.size]? = some (.deferred (some [])))
      (fun W => ∃ c, Ix c W ∧ W.heap[w.heap.size + 1]? = some (.loop (rc .done (some c))) ∧ W.heap[w.heap.size]? = some (.deferred (some [])))
      W1 ?_ ?_ (fun k A h => hInv k A h.1) ?_ ⟨hI 0 w W1 h0 ht1, hl1, hd1⟩).mono ?_)
  · rintro k A B ⟨hi, hl, hd⟩ ht
    have hlt : ∀ {q o}, A.heap[q]? = some o → q < A.heap.size := fun h => (Array.getElem?_eq_some_iff.1 h).1
    exact ⟨hI k A B hi (ht.mono fun _ _ e => e.elim), (ht.block _ (hlt hl) id).trans hl, (ht.block _ (hlt hd) id).trans hd⟩
  · rintro A B ⟨c, hi, hl, hd⟩ ht
    have hlt : ∀ {q o}, A.heap[q]? = some o → q < A.heap.size := fun h => (Array.getElem?_eq_some_iff.1 h).1
    exact ⟨c, hIx c A B hi (ht.mono fun _ _ e => e.elim), (ht.block _ (hlt hl) id).trans hl, (ht.block _ (hlt hd) id).trans hd⟩
  · -- a round
    rintro k W hk ⟨hi, hl, hd⟩
    have hlt : w.heap.size + 1 < W.heap.size := (Array.getElem?_eq_some_iff.1 hl).1
    have hy : (Instr.yield (w.heap.size + 1) #[enc k]).run P W = .ok (.round (w.heap.size + 1) fn (a.tmps.setIfInBounds p (enc k)) assign body) W := by
      have hy := run_yield (P := P) (args := #[enc k]) hl (by rw [hrc]; rfl)
      rw [hrc] at hy
      simpa using hy
    refine ⟨fn, _, assign, body, hy, roundIn_of_wpIn hfn ?_⟩
    refine hassign (w.heap.size + 1) k W _ hk hi (by omega) ?_
    intro a' W' hasg htwo hgr
    have hl' := (htwo _ (.inr rfl)).trans hl
    have hd' := (htwo _ (.inl rfl)).trans hd
    have hlt' : w.heap.size + 1 < W'.heap.size := (Array.getElem?_eq_some_iff.1 hl').1
    have hl2 : (W'.putObj (w.heap.size + 1) (.loop (rc .busy none))).heap[w.heap.size + 1]? = some (.loop (rc .busy none)) := World.putObj_heap_same hlt'
    have hd2 : (W'.putObj (w.heap.size + 1) (.loop (rc .busy none))).heap[w.heap.size]? = some (.deferred (some [])) := (World.putObj_heap_other (by omega)).trans hd'
    have hbr : (Instr.beginRound (w.heap.size + 1)).run P W' = .ok () (W'.putObj (w.heap.size + 1) (.loop (rc .busy none))) := by
      have := run_beginRound (P := P) hl' (by rw [hrc])
      rw [hrc] at this ⊢
      exact this
    have hi2 : Asg k a' (W'.putObj (w.heap.size + 1) (.loop (rc .busy none))) := hAsg k a' _ _ hasg ((touch_putObj W' _ _).mono fun q _ e => .inr e)
    refine ⟨_, hbr, ?_⟩
    refine wpIn_mono (hbody _ k a' _ hk hi2 (by simp [World.putObj]; omega)) ?_
    have fin : ∀ (jump : Option Code) (W3 : World), Two w (W'.putObj (w.heap.size + 1) (.loop (rc .busy none))) W3 →
        (Instr.endRound (w.heap.size + 1) jump).run P W3 = .ok (.bool jump.isNone) (W3.putObj (w.heap.size + 1) (.loop (rc (if jump.isNone then .ready else .done) jump))) ∧
        XTouch (Rec w) W3 (W3.putObj (w.heap.size + 1) (.loop (rc (if jump.isNone then .ready else .done) jump))) ∧
        (W3.putObj (w.heap.size + 1) (.loop (rc (if jump.isNone then .ready else .done) jump))).heap[w.heap.size + 1]? = some (.loop (rc (if jump.isNone then .ready else .done) jump)) ∧
        (W3.putObj (w.heap.size + 1) (.loop (rc (if jump.isNone then .ready else .done) jump))).heap[w.heap.size]? = some (.deferred (some [])) := fun jump W3 h3 => by
      have hl3 := (h3 _ (.inr rfl)).trans hl2
      have hd3 := (h3 _ (.inl rfl)).trans hd2
      have hr := run_endRound (P := P) jump hl3
      rw [hrc] at hr ⊢
      exact ⟨hr, (touch_putObj W3 _ _).mono fun q _ e => .inr e, World.putObj_heap_same (Array.getElem?_eq_some_iff.1 hl3).1, (World.putObj_heap_other (by omega)).trans hd3⟩
    rintro e a3 W3 hp
    cases e with
    | normal =>
      obtain ⟨h1, h2, h3, h4⟩ := fin none W3 hp.1
      exact ⟨_, _, h1, .inl ⟨rfl, hI _ _ _ hp.2 h2, h3, h4⟩⟩
    | ret =>
      obtain ⟨h1, h2, h3, h4⟩ := fin (some .ret) W3 hp.1
      exact ⟨_, _, h1, .inr ⟨rfl, .ret, hIx _ _ _ hp.2 h2, h3, h4⟩⟩
    | exit id =>
      obtain ⟨h1, h2, h3, h4⟩ := fin (some (.exit id)) W3 hp.1
      exact ⟨_, _, h1, .inr ⟨rfl, .exit id, hIx _ _ _ hp.2 h2, h3, h4⟩⟩
    | goto t =>
      obtain ⟨h1, h2, h3, h4⟩ := fin (some (.goto t)) W3 hp.1
      exact ⟨_, _, h1, .inr ⟨rfl, .goto t, hIx _ _ _ hp.2 h2, h3, h4⟩⟩
    | panic ch => exact hp.elim
    | outgrown => exact hp.elim
  · -- behind it
    rintro e W2 ⟨⟨v, rfl⟩, (⟨hi, hl, hd⟩ | ⟨c, hi, hl, hd⟩)⟩
    · have hr := run_endLoop (P := P) hl (by rw [hrc]; simp)
      refine ⟨none, W2.putObj (w.heap.size + 1) (.loop (rc .exhausted none)), by rw [hrc] at hr ⊢; exact hr, hdone _ (hI _ _ _ hi ((touch_putObj W2 _ _).mono fun q _ e => .inr e)) ((World.putObj_heap_other (by omega)).trans hd)⟩
    · have hr := run_endLoop (P := P) hl (by rw [hrc]; simp)
      refine ⟨some c, W2.putObj (w.heap.size + 1) (.loop (rc .exhausted (some c))), by rw [hrc] at hr ⊢; exact hr, hstop c _ (hIx _ _ _ hi ((touch_putObj W2 _ _).mono fun q _ e => .inr e)) ((World.putObj_heap_other (by omega)).trans hd)⟩
end Go.RangeC
/- The bus, part G: a cache's lines, one by one. No condition. -/
namespace Go.Proofs.YthacioiefgabbaaGreatDoor.cbus
open Go.RowKit Go.XHeap Go.Sx Go.Sep Go.RangeC Go.Shelf
attribute [local go_sem] Oper.semAt_some
set_option linter.unusedVariables false
set_option maxRecDepth 100000
variable {W w : World} {b m : Nat} {B : BP} {S S' : PB} {L : List Asn}
/-- all lines, in order -/
def CS.ways (C : CS) : List Way := C.sets.flatten.filter Way.valid
def CS.upto (C : CS) (i j : Nat) : List Way := (C.sets.take i).flatten ++ (C.set_ i).take j
def CS.cnt (C : CS) (i j : Nat) : Nat := ((C.upto i j).filter Way.valid).length
theorem filter_at {α : Type} {p : α → Bool} {l1 l2 : List α} {y : α} (h : p y = true) : ((l1 ++ y :: l2).filter p)[(l1.filter p).length]? = some y := by
  rw [List.filter_append, List.filter_cons, if_pos h, List.getElem?_append_right (Nat.le_refl _), Nat.sub_self]; rfl
theorem upto_split {C : CS} (ho : C.Ok) {i j : Nat} {y : Way} (hi : i < C.S) (hj : (C.set_ i)[j]? = some y) : C.sets.flatten = C.upto i j ++ y :: ((C.set_ i).drop (j + 1) ++ (C.sets.drop (i + 1)).flatten) := by
  have h1 := CS.set_at ho hi
  obtain ⟨hil, h1⟩ := List.getElem?_eq_some_iff.1 h1
  obtain ⟨hjl, h2⟩ := List.getElem?_eq_some_iff.1 hj
  have e1 : C.sets = C.sets.take i ++ C.set_ i :: C.sets.drop (i + 1) := by
    conv => lhs; rw [← List.take_append_drop i C.sets, List.drop_eq_getElem_cons hil, h1]
  have e2 : C.set_ i = (C.set_ i).take j ++ y :: (C.set_ i).drop (j + 1) := by
    conv => lhs; rw [← List.take_append_drop j (C.set_ i), List.drop_eq_getElem_cons hjl, h2]
  conv => lhs; rw [e1, List.flatten_append, List.flatten_cons]
  conv => lhs; rw [e2]
  unfold CS.upto
  simp
theorem way_at {C : CS} (ho : C.Ok) {i j : Nat} {y : Way} (hi : i < C.S) (hj : (C.set_ i)[j]? = some y) (hv : y.valid = true) : C.ways[C.cnt i j]? = some y := by
  unfold CS.ways CS.cnt
  rw [upto_split ho hi hj]
  exact filter_at hv
theorem cnt_step {C : CS} {i j : Nat} {y : Way} (hj : (C.set_ i)[j]? = some y) : C.cnt i (j + 1) = if y.valid = true then C.cnt i j + 1 else C.cnt i j := by
  unfold CS.cnt CS.upto
  rw [List.take_add_one, hj]
  simp only [Option.toList_some, List.filter_append, List.length_append]
  by_cases h : y.valid = true
  · rw [if_pos h, List.filter_cons, if_pos h]; simp; omega
  · rw [if_neg h, List.filter_cons, if_neg h]; simp
theorem cnt_zero {C : CS} : C.cnt 0 0 = 0 := by simp [CS.cnt, CS.upto]
theorem cnt_row {C : CS} (ho : C.Ok) {i : Nat} (hi : i < C.S) : C.cnt (i + 1) 0 = C.cnt i C.N := by
  have h1 := CS.set_at ho hi
  have hN : (C.set_ i).length = C.N := ho.len _ (CS.set_mem ho hi)
  unfold CS.cnt CS.upto
  rw [List.take_add_one, h1, List.take_of_length_le (l := C.set_ i) (by omega)]
  simp
theorem cnt_end {C : CS} (ho : C.Ok) : C.cnt C.S 0 = C.ways.length := by
  unfold CS.cnt CS.upto CS.ways
  rw [List.take_of_length_le (by rw [ho.sl]; exact Nat.le_refl _), List.take_zero, List.append_nil]
def linesInv (kc bc : Nat) (C : CS) (A : World) : Prop := Blk A kc #[.pointer (some ⟨bc, 0, none⟩)] 133 ∧ (cacheA bc C).at_ A
def CS.encLine (C : CS) (k : Nat) : Value := .agg (C.ways.getD k zeroWay).lineC.toArray
theorem hush_drewN (W : World) (m : Nat) : XTouch (fun _ => False) W (W.drewN m) := (XTouch.refl _ W).drewN m
set_option maxHeartbeats 4000000 in
theorem lines_gives {C : CS} (ho : C.Ok) (n kc bc : Nat) : Gives n Tryz.prog 126 #[.pointer (some ⟨kc, 0, none⟩)] C.ways.length C.encLine (linesInv kc bc C) := by
  intro l J Jx W hJ hJx hInv hY h0
  have hS := ho.pos
  have hn0 := ho.n0
  have hn1 := ho.n1
  have hiv := hInv 0 W h0
  have c1 : W.cell? ⟨kc, 0, none⟩ = some (.pointer (some ⟨bc, 0, none⟩)) := hiv.1.cell' rfl
  have c2 : W.cell? ⟨bc, 0, none⟩ = some (.slice (some ⟨C.bs, C.bo, none⟩) C.S C.cap) := (cache_open hiv.2).ld 0 rfl rfl
  refine (callsIn_wide (n := n + 1)).1 ?_
  refine callsIn_of_wp Tryz.func126 rfl trivial ?_ rfl
  simp only [Tryz.ntmps126, List.size_toArray, List.length_cons, List.length_nil, Nat.reduceAdd, Nat.reduceSub, Array.replicate_succ, Array.replicate_zero, List.push_toArray, List.append_toArray, List.nil_append, List.cons_append]
  gi_wp2
  gi_loopw [11] (fun p wr => ∃ i : Nat, p = .int .i64 i ∧ i ≤ C.S ∧ J (C.cnt i 0) wr) (fun p wr => match p with | .int _ x => C.S - x.toNat | _ => 0)
  case atStart => exact ⟨0, rfl, Nat.zero_le _, by rw [cnt_zero]; exact h0⟩
  case round =>
    obtain ⟨i, rfl, hi, hj⟩ := hrel
    by_cases hlt : i < C.S
    · have hd : decide ((i : Int) < (C.S : Int)) = true := decide_eq_true (by omega)
      have hiv := hInv _ _ hj
      have cr := row_cell ho ((show here (C.pieces bc) wr from hiv.2).nth 1 rfl) hlt
      have hN : (C.set_ i).length = C.N := ho.len _ (CS.set_mem ho hlt)
      gi_wp2
      gi_loopw [17] (fun p wr => ∃ j : Nat, p = .int .i64 j ∧ j ≤ C.N ∧ J (C.cnt i j) wr) (fun p wr => match p with | .int _ x => C.N - x.toNat | _ => 0)
      case atStart => exact ⟨0, rfl, Nat.zero_le _, hj⟩
      case round =>
        clear hj hiv cr
        obtain ⟨j, rfl, hjn, hj⟩ := hrel
        by_cases hlj : j < C.N
        · have hd2 : decide ((j : Int) < (C.N : Int)) = true := decide_eq_true (by omega)
          have hiv := hInv _ _ hj
          obtain ⟨y, hy⟩ : ∃ y, (C.set_ i)[j]? = some y := ⟨_, List.getElem?_eq_getElem (by omega)⟩
          have hset := (show here (C.pieces bc) _ from hiv.2).nth 2 rfl
          have cst := way_cell ho hset hlt hy (q := 1) (by omega) (v := .int .i64 y.state) rfl
          have hyo := ho.way _ (CS.set_mem ho hlt) y (List.mem_of_getElem? hy)
          have hstep := cnt_step (i := i) hy
          cases hv : (((y.state : Nat) : Int) != 0)
          · have hnv : ¬ y.valid = true := by
              have : ((y.state : Nat) : Int) = 0 := by simpa using hv
              unfold Way.valid
              simp; omega
            rw [if_neg hnv] at hstep
            have hno : ∀ f : FuncId, none = some f → Fence.wide.fn f := fun f h => by cases h
            have hw1 : IntKind.wrap .i64 ((j : Int) + 1) = ((j + 1 : Nat) : Int) := by rw [w64 (by omega) (by omega)]; omega
            gi_wp2_with (refine ⟨trivial, ?_⟩)
            refine ⟨hno, ?_⟩
            gi_wp2
            refine ⟨⟨j + 1, by simp, hlj, by rw [hstep]; exact hj⟩, ?_⟩
            show C.N - ((j : Int) + 1).toNat < C.N - (j : Int).toNat
            omega
          · have hval : y.valid = true := by
              have : ¬ ((y.state : Nat) : Int) = 0 := by simpa using hv
              unfold Way.valid
              simp; omega
            rw [if_pos hval] at hstep
            have hat := way_at ho hlt hy hval
            have hlw : C.cnt i j < C.ways.length := (List.getElem?_eq_some_iff.1 hat).1
            have henc : C.encLine (C.cnt i j) = .agg y.lineC.toArray := by
              unfold CS.encLine
              rw [List.getD_eq_getElem?_getD, hat]
              rfl
            gi_wp2_with (refine ⟨trivial, ?_⟩; gi_at_call 127; refine (callsIn_wide.2 (as_any ho hiv.2 hlt hy)).mono ?_; rintro e w2 ⟨rfl, hh⟩; obtain ⟨fn, tmps, assign, body, hyy, hR⟩ := hY (C.cnt i j) w2 hlw (hJ _ _ _ hj hh); rw [henc] at hyy)
            refine hR.mono ?_
            rintro e W3 (⟨rfl, hJ3⟩ | ⟨rfl, hJx3⟩)
            · have hw1 : IntKind.wrap .i64 ((j : Int) + 1) = ((j + 1 : Nat) : Int) := by rw [w64 (by omega) (by omega)]; omega
              gi_wp2
              refine ⟨⟨j + 1, by simp, hlj, by rw [hstep]; exact hJ3⟩, ?_⟩
              show C.N - ((j : Int) + 1).toNat < C.N - (j : Int).toNat
              omega
            · gi_wp2
              refine bodyPost_ret (results_none rfl _ _ _) rfl ?_
              exact ⟨⟨_, rfl⟩, .inr hJx3⟩
        · have hd2 : decide ((j : Int) < (C.N : Int)) = false := decide_eq_false (by omega)
          have hw1 : IntKind.wrap .i64 ((i : Int) + 1) = ((i + 1 : Nat) : Int) := by rw [w64 (by omega) (by omega)]; omega
          gi_wp2
          obtain rfl : j = C.N := by omega
          rw [← cnt_row ho hlt] at hj
          refine ⟨⟨i + 1, by simp, hlt, hj⟩, ?_⟩
          show C.S - ((i : Int) + 1).toNat < C.S - (i : Int).toNat
          omega
    · have hd : decide ((i : Int) < (C.S : Int)) = false := decide_eq_false (by omega)
      gi_wp2
      go_end0
      obtain rfl : i = C.S := by omega
      rw [cnt_end ho] at hj
      exact ⟨⟨_, rfl⟩, .inl hj⟩
end Go.Proofs.YthacioiefgabbaaGreatDoor.cbus
/- What each function asks, reckoned out of its text; printed by a program of mine (wip/tpl/VcTool.lean). No condition. -/
namespace Go.Proofs.YthacioiefgabbaaGreatDoor
open Go Go.Proofs
set_option linter.unusedVariables false
set_option maxRecDepth 100000
theorem vcB53 {W : World} {Q : Sx.Ex → World → Prop} (t3 : Nat) (t3o : Nat) (t6 : Nat) (t6o : Nat)
  (h : ∀ J : Nat → Value,
    (∃ p : Option Addr, (World.cell? W (Addr.mk t3 t3o none) = some (Value.pointer p) ∧
    (∃ vs : Array Value, (Array.size vs = 18 ∧
    (Sx.cellsAt W (Addr.mk t6 t6o none) vs ∧
    Calls Tryz.prog 82 #[Value.pointer p, Value.agg vs] W (fun e =>
     (fun W2 =>
     (e = Ending.returned (Value.tuple #[]) ∧
     Q Sx.Ex.normal W2))))))))) {l m : Nat} {a : Act} (hs : a.tmps.size = 34) (hd : a.defers = []) (h0 : a.tmps.getD ((3, Value.pointer (some ⟨t3, t3o, none⟩))).1 undef = ((3, Value.pointer (some ⟨t3, t3o, none⟩))).2) (h1 : a.tmps.getD ((6, Value.pointer (some ⟨t6, t6o, none⟩))).1 undef = ((6, Value.pointer (some ⟨t6, t6o, none⟩))).2) :
  (Sx.bodyIn Tryz.f53).wpIn (Fence.wide.inRound l) m Tryz.prog (Sx.Post 34 (Sx.bodyIn Tryz.f53) (fun e _ w => Q e w) a) a W :=
  Sx.vc_round (Sx.bodyIn Tryz.f53) .leaf ⟨[(3, Value.pointer (some ⟨t3, t3o, none⟩)), (6, Value.pointer (some ⟨t6, t6o, none⟩))], fun t => a.tmps.getD t undef⟩ W _ a (Eq.mp (by kernel_rfl) (h fun t => a.tmps.getD t undef)) (Sx.is_of_agree hs hd (List.forall_mem_cons.2 ⟨h0, (List.forall_mem_cons.2 ⟨h1, (fun _ h => by cases h)⟩)⟩)) (by kernel_rfl)
end Go.Proofs.YthacioiefgabbaaGreatDoor
