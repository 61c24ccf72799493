import Derived.Test.YthacioiefgabbaaGreatDoorWinVc
import Derived.Test.YthacioiefgabbaaGreatDoorBits
import Derived.RangeFuncNested
import Derived.RangeFuncLeaves
import Derived.Shelf.Abstract
import Derived.Test.YthacioiefgabbaaGreatDoorXHeap
import Derived.RangeFuncBound
import Derived.RangeFuncCalls
import Derived.Shelf.RegionOpen
import Derived.WalkKit
import Derived.OwnWalkIn
import Derived.TacticsInMore
import Derived.LoopNIn
import Derived.LoopIn
/- The window, part A: what stands in memory; at, has, able, Len, Head. No condition. -/
namespace Go.Proofs.YthacioiefgabbaaGreatDoor.win
open Go.RowKit Go.XHeap Go.Sx Go.Sep
set_option linter.unusedVariables false
set_option maxRecDepth 100000

structure Slot where
  cls : Int
  s1 : Int
  s2 : Int
  dst : Int
  st : Nat
  seq : Int
deriving Inhabited
def Slot.cells (s : Slot) : List Value := [.int .i64 s.cls, .int .i64 s.s1, .int .i64 s.s2, .int .i64 s.dst, .int .u8 s.st, .int .i64 s.seq]
theorem slot_len (l : List Slot) : ∀ s ∈ l, s.cells.length = 6 := fun _ _ => rfl
structure WS where
  g : Nat
  S : Nat
  head : Nat
  n : Nat
  next : Nat
  ring : List Slot
  rg : Nat
  R : Nat
  ready : List Bool
def bools (l : List Bool) : Array Value := (l.map Value.bool).toArray
theorem bools_get {l : List Bool} {i : Nat} {x : Bool} (h : l[i]? = some x) : (bools l)[i]? = some (.bool x) := by simp [bools, h]
theorem bools_size (l : List Bool) : (bools l).size = l.length := by simp [bools]
theorem bools_set (l : List Bool) (i : Nat) (x : Bool) : (bools l).setIfInBounds i (.bool x) = bools (l.set i x) := by simp [bools, List.map_set]
structure WS.Ok (w : WS) : Prop where
  s0 : 2 ≤ w.S
  s1 : w.S ≤ 64
  ring : w.ring.length = w.S
  head : w.head < w.S
  n : w.n ≤ w.S
  next : w.next < 4611686018427387904
  r0 : 34 ≤ w.R
  r1 : w.R ≤ 128
  ready : w.ready.length = w.R
  st : ∀ s ∈ w.ring, s.st < 256
def WS.root (w : WS) : Array Value := #[.slice (some ⟨w.g, 0, none⟩) w.S w.S, .int .i64 w.head, .int .i64 w.n, .int .i64 w.next, .slice (some ⟨w.rg, 0, none⟩) w.R w.R]
def WS.pieces (b : Nat) (w : WS) : List Asn := [blk b w.root 204, blk w.g (rows Slot.cells w.ring) 320, blk w.rg (bools w.ready) 4]
def winA (b : Nat) (w : WS) : Asn := all (w.pieces b)
variable {W w' : World} {b : Nat} {w v : WS}
theorem win_open (h : (winA b w).at_ W) : St W (winA b w).own W (w.pieces b ++ []) := (St.begin h).open_
theorem win_shut {L : List Asn} (H : St W (winA b w).own w' (v.pieces b ++ L)) : Sep.Post (winA b w) W (winA b v) w' := (St.shut H).post 0 rfl
theorem win_same (h : (winA b w).at_ W) (hh : Hush W w') : Sep.Post (winA b w) W (winA b w) w' := ⟨(winA b w).keep h hh (fun _ _ e => e), hh.mono (fun _ _ e => e.elim), fun q hq => .inl hq⟩
/-- the place of the k-th oldest -/
def WS.ix (w : WS) (k : Nat) : Nat := (w.head + k) % w.S
theorem WS.Ok.ix_lt (h : w.Ok) (k : Nat) : w.ix k < w.ring.length := by rw [h.ring]; exact Nat.mod_lt _ (by have := h.s0; omega)
def WS.slot (w : WS) (k : Nat) : Slot := w.ring.getD (w.ix k) default
theorem slot_at (h : w.Ok) (k : Nat) : w.ring[w.ix k]? = some (w.slot k) := by unfold WS.slot; rw [List.getD_eq_getElem?_getD, List.getElem?_eq_getElem (h.ix_lt k)]; rfl
theorem slot_cell (h : w.Ok) (hb : Blk W w.g (rows Slot.cells w.ring) 320) (k : Nat) {q : Nat} (hq : q < 6) {x : Value} (hx : (w.slot k).cells[q]? = some x) : W.cell? ⟨w.g, w.ix k * 6 + q, none⟩ = some x :=
  hb.cell' (rows_get (slot_len _) (slot_at h k) hq hx)
theorem at_any (ho : w.Ok) (h : (winA b w).at_ W) (k : Nat) (hk : k ≤ 64) :
    Calls Tryz.prog 193 #[.pointer (some ⟨b, 0, none⟩), .int .i64 k] W fun e w2 => e = .returned (.pointer (some ⟨w.g, w.ix k * 6, none⟩)) ∧ ∃ n, w2 = W.drewN n := by
  have H := win_open h
  have hs0 := ho.s0
  have hs1 := ho.s1
  have hh := ho.head
  refine vc193 b 0 k ⟨_, _, _, H.ld 0 rfl rfl, w.head, H.ld 0 rfl rfl, ?_⟩
  rintro z2 rfl
  rw [w64 (by omega) (by omega)]
  refine ⟨_, _, _, H.ld 0 rfl rfl, by omega, ?_⟩
  rintro z3 rfl
  have e : Int.tmod ((w.head : Int) + (k : Int)) (w.S : Int) = ((w.ix k : Nat) : Int) := by
    rw [show ((w.head : Int) + (k : Int)) = ((w.head + k : Nat) : Int) by omega]; rfl
  have hi := ho.ix_lt k
  rw [ho.ring] at hi
  rw [e]
  refine ⟨⟨by omega, by omega⟩, adr_some ?_⟩
  rintro w2 n rfl
  rw [Int.toNat_natCast, Nat.zero_add]
  exact ⟨rfl, n, rfl⟩
theorem hush_drewN (n : Nat) : Hush W (W.drewN n) := (XTouch.refl _ _).drewN n
/-- may it begin, as far as this register goes? -/
def WS.has (w : WS) (p : Int) : Bool := decide (p < 0) || w.ready.getD p.toNat false
theorem has_any (ho : w.Ok) (h : (winA b w).at_ W) (p : Int) (hp : p < w.R) :
    Calls Tryz.prog 202 #[.pointer (some ⟨b, 0, none⟩), .int .i64 p] W fun e w2 => e = .returned (.bool (w.has p)) ∧ w2 = W := by
  have H := win_open h
  refine vc202 b 0 p (split_of (fun q => ⟨?_, rfl⟩) (fun q => ?_))
  · unfold WS.has; rw [q]; rfl
  · have q' := of_decide_eq_false q
    have hl : p.toNat < w.ready.length := by rw [ho.ready]; omega
    obtain ⟨t, ht⟩ : ∃ t, w.ready[p.toNat]? = some t := ⟨_, List.getElem?_eq_getElem hl⟩
    refine ⟨_, _, _, H.ld 0 rfl rfl, ⟨by omega, by omega⟩, adr_some ⟨t, ?_, ?_, rfl⟩⟩
    · rw [show 0 + p.toNat * 1 = p.toNat by omega]
      exact H.ld 2 rfl (bools_get ht)
    · unfold WS.has
      rw [q, List.getD_eq_getElem?_getD, ht]
      rfl
def Slot.regs (s : Slot) (R : Nat) : Prop := s.s1 < R ∧ s.s2 < R
def WS.able (w : WS) (s : Slot) : Bool := decide (s.st = 0) && w.has s.s1 && w.has s.s2
theorem able_any (ho : w.Ok) (h : (winA b w).at_ W) (k : Nat) (hr : (w.slot k).regs w.R) :
    Calls Tryz.prog 155 #[.pointer (some ⟨b, 0, none⟩), .pointer (some ⟨w.g, w.ix k * 6, none⟩)] W fun e w2 => e = .returned (.bool (w.able (w.slot k))) ∧ w2 = W := by
  have H := win_open h
  have hg : Blk W w.g (rows Slot.cells w.ring) 320 := H.nth 1 rfl
  refine vc155 b 0 w.g (w.ix k * 6) ⟨(w.slot k).st, slot_cell ho hg k (q := 4) (by omega) rfl, split_of (fun q => ?_) (fun q => ⟨?_, rfl⟩)⟩
  · have q0 : (w.slot k).st = 0 := by have : ((w.slot k).st : Int) = 0 := by simpa using q
                                      omega
    refine ⟨(w.slot k).s1, slot_cell ho hg k (q := 1) (by omega) rfl, H.callp (has_any ho h _ hr.1) ⟨_, rfl, split_of (fun q1 => ?_) (fun q1 => ⟨?_, rfl⟩)⟩⟩
    · refine ⟨(w.slot k).s2, slot_cell ho hg k (q := 2) (by omega) rfl, H.callp (has_any ho h _ hr.2) ⟨_, rfl, ?_, rfl⟩⟩
      unfold WS.able
      rw [q0, q1]; rfl
    · unfold WS.able
      rw [q0, q1]; rfl
  · have q0 : ¬ (w.slot k).st = 0 := fun e => by rw [e] at q; simp at q
    unfold WS.able
    rw [decide_eq_false q0]; rfl
theorem wlen_any (h : (winA b w).at_ W) : Calls Tryz.prog 171 #[.pointer (some ⟨b, 0, none⟩)] W fun e w2 => e = .returned (.int .i64 w.n) ∧ w2 = W :=
  vc171 b 0 ⟨w.n, (win_open h).ld 0 rfl rfl, rfl, rfl⟩
def WS.headR (w : WS) : Value := if w.n = 0 then .tuple #[.int .i64 0, .bool false, .bool false] else .tuple #[.int .i64 (w.slot 0).seq, .bool (decide ((w.slot 0).st = 2)), .bool true]
theorem whead_any (ho : w.Ok) (h : (winA b w).at_ W) : Calls Tryz.prog 234 #[.pointer (some ⟨b, 0, none⟩)] W fun e w2 => e = .returned w.headR ∧ Hush W w2 := by
  have H := win_open h
  refine vc234 b 0 ⟨w.n, H.ld 0 rfl rfl, split_of (fun q => ⟨?_, XTouch.refl _ _⟩) (fun q => ?_)⟩
  · have q0 : w.n = 0 := by have : (w.n : Int) = 0 := by simpa using q
                            omega
    unfold WS.headR; rw [if_pos q0]
  · have q0 : ¬ w.n = 0 := fun e => by rw [e] at q; simp at q
    refine (at_any ho h 0 (by omega)).mono ?_
    rintro e w2 ⟨rfl, n, rfl⟩
    have H := H.drewN n
    have hg : Blk (W.drewN n) w.g (rows Slot.cells w.ring) 320 := H.nth 1 rfl
    refine ⟨_, rfl, ptr_some ⟨(w.slot 0).seq, ?_, ptr_some ⟨(w.slot 0).st, ?_, ?_⟩⟩⟩
    · rw [add_none]; exact slot_cell ho hg 0 (q := 5) (by omega) rfl
    · rw [add_none]; exact slot_cell ho hg 0 (q := 4) (by omega) rfl
    · rintro w3 m rfl
      refine ⟨?_, (hush_drewN n).trans (hush_drewN m) (fun _ _ e => e)⟩
      unfold WS.headR
      rw [if_neg q0]
      have : (((w.slot 0).st : Int) == 2) = decide ((w.slot 0).st = 2) := by rw [Bool.eq_iff_iff]; simp; omega
      rw [this]
end Go.Proofs.YthacioiefgabbaaGreatDoor.win
/- A range over a method value ('for s := range w.each'): its law, with invariants in the style of XTouch. No condition. -/
namespace Go.RangeM
open Go.RowKit Go.XHeap Go.Shelf
set_option linter.unusedVariables false
variable {P : Program} {n : Nat}

/-- a function that hands out enc 0, enc 1 .. enc (N - 1), and reads, between two rounds, what Inv says -/
def Gives (n : Nat) (P : Program) (gf : Nat) (first : Array Value) (N : Nat) (enc : Nat → Value) (Inv : World → Prop) : Prop :=
  ∀ (l : Nat) (J : Nat → World → Prop) (Jx : World → Prop) (W : World),
    (∀ k A B, J k A → XTouch (fun _ => False) A B → J k B) → (∀ A B, Jx A → XTouch (fun _ => False) A B → Jx B) → (∀ k A, J k A → Inv A) →
    (∀ k A, k < N → J k A → YieldAt Fence.wide n P l #[enc k] A fun e B => (e = .returned (.bool true) ∧ J (k + 1) B) ∨ (e = .returned (.bool false) ∧ Jx B)) →
    J 0 W → Calls P gf (first ++ #[.func (.yield l) #[] #[]]) W fun e B => (∃ v, e = .returned v) ∧ (J N B ∨ Jx B)
/-- the two blocks that the loop lays lie as they lay -/
def Two (w W W' : World) : Prop := ∀ q, q = w.heap.size ∨ q = w.heap.size + 1 → W'.heap[q]? = W.heap[q]?
def Rec (w : World) : Nat → Prop := fun q => q = w.heap.size ∨ q = w.heap.size + 1
/-- how a round may be left -/
def roundEnd (w : World) (I : Nat → World → Prop) (Ix : Code → World → Prop) (k : Nat) (W : World) : Exit → Act → World → Prop
  | .normal, _, W' => Two w W W' ∧ I (k + 1) W'
  | .ret, _, W' => Two w W W' ∧ Ix .ret W'
  | .exit id, _, W' => Two w W W' ∧ Ix (.exit id) W'
  | .goto t, _, W' => Two w W W' ∧ Ix (.goto t) W'
  | .panic _, _, _ => False
  | .outgrown, _, _ => False
theorem touch_putObj (W : World) (l : Nat) (o : Obj) : XTouch (fun q => q = l) W (W.putObj l o) :=
  ⟨rfl, rfl, rfl, by simp [World.putObj], fun q _ hn => World.putObj_heap_other (fun e => hn (by rw [e]))⟩
theorem range_m {g : Operand} {p : Tmp} {assign body : Code} {Q : Exit → Act → World → Prop} {a : Act} {w : World} {gf : Nat} {first : Array Value} {N : Nat} {enc : Nat → Value} {Inv : World → Prop}
    (hg : a.eval g = .func (.func gf) first #[]) (eg : ∀ args w, (callFunc gf args).run P w = .ok (.enter gf args) w) (hgive : Gives n P gf first N enc Inv)
    (I : Nat → World → Prop) (Ix : Code → World → Prop) (hI : ∀ k A B, I k A → XTouch (Rec w) A B → I k B) (hIx : ∀ c A B, Ix c A → XTouch (Rec w) A B → Ix c B) (hInv : ∀ k A, I k A → Inv A) (h0 : I 0 w) (a₁ : Value → Act)
    (hassign : ∀ (l : Nat) (x : Value) (W : World) (K : Act → World → Prop), K (a₁ x) W → assign.wpIn (Fence.wide.inRound l) n P (Exit.then K (fun _ _ _ => False)) { tmps := a.tmps.setIfInBounds p x, defers := [] } W)
    (hbody : ∀ (l k : Nat) (W : World), k < N → I k W → w.heap.size + 2 ≤ W.heap.size → body.wpIn (Fence.wide.inRound l) n P (roundEnd w I Ix k W) (a₁ (enc k)) W)
    (hdone : ∀ W : World, I N W → W.heap[w.heap.size]? = some (.deferred (some [])) → Q .normal { a with defers := { target := .collected w.heap.size, args := #[] } :: a.defers } W)
    (hstop : ∀ (c : Code) (W : World), Ix c W → W.heap[w.heap.size]? = some (.deferred (some [])) → c.wpIn Fence.wide n P Q { a with defers := { target := .collected w.heap.size, args := #[] } :: a.defers } W) :
    (Code.rangeFunc g #[p] assign body).wpIn Fence.wide n P Q a w := by
  refine wpIn_rangeFunc fun fn hfn => ?_
  obtain ⟨rc, hrc⟩ : ∃ rc : LoopState → Option Code → Loop, rc = fun st pe => { state := st, pending := pe, fn, tmps := a.tmps, params := #[p], assign, body, defers := w.heap.size } := ⟨_, rfl⟩
  obtain ⟨W1, hW1⟩ : ∃ W1, (w.alloc (.deferred (some []))).alloc (.loop (rc .ready none)) = W1 := ⟨_, rfl⟩
  have hsz : (w.alloc (.deferred (some []))).heap.size = w.heap.size + 1 := by simp
  have hl1 : W1.heap[w.heap.size + 1]? = some (.loop (rc .ready none)) := by
    rw [← hW1, ← hsz]; exact World.alloc_heap_new _ _
  have hd1 : W1.heap[w.heap.size]? = some (.deferred (some [])) := by
    rw [← hW1]; exact (Below.heap_alloc _ _ _ (by simp)).trans (World.alloc_heap_new w _)
  have ht1 : XTouch (Rec w) w W1 := by
    rw [← hW1]
    exact ((XTouch.refl (Rec w) w).alloc _).alloc _
  refine ⟨w.heap.size + 1, [{ target := .collected w.heap.size, args := #[] }], W1, { target := .fn (.func gf) #[], args := first ++ #[.func (.yield (w.heap.size + 1)) #[] #[]] }, W1, gf, first ++ #[.func (.yield (w.heap.size + 1)) #[] #[]], W1, ?_, ?_, ?_, ?_, ?_, ?_⟩
  · rw [← hW1, hrc]; exact run_enterLoop_outer _ _ _ _ _
  · simp only [resolve, hg]
    simp [go_sem]
  · intro f' hf'; trivial
  · simp [invoke, go_sem, eg]
  · intro h; cases h
  have rcb : ∀ st pe, ({ rc .ready none with state := st, pending := pe } : Loop) = rc st pe := by intro st pe; rw [hrc]
  refine callsIn_wide.2 ((hgive (w.heap.size + 1)
      (fun k W => I k W ∧ W.heap[w.heap.size + 1]? = some (.loop (rc .ready none)) ∧ W.heap[w.heap.size]? = some (.deferred (some [])))
      (fun W => ∃ c, Ix c W ∧ W.heap[w.heap.size + 1]? = some (.loop (rc .done (some c))) ∧ W.heap[w.heap.size]? = some (.deferred (some [])))
      W1 ?_ ?_ (fun k A h => hInv k A h.1) ?_ ⟨hI 0 w W1 h0 ht1, hl1, hd1⟩).mono ?_)
  · rintro k A B ⟨hi, hl, hd⟩ ht
    have hlt : ∀ {q o}, A.heap[q]? = some o → q < A.heap.size := fun h => (Array.getElem?_eq_some_iff.1 h).1
    exact ⟨hI k A B hi (ht.mono fun _ _ e => e.elim), (ht.block _ (hlt hl) id).trans hl, (ht.block _ (hlt hd) id).trans hd⟩
  · rintro A B ⟨c, hi, hl, hd⟩ ht
    have hlt : ∀ {q o}, A.heap[q]? = some o → q < A.heap.size := fun h => (Array.getElem?_eq_some_iff.1 h).1
    exact ⟨c, hIx c A B hi (ht.mono fun _ _ e => e.elim), (ht.block _ (hlt hl) id).trans hl, (ht.block _ (hlt hd) id).trans hd⟩
  · -- a round
    rintro k W hk ⟨hi, hl, hd⟩
    have hlt : w.heap.size + 1 < W.heap.size := (Array.getElem?_eq_some_iff.1 hl).1
    have hy : (Instr.yield (w.heap.size + 1) #[enc k]).run P W = .ok (.round (w.heap.size + 1) fn (a.tmps.setIfInBounds p (enc k)) assign body) W := by
      have hy := run_yield (P := P) (args := #[enc k]) hl (by rw [hrc]; rfl)
      rw [hrc] at hy
      simpa using hy
    have hl2 : (W.putObj (w.heap.size + 1) (.loop (rc .busy none))).heap[w.heap.size + 1]? = some (.loop (rc .busy none)) := World.putObj_heap_same hlt
    have hd2 : (W.putObj (w.heap.size + 1) (.loop (rc .busy none))).heap[w.heap.size]? = some (.deferred (some [])) := (World.putObj_heap_other (by omega)).trans hd
    have hbr : (Instr.beginRound (w.heap.size + 1)).run P W = .ok () (W.putObj (w.heap.size + 1) (.loop (rc .busy none))) := by
      have := run_beginRound (P := P) hl (by rw [hrc])
      rw [hrc] at this ⊢
      exact this
    have hi2 : I k (W.putObj (w.heap.size + 1) (.loop (rc .busy none))) := hI k _ _ hi ((touch_putObj W _ _).mono fun q _ e => .inr e)
    refine ⟨fn, _, assign, body, hy, roundIn_of_wpIn hfn ?_⟩
    refine hassign (w.heap.size + 1) (enc k) W _ ?_
    refine ⟨_, hbr, ?_⟩
    refine wpIn_mono (hbody _ k _ hk hi2 (by simp [World.putObj]; omega)) ?_
    have fin : ∀ (jump : Option Code) (W3 : World), Two w (W.putObj (w.heap.size + 1) (.loop (rc .busy none))) W3 →
        (Instr.endRound (w.heap.size + 1) jump).run P W3 = .ok (.bool jump.isNone) (W3.putObj (w.heap.size + 1) (.loop (rc (if jump.isNone then .ready else .done) jump))) ∧
        XTouch (Rec w) W3 (W3.putObj (w.heap.size + 1) (.loop (rc (if jump.isNone then .ready else .done) jump))) ∧
        (W3.putObj (w.heap.size + 1) (.loop (rc (if jump.isNone then .ready else .done) jump))).heap[w.heap.size + 1]? = some (.loop (rc (if jump.isNone then .ready else .done) jump)) ∧
        (W3.putObj (w.heap.size + 1) (.loop (rc (if jump.isNone then .ready else .done) jump))).heap[w.heap.size]? = some (.deferred (some [])) := fun jump W3 h3 => by
      have hl3 := (h3 _ (.inr rfl)).trans hl2
      have hd3 := (h3 _ (.inl rfl)).trans hd2
      have hr := run_endRound (P := P) jump hl3
      rw [hrc] at hr ⊢
      exact ⟨hr, (touch_putObj W3 _ _).mono fun q _ e => .inr e, World.putObj_heap_same (Array.getElem?_eq_some_iff.1 hl3).1, (World.putObj_heap_other (by omega)).trans hd3⟩
    rintro e a3 W3 hp
    cases e with
    | normal =>
      obtain ⟨h1, h2, h3, h4⟩ := fin none W3 hp.1
      exact ⟨_, _, h1, .inl ⟨rfl, hI _ _ _ hp.2 h2, h3, h4⟩⟩
    | ret =>
      obtain ⟨h1, h2, h3, h4⟩ := fin (some .ret) W3 hp.1
      exact ⟨_, _, h1, .inr ⟨rfl, .ret, hIx _ _ _ hp.2 h2, h3, h4⟩⟩
    | exit id =>
      obtain ⟨h1, h2, h3, h4⟩ := fin (some (.exit id)) W3 hp.1
      exact ⟨_, _, h1, .inr ⟨rfl, .exit id, hIx _ _ _ hp.2 h2, h3, h4⟩⟩
    | goto t =>
      obtain ⟨h1, h2, h3, h4⟩ := fin (some (.goto t)) W3 hp.1
      exact ⟨_, _, h1, .inr ⟨rfl, .goto t, hIx _ _ _ hp.2 h2, h3, h4⟩⟩
    | panic ch => exact hp.elim
    | outgrown => exact hp.elim
  · -- behind it
    rintro e W2 ⟨⟨v, rfl⟩, (⟨hi, hl, hd⟩ | ⟨c, hi, hl, hd⟩)⟩
    · have hr := run_endLoop (P := P) hl (by rw [hrc]; simp)
      refine ⟨none, W2.putObj (w.heap.size + 1) (.loop (rc .exhausted none)), by rw [hrc] at hr ⊢; exact hr, hdone _ (hI _ _ _ hi ((touch_putObj W2 _ _).mono fun q _ e => .inr e)) ((World.putObj_heap_other (by omega)).trans hd)⟩
    · have hr := run_endLoop (P := P) hl (by rw [hrc]; simp)
      refine ⟨some c, W2.putObj (w.heap.size + 1) (.loop (rc .exhausted (some c))), by rw [hrc] at hr ⊢; exact hr, hstop c _ (hIx _ _ _ hi ((touch_putObj W2 _ _).mono fun q _ e => .inr e)) ((World.putObj_heap_other (by omega)).trans hd)⟩
end Go.RangeM
/- The window, part B: each, find, Ready: ranges over the method value. No condition. -/
namespace Go.Proofs.YthacioiefgabbaaGreatDoor.win
open Go.RowKit Go.XHeap Go.Sx Go.Sep Go.RangeM Go.Shelf
attribute [local go_sem] Oper.semAt_some
set_option linter.unusedVariables false
set_option maxRecDepth 100000
variable {W w' : World} {b : Nat} {w v : WS}

set_option maxHeartbeats 1000000 in
theorem each_gives (ho : w.Ok) (n : Nat) : Gives n Tryz.prog 154 #[.pointer (some ⟨b, 0, none⟩)] w.n (fun k => .pointer (some ⟨w.g, w.ix k * 6, none⟩)) (fun A => (winA b w).at_ A) := by
  intro l J Jx W hJ hJx hInv hY h0
  have hs1 := ho.s1
  have hn := ho.n
  have c2 : W.cell? ⟨b, 2, none⟩ = some (.int .i64 w.n) := (win_open (hInv 0 W h0)).ld 0 rfl rfl
  refine (callsIn_wide (n := n + 1)).1 ?_
  refine callsIn_of_wp Tryz.func154 rfl trivial ?_ rfl
  simp only [Tryz.ntmps154, List.size_toArray, List.length_cons, List.length_nil, Nat.reduceAdd, Nat.reduceSub, Array.replicate_succ, Array.replicate_zero, List.push_toArray, List.append_toArray, List.nil_append, List.cons_append]
  gi_wp2
  gi_loopw [9] (fun p wr => ∃ k : Nat, p = .int .i64 k ∧ k ≤ w.n ∧ J k wr) (fun p wr => match p with | .int _ x => w.n - x.toNat | _ => 0)
  case atStart => exact ⟨0, rfl, Nat.zero_le _, h0⟩
  case round =>
    obtain ⟨k, rfl, hk, hj⟩ := hrel
    by_cases hlt : k < w.n
    · have hd : decide ((k : Int) < (w.n : Int)) = true := decide_eq_true (by omega)
      gi_wp2_with (refine ⟨trivial, ?_⟩; gi_at_call 193; refine (callsIn_wide.2 (at_any ho (hInv k _ hj) k (by omega))).mono ?_; rintro e w2 ⟨rfl, m, rfl⟩; obtain ⟨fn, tmps, assign, body, hy, hR⟩ := hY k (World.drewN _ m) hlt (hJ k _ _ hj (hush_drewN m)))
      refine hR.mono ?_
      rintro e W3 (⟨rfl, hJ3⟩ | ⟨rfl, hJx3⟩)
      · have hw1 : IntKind.wrap .i64 ((k : Int) + 1) = ((k + 1 : Nat) : Int) := by rw [w64 (by omega) (by omega)]; omega
        gi_wp2
        go_roundw
        case rel => exact ⟨k + 1, rfl, hlt, hJ3⟩
        case measure =>
          show w.n - ((k + 1 : Nat) : Int).toNat < w.n - ((k : Nat) : Int).toNat
          omega
      · gi_wp2
        refine bodyPost_ret (results_none rfl _ _ _) rfl ?_
        exact ⟨⟨_, rfl⟩, .inr hJx3⟩
    · have hd : decide ((k : Int) < (w.n : Int)) = false := decide_eq_false (by omega)
      gi_wp2
      go_end0
      obtain rfl : k = w.n := by omega
      exact ⟨⟨_, rfl⟩, .inl hj⟩
/-- what was said abides other blocks' turns -/
theorem St.rec_ {M T : Nat → Prop} {A B : World} {L : List Asn} (H : St W M A L) (ht : XTouch T A B) (hn : ∀ q, owns L q → ¬ T q) (hT : ∀ q, T q → W.heap.size ≤ q) : St W M B L :=
  ⟨H.touch.trans ht (fun q hq e => by have := hT q e; omega), fun q hq => (H.mine q hq), H.here.keep ht hn⟩
def No : Nat → Prop := fun _ => False
def WS.find (w : WS) (seq : Int) : Option Nat := (List.range w.n).find? fun k => (w.slot k).seq == seq
def WS.ptr (w : WS) : Option Nat → Option Addr
  | some k => some ⟨w.g, w.ix k * 6, none⟩
  | none => none
theorem two_set {w A : World} {g o : Nat} (h : g < w.heap.size) (x : Value) : Two w A (A.drew.setCell ⟨g, o, none⟩ x) := by
  rintro q (rfl | rfl)
  · exact Below.heap_setCell A.drew ⟨g, o, none⟩ x _ (by show w.heap.size ≠ g; omega)
  · exact Below.heap_setCell A.drew ⟨g, o, none⟩ x _ (by show w.heap.size + 1 ≠ g; omega)
theorem find_of {seq : Int} {k : Nat} (hk : k < w.n) (he : (w.slot k).seq = seq) (hnot : ∀ j, j < k → (w.slot j).seq ≠ seq) : w.find seq = some k := by
  unfold WS.find
  rw [List.find?_eq_some_iff_getElem]
  refine ⟨by simpa using he, k, by simpa using hk, by simp, fun j hj => ?_⟩
  have := hnot j hj
  simpa using this
theorem find_none {seq : Int} (hnot : ∀ j, j < w.n → (w.slot j).seq ≠ seq) : w.find seq = none := by
  unfold WS.find
  rw [List.find?_eq_none]
  intro k hk
  have := hnot k (List.mem_range.1 hk)
  simpa using this
set_option maxHeartbeats 2000000 in
theorem find_any (ho : w.Ok) (h : (winA b w).at_ W) (seq : Int) :
    Calls Tryz.prog 227 #[.pointer (some ⟨b, 0, none⟩), .int .i64 seq] W fun e w2 => e = .returned (.pointer (w.ptr (w.find seq))) ∧ Hush W w2 := by
  refine (callsIn_wide (n := 3)).1 ?_
  refine callsIn_of_wp_marks Tryz.func227 rfl trivial ?_ rfl
  simp only [Tryz.ntmps227, List.size_toArray, List.length_cons, List.length_nil, Nat.reduceAdd, Nat.reduceSub, Array.replicate_succ, Array.replicate_zero, List.push_toArray, List.append_toArray, List.nil_append, List.cons_append]
  have H : St W No ((W.alloc (.cells #[.int .i64 seq] 3)).alloc (.cells #[.pointer none] 315)) [blk W.heap.size #[.int .i64 seq] 3, blk (W.heap.size + 1) #[.pointer none] 315] := by
    have := ((St.nil W).alloc #[.int .i64 seq] 3).alloc #[.pointer none] 315
    rw [World.size_alloc] at this
    exact this
  obtain ⟨W0, hW0⟩ : ∃ W0, (W.alloc (.cells #[.int .i64 seq] 3)).alloc (.cells #[.pointer none] 315) = W0 := ⟨_, rfl⟩
  have hsz : W0.heap.size = W.heap.size + 2 := by rw [← hW0]; simp
  gi_wp2
  rw [hW0] at H
  try rw [hW0]
  have keep : ∀ {A : World} {L : List Asn}, St W No A L → (winA b w).at_ A := fun H => (winA b w).keep h H.touch (fun _ _ e => e)
  have low : ∀ {A : World} {cs : Array Value}, ∀ q, owns [blk W.heap.size #[.int .i64 seq] 3, blk (W.heap.size + 1) cs 315] q → ¬ Rec W0 q := by
    rintro A cs q (e | e | e) hr
    · have e : q = W.heap.size := e
      rcases hr with hr | hr <;> omega
    · have e : q = W.heap.size + 1 := e
      rcases hr with hr | hr <;> omega
    · exact e
  have high : ∀ q, Rec W0 q → W.heap.size ≤ q := by
    rintro q (hr | hr) <;> omega
  refine range_m (N := w.n) (enc := fun k => .pointer (some ⟨w.g, w.ix k * 6, none⟩)) rfl (enters_of Tryz.func154 (by kernel_rfl) rfl) (each_gives ho 3)
    (fun k A => (∀ j, j < k → (w.slot j).seq ≠ seq) ∧ St W No A [blk W.heap.size #[.int .i64 seq] 3, blk (W.heap.size + 1) #[.pointer none] 315])
    (fun c A => c = .ret ∧ ∃ k, w.find seq = some k ∧ St W No A [blk W.heap.size #[.int .i64 seq] 3, blk (W.heap.size + 1) #[.pointer (some ⟨w.g, w.ix k * 6, none⟩)] 315])
    (fun k A B hi ht => ⟨hi.1, St.rec_ hi.2 ht (low (A := A)) high⟩) (fun c A B hi ht => by
      obtain ⟨hc, k, hk, hi⟩ := hi
      exact ⟨hc, k, hk, St.rec_ hi ht (low (A := A)) high⟩)
    (fun k A hi => keep hi.2) ⟨fun j hj => by omega, H⟩
    (fun x => { tmps := #[.pointer (some ⟨b, 0, none⟩), .int .i64 seq, undef, .pointer (some ⟨W.heap.size, 0, none⟩), .pointer (some ⟨W.heap.size + 1, 0, none⟩), x, .pointer (some ⟨b, 0, none⟩), .func (.func 154) #[.pointer (some ⟨b, 0, none⟩)] #[], x, undef, undef, undef, undef, undef, undef, undef], defers := [] }) ?assign ?body ?done ?stop
  case assign =>
    intro l x A K hK
    gi_wp2
    exact hK
  case body =>
    rintro l k A hk ⟨hnot, H⟩ hsz2
    have hs1 := ho.s1
    have hn := ho.n
    have hg : Blk A w.g (rows Slot.cells w.ring) 320 := (win_open (keep H)).nth 1 rfl
    have c5 := slot_cell ho hg k (q := 5) (by omega) (x := .int .i64 (w.slot k).seq) rfl
    have cs := H.ld 0 (i := 0) rfl rfl
    have cr := H.ld 1 (i := 0) rfl rfl
    have fr := (H.blk 1 rfl).frozen 0
    have mo : Tryz.prog.follows .mixedOrders = true := by kernel_rfl
    cases hq : ((w.slot k).seq == seq)
    · gi_wp2
      gi_region_o
      all_goals gi_wp2
      all_goals exact ⟨fun _ _ => rfl, fun j hj => by
        by_cases e : j = k
        · subst e; simpa using hq
        · exact hnot j (by omega), H.drew⟩
    · gi_wp2
      gi_region_o
      all_goals gi_wp2
      all_goals exact ⟨two_set (by omega) _, rfl, k, find_of hk (by simpa using hq) hnot, H.drew.wr 1 rfl 0 _⟩
  case done =>
    rintro A ⟨hnot, H⟩ hD
    have cr := H.ld 1 (i := 0) rfl rfl
    have fr := (H.blk 1 rfl).frozen 0
    gi_wp2
    have hD' : (A.setCell ⟨W.heap.size + 1, 0, none⟩ (.pointer none)).heap[W0.heap.size]? = some (.deferred (some [])) := (Below.heap_setCell A ⟨W.heap.size + 1, 0, none⟩ (.pointer none) _ (by show W0.heap.size ≠ W.heap.size + 1; omega)).trans hD
    refine ⟨by simp, .inl ⟨_, _, rfl, run_takeDeferred hD', ?_⟩⟩
    have H2 := St.rec_ (H.wr 1 rfl 0 (.pointer none)) ((touch_putObj _ W0.heap.size (.deferred none)).mono fun q _ e => (show Rec W0 q from .inl e)) (low (A := A)) high
    have c2 := H2.ld 1 (i := 0) rfl rfl
    rw [find_none hnot]
    refine ⟨.pointer none, ?_, rfl, H2.touch⟩
    simp [results, Tryz.f227, go_sem, c2]
  case stop =>
    rintro c A ⟨rfl, k, hk, H⟩ hD
    have cr := H.ld 1 (i := 0) rfl rfl
    gi_wp2
    refine ⟨by simp, .inl ⟨_, _, rfl, run_takeDeferred hD, ?_⟩⟩
    have H2 := St.rec_ H ((touch_putObj _ W0.heap.size (.deferred none)).mono fun q _ e => (show Rec W0 q from .inl e)) (low (A := A)) high
    have c2 := H2.ld 1 (i := 0) rfl rfl
    rw [hk]
    refine ⟨.pointer (some ⟨w.g, w.ix k * 6, none⟩), ?_, rfl, H2.touch⟩
    simp [results, Tryz.f227, go_sem, c2]
end Go.Proofs.YthacioiefgabbaaGreatDoor.win
