import Derived.Test.YtojogkljneonmaaGreatDoorSxB
import Derived.IntWalk
import Derived.Laws.OwnMore
import Derived.Shelf.Small.Strs
import Derived.Shelf.Strconv.Itoa0
import Derived.Shelf.Strconv.Itoa1
import Derived.Shelf.LaysM
import Derived.Shelf.Strconv.Itoa2
import Derived.Shelf.Strconv.Itoa3
import Derived.Ground.MpProg
import Derived.Shelf.Pu.ParseUintPublic10
import Derived.Shelf.Strings.Search1
import Derived.Shelf.GgClosure.StringsIndexFunc
import Derived.Ground.GgwProg
import Derived.Shelf.GgClosure.StringsIndexFuncTop
import Derived.Shelf.GgClosure.StringsRunes
import Derived.Shelf.Strings.Prefix
import Derived.Shelf.Strings.FuncGrows
import Derived.Test.YtojogkljneonmaaGreatDoorProg
/- Small laws over memory for what 'Sx' asks: blocks, rows of cells, writes of a row. No condition. -/
namespace Go.Sx
open Go.RowKit Go.XHeap
set_option linter.unusedVariables false

variable {w w' : World} {b o : Nat} {cs : Array Value} {t : TypeId}
theorem cellsAt_of_blk (h : Blk w b cs t) (vs : Array Value) (hv : ∀ i v, vs[i]? = some v → cs[o + i]? = some v) : cellsAt w ⟨b, o, none⟩ vs := by
  intro i v hi
  rw [add_none]
  exact h.cell' (hv i v hi)
def splice (cs : Array Value) (o : Nat) (vs : List Value) : Array Value := (cs.toList.take o ++ vs ++ cs.toList.drop (o + vs.length)).toArray
theorem splice_nil (cs : Array Value) (o : Nat) : splice cs o [] = cs := by simp [splice]
theorem splice_cons (cs : Array Value) (o : Nat) (v : Value) (vs : List Value) (h : o < cs.size) : splice (cs.setIfInBounds o v) (o + 1) vs = splice cs o (v :: vs) := by
  unfold splice
  congr 1
  rw [Array.toList_setIfInBounds]
  have h1 : (cs.toList.set o v).take (o + 1) = cs.toList.take o ++ [v] := by
    rw [List.take_set, List.take_succ_eq_append_getElem (by simpa using h), List.set_append_right _ _ (by simp; omega)]
    simp [Nat.min_eq_left (Nat.le_of_lt (show o < cs.size from h))]
  have h2 : (cs.toList.set o v).drop (o + 1 + vs.length) = cs.toList.drop (o + (v :: vs).length) := by
    rw [List.drop_set_of_lt (by omega)]
    simp [Nat.add_assoc, Nat.add_comm 1]
  rw [h1, h2]
  simp
theorem blk_setCells : ∀ (vs : List Value) (w : World) (cs : Array Value) (o : Nat), Blk w b cs t → o + vs.length ≤ cs.size → Blk (w.setCells b o vs) b (splice cs o vs) t
  | [], w, cs, o, h, _ => by rw [splice_nil]; exact h
  | v :: vs, w, cs, o, h, hl => by
    simp only [List.length_cons] at hl
    rw [← splice_cons cs o v vs (by omega)]
    exact blk_setCells vs _ _ (o + 1) (h.set o v) (by simp; omega)
theorem touch_setCells : ∀ (vs : List Value) (w : World) (o : Nat), XTouch (fun k => k = b) w (w.setCells b o vs)
  | [], w, o => XTouch.refl _ _
  | v :: vs, w, o => ((XTouch.refl (fun k => k = b) w).setCell (p := ⟨b, o, none⟩) (.inl rfl) v).trans (touch_setCells vs _ (o + 1)) (fun _ _ h => h)
theorem splice_all (cs : Array Value) (vs : List Value) (h : vs.length = cs.size) : splice cs 0 vs = vs.toArray := by
  unfold splice
  rw [List.drop_of_length_le (by simp; omega)]
  simp
theorem cellsAt_self (h : Blk w b cs t) : cellsAt w ⟨b, 0, none⟩ cs := cellsAt_of_blk h cs (fun i v hi => by simpa using hi)
theorem w64 {e : Int} (h0 : -9223372036854775808 ≤ e) (h1 : e ≤ 9223372036854775807) : IntKind.wrap .i64 e = e := by rw [IntKind.wrap_i64]; omega
theorem w32 {e : Int} (h0 : 0 ≤ e) (h1 : e < 4294967296) : IntKind.wrap .u32 e = e := by
  unfold IntKind.wrap
  simp [IntKind.bits, IntKind.signed]
  omega
theorem w8 {e : Int} : IntKind.wrap .u8 e = e % 256 := by
  unfold IntKind.wrap
  simp [IntKind.bits, IntKind.signed]
theorem w32m {e : Int} : IntKind.wrap .u32 e = e % 4294967296 := by
  unfold IntKind.wrap
  simp [IntKind.bits, IntKind.signed]
end Go.Sx
/- A small logic of memory: what a function has, piece by piece, what it may write, what is kept. No condition. -/
namespace Go.Sep
open Go.RowKit Go.XHeap Go.Sx
set_option linter.unusedVariables false

/-- a piece of memory: its blocks, and what is said of them -/
structure Asn where
  own : Nat → Prop
  at_ : World → Prop
  keep : ∀ {T : Nat → Prop} {w w' : World}, at_ w → XTouch T w w' → (∀ k, own k → ¬ T k) → at_ w'
  lt : ∀ {w : World}, at_ w → ∀ k, own k → k < w.heap.size
def emp : Asn := ⟨fun _ => False, fun _ => True, fun _ _ _ => trivial, fun _ _ h => h.elim⟩
def blk (b : Nat) (cs : Array Value) (t : TypeId) : Asn := ⟨fun k => k = b, fun w => Blk w b cs t, fun h ht hn => Blk.keep h ht (hn b rfl), fun h k e => by subst e; exact Blk.lt h⟩
def sl (e : TypeId) (size : Nat) (v : Value) (n : Nat) (xs : List Value) : Asn := ⟨fun k => v.ownBlock = some k, fun w => Sl w e size v n xs, fun h ht hn => Sl.keep h ht hn, fun h => Sl.lt h⟩
/-- a map by numbers -/
def mp (κ : IntKind) (b : Nat) (f : Int → Option Value) : Asn := ⟨fun k => k = b, fun w => Mp w κ b f, fun h ht hn => Mp.keep h ht (hn b rfl), fun h k e => by subst e; exact Mp.lt h⟩
def owns : List Asn → Nat → Prop
  | [], _ => False
  | A :: L, k => A.own k ∨ owns L k
def here : List Asn → World → Prop
  | [], _ => True
  | A :: L, w => A.at_ w ∧ (∀ k, A.own k → ¬ owns L k) ∧ here L w
variable {A A' B : Asn} {L L' : List Asn} {w w0 w' : World} {M : Nat → Prop} {b : Nat} {cs : Array Value} {t : TypeId}
theorem here.keep {T : Nat → Prop} : ∀ {L : List Asn}, here L w → XTouch T w w' → (∀ k, owns L k → ¬ T k) → here L w'
  | [], _, _, _ => trivial
  | A :: L, h, ht, hn => ⟨A.keep h.1 ht (fun k hk => hn k (.inl hk)), h.2.1, here.keep h.2.2 ht (fun k hk => hn k (.inr hk))⟩
theorem here.lt : ∀ {L : List Asn}, here L w → ∀ k, owns L k → k < w.heap.size
  | [], _, _, h => h.elim
  | A :: L, h, k, hk => hk.elim (A.lt h.1 k) (here.lt h.2.2 k)
theorem here.nth : ∀ {L : List Asn} (k : Nat), here L w → L[k]? = some A → A.at_ w
  | [], _, _, hk => by simp at hk
  | B :: L, 0, h, hk => by simp at hk; subst hk; exact h.1
  | B :: L, k + 1, h, hk => here.nth k h.2.2 (by simpa using hk)
theorem owns.nth : ∀ {L : List Asn} (k : Nat) {q : Nat}, L[k]? = some A → A.own q → owns L q
  | [], _, _, hk, _ => by simp at hk
  | B :: L, 0, q, hk, h => by simp at hk; subst hk; exact .inl h
  | B :: L, k + 1, q, hk, h => .inr (owns.nth k (by simpa using hk) h)
/-- the piece of these pieces -/
def all (L : List Asn) : Asn := ⟨owns L, here L, here.keep, here.lt⟩
theorem owns_append : ∀ {L L' : List Asn} {k : Nat}, owns (L ++ L') k ↔ owns L k ∨ owns L' k
  | [], L', k => by simp [owns]
  | A :: L, L', k => by simp [owns, owns_append, or_assoc]
theorem here_append : ∀ {L L' : List Asn}, here (L ++ L') w ↔ here L w ∧ here L' w ∧ ∀ k, owns L k → ¬ owns L' k
  | [], L' => by simp [here, owns]
  | A :: L, L' => by
    simp only [List.cons_append, here, owns, here_append, owns_append]
    constructor
    · rintro ⟨h1, h2, h3, h4, h5⟩
      exact ⟨⟨h1, fun k hk e => h2 k hk (.inl e), h3⟩, h4, fun k hk e => hk.elim (fun hk => h2 k hk (.inr e)) (fun hk => h5 k hk e)⟩
    · rintro ⟨⟨h1, h2, h3⟩, h4, h5⟩
      exact ⟨h1, fun k hk e => e.elim (h2 k hk) (h5 k (.inl hk)), h3, h4, fun k hk => h5 k (.inr hk)⟩
theorem owns_set : ∀ {L : List Asn} (k : Nat) {q : Nat}, owns (L.set k A') q → A'.own q ∨ owns L q
  | [], _, _, h => by simp [owns] at h
  | B :: L, 0, q, h => by
    rcases h with h | h
    · exact .inl h
    · exact .inr (.inr h)
  | B :: L, k + 1, q, h => by
    rcases h with h | h
    · exact .inr (.inl h)
    · exact (owns_set k h).imp id .inr
/-- one piece is another one now -/
theorem here.upd (ht : XTouch A.own w w') (h' : A'.at_ w') (ho : ∀ q, A'.own q → A.own q ∨ w.heap.size ≤ q) : ∀ {L : List Asn} (k : Nat), here L w → L[k]? = some A → here (L.set k A') w'
  | [], _, _, hk => by simp at hk
  | B :: L, 0, h, hk => by
    simp at hk; subst hk
    refine ⟨h', fun q hq e => ?_, h.2.2.keep ht (fun q hq e => h.2.1 q e hq)⟩
    rcases ho q hq with e1 | e1
    · exact h.2.1 q e1 e
    · have := h.2.2.lt q e; omega
  | B :: L, k + 1, h, hk => by
    have hk' : L[k]? = some A := by simpa using hk
    refine ⟨B.keep h.1 ht (fun q hq e => h.2.1 q hq (owns.nth k hk' e)), fun q hq e => ?_, here.upd ht h' ho k h.2.2 hk'⟩
    rcases owns_set k e with e1 | e1
    · rcases ho q e1 with e2 | e2
      · exact h.2.1 q hq (owns.nth k hk' e2)
      · have := B.lt h.1 q hq; omega
    · exact h.2.1 q hq e1
/-- what a function that has A leaves: A', with new blocks maybe -/
def Post (A : Asn) (w : World) (A' : Asn) (w' : World) : Prop := A'.at_ w' ∧ XTouch A.own w w' ∧ ∀ q, A'.own q → A.own q ∨ w.heap.size ≤ q
def Hush (w w' : World) : Prop := XTouch (fun _ => False) w w'

/-- a piece among pieces -/
theorem all_upd {i : Nat} (h : here L w) (hi : L[i]? = some A) (hp : Post A w A' w') : Post (all L) w (all (L.set i A')) w' := by
  refine ⟨here.upd hp.2.1 hp.1 hp.2.2 i h hi, hp.2.1.mono (fun q _ e => owns.nth i hi e), fun q hq => ?_⟩
  rcases owns_set i hq with e | e
  · exact (hp.2.2 q e).imp (owns.nth i hi) id
  · exact .inl e
theorem post_set (h : Blk w b cs t) (i : Nat) (v : Value) : Post (blk b cs t) w (blk b (cs.setIfInBounds i v) t) (w.setCell ⟨b, i, none⟩ v) :=
  ⟨h.set i v, (XTouch.refl (fun k => k = b) w).setCell (p := ⟨b, i, none⟩) (.inl rfl) v, fun q e => .inl e⟩
/-- in a function that began in w0 and may write M: what it has now -/
structure St (w0 : World) (M : Nat → Prop) (w : World) (L : List Asn) : Prop where
  touch : XTouch M w0 w
  mine : ∀ k, owns L k → M k ∨ w0.heap.size ≤ k
  here : here L w
namespace St
theorem begin (h : A.at_ w) : St w A.own w [A] := ⟨XTouch.refl _ _, fun k hk => .inl (hk.elim id (fun e => e.elim)), ⟨h, fun _ _ e => e, trivial⟩⟩
theorem nil (w : World) : St w (fun _ => False) w [] := ⟨XTouch.refl _ _, fun k hk => hk.elim, trivial⟩
theorem all_ (h : Sep.here L w) : St w (owns L) w L := ⟨XTouch.refl _ _, fun k hk => .inl hk, h⟩
theorem nth (H : St w0 M w L) (k : Nat) (hk : L[k]? = some A) : A.at_ w := H.here.nth k hk
theorem blk (H : St w0 M w L) (k : Nat) {b : Nat} {cs : Array Value} {t : TypeId} (hk : L[k]? = some (Sep.blk b cs t)) : Blk w b cs t := H.here.nth k hk
theorem ld (H : St w0 M w L) (k : Nat) {b i : Nat} {cs : Array Value} {t : TypeId} {v : Value} (hk : L[k]? = some (Sep.blk b cs t)) (hv : cs[i]? = some v) : w.cell? ⟨b, i, none⟩ = some v := (H.blk k hk).cell' hv
theorem size (H : St w0 M w L) : w0.heap.size ≤ w.heap.size := H.touch.size
theorem upd (H : St w0 M w L) (k : Nat) (hk : L[k]? = some A) (h : Post A w A' w') : St w0 M w' (L.set k A') := by
  refine ⟨H.touch.trans h.2.1 (fun q hq e => ?_), fun q hq => ?_, H.here.upd h.2.1 h.1 h.2.2 k hk⟩
  · rcases H.mine q (owns.nth k hk e) with e1 | e1
    · exact e1
    · omega
  · rcases owns_set k hq with e1 | e1
    · rcases h.2.2 q e1 with e2 | e2
      · exact H.mine q (owns.nth k hk e2)
      · have := H.size; exact .inr (by omega)
    · exact H.mine q e1
theorem quiet (H : St w0 M w L) (h : Hush w w') : St w0 M w' L := ⟨H.touch.trans h (fun q _ e => e.elim), H.mine, H.here.keep h (fun _ _ e => e)⟩
theorem drew (H : St w0 M w L) : St w0 M w.drew L := H.quiet (XTouch.refl _ w).drew
theorem drewN (H : St w0 M w L) (n : Nat) : St w0 M (w.drewN n) L := H.quiet ((XTouch.refl _ w).drewN n)
/-- a new piece -/
theorem add (H : St w0 M w L) (h : Post emp w A w') : St w0 M w' (L ++ [A]) := by
  have hT : XTouch (fun _ => False) w w' := h.2.1
  refine ⟨H.touch.trans hT (fun q _ e => e.elim), fun q hq => ?_, here_append.2 ⟨H.here.keep hT (fun _ _ e => e), ⟨h.1, fun _ _ e => e, trivial⟩, fun q hq e => ?_⟩⟩
  · rcases owns_append.1 hq with e | e | e
    · exact H.mine q e
    · have := H.size
      exact (h.2.2 q e).elim (fun e => e.elim) (fun e => .inr (by omega))
    · exact e.elim
  · rcases e with e | e
    · have := H.here.lt q hq
      exact (h.2.2 q e).elim (fun e => e.elim) (fun e => by omega)
    · exact e
theorem alloc (H : St w0 M w L) (cs : Array Value) (t : TypeId) : St w0 M (w.alloc (.cells cs t)) (L ++ [Sep.blk w.heap.size cs t]) :=
  H.add ⟨Blk.new w cs t, (XTouch.refl _ w).alloc _, fun q e => .inr (by rw [show q = w.heap.size from e]; exact Nat.le_refl _)⟩
theorem wr (H : St w0 M w L) (k : Nat) {b : Nat} {cs : Array Value} {t : TypeId} (hk : L[k]? = some (Sep.blk b cs t)) (i : Nat) (v : Value) : St w0 M (w.setCell ⟨b, i, none⟩ v) (L.set k (Sep.blk b (cs.setIfInBounds i v) t)) :=
  H.upd k hk ⟨(H.blk k hk).set i v, (XTouch.refl (fun k => k = b) w).setCell (p := ⟨b, i, none⟩) (.inl rfl) v, fun q e => .inl e⟩
theorem wrs (H : St w0 M w L) (k : Nat) {b : Nat} {cs : Array Value} {t : TypeId} (hk : L[k]? = some (Sep.blk b cs t)) (o : Nat) (vs : List Value) (hl : o + vs.length ≤ cs.size) : St w0 M (w.setCells b o vs) (L.set k (Sep.blk b (splice cs o vs) t)) :=
  H.upd k hk ⟨blk_setCells vs w cs o (H.blk k hk) hl, touch_setCells vs w o, fun q e => .inl e⟩
/-! ### steps, as the conditions of a function ask for them -/
variable {i : Nat}
theorem al (H : St w0 M w L) {cs : Array Value} {t : TypeId} {φ : Nat → World → Prop} (hq : ∀ k w', St w0 M w' (L ++ [Sep.blk k cs t]) → φ k w') : ∀ k : Nat, ∀ w' : World, k = w.heap.size → w' = w.alloc (.cells cs t) → φ k w' := by
  rintro k w' rfl rfl
  exact hq _ _ (H.alloc cs t)
theorem alb (H : St w0 M w L) {cs : Array Value} {t : TypeId} {φ : Nat → World → Prop} (hq : ∀ k w', St w0 M w' (L ++ [Sep.blk k cs t]) → w0.heap.size ≤ k → Below w.heap.size w w' → φ k w') : ∀ k : Nat, ∀ w' : World, k = w.heap.size → w' = w.alloc (.cells cs t) → φ k w' := by
  rintro k w' rfl rfl
  exact hq _ _ (H.alloc cs t) H.size ((Below.refl _ _).alloc (Nat.le_refl _) _)
theorem dr (H : St w0 M w L) {φ : World → Prop} (hq : ∀ w', St w0 M w' L → φ w') : ∀ w' : World, w' = w.drew → φ w' := by
  rintro w' rfl
  exact hq _ H.drew
theorem drN (H : St w0 M w L) {φ : World → Prop} (hq : ∀ w', St w0 M w' L → φ w') : ∀ (w' : World) (m : Nat), w' = w.drewN m → φ w' := by
  rintro w' m rfl
  exact hq _ (H.drewN m)
theorem st (H : St w0 M w L) (k : Nat) (hk : L[k]? = some (Sep.blk b cs t)) {v : Value} {φ : World → Prop} (hi : i < cs.size) (hq : ∀ w', St w0 M w' (L.set k (Sep.blk b (cs.setIfInBounds i v) t)) → φ w') :
    (∃ u, w.cell? ⟨b, i, none⟩ = some u) ∧ w.frozen? ⟨b, i, none⟩ = false ∧ ∀ w', w' = w.setCell ⟨b, i, none⟩ v → φ w' := by
  refine ⟨⟨_, (H.blk k hk).cell' (Array.getElem?_eq_getElem hi)⟩, (H.blk k hk).frozen i, ?_⟩
  rintro w' rfl
  exact hq _ (H.wr k hk i v)
/-- a whole struct is written -/
theorem sts (H : St w0 M w L) (k : Nat) (hk : L[k]? = some (Sep.blk b cs t)) {o n : Nat} {vs : Array Value} {φ : World → Prop} (hv : vs.size = n) (hi : o + n ≤ cs.size) (h1 : ∀ v ∈ vs.toList, v.oneCell' = true)
    (hq : ∀ w', St w0 M w' (L.set k (Sep.blk b (splice cs o vs.toList) t)) → φ w') :
    vs.size = n ∧ (∀ j : Nat, j < n → (∃ v, w.cell? ⟨b, o + j, none⟩ = some v) ∧ w.frozen? ⟨b, o + j, none⟩ = false) ∧ (∀ v : Value, v ∈ vs.toList → v.oneCell' = true) ∧ ∀ w' : World, w' = w.setCells b o vs.toList → φ w' := by
  refine ⟨hv, fun j hj => ⟨⟨_, (H.blk k hk).cell' (Array.getElem?_eq_getElem (by omega))⟩, (H.blk k hk).frozen _⟩, h1, ?_⟩
  rintro w' rfl
  exact hq _ (H.wrs k hk o vs.toList (by rw [Array.length_toList]; omega))
theorem splice_zero {cs vs : Array Value} (h : vs.size = cs.size) : splice cs 0 vs.toList = vs := by
  rw [splice_all _ _ (by simpa using h)]
/-- .. over a whole block -/
theorem sts0 (H : St w0 M w L) (k : Nat) (hk : L[k]? = some (Sep.blk b cs t)) {n : Nat} {vs : Array Value} {φ : World → Prop} (hv : vs.size = n) (hi : cs.size = n) (h1 : ∀ v ∈ vs.toList, v.oneCell' = true)
    (hq : ∀ w', St w0 M w' (L.set k (Sep.blk b vs t)) → φ w') :
    vs.size = n ∧ (∀ j : Nat, j < n → (∃ v, w.cell? ⟨b, 0 + j, none⟩ = some v) ∧ w.frozen? ⟨b, 0 + j, none⟩ = false) ∧ (∀ v : Value, v ∈ vs.toList → v.oneCell' = true) ∧ ∀ w' : World, w' = w.setCells b 0 vs.toList → φ w' := by
  refine H.sts k hk hv (by omega) h1 ?_
  rw [splice_zero (by omega)]
  exact hq
theorem cells (H : St w0 M w L) (k : Nat) (hk : L[k]? = some (Sep.blk b cs t)) : cellsAt w ⟨b, 0, none⟩ cs := cellsAt_self (H.blk k hk)
/-- a struct is read out of a block -/
theorem lds (H : St w0 M w L) (k : Nat) (hk : L[k]? = some (Sep.blk b cs t)) {o : Nat} {vs : Array Value} (hv : ∀ j u, vs[j]? = some u → cs[o + j]? = some u) : cellsAt w ⟨b, o, none⟩ vs := cellsAt_of_blk (H.blk k hk) vs hv
/-! calls -/
variable {P : Program} {f : FuncId} {args : Array Value} {Q : Ending → World → Prop} {E : Ending}
/-- a map read -/
theorem look (H : St w0 M w L) (k : Nat) {κ : IntKind} {f : Int → Option Value} (hk : L[k]? = some (Sep.mp κ b f)) : Mp w κ b f := H.here.nth k hk
/-- a map written -/
theorem put (H : St w0 M w L) (k : Nat) {κ : IntKind} {f : Int → Option Value} (hk : L[k]? = some (Sep.mp κ b f)) {x : Int} {v : Option Value} {φ : World → Prop} (hq : ∀ w', St w0 M w' (L.set k (Sep.mp κ b (Sx.upd f x v))) → φ w') : ∀ w' : World, Mp w' κ b (Sx.upd f x v) → XTouch (fun q => q = b) w w' → φ w' :=
  fun w' h1 h2 => hq w' (H.upd k hk ⟨h1, h2, fun q e => .inl e⟩)
theorem call (H : St w0 M w L) (k : Nat) (hk : L[k]? = some A) (hc : Calls P f args w fun e w' => e = E ∧ Post A w A' w') (hq : ∀ w', St w0 M w' (L.set k A') → Q E w') : Calls P f args w Q :=
  hc.mono fun e w' h => by rw [h.1]; exact hq _ (H.upd k hk h.2)
theorem callq (H : St w0 M w L) (hc : Calls P f args w fun e w' => e = E ∧ Hush w w') (hq : ∀ w', St w0 M w' L → Q E w') : Calls P f args w Q :=
  hc.mono fun e w' h => by rw [h.1]; exact hq _ (H.quiet h.2)
theorem callp (H : St w0 M w L) (hc : Calls P f args w fun e w' => e = E ∧ w' = w) (hq : Q E w) : Calls P f args w Q :=
  hc.mono fun e w' h => by rw [h.1, h.2]; exact hq
/-! ends -/
theorem post (H : St w0 A.own w L) (k : Nat) (hk : L[k]? = some A') : Post A w0 A' w := ⟨H.nth k hk, H.touch, fun q hq => H.mine q (owns.nth k hk hq)⟩
theorem new (H : St w0 (fun _ => False) w L) (k : Nat) (hk : L[k]? = some A') : Post emp w0 A' w := ⟨H.nth k hk, H.touch, fun q hq => H.mine q (owns.nth k hk hq)⟩
/-- some pieces are forgotten -/
theorem sub (H : St w0 M w (L ++ L')) : St w0 M w L := ⟨H.touch, fun q hq => H.mine q (owns_append.2 (.inl hq)), (here_append.1 H.here).1⟩
theorem take (H : St w0 M w L) (n : Nat) : St w0 M w (L.take n) := St.sub (L' := L.drop n) (by rw [List.take_append_drop]; exact H)
theorem tail (H : St w0 M w (A :: L)) : St w0 M w L := ⟨H.touch, fun q hq => H.mine q (.inr hq), H.here.2.2⟩
/-- a piece is opened, shut -/
theorem open_ (H : St w0 M w (all L :: L')) : St w0 M w (L ++ L') := ⟨H.touch, fun q hq => H.mine q (owns_append.1 hq), here_append.2 ⟨H.here.1, H.here.2.2, H.here.2.1⟩⟩
theorem shut (H : St w0 M w (L ++ L')) : St w0 M w (all L :: L') := ⟨H.touch, fun q hq => H.mine q (owns_append.2 hq), let h := here_append.1 H.here; ⟨h.1, h.2.2, h.2.1⟩⟩
theorem push {Ls : List Asn} (H : St w0 M w (all Ls :: B :: L)) : St w0 M w (all (Ls ++ [B]) :: L) := by
  refine St.shut ?_
  rw [List.append_assoc]
  exact St.open_ H
theorem swap (H : St w0 M w (A :: B :: L)) : St w0 M w (B :: A :: L) := by
  refine ⟨H.touch, fun q hq => H.mine q ?_, H.here.2.2.1, fun q hq e => ?_, H.here.1, fun q hq e => H.here.2.1 q hq (.inr e), H.here.2.2.2.2⟩
  · rcases hq with e | e | e
    · exact .inr (.inl e)
    · exact .inl e
    · exact .inr (.inr e)
  · rcases e with e | e
    · exact H.here.2.1 q e (.inl hq)
    · exact H.here.2.2.2.1 q hq e
theorem perm (H : St w0 M w L) (hp : L.Perm L') : St w0 M w L' := by
  have : ∀ {L L' : List Asn}, L.Perm L' → (∀ q, owns L q ↔ owns L' q) ∧ (Sep.here L w → Sep.here L' w) := by
    intro L L' hp
    induction hp with
    | nil => exact ⟨fun _ => Iff.rfl, id⟩
    | cons x _ ih => exact ⟨fun q => or_congr Iff.rfl (ih.1 q), fun h => ⟨h.1, fun q hq e => h.2.1 q hq ((ih.1 q).2 e), ih.2 h.2.2⟩⟩
    | swap x y l => exact ⟨fun q => by simp only [owns]; exact or_left_comm, fun h => ⟨h.2.2.1, fun q hq e => e.elim (fun e => h.2.1 q e (.inl hq)) (h.2.2.2.1 q hq), h.1, fun q hq e => h.2.1 q hq (.inr e), h.2.2.2.2⟩⟩
    | trans _ _ i1 i2 => exact ⟨fun q => (i1.1 q).trans (i2.1 q), fun h => i2.2 (i1.2 h)⟩
  exact ⟨H.touch, fun q hq => H.mine q (((this hp).1 q).2 hq), (this hp).2 H.here⟩
theorem disj {L : List Asn} (h : Sep.here L w) : ∀ (i j : Nat) {A B : Asn}, i ≠ j → L[i]? = some A → L[j]? = some B → ∀ q, A.own q → ¬ B.own q := by
  induction L with
  | nil => intro i j A B _ hi; simp at hi
  | cons C L ih =>
    intro i j A B hn hi hj q hq e
    match i, j with
    | 0, 0 => exact hn rfl
    | 0, j + 1 => simp at hi; subst hi; exact h.2.1 q hq (owns.nth j (by simpa using hj) e)
    | i + 1, 0 => simp at hj; subst hj; exact h.2.1 q e (owns.nth i (by simpa using hi) hq)
    | i + 1, j + 1 => exact ih h.2.2 i j (by omega) (by simpa using hi) (by simpa using hj) q hq e
def sel (L : List Asn) : List Nat → List Asn
  | [] => []
  | i :: is => match L[i]? with
    | some A => A :: sel L is
    | none => sel L is
theorem owns_sel : ∀ (is : List Nat) {q : Nat}, owns (sel L is) q → ∃ j ∈ is, ∃ B, L[j]? = some B ∧ B.own q
  | [], q, h => h.elim
  | i :: is, q, h => by
    unfold sel at h
    split at h
    · rename_i A hA
      rcases h with h | h
      · exact ⟨i, by simp, A, hA, h⟩
      · obtain ⟨j, hj, r⟩ := owns_sel is h
        exact ⟨j, by simp [hj], r⟩
    · obtain ⟨j, hj, r⟩ := owns_sel is h
      exact ⟨j, by simp [hj], r⟩
theorem here_sel (h : Sep.here L w) : ∀ (is : List Nat), is.Nodup → Sep.here (sel L is) w
  | [], _ => trivial
  | i :: is, hn => by
    have hn' := List.nodup_cons.1 hn
    unfold sel
    split
    · rename_i A hA
      refine ⟨h.nth i hA, fun q hq e => ?_, here_sel h is hn'.2⟩
      obtain ⟨j, hj, B, hB, hb⟩ := owns_sel is e
      exact disj h i j (fun e => hn'.1 (e ▸ hj)) hA hB q hq hb
    · exact here_sel h is hn'.2
/-- these pieces, in this order; the others are forgotten -/
theorem pick (H : St w0 M w L) (is : List Nat) (hn : is.Nodup := by decide) : St w0 M w (sel L is) :=
  ⟨H.touch, fun q hq => by obtain ⟨j, _, B, hB, hb⟩ := owns_sel is hq; exact H.mine q (owns.nth j hB hb), here_sel H.here is hn⟩
/-- pieces become one, one becomes pieces -/
theorem fold {Ls : List Asn} (H : St w0 M w (Ls ++ L)) (h : Sep.here Ls w → A.at_ w) (ho : ∀ q, A.own q → owns Ls q) : St w0 M w (A :: L) := by
  have h1 := here_append.1 H.here
  exact ⟨H.touch, fun q hq => H.mine q (owns_append.2 (hq.imp (ho q) id)), h h1.1, fun q hq => h1.2.2 q (ho q hq), h1.2.1⟩
theorem unfold_ {Ls : List Asn} (H : St w0 M w (A :: L)) (h : A.at_ w → Sep.here Ls w) (ho : ∀ q, owns Ls q → A.own q) : St w0 M w (Ls ++ L) :=
  ⟨H.touch, fun q hq => H.mine q ((owns_append.1 hq).imp (ho q) id), here_append.2 ⟨h H.here.1, H.here.2.2, fun q hq => H.here.2.1 q (ho q hq)⟩⟩
/-- what is said of a piece is turned -/
theorem conv (H : St w0 M w L) (k : Nat) (hk : L[k]? = some A) (h : A.at_ w → A'.at_ w) (ho : ∀ q, A'.own q → A.own q) : St w0 M w (L.set k A') :=
  H.upd k hk ⟨h (H.nth k hk), XTouch.refl _ _, fun q hq => .inl (ho q hq)⟩
/-- an append to a slice that is a piece -/
theorem app (H : St w0 M w L) (k : Nat) {e size n m bytes : Nat} {p q : Option Addr} {c : Nat} {olds : List Value} (hk : L[k]? = some (Sep.sl e size (.slice p n c) n olds)) (news : List Value)
    (h1 : (m = 0 ∧ q = none) ∨ ∃ a, q = some a ∧ ∀ j u, news[j]? = some u → w.cell? (a.add j) = some u) (h2 : news.length = m * size) (h3 : ∀ u ∈ news, u.oneCell' = true) (h4 : n + m ≤ maxLen) (h5 : (n + m) * bytes ≤ 140737488355328)
    {φ : Option Addr → Nat → World → Prop} (hq : ∀ p' c' w', St w0 M w' (L.set k (Sep.sl e size (.slice p' (n + m) c') (n + m) (olds ++ news))) → φ p' c' w') :
    ∃ olds news : List Value, Sl w e size (.slice p n c) n olds ∧ ((m = 0 ∧ q = none) ∨ ∃ a, q = some a ∧ ∀ j u, news[j]? = some u → w.cell? (a.add j) = some u) ∧ news.length = m * size ∧ (∀ u ∈ news, u.oneCell' = true) ∧ n + m ≤ maxLen ∧ (n + m) * bytes ≤ 140737488355328 ∧
      ∀ (p' : Option Addr) (c' : Nat) (w' : World), Sl w' e size (.slice p' (n + m) c') (n + m) (olds ++ news) → XTouch (fun b => (Value.slice p n c).ownBlock = some b) w w' → (∀ b, (Value.slice p' (n + m) c').ownBlock = some b → (Value.slice p n c).ownBlock = some b ∨ w.heap.size ≤ b) → Sl w' e size (.slice p n c) n olds → ((p' = p ∧ c' = c) ∨ ((NilP p ∨ c < n + m) ∧ ∀ b, (Value.slice p' (n + m) c').ownBlock = some b → w.heap.size ≤ b)) → φ p' c' w' :=
  ⟨olds, news, H.nth k hk, h1, h2, h3, h4, h5, fun p' c' w' a b d _ _ => hq p' c' w' (H.upd k hk ⟨a, b, d⟩)⟩
end St
/-! ### rows of numbers -/
def ints (κ : IntKind) (l : List Int) : Array Value := (l.map (.int κ)).toArray
variable {κ : IntKind} {l : List Int}
theorem ints_made (n : Nat) : madeCells #[.int κ 0] n = ints κ (List.replicate n 0) := by
  apply Array.toList_inj.1
  rw [toList_madeCells_one]
  simp [ints]
theorem adr_some {g o : Nat} {f : Nat → Nat → Prop} (h : f g o) : Sx.adr (some ⟨g, o, none⟩) f := h
theorem ptr_some {a : Addr} {f : Addr → Prop} (h : f a) : Sx.ptr (some a) f := h
theorem nil_true {f : Bool → Prop} (h : f true) : Sx.isNil .nilIface f := h
theorem nil_false {t : TypeId} {v : Value} {f : Bool → Prop} (h : f false) : Sx.isNil (.iface t v) f := h
theorem ix1 (o n : Nat) : o + ((n : Nat) : Int).toNat * 1 = o + n := by omega
/-! ### rows of structs -/
section rows
variable {α : Type} {f : α → List Value} {n : Nat} {l : List α}
def rows (f : α → List Value) (l : List α) : Array Value := (l.flatMap f).toArray
end rows
end Go.Sep
/- Numbers of so many bits as natural numbers: wrap, and, or, exclusive or, shifts. No condition. -/
namespace Go.Bits
open Go.Sx
set_option linter.unusedVariables false

theorem n64 {x : Nat} (h : x < 9223372036854775808) : IntKind.wrap .i64 (x : Int) = x := w64 (by omega) (by omega)
theorem n32 {x : Nat} (h : x < 4294967296) : IntKind.wrap .u32 (x : Int) = x := w32 (by omega) (by omega)
theorem m8 (x : Nat) : IntKind.wrap .u8 (x : Int) = ((x % 256 : Nat) : Int) := by rw [w8]; omega
theorem shr (x n : Nat) : Int.fdiv (x : Int) (2 ^ n) = ((x / 2 ^ n : Nat) : Int) := by
  rw [Int.fdiv_eq_ediv_of_nonneg _ (Int.pow_nonneg (by decide))]
  simp
theorem tmod (a b : Nat) : Int.tmod (a : Int) (b : Int) = ((a % b : Nat) : Int) := rfl
theorem tdiv (a b : Nat) : Int.tdiv (a : Int) (b : Int) = ((a / b : Nat) : Int) := rfl
end Go.Bits
/-
  DERIVED: THE SHELF's CONTRACTS AT THIS DUMP, IN PLAIN WORDS (tools/lay-plain.mjs out of 'YtojogkljneonmaaGreatDoorShelf.lean', which tools/lay-shelf.mjs wrote): THE SAME DECLARATIONS UNDER THE SAME NAMES: 'import', 'namespace', 'open', 'def', 'theorem' AND NOTHING ELSE: no command of the shelf's: FOR A HAND-IN. Each laying: the table of numbers ('.._ren') and one theorem, a field a fact of the dump's own or the kernel's comparison; each contract: ONE APPLICATION.
-/
namespace Go.Proofs
open Go.Shelf
def Tryz.lays137_ren : Go.Shelf.Ren := ⟨fun | 137 => 47 | 217 => 83 | 266 => 106 | n => n, fun | 9 => 9 | 5 => 5 | 3 => 3 | n => n, fun | n => n⟩
theorem Tryz.lays137 : Go.Proofs.Lays.n137 Tryz.prog Tryz.lays137_ren := {
  mixed := by kernel_rfl
  f137 := Tryz.func47.trans (congrArg some (by kernel_rfl))
  f217 := Tryz.func83.trans (congrArg some (by kernel_rfl))
  f266 := Tryz.func106.trans (congrArg some (by kernel_rfl))
  t3 := Tryz.underlying3
  a3 := Tryz.isAgg3
  z3 := Tryz.sizeOf3
  v3 := Tryz.zeroValue3
  t5 := Tryz.underlying5
  a5 := Tryz.isAgg5
  z5 := Tryz.sizeOf5
  v5 := Tryz.zeroValue5
  t9 := Tryz.underlying9
  a9 := Tryz.isAgg9
  z9 := Tryz.sizeOf9
  v9 := Tryz.zeroValue9 }
open Go.RowKit in
/-- strings.IndexByte: "IndexByte returns the index of the first instance of c in s, or -1 if c is not present in s.": IT RETURNS 'Lib.indexByte s c'; the world is as it was. (LAID: no walk: one application.) -/
theorem Tryz.strings_IndexByte (s : ByteArray) (c : Int) (w : World) :
    Calls Tryz.prog 47 #[.string s, .int .u8 c] w fun e w' => e = .returned (.int .i64 (Lib.indexByte s.data.toList c.toNat.toUInt8)) ∧ w' = w := Any.strings_IndexByte Tryz.lays137 s c w
open Go.Lib in
open Go.RowKit Go.Sort Go.Lib in
def Tryz.laysPu14_ren : Go.Shelf.Ren := ⟨fun | 14 => 92 | 16 => 108 | 17 => 109 | 19 => 122 | 20 => 123 | 21 => 124 | 22 => 125 | 23 => 126 | 24 => 127 | 25 => 139 | 27 => 141 | 26 => 140 | 28 => 170 | 29 => 176 | 30 => 177 | 31 => 178 | 32 => 179 | 33 => 180 | 35 => 182 | 34 => 181 | 36 => 183 | 37 => 184 | 38 => 185 | 39 => 186 | 40 => 187 | n => n, fun | 9 => 9 | 3 => 3 | 22 => 204 | 24 => 23 | 25 => 205 | 4 => 4 | 34 => 234 | 5 => 5 | 36 => 236 | 37 => 67 | 0 => 0 | 39 => 237 | 21 => 21 | 44 => 253 | 47 => 261 | 50 => 264 | 48 => 262 | 2 => 2 | 52 => 268 | 55 => 271 | 59 => 275 | 60 => 32 | 20 => 20 | 61 => 276 | 65 => 280 | 66 => 281 | 67 => 144 | n => n, fun | 0 => 2 | 1 => 3 | 2 => 4 | 3 => 5 | 4 => 6 | n => n⟩
theorem Tryz.laysPu14 : Go.Proofs.LaysPu.n14 Tryz.prog Tryz.laysPu14_ren := {
  mixed := by kernel_rfl
  f14 := Tryz.func92.trans (congrArg some (by kernel_rfl))
  f16 := Tryz.func108.trans (congrArg some (by kernel_rfl))
  f17 := Tryz.func109.trans (congrArg some (by kernel_rfl))
  f19 := Tryz.func122.trans (congrArg some (by kernel_rfl))
  f20 := Tryz.func123.trans (congrArg some (by kernel_rfl))
  f21 := Tryz.func124.trans (congrArg some (by kernel_rfl))
  f22 := Tryz.func125.trans (congrArg some (by kernel_rfl))
  f23 := Tryz.func126.trans (congrArg some (by kernel_rfl))
  f24 := Tryz.func127.trans (congrArg some (by kernel_rfl))
  f25 := Tryz.func139.trans (congrArg some (by kernel_rfl))
  f26 := Tryz.func140.trans (congrArg some (by kernel_rfl))
  f27 := Tryz.func141.trans (congrArg some (by kernel_rfl))
  f28 := Tryz.func170.trans (congrArg some (by kernel_rfl))
  f29 := Tryz.func176.trans (congrArg some (by kernel_rfl))
  f30 := Tryz.func177.trans (congrArg some (by kernel_rfl))
  f31 := Tryz.func178.trans (congrArg some (by kernel_rfl))
  f32 := Tryz.func179.trans (congrArg some (by kernel_rfl))
  f33 := Tryz.func180.trans (congrArg some (by kernel_rfl))
  f34 := Tryz.func181.trans (congrArg some (by kernel_rfl))
  f35 := Tryz.func182.trans (congrArg some (by kernel_rfl))
  f36 := Tryz.func183.trans (congrArg some (by kernel_rfl))
  f37 := Tryz.func184.trans (congrArg some (by kernel_rfl))
  f38 := Tryz.func185.trans (congrArg some (by kernel_rfl))
  f39 := Tryz.func186.trans (congrArg some (by kernel_rfl))
  f40 := Tryz.func187.trans (congrArg some (by kernel_rfl))
  t0 := Tryz.underlying0
  a0 := Tryz.isAgg0
  z0 := Tryz.sizeOf0
  v0 := Tryz.zeroValue0
  i0 := by kernel_rfl
  t2 := Tryz.underlying2
  a2 := Tryz.isAgg2
  z2 := Tryz.sizeOf2
  v2 := Tryz.zeroValue2
  i2 := by kernel_rfl
  t3 := Tryz.underlying3
  a3 := Tryz.isAgg3
  z3 := Tryz.sizeOf3
  v3 := Tryz.zeroValue3
  i3 := by kernel_rfl
  t4 := Tryz.underlying4
  a4 := Tryz.isAgg4
  z4 := Tryz.sizeOf4
  v4 := Tryz.zeroValue4
  i4 := by kernel_rfl
  t5 := Tryz.underlying5
  a5 := Tryz.isAgg5
  z5 := Tryz.sizeOf5
  v5 := Tryz.zeroValue5
  i5 := by kernel_rfl
  t9 := Tryz.underlying9
  a9 := Tryz.isAgg9
  z9 := Tryz.sizeOf9
  v9 := Tryz.zeroValue9
  i9 := by kernel_rfl
  t20 := Tryz.underlying20
  a20 := Tryz.isAgg20
  z20 := Tryz.sizeOf20
  v20 := Tryz.zeroValue20
  i20 := by kernel_rfl
  t21 := Tryz.underlying21
  a21 := Tryz.isAgg21
  z21 := Tryz.sizeOf21
  v21 := Tryz.zeroValue21
  i21 := by kernel_rfl
  t22 := Tryz.underlying204
  a22 := Tryz.isAgg204
  z22 := Tryz.sizeOf204
  v22 := Tryz.zeroValue204
  i22 := by kernel_rfl
  t24 := Tryz.underlying23
  a24 := Tryz.isAgg23
  z24 := Tryz.sizeOf23
  v24 := Tryz.zeroValue23
  i24 := by kernel_rfl
  t25 := Tryz.underlying205
  a25 := Tryz.isAgg205
  z25 := Tryz.sizeOf205
  v25 := Tryz.zeroValue205
  i25 := by kernel_rfl
  t34 := Tryz.underlying234
  a34 := Tryz.isAgg234
  z34 := Tryz.sizeOf234
  v34 := Tryz.zeroValue234
  i34 := by kernel_rfl
  c34 := by kernel_rfl
  t36 := Tryz.underlying236
  a36 := Tryz.isAgg236
  z36 := Tryz.sizeOf236
  v36 := Tryz.zeroValue236
  i36 := by kernel_rfl
  t37 := Tryz.underlying67
  a37 := Tryz.isAgg67
  z37 := Tryz.sizeOf67
  v37 := Tryz.zeroValue67
  i37 := by kernel_rfl
  t39 := Tryz.underlying237
  a39 := Tryz.isAgg237
  z39 := Tryz.sizeOf237
  v39 := Tryz.zeroValue237
  i39 := by kernel_rfl
  t44 := Tryz.underlying253
  a44 := Tryz.isAgg253
  z44 := Tryz.sizeOf253
  v44 := Tryz.zeroValue253
  i44 := by kernel_rfl
  t47 := Tryz.underlying261
  a47 := Tryz.isAgg261
  z47 := Tryz.sizeOf261
  v47 := Tryz.zeroValue261
  i47 := by kernel_rfl
  t48 := Tryz.underlying262
  a48 := Tryz.isAgg262
  z48 := Tryz.sizeOf262
  v48 := Tryz.zeroValue262
  i48 := by kernel_rfl
  t50 := Tryz.underlying264
  a50 := Tryz.isAgg264
  z50 := Tryz.sizeOf264
  v50 := Tryz.zeroValue264
  i50 := by kernel_rfl
  t52 := Tryz.underlying268
  a52 := Tryz.isAgg268
  z52 := Tryz.sizeOf268
  v52 := Tryz.zeroValue268
  i52 := by kernel_rfl
  t55 := Tryz.underlying271
  a55 := Tryz.isAgg271
  z55 := Tryz.sizeOf271
  v55 := Tryz.zeroValue271
  i55 := by kernel_rfl
  t59 := Tryz.underlying275
  a59 := Tryz.isAgg275
  z59 := Tryz.sizeOf275
  v59 := Tryz.zeroValue275
  i59 := by kernel_rfl
  t60 := Tryz.underlying32
  a60 := Tryz.isAgg32
  z60 := Tryz.sizeOf32
  v60 := Tryz.zeroValue32
  i60 := by kernel_rfl
  t61 := Tryz.underlying276
  a61 := Tryz.isAgg276
  z61 := Tryz.sizeOf276
  t65 := Tryz.underlying280
  a65 := Tryz.isAgg280
  z65 := Tryz.sizeOf280
  v65 := Tryz.zeroValue280
  i65 := by kernel_rfl
  t66 := Tryz.underlying281
  a66 := Tryz.isAgg281
  z66 := Tryz.sizeOf281
  v66 := Tryz.zeroValue281
  i66 := by kernel_rfl
  t67 := Tryz.underlying144
  a67 := Tryz.isAgg144
  z67 := Tryz.sizeOf144
  v67 := Tryz.zeroValue144
  i67 := by kernel_rfl
  g0 := by kernel_rfl
  m0 := by kernel_rfl
  g1 := by kernel_rfl
  m1 := by kernel_rfl
  g2 := by kernel_rfl
  m2 := by kernel_rfl
  g3 := by kernel_rfl
  m3 := by kernel_rfl
  g4 := by kernel_rfl
  m4 := by kernel_rfl }
open Go.RowKit in
/-- strconv.ParseUint(s, 10, 32), AT EVERY STRING THAT SPELLS A uint32 ('Lib.parseUintB 32 s.data.toList = .ok u'): u, AND NO ERROR. (LAID: no walk: one application.) -/
theorem Tryz.strconv_ParseUint_10_at32_ok (s : ByteArray) (hmax : s.size ≤ 9223372036854775806) (u : Nat) (h : Lib.parseUintB 32 s.data.toList = .ok u) (w : World) :
    Calls Tryz.prog 92 #[.string s, .int .i64 10, .int .i64 32] w fun e w' => e = .returned (.tuple #[.int .u64 u, .nilIface]) ∧ (w' = w ∨ w' = Lib.bytesWorld w 5 s) := Any.strconv_ParseUint_10_at32_ok Tryz.laysPu14 s hmax u h w
open Go.RowKit in
/-- strconv.ParseUint(s, 10, 32), AT EVERY NUMERAL THAT NO uint32 HOLDS: THE GREATEST uint32, AND AN ERROR THAT IS NOT nil: a *NumError in a new block N: {Func: "ParseUint", Num: s's bytes, Err: what the variable ErrRange holds}. Of what was there nothing has turned. (LAID: no walk: one application.) -/
theorem Tryz.strconv_ParseUint_10_at32_range (s : ByteArray) (hlim : s.size ≤ 281474976710656) (h : Lib.parseUintB 32 s.data.toList = .range) (ev : Value) (w : World) (hv : w.cell? ⟨3, 0, none⟩ = some ev) (hev : ev = .nilIface ∨ ∃ te pe, ev = .iface te pe) :
    Calls Tryz.prog 92 #[.string s, .int .i64 10, .int .i64 32] w fun e w' => ∃ N, e = .returned (.tuple #[.int .u64 4294967295, .iface 237 (.pointer (some ⟨N, 0, none⟩))]) ∧ w.heap.size ≤ N ∧ w'.heap[N]? = some (.cells #[.string ⟨#[80, 97, 114, 115, 101, 85, 105, 110, 116]⟩, .string s, ev] 253 (0, 0)) ∧ Below w.heap.size w w' := Any.strconv_ParseUint_10_at32_range Tryz.laysPu14 s hlim h ev w hv hev
open Go.RowKit in
open Go.RowKit Go.Lib in
def Tryz.laysGw15_ren : Go.Shelf.Ren := ⟨fun | 15 => 84 | 20 => 107 | n => n, fun | 9 => 9 | 23 => 201 | 3 => 3 | 4 => 4 | 0 => 0 | 21 => 21 | n => n, fun | n => n⟩
theorem Tryz.laysGw15 : Go.Proofs.LaysGw.n15 Tryz.prog Tryz.laysGw15_ren := {
  mixed := by kernel_rfl
  f15 := Tryz.func84.trans (congrArg some (by kernel_rfl))
  f20 := Tryz.func107.trans (congrArg some (by kernel_rfl))
  t0 := Tryz.underlying0
  a0 := Tryz.isAgg0
  z0 := Tryz.sizeOf0
  v0 := Tryz.zeroValue0
  i0 := by kernel_rfl
  t3 := Tryz.underlying3
  a3 := Tryz.isAgg3
  z3 := Tryz.sizeOf3
  v3 := Tryz.zeroValue3
  i3 := by kernel_rfl
  t4 := Tryz.underlying4
  a4 := Tryz.isAgg4
  z4 := Tryz.sizeOf4
  v4 := Tryz.zeroValue4
  i4 := by kernel_rfl
  t9 := Tryz.underlying9
  a9 := Tryz.isAgg9
  z9 := Tryz.sizeOf9
  v9 := Tryz.zeroValue9
  i9 := by kernel_rfl
  t21 := Tryz.underlying21
  a21 := Tryz.isAgg21
  z21 := Tryz.sizeOf21
  v21 := Tryz.zeroValue21
  i21 := by kernel_rfl
  t23 := Tryz.underlying201
  a23 := Tryz.isAgg201
  z23 := Tryz.sizeOf201
  v23 := Tryz.zeroValue201
  i23 := by kernel_rfl }
open Go.RowKit Go.Lib in
theorem Tryz.strings_IndexFunc (g : Nat) (lb : Array Value) (eg : ∀ args w, (callFunc g args).run Tryz.prog w = .ok (.enter g args) w) (p : Nat → Bool) (s : ByteArray) (w : World) (hp : PredAt Tryz.prog g lb encR p w) :
    Calls Tryz.prog 84 #[.string s, .func (.func g) #[] lb] w fun e w' => e = .returned (.int .i64 (Lib.idxFunc p true s)) ∧ Below w.heap.size w w' := Any.strings_IndexFunc Tryz.laysGw15 g lb eg p s w hp
open Go.RowKit Go.Lib in
def Tryz.lays99_ren : Go.Shelf.Ren := ⟨fun | 99 => 46 | 206 => 82 | n => n, fun | 9 => 9 | 4 => 4 | 3 => 3 | n => n, fun | n => n⟩
theorem Tryz.lays99 : Go.Proofs.Lays.n99 Tryz.prog Tryz.lays99_ren := {
  mixed := by kernel_rfl
  f99 := Tryz.func46.trans (congrArg some (by kernel_rfl))
  f206 := Tryz.func82.trans (congrArg some (by kernel_rfl))
  t3 := Tryz.underlying3
  a3 := Tryz.isAgg3
  z3 := Tryz.sizeOf3
  v3 := Tryz.zeroValue3
  t4 := Tryz.underlying4
  a4 := Tryz.isAgg4
  z4 := Tryz.sizeOf4
  v4 := Tryz.zeroValue4
  t9 := Tryz.underlying9
  a9 := Tryz.isAgg9
  z9 := Tryz.sizeOf9
  v9 := Tryz.zeroValue9 }
open Go.RowKit Go.Lib in
/-- strings.HasPrefix: "HasPrefix reports whether the string s begins with prefix.": IT RETURNS 'Lib.hasPrefix s prefix'; the world is as it was. (LAID: no walk: one application.) -/
theorem Tryz.strings_HasPrefix (s p : ByteArray) (w : World) :
    Calls Tryz.prog 46 #[.string s, .string p] w fun e w' => e = .returned (.bool (Lib.hasPrefix s.data.toList p.data.toList)) ∧ w' = w := Any.strings_HasPrefix Tryz.lays99 s p w
end Go.Proofs
