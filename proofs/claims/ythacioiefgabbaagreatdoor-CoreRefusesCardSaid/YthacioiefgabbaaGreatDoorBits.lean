import Derived.Test.YthacioiefgabbaaGreatDoorSxB
import Derived.IntWalk
import Derived.Laws.OwnMore
/- Small laws over memory for what 'Sx' asks: blocks, rows of cells, writes of a row. No condition. -/
namespace Go.Sx
open Go.RowKit Go.XHeap
set_option linter.unusedVariables false

variable {w w' : World} {b o : Nat} {cs : Array Value} {t : TypeId}
theorem cellsAt_of_blk (h : Blk w b cs t) (vs : Array Value) (hv : ∀ i v, vs[i]? = some v → cs[o + i]? = some v) : cellsAt w ⟨b, o, none⟩ vs := by
  intro i v hi
  rw [add_none]
  exact h.cell' (hv i v hi)
def splice (cs : Array Value) (o : Nat) (vs : List Value) : Array Value := (cs.toList.take o ++ vs ++ cs.toList.drop (o + vs.length)).toArray
theorem splice_nil (cs : Array Value) (o : Nat) : splice cs o [] = cs := by simp [splice]
theorem splice_cons (cs : Array Value) (o : Nat) (v : Value) (vs : List Value) (h : o < cs.size) : splice (cs.setIfInBounds o v) (o + 1) vs = splice cs o (v :: vs) := by
  unfold splice
  congr 1
  rw [Array.toList_setIfInBounds]
  have h1 : (cs.toList.set o v).take (o + 1) = cs.toList.take o ++ [v] := by
    rw [List.take_set, List.take_succ_eq_append_getElem (by simpa using h), List.set_append_right _ _ (by simp; omega)]
    simp [Nat.min_eq_left (Nat.le_of_lt (show o < cs.size from h))]
  have h2 : (cs.toList.set o v).drop (o + 1 + vs.length) = cs.toList.drop (o + (v :: vs).length) := by
    rw [List.drop_set_of_lt (by omega)]
    simp [Nat.add_assoc, Nat.add_comm 1]
  rw [h1, h2]
  simp
theorem blk_setCells : ∀ (vs : List Value) (w : World) (cs : Array Value) (o : Nat), Blk w b cs t → o + vs.length ≤ cs.size → Blk (w.setCells b o vs) b (splice cs o vs) t
  | [], w, cs, o, h, _ => by rw [splice_nil]; exact h
  | v :: vs, w, cs, o, h, hl => by
    simp only [List.length_cons] at hl
    rw [← splice_cons cs o v vs (by omega)]
    exact blk_setCells vs _ _ (o + 1) (h.set o v) (by simp; omega)
theorem touch_setCells : ∀ (vs : List Value) (w : World) (o : Nat), XTouch (fun k => k = b) w (w.setCells b o vs)
  | [], w, o => XTouch.refl _ _
  | v :: vs, w, o => ((XTouch.refl (fun k => k = b) w).setCell (p := ⟨b, o, none⟩) (.inl rfl) v).trans (touch_setCells vs _ (o + 1)) (fun _ _ h => h)
theorem splice_all (cs : Array Value) (vs : List Value) (h : vs.length = cs.size) : splice cs 0 vs = vs.toArray := by
  unfold splice
  rw [List.drop_of_length_le (by simp; omega)]
  simp
theorem splice_get (cs : Array Value) (o : Nat) (vs : List Value) (h : o + vs.length ≤ cs.size) (i : Nat) : (splice cs o vs)[i]? = if o ≤ i ∧ i < o + vs.length then vs[i - o]? else cs[i]? := by
  unfold splice
  rw [List.getElem?_toArray]
  have hl : (cs.toList.take o).length = o := by simp; omega
  by_cases h1 : i < o
  · rw [if_neg (by omega), List.append_assoc, List.getElem?_append_left (by omega), List.getElem?_take_of_lt h1]; simp
  · by_cases h2 : i < o + vs.length
    · rw [if_pos ⟨by omega, h2⟩, List.append_assoc, List.getElem?_append_right (by omega), hl, List.getElem?_append_left (by omega)]
    · rw [if_neg (by omega), List.getElem?_append_right (by simp; omega), List.getElem?_drop]
      simp only [List.length_append, hl]
      rw [show o + vs.length + (i - (o + vs.length)) = i by omega]
      simp
theorem splice_size (cs : Array Value) (o : Nat) (vs : List Value) (h : o + vs.length ≤ cs.size) : (splice cs o vs).size = cs.size := by
  unfold splice; simp; omega
theorem cellsAt_self (h : Blk w b cs t) : cellsAt w ⟨b, 0, none⟩ cs := cellsAt_of_blk h cs (fun i v hi => by simpa using hi)
theorem w64 {e : Int} (h0 : -9223372036854775808 ≤ e) (h1 : e ≤ 9223372036854775807) : IntKind.wrap .i64 e = e := by rw [IntKind.wrap_i64]; omega
theorem w32 {e : Int} (h0 : 0 ≤ e) (h1 : e < 4294967296) : IntKind.wrap .u32 e = e := by
  unfold IntKind.wrap
  simp [IntKind.bits, IntKind.signed]
  omega
theorem w8 {e : Int} : IntKind.wrap .u8 e = e % 256 := by
  unfold IntKind.wrap
  simp [IntKind.bits, IntKind.signed]
theorem w32m {e : Int} : IntKind.wrap .u32 e = e % 4294967296 := by
  unfold IntKind.wrap
  simp [IntKind.bits, IntKind.signed]
end Go.Sx
/- A small logic of memory: what a function has, piece by piece, what it may write, what is kept. No condition. -/
namespace Go.Sep
open Go.RowKit Go.XHeap Go.Sx
set_option linter.unusedVariables false

/-- a piece of memory: its blocks, and what is said of them -/
structure Asn where
  own : Nat → Prop
  at_ : World → Prop
  keep : ∀ {T : Nat → Prop} {w w' : World}, at_ w → XTouch T w w' → (∀ k, own k → ¬ T k) → at_ w'
  lt : ∀ {w : World}, at_ w → ∀ k, own k → k < w.heap.size
def emp : Asn := ⟨fun _ => False, fun _ => True, fun _ _ _ => trivial, fun _ _ h => h.elim⟩
def blk (b : Nat) (cs : Array Value) (t : TypeId) : Asn := ⟨fun k => k = b, fun w => Blk w b cs t, fun h ht hn => Blk.keep h ht (hn b rfl), fun h k e => by subst e; exact Blk.lt h⟩
def sl (e : TypeId) (size : Nat) (v : Value) (n : Nat) (xs : List Value) : Asn := ⟨fun k => v.ownBlock = some k, fun w => Sl w e size v n xs, fun h ht hn => Sl.keep h ht hn, fun h => Sl.lt h⟩
/-- a map by numbers -/
def mp (κ : IntKind) (b : Nat) (f : Int → Option Value) : Asn := ⟨fun k => k = b, fun w => Mp w κ b f, fun h ht hn => Mp.keep h ht (hn b rfl), fun h k e => by subst e; exact Mp.lt h⟩
def owns : List Asn → Nat → Prop
  | [], _ => False
  | A :: L, k => A.own k ∨ owns L k
def here : List Asn → World → Prop
  | [], _ => True
  | A :: L, w => A.at_ w ∧ (∀ k, A.own k → ¬ owns L k) ∧ here L w
variable {A A' B : Asn} {L L' : List Asn} {w w0 w' : World} {M : Nat → Prop} {b : Nat} {cs : Array Value} {t : TypeId}
theorem here.keep {T : Nat → Prop} : ∀ {L : List Asn}, here L w → XTouch T w w' → (∀ k, owns L k → ¬ T k) → here L w'
  | [], _, _, _ => trivial
  | A :: L, h, ht, hn => ⟨A.keep h.1 ht (fun k hk => hn k (.inl hk)), h.2.1, here.keep h.2.2 ht (fun k hk => hn k (.inr hk))⟩
theorem here.lt : ∀ {L : List Asn}, here L w → ∀ k, owns L k → k < w.heap.size
  | [], _, _, h => h.elim
  | A :: L, h, k, hk => hk.elim (A.lt h.1 k) (here.lt h.2.2 k)
theorem here.nth : ∀ {L : List Asn} (k : Nat), here L w → L[k]? = some A → A.at_ w
  | [], _, _, hk => by simp at hk
  | B :: L, 0, h, hk => by simp at hk; subst hk; exact h.1
  | B :: L, k + 1, h, hk => here.nth k h.2.2 (by simpa using hk)
theorem owns.nth : ∀ {L : List Asn} (k : Nat) {q : Nat}, L[k]? = some A → A.own q → owns L q
  | [], _, _, hk, _ => by simp at hk
  | B :: L, 0, q, hk, h => by simp at hk; subst hk; exact .inl h
  | B :: L, k + 1, q, hk, h => .inr (owns.nth k (by simpa using hk) h)
/-- the piece of these pieces -/
def all (L : List Asn) : Asn := ⟨owns L, here L, here.keep, here.lt⟩
theorem owns_append : ∀ {L L' : List Asn} {k : Nat}, owns (L ++ L') k ↔ owns L k ∨ owns L' k
  | [], L', k => by simp [owns]
  | A :: L, L', k => by simp [owns, owns_append, or_assoc]
theorem here_append : ∀ {L L' : List Asn}, here (L ++ L') w ↔ here L w ∧ here L' w ∧ ∀ k, owns L k → ¬ owns L' k
  | [], L' => by simp [here, owns]
  | A :: L, L' => by
    simp only [List.cons_append, here, owns, here_append, owns_append]
    constructor
    · rintro ⟨h1, h2, h3, h4, h5⟩
      exact ⟨⟨h1, fun k hk e => h2 k hk (.inl e), h3⟩, h4, fun k hk e => hk.elim (fun hk => h2 k hk (.inr e)) (fun hk => h5 k hk e)⟩
    · rintro ⟨⟨h1, h2, h3⟩, h4, h5⟩
      exact ⟨h1, fun k hk e => e.elim (h2 k hk) (h5 k (.inl hk)), h3, h4, fun k hk => h5 k (.inr hk)⟩
theorem owns_set : ∀ {L : List Asn} (k : Nat) {q : Nat}, owns (L.set k A') q → A'.own q ∨ owns L q
  | [], _, _, h => by simp [owns] at h
  | B :: L, 0, q, h => by
    rcases h with h | h
    · exact .inl h
    · exact .inr (.inr h)
  | B :: L, k + 1, q, h => by
    rcases h with h | h
    · exact .inr (.inl h)
    · exact (owns_set k h).imp id .inr
/-- one piece is another one now -/
theorem here.upd (ht : XTouch A.own w w') (h' : A'.at_ w') (ho : ∀ q, A'.own q → A.own q ∨ w.heap.size ≤ q) : ∀ {L : List Asn} (k : Nat), here L w → L[k]? = some A → here (L.set k A') w'
  | [], _, _, hk => by simp at hk
  | B :: L, 0, h, hk => by
    simp at hk; subst hk
    refine ⟨h', fun q hq e => ?_, h.2.2.keep ht (fun q hq e => h.2.1 q e hq)⟩
    rcases ho q hq with e1 | e1
    · exact h.2.1 q e1 e
    · have := h.2.2.lt q e; omega
  | B :: L, k + 1, h, hk => by
    have hk' : L[k]? = some A := by simpa using hk
    refine ⟨B.keep h.1 ht (fun q hq e => h.2.1 q hq (owns.nth k hk' e)), fun q hq e => ?_, here.upd ht h' ho k h.2.2 hk'⟩
    rcases owns_set k e with e1 | e1
    · rcases ho q e1 with e2 | e2
      · exact h.2.1 q hq (owns.nth k hk' e2)
      · have := B.lt h.1 q hq; omega
    · exact h.2.1 q hq e1
/-- what a function that has A leaves: A', with new blocks maybe -/
def Post (A : Asn) (w : World) (A' : Asn) (w' : World) : Prop := A'.at_ w' ∧ XTouch A.own w w' ∧ ∀ q, A'.own q → A.own q ∨ w.heap.size ≤ q
def Hush (w w' : World) : Prop := XTouch (fun _ => False) w w'

theorem owns_iff {L : List Asn} {q : Nat} : owns L q ↔ ∃ (i : Nat) (A : Asn), L[i]? = some A ∧ A.own q := by
  induction L with
  | nil => simp [owns]
  | cons B L ih =>
    simp only [owns, ih]
    constructor
    · rintro (h | ⟨i, A, h, hq⟩)
      · exact ⟨0, B, rfl, h⟩
      · exact ⟨i + 1, A, by simpa using h, hq⟩
    · rintro ⟨i, A, h, hq⟩
      match i, h with
      | 0, h => simp at h; subst h; exact .inl hq
      | i + 1, h => exact .inr ⟨i, A, by simpa using h, hq⟩
/-- a piece among pieces -/
theorem all_upd {i : Nat} (h : here L w) (hi : L[i]? = some A) (hp : Post A w A' w') : Post (all L) w (all (L.set i A')) w' := by
  refine ⟨here.upd hp.2.1 hp.1 hp.2.2 i h hi, hp.2.1.mono (fun q _ e => owns.nth i hi e), fun q hq => ?_⟩
  rcases owns_set i hq with e | e
  · exact (hp.2.2 q e).imp (owns.nth i hi) id
  · exact .inl e
theorem post_set (h : Blk w b cs t) (i : Nat) (v : Value) : Post (blk b cs t) w (blk b (cs.setIfInBounds i v) t) (w.setCell ⟨b, i, none⟩ v) :=
  ⟨h.set i v, (XTouch.refl (fun k => k = b) w).setCell (p := ⟨b, i, none⟩) (.inl rfl) v, fun q e => .inl e⟩
theorem post_sets (h : Blk w b cs t) (o : Nat) (vs : List Value) (hl : o + vs.length ≤ cs.size) : Post (blk b cs t) w (blk b (splice cs o vs) t) (w.setCells b o vs) :=
  ⟨blk_setCells vs w cs o h hl, touch_setCells vs w o, fun q e => .inl e⟩

/-- in a function that began in w0 and may write M: what it has now -/
structure St (w0 : World) (M : Nat → Prop) (w : World) (L : List Asn) : Prop where
  touch : XTouch M w0 w
  mine : ∀ k, owns L k → M k ∨ w0.heap.size ≤ k
  here : here L w
namespace St
theorem begin (h : A.at_ w) : St w A.own w [A] := ⟨XTouch.refl _ _, fun k hk => .inl (hk.elim id (fun e => e.elim)), ⟨h, fun _ _ e => e, trivial⟩⟩
theorem nil (w : World) : St w (fun _ => False) w [] := ⟨XTouch.refl _ _, fun k hk => hk.elim, trivial⟩
theorem all_ (h : Sep.here L w) : St w (owns L) w L := ⟨XTouch.refl _ _, fun k hk => .inl hk, h⟩
theorem nth (H : St w0 M w L) (k : Nat) (hk : L[k]? = some A) : A.at_ w := H.here.nth k hk
theorem blk (H : St w0 M w L) (k : Nat) {b : Nat} {cs : Array Value} {t : TypeId} (hk : L[k]? = some (Sep.blk b cs t)) : Blk w b cs t := H.here.nth k hk
theorem ld (H : St w0 M w L) (k : Nat) {b i : Nat} {cs : Array Value} {t : TypeId} {v : Value} (hk : L[k]? = some (Sep.blk b cs t)) (hv : cs[i]? = some v) : w.cell? ⟨b, i, none⟩ = some v := (H.blk k hk).cell' hv
theorem size (H : St w0 M w L) : w0.heap.size ≤ w.heap.size := H.touch.size
theorem upd (H : St w0 M w L) (k : Nat) (hk : L[k]? = some A) (h : Post A w A' w') : St w0 M w' (L.set k A') := by
  refine ⟨H.touch.trans h.2.1 (fun q hq e => ?_), fun q hq => ?_, H.here.upd h.2.1 h.1 h.2.2 k hk⟩
  · rcases H.mine q (owns.nth k hk e) with e1 | e1
    · exact e1
    · omega
  · rcases owns_set k hq with e1 | e1
    · rcases h.2.2 q e1 with e2 | e2
      · exact H.mine q (owns.nth k hk e2)
      · have := H.size; exact .inr (by omega)
    · exact H.mine q e1
theorem quiet (H : St w0 M w L) (h : Hush w w') : St w0 M w' L := ⟨H.touch.trans h (fun q _ e => e.elim), H.mine, H.here.keep h (fun _ _ e => e)⟩
theorem drew (H : St w0 M w L) : St w0 M w.drew L := H.quiet (XTouch.refl _ w).drew
theorem drewN (H : St w0 M w L) (n : Nat) : St w0 M (w.drewN n) L := H.quiet ((XTouch.refl _ w).drewN n)
/-- a new piece -/
theorem add (H : St w0 M w L) (h : Post emp w A w') : St w0 M w' (L ++ [A]) := by
  have hT : XTouch (fun _ => False) w w' := h.2.1
  refine ⟨H.touch.trans hT (fun q _ e => e.elim), fun q hq => ?_, here_append.2 ⟨H.here.keep hT (fun _ _ e => e), ⟨h.1, fun _ _ e => e, trivial⟩, fun q hq e => ?_⟩⟩
  · rcases owns_append.1 hq with e | e | e
    · exact H.mine q e
    · have := H.size
      exact (h.2.2 q e).elim (fun e => e.elim) (fun e => .inr (by omega))
    · exact e.elim
  · rcases e with e | e
    · have := H.here.lt q hq
      exact (h.2.2 q e).elim (fun e => e.elim) (fun e => by omega)
    · exact e
theorem alloc (H : St w0 M w L) (cs : Array Value) (t : TypeId) : St w0 M (w.alloc (.cells cs t)) (L ++ [Sep.blk w.heap.size cs t]) :=
  H.add ⟨Blk.new w cs t, (XTouch.refl _ w).alloc _, fun q e => .inr (by rw [show q = w.heap.size from e]; exact Nat.le_refl _)⟩
theorem wr (H : St w0 M w L) (k : Nat) {b : Nat} {cs : Array Value} {t : TypeId} (hk : L[k]? = some (Sep.blk b cs t)) (i : Nat) (v : Value) : St w0 M (w.setCell ⟨b, i, none⟩ v) (L.set k (Sep.blk b (cs.setIfInBounds i v) t)) :=
  H.upd k hk ⟨(H.blk k hk).set i v, (XTouch.refl (fun k => k = b) w).setCell (p := ⟨b, i, none⟩) (.inl rfl) v, fun q e => .inl e⟩
theorem wrs (H : St w0 M w L) (k : Nat) {b : Nat} {cs : Array Value} {t : TypeId} (hk : L[k]? = some (Sep.blk b cs t)) (o : Nat) (vs : List Value) (hl : o + vs.length ≤ cs.size) : St w0 M (w.setCells b o vs) (L.set k (Sep.blk b (splice cs o vs) t)) :=
  H.upd k hk ⟨blk_setCells vs w cs o (H.blk k hk) hl, touch_setCells vs w o, fun q e => .inl e⟩
/-! ### steps, as the conditions of a function ask for them -/
variable {i : Nat}
theorem al (H : St w0 M w L) {cs : Array Value} {t : TypeId} {φ : Nat → World → Prop} (hq : ∀ k w', St w0 M w' (L ++ [Sep.blk k cs t]) → φ k w') : ∀ k : Nat, ∀ w' : World, k = w.heap.size → w' = w.alloc (.cells cs t) → φ k w' := by
  rintro k w' rfl rfl
  exact hq _ _ (H.alloc cs t)
theorem alb (H : St w0 M w L) {cs : Array Value} {t : TypeId} {φ : Nat → World → Prop} (hq : ∀ k w', St w0 M w' (L ++ [Sep.blk k cs t]) → w0.heap.size ≤ k → Below w.heap.size w w' → φ k w') : ∀ k : Nat, ∀ w' : World, k = w.heap.size → w' = w.alloc (.cells cs t) → φ k w' := by
  rintro k w' rfl rfl
  exact hq _ _ (H.alloc cs t) H.size ((Below.refl _ _).alloc (Nat.le_refl _) _)
theorem dr (H : St w0 M w L) {φ : World → Prop} (hq : ∀ w', St w0 M w' L → φ w') : ∀ w' : World, w' = w.drew → φ w' := by
  rintro w' rfl
  exact hq _ H.drew
theorem drN (H : St w0 M w L) {φ : World → Prop} (hq : ∀ w', St w0 M w' L → φ w') : ∀ (w' : World) (m : Nat), w' = w.drewN m → φ w' := by
  rintro w' m rfl
  exact hq _ (H.drewN m)
theorem st (H : St w0 M w L) (k : Nat) (hk : L[k]? = some (Sep.blk b cs t)) {v : Value} {φ : World → Prop} (hi : i < cs.size) (hq : ∀ w', St w0 M w' (L.set k (Sep.blk b (cs.setIfInBounds i v) t)) → φ w') :
    (∃ u, w.cell? ⟨b, i, none⟩ = some u) ∧ w.frozen? ⟨b, i, none⟩ = false ∧ ∀ w', w' = w.setCell ⟨b, i, none⟩ v → φ w' := by
  refine ⟨⟨_, (H.blk k hk).cell' (Array.getElem?_eq_getElem hi)⟩, (H.blk k hk).frozen i, ?_⟩
  rintro w' rfl
  exact hq _ (H.wr k hk i v)
/-- a whole struct is written -/
theorem sts (H : St w0 M w L) (k : Nat) (hk : L[k]? = some (Sep.blk b cs t)) {o n : Nat} {vs : Array Value} {φ : World → Prop} (hv : vs.size = n) (hi : o + n ≤ cs.size) (h1 : ∀ v ∈ vs.toList, v.oneCell' = true)
    (hq : ∀ w', St w0 M w' (L.set k (Sep.blk b (splice cs o vs.toList) t)) → φ w') :
    vs.size = n ∧ (∀ j : Nat, j < n → (∃ v, w.cell? ⟨b, o + j, none⟩ = some v) ∧ w.frozen? ⟨b, o + j, none⟩ = false) ∧ (∀ v : Value, v ∈ vs.toList → v.oneCell' = true) ∧ ∀ w' : World, w' = w.setCells b o vs.toList → φ w' := by
  refine ⟨hv, fun j hj => ⟨⟨_, (H.blk k hk).cell' (Array.getElem?_eq_getElem (by omega))⟩, (H.blk k hk).frozen _⟩, h1, ?_⟩
  rintro w' rfl
  exact hq _ (H.wrs k hk o vs.toList (by rw [Array.length_toList]; omega))
theorem splice_zero {cs vs : Array Value} (h : vs.size = cs.size) : splice cs 0 vs.toList = vs := by
  rw [splice_all _ _ (by simpa using h)]
/-- .. over a whole block -/
theorem sts0 (H : St w0 M w L) (k : Nat) (hk : L[k]? = some (Sep.blk b cs t)) {n : Nat} {vs : Array Value} {φ : World → Prop} (hv : vs.size = n) (hi : cs.size = n) (h1 : ∀ v ∈ vs.toList, v.oneCell' = true)
    (hq : ∀ w', St w0 M w' (L.set k (Sep.blk b vs t)) → φ w') :
    vs.size = n ∧ (∀ j : Nat, j < n → (∃ v, w.cell? ⟨b, 0 + j, none⟩ = some v) ∧ w.frozen? ⟨b, 0 + j, none⟩ = false) ∧ (∀ v : Value, v ∈ vs.toList → v.oneCell' = true) ∧ ∀ w' : World, w' = w.setCells b 0 vs.toList → φ w' := by
  refine H.sts k hk hv (by omega) h1 ?_
  rw [splice_zero (by omega)]
  exact hq
theorem cells (H : St w0 M w L) (k : Nat) (hk : L[k]? = some (Sep.blk b cs t)) : cellsAt w ⟨b, 0, none⟩ cs := cellsAt_self (H.blk k hk)
/-- a struct is read out of a block -/
theorem lds (H : St w0 M w L) (k : Nat) (hk : L[k]? = some (Sep.blk b cs t)) {o : Nat} {vs : Array Value} (hv : ∀ j u, vs[j]? = some u → cs[o + j]? = some u) : cellsAt w ⟨b, o, none⟩ vs := cellsAt_of_blk (H.blk k hk) vs hv
/-! calls -/
variable {P : Program} {f : FuncId} {args : Array Value} {Q : Ending → World → Prop} {E : Ending}
/-- a new map -/
theorem mkm (H : St w0 M w L) (κ : IntKind) {φ : Nat → World → Prop} (hq : ∀ k w', St w0 M w' (L ++ [Sep.mp κ k fun _ => none]) → φ k w') : ∀ k : Nat, ∀ w' : World, k = w.heap.size → w' = w.alloc (.map #[] 0) → φ k w' := by
  rintro k w' rfl rfl
  exact hq _ _ (H.add ⟨Mp.new w κ, (XTouch.refl _ w).alloc _, fun q e => .inr (by rw [show q = w.heap.size from e]; exact Nat.le_refl _)⟩)
/-- a map read -/
theorem look (H : St w0 M w L) (k : Nat) {κ : IntKind} {f : Int → Option Value} (hk : L[k]? = some (Sep.mp κ b f)) : Mp w κ b f := H.here.nth k hk
/-- a map written -/
theorem put (H : St w0 M w L) (k : Nat) {κ : IntKind} {f : Int → Option Value} (hk : L[k]? = some (Sep.mp κ b f)) {x : Int} {v : Option Value} {φ : World → Prop} (hq : ∀ w', St w0 M w' (L.set k (Sep.mp κ b (Sx.upd f x v))) → φ w') : ∀ w' : World, Mp w' κ b (Sx.upd f x v) → XTouch (fun q => q = b) w w' → φ w' :=
  fun w' h1 h2 => hq w' (H.upd k hk ⟨h1, h2, fun q e => .inl e⟩)
theorem call (H : St w0 M w L) (k : Nat) (hk : L[k]? = some A) (hc : Calls P f args w fun e w' => e = E ∧ Post A w A' w') (hq : ∀ w', St w0 M w' (L.set k A') → Q E w') : Calls P f args w Q :=
  hc.mono fun e w' h => by rw [h.1]; exact hq _ (H.upd k hk h.2)
theorem callx (H : St w0 M w L) {α : Type} {E : α → Ending} {A' : α → Asn} (k : Nat) (hk : L[k]? = some A) (hc : Calls P f args w fun e w' => ∃ x, e = E x ∧ Post A w (A' x) w') (hq : ∀ x w', St w0 M w' (L.set k (A' x)) → Q (E x) w') : Calls P f args w Q :=
  hc.mono fun e w' ⟨x, h⟩ => by rw [h.1]; exact hq _ _ (H.upd k hk h.2)
/-- of a function that makes a new piece -/
theorem calln (H : St w0 M w L) {α : Type} {E : α → Ending} {A' : α → Asn} (hc : Calls P f args w fun e w' => ∃ x, e = E x ∧ Post emp w (A' x) w') (hq : ∀ x w', St w0 M w' (L ++ [A' x]) → Q (E x) w') : Calls P f args w Q :=
  hc.mono fun e w' ⟨x, h⟩ => by rw [h.1]; exact hq _ _ (H.add h.2)
theorem callq (H : St w0 M w L) (hc : Calls P f args w fun e w' => e = E ∧ Hush w w') (hq : ∀ w', St w0 M w' L → Q E w') : Calls P f args w Q :=
  hc.mono fun e w' h => by rw [h.1]; exact hq _ (H.quiet h.2)
theorem callp (H : St w0 M w L) (hc : Calls P f args w fun e w' => e = E ∧ w' = w) (hq : Q E w) : Calls P f args w Q :=
  hc.mono fun e w' h => by rw [h.1, h.2]; exact hq
/-! ends -/
theorem quiet' {L : List Asn} (H : St w0 (fun _ => False) w L) : Hush w0 w := H.touch
theorem post (H : St w0 A.own w L) (k : Nat) (hk : L[k]? = some A') : Post A w0 A' w := ⟨H.nth k hk, H.touch, fun q hq => H.mine q (owns.nth k hk hq)⟩
theorem new (H : St w0 (fun _ => False) w L) (k : Nat) (hk : L[k]? = some A') : Post emp w0 A' w := ⟨H.nth k hk, H.touch, fun q hq => H.mine q (owns.nth k hk hq)⟩
/-- some pieces are forgotten -/
theorem sub (H : St w0 M w (L ++ L')) : St w0 M w L := ⟨H.touch, fun q hq => H.mine q (owns_append.2 (.inl hq)), (here_append.1 H.here).1⟩
theorem take (H : St w0 M w L) (n : Nat) : St w0 M w (L.take n) := St.sub (L' := L.drop n) (by rw [List.take_append_drop]; exact H)
theorem tail (H : St w0 M w (A :: L)) : St w0 M w L := ⟨H.touch, fun q hq => H.mine q (.inr hq), H.here.2.2⟩
/-- a piece is opened, shut -/
theorem open_ (H : St w0 M w (all L :: L')) : St w0 M w (L ++ L') := ⟨H.touch, fun q hq => H.mine q (owns_append.1 hq), here_append.2 ⟨H.here.1, H.here.2.2, H.here.2.1⟩⟩
theorem shut (H : St w0 M w (L ++ L')) : St w0 M w (all L :: L') := ⟨H.touch, fun q hq => H.mine q (owns_append.2 hq), let h := here_append.1 H.here; ⟨h.1, h.2.2, h.2.1⟩⟩
theorem push {Ls : List Asn} (H : St w0 M w (all Ls :: B :: L)) : St w0 M w (all (Ls ++ [B]) :: L) := by
  refine St.shut ?_
  rw [List.append_assoc]
  exact St.open_ H
theorem swap (H : St w0 M w (A :: B :: L)) : St w0 M w (B :: A :: L) := by
  refine ⟨H.touch, fun q hq => H.mine q ?_, H.here.2.2.1, fun q hq e => ?_, H.here.1, fun q hq e => H.here.2.1 q hq (.inr e), H.here.2.2.2.2⟩
  · rcases hq with e | e | e
    · exact .inr (.inl e)
    · exact .inl e
    · exact .inr (.inr e)
  · rcases e with e | e
    · exact H.here.2.1 q e (.inl hq)
    · exact H.here.2.2.2.1 q hq e
theorem perm (H : St w0 M w L) (hp : L.Perm L') : St w0 M w L' := by
  have : ∀ {L L' : List Asn}, L.Perm L' → (∀ q, owns L q ↔ owns L' q) ∧ (Sep.here L w → Sep.here L' w) := by
    intro L L' hp
    induction hp with
    | nil => exact ⟨fun _ => Iff.rfl, id⟩
    | cons x _ ih => exact ⟨fun q => or_congr Iff.rfl (ih.1 q), fun h => ⟨h.1, fun q hq e => h.2.1 q hq ((ih.1 q).2 e), ih.2 h.2.2⟩⟩
    | swap x y l => exact ⟨fun q => by simp only [owns]; exact or_left_comm, fun h => ⟨h.2.2.1, fun q hq e => e.elim (fun e => h.2.1 q e (.inl hq)) (h.2.2.2.1 q hq), h.1, fun q hq e => h.2.1 q hq (.inr e), h.2.2.2.2⟩⟩
    | trans _ _ i1 i2 => exact ⟨fun q => (i1.1 q).trans (i2.1 q), fun h => i2.2 (i1.2 h)⟩
  exact ⟨H.touch, fun q hq => H.mine q (((this hp).1 q).2 hq), (this hp).2 H.here⟩
/-- piece k comes first -/
theorem front (H : St w0 M w L) (k : Nat) (hk : L[k]? = some A) : St w0 M w (A :: L.eraseIdx k) := by
  refine H.perm ?_
  clear H
  induction L generalizing k with
  | nil => simp at hk
  | cons B L ih =>
    match k, hk with
    | 0, hk => simp at hk; subst hk; exact .refl _
    | k + 1, hk => exact ((ih k (by simpa using hk)).cons B).trans (.swap _ _ _)
theorem disj {L : List Asn} (h : Sep.here L w) : ∀ (i j : Nat) {A B : Asn}, i ≠ j → L[i]? = some A → L[j]? = some B → ∀ q, A.own q → ¬ B.own q := by
  induction L with
  | nil => intro i j A B _ hi; simp at hi
  | cons C L ih =>
    intro i j A B hn hi hj q hq e
    match i, j with
    | 0, 0 => exact hn rfl
    | 0, j + 1 => simp at hi; subst hi; exact h.2.1 q hq (owns.nth j (by simpa using hj) e)
    | i + 1, 0 => simp at hj; subst hj; exact h.2.1 q e (owns.nth i (by simpa using hi) hq)
    | i + 1, j + 1 => exact ih h.2.2 i j (by omega) (by simpa using hi) (by simpa using hj) q hq e
def sel (L : List Asn) : List Nat → List Asn
  | [] => []
  | i :: is => match L[i]? with
    | some A => A :: sel L is
    | none => sel L is
theorem owns_sel : ∀ (is : List Nat) {q : Nat}, owns (sel L is) q → ∃ j ∈ is, ∃ B, L[j]? = some B ∧ B.own q
  | [], q, h => h.elim
  | i :: is, q, h => by
    unfold sel at h
    split at h
    · rename_i A hA
      rcases h with h | h
      · exact ⟨i, by simp, A, hA, h⟩
      · obtain ⟨j, hj, r⟩ := owns_sel is h
        exact ⟨j, by simp [hj], r⟩
    · obtain ⟨j, hj, r⟩ := owns_sel is h
      exact ⟨j, by simp [hj], r⟩
theorem here_sel (h : Sep.here L w) : ∀ (is : List Nat), is.Nodup → Sep.here (sel L is) w
  | [], _ => trivial
  | i :: is, hn => by
    have hn' := List.nodup_cons.1 hn
    unfold sel
    split
    · rename_i A hA
      refine ⟨h.nth i hA, fun q hq e => ?_, here_sel h is hn'.2⟩
      obtain ⟨j, hj, B, hB, hb⟩ := owns_sel is e
      exact disj h i j (fun e => hn'.1 (e ▸ hj)) hA hB q hq hb
    · exact here_sel h is hn'.2
/-- these pieces, in this order; the others are forgotten -/
theorem pick (H : St w0 M w L) (is : List Nat) (hn : is.Nodup := by decide) : St w0 M w (sel L is) :=
  ⟨H.touch, fun q hq => by obtain ⟨j, _, B, hB, hb⟩ := owns_sel is hq; exact H.mine q (owns.nth j hB hb), here_sel H.here is hn⟩
/-- pieces become one, one becomes pieces -/
theorem fold {Ls : List Asn} (H : St w0 M w (Ls ++ L)) (h : Sep.here Ls w → A.at_ w) (ho : ∀ q, A.own q → owns Ls q) : St w0 M w (A :: L) := by
  have h1 := here_append.1 H.here
  exact ⟨H.touch, fun q hq => H.mine q (owns_append.2 (hq.imp (ho q) id)), h h1.1, fun q hq => h1.2.2 q (ho q hq), h1.2.1⟩
/-- what is said of a piece is turned -/
theorem conv (H : St w0 M w L) (k : Nat) (hk : L[k]? = some A) (h : A.at_ w → A'.at_ w) (ho : ∀ q, A'.own q → A.own q) : St w0 M w (L.set k A') :=
  H.upd k hk ⟨h (H.nth k hk), XTouch.refl _ _, fun q hq => .inl (ho q hq)⟩
/-- an append to a slice that is a piece -/
theorem app (H : St w0 M w L) (k : Nat) {e size n m bytes : Nat} {p q : Option Addr} {c : Nat} {olds : List Value} (hk : L[k]? = some (Sep.sl e size (.slice p n c) n olds)) (news : List Value)
    (h1 : (m = 0 ∧ q = none) ∨ ∃ a, q = some a ∧ ∀ j u, news[j]? = some u → w.cell? (a.add j) = some u) (h2 : news.length = m * size) (h3 : ∀ u ∈ news, u.oneCell' = true) (h4 : n + m ≤ maxLen) (h5 : (n + m) * bytes ≤ 140737488355328)
    {φ : Option Addr → Nat → World → Prop} (hq : ∀ p' c' w', St w0 M w' (L.set k (Sep.sl e size (.slice p' (n + m) c') (n + m) (olds ++ news))) → φ p' c' w') :
    ∃ olds news : List Value, Sl w e size (.slice p n c) n olds ∧ ((m = 0 ∧ q = none) ∨ ∃ a, q = some a ∧ ∀ j u, news[j]? = some u → w.cell? (a.add j) = some u) ∧ news.length = m * size ∧ (∀ u ∈ news, u.oneCell' = true) ∧ n + m ≤ maxLen ∧ (n + m) * bytes ≤ 140737488355328 ∧
      ∀ (p' : Option Addr) (c' : Nat) (w' : World), Sl w' e size (.slice p' (n + m) c') (n + m) (olds ++ news) → XTouch (fun b => (Value.slice p n c).ownBlock = some b) w w' → (∀ b, (Value.slice p' (n + m) c').ownBlock = some b → (Value.slice p n c).ownBlock = some b ∨ w.heap.size ≤ b) → Sl w' e size (.slice p n c) n olds → ((p' = p ∧ c' = c) ∨ ((NilP p ∨ c < n + m) ∧ ∀ b, (Value.slice p' (n + m) c').ownBlock = some b → w.heap.size ≤ b)) → φ p' c' w' :=
  ⟨olds, news, H.nth k hk, h1, h2, h3, h4, h5, fun p' c' w' a b d _ _ => hq p' c' w' (H.upd k hk ⟨a, b, d⟩)⟩
/-- .. and the old slice reads as it did -/
theorem app2 (H : St w0 M w L) (k : Nat) {e size n m bytes : Nat} {p q : Option Addr} {c : Nat} {olds : List Value} (hk : L[k]? = some (Sep.sl e size (.slice p n c) n olds)) (news : List Value)
    (h1 : (m = 0 ∧ q = none) ∨ ∃ a, q = some a ∧ ∀ j u, news[j]? = some u → w.cell? (a.add j) = some u) (h2 : news.length = m * size) (h3 : ∀ u ∈ news, u.oneCell' = true) (h4 : n + m ≤ maxLen) (h5 : (n + m) * bytes ≤ 140737488355328)
    {φ : Option Addr → Nat → World → Prop} (hq : ∀ p' c' w', St w0 M w' (L.set k (Sep.sl e size (.slice p' (n + m) c') (n + m) (olds ++ news))) → Sl w' e size (.slice p n c) n olds → ((p' = p ∧ c' = c) ∨ ((NilP p ∨ c < n + m) ∧ ∀ b, (Value.slice p' (n + m) c').ownBlock = some b → w.heap.size ≤ b)) → φ p' c' w') :
    ∃ olds news : List Value, Sl w e size (.slice p n c) n olds ∧ ((m = 0 ∧ q = none) ∨ ∃ a, q = some a ∧ ∀ j u, news[j]? = some u → w.cell? (a.add j) = some u) ∧ news.length = m * size ∧ (∀ u ∈ news, u.oneCell' = true) ∧ n + m ≤ maxLen ∧ (n + m) * bytes ≤ 140737488355328 ∧
      ∀ (p' : Option Addr) (c' : Nat) (w' : World), Sl w' e size (.slice p' (n + m) c') (n + m) (olds ++ news) → XTouch (fun b => (Value.slice p n c).ownBlock = some b) w w' → (∀ b, (Value.slice p' (n + m) c').ownBlock = some b → (Value.slice p n c).ownBlock = some b ∨ w.heap.size ≤ b) → Sl w' e size (.slice p n c) n olds → ((p' = p ∧ c' = c) ∨ ((NilP p ∨ c < n + m) ∧ ∀ b, (Value.slice p' (n + m) c').ownBlock = some b → w.heap.size ≤ b)) → φ p' c' w' :=
  ⟨olds, news, H.nth k hk, h1, h2, h3, h4, h5, fun p' c' w' a b d g r => hq p' c' w' (H.upd k hk ⟨a, b, d⟩) g r⟩
end St
/-! ### rows of numbers -/
def ints (κ : IntKind) (l : List Int) : Array Value := (l.map (.int κ)).toArray
variable {κ : IntKind} {l : List Int}
theorem ints_get (i : Nat) : (ints κ l)[i]? = (l[i]?).map (.int κ) := by simp [ints]
theorem ints_ok {i : Nat} {x : Int} (h : l[i]? = some x) : (ints κ l)[i]? = some (.int κ x) := by rw [ints_get, h]; rfl
theorem ints_size : (ints κ l).size = l.length := by simp [ints]
theorem ints_set (i : Nat) (x : Int) : (ints κ l).setIfInBounds i (.int κ x) = ints κ (l.set i x) := by
  apply Array.toList_inj.1
  simp [ints, List.map_set]
theorem ints_made (n : Nat) : madeCells #[.int κ 0] n = ints κ (List.replicate n 0) := by
  apply Array.toList_inj.1
  rw [toList_madeCells_one]
  simp [ints]
theorem ints_one : ∀ v ∈ (ints κ l).toList, v.oneCell' = true := by
  intro v hv
  simp [ints] at hv
  obtain ⟨x, -, rfl⟩ := hv
  rfl
theorem getD_at {i : Nat} (h : i < l.length) : l[i]? = some (l.getD i 0) := by rw [List.getD_eq_getElem?_getD, List.getElem?_eq_getElem h]; rfl
theorem adr_some {g o : Nat} {f : Nat → Nat → Prop} (h : f g o) : Sx.adr (some ⟨g, o, none⟩) f := h
theorem ptr_some {a : Addr} {f : Addr → Prop} (h : f a) : Sx.ptr (some a) f := h
theorem nil_true {f : Bool → Prop} (h : f true) : Sx.isNil .nilIface f := h
theorem nil_false {t : TypeId} {v : Value} {f : Bool → Prop} (h : f false) : Sx.isNil (.iface t v) f := h
theorem ix1 (o n : Nat) : o + ((n : Nat) : Int).toNat * 1 = o + n := by omega
/-! ### rows of structs -/
section rows
variable {α : Type} {f : α → List Value} {n : Nat} {l : List α}
def rows (f : α → List Value) (l : List α) : Array Value := (l.flatMap f).toArray
theorem rows_len : ∀ {l : List α}, (∀ x ∈ l, (f x).length = n) → (l.flatMap f).length = l.length * n
  | [], _ => by simp
  | x :: l, h => by
    rw [List.flatMap_cons, List.length_append, h x (by simp), rows_len (fun y hy => h y (by simp [hy])), List.length_cons, Nat.add_mul]
    omega
theorem rows_size (h : ∀ x ∈ l, (f x).length = n) : (rows f l).size = l.length * n := by simpa [rows] using rows_len h
theorem rows_getL : ∀ {l : List α}, (∀ x ∈ l, (f x).length = n) → ∀ (j i : Nat) (x : α), l[j]? = some x → i < n → (l.flatMap f)[j * n + i]? = (f x)[i]?
  | [], _, j, i, x, hx, _ => by simp at hx
  | y :: l, h, 0, i, x, hx, hi => by
    simp at hx; subst hx
    rw [List.flatMap_cons, Nat.zero_mul, Nat.zero_add, List.getElem?_append_left (by rw [h y (by simp)]; exact hi)]
  | y :: l, h, j + 1, i, x, hx, hi => by
    rw [List.flatMap_cons, Nat.add_mul, Nat.one_mul, List.getElem?_append_right (by rw [h y (by simp)]; omega), h y (by simp)]
    rw [show j * n + n + i - n = j * n + i by omega]
    exact rows_getL (fun z hz => h z (by simp [hz])) j i x (by simpa using hx) hi
theorem rows_get (h : ∀ x ∈ l, (f x).length = n) {j i : Nat} {x : α} (hx : l[j]? = some x) (hi : i < n) {v : Value} (hv : (f x)[i]? = some v) : (rows f l)[j * n + i]? = some v := by
  rw [rows, List.getElem?_toArray, rows_getL h j i x hx hi, hv]
theorem rows_splice : ∀ {l : List α}, (∀ x ∈ l, (f x).length = n) → ∀ (j : Nat) (y : α), j < l.length → (f y).length = n → splice (rows f l) (j * n) (f y) = rows f (l.set j y) := by
  intro l
  unfold splice rows
  induction l with
  | nil => intro _ j y hj; simp at hj
  | cons x l ih =>
    intro h j y hj hy
    have hx := h x (by simp)
    match j with
    | 0 =>
      simp only [Nat.zero_mul, List.take_zero, List.nil_append, Nat.zero_add, List.set_cons_zero, List.flatMap_cons]
      rw [hy, show (f x ++ l.flatMap f).drop n = l.flatMap f by rw [← hx]; simp]
    | j + 1 =>
      have := ih (fun z hz => h z (by simp [hz])) j y (by simpa using hj) hy
      have := congrArg Array.toList this
      simp only at this
      apply Array.toList_inj.1
      simp only [List.set_cons_succ, List.flatMap_cons]
      rw [← this]
      have e1 : (j + 1) * n = n + j * n := by rw [Nat.add_mul]; omega
      rw [e1, show (f x ++ l.flatMap f).take (n + j * n) = f x ++ (l.flatMap f).take (j * n) by rw [← hx, List.take_append, List.take_of_length_le (by omega)]; simp, Nat.add_assoc,
        show (f x ++ l.flatMap f).drop (n + (j * n + (f y).length)) = (l.flatMap f).drop (j * n + (f y).length) by rw [← hx, List.drop_append, List.drop_of_length_le (by omega)]; simp]
      simp
/-- one field of one of them -/
theorem rows_set (h : ∀ x ∈ l, (f x).length = n) {j i : Nat} {x y : α} (hx : l[j]? = some x) (hi : i < n) {v : Value} (hy : f y = (f x).set i v) : (rows f l).setIfInBounds (j * n + i) v = rows f (l.set j y) := by
  have hj : j < l.length := (List.getElem?_eq_some_iff.1 hx).1
  have hxl := h x (List.mem_of_getElem? hx)
  have hyl : (f y).length = n := by rw [hy, List.length_set, hxl]
  rw [← rows_splice h j y hj hyl]
  have hs := rows_size h
  have hlt : j * n + n ≤ l.length * n := by
    have := Nat.mul_le_mul_right n (show j + 1 ≤ l.length from hj)
    rw [Nat.add_mul] at this; omega
  apply Array.ext_getElem?
  intro q
  rw [splice_get _ _ _ (by rw [hyl, hs]; exact hlt), hyl]
  rw [Array.getElem?_setIfInBounds]
  by_cases e : j * n + i = q
  · subst e
    rw [if_pos rfl, if_pos (by rw [hs]; omega), if_pos (by omega), hy, show j * n + i - j * n = i by omega, List.getElem?_set_self (by omega)]
  · rw [if_neg e]
    split
    · rename_i hq
      obtain ⟨r, rfl⟩ : ∃ r, q = j * n + r := ⟨q - j * n, by omega⟩
      rw [show j * n + r - j * n = r by omega, hy, List.getElem?_set_ne (by omega)]
      rw [rows, List.getElem?_toArray, rows_getL h j r x hx (by omega)]
    · rfl
theorem rows_made {x0 : α} (hk : (f x0).length = n) (hp : 0 < n) (m : Nat) : madeCells (f x0).toArray (m * n) = rows f (List.replicate m x0) := by
  apply Array.ext_getElem?
  intro i
  by_cases h : i < m * n
  · have hq : i / n < m := Nat.div_lt_of_lt_mul (by rw [Nat.mul_comm]; exact h)
    have hr : i % n < n := Nat.mod_lt _ hp
    have e : i = i / n * n + i % n := by rw [Nat.mul_comm]; exact (Nat.div_add_mod i n).symm
    have h2 := rows_getL (f := f) (n := n) (l := List.replicate m x0) (fun x hx => by rw [(List.mem_replicate.1 hx).2]; exact hk) (i / n) (i % n) x0 (by simp [hq]) hr
    rw [← e] at h2
    have e2 : (rows f (List.replicate m x0))[i]? = (f x0)[i % n]? := by rw [rows, List.getElem?_toArray, h2]
    rw [e2]
    unfold madeCells
    simp only [Array.getElem?_map, List.size_toArray, hk]
    rw [Array.getElem?_eq_getElem (by simpa using h)]
    simp only [Array.getElem_range, Option.map_some]
    rw [List.getElem?_eq_getElem (by omega), getElem!_pos _ _ (by simpa [hk] using hr)]
    simp
  · rw [Array.getElem?_eq_none (by rw [size_madeCells]; omega), Array.getElem?_eq_none]
    rw [rows_size (n := n) (fun x hx => by rw [(List.mem_replicate.1 hx).2]; exact hk)]
    simp; omega
end rows
end Go.Sep
/- Numbers of so many bits as natural numbers: wrap, and, or, exclusive or, shifts. No condition. -/
namespace Go.Bits
open Go.Sx
set_option linter.unusedVariables false

theorem n64 {x : Nat} (h : x < 9223372036854775808) : IntKind.wrap .i64 (x : Int) = x := w64 (by omega) (by omega)
theorem n32 {x : Nat} (h : x < 4294967296) : IntKind.wrap .u32 (x : Int) = x := w32 (by omega) (by omega)
theorem ofI (k x : Nat) (h : x < 2 ^ k) : (BitVec.ofInt k (x : Int)).toNat = x := by
  simp
  exact Nat.mod_eq_of_lt h
theorem land (k : Nat) {x y : Nat} (hx : x < 2 ^ k) (hy : y < 2 ^ k) : (BitVec.ofInt k (x : Int) &&& BitVec.ofInt k (y : Int)).toNat = x &&& y := by
  rw [BitVec.toNat_and, ofI k x hx, ofI k y hy]
theorem lor (k : Nat) {x y : Nat} (hx : x < 2 ^ k) (hy : y < 2 ^ k) : (BitVec.ofInt k (x : Int) ||| BitVec.ofInt k (y : Int)).toNat = x ||| y := by
  rw [BitVec.toNat_or, ofI k x hx, ofI k y hy]
theorem land64 {x y : Nat} (hx : x < 9223372036854775808) (hy : y < 9223372036854775808) : IntKind.wrap .i64 ((BitVec.ofInt (IntKind.bits .i64) (x : Int) &&& BitVec.ofInt (IntKind.bits .i64) (y : Int)).toNat : Int) = ((x &&& y : Nat) : Int) := by
  rw [land _ (by show x < 2 ^ 64; omega) (by show y < 2 ^ 64; omega)]
  exact n64 (Nat.lt_of_le_of_lt Nat.and_le_left hx)
theorem land32 {x y : Nat} (hx : x < 4294967296) (hy : y < 4294967296) : IntKind.wrap .u32 ((BitVec.ofInt (IntKind.bits .u32) (x : Int) &&& BitVec.ofInt (IntKind.bits .u32) (y : Int)).toNat : Int) = ((x &&& y : Nat) : Int) := by
  rw [land _ (show x < 2 ^ IntKind.bits .u32 from hx) (show y < 2 ^ IntKind.bits .u32 from hy)]
  exact n32 (Nat.lt_of_le_of_lt Nat.and_le_left hx)
theorem lor32 {x y : Nat} (hx : x < 4294967296) (hy : y < 4294967296) : IntKind.wrap .u32 ((BitVec.ofInt (IntKind.bits .u32) (x : Int) ||| BitVec.ofInt (IntKind.bits .u32) (y : Int)).toNat : Int) = ((x ||| y : Nat) : Int) := by
  rw [lor _ (show x < 2 ^ IntKind.bits .u32 from hx) (show y < 2 ^ IntKind.bits .u32 from hy)]
  exact n32 (Nat.or_lt_two_pow (n := 32) hx hy)
theorem andNot32 {x y : Nat} (hx : x < 4294967296) (hy : y < 4294967296) : IntKind.wrap .u32 ((BitVec.ofInt (IntKind.bits .u32) (x : Int) &&& ~~~ BitVec.ofInt (IntKind.bits .u32) (y : Int)).toNat : Int) = ((x &&& (4294967295 - y) : Nat) : Int) := by
  rw [BitVec.toNat_and, BitVec.toNat_not, ofI _ x (show x < 2 ^ IntKind.bits .u32 from hx), ofI _ y (show y < 2 ^ IntKind.bits .u32 from hy)]
  exact n32 (Nat.lt_of_le_of_lt Nat.and_le_left hx)
theorem mask (x b : Nat) : x &&& (2 ^ b - 1) = x % 2 ^ b := Nat.and_two_pow_sub_one_eq_mod x b
theorem sub_pow (b : Nat) : ((2 ^ b : Nat) : Int) - 1 = ((2 ^ b - 1 : Nat) : Int) := by
  have : 1 ≤ 2 ^ b := Nat.one_le_two_pow
  omega
/-- x & (n - 1), where n is a power of two -/
theorem mask64 {x b : Nat} (hx : x < 9223372036854775808) (hb : b ≤ 62) : IntKind.wrap .i64 ((BitVec.ofInt (IntKind.bits .i64) (x : Int) &&& BitVec.ofInt (IntKind.bits .i64) (((2 ^ b : Nat) : Int) - 1)).toNat : Int) = ((x % 2 ^ b : Nat) : Int) := by
  have : 2 ^ b ≤ 2 ^ 62 := Nat.pow_le_pow_right (by decide) hb
  rw [sub_pow, land64 hx (by omega), mask]
theorem shr (x n : Nat) : Int.fdiv (x : Int) (2 ^ n) = ((x / 2 ^ n : Nat) : Int) := by
  rw [Int.fdiv_eq_ediv_of_nonneg _ (Int.pow_nonneg (by decide))]
  simp
theorem one_shl {b : Nat} (hb : b ≤ 62) : IntKind.wrap .i64 (1 * 2 ^ min ((b : Int).toNat) (IntKind.bits .i64)) = ((2 ^ b : Nat) : Int) := by
  have h1 : 2 ^ b ≤ 2 ^ 62 := Nat.pow_le_pow_right (by decide) hb
  rw [Int.toNat_natCast, Nat.min_eq_left (by show b ≤ 64; omega), Int.one_mul]
  rw [show (2 : Int) ^ b = ((2 ^ b : Nat) : Int) by simp]
  exact n64 (by omega)
theorem tmod (a b : Nat) : Int.tmod (a : Int) (b : Int) = ((a % b : Nat) : Int) := rfl
theorem tdiv (a b : Nat) : Int.tdiv (a : Int) (b : Int) = ((a / b : Nat) : Int) := rfl
end Go.Bits
