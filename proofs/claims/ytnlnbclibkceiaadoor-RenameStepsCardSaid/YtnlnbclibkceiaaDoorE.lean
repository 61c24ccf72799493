/- Part E of the proofs over 'rename': a name taken back; slices.Insert at the head of an owned list. -/
import Derived.Test.YtnlnbclibkceiaaDoorIns
import Derived.Test.YtnlnbclibkceiaaDoorC
namespace Go.Proofs.YtnlnbclibkceiaaDoor
open Go.RowKit Go.XHeap Go.Shelf
set_option linter.unusedVariables false

/-- the cells behind a row of stores -/
def setsA : List Value → Nat → Array Value → Array Value
  | [], _, C => C
  | x :: r, o, C => setsA r (o + 1) (C.setIfInBounds o x)
theorem size_setsA : ∀ (vs : List Value) (o : Nat) (C : Array Value), (setsA vs o C).size = C.size
  | [], _, _ => rfl
  | x :: r, o, C => by rw [setsA, size_setsA]; simp
theorem toList_setsA : ∀ (vs : List Value) (o : Nat) (C : Array Value), o + vs.length ≤ C.size → (setsA vs o C).toList = C.toList.take o ++ vs ++ C.toList.drop (o + vs.length)
  | [], o, C, _ => by simp [setsA]
  | x :: r, o, C, h => by
    simp only [List.length_cons] at h
    rw [setsA, toList_setsA r (o + 1) _ (by simp; omega), Array.toList_setIfInBounds]
    have ho : o < C.toList.length := by simp; omega
    rw [List.set_eq_take_append_cons_drop, if_pos ho]
    have e1 : (C.toList.take o ++ x :: C.toList.drop (o + 1)).take (o + 1) = C.toList.take o ++ [x] := by
      rw [List.take_append, List.take_of_length_le (by simp; omega)]
      have : o + 1 - (C.toList.take o).length = 1 := by simp; omega
      rw [this]; rfl
    have e2 : (C.toList.take o ++ x :: C.toList.drop (o + 1)).drop (o + 1 + r.length) = C.toList.drop (o + (r.length + 1)) := by
      rw [List.drop_append, List.drop_of_length_le (by simp; omega), List.nil_append]
      have : o + 1 + r.length - (C.toList.take o).length = r.length + 1 := by simp; omega
      rw [this, List.drop_succ_cons, List.drop_drop]
      congr 1; omega
    rw [e1, e2]
    simp
theorem Blk.setCells {g : Nat} {e : TypeId} : ∀ (vs : List Value) (o : Nat) {W : World} {C : Array Value}, Blk W g C e → Blk (W.setCells g o vs) g (setsA vs o C) e
  | [], _, _, _, h => h
  | x :: r, o, W, C, h => Blk.setCells r (o + 1) (h.set o x)
theorem XTouch.setCells {S : Nat → Prop} {a : World} (g : Nat) (hg : S g ∨ a.heap.size ≤ g) : ∀ (vs : List Value) (o : Nat) {w : World}, XTouch S a w → XTouch S a (w.setCells g o vs)
  | [], _, _, h => h
  | x :: r, o, w, h => XTouch.setCells g hg r (o + 1) (h.setCell (p := ⟨g, o, none⟩) hg x)
/-- what an insertion at the head leaves -/
def HeadIs (v : Value) (n : Nat) (ys : List Value) (W : World) (e : Ending) (w' : World) : Prop :=
  ∃ v', e = .returned v' ∧ Sl w' 3 1 v' n ys ∧ XTouch (fun k => v.ownBlock = some k) W w' ∧ (∀ k, v'.ownBlock = some k → v.ownBlock = some k ∨ W.heap.size ≤ k)
theorem ints_one (l : List Int) : ∀ v ∈ ints l, v.oneCell' = true := by
  intro v hv; simp [ints] at hv; obtain ⟨a, -, rfl⟩ := hv; rfl
theorem len_ints (l : List Int) : (ints l).length = l.length := by simp [ints]
theorem zeros1 (n : Nat) : Builtin.zeroCells (Value.int .i64 0).cells n = (List.replicate n (Value.int .i64 0)).toArray := by
  apply Array.ext'
  refine List.eq_replicate_iff.2 ⟨by simp [Builtin.zeroCells, Value.cells], ?_⟩
  intro b hb
  simp [Builtin.zeroCells, Value.cells] at hb
  obtain ⟨a, -, rfl⟩ := hb
  simp [Nat.mod_one]
theorem insert_head {W : World} {v : Value} {xs : List Int} (x : Int) (hs : Sl W 3 1 v xs.length (ints xs)) (g : Nat) (hB : Blk W g #[.int .i64 x] 3) (hg : v.ownBlock ≠ some g) (hn : xs.length ≤ 128) :
    Calls Tryd.prog 18 #[v, .int .i64 0, .slice (some ⟨g, 0, none⟩) 1 1] W (HeadIs v (xs.length + 1) (ints (x :: xs)) W) := by
  have hl := hs.1
  rw [len_ints] at hl
  have hvs : ∀ j u, ([.int .i64 x] : List Value)[j]? = some u → W.cell? ⟨g, 0 + j, none⟩ = some u := by
    intro j u hj
    match j, hj with
    | 0, hj => simp at hj; subst hj; exact hB.cell' (i := 0) rfl
    | j + 1, hj => simp at hj
  have h1v : ∀ u ∈ ([.int .i64 x] : List Value), u.oneCell' = true := by simp [Value.oneCell']
  rcases hs.2 with ⟨rfl, h0⟩ | ⟨b, off, cap, cur, rfl, hb, h1, h2, h3, h4⟩
  · have hx : xs = [] := List.eq_nil_of_length_eq_zero h0
    subst hx
    refine (Any2.slices_Insert_int_end_grow insLays none 0 0 g 0 1 1 [] [.int .i64 x] W (by omega) (by omega) (by omega) (by omega) rfl rfl (fun _ => rfl) (fun a h => by cases h) hvs h1v).mono ?_
    rintro e w' ⟨rfl, rfl⟩
    have hc1 := grownCap_ge W (0 + 1) 0 (insRen.t 3)
    have hc2 := grownCap_le_maxLen W (0 + 1) 0 (insRen.t 3) (by unfold maxLen; omega)
    generalize grownCap W (0 + 1) 0 (insRen.t 3) = c at hc1 hc2 ⊢
    refine ⟨_, rfl, ⟨by simp [ints], .inr ⟨W.heap.size, 0, c, _, rfl, Blk.new W.drew _ 3, hc1, hc2, ?_, ?_⟩⟩, ((XTouch.refl _ W).drew).alloc _, fun k hk => .inr (by simp [Value.ownBlock] at hk; omega)⟩
    · rw [zeros1]; simp; omega
    · rw [zeros1]; simp [ints]
  · unfold maxLen at h2
    have hgb : g ≠ b := fun e => hg (by simp [Value.ownBlock, e])
    have hbsz : W.heap[b]? = some (.cells cur 3 (0, 0)) := hb
    have hcs : ∀ j u, (ints xs)[j]? = some u → W.cell? ⟨b, off + j, none⟩ = some u := by
      intro j u hj
      rw [hb.cell, ← hj, ← h4]
      have hlt : j < xs.length * 1 := by have := (List.getElem?_eq_some_iff.1 hj).1; rw [len_ints] at this; omega
      rw [List.getElem?_take_of_lt hlt, List.getElem?_drop]
      simp
    by_cases hr : xs.length + 1 ≤ cap
    · have hsp : ∀ j, j < xs.length + 1 → (W.cell? ⟨b, off + j, none⟩).isSome = true := by
        intro j hj
        rw [hb.cell]
        simp; omega
      have hfz : ∀ j, j < xs.length + 1 → W.frozen? ⟨b, off + j, none⟩ = false := fun j _ => hb.frozen _
      by_cases h0 : xs.length = 0
      · have hx : xs = [] := List.eq_nil_of_length_eq_zero h0
        subst hx
        refine (Any2.slices_Insert_int_end_room insLays b off 0 cap g 0 1 1 [.int .i64 x] W (by omega) hr (by omega) rfl (fun j hj => hsp j (by simpa using hj)) (fun j hj => hfz j (by simpa using hj)) hvs h1v).mono ?_
        rintro e w' ⟨rfl, rfl⟩
        refine ⟨_, rfl, ⟨by simp [ints], .inr ⟨b, off, cap, _, rfl, Blk.setCells _ _ hb, hr, by unfold maxLen; omega, by rw [size_setsA]; exact h3, ?_⟩⟩, XTouch.setCells (S := fun k => some b = some k) b (.inl rfl) _ _ (XTouch.refl _ W), fun k hk => .inl hk⟩
        rw [toList_setsA _ _ _ (by simp; omega)]
        rw [List.append_assoc, List.drop_append, List.drop_of_length_le (by simp; omega)]
        have : off - (cur.toList.take (off + 0)).length = 0 := by simp; omega
        rw [this]
        simp [ints]
      · refine (Any2.slices_Insert_int_shift insLays b off xs.length cap 0 g 0 1 1 (ints xs) [.int .i64 x] W (by omega) (by omega) hr (by omega) hgb (len_ints xs) rfl hcs hsp hfz hvs (ints_one xs) h1v 3 3 1 cur.size ?_ ?_ ?_ (hB.frozen 0) (hB.frozen 1)).mono ?_
        · simp [World.shape?, show W.heap[g]? = _ from hB]
        · simp [World.shape?, hbsz]
        · omega
        rintro e w' ⟨rfl, rfl⟩
        refine ⟨_, rfl, ⟨by simp [ints], .inr ⟨b, off, cap, _, rfl, Blk.setCells _ _ (Blk.setCells _ _ hb.drew), hr, by unfold maxLen; omega, by rw [size_setsA, size_setsA]; exact h3, ?_⟩⟩, XTouch.setCells (S := fun k => some b = some k) b (.inl rfl) _ _ (XTouch.setCells (S := fun k => some b = some k) b (.inl rfl) _ _ (XTouch.refl _ W).drew), fun k hk => .inl hk⟩
        rw [toList_setsA _ _ _ (by rw [size_setsA]; simp; omega), toList_setsA _ _ _ (by simp [len_ints]; omega)]
        simp only [Nat.zero_add, Nat.add_zero, List.drop_zero, List.length_cons, List.length_nil]
        have hlo : off ≤ cur.toList.length := by simp; omega
        have ea : (cur.toList.take (off + 1) ++ ints xs ++ cur.toList.drop (off + 1 + (ints xs).length)).take off = cur.toList.take off := by
          rw [List.append_assoc, List.take_append_of_le_length (by simp; omega), List.take_take, Nat.min_eq_left (by omega)]
        have eb : (cur.toList.take (off + 1) ++ ints xs ++ cur.toList.drop (off + 1 + (ints xs).length)).drop (off + 1) = ints xs ++ cur.toList.drop (off + 1 + (ints xs).length) := by
          rw [List.append_assoc, List.drop_append, List.drop_of_length_le (by simp; omega), List.nil_append]
          have : off + 1 - (cur.toList.take (off + 1)).length = 0 := by simp; omega
          rw [this, List.drop_zero]
        rw [ea, eb, List.append_assoc, List.drop_append, List.drop_of_length_le (by simp; omega), List.nil_append]
        have : off - (cur.toList.take off).length = 0 := by simp; omega
        rw [this, List.drop_zero]
        rw [show (xs.length + 1) * 1 = (([.int .i64 x] : List Value) ++ ints xs).length by simp [ints], ← List.append_assoc, List.take_left']
        · simp [ints]
        · rfl
    · by_cases h0 : xs.length = 0
      · have hx : xs = [] := List.eq_nil_of_length_eq_zero h0
        subst hx
        simp only [List.length_nil] at h1 hr
        have hc0 : cap = 0 := by omega
        subst hc0
        refine (Any2.slices_Insert_int_end_grow insLays (some ⟨b, off, none⟩) 0 0 g 0 1 1 [] [.int .i64 x] W (by omega) (by omega) (by omega) (by omega) rfl rfl (fun h => by cases h) (fun a h j u hj => by simp at hj) hvs h1v).mono ?_
        rintro e w' ⟨rfl, rfl⟩
        have hc1 := grownCap_ge W (0 + 1) 0 (insRen.t 3)
        have hc2 := grownCap_le_maxLen W (0 + 1) 0 (insRen.t 3) (by unfold maxLen; omega)
        generalize grownCap W (0 + 1) 0 (insRen.t 3) = c at hc1 hc2 ⊢
        refine ⟨_, rfl, ⟨by simp [ints], .inr ⟨W.heap.size, 0, c, _, rfl, Blk.new W.drew _ 3, hc1, hc2, ?_, ?_⟩⟩, ((XTouch.refl _ W).drew).alloc _, fun k hk => .inr (by simp [Value.ownBlock] at hk; omega)⟩
        · rw [zeros1]; simp; omega
        · rw [zeros1]; simp [ints]
      · refine (Any2.slices_Insert_int_grow insLays b off xs.length cap 0 g 0 1 1 (ints xs) [.int .i64 x] W (by omega) (by omega) h1 (by omega) (by omega) (len_ints xs) rfl hcs hvs (ints_one xs) h1v).mono ?_
        rintro e w' ⟨rfl, rfl⟩
        have hc1 := grownCap_ge W (xs.length + 1) cap (insRen.t 3)
        have hc2 := grownCap_le_maxLen W (xs.length + 1) cap (insRen.t 3) (by unfold maxLen; omega)
        generalize grownCap W (xs.length + 1) cap (insRen.t 3) = c at hc1 hc2 ⊢
        rw [zeros1, zeros1]
        have hN := Blk.new W (((ints xs).take 0).toArray ++ (List.replicate (xs.length + 1 - 0) (Value.int .i64 0)).toArray ++ (List.replicate (c - (xs.length + 1)) (Value.int .i64 0)).toArray) 3
        refine ⟨_, rfl, ⟨by simp [ints], .inr ⟨W.heap.size, 0, c, _, rfl, Blk.setCells _ _ (Blk.setCells _ _ hN.drew).drew, hc1, hc2, ?_, ?_⟩⟩, XTouch.setCells _ (.inr (Nat.le_refl _)) _ _ (XTouch.setCells _ (.inr (Nat.le_refl _)) _ _ ((XTouch.refl _ W).alloc _).drew).drew, fun k hk => .inr (by simp [Value.ownBlock] at hk; omega)⟩
        · rw [size_setsA, size_setsA]; simp; omega
        · rw [toList_setsA _ _ _ (by rw [size_setsA]; simp [len_ints]; omega), toList_setsA _ _ _ (by simp; omega)]
          have e1 : ∀ l : List Value, List.take (0 + 1) (List.take 0 l ++ [Value.int .i64 x] ++ List.drop (0 + ([Value.int .i64 x] : List Value).length) l) = [.int .i64 x] := fun l => rfl
          rw [e1, List.drop_zero, List.drop_zero]
          rw [show (xs.length + 1) * 1 = (([.int .i64 x] : List Value) ++ ints xs).length by simp [ints], List.take_left']
          · simp [ints]
          · rfl
end Go.Proofs.YtnlnbclibkceiaaDoor
