/- Part G of the proofs over 'rename': the plain law of undoing; two tables and a list in one memory. -/
import Derived.Test.YtnlnbclibkceiaaF
namespace Go.Proofs.Ytnlnbclibkceiaa
open Go.RowKit Go.XHeap
set_option linter.unusedVariables false

theorem getD_set_ne (l : List Int) (i j : Nat) (x : Int) (h : i ≠ j) : (l.set i x).getD j 0 = l.getD j 0 := by
  simp only [List.getD_eq_getElem?_getD, List.getElem?_set]
  rw [if_neg h]
theorem getD_set_eq (l : List Int) (i : Nat) (x : Int) (h : i < l.length) : (l.set i x).getD i 0 = x := by
  simp only [List.getD_eq_getElem?_getD, List.getElem?_set, if_pos h]; simp
theorem set_getD (l : List Int) (i : Nat) (h : i < l.length) : l.set i (l.getD i 0) = l := by
  rw [List.getD_eq_getElem?_getD, List.getElem?_eq_getElem h]; simp
/-- the last name taken is taken back -/
theorem PInv.undo {size : Nat} {T : Tb} {L : List Int} {o f : Int} (h : PInv size T (L ++ [o])) (r : Nat) (h1 : 1 ≤ r) (h2 : r < 32) (hf : T.names.getD r 0 = f) :
    (1 ≤ f ∧ f < size) ∧ (1 ≤ o ∧ o < size) ∧ f ≠ o ∧ T.uses.getD o.toNat 0 = 2 ∧ T.free.length < 128 ∧ PInv size ⟨T.names.set r o, (T.uses.set f.toNat 0).set o.toNat 1, f :: T.free⟩ L := by
  have hr : r < T.names.length := by rw [h.nlen]; exact h2
  have hm := getD_tail T.names r h1 hr
  rw [hf] at hm
  have rf := h.range (x := f) (.inr (.inl hm))
  have ro := h.range (x := o) (.inr (.inr (by simp)))
  have hnd := h.nodup
  have hcnt := h.count
  have hs1 := h.s1
  have hfo : f ≠ o := by
    rintro rfl
    exact (List.nodup_append.1 hnd).2.2 _ (List.mem_append.2 (.inr hm)) f (by simp) rfl
  refine ⟨rf, ro, hfo, h.held o (by simp), by simp at hcnt; omega, ⟨h.s0, h.s1, by simpa using h.nlen, ?_, by simpa using h.ulen, ?_, ?_⟩⟩
  · rw [getD_set_ne _ _ _ _ (by omega)]; exact h.n0
  · obtain ⟨A, C, e1, e2⟩ := split_tail T.names r h1 hr o
    rw [hf] at e1
    refine List.Perm.trans ?_ h.perm
    show (f :: T.free ++ (T.names.set r o).tail ++ L).Perm _
    rw [e1, e2, List.perm_iff_count]
    intro x
    simp only [List.count_append, List.count_cons, List.count_nil, List.cons_append]
    omega
  · intro p hp
    have rp := h.range (x := p) (.inr (.inr (by simp [hp])))
    have hpo : p ≠ o := by
      rintro rfl
      have h3 := (List.nodup_append.1 hnd).2.1
      exact (List.nodup_append.1 h3).2.2 p hp p (by simp) rfl
    have hpf : p ≠ f := by
      rintro rfl
      exact (List.nodup_append.1 hnd).2.2 _ (List.mem_append.2 (.inr hm)) p (by simp [hp]) rfl
    rw [getD_set_ne _ _ _ _ (by omega), getD_set_ne _ _ _ _ (by omega)]
    exact h.held p (by simp [hp])
/-- names taken, the last first, and what they go back to -/
def Back : List (Int × Int × Int) → List Int → List Int → List Int → List Int → Prop
  | [], N, F, N0, F0 => N = N0 ∧ F = F0
  | (r, f, o) :: l, N, F, N0, F0 => 1 ≤ r ∧ r < 32 ∧ N.getD r.toNat 0 = f ∧ Back l (N.set r.toNat o) (f :: F) N0 F0
theorem Back.take {l : List (Int × Int × Int)} {N fs N0 F0 : List Int} {f : Int} (h : Back l N (f :: fs) N0 F0) (r : Nat) (h1 : 1 ≤ r) (h2 : r < 32) (hl : N.length = 32) :
    Back (((r : Int), f, N.getD r 0) :: l) (N.set r f) fs N0 F0 := by
  refine ⟨by omega, by omega, ?_, ?_⟩
  · rw [Int.toNat_natCast]; exact getD_set_eq _ _ _ (by omega)
  · rw [Int.toNat_natCast, List.set_set, set_getD _ _ (by omega)]; exact h

/-- two tables and a list in one memory -/
structure HJ (w0 wr : World) (bt bu : Nat) (T U : Tb) (O1 O2 O3 : Nat → Prop) : Prop where
  t : TabIs wr O1 bt T
  u : TabIs wr O2 bu U
  g1 : ∀ k, O1 k → w0.heap.size ≤ k ∧ k < wr.heap.size
  g2 : ∀ k, O2 k → w0.heap.size ≤ k ∧ k < wr.heap.size
  g3 : ∀ k, O3 k → w0.heap.size ≤ k ∧ k < wr.heap.size
  d12 : ∀ k, O1 k → ¬ O2 k
  d13 : ∀ k, O1 k → ¬ O3 k
  d23 : ∀ k, O2 k → ¬ O3 k
  touch : XTouch (fun _ => False) w0 wr
theorem HJ.onT {w0 wr w' : World} {bt bu : Nat} {T U T' : Tb} {O1 O2 O3 : Nat → Prop} (h : HJ w0 wr bt bu T U O1 O2 O3) (hn : TabNow wr O1 bt T' w') : HJ w0 w' bt bu T' U (Gain O1 wr w') O2 O3 := by
  have s0 := h.touch.size
  have s1 := hn.2.size
  refine ⟨hn.1, h.u.keep hn.2 (fun k hk e => h.d12 k e hk), ?_, ?_, ?_, ?_, ?_, h.d23, h.touch.trans hn.2 (fun k hk e => by have := h.g1 k e; omega)⟩
  · intro k hk
    rcases hk with e | e
    · have := h.g1 k e; omega
    · omega
  · intro k hk; have := h.g2 k hk; omega
  · intro k hk; have := h.g3 k hk; omega
  · intro k hk e2
    rcases hk with e | e
    · exact h.d12 k e e2
    · have := h.g2 k e2; omega
  · intro k hk e2
    rcases hk with e | e
    · exact h.d13 k e e2
    · have := h.g3 k e2; omega
theorem HJ.onU {w0 wr w' : World} {bt bu : Nat} {T U U' : Tb} {O1 O2 O3 : Nat → Prop} (h : HJ w0 wr bt bu T U O1 O2 O3) (hn : TabNow wr O2 bu U' w') : HJ w0 w' bt bu T U' O1 (Gain O2 wr w') O3 := by
  have s0 := h.touch.size
  have s1 := hn.2.size
  refine ⟨h.t.keep hn.2 (fun k hk e => h.d12 k hk e), hn.1, ?_, ?_, ?_, ?_, h.d13, ?_, h.touch.trans hn.2 (fun k hk e => by have := h.g2 k e; omega)⟩
  · intro k hk; have := h.g1 k hk; omega
  · intro k hk
    rcases hk with e | e
    · have := h.g2 k e; omega
    · omega
  · intro k hk; have := h.g3 k hk; omega
  · intro k hk e2
    rcases e2 with e | e
    · exact h.d12 k hk e
    · have := h.g1 k hk; omega
  · intro k hk e2
    rcases hk with e | e
    · exact h.d23 k e e2
    · have := h.g3 k e2; omega
theorem HJ.onL {w0 wr w' : World} {bt bu : Nat} {T U : Tb} {O1 O2 O3 O3' : Nat → Prop} (h : HJ w0 wr bt bu T U O1 O2 O3) (ht : XTouch O3 wr w') (h3 : ∀ k, O3' k → (O3 k ∨ wr.heap.size ≤ k) ∧ k < w'.heap.size) : HJ w0 w' bt bu T U O1 O2 O3' := by
  have s0 := h.touch.size
  have s1 := ht.size
  refine ⟨h.t.keep ht (fun k hk e => h.d13 k hk e), h.u.keep ht (fun k hk e => h.d23 k hk e), ?_, ?_, ?_, h.d12, ?_, ?_, h.touch.trans ht (fun k hk e => by have := h.g3 k e; omega)⟩
  · intro k hk; have := h.g1 k hk; omega
  · intro k hk; have := h.g2 k hk; omega
  · intro k hk
    obtain ⟨e | e, e2⟩ := h3 k hk
    · have := h.g3 k e; omega
    · omega
  · intro k hk hk3
    obtain ⟨e | e, e2⟩ := h3 k hk3
    · exact h.d13 k hk e
    · have := h.g1 k hk; omega
  · intro k hk hk3
    obtain ⟨e | e, e2⟩ := h3 k hk3
    · exact h.d23 k hk e
    · have := h.g2 k hk; omega
def trip (l : List (Int × Int × Int)) : List Value := l.flatMap fun x => [.int .i64 x.1, .int .i64 x.2.1, .int .i64 x.2.2]
theorem trip_snoc (l : List (Int × Int × Int)) (x : Int × Int × Int) : trip (l ++ [x]) = trip l ++ [.int .i64 x.1, .int .i64 x.2.1, .int .i64 x.2.2] := by simp [trip]
theorem len_trip (l : List (Int × Int × Int)) : (trip l).length = l.length * 3 := by
  induction l with
  | nil => rfl
  | cons x t ih => simp only [trip, List.flatMap_cons, List.length_append, List.length_cons, List.length_nil] at ih ⊢; omega
theorem trip_at : ∀ (l : List (Int × Int × Int)) (k j : Nat) (x : Int × Int × Int), l[k]? = some x → j < 3 → (trip l)[k * 3 + j]? = ([.int .i64 x.1, .int .i64 x.2.1, .int .i64 x.2.2] : List Value)[j]?
  | [], k, j, x, h, _ => by simp at h
  | y :: t, 0, j, x, h, hj => by
    simp at h; subst h
    unfold trip
    rw [List.flatMap_cons, List.getElem?_append_left (by simp; omega)]
    simp
  | y :: t, k + 1, j, x, h, hj => by
    simp at h
    have := trip_at t k j x h hj
    unfold trip at this ⊢
    rw [List.flatMap_cons, List.getElem?_append_right (by simp; omega)]
    rw [← this]
    congr 1
    simp; omega
/-- a list of triples, opened -/
theorem trip_cells {w : World} {e : TypeId} {v : Value} {l : List (Int × Int × Int)} (h : Sl w e 3 v l.length (trip l)) : ∃ ao cap, v = .slice ao l.length cap ∧ l.length ≤ maxLen ∧ l.length ≤ cap ∧ cap ≤ maxLen ∧
    ∀ (k : Nat) (x : Int × Int × Int), l[k]? = some x → ∃ g off, ao = some ⟨g, off, none⟩ ∧ w.cell? ⟨g, off + k * 3, none⟩ = some (.int .i64 x.1) ∧ w.cell? ⟨g, off + k * 3 + 1, none⟩ = some (.int .i64 x.2.1) ∧ w.cell? ⟨g, off + k * 3 + 2, none⟩ = some (.int .i64 x.2.2) := by
  obtain ⟨hl, h⟩ := h
  rcases h with ⟨rfl, h0⟩ | ⟨g, off, cap, cur, rfl, hb, h1, h2, h3, h4⟩
  · refine ⟨none, 0, by rw [h0], by omega, by omega, by omega, fun k x hk => ?_⟩
    rw [List.eq_nil_of_length_eq_zero h0] at hk; simp at hk
  · refine ⟨_, cap, rfl, by omega, h1, h2, fun k x hk => ⟨g, off, rfl, ?_⟩⟩
    have hkl := (List.getElem?_eq_some_iff.1 hk).1
    have key : ∀ j, j < 3 → w.cell? ⟨g, off + k * 3 + j, none⟩ = ([.int .i64 x.1, .int .i64 x.2.1, .int .i64 x.2.2] : List Value)[j]? := by
      intro j hj
      rw [hb.cell, ← trip_at l k j x hk hj, ← h4, List.getElem?_take_of_lt (by omega), List.getElem?_drop]
      simp [Nat.add_assoc]
    exact ⟨key 0 (by omega), key 1 (by omega), key 2 (by omega)⟩
end Go.Proofs.Ytnlnbclibkceiaa
