/- Part J of the proofs over 'rename': the two tables and the list in one memory; 'same'. -/
import Derived.Test.YtnlnbclibkceiaaDoorPl
import Derived.Test.YtnlnbclibkceiaaDoorTold
namespace Go.Proofs.YtnlnbclibkceiaaDoor
open Go.RowKit Go.XHeap
set_option linter.unusedVariables false

/-- two tables and a list in one memory -/
structure HJ (w0 wr : World) (bt bu : Nat) (T : Tb) (U : Rb) (O1 O2 O3 : Nat → Prop) : Prop where
  t : TabIs wr O1 bt T
  u : RefIs wr O2 bu U
  g1 : ∀ k, O1 k → w0.heap.size ≤ k ∧ k < wr.heap.size
  g2 : ∀ k, O2 k → w0.heap.size ≤ k ∧ k < wr.heap.size
  g3 : ∀ k, O3 k → w0.heap.size ≤ k ∧ k < wr.heap.size
  d12 : ∀ k, O1 k → ¬ O2 k
  d13 : ∀ k, O1 k → ¬ O3 k
  d23 : ∀ k, O2 k → ¬ O3 k
  touch : XTouch (fun _ => False) w0 wr
theorem HJ.onT {w0 wr w' : World} {bt bu : Nat} {T T' : Tb} {U : Rb} {O1 O2 O3 : Nat → Prop} (h : HJ w0 wr bt bu T U O1 O2 O3) (hn : TabNow wr O1 bt T' w') : HJ w0 w' bt bu T' U (Gain O1 wr w') O2 O3 := by
  have s0 := h.touch.size
  have s1 := hn.2.size
  refine ⟨hn.1, h.u.keep hn.2 (fun k hk e => h.d12 k e hk), ?_, ?_, ?_, ?_, ?_, h.d23, h.touch.trans hn.2 (fun k hk e => by have := h.g1 k e; omega)⟩
  · intro k hk
    rcases hk with e | e
    · have := h.g1 k e; omega
    · omega
  · intro k hk; have := h.g2 k hk; omega
  · intro k hk; have := h.g3 k hk; omega
  · intro k hk e2
    rcases hk with e | e
    · exact h.d12 k e e2
    · have := h.g2 k e2; omega
  · intro k hk e2
    rcases hk with e | e
    · exact h.d13 k e e2
    · have := h.g3 k e2; omega
theorem HJ.onU {w0 wr w' : World} {bt bu : Nat} {T : Tb} {U U' : Rb} {O1 O2 O3 : Nat → Prop} (h : HJ w0 wr bt bu T U O1 O2 O3) (hn : RefNow wr O2 bu U' w') : HJ w0 w' bt bu T U' O1 (Gain O2 wr w') O3 := by
  have s0 := h.touch.size
  have s1 := hn.2.size
  refine ⟨h.t.keep hn.2 (fun k hk e => h.d12 k hk e), hn.1, ?_, ?_, ?_, ?_, h.d13, ?_, h.touch.trans hn.2 (fun k hk e => by have := h.g2 k e; omega)⟩
  · intro k hk; have := h.g1 k hk; omega
  · intro k hk
    rcases hk with e | e
    · have := h.g2 k e; omega
    · omega
  · intro k hk; have := h.g3 k hk; omega
  · intro k hk e2
    rcases e2 with e | e
    · exact h.d12 k hk e
    · have := h.g1 k hk; omega
  · intro k hk e2
    rcases hk with e | e
    · exact h.d23 k e e2
    · have := h.g3 k e2; omega
theorem HJ.onL {w0 wr w' : World} {bt bu : Nat} {T : Tb} {U : Rb} {O1 O2 O3 O3' : Nat → Prop} (h : HJ w0 wr bt bu T U O1 O2 O3) (ht : XTouch O3 wr w') (h3 : ∀ k, O3' k → (O3 k ∨ wr.heap.size ≤ k) ∧ k < w'.heap.size) : HJ w0 w' bt bu T U O1 O2 O3' := by
  have s0 := h.touch.size
  have s1 := ht.size
  refine ⟨h.t.keep ht (fun k hk e => h.d13 k hk e), h.u.keep ht (fun k hk e => h.d23 k hk e), ?_, ?_, ?_, h.d12, ?_, ?_, h.touch.trans ht (fun k hk e => by have := h.g3 k e; omega)⟩
  · intro k hk; have := h.g1 k hk; omega
  · intro k hk; have := h.g2 k hk; omega
  · intro k hk
    obtain ⟨e | e, e2⟩ := h3 k hk
    · have := h.g3 k e; omega
    · omega
  · intro k hk hk3
    obtain ⟨e | e, e2⟩ := h3 k hk3
    · exact h.d13 k hk e
    · have := h.g1 k hk; omega
  · intro k hk hk3
    obtain ⟨e | e, e2⟩ := h3 k hk3
    · exact h.d23 k hk e
    · have := h.g2 k hk; omega
theorem HJ.start {w w1 w2 : World} {bt bu : Nat} {T : Tb} {U : Rb} (h1 : TabNow w (fun _ => False) bt T w1) (h2 : RefNow w1 (fun _ => False) bu U w2) :
    HJ w w2 bt bu T U (Gain (fun _ => False) w w1) (Gain (fun _ => False) w1 w2) (fun _ => False) := by
  have s1 := h1.2.size
  have s2 := h2.2.size
  refine ⟨h1.1.keep h2.2 (fun _ _ e => e), h2.1, ?_, ?_, fun _ h => h.elim, ?_, fun _ _ h => h, fun _ _ h => h, h1.2.trans h2.2 (fun _ _ h => h)⟩
  · rintro k (e | e)
    · exact e.elim
    · omega
  · rintro k (e | e)
    · exact e.elim
    · omega
  · rintro k (e | e) (e2 | e2)
    · exact e.elim
    · exact e.elim
    · exact e2.elim
    · omega
theorem HJ.on0 {w0 wr w' : World} {bt bu : Nat} {T : Tb} {U : Rb} {O1 O2 O3 : Nat → Prop} (h : HJ w0 wr bt bu T U O1 O2 O3) (ht : XTouch (fun _ => False) wr w') : HJ w0 w' bt bu T U O1 O2 O3 :=
  h.onL (ht.mono (fun _ _ e => e.elim)) (fun k hk => ⟨.inl hk, Nat.lt_of_lt_of_le (h.g3 k hk).2 ht.size⟩)
theorem HJ.ends {w0 wr : World} {bt bu : Nat} {T : Tb} {U : Rb} {O1 O2 O3 : Nat → Prop} (h : HJ w0 wr bt bu T U O1 O2 O3) : Below w0.heap.size w0 wr := h.touch.below (Nat.le_refl _) (fun _ h => h.elim)
def trip (l : List (Int × Int × Int)) : List Value := l.flatMap fun x => [.int .i64 x.1, .int .i64 x.2.1, .int .i64 x.2.2]
theorem trip_snoc (l : List (Int × Int × Int)) (x : Int × Int × Int) : trip (l ++ [x]) = trip l ++ [.int .i64 x.1, .int .i64 x.2.1, .int .i64 x.2.2] := by simp [trip]
theorem len_trip (l : List (Int × Int × Int)) : (trip l).length = l.length * 3 := by
  induction l with
  | nil => rfl
  | cons x t ih => simp only [trip, List.flatMap_cons, List.length_append, List.length_cons, List.length_nil] at ih ⊢; omega
theorem trip_at : ∀ (l : List (Int × Int × Int)) (k j : Nat) (x : Int × Int × Int), l[k]? = some x → j < 3 → (trip l)[k * 3 + j]? = ([.int .i64 x.1, .int .i64 x.2.1, .int .i64 x.2.2] : List Value)[j]?
  | [], k, j, x, h, _ => by simp at h
  | y :: t, 0, j, x, h, hj => by
    simp at h; subst h
    unfold trip
    rw [List.flatMap_cons, List.getElem?_append_left (by simp; omega)]
    simp
  | y :: t, k + 1, j, x, h, hj => by
    simp at h
    have := trip_at t k j x h hj
    unfold trip at this ⊢
    rw [List.flatMap_cons, List.getElem?_append_right (by simp; omega)]
    rw [← this]
    congr 1
    simp; omega
/-- a list of triples, opened -/
theorem trip_cells {w : World} {e : TypeId} {v : Value} {l : List (Int × Int × Int)} (h : Sl w e 3 v l.length (trip l)) : ∃ ao cap, v = .slice ao l.length cap ∧ l.length ≤ maxLen ∧ l.length ≤ cap ∧ cap ≤ maxLen ∧
    ∀ (k : Nat) (x : Int × Int × Int), l[k]? = some x → ∃ g off, ao = some ⟨g, off, none⟩ ∧ w.cell? ⟨g, off + k * 3, none⟩ = some (.int .i64 x.1) ∧ w.cell? ⟨g, off + k * 3 + 1, none⟩ = some (.int .i64 x.2.1) ∧ w.cell? ⟨g, off + k * 3 + 2, none⟩ = some (.int .i64 x.2.2) := by
  obtain ⟨hl, h⟩ := h
  rcases h with ⟨rfl, h0⟩ | ⟨g, off, cap, cur, rfl, hb, h1, h2, h3, h4⟩
  · refine ⟨none, 0, by rw [h0], by omega, by omega, by omega, fun k x hk => ?_⟩
    rw [List.eq_nil_of_length_eq_zero h0] at hk; simp at hk
  · refine ⟨_, cap, rfl, by omega, h1, h2, fun k x hk => ⟨g, off, rfl, ?_⟩⟩
    have hkl := (List.getElem?_eq_some_iff.1 hk).1
    have key : ∀ j, j < 3 → w.cell? ⟨g, off + k * 3 + j, none⟩ = ([.int .i64 x.1, .int .i64 x.2.1, .int .i64 x.2.2] : List Value)[j]? := by
      intro j hj
      rw [hb.cell, ← trip_at l k j x hk hj, ← h4, List.getElem?_take_of_lt (by omega), List.getElem?_drop]
      simp [Nat.add_assoc]
    exact ⟨key 0 (by omega), key 1 (by omega), key 2 (by omega)⟩
structure Agree (n : Nat) (T : Tb) (R : Rb) : Prop where
  nm : T.names = R.names
  fr : T.free = R.free
  sz : R.size = n
  g : Good n T.names T.uses T.free
theorem same_any {w : World} {O1 O2 : Nat → Prop} {bt b n : Nat} {T : Tb} {R : Rb} (hT : TabIs w O1 bt T) (hR : RefIs w O2 b R) (ha : Agree n T R) :
    Calls Tryd.prog 15 #[.pointer (some ⟨bt, 0, none⟩), .pointer (some ⟨b, 0, none⟩)] w fun e w' => e = .returned (.bool true) ∧ w = w' := by
  have HT := Lib.hid hT; have HR := Lib.hid hR; have HA := Lib.hid ha
  obtain ⟨vf, h⟩ := hR
  have c := h.tab.cell' (rcells_free h.len _)
  obtain ⟨ao, cap, hv, -, q1, -, -, -⟩ := h.free.open1
  subst hv
  have fl := congrArg List.length ha.fr
  have K3 := Lib.hid (free_any hT)
  rw [fl] at K3
  unfold maxLen at q1
  clear h hT ha fl
  go_enter Tryd.func15, Tryd.ntmps15
  go_wp2_with fail
  go_loop [5] (fun i => ∃ j : Nat, j ≤ 32 ∧ i = .int .i64 j) (fun i => 32 - (intOf i).toNat)
  case atStart => exact ⟨0, by omega, rfl⟩
  case round =>
    obtain ⟨j, hj, rfl⟩ := hrel
    by_cases hjl : j < 32
    · have k1 := look_any HT.out (j : Int) (by omega) (by omega)
      have k2 := rlook_any HR.out (j : Int) (by omega) (by omega)
      rw [HA.out.nm] at k1
      generalize R.names.getD (j : Int).toNat 0 = y at k1 k2
      have K1 := Lib.hid k1; have K2 := Lib.hid k2
      clear k1 k2
      go_wp2_with fail
      refine (K1.out).mono ?_
      rintro e w3 ⟨rfl, rfl⟩
      go_wp2_with fail
      refine (K2.out).mono ?_
      rintro e w3 ⟨rfl, rfl⟩
      go_wp2_with fail
      go_round
      case rel => exact ⟨j + 1, by omega, by go_num⟩
      case measure => simp [intOf]; omega
    · go_wp2_with fail
      refine (K3.out).mono ?_
      rintro e w3 ⟨rfl, rfl⟩
      go_wp2_with fail
      go_ret
      exact ⟨rfl, rfl⟩
theorem Sl.short {w : World} {e : TypeId} {size n m cap : Nat} {ao : Option Addr} {xs : List Value} (h : Sl w e size (.slice ao n cap) n xs) (hm : m ≤ n) : Sl w e size (.slice ao m cap) m (xs.take (m * size)) := by
  obtain ⟨hl, h⟩ := h
  have hms : m * size ≤ n * size := Nat.mul_le_mul_right _ hm
  refine ⟨by rw [List.length_take, hl]; omega, ?_⟩
  rcases h with ⟨h, rfl⟩ | ⟨g, off, cap', cur, h, hb, q1, q2, q3, q4⟩
  · cases h
    have : m = 0 := by omega
    subst this
    exact .inl ⟨rfl, rfl⟩
  · cases h
    refine .inr ⟨g, off, _, cur, rfl, hb, by omega, q2, q3, ?_⟩
    rw [← q4, List.take_take, Nat.min_eq_left hms]
theorem trip_short {w : World} {e : TypeId} {ao : Option Addr} {cap : Nat} {l : List (Int × Int × Int)} {x : Int × Int × Int} (h : Sl w e 3 (.slice ao (l ++ [x]).length cap) (l ++ [x]).length (trip (l ++ [x]))) : Sl w e 3 (.slice ao l.length cap) l.length (trip l) := by
  have := Sl.short h (m := l.length) (by simp)
  rw [trip_snoc, List.take_append_of_le_length (by rw [len_trip]; omega), List.take_of_length_le (by rw [len_trip]; omega)] at this
  exact this
end Go.Proofs.YtnlnbclibkceiaaDoor
