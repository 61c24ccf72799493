/- Part R of the proofs over 'rename': the document's table of names. -/
import Derived.Test.YtnlnbclibkceiaaDoorF
namespace Go.Proofs.YtnlnbclibkceiaaDoor
open Go.RowKit Go.XHeap
set_option linter.unusedVariables false

def rcells (N : Int) (names : List Int) (f : Value) : Array Value := (.int .i64 N :: (ints names ++ [f])).toArray
structure Rb where
  size : Int
  names : List Int
  free : List Int
structure RefAt (w : World) (O : Nat → Prop) (b : Nat) (vf : Value) (R : Rb) : Prop where
  len : R.names.length = 32
  flen : R.free.length ≤ 128
  tab : Blk w b (rcells R.size R.names vf) 55
  free : Sl w 3 1 vf R.free.length (ints R.free)
  fne : ∀ k, vf.ownBlock = some k → k ≠ b
  ot : O b
  ofree : Within vf O
def RefIs (w : World) (O : Nat → Prop) (b : Nat) (R : Rb) : Prop := ∃ vf, RefAt w O b vf R
theorem rcells_N (N : Int) (names : List Int) (f : Value) : (rcells N names f)[0]? = some (.int .i64 N) := by simp [rcells]
theorem rcells_name {N : Int} {names : List Int} (h : names.length = 32) (f : Value) (r : Nat) (hr : r < 32) : (rcells N names f)[1 + r]? = some (.int .i64 (names.getD r 0)) := by
  unfold rcells ints
  rw [List.getElem?_toArray, Nat.add_comm, List.getElem?_cons_succ, List.getElem?_append_left (by simpa [h] using hr)]
  simp [List.getD_eq_getElem?_getD, List.getElem?_eq_getElem (show r < names.length by omega)]
theorem rcells_free {N : Int} {names : List Int} (h : names.length = 32) (f : Value) : (rcells N names f)[33]? = some f := by
  unfold rcells ints
  rw [List.getElem?_toArray, List.getElem?_cons_succ, List.getElem?_append_right (by simp [h])]; simp [h]
theorem rcells_set_name {N : Int} {names : List Int} (h : names.length = 32) (f : Value) (r : Nat) (hr : r < 32) (x : Int) : (rcells N names f).setIfInBounds (1 + r) (.int .i64 x) = rcells N (names.set r x) f := by
  unfold rcells ints
  apply Array.toList_inj.1
  simp only [Array.toList_setIfInBounds]
  rw [Nat.add_comm, List.set_cons_succ, List.set_append_left _ _ (by simpa [h] using hr), List.map_set]
theorem rcells_set_free {N : Int} {names : List Int} (h : names.length = 32) (f g : Value) : (rcells N names f).setIfInBounds 33 g = rcells N names g := by
  unfold rcells ints
  apply Array.toList_inj.1
  simp only [Array.toList_setIfInBounds]
  rw [List.set_cons_succ, List.set_append_right _ _ (by simp [h])]
  simp [h]
theorem RefIs.keep {w w' : World} {O S : Nat → Prop} {b : Nat} {R : Rb} (h : RefIs w O b R) (ht : XTouch S w w') (ho : ∀ k, O k → ¬ S k) : RefIs w' O b R :=
  let ⟨vf, h⟩ := h
  ⟨vf, ⟨h.len, h.flen, h.tab.keep ht (ho _ h.ot), h.free.keep ht (fun k hk => ho _ (h.ofree k hk)), h.fne, h.ot, h.ofree⟩⟩
def RefNow (w : World) (O : Nat → Prop) (b : Nat) (R : Rb) (w' : World) : Prop := RefIs w' (Gain O w w') b R ∧ XTouch O w w'
theorem ref_mk {w w' : World} {O : Nat → Prop} {b : Nat} {vf v' : Value} {R R' : Rb} (h : RefAt w O b vf R) (hT : XTouch O w w') (htab : Blk w' b (rcells R'.size R'.names v') 55) (hlen : R'.names.length = 32) (hflen : R'.free.length ≤ 128)
    (hfree : Sl w' 3 1 v' R'.free.length (ints R'.free)) (hv : ∀ k, v'.ownBlock = some k → vf.ownBlock = some k ∨ w.heap.size ≤ k) : RefNow w O b R' w' := by
  have hb := h.tab.lt
  refine ⟨⟨v', ⟨hlen, hflen, htab, hfree, ?_, .inl h.ot, ?_⟩⟩, hT⟩
  · intro k hk
    rcases hv k hk with e | e
    · exact h.fne k e
    · omega
  · intro k hk
    rcases hv k hk with e | e
    · exact .inl (h.ofree k e)
    · exact .inr ⟨e, hfree.lt k hk⟩
theorem rlook_any {w : World} {O : Nat → Prop} {b : Nat} {R : Rb} (h : RefIs w O b R) (r : Int) (h0 : 0 ≤ r) (h1 : r < 32) :
    Calls Tryd.prog 8 #[.pointer (some ⟨b, 0, none⟩), .int .i64 r] w fun e w' => e = .returned (.int .i64 (R.names.getD r.toNat 0)) ∧ w = w' := by
  obtain ⟨vf, h⟩ := h
  have c := h.tab.cell' (rcells_name h.len _ r.toNat (by omega))
  clear h
  go_enter Tryd.func8, Tryd.ntmps8
  go_wp2
  go_ret
  exact ⟨rfl, rfl⟩
theorem rlook_out {w : World} (p : Addr) (r : Int) (h : r < 0 ∨ 32 ≤ r) :
    Calls Tryd.prog 8 #[.pointer (some p), .int .i64 r] w fun e w' => e = .returned (.int .i64 (-1)) ∧ w = w' := by
  rcases h with h | h
  · go_enter Tryd.func8, Tryd.ntmps8
    go_wp2
    go_ret
    exact ⟨rfl, rfl⟩
  · have h0 : 0 ≤ r := by omega
    go_enter Tryd.func8, Tryd.ntmps8
    go_wp2
    go_ret
    exact ⟨rfl, rfl⟩
theorem look_out {w : World} (p : Addr) (r : Int) (h : r < 0 ∨ 32 ≤ r) :
    Calls Tryd.prog 7 #[.pointer (some p), .int .i64 r] w fun e w' => e = .returned (.int .i64 (-1)) ∧ w = w' := by
  rcases h with h | h
  · have hz : (r == 0) = false := by rw [beq_eq_false_iff_ne]; omega
    have hz' : (r != 0) = true := by rw [bne_iff_ne]; omega
    go_enter Tryd.func7, Tryd.ntmps7
    go_wp2
    go_ret
    exact ⟨rfl, rfl⟩
  · have h0 : 0 < r := by omega
    have hd : decide (r < 32) = false := by simp; omega
    have hz : (r == 0) = false := by rw [beq_eq_false_iff_ne]; omega
    have hz' : (r != 0) = true := by rw [bne_iff_ne]; omega
    go_enter Tryd.func7, Tryd.ntmps7
    go_wp2
    go_ret
    exact ⟨rfl, rfl⟩
theorem ret_bool {a b : Bool} (h : a = b) : Ending.returned (.bool a) = .returned (.bool b) := by rw [h]
def BoolIs (b : Bool) (w : World) (e : Ending) (w' : World) : Prop := e = .returned (.bool b) ∧ w = w'
theorem rfree_any {w : World} {O : Nat → Prop} {b : Nat} {R : Rb} (h : RefIs w O b R) (p : Int) :
    Calls Tryd.prog 19 #[.pointer (some ⟨b, 0, none⟩), .int .i64 p] w (BoolIs (decide (p ∈ R.free)) w) := by
  obtain ⟨vf, h⟩ := h
  have c := h.tab.cell' (rcells_free h.len _)
  obtain ⟨ao, cap, rfl, -, q1, q2, q3, hcell⟩ := h.free.open1
  have HC := Lib.hid hcell
  unfold maxLen at q1 q3
  clear hcell h
  go_enter Tryd.func19, Tryd.ntmps19
  go_wp2
  go_loop [5] (fun i => ∃ j : Nat, j ≤ R.free.length ∧ i = .int .i64 j ∧ p ∉ R.free.take j) (fun i => R.free.length - (intOf i).toNat)
  case atStart => exact ⟨0, by omega, rfl, by simp⟩
  case round =>
    obtain ⟨j, hj, rfl, hn⟩ := hrel
    by_cases hlt : j < R.free.length
    · obtain ⟨g, off, rfl, -, hc⟩ := HC.out (by omega)
      have cj := (hc j hlt).1
      have ex : (ints R.free)[j]? = some (.int .i64 (R.free.getD j 0)) := by simp [ints, List.getD_eq_getElem?_getD, List.getElem?_eq_getElem hlt]
      rw [ex] at cj
      have hm : R.free.getD j 0 ∈ R.free := by simp [List.getD_eq_getElem?_getD, List.getElem?_eq_getElem hlt]
      have ht : R.free.take (j + 1) = R.free.take j ++ [R.free.getD j 0] := by rw [List.take_succ_eq_append_getElem hlt]; simp [List.getD_eq_getElem?_getD, List.getElem?_eq_getElem hlt]
      have HM := Lib.hid hm; have HT := Lib.hid ht; have HN := Lib.hid hn
      clear hc ex hm ht hn
      generalize R.free.getD j 0 = y at *
      by_cases he : y = p
      · subst he
        have hd : decide (y ∈ R.free) = true := decide_eq_true HM.out
        have HD := Lib.hid hd
        clear hd
        go_wp2
        go_ret
        exact ⟨ret_bool HD.out.symm, rfl⟩
      · have he' : (y == p) = false := by simpa using he
        clear he
        go_wp2
        go_round
        case rel => exact ⟨j + 1, by omega, by go_num, by rw [HT.out, List.mem_append]; rintro (h | h); exact HN.out h; simp at h; simp [h] at he'⟩
        case measure => simp [intOf]; omega
    · have hd : decide (p ∈ R.free) = false := decide_eq_false (by rwa [List.take_of_length_le (by omega)] at hn)
      have HD := Lib.hid hd
      clear hd hn
      go_wp2
      go_ret
      exact ⟨ret_bool HD.out.symm, rfl⟩
theorem rmapped_any {w : World} {O : Nat → Prop} {b : Nat} {R : Rb} (h : RefIs w O b R) (p : Int) :
    Calls Tryd.prog 20 #[.pointer (some ⟨b, 0, none⟩), .int .i64 p] w (BoolIs (decide (p ∈ R.names)) w) := by
  obtain ⟨vf, h⟩ := h
  have hl := h.len
  have HC := Lib.hid (fun j (hj : j < 32) => h.tab.cell' (rcells_name h.len _ j hj))
  clear h
  go_enter Tryd.func20, Tryd.ntmps20
  go_wp2
  go_loop [5] (fun i => ∃ j : Nat, j ≤ 32 ∧ i = .int .i64 j ∧ p ∉ R.names.take j) (fun i => 32 - (intOf i).toNat)
  case atStart => exact ⟨0, by omega, rfl, by simp⟩
  case round =>
    obtain ⟨j, hj, rfl, hn⟩ := hrel
    by_cases hlt : j < 32
    · have cj := HC.out j hlt
      have hlt' : j < R.names.length := by omega
      have hm : R.names.getD j 0 ∈ R.names := by simp [List.getD_eq_getElem?_getD, List.getElem?_eq_getElem hlt']
      have ht : R.names.take (j + 1) = R.names.take j ++ [R.names.getD j 0] := by rw [List.take_succ_eq_append_getElem hlt']; simp [List.getD_eq_getElem?_getD, List.getElem?_eq_getElem hlt']
      have HM := Lib.hid hm; have HT := Lib.hid ht; have HN := Lib.hid hn
      clear hm ht hn hlt'
      generalize R.names.getD j 0 = y at *
      by_cases he : y = p
      · subst he
        have hd : decide (y ∈ R.names) = true := decide_eq_true HM.out
        have HD := Lib.hid hd
        clear hd
        go_wp2
        go_ret
        exact ⟨ret_bool HD.out.symm, rfl⟩
      · have he' : (y == p) = false := by simpa using he
        clear he
        go_wp2
        go_round
        case rel => exact ⟨j + 1, by omega, by go_num, by rw [HT.out, List.mem_append]; rintro (h | h); exact HN.out h; simp at h; simp [h] at he'⟩
        case measure => simp [intOf]; omega
    · have hd : decide (p ∈ R.names) = false := decide_eq_false (by rwa [List.take_of_length_le (by omega)] at hn)
      have HD := Lib.hid hd
      clear hd hn
      go_wp2
      go_ret
      exact ⟨ret_bool HD.out.symm, rfl⟩
end Go.Proofs.YtnlnbclibkceiaaDoor
