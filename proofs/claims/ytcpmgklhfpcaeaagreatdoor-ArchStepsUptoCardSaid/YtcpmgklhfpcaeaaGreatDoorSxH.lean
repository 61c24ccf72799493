/- Small laws over memory for what 'Sx' asks: blocks, rows of cells, writes of a row. No condition. -/
import Derived.Test.YtcpmgklhfpcaeaaGreatDoorSxB
import Derived.IntWalk
namespace Go.Sx
open Go.RowKit Go.XHeap
set_option linter.unusedVariables false

variable {w w' : World} {b o : Nat} {cs : Array Value} {t : TypeId}
theorem cellsAt_of_blk (h : Blk w b cs t) (vs : Array Value) (hv : ∀ i v, vs[i]? = some v → cs[o + i]? = some v) : cellsAt w ⟨b, o, none⟩ vs := by
  intro i v hi
  rw [add_none]
  exact h.cell' (hv i v hi)
/-- the cells of a block from o on, n of them -/
theorem cellsAt_extract (h : Blk w b cs t) (n : Nat) (hn : o + n ≤ cs.size) : cellsAt w ⟨b, o, none⟩ (cs.extract o (o + n)) ∧ (cs.extract o (o + n)).size = n := by
  refine ⟨cellsAt_of_blk h _ fun i v hi => ?_, by simp; omega⟩
  rw [Array.getElem?_extract] at hi
  split at hi
  · exact hi
  · cases hi
def splice (cs : Array Value) (o : Nat) (vs : List Value) : Array Value := (cs.toList.take o ++ vs ++ cs.toList.drop (o + vs.length)).toArray
theorem splice_nil (cs : Array Value) (o : Nat) : splice cs o [] = cs := by simp [splice]
theorem splice_cons (cs : Array Value) (o : Nat) (v : Value) (vs : List Value) (h : o < cs.size) : splice (cs.setIfInBounds o v) (o + 1) vs = splice cs o (v :: vs) := by
  unfold splice
  congr 1
  rw [Array.toList_setIfInBounds]
  have h1 : (cs.toList.set o v).take (o + 1) = cs.toList.take o ++ [v] := by
    rw [List.take_set, List.take_succ_eq_append_getElem (by simpa using h), List.set_append_right _ _ (by simp; omega)]
    simp [Nat.min_eq_left (Nat.le_of_lt (show o < cs.size from h))]
  have h2 : (cs.toList.set o v).drop (o + 1 + vs.length) = cs.toList.drop (o + (v :: vs).length) := by
    rw [List.drop_set_of_lt (by omega)]
    simp [Nat.add_assoc, Nat.add_comm 1]
  rw [h1, h2]
  simp
theorem blk_setCells : ∀ (vs : List Value) (w : World) (cs : Array Value) (o : Nat), Blk w b cs t → o + vs.length ≤ cs.size → Blk (w.setCells b o vs) b (splice cs o vs) t
  | [], w, cs, o, h, _ => by rw [splice_nil]; exact h
  | v :: vs, w, cs, o, h, hl => by
    simp only [List.length_cons] at hl
    rw [← splice_cons cs o v vs (by omega)]
    exact blk_setCells vs _ _ (o + 1) (h.set o v) (by simp; omega)
theorem touch_setCells : ∀ (vs : List Value) (w : World) (o : Nat), XTouch (fun k => k = b) w (w.setCells b o vs)
  | [], w, o => XTouch.refl _ _
  | v :: vs, w, o => ((XTouch.refl (fun k => k = b) w).setCell (p := ⟨b, o, none⟩) (.inl rfl) v).trans (touch_setCells vs _ (o + 1)) (fun _ _ h => h)
theorem splice_all (cs : Array Value) (vs : List Value) (h : vs.length = cs.size) : splice cs 0 vs = vs.toArray := by
  unfold splice
  rw [List.drop_of_length_le (by simp; omega)]
  simp
/-- a row is written over a whole block -/
theorem blk_over (h : Blk w b cs t) (vs : List Value) (hl : vs.length = cs.size) : Blk (w.setCells b 0 vs) b vs.toArray t := by
  have := blk_setCells vs w cs 0 h (by omega)
  rwa [splice_all _ _ hl] at this
theorem splice_get (cs : Array Value) (o : Nat) (vs : List Value) (h : o + vs.length ≤ cs.size) (i : Nat) : (splice cs o vs)[i]? = if o ≤ i ∧ i < o + vs.length then vs[i - o]? else cs[i]? := by
  unfold splice
  rw [List.getElem?_toArray]
  have hl : (cs.toList.take o).length = o := by simp; omega
  by_cases h1 : i < o
  · rw [if_neg (by omega), List.append_assoc, List.getElem?_append_left (by omega), List.getElem?_take_of_lt h1]; simp
  · by_cases h2 : i < o + vs.length
    · rw [if_pos ⟨by omega, h2⟩, List.append_assoc, List.getElem?_append_right (by omega), hl, List.getElem?_append_left (by omega)]
    · rw [if_neg (by omega), List.getElem?_append_right (by simp; omega), List.getElem?_drop]
      simp only [List.length_append, hl]
      rw [show o + vs.length + (i - (o + vs.length)) = i by omega]
      simp
theorem splice_size (cs : Array Value) (o : Nat) (vs : List Value) (h : o + vs.length ≤ cs.size) : (splice cs o vs).size = cs.size := by
  unfold splice; simp; omega
/-- what is asked where a struct result's cell is read, written back and read again -/
theorem back_cell {n : Nat} (h : Blk w b cs t) (hs : cs.size = n) (h1 : ∀ v ∈ cs.toList, v.oneCell' = true) {Φ : Array Value → World → Prop}
    (hq : ∀ w', Blk w' b cs t → XTouch (fun k => k = b) w w' → Φ cs w') :
    ∃ vs : Array Value, vs.size = n ∧ cellsAt w ⟨b, 0, none⟩ vs ∧ vs.size = n ∧ (∀ j : Nat, j < n → (∃ v, w.cell? ⟨b, 0 + j, none⟩ = some v) ∧ w.frozen? ⟨b, 0 + j, none⟩ = false) ∧ (∀ v : Value, v ∈ vs.toList → v.oneCell' = true) ∧
      ∀ w' : World, w' = w.setCells b 0 vs.toList → ∃ vs2 : Array Value, vs2.size = n ∧ cellsAt w' ⟨b, 0, none⟩ vs2 ∧ Φ vs2 w' := by
  refine ⟨cs, hs, cellsAt_of_blk h cs (fun i v hi => by simpa using hi), hs, fun j hj => ⟨?_, h.frozen _⟩, h1, ?_⟩
  · rw [h.cell]
    exact ⟨_, Array.getElem?_eq_getElem (by omega)⟩
  · rintro w' rfl
    have hb := blk_over h cs.toList (by simp)
    simp only [Array.toArray_toList] at hb
    exact ⟨cs, hs, cellsAt_of_blk hb cs (fun i v hi => by simpa using hi), hq _ hb (touch_setCells _ _ _)⟩
/-- .. where the result is written first -/
theorem out_cell {n : Nat} (vs : Array Value) (h : Blk w b cs t) (hs : cs.size = n) (hv : vs.size = n) (h1 : ∀ v ∈ vs.toList, v.oneCell' = true) {Φ : World → Prop}
    (hq : ∀ w', Blk w' b vs t → XTouch (fun k => k = b) w w' → Φ w') :
    vs.size = n ∧ (∀ j : Nat, j < n → (∃ v, w.cell? ⟨b, 0 + j, none⟩ = some v) ∧ w.frozen? ⟨b, 0 + j, none⟩ = false) ∧ (∀ v : Value, v ∈ vs.toList → v.oneCell' = true) ∧
      ∀ w' : World, w' = w.setCells b 0 vs.toList → Φ w' := by
  refine ⟨hv, fun j hj => ⟨?_, h.frozen _⟩, h1, ?_⟩
  · rw [h.cell]
    exact ⟨_, Array.getElem?_eq_getElem (by omega)⟩
  · rintro w' rfl
    have hb := blk_over h vs.toList (by simp; omega)
    simp only [Array.toArray_toList] at hb
    exact hq _ hb (touch_setCells _ _ _)
theorem cellsAt_self (h : Blk w b cs t) : cellsAt w ⟨b, 0, none⟩ cs := cellsAt_of_blk h cs (fun i v hi => by simpa using hi)
theorem w64 {e : Int} (h0 : -9223372036854775808 ≤ e) (h1 : e ≤ 9223372036854775807) : IntKind.wrap .i64 e = e := by rw [IntKind.wrap_i64]; omega
theorem w32 {e : Int} (h0 : 0 ≤ e) (h1 : e < 4294967296) : IntKind.wrap .u32 e = e := by
  unfold IntKind.wrap
  simp [IntKind.bits, IntKind.signed]
  omega
theorem w8 {e : Int} : IntKind.wrap .u8 e = e % 256 := by
  unfold IntKind.wrap
  simp [IntKind.bits, IntKind.signed]
theorem w32m {e : Int} : IntKind.wrap .u32 e = e % 4294967296 := by
  unfold IntKind.wrap
  simp [IntKind.bits, IntKind.signed]
end Go.Sx
