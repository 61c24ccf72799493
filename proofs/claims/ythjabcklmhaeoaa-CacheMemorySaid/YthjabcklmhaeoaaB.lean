/- Part B of the proofs over 'cache': what is touched, a part of a line, a line's state, a line as it is. -/
import Derived.Test.YthjabcklmhaeoaaA
namespace Go.Proofs.Ythjabcklmhaeoaa
open Go.RowKit Go.XHeap Go.Sx
set_option linter.unusedVariables false

theorem flatW_cell : ∀ {l : List Way}, WaysOk l → ∀ (j i : Nat) (y y' : Way) (v : Value), l[j]? = some y → i < 19 → y'.cells = y.cells.set i v → (flatW l).set (j * 19 + i) v = flatW (l.set j y')
  | [], _, j, i, y, y', v, hj, _, _ => by simp at hj
  | z :: l, h, j, i, y, y', v, hj, hi, hy => by
    have h1 := Way.cells_len (h z (.head _))
    unfold flatW
    cases j with
    | zero =>
      simp at hj; subst hj
      rw [List.set_cons_zero, List.flatMap_cons, List.flatMap_cons, Nat.zero_mul, Nat.zero_add, List.set_append_left _ _ (by omega), hy]
    | succ j =>
      rw [List.set_cons_succ, List.flatMap_cons, List.flatMap_cons, List.set_append_right _ _ (by rw [h1, Nat.succ_mul]; omega), h1]
      have := flatW_cell (l := l) (fun z hz => h z (.tail _ hz)) j i y y' v (by simpa using hj) hi hy
      unfold flatW at this
      rw [← this]
      congr 2
      rw [Nat.succ_mul]; omega
def upd {α : Type} (f : Nat → α) (i : Nat) (x : α) : Nat → α := fun k => if k = i then x else f k
/-- way j of set i becomes y -/
def CS.setWay (C : CS) (i j : Nat) (y : Way) : CS := { C with sets := upd C.sets i ((C.sets i).set j y) }
theorem CacheAt.setWay {W w : World} {b : Nat} {C : CS} (h : CacheAt W b C) {i j : Nat} (hi : i < C.S) {y : Way} (hy : y.bytes.length = 16) (hb : Blk w (C.g i) (flatW ((C.sets i).set j y)).toArray 56) (ht : XTouch (fun k => k = C.g i) W w) : CacheAt w b (C.setWay i j y) := by
  obtain ⟨cap, hr⟩ := h.root
  obtain ⟨cur, hc, hcur⟩ := h.row
  refine ⟨h.pos, h.npos, ⟨cap, hr.keep ht (fun e => (h.d2 i hi).1 e.symm)⟩, ⟨cur, hc.keep ht (fun e => (h.d2 i hi).2 e.symm), hcur⟩, fun k hk => ?_, h.d1, h.d2, h.d3⟩
  by_cases e : k = i
  · subst e
    have : (C.setWay k j y).sets k = (C.sets k).set j y := by simp [CS.setWay, upd]
    rw [this]
    refine ⟨hb, (List.length_set ..).trans (h.set k hk).2.1, fun z hz => ?_⟩
    rcases List.mem_or_eq_of_mem_set hz with hz | rfl
    · exact (h.set k hk).2.2 z hz
    · exact hy
  · have : (C.setWay i j y).sets k = C.sets k := by simp [CS.setWay, upd, e]
    rw [this]
    exact ⟨(h.set k hk).1.keep ht (fun e2 => e (h.d3 k i hk hi e2)), (h.set k hk).2⟩
/-- one cell of way j of set i is written -/
theorem CacheAt.cell {W : World} {b : Nat} {C : CS} (h : CacheAt W b C) {i j : Nat} (hi : i < C.S) {y y' : Way} (hj : (C.sets i)[j]? = some y) (q : Nat) (hq : q < 19) (v : Value) (hy : y'.cells = y.cells.set q v) (hy' : y'.bytes.length = 16) :
    CacheAt (W.setCell ⟨C.g i, j * 19 + q, none⟩ v) b (C.setWay i j y') := by
  refine h.setWay hi hy' ?_ ((XTouch.refl (fun k => k = C.g i) W).setCell (p := ⟨C.g i, j * 19 + q, none⟩) (.inl rfl) v)
  have := (h.set i hi).1.set (j * 19 + q) v
  have e : (flatW (C.sets i)).toArray.setIfInBounds (j * 19 + q) v = (flatW ((C.sets i).set j y')).toArray := by
    apply Array.toList_inj.1
    rw [Array.toList_setIfInBounds]
    exact flatW_cell (h.set i hi).2.2 j q y y' v hj hq hy
  rwa [e] at this
theorem CacheAt.way {W : World} {b : Nat} {C : CS} (h : CacheAt W b C) {i j : Nat} (hi : i < C.S) {y : Way} (hj : (C.sets i)[j]? = some y) (q : Nat) (hq : q < 19) : W.cell? ⟨C.g i, j * 19 + q, none⟩ = y.cells[q]? := by
  rw [(h.set i hi).1.cell, List.getElem?_toArray, flatW_get (h.set i hi).2.2 j q y hj hq]
theorem CacheAt.ok16 {W : World} {b : Nat} {C : CS} (h : CacheAt W b C) {i j : Nat} (hi : i < C.S) {y : Way} (hj : (C.sets i)[j]? = some y) : y.bytes.length = 16 := (h.set i hi).2.2 y (List.mem_of_getElem? hj)
def CS.tick (C : CS) (u : Int) : CS := { C with clock := u }
theorem CacheAt.tick {W : World} {b : Nat} {C : CS} (h : CacheAt W b C) (u : Int) : CacheAt (W.setCell ⟨b, 1, none⟩ (.int .i64 u)) b (C.tick u) := by
  obtain ⟨cap, hr⟩ := h.root
  obtain ⟨cur, hc, hcur⟩ := h.row
  have ht := (XTouch.refl (fun k => k = b) W).setCell (p := ⟨b, 1, none⟩) (.inl rfl) (.int .i64 u)
  exact ⟨h.pos, h.npos, ⟨cap, hr.set 1 (.int .i64 u)⟩, ⟨cur, hc.keep ht (fun e => h.d1 e.symm), hcur⟩, fun i hi => ⟨(h.set i hi).1.keep ht (h.d2 i hi).1, (h.set i hi).2⟩, h.d1, h.d2, h.d3⟩
theorem touch_any {W : World} {b : Nat} {C : CS} (h : CacheAt W b C) {i j : Nat} (hi : i < C.S) {y : Way} (hj : (C.sets i)[j]? = some y) :
    Calls Try.prog 13 #[.pointer (some ⟨b, 0, none⟩), .pointer (some ⟨C.g i, j * 19, none⟩)] W fun e w => e = .returned (.tuple #[]) ∧ ∃ u, CacheAt w b ((C.tick u).setWay i j { y with used := u }) ∧ XTouch (C.own b) W w := by
  obtain ⟨cap, hr⟩ := h.root
  refine vc13 b 0 (C.g i) (j * 19) ⟨C.clock, hr.cell' rfl, ?_⟩
  rintro z2 -
  refine ⟨⟨_, hr.cell' rfl⟩, hr.frozen _, ?_⟩
  rintro w2 rfl
  have h2 := h.tick z2
  obtain ⟨cap2, hr2⟩ := h2.root
  refine ⟨z2, hr2.cell' rfl, ?_⟩
  have hj2 : ((C.tick z2).sets i)[j]? = some y := hj
  have c2 := h2.way (i := i) hi hj2 2 (by omega)
  refine ⟨⟨.int .i64 y.used, by exact c2⟩, (h2.set i hi).1.frozen _, ?_⟩
  rintro w3 rfl
  refine ⟨rfl, z2, h2.cell hi hj2 2 (by omega) _ rfl (show y.bytes.length = 16 from h.ok16 hi hj), ?_⟩
  exact ((XTouch.refl (C.own b) W).setCell (p := ⟨b, 1, none⟩) (.inl (.inl rfl)) _).setCell (p := ⟨C.g i, j * 19 + 2, none⟩) (.inl (.inr (.inr ⟨i, hi, rfl⟩))) _
theorem find_some {l : List Way} {L j : Nat} (h : find? l L = some j) : ∃ y, l[j]? = some y ∧ y.state ≠ 0 ∧ y.line = L := by
  unfold find? at h
  rw [List.findIdx?_eq_some_iff_getElem] at h
  obtain ⟨hj, h1, -⟩ := h
  refine ⟨_, List.getElem?_eq_getElem hj, ?_⟩
  unfold there? at h1
  simp at h1
  exact h1
theorem and15 (a : Nat) (ha : a < 1024) : IntKind.wrap .u32 ((BitVec.ofInt (IntKind.bits .u32) (a : Int) &&& BitVec.ofInt (IntKind.bits .u32) 15).toNat : Int) = ((a % 16 : Nat) : Int) := by
  have key : ∀ x : Fin 1024, IntKind.wrap .u32 ((BitVec.ofInt (IntKind.bits .u32) ((x.1 : Nat) : Int) &&& BitVec.ofInt (IntKind.bits .u32) 15).toNat : Int) = ((x.1 % 16 : Nat) : Int) := by decide +kernel
  exact key ⟨a, ha⟩
/-- a part of a line that is there -/
theorem part_ok {W : World} {b : Nat} {C : CS} (h : CacheAt W b C) (a : Nat) (ha : a < 1024) (s : Nat) (hs : s = 1 ∨ s = 2 ∨ s = 4) (hal : a % s = 0) (least : Int) {j : Nat} (hf : find? (C.sets (C.ix a)) (a / 16 * 16) = some j) {y : Way} (hj : (C.sets (C.ix a))[j]? = some y) (hl : least ≤ y.state) :
    Calls Try.prog 14 #[.pointer (some ⟨b, 0, none⟩), .int .u32 a, .int .i64 s, .int .i64 least] W fun e w => e = .returned (.tuple #[.pointer (some ⟨C.g (C.ix a), j * 19, none⟩), .slice (some ⟨C.g (C.ix a), j * 19 + 3 + a % 16, none⟩) s s]) ∧ ∃ u, CacheAt w b ((C.tick u).setWay (C.ix a) j { y with used := u }) ∧ XTouch (C.own b) W w := by
  have hlt := CS.ix_lt h a
  refine vc14 b 0 a s least ((find_any h a ha).mono ?_)
  rintro e w2 ⟨rfl, n, rfl⟩
  rw [hf]
  have h2 := h.drewN n
  refine ⟨_, rfl, fun t w => t = false ∧ w = W.drewN n, ?_, ?_⟩
  · refine split_of (fun q => by cases q) (fun _ => ?_)
    refine ⟨y.state, by rw [add_none, h2.way hlt hj 1 (by omega)]; rfl, ?_⟩
    refine split_of (fun q => absurd (of_decide_eq_true q) (by omega)) (fun _ => ?_)
    have tail : ∀ z2 : Int, z2 = IntKind.wrap .u32 (s : Int) → z2 ≠ 0 ∧ ∀ z3 : Int, z3 = Int.tmod (a : Int) z2 → (z3 != 0) = false ∧ W.drewN n = W.drewN n := by
      rintro z2 rfl
      rw [w32 (by omega) (by rcases hs with rfl | rfl | rfl <;> omega)]
      refine ⟨by omega, ?_⟩
      rintro z3 rfl
      refine ⟨?_, rfl⟩
      have : Int.tmod (a : Int) (s : Int) = ((a % s : Nat) : Int) := by rw [Int.tmod_eq_emod_of_nonneg (by omega)]; omega
      rw [this, hal]; rfl
    refine split_of (fun _ => split_of (fun _ => split_of (fun q => ?_) (fun _ => tail)) (fun _ => tail)) (fun _ => tail)
    exfalso
    rename_i q1 q2
    rcases hs with rfl | rfl | rfl
    · simp at q1
    · simp at q2
    · simp at q
  · intro _ t w3 hI
    obtain ⟨rfl, rfl⟩ := hI
    refine split_of (fun q => by cases q) (fun _ => ?_)
    refine (touch_any h2 hlt hj).mono ?_
    rintro e w4 ⟨rfl, u, hc, ht⟩
    refine ⟨rfl, ?_⟩
    rintro z8 hz8 z9 hz9
    rw [and15 a ha] at hz8
    subst hz8
    rw [w64 (by omega) (by omega)] at hz9
    subst hz9
    have hs4 : s ≤ 4 ∧ 1 ≤ s := by rcases hs with rfl | rfl | rfl <;> omega
    have hin : a % 16 + s ≤ 16 := by rcases hs with rfl | rfl | rfl <;> omega
    rintro z10 hz10 z11 hz11
    rw [w64 (by omega) (by omega)] at hz10 hz11
    subst hz10 hz11
    refine ⟨⟨by omega, by omega, by omega, by omega⟩, ?_⟩
    rintro w5 m rfl
    refine ⟨?_, u, hc.drewN m, (((XTouch.refl (C.own b) W).drewN n).trans ht (fun _ _ h => h)).drewN m⟩
    have e1 : (((a % 16 : Nat) : Int) + (s : Int)).toNat = a % 16 + s := by omega
    have e2 : ((a % 16 : Nat) : Int).toNat = a % 16 := by omega
    rw [e1, e2]
    unfold Sx.sub
    rw [if_neg (by omega)]
    simp [add_none, ptrOf]
theorem state_any {W : World} {b : Nat} {C : CS} (h : CacheAt W b C) (a : Nat) (ha : a < 1024) :
    Calls Try.prog 6 #[.pointer (some ⟨b, 0, none⟩), .int .u32 a] W fun e w => (∃ n, w = W.drewN n) ∧ ((∃ j y, find? (C.sets (C.ix a)) (a / 16 * 16) = some j ∧ (C.sets (C.ix a))[j]? = some y ∧ e = .returned (.int .i64 y.state)) ∨ (find? (C.sets (C.ix a)) (a / 16 * 16) = none ∧ e = .returned (.int .i64 0))) := by
  have hlt := CS.ix_lt h a
  refine vc6 b 0 a ((find_any h a ha).mono ?_)
  rintro e w2 ⟨rfl, n, rfl⟩
  refine ⟨_, rfl, ?_⟩
  cases hf : find? (C.sets (C.ix a)) (a / 16 * 16) with
  | none => exact ⟨⟨n, rfl⟩, .inr ⟨rfl, rfl⟩⟩
  | some j =>
    obtain ⟨y, hj, -⟩ := find_some hf
    exact ⟨y.state, by rw [add_none, (h.drewN n).way hlt hj 1 (by omega)]; rfl, ⟨n, rfl⟩, .inl ⟨j, y, rfl, hj, rfl⟩⟩
end Go.Proofs.Ythjabcklmhaeoaa
