/- Part G of the proofs over 'cache': the plain law: memory behind a cache reads as memory. No program in sight. -/
import Derived.Test.YthjabcklmhaeoaaF
namespace Go.Proofs.Ythjabcklmhaeoaa
open Go.RowKit Go.XHeap Go.Sx
set_option linter.unusedVariables false

/-- line number L of a memory -/
def seg (l : List Int) (L : Nat) : List Int := (l.drop (L * 16)).take 16
theorem seg_get (l : List Int) (L i : Nat) (hi : i < 16) : (seg l L)[i]? = l[L * 16 + i]? := by
  unfold seg
  rw [List.getElem?_take_of_lt hi, List.getElem?_drop]
theorem seg_len {l : List Int} (h : l.length = 1024) {L : Nat} (hL : L < 64) : (seg l L).length = 16 := by unfold seg; simp; omega
theorem seg_ext {l l' : List Int} {L L' : Nat} (h : ∀ i, i < 16 → l[L * 16 + i]? = l'[L' * 16 + i]?) : seg l L = seg l' L' := by
  apply List.ext_getElem?
  intro i
  by_cases hi : i < 16
  · rw [seg_get _ _ _ hi, seg_get _ _ _ hi, h i hi]
  · rw [List.getElem?_eq_none (by unfold seg; simp; omega), List.getElem?_eq_none (by unfold seg; simp; omega)]
theorem seg_set_same (l : List Int) (L p : Nat) (x : Int) (hp : p < 16) : seg (l.set (L * 16 + p) x) L = (seg l L).set p x := by
  apply List.ext_getElem?
  intro i
  by_cases hi : i < 16
  · rw [seg_get _ _ _ hi, List.getElem?_set, List.getElem?_set]
    by_cases e : p = i
    · subst e
      rw [if_pos rfl, if_pos rfl]
      by_cases hl : L * 16 + p < l.length
      · rw [if_pos hl, if_pos (by unfold seg; simp; omega)]
      · rw [if_neg hl, if_neg (by unfold seg; simp; omega)]
    · rw [if_neg (by omega), if_neg e, seg_get _ _ _ hi]
  · rw [List.getElem?_eq_none (by unfold seg; simp; omega), List.getElem?_eq_none (by unfold seg; simp; omega)]
theorem seg_set_other (l : List Int) (L q : Nat) (x : Int) (hq : q / 16 ≠ L) : seg (l.set q x) L = seg l L := by
  refine seg_ext fun i hi => ?_
  rw [List.getElem?_set_ne (by omega)]
theorem seg_wr_same (l : List Int) (L k : Nat) (d : Int) : ∀ s, k + s ≤ 16 → seg (wr l (L * 16 + k) d s) L = wr (seg l L) k d s
  | 0, _ => rfl
  | s + 1, h => by
    rw [wr_succ, wr_succ, show L * 16 + k + s = L * 16 + (k + s) by omega, seg_set_same _ _ _ _ (by omega), seg_wr_same l L k d s (by omega)]
theorem seg_wr_other (l : List Int) (L L' k : Nat) (d : Int) (hne : L ≠ L') : ∀ s, k + s ≤ 16 → seg (wr l (L * 16 + k) d s) L' = seg l L'
  | 0, _ => rfl
  | s + 1, h => by
    rw [wr_succ, seg_set_other _ _ _ _ (by omega), seg_wr_other l L L' k d hne s (by omega)]
/-- line L is written over -/
def ov (l : List Int) (L : Nat) (bs : List Int) : List Int := l.take (L * 16) ++ bs ++ l.drop (L * 16 + 16)
theorem ov_get {l bs : List Int} (hl : l.length = 1024) (hb : bs.length = 16) {L : Nat} (hL : L < 64) (i : Nat) : (ov l L bs)[i]? = if L * 16 ≤ i ∧ i < L * 16 + 16 then bs[i - L * 16]? else l[i]? := by
  unfold ov
  have h1 : (l.take (L * 16)).length = L * 16 := by simp; omega
  by_cases a : i < L * 16
  · rw [if_neg (by omega), List.append_assoc, List.getElem?_append_left (by omega), List.getElem?_take_of_lt a]
  · by_cases b : i < L * 16 + 16
    · rw [if_pos ⟨by omega, b⟩, List.append_assoc, List.getElem?_append_right (by omega), h1, List.getElem?_append_left (by omega)]
    · rw [if_neg (by omega), List.getElem?_append_right (by simp; omega), List.getElem?_drop]
      simp only [List.length_append, h1, hb]
      rw [show L * 16 + 16 + (i - (L * 16 + 16)) = i by omega]
theorem ov_len {l bs : List Int} (hl : l.length = 1024) (hb : bs.length = 16) {L : Nat} (hL : L < 64) : (ov l L bs).length = 1024 := by unfold ov; simp; omega
theorem seg_ov {l bs : List Int} (hl : l.length = 1024) (hb : bs.length = 16) {L : Nat} (hL : L < 64) (L' : Nat) : seg (ov l L bs) L' = if L' = L then bs else seg l L' := by
  by_cases e : L' = L
  · subst e
    rw [if_pos rfl]
    apply List.ext_getElem?
    intro i
    by_cases hi : i < 16
    · rw [seg_get _ _ _ hi, ov_get hl hb hL, if_pos (by omega)]; congr 1; omega
    · rw [List.getElem?_eq_none (by unfold seg; simp; omega), List.getElem?_eq_none (by omega)]
  · rw [if_neg e]
    refine seg_ext fun i hi => ?_
    rw [ov_get hl hb hL, if_neg (by omega)]
theorem find_none {l : List Way} {L : Nat} : find? l L = none ↔ ∀ (j : Nat) (y : Way), l[j]? = some y → y.state ≠ 0 → y.line ≠ (L : Int) := by
  unfold find?
  rw [List.findIdx?_eq_none_iff]
  constructor
  · intro h j y hj hs he
    have := h y (List.mem_of_getElem? hj)
    unfold there? at this
    simp [hs, he] at this
  · intro h y hy
    obtain ⟨j, hj⟩ := List.getElem?_of_mem hy
    unfold there?
    by_cases hs : y.state = 0
    · simp [hs]
    · have := h j y hj hs
      simp [this]
/-- the cache, the memory behind it, and memory as it should read -/
structure Inv (C : CS) (mem flat : List Int) : Prop where
  lf : flat.length = 1024
  lm : mem.length = 1024
  bf : Bytes flat
  sp : 0 < C.S
  way : ∀ (i j : Nat) (y : Way), i < C.S → (C.sets i)[j]? = some y → y.state ≠ 0 → (2 ≤ y.state ∧ y.state ≤ 3) ∧ ∃ L : Nat, y.line = ((L * 16 : Nat) : Int) ∧ L < 64 ∧ L % C.S = i ∧ y.bytes = seg flat L ∧ (y.state = 2 → y.bytes = seg mem L)
  uniq : ∀ (i j j' : Nat) (y y' : Way), i < C.S → (C.sets i)[j]? = some y → (C.sets i)[j']? = some y' → y.state ≠ 0 → y'.state ≠ 0 → y.line = y'.line → j = j'
  gone : ∀ L : Nat, L < 64 → find? (C.sets (L % C.S)) (L * 16) = none → seg mem L = seg flat L
theorem sets_upd {C : CS} {u : Int} {i j k q : Nat} {y z : Way} (h : (((C.tick u).setWay i j y).sets k)[q]? = some z) : (k = i ∧ q = j ∧ z = y ∧ j < (C.sets i).length) ∨ ((k ≠ i ∨ q ≠ j) ∧ (C.sets k)[q]? = some z) := by
  unfold CS.setWay upd CS.tick at h
  dsimp only at h
  split at h
  · rename_i e
    subst e
    rw [List.getElem?_set] at h
    split at h
    · rename_i e
      subst e
      split at h
      · rename_i hl; cases h; exact .inl ⟨rfl, rfl, rfl, hl⟩
      · cases h
    · rename_i e
      exact .inr ⟨.inr (fun q => e q.symm), h⟩
  · rename_i e; exact .inr ⟨.inl e, h⟩
/-- nothing but when it was used last has changed -/
theorem Inv.used {C : CS} {mem flat : List Int} (h : Inv C mem flat) {i j : Nat} {y : Way} (hj : (C.sets i)[j]? = some y) (u v : Int) : Inv ((C.tick u).setWay i j { y with used := v }) mem flat := by
  have back : ∀ (k q : Nat) (z : Way), (((C.tick u).setWay i j { y with used := v }).sets k)[q]? = some z → ∃ z', (C.sets k)[q]? = some z' ∧ z'.line = z.line ∧ z'.state = z.state ∧ z'.bytes = z.bytes := by
    intro k q z hz
    rcases sets_upd hz with ⟨rfl, rfl, rfl, -⟩ | ⟨-, hz⟩
    · exact ⟨y, hj, rfl, rfl, rfl⟩
    · exact ⟨z, hz, rfl, rfl, rfl⟩
  refine ⟨h.lf, h.lm, h.bf, h.sp, ?_, ?_, ?_⟩
  · intro k q z hk hz hs
    obtain ⟨z', h1, h2, h3, h4⟩ := back k q z hz
    have := h.way k q z' hk h1 (by rw [h3]; exact hs)
    rw [h2, h3, h4] at this
    exact this
  · intro k q q' z z' hk hz hz' hs hs' hl
    obtain ⟨w, h1, h2, h3, -⟩ := back k q z hz
    obtain ⟨w', h1', h2', h3', -⟩ := back k q' z' hz'
    exact h.uniq k q q' w w' hk h1 h1' (by rw [h3]; exact hs) (by rw [h3']; exact hs') (by rw [h2, h2']; exact hl)
  · intro L hL hf
    refine h.gone L hL ?_
    rw [find_none] at hf ⊢
    intro q z hz hs he
    by_cases e : L % C.S = i ∧ q = j
    · obtain ⟨e1, rfl⟩ := e
      rw [e1] at hz
      rw [hj] at hz
      cases hz
      refine hf q { y with used := v } ?_ hs he
      rw [show L % ((C.tick u).setWay i q { y with used := v }).S = i from e1, setWay_sets, List.getElem?_set_self]
      exact (List.getElem?_eq_some_iff.1 hj).1
    · refine hf q z ?_ hs he
      show (upd C.sets i ((C.sets i).set j _) (L % C.S))[q]? = _
      unfold upd
      split
      · rename_i e1
        rw [List.getElem?_set_ne (by intro e2; exact e ⟨e1, e2.symm⟩), ← e1]; exact hz
      · exact hz
theorem Inv.start (C : CS) (hS : 0 < C.S) (N : Nat) (h : ∀ i, i < C.S → C.sets i = zeroSet N) : Inv C (List.replicate 1024 0) (List.replicate 1024 0) := by
  have z : ∀ (i j : Nat) (y : Way), i < C.S → (C.sets i)[j]? = some y → y.state = 0 := by
    intro i j y hi hj
    rw [h i hi] at hj
    have := List.eq_of_mem_replicate (List.mem_of_getElem? hj)
    rw [this]; rfl
  refine ⟨List.length_replicate .., List.length_replicate .., ?_, hS, fun i j y hi hj hs => absurd (z i j y hi hj) hs, fun i j j' y y' hi hj _ hs => absurd (z i j y hi hj) hs, fun _ _ _ => rfl⟩
  intro x hx
  have := List.eq_of_mem_replicate hx
  omega
/-- what was written -/
theorem Inv.write {C : CS} {mem flat : List Int} (h : Inv C mem flat) {a s : Nat} (ha : a < 1024) (hin : a % 16 + s ≤ 16) (d : Int) {j : Nat} (hf : find? (C.sets (C.ix a)) (a / 16 * 16) = some j) {y : Way} (hj : (C.sets (C.ix a))[j]? = some y) (u v : Int) :
    Inv ((C.tick u).setWay (C.ix a) j { line := y.line, state := 3, used := v, bytes := wr y.bytes (a % 16) d s }) mem (wr flat a d s) := by
  obtain ⟨y0, hy0, hst, hln⟩ := find_some hf
  rw [hj] at hy0; cases hy0
  have hlt : C.ix a < C.S := Nat.mod_lt _ h.sp
  obtain ⟨hs23, L, e1, e2, e3, e4, e5⟩ := h.way _ _ _ hlt hj hst
  have eL : L = a / 16 := by rw [hln] at e1; omega
  subst eL
  have ea : a = a / 16 * 16 + a % 16 := by omega
  have segs : seg (wr flat a d s) (a / 16) = wr (seg flat (a / 16)) (a % 16) d s := by
    have := seg_wr_same flat (a / 16) (a % 16) d s hin
    rw [← ea] at this; exact this
  have sego : ∀ L', L' ≠ a / 16 → seg (wr flat a d s) L' = seg flat L' := fun L' hne => by
    have := seg_wr_other flat (a / 16) L' (a % 16) d (Ne.symm hne) s hin
    rw [← ea] at this; exact this
  refine ⟨by rw [wr_len]; exact h.lf, h.lm, wr_bytes h.bf _ _ _, h.sp, ?_, ?_, ?_⟩
  · intro k q z hk hz hs
    rcases sets_upd hz with ⟨rfl, rfl, rfl, -⟩ | ⟨hne, hz⟩
    · exact ⟨⟨show (2 : Int) ≤ 3 by decide, show (3 : Int) ≤ 3 by decide⟩, a / 16, e1, e2, e3, by rw [segs, e4], fun h => absurd h (show ¬ ((3 : Int) = 2) by decide)⟩
    · obtain ⟨h1, L', f1, f2, f3, f4, f5⟩ := h.way k q z hk hz hs
      refine ⟨h1, L', f1, f2, f3, ?_, f5⟩
      rw [sego L' (by
        rintro rfl
        have hki : k = C.ix a := by rw [← f3]; rfl
        subst hki
        have := h.uniq _ q j z y hk hz hj hs hst (by rw [f1, e1])
        rcases hne with hne | hne
        · exact hne rfl
        · exact hne this)]
      exact f4
  · intro k q q' z z' hk hz hz' hs hs' hl
    have back : ∀ (q : Nat) (z : Way), (((C.tick u).setWay (C.ix a) j { line := y.line, state := 3, used := v, bytes := wr y.bytes (a % 16) d s }).sets k)[q]? = some z → z.state ≠ 0 → ∃ z', (C.sets k)[q]? = some z' ∧ z'.line = z.line ∧ z'.state ≠ 0 := by
      intro q z hz hs
      rcases sets_upd hz with ⟨rfl, rfl, rfl, -⟩ | ⟨-, hz⟩
      · exact ⟨y, hj, rfl, hst⟩
      · exact ⟨z, hz, rfl, hs⟩
    obtain ⟨w, h1, h2, h3⟩ := back q z hz hs
    obtain ⟨w', h1', h2', h3'⟩ := back q' z' hz' hs'
    exact h.uniq k q q' w w' hk h1 h1' h3 h3' (by rw [h2, h2']; exact hl)
  · intro L' hL' hfn
    have hfo : find? (C.sets (L' % C.S)) (L' * 16) = none := by
      rw [find_none] at hfn ⊢
      intro q z hz hs he
      by_cases e : L' % C.S = C.ix a ∧ q = j
      · obtain ⟨e6, rfl⟩ := e
        rw [e6, hj] at hz; cases hz
        refine hfn q { line := y.line, state := 3, used := v, bytes := wr y.bytes (a % 16) d s } ?_ (show (3 : Int) ≠ 0 by decide) he
        rw [show L' % ((C.tick u).setWay (C.ix a) q { line := y.line, state := 3, used := v, bytes := wr y.bytes (a % 16) d s }).S = C.ix a from e6, setWay_sets, List.getElem?_set_self]
        exact (List.getElem?_eq_some_iff.1 hj).1
      · refine hfn q z ?_ hs he
        show (upd C.sets (C.ix a) ((C.sets (C.ix a)).set j _) (L' % C.S))[q]? = _
        unfold upd
        split
        · rename_i e6
          rw [List.getElem?_set_ne (by intro e7; exact e ⟨e6, e7.symm⟩), ← e6]; exact hz
        · exact hz
    have hne : L' ≠ a / 16 := by
      rintro rfl
      have : find? (C.sets (C.ix a)) (a / 16 * 16) = none := hfo
      rw [hf] at this; cases this
    rw [sego L' hne]
    exact h.gone L' hL' hfo
/-- a line is laid in; what left it modified is written back -/
theorem Inv.fill {C : CS} {mem flat : List Int} (h : Inv C mem flat) {a : Nat} (ha : a < 1024) (hf : find? (C.sets (C.ix a)) (a / 16 * 16) = none) {j : Nat} {y : Way} (hj : (C.sets (C.ix a))[j]? = some y) (u v : Int) :
    (y.state = 3 → ∃ L : Nat, L < 64 ∧ y.line = ((L * 16 : Nat) : Int) ∧ L ≠ a / 16 ∧ y.bytes.length = 16 ∧ Inv ((C.tick u).setWay (C.ix a) j { line := ((a / 16 * 16 : Nat) : Int), state := 2, used := v, bytes := seg mem (a / 16) }) (ov mem L y.bytes) flat) ∧
    (y.state ≠ 3 → Inv ((C.tick u).setWay (C.ix a) j { line := ((a / 16 * 16 : Nat) : Int), state := 2, used := v, bytes := seg mem (a / 16) }) mem flat) ∧ (y.state ≠ 0 → y.line ≠ ((a / 16 * 16 : Nat) : Int)) := by
  have hlt : C.ix a < C.S := Nat.mod_lt _ h.sp
  have hfn := find_none.1 hf
  have hA : a / 16 < 64 := by omega
  have main : ∀ (mem' : List Int), mem'.length = 1024 → (∀ L, L < 64 → (y.state = 0 ∨ y.line ≠ ((L * 16 : Nat) : Int)) → seg mem' L = seg mem L) → (∀ L, L < 64 → y.state ≠ 0 → y.line = ((L * 16 : Nat) : Int) → seg mem' L = seg flat L) →
      Inv ((C.tick u).setWay (C.ix a) j { line := ((a / 16 * 16 : Nat) : Int), state := 2, used := v, bytes := seg mem (a / 16) }) mem' flat := by
    intro mem' hl' hsame hback
    have hown : seg mem' (a / 16) = seg mem (a / 16) := hsame _ hA (by
      by_cases hs : y.state = 0
      · exact .inl hs
      · exact .inr (hfn j y hj hs))
    have hnew : seg mem (a / 16) = seg flat (a / 16) := h.gone _ hA hf
    refine ⟨h.lf, hl', h.bf, h.sp, ?_, ?_, ?_⟩
    · intro k q z hk hz hs
      rcases sets_upd hz with ⟨rfl, rfl, rfl, -⟩ | ⟨hne, hz⟩
      · exact ⟨⟨show (2 : Int) ≤ 2 by decide, show (2 : Int) ≤ 3 by decide⟩, a / 16, rfl, hA, rfl, hnew, fun _ => hown.symm⟩
      · obtain ⟨h1, L', f1, f2, f3, f4, f5⟩ := h.way k q z hk hz hs
        refine ⟨h1, L', f1, f2, f3, f4, fun h2 => ?_⟩
        rw [hsame L' f2 ?_]
        · exact f5 h2
        · by_cases hs0 : y.state = 0
          · exact .inl hs0
          · right
            intro e
            obtain ⟨-, L, g1, g2, g3, -⟩ := h.way _ _ _ hlt hj hs0
            have : L = L' := by rw [g1] at e; omega
            subst this
            have hki : k = C.ix a := by rw [← f3, ← g3]
            subst hki
            have := h.uniq _ q j z y hk hz hj hs hs0 (by rw [f1, g1])
            rcases hne with hne | hne
            · exact hne rfl
            · exact hne this
    · intro k q q' z z' hk hz hz' hs hs' hl
      rcases sets_upd hz with ⟨rfl, rfl, rfl, -⟩ | ⟨hne, hw⟩
      · rcases sets_upd hz' with ⟨-, rfl, -, -⟩ | ⟨hne', hw'⟩
        · rfl
        · exact absurd hl.symm (hfn q' z' hw' hs')
      · rcases sets_upd hz' with ⟨rfl, rfl, rfl, -⟩ | ⟨hne', hw'⟩
        · exact absurd hl (hfn q z hw hs)
        · exact h.uniq k q q' z z' hk hw hw' hs hs' hl
    · intro L hL hfl
      rw [find_none] at hfl
      by_cases hev : y.state ≠ 0 ∧ y.line = ((L * 16 : Nat) : Int)
      · exact hback L hL hev.1 hev.2
      · rw [hsame L hL (by
          by_cases hs0 : y.state = 0
          · exact .inl hs0
          · exact .inr (fun e => hev ⟨hs0, e⟩))]
        refine h.gone L hL ?_
        rw [find_none]
        intro q z hz hs he
        by_cases e : L % C.S = C.ix a ∧ q = j
        · obtain ⟨e6, rfl⟩ := e
          rw [e6, hj] at hz; cases hz
          exact hev ⟨hs, he⟩
        · refine hfl q z ?_ hs he
          show (upd C.sets (C.ix a) ((C.sets (C.ix a)).set j _) (L % C.S))[q]? = _
          unfold upd
          split
          · rename_i e6
            rw [List.getElem?_set_ne (by intro e7; exact e ⟨e6, e7.symm⟩), ← e6]; exact hz
          · exact hz
  refine ⟨fun h3 => ?_, fun h3 => ?_, fun hs => hfn j y hj hs⟩
  · have hs0 : y.state ≠ 0 := by omega
    obtain ⟨-, L, g1, g2, g3, g4, -⟩ := h.way _ _ _ hlt hj hs0
    have hyl : y.bytes.length = 16 := by rw [g4]; exact seg_len h.lf g2
    refine ⟨L, g2, g1, ?_, hyl, main _ (ov_len h.lm hyl g2) ?_ ?_⟩
    · rintro rfl; exact hfn j y hj hs0 g1
    · intro L' hL' hor
      rw [seg_ov h.lm hyl g2, if_neg]
      rintro rfl
      rcases hor with e | e
      · exact hs0 e
      · exact e g1
    · intro L' hL' _ e
      have : L' = L := by rw [g1] at e; omega
      subst this
      rw [seg_ov h.lm hyl g2, if_pos rfl, g4]
  · refine main mem h.lm (fun _ _ _ => rfl) ?_
    intro L hL hs0 e
    obtain ⟨hb, L', g1, g2, g3, g4, g5⟩ := h.way _ _ _ hlt hj hs0
    have : L' = L := by rw [g1] at e; omega
    subst this
    rw [← g5 (by omega), g4]
end Go.Proofs.Ythjabcklmhaeoaa
