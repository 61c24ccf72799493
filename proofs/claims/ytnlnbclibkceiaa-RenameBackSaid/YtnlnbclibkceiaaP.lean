/- Part P of the proofs over 'rename': the plain law of names: free ones, registers' and held ones are all of them, each once. -/
import Derived.Test.YtnlnbclibkceiaaC
namespace Go.Proofs.Ytnlnbclibkceiaa
open Go.RowKit Go.XHeap
set_option linter.unusedVariables false

def base (size : Nat) : List Int := (List.range (size - 1)).map fun i : Nat => (i : Int) + 1
theorem mem_base (size : Nat) (x : Int) (h : x ∈ base size) : 1 ≤ x ∧ x < size := by
  unfold base at h
  simp at h
  obtain ⟨i, hi, rfl⟩ := h
  omega
theorem nodup_base (size : Nat) : (base size).Nodup := by
  unfold base
  rw [List.nodup_iff_pairwise_ne, List.pairwise_map]
  exact List.Pairwise.imp (fun {a b} (h : a ≠ b) => by omega) List.nodup_range
structure PInv (size : Nat) (T : Tb) (L : List Int) : Prop where
  s0 : 34 ≤ size
  s1 : size ≤ 128
  nlen : T.names.length = 32
  n0 : T.names.getD 0 0 = 0
  ulen : T.uses.length = size
  perm : (T.free ++ T.names.tail ++ L).Perm (base size)
  held : ∀ p ∈ L, T.uses.getD p.toNat 0 = 2

theorem PInv.range {size : Nat} {T : Tb} {L : List Int} (h : PInv size T L) {x : Int} (hx : x ∈ T.free ∨ x ∈ T.names.tail ∨ x ∈ L) : 1 ≤ x ∧ x < size :=
  mem_base size x (h.perm.subset (by simp only [List.mem_append]; rcases hx with hx | hx | hx <;> simp [hx]))
theorem PInv.nodup {size : Nat} {T : Tb} {L : List Int} (h : PInv size T L) : (T.free ++ T.names.tail ++ L).Nodup := h.perm.nodup_iff.2 (nodup_base size)
theorem PInv.count {size : Nat} {T : Tb} {L : List Int} (h : PInv size T L) : T.free.length + 31 + L.length = size - 1 := by
  have := h.perm.length_eq
  have := h.nlen
  simp [base] at *
  omega
theorem getD_tail (l : List Int) (r : Nat) (h : 1 ≤ r) (h2 : r < l.length) : l.getD r 0 ∈ l.tail := by
  cases l with
  | nil => simp at h2
  | cons x t =>
    obtain ⟨s, rfl⟩ : ∃ s, r = s + 1 := ⟨r - 1, by omega⟩
    simp at h2 ⊢
    rw [List.getElem?_eq_getElem h2]
    exact List.getElem_mem _
theorem split_tail (l : List Int) (r : Nat) (h : 1 ≤ r) (h2 : r < l.length) (f : Int) : ∃ A C, l.tail = A ++ l.getD r 0 :: C ∧ (l.set r f).tail = A ++ f :: C := by
  cases l with
  | nil => simp at h2
  | cons x t =>
    obtain ⟨s, rfl⟩ : ∃ s, r = s + 1 := ⟨r - 1, by omega⟩
    simp only [List.length_cons, Nat.add_lt_add_iff_right] at h2
    refine ⟨t.take s, t.drop (s + 1), ?_, ?_⟩
    · have e : (x :: t).getD (s + 1) 0 = t[s] := by simp [List.getD_eq_getElem?_getD, List.getElem?_eq_getElem h2]
      rw [e, List.tail_cons, ← List.drop_eq_getElem_cons h2, List.take_append_drop]
    · simp only [List.set_cons_succ, List.tail_cons]
      rw [List.set_eq_take_append_cons_drop, if_pos h2]
/-- what a fresh name is -/
theorem PInv.fresh {size : Nat} {T : Tb} {L : List Int} (h : PInv size T L) {f : Int} {fs : List Int} (hf : T.free = f :: fs) (r : Nat) (h1 : 1 ≤ r) (h2 : r < 32) :
    (1 ≤ f ∧ f < size) ∧ (1 ≤ T.names.getD r 0 ∧ T.names.getD r 0 < size) ∧ f ≠ T.names.getD r 0 ∧ f ∉ L ∧
    PInv size ⟨T.names.set r f, (T.uses.set f.toNat 1).set (T.names.getD r 0).toNat 2, fs⟩ (L ++ [T.names.getD r 0]) := by
  have hr : r < T.names.length := by rw [h.nlen]; exact h2
  have hm := getD_tail T.names r h1 hr
  have rf := h.range (x := f) (.inl (by rw [hf]; simp))
  have ro := h.range (x := T.names.getD r 0) (.inr (.inl hm))
  have hnd := h.nodup
  rw [hf] at hnd
  simp only [List.cons_append, List.nodup_cons, List.mem_append, not_or] at hnd
  have hfo : f ≠ T.names.getD r 0 := fun e => hnd.1.1.2 (e ▸ hm)
  have hfL : f ∉ L := hnd.1.2
  refine ⟨rf, ro, hfo, hfL, ⟨h.s0, h.s1, by simpa using h.nlen, ?_, by simpa using h.ulen, ?_, ?_⟩⟩
  · have h5 := h.n0
    simp only [List.getD_eq_getElem?_getD, List.getElem?_set] at h5 ⊢
    rw [if_neg (by omega)]
    exact h5
  · obtain ⟨A, C, e1, e2⟩ := split_tail T.names r h1 hr f
    refine List.Perm.trans ?_ h.perm
    show (fs ++ (T.names.set r f).tail ++ (L ++ [T.names.getD r 0])).Perm _
    rw [hf, e2]
    conv => rhs; rw [e1]
    rw [List.perm_iff_count]
    intro x
    simp only [List.count_append, List.count_cons, List.count_nil, List.cons_append]
    omega
  · intro p hp
    simp only [List.getD_eq_getElem?_getD, List.getElem?_set]
    have hul := h.ulen
    have hp' : p ∈ L ∨ p = T.names.getD r 0 := by simpa using hp
    by_cases he : (T.names.getD r 0).toNat = p.toNat
    · rw [if_pos (by simpa [List.getD_eq_getElem?_getD] using he), if_pos (by simp; rw [hul]; simp only [List.getD_eq_getElem?_getD] at he ro; omega)]; rfl
    · rw [if_neg (by simpa [List.getD_eq_getElem?_getD] using he)]
      rcases hp' with hpL | hpo
      · have hpf : p ≠ f := fun e => hfL (e ▸ hpL)
        have rp := h.range (x := p) (.inr (.inr hpL))
        rw [if_neg (by omega), ← List.getD_eq_getElem?_getD]
        exact h.held p hpL
      · exact absurd (by rw [hpo]) he
/-- a held name is released -/
theorem PInv.release {size : Nat} {T : Tb} {A C : List Int} {p : Int} (h : PInv size T (A ++ p :: C)) :
    (1 ≤ p ∧ p < size) ∧ T.uses.getD p.toNat 0 = 2 ∧ PInv size ⟨T.names, T.uses.set p.toNat 0, T.free ++ [p]⟩ (A ++ C) := by
  have rp := h.range (x := p) (.inr (.inr (by simp)))
  refine ⟨rp, h.held p (by simp), ⟨h.s0, h.s1, h.nlen, h.n0, by simpa using h.ulen, ?_, ?_⟩⟩
  · refine List.Perm.trans ?_ h.perm
    rw [List.perm_iff_count]
    intro x
    simp only [List.count_append, List.count_cons, List.count_nil]
    omega
  · intro q hq
    have hq' : q ∈ A ++ p :: C := by
      simp only [List.mem_append, List.mem_cons] at hq ⊢
      rcases hq with hq | hq
      · exact .inl hq
      · exact .inr (.inr hq)
    have rq := h.range (x := q) (.inr (.inr hq'))
    have hnd := h.nodup
    have hqp : q ≠ p := by
      rintro rfl
      have h2 := (List.nodup_append.1 hnd).2.1
      have h3 := (List.perm_middle (a := q) (l₁ := A) (l₂ := C)).nodup_iff.1 h2
      exact (List.nodup_cons.1 h3).1 hq
    simp only [List.getD_eq_getElem?_getD, List.getElem?_set]
    rw [if_neg (by omega), ← List.getD_eq_getElem?_getD]
    exact h.held q hq'
theorem PInv.start (size : Nat) (h0 : 34 ≤ size) (h1 : size ≤ 128) : PInv size (newTab size size) [] := by
  refine ⟨h0, h1, by simp [newTab], ?_, by simp [newTab], ?_, by intro p hp; simp at hp⟩
  · simp [newTab]; 
  · have e1 : (newTab size size).names.tail = (List.range 31).map fun i : Nat => (i : Int) + 1 := by
      apply List.ext_getElem?
      intro i
      simp only [newTab, List.getElem?_tail, List.getElem?_map]
      by_cases hi : i < 31
      · rw [List.getElem?_range (by omega), List.getElem?_range hi]; simp; omega
      · rw [List.getElem?_eq_none (by simp; omega), List.getElem?_eq_none (by simp; omega)]; rfl
    rw [e1, List.append_nil]
    have e2 : base size = ((List.range 31).map fun i : Nat => (i : Int) + 1) ++ (newTab size size).free := by
      apply List.ext_getElem?
      intro i
      unfold base newTab
      rw [List.getElem?_map]
      by_cases hi : i < 31
      · rw [List.getElem?_append_left (by simpa using hi), List.getElem?_map, List.getElem?_range hi, List.getElem?_range (by omega)]
      · rw [List.getElem?_append_right (by simpa using hi), List.getElem?_map]
        by_cases hi2 : i < size - 1
        · rw [List.getElem?_range hi2, List.getElem?_range (by simp; omega)]; simp; omega
        · rw [List.getElem?_eq_none (by simp; omega), List.getElem?_eq_none (by simp; omega)]; rfl
    rw [e2]
    exact List.perm_append_comm
end Go.Proofs.Ytnlnbclibkceiaa
