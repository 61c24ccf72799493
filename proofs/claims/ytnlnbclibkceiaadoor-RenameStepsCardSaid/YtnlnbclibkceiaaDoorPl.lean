/- Part Pl of the proofs over 'rename': the plain law of the steps: both tables hold the same names. -/
import Derived.Test.YtnlnbclibkceiaaDoorNw
namespace Go.Proofs.YtnlnbclibkceiaaDoor
open Go.RowKit Go.XHeap
set_option linter.unusedVariables false

theorem gs_ne (l : List Int) (i j : Nat) (x : Int) (h : i ≠ j) : (l.set i x).getD j 0 = l.getD j 0 := by
  simp only [List.getD_eq_getElem?_getD, List.getElem?_set]
  rw [if_neg h]
theorem gs_eq (l : List Int) (i : Nat) (x : Int) (h : i < l.length) : (l.set i x).getD i 0 = x := by
  simp only [List.getD_eq_getElem?_getD, List.getElem?_set, if_pos h]; simp
theorem nodup_bound : ∀ (n : Nat) (l : List Int), l.Nodup → (∀ x ∈ l, 0 ≤ x ∧ x < n) → l.length ≤ n
  | 0, l, _, hr => by
    cases l with
    | nil => simp
    | cons a t => have := hr a (by simp); omega
  | n + 1, l, hn, hr => by
    have h1 : (l.erase (n : Int)).length ≤ n := nodup_bound n _ (hn.erase _) (fun x hx => by
      have hm := List.mem_of_mem_erase hx
      have h2 := hr x hm
      have h3 : x ≠ (n : Int) := by
        rintro rfl
        exact (hn.mem_erase_iff.1 hx).1 rfl
      omega)
    have h2 := @List.length_erase_of_mem Int _ _ (n : Int) l
    by_cases hm : (n : Int) ∈ l
    · have := h2 hm
      omega
    · rw [List.erase_of_not_mem hm] at h1; omega
structure Good (n : Nat) (N U F : List Int) : Prop where
  n1 : n ≤ 128
  nl : N.length = 32
  ul : U.length = n
  fd : F.Nodup
  inj : ∀ i j, i < 32 → j < 32 → N.getD i 0 = N.getD j 0 → i = j
  dis : ∀ i, i < 32 → N.getD i 0 ∉ F
  fr : ∀ x ∈ F, 0 ≤ x ∧ x < n
  nr : ∀ i, i < 32 → 0 ≤ N.getD i 0 ∧ N.getD i 0 < n
  u0 : ∀ x ∈ F, U.getD x.toNat 0 = 0
  u1 : ∀ i, i < 32 → U.getD (N.getD i 0).toNat 0 = 1
  u2 : ∀ x : Int, 0 ≤ x → x < n → x ∉ F → (∀ i, i < 32 → N.getD i 0 ≠ x) → U.getD x.toNat 0 = 2
theorem mem_names {N : List Int} (h : N.length = 32) (x : Int) : x ∈ N ↔ ∃ i, i < 32 ∧ N.getD i 0 = x := by
  rw [List.mem_iff_getElem]
  constructor
  · rintro ⟨i, hi, e⟩; exact ⟨i, by omega, by simpa [List.getD_eq_getElem?_getD, List.getElem?_eq_getElem hi] using e⟩
  · rintro ⟨i, hi, e⟩; exact ⟨i, by omega, by simpa [List.getD_eq_getElem?_getD, List.getElem?_eq_getElem (show i < N.length by omega)] using e⟩
variable {n : Nat} {N U F : List Int}
theorem Good.two (h : Good n N U F) {x : Int} (h0 : 0 ≤ x) (h1 : x < n) : U.getD x.toNat 0 = 2 ↔ x ∉ F ∧ x ∉ N := by
  rw [mem_names h.nl]
  constructor
  · intro h2
    refine ⟨fun hm => ?_, ?_⟩
    · have := h.u0 x hm; omega
    · rintro ⟨i, hi, rfl⟩; have := h.u1 i hi; omega
  · rintro ⟨a, b⟩
    exact h.u2 x h0 h1 a (fun i hi e => b ⟨i, hi, e⟩)
theorem Good.room (h : Good n N U F) {x : Int} (h0 : 0 ≤ x) (h1 : x < n) (hx : x ∉ F) : F.length < 128 := by
  have := nodup_bound n (x :: F) (List.nodup_cons.2 ⟨hx, h.fd⟩) (by
    intro y hy
    rcases List.mem_cons.1 hy with rfl | hy
    · exact ⟨h0, h1⟩
    · exact h.fr y hy)
  have hn := h.n1
  simp only [List.length_cons] at this
  omega
theorem Good.len (h : Good n N U F) : F.length ≤ 128 := Nat.le_trans (nodup_bound n F h.fd h.fr) h.n1
theorem Good.take {f : Int} {fs : List Int} (h : Good n N U (f :: fs)) (r : Nat) (hr : r < 32) :
    (0 ≤ f ∧ f < n) ∧ (0 ≤ N.getD r 0 ∧ N.getD r 0 < n) ∧ f ≠ N.getD r 0 ∧ Good n (N.set r f) ((U.set f.toNat 1).set (N.getD r 0).toNat 2) fs := by
  have hf := h.fr f (by simp)
  have ho := h.nr r hr
  have hd := List.nodup_cons.1 h.fd
  have hfo : f ≠ N.getD r 0 := fun e => h.dis r hr (by rw [← e]; simp)
  have hul := h.ul
  have hnl := h.nl
  refine ⟨hf, ho, hfo, h.n1, by simpa using h.nl, by simpa using h.ul, hd.2, ?_, ?_, fun x hx => h.fr x (by simp [hx]), ?_, ?_, ?_, ?_⟩
  · intro i j hi hj e
    by_cases e1 : r = i <;> by_cases e2 : r = j
    · omega
    · subst e1
      rw [gs_eq _ _ _ (by omega), gs_ne _ _ _ _ e2] at e
      exact absurd (by rw [← e]; simp) (h.dis j hj)
    · subst e2
      rw [gs_eq _ _ _ (by omega), gs_ne _ _ _ _ e1] at e
      exact absurd (by rw [e]; simp) (h.dis i hi)
    · rw [gs_ne _ _ _ _ e1, gs_ne _ _ _ _ e2] at e
      exact h.inj i j hi hj e
  · intro i hi
    by_cases e1 : r = i
    · subst e1; rw [gs_eq _ _ _ (by omega)]; exact hd.1
    · rw [gs_ne _ _ _ _ e1]; exact fun hm => h.dis i hi (List.mem_cons_of_mem _ hm)
  · intro i hi
    by_cases e1 : r = i
    · subst e1; rw [gs_eq _ _ _ (by omega)]; exact hf
    · rw [gs_ne _ _ _ _ e1]; exact h.nr i hi
  · intro x hx
    have rx := h.fr x (by simp [hx])
    have n1 : x ≠ N.getD r 0 := fun e => h.dis r hr (by rw [← e]; simp [hx])
    have n2 : x ≠ f := fun e => hd.1 (e ▸ hx)
    rw [gs_ne _ _ _ _ (by omega), gs_ne _ _ _ _ (by omega)]
    exact h.u0 x (by simp [hx])
  · intro i hi
    by_cases e1 : r = i
    · subst e1
      rw [gs_eq N _ _ (by omega), gs_ne _ _ _ _ (by omega), gs_eq _ _ _ (by omega)]
    · rw [gs_ne N _ _ _ e1]
      have ri := h.nr i hi
      have n1 : N.getD i 0 ≠ N.getD r 0 := fun e => e1 (h.inj i r hi hr e).symm
      have n2 : N.getD i 0 ≠ f := fun e => h.dis i hi (by rw [e]; simp)
      rw [gs_ne _ _ _ _ (by omega), gs_ne _ _ _ _ (by omega)]
      exact h.u1 i hi
  · intro x x0 x1 hx hn
    by_cases e1 : x = N.getD r 0
    · subst e1
      rw [gs_eq _ _ _ (by rw [List.length_set]; omega)]
    · have n2 : x ≠ f := fun e => hn r hr (by rw [gs_eq _ _ _ (by omega)]; exact e.symm)
      rw [gs_ne _ _ _ _ (by omega), gs_ne _ _ _ _ (by omega)]
      refine h.u2 x x0 x1 (by simp [n2, hx]) (fun i hi e => ?_)
      by_cases e2 : r = i
      · subst e2; exact e1 e.symm
      · exact hn i hi (by rw [gs_ne _ _ _ _ e2]; exact e)
theorem Good.undo (h : Good n N U F) (r : Nat) (hr : r < 32) {f o : Int} (hf : N.getD r 0 = f) (h0 : 0 ≤ o) (h1 : o < n) (hoF : o ∉ F) (hoN : o ∉ N) :
    (0 ≤ f ∧ f < n) ∧ f ≠ o ∧ Good n (N.set r o) ((U.set f.toNat 0).set o.toNat 1) (f :: F) := by
  have hfr := h.nr r hr
  rw [hf] at hfr
  have hnl := h.nl
  have hul := h.ul
  have hoN' : ∀ i, i < 32 → N.getD i 0 ≠ o := fun i hi e => hoN ((mem_names h.nl o).2 ⟨i, hi, e⟩)
  have hfo : f ≠ o := fun e => hoN' r hr (by rw [hf, e])
  have hfF : f ∉ F := by rw [← hf]; exact h.dis r hr
  have hne : ∀ i, i < 32 → r ≠ i → N.getD i 0 ≠ f := fun i hi e1 e => e1 (h.inj r i hr hi (by rw [hf, e]))
  refine ⟨hfr, hfo, h.n1, by simpa using h.nl, by simpa using h.ul, List.nodup_cons.2 ⟨hfF, h.fd⟩, ?_, ?_, ?_, ?_, ?_, ?_, ?_⟩
  · intro i j hi hj e
    by_cases e1 : r = i <;> by_cases e2 : r = j
    · omega
    · subst e1
      rw [gs_eq _ _ _ (by omega), gs_ne _ _ _ _ e2] at e
      exact absurd e.symm (hoN' j hj)
    · subst e2
      rw [gs_eq _ _ _ (by omega), gs_ne _ _ _ _ e1] at e
      exact absurd e (hoN' i hi)
    · rw [gs_ne _ _ _ _ e1, gs_ne _ _ _ _ e2] at e
      exact h.inj i j hi hj e
  · intro i hi hm
    by_cases e1 : r = i
    · subst e1; rw [gs_eq _ _ _ (by omega)] at hm
      rcases List.mem_cons.1 hm with e | e
      · exact hfo e.symm
      · exact hoF e
    · rw [gs_ne _ _ _ _ e1] at hm
      rcases List.mem_cons.1 hm with e | e
      · exact hne i hi e1 e
      · exact h.dis i hi e
  · intro x hx
    rcases List.mem_cons.1 hx with rfl | e
    · exact hfr
    · exact h.fr x e
  · intro i hi
    by_cases e1 : r = i
    · subst e1; rw [gs_eq _ _ _ (by omega)]; exact ⟨h0, h1⟩
    · rw [gs_ne _ _ _ _ e1]; exact h.nr i hi
  · intro x hx
    rcases List.mem_cons.1 hx with rfl | e
    · rw [gs_ne _ _ _ _ (by omega), gs_eq _ _ _ (by omega)]
    · have rx := h.fr x e
      have n1 : x ≠ o := fun e2 => hoF (e2 ▸ e)
      have n2 : x ≠ f := fun e2 => hfF (e2 ▸ e)
      rw [gs_ne _ _ _ _ (by omega), gs_ne _ _ _ _ (by omega)]
      exact h.u0 x e
  · intro i hi
    by_cases e1 : r = i
    · subst e1
      rw [gs_eq N _ _ (by omega), gs_eq _ _ _ (by simp; omega)]
    · rw [gs_ne N _ _ _ e1]
      have ri := h.nr i hi
      have n1 := hoN' i hi
      have n2 := hne i hi e1
      rw [gs_ne _ _ _ _ (by omega), gs_ne _ _ _ _ (by omega)]
      exact h.u1 i hi
  · intro x x0 x1 hx hn
    have n2 : x ≠ f := fun e => hx (by rw [e]; simp)
    have n1 : x ≠ o := fun e => hn r hr (by rw [gs_eq _ _ _ (by omega)]; exact e.symm)
    rw [gs_ne _ _ _ _ (by omega), gs_ne _ _ _ _ (by omega)]
    refine h.u2 x x0 x1 (fun e => hx (by simp [e])) (fun i hi e => ?_)
    by_cases e2 : r = i
    · subst e2; exact n2 (by rw [← e, hf])
    · exact hn i hi (by rw [gs_ne _ _ _ _ e2]; exact e)
theorem Good.release (h : Good n N U F) {p : Int} (h0 : 0 ≤ p) (h1 : p < n) (hpF : p ∉ F) (hpN : p ∉ N) : Good n N (U.set p.toNat 0) (F ++ [p]) := by
  have hpN' : ∀ i, i < 32 → N.getD i 0 ≠ p := fun i hi e => hpN ((mem_names h.nl p).2 ⟨i, hi, e⟩)
  have hul := h.ul
  refine ⟨h.n1, h.nl, by simpa using h.ul, ?_, h.inj, ?_, ?_, h.nr, ?_, ?_, ?_⟩
  · rw [List.nodup_append]
    exact ⟨h.fd, by simp, fun a ha b hb => by simp at hb; subst hb; rintro rfl; exact hpF ha⟩
  · intro i hi hm
    rcases List.mem_append.1 hm with e | e
    · exact h.dis i hi e
    · simp at e; exact hpN' i hi e
  · intro x hx
    rcases List.mem_append.1 hx with e | e
    · exact h.fr x e
    · simp at e; subst e; exact ⟨h0, h1⟩
  · intro x hx
    rcases List.mem_append.1 hx with e | e
    · have rx := h.fr x e
      have n1 : x ≠ p := fun e2 => hpF (e2 ▸ e)
      rw [gs_ne _ _ _ _ (by omega)]; exact h.u0 x e
    · simp at e; subst e
      rw [gs_eq _ _ _ (by omega)]
  · intro i hi
    have ri := h.nr i hi
    have n1 := hpN' i hi
    rw [gs_ne _ _ _ _ (by omega)]; exact h.u1 i hi
  · intro x x0 x1 hx hn
    have n1 : x ≠ p := fun e => hx (by simp [e])
    rw [gs_ne _ _ _ _ (by omega)]
    exact h.u2 x x0 x1 (fun e => hx (by simp [e])) hn
theorem rget {A : Type} (f : Nat → Int) (m i : Nat) (h : i < m) : ((List.range m).map f).getD i 0 = f i := by
  simp [List.getD_eq_getElem?_getD, List.getElem?_range h]
theorem Good.start (m : Nat) (h0 : 34 ≤ m) (h1 : m ≤ 128) : Good m (newTab m m).names (newTab m m).uses (newTab m m).free := by
  have hn : ∀ i, i < 32 → (newTab m m).names.getD i 0 = (i : Int) := fun i hi => by
    unfold newTab; rw [rget (A := Int) _ _ _ hi, if_pos (by omega)]
  have hu : ∀ i, i < m → (newTab m m).uses.getD i 0 = if i < 32 then 1 else 0 := fun i hi => by
    unfold newTab; rw [rget (A := Int) _ _ _ hi]; simp [hi]
  have hf : ∀ x, x ∈ (newTab m m).free ↔ 32 ≤ x ∧ x < m := fun x => by
    unfold newTab
    simp only [List.mem_map, List.mem_range]
    constructor
    · rintro ⟨i, hi, rfl⟩; omega
    · rintro ⟨a, b⟩; exact ⟨(x - 32).toNat, by omega, by omega⟩
  refine ⟨h1, by simp [newTab], by simp [newTab], ?_, ?_, ?_, ?_, ?_, ?_, ?_, ?_⟩
  · unfold newTab
    exact List.pairwise_map.2 (List.nodup_range.imp (fun {a b} h e => h (by omega)))
  · intro i j hi hj e; rw [hn i hi, hn j hj] at e; omega
  · intro i hi; rw [hn i hi, hf]; omega
  · intro x hx; rw [hf] at hx; omega
  · intro i hi; rw [hn i hi]; omega
  · intro x hx; rw [hf] at hx; rw [hu _ (by omega), if_neg (by omega)]
  · intro i hi; rw [hn i hi, hu _ (by omega), if_pos (by omega)]
  · intro x x0 x1 hx hn2
    exfalso
    rw [hf] at hx
    exact hn2 x.toNat (by omega) (by rw [hn _ (by omega)]; omega)
end Go.Proofs.YtnlnbclibkceiaaDoor
