/- The law 'LsqMemory', plain: what a row of accesses does in a queue. No program in sight. -/
import Derived.Test.YtngfaiahlblkkaaDoorLsqMA
import Derived.Test.YtngfaiahlblkkaaDoorLsqW
namespace Go.Proofs.YtngfaiahlblkkaaDoor
open Go.RowKit Go.XHeap Go.Sx Go.Sep Go.Bits
set_option linter.unusedVariables false

structure RX where
  n : Nat
  inn : Nat
  out : Nat
  dr : Nat
  got : Nat → Nat
  given : Nat → Bool
  known : Nat → Bool
  done : Nat → Bool
  mem : Nat → Nat
  fr : Nat → Nat → Int
  J : List Nat
variable (a : Nat → Ac) (X : RX)
def mkE (k : Nat) (c : Ac) (g kn dn : Bool) (f0 f1 f2 f3 : Int) (rt : Bool) : En := ⟨k, c.store, g, kn, if g then 64 + c.B else 0, if g then c.S else 0, if kn then c.data else 0, dn, f0, f1, f2, f3, rt⟩
def entR (k : Nat) : En := mkE k (a k) (X.given k) (X.known k) (X.done k) (X.fr k 0) (X.fr k 1) (X.fr k 2) (X.fr k 3) (decide (k < X.out))
def covB (j x : Nat) : Prop := (a j).B ≤ x ∧ x < (a j).B + (a j).S
instance (j x : Nat) : Decidable (covB a j x) := inferInstanceAs (Decidable (_ ∧ _))
def byteD (j x : Nat) : Nat := (a j).data / 2 ^ (8 * (x - (a j).B)) % 256
/-- memory behind the first k accesses, in the program's order -/
def spec : Nat → Nat → Nat
  | 0, _ => 0
  | k + 1, x => if (a k).store = true ∧ covB a k x then byteD a k x else spec k x
def Cov (j x : Nat) : Prop := X.dr ≤ j ∧ (a j).store = true ∧ X.given j = true ∧ covB a j x
def SrcIs (k x : Nat) (r : Int) : Prop := (r = -1 ∧ ∀ j, j < k → ¬ Cov a X j x) ∨ ∃ j : Nat, r = j ∧ j < k ∧ Cov a X j x ∧ ∀ j', j < j' → j' < k → ¬ Cov a X j' x
def valAt (k x : Nat) : Nat := if X.fr k (x - (a k).B) = -1 then X.mem x else byteD a (X.fr k (x - (a k).B)).toNat x
structure Inv : Prop where
  n60 : X.n ≤ 60
  oi : X.out ≤ X.inn
  inn : X.inn ≤ X.n
  dro : X.dr ≤ X.out
  sorted : X.J.Pairwise (· < ·)
  live : ∀ k, k ∈ X.J ↔ k < X.inn ∧ X.dr ≤ k ∧ ((a k).store = true ∨ X.out ≤ k)
  late : ∀ k, X.inn ≤ k → X.given k = false ∧ X.known k = false ∧ X.done k = false ∧ ∀ c, X.fr k c = 0
  dn : ∀ k, X.done k = true → X.given k = true ∧ (a k).store = false
  old : ∀ k, k < X.out → X.given k = true ∧ ((a k).store = true → X.known k = true)
  src : ∀ k, X.out ≤ k → X.done k = true → ∀ c, c < (a k).S → SrcIs a X k ((a k).B + c) (X.fr k c)
  val : ∀ k, X.out ≤ k → X.done k = true → X.got k = hiB (valAt a X k) (a k).S (a k).B
  fin : ∀ k, k < X.out → (a k).store = false → X.got k = hiB (spec a k) (a k).S (a k).B
  mem : ∀ x, X.mem x = spec a X.dr x
variable {a : Nat → Ac} {X : RX}
theorem byteD_lt (j x : Nat) : byteD a j x < 256 := Nat.mod_lt _ (by decide)
theorem spec_lt : ∀ k x, spec a k x < 256
  | 0, _ => by show 0 < 256; decide
  | k + 1, x => by
    show (if (a k).store = true ∧ covB a k x then byteD a k x else spec a k x) < 256
    split
    · exact byteD_lt _ _
    · exact spec_lt k x
theorem spec_skip {x j : Nat} : ∀ k, j ≤ k → (∀ i, j ≤ i → i < k → ¬ ((a i).store = true ∧ covB a i x)) → spec a k x = spec a j x
  | 0, h, _ => by rw [Nat.le_zero.1 h]
  | k + 1, h, hn => by
    by_cases e : j = k + 1
    · rw [e]
    · show (if (a k).store = true ∧ covB a k x then byteD a k x else spec a k x) = _
      rw [if_neg (hn k (by omega) (by omega)), spec_skip k (by omega) fun i h1 h2 => hn i h1 (by omega)]
theorem Inv.mem_lt (h : Inv a X) (x : Nat) : X.mem x < 256 := by rw [h.mem]; exact spec_lt _ _
theorem valAt_lt (h : Inv a X) (k x : Nat) : valAt a X k x < 256 := by
  unfold valAt
  split
  · exact h.mem_lt x
  · exact byteD_lt _ _
theorem Inv.ok (h : Inv a X) {k : Nat} (hk : k ∈ X.J) : (entR a X k).Ok := by
  have hf := (a k).fits
  have hS := (a k).S_is
  refine ⟨?_, ?_, ?_, ?_, fun e => ?_, fun e => ?_, fun e => ?_, fun e => ?_, ?_⟩
  · show (if X.given k then 64 + (a k).B else 0) < _
    split <;> omega
  · show (if X.known k then (a k).data else 0) < _
    have := (a k).hd
    split <;> omega
  · show (if X.given k then (a k).S else 0) = 0 ∨ (if X.given k then (a k).S else 0) = 1 ∨ (if X.given k then (a k).S else 0) = 2 ∨ (if X.given k then (a k).S else 0) = 4
    split <;> omega
  · show (if X.given k then 64 + (a k).B else 0) + (if X.given k then (a k).S else 0) ≤ _
    split <;> omega
  · show (if X.given k then (a k).S else 0) ≠ 0
    rw [if_pos (show X.given k = true from e)]; omega
  · have e : X.given k = false := e
    show (if X.given k then 64 + (a k).B else 0) = 0 ∧ (if X.given k then (a k).S else 0) = 0
    rw [e]; exact ⟨rfl, rfl⟩
  · exact h.dn k e
  · have hlt : k < X.out := of_decide_eq_true e
    have hst : (a k).store = true := ((h.live k).1 hk).2.2.elim id (fun h => by omega)
    exact ⟨hst, (h.old k hlt).1, (h.old k hlt).2 hst⟩
  · show (0 : Int) ≤ (k : Int); omega
/-! ### sorted lists -/
theorem mem_take {J : List Nat} (hs : J.Pairwise (· < ·)) {i k : Nat} (hk : J[i]? = some k) (j : Nat) : j ∈ J.take i ↔ j ∈ J ∧ j < k := by
  obtain ⟨hi, rfl⟩ := List.getElem?_eq_some_iff.1 hk
  constructor
  · intro hj
    obtain ⟨m, hm, rfl⟩ := List.getElem_of_mem hj
    rw [List.length_take] at hm
    rw [List.getElem_take]
    exact ⟨List.getElem_mem _, List.pairwise_iff_getElem.1 hs m i (by omega) hi (by omega)⟩
  · rintro ⟨hj, hlt⟩
    obtain ⟨m, hm, rfl⟩ := List.getElem_of_mem hj
    have : m < i := by
      rcases Nat.lt_trichotomy m i with h | h | h
      · exact h
      · subst h; omega
      · have := List.pairwise_iff_getElem.1 hs i m hi hm h; omega
    rw [List.mem_take_iff_getElem]
    exact ⟨m, by omega, rfl⟩
theorem map_set_at {J : List Nat} (hs : J.Pairwise (· < ·)) {i k : Nat} (hk : J[i]? = some k) {f f' : Nat → En} (hf : ∀ j, j ∈ J → j ≠ k → f' j = f j) : (J.map f).set i (f' k) = J.map f' := by
  obtain ⟨hi, rfl⟩ := List.getElem?_eq_some_iff.1 hk
  apply List.ext_getElem?
  intro m
  rw [List.getElem?_set, List.getElem?_map, List.getElem?_map]
  by_cases e : i = m
  · subst e
    rw [if_pos rfl, List.length_map, if_pos hi, List.getElem?_eq_getElem hi]; rfl
  · rw [if_neg e]
    cases hm : J[m]? with
    | none => rfl
    | some j =>
      obtain ⟨hml, rfl⟩ := List.getElem?_eq_some_iff.1 hm
      show some (f J[m]) = some (f' J[m])
      rw [hf _ (List.getElem_mem _) (fun h => by
        rcases Nat.lt_trichotomy m i with h2 | h2 | h2
        · have := List.pairwise_iff_getElem.1 hs m i hml hi h2; omega
        · exact e h2.symm
        · have := List.pairwise_iff_getElem.1 hs i m hi hml h2; omega)]
theorem Inv.pos (h : Inv a X) {k : Nat} (h1 : X.out ≤ k) (h2 : k < X.inn) : ∃ i : Nat, X.J[i]? = some k := by
  have hm : k ∈ X.J := (h.live k).2 ⟨h2, by have := h.dro; omega, .inr h1⟩
  obtain ⟨i, hi, e⟩ := List.getElem_of_mem hm
  exact ⟨i, by rw [List.getElem?_eq_getElem hi, e]⟩
theorem pos_at (hs : X.J.Pairwise (· < ·)) {i k : Nat} (hk : X.J[i]? = some k) {p : En → Bool} (hp : p (entR a X k) = true) (hn : ∀ j, j ∈ X.J → j < k → p (entR a X j) = false) : (X.J.map (entR a X)).findIdx? p = some i := by
  refine rpos_hit (x := entR a X k) (by rw [List.getElem?_map, hk]; rfl) hp fun m y hm hy => ?_
  rw [List.getElem?_map] at hy
  cases hj : X.J[m]? with
  | none => rw [hj] at hy; cases hy
  | some j =>
    rw [hj] at hy
    cases hy
    have : j ∈ X.J.take i := by
      obtain ⟨hl, rfl⟩ := List.getElem?_eq_some_iff.1 hj
      rw [List.mem_take_iff_getElem]
      exact ⟨m, by omega, rfl⟩
    have := (mem_take hs hk j).1 this
    exact hn j this.1 this.2
/-! ### where a byte comes from -/
theorem cov_ent {j x : Nat} : coverP (64 + x) (entR a X j) = true ↔ (a j).store = true ∧ X.given j = true ∧ covB a j x := by
  unfold coverP covB
  show ((a j).store && (X.given j && decide ((if X.given j then 64 + (a j).B else 0) ≤ 64 + x ∧ 64 + x < (if X.given j then 64 + (a j).B else 0) + (if X.given j then (a j).S else 0)))) = true ↔ _
  cases (a j).store with
  | false => simp
  | true =>
    cases X.given j with
    | false => simp
    | true =>
      simp only [Bool.true_and, decide_eq_true_eq, if_true, true_and]
      omega
theorem src_ent (h : Inv a X) {i k : Nat} (hk : X.J[i]? = some k) (x : Nat) :
    SrcIs a X k x (frI (srcOf ((X.J.map (entR a X)).take i) (64 + x))) ∧ ∀ e, srcOf ((X.J.map (entR a X)).take i) (64 + x) = some e → ∃ j, e = entR a X j ∧ j < k ∧ Cov a X j x ∧ j ∈ X.J := by
  have hkm : k ∈ X.J := List.mem_of_getElem? hk
  have hki := (h.live k).1 hkm
  have inJ : ∀ j, j < k → Cov a X j x → j ∈ X.J.take i := fun j hj hc => (mem_take h.sorted hk j).2 ⟨(h.live j).2 ⟨by omega, hc.1, .inl hc.2.1⟩, hj⟩
  have hst : (X.J.take i).Pairwise (· < ·) := h.sorted.sublist (List.take_sublist _ _)
  rw [← List.map_take]
  cases hs : srcOf ((X.J.take i).map (entR a X)) (64 + x) with
  | none =>
    refine ⟨.inl ⟨rfl, fun j hj hc => ?_⟩, fun e he => by cases he⟩
    unfold srcOf at hs
    rw [List.find?_eq_none] at hs
    exact hs (entR a X j) (by rw [List.mem_reverse]; exact List.mem_map.2 ⟨j, inJ j hj hc, rfl⟩) (cov_ent.2 hc.2)
  | some e =>
    unfold srcOf at hs
    rw [List.find?_eq_some_iff_append] at hs
    obtain ⟨hp, l1, l2, hl, hno⟩ := hs
    have hl2 : (X.J.take i).map (entR a X) = l2.reverse ++ e :: l1.reverse := by
      have := congrArg List.reverse hl
      rw [List.reverse_reverse] at this
      rw [this]; simp
    obtain ⟨P, Q, hPQ, hP, hQ⟩ := List.map_eq_append_iff.1 hl2
    obtain ⟨j, R, rfl, rfl, hR⟩ := List.map_eq_cons_iff.1 hQ
    have hj : j ∈ X.J.take i := by rw [hPQ]; simp
    have hj2 := (mem_take h.sorted hk j).1 hj
    have hj3 := (h.live j).1 hj2.1
    have hcov : Cov a X j x := ⟨hj3.2.1, cov_ent.1 hp⟩
    refine ⟨.inr ⟨j, rfl, hj2.2, hcov, fun j' h1 h2 hc => ?_⟩, fun e he => ?_⟩
    · have hm := inJ j' h2 hc
      rw [hPQ] at hm hst
      rw [List.pairwise_append] at hst
      rcases List.mem_append.1 hm with hm | hm
      · have := hst.2.2 j' hm j (by simp); omega
      · rcases List.mem_cons.1 hm with hm | hm
        · omega
        · have := hno (entR a X j') (by rw [← List.mem_reverse, ← hR]; exact List.mem_map.2 ⟨j', hm, rfl⟩)
          rw [cov_ent.2 hc.2] at this
          cases this
    · cases he
      exact ⟨j, rfl, hj2.2, hcov, hj2.1⟩
theorem SrcIs.uniq {k x : Nat} {r s : Int} (h1 : SrcIs a X k x r) (h2 : SrcIs a X k x s) : r = s := by
  rcases h1 with ⟨rfl, h1⟩ | ⟨j, rfl, hj, hc, h1⟩
  · rcases h2 with ⟨rfl, -⟩ | ⟨j, rfl, hj, hc, -⟩
    · rfl
    · exact absurd hc (h1 j hj)
  · rcases h2 with ⟨rfl, h2⟩ | ⟨j2, rfl, hj2, hc2, h2⟩
    · exact absurd hc (h2 j hj)
    · rcases Nat.lt_trichotomy j j2 with h | h | h
      · exact absurd hc2 (h1 j2 h hj2)
      · rw [h]
      · exact absurd hc (h2 j h hj)
end Go.Proofs.YtngfaiahlblkkaaDoor
