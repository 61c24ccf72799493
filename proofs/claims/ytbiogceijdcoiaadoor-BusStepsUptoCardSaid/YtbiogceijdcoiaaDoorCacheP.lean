/- The plain law: the cache and the document's cache hold the same lines. No program in sight. -/
import Derived.Test.YtbiogceijdcoiaaDoorCacheU
namespace Go.Proofs.YtbiogceijdcoiaaDoor
open Go.RowKit Go.XHeap Go.Sx Go.Sep
set_option linter.unusedVariables false

def Way.valid (y : Way) : Bool := y.state != 0
def Way.toR (y : Way) : RLine := ⟨y.line, y.state, y.bytes⟩
/-- what a way of the set i may be -/
structure WayAt (S i clk : Nat) (y : Way) : Prop where
  good : y.valid = true → y.line % 16 = 0 ∧ y.line / 16 % S = i ∧ 1 ≤ y.used ∧ y.used ≤ clk
  bad : y.valid = false → y = zeroWay
structure Rel (C : CS) (R : RC) (U : List Way) : Prop where
  s : R.S = C.S
  n : R.N = C.N
  l : R.L = U.map Way.toR
  perm : U.Perm (C.sets.flatten.filter Way.valid)
  sorted : U.Pairwise fun x y => x.used < y.used
  lines : U.Pairwise fun x y => x.line ≠ y.line
  way : ∀ i s, C.sets[i]? = some s → ∀ y ∈ s, WayAt C.S i C.clock y

theorem list_split {α : Type} {l : List α} {j : Nat} {y : α} (h : l[j]? = some y) : ∃ a b, l = a ++ y :: b ∧ a.length = j ∧ (∀ z, l.set j z = a ++ z :: b) ∧ l.eraseIdx j = a ++ b := by
  obtain ⟨hj, rfl⟩ := List.getElem?_eq_some_iff.1 h
  have h1 : l = l.take j ++ l[j] :: l.drop (j + 1) := by rw [← List.drop_eq_getElem_cons hj, List.take_append_drop]
  have h2 : (l.take j).length = j := by rw [List.length_take]; omega
  refine ⟨l.take j, l.drop (j + 1), h1, h2, fun z => ?_, by rw [List.eraseIdx_eq_take_drop_succ]⟩
  rw [List.set_eq_take_append_cons_drop, if_pos hj]
/-- all the ways but one -/
theorem all_put {C : CS} (ho : C.Ok) {i j : Nat} {y : Way} (hi : i < C.S) (hj : (C.set_ i)[j]? = some y) : ∃ rest, C.sets.flatten.Perm (y :: rest) ∧ ∀ z, (C.put i j z).sets.flatten.Perm (z :: rest) := by
  obtain ⟨a, b, h1, -, h2, -⟩ := list_split hj
  obtain ⟨A, B, H1, -, H2, -⟩ := list_split (CS.set_at ho hi)
  refine ⟨A.flatten ++ (a ++ b ++ B.flatten), ?_, fun z => ?_⟩
  · rw [H1, List.flatten_append, List.flatten_cons, h1]
    have : (A.flatten ++ ((a ++ y :: b) ++ B.flatten)).Perm (A.flatten ++ (y :: (a ++ b ++ B.flatten))) := by
      refine List.Perm.append_left _ ?_
      rw [List.append_assoc, List.cons_append, List.append_assoc]
      exact List.perm_middle
    exact this.trans List.perm_middle
  · show (C.sets.set i ((C.set_ i).set j z)).flatten.Perm _
    rw [H2, List.flatten_append, List.flatten_cons, h2]
    have : (A.flatten ++ ((a ++ z :: b) ++ B.flatten)).Perm (A.flatten ++ (z :: (a ++ b ++ B.flatten))) := by
      refine List.Perm.append_left _ ?_
      rw [List.append_assoc, List.cons_append, List.append_assoc]
      exact List.perm_middle
    exact this.trans List.perm_middle
variable {C : CS} {R : RC} {U : List Way}
theorem Rel.at_ (h : Rel C R U) (ho : C.Ok) {i : Nat} (hi : i < C.S) {y : Way} (hy : y ∈ C.set_ i) : WayAt C.S i C.clock y := h.way i _ (CS.set_at ho hi) y hy
theorem Rel.mem (h : Rel C R U) {y : Way} : y ∈ U ↔ y.valid = true ∧ ∃ (i : Nat) (s : List Way), C.sets[i]? = some s ∧ y ∈ s := by
  rw [h.perm.mem_iff, List.mem_filter, List.mem_flatten]
  constructor
  · rintro ⟨⟨s, hs, hy⟩, hv⟩
    obtain ⟨i, hi⟩ := List.getElem?_of_mem hs
    exact ⟨hv, i, s, hi, hy⟩
  · rintro ⟨hv, i, s, hi, hy⟩
    exact ⟨⟨s, List.mem_of_getElem? hi, hy⟩, hv⟩
theorem Rel.mem_set (h : Rel C R U) (ho : C.Ok) {i : Nat} (hi : i < C.S) {y : Way} (hy : y ∈ C.set_ i) (hv : y.valid = true) : y ∈ U := h.mem.2 ⟨hv, i, _, CS.set_at ho hi, hy⟩
theorem Rel.of_mem (h : Rel C R U) (ho : C.Ok) {y : Way} (hy : y ∈ U) : y.valid = true ∧ y.line % 16 = 0 ∧ 1 ≤ y.used ∧ y.used ≤ C.clock ∧ y.line / 16 % C.S < C.S ∧ y ∈ C.set_ (y.line / 16 % C.S) := by
  obtain ⟨hv, i, s, hi, hs⟩ := h.mem.1 hy
  have hw := (h.way i s hi y hs).good hv
  have hil : i < C.S := by rw [← ho.sl]; exact (List.getElem?_eq_some_iff.1 hi).1
  have he := CS.set_at ho hil
  rw [hi] at he
  obtain rfl := Option.some.inj he
  exact ⟨hv, hw.1, hw.2.2.1, hw.2.2.2, hw.2.1 ▸ hil, hw.2.1.symm ▸ hs⟩
theorem pair_ne {α : Type} {p : α → α → Prop} (hp : ∀ x y, p x y → x ≠ y) {l : List α} (h : l.Pairwise p) {i j : Nat} {x : α} (hi : l[i]? = some x) (hj : l[j]? = some x) : i = j := by
  obtain ⟨hi', e1⟩ := List.getElem?_eq_some_iff.1 hi
  obtain ⟨hj', e2⟩ := List.getElem?_eq_some_iff.1 hj
  rw [List.pairwise_iff_getElem] at h
  rcases Nat.lt_trichotomy i j with hlt | he | hlt
  · exact absurd (e1.trans e2.symm) (hp _ _ (h i j hi' hj' hlt))
  · exact he
  · exact absurd (e2.trans e1.symm) (hp _ _ (h j i hj' hi' hlt))
theorem Rel.uniq (h : Rel C R U) {x y : Way} (hx : x ∈ U) (hy : y ∈ U) (e : x.line = y.line) : x = y := by
  obtain ⟨i, hi', e1⟩ := List.getElem_of_mem hx
  obtain ⟨j, hj', e2⟩ := List.getElem_of_mem hy
  have hl := h.lines
  rw [List.pairwise_iff_getElem] at hl
  rcases Nat.lt_trichotomy i j with hlt | he | hlt
  · exact absurd (by rw [e1, e2]; exact e) (hl i j hi' hj' hlt)
  · subst he; exact e1.symm.trans e2
  · exact absurd (by rw [e1, e2]; exact e.symm) (hl j i hj' hi' hlt)
theorem Rel.get (h : Rel C R U) {k : Nat} {y : Way} (hk : U[k]? = some y) : R.L[k]? = some y.toR ∧ R.lineAt k = y.toR := by
  have : R.L[k]? = some y.toR := by rw [h.l, List.getElem?_map, hk]; rfl
  exact ⟨this, lineAt_eq this⟩
/-- both find the same line -/
theorem Rel.find (h : Rel C R U) (ho : C.Ok) (a : Nat) : (∃ j k y, C.look a = some j ∧ (C.set_ (C.ix a))[j]? = some y ∧ R.find a = some k ∧ U[k]? = some y ∧ R.lineAt k = y.toR ∧ y.state ≠ 0 ∧ y.line = a / 16 * 16 ∧ C.stateAt a = y.state) ∨ (C.look a = none ∧ R.find a = none) := by
  have hi := ho.ix_lt a
  have key : a / 16 * 16 / 16 % C.S = C.ix a := by unfold CS.ix; rw [Nat.mul_div_cancel _ (by decide)]
  cases hl : C.look a with
  | some j =>
    obtain ⟨y, hy, hy1, hy2⟩ := look_some hl
    have hU := h.mem_set ho hi (List.mem_of_getElem? hy) (by unfold Way.valid; simpa using hy1)
    cases hf : R.find a with
    | some k =>
      obtain ⟨x, hx, hxa⟩ := rfind_some hf
      rw [h.l, List.getElem?_map] at hx
      cases hz : U[k]? with
      | none => rw [hz] at hx; cases hx
      | some z =>
        rw [hz] at hx
        simp only [Option.map_some, Option.some.injEq] at hx
        subst hx
        have : z = y := h.uniq (List.mem_of_getElem? hz) hU (by rw [hy2]; exact hxa)
        subst this
        refine .inl ⟨j, k, z, rfl, hy, rfl, hz, (h.get hz).2, hy1, hy2, ?_⟩
        unfold CS.stateAt
        rw [hl]
        show ((C.set_ (C.ix a)).getD j default).state = _
        rw [List.getD_eq_getElem?_getD, hy]; rfl
    | none =>
      exfalso
      unfold RC.find at hf
      rw [List.findIdx?_eq_none_iff] at hf
      have := hf y.toR (by rw [h.l]; exact List.mem_map_of_mem hU)
      simp [Way.toR, hy2] at this
  | none =>
    cases hf : R.find a with
    | none => exact .inr ⟨rfl, rfl⟩
    | some k =>
      exfalso
      obtain ⟨x, hx, hxa⟩ := rfind_some hf
      rw [h.l, List.getElem?_map] at hx
      cases hz : U[k]? with
      | none => rw [hz] at hx; cases hx
      | some z =>
        rw [hz] at hx
        simp only [Option.map_some, Option.some.injEq] at hx
        subst hx
        have hza : z.line = a / 16 * 16 := hxa
        obtain ⟨hv, -, -, -, -, hs⟩ := h.of_mem ho (List.mem_of_getElem? hz)
        rw [hza, key] at hs
        unfold CS.look at hl
        rw [List.findIdx?_eq_none_iff] at hl
        have := hl z hs
        unfold isThere at this
        unfold Way.valid at hv
        simp [hza] at this hv
        exact hv this
/-- one way is written -/
theorem Rel.put (h : Rel C R U) (ho : C.Ok) {i j : Nat} {y : Way} (hi : i < C.S) (hj : (C.set_ i)[j]? = some y) (z : Way) (clk : Nat) (hc : C.clock ≤ clk) (hz : WayAt C.S i clk z) {R' : RC} {U' : List Way} (hs : R'.S = R.S) (hn : R'.N = R.N) (hl : R'.L = U'.map Way.toR)
    (hp : ∀ rest : List Way, U.Perm ((y :: rest).filter Way.valid) → U'.Perm ((z :: rest).filter Way.valid)) (sorted : U'.Pairwise fun x y => x.used < y.used) (lines : U'.Pairwise fun x y => x.line ≠ y.line) :
    Rel { C.put i j z with clock := clk } R' U' := by
  obtain ⟨rest, h1, h2⟩ := all_put ho hi hj
  refine ⟨hs.trans h.s, hn.trans h.n, hl, (hp rest (h.perm.trans (h1.filter _))).trans ((h2 z).filter _).symm, sorted, lines, fun i2 s hs2 y2 hy2 => ?_⟩
  have mono : ∀ {i y}, WayAt C.S i C.clock y → WayAt C.S i clk y := fun hw => ⟨fun hv => ⟨(hw.good hv).1, (hw.good hv).2.1, (hw.good hv).2.2.1, Nat.le_trans (hw.good hv).2.2.2 hc⟩, hw.bad⟩
  have hs3 : (C.sets.set i ((C.set_ i).set j z))[i2]? = some s := hs2
  clear hs2
  rw [List.getElem?_set] at hs3
  show WayAt C.S i2 clk y2
  split at hs3
  · rename_i e
    subst e
    rw [if_pos (by rw [ho.sl]; exact hi)] at hs3
    obtain rfl := Option.some.inj hs3
    rcases List.mem_or_eq_of_mem_set hy2 with e | rfl
    · exact mono (h.at_ ho hi e)
    · exact hz
  · exact mono (h.way i2 s hs3 y2 hy2)
theorem pair_erase {α : Type} {p : α → α → Prop} {l : List α} (h : l.Pairwise p) (k : Nat) : (l.eraseIdx k).Pairwise p := h.sublist (List.eraseIdx_sublist l k)
theorem pair_snoc {α : Type} {p : α → α → Prop} {l : List α} {z : α} (h : l.Pairwise p) (hz : ∀ x ∈ l, p x z) : (l ++ [z]).Pairwise p := List.pairwise_append.2 ⟨h, List.pairwise_singleton _ _, fun x hx y hy => by rw [List.mem_singleton.1 hy]; exact hz x hx⟩
theorem perm_erase {α : Type} {l : List α} {k : Nat} {y : α} (h : l[k]? = some y) : l.Perm (y :: l.eraseIdx k) := by
  obtain ⟨a, b, h1, -, -, h4⟩ := list_split h
  rw [h4]
  conv => lhs; rw [h1]
  exact List.perm_middle
theorem erase_lines (h : Rel C R U) {k : Nat} {y : Way} (hk : U[k]? = some y) : ∀ x ∈ U.eraseIdx k, x.line ≠ y.line := by
  intro x hx e
  have hp := perm_erase hk
  have hxU : x ∈ U := hp.mem_iff.2 (List.mem_cons_of_mem _ hx)
  have := h.uniq hxU (List.mem_of_getElem? hk) e
  subst this
  have hn : (x :: U.eraseIdx k).Nodup := hp.nodup_iff.1 (h.lines.imp fun hne e => hne (by rw [e]))
  exact (List.nodup_cons.1 hn).1 hx
theorem map_erase {α β : Type} (f : α → β) (l : List α) (k : Nat) : (l.eraseIdx k).map f = (l.map f).eraseIdx k := by
  rw [List.eraseIdx_eq_take_drop_succ, List.eraseIdx_eq_take_drop_succ, List.map_append, List.map_take, List.map_drop]
theorem map_back {k : Nat} {z : Way} (h : Rel C R U) : R.L.eraseIdx k ++ [z.toR] = (U.eraseIdx k ++ [z]).map Way.toR := by
  rw [h.l, List.map_append, map_erase]; rfl
theorem filter_true {z : Way} {rest : List Way} (h : z.valid = true) : (z :: rest).filter Way.valid = z :: rest.filter Way.valid := by rw [List.filter_cons, if_pos h]
theorem filter_false {z : Way} {rest : List Way} (h : z.valid = false) : (z :: rest).filter Way.valid = rest.filter Way.valid := by rw [List.filter_cons, if_neg (by rw [h]; decide)]
/-- a line is used: it stands behind the others -/
theorem Rel.used (h : Rel C R U) (ho : C.Ok) {a j k : Nat} {y : Way} (hj : (C.set_ (C.ix a))[j]? = some y) (hk : U[k]? = some y) (s : Nat) (bs : List Nat) (hs : s ≠ 0) (p : Option Addr) (c : Nat) :
    ∃ U', Rel (C.tick.put (C.ix a) j ⟨y.line, s, C.clock + 1, bs⟩) (R.back k ⟨y.line, s, bs⟩ p c) U' := by
  have hi := ho.ix_lt a
  have hy := h.of_mem ho (List.mem_of_getElem? hk)
  have hw := (h.at_ ho hi (List.mem_of_getElem? hj)).good hy.1
  have hv : Way.valid ⟨y.line, s, C.clock + 1, bs⟩ = true := by unfold Way.valid; simpa using hs
  have hm : (R.back k ⟨y.line, s, bs⟩ p c).L = (U.eraseIdx k ++ [Way.mk y.line s (C.clock + 1) bs]).map Way.toR := map_back (k := k) (z := Way.mk y.line s (C.clock + 1) bs) h
  refine ⟨U.eraseIdx k ++ [Way.mk y.line s (C.clock + 1) bs], h.put ho hi hj (Way.mk y.line s (C.clock + 1) bs) (C.clock + 1) (by omega) (R' := R.back k ⟨y.line, s, bs⟩ p c) ⟨fun _ => ⟨hw.1, hw.2.1, by show 1 ≤ C.clock + 1; omega, by show C.clock + 1 ≤ C.clock + 1; omega⟩, fun e => by rw [hv] at e; cases e⟩ rfl rfl hm ?_ ?_ ?_⟩
  · intro rest hp
    rw [filter_true hy.1] at hp
    rw [filter_true hv]
    exact (List.perm_append_comm.trans (List.Perm.cons _ ((perm_erase hk).symm.trans hp).cons_inv))
  · refine pair_snoc (pair_erase h.sorted k) fun x hx => ?_
    have := (h.of_mem ho (List.mem_of_mem_eraseIdx hx)).2.2.2.1
    show x.used < C.clock + 1
    omega
  · exact pair_snoc (pair_erase h.lines k) fun x hx => erase_lines h hk x hx
/-- a line is lowered -/
theorem Rel.lowered (h : Rel C R U) (ho : C.Ok) {a j k : Nat} {y : Way} (hj : (C.set_ (C.ix a))[j]? = some y) (hk : U[k]? = some y) (s : Nat) (p : Option Addr) (c : Nat) :
    ∃ U', Rel (C.lowered a j s) (R.lowered k s p c) U' := by
  have hi := ho.ix_lt a
  have hy := h.of_mem ho (List.mem_of_getElem? hk)
  have hw := (h.at_ ho hi (List.mem_of_getElem? hj)).good hy.1
  have ey : (C.set_ (C.ix a)).getD j default = y := by rw [List.getD_eq_getElem?_getD, hj]; rfl
  unfold CS.lowered RC.lowered
  rw [ey, (h.get hk).2]
  by_cases hs : s = 0
  · rw [if_pos hs, if_pos hs]
    have hv : zeroWay.valid = false := rfl
    refine ⟨U.eraseIdx k, h.put ho hi hj zeroWay C.clock (Nat.le_refl _) ⟨fun e => (nomatch e), fun _ => rfl⟩ rfl rfl (by rw [h.l, map_erase]) ?_ (pair_erase h.sorted k) (pair_erase h.lines k)⟩
    intro rest hp
    rw [filter_true hy.1] at hp
    rw [filter_false hv]
    exact ((perm_erase hk).symm.trans hp).cons_inv
  · rw [if_neg hs, if_neg hs]
    have hv : Way.valid { y with state := s } = true := by unfold Way.valid; simpa using hs
    obtain ⟨A, B, e1, -, e3, e4⟩ := list_split hk
    have hso := h.sorted
    have hli := h.lines
    refine ⟨U.set k { y with state := s }, h.put ho hi hj { y with state := s } C.clock (Nat.le_refl _) ⟨fun _ => hw, fun e => by rw [hv] at e; cases e⟩ rfl rfl (by rw [List.map_set, h.l]; rfl) ?_ ?_ ?_⟩
    · intro rest hp
      rw [filter_true hy.1] at hp
      rw [filter_true hv, e3]
      have := ((perm_erase hk).symm.trans hp).cons_inv
      rw [e4] at this
      exact List.perm_middle.trans (this.cons _)
    · rw [e3]
      rw [e1, List.pairwise_append, List.pairwise_cons] at hso
      rw [List.pairwise_append, List.pairwise_cons]
      exact ⟨hso.1, ⟨hso.2.1.1, hso.2.1.2⟩, fun x hx z hz => by
        rcases List.mem_cons.1 hz with rfl | hz
        · exact hso.2.2 x hx y (by simp)
        · exact hso.2.2 x hx z (by simp [hz])⟩
    · rw [e3]
      rw [e1, List.pairwise_append, List.pairwise_cons] at hli
      rw [List.pairwise_append, List.pairwise_cons]
      exact ⟨hli.1, ⟨hli.2.1.1, hli.2.1.2⟩, fun x hx z hz => by
        rcases List.mem_cons.1 hz with rfl | hz
        · exact hli.2.2 x hx y (by simp)
        · exact hli.2.2 x hx z (by simp [hz])⟩
end Go.Proofs.YtbiogceijdcoiaaDoor
