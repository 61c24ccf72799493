/- The plain law, part B: a line is laid in; the one that leaves. No program in sight. -/
import Derived.Test.YtbiogceijdcoiaaDoorCacheP
namespace Go.Proofs.YtbiogceijdcoiaaDoor
open Go.RowKit Go.XHeap Go.Sx Go.Sep
set_option linter.unusedVariables false
variable {C : CS} {R : RC} {U : List Way}

theorem vic_min {l : List Way} : ∀ m j, j < m → (l.getD (vic l m) default).used ≤ (l.getD j default).used
  | 0, j, h => by omega
  | m + 1, j, h => by
    unfold vic
    split
    · rename_i hlt
      by_cases e : j = m
      · subst e; exact Nat.le_refl _
      · have := vic_min (l := l) m j (by omega)
        omega
    · rename_i hlt
      by_cases e : j = m
      · subst e; omega
      · exact vic_min m j (by omega)
theorem Rel.cnt (h : Rel C R U) (ho : C.Ok) (a : Nat) : R.cnt a = (C.set_ (C.ix a)).countP Way.valid := by
  have hi := ho.ix_lt a
  obtain ⟨A, B, e, hA, -, -⟩ := list_split (CS.set_at ho hi)
  unfold RC.cnt
  rw [h.l, List.countP_map, h.perm.countP_eq, List.countP_filter]
  have out : ∀ (i : Nat) (s : List Way), C.sets[i]? = some s → i ≠ C.ix a → ∀ y ∈ s, ¬ (((R.same a ∘ Way.toR) y && y.valid) = true) := by
    intro i s hs hne y hy hc
    rw [Bool.and_eq_true] at hc
    have hw := (h.way i s hs y hy).good hc.2
    have h1 : (y.line / 16 % R.S == a / 16 % R.S) = true := hc.1
    rw [h.s] at h1
    have h2 : y.line / 16 % C.S = a / 16 % C.S := by simpa using h1
    exact hne (hw.2.1.symm.trans h2)
  have zA : A.flatten.countP (fun y => (R.same a ∘ Way.toR) y && y.valid) = 0 := by
    rw [List.countP_eq_zero]
    intro y hy
    obtain ⟨s, hs, hy⟩ := List.mem_flatten.1 hy
    obtain ⟨i2, h2⟩ := List.getElem?_of_mem hs
    have hlt := (List.getElem?_eq_some_iff.1 h2).1
    exact out i2 s (by rw [e, List.getElem?_append_left hlt]; exact h2) (by omega) y hy
  have zB : B.flatten.countP (fun y => (R.same a ∘ Way.toR) y && y.valid) = 0 := by
    rw [List.countP_eq_zero]
    intro y hy
    obtain ⟨s, hs, hy⟩ := List.mem_flatten.1 hy
    obtain ⟨i2, h2⟩ := List.getElem?_of_mem hs
    exact out (C.ix a + 1 + i2) s (by rw [e, List.getElem?_append_right (by omega), hA, show C.ix a + 1 + i2 - C.ix a = i2 + 1 by omega]; exact h2) (by omega) y hy
  rw [e, List.flatten_append, List.flatten_cons, List.countP_append, List.countP_append, zA, zB, Nat.zero_add, Nat.add_zero]
  refine List.countP_congr fun y hy => ?_
  have hw := h.at_ ho hi hy
  rw [Bool.and_eq_true]
  refine ⟨fun e => e.2, fun e => ⟨?_, e⟩⟩
  have := (hw.good e).2.1
  show (y.line / 16 % R.S == a / 16 % R.S) = true
  rw [h.s]
  simpa [CS.ix] using this
theorem vway_at (ho : C.Ok) (a : Nat) : (C.set_ (C.ix a))[C.vict a]? = some (C.vway a) := by
  have hi := ho.ix_lt a
  have hN : (C.set_ (C.ix a)).length = C.N := ho.len _ (CS.set_mem ho hi)
  have hn := ho.n0
  have hv : C.vict a < (C.set_ (C.ix a)).length := vic_lt (by omega) C.N (by omega)
  unfold CS.vway
  rw [List.getD_eq_getElem?_getD, List.getElem?_eq_getElem hv]; rfl
theorem vway_min (ho : C.Ok) (a : Nat) {y : Way} (hy : y ∈ C.set_ (C.ix a)) : (C.vway a).used ≤ y.used := by
  have hi := ho.ix_lt a
  have hN : (C.set_ (C.ix a)).length = C.N := ho.len _ (CS.set_mem ho hi)
  obtain ⟨j, hj, e⟩ := List.getElem_of_mem hy
  have := vic_min (l := C.set_ (C.ix a)) C.N j (by omega)
  rw [List.getD_eq_getElem?_getD (l := C.set_ (C.ix a)) (i := j), List.getElem?_eq_getElem hj, e] at this
  exact this
theorem Rel.no_line (h : Rel C R U) {a : Nat} (ha : a % 16 = 0) (hf : R.find a = none) : ∀ x ∈ U, x.line ≠ a := by
  intro x hx e
  unfold RC.find at hf
  rw [List.findIdx?_eq_none_iff] at hf
  have := hf x.toR (by rw [h.l]; exact List.mem_map_of_mem hx)
  have e2 : a / 16 * 16 = a := by omega
  simp [Way.toR, e, e2] at this
/-- a full set: the line that was used first leaves -/
theorem Rel.full (h : Rel C R U) (ho : C.Ok) {a : Nat} (hv : (C.vway a).valid = true) : ∃ k, R.full a = some k ∧ U[k]? = some (C.vway a) := by
  have hi := ho.ix_lt a
  have hN : (C.set_ (C.ix a)).length = C.N := ho.len _ (CS.set_mem ho hi)
  have hvm : C.vway a ∈ C.set_ (C.ix a) := List.mem_of_getElem? (vway_at ho a)
  have hvg := (h.at_ ho hi hvm).good hv
  have hall : ∀ y ∈ C.set_ (C.ix a), y.valid = true := by
    intro y hy
    cases hc : y.valid with
    | true => rfl
    | false =>
      have h0 := (h.at_ ho hi hy).bad hc
      have hm := vway_min ho a hy
      rw [h0] at hm
      have : zeroWay.used = 0 := rfl
      omega
  have hcnt : R.cnt a = R.N := by
    rw [h.cnt ho a, h.n, ← hN]
    exact List.countP_eq_length.2 hall
  have hU := h.mem_set ho hi hvm hv
  have sameI : ∀ x : Way, R.same a x.toR = decide (x.line / 16 % C.S = C.ix a) := fun x => by
    show (x.line / 16 % R.S == a / 16 % R.S) = _
    rw [h.s, Bool.eq_iff_iff, beq_iff_eq, decide_eq_true_iff]
    exact Iff.rfl
  unfold RC.full
  rw [if_pos hcnt]
  obtain ⟨kv, hkv, ekv⟩ := List.getElem_of_mem hU
  cases hold : R.old a with
  | none =>
    exfalso
    unfold RC.old at hold
    rw [List.findIdx?_eq_none_iff] at hold
    have := hold (C.vway a).toR (by rw [h.l]; exact List.mem_map_of_mem hU)
    rw [sameI, decide_eq_true hvg.2.1] at this
    cases this
  | some k =>
    refine ⟨k, rfl, ?_⟩
    unfold RC.old at hold
    rw [List.findIdx?_eq_some_iff_getElem] at hold
    obtain ⟨hk, h1, h2⟩ := hold
    have hkU : k < U.length := by rw [h.l] at hk; simpa using hk
    have ek : R.L[k] = (U[k]).toR := by
      have := (h.get (List.getElem?_eq_getElem hkU)).1
      rw [List.getElem?_eq_getElem hk] at this
      exact Option.some.inj this
    rw [ek, sameI] at h1
    have h1 := of_decide_eq_true h1
    have hxm := h.of_mem ho (List.getElem_mem hkU)
    rw [h1] at hxm
    have hle := vway_min ho a hxm.2.2.2.2.2
    rcases Nat.lt_trichotomy k kv with hlt | he | hlt
    · exfalso
      have := (List.pairwise_iff_getElem.1 h.sorted) k kv hkU hkv hlt
      rw [ekv] at this
      omega
    · subst he
      rw [List.getElem?_eq_getElem hkU, ekv]
    · exfalso
      have hkv2 : kv < R.L.length := by rw [h.l]; simpa using hkv
      have := h2 kv hlt
      have e2 : R.L[kv] = (C.vway a).toR := by
        have := (h.get (List.getElem?_eq_getElem hkv)).1
        rw [List.getElem?_eq_getElem hkv2, ekv] at this
        exact Option.some.inj this
      rw [e2, sameI, decide_eq_true hvg.2.1] at this
      exact this rfl
theorem Rel.notfull (h : Rel C R U) (ho : C.Ok) {a : Nat} (hv : (C.vway a).valid = false) : R.full a = none := by
  have hi := ho.ix_lt a
  have hN : (C.set_ (C.ix a)).length = C.N := ho.len _ (CS.set_mem ho hi)
  have hvm : C.vway a ∈ C.set_ (C.ix a) := List.mem_of_getElem? (vway_at ho a)
  unfold RC.full
  rw [if_neg]
  intro hc
  rw [h.cnt ho a, h.n, ← hN] at hc
  have := List.countP_eq_length.1 hc _ hvm
  rw [hv] at this; cases this
theorem Rel.filled (h : Rel C R U) (ho : C.Ok) {a : Nat} (ha : a % 16 = 0) (hf : R.find a = none) (s : Nat) (hs : s ≠ 0) (bs : List Nat) (p : Option Addr) (c : Nat) :
    R.gone a = (if (C.vway a).state ≠ 0 then (C.vway a).toR else zeroR) ∧ ∃ U', Rel (C.filled a bs s) (R.filled a bs s p c) U' := by
  have hi := ho.ix_lt a
  have hno := h.no_line ha hf
  have hvz : Way.valid ⟨a, s, C.clock + 1, bs⟩ = true := by unfold Way.valid; simpa using hs
  have hz : WayAt C.S (C.ix a) (C.clock + 1) ⟨a, s, C.clock + 1, bs⟩ := ⟨fun _ => ⟨ha, rfl, by show 1 ≤ C.clock + 1; omega, Nat.le_refl _⟩, fun e => by rw [hvz] at e; cases e⟩
  cases hv : (C.vway a).valid with
  | true =>
    have hst : (C.vway a).state ≠ 0 := by unfold Way.valid at hv; simpa using hv
    obtain ⟨k, hk, hU⟩ := h.full ho hv
    rw [if_pos hst]
    refine ⟨by unfold RC.gone; rw [hk]; exact (h.get hU).2, U.eraseIdx k ++ [Way.mk a s (C.clock + 1) bs], ?_⟩
    have hm : (R.filled a bs s p c).L = (U.eraseIdx k ++ [Way.mk a s (C.clock + 1) bs]).map Way.toR := by
      show R.kept a ++ _ = _
      unfold RC.kept
      rw [hk]
      exact map_back (k := k) (z := Way.mk a s (C.clock + 1) bs) h
    refine h.put ho hi (vway_at ho a) (Way.mk a s (C.clock + 1) bs) (C.clock + 1) (by omega) (R' := R.filled a bs s p c) hz rfl rfl hm ?_ ?_ ?_
    · intro rest hp
      rw [filter_true hv] at hp
      rw [filter_true hvz]
      exact List.perm_append_comm.trans (List.Perm.cons _ ((perm_erase hU).symm.trans hp).cons_inv)
    · refine pair_snoc (pair_erase h.sorted k) fun x hx => ?_
      have := (h.of_mem ho (List.mem_of_mem_eraseIdx hx)).2.2.2.1
      show x.used < C.clock + 1
      omega
    · exact pair_snoc (pair_erase h.lines k) fun x hx => hno x (List.mem_of_mem_eraseIdx hx)
  | false =>
    have hst : ¬ (C.vway a).state ≠ 0 := by unfold Way.valid at hv; simpa using hv
    have hk := h.notfull ho hv
    rw [if_neg hst]
    refine ⟨by unfold RC.gone; rw [hk], U ++ [Way.mk a s (C.clock + 1) bs], ?_⟩
    have hm : (R.filled a bs s p c).L = (U ++ [Way.mk a s (C.clock + 1) bs]).map Way.toR := by
      show R.kept a ++ _ = _
      unfold RC.kept
      rw [hk, List.map_append, ← h.l]; rfl
    refine h.put ho hi (vway_at ho a) (Way.mk a s (C.clock + 1) bs) (C.clock + 1) (by omega) (R' := R.filled a bs s p c) hz rfl rfl hm ?_ ?_ ?_
    · intro rest hp
      rw [filter_false hv] at hp
      rw [filter_true hvz]
      exact List.perm_append_comm.trans (List.Perm.cons _ hp)
    · refine pair_snoc h.sorted fun x hx => ?_
      have := (h.of_mem ho hx).2.2.2.1
      show x.used < C.clock + 1
      omega
    · exact pair_snoc h.lines fun x hx => hno x hx
/-- at the beginning: no line -/
theorem rel_fresh {C : CS} {S N : Nat} (h : C.Fresh S N) : Rel C (freshR S N) [] := by
  refine ⟨h.s.symm, h.n.symm, rfl, ?_, List.Pairwise.nil, List.Pairwise.nil, fun i s hs y hy => ?_⟩
  · rw [h.sets]
    have : ((List.replicate S (List.replicate N zeroWay)).flatten.filter Way.valid) = [] := by
      rw [List.filter_eq_nil_iff]
      intro y hy
      obtain ⟨s, hs, hy⟩ := List.mem_flatten.1 hy
      rw [(List.mem_replicate.1 hs).2] at hy
      rw [(List.mem_replicate.1 hy).2]
      decide
    rw [this]
  · rw [h.sets] at hs
    rw [(List.mem_replicate.1 (List.mem_of_getElem? hs)).2] at hy
    rw [(List.mem_replicate.1 hy).2]
    exact ⟨fun e => (nomatch e), fun _ => rfl⟩
theorem flat_len {n : Nat} : ∀ {l : List (List Way)}, (∀ s ∈ l, s.length = n) → l.flatten.length = l.length * n
  | [], _ => by simp
  | s :: l, h => by
    rw [List.flatten_cons, List.length_append, h s (by simp), flat_len fun t ht => h t (by simp [ht]), List.length_cons, Nat.add_mul, Nat.one_mul, Nat.add_comm]
theorem Rel.ok (h : Rel C R U) (ho : C.Ok) : R.Ok := by
  have hp := ho.pos
  have h1 := ho.n1
  refine ⟨by rw [h.s]; exact hp.1, by rw [h.s]; exact hp.2, by rw [h.n]; exact ho.n0, by rw [h.n]; exact ho.n1, ?_, fun x hx => ?_⟩
  · rw [h.l, List.length_map, h.perm.length_eq]
    have h2 := List.length_filter_le Way.valid C.sets.flatten
    rw [flat_len ho.len, ho.sl] at h2
    have := Nat.mul_le_mul hp.2 h1
    omega
  · rw [h.l] at hx
    obtain ⟨y, hy, rfl⟩ := List.mem_map.1 hx
    have hm := h.of_mem ho hy
    have hw := ho.way _ (CS.set_mem ho hm.2.2.2.2.1) y hm.2.2.2.2.2
    exact ⟨hw.line, hw.state, hw.len, hw.byte⟩
end Go.Proofs.YtbiogceijdcoiaaDoor
