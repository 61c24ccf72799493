/- The law 'LsqMemory', plain: each step keeps what stands. No program in sight. -/
import Derived.Test.YtngfaiahlblkkaaDoorLsqMP
namespace Go.Proofs.YtngfaiahlblkkaaDoor
open Go.RowKit Go.XHeap Go.Sx Go.Sep Go.Bits
set_option linter.unusedVariables false
variable {a : Nat → Ac} {X : RX}

/-! ### in -/
def RX.enter (X : RX) : RX := { X with inn := X.inn + 1, J := X.J ++ [X.inn] }
theorem enter_inv (h : Inv a X) (hn : X.inn < X.n) : Inv a X.enter := by
  refine ⟨h.n60, by show X.out ≤ X.inn + 1; have := h.oi; omega, hn, h.dro, ?_, fun k => ?_, fun k hk => h.late k (by have : X.inn + 1 ≤ k := hk; omega), h.dn, h.old, h.src, h.val, h.fin, h.mem⟩
  · refine List.pairwise_append.2 ⟨h.sorted, List.pairwise_singleton _ _, fun x hx y hy => ?_⟩
    rw [List.mem_singleton.1 hy]
    exact ((h.live x).1 hx).1
  · show k ∈ X.J ++ [X.inn] ↔ k < X.inn + 1 ∧ X.dr ≤ k ∧ ((a k).store = true ∨ X.out ≤ k)
    rw [List.mem_append, List.mem_singleton, h.live]
    have h1 := h.dro
    have h2 := h.oi
    constructor
    · rintro (⟨h3, h4, h5⟩ | rfl)
      · exact ⟨by omega, h4, h5⟩
      · exact ⟨by omega, by omega, .inr h2⟩
    · rintro ⟨h3, h4, h5⟩
      by_cases e : k = X.inn
      · exact .inr e
      · exact .inl ⟨by omega, h4, h5⟩
theorem enter_list (h : Inv a X) : X.J.map (entR a X) ++ [newEn X.inn (a X.inn).store] = X.enter.J.map (entR a X.enter) := by
  show _ = (X.J ++ [X.inn]).map (entR a X)
  rw [List.map_append]
  congr 1
  show [newEn X.inn (a X.inn).store] = [entR a X X.inn]
  obtain ⟨h1, h2, h3, h4⟩ := h.late X.inn (Nat.le_refl _)
  have h5 := h.oi
  unfold entR
  rw [h1, h2, h3, h4, h4, h4, h4, decide_eq_false (by omega)]
  rfl
theorem enter_dec (h : Inv a X) (S : Nat) : enterE S (X.J.map (entR a X)) X.inn = if X.J.length = S then some 4 else none := by
  have hl : lateE (X.J.map (entR a X)) X.inn = false := by
    unfold lateE
    rw [List.getLast?_map]
    cases hq : X.J.getLast? with
    | none => rfl
    | some k =>
      have := ((h.live k).1 (List.mem_of_getLast? hq)).1
      show decide ((X.inn : Int) ≤ (k : Int)) = false
      rw [decide_eq_false (by omega)]
  unfold enterE
  rw [hl, List.length_map, if_neg (by rintro (e | e); · omega
                                      · cases e)]
/-! ### back -/
def cutB (f : Nat → Bool) (m : Nat) : Nat → Bool := fun j => if j < m then f j else false
theorem cut_lt {f : Nat → Bool} {m j : Nat} (h : j < m) : cutB f m j = f j := if_pos h
theorem cut_ge {f : Nat → Bool} {m j : Nat} (h : m ≤ j) : cutB f m j = false := if_neg (by omega)
theorem cut_true {f : Nat → Bool} {m j : Nat} (h : cutB f m j = true) : j < m ∧ f j = true := by
  unfold cutB at h
  split at h
  · rename_i e; exact ⟨e, h⟩
  · cases h
def RX.back (X : RX) (m : Nat) : RX := { X with inn := m, given := cutB X.given m, known := cutB X.known m, done := cutB X.done m, fr := fun k c => if k < m then X.fr k c else 0, J := X.J.filter fun k => decide (k < m) }
theorem back_list (m : Nat) : (X.J.filter fun k => decide (k < m)).map (entR a X) = (X.back m).J.map (entR a (X.back m)) := by
  refine List.map_congr_left fun k hk => ?_
  have hk : k < m := of_decide_eq_true (List.mem_filter.1 hk).2
  have hf : ∀ c, (X.back m).fr k c = X.fr k c := fun c => if_pos hk
  have h1 : (X.back m).given k = X.given k := cut_lt hk
  have h2 : (X.back m).known k = X.known k := cut_lt hk
  have h3 : (X.back m).done k = X.done k := cut_lt hk
  unfold entR
  rw [hf, hf, hf, hf, h1, h2, h3]; rfl
theorem back_self (h : ∀ k, X.inn ≤ k → X.given k = false ∧ X.known k = false ∧ X.done k = false ∧ ∀ c, X.fr k c = 0) (hJ : ∀ k ∈ X.J, k < X.inn) : X.back X.inn = X := by
  have h1 : ∀ (f : Nat → Bool), (∀ k, X.inn ≤ k → f k = false) → cutB f X.inn = f := fun f hf => by
    funext j
    unfold cutB
    split
    · rfl
    · rw [hf j (by omega)]
  have h2 : (fun k c => if k < X.inn then X.fr k c else 0) = X.fr := by
    funext k c
    split
    · rfl
    · rw [(h k (by omega)).2.2.2]
  have h3 : (X.J.filter fun k => decide (k < X.inn)) = X.J := List.filter_eq_self.2 fun k hk => decide_eq_true (hJ k hk)
  unfold RX.back
  rw [h1 _ fun k hk => (h k hk).1, h1 _ fun k hk => (h k hk).2.1, h1 _ fun k hk => (h k hk).2.2.1, h2, h3]
/-! ### an address -/
def RX.give (X : RX) (k : Nat) : RX := { X with given := upd X.given k true }
theorem give_list (h : Inv a X) {i k : Nat} (hk : X.J[i]? = some k) : (X.J.map (entR a X)).set i { entR a X k with placed := true, addr := 64 + (a k).B, size := (a k).S } = (X.give k).J.map (entR a (X.give k)) := by
  have : { entR a X k with placed := true, addr := 64 + (a k).B, size := (a k).S } = entR a (X.give k) k := by
    have h1 : (X.give k).given k = true := upd_same _ _ _
    unfold entR
    rw [h1]; rfl
  rw [this]
  refine map_set_at h.sorted hk fun j _ hj => ?_
  have h1 : (X.give k).given j = X.given j := upd_other _ _ hj
  unfold entR
  rw [h1]; rfl
theorem give_inv (h : Inv a X) {k m : Nat} (h1 : X.out ≤ k) (h2 : k < m) (h3 : m ≤ X.inn) (h0 : X.given k = false)
    (hb : (a k).store = true → ∀ j, k < j → j < m → X.done j = true → ∀ c, c < (a j).S → covB a k ((a j).B + c) → (k : Int) ≤ X.fr j c) : Inv a ((X.give k).back m) := by
  have h4 := h.dro
  have hg : ∀ j, j < m → ((X.give k).back m).given j = upd X.given k true j := fun j hj => cut_lt hj
  have hk0 : X.done k = false := Bool.eq_false_iff.2 fun e => by rw [(h.dn k e).1] at h0; cases h0
  refine ⟨h.n60, by show X.out ≤ m; omega, Nat.le_trans h3 h.inn, h.dro, h.sorted.sublist List.filter_sublist, fun j => ?_, fun j hj => ⟨cut_ge hj, cut_ge hj, cut_ge hj, fun c => if_neg (by have : m ≤ j := hj; omega)⟩, fun j hj => ?_, fun j hj => ?_, fun j hj hd c hc => ?_, fun j hj hd => ?_, h.fin, h.mem⟩
  · show j ∈ X.J.filter (fun k => decide (k < m)) ↔ j < m ∧ X.dr ≤ j ∧ _
    rw [List.mem_filter, h.live, decide_eq_true_eq]
    constructor
    · rintro ⟨⟨_, e2, e3⟩, e4⟩
      exact ⟨e4, e2, e3⟩
    · rintro ⟨e1, e2, e3⟩
      exact ⟨⟨by omega, e2, e3⟩, e1⟩
  · obtain ⟨e1, e2⟩ := cut_true hj
    refine ⟨?_, (h.dn j e2).2⟩
    rw [hg j e1]
    unfold upd
    split
    · rfl
    · exact (h.dn j e2).1
  · have hj : j < X.out := hj
    refine ⟨?_, fun hs => ?_⟩
    · rw [hg j (by omega), upd_other _ _ (by omega)]
      exact (h.old j hj).1
    · show cutB X.known m j = true
      rw [cut_lt (by omega)]
      exact (h.old j hj).2 hs
  · obtain ⟨e1, e2⟩ := cut_true hd
    show SrcIs a _ j _ (if j < m then X.fr j c else 0)
    rw [if_pos e1]
    have hjk : j ≠ k := fun e => by rw [e, show (X.give k).done k = X.done k from rfl, hk0] at e2; cases e2
    have hcov : ∀ i, i < m → i ≠ k → (Cov a ((X.give k).back m) i ((a j).B + c) ↔ Cov a X i ((a j).B + c)) := fun i hi hik => by
      unfold Cov
      rw [hg i hi, upd_other _ _ hik]; rfl
    have hnew : k < j → Cov a ((X.give k).back m) k ((a j).B + c) → (k : Int) ≤ X.fr j c := fun hlt hc2 => hb hc2.2.1 j hlt e1 e2 c hc hc2.2.2.2
    have hold : ¬ Cov a X k ((a j).B + c) := fun hc => by
      have := hc.2.2.1
      rw [h0] at this; cases this
    rcases h.src j hj e2 c hc with ⟨e3, e4⟩ | ⟨i, e3, e4, e5, e6⟩
    · refine .inl ⟨e3, fun i hi hc2 => ?_⟩
      by_cases hik : i = k
      · subst hik
        have := hnew hi hc2
        omega
      · exact e4 i hi ((hcov i (by omega) hik).1 hc2)
    · have hik : i ≠ k := fun e => hold (e ▸ e5)
      refine .inr ⟨i, e3, e4, (hcov i (by omega) hik).2 e5, fun i' h5 h6 hc2 => ?_⟩
      by_cases hik2 : i' = k
      · subst hik2
        have := hnew h6 hc2
        omega
      · exact e6 i' h5 h6 ((hcov i' (by omega) hik2).1 hc2)
  · obtain ⟨e1, e2⟩ := cut_true hd
    rw [show ((X.give k).back m).got j = X.got j from rfl, h.val j hj e2]
    refine hiB_congr _ _ fun c hc => ?_
    unfold valAt
    have : ((X.give k).back m).fr j ((a j).B + c - (a j).B) = X.fr j ((a j).B + c - (a j).B) := if_pos e1
    rw [this]; rfl
/-- the first that went ahead -/
theorem first_ahead {f : Nat → En} (hf : ∀ k, (f k).seq = k) (P : En → Bool) : ∀ {es : Ens} {J : List Nat}, es.map (·.2) = J.map f → J.Pairwise (· < ·) →
    (seqOf (es.find? fun x => P x.2) = -1 ∧ ∀ j ∈ J, P (f j) = false) ∨ ∃ m, m ∈ J ∧ seqOf (es.find? fun x => P x.2) = (m : Nat) ∧ P (f m) = true ∧ ∀ j ∈ J, j < m → P (f j) = false
  | [], [], _, _ => .inl ⟨rfl, fun j hj => by cases hj⟩
  | [], _ :: _, h, _ => by simp at h
  | _ :: _, [], h, _ => by simp at h
  | x :: es, k :: J, h, hs => by
    rw [List.map_cons, List.map_cons] at h
    injection h with e1 e2
    rw [List.find?_cons]
    cases hp : P x.2 with
    | true =>
      refine .inr ⟨k, by simp, ?_, by rw [← e1, hp], fun j hj hlt => ?_⟩
      · show x.2.seq = (k : Int)
        rw [e1, hf]
      · rcases List.mem_cons.1 hj with rfl | hj
        · omega
        · have := (List.pairwise_cons.1 hs).1 j hj; omega
    | false =>
      rcases first_ahead hf P e2 (List.pairwise_cons.1 hs).2 with ⟨h3, h4⟩ | ⟨m, h3, h4, h5, h6⟩
      · refine .inl ⟨h3, fun j hj => ?_⟩
        rcases List.mem_cons.1 hj with rfl | hj
        · rw [← e1, hp]
        · exact h4 j hj
      · refine .inr ⟨m, by simp [h3], h4, h5, fun j hj hlt => ?_⟩
        rcases List.mem_cons.1 hj with rfl | hj
        · rw [← e1, hp]
        · exact h6 j hj hlt
theorem mem_drop {J : List Nat} (hs : J.Pairwise (· < ·)) {i k : Nat} (hk : J[i]? = some k) (j : Nat) : j ∈ J.drop (i + 1) ↔ j ∈ J ∧ k < j := by
  have h1 := mem_take hs hk j
  obtain ⟨hi, rfl⟩ := List.getElem?_eq_some_iff.1 hk
  have h2 : J = J.take i ++ J[i] :: J.drop (i + 1) := by rw [← List.drop_eq_getElem_cons hi, List.take_append_drop]
  have h3 : j ∈ J ↔ j ∈ J.take i ∨ j = J[i] ∨ j ∈ J.drop (i + 1) := by
    conv => lhs; rw [h2]
    rw [List.mem_append, List.mem_cons]
  constructor
  · intro hj
    refine ⟨h3.2 (.inr (.inr hj)), ?_⟩
    rw [h2] at hs
    exact (List.pairwise_cons.1 (List.pairwise_append.1 hs).2.1).1 j hj
  · rintro ⟨hj, hlt⟩
    rcases h3.1 hj with h4 | h4 | h4
    · have := (h1.1 h4).2; omega
    · omega
    · exact h4
theorem ahead_ent {k j : Nat} (hg : X.given j = true) : aheadP (k : Nat) (64 + (a k).B) (a k).S (entR a X j) = true ↔ X.done j = true ∧ ∃ c, c < (a j).S ∧ covB a k ((a j).B + c) ∧ X.fr j c < (k : Int) := by
  have hS := (a j).S_is
  unfold aheadP covB
  show (X.done j && (List.range (if X.given j then (a j).S else 0)).any fun c => decide (64 + (a k).B ≤ (if X.given j then 64 + (a j).B else 0) + c ∧ (if X.given j then 64 + (a j).B else 0) + c < 64 + (a k).B + (a k).S) && decide ((entR a X j).fr c < (k : Int))) = true ↔ _
  rw [hg, if_pos rfl, if_pos rfl, Bool.and_eq_true, List.any_eq_true]
  have hfr : ∀ c, c < 4 → (entR a X j).fr c = X.fr j c := fun c hc => by
    match c, hc with
    | 0, _ => rfl
    | 1, _ => rfl
    | 2, _ => rfl
    | 3, _ => rfl
  constructor
  · rintro ⟨h1, c, hc, h2⟩
    have hc := List.mem_range.1 hc
    rw [Bool.and_eq_true, decide_eq_true_eq, decide_eq_true_eq, hfr c (by omega)] at h2
    exact ⟨h1, c, hc, by omega, h2.2⟩
  · rintro ⟨h1, c, hc, h2, h3⟩
    refine ⟨h1, c, List.mem_range.2 hc, ?_⟩
    rw [Bool.and_eq_true, decide_eq_true_eq, decide_eq_true_eq, hfr c (by omega)]
    exact ⟨by omega, h3⟩
/-- what Address answers -/
theorem addr_ans (h : Inv a X) {i k : Nat} (hk : X.J[i]? = some k) (ho : X.out ≤ k) {es : Ens} (hes : es.map (·.2) = X.J.map (entR a X)) :
    (aheadR (k : Nat) (64 + (a k).B) (a k).S i es (entR a X k) = -1 ∧ ((a k).store = true → ∀ j, k < j → j < X.inn → X.done j = true → ∀ c, c < (a j).S → covB a k ((a j).B + c) → (k : Int) ≤ X.fr j c)) ∨
    ∃ m : Nat, aheadR (k : Nat) (64 + (a k).B) (a k).S i es (entR a X k) = m ∧ k < m ∧ m < X.inn ∧ X.done m = true ∧ (a m).store = false ∧ ((a k).store = true → ∀ j, k < j → j < m → X.done j = true → ∀ c, c < (a j).S → covB a k ((a j).B + c) → (k : Int) ≤ X.fr j c) := by
  have hz : aheadR (k : Nat) (64 + (a k).B) (a k).S i es (entR a X k) = if (a k).store = true then seqOf ((es.drop (i + 1)).find? fun x => aheadP (k : Nat) (64 + (a k).B) (a k).S x.2) else -1 := rfl
  rw [hz]
  have hd := h.dro
  cases hst : (a k).store with
  | false => exact .inl ⟨rfl, fun e => by cases e⟩
  | true =>
    rw [if_pos rfl]
    have hes2 : (es.drop (i + 1)).map (·.2) = (X.J.drop (i + 1)).map (entR a X) := by rw [List.map_drop, hes, List.map_drop]
    have use : ∀ j, X.done j = true → aheadP (k : Nat) (64 + (a k).B) (a k).S (entR a X j) = false → ∀ c, c < (a j).S → covB a k ((a j).B + c) → (k : Int) ≤ X.fr j c := by
      intro j h3 h4 c hc hcov
      by_cases e : X.fr j c < (k : Int)
      · rw [(ahead_ent (h.dn j h3).1).2 ⟨h3, c, hc, hcov, e⟩] at h4; cases h4
      · omega
    have inD : ∀ j, k < j → j < X.inn → j ∈ X.J.drop (i + 1) := fun j h1 h2 => (mem_drop h.sorted hk j).2 ⟨(h.live j).2 ⟨h2, by omega, .inr (by omega)⟩, h1⟩
    rcases first_ahead (f := entR a X) (fun _ => rfl) (fun e => aheadP (k : Nat) (64 + (a k).B) (a k).S e) hes2 (h.sorted.sublist (List.drop_sublist _ _)) with ⟨h1, h2⟩ | ⟨m, h1, h2, h3, h4⟩
    · exact .inl ⟨h1, fun _ j h3 h4 h5 => use j h5 (h2 j (inD j h3 h4))⟩
    · have hm := (mem_drop h.sorted hk m).1 h1
      have hml := (h.live m).1 hm.1
      have hdm : X.done m = true := by
        unfold aheadP at h3
        rw [Bool.and_eq_true] at h3
        exact h3.1
      exact .inr ⟨m, h2, hm.2, hml.1, hdm, (h.dn m hdm).2, fun _ j h5 h6 h7 => use j h7 (h4 j (inD j h5 (by omega)) h6)⟩
/-! ### a value -/
def RX.value (X : RX) (k : Nat) : RX := { X with known := upd X.known k true }
theorem value_list (h : Inv a X) {i k : Nat} (hk : X.J[i]? = some k) : (X.J.map (entR a X)).set i { entR a X k with valued := true, data := (a k).data } = (X.value k).J.map (entR a (X.value k)) := by
  have : { entR a X k with valued := true, data := (a k).data } = entR a (X.value k) k := by
    have h1 : (X.value k).known k = true := upd_same _ _ _
    unfold entR
    rw [h1]; rfl
  rw [this]
  refine map_set_at h.sorted hk fun j _ hj => ?_
  have h1 : (X.value k).known j = X.known j := upd_other _ _ hj
  unfold entR
  rw [h1]; rfl
theorem value_inv (h : Inv a X) {k : Nat} (h1 : X.out ≤ k) (h2 : k < X.inn) : Inv a (X.value k) :=
  ⟨h.n60, h.oi, h.inn, h.dro, h.sorted, h.live, fun j hj => ⟨(h.late j hj).1, by
    show upd X.known k true j = false
    rw [upd_other _ _ (by have : X.inn ≤ j := hj; omega)]
    exact (h.late j hj).2.1, (h.late j hj).2.2⟩, h.dn, fun j hj => ⟨(h.old j hj).1, fun hs => by
    show upd X.known k true j = true
    rw [upd_other _ _ (by have : j < X.out := hj; omega)]
    exact (h.old j hj).2 hs⟩, h.src, h.val, h.fin, h.mem⟩
/-! ### a load has its bytes -/
def RX.load (X : RX) (k v : Nat) (F : Nat → Int) : RX := { X with got := upd X.got k v, done := upd X.done k true, fr := upd X.fr k F }
theorem load_list (h : Inv a X) {i k v : Nat} (hk : X.J[i]? = some k) (F : Nat → Int) : (X.J.map (entR a X)).set i { entR a X k with loaded := true, f0 := F 0, f1 := F 1, f2 := F 2, f3 := F 3 } = (X.load k v F).J.map (entR a (X.load k v F)) := by
  have : { entR a X k with loaded := true, f0 := F 0, f1 := F 1, f2 := F 2, f3 := F 3 } = entR a (X.load k v F) k := by
    have h1 : (X.load k v F).done k = true := upd_same _ _ _
    have h2 : (X.load k v F).fr k = F := upd_same _ _ _
    unfold entR
    rw [h1, h2]; rfl
  rw [this]
  refine map_set_at h.sorted hk fun j _ hj => ?_
  have h1 : (X.load k v F).done j = X.done j := upd_other _ _ hj
  have h2 : (X.load k v F).fr j = X.fr j := upd_other _ _ hj
  unfold entR
  rw [h1, h2]; rfl
theorem load_inv (h : Inv a X) {k v : Nat} {F : Nat → Int} (h1 : X.out ≤ k) (h2 : k < X.inn) (hg : X.given k = true) (hst : (a k).store = false) (hF : ∀ c, c < (a k).S → SrcIs a X k ((a k).B + c) (F c))
    (hv : v = hiB (fun x => if F (x - (a k).B) = -1 then X.mem x else byteD a (F (x - (a k).B)).toNat x) (a k).S (a k).B) : Inv a (X.load k v F) := by
  refine ⟨h.n60, h.oi, h.inn, h.dro, h.sorted, h.live, fun j hj => ?_, fun j hj => ?_, h.old, fun j hj hd c hc => ?_, fun j hj hd => ?_, fun j hj hs => ?_, h.mem⟩
  · have hj : X.inn ≤ j := hj
    refine ⟨(h.late j hj).1, (h.late j hj).2.1, ?_, fun c => ?_⟩
    · show upd X.done k true j = false
      rw [upd_other _ _ (by omega)]
      exact (h.late j hj).2.2.1
    · show upd X.fr k F j c = 0
      rw [upd_other _ _ (by omega)]
      exact (h.late j hj).2.2.2 c
  · by_cases e : j = k
    · subst e; exact ⟨hg, hst⟩
    · have hj : upd X.done k true j = true := hj
      rw [upd_other _ _ e] at hj
      exact h.dn j hj
  · show SrcIs a X j ((a j).B + c) (upd X.fr k F j c)
    by_cases e : j = k
    · subst e; rw [upd_same]; exact hF c hc
    · have hd : upd X.done k true j = true := hd
      rw [upd_other _ _ e] at hd ⊢
      exact h.src j hj hd c hc
  · by_cases e : j = k
    · subst e
      have hfr : (X.load j v F).fr j = F := upd_same _ _ _
      show upd X.got j v j = hiB (valAt a (X.load j v F) j) _ _
      unfold valAt
      rw [hfr, upd_same]
      exact hv
    · have hd : upd X.done k true j = true := hd
      rw [upd_other _ _ e] at hd
      show upd X.got k v j = _
      rw [upd_other _ _ e, h.val j hj hd]
      unfold valAt
      have : (X.load k v F).fr j = X.fr j := upd_other _ _ e
      rw [this]; rfl
  · have hj : j < X.out := hj
    show upd X.got k v j = _
    rw [upd_other _ _ (by omega)]
    exact h.fin j hj hs
/-! ### retired -/
theorem mem_erase {J : List Nat} (hs : J.Pairwise (· < ·)) {i k : Nat} (hk : J[i]? = some k) (j : Nat) : j ∈ J.eraseIdx i ↔ j ∈ J ∧ j ≠ k := by
  have h1 := mem_take hs hk j
  have h2 := mem_drop hs hk j
  rw [List.eraseIdx_eq_take_drop_succ, List.mem_append, h1, h2]
  constructor
  · rintro (⟨h3, h4⟩ | ⟨h3, h4⟩)
    · exact ⟨h3, by omega⟩
    · exact ⟨h3, by omega⟩
  · rintro ⟨h3, h4⟩
    rcases Nat.lt_or_gt_of_ne h4 with h | h
    · exact .inl ⟨h3, h⟩
    · exact .inr ⟨h3, h⟩
def RX.ret (X : RX) : RX := { X with out := X.out + 1 }
theorem ret_ent {j : Nat} (h : j ≠ X.out) (J : List Nat) : entR a { X with out := X.out + 1, J := J } j = entR a X j := by
  have : decide (j < X.out + 1) = decide (j < X.out) := by
    by_cases e : j < X.out
    · rw [decide_eq_true e, decide_eq_true (by omega)]
    · rw [decide_eq_false e, decide_eq_false (by omega)]
  unfold entR
  rw [show ({ X with out := X.out + 1, J := J } : RX).out = X.out + 1 from rfl, this]
theorem ret_list (h : Inv a X) {i : Nat} (hk : X.J[i]? = some X.out) : (X.J.map (entR a X)).set i { entR a X X.out with retired := true } = X.ret.J.map (entR a X.ret) := by
  have : { entR a X X.out with retired := true } = entR a X.ret X.out := by
    have : decide (X.out < X.out + 1) = true := decide_eq_true (Nat.lt_succ_self _)
    unfold entR
    rw [show X.ret.out = X.out + 1 from rfl, this]; rfl
  rw [this]
  exact map_set_at h.sorted hk fun j _ hj => ret_ent hj X.J
theorem ret_inv (h : Inv a X) (h1 : X.out < X.inn) (hg : X.given X.out = true) (hs : (a X.out).store = true) (hv : X.known X.out = true) : Inv a X.ret := by
  refine ⟨h.n60, h1, h.inn, by show X.dr ≤ X.out + 1; have := h.dro; omega, h.sorted, fun k => ?_, h.late, h.dn, fun k hk => ?_, fun k hk => h.src k (by have : X.out + 1 ≤ k := hk; omega), fun k hk => h.val k (by have : X.out + 1 ≤ k := hk; omega), fun k hk hst => ?_, h.mem⟩
  · show k ∈ X.J ↔ k < X.inn ∧ X.dr ≤ k ∧ ((a k).store = true ∨ X.out + 1 ≤ k)
    rw [h.live]
    constructor
    · rintro ⟨h2, h3, h4⟩
      refine ⟨h2, h3, h4.elim .inl fun h4 => ?_⟩
      by_cases e : k = X.out
      · subst e; exact .inl hs
      · exact .inr (by omega)
    · rintro ⟨h2, h3, h4⟩
      exact ⟨h2, h3, h4.imp id (by omega)⟩
  · by_cases e : k = X.out
    · subst e; exact ⟨hg, fun _ => hv⟩
    · exact h.old k (by have : k < X.out + 1 := hk; omega)
  · by_cases e : k = X.out
    · subst e; rw [hs] at hst; cases hst
    · exact h.fin k (by have : k < X.out + 1 := hk; omega) hst
def RX.retl (X : RX) (i : Nat) : RX := { X with out := X.out + 1, J := X.J.eraseIdx i }
theorem mapErase {α β : Type} (f : α → β) : ∀ (l : List α) (k : Nat), (l.eraseIdx k).map f = (l.map f).eraseIdx k
  | [], _ => rfl
  | _ :: _, 0 => rfl
  | x :: l, k + 1 => by
    show f x :: (l.eraseIdx k).map f = f x :: (l.map f).eraseIdx k
    rw [mapErase f l k]
theorem retl_list (h : Inv a X) {i : Nat} (hk : X.J[i]? = some X.out) : (X.J.map (entR a X)).eraseIdx i = (X.retl i).J.map (entR a (X.retl i)) := by
  rw [← mapErase]
  refine List.map_congr_left fun j hj => ?_
  exact (ret_ent ((mem_erase h.sorted hk j).1 hj).2 _).symm
/-- of what is older all is known: a load's byte is what the program's order says -/
theorem spec_of (h : Inv a X) {x : Nat} {r : Int} (hr : SrcIs a X X.out x r) : (if r = -1 then X.mem x else byteD a r.toNat x) = spec a X.out x := by
  have hd := h.dro
  rcases hr with ⟨rfl, h1⟩ | ⟨j, rfl, h1, h2, h3⟩
  · rw [if_pos rfl, h.mem, spec_skip X.out h.dro fun i h2 h3 h4 => h1 i h3 ⟨h2, h4.1, (h.old i h3).1, h4.2⟩]
  · rw [if_neg (by omega), Int.toNat_natCast, spec_skip (j := j + 1) X.out h1 fun i h4 h5 h6 => h3 i (by omega) h5 ⟨by have := h2.1; omega, h6.1, (h.old i h5).1, h6.2⟩]
    show _ = if (a j).store = true ∧ covB a j x then byteD a j x else spec a j x
    rw [if_pos ⟨h2.2.1, h2.2.2.2⟩]
theorem retl_inv (h : Inv a X) {i : Nat} (hk : X.J[i]? = some X.out) (h1 : X.out < X.inn) (hd : X.done X.out = true) : Inv a (X.retl i) := by
  obtain ⟨hg, hs⟩ := h.dn _ hd
  refine ⟨h.n60, h1, h.inn, by show X.dr ≤ X.out + 1; have := h.dro; omega, h.sorted.sublist (List.eraseIdx_sublist _ _), fun k => ?_, h.late, h.dn, fun k hk2 => ?_, fun k hk => h.src k (by have : X.out + 1 ≤ k := hk; omega), fun k hk => h.val k (by have : X.out + 1 ≤ k := hk; omega), fun k hk2 hst => ?_, h.mem⟩
  · show k ∈ X.J.eraseIdx i ↔ k < X.inn ∧ X.dr ≤ k ∧ ((a k).store = true ∨ X.out + 1 ≤ k)
    rw [mem_erase h.sorted hk, h.live]
    constructor
    · rintro ⟨⟨h2, h3, h4⟩, h5⟩
      exact ⟨h2, h3, h4.imp id fun h4 => by omega⟩
    · rintro ⟨h2, h3, h4⟩
      refine ⟨⟨h2, h3, h4.imp id (by omega)⟩, fun e => ?_⟩
      subst e
      rcases h4 with h4 | h4
      · rw [hs] at h4; cases h4
      · omega
  · by_cases e : k = X.out
    · subst e; exact ⟨hg, fun e => by rw [hs] at e; cases e⟩
    · exact h.old k (by have : k < X.out + 1 := hk2; omega)
  · by_cases e : k = X.out
    · subst e
      show X.got X.out = _
      rw [h.val X.out (Nat.le_refl _) hd]
      refine hiB_congr _ _ fun c hc => ?_
      have := h.src X.out (Nat.le_refl _) hd c hc
      unfold valAt
      rw [Nat.add_sub_cancel_left]
      exact spec_of h this
    · exact h.fin k (by have : k < X.out + 1 := hk2; omega) hst
theorem ret_pos (h : Inv a X) {i : Nat} (hk : X.J[i]? = some X.out) : (X.J.map (entR a X)).findIdx? (fun e => !e.retired) = some i := by
  refine pos_at h.sorted hk ?_ fun j _ hj => ?_
  · show (!decide (X.out < X.out)) = true
    rw [decide_eq_false (Nat.lt_irrefl _)]; rfl
  · show (!decide (j < X.out)) = false
    rw [decide_eq_true hj]; rfl
theorem find_pos (h : Inv a X) {i k : Nat} (hk : X.J[i]? = some k) (ho : X.out ≤ k) : (X.J.map (entR a X)).findIdx? (findP k) = some i := by
  refine pos_at h.sorted hk ?_ fun j _ hj => ?_
  · show ((k : Int) == (k : Int) && !decide (k < X.out)) = true
    rw [decide_eq_false (by omega), beq_self_eq_true]; rfl
  · show ((j : Int) == (k : Int) && !decide (j < X.out)) = false
    rw [show ((j : Int) == (k : Int)) = false from by rw [beq_eq_false_iff_ne]; omega]; rfl
/-! ### the oldest is written -/
def RX.drain (a : Nat → Ac) (X : RX) (o : Nat) (J : List Nat) : RX := { X with dr := o + 1, mem := fun x => if covB a o x then byteD a o x else X.mem x, fr := fun k c => if X.done k = true ∧ X.fr k c = (o : Int) then -1 else X.fr k c, J := J }
theorem en_ext {e r : En} (h : core e = core r) (hf : ∀ c, c < 4 → e.fr c = r.fr c) : e = r := by
  obtain ⟨a1, a2, a3, a4, a5, a6, a7, a8, a9, a10, a11, a12, a13⟩ := e
  obtain ⟨b1, b2, b3, b4, b5, b6, b7, b8, b9, b10, b11, b12, b13⟩ := r
  have h0 : a9 = b9 := hf 0 (by decide)
  have h1 : a10 = b10 := hf 1 (by decide)
  have h2 : a11 = b11 := hf 2 (by decide)
  have h3 : a12 = b12 := hf 3 (by decide)
  unfold core at h
  dsimp only at h
  injection h
  subst h0 h1 h2 h3
  subst_vars
  rfl
theorem ent_fr (k c : Nat) (hc : c < 4) : (entR a X k).fr c = X.fr k c := by
  match c, hc with
  | 0, _ => rfl
  | 1, _ => rfl
  | 2, _ => rfl
  | 3, _ => rfl
theorem drain_list (o : Nat) (J : List Nat) : (J.map (entR a X)).map (fun e => drainB o e 4) = (X.drain a o J).J.map (entR a (X.drain a o J)) := by
  rw [List.map_map]
  refine List.map_congr_left fun k _ => ?_
  obtain ⟨h1, h2⟩ := drain_facts (o : Int) (entR a X k) 4 (Nat.le_refl _)
  refine en_ext (h1.trans rfl) fun c hc => ?_
  rw [show (((fun e => drainB (o : Int) e 4) ∘ entR a X) k).fr c = (drainB (o : Int) (entR a X k) 4).fr c from rfl, h2 c hc, ent_fr k c hc, ent_fr k c hc]
  show (if c < 4 ∧ X.done k = true ∧ X.fr k c = (o : Int) then -1 else X.fr k c) = if X.done k = true ∧ X.fr k c = (o : Int) then -1 else X.fr k c
  by_cases e : X.done k = true ∧ X.fr k c = (o : Int)
  · rw [if_pos ⟨hc, e⟩, if_pos e]
  · rw [if_neg (fun h => e h.2), if_neg e]
theorem drain_inv (h : Inv a X) {o : Nat} {J : List Nat} (hJ : X.J = o :: J) (ho : o < X.out) : Inv a (X.drain a o J) := by
  have hs := h.sorted
  rw [hJ] at hs
  have hs2 := List.pairwise_cons.1 hs
  have hoJ := (h.live o).1 (by rw [hJ]; simp)
  have host : (a o).store = true := hoJ.2.2.elim id (fun e => by omega)
  have none : ∀ j, X.dr ≤ j → j < o → ¬ (a j).store = true := fun j h1 h2 h3 => by
    have : j ∈ X.J := (h.live j).2 ⟨by omega, h1, .inl h3⟩
    rw [hJ] at this
    rcases List.mem_cons.1 this with e | e
    · omega
    · have := hs2.1 j e; omega
  have hcov : ∀ j x, Cov a (X.drain a o J) j x ↔ Cov a X j x ∧ j ≠ o := by
    intro j x
    constructor
    · rintro ⟨h1, h2, h3, h4⟩
      have h1 : o + 1 ≤ j := h1
      exact ⟨⟨by omega, h2, h3, h4⟩, by omega⟩
    · rintro ⟨⟨h1, h2, h3, h4⟩, h5⟩
      refine ⟨?_, h2, h3, h4⟩
      show o + 1 ≤ j
      by_cases e : j < o
      · exact absurd h2 (none j h1 e)
      · omega
  have ocov : ∀ x, covB a o x → Cov a X o x := fun x hx => ⟨hoJ.2.1, host, (h.old o ho).1, hx⟩
  refine ⟨h.n60, h.oi, h.inn, ho, hs2.2, fun k => ?_, fun k hk => ⟨(h.late k hk).1, (h.late k hk).2.1, (h.late k hk).2.2.1, fun c => ?_⟩, h.dn, h.old, fun k hk hd c hc => ?_, fun k hk hd => ?_, h.fin, fun x => ?_⟩
  · have h1 := h.live k
    rw [hJ, List.mem_cons] at h1
    show k ∈ J ↔ k < X.inn ∧ o + 1 ≤ k ∧ ((a k).store = true ∨ X.out ≤ k)
    constructor
    · intro hk
      have h2 := h1.1 (.inr hk)
      have := hs2.1 k hk
      exact ⟨h2.1, this, h2.2.2⟩
    · rintro ⟨h2, h3, h4⟩
      rcases h1.2 ⟨h2, by omega, h4⟩ with e | e
      · omega
      · exact e
  · show (if X.done k = true ∧ X.fr k c = (o : Int) then -1 else X.fr k c) = 0
    rw [(h.late k hk).2.2.1, if_neg (by rintro ⟨e, -⟩; cases e)]
    exact (h.late k hk).2.2.2 c
  · have hd : X.done k = true := hd
    show SrcIs a _ k _ (if X.done k = true ∧ X.fr k c = (o : Int) then -1 else X.fr k c)
    have hk : X.out ≤ k := hk
    rcases h.src k hk hd c hc with ⟨e1, e2⟩ | ⟨j, e1, e2, e3, e4⟩
    · rw [if_neg (by rintro ⟨-, e⟩; omega)]
      exact .inl ⟨e1, fun j hj hc2 => e2 j hj ((hcov j _).1 hc2).1⟩
    · by_cases e : j = o
      · rw [if_pos ⟨hd, by omega⟩]
        refine .inl ⟨rfl, fun i hi hc2 => ?_⟩
        obtain ⟨h5, h6⟩ := (hcov i _).1 hc2
        by_cases h7 : i < o
        · exact none i h5.1 h7 h5.2.1
        · exact e4 i (by omega) hi h5
      · rw [if_neg (by rintro ⟨-, e5⟩; omega)]
        exact .inr ⟨j, e1, e2, (hcov j _).2 ⟨e3, e⟩, fun i h5 h6 hc2 => e4 i h5 h6 ((hcov i _).1 hc2).1⟩
  · have hd : X.done k = true := hd
    have hk : X.out ≤ k := hk
    show X.got k = _
    rw [h.val k hk hd]
    refine hiB_congr _ _ fun c hc => ?_
    have hsrc := h.src k hk hd c hc
    unfold valAt
    rw [Nat.add_sub_cancel_left]
    show _ = if (if X.done k = true ∧ X.fr k c = (o : Int) then (-1 : Int) else X.fr k c) = -1 then (if covB a o ((a k).B + c) then byteD a o ((a k).B + c) else X.mem ((a k).B + c)) else byteD a (if X.done k = true ∧ X.fr k c = (o : Int) then (-1 : Int) else X.fr k c).toNat ((a k).B + c)
    rcases hsrc with ⟨e1, e2⟩ | ⟨j, e1, e2, e3, e4⟩
    · have e5 : (if X.done k = true ∧ X.fr k c = (o : Int) then (-1 : Int) else X.fr k c) = -1 := by rw [if_neg (by rintro ⟨-, e⟩; omega), e1]
      rw [e5, if_pos e1, if_pos rfl, if_neg fun e => e2 o (by omega) (ocov _ e)]
    · by_cases e : j = o
      · subst e
        have e5 : (if X.done k = true ∧ X.fr k c = (j : Int) then (-1 : Int) else X.fr k c) = -1 := if_pos ⟨hd, e1⟩
        rw [e5, if_neg (show ¬ X.fr k c = -1 by omega), if_pos rfl, if_pos e3.2.2.2, e1, Int.toNat_natCast]
      · have e5 : (if X.done k = true ∧ X.fr k c = (o : Int) then (-1 : Int) else X.fr k c) = X.fr k c := if_neg (by rintro ⟨-, e5⟩; omega)
        rw [e5, if_neg (show ¬ X.fr k c = -1 by omega), if_neg (show ¬ X.fr k c = -1 by omega)]
  · show (if covB a o x then byteD a o x else X.mem x) = if (a o).store = true ∧ covB a o x then byteD a o x else spec a o x
    rw [h.mem]
    by_cases e : covB a o x
    · rw [if_pos e, if_pos ⟨host, e⟩]
    · rw [if_neg e, if_neg fun h => e h.2, spec_skip o hoJ.2.1 fun i h1 h2 h3 => none i h1 h2 h3.1]
/-! ### how far -/
/-- what is in the queue or has still to come in -/
def RX.psi (X : RX) : Nat := X.J.length + (X.n - X.inn)
theorem psi_enter (h : Inv a X) (hn : X.inn < X.n) : X.enter.psi = X.psi := by
  show (X.J ++ [X.inn]).length + (X.n - (X.inn + 1)) = X.J.length + (X.n - X.inn)
  rw [List.length_append]
  show X.J.length + 1 + _ = _
  omega
theorem psi_back (h : Inv a X) {m : Nat} (h1 : X.out ≤ m) (h2 : m ≤ X.inn) : (X.back m).psi = X.psi := by
  show (X.J.filter fun k => decide (k < m)).length + (X.n - m) = X.J.length + (X.n - X.inn)
  have h3 := h.inn
  have key : ∀ d, m + d ≤ X.inn → (X.J.filter fun k => decide (k < m + d)).length = (X.J.filter fun k => decide (k < m)).length + d := by
    intro d
    induction d with
    | zero => intro _; rfl
    | succ d ih =>
      intro hd
      have ih := ih (by omega)
      obtain ⟨i, hi⟩ := h.pos (k := m + d) (by omega) (by omega)
      have hs := h.sorted
      have hl := (List.getElem?_eq_some_iff.1 hi).1
      have e1 : (X.J.filter fun k => decide (k < m + d)) = X.J.take i := by
        have : ∀ (P Q : List Nat), (∀ x ∈ P, x < m + d) → (∀ x ∈ Q, ¬ x < m + d) → ((P ++ Q).filter fun k => decide (k < m + d)) = P := fun P Q hP hQ => by
          rw [List.filter_append, List.filter_eq_self.2 fun x hx => decide_eq_true (hP x hx), List.filter_eq_nil_iff.2 fun x hx => by rw [decide_eq_true_eq]; exact hQ x hx, List.append_nil]
        conv => lhs; rw [← List.take_append_drop i X.J]
        refine this _ _ (fun x hx => ((mem_take hs hi x).1 hx).2) fun x hx => ?_
        rw [List.drop_eq_getElem_cons hl] at hx
        rcases List.mem_cons.1 hx with e | e
        · have : X.J[i] = m + d := (List.getElem?_eq_some_iff.1 hi).2
          omega
        · have := ((mem_drop hs hi x).1 e).2; omega
      have e2 : (X.J.filter fun k => decide (k < m + (d + 1))) = X.J.take (i + 1) := by
        have : ∀ (P Q : List Nat), (∀ x ∈ P, x < m + (d + 1)) → (∀ x ∈ Q, ¬ x < m + (d + 1)) → ((P ++ Q).filter fun k => decide (k < m + (d + 1))) = P := fun P Q hP hQ => by
          rw [List.filter_append, List.filter_eq_self.2 fun x hx => decide_eq_true (hP x hx), List.filter_eq_nil_iff.2 fun x hx => by rw [decide_eq_true_eq]; exact hQ x hx, List.append_nil]
        conv => lhs; rw [← List.take_append_drop (i + 1) X.J]
        refine this _ _ (fun x hx => ?_) fun x hx => ?_
        · rw [List.take_add_one, hi] at hx
          rcases List.mem_append.1 hx with e | e
          · have := ((mem_take hs hi x).1 e).2; omega
          · have : x = m + d := by simpa using e
            omega
        · have := ((mem_drop hs hi x).1 hx).2; omega
      rw [e1, List.length_take] at ih
      rw [e2, List.length_take]
      omega
  have := key (X.inn - m) (by omega)
  rw [show m + (X.inn - m) = X.inn by omega, List.filter_eq_self.2 fun k hk => decide_eq_true ((h.live k).1 hk).1] at this
  omega
end Go.Proofs.YtngfaiahlblkkaaDoor
