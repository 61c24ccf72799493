/- The plain law of 'WindowFlows', part D: the chain's rounds, the free ones are done. No program in sight. -/
import Derived.Test.YtdliholhfiihcaaDoorWinX
namespace Go.Proofs.YtdliholhfiihcaaDoor
open Go.RowKit Go.XHeap Go.Sx Go.Sep
set_option linter.unusedVariables false

theorem flow_congr {w : WS} {S m : Nat} {inb : Nat → Bool} {st st' : Nat → Nat} {wk : Nat → Bool} (h : Flow w S inb m st wk) (e : ∀ k, k < m → st k = st' k) : Flow w S inb m st' wk :=
  ⟨h.ok, h.s, h.r, h.head, h.n, h.next, fun k hk => by rw [h.slot k hk, e k hk], h.ready⟩
theorem flow_wk {w : WS} {S m : Nat} {inb : Nat → Bool} {st : Nat → Nat} {wk wk' : Nat → Bool} (h : Flow w S inb m st wk) (e : ∀ k, wk k = wk' k) : Flow w S inb m st wk' := by
  have : wk = wk' := funext e
  subst this; exact h
theorem free_nodup (inb : Nat → Bool) (S : Nat) : (freeL inb S).Nodup := List.Nodup.sublist List.filter_sublist List.nodup_range
theorem notin_take {l : List Nat} (hn : l.Nodup) {j : Nat} (hj : j < l.length) : l[j] ∉ l.take j := by
  intro hm
  obtain ⟨i, hi, e⟩ := List.getElem_of_mem hm
  rw [List.getElem_take] at e
  rw [List.length_take] at hi
  exact List.pairwise_iff_getElem.1 hn i j (by omega) hj (by omega) e
theorem mem_take_succ {l : List Nat} {j : Nat} (hj : j < l.length) (k : Nat) : k ∈ l.take (j + 1) ↔ k ∈ l.take j ∨ k = l[j] := by
  rw [List.take_add_one, List.getElem?_eq_getElem hj, List.mem_append]
  simp
/-- one round of the chain: who is ready -/
theorem chain_go {w : WS} {S j : Nat} {inb : Nat → Bool} (hS : S ≤ 64) (hj : j < (chainL inb S).length)
    (h : Flow w S inb S (stC inb ((chainL inb S).take j)) (fun k => decide (k ∈ (chainL inb S).take j))) :
    (chainL inb S)[j] < S ∧ inb (chainL inb S)[j] = true ∧ w.readyL 0 100 = [(((chainL inb S)[j] : Nat) : Int)] ∧ stC inb ((chainL inb S).take j) (chainL inb S)[j] = 0 ∧ fed inb (fun k => decide (k ∈ (chainL inb S).take j)) (chainL inb S)[j] = true := by
  have hm := mem_chain.1 (List.getElem_mem hj)
  have e : chainL inb S = (chainL inb S).take j ++ (chainL inb S)[j] :: (chainL inb S).drop (j + 1) := by
    rw [← List.drop_eq_getElem_cons hj, List.take_append_drop]
  have hr := chain_ready e
  have hmem : (chainL inb S)[j] ∈ (List.range S).filter (fun k => decide (stC inb ((chainL inb S).take j) k = 0) && fed inb (fun i => decide (i ∈ (chainL inb S).take j)) k) := by
    rw [hr]; simp
  have h2 := (List.mem_filter.1 hmem).2
  rw [Bool.and_eq_true, decide_eq_true_iff] at h2
  refine ⟨hm.1, hm.2, ?_, h2.1, h2.2⟩
  rw [flow_ready h hS, hr]; rfl
/-- one round of the chain: what has become of it -/
theorem chain_went {w : WS} {S j : Nat} {inb : Nat → Bool} (hS : S ≤ 64) (hj : j < (chainL inb S).length)
    (h : Flow w S inb S (stC inb ((chainL inb S).take j)) (fun k => decide (k ∈ (chainL inb S).take j))) :
    Flow (((w.turned (chainL inb S)[j] 1).turned (chainL inb S)[j] 2).woken (40 + (chainL inb S)[j])) S inb S (stC inb ((chainL inb S).take (j + 1))) (fun k => decide (k ∈ (chainL inb S).take (j + 1))) := by
  obtain ⟨h1, h2, -, -, -⟩ := chain_go hS hj h
  have f := flow_woken (flow_turned (flow_turned h h1 (Nat.le_refl _) (to := 1) (by decide)) h1 (Nat.le_refl _) (to := 2) (by decide)) h1 hS h2
  refine flow_wk (flow_congr f fun k hk => ?_) fun k => ?_
  · unfold stC
    by_cases e : k = (chainL inb S)[j]
    · rw [if_pos e, e, h2, if_pos rfl, if_pos ((mem_take_succ hj _).2 (.inr rfl))]
    · rw [if_neg e, if_neg e]
      by_cases em : k ∈ (chainL inb S).take j
      · rw [if_pos em, if_pos ((mem_take_succ hj _).2 (.inl em))]
      · rw [if_neg em, if_neg (fun q => ((mem_take_succ hj _).1 q).elim em e)]
  · rw [Bool.eq_iff_iff]
    simp only [Bool.or_eq_true, decide_eq_true_eq]
    rw [mem_take_succ hj]
/-- the free ones are done, from behind; j are left -/
def stD (inb : Nat → Bool) (S j k : Nat) : Nat := if inb k then 2 else if k ∈ (freeL inb S).take j then 1 else 2
theorem done_start {w : WS} {S : Nat} {inb : Nat → Bool} {wk : Nat → Bool} (h : Flow w S inb S (stC inb (chainL inb S)) wk) : Flow w S inb S (stD inb S (freeL inb S).length) wk := by
  refine flow_congr h fun k hk => ?_
  unfold stC stD
  rw [List.take_length]
  cases hi : inb k
  · simp [mem_free, hk, hi]
  · simp [mem_chain, hk, hi]
theorem done_step {w : WS} {S j : Nat} {inb : Nat → Bool} {wk : Nat → Bool} (hj : j < (freeL inb S).length) (h : Flow w S inb S (stD inb S (j + 1)) wk) :
    (freeL inb S)[j] < S ∧ stD inb S (j + 1) (freeL inb S)[j] = 1 ∧ Flow (w.turned (freeL inb S)[j] 2) S inb S (stD inb S j) wk := by
  have hm := mem_free.1 (List.getElem_mem hj)
  have hn := notin_take (free_nodup inb S) hj
  refine ⟨hm.1, ?_, flow_congr (flow_turned h hm.1 (Nat.le_refl _) (to := 2) (by decide)) fun k hk => ?_⟩
  · unfold stD
    rw [hm.2, if_neg (by decide), if_pos ((mem_take_succ hj _).2 (.inr rfl))]
  · unfold stD
    by_cases e : k = (freeL inb S)[j]
    · rw [if_pos e, e, hm.2, if_neg (by decide), if_neg hn]
    · rw [if_neg e]
      by_cases em : k ∈ (freeL inb S).take j
      · rw [if_pos em, if_pos ((mem_take_succ hj _).2 (.inl em))]
      · rw [if_neg em, if_neg (fun q => ((mem_take_succ hj _).1 q).elim em e)]
theorem done_end {w : WS} {S : Nat} {inb : Nat → Bool} {wk : Nat → Bool} (h : Flow w S inb S (stD inb S 0) wk) : Ret w S 0 :=
  ret_start h fun k hk => by unfold stD; simp
end Go.Proofs.YtdliholhfiihcaaDoor
