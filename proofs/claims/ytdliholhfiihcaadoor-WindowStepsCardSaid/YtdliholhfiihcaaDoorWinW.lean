/- The law 'WindowFlows', walked: what stands between its loops. No condition but the handle of the type 'error'. -/
import Derived.Test.YtdliholhfiihcaaDoorWinK
import Derived.Test.YtdliholhfiihcaaDoorTold
namespace Go.Proofs.YtdliholhfiihcaaDoor
open Go.RowKit Go.XHeap Go.Sx Go.Sep
set_option linter.unusedVariables false
set_option maxRecDepth 100000

def chainL (inb : Nat → Bool) (m : Nat) : List Nat := (List.range m).filter inb
def freeL (inb : Nat → Bool) (m : Nat) : List Nat := (List.range m).filter fun k => !inb k
def natV (l : List Nat) : List Value := l.map fun k => .int .i64 (k : Nat)
theorem chain_succ (inb : Nat → Bool) (m : Nat) : chainL inb (m + 1) = if inb m then chainL inb m ++ [m] else chainL inb m := by
  unfold chainL; rw [List.range_succ, List.filter_append]
  cases h : inb m <;> simp [h]
theorem free_succ (inb : Nat → Bool) (m : Nat) : freeL inb (m + 1) = if inb m then freeL inb m else freeL inb m ++ [m] := by
  unfold freeL; rw [List.range_succ, List.filter_append]
  cases h : inb m <;> simp [h]
theorem chain_len (inb : Nat → Bool) (m : Nat) : (chainL inb m).length ≤ m := by
  have := List.length_filter_le inb (List.range m)
  rw [List.length_range] at this
  exact this
theorem free_len (inb : Nat → Bool) (m : Nat) : (freeL inb m).length ≤ m := by
  have := List.length_filter_le (fun k => !inb k) (List.range m)
  rw [List.length_range] at this
  exact this
theorem mem_free {inb : Nat → Bool} {m k : Nat} : k ∈ freeL inb m ↔ k < m ∧ inb k = false := by
  unfold freeL; rw [List.mem_filter, List.mem_range]; simp
theorem mem_chain {inb : Nat → Bool} {m k : Nat} : k ∈ chainL inb m ↔ k < m ∧ inb k = true := by
  unfold chainL; rw [List.mem_filter, List.mem_range]
/-- what stands: a window and the two lists -/
def WI (W : World) (b : Nat) (w : WS) (p : Option Addr) (c : Nat) (l : List Nat) (p2 : Option Addr) (c2 : Nat) (l2 : List Nat) (A : World) : Prop :=
  St W No A [winA b w, sl 3 1 (.slice p l.length c) l.length (natV l), sl 3 1 (.slice p2 l2.length c2) l2.length (natV l2)]
theorem prevC_last (inb : Nat → Bool) : ∀ k, prevC inb k = (chainL inb k).getLast?
  | 0 => rfl
  | k + 1 => by
    rw [chain_succ]
    unfold prevC
    cases hi : inb k with
    | true => simp
    | false => simpa using prevC_last inb k
/-- all have entered: the free ones may begin, and the first of the chain -/
theorem first_ready (inb : Nat → Bool) : ∀ m, ((List.range m).filter fun k => fed inb (fun _ => false) k).length = (freeL inb m).length + (if (chainL inb m) = [] then 0 else 1)
  | 0 => rfl
  | m + 1 => by
    rw [List.range_succ, List.filter_append, List.length_append, first_ready inb m, chain_succ, free_succ]
    have hf : fed inb (fun _ => false) m = (!inb m || (prevC inb m).isNone) := by
      unfold fed
      cases prevC inb m <;> rfl
    cases hi : inb m with
    | false =>
      have : fed inb (fun _ => false) m = true := by rw [hf, hi]; rfl
      simp [this]
      omega
    | true =>
      by_cases hc : chainL inb m = []
      · have : fed inb (fun _ => false) m = true := by rw [hf, prevC_last, hc]; simp
        simp [this, hc]
      · have : fed inb (fun _ => false) m = false := by
          rw [hf, hi, prevC_last]
          cases hl : (chainL inb m).getLast? with
          | none => exact absurd (List.getLast?_eq_none_iff.1 hl) hc
          | some j => rfl
        simp [this, hc]
theorem split_uniq {c : Nat} : ∀ {a a' b b' : List Nat}, a ++ c :: b = a' ++ c :: b' → c ∉ a → c ∉ a' → a = a'
  | [], [], _, _, _, _, _ => rfl
  | [], x :: a', _, _, h, _, h2 => by
    simp only [List.nil_append, List.cons_append, List.cons.injEq] at h
    exact absurd (by rw [h.1]; simp) h2
  | x :: a, [], _, _, h, h1, _ => by
    simp only [List.nil_append, List.cons_append, List.cons.injEq] at h
    exact absurd (by rw [← h.1]; simp) h1
  | x :: a, y :: a', _, _, h, h1, h2 => by
    simp only [List.cons_append, List.cons.injEq] at h
    rw [h.1, split_uniq h.2 (fun e => h1 (List.mem_cons_of_mem _ e)) (fun e => h2 (List.mem_cons_of_mem _ e))]
theorem chain_split {inb : Nat → Bool} {S k : Nat} (hk : k < S) (hi : inb k = true) : ∃ rest, chainL inb S = chainL inb k ++ k :: rest := by
  obtain ⟨d, rfl⟩ : ∃ d, S = k + 1 + d := ⟨S - k - 1, by omega⟩
  unfold chainL
  rw [List.range_add, List.range_succ, List.filter_append, List.filter_append]
  refine ⟨((List.range d).map (k + 1 + ·)).filter inb, ?_⟩
  simp [hi]
theorem chain_nodup (inb : Nat → Bool) (S : Nat) : (chainL inb S).Nodup := List.Nodup.sublist List.filter_sublist List.nodup_range
theorem chain_pre {inb : Nat → Bool} {S c : Nat} {l1 l2 : List Nat} (h : chainL inb S = l1 ++ c :: l2) : chainL inb c = l1 := by
  have hc : c ∈ chainL inb S := by rw [h]; simp
  obtain ⟨h1, h2⟩ := mem_chain.1 hc
  obtain ⟨rest, e⟩ := chain_split h1 h2
  have hn := chain_nodup inb S
  have hn2 := hn
  rw [h] at hn
  rw [e] at hn2
  refine split_uniq (e.symm.trans h) ?_ ?_
  · exact fun hm => by have := mem_chain.1 hm; omega
  · intro hm
    exact (List.nodup_append.1 hn).2.2 c hm c (by simp) rfl
/-- where the chain has come to: l1 are done, the free ones have begun -/
def stC (inb : Nat → Bool) (l1 : List Nat) (k : Nat) : Nat := if inb k then (if k ∈ l1 then 2 else 0) else 1
theorem filter_one {S c : Nat} (hc : c < S) : (List.range S).filter (fun k => decide (k = c)) = [c] := by
  obtain ⟨d, rfl⟩ : ∃ d, S = c + 1 + d := ⟨S - c - 1, by omega⟩
  rw [List.range_add, List.range_succ, List.filter_append, List.filter_append]
  have h1 : (List.range c).filter (fun k => decide (k = c)) = [] := by
    rw [List.filter_eq_nil_iff]; intro k hk; have := List.mem_range.1 hk; simp; omega
  have h2 : ((List.range d).map (c + 1 + ·)).filter (fun k => decide (k = c)) = [] := by
    rw [List.filter_eq_nil_iff]; intro k hk
    obtain ⟨x, -, rfl⟩ := List.mem_map.1 hk
    simp; omega
  rw [h1, h2]; simp
theorem chain_ready {inb : Nat → Bool} {S c : Nat} {l1 l2 : List Nat} (h : chainL inb S = l1 ++ c :: l2) :
    (List.range S).filter (fun k => decide (stC inb l1 k = 0) && fed inb (fun j => decide (j ∈ l1)) k) = [c] := by
  have hc : c ∈ chainL inb S := by rw [h]; simp
  obtain ⟨h1, h2⟩ := mem_chain.1 hc
  have hn := chain_nodup inb S
  rw [h] at hn
  have hcl : c ∉ l1 := fun hm => (List.nodup_append.1 hn).2.2 c hm c (by simp) rfl
  rw [← filter_one h1]
  refine List.filter_congr fun k hk => ?_
  have hk := List.mem_range.1 hk
  unfold stC
  cases hi : inb k with
  | false =>
    have : ¬ k = c := fun e => by subst e; rw [hi] at h2; cases h2
    simp [this]
  | true =>
    by_cases hm : k ∈ l1
    · have : ¬ k = c := fun e => hcl (e ▸ hm)
      simp [hm, this]
    · have hkS : k ∈ l1 ++ c :: l2 := by rw [← h]; exact mem_chain.2 ⟨hk, hi⟩
      rcases List.mem_append.1 hkS with e | e
      · exact absurd e hm
      rcases List.mem_cons.1 e with rfl | e3
      · have hf : fed inb (fun j => decide (j ∈ l1)) k = true := by
          unfold fed
          rw [prevC_last, chain_pre h]
          cases hl : l1.getLast? with
          | none => simp
          | some j => simp [List.mem_of_getLast? hl]
        simp [hm, hf]
      · have hkc : ¬ k = c := fun e2 => by
          subst e2
          exact (List.nodup_cons.1 (List.nodup_append.1 hn).2.1).1 e3
        obtain ⟨m1, m2, rfl⟩ := List.append_of_mem e3
        have hp : chainL inb k = l1 ++ c :: m1 := chain_pre (l2 := m2) (by rw [h]; simp)
        have hf : fed inb (fun j => decide (j ∈ l1)) k = false := by
          unfold fed
          rw [hi, prevC_last, hp]
          cases hl : (l1 ++ c :: m1).getLast? with
          | none => simp at hl
          | some j =>
            have hj : j ∈ c :: m1 := by
              rw [List.getLast?_append] at hl
              cases h3 : (c :: m1).getLast? with
              | none => simp at h3
              | some y =>
                rw [h3] at hl
                obtain rfl : y = j := by simpa using hl
                exact List.mem_of_getLast? h3
            have hjn : j ∉ l1 := fun hm2 => (List.nodup_append.1 hn).2.2 j hm2 j (by
              rcases List.mem_cons.1 hj with rfl | hj
              · simp
              · simp [hj]) rfl
            simp [hjn]
        simp [hf, hkc]
end Go.Proofs.YtdliholhfiihcaaDoor
