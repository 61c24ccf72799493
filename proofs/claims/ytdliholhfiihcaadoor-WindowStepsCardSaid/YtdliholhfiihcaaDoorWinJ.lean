/- The plain law of 'WindowFlows', part B: what may begin; what is found. No program in sight. -/
import Derived.Test.YtdliholhfiihcaaDoorWinI
namespace Go.Proofs.YtdliholhfiihcaaDoor
open Go.RowKit Go.XHeap Go.Sx Go.Sep
set_option linter.unusedVariables false
variable {w : WS} {S m : Nat} {inb : Nat → Bool} {st : Nat → Nat} {wk : Nat → Bool}

/-- the one ahead in the chain -/
def prevC (inb : Nat → Bool) : Nat → Option Nat
  | 0 => none
  | k + 1 => if inb k then some k else prevC inb k
theorem lastReg_eq (inb : Nat → Bool) : ∀ k, lastReg inb k = match prevC inb k with
    | some j => 40 + j
    | none => 0
  | 0 => rfl
  | k + 1 => by
    unfold lastReg prevC
    cases hi : inb k with
    | true => rfl
    | false => exact lastReg_eq inb k
theorem prevC_some {inb : Nat → Bool} : ∀ {k j : Nat}, prevC inb k = some j → j < k ∧ inb j = true
  | 0, j, h => by cases h
  | k + 1, j, h => by
    unfold prevC at h
    cases hi : inb k with
    | true => rw [hi] at h; cases h; exact ⟨by omega, hi⟩
    | false =>
      rw [hi] at h
      have := prevC_some h
      exact ⟨by omega, this.2⟩
/-- may it begin, for what it reads? -/
def fed (inb wk : Nat → Bool) (k : Nat) : Bool := !inb k || (match prevC inb k with
  | some j => wk j
  | none => true)
theorem flow_has (h : Flow w S inb m st wk) {k : Nat} (hk : k < m) (hm : m ≤ 64) : w.has (srcI inb k) = fed inb wk k := by
  unfold WS.has srcI fed
  cases hi : inb k with
  | false => rfl
  | true =>
    have hl := lastReg_le inb k
    show (decide (((lastReg inb k : Nat) : Int) < 0) || w.ready.getD (((lastReg inb k : Nat) : Int).toNat) false) = _
    rw [Int.toNat_natCast, decide_eq_false (by omega), Bool.false_or, h.ready _ (by omega), lastReg_eq]
    cases hp : prevC inb k with
    | none =>
      show rdI inb wk m 0 = true
      unfold rdI
      exact decide_eq_true (fun j _ _ e => by omega)
    | some j =>
      obtain ⟨hj, hij⟩ := prevC_some hp
      show rdI inb wk m (40 + j) = (!true || wk j)
      have e : rdI inb wk m (40 + j) = wk j := by
        unfold rdI
        rw [Bool.eq_iff_iff, decide_eq_true_iff]
        refine ⟨fun hq => hq j (by omega) hij rfl, fun hq j2 _ _ e => ?_⟩
        obtain rfl : j = j2 := by omega
        exact hq
      rw [e]; rfl
theorem flow_able (h : Flow w S inb m st wk) {k : Nat} (hk : k < m) (hm : m ≤ 64) : w.able (w.slot k) = (decide (st k = 0) && fed inb wk k) := by
  rw [h.slot k hk]
  unfold WS.able
  show (decide (st k = 0) && w.has (srcI inb k) && w.has (-1)) = _
  rw [flow_has h hk hm]
  have : w.has (-1) = true := rfl
  rw [this, Bool.and_true]
theorem flow_may (h : Flow w S inb m st wk) {k : Nat} (hk : k < m) (hm : m ≤ 64) : w.may 0 k = (decide (st k = 0) && fed inb wk k) := by
  unfold WS.may
  rw [flow_able h hk hm, h.slot k hk]
  rfl
theorem flow_regs (h : Flow w S inb m st wk) (hm : m ≤ 64) : ∀ k, k < w.n → (w.slot k).regs w.R := by
  intro k hk
  rw [h.n] at hk
  have hl := lastReg_le inb k
  rw [h.slot k hk, h.r]
  refine ⟨?_, by show (-1 : Int) < 128; decide⟩
  show srcI inb k < 128
  unfold srcI
  split <;> omega
theorem flow_find (h : Flow w S inb m st wk) {k : Nat} (hk : k < m) : w.find (k : Nat) = some k := by
  refine find_of (by rw [h.n]; exact hk) (by rw [h.slot k hk]) fun j hj => ?_
  rw [h.slot j (by omega)]
  show ((j : Nat) : Int) ≠ (k : Nat)
  omega
/-- what Ready gives: all that wait and are fed -/
theorem flow_ready (h : Flow w S inb m st wk) (hm : m ≤ 64) : w.readyL 0 100 = ((List.range m).filter fun k => decide (st k = 0) && fed inb wk k).map fun k : Nat => ((k : Nat) : Int) := by
  have e : w.rdy 0 w.n = ((List.range m).filter fun k => decide (st k = 0) && fed inb wk k).map fun k : Nat => ((k : Nat) : Int) := by
    unfold WS.rdy
    rw [h.n]
    have e1 : (List.range m).filter (w.may 0) = (List.range m).filter fun k => decide (st k = 0) && fed inb wk k := List.filter_congr fun k hk => flow_may h (List.mem_range.1 hk) hm
    rw [e1]
    refine List.map_congr_left fun k hk => ?_
    rw [h.slot k (List.mem_range.1 (List.mem_filter.1 hk).1)]
  unfold WS.readyL
  rw [e, List.take_of_length_le]
  rw [List.length_map]
  have := List.length_filter_le (fun k => decide (st k = 0) && fed inb wk k) (List.range m)
  rw [List.length_range] at this
  show _ ≤ 100
  omega
theorem slot_set {w : WS} (hh : w.head = 0) {k j : Nat} (hk : k < w.S) (hj : j < w.S) (hr : w.ring.length = w.S) (s : Slot) : ({ w with ring := w.ring.set (w.ix k) s } : WS).slot j = if j = k then s else w.slot j := by
  have e1 : ({ w with ring := w.ring.set (w.ix k) s } : WS).ix j = j := ix_self hh hj
  unfold WS.slot
  rw [e1, ix_self hh hk, ix_self hh hj]
  show (w.ring.set k s).getD j default = _
  split
  · rename_i e
    subst e
    rw [List.getD_eq_getElem?_getD, List.getElem?_set_self (by omega)]; rfl
  · rename_i e
    rw [List.getD_eq_getElem?_getD, List.getElem?_set_ne (by omega), ← List.getD_eq_getElem?_getD]
/-- one turns -/
theorem flow_turned (h : Flow w S inb m st wk) {k : Nat} (hk : k < m) (hmS : m ≤ S) {to : Nat} (ht : to < 256) : Flow (w.turned k to) S inb m (fun j => if j = k then to else st j) wk := by
  have hs := h.s
  refine ⟨turned_ok h.ok k ht, h.s, h.r, h.head, h.n, h.next, fun j hj => ?_, h.ready⟩
  show ({ w with ring := w.ring.set (w.ix k) { w.slot k with st := to } } : WS).slot j = _
  rw [slot_set h.head (by omega) (by omega) h.ok.ring]
  by_cases e : j = k
  · subst e
    rw [if_pos rfl, if_pos rfl, h.slot j hj]
  · rw [if_neg e, if_neg e]
    exact h.slot j hj
/-- may it turn? -/
theorem flow_turn (h : Flow w S inb m st wk) {k : Nat} (hk : k < m) (hm : m ≤ 64) {a to : Nat} (h1 : st k = a) (h2 : to = 1 → st k = 0 ∧ fed inb wk k = true) : w.turn (k : Nat) a to = some k := by
  unfold WS.turn
  rw [flow_find h hk]
  show ite _ _ _ = _
  rw [if_pos]
  refine ⟨by rw [h.slot k hk]; exact h1, fun e => ?_⟩
  rw [flow_able h hk hm, decide_eq_true (h2 e).1, (h2 e).2]; rfl
/-- a register's value is there -/
theorem flow_woken (h : Flow w S inb m st wk) {k : Nat} (hk : k < m) (hm : m ≤ 64) (hi : inb k = true) : Flow (w.woken (40 + k)) S inb m st (fun j => wk j || decide (j = k)) := by
  refine ⟨woken_ok h.ok _, h.s, h.r, h.head, h.n, h.next, h.slot, fun r hr => ?_⟩
  show (w.ready.set (40 + k) true).getD r false = _
  have hrl := h.ok.ready
  rw [h.r] at hrl
  by_cases e : r = 40 + k
  · subst e
    rw [List.getD_eq_getElem?_getD, List.getElem?_set_self (by omega)]
    unfold rdI
    refine (decide_eq_true (fun j hj h1 h2 => ?_)).symm
    obtain rfl : k = j := by omega
    simp
  · rw [List.getD_eq_getElem?_getD, List.getElem?_set_ne (by omega), ← List.getD_eq_getElem?_getD, h.ready r hr]
    unfold rdI
    refine decide_eq_decide.2 ⟨fun hq j hj h1 h2 => by have := hq j hj h1 h2; simp [this], fun hq j hj h1 h2 => ?_⟩
    have := hq j hj h1 h2
    have ne : ¬ j = k := by omega
    simpa [ne] using this
end Go.Proofs.YtdliholhfiihcaaDoor
