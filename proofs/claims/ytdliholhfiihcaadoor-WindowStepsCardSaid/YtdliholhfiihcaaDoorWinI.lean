/- The plain law of 'WindowFlows', part A: a window that is entered. No program in sight. -/
import Derived.Test.YtdliholhfiihcaaDoorWinH
namespace Go.Proofs.YtdliholhfiihcaaDoor
open Go.RowKit Go.XHeap Go.Sx Go.Sep
set_option linter.unusedVariables false

/-- the register that the next of the chain reads -/
def lastReg (inb : Nat → Bool) : Nat → Nat
  | 0 => 0
  | k + 1 => if inb k then 40 + k else lastReg inb k
def srcI (inb : Nat → Bool) (k : Nat) : Int := if inb k then (lastReg inb k : Nat) else -1
def dstI (inb : Nat → Bool) (k : Nat) : Int := if inb k then ((40 + k : Nat) : Int) else -1
def rdI (inb wk : Nat → Bool) (m r : Nat) : Bool := decide (∀ j, j < m → inb j = true → r = 40 + j → wk j = true)
structure Flow (w : WS) (S : Nat) (inb : Nat → Bool) (m : Nat) (st : Nat → Nat) (wk : Nat → Bool) : Prop where
  ok : w.Ok
  s : w.S = S
  r : w.R = 128
  head : w.head = 0
  n : w.n = m
  next : w.next = m
  slot : ∀ k, k < m → w.slot k = ⟨0, srcI inb k, -1, dstI inb k, st k, k⟩
  ready : ∀ r, r < 128 → w.ready.getD r false = rdI inb wk m r
theorem lastReg_le (inb : Nat → Bool) : ∀ k, lastReg inb k < 40 + k ∨ lastReg inb k = 0
  | 0 => .inr rfl
  | k + 1 => by
    unfold lastReg
    split
    · exact .inl (by omega)
    · rcases lastReg_le inb k with h | h
      · exact .inl (by omega)
      · exact .inr h
theorem flow_fresh {w : WS} {S : Nat} (h : w.Fresh S 128) (inb : Nat → Bool) : Flow w S inb 0 (fun _ => 0) (fun _ => false) := by
  refine ⟨h.ok, h.s, h.r, h.head, h.n, h.next, fun k hk => by omega, fun r hr => ?_⟩
  rw [h.ready, List.getD_eq_getElem?_getD, List.getElem?_replicate, if_pos hr]
  unfold rdI
  exact (decide_eq_true (fun j hj => by omega)).symm
theorem ix_self {w : WS} (hh : w.head = 0) {k : Nat} (hk : k < w.S) : w.ix k = k := by
  unfold WS.ix; rw [hh, Nat.zero_add]; exact Nat.mod_eq_of_lt hk
theorem flow_enter {w : WS} {S m : Nat} {inb : Nat → Bool} (h : Flow w S inb m (fun _ => 0) (fun _ => false)) (hm : m < S) (hS : S ≤ 64) :
    w.enterOk 0 (srcI inb m) (-1) (dstI inb m) ∧ Flow (w.entered 0 (srcI inb m) (-1) (dstI inb m)) S inb (m + 1) (fun _ => 0) (fun _ => false) := by
  have hs := h.s
  have hl := lastReg_le inb m
  refine ⟨⟨by omega, by omega, ?_⟩, ?_⟩
  · simp only [List.all_cons, List.all_nil, Bool.and_true, Bool.and_eq_true, WS.regOk, decide_eq_true_eq, h.r]
    unfold srcI dstI
    split <;> omega
  · refine ⟨entered_ok h.ok (by rw [h.n]; omega) (by rw [h.next]; omega) _ _ _ _, h.s, h.r, h.head, by show w.n + 1 = _; rw [h.n], by show w.next + 1 = _; rw [h.next], fun k hk => ?_, fun r hr => ?_⟩
    · have hring := h.ok.ring
      have e1 : (w.entered 0 (srcI inb m) (-1) (dstI inb m)).ix k = k := ix_self h.head (by show k < w.S; omega)
      unfold WS.slot
      rw [e1]
      show ((w.ring.set (w.ix w.n) _).getD k default) = _
      rw [ix_self h.head (by rw [h.n]; omega), h.n]
      by_cases e : k = m
      · subst e
        rw [List.getD_eq_getElem?_getD, List.getElem?_set_self (by omega), h.next]; rfl
      · rw [List.getD_eq_getElem?_getD, List.getElem?_set_ne (by omega), ← List.getD_eq_getElem?_getD]
        have := h.slot k (by omega)
        unfold WS.slot at this
        rw [ix_self h.head (by omega)] at this
        exact this
    · have hrl := h.ok.ready
      have hr0 := h.ready r hr
      show (if 0 ≤ dstI inb m then w.ready.set (dstI inb m).toNat false else w.ready).getD r false = _
      cases hi : inb m with
      | false =>
        have e : dstI inb m = -1 := by unfold dstI; rw [hi]; rfl
        rw [e, if_neg (by omega), hr0]
        unfold rdI
        refine decide_eq_decide.2 ⟨fun hq j hj h1 h2 => ?_, fun hq j hj h1 h2 => hq j (by omega) h1 h2⟩
        by_cases ej : j = m
        · subst ej; rw [hi] at h1; cases h1
        · exact hq j (by omega) h1 h2
      | true =>
        have e : dstI inb m = ((40 + m : Nat) : Int) := by unfold dstI; rw [hi]; rfl
        rw [e, if_pos (by omega), Int.toNat_natCast]
        by_cases er : r = 40 + m
        · subst er
          rw [List.getD_eq_getElem?_getD, List.getElem?_set_self (by rw [hrl, h.r]; omega)]
          unfold rdI
          exact (decide_eq_false (fun hq => by have := hq m (by omega) hi rfl; cases this)).symm
        · rw [List.getD_eq_getElem?_getD, List.getElem?_set_ne (by omega), ← List.getD_eq_getElem?_getD, hr0]
          unfold rdI
          refine decide_eq_decide.2 ⟨fun hq j hj h1 h2 => ?_, fun hq j hj h1 h2 => hq j (by omega) h1 h2⟩
          by_cases ej : j = m
          · omega
          · exact hq j (by omega) h1 h2
end Go.Proofs.YtdliholhfiihcaaDoor
