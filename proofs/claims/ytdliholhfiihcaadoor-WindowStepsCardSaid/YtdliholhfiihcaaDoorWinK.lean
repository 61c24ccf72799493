/- 'WindowFlows', part C: all retire, in order; pick. No condition. -/
import Derived.Test.YtdliholhfiihcaaDoorWinJ
import Derived.Test.YtdliholhfiihcaaDoorWinFlowVc
namespace Go.Proofs.YtdliholhfiihcaaDoor
open Go.RowKit Go.XHeap Go.Sx Go.Sep
set_option linter.unusedVariables false
variable {w : WS} {S m : Nat} {inb : Nat → Bool} {st : Nat → Nat} {wk : Nat → Bool}

/-- j have retired -/
structure Ret (w : WS) (S j : Nat) : Prop where
  ok : w.Ok
  s : w.S = S
  n : w.n = S - j
  slot : ∀ k, k < S - j → (w.slot k).st = 2 ∧ (w.slot k).seq = ((j + k : Nat) : Int)
theorem ret_start (h : Flow w S inb S st wk) (h2 : ∀ k, k < S → st k = 2) : Ret w S 0 := by
  refine ⟨h.ok, h.s, by rw [h.n]; omega, fun k hk => ?_⟩
  rw [h.slot k (by omega)]
  refine ⟨h2 k (by omega), ?_⟩
  show ((k : Nat) : Int) = ((0 + k : Nat) : Int)
  omega
theorem retired_slot (w : WS) (k : Nat) : w.retired.slot k = w.slot (k + 1) := by
  have e : w.retired.ix k = w.ix (k + 1) := by
    show ((w.head + 1) % w.S + k) % w.S = (w.head + (k + 1)) % w.S
    rw [Nat.mod_add_mod, Nat.add_assoc, Nat.add_comm 1 k]
  unfold WS.slot
  rw [e]; rfl
theorem ret_step {j : Nat} (h : Ret w S j) (hj : j < S) : (w.n ≠ 0 ∧ (w.slot 0).st = 2) ∧ (w.slot 0).seq = (j : Nat) ∧ Ret w.retired S (j + 1) := by
  have h0 := h.slot 0 (by omega)
  refine ⟨⟨by rw [h.n]; omega, h0.1⟩, by rw [h0.2]; rfl, retired_ok h.ok, h.s, by show w.n - 1 = _; rw [h.n]; omega, fun k hk => ?_⟩
  rw [retired_slot]
  have := h.slot (k + 1) (by omega)
  refine ⟨this.1, ?_⟩
  rw [this.2, show j + (k + 1) = j + 1 + k by omega]
theorem pick_any (W : World) (c n : Int) (hn : 1 ≤ n) (hc : -9223372036854775808 ≤ c ∧ c ≤ 9223372036854775807) : Calls Tryd.prog 5 #[.int .i64 c, .int .i64 n] W fun e w => ∃ z : Int, e = .returned (.int .i64 z) ∧ 0 ≤ z ∧ z < n ∧ w = W := by
  refine vc5 c n (split_of (fun q => ?_) (fun q => ?_))
  · have q := of_decide_eq_true q
    rintro z rfl
    rw [w64 (e := c + 1) (by omega) (by omega), w64 (e := 0 - (c + 1)) (by omega) (by omega)]
    refine ⟨by omega, ?_⟩
    rintro z2 rfl
    have h1 := Int.tmod_nonneg n (show 0 ≤ 0 - (c + 1) by omega)
    have h2 := Int.tmod_lt_of_pos (0 - (c + 1)) (show 0 < n by omega)
    exact ⟨_, rfl, h1, h2, rfl⟩
  · have q := of_decide_eq_false q
    refine ⟨by omega, ?_⟩
    rintro z2 rfl
    have h1 := Int.tmod_nonneg n (show 0 ≤ c by omega)
    have h2 := Int.tmod_lt_of_pos c (show 0 < n by omega)
    exact ⟨_, rfl, h1, h2, rfl⟩
end Go.Proofs.YtdliholhfiihcaaDoor
