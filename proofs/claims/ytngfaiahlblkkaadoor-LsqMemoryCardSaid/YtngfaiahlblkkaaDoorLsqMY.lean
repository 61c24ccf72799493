/- The law 'LsqMemory', plain: how far each round comes. -/
import Derived.Test.YtngfaiahlblkkaaDoorLsqMU
namespace Go.Proofs.YtngfaiahlblkkaaDoor
open Go.RowKit Go.XHeap Go.Sx Go.Sep Go.Bits
set_option linter.unusedVariables false
set_option maxRecDepth 100000
variable {a : Nat → Ac} {X X1 X2 X3 : RX} {W0 W A : World}

def RX.phi (X : RX) : Nat := X.psi + 3 * (X.n - X.out) + if X.given X.out = true then 0 else 2
theorem phi_le (h : Inv a X) : X.phi ≤ 242 := by
  have h1 := h.n60
  have h2 := h.inn
  have h3 : X.J.length ≤ X.inn := by
    have : ∀ (l : List Nat) (lo m : Nat), l.Pairwise (· < ·) → (∀ k ∈ l, lo ≤ k ∧ k < m) → lo ≤ m → l.length ≤ m - lo := by
      intro l
      induction l with
      | nil => intro lo m _ _ _; exact Nat.zero_le _
      | cons x l ih =>
        intro lo m hs hl hlo
        have hx := hl x (by simp)
        have := ih (x + 1) m (List.pairwise_cons.1 hs).2 (fun k hk => ⟨(List.pairwise_cons.1 hs).1 k hk, (hl k (by simp [hk])).2⟩) hx.2
        rw [List.length_cons]
        omega
    have := this X.J 0 X.inn h.sorted (fun k hk => ⟨Nat.zero_le _, ((h.live k).1 hk).1⟩) (Nat.zero_le _)
    omega
  have h4 : X.psi ≤ 60 := by show X.J.length + (X.n - X.inn) ≤ 60; omega
  unfold RX.phi
  split <;> omega
def rdyB (a : Nat → Ac) (X : RX) : Bool := X.given X.out && ((a X.out).store && X.known X.out || X.done X.out)
/-- what a turn has done -/
structure R12 (a : Nat → Ac) (X1 : RX) (c : Nat) (X2 : RX) : Prop where
  n : X2.n = X1.n
  out : X2.out = X1.out
  psi : X2.psi = X1.psi
  inn : X1.out < X1.inn → X2.out < X2.inn
  stay : X1.inn = X1.out → X2 = X1
  keep : X1.given X1.out = true → X2.given X1.out = true
  go : c = 0 → X1.out < X1.inn → X2.given X1.out = true ∧ (X1.given X1.out = true → rdyB a X2 = true)
theorem R12.of {k : Nat} (h : RelT a X1 k X2) (ho : X1.out ≤ k) (c : Nat) (hc : c = 0 → k = X1.out) (hlt : X1.out < X1.inn) : R12 a X1 c X2 := by
  refine ⟨h.n, h.out, h.psi, fun _ => by have := h.inn; have := h.out; omega, fun e => by omega, h.keep, fun e _ => ?_⟩
  have hk := hc e
  subst hk
  refine ⟨h.given, fun hg => ?_⟩
  obtain ⟨h1, h2⟩ := h.rdy hg rfl
  have hg2 := h.given
  unfold rdyB
  rw [h.out, hg2]
  cases hs : (a X1.out).store with
  | true => rw [h1 hs]; rfl
  | false => rw [h2 hs]; simp
theorem R12.refl (X : RX) (c : Nat) (h : X.inn = X.out) : R12 a X c X := ⟨rfl, rfl, rfl, id, fun _ => rfl, id, fun _ e => by omega⟩
/-- .. and what then was written -/
structure R13 (a : Nat → Ac) (X1 : RX) (c : Nat) (X3 : RX) : Prop where
  n : X3.n = X1.n
  out : X3.out = X1.out
  psi : X3.psi ≤ X1.psi
  inn : X1.out < X1.inn → X3.out < X3.inn
  keep : X1.given X1.out = true → X3.given X1.out = true
  go : c = 0 → X1.out < X1.inn → X3.given X1.out = true ∧ (X1.given X1.out = true → rdyB a X3 = true)
  less : c = 0 → X1.inn = X1.out → X1.J ≠ [] → X3.psi < X1.psi
  full : X1.inn = X1.out → X3.inn = X3.out
theorem R13.of {c : Nat} (h : R12 a X1 c X2) (h2 : RelD X2 X3) (hle : X1.out ≤ X1.inn) : R13 a X1 c X3 := by
  refine ⟨h2.n.trans h.n, h2.out.trans h.out, Nat.le_trans h2.psi (Nat.le_of_eq h.psi), fun e => by have := h.inn e; rw [h2.out, h2.inn]; exact this, fun e => by rw [h2.given]; exact h.keep e, fun e1 e2 => ?_, fun e1 e2 e3 => ?_, fun e => ?_⟩
  · obtain ⟨h3, h4⟩ := h.go e1 e2
    rw [h2.given]
    refine ⟨h3, fun e => ?_⟩
    have := h4 e
    unfold rdyB at this ⊢
    rw [h2.given, h2.known, h2.done, h2.out]; exact this
  · have e := h.stay e2
    subst e
    exact h2.less e3 e2
  · have e' := h.stay e
    subst e'
    rw [h2.inn, h2.out]; exact e
theorem R13.same {c : Nat} (h : R12 a X1 c X2) (hc : c ≠ 0) : R13 a X1 c X2 := ⟨h.n, h.out, Nat.le_of_eq h.psi, h.inn, h.keep, fun e => absurd e hc, fun e => absurd e hc, fun e => by rw [h.stay e]; exact e⟩
/-- a round with c = 0 comes nearer the end -/
theorem round_stay (h : R13 a X1 0 X3) (hle : X1.out ≤ X1.inn) (hJ : X1.inn = X1.out → X1.J ≠ []) (hr : ¬ (X3.out < X3.inn ∧ rdyB a X3 = true)) : X3.phi < X1.phi := by
  have h1 := h.psi
  have h2 := h.n
  have h3 := h.out
  unfold RX.phi
  rw [h2, h3]
  by_cases e : X1.inn = X1.out
  · have h4 := h.less rfl e (hJ e)
    by_cases g : X1.given X1.out = true
    · rw [if_pos g, if_pos (h.keep g)]; omega
    · rw [if_neg g]
      split <;> omega
  · obtain ⟨h4, h5⟩ := h.go rfl (by omega)
    have g : ¬ X1.given X1.out = true := fun g => hr ⟨h.inn (by omega), h5 g⟩
    rw [if_pos h4, if_neg g]
    omega
theorem round_out {X4 : RX} (h : R13 a X1 0 X3) (hn : X3.out < X3.n) (h4n : X4.n = X3.n) (h4o : X4.out = X3.out + 1) (h4p : X4.psi ≤ X3.psi) : X4.phi < X1.phi := by
  have h1 := h.psi
  have h2 := h.n
  have h3 := h.out
  unfold RX.phi
  rw [h4n, h4o, h2, h3]
  split <;> split <;> omega
end Go.Proofs.YtngfaiahlblkkaaDoor
