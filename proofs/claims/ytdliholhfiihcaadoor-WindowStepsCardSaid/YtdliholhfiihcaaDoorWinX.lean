/- The law 'WindowFlows', its steps. -/
import Derived.Test.YtdliholhfiihcaaDoorWinW
namespace Go.Proofs.YtdliholhfiihcaaDoor
open Go.RowKit Go.XHeap Go.Sx Go.Sep
set_option linter.unusedVariables false
set_option maxRecDepth 100000

def HErr (w : World) : Prop := w.cell? ⟨0, 0, none⟩ = some (.iface 108 (.agg #[.pointer (some ⟨1, 26, none⟩)]))
def Which (W : World) (p : Option Addr) (n : Nat) : Prop := ∃ l : Nat → Bool, ∀ i, i < n → ∃ g off, p = some ⟨g, off, none⟩ ∧ g < W.heap.size ∧ W.cell? ⟨g, off + i, none⟩ = some (.bool (l i))
/-- one enters -/
theorem enter_step {A : World} {b : Nat} {w : WS} {S m : Nat} {inb : Nat → Bool} (h : Flow w S inb m (fun _ => 0) (fun _ => false)) (hm : m < S) (hS : S ≤ 64) (hA : (winA b w).at_ A) :
    Calls Tryd.prog 7 #[.pointer (some ⟨b, 0, none⟩), .agg (entryC 0 (srcI inb m) (-1) (dstI inb m))] A fun e B => e = .returned (.tuple #[.int .i64 (m : Nat), .nilIface]) ∧ Sep.Post (winA b w) A (winA b (w.entered 0 (srcI inb m) (-1) (dstI inb m))) B := by
  obtain ⟨h1, h2⟩ := flow_enter h hm hS
  refine (enter_any h.ok hA (by rw [h.next]; omega) 0 (srcI inb m) (-1) (dstI inb m)).mono ?_
  intro e B hp
  unfold EnterPost at hp
  have hn := h.n
  have hs := h.s
  rw [if_pos h1, if_neg (by omega), h.next] at hp
  exact hp
/-- the full one refuses -/
theorem enter_full {A : World} {b : Nat} {w : WS} {S : Nat} {inb : Nat → Bool} {st : Nat → Nat} {wk : Nat → Bool} (h : Flow w S inb S st wk) (hS : S ≤ 64) (hA : (winA b w).at_ A) :
    Calls Tryd.prog 7 #[.pointer (some ⟨b, 0, none⟩), .agg (entryC 0 (-1) (-1) (-1))] A fun e B => e = .returned (.tuple #[.int .i64 0, errN 4]) ∧ Sep.Post (winA b w) A (winA b w) B := by
  refine (enter_any h.ok hA (by rw [h.next]; omega) 0 (-1) (-1) (-1)).mono ?_
  intro e B hp
  unfold EnterPost at hp
  have hn := h.n
  have hs := h.s
  have hok : w.enterOk 0 (-1) (-1) (-1) := by
    refine ⟨by omega, by omega, ?_⟩
    simp only [List.all_cons, List.all_nil, Bool.and_true, Bool.and_eq_true, WS.regOk, decide_eq_true_eq, h.r]
    omega
  rw [if_pos hok, if_pos (by omega)] at hp
  exact hp
/-- one turns -/
theorem turn_step {A : World} {b : Nat} {w : WS} {S m k a to : Nat} {inb : Nat → Bool} {st : Nat → Nat} {wk : Nat → Bool} (h : Flow w S inb m st wk) (hk : k < m) (hm : m ≤ 64) (h1 : st k = a) (h2 : to = 1 → st k = 0 ∧ fed inb wk k = true) {e : Ending} {B : World} (hp : TurnPost A b w (k : Nat) a to e B) :
    e = .returned .nilIface ∧ Sep.Post (winA b w) A (winA b (w.turned k to)) B := by
  unfold TurnPost at hp
  rw [flow_turn h hk hm h1 h2] at hp
  exact hp
end Go.Proofs.YtdliholhfiihcaaDoor
