/- What each function asks, reckoned out of its text; printed by a program of mine (wip/tpl/VcTool.lean). No condition. -/
import Derived.Test.YtbiogceijdcoiaaSxB
import Derived.Test.YtbiogceijdcoiaaSxR
import Derived.Test.YtbiogceijdcoiaaChecked
namespace Go.Proofs.Ytbiogceijdcoiaa
open Go Go.Proofs
set_option linter.unusedVariables false
set_option maxRecDepth 100000
theorem vcB12 {W : World} {Q : Sx.Ex → World → Prop} (t3 : Nat) (t3o : Nat) (t6 : Nat) (t6o : Nat)
  (h : ∀ J : Nat → Value,
    (∃ p : Option Addr, (World.cell? W (Addr.mk t3 t3o none) = some (Value.pointer p) ∧
    (∃ vs : Array Value, (Array.size vs = 18 ∧
    (Sx.cellsAt W (Addr.mk t6 t6o none) vs ∧
    Calls Try.prog 23 #[Value.pointer p, Value.agg vs] W (fun e =>
     (fun W2 =>
     (e = Ending.returned (Value.tuple #[]) ∧
     Q Sx.Ex.normal W2))))))))) {l m : Nat} {a : Act} (hs : a.tmps.size = 34) (hd : a.defers = []) (h0 : a.tmps.getD ((3, Value.pointer (some ⟨t3, t3o, none⟩))).1 undef = ((3, Value.pointer (some ⟨t3, t3o, none⟩))).2) (h1 : a.tmps.getD ((6, Value.pointer (some ⟨t6, t6o, none⟩))).1 undef = ((6, Value.pointer (some ⟨t6, t6o, none⟩))).2) :
  (Sx.bodyIn Try.f12).wpIn (Fence.wide.inRound l) m Try.prog (Sx.Post 34 (Sx.bodyIn Try.f12) (fun e _ w => Q e w) a) a W :=
  Sx.vc_round (Sx.bodyIn Try.f12) .leaf ⟨[(3, Value.pointer (some ⟨t3, t3o, none⟩)), (6, Value.pointer (some ⟨t6, t6o, none⟩))], fun t => a.tmps.getD t undef⟩ W _ a (Eq.mp (by kernel_rfl) (h fun t => a.tmps.getD t undef)) (Sx.is_of_agree hs hd (List.forall_mem_cons.2 ⟨h0, (List.forall_mem_cons.2 ⟨h1, (fun _ h => by cases h)⟩)⟩)) (by kernel_rfl)
end Go.Proofs.Ytbiogceijdcoiaa
