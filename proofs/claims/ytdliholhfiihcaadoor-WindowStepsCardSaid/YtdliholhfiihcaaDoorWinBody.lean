/- What each function asks, reckoned out of its text; printed by a program of mine (wip/tpl/VcTool.lean). No condition. -/
import Derived.Test.YtdliholhfiihcaaDoorSxB
import Derived.Test.YtdliholhfiihcaaDoorSxR
import Derived.Test.YtdliholhfiihcaaDoorChecked
namespace Go.Proofs.YtdliholhfiihcaaDoor
open Go Go.Proofs
set_option linter.unusedVariables false
set_option maxRecDepth 100000
theorem vcB9 {W : World} {Q : Sx.Ex → World → Prop} (t3 : Nat) (t3o : Nat) (t4 : Nat) (t4o : Nat) (t5 : Nat) (t5o : Nat) (t6 : Nat) (t6o : Nat) (t7 : Nat) (t7o : Nat)
  (h : ∀ J : Nat → Value,
    (∃ p : Option Addr, (∃ k : Nat, (∃ k2 : Nat, (World.cell? W (Addr.mk t6 t6o none) = some (Value.slice p k k2) ∧
    (∃ z : Int, (World.cell? W (Addr.mk t5 t5o none) = some (Value.int IntKind.i64 z) ∧
    Sx.split (decide ((↑k : Int) ≥ z))
     (Q (Sx.Ex.exit 0) W)
     ((∃ z2 : Int, (World.cell? W (Addr.mk t7 t7o none) = some (Value.int IntKind.i64 z2) ∧
      (∃ z3 : Int, (World.cell? W (Addr.mk t4 t4o none) = some (Value.int IntKind.i64 z3) ∧
      Sx.split (z2 == z3)
       ((∃ p2 : Option Addr, (World.cell? W (Addr.mk t3 t3o none) = some (Value.pointer p2) ∧
        (∃ t : Bool, ((∀ k3 : Nat, Calls Tryd.prog 33 #[Value.pointer p2, Value.pointer (some (Addr.mk t7 t7o none))] (World.drewN W k3) (fun e =>
          (fun W2 =>
          (e = Ending.returned (Value.bool t) ∧
          (∃ k4 : Nat, W2 = World.drewN W k4))))) ∧
        (∀ W3 : World, (∀ k5 : Nat, (W3 = World.drewN W k5 →
        Sx.split t
         ((∀ W4 : World, (W4 = World.drew W3 →
          (∃ p3 : Option Addr, (∃ k6 : Nat, (∃ k7 : Nat, (World.cell? W4 (Addr.mk t6 t6o none) = some (Value.slice p3 k6 k7) ∧
          (∃ z4 : Int, (World.cell? W4 (Addr.mk t7 (t7o + 5) none) = some (Value.int IntKind.i64 z4) ∧
          (∀ k8 : Nat, (∀ W5 : World, (k8 = Array.size (World.heap W4) →
          (W5 = World.alloc W4 (Obj.cells #[Value.int IntKind.i64 z4] 3) →
          (RowKit.Below (Array.size (World.heap W4)) W4 W5 ∧
          (∃ l : List Value, (∃ l2 : List Value, (XHeap.Sl W5 3 1 (Value.slice p3 k6 k7) k6 l ∧
          (((((1 : Nat) = (0 : Nat) ∧
            some (Addr.mk k8 0 none) = none)) ∨
           ((∃ a : Addr, (some (Addr.mk k8 0 none) = some a ∧
           (∀ k9 : Nat, (∀ v : Value, (l2[k9]? = some v →
           World.cell? W5 (Addr.add a k9) = some v))))))) ∧
          (List.length l2 = 1 ∧
          ((∀ v2 : Value, (v2 ∈ l2 →
           Value.oneCell' v2 = true)) ∧
          (k6 + 1 ≤ maxLen ∧
          ((k6 + 1) * 8 ≤ 140737488355328 ∧
          (∀ p4 : Option Addr, (∀ k10 : Nat, (∀ W6 : World, (XHeap.Sl W6 3 1 (Value.slice p4 (k6 + 1) k10) (k6 + 1) (l ++ l2) →
          (XHeap.XTouch (fun b => Value.ownBlock (Value.slice p3 k6 k7) = some b) W5 W6 →
          ((∀ k11 : Nat, (Value.ownBlock (Value.slice p4 (k6 + 1) k10) = some k11 →
          ((Value.ownBlock (Value.slice p3 k6 k7) = some k11) ∨
          (Array.size (World.heap W5) ≤ k11)))) →
          (XHeap.Sl W6 3 1 (Value.slice p3 k6 k7) k6 l →
          (((p4 = p3) ∨
          ((∀ k12 : Nat, (Value.ownBlock (Value.slice p4 (k6 + 1) k10) = some k12 →
          Array.size (World.heap W5) ≤ k12)))) →
          ((∃ v3 : Value, World.cell? W6 (Addr.mk t6 t6o none) = some v3) ∧
          (World.frozen? W6 (Addr.mk t6 t6o none) = false ∧
          (∀ W7 : World, (W7 = World.setCell W6 (Addr.mk t6 t6o none) (Value.slice p4 (k6 + 1) k10) →
          Q Sx.Ex.normal W7))))))))))))))))))))))))))))))))))
         (Q Sx.Ex.normal W3)))))))))
       ((∀ W8 : World, (∀ k13 : Nat, (W8 = World.drewN W k13 →
        Q Sx.Ex.normal W8)))))))))))))))) {l m : Nat} {a : Act} (hs : a.tmps.size = 35) (hd : a.defers = []) (h0 : a.tmps.getD ((3, Value.pointer (some ⟨t3, t3o, none⟩))).1 undef = ((3, Value.pointer (some ⟨t3, t3o, none⟩))).2) (h1 : a.tmps.getD ((4, Value.pointer (some ⟨t4, t4o, none⟩))).1 undef = ((4, Value.pointer (some ⟨t4, t4o, none⟩))).2) (h2 : a.tmps.getD ((5, Value.pointer (some ⟨t5, t5o, none⟩))).1 undef = ((5, Value.pointer (some ⟨t5, t5o, none⟩))).2) (h3 : a.tmps.getD ((6, Value.pointer (some ⟨t6, t6o, none⟩))).1 undef = ((6, Value.pointer (some ⟨t6, t6o, none⟩))).2) (h4 : a.tmps.getD ((7, Value.pointer (some ⟨t7, t7o, none⟩))).1 undef = ((7, Value.pointer (some ⟨t7, t7o, none⟩))).2) :
  (Sx.bodyIn Tryd.f9).wpIn (Fence.wide.inRound l) m Tryd.prog (Sx.Post 35 (Sx.bodyIn Tryd.f9) (fun e _ w => Q e w) a) a W :=
  Sx.vc_round (Sx.bodyIn Tryd.f9) (.node [] [] 0 (.node [] [] 0 .leaf (.node [] [] 0 .leaf (.node [] [] 0 (.node [] [] 1007 .leaf .leaf) .leaf))) .leaf) ⟨[(3, Value.pointer (some ⟨t3, t3o, none⟩)), (4, Value.pointer (some ⟨t4, t4o, none⟩)), (5, Value.pointer (some ⟨t5, t5o, none⟩)), (6, Value.pointer (some ⟨t6, t6o, none⟩)), (7, Value.pointer (some ⟨t7, t7o, none⟩))], fun t => a.tmps.getD t undef⟩ W _ a (Eq.mp (by kernel_rfl) (h fun t => a.tmps.getD t undef)) (Sx.is_of_agree hs hd (List.forall_mem_cons.2 ⟨h0, (List.forall_mem_cons.2 ⟨h1, (List.forall_mem_cons.2 ⟨h2, (List.forall_mem_cons.2 ⟨h3, (List.forall_mem_cons.2 ⟨h4, (fun _ h => by cases h)⟩)⟩)⟩)⟩)⟩)) (by kernel_rfl)
end Go.Proofs.YtdliholhfiihcaaDoor
