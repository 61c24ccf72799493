import Derived.Test.YthacioiefgabbaaGreatDoorSxB
import Derived.RangeFuncCalls
import Derived.OrdersIn
import Derived.TacticsIn
import Derived.OwnWalkIn
import Derived.Test.YthacioiefgabbaaGreatDoorChecked
import Derived.Test.YthacioiefgabbaaGreatDoorWinB
/- 'Sx' in a round of a range over a function: the same conditions, walked in a round's frame. No condition. -/
namespace Go.Sx
open Go.RowKit
set_option linter.unusedVariables false
variable {P : Program} {l n : Nat} {Q : Exit → Act → World → Prop}

def isDefer (o : Oper) : Bool := match o.op with | .defer _ => true | _ => false
theorem not_defer {o : Oper} (h : isDefer o = false) : ∀ c, o.op ≠ .defer c := by
  intro c e
  unfold isDefer at h
  rw [e] at h; cases h
theorem op_round {o : Oper} {a : Act} {w : World} {K K' : Act → World → Prop} (hd : isDefer o = false) (hK : ∀ a w, K a w → K' a w) (h : o.wp P a w K Q) : o.wpIn (Fence.wide.inRound l) n P a w K' Q := by
  unfold Oper.wpIn
  refine ⟨fun _ _ => trivial, ?_⟩
  rw [Oper.semAt_plain _ _ _ (not_defer hd)]
  unfold Oper.wp at h
  generalize (execOp a.eval o).run P w = r at h
  unfold Oper.upon at h
  split at h
  · exact hK _ _ h
  · exact hK _ _ h
  · exact hK _ _ h
  · refine ⟨fun e => (nomatch e), CallsIn.inRound l (callsIn_wide.2 (h.mono ?_))⟩
    intro e w' he
    cases e with
    | returned v => exact hK _ _ he
    | panicked c => exact he
    | outgrown => exact he
  · refine ⟨fun e => (nomatch e), fun c cs hr => ?_⟩
    obtain ⟨v, w', r, s⟩ := h c cs
    exact ⟨v, w', hK _ _ r, stepsIn_wide.2 s⟩
  · exact h
  · exact h.elim
theorem list_round {ops : Array Oper} (hL : ¬ LetsOut Q) : ∀ (rest : List Oper) (a : Act) (w : World), (∀ o ∈ rest, isDefer o = false) → wpList P ops Q rest a w → wpListIn (Fence.wide.inRound l) n P ops Q rest a w
  | [], _, _, _, h => h
  | o :: rest, a, w, hd, h => by
    unfold wpList at h
    unfold wpListIn
    split at h
    · rename_i hw
      rw [if_pos hw]
      rcases h with h | ⟨-, h⟩
      · exact op_round (hd o (by simp)) (fun a w => list_round hL rest a w fun o ho => hd o (by simp [ho])) h
      · exact absurd h hL
    · rename_i hw
      rw [if_neg hw]
      exact ⟨fun _ _ => trivial, list_round hL rest _ w (fun o ho => hd o (by simp [ho])) h⟩
theorem any_round {md : Region.Mode} {ops : Array Oper} (hL : ¬ LetsOut Q) (hd : ∀ o ∈ ops, isDefer o = false) : ∀ (fuel : Nat) (listed : Array Bool) (a : Act) (w : World), wpAny P md ops Q fuel listed a w → wpAnyIn (Fence.wide.inRound l) n P md ops Q fuel listed a w
  | 0, _, _, _, h => h
  | fuel + 1, listed, a, w, h => by
    refine ⟨h.1, fun i hi => ?_⟩
    have h2 := h.2 i hi
    unfold wpOp at h2
    unfold wpOpIn
    cases ho : ops[i]? with
    | none => rw [ho] at h2; exact any_round hL hd fuel _ a w h2
    | some o =>
      rw [ho] at h2
      simp only at h2 ⊢
      split at h2
      · rename_i hw
        rw [if_pos hw]
        rcases h2 with h2 | ⟨-, h2⟩
        · exact op_round (hd o (Array.mem_of_getElem? ho)) (fun a w => any_round hL hd fuel _ a w) h2
        · exact absurd h2 hL
      · rename_i hw
        rw [if_neg hw]
        exact ⟨fun _ _ => trivial, any_round hL hd fuel _ _ w h2⟩
def roundOk : Code → An → Bool
  | .region _ ops d, an => ops.all (fun o => !isDefer o) && (!d || an.mode == 0 || Nat.blt 1000 an.mode)
  | .seq a b, an => roundOk a an.x && roundOk b an.y
  | .cond _ a b, an => roundOk a an.x && roundOk b an.y
  | .block _ c, an => roundOk c an.x
  | .loop c, an => roundOk c an.x
  | .scope _, _ => false
  | _, _ => true
theorem roundOk_seq {x y : Code} {an : An} (h : roundOk (.seq x y) an = true) : roundOk x an.x = true ∧ roundOk y an.y = true := by
  unfold roundOk at h; simpa using h
theorem roundOk_cond {c : Operand} {x y : Code} {an : An} (h : roundOk (.cond c x y) an = true) : roundOk x an.x = true ∧ roundOk y an.y = true := by
  unfold roundOk at h; simpa using h
theorem roundOk_ops {id : Nat} {ops : Array Oper} {d : Bool} {an : An} (h : roundOk (.region id ops d) an = true) : ∀ o ∈ ops, isDefer o = false := by
  unfold roundOk at h
  rw [Bool.and_eq_true] at h
  intro o ho
  have := Array.all_eq_true_iff_forall_mem.1 h.1 o ho
  simpa using this
theorem roundOk_mode {id : Nat} {ops : Array Oper} {an : An} (h : roundOk (.region id ops true) an = true) : an.mode = 0 ∨ 1000 < an.mode := by
  unfold roundOk at h
  rw [Bool.and_eq_true] at h
  have := h.2
  simp [Nat.blt_eq] at this
  omega
theorem vc_round {n l m0 : Nat} {P : Program} (c : Code) : ∀ (an : An) (F : Fr) (w : World) (K : Ex → Fr → World → Prop) (a : Act), vc n P c an F w K → Is n F a → roundOk c an = true → c.wpIn (Fence.wide.inRound l) m0 P (Post n c K a) a w := by
  induction c with
  | skip => intro an F w K a h hI hok; exact wpIn_skip ⟨⟨F, hI, h⟩, fun _ _ => rfl⟩
  | ret => intro an F w K a h hI hok; exact wpIn_ret ⟨⟨F, hI, h⟩, fun _ _ => rfl⟩
  | exit id => intro an F w K a h hI hok; exact wpIn_exit ⟨⟨F, hI, h⟩, fun _ _ => rfl⟩
  | scope c ih => intro an F w K a h hI hok; cases hok
  | region id ops d =>
    intro an F w K a h hI hok
    have hL : ∀ d, ¬ LetsOut (Post n (.region id ops d) K a) := fun d ⟨_, _, h⟩ => h
    have hdf : ∀ o ∈ ops, isDefer o = false := roundOk_ops hok
    cases d with
    | false =>
      refine wpIn_region_list (list_round (hL _) _ _ _ (fun o ho => hdf o (by simpa using ho)) ?_)
      have := list_some (n := n) (P := P) (ops := ops.toList) (Q := Post n (.region id ops false) K a) (dsts (.region id ops false)) ops.toList F a w (K .normal) mem_dsts h hI
        (fun F' a' w' h1 h2 h3 => ⟨⟨F', h1, h2⟩, h3⟩)
      simpa using this
    | true =>
      have hmode := roundOk_mode hok
      unfold vc at h
      split at h
      · obtain ⟨hb, h⟩ := cond_some h
        rw [Bool.and_eq_true] at hb
        have hq := quiet_some (n := n) (P := P) (ops := ops.toList) (w := w) (fun a' => ∀ w', (∃ m, w' = w.drewN m) → Post n (.region id ops true) K a .normal a' w') (dsts (.region id ops true)) ops.toList F a _ mem_dsts h hI
          (fun F' a' h1 h2 h3 w' ⟨m, hm⟩ => ⟨⟨F', h1, h2 w' m hm⟩, h3⟩)
        have hl := hb.2
        simp only [Region.lexB, Bool.and_eq_true] at hl
        refine wpIn_region_any hb.1 (any_round (hL _) hdf _ _ _ _ (wpAny_of_quiet (C := fun w' => ∃ m, w' = w.drewN m) (Q := fun a' => ∀ w', (∃ m, w' = w.drewN m) → Post n (.region id ops true) K a .normal a' w') (fun _ w' hw' h => h w' hw') _ _ _ _ ⟨1, rfl⟩ ?_))
        have := wpAnyQ_lex (C := fun w' => ∃ m, w' = w.drewN m) (md := .any) hl.1 ops.toList 0 (Array.replicate ops.size false) a (by simp) (by simpa using hl.2) (by simpa using hq)
        simpa using this
      · rename_i m hm
        have hm1 : Nat.ble 1000 m = true := by
          rw [hm] at hmode
          exact Nat.ble_eq ▸ (show 1000 ≤ m by omega)
        rw [hm1] at h
        obtain ⟨hb, h⟩ := cond_some (show (bif P.follows .mixedOrders && Region.noSelect ops then _ else False) from h)
        rw [Bool.and_eq_true] at hb
        refine wpIn_region_any hb.1 (any_round (hL _) hdf _ _ _ _ (wpAny_of_L _ _ _ _ (held_some (n := n) (stop := m - 1000) (w0 := w.drew) (Q := Post n (.region id ops true) K a) hb.2 (fun c a w hc => hc) (dsts (.region id ops true)) (fun i o ho => mem_dsts o (by
          have := Array.mem_of_getElem? ho; simpa using this)) _ _ F a w.drew _ (h w.drew rfl) hI (fun j oj _ hl => by simp [Array.getD_eq_getD_getElem?, Array.getElem?_replicate] at hl; split at hl <;> cases hl) (.inr (Below.refl _ _)) ?_)))
        intro F' a' w' h1 h2 h3
        exact ⟨⟨F', h1, h2⟩, h3⟩
  | seq x y ihx ihy =>
    intro an F w K a h hI hok
    have hd1 : ∀ t, t ∉ dsts (.seq x y) → t ∉ dsts x ∧ t ∉ dsts y := by
      intro t ht
      simp only [dsts, List.mem_append, not_or] at ht
      exact ht
    unfold vc at h
    split at h
    · refine wpIn_seq (wpIn_mono (ihx _ _ _ _ _ h hI (roundOk_seq hok).1) ?_)
      intro e a' w' he
      cases e with
      | normal =>
        obtain ⟨⟨F', hI', hk⟩, hkeep⟩ := he
        refine wpIn_mono (ihy _ _ _ _ _ hk hI' (roundOk_seq hok).2) ?_
        intro e a'' w'' he
        cases e with
        | normal => exact ⟨he.1, fun t ht => by rw [he.2 t (hd1 t ht).2, hkeep t (hd1 t ht).1]⟩
        | exit id => exact ⟨he.1, fun t ht => by rw [he.2 t (hd1 t ht).2, hkeep t (hd1 t ht).1]⟩
        | ret => exact ⟨he.1, fun t ht => by rw [he.2 t (hd1 t ht).2, hkeep t (hd1 t ht).1]⟩
        | _ => exact he.elim
      | exit id => exact ⟨he.1, fun t ht => he.2 t (hd1 t ht).1⟩
      | ret => exact ⟨he.1, fun t ht => he.2 t (hd1 t ht).1⟩
      | _ => exact he.elim
    · obtain ⟨hst, R, hx, hy⟩ := cond_some h
      have hst := stays_some hst
      refine wpIn_seq (wpIn_mono (ihx _ _ _ _ _ hx hI (roundOk_seq hok).1) ?_)
      intro e a' w' he
      cases e with
      | normal =>
        obtain ⟨⟨F', hI', hk⟩, hkeep⟩ := he
        dsimp only at hk
        unfold holds at hk
        split at hk
        · rename_i p hp
          rw [appO_congr hI'.fa] at hp
          obtain ⟨g', l', -, hκ, hl'⟩ := allS_some (a := a') an.S R R _ p (hy fun t => a'.tmps.getD t undef) (by
            intro q hq
            obtain ⟨t, ht, rfl⟩ := List.mem_map.1 hq
            show a'.tmps.getD t undef = F.get t
            rw [hkeep t (hst t ht), hI.at_]) hp
          have hI2 := is_of_agree hI'.size hI'.defers hl'
          refine wpIn_mono (ihy _ _ _ _ _ (hκ w' hk) hI2 (roundOk_seq hok).2) ?_
          intro e a'' w'' he
          cases e with
          | normal => exact ⟨he.1, fun t ht => by rw [he.2 t (hd1 t ht).2, hkeep t (hd1 t ht).1]⟩
          | exit id => exact ⟨he.1, fun t ht => by rw [he.2 t (hd1 t ht).2, hkeep t (hd1 t ht).1]⟩
          | ret => exact ⟨he.1, fun t ht => by rw [he.2 t (hd1 t ht).2, hkeep t (hd1 t ht).1]⟩
          | _ => exact he.elim
        · exact hk.elim
      | exit id => exact ⟨he.1, fun t ht => he.2 t (hd1 t ht).1⟩
      | ret => exact ⟨he.1, fun t ht => he.2 t (hd1 t ht).1⟩
      | _ => exact he.elim
  | cond c x y ihx ihy =>
    intro an F w K a h hI hok
    have hd1 : ∀ t, t ∉ dsts (.cond c x y) → t ∉ dsts x ∧ t ∉ dsts y := by
      intro t ht
      simp only [dsts, List.mem_append, not_or] at ht
      exact ht
    obtain ⟨b, hb, h⟩ := asBool_some h
    have hb' : a.eval c = .bool b := by rw [hI.eval]; exact hb
    rcases split_some h with ⟨rfl, h⟩ | ⟨rfl, h⟩
    · refine wpIn_cond_true hb' (wpIn_mono (ihx _ _ _ _ _ h (hI.know hb) (roundOk_cond hok).1) ?_)
      intro e a' w' he
      cases e with
      | normal => exact ⟨he.1, fun t ht => he.2 t (hd1 t ht).1⟩
      | exit id => exact ⟨he.1, fun t ht => he.2 t (hd1 t ht).1⟩
      | ret => exact ⟨he.1, fun t ht => he.2 t (hd1 t ht).1⟩
      | _ => exact he.elim
    · refine wpIn_cond_false hb' (wpIn_mono (ihy _ _ _ _ _ h (hI.know hb) (roundOk_cond hok).2) ?_)
      intro e a' w' he
      cases e with
      | normal => exact ⟨he.1, fun t ht => he.2 t (hd1 t ht).2⟩
      | exit id => exact ⟨he.1, fun t ht => he.2 t (hd1 t ht).2⟩
      | ret => exact ⟨he.1, fun t ht => he.2 t (hd1 t ht).2⟩
      | _ => exact he.elim
  | block id c ih =>
    intro an F w K a h hI hok
    refine wpIn_block (wpIn_mono (ih _ _ _ _ _ h hI hok) ?_)
    intro e a' w' he
    cases e with
    | normal => exact he
    | exit i =>
      obtain ⟨⟨F', hI', hk⟩, hkeep⟩ := he
      dsimp only at hk
      simp only [Exit.inBlock]
      by_cases e : i = id
      · subst e
        rw [Nat.beq_refl] at hk
        rw [if_pos rfl]
        exact ⟨⟨F', hI', hk⟩, hkeep⟩
      · rw [if_neg e]
        have : Nat.beq i id = false := by
          cases hb : Nat.beq i id with
          | false => rfl
          | true => exact absurd (Nat.eq_of_beq_eq_true hb) e
        rw [this] at hk
        exact ⟨⟨F', hI', hk⟩, hkeep⟩
    | ret => exact he
    | _ => exact he.elim
  | loop c ih =>
    intro an F w K a h hI hok
    unfold vc at h
    obtain ⟨hst, I, μ, h0, hround⟩ := cond_some h
    have hst := stays_some hst
    let MU : Act → World → Nat := fun a' w' => match appO an.S μ (FA a') with | some m => m w' | none => 0
    refine wpIn_loop (fun a' w' => a'.tmps.size = n ∧ a'.defers = [] ∧ (∀ t, t ∉ dsts c → a'.tmps.getD t undef = a.tmps.getD t undef) ∧ holds (appO an.S I (FA a')) w') MU ⟨hI.size, hI.defers, fun _ _ => rfl, by rw [appO_congr hI.fa] at h0; exact h0⟩ ?_
    rintro a' w' ⟨h1, h2, h3, h4⟩
    unfold holds at h4
    split at h4
    · rename_i p hp
      obtain ⟨μ', l', hμ, hκ, hl'⟩ := allS_some (a := a') an.S I μ _ p (hround fun t => a'.tmps.getD t undef) (by
        intro q hq
        obtain ⟨t, ht, rfl⟩ := List.mem_map.1 hq
        show a'.tmps.getD t undef = F.get t
        rw [h3 t (hst t ht), hI.at_]) hp
      have hI2 := is_of_agree h1 h2 hl'
      refine wpIn_mono (ih _ _ _ _ _ (hκ w' h4) hI2 hok) ?_
      intro e a'' w'' he
      cases e with
      | normal =>
        obtain ⟨⟨F2, hF2, hk⟩, hkeep⟩ := he
        dsimp only at hk
        split at hk
        · rename_i I2 μ2 e1 e2
          rw [appO_congr hF2.fa] at e1 e2
          refine ⟨⟨hF2.size, hF2.defers, fun t ht => by rw [hkeep t ht, h3 t ht], by rw [e1]; exact hk.1⟩, ?_⟩
          show MU a'' w'' < MU a' w'
          simp only [MU, e2, hμ]
          exact hk.2
        · exact hk.elim
      | exit id => exact ⟨he.1, fun t ht => by rw [he.2 t ht, h3 t ht]⟩
      | ret => exact ⟨he.1, fun t ht => by rw [he.2 t ht, h3 t ht]⟩
      | _ => exact he.elim
    · exact h4.elim
  | _ => intro an F w K a h hI hok; exact h.elim
/-- the body of the function's first range over a function -/
def findR : Code → Option Code
  | .rangeFunc _ _ _ b => some b
  | .seq a b => match findR a with
    | some c => some c
    | none => findR b
  | .cond _ a b => match findR a with
    | some c => some c
    | none => findR b
  | .block _ c => findR c
  | .loop c => findR c
  | .scope c => findR c
  | _ => none
def bodyIn (fn : Func) : Code := match fn.body with
  | some c => (findR c).getD .skip
  | none => .skip
end Go.Sx
/- What each function asks, reckoned out of its text; printed by a program of mine (wip/tpl/VcTool.lean). No condition. -/
namespace Go.Proofs.YthacioiefgabbaaGreatDoor
open Go Go.Proofs
set_option linter.unusedVariables false
set_option maxRecDepth 100000
theorem vcB113 {W : World} {Q : Sx.Ex → World → Prop} (t3 : Nat) (t3o : Nat) (t4 : Nat) (t4o : Nat) (t5 : Nat) (t5o : Nat) (t6 : Nat) (t6o : Nat) (t7 : Nat) (t7o : Nat)
  (h : ∀ J : Nat → Value,
    (∃ p : Option Addr, (∃ k : Nat, (∃ k2 : Nat, (World.cell? W (Addr.mk t6 t6o none) = some (Value.slice p k k2) ∧
    (∃ z : Int, (World.cell? W (Addr.mk t5 t5o none) = some (Value.int IntKind.i64 z) ∧
    Sx.split (decide ((↑k : Int) ≥ z))
     (Q (Sx.Ex.exit 0) W)
     ((∃ z2 : Int, (World.cell? W (Addr.mk t7 t7o none) = some (Value.int IntKind.i64 z2) ∧
      (∃ z3 : Int, (World.cell? W (Addr.mk t4 t4o none) = some (Value.int IntKind.i64 z3) ∧
      Sx.split (z2 == z3)
       ((∃ p2 : Option Addr, (World.cell? W (Addr.mk t3 t3o none) = some (Value.pointer p2) ∧
        (∃ t : Bool, ((∀ k3 : Nat, Calls Tryz.prog 155 #[Value.pointer p2, Value.pointer (some (Addr.mk t7 t7o none))] (World.drewN W k3) (fun e =>
          (fun W2 =>
          (e = Ending.returned (Value.bool t) ∧
          (∃ k4 : Nat, W2 = World.drewN W k4))))) ∧
        (∀ W3 : World, (∀ k5 : Nat, (W3 = World.drewN W k5 →
        Sx.split t
         ((∀ W4 : World, (W4 = World.drew W3 →
          (∃ p3 : Option Addr, (∃ k6 : Nat, (∃ k7 : Nat, (World.cell? W4 (Addr.mk t6 t6o none) = some (Value.slice p3 k6 k7) ∧
          (∃ z4 : Int, (World.cell? W4 (Addr.mk t7 (t7o + 5) none) = some (Value.int IntKind.i64 z4) ∧
          (∀ k8 : Nat, (∀ W5 : World, (k8 = Array.size (World.heap W4) →
          (W5 = World.alloc W4 (Obj.cells #[Value.int IntKind.i64 z4] 3) →
          (RowKit.Below (Array.size (World.heap W4)) W4 W5 ∧
          (∃ l : List Value, (∃ l2 : List Value, (XHeap.Sl W5 3 1 (Value.slice p3 k6 k7) k6 l ∧
          (((((1 : Nat) = (0 : Nat) ∧
            some (Addr.mk k8 0 none) = none)) ∨
           ((∃ a : Addr, (some (Addr.mk k8 0 none) = some a ∧
           (∀ k9 : Nat, (∀ v : Value, (l2[k9]? = some v →
           World.cell? W5 (Addr.add a k9) = some v))))))) ∧
          (List.length l2 = 1 ∧
          ((∀ v2 : Value, (v2 ∈ l2 →
           Value.oneCell' v2 = true)) ∧
          (k6 + 1 ≤ maxLen ∧
          ((k6 + 1) * 8 ≤ 140737488355328 ∧
          (∀ p4 : Option Addr, (∀ k10 : Nat, (∀ W6 : World, (XHeap.Sl W6 3 1 (Value.slice p4 (k6 + 1) k10) (k6 + 1) (l ++ l2) →
          (XHeap.XTouch (fun b => Value.ownBlock (Value.slice p3 k6 k7) = some b) W5 W6 →
          ((∀ k11 : Nat, (Value.ownBlock (Value.slice p4 (k6 + 1) k10) = some k11 →
          ((Value.ownBlock (Value.slice p3 k6 k7) = some k11) ∨
          (Array.size (World.heap W5) ≤ k11)))) →
          (XHeap.Sl W6 3 1 (Value.slice p3 k6 k7) k6 l →
          ((((p4 = p3 ∧
           k10 = k7)) ∨
          ((((XHeap.NilP p3) ∨
           (k7 < k6 + 1)) ∧
          (∀ k12 : Nat, (Value.ownBlock (Value.slice p4 (k6 + 1) k10) = some k12 →
          Array.size (World.heap W5) ≤ k12))))) →
          ((∃ v3 : Value, World.cell? W6 (Addr.mk t6 t6o none) = some v3) ∧
          (World.frozen? W6 (Addr.mk t6 t6o none) = false ∧
          (∀ W7 : World, (W7 = World.setCell W6 (Addr.mk t6 t6o none) (Value.slice p4 (k6 + 1) k10) →
          Q Sx.Ex.normal W7))))))))))))))))))))))))))))))))))
         (Q Sx.Ex.normal W3)))))))))
       ((∀ W8 : World, (∀ k13 : Nat, (W8 = World.drewN W k13 →
        Q Sx.Ex.normal W8)))))))))))))))) {l m : Nat} {a : Act} (hs : a.tmps.size = 35) (hd : a.defers = []) (h0 : a.tmps.getD ((3, Value.pointer (some ⟨t3, t3o, none⟩))).1 undef = ((3, Value.pointer (some ⟨t3, t3o, none⟩))).2) (h1 : a.tmps.getD ((4, Value.pointer (some ⟨t4, t4o, none⟩))).1 undef = ((4, Value.pointer (some ⟨t4, t4o, none⟩))).2) (h2 : a.tmps.getD ((5, Value.pointer (some ⟨t5, t5o, none⟩))).1 undef = ((5, Value.pointer (some ⟨t5, t5o, none⟩))).2) (h3 : a.tmps.getD ((6, Value.pointer (some ⟨t6, t6o, none⟩))).1 undef = ((6, Value.pointer (some ⟨t6, t6o, none⟩))).2) (h4 : a.tmps.getD ((7, Value.pointer (some ⟨t7, t7o, none⟩))).1 undef = ((7, Value.pointer (some ⟨t7, t7o, none⟩))).2) :
  (Sx.bodyIn Tryz.f113).wpIn (Fence.wide.inRound l) m Tryz.prog (Sx.Post 35 (Sx.bodyIn Tryz.f113) (fun e _ w => Q e w) a) a W :=
  Sx.vc_round (Sx.bodyIn Tryz.f113) (.node [] [] 0 (.node [] [] 0 .leaf (.node [] [] 0 .leaf (.node [] [] 0 (.node [] [] 1007 .leaf .leaf) .leaf))) .leaf) ⟨[(3, Value.pointer (some ⟨t3, t3o, none⟩)), (4, Value.pointer (some ⟨t4, t4o, none⟩)), (5, Value.pointer (some ⟨t5, t5o, none⟩)), (6, Value.pointer (some ⟨t6, t6o, none⟩)), (7, Value.pointer (some ⟨t7, t7o, none⟩))], fun t => a.tmps.getD t undef⟩ W _ a (Eq.mp (by kernel_rfl) (h fun t => a.tmps.getD t undef)) (Sx.is_of_agree hs hd (List.forall_mem_cons.2 ⟨h0, (List.forall_mem_cons.2 ⟨h1, (List.forall_mem_cons.2 ⟨h2, (List.forall_mem_cons.2 ⟨h3, (List.forall_mem_cons.2 ⟨h4, (fun _ h => by cases h)⟩)⟩)⟩)⟩)⟩)) (by kernel_rfl)
end Go.Proofs.YthacioiefgabbaaGreatDoor
/- The window, part C: Ready: a range over the method value that collects. No condition. -/
namespace Go.Proofs.YthacioiefgabbaaGreatDoor.win
open Go.RowKit Go.XHeap Go.Sx Go.Sep Go.RangeM Go.Shelf
attribute [local go_sem] Oper.semAt_some
set_option linter.unusedVariables false
set_option maxRecDepth 100000
variable {W w' : World} {b : Nat} {w v : WS}

def WS.may (w : WS) (c : Int) (k : Nat) : Bool := (w.slot k).cls == c && w.able (w.slot k)
/-- what may begin among the k oldest -/
def WS.rdy (w : WS) (c : Int) (k : Nat) : List Int := ((List.range k).filter (w.may c)).map fun j => (w.slot j).seq
theorem rdy_zero (c : Int) : w.rdy c 0 = [] := rfl
theorem rdy_hit {c : Int} {k : Nat} (h : w.may c k = true) : w.rdy c (k + 1) = w.rdy c k ++ [(w.slot k).seq] := by
  unfold WS.rdy; rw [List.range_succ, List.filter_append, List.map_append]; simp [h]
theorem rdy_miss {c : Int} {k : Nat} (h : w.may c k = false) : w.rdy c (k + 1) = w.rdy c k := by
  unfold WS.rdy; rw [List.range_succ, List.filter_append, List.map_append]; simp [h]
theorem rdy_len (c : Int) (k : Nat) : (w.rdy c k).length ≤ k := by
  unfold WS.rdy
  rw [List.length_map]
  exact Nat.le_trans (List.length_filter_le _ _) (by simp)
theorem rdy_pre {c : Int} {k n : Nat} (h : k ≤ n) : (w.rdy c n).take (w.rdy c k).length = w.rdy c k := by
  obtain ⟨d, rfl⟩ : ∃ d, n = k + d := ⟨n - k, by omega⟩
  have : w.rdy c (k + d) = w.rdy c k ++ (((List.range d).map (k + ·)).filter (w.may c)).map fun j => (w.slot j).seq := by
    unfold WS.rdy
    rw [List.range_add, List.filter_append, List.map_append]
  rw [this, List.take_left']
  rfl
/-- what Ready gives -/
def WS.readyL (w : WS) (c most : Int) : List Int := (w.rdy c w.n).take most.toNat
theorem readyL_stop {c most : Int} {k : Nat} (hk : k ≤ w.n) (h1 : (w.rdy c k).length ≤ most.toNat) (h2 : most ≤ (w.rdy c k).length) : w.readyL c most = w.rdy c k := by
  unfold WS.readyL
  rw [show most.toNat = (w.rdy c k).length by omega]
  exact rdy_pre hk
theorem readyL_all {c most : Int} (h1 : (w.rdy c w.n).length ≤ most.toNat) : w.readyL c most = w.rdy c w.n := List.take_of_length_le h1
def intsV (l : List Int) : List Value := l.map (.int .i64)
def readyB (W : World) (b : Nat) (c most : Int) (p : Option Addr) (d : Nat) (l : List Int) : List Asn := [blk W.heap.size #[.pointer (some ⟨b, 0, none⟩)] 138, blk (W.heap.size + 1) #[.int .i64 c] 239, blk (W.heap.size + 2) #[.int .i64 most] 3, blk (W.heap.size + 3) #[.slice p l.length d] 57, sl 3 1 (.slice p l.length d) l.length (intsV l)]
def ReadyI (W : World) (b : Nat) (c most : Int) (l : List Int) (A : World) : Prop := ∃ p d, St W No A (readyB W b c most p d l) ∧ ∀ q, (Value.slice p l.length d).ownBlock = some q → W.heap.size + 6 ≤ q
theorem _root_.Go.Sep.St.then_ {M : Nat → Prop} {A B : World} {L L' : List Asn} (H : St W M A L) (H2 : St A (owns L) B L') : St W M B L' :=
  ⟨H.touch.trans H2.touch (fun q hq e => (H.mine q e).elim id (fun h => by omega)), fun q hq => (H2.mine q hq).elim (H.mine q) (fun e => .inr (Nat.le_trans H.size e)), H2.here⟩
theorem two_of {W0 A B : World} {L : List Asn} (ht : XTouch (owns L) A B) (hn : ∀ q, owns L q → ¬ Rec W0 q) (hs : W0.heap.size + 2 ≤ A.heap.size) : Two W0 A B := by
  intro q hq
  exact ht.block q (by rcases hq with e | e <;> omega) (fun e => hn q e hq)
def toExit : Ex → Exit
  | .normal => .normal
  | .exit i => .exit i
  | .ret => .ret
theorem round_post {W0 A : World} {I : Nat → World → Prop} {Ix : Code → World → Prop} {k n : Nat} {c : Code} {a a0 : Act} : ∀ (e : Exit) (a' : Act) (w : World), Sx.Post n c (fun e _ w => roundEnd W0 I Ix k A (toExit e) a0 w) a e a' w → roundEnd W0 I Ix k A e a' w
  | .normal, _, _, h => by obtain ⟨⟨F, -, h⟩, -⟩ := h; exact h
  | .exit _, _, _, h => by obtain ⟨⟨F, -, h⟩, -⟩ := h; exact h
  | .ret, _, _, h => by obtain ⟨⟨F, -, h⟩, -⟩ := h; exact h
  | .goto _, _, _, h => h.elim
  | .panic _, _, _, h => h.elim
  | .outgrown, _, _, h => h.elim
theorem ready_low {W0 : World} (hsz : W0.heap.size = W.heap.size + 4) {c most : Int} {p : Option Addr} {d : Nat} {l : List Int} (hown : ∀ q, (Value.slice p l.length d).ownBlock = some q → W.heap.size + 6 ≤ q) : ∀ q, owns (readyB W b c most p d l) q → ¬ Rec W0 q := by
  rintro q hq hr
  rcases hq with e | e | e | e | e | e
  · have e : q = W.heap.size := e
    rcases hr with hr | hr <;> omega
  · have e : q = W.heap.size + 1 := e
    rcases hr with hr | hr <;> omega
  · have e : q = W.heap.size + 2 := e
    rcases hr with hr | hr <;> omega
  · have e : q = W.heap.size + 3 := e
    rcases hr with hr | hr <;> omega
  · have := hown q e
    rcases hr with hr | hr <;> omega
  · exact e
def RI (W : World) (w : WS) (b : Nat) (c most : Int) (k : Nat) (A : World) : Prop := k ≤ w.n ∧ (w.rdy c k).length ≤ most.toNat ∧ ReadyI W b c most (w.rdy c k) A
def RX (W : World) (w : WS) (b : Nat) (c most : Int) (j : Code) (A : World) : Prop := j = .exit 0 ∧ ReadyI W b c most (w.readyL c most) A
/-- one round -/
theorem ready_round (ho : w.Ok) (h : (winA b w).at_ W) (hr : ∀ k, k < w.n → (w.slot k).regs w.R) (c most : Int) {W0 : World} (hsz : W0.heap.size = W.heap.size + 4) {l m k : Nat} {A : World} {a : Act} (hk : k < w.n) (hi : RI W w b c most k A) (hs2 : W0.heap.size + 2 ≤ A.heap.size)
    (hs : a.tmps.size = 35) (hd : a.defers = []) (h0 : a.tmps.getD 3 undef = .pointer (some ⟨W.heap.size, 0, none⟩)) (h1 : a.tmps.getD 4 undef = .pointer (some ⟨W.heap.size + 1, 0, none⟩)) (h2 : a.tmps.getD 5 undef = .pointer (some ⟨W.heap.size + 2, 0, none⟩)) (h3 : a.tmps.getD 6 undef = .pointer (some ⟨W.heap.size + 3, 0, none⟩)) (h4 : a.tmps.getD 7 undef = .pointer (some ⟨w.g, w.ix k * 6, none⟩)) :
    (Sx.bodyIn Tryz.f113).wpIn (Fence.wide.inRound l) m Tryz.prog (roundEnd W0 (RI W w b c most) (RX W w b c most) k A) a A := by
  obtain ⟨hkn, hlen, p, d, H, hown⟩ := hi
  have keep : ∀ {A : World} {L : List Asn}, St W No A L → (winA b w).at_ A := fun H => (winA b w).keep h H.touch (fun _ _ e => e)
  have hn := ho.n
  have hs1 := ho.s1
  have hlk := rdy_len (w := w) c k
  have low := ready_low (W0 := W0) (b := b) (c := c) (most := most) hsz hown
  refine wpIn_mono (vcB113 (W := A) (Q := fun e B => roundEnd W0 (RI W w b c most) (RX W w b c most) k A (toExit e) a B) W.heap.size 0 (W.heap.size + 1) 0 (W.heap.size + 2) 0 (W.heap.size + 3) 0 w.g (w.ix k * 6) (fun J => ?_) hs hd h0 h1 h2 h3 h4) round_post
  have HA : St A (owns (readyB W b c most p d (w.rdy c k))) A (readyB W b c most p d (w.rdy c k)) := St.all_ H.here
  have hg : ∀ {B : World} {L : List Asn}, St A (owns (readyB W b c most p d (w.rdy c k))) B L → Blk B w.g (rows Slot.cells w.ring) 320 ∧ (winA b w).at_ B := fun HB => ⟨(win_open (keep (H.then_ HB))).nth 1 rfl, keep (H.then_ HB)⟩
  refine ⟨p, _, d, HA.ld 3 rfl rfl, most, HA.ld 2 rfl rfl, split_of (fun q => ?_) (fun q => ?_)⟩
  · have q := of_decide_eq_true q
    exact ⟨two_of HA.touch low hs2, rfl, by rw [readyL_stop (by omega) hlen q]; exact ⟨p, d, H, hown⟩⟩
  have q := of_decide_eq_false q
  refine ⟨(w.slot k).cls, slot_cell ho (hg HA).1 k (q := 0) (by omega) rfl, c, HA.ld 1 rfl rfl, split_of (fun q1 => ?_) (fun q1 => ?_)⟩
  · refine ⟨some ⟨b, 0, none⟩, HA.ld 0 rfl rfl, w.able (w.slot k), fun n => (able_any ho (hg (HA.drewN n)).2 k (hr k hk)).mono ?_, ?_⟩
    · rintro e B ⟨rfl, rfl⟩
      exact ⟨rfl, n, rfl⟩
    · refine HA.drN fun B HB => split_of (fun q2 => ?_) (fun q2 => ?_)
      · have hmay : w.may c k = true := by unfold WS.may; rw [q1, q2]; rfl
        refine HB.dr fun B HB => ⟨p, _, d, HB.ld 3 rfl rfl, (w.slot k).seq, slot_cell ho (hg HB).1 k (q := 5) (by omega) rfl, HB.alb fun k8 B5 HB5 hk8 b5 => ⟨b5, ?_⟩⟩
        refine ⟨intsV (w.rdy c k), [.int .i64 (w.slot k).seq], HB5.nth 4 rfl, .inr ⟨_, rfl, fun j u hj => HB5.cells 5 rfl j u (by simpa using hj)⟩, rfl, by intro u hu; simp at hu; subst hu; rfl, by have : maxLen = 2 ^ 63 - 1 := rfl; omega, by omega, ?_⟩
        intro p4 k10 B6 s1 s2 s3 _ _
        have hpp : Sep.Post (sl 3 1 (.slice p (w.rdy c k).length d) (w.rdy c k).length (intsV (w.rdy c k))) B5 (sl 3 1 (.slice p4 ((w.rdy c k).length + 1) k10) ((w.rdy c k).length + 1) (intsV (w.rdy c k) ++ [Value.int .i64 (w.slot k).seq])) B6 := ⟨s1, s2, s3⟩
        have HB6 := HB5.upd 4 rfl hpp
        refine HB6.st 3 rfl (by show 0 < 1; omega) fun B7 HB7 => ?_
        have HF := (HB7.take 5)
        have e1 : w.rdy c (k + 1) = w.rdy c k ++ [(w.slot k).seq] := rdy_hit hmay
        have e2 : (w.rdy c k).length + 1 = (w.rdy c (k + 1)).length := by rw [e1]; simp
        have e3 : intsV (w.rdy c k) ++ [.int .i64 (w.slot k).seq] = intsV (w.rdy c (k + 1)) := by rw [e1]; simp [intsV]
        refine ⟨two_of HB7.touch low hs2, by omega, by omega, p4, k10, ?_, ?_⟩
        · have HF : St A (owns (readyB W b c most p d (w.rdy c k))) B7 [blk W.heap.size #[.pointer (some ⟨b, 0, none⟩)] 138, blk (W.heap.size + 1) #[.int .i64 c] 239, blk (W.heap.size + 2) #[.int .i64 most] 3, blk (W.heap.size + 3) #[.slice p4 ((w.rdy c k).length + 1) k10] 57, sl 3 1 (.slice p4 ((w.rdy c k).length + 1) k10) ((w.rdy c k).length + 1) (intsV (w.rdy c k) ++ [.int .i64 (w.slot k).seq])] := HF
          rw [e2, e3] at HF
          exact H.then_ HF
        · rw [← e2]
          intro q hq
          rcases s3 q hq with e | e
          · exact hown q e
          · have := HB5.size
            omega
      · have hmay : w.may c k = false := by unfold WS.may; rw [q1, q2]; rfl
        refine ⟨two_of HB.touch low hs2, by omega, by rw [rdy_miss hmay]; exact hlen, ?_⟩
        rw [rdy_miss hmay]
        exact ⟨p, d, H.then_ HB, hown⟩
  · have hmay : w.may c k = false := by unfold WS.may; rw [q1]; rfl
    refine HA.drN fun B HB => ⟨two_of HB.touch low hs2, by omega, by rw [rdy_miss hmay]; exact hlen, ?_⟩
    rw [rdy_miss hmay]
    exact ⟨p, d, H.then_ HB, hown⟩
end Go.Proofs.YthacioiefgabbaaGreatDoor.win
/- The window, part D: Ready. No condition. -/
namespace Go.Proofs.YthacioiefgabbaaGreatDoor.win
open Go.RowKit Go.XHeap Go.Sx Go.Sep Go.RangeM Go.Shelf
attribute [local go_sem] Oper.semAt_some
set_option linter.unusedVariables false
set_option maxRecDepth 100000
variable {W w' : World} {b : Nat} {w v : WS}

set_option maxHeartbeats 4000000 in
theorem ready_any (ho : w.Ok) (h : (winA b w).at_ W) (hr : ∀ k, k < w.n → (w.slot k).regs w.R) (c most : Int) :
    Calls Tryz.prog 113 #[.pointer (some ⟨b, 0, none⟩), .int .i64 c, .int .i64 most] W fun e w2 => ∃ z : Option Addr × Nat, e = .returned (.slice z.1 (w.readyL c most).length z.2) ∧ Sep.Post emp W (sl 3 1 (.slice z.1 (w.readyL c most).length z.2) (w.readyL c most).length (intsV (w.readyL c most))) w2 := by
  refine (callsIn_wide (n := 3)).1 ?_
  refine callsIn_of_wp_marks Tryz.func113 rfl trivial ?_ rfl
  simp only [Tryz.ntmps113, List.size_toArray, List.length_cons, List.length_nil, Nat.reduceAdd, Nat.reduceSub, Array.replicate_succ, Array.replicate_zero, List.push_toArray, List.append_toArray, List.nil_append, List.cons_append]
  obtain ⟨W0, hW0⟩ : ∃ W0, (((W.alloc (.cells #[.pointer (some ⟨b, 0, none⟩)] 138)).alloc (.cells #[.int .i64 c] 239)).alloc (.cells #[.int .i64 most] 3)).alloc (.cells #[.slice none 0 0] 57) = W0 := ⟨_, rfl⟩
  have H : St W No W0 (readyB W b c most none 0 []) := by
    have := ((((St.nil W).alloc #[.pointer (some ⟨b, 0, none⟩)] 138).alloc #[.int .i64 c] 239).alloc #[.int .i64 most] 3).alloc #[.slice none 0 0] 57
    simp only [World.size_alloc] at this
    rw [hW0] at this
    exact this.add (A := sl 3 1 (.slice none 0 0) 0 []) ⟨Sl.nil _ _ _, XTouch.refl _ _, fun q hq => by cases hq⟩
  have hsz : W0.heap.size = W.heap.size + 4 := by rw [← hW0]; simp
  have c0 := H.ld 0 (i := 0) rfl rfl
  gi_wp2
  try rw [hW0]
  have keep : ∀ {A : World} {L : List Asn}, St W No A L → (winA b w).at_ A := fun H => (winA b w).keep h H.touch (fun _ _ e => e)
  have high : ∀ q, Rec W0 q → W.heap.size ≤ q := by
    rintro q (hr | hr) <;> omega
  have hI : ∀ (l : List Int) A B, ReadyI W b c most l A → XTouch (Rec W0) A B → ReadyI W b c most l B := by
    rintro l A B ⟨p, d, H, hown⟩ ht
    exact ⟨p, d, St.rec_ H ht (ready_low hsz hown) high, hown⟩
  refine range_m (N := w.n) (enc := fun k => .pointer (some ⟨w.g, w.ix k * 6, none⟩)) rfl (enters_of Tryz.func154 (by kernel_rfl) rfl) (each_gives ho 3)
    (RI W w b c most) (RX W w b c most)
    (fun k A B hi ht => ⟨hi.1, hi.2.1, hI _ A B hi.2.2 ht⟩) (fun j A B hi ht => ⟨hi.1, hI _ A B hi.2 ht⟩)
    (fun k A hi => by
      obtain ⟨-, -, p, d, h3, -⟩ := hi
      exact keep h3) ⟨Nat.zero_le _, by rw [rdy_zero]; exact Nat.zero_le _, none, 0, H, fun q hq => by cases hq⟩
    (fun x => { tmps := #[.pointer (some ⟨b, 0, none⟩), .int .i64 c, .int .i64 most, .pointer (some ⟨W.heap.size, 0, none⟩), .pointer (some ⟨W.heap.size + 1, 0, none⟩), .pointer (some ⟨W.heap.size + 2, 0, none⟩), .pointer (some ⟨W.heap.size + 3, 0, none⟩), x, .pointer (some ⟨b, 0, none⟩), .func (.func 154) #[.pointer (some ⟨b, 0, none⟩)] #[], x, undef, undef, undef, undef, undef, undef, undef, undef, undef, undef, undef, undef, undef, undef, undef, undef, undef, undef, undef, undef, undef, undef, undef, undef], defers := [] }) ?assign ?body ?done ?stop
  case assign =>
    intro l x A K hK
    gi_wp2
    exact hK
  case body =>
    rintro l k A hk hi hs2
    exact ready_round ho h hr c most hsz hk hi hs2 rfl rfl rfl rfl rfl rfl rfl
  case done =>
    rintro A ⟨-, hlen, p, d, H, hown⟩ hD
    rw [← readyL_all hlen] at H hown
    have cr := H.ld 3 (i := 0) rfl rfl
    have fr := (H.blk 3 rfl).frozen 0
    gi_wp2
    have hD' : (A.setCell ⟨W.heap.size + 1 + 1 + 1, 0, none⟩ (.slice p (w.readyL c most).length d)).heap[W0.heap.size]? = some (.deferred (some [])) := (Below.heap_setCell A ⟨W.heap.size + 3, 0, none⟩ (.slice p (w.readyL c most).length d) _ (by show W0.heap.size ≠ W.heap.size + 3; omega)).trans hD
    refine ⟨by simp, .inl ⟨_, _, rfl, run_takeDeferred hD', ?_⟩⟩
    have H2 : St W No _ (readyB W b c most p d (w.readyL c most)) := St.rec_ (H.wr 3 rfl 0 (.slice p (w.readyL c most).length d)) ((touch_putObj _ W0.heap.size (.deferred none)).mono fun q _ e => (show Rec W0 q from .inl e)) (ready_low (b := b) (c := c) (most := most) hsz hown) high
    have c2 := H2.ld 3 (i := 0) rfl rfl
    refine ⟨.slice p (w.readyL c most).length d, ?_, (p, d), rfl, H2.new 4 rfl⟩
    simp [results, Tryz.f113, go_sem, c2]
  case stop =>
    rintro j A ⟨rfl, p, d, H, hown⟩ hD
    have cr := H.ld 3 (i := 0) rfl rfl
    have fr := (H.blk 3 rfl).frozen 0
    gi_wp2
    have hD' : (A.setCell ⟨W.heap.size + 1 + 1 + 1, 0, none⟩ (.slice p (w.readyL c most).length d)).heap[W0.heap.size]? = some (.deferred (some [])) := (Below.heap_setCell A ⟨W.heap.size + 3, 0, none⟩ (.slice p (w.readyL c most).length d) _ (by show W0.heap.size ≠ W.heap.size + 3; omega)).trans hD
    refine ⟨by simp, .inl ⟨_, _, rfl, run_takeDeferred hD', ?_⟩⟩
    have H2 : St W No _ (readyB W b c most p d (w.readyL c most)) := St.rec_ (H.wr 3 rfl 0 (.slice p (w.readyL c most).length d)) ((touch_putObj _ W0.heap.size (.deferred none)).mono fun q _ e => (show Rec W0 q from .inl e)) (ready_low (b := b) (c := c) (most := most) hsz hown) high
    have c2 := H2.ld 3 (i := 0) rfl rfl
    refine ⟨.slice p (w.readyL c most).length d, ?_, (p, d), rfl, H2.new 4 rfl⟩
    simp [results, Tryz.f113, go_sem, c2]
end Go.Proofs.YthacioiefgabbaaGreatDoor.win
