/- 'Sx' in a round of a range over a function: the same conditions, walked in a round's frame. No condition. -/
import Derived.Test.YtbiogceijdcoiaaSxB
import Derived.RangeFuncCalls
import Derived.OrdersIn
import Derived.TacticsIn
import Derived.OwnWalkIn
namespace Go.Sx
open Go.RowKit
set_option linter.unusedVariables false
variable {P : Program} {l n : Nat} {Q : Exit → Act → World → Prop}

def isDefer (o : Oper) : Bool := match o.op with | .defer _ => true | _ => false
theorem not_defer {o : Oper} (h : isDefer o = false) : ∀ c, o.op ≠ .defer c := by
  intro c e
  unfold isDefer at h
  rw [e] at h; cases h
theorem op_round {o : Oper} {a : Act} {w : World} {K K' : Act → World → Prop} (hd : isDefer o = false) (hK : ∀ a w, K a w → K' a w) (h : o.wp P a w K Q) : o.wpIn (Fence.wide.inRound l) n P a w K' Q := by
  unfold Oper.wpIn
  refine ⟨fun _ _ => trivial, ?_⟩
  rw [Oper.semAt_plain _ _ _ (not_defer hd)]
  unfold Oper.wp at h
  generalize (execOp a.eval o).run P w = r at h
  unfold Oper.upon at h
  split at h
  · exact hK _ _ h
  · exact hK _ _ h
  · exact hK _ _ h
  · refine ⟨fun e => (nomatch e), CallsIn.inRound l (callsIn_wide.2 (h.mono ?_))⟩
    intro e w' he
    cases e with
    | returned v => exact hK _ _ he
    | panicked c => exact he
    | outgrown => exact he
  · refine ⟨fun e => (nomatch e), fun c cs hr => ?_⟩
    obtain ⟨v, w', r, s⟩ := h c cs
    exact ⟨v, w', hK _ _ r, stepsIn_wide.2 s⟩
  · exact h
  · exact h.elim
theorem list_round {ops : Array Oper} (hL : ¬ LetsOut Q) : ∀ (rest : List Oper) (a : Act) (w : World), (∀ o ∈ rest, isDefer o = false) → wpList P ops Q rest a w → wpListIn (Fence.wide.inRound l) n P ops Q rest a w
  | [], _, _, _, h => h
  | o :: rest, a, w, hd, h => by
    unfold wpList at h
    unfold wpListIn
    split at h
    · rename_i hw
      rw [if_pos hw]
      rcases h with h | ⟨-, h⟩
      · exact op_round (hd o (by simp)) (fun a w => list_round hL rest a w fun o ho => hd o (by simp [ho])) h
      · exact absurd h hL
    · rename_i hw
      rw [if_neg hw]
      exact ⟨fun _ _ => trivial, list_round hL rest _ w (fun o ho => hd o (by simp [ho])) h⟩
theorem any_round {md : Region.Mode} {ops : Array Oper} (hL : ¬ LetsOut Q) (hd : ∀ o ∈ ops, isDefer o = false) : ∀ (fuel : Nat) (listed : Array Bool) (a : Act) (w : World), wpAny P md ops Q fuel listed a w → wpAnyIn (Fence.wide.inRound l) n P md ops Q fuel listed a w
  | 0, _, _, _, h => h
  | fuel + 1, listed, a, w, h => by
    refine ⟨h.1, fun i hi => ?_⟩
    have h2 := h.2 i hi
    unfold wpOp at h2
    unfold wpOpIn
    cases ho : ops[i]? with
    | none => rw [ho] at h2; exact any_round hL hd fuel _ a w h2
    | some o =>
      rw [ho] at h2
      simp only at h2 ⊢
      split at h2
      · rename_i hw
        rw [if_pos hw]
        rcases h2 with h2 | ⟨-, h2⟩
        · exact op_round (hd o (Array.mem_of_getElem? ho)) (fun a w => any_round hL hd fuel _ a w) h2
        · exact absurd h2 hL
      · rename_i hw
        rw [if_neg hw]
        exact ⟨fun _ _ => trivial, any_round hL hd fuel _ _ w h2⟩
def roundOk : Code → An → Bool
  | .region _ ops d, an => ops.all (fun o => !isDefer o) && (!d || an.mode == 0 || Nat.blt 1000 an.mode)
  | .seq a b, an => roundOk a an.x && roundOk b an.y
  | .cond _ a b, an => roundOk a an.x && roundOk b an.y
  | .block _ c, an => roundOk c an.x
  | .loop c, an => roundOk c an.x
  | .scope _, _ => false
  | _, _ => true
theorem roundOk_seq {x y : Code} {an : An} (h : roundOk (.seq x y) an = true) : roundOk x an.x = true ∧ roundOk y an.y = true := by
  unfold roundOk at h; simpa using h
theorem roundOk_cond {c : Operand} {x y : Code} {an : An} (h : roundOk (.cond c x y) an = true) : roundOk x an.x = true ∧ roundOk y an.y = true := by
  unfold roundOk at h; simpa using h
theorem roundOk_ops {id : Nat} {ops : Array Oper} {d : Bool} {an : An} (h : roundOk (.region id ops d) an = true) : ∀ o ∈ ops, isDefer o = false := by
  unfold roundOk at h
  rw [Bool.and_eq_true] at h
  intro o ho
  have := Array.all_eq_true_iff_forall_mem.1 h.1 o ho
  simpa using this
theorem roundOk_mode {id : Nat} {ops : Array Oper} {an : An} (h : roundOk (.region id ops true) an = true) : an.mode = 0 ∨ 1000 < an.mode := by
  unfold roundOk at h
  rw [Bool.and_eq_true] at h
  have := h.2
  simp [Nat.blt_eq] at this
  omega
theorem vc_round {n l m0 : Nat} {P : Program} (c : Code) : ∀ (an : An) (F : Fr) (w : World) (K : Ex → Fr → World → Prop) (a : Act), vc n P c an F w K → Is n F a → roundOk c an = true → c.wpIn (Fence.wide.inRound l) m0 P (Post n c K a) a w := by
  induction c with
  | skip => intro an F w K a h hI hok; exact wpIn_skip ⟨⟨F, hI, h⟩, fun _ _ => rfl⟩
  | ret => intro an F w K a h hI hok; exact wpIn_ret ⟨⟨F, hI, h⟩, fun _ _ => rfl⟩
  | exit id => intro an F w K a h hI hok; exact wpIn_exit ⟨⟨F, hI, h⟩, fun _ _ => rfl⟩
  | scope c ih => intro an F w K a h hI hok; cases hok
  | region id ops d =>
    intro an F w K a h hI hok
    have hL : ∀ d, ¬ LetsOut (Post n (.region id ops d) K a) := fun d ⟨_, _, h⟩ => h
    have hdf : ∀ o ∈ ops, isDefer o = false := roundOk_ops hok
    cases d with
    | false =>
      refine wpIn_region_list (list_round (hL _) _ _ _ (fun o ho => hdf o (by simpa using ho)) ?_)
      have := list_some (n := n) (P := P) (ops := ops.toList) (Q := Post n (.region id ops false) K a) (dsts (.region id ops false)) ops.toList F a w (K .normal) mem_dsts h hI
        (fun F' a' w' h1 h2 h3 => ⟨⟨F', h1, h2⟩, h3⟩)
      simpa using this
    | true =>
      have hmode := roundOk_mode hok
      unfold vc at h
      split at h
      · obtain ⟨hb, h⟩ := cond_some h
        rw [Bool.and_eq_true] at hb
        have hq := quiet_some (n := n) (P := P) (ops := ops.toList) (w := w) (fun a' => ∀ w', (∃ m, w' = w.drewN m) → Post n (.region id ops true) K a .normal a' w') (dsts (.region id ops true)) ops.toList F a _ mem_dsts h hI
          (fun F' a' h1 h2 h3 w' ⟨m, hm⟩ => ⟨⟨F', h1, h2 w' m hm⟩, h3⟩)
        have hl := hb.2
        simp only [Region.lexB, Bool.and_eq_true] at hl
        refine wpIn_region_any hb.1 (any_round (hL _) hdf _ _ _ _ (wpAny_of_quiet (C := fun w' => ∃ m, w' = w.drewN m) (Q := fun a' => ∀ w', (∃ m, w' = w.drewN m) → Post n (.region id ops true) K a .normal a' w') (fun _ w' hw' h => h w' hw') _ _ _ _ ⟨1, rfl⟩ ?_))
        have := wpAnyQ_lex (C := fun w' => ∃ m, w' = w.drewN m) (md := .any) hl.1 ops.toList 0 (Array.replicate ops.size false) a (by simp) (by simpa using hl.2) (by simpa using hq)
        simpa using this
      · rename_i m hm
        have hm1 : Nat.ble 1000 m = true := by
          rw [hm] at hmode
          exact Nat.ble_eq ▸ (show 1000 ≤ m by omega)
        rw [hm1] at h
        obtain ⟨hb, h⟩ := cond_some (show (bif P.follows .mixedOrders && Region.noSelect ops then _ else False) from h)
        rw [Bool.and_eq_true] at hb
        refine wpIn_region_any hb.1 (any_round (hL _) hdf _ _ _ _ (wpAny_of_L _ _ _ _ (held_some (n := n) (stop := m - 1000) (w0 := w.drew) (Q := Post n (.region id ops true) K a) hb.2 (fun c a w hc => hc) (dsts (.region id ops true)) (fun i o ho => mem_dsts o (by
          have := Array.mem_of_getElem? ho; simpa using this)) _ _ F a w.drew _ (h w.drew rfl) hI (fun j oj _ hl => by simp [Array.getD_eq_getD_getElem?, Array.getElem?_replicate] at hl; split at hl <;> cases hl) (.inr (Below.refl _ _)) ?_)))
        intro F' a' w' h1 h2 h3
        exact ⟨⟨F', h1, h2⟩, h3⟩
  | seq x y ihx ihy =>
    intro an F w K a h hI hok
    have hd1 : ∀ t, t ∉ dsts (.seq x y) → t ∉ dsts x ∧ t ∉ dsts y := by
      intro t ht
      simp only [dsts, List.mem_append, not_or] at ht
      exact ht
    unfold vc at h
    split at h
    · refine wpIn_seq (wpIn_mono (ihx _ _ _ _ _ h hI (roundOk_seq hok).1) ?_)
      intro e a' w' he
      cases e with
      | normal =>
        obtain ⟨⟨F', hI', hk⟩, hkeep⟩ := he
        refine wpIn_mono (ihy _ _ _ _ _ hk hI' (roundOk_seq hok).2) ?_
        intro e a'' w'' he
        cases e with
        | normal => exact ⟨he.1, fun t ht => by rw [he.2 t (hd1 t ht).2, hkeep t (hd1 t ht).1]⟩
        | exit id => exact ⟨he.1, fun t ht => by rw [he.2 t (hd1 t ht).2, hkeep t (hd1 t ht).1]⟩
        | ret => exact ⟨he.1, fun t ht => by rw [he.2 t (hd1 t ht).2, hkeep t (hd1 t ht).1]⟩
        | _ => exact he.elim
      | exit id => exact ⟨he.1, fun t ht => he.2 t (hd1 t ht).1⟩
      | ret => exact ⟨he.1, fun t ht => he.2 t (hd1 t ht).1⟩
      | _ => exact he.elim
    · obtain ⟨hst, R, hx, hy⟩ := cond_some h
      have hst := stays_some hst
      refine wpIn_seq (wpIn_mono (ihx _ _ _ _ _ hx hI (roundOk_seq hok).1) ?_)
      intro e a' w' he
      cases e with
      | normal =>
        obtain ⟨⟨F', hI', hk⟩, hkeep⟩ := he
        dsimp only at hk
        unfold holds at hk
        split at hk
        · rename_i p hp
          rw [appO_congr hI'.fa] at hp
          obtain ⟨g', l', -, hκ, hl'⟩ := allS_some (a := a') an.S R R _ p (hy fun t => a'.tmps.getD t undef) (by
            intro q hq
            obtain ⟨t, ht, rfl⟩ := List.mem_map.1 hq
            show a'.tmps.getD t undef = F.get t
            rw [hkeep t (hst t ht), hI.at_]) hp
          have hI2 := is_of_agree hI'.size hI'.defers hl'
          refine wpIn_mono (ihy _ _ _ _ _ (hκ w' hk) hI2 (roundOk_seq hok).2) ?_
          intro e a'' w'' he
          cases e with
          | normal => exact ⟨he.1, fun t ht => by rw [he.2 t (hd1 t ht).2, hkeep t (hd1 t ht).1]⟩
          | exit id => exact ⟨he.1, fun t ht => by rw [he.2 t (hd1 t ht).2, hkeep t (hd1 t ht).1]⟩
          | ret => exact ⟨he.1, fun t ht => by rw [he.2 t (hd1 t ht).2, hkeep t (hd1 t ht).1]⟩
          | _ => exact he.elim
        · exact hk.elim
      | exit id => exact ⟨he.1, fun t ht => he.2 t (hd1 t ht).1⟩
      | ret => exact ⟨he.1, fun t ht => he.2 t (hd1 t ht).1⟩
      | _ => exact he.elim
  | cond c x y ihx ihy =>
    intro an F w K a h hI hok
    have hd1 : ∀ t, t ∉ dsts (.cond c x y) → t ∉ dsts x ∧ t ∉ dsts y := by
      intro t ht
      simp only [dsts, List.mem_append, not_or] at ht
      exact ht
    obtain ⟨b, hb, h⟩ := asBool_some h
    have hb' : a.eval c = .bool b := by rw [hI.eval]; exact hb
    rcases split_some h with ⟨rfl, h⟩ | ⟨rfl, h⟩
    · refine wpIn_cond_true hb' (wpIn_mono (ihx _ _ _ _ _ h (hI.know hb) (roundOk_cond hok).1) ?_)
      intro e a' w' he
      cases e with
      | normal => exact ⟨he.1, fun t ht => he.2 t (hd1 t ht).1⟩
      | exit id => exact ⟨he.1, fun t ht => he.2 t (hd1 t ht).1⟩
      | ret => exact ⟨he.1, fun t ht => he.2 t (hd1 t ht).1⟩
      | _ => exact he.elim
    · refine wpIn_cond_false hb' (wpIn_mono (ihy _ _ _ _ _ h (hI.know hb) (roundOk_cond hok).2) ?_)
      intro e a' w' he
      cases e with
      | normal => exact ⟨he.1, fun t ht => he.2 t (hd1 t ht).2⟩
      | exit id => exact ⟨he.1, fun t ht => he.2 t (hd1 t ht).2⟩
      | ret => exact ⟨he.1, fun t ht => he.2 t (hd1 t ht).2⟩
      | _ => exact he.elim
  | block id c ih =>
    intro an F w K a h hI hok
    refine wpIn_block (wpIn_mono (ih _ _ _ _ _ h hI hok) ?_)
    intro e a' w' he
    cases e with
    | normal => exact he
    | exit i =>
      obtain ⟨⟨F', hI', hk⟩, hkeep⟩ := he
      dsimp only at hk
      simp only [Exit.inBlock]
      by_cases e : i = id
      · subst e
        rw [Nat.beq_refl] at hk
        rw [if_pos rfl]
        exact ⟨⟨F', hI', hk⟩, hkeep⟩
      · rw [if_neg e]
        have : Nat.beq i id = false := by
          cases hb : Nat.beq i id with
          | false => rfl
          | true => exact absurd (Nat.eq_of_beq_eq_true hb) e
        rw [this] at hk
        exact ⟨⟨F', hI', hk⟩, hkeep⟩
    | ret => exact he
    | _ => exact he.elim
  | loop c ih =>
    intro an F w K a h hI hok
    unfold vc at h
    obtain ⟨hst, I, μ, h0, hround⟩ := cond_some h
    have hst := stays_some hst
    let MU : Act → World → Nat := fun a' w' => match appO an.S μ (FA a') with | some m => m w' | none => 0
    refine wpIn_loop (fun a' w' => a'.tmps.size = n ∧ a'.defers = [] ∧ (∀ t, t ∉ dsts c → a'.tmps.getD t undef = a.tmps.getD t undef) ∧ holds (appO an.S I (FA a')) w') MU ⟨hI.size, hI.defers, fun _ _ => rfl, by rw [appO_congr hI.fa] at h0; exact h0⟩ ?_
    rintro a' w' ⟨h1, h2, h3, h4⟩
    unfold holds at h4
    split at h4
    · rename_i p hp
      obtain ⟨μ', l', hμ, hκ, hl'⟩ := allS_some (a := a') an.S I μ _ p (hround fun t => a'.tmps.getD t undef) (by
        intro q hq
        obtain ⟨t, ht, rfl⟩ := List.mem_map.1 hq
        show a'.tmps.getD t undef = F.get t
        rw [h3 t (hst t ht), hI.at_]) hp
      have hI2 := is_of_agree h1 h2 hl'
      refine wpIn_mono (ih _ _ _ _ _ (hκ w' h4) hI2 hok) ?_
      intro e a'' w'' he
      cases e with
      | normal =>
        obtain ⟨⟨F2, hF2, hk⟩, hkeep⟩ := he
        dsimp only at hk
        split at hk
        · rename_i I2 μ2 e1 e2
          rw [appO_congr hF2.fa] at e1 e2
          refine ⟨⟨hF2.size, hF2.defers, fun t ht => by rw [hkeep t ht, h3 t ht], by rw [e1]; exact hk.1⟩, ?_⟩
          show MU a'' w'' < MU a' w'
          simp only [MU, e2, hμ]
          exact hk.2
        · exact hk.elim
      | exit id => exact ⟨he.1, fun t ht => by rw [he.2 t ht, h3 t ht]⟩
      | ret => exact ⟨he.1, fun t ht => by rw [he.2 t ht, h3 t ht]⟩
      | _ => exact he.elim
    · exact h4.elim
  | _ => intro an F w K a h hI hok; exact h.elim
/-- the body of the function's first range over a function -/
def findR : Code → Option Code
  | .rangeFunc _ _ _ b => some b
  | .seq a b => match findR a with
    | some c => some c
    | none => findR b
  | .cond _ a b => match findR a with
    | some c => some c
    | none => findR b
  | .block _ c => findR c
  | .loop c => findR c
  | .scope c => findR c
  | _ => none
def bodyIn (fn : Func) : Code := match fn.body with
  | some c => (findR c).getD .skip
  | none => .skip
end Go.Sx
