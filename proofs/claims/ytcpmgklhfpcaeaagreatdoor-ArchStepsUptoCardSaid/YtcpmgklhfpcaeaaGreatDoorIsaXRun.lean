/- A run that the kernel reckons: code whose tests are decided and whose operations hand back values, whatever the world. No condition. -/
import Derived.Test.YtcpmgklhfpcaeaaGreatDoorGr
import Derived.WalkKit
import Derived.ProofKit
namespace Go.XRun
set_option linter.unusedVariables false
set_option maxRecDepth 100000

abbrev Caller := FuncId → Array Value → World → Option (Value × World)

/-- a list of operations, run in its order as far as each hands back a value -/
noncomputable def runOps (P : Program) (call : Caller) (ops : Array Oper) : List Oper → Act → World → Option (Act × World)
  | [], a, w => some (a, w)
  | o :: rest, a, w =>
    if Region.wanted o (yielded ops a.tmps) = true then
      match (execOp a.eval o).run P w with
      | .ok (.value v) w' => runOps P call ops rest (a.put o.dst v) w'
      | .ok (.enter f args) w' => match call f args w' with
        | some (v, w'') => runOps P call ops rest (a.put o.dst v) w''
        | none => none
      | _ => none
    else runOps P call ops rest (a.put o.dst undef) w

noncomputable def runCode (P : Program) (call : Caller) : Code → Act → World → Option (Exit × Act × World)
  | .skip, a, w => some (.normal, a, w)
  | .ret, a, w => some (.ret, a, w)
  | .exit id, a, w => some (.exit id, a, w)
  | .region _ ops false, a, w => match runOps P call ops ops.toList a w with
    | some (a', w') => some (.normal, a', w')
    | none => none
  | .seq x y, a, w => match runCode P call x a w with
    | some (.normal, a', w') => runCode P call y a' w'
    | r => r
  | .cond c x y, a, w => match a.eval c with
    | .bool true => runCode P call x a w
    | .bool false => runCode P call y a w
    | _ => none
  | .block id x, a, w => match runCode P call x a w with
    | some (.exit id', a', w') => if id' = id then some (.normal, a', w') else some (.exit id', a', w')
    | r => r
  | _, _, _ => none

/-- results that lie in slots -/
def tmpResults : List ResultVar → Array Value → Option Value
  | [], _ => some (.tuple #[])
  | [.tmp t], tmps => some (tmps.getD t undef)
  | [.tmp t, .tmp u], tmps => some (.tuple #[tmps.getD t undef, tmps.getD u undef])
  | [.tmp t, .tmp u, .tmp v], tmps => some (.tuple #[tmps.getD t undef, tmps.getD u undef, tmps.getD v undef])
  | _, _ => none

theorem results_of_tmp {P : Program} {fn : Func} {tmps : Array Value} {v : Value} (w : World) (h : tmpResults fn.results.toList tmps = some v) : (results fn tmps).run P w = .ok v w := by
  generalize hr : fn.results = r at h
  obtain ⟨l⟩ := r
  dsimp only at h
  unfold tmpResults at h
  split at h
  · cases h; simp [results, hr]
  · cases h; simp [results, hr]
  · cases h; simp [results, hr]
  · cases h; simp [results, hr]
  · cases h

noncomputable def runFn (P : Program) : Nat → Caller
  | 0 => fun _ _ _ => none
  | n + 1 => fun f args w => match P.funcs[f]? with
    | none => none
    | some fn => match fn.body with
      | none => none
      | some c => match runCode P (runFn P n) c { tmps := args ++ Array.replicate (fn.ntmps - args.size) undef, defers := [] } w with
        | some (.normal, a, w') | some (.ret, a, w') => if a.defers.isEmpty then (tmpResults fn.results.toList a.tmps).map (·, w') else none
        | _ => none

def Sound (P : Program) (call : Caller) : Prop :=
  ∀ f args w v w', call f args w = some (v, w') → Calls P f args w fun e w'' => e = .returned v ∧ w' = w''

theorem wpList_of_runOps {P : Program} {call : Caller} (hs : Sound P call) {ops : Array Oper} {Q : Exit → Act → World → Prop} {a' : Act} {w' : World} (l : List Oper) :
    ∀ (a : Act) (w : World), runOps P call ops l a w = some (a', w') → Q .normal a' w' → wpList P ops Q l a w := by
  induction l with
  | nil => intro a w h hq; simp only [runOps, Option.some.injEq, Prod.mk.injEq] at h; obtain ⟨rfl, rfl⟩ := h; exact hq
  | cons o rest ih =>
    intro a w h hq
    unfold runOps at h
    unfold wpList
    split at h
    · rename_i hw
      rw [if_pos hw]
      split at h
      · rename_i v w1 hr
        exact .inl (by unfold Oper.wp; rw [hr, Oper.upon_value]; exact ih _ _ h hq)
      · rename_i f args w1 hr
        split at h
        · rename_i v w2 hc
          refine .inl (by
            unfold Oper.wp; rw [hr, Oper.upon_enter]
            refine (hs _ _ _ _ _ hc).mono ?_
            rintro e w3 ⟨rfl, rfl⟩
            exact ih _ _ h hq)
        · cases h
      · cases h
    · rename_i hw
      rw [if_neg hw]
      exact ih _ _ h hq

theorem wp_of_runCode {P : Program} {call : Caller} (hs : Sound P call) (c : Code) : ∀ {Q : Exit → Act → World → Prop} (e : Exit) (a a' : Act) (w w' : World),
    runCode P call c a w = some (e, a', w') → Q e a' w' → c.wp P Q a w := by
  induction c with
  | skip => intro Q e a a' w w' h hq; simp only [runCode, Option.some.injEq, Prod.mk.injEq] at h; obtain ⟨rfl, rfl, rfl⟩ := h; exact wp_skip hq
  | ret => intro Q e a a' w w' h hq; simp only [runCode, Option.some.injEq, Prod.mk.injEq] at h; obtain ⟨rfl, rfl, rfl⟩ := h; exact wp_ret hq
  | exit id => intro Q e a a' w w' h hq; simp only [runCode, Option.some.injEq, Prod.mk.injEq] at h; obtain ⟨rfl, rfl, rfl⟩ := h; exact wp_exit hq
  | region id ops d =>
    intro Q e a a' w w' h hq
    cases d with
    | true => simp [runCode] at h
    | false =>
      simp only [runCode] at h
      split at h
      · rename_i a1 w1 hr
        simp only [Option.some.injEq, Prod.mk.injEq] at h; obtain ⟨rfl, rfl, rfl⟩ := h
        exact wp_region_list (wpList_of_runOps hs _ _ _ hr hq)
      · cases h
  | seq x y ihx ihy =>
    intro Q e a a' w w' h hq
    simp only [runCode] at h
    split at h
    · rename_i a1 w1 hr
      exact wp_seq (ihx _ _ _ _ _ hr (ihy _ _ _ _ _ h hq))
    · rename_i hne
      refine wp_seq (ihx _ _ _ _ _ h ?_)
      cases e with
      | normal => exact absurd h (hne _ _)
      | _ => exact hq
  | cond c x y ihx ihy =>
    intro Q e a a' w w' h hq
    simp only [runCode] at h
    split at h
    · rename_i hc; exact wp_cond_true hc (ihx _ _ _ _ _ h hq)
    · rename_i hc; exact wp_cond_false hc (ihy _ _ _ _ _ h hq)
    · cases h
  | block id x ih =>
    intro Q e a a' w w' h hq
    simp only [runCode] at h
    split at h
    · rename_i id' a1 w1 hr
      refine wp_block (ih _ _ _ _ _ hr ?_)
      by_cases hid : id' = id
      · rw [if_pos hid] at h
        simp only [Option.some.injEq, Prod.mk.injEq] at h; obtain ⟨rfl, rfl, rfl⟩ := h
        simp only [Exit.inBlock, hid, if_true]; exact hq
      · rw [if_neg hid] at h
        simp only [Option.some.injEq, Prod.mk.injEq] at h; obtain ⟨rfl, rfl, rfl⟩ := h
        simp only [Exit.inBlock, hid, if_false]; exact hq
    · rename_i hne
      refine wp_block (ih _ _ _ _ _ h ?_)
      cases e with
      | exit id' => exact absurd h (hne _ _ _)
      | _ => exact hq
  | _ => intro Q e a a' w w' h hq; simp [runCode] at h

theorem sound (P : Program) : ∀ n, Sound P (runFn P n)
  | 0 => fun _ _ _ _ _ h => by simp [runFn] at h
  | n + 1 => fun f args w v w' h => by
    have ih := sound P n
    unfold runFn at h
    split at h
    · cases h
    · rename_i fn hf
      split at h
      · cases h
      · rename_i c hb
        split at h
        all_goals first
          | (cases h; done)
          | (rename_i a1 w1 hr
             split at h
             · rename_i hd
               simp only [Option.map_eq_some_iff, Prod.mk.injEq] at h
               obtain ⟨v1, hres, rfl, rfl⟩ := h
               exact calls_of_wp hf hb (wp_of_runCode ih c _ _ _ _ _ hr ⟨by simpa using hd, _, results_of_tmp _ hres, rfl, rfl⟩)
             · cases h)
end Go.XRun
