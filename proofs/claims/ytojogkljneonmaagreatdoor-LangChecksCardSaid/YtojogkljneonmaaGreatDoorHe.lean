import Derived.Test.YtojogkljneonmaaGreatDoorLangTj
import Derived.Test.YtojogkljneonmaaGreatDoorLangRk
import Derived.Test.YtojogkljneonmaaGreatDoorToldF
import Derived.Test.YtojogkljneonmaaGreatDoorRows
import Derived.LaidHandle
/- The law: the two checkers say the same of whatever text. No condition. -/
namespace Go.Proofs.YtojogkljneonmaaGreatDoor
open Go Go.Proofs Go.Sep Go.XHeap Go.RowKit Go.Lang
set_option linter.unusedVariables false
set_option linter.unusedSimpArgs false
variable {W : World}
/-- a world that has kept all old blocks but one, which holds what it held -/
theorem pin3 {w w' : World} {o : Obj} (h : XTouch (fun k => k = 3) w w') (h1 : w.heap[3]? = some o) (h2 : w'.heap[3]? = some o) : XTouch (fun _ => False) w w' := by
  refine ⟨h.os, h.tape, h.output, h.size, fun b hb _ => ?_⟩
  by_cases hb3 : b = 3
  · subst hb3; rw [h1, h2]
  · exact h.block b hb hb3
theorem decls_ok {s : List UInt8} {ds : List D} (h : parseP 64009 8002 s = .ok ds) : (∀ d ∈ ds, DOk d) ∧ ds.length ≤ 8001 := by
  unfold parseP at h
  split at h
  · cases h
  · rename_i hs
    cases hd : decls 64009 8002 (lex s 1) with
    | ok ds' l' =>
      rw [hd] at h
      cases h
      have hl := (lex_ind s.length s 1 (Nat.le_refl _)).2.2.2
      have := decls_shape 8002 (lex s 1) l' ds hd (by omega)
      exact ⟨this.1, by omega⟩
    | err l e => rw [hd] at h; cases h
    | out => rw [hd] at h; cases h
set_option maxHeartbeats 1000000 in
theorem checks_ok [Inhabited G3o] (s : List UInt8) (h : globA.at_ W) (hE : W.cell? ⟨0, 0, none⟩ = some (.iface 147 (.agg #[.pointer (some ⟨7, 23, none⟩)]))) : Calls Tryz.prog 3 #[.string (ofL s)] W fun e w' => e = .returned (.bool true) ∧ XTouch (fun _ => False) W w' := by
  refine vc3 (ofL s) ?_
  refine vc6 (ofL s) ?_
  have hr : s.length ≤ 8000 → decls 64009 8002 (lex s 1) ≠ .out := fun hs => by
    have hl := (lex_ind s.length s 1 (Nat.le_refl _)).2.2.2
    exact decls_fuel 8002 (lex s 1) (by omega) (by omega) (by omega)
  refine (load_any (f := 64009) (g := 8002) s hr h).mono ?_
  rintro e w2 ⟨ad, he⟩
  have hds : ∀ ds, parseP 64009 8002 s = .ok ds → dok (toD ds .nil) ∧ ds.length ≤ 8001 := fun ds e => ⟨dok_toD ds (decls_ok e).1, (decls_ok e).2⟩
  have hag : ((parseP 64009 8002 s).bind fun ds => (fcheck (toD ds .nil)).bind fun _ => (.ok ds : C (List D))).er = ((parseP 64009 8002 s).bind (check ad)).er := by
    cases hp : parseP 64009 8002 s with
    | err l e => rfl
    | ok ds =>
      show ((fcheck (toD ds .nil)).bind _).er = (check ad ds).er
      rw [fcheck_eq ad ds (decls_ok hp).1]
      cases check ad ds <;> rfl
  obtain ⟨o, ho⟩ : ∃ o, W.heap[3]? = some o := ⟨_, h.2⟩
  obtain rfl := Option.some.inj (h.2.symm.trans ho)
  have hpin : ∀ {w : World}, XTouch globA.own W w → globA.at_ w → XTouch (fun _ => False) W w := fun ht hg => pin3 ht h.2 hg.2
  have hE0 : ∀ {w : World}, XTouch (fun _ => False) W w → w.cell? ⟨0, 0, none⟩ = some (.iface 147 (.agg #[.pointer (some ⟨7, 23, none⟩)])) := fun ht => (ht.cell (p := ⟨0, 0, none⟩) (World.block_lt_of_cell? _ _ hE) (fun h => h)).trans hE
  have hq : ∀ (l1 l2 a b : Int) (w : World), XTouch (fun _ => False) W w → l1 = l2 → a = b → Sx.split (l1 == l2) ((.returned (.bool (a == b)) : Ending) = .returned (.bool true) ∧ XTouch (fun _ => False) W w) ((.returned (.bool false) : Ending) = .returned (.bool true) ∧ XTouch (fun _ => False) W w) := by
    intro l1 l2 a b w ht e1 e2
    subst e1; subst e2
    exact Sx.split_of (fun _ => ⟨by simp, ht⟩) (fun h => absurd h (by simp))
  cases hc : (parseP 64009 8002 s).bind (check ad) with
  | ok q =>
    rw [hc] at he hag
    obtain ⟨kp, rfl, ms, cur, km, pf, pd, cf, cd, tot, -, -, -, hp⟩ := he
    refine ⟨_, _, _, rfl, _, _, rfl, ?_⟩
    have ht : XTouch (fun _ => False) W w2 := hpin hp.2.1 hp.1.1
    refine (rcheck_any (f := 64009) (g := 8002) s hr hds).mono ?_
    intro e2 w3 h2
    cases hc2 : ((parseP 64009 8002 s).bind fun ds => (fcheck (toD ds .nil)).bind fun _ => (.ok ds : C (List D))) with
    | err l en => rw [hc2] at hag; cases hag
    | ok ds =>
      rw [hc2] at h2
      obtain ⟨p, c, us, B, rfl, -, hp2⟩ := h2
      refine ⟨_, _, _, _, _, rfl, ?_⟩
      refine (told.told_nil w3).mono ?_
      rintro _ w4 ⟨rfl, rfl⟩
      exact ⟨_, rfl, hq _ _ _ _ _ (ht.trans hp2.2.1 (fun k _ h => h.elim)) rfl rfl⟩
  | err line en =>
    rw [hc] at he hag
    obtain ⟨v, rfl, he⟩ := he
    refine ⟨_, _, _, rfl, _, _, rfl, ?_⟩
    have ht : XTouch (fun _ => False) W w2 := by
      rcases he with ⟨-, hp⟩ | ⟨b, -, hp⟩
      · exact hpin hp.2.1 hp.1
      · exact hpin hp.2.1 hp.1.1
    refine (rcheck_any (f := 64009) (g := 8002) s hr hds).mono ?_
    intro e2 w3 h2
    cases hc2 : ((parseP 64009 8002 s).bind fun ds => (fcheck (toD ds .nil)).bind fun _ => (.ok ds : C (List D))) with
    | ok ds => rw [hc2] at hag; cases hag
    | err l en' =>
      rw [hc2] at h2 hag
      obtain ⟨-, rfl, hh⟩ := h2
      have e1 : l = line ∧ en' = en := by cases hag; exact ⟨rfl, rfl⟩
      obtain ⟨rfl, rfl⟩ := e1
      have ht3 : XTouch (fun _ => False) W w3 := ht.trans hh (fun k _ h => h.elim)
      refine ⟨_, _, _, _, _, rfl, ?_⟩
      rcases he with ⟨rfl, hp⟩ | ⟨b, rfl, hp⟩
      · refine (told.told_err en' w3 (hE0 ht3)).mono ?_
        rintro _ w4 ⟨rfl, h4⟩
        exact ⟨_, rfl, hq _ _ _ _ _ (ht3.trans h4 (fun k _ h => h.elim)) rfl rfl⟩
      · have hf : w3.cell? ⟨b, 1, none⟩ = some (.int .i64 en') := by
          have H := (St.begin hp.1).quiet hh
          have H := St.open_ (L := [globA, fltA b l en']) H
          exact H.ld 1 rfl (i := 1) rfl
        refine (told.told_fault en' b w3 hf (hE0 ht3)).mono ?_
        rintro _ w4 ⟨rfl, h4⟩
        exact ⟨_, rfl, hq _ _ _ _ _ (ht3.trans h4 (fun k _ h => h.elim)) rfl rfl⟩
end Go.Proofs.YtojogkljneonmaaGreatDoor
/- Part He of the proofs over 'rename': the handle of the type 'error', out of the card's condition. -/
namespace Go.Proofs.YtojogkljneonmaaGreatDoor
open Go.RowKit Go.XHeap
set_option linter.unusedVariables false

theorem hE_of_laid {w : World} (hh : handlesMet Tryz.prog [("errors.errorType", Rows.laid_errors_errorType)] w) : w.cell? ⟨0, 0, none⟩ = some (.iface 147 (.agg #[.pointer (some ⟨7, 23, none⟩)])) := by
  obtain ⟨name, u, ty, e1, e2, hlt, hrow, hv⟩ : ∃ name u ty, DataW.handleName? (Rows.laid_errors_errorType (H := Unit)) = some name ∧ (Tryz.prog.cutTypes.find? (·.1 == "internal/reflectlite.rtype")).map (·.2) = some u ∧ ty < Tryz.prog.types.size ∧ Tryz.prog.rowNamed ty name = true ∧
      w.var? Tryz.prog "errors.errorType" = some #[.iface u (.agg #[typeHandle Tryz.prog ty])] := hh _ (.head _)
  have f1 : DataW.handleName? (Rows.laid_errors_errorType (H := Unit)) = some [101, 114, 114, 111, 114] := by kernel_rfl
  have f2 : (Tryz.prog.cutTypes.find? (·.1 == "internal/reflectlite.rtype")).map (·.2) = some 147 := by kernel_rfl
  have f3 : (List.range Tryz.prog.types.size).all (fun t => !Tryz.prog.rowNamed t [101, 114, 114, 111, 114] || t == 23) = true := by kernel_rfl
  have f4 : Tryz.prog.globalNamed "errors.errorType" = some 0 := by kernel_rfl
  have f5 : typeHandle Tryz.prog 23 = .pointer (some ⟨7, 23, none⟩) := by kernel_rfl
  obtain rfl := Option.some.inj (f1.symm.trans e1)
  obtain rfl := Option.some.inj (f2.symm.trans e2)
  have h25 : ty = 23 := by
    have := List.all_eq_true.1 f3 ty (List.mem_range.2 hlt)
    simpa [hrow] using this
  subst h25
  rw [f5] at hv
  unfold World.var? at hv
  rw [f4] at hv
  simp only [Option.bind_some] at hv
  unfold World.cell?
  cases hb : w.heap[0]? with
  | none => rw [hb] at hv; simp at hv
  | some o =>
    rw [hb] at hv
    cases o with
    | cells cs t fr => simp at hv; subst hv; simp
    | _ => simp at hv
end Go.Proofs.YtojogkljneonmaaGreatDoor
