import Derived.Test.YtojogkljneonmaaGreatDoorLangRs
/- The reference's parser: statements; its functions for expressions and statements by induction. No condition. -/
namespace Go.Proofs.YtojogkljneonmaaGreatDoor
open Go Go.Proofs Go.Sep Go.XHeap Go.RowKit Go.Lang
set_option linter.unusedVariables false
set_option linter.unusedSimpArgs false
variable {W w0 w : World} {M : Nat → Prop} {L : List Asn} {R : Rx} {l : List Tok} {n : Nat} {line en : Int}
set_option maxHeartbeats 2000000 in
theorem rstmt_step [Inhabited G3o] {f : Nat} (I : JE 119 .expr f) (Ia : JA f) (Ib : JE 65 .blk f) : JE 103 .stmt (f + 1) := by
  intro W R n l h hn hr
  have hrun : run (f + 1) .stmt n l = if (now l).k = 1 then name l (plKK f n)
    else if is cLet l then name l.tail fun nm l' => want cEq l' fun l' => (run f .expr n l').bind fun x l' => want cSemi l' fun l' => .ok (.letS (now l) nm 0 0 x) l'
    else if is cReturn l then (run f .expr n l.tail).bind fun x l' => want cSemi l' fun l' => .ok (.retS (now l).line x) l'
    else if is cPrint l then (run f .expr n l.tail).bind fun x l' => want cSemi l' fun l' => .ok (.prtS (now l).line x) l'
    else if is cWhile l then (run f .expr n l.tail).bind fun c l' => (run f .blk n l').bind fun b l' => .ok (.whileS (now l).line c b) l'
    else if is cIf l then (run f .expr n l.tail).bind fun c l' => (run f .blk n l').bind fun b l' =>
      if is cElse l' then (run f .blk n l'.tail).bind fun e l' => .ok (.ifS (now l).line c b e) l' else .ok (.ifS (now l).line c b .nil) l'
    else .err (now l).line 8 := by rw [run]; rfl
  refine vc103 R.b 0 ?_
  refine (St.begin h).al fun k w2 H2 => ?_
  refine H2.dr fun w3 H3 => ?_
  refine rl_tok H3 ?_
  refine H3.alb fun k6 w4 H4 _ hb => ⟨hb, ?_⟩
  refine H4.sts0 2 (n := 3) (vs := (tkR (now l)).toArray) rfl rfl rfl (by simpa using tkR_one _) fun w5 H5 => ?_
  clear H2 H3 H4 hb
  have H5 : St W (rlA R l n).own w5 [rlA R l n, blk k nodeZ.toArray 52, blk k6 (tkR (now l)).toArray 96] := H5
  refine ⟨_, H5.ld 2 rfl (i := 0) rfl, Sx.split_of (fun h1 => ?_) (fun h1 => ?_)⟩
  · have hk : (now l).k = 1 := (kR_iff (.inr (.inr (.inl ⟨rfl, rfl⟩)))).1 (beq_iff_eq.1 h1)
    have hpl := rplain_any (f := f) I Ia (H5.nth 0 rfl) hn hk hr
    generalize run (f + 1) .stmt n l = R0 at *
    refine rcall (kk := fun x l => .ok x l) (r := R0) H5 (by cases R0 <;> rfl) hr (fun _ => hpl) ?_ ?_
    · intro x l' us B w9 hR ho hF H9
      exact ⟨_, rfl, ret_node H9 (k := 2) rfl rfl ho.1 ho.2 fun w8 H8 => rk_ok hR ho hF H8⟩
    · intro line en us w9 hR ho H9
      exact ⟨_, rfl, ret_node H9 (k := 1) rfl rfl ho.1 ho.2 fun w8 H8 => rk_err hR ho H8⟩
  have hk : ¬ (now l).k = 1 := fun e => (beq_eq_false_iff_ne.1 h1) ((kR_iff (.inr (.inr (.inl ⟨rfl, rfl⟩)))).2 e)
  generalize run (f + 1) .stmt n l = R0 at *
  rw [if_neg hk] at hrun
  refine ⟨_, H5.ld 2 rfl (i := 0) rfl, Sx.split_of (fun h2 => ?_) (fun h2 => ?_)⟩
  · have hk3 : ¬ (now l).k = 3 := fun e => by
      rw [show ((kR (now l).k : Nat) : Int) = 107 from (kR_iff (.inl ⟨rfl, rfl⟩)).2 e] at h2; cases h2
    have hno : ∀ s, ¬ is s l = true := fun s e => hk3 (is_k e)
    rw [if_neg (hno _), if_neg (hno _), if_neg (hno _), if_neg (hno _), if_neg (hno _)] at hrun
    refine H5.call 0 rfl (rl_fail 8 (by decide) (H5.nth 0 rfl)) fun w6 H6 => ?_
    exact ⟨_, rfl, ret_node H6 (k := 1) (us := nodeZ) rfl rfl rfl nodeZ_one fun w8 H8 => rk_err hrun ones_Z H8⟩
  have hk3 : (now l).k = 3 := (kR_iff (.inl ⟨rfl, rfl⟩)).1 (bne_eq_false_iff_eq.1 h2)
  have hk0 : (now l).k ≠ 0 := by omega
  have his : ∀ s, is s l = decide ((now l).s = s) := fun s => by unfold is; rw [hk3]; simp
  clear h1 h2
  generalize ht : now l = t at *
  refine ⟨_, H5.ld 2 rfl (i := 1) rfl, ?_⟩
  refine Sx.split_of (fun h3 => ?_) (fun h3 => ?_)
  · have hs : t.s = cLet := of_decide_eq_true ((toList_eq _ _).symm.trans h3)
    rw [if_pos (by rw [his, decide_eq_true hs])] at hrun
    refine rl_adv (by rw [ht]; exact hk0) H5 fun w6 H6 => ?_
    refine zs_name (n := n) (R0 := R0) (P := fun x => x = l.tail) (P' := fun s l' => ∃ nm : Tok, s = nm.s ∧ R0 = want cEq l' fun l' => (run f .expr n l').bind fun x l' => want cSemi l' fun l' => .ok (.letS t nm 0 0 x) l') H6 (.inl ⟨_, rfl, rfl⟩) (fun l' hp => ?_) ?_
    · subst hp
      exact ⟨_, hrun, fun l'' h => ⟨_, rfl, h⟩⟩
    intro s Z7 w7 hZ7 H7
    refine ⟨_, rfl, ?_⟩
    refine zs_want (P' := fun l' => ∃ nm : Tok, s = nm.s ∧ R0 = (run f .expr n l').bind fun x l' => want cSemi l' fun l' => .ok (.letS t nm 0 0 x) l') H7 hZ7 (fun l' hp => ?_) ?_
    · obtain ⟨nm, a, hR⟩ := hp
      exact ⟨_, hR, fun l'' h => ⟨nm, a, h⟩⟩
    intro Z8 w8 hZ8 H8
    refine ⟨rfl, _, H8.ld 2 rfl (i := 2) rfl, ?_⟩
    refine zs_ended (P' := fun vs B2 l' => ∃ nm : Tok, s = nm.s ∧ ∃ y, isF (toF y .nil) vs B2 ∧ R0 = .ok (.letS t nm 0 0 y) l') I hn hr H8 hZ8 (fun l' hp => ?_) ?_
    · obtain ⟨nm, a, hR⟩ := hp
      exact ⟨_, hR, fun y vs B2 l'' hF h => ⟨nm, a, y, hF, h⟩⟩
    intro q vs B2 Z9 w9 ho2 hZ9 H9
    refine ⟨_, rfl, ?_⟩
    refine H9.al fun k10 w10 H10 => ?_
    refine H10.sts0 5 (n := 6) (vs := (nodeC cLet ⟨#[]⟩ t.line 0 (.slice (some ⟨q, 0, none⟩) 1 1) (.slice none 0 0)).toArray) rfl rfl rfl nodeC_one fun w11 H11 => ?_
    refine H11.st 5 rfl (i := 1) (by simp [nodeC]) fun w12 H12 => ?_
    refine cells_node H12 (k := 5) (us := nodeC cLet s t.line 0 (.slice (some ⟨q, 0, none⟩) 1 1) (.slice none 0 0)) rfl rfl ?_
    refine ret_node H12 (k := 3) (us := nodeC cLet s t.line 0 (.slice (some ⟨q, 0, none⟩) 1 1) (.slice none 0 0)) rfl rfl rfl nodeC_one fun w20 H20 => ?_
    rcases hZ9 with ⟨l2, ⟨nm, rfl, y, hF2, hR⟩, rfl⟩ | ⟨line, en, hR, rfl⟩
    · obtain ⟨B3, hB3, H22⟩ := mk_one cLet nm.s t.line ho2 hF2 (H20.pick [1, 2, 0])
      exact rk_ok hR ones_C hB3 (H22.pick [1, 0])
    · exact rk_err hR ones_C H20
  have hs1 : ¬ t.s = cLet := of_decide_eq_false ((toList_eq _ _).symm.trans h3)
  rw [if_neg (by rw [his, decide_eq_false hs1]; exact Bool.false_ne_true)] at hrun
  refine Sx.split_of (fun h4 => ?_) (fun h4 => ?_)
  · have hs : t.s = cReturn := of_decide_eq_true ((toList_eq _ _).symm.trans h4)
    rw [if_pos (by rw [his, decide_eq_true hs])] at hrun
    refine rl_adv (by rw [ht]; exact hk0) H5 fun w6 H6 => ?_
    refine ⟨_, H6.ld 2 rfl (i := 1) rfl, _, H6.ld 2 rfl (i := 2) rfl, ?_⟩
    refine zs_ended (n := n) (P := fun x => x = l.tail) (P' := fun vs B2 l' => ∃ y, isF (toF y .nil) vs B2 ∧ R0 = .ok (.retS t.line y) l') I hn hr H6 (.inl ⟨_, rfl, rfl⟩) (fun l' hp => ?_) ?_
    · subst hp
      exact ⟨_, hrun, fun y vs B2 l'' hF h => ⟨y, hF, h⟩⟩
    intro q vs B2 Z9 w9 ho2 hZ9 H9
    refine ⟨_, rfl, ret_node H9 (k := 3) (us := nodeC t.s ⟨#[]⟩ t.line 0 (.slice (some ⟨q, 0, none⟩) 1 1) (.slice none 0 0)) rfl rfl rfl nodeC_one fun w20 H20 => ?_⟩
    rcases hZ9 with ⟨l2, ⟨y, hF2, hR⟩, rfl⟩ | ⟨line, en, hR, rfl⟩
    · obtain ⟨B3, hB3, H22⟩ := mk_one cReturn ⟨#[]⟩ t.line ho2 hF2 (H20.pick [1, 2, 0])
      rw [hs]
      exact rk_ok hR ones_C hB3 (H22.pick [1, 0])
    · exact rk_err hR ones_C H20
  have hs2 : ¬ t.s = cReturn := of_decide_eq_false ((toList_eq _ _).symm.trans h4)
  rw [if_neg (by rw [his, decide_eq_false hs2]; exact Bool.false_ne_true)] at hrun
  refine Sx.split_of (fun h5 => ?_) (fun h5 => ?_)
  · have hs : t.s = cPrint := of_decide_eq_true ((toList_eq _ _).symm.trans h5)
    rw [if_pos (by rw [his, decide_eq_true hs])] at hrun
    refine rl_adv (by rw [ht]; exact hk0) H5 fun w6 H6 => ?_
    refine ⟨_, H6.ld 2 rfl (i := 1) rfl, _, H6.ld 2 rfl (i := 2) rfl, ?_⟩
    refine zs_ended (n := n) (P := fun x => x = l.tail) (P' := fun vs B2 l' => ∃ y, isF (toF y .nil) vs B2 ∧ R0 = .ok (.prtS t.line y) l') I hn hr H6 (.inl ⟨_, rfl, rfl⟩) (fun l' hp => ?_) ?_
    · subst hp
      exact ⟨_, hrun, fun y vs B2 l'' hF h => ⟨y, hF, h⟩⟩
    intro q vs B2 Z9 w9 ho2 hZ9 H9
    refine ⟨_, rfl, ret_node H9 (k := 3) (us := nodeC t.s ⟨#[]⟩ t.line 0 (.slice (some ⟨q, 0, none⟩) 1 1) (.slice none 0 0)) rfl rfl rfl nodeC_one fun w20 H20 => ?_⟩
    rcases hZ9 with ⟨l2, ⟨y, hF2, hR⟩, rfl⟩ | ⟨line, en, hR, rfl⟩
    · obtain ⟨B3, hB3, H22⟩ := mk_one cPrint ⟨#[]⟩ t.line ho2 hF2 (H20.pick [1, 2, 0])
      rw [hs]
      exact rk_ok hR ones_C hB3 (H22.pick [1, 0])
    · exact rk_err hR ones_C H20
  have hs3 : ¬ t.s = cPrint := of_decide_eq_false ((toList_eq _ _).symm.trans h5)
  rw [if_neg (by rw [his, decide_eq_false hs3]; exact Bool.false_ne_true)] at hrun
  refine Sx.split_of (fun h6 => ?_) (fun h6 => ?_)
  · have hs : t.s = cWhile := of_decide_eq_true ((toList_eq _ _).symm.trans h6)
    rw [if_pos (by rw [his, decide_eq_true hs])] at hrun
    refine rl_adv (by rw [ht]; exact hk0) H5 fun w6 H6 => ?_
    refine zs_node (n := n) (P := fun x => x = l.tail) (P' := fun us B l' => ∃ x, isF (toF x .nil) us B ∧ R0 = (run f .blk n l').bind fun b l' => .ok (.whileS t.line x b) l') I rexpr_dead hn hr H6 (.inl ⟨_, rfl, rfl⟩) (fun l' hp => ?_) ?_
    · subst hp
      exact ⟨_, hrun, fun x us B l'' hF h => ⟨x, hF, h⟩⟩
    intro us B Z7 w7 ho hZ7 H7
    refine ⟨_, rfl, ?_⟩
    refine H7.al fun k15 w8 H8 => ?_
    refine H8.sts0 4 (n := 6) (vs := us.toArray) rfl (node_ones ho) rfl (by simpa using ho.2) fun w9 H9 => ?_
    refine zs_node (P' := fun vs B2 l' => ∃ x y, isF (toF x .nil) us B ∧ isF (toF y .nil) vs B2 ∧ R0 = .ok (.whileS t.line x y) l') Ib rblock_dead hn hr H9 hZ7 (fun l' hp => ?_) ?_
    · obtain ⟨x, a, hR⟩ := hp
      exact ⟨_, hR, fun y vs B2 l'' hF h => ⟨x, y, a, hF, h⟩⟩
    intro vs B2 Z10 w10 ho2 hZ10 H10
    refine ⟨_, rfl, ?_⟩
    refine H10.al fun k17 w11 H11 => ?_
    refine H11.sts0 6 (n := 6) (vs := vs.toArray) rfl (node_ones ho2) rfl (by simpa using ho2.2) fun w12 H12 => ?_
    refine ⟨_, H12.ld 4 rfl (i := 2) rfl, cells_node H12 (k := 5) rfl ho.1 (cells_node H12 (k := 6) rfl ho2.1 ⟨node_ones ho, node_ones ho2, ?_⟩)⟩
    refine H12.al fun k19 w13 H13 => ?_
    rintro vs17 rfl
    refine ret_node H13 (k := 3) (us := nodeC cWhile ⟨#[]⟩ t.line 0 (.slice (some ⟨k19, 0, none⟩) 2 2) (.slice none 0 0)) rfl rfl rfl nodeC_one fun w20 H20 => ?_
    rcases hZ10 with ⟨l2, ⟨x, y, hF, hF2, hR⟩, rfl⟩ | ⟨line, en, hR, rfl⟩
    · have H21 := H20.pick [2, 1, 7, 0]
      simp only [List.append_nil] at H21
      obtain ⟨B3, hB3, H22⟩ := mk_two cWhile (ofL []) t.line ho ho2 hF hF2 H21
      exact rk_ok hR ones_C hB3 (H22.pick [1, 0])
    · exact rk_err hR ones_C H20
  have hs4 : ¬ t.s = cWhile := of_decide_eq_false ((toList_eq _ _).symm.trans h6)
  rw [if_neg (by rw [his, decide_eq_false hs4]; exact Bool.false_ne_true)] at hrun
  refine Sx.split_of (fun h7 => ?_) (fun h7 => ?_)
  · have hs : t.s = cIf := of_decide_eq_true ((toList_eq _ _).symm.trans h7)
    rw [if_pos (by rw [his, decide_eq_true hs])] at hrun
    refine rl_adv (by rw [ht]; exact hk0) H5 fun w6 H6 => ?_
    refine zs_node (n := n) (P := fun x => x = l.tail) (P' := fun us B l' => ∃ x, isF (toF x .nil) us B ∧ R0 = (run f .blk n l').bind fun b l' => if is cElse l' then (run f .blk n l'.tail).bind fun e l' => .ok (.ifS t.line x b e) l' else .ok (.ifS t.line x b .nil) l') I rexpr_dead hn hr H6 (.inl ⟨_, rfl, rfl⟩) (fun l' hp => ?_) ?_
    · subst hp
      exact ⟨_, hrun, fun x us B l'' hF h => ⟨x, hF, h⟩⟩
    intro us B Z7 w7 ho hZ7 H7
    refine ⟨_, rfl, ?_⟩
    refine H7.al fun k21 w8 H8 => ?_
    refine H8.sts0 4 (n := 6) (vs := us.toArray) rfl (node_ones ho) rfl (by simpa using ho.2) fun w9 H9 => ?_
    refine zs_node (P' := fun vs B2 l' => ∃ x y, isF (toF x .nil) us B ∧ isF (toF y .nil) vs B2 ∧ R0 = if is cElse l' then (run f .blk n l'.tail).bind fun e l' => .ok (.ifS t.line x y e) l' else .ok (.ifS t.line x y .nil) l') Ib rblock_dead hn hr H9 hZ7 (fun l' hp => ?_) ?_
    · obtain ⟨x, a, hR⟩ := hp
      exact ⟨_, hR, fun y vs B2 l'' hF h => ⟨x, y, a, hF, h⟩⟩
    intro vs B2 Z10 w10 ho2 hZ10 H10
    refine ⟨_, rfl, ?_⟩
    refine H10.al fun k23 w11 H11 => ?_
    refine H11.sts0 6 (n := 6) (vs := vs.toArray) rfl (node_ones ho2) rfl (by simpa using ho2.2) fun w12 H12 => ?_
    refine ⟨_, H12.ld 4 rfl (i := 2) rfl, cells_node H12 (k := 5) rfl ho.1 (cells_node H12 (k := 6) rfl ho2.1 ⟨node_ones ho, node_ones ho2, ?_⟩)⟩
    refine H12.al fun k25 w13 H13 => ?_
    rintro vs23 rfl
    refine H13.al fun k26 w14 H14 => ?_
    refine H14.sts0 8 (n := 6) (vs := (nodeC cIf ⟨#[]⟩ t.line 0 (.slice (some ⟨k25, 0, none⟩) 2 2) (.slice none 0 0)).toArray) rfl rfl rfl nodeC_one fun w15 H15 => ?_
    refine zs_take (s := cElse) H15 hZ10 ?_ ?_
    · rintro l1 w16 hi ⟨x, y, hF, hF2, hR⟩ H16
      rw [if_pos hi] at hR
      refine ⟨_, rfl, Sx.split_of (fun _ => ?_) (fun h => by cases h)⟩
      refine zs_node (n := n) (P := fun x => x = l1.tail) (P' := fun zs B3 l' => ∃ z, isF (toF z .nil) zs B3 ∧ R0 = .ok (.ifS t.line x y z) l') Ib rblock_dead hn hr H16 (.inl ⟨_, rfl, rfl⟩) (fun l' hp => ?_) ?_
      · subst hp
        exact ⟨_, hR, fun z zs B3 l'' hF h => ⟨z, hF, h⟩⟩
      intro zs B3 Z17 w17 ho3 hZ17 H17
      refine ⟨_, rfl, ?_⟩
      refine H17.al fun k28 w18 H18 => ?_
      refine H18.sts0 10 (n := 6) (vs := zs.toArray) rfl (node_ones ho3) rfl (by simpa using ho3.2) fun w19 H19 => ?_
      refine ⟨_, _, _, H19.ld 9 rfl (i := 4) rfl, cells_node H19 (k := 10) rfl ho3.1 ⟨node_ones ho3, ?_⟩⟩
      refine H19.al fun k32 w20 H20 => ?_
      simp only [List.append_nil] at H20
      have H21 := H20.conv 8 rfl (A' := sl 52 6 (.slice (some ⟨k25, 0, none⟩) 2 2) 2 (us ++ vs)) (fun h => blk_sl (by rw [List.length_append, ho.1, ho2.1]) (by show 2 ≤ maxLen; unfold maxLen; omega) h) (fun q hq => by
        have : some k25 = some q := hq
        cases this; rfl)
      refine H21.app 8 rfl zs (.inr ⟨_, rfl, fun j v hj => ?_⟩) (by rw [ho3.1]) ho3.2 (by show 2 + 1 ≤ maxLen; unfold maxLen; omega) (by omega) fun p' c' w22 H22 => ?_
      · rw [show (Addr.add ⟨k32, 0, none⟩ j) = ⟨k32, j, none⟩ by simp [Addr.add]; intro e; exact e.symm]; exact H21.ld 11 rfl (i := j) (by simpa using hj)
      refine H22.st 9 rfl (i := 4) (by simp [nodeC]) fun w23 H23 => ?_
      refine cells_node H23 (k := 9) (us := nodeC cIf ⟨#[]⟩ t.line 0 (.slice p' 3 c') (.slice none 0 0)) rfl rfl ?_
      refine ret_node H23 (k := 4) (us := nodeC cIf ⟨#[]⟩ t.line 0 (.slice p' 3 c') (.slice none 0 0)) rfl rfl rfl nodeC_one fun w24 H24 => ?_
      rcases hZ17 with ⟨l2, ⟨z, hF3, hR⟩, rfl⟩ | ⟨line, en, hR, rfl⟩
      · obtain ⟨C, hC, H25⟩ := two_rows hF hF2 (H24.pick [3, 2, 1, 8, 0])
        obtain ⟨D, hD, H26⟩ := two_rows hC hF3 H25
        have e3 : ((toF x .nil).app (toF y .nil)).app (toF z .nil) = toF x (toF y (toF z .nil)) := by
          rw [Fo.app_assoc, ← toF_nil_app y, ← toF_nil_app x]
        rw [e3] at hD
        have e4 : (toF x (toF y (toF z .nil))).len = 3 := by
          rw [← e3, Fo.app_len, Fo.app_len, ← isF_len1 hF ho.1, ← isF_len1 hF2 ho2.1, ← isF_len1 hF3 ho3.1]
        obtain ⟨B4, hB4, H27⟩ := mk_sl (q := p') (c := c') cIf (ofL []) t.line 0 hD (by rw [e4]; exact H26.pick [1, 0, 2])
        rw [e4] at hB4
        exact rk_ok hR ones_C hB4 (H27.pick [1, 0])
      · exact rk_err hR ones_C H24
    · intro Z16 w16 hZ16 H16
      refine ⟨_, rfl, Sx.split_of (fun h => by cases h) (fun _ => ?_)⟩
      refine cells_node H16 (k := 8) (us := nodeC cIf ⟨#[]⟩ t.line 0 (.slice (some ⟨k25, 0, none⟩) 2 2) (.slice none 0 0)) rfl rfl ?_
      refine ret_node H16 (k := 3) (us := nodeC cIf ⟨#[]⟩ t.line 0 (.slice (some ⟨k25, 0, none⟩) 2 2) (.slice none 0 0)) rfl rfl rfl nodeC_one fun w20 H20 => ?_
      rcases hZ16 with ⟨l2, ⟨hi, x, y, hF, hF2, hR⟩, rfl⟩ | ⟨line, en, hR, rfl⟩
      · rw [if_neg (by rw [hi]; exact Bool.false_ne_true)] at hR
        have H21 := H20.pick [2, 1, 7, 0]
        simp only [List.append_nil] at H21
        obtain ⟨B3, hB3, H22⟩ := mk_two cIf (ofL []) t.line ho ho2 hF hF2 H21
        exact rk_ok hR ones_C hB3 (H22.pick [1, 0])
      · exact rk_err hR ones_C H20
  have hs5 : ¬ t.s = cIf := of_decide_eq_false ((toList_eq _ _).symm.trans h7)
  rw [if_neg (by rw [his, decide_eq_false hs5]; exact Bool.false_ne_true)] at hrun
  refine H5.call 0 rfl (rl_fail 8 (by decide) (H5.nth 0 rfl)) fun w6 H6 => ?_
  rw [ht] at H6
  exact ⟨_, rfl, ret_node H6 (k := 1) (us := nodeZ) rfl rfl rfl nodeZ_one fun w8 H8 => rk_err hrun ones_Z H8⟩
/-- all of them -/
structure JJ [Inhabited G3o] (f : Nat) : Prop where
  bin : ∀ k ≤ 10, JB f k
  un : JE 147 .un f
  prim : JE 173 .prim f
  args : JA f
  expr : JE 119 .expr f
  blk : JE 65 .blk f
  stmt : JE 103 .stmt f
theorem jb_all [Inhabited G3o] {f : Nat} (I : ∀ f' < f, ∀ k ≤ 10, JB f' k) (Iu : ∀ f' < f, JE 147 .un f') : ∀ d k, k + d = 10 → JB f k
  | 0, k, h => rbin_step I Iu (by omega) (fun h2 => by omega)
  | d + 1, k, h => rbin_step I Iu (by omega) (fun h2 => jb_all I Iu d (k + 1) (by omega))
theorem jj_all [Inhabited G3o] : ∀ f, JJ f := by
  intro f
  induction f using Nat.strongRecOn with
  | _ f ih =>
    have hb : ∀ k ≤ 10, JB f k := fun k hk => jb_all (fun f' h => (ih f' h).bin) (fun f' h => (ih f' h).un) (10 - k) k (by omega)
    match f with
    | 0 => exact ⟨hb, fun _ _ h => absurd rfl h, fun _ _ h => absurd rfl h, fun _ _ h => absurd rfl h, fun _ _ h => absurd rfl h, fun _ _ h => absurd rfl h, fun _ _ h => absurd rfl h⟩
    | f + 1 =>
      have J := ih f (by omega)
      exact ⟨hb, run_step J.un J.prim, rprim_step J.expr J.args, rargs_step (fun f' h => (ih f' (by omega)).expr), rexpr_step (J.bin 0 (by omega)), rblock_step (fun f' h => (ih f' (by omega)).stmt), rstmt_step J.expr J.args J.blk⟩
end Go.Proofs.YtojogkljneonmaaGreatDoor
/- The reference's parser: declarations. No condition. -/
namespace Go.Proofs.YtojogkljneonmaaGreatDoor
open Go Go.Proofs Go.Sep Go.XHeap Go.RowKit Go.Lang
set_option linter.unusedVariables false
set_option linter.unusedSimpArgs false
variable {W w0 w : World} {M : Nat → Prop} {L : List Asn} {R : Rx} {l : List Tok} {n : Nat} {line en : Int}
/-- a declaration is read, or there is an error -/
def RD [Inhabited G3o] (R : Rx) (W : World) (A : Asn) (r : Lang.R D) (e : Ending) (w' : World) : Prop := match r with
  | .ok d l' => ∃ us B, e = .returned (.agg us.toArray) ∧ ones us ∧ isF (toD [d] .nil) us B ∧ Post A W (all [rlA R l' 0, B]) w'
  | .err line en => ∃ us, e = .returned (.agg us.toArray) ∧ ones us ∧ Post A W (rdA R line en) w'
  | .out => True
theorem dk_ok [Inhabited G3o] {A : Asn} {R0 : Lang.R D} {d : D} {us : List Value} {B : Asn} (hR : R0 = .ok d l) (ho : ones us) (hF : isF (toD [d] .nil) us B) (H : St W A.own w (rlA R l 0 :: B :: L)) : RD R W A R0 (.returned (.agg us.toArray)) w := by
  subst hR
  exact ⟨us, B, rfl, ho, hF, St.post (St.shut (L := [_, _]) (L' := L) H) 0 rfl⟩
theorem dk_err [Inhabited G3o] {A : Asn} {R0 : Lang.R D} {us : List Value} (hR : R0 = .err line en) (ho : ones us) (H : St W A.own w (rdA R line en :: L)) : RD R W A R0 (.returned (.agg us.toArray)) w := by
  subst hR
  exact ⟨us, rfl, ho, H.post 0 rfl⟩
/-- a node with names -/
theorem mk_nms [Inhabited G3o] {f : Fo} {us : List Value} {B : Asn} {b m : Nat} {ns : List ByteArray} {q2 : Option Addr} {c2 : Nat} (kd nm : ByteArray) (ln v : Int) (hF : isF f us B) (hm : f.len = m) (hm2 : m ≤ 3) (H : St w0 M w (blk b us.toArray 52 :: B :: sl 9 1 (.slice q2 ns.length c2) ns.length (ns.map .string) :: L)) :
    ∃ B', isF (.cons kd nm ln v f ns .nil) (nodeC kd nm ln v (.slice (some ⟨b, 0, none⟩) m m) (.slice q2 ns.length c2)) B' ∧ St w0 M w (B' :: L) := by
  subst hm
  have H2 := H.conv 0 rfl (A' := sl 52 6 (.slice (some ⟨b, 0, none⟩) f.len f.len) f.len us) (fun h => blk_sl (isF_len hF) (by show _ ≤ maxLen; unfold maxLen; omega) h) (fun q hq => by
    have : some b = some q := hq
    cases this; rfl)
  exact ⟨all [all [sl 52 6 (.slice (some ⟨b, 0, none⟩) f.len f.len) f.len us, B, sl 9 1 (.slice q2 ns.length c2) ns.length (ns.map .string)]], ⟨_, _, us, B, q2, c2, [], [], hF, ⟨rfl, rfl⟩, by rw [List.append_nil], rfl⟩, St.shut (L := [_]) (St.shut (L := [_, _, _]) H2)⟩
/-- the place, kept and put back -/
theorem rl_at [Inhabited G3o] {φ : Int → Prop} (H : St w0 M w (rlA R l n :: L)) (hq : ∀ a : Nat, R.L.drop a = l → φ (a : Nat)) : ∃ z : Int, w.cell? ⟨R.b, 0 + 1, none⟩ = some (.int .i64 z) ∧ φ z := by
  obtain ⟨h0, a, h1, H⟩ := rl_open H
  exact ⟨_, (St.open_ H).ld 0 rfl (i := 1) rfl, hq a h1⟩
theorem rl_back [Inhabited G3o] {φ : World → Prop} {l2 : List Tok} {a : Nat} (hG : Good l2) (ha : R.L.drop a = l2) (H : St w0 M w (rlA R l n :: L)) (hq : ∀ w', St w0 M w' (rlA R l2 n :: L) → φ w') : (∃ v, w.cell? ⟨R.b, 0 + 1, none⟩ = some v) ∧ w.frozen? ⟨R.b, 0 + 1, none⟩ = false ∧ ∀ w', w' = w.setCell ⟨R.b, 0 + 1, none⟩ (.int .i64 (a : Nat)) → φ w' := by
  obtain ⟨h0, a2, h1, H⟩ := rl_open H
  have H := St.open_ H
  refine H.st 0 rfl (i := 1) (by simp) fun w4 H4 => hq w4 ?_
  exact rl_shut ⟨h0.1, hG, h0.2.2⟩ ha (St.shut (L := rpL R a 0 0 n) H4)
theorem drop_eq [Inhabited G3o] {a b : Nat} {l : List Tok} (ha : R.L.drop a = l) (hb : R.L.drop b = l) (hG : Good l) : a = b := by
  have h1 := congrArg List.length ha
  have h2 := congrArg List.length hb
  have := good_len hG
  simp only [List.length_drop] at h1 h2
  omega
/-- a name that is none: the place stays -/
theorem rl_name_bad [Inhabited G3o] {e1 : Int} (hn : name l (fun t l => Lang.R.ok t l) = .err (now l).line e1) (h : (rlA R l n).at_ W) : Calls Tryz.prog 61 #[pt R.b] W fun e w' => e = .returned (.string ⟨#[]⟩) ∧ ∃ a, (e1 ≠ 0 ∧ R.L.drop a = l) ∧ Post (rlA R l n) W (rpA R a (now l).line e1 (n : Nat)) w' := by
  obtain ⟨h0, a, h1, H⟩ := rl_open (St.begin h)
  unfold name at hn
  refine (rname_any h0.1.2.2.2 (drop_now h1 h0.2.1) (H.nth 0 rfl)).mono ?_
  rintro e w' (⟨-, h3, h4, -, hp⟩ | ⟨-, h3, rfl, hp⟩ | ⟨-, h3, h4, rfl, hp⟩ | ⟨h3, -⟩)
  · rw [if_neg (fun e : ¬ _ => e h3), if_neg h4] at hn; cases hn
  · rw [if_pos h3] at hn; cases hn
    exact ⟨rfl, a, ⟨by decide, h1⟩, (H.upd 0 rfl hp).post 0 rfl⟩
  · rw [if_neg (fun e : ¬ _ => e h3), if_pos h4] at hn; cases hn
    exact ⟨rfl, a, ⟨by decide, h1⟩, (H.upd 0 rfl hp).post 0 rfl⟩
  · exact absurd rfl h3
/-- behind a function's name -/
def fnKK (f : Nat) (t : Tok) (nm : ByteArray) (ps : List ByteArray) (l : List Tok) : Lang.R D := (run f .blk 0 l).bind fun b l' => .ok (.fn t nm ps 0 0 b) l'
def parI [Inhabited G3o] (R : Rx) (f k k14 : Nat) (W : World) (l : List Tok) (t : Tok) (nm : ByteArray) (R0 : Lang.R D) (x : Bool) (w : World) : Prop :=
  (x = false ∧ ∃ ps l1 p c, R0 = (params.paramL (6 - ps.length) l1).bind (fun r l' => fnKK f t nm (ps ++ r) l') ∧ ps.length ≤ 6 ∧ l1.length < R.L.length ∧
    St W (rlA R l 0).own w [rlA R l1 0, blk k nodeZ.toArray 52, blk k14 (nodeC cFunc nm t.line 0 (.slice none 0 0) (.slice p ps.length c)).toArray 52, sl 9 1 (.slice p ps.length c) ps.length (ps.map .string)]) ∨
  (x = true ∧ ∃ ps l1 p c, R0 = fnKK f t nm ps l1 ∧
    St W (rlA R l 0).own w [rlA R l1 0, blk k nodeZ.toArray 52, blk k14 (nodeC cFunc nm t.line 0 (.slice none 0 0) (.slice p ps.length c)).toArray 52, sl 9 1 (.slice p ps.length c) ps.length (ps.map .string)]) ∨
  (∃ line en nm' p m c, R0 = .err line en ∧ St W (rlA R l 0).own w [rdA R line en, blk k nodeZ.toArray 52, blk k14 (nodeC cFunc nm' t.line 0 (.slice none 0 0) (.slice p m c)).toArray 52])
end Go.Proofs.YtojogkljneonmaaGreatDoor
