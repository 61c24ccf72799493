import Derived.Test.YtojogkljneonmaaGreatDoorLangRu
import Derived.Test.YtojogkljneonmaaGreatDoorLangRl
/- The reference's parser: declarations, walked. No condition. -/
namespace Go.Proofs.YtojogkljneonmaaGreatDoor
open Go Go.Proofs Go.Sep Go.XHeap Go.RowKit Go.Lang
set_option linter.unusedVariables false
set_option linter.unusedSimpArgs false
variable {W w0 w : World} {M : Nat → Prop} {L : List Asn} {R : Rx} {l : List Tok} {n : Nat} {line en : Int}
/-- a variable behind its name -/
def varKK (t : Tok) (nm : ByteArray) (l : List Tok) : Lang.R D :=
  if is cLB l then number l.tail fun v l'' => if v < 1 ∨ 256 < v then .err (now l.tail).line 3 else want cRB l'' fun l'' => want cSemi l'' fun l'' => .ok (.var t nm 0 v) l''
  else want cSemi l fun l => .ok (.var t nm 0 0) l
theorem decl_eq (f : Nat) (l : List Tok) : decl f l = if is cVar l then name l.tail fun nm l' => varKK (now l) nm.s l'
    else want cFunc l fun l' => name l' fun nm l' => want cLP l' fun l' => (params 6 l').bind fun ps l' => fnKK f (now l) nm.s ps l' := by
  unfold decl
  rfl
theorem params_eq (k : Nat) (l : List Tok) : params k l = if is cRP l then .ok [] l.tail else params.paramL k l := rfl
theorem paramL_succ {k : Nat} {l : List Tok} : params.paramL (k + 1) l = name l fun t l => if is cRP l then .ok [t.s] l.tail else want cComma l fun l => (params.paramL k l).bind fun r l => .ok (t.s :: r) l := by rw [params.paramL]
theorem paramL_zero {l : List Tok} : params.paramL 0 l = name l fun t _ => .err t.line 3 := by rw [params.paramL]
set_option maxHeartbeats 2000000 in
theorem rdecl_any [Inhabited G3o] {f : Nat} (h : (rlA R l 0).at_ W) (hr : decl f l ≠ .out) : Calls Tryz.prog 29 #[pt R.b] W (RD R W (rlA R l 0) (decl f l)) := by
  have hG : Good l := h.1.2.1
  have hrun := decl_eq f l
  generalize decl f l = R0 at *
  refine vc29 R.b 0 ?_
  refine (St.begin h).al fun k w2 H2 => ?_
  refine rl_line H2 ?_
  refine H2.drN fun w3 H3 => ?_
  have H3 : St W (rlA R l 0).own w3 [rlA R l 0, blk k nodeZ.toArray 52] := H3
  have htk : ∀ s, is s l = true → (now l).k ≠ 0 := fun s h => is_mark h
  generalize ht : now l = t at *
  refine zs_take (s := cVar) (n := 0) (R0 := R0) (P := fun x => x = l) H3 (.inl ⟨l, rfl, rfl⟩) ?_ ?_
  · rintro l0 w4 hi rfl H4
    rw [if_pos hi] at hrun
    refine ⟨_, rfl, Sx.split_of (fun _ => ?_) (fun h => by cases h)⟩
    rintro vs rfl
    refine H4.al fun k7 w5 H5 => ?_
    refine H5.sts0 2 (n := 6) (vs := (nodeC cVar ⟨#[]⟩ t.line 0 (.slice none 0 0) (.slice none 0 0)).toArray) rfl rfl rfl nodeC_one fun w6 H6 => ?_
    refine zs_name (n := 0) (R0 := R0) (P := fun x => x = l0.tail) (P' := fun s l' => R0 = varKK t s l') H6 (.inl ⟨_, rfl, rfl⟩) (fun l' hp => ?_) ?_
    · subst hp
      exact ⟨_, hrun, fun l'' h => h⟩
    intro s Z7 w7 hZ7 H7
    refine ⟨_, rfl, ?_⟩
    refine H7.st 2 rfl (i := 1) (by simp [nodeC]) fun w8 H8 => ?_
    have H8 : St W (rlA R l0 0).own w8 [Z7, blk k nodeZ.toArray 52, blk k7 (nodeC cVar s t.line 0 (.slice none 0 0) (.slice none 0 0)).toArray 52] := H8
    refine zs_take (s := cLB) H8 hZ7 ?_ ?_
    · rintro l1 w9 hi hR H9
      unfold varKK at hR
      rw [if_pos hi] at hR
      refine ⟨_, rfl, Sx.split_of (fun _ => ?_) (fun h => by cases h)⟩
      refine rl_at H9 fun a ha => ?_
      have hG9 : Good l1.tail := (H9.nth 0 rfl).1.2.1
      rw [number_bind] at hR
      refine (rl_number (H9.nth 0 rfl)).mono ?_
      intro e w10 he
      -- what is left, behind an error
      cases hb : (number l1.tail fun v l => Lang.R.ok v l) with
      | out => rw [hb] at hR; exact absurd hR hr
      | err line en =>
        rw [hb] at he hR
        obtain ⟨rfl, hp⟩ := he
        have H10 := H9.upd 0 rfl hp
        refine ⟨_, rfl, rd_err H10 (fun hen => Sx.split_of (fun h => absurd (beq_iff_eq.1 h) hen) (fun _ => ?_))⟩
        refine H10.st 2 rfl (i := 3) (by simp [nodeC]) fun w11 H11 => ?_
        refine H11.call 0 rfl (rd_want cRB (H11.nth 0 rfl)) fun w12 H12 => ?_
        refine ⟨rfl, H12.call 0 rfl (rd_want cSemi (H12.nth 0 rfl)) fun w13 H13 => ?_⟩
        refine ⟨rfl, cells_node H13 (k := 2) (us := nodeC cVar s t.line 0 (.slice none 0 0) (.slice none 0 0)) rfl rfl ?_⟩
        exact ret_node H13 (k := 1) (us := nodeC cVar s t.line 0 (.slice none 0 0) (.slice none 0 0)) rfl rfl rfl nodeC_one fun w14 H14 => dk_err hR ones_C H14
      | ok v l2 =>
        rw [hb] at he hR
        obtain ⟨-, rfl, hp⟩ := he
        have H10 := H9.upd 0 rfl hp
        have hR : R0 = if v < 1 ∨ 256 < v then .err (now l1.tail).line 3 else want cRB l2 fun l'' => want cSemi l'' fun l'' => .ok (.var t s 0 v) l'' := hR
        refine ⟨_, rfl, rl_err H10 (Sx.split_of (fun _ => ?_) (fun h => by cases h))⟩
        refine Sx.split_of (fun h5 => ?_) (fun h5 => ?_)
        · rw [if_pos (.inl (of_decide_eq_true h5))] at hR
          refine rl_back hG9 ha H10 fun w11 H11 => ?_
          refine H11.call 0 rfl (rl_fail 3 (by decide) (H11.nth 0 rfl)) fun w12 H12 => ?_
          refine ⟨_, rfl, ?_⟩
          refine H12.st 2 rfl (i := 3) (by simp [nodeC]) fun w13 H13 => ?_
          refine H13.call 0 rfl (rd_want cRB (H13.nth 0 rfl)) fun w14 H14 => ?_
          refine ⟨rfl, H14.call 0 rfl (rd_want cSemi (H14.nth 0 rfl)) fun w15 H15 => ?_⟩
          refine ⟨rfl, cells_node H15 (k := 2) (us := nodeC cVar s t.line v (.slice none 0 0) (.slice none 0 0)) rfl rfl ?_⟩
          exact ret_node H15 (k := 1) (us := nodeC cVar s t.line v (.slice none 0 0) (.slice none 0 0)) rfl rfl rfl nodeC_one fun w14 H14 => dk_err hR ones_C H14
        refine Sx.split_of (fun h6 => ?_) (fun h6 => ?_)
        · rw [if_pos (.inr (of_decide_eq_true h6))] at hR
          refine rl_back hG9 ha H10 fun w11 H11 => ?_
          refine H11.call 0 rfl (rl_fail 3 (by decide) (H11.nth 0 rfl)) fun w12 H12 => ?_
          refine ⟨_, rfl, ?_⟩
          refine H12.st 2 rfl (i := 3) (by simp [nodeC]) fun w13 H13 => ?_
          refine H13.call 0 rfl (rd_want cRB (H13.nth 0 rfl)) fun w14 H14 => ?_
          refine ⟨rfl, H14.call 0 rfl (rd_want cSemi (H14.nth 0 rfl)) fun w15 H15 => ?_⟩
          refine ⟨rfl, cells_node H15 (k := 2) (us := nodeC cVar s t.line v (.slice none 0 0) (.slice none 0 0)) rfl rfl ?_⟩
          exact ret_node H15 (k := 1) (us := nodeC cVar s t.line v (.slice none 0 0) (.slice none 0 0)) rfl rfl rfl nodeC_one fun w14 H14 => dk_err hR ones_C H14
        rw [if_neg (by have := of_decide_eq_false h5; have := of_decide_eq_false h6; omega)] at hR
        refine H10.st 2 rfl (i := 3) (by simp [nodeC]) fun w11 H11 => ?_
        have H11 : St W (rlA R l0 0).own w11 [rlA R l2 0, blk k nodeZ.toArray 52, blk k7 (nodeC cVar s t.line v (.slice none 0 0) (.slice none 0 0)).toArray 52] := H11
        refine zs_want (n := 0) (R0 := R0) (P := fun x => x = l2) (P' := fun l' => R0 = want cSemi l' fun l'' => .ok (.var t s 0 v) l'') H11 (.inl ⟨_, rfl, rfl⟩) (fun l' hp => ?_) ?_
        · subst hp
          exact ⟨_, hR, fun l'' h => h⟩
        intro Z12 w12 hZ12 H12
        refine ⟨rfl, ?_⟩
        refine zs_want (P' := fun l' => R0 = .ok (.var t s 0 v) l') H12 hZ12 (fun l' hp => ⟨_, hp, fun l'' h => h⟩) ?_
        intro Z13 w13 hZ13 H13
        refine ⟨rfl, cells_node H13 (k := 2) (us := nodeC cVar s t.line v (.slice none 0 0) (.slice none 0 0)) rfl rfl ?_⟩
        refine ret_node H13 (k := 1) (us := nodeC cVar s t.line v (.slice none 0 0) (.slice none 0 0)) rfl rfl rfl nodeC_one fun w14 H14 => ?_
        rcases hZ13 with ⟨l3, hR, rfl⟩ | ⟨line, en, hR, rfl⟩
        · obtain ⟨B, hB, H15⟩ := mk_leaf cVar s t.line v H14
          exact dk_ok hR ones_C hB (H15.pick [1, 0])
        · exact dk_err hR ones_C H14
    · intro Z9 w9 hZ9 H9
      refine ⟨_, rfl, Sx.split_of (fun h => by cases h) (fun _ => ?_)⟩
      refine zs_want (P' := fun l' => R0 = .ok (.var t s 0 0) l') H9 hZ9 (fun l' hp => ?_) ?_
      · obtain ⟨hi, hR⟩ := hp
        unfold varKK at hR
        rw [if_neg (by rw [hi]; exact Bool.false_ne_true)] at hR
        exact ⟨_, hR, fun l'' h => h⟩
      intro Z13 w13 hZ13 H13
      refine ⟨rfl, cells_node H13 (k := 2) (us := nodeC cVar s t.line 0 (.slice none 0 0) (.slice none 0 0)) rfl rfl ?_⟩
      refine ret_node H13 (k := 1) (us := nodeC cVar s t.line 0 (.slice none 0 0) (.slice none 0 0)) rfl rfl rfl nodeC_one fun w14 H14 => ?_
      rcases hZ13 with ⟨l3, hR, rfl⟩ | ⟨line, en, hR, rfl⟩
      · obtain ⟨B, hB, H15⟩ := mk_leaf cVar s t.line 0 H14
        exact dk_ok hR ones_C hB (H15.pick [1, 0])
      · exact dk_err hR ones_C H14
  intro Z4 w4 hZ4 H4
  refine ⟨_, rfl, Sx.split_of (fun h => by cases h) (fun _ => ?_)⟩
  refine zs_want (P' := fun l' => l'.length < l.length ∧ R0 = name l' fun nm l' => want cLP l' fun l' => (params 6 l').bind fun ps l' => fnKK f t nm.s ps l') H4 hZ4 (fun l' hp => ?_) ?_
  · obtain ⟨hi, rfl⟩ := hp
    rw [if_neg (by rw [hi]; exact Bool.false_ne_true)] at hrun
    exact ⟨_, hrun, fun hi h => ⟨tail_lt (is_mark hi), h⟩⟩
  intro Z5 w5 hZ5 H5
  refine ⟨rfl, ?_⟩
  rintro vs rfl
  refine H5.al fun k14 w6 H6 => ?_
  refine H6.sts0 2 (n := 6) (vs := (nodeC cFunc ⟨#[]⟩ t.line 0 (.slice none 0 0) (.slice none 0 0)).toArray) rfl rfl rfl nodeC_one fun w7 H7 => ?_
  refine zs_name (P' := fun s l' => l'.length < l.length ∧ R0 = want cLP l' fun l' => (params 6 l').bind fun ps l' => fnKK f t s ps l') H7 hZ5 (fun l' hp => ?_) ?_
  · obtain ⟨hl, hR⟩ := hp
    exact ⟨_, hR, fun _ h => ⟨by have := tail_le l'; omega, h⟩⟩
  intro nm Z8 w8 hZ8 H8
  refine ⟨_, rfl, ?_⟩
  refine H8.st 2 rfl (i := 1) (by simp [nodeC]) fun w9 H9 => ?_
  have H9 : St W (rlA R l 0).own w9 [Z8, blk k nodeZ.toArray 52, blk k14 (nodeC cFunc nm t.line 0 (.slice none 0 0) (.slice none 0 0)).toArray 52] := H9
  refine zs_want (P' := fun l' => l'.length < l.length ∧ R0 = (params 6 l').bind fun ps l' => fnKK f t nm ps l') H9 hZ8 (fun l' hp => ?_) ?_
  · obtain ⟨hl, hR⟩ := hp
    exact ⟨_, hR, fun _ h => ⟨by have := tail_le l'; omega, h⟩⟩
  intro Z10 w10 hZ10 H10
  have H10 : St W (rlA R l 0).own w10 [Z10, blk k nodeZ.toArray 52, blk k14 (nodeC cFunc nm t.line 0 (.slice none 0 0) (.slice none 0 0)).toArray 52, sl 9 1 (.slice none 0 0) 0 []] := H10.add (A := sl 9 1 (.slice none 0 0) 0 []) ⟨Sl.nil _ _ _, XTouch.refl _ _, fun q hq => by cases hq⟩
  have hlL : l.length ≤ R.L.length := (rmeas_live h).2.2
  refine ⟨rfl, ?_⟩
  refine zs_take (s := cRP) H10 hZ10 ?_ ?_
  intro l1 w11 hi hp H11
  refine ⟨_, rfl, fun e w => parI R f k k14 W l t nm R0 e w, fun _ w => rmeas R w, ?_, ?_⟩
  · obtain ⟨hl, hR⟩ := hp
    refine .inr (.inl ⟨rfl, [], l1.tail, none, 0, ?_, H11⟩)
    rw [hR]
    rw [params_eq, if_pos hi]; rfl
  rotate_left
  intro Z11 w11 hZ11 H11
  refine ⟨_, rfl, fun e w => parI R f k k14 W l t nm R0 e w, fun _ w => rmeas R w, ?_, ?_⟩
  · rcases hZ11 with ⟨l1, ⟨hi, hl, hR⟩, rfl⟩ | ⟨line, en, hR, rfl⟩
    · refine .inl ⟨rfl, [], l1, none, 0, ?_, by decide, by omega, H11⟩
      rw [hR]
      rw [params_eq, if_neg (by rw [hi]; exact Bool.false_ne_true)]
      show _ = (params.paramL 6 l1).bind _
      cases params.paramL 6 l1 <;> rfl
    · exact .inr (.inr ⟨line, en, nm, none, 0, 0, hR, H11.pick [0, 1, 2]⟩)
  all_goals
    clear H11 H10 H9 H8 H7 H6 H5 H4 H3 H2
    rintro _ x w40 hI
    have hE : (x = true ∨ ∃ line en, R0 = .err line en ∧ (rdA R line en).at_ w40) → ∃ (ps : List ByteArray) (p : Option Addr) (m c : Nat) (nm' : ByteArray) (N Z : Asn), ZS R 0 R0 (fun l' => R0 = fnKK f t nm ps l' ∧ nm' = nm ∧ m = ps.length ∧ N = sl 9 1 (.slice p ps.length c) ps.length (ps.map .string)) Z ∧ St W (rlA R l 0).own w40 [Z, blk k nodeZ.toArray 52, blk k14 (nodeC cFunc nm' t.line 0 (.slice none 0 0) (.slice p m c)).toArray 52, N] := by
      intro hx
      rcases hI with ⟨rfl, ps, l1, p, c, hR, -, -, H⟩ | ⟨rfl, ps, l1, p, c, hR, H⟩ | ⟨line, en, nm', p, m, c, hR, H⟩
      · rcases hx with hx | ⟨line, en, -, hx⟩
        · cases hx
        · have h1 := rmeas_dead hx
          have h2 := rmeas_live (H.nth 0 rfl)
          have h3 := good_len (H.nth 0 rfl).1.2.1
          omega
      · exact ⟨ps, p, _, c, nm, _, _, .inl ⟨l1, ⟨hR, rfl, rfl, rfl⟩, rfl⟩, H⟩
      · exact ⟨[], p, m, c, nm', emp, _, .inr ⟨line, en, hR, rfl⟩, H.add (A := emp) ⟨trivial, XTouch.refl _ _, fun q hq => hq.elim⟩⟩
    cases x with
    | true =>
      refine Sx.split_of (fun h => by cases h) (fun _ => ?_)
      obtain ⟨ps, p, m, c, nm', N, Z, hZ, H⟩ := hE (.inl rfl)
      refine zs_node (P' := fun us B l' => ∃ b, isF (toF b .nil) us B ∧ R0 = .ok (.fn t nm ps 0 0 b) l' ∧ nm' = nm ∧ m = ps.length ∧ N = sl 9 1 (.slice p ps.length c) ps.length (ps.map .string)) (jj_all f).blk rblock_dead (by omega) hr H hZ (fun l' hp => ?_) ?_
      · obtain ⟨hR, a, b, d⟩ := hp
        exact ⟨_, hR, fun x us B l'' hF h => ⟨x, hF, h, a, b, d⟩⟩
      intro us B Z2 w5 ho hZ2 H5
      refine ⟨_, rfl, ?_⟩
      refine H5.al fun k25 w6 H6 => ?_
      refine H6.sts0 5 (n := 6) (vs := us.toArray) rfl (node_ones ho) rfl (by simpa using ho.2) fun w7 H7 => ?_
      refine cells_node H7 (k := 5) rfl ho.1 ⟨node_ones ho, ?_⟩
      refine H7.al fun k27 w8 H8 => ?_
      refine H8.st 3 rfl (i := 4) (by simp [nodeC]) fun w9 H9 => ?_
      refine cells_node H9 (k := 3) (us := nodeC cFunc nm' t.line 0 (.slice (some ⟨k27, 0, none⟩) 1 1) (.slice p m c)) rfl rfl ?_
      refine ret_node H9 (k := 2) (us := nodeC cFunc nm' t.line 0 (.slice (some ⟨k27, 0, none⟩) 1 1) (.slice p m c)) rfl rfl rfl nodeC_one fun w10 H10 => ?_
      rcases hZ2 with ⟨l2, ⟨b, hF, hR, rfl, rfl, rfl⟩, rfl⟩ | ⟨line, en, hR, rfl⟩
      · have H11 := H10.pick [6, 1, 4, 0]
        simp only [List.append_nil] at H11
        obtain ⟨B2, hB2, H12⟩ := mk_nms cFunc nm' t.line 0 hF (m := 1) (isF_len1 hF ho.1).symm (by omega) H11
        exact dk_ok hR ones_C hB2 (H12.pick [1, 0])
      · exact dk_err hR ones_C H10
    | false =>
    refine Sx.split_of (fun _ => ?_) (fun h => by cases h)
    rcases hI with ⟨-, ps, l1, p, c, hR, hps, hlt, H⟩ | ⟨hx, -⟩ | ⟨line, en, nm', p, m, c, hR, H⟩
    rotate_left
    · cases hx
    · refine rd_err H (fun hen => Sx.split_of (fun h => absurd (beq_iff_eq.1 h) hen) (fun _ => ?_))
      obtain ⟨ps, p, m, c, nm', N, Z, hZ, H⟩ := hE (.inr ⟨line, en, hR, H.nth 0 rfl⟩)
      refine zs_node (P' := fun us B l' => ∃ b, isF (toF b .nil) us B ∧ R0 = .ok (.fn t nm ps 0 0 b) l' ∧ nm' = nm ∧ m = ps.length ∧ N = sl 9 1 (.slice p ps.length c) ps.length (ps.map .string)) (jj_all f).blk rblock_dead (by omega) hr H hZ (fun l' hp => ?_) ?_
      · obtain ⟨hR, a, b, d⟩ := hp
        exact ⟨_, hR, fun x us B l'' hF h => ⟨x, hF, h, a, b, d⟩⟩
      intro us B Z2 w5 ho hZ2 H5
      refine ⟨_, rfl, ?_⟩
      refine H5.al fun k25 w6 H6 => ?_
      refine H6.sts0 5 (n := 6) (vs := us.toArray) rfl (node_ones ho) rfl (by simpa using ho.2) fun w7 H7 => ?_
      refine cells_node H7 (k := 5) rfl ho.1 ⟨node_ones ho, ?_⟩
      refine H7.al fun k27 w8 H8 => ?_
      refine H8.st 3 rfl (i := 4) (by simp [nodeC]) fun w9 H9 => ?_
      refine cells_node H9 (k := 3) (us := nodeC cFunc nm' t.line 0 (.slice (some ⟨k27, 0, none⟩) 1 1) (.slice p m c)) rfl rfl ?_
      refine ret_node H9 (k := 2) (us := nodeC cFunc nm' t.line 0 (.slice (some ⟨k27, 0, none⟩) 1 1) (.slice p m c)) rfl rfl rfl nodeC_one fun w10 H10 => ?_
      rcases hZ2 with ⟨l2, ⟨b, hF, hR, rfl, rfl, rfl⟩, rfl⟩ | ⟨line, en, hR, rfl⟩
      · have H11 := H10.pick [6, 1, 4, 0]
        simp only [List.append_nil] at H11
        obtain ⟨B2, hB2, H12⟩ := mk_nms cFunc nm' t.line 0 hF (m := 1) (isF_len1 hF ho.1).symm (by omega) H11
        exact dk_ok hR ones_C hB2 (H12.pick [1, 0])
      · exact dk_err hR ones_C H10
    clear hE
    refine rl_err H (Sx.split_of (fun _ => ?_) (fun h => by cases h))
    obtain ⟨hg0, a, ha, -⟩ := rl_open H
    have hG1 : Good l1 := hg0.2.1
    have hat : a < R.L.length := (List.getElem?_eq_some_iff.1 (drop_now ha hG1)).1
    rcases name_cases l1 with ⟨a1, a2, a3⟩ | ⟨e1, a1, a2⟩
    · have hG2 : Good l1.tail := good_tail hG1 (by omega)
      refine H.call 0 rfl (rl_name_ok a1 a2 (H.nth 0 rfl)) fun w41 H41 => ?_
      refine ⟨_, rfl, _, _, _, H41.ld 2 rfl (i := 5) rfl, ?_⟩
      refine H41.al fun k18 w42 H42 => ?_
      refine H42.app 3 rfl [.string (now l1).s] (.inr ⟨_, rfl, fun j v hj => ?_⟩) rfl (by intro u hu; rw [List.mem_singleton.1 hu]; rfl) (by show ps.length + 1 ≤ maxLen; unfold maxLen; omega) (by omega) fun p' c' w43 H43 => ?_
      · match j, hj with
        | 0, hj => cases hj; exact H42.ld 4 rfl (i := 0) rfl
      refine H43.st 2 rfl (i := 5) (by simp [nodeC]) fun w44 H44 => ?_
      have H44 : St W (rlA R l 0).own w44 [rlA R l1.tail 0, blk k nodeZ.toArray 52, blk k14 (nodeC cFunc nm t.line 0 (.slice none 0 0) (.slice p' (ps.length + 1) c')).toArray 52, sl 9 1 (.slice p' (ps.length + 1) c') (ps.length + 1) (ps.map .string ++ [.string (now l1).s])] := H44.pick [0, 1, 2, 3]
      refine ⟨_, _, _, H44.ld 2 rfl (i := 5) rfl, Sx.split_of (fun h6 => ?_) (fun h6 => ?_)⟩
      · have h6 : ps.length = 6 := by have := of_decide_eq_true h6; omega
        rw [show 6 - ps.length = 0 by omega, paramL_zero, a3] at hR
        refine rl_at H44 fun b hb => ?_
        have hba : b = a + 1 := drop_eq hb (drop_tail ha) hG2
        subst hba
        rintro z8 rfl
        rw [show IntKind.wrap .i64 (((a + 1 : Nat) : Int) - 1) = (a : Nat) by rw [show ((a + 1 : Nat) : Int) - 1 = (a : Int) by omega]; have := hg0.1.2.2.2; exact Go.Bits.n64 (by omega)]
        refine rl_back hG1 ha H44 fun w45 H45 => ?_
        refine H45.call 0 rfl (rl_fail 3 (by decide) (H45.nth 0 rfl)) fun w46 H46 => ?_
        refine ⟨_, rfl, ?_⟩
        refine H46.call 0 rfl (rd_take cRP (H46.nth 0 rfl)) fun w47 H47 => ?_
        refine ⟨_, rfl, Sx.split_of (fun _ => ?_) (fun h => by cases h)⟩
        refine H47.call 0 rfl (rd_want cComma (H47.nth 0 rfl)) fun w48 H48 => ?_
        exact ⟨rfl, .inr (.inr ⟨_, _, nm, p', ps.length + 1, c', hR, H48.pick [0, 1, 2]⟩), rmeas_ltd (H.nth 0 rfl) (H48.nth 0 rfl)⟩
      · have h6 : ps.length ≤ 5 := by have := of_decide_eq_false h6; omega
        rw [show 6 - ps.length = (6 - (ps.length + 1)) + 1 by omega, paramL_succ, a3] at hR
        have e1 : (ps ++ [(now l1).s]).length = ps.length + 1 := by simp
        have e2 : (ps ++ [(now l1).s]).map Value.string = ps.map .string ++ [.string (now l1).s] := by simp
        have ht1 := tail_lt (l := l1) (by omega)
        refine H44.call 0 rfl (rl_take cRP (H44.nth 0 rfl)) fun w45 H45 => ?_
        cases hi2 : is cRP l1.tail with
        | true =>
          rw [hi2] at H45 hR
          refine ⟨_, rfl, Sx.split_of (fun h => by cases h) (fun _ => ?_)⟩
          have ht2 := tail_lt (is_mark hi2)
          refine ⟨.inr (.inl ⟨rfl, ps ++ [(now l1).s], l1.tail.tail, p', c', hR, ?_⟩), rmeas_lt (H.nth 0 rfl) (H45.nth 0 rfl) (by show l1.tail.tail.length < _; omega)⟩
          rw [e1, e2]
          exact H45
        | false =>
          rw [hi2] at H45 hR
          have hR : R0 = (want cComma l1.tail fun l => (params.paramL (6 - (ps.length + 1)) l).bind fun r l => .ok ((now l1).s :: r) l : Lang.R (List ByteArray)).bind (fun r l' => fnKK f t nm (ps ++ r) l') := hR
          refine ⟨_, rfl, Sx.split_of (fun _ => ?_) (fun h => by cases h)⟩
          unfold want at hR
          cases hc : is cComma l1.tail with
          | true =>
            rw [hc] at hR
            have ht2 := tail_lt (is_mark hc)
            refine H45.call 0 rfl (rl_want_yes hc (H45.nth 0 rfl)) fun w46 H46 => ?_
            refine ⟨rfl, .inl ⟨rfl, ps ++ [(now l1).s], l1.tail.tail, p', c', ?_, by rw [e1]; omega, by omega, by rw [e1, e2]; exact H46⟩, rmeas_lt (H.nth 0 rfl) (H46.nth 0 rfl) (by show l1.tail.tail.length < _; omega)⟩
            rw [hR, e1]
            show ((params.paramL (6 - (ps.length + 1)) l1.tail.tail).bind fun r l => Lang.R.ok ((now l1).s :: r) l).bind _ = _
            cases params.paramL (6 - (ps.length + 1)) l1.tail.tail with
            | ok r l3 => show fnKK f t nm (ps ++ ((now l1).s :: r)) l3 = fnKK f t nm (ps ++ [(now l1).s] ++ r) l3; simp
            | err => rfl
            | out => rfl
          | false =>
            rw [hc] at hR
            refine H45.call 0 rfl (rl_want_no hc (H45.nth 0 rfl)) fun w46 H46 => ?_
            exact ⟨rfl, .inr (.inr ⟨_, _, nm, p', ps.length + 1, c', hR, H46.pick [0, 1, 2]⟩), rmeas_ltd (H.nth 0 rfl) (H46.nth 0 rfl)⟩
    · have hR : R0 = .err (now l1).line e1 := by
        rw [hR]
        cases hq : 6 - ps.length with
        | zero => rw [paramL_zero, a2]; rfl
        | succ q => rw [paramL_succ, a2]; rfl
      refine (rl_name_bad (a2 _) (H.nth 0 rfl)).mono ?_
      rintro e w41 ⟨rfl, a', ⟨-, ha'⟩, hp⟩
      obtain rfl : a' = a := drop_eq ha' ha hG1
      have H41 := H.upd 0 rfl hp
      refine ⟨_, rfl, _, _, _, H41.ld 2 rfl (i := 5) rfl, ?_⟩
      refine H41.al fun k18 w42 H42 => ?_
      refine H42.app 3 rfl [.string ⟨#[]⟩] (.inr ⟨_, rfl, fun j v hj => ?_⟩) rfl (by intro u hu; rw [List.mem_singleton.1 hu]; rfl) (by show ps.length + 1 ≤ maxLen; unfold maxLen; omega) (by omega) fun p' c' w43 H43 => ?_
      · match j, hj with
        | 0, hj => cases hj; exact H42.ld 4 rfl (i := 0) rfl
      refine H43.st 2 rfl (i := 5) (by simp [nodeC]) fun w44 H44 => ?_
      have H44 : St W (rlA R l 0).own w44 [rpA R a' (now l1).line e1 ((0 : Nat) : Int), blk k nodeZ.toArray 52, blk k14 (nodeC cFunc nm t.line 0 (.slice none 0 0) (.slice p' (ps.length + 1) c')).toArray 52] := H44.pick [0, 1, 2]
      have hlen : l1.length = R.L.length - a' := by rw [← ha', List.length_drop]
      refine ⟨_, _, _, H44.ld 2 rfl (i := 5) rfl, Sx.split_of (fun h6 => ?_) (fun h6 => ?_)⟩
      · have H45 := St.open_ (L := rpL R a' (now l1).line e1 ((0 : Nat) : Int)) H44
        refine ⟨_, H45.ld 0 rfl (i := 1) rfl, ?_⟩
        rintro z8 rfl
        rw [show IntKind.wrap .i64 (((a' : Nat) : Int) - 1) = ((a' - 1 : Nat) : Int) by rw [show ((a' : Nat) : Int) - 1 = ((a' - 1 : Nat) : Int) by omega]; have := hg0.1.2.2.2; exact Go.Bits.n64 (by omega)]
        refine H45.st 0 rfl (i := 1) (by simp) fun w45 H46 => ?_
        have H47 := St.shut (L := rpL R (a' - 1) (now l1).line e1 ((0 : Nat) : Int)) H46
        obtain ⟨t', ht'⟩ : ∃ t', R.L[a' - 1]? = some t' := ⟨_, List.getElem?_eq_getElem (by omega)⟩
        refine H47.call 0 rfl (rfail_any 3 ht' (H47.nth 0 rfl)) fun w46 H48 => ?_
        rw [if_neg a1, if_neg a1] at H48
        have H49 := rd_shut ⟨a1, hg0.1⟩ ht' H48
        refine ⟨_, rfl, ?_⟩
        refine H49.call 0 rfl (rd_take cRP (H49.nth 0 rfl)) fun w47 H50 => ?_
        refine ⟨_, rfl, Sx.split_of (fun _ => ?_) (fun h => by cases h)⟩
        refine H50.call 0 rfl (rd_want cComma (H50.nth 0 rfl)) fun w48 H51 => ?_
        exact ⟨rfl, .inr (.inr ⟨_, _, nm, p', ps.length + 1, c', hR, H51.pick [0, 1, 2]⟩), rmeas_ltd (H.nth 0 rfl) (H51.nth 0 rfl)⟩
      · have H49 := rd_shut ⟨a1, hg0.1⟩ (drop_now ha' hG1) H44
        refine H49.call 0 rfl (rd_take cRP (H49.nth 0 rfl)) fun w47 H50 => ?_
        refine ⟨_, rfl, Sx.split_of (fun _ => ?_) (fun h => by cases h)⟩
        refine H50.call 0 rfl (rd_want cComma (H50.nth 0 rfl)) fun w48 H51 => ?_
        exact ⟨rfl, .inr (.inr ⟨_, _, nm, p', ps.length + 1, c', hR, H51.pick [0, 1, 2]⟩), rmeas_ltd (H.nth 0 rfl) (H51.nth 0 rfl)⟩
end Go.Proofs.YtojogkljneonmaaGreatDoor
/- The checker in memory: names, temporaries. No condition. -/
namespace Go.Lang
def T.isNil : T → Bool
  | .nil => true
  | _ => false
/-- which trees are well formed: 0 an expression, 1 a row of them, 2 a statement, 3 a row of them -/
def T.ok : T → Nat → Bool
  | .num .., k => k == 0
  | .name .., k => k == 0
  | .index _ _ _ p, k => k == 0 && p.ok 0
  | .call _ _ xs, k => k == 0 && xs.ok 1
  | .un _ x, k => k == 0 && x.ok 0
  | .bin _ x y, k => k == 0 && x.ok 0 && y.ok 0
  | .nil, k => k == 1 || k == 3
  | .cons x xs, k => (k == 1 && x.ok 0 && xs.ok 1) || (k == 3 && x.ok 2 && xs.ok 3)
  | .letS _ _ _ _ x, k => k == 2 && x.ok 0
  | .setS _ _ _ x, k => k == 2 && x.ok 0
  | .putS _ _ _ p x, k => k == 2 && p.ok 0 && x.ok 0
  | .ifS _ c a b, k => k == 2 && c.ok 0 && a.ok 2 && (b.ok 2 || b.isNil)
  | .whileS _ c b, k => k == 2 && c.ok 0 && b.ok 2
  | .retS _ x, k => k == 2 && x.ok 0
  | .prtS _ x, k => k == 2 && x.ok 0
  | .doS _ x, k => k == 2 && x.ok 0
  | .block _ l, k => k == 2 && l.ok 3
end Go.Lang
namespace Go.Proofs.YtojogkljneonmaaGreatDoor
open Go Go.Proofs Go.Sep Go.XHeap Go.RowKit Go.Lang
set_option linter.unusedVariables false
set_option linter.unusedSimpArgs false
variable {W : World} {X : Cx} {S : Sp} {n : Nat} {Ls : Lcs} {lk : Lk}
theorem ansc_ok {α : Type} {A : Asn} {w w' : World} {R0 : C α} {x : α} {K : α → Ending → World → Prop} {e : Ending} (h : R0 = .ok x) (hk : K x e w') : AnsC A w R0 K e w' := by subst h; exact hk
theorem mapp_some {k : Nat} {f : Nat → Prop} (h : f k) : Sx.mapp (some k) f := h
theorem sword_any [Inhabited G3o] {t : Tok} {s w : Int} {k : Nat} (hE : EnvOk lk X) (hn : Ls.length ≤ 24) (h : (all [scA X S n Ls, blk k (nameC t s w).toArray 221]).at_ W) :
    Calls Tryz.prog 114 #[pt X.ks, pt k] W (AnsC (all [scA X S n Ls, blk k (nameC t s w).toArray 221]) W (cword lk Ls t w) fun p e w' => e = .returned (.tuple #[]) ∧ Post (all [scA X S n Ls, blk k (nameC t s w).toArray 221]) W (all [scA X S n Ls, blk k (nameC t p.1 p.2).toArray 221]) w') := by
  refine vc114 X.ks 0 k 0 ?_
  have H := St.open_ (L' := []) (St.begin h)
  refine ⟨_, H.ld 1 rfl (i := 1) rfl, ?_⟩
  refine (slocal_any t.s hn (H.nth 0 rfl)).mono ?_
  rintro _ w2 ⟨rfl, rfl⟩
  refine ⟨_, rfl, ?_⟩
  refine H.st 1 rfl (i := 3) (by simp [nameC, tkL]) fun w3 H3 => ?_
  have H3 : St w2 (all [scA X S n Ls, blk k (nameC t s w).toArray 221]).own w3 [scA X S n Ls, blk k (nameC t (localOf Ls t.s) w).toArray 221] := H3
  refine ⟨_, H3.ld 1 rfl (i := 3) rfl, ?_⟩
  unfold cword
  refine Sx.split_of (fun h1 => ?_) (fun h1 => ?_)
  · rw [if_pos (of_decide_eq_true h1)]
    exact ⟨rfl, (St.shut (L := [_, _]) (L' := []) H3).post 0 rfl⟩
  · rw [if_neg (of_decide_eq_false h1)]
    have H4 := St.open_ (L := scL X S n Ls) H3
    refine ⟨_, H4.ld 0 rfl (i := 1) rfl, _, H4.ld 5 rfl (i := 1) rfl, mapp_some ⟨X.I, H4.nth 3 rfl, _, rfl, ?_⟩⟩
    have hL := hE.2 n t.s
    cases hlk : lk t.s with
    | none =>
      rw [hlk] at hL
      rw [show X.I t.s = none from hL]
      refine tag_nil ?_
      refine H4.drN fun w7 H7 => ?_
      exact ⟨_, H7.ld 5 rfl (i := 2) rfl, fail_c H7 t.line 9 rfl⟩
    | some g =>
      rw [hlk] at hL
      cases g with
      | fn kf np =>
        obtain ⟨i, hf, sl, hI, -⟩ := hL
        rw [hI]
        refine tag_ne (by decide) ?_
        refine H4.drN fun w7 H7 => ?_
        exact ⟨_, H7.ld 5 rfl (i := 2) rfl, fail_c H7 t.line 9 rfl⟩
      | var wd z =>
        obtain ⟨i, kv, tv, nv, hI, hG⟩ := hL
        rw [hI]
        refine tag_eq ⟨_, rfl, ?_⟩
        refine H4.drN fun w7 H7 => ?_
        have hb : Blk w7 kv (varC tv nv wd z).toArray 127 := hd_at (H7.nth 4 rfl) hG
        refine ptr_some ⟨z, hb.cell' (i := 5) rfl, ?_⟩
        refine Sx.split_of (fun h2 => ?_) (fun h2 => ?_)
        · have h2 := of_decide_eq_true h2
          exact ⟨_, H7.ld 5 rfl (i := 2) rfl, fail_c H7 t.line 9 (if_pos h2)⟩
        · have h2 := of_decide_eq_false h2
          refine ptr_some ⟨wd, hb.cell' (i := 4) rfl, ?_⟩
          refine H7.st 5 rfl (i := 4) (by simp [nameC, tkL]) fun w8 H8 => ?_
          have H9 := St.shut (L := scL X S n Ls) (L' := [blk k (nameC t (localOf Ls t.s) wd).toArray 221]) H8
          exact ansc_ok (x := (localOf Ls t.s, wd)) (if_neg h2) ⟨rfl, (St.shut (L := [scA X S n Ls, _]) (L' := []) H9).post 0 rfl⟩
def SizesOk (lk : Lk) : Prop := ∀ s w z, lk s = some (.var w z) → 0 ≤ z ∧ z ≤ 256
theorem sarray_any [Inhabited G3o] {t : Tok} {w z : Int} {v : Value} {k : Nat} (hE : EnvOk lk X) (hZ : SizesOk lk) (hn : Ls.length ≤ 24) (h : (all [scA X S n Ls, blk k (indexC t w z v).toArray 176]).at_ W) :
    Calls Tryz.prog 116 #[pt X.ks, pt k] W (AnsC (all [scA X S n Ls, blk k (indexC t w z v).toArray 176]) W (carr lk Ls t) fun p e w' => e = .returned (.tuple #[]) ∧ Post (all [scA X S n Ls, blk k (indexC t w z v).toArray 176]) W (all [scA X S n Ls, blk k (indexC t p.1 p.2 v).toArray 176]) w') := by
  refine vc116 X.ks 0 k 0 ?_
  have H := St.open_ (L' := []) (St.begin h)
  have H4 := St.open_ (L := scL X S n Ls) H
  refine ⟨_, H4.ld 0 rfl (i := 1) rfl, _, H4.ld 5 rfl (i := 1) rfl, mapp_some ⟨X.I, H4.nth 3 rfl, _, rfl, ?_⟩⟩
  have hL := hE.2 n t.s
  unfold carr
  cases hlk : lk t.s with
  | none =>
    rw [hlk] at hL
    rw [show X.I t.s = none from hL]
    refine tag_nil ?_
    refine H4.drN fun w7 H7 => ?_
    exact ⟨_, H7.ld 5 rfl (i := 2) rfl, fail_c H7 t.line 9 rfl⟩
  | some g =>
    rw [hlk] at hL
    cases g with
    | fn kf np =>
      obtain ⟨i, hf, sl, hI, -⟩ := hL
      rw [hI]
      refine tag_ne (by decide) ?_
      refine H4.drN fun w7 H7 => ?_
      exact ⟨_, H7.ld 5 rfl (i := 2) rfl, fail_c H7 t.line 9 rfl⟩
    | var wd zz =>
      have hz := hZ _ _ _ hlk
      obtain ⟨i, kv, tv, nv, hI, hG⟩ := hL
      rw [hI]
      refine tag_eq ⟨_, rfl, ?_⟩
      refine H4.drN fun w7 H7 => ?_
      have hb : Blk w7 kv (varC tv nv wd zz).toArray 127 := hd_at (H7.nth 4 rfl) hG
      refine ptr_some ⟨zz, hb.cell' (i := 5) rfl, ?_⟩
      refine Sx.split_of (fun h2 => ?_) (fun h2 => ?_)
      · have h2 := beq_iff_eq.1 h2
        exact ⟨_, H7.ld 5 rfl (i := 2) rfl, fail_c H7 t.line 9 (if_pos h2)⟩
      · have h2 : zz ≠ 0 := beq_eq_false_iff_ne.1 h2
        refine ⟨_, H7.ld 5 rfl (i := 1) rfl, ?_⟩
        have H7' := St.shut (L := scL X S n Ls) (L' := [_]) H7
        refine (slocal_any t.s hn (H7'.nth 0 rfl)).mono ?_
        rintro _ w8 ⟨rfl, rfl⟩
        refine ⟨_, rfl, ?_⟩
        refine Sx.split_of (fun h3 => ?_) (fun h3 => ?_)
        · have h3 := of_decide_eq_true h3
          exact ⟨_, H7.ld 5 rfl (i := 2) rfl, fail_c H7 t.line 9 ((if_neg h2).trans (if_pos h3))⟩
        · have h3 := of_decide_eq_false h3
          refine H7.dr fun w9 H9 => ?_
          have hb : Blk w9 kv (varC tv nv wd zz).toArray 127 := hd_at (H9.nth 4 rfl) hG
          refine ptr_some (ptr_some ⟨wd, hb.cell' (i := 4) rfl, zz, hb.cell' (i := 5) rfl, ?_⟩)
          rintro z7 rfl
          rw [show IntKind.wrap .u32 zz = zz by
            obtain ⟨m, rfl⟩ : ∃ m : Nat, zz = m := ⟨zz.toNat, by omega⟩
            exact Go.Bits.n32 (by omega)]
          refine H9.st 5 rfl (i := 3) (by simp [indexC, tkL]) fun w10 H10 => ?_
          refine H10.st 5 rfl (i := 4) (by simp [indexC, tkL]) fun w11 H11 => ?_
          have H12 := St.shut (L := scL X S n Ls) (L' := [blk k (indexC t wd zz v).toArray 176]) H11
          exact ansc_ok (x := (wd, zz)) ((if_neg h2).trans (if_neg h3)) ⟨rfl, (St.shut (L := [scA X S n Ls, _]) (L' := []) H12).post 0 rfl⟩
end Go.Proofs.YtojogkljneonmaaGreatDoor
