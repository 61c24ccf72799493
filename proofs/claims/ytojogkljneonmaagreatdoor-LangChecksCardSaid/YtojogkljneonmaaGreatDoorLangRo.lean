import Derived.Test.YtojogkljneonmaaGreatDoorLangRl
/- The reference's parser: numbers, operations on one value. No condition. -/
namespace Go.Proofs.YtojogkljneonmaaGreatDoor
open Go Go.Proofs Go.Sep Go.XHeap Go.RowKit Go.Lang
set_option linter.unusedVariables false
set_option linter.unusedSimpArgs false
variable {W w0 w : World} {M : Nat → Prop} {L : List Asn} {R : Rx} {l : List Tok} {n : Nat} {line en : Int}
theorem kR_iff {t : Tok} {k : Nat} {c : Int} (h : (k = 3 ∧ c = 107) ∨ (k = 2 ∧ c = 100) ∨ (k = 1 ∧ c = 110) ∨ (k = 0 ∧ c = 101)) : ((kR t.k : Nat) : Int) = c ↔ t.k = k := by
  unfold kR
  rcases h with ⟨rfl, rfl⟩ | ⟨rfl, rfl⟩ | ⟨rfl, rfl⟩ | ⟨rfl, rfl⟩ <;> (split <;> simp_all)
theorem run_step [Inhabited G3o] {f : Nat} (I : JE 147 .un f) (Ip : JE 173 .prim f) : JE 147 .un (f + 1) := by
  intro W R n l h hn hr
  have hrun : run (f + 1) .un n l = if isOne l then (if 24 ≤ n then .err (now l).line 3 else (run f .un (n + 1) l.tail).bind fun x l' => .ok (.un (now l) x) l') else run f .prim n l := by rw [run]
  generalize run (f + 1) .un n l = R0 at *
  refine vc147 R.b 0 ?_
  refine (St.begin h).al fun k w2 H2 => ?_
  refine H2.dr fun w3 H3 => ?_
  refine rl_tok H3 ?_
  refine H3.alb fun k6 w4 H4 _ hb => ⟨hb, ?_⟩
  refine H4.sts0 2 (n := 3) (vs := (tkR (now l)).toArray) rfl rfl rfl (by simpa using tkR_one _) fun w5 H5 => ?_
  clear H2 H3 H4 hb
  refine rl_err H5 (Sx.split_of (fun _ => ?_) (fun h => by cases h))
  refine ⟨_, H5.ld 2 rfl (i := 0) rfl, Sx.split_of (fun h1 => ?_) (fun h1 => ?_)⟩
  · have hk3 : (now l).k = 3 := (kR_iff (.inl ⟨rfl, rfl⟩)).1 (beq_iff_eq.1 h1)
    refine ⟨_, H5.ld 2 rfl (i := 1) rfl, Sx.split_of (fun h2 => ?_) (fun h2 => ?_)⟩
    · have hone : isOne l = true := by unfold isOne is; rw [hk3, show (now l).s = cMinus from of_decide_eq_true ((toList_eq _ _).symm.trans h2)]; simp
      rw [if_pos hone] at hrun
      refine (rl_deeper (H5.nth 0 rfl) hn).mono ?_
      rintro e w6 (⟨hn2, rfl, hp⟩ | ⟨hn2, rfl, hp⟩)
      · have H6 := H5.upd 0 rfl hp
        rw [if_neg (by omega)] at hrun
        refine ⟨_, rfl, Sx.split_of (fun h => by cases h) (fun _ => ?_)⟩
        refine rl_adv (by omega) H6 fun w8 H8 => ?_
        refine rcall H8 hrun hr (fun hr => I (H8.nth 0 rfl) (by omega) hr) ?_ ?_
        · intro x l' us B w9 hR ho hF H9
          refine ⟨_, rfl, ?_⟩
          refine H9.al fun k9 w10 H10 => ?_
          refine H10.sts0 4 (n := 6) (vs := us.toArray) rfl (by simpa using ho.1) rfl (by simpa using ho.2) fun w11 H11 => ?_
          refine rl_dec H11 fun w12 H12 => ?_
          refine ⟨_, H12.ld 3 rfl (i := 1) rfl, _, H12.ld 3 rfl (i := 2) rfl, ?_⟩
          refine cells_node H12 (k := 4) rfl ho.1 ⟨by simpa using ho.1, ?_⟩
          refine H12.al fun k11 w13 H13 => ?_
          rintro vs6 rfl
          refine ret_node H13 (k := 2) (us := nodeC cUnK (now l).s (now l).line 0 (.slice (some ⟨k11, 0, none⟩) 1 1) (.slice none 0 0)) rfl rfl rfl nodeC_one fun w14 H14 => ?_
          have H15 := H14.pick [5, 1, 0]
          simp only [List.append_nil] at H15
          obtain ⟨B2, hB2, H16⟩ := mk_blk cUnK (now l).s (now l).line 0 hF (m := 1) (isF_len1 hF ho.1).symm (by omega) H15
          exact rk_ok hR ones_C hB2 (H16.pick [1, 0])
        · intro line en us w9 hR ho H9
          refine ⟨_, rfl, ?_⟩
          refine H9.al fun k9 w10 H10 => ?_
          refine H10.sts0 3 (n := 6) (vs := us.toArray) rfl (by simpa using ho.1) rfl (by simpa using ho.2) fun w11 H11 => ?_
          refine rd_dec H11 fun w12 H12 => ?_
          refine ⟨_, H12.ld 2 rfl (i := 1) rfl, _, H12.ld 2 rfl (i := 2) rfl, ?_⟩
          refine cells_node H12 (k := 3) rfl ho.1 ⟨by simpa using ho.1, ?_⟩
          refine H12.al fun k11 w13 H13 => ?_
          rintro vs6 rfl
          exact ret_node H13 (k := 1) (us := nodeC cUnK (now l).s (now l).line 0 (.slice (some ⟨k11, 0, none⟩) 1 1) (.slice none 0 0)) rfl rfl rfl nodeC_one fun w14 H14 => rk_err hR ones_C H14
      · have H6 := H5.upd 0 rfl hp
        rw [if_pos hn2] at hrun
        refine ⟨_, rfl, Sx.split_of (fun _ => ?_) (fun h => by cases h)⟩
        rintro vs rfl
        exact ret_node H6 (k := 1) (us := nodeZ) rfl rfl rfl nodeZ_one fun w8 H8 => rk_err hrun ones_Z H8
    refine ⟨_, H5.ld 2 rfl (i := 1) rfl, Sx.split_of (fun h3 => ?_) (fun h3 => ?_)⟩
    · have hone : isOne l = true := by unfold isOne is; rw [hk3, show (now l).s = cNot from of_decide_eq_true ((toList_eq _ _).symm.trans h3)]; simp
      rw [if_pos hone] at hrun
      refine (rl_deeper (H5.nth 0 rfl) hn).mono ?_
      rintro e w6 (⟨hn2, rfl, hp⟩ | ⟨hn2, rfl, hp⟩)
      · have H6 := H5.upd 0 rfl hp
        rw [if_neg (by omega)] at hrun
        refine ⟨_, rfl, Sx.split_of (fun h => by cases h) (fun _ => ?_)⟩
        refine rl_adv (by omega) H6 fun w8 H8 => ?_
        refine rcall H8 hrun hr (fun hr => I (H8.nth 0 rfl) (by omega) hr) ?_ ?_
        · intro x l' us B w9 hR ho hF H9
          refine ⟨_, rfl, ?_⟩
          refine H9.al fun k9 w10 H10 => ?_
          refine H10.sts0 4 (n := 6) (vs := us.toArray) rfl (by simpa using ho.1) rfl (by simpa using ho.2) fun w11 H11 => ?_
          refine rl_dec H11 fun w12 H12 => ?_
          refine ⟨_, H12.ld 3 rfl (i := 1) rfl, _, H12.ld 3 rfl (i := 2) rfl, ?_⟩
          refine cells_node H12 (k := 4) rfl ho.1 ⟨by simpa using ho.1, ?_⟩
          refine H12.al fun k11 w13 H13 => ?_
          rintro vs6 rfl
          refine ret_node H13 (k := 2) (us := nodeC cUnK (now l).s (now l).line 0 (.slice (some ⟨k11, 0, none⟩) 1 1) (.slice none 0 0)) rfl rfl rfl nodeC_one fun w14 H14 => ?_
          have H15 := H14.pick [5, 1, 0]
          simp only [List.append_nil] at H15
          obtain ⟨B2, hB2, H16⟩ := mk_blk cUnK (now l).s (now l).line 0 hF (m := 1) (isF_len1 hF ho.1).symm (by omega) H15
          exact rk_ok hR ones_C hB2 (H16.pick [1, 0])
        · intro line en us w9 hR ho H9
          refine ⟨_, rfl, ?_⟩
          refine H9.al fun k9 w10 H10 => ?_
          refine H10.sts0 3 (n := 6) (vs := us.toArray) rfl (by simpa using ho.1) rfl (by simpa using ho.2) fun w11 H11 => ?_
          refine rd_dec H11 fun w12 H12 => ?_
          refine ⟨_, H12.ld 2 rfl (i := 1) rfl, _, H12.ld 2 rfl (i := 2) rfl, ?_⟩
          refine cells_node H12 (k := 3) rfl ho.1 ⟨by simpa using ho.1, ?_⟩
          refine H12.al fun k11 w13 H13 => ?_
          rintro vs6 rfl
          exact ret_node H13 (k := 1) (us := nodeC cUnK (now l).s (now l).line 0 (.slice (some ⟨k11, 0, none⟩) 1 1) (.slice none 0 0)) rfl rfl rfl nodeC_one fun w14 H14 => rk_err hR ones_C H14
      · have H6 := H5.upd 0 rfl hp
        rw [if_pos hn2] at hrun
        refine ⟨_, rfl, Sx.split_of (fun _ => ?_) (fun h => by cases h)⟩
        rintro vs rfl
        exact ret_node H6 (k := 1) (us := nodeZ) rfl rfl rfl nodeZ_one fun w8 H8 => rk_err hrun ones_Z H8
    refine ⟨_, H5.ld 2 rfl (i := 1) rfl, Sx.split_of (fun h4 => ?_) (fun h4 => ?_)⟩
    · have hone : isOne l = true := by unfold isOne is; rw [hk3, show (now l).s = cTilde from of_decide_eq_true ((toList_eq _ _).symm.trans h4)]; simp
      rw [if_pos hone] at hrun
      refine (rl_deeper (H5.nth 0 rfl) hn).mono ?_
      rintro e w6 (⟨hn2, rfl, hp⟩ | ⟨hn2, rfl, hp⟩)
      · have H6 := H5.upd 0 rfl hp
        rw [if_neg (by omega)] at hrun
        refine ⟨_, rfl, Sx.split_of (fun h => by cases h) (fun _ => ?_)⟩
        refine rl_adv (by omega) H6 fun w8 H8 => ?_
        refine rcall H8 hrun hr (fun hr => I (H8.nth 0 rfl) (by omega) hr) ?_ ?_
        · intro x l' us B w9 hR ho hF H9
          refine ⟨_, rfl, ?_⟩
          refine H9.al fun k9 w10 H10 => ?_
          refine H10.sts0 4 (n := 6) (vs := us.toArray) rfl (by simpa using ho.1) rfl (by simpa using ho.2) fun w11 H11 => ?_
          refine rl_dec H11 fun w12 H12 => ?_
          refine ⟨_, H12.ld 3 rfl (i := 1) rfl, _, H12.ld 3 rfl (i := 2) rfl, ?_⟩
          refine cells_node H12 (k := 4) rfl ho.1 ⟨by simpa using ho.1, ?_⟩
          refine H12.al fun k11 w13 H13 => ?_
          rintro vs6 rfl
          refine ret_node H13 (k := 2) (us := nodeC cUnK (now l).s (now l).line 0 (.slice (some ⟨k11, 0, none⟩) 1 1) (.slice none 0 0)) rfl rfl rfl nodeC_one fun w14 H14 => ?_
          have H15 := H14.pick [5, 1, 0]
          simp only [List.append_nil] at H15
          obtain ⟨B2, hB2, H16⟩ := mk_blk cUnK (now l).s (now l).line 0 hF (m := 1) (isF_len1 hF ho.1).symm (by omega) H15
          exact rk_ok hR ones_C hB2 (H16.pick [1, 0])
        · intro line en us w9 hR ho H9
          refine ⟨_, rfl, ?_⟩
          refine H9.al fun k9 w10 H10 => ?_
          refine H10.sts0 3 (n := 6) (vs := us.toArray) rfl (by simpa using ho.1) rfl (by simpa using ho.2) fun w11 H11 => ?_
          refine rd_dec H11 fun w12 H12 => ?_
          refine ⟨_, H12.ld 2 rfl (i := 1) rfl, _, H12.ld 2 rfl (i := 2) rfl, ?_⟩
          refine cells_node H12 (k := 3) rfl ho.1 ⟨by simpa using ho.1, ?_⟩
          refine H12.al fun k11 w13 H13 => ?_
          rintro vs6 rfl
          exact ret_node H13 (k := 1) (us := nodeC cUnK (now l).s (now l).line 0 (.slice (some ⟨k11, 0, none⟩) 1 1) (.slice none 0 0)) rfl rfl rfl nodeC_one fun w14 H14 => rk_err hR ones_C H14
      · have H6 := H5.upd 0 rfl hp
        rw [if_pos hn2] at hrun
        refine ⟨_, rfl, Sx.split_of (fun _ => ?_) (fun h => by cases h)⟩
        rintro vs rfl
        exact ret_node H6 (k := 1) (us := nodeZ) rfl rfl rfl nodeZ_one fun w8 H8 => rk_err hrun ones_Z H8
    · have hno : ¬ isOne l = true := by
        unfold isOne is
        rw [hk3]
        have a1 : ¬ (now l).s = cMinus := of_decide_eq_false ((toList_eq _ _).symm.trans h2)
        have a2 : ¬ (now l).s = cNot := of_decide_eq_false ((toList_eq _ _).symm.trans h3)
        have a3 : ¬ (now l).s = cTilde := of_decide_eq_false ((toList_eq _ _).symm.trans h4)
        simp [a1, a2, a3]
      rw [if_neg hno] at hrun
      refine rcall (kk := fun x l => .ok x l) H5 (by rw [hrun]; cases run f .prim n l <;> rfl) hr (fun hr => Ip (H5.nth 0 rfl) hn hr) ?_ ?_
      · intro x l' us B w9 hR ho hF H9
        exact ⟨_, rfl, ret_node H9 (k := 2) rfl rfl ho.1 ho.2 fun w8 H8 => rk_ok hR ho hF H8⟩
      · intro line en us w9 hR ho H9
        exact ⟨_, rfl, ret_node H9 (k := 1) rfl rfl ho.1 ho.2 fun w8 H8 => rk_err hR ho H8⟩
  · have hk3 : ¬ (now l).k = 3 := fun e => (beq_eq_false_iff_ne.1 h1) ((kR_iff (.inl ⟨rfl, rfl⟩)).2 e)
    have hno : ¬ isOne l = true := by
      unfold isOne is
      simp [hk3]
    rw [if_neg hno] at hrun
    refine rcall (kk := fun x l => .ok x l) H5 (by rw [hrun]; cases run f .prim n l <;> rfl) hr (fun hr => Ip (H5.nth 0 rfl) hn hr) ?_ ?_
    · intro x l' us B w9 hR ho hF H9
      exact ⟨_, rfl, ret_node H9 (k := 2) rfl rfl ho.1 ho.2 fun w8 H8 => rk_ok hR ho hF H8⟩
    · intro line en us w9 hR ho H9
      exact ⟨_, rfl, ret_node H9 (k := 1) rfl rfl ho.1 ho.2 fun w8 H8 => rk_err hR ho H8⟩
/-! ### numbers -/
theorem val_mono (l : List UInt8) (a : Nat) : a ≤ l.foldl (fun n c => 10 * n + (c.toNat - 48)) a := by
  induction l generalizing a with
  | nil => exact Nat.le_refl _
  | cons x l ih => exact Nat.le_trans (show a ≤ 10 * a + (x.toNat - 48) by omega) (ih _)
def NK [Inhabited G3o] (R : Rx) (n : Nat) (W : World) (A : Asn) (r : Lang.R Int) (e : Ending) (w' : World) : Prop := match r with
  | .ok v l' => (0 ≤ v ∧ v < 4294967296) ∧ e = .returned (.int .u32 v) ∧ Post A W (rlA R l' n) w'
  | .err line en => e = .returned (.int .u32 0) ∧ Post A W (rdA R line en) w'
  | .out => True
theorem rl_number [Inhabited G3o] (h : (rlA R l n).at_ W) : Calls Tryz.prog 62 #[pt R.b] W (NK R n W (rlA R l n) (number l fun v l => .ok v l)) := by
  have hG : Good l := h.1.2.1
  refine vc62 R.b 0 ?_
  refine (St.begin h).dr fun w2 H2 => ?_
  refine rl_tok H2 ?_
  refine H2.alb fun k5 w3 H3 _ hb => ⟨hb, ?_⟩
  refine H3.sts0 1 (n := 3) (vs := (tkR (now l)).toArray) rfl rfl rfl (by simpa using tkR_one _) fun w4 H4 => ?_
  clear H2 H3 hb
  refine ⟨_, H4.ld 1 rfl (i := 0) rfl, Sx.split_of (fun h1 => ?_) (fun h1 => ?_)⟩
  · have hk : (now l).k ≠ 2 := fun e => by
      rw [show ((kR (now l).k : Nat) : Int) = 100 from (kR_iff (.inr (.inl ⟨rfl, rfl⟩))).2 e] at h1; cases h1
    rw [number, if_pos hk]
    refine (rl_fail 8 (by decide) (H4.nth 0 rfl)).mono ?_
    rintro en w5 ⟨rfl, hp⟩
    exact ⟨_, rfl, rfl, (H4.upd 0 rfl hp).post 0 rfl⟩
  have hk : (now l).k = 2 := (kR_iff (.inr (.inl ⟨rfl, rfl⟩))).1 (bne_eq_false_iff_eq.1 h1)
  refine rl_err H4 (Sx.split_of (fun h => by cases h) (fun _ => ?_))
  obtain ⟨t, l', hl⟩ := hG.cons
  have hnow : now l = t := by rw [hl]; rfl
  obtain ⟨hd0, hd⟩ := hG.2.1 (now l) (by rw [hl, ← hnow, hl]; exact List.mem_cons_self ..) hk
  have hsz := hG.2.2.1 (now l) (by rw [hl, ← hnow, hl]; exact List.mem_cons_self ..)
  rw [number, if_neg (fun h => h hk)]
  have hal : ∀ c ∈ (now l).s.data.toList, 48 ≤ c.toNat ∧ c.toNat ≤ 57 := by
    intro c hc
    have := List.all_eq_true.1 hd c hc
    unfold Go.Lang.isD at this
    rw [Bool.and_eq_true] at this
    exact ⟨of_decide_eq_true this.1, of_decide_eq_true this.2⟩
  have hlen : (now l).s.data.toList.length = (now l).s.size := rfl
  generalize hs : (now l).s.data.toList = cs at *
  have hval : Go.Lang.valOf (now l).s = cs.foldl (fun n c => 10 * n + (c.toNat - 48)) 0 := by unfold Go.Lang.valOf; rw [hs]
  refine ⟨fun i v w => ∃ j : Nat, i = (j : Nat) ∧ j ≤ cs.length ∧ v = (((cs.take j).foldl (fun n c => 10 * n + (c.toNat - 48)) 0 : Nat) : Int) ∧ (cs.take j).foldl (fun n c => 10 * n + (c.toNat - 48)) 0 < 4294967296 ∧ St W (rlA R l n).own w [rlA R l n, blk k5 (tkR (now l)).toArray 96], fun i _ _ => cs.length - i.toNat, ⟨0, rfl, Nat.zero_le _, rfl, by show (0 : Nat) < 4294967296; omega, H4⟩, ?_⟩
  rintro _ i v w7 ⟨j, rfl, hj, rfl, hv, H7⟩
  refine ⟨_, H7.ld 1 rfl (i := 1) rfl, Sx.split_of (fun h2 => ?_) (fun h2 => ?_)⟩
  · have h2 : j < cs.length := by have := of_decide_eq_true h2; omega
    generalize hvv : (cs.take j).foldl (fun n c => 10 * n + (c.toNat - 48)) 0 = vv at *
    have htk : cs.take (j + 1) = cs.take j ++ [cs[j]] := by rw [List.take_succ_eq_append_getElem h2]
    have hfold : (cs.take (j + 1)).foldl (fun n c => 10 * n + (c.toNat - 48)) 0 = 10 * vv + (cs[j].toNat - 48) := by rw [htk, List.foldl_append, hvv]; rfl
    have hc := hal cs[j] (List.getElem_mem h2)
    rintro z4 rfl
    refine ⟨_, H7.ld 1 rfl (i := 1) rfl, cs[j], by omega, ?_, ?_⟩
    · rw [Int.toNat_natCast]
      show (now l).s.data[j]? = _
      rw [← Array.getElem?_toList, hs, List.getElem?_eq_getElem h2]
    rintro z5 rfl z6 rfl z7 rfl
    rw [show (10 : Int) * ((vv : Nat) : Int) = ((10 * vv : Nat) : Int) by omega, Go.Bits.n64 (by omega), show ((cs[j].toNat : Nat) : Int) - 48 = ((cs[j].toNat - 48 : Nat) : Int) by omega, show IntKind.wrap .u8 (((cs[j].toNat - 48 : Nat) : Int)) = ((cs[j].toNat - 48 : Nat) : Int) by show ((cs[j].toNat - 48 : Nat) : Int) % 256 = _; omega, Go.Bits.n64 (by omega), show ((10 * vv : Nat) : Int) + ((cs[j].toNat - 48 : Nat) : Int) = ((10 * vv + (cs[j].toNat - 48) : Nat) : Int) by omega, Go.Bits.n64 (by omega), ← hfold]
    refine Sx.split_of (fun h3 => ?_) (fun h3 => ?_)
    · have h3 := of_decide_eq_true h3
      have : 4294967296 ≤ Go.Lang.valOf (now l).s := by
        rw [hval, ← List.take_append_drop (j + 1) cs, List.foldl_append]
        exact Nat.le_trans (by omega) (val_mono _ _)
      rw [if_pos this]
      refine (rl_fail 3 (by decide) (H7.nth 0 rfl)).mono ?_
      rintro en w5 ⟨rfl, hp⟩
      exact ⟨_, rfl, rfl, (H7.upd 0 rfl hp).post 0 rfl⟩
    · have h3 := of_decide_eq_false h3
      rintro z8 rfl
      rw [inc64 (by omega)]
      exact ⟨⟨j + 1, rfl, by omega, rfl, by omega, H7⟩, by show _ - ((j + 1 : Nat) : Int).toNat < _ - ((j : Nat) : Int).toNat; omega⟩
  · have h2 : j = cs.length := by have := of_decide_eq_false h2; omega
    subst h2
    rw [List.take_length, ← hval] at hv ⊢
    rw [if_neg (by omega)]
    refine rl_adv (by omega) H7 fun w8 H8 => ?_
    rintro z rfl
    rw [Go.Bits.n32 (by omega)]
    exact ⟨⟨by omega, by omega⟩, rfl, H8.post 0 rfl⟩
end Go.Proofs.YtojogkljneonmaaGreatDoor
/- The reference's parser: arguments, primary expressions. No condition. -/
namespace Go.Proofs.YtojogkljneonmaaGreatDoor
open Go Go.Proofs Go.Sep Go.XHeap Go.RowKit Go.Lang
set_option linter.unusedVariables false
set_option linter.unusedSimpArgs false
variable {W w0 w : World} {M : Nat → Prop} {L : List Asn} {R : Rx} {l : List Tok} {n : Nat} {line en : Int}
theorem toF_ofTs : ∀ (ts : List T) (r : T) (q : Fo), toF (ofTs ts r) q = toF (ofTs ts .nil) (toF r q)
  | [], r, q => rfl
  | t :: ts, r, q => by show toF t (toF (ofTs ts r) q) = toF t (toF (ofTs ts .nil) (toF r q)); rw [toF_ofTs ts r q]
theorem toF_snoc [Inhabited G3o] (ts : List T) (x : T) : toF (ofTs (ts ++ [x]) .nil) .nil = (toF (ofTs ts .nil) .nil).app (toF x .nil) := by
  rw [ofTs_snoc, toF_ofTs ts (.cons x .nil) .nil, toF_nil_app]
  rfl
/-- a row is read, or there is an error -/
def RA [Inhabited G3o] (R : Rx) (n : Nat) (W : World) (A : Asn) (r : Lang.R T) (e : Ending) (w' : World) : Prop := match r with
  | .ok x l' => ∃ p c us B, e = .returned (.slice p (toF x .nil).len c) ∧ isF (toF x .nil) us B ∧ Post A W (all [rlA R l' n, sl 52 6 (.slice p (toF x .nil).len c) (toF x .nil).len us, B]) w'
  | .err line en => ∃ p m c, e = .returned (.slice p m c) ∧ Post A W (rdA R line en) w'
  | .out => True
def JA [Inhabited G3o] (f : Nat) : Prop := ∀ {W : World} {R : Rx} {n : Nat} {l : List Tok}, (rlA R l n).at_ W → n ≤ 24 → run f .args n l ≠ .out → Calls Tryz.prog 135 #[pt R.b] W (RA R n W (rlA R l n) (run f .args n l))
def argI [Inhabited G3o] (R : Rx) (n f : Nat) (W : World) (l : List Tok) (R0 : Lang.R T) (end_ : Bool) (p : Option Addr) (m c : Nat) (w : World) : Prop :=
  (end_ = false ∧ ∃ ts f' l1 us B, isF (toF (ofTs ts .nil) .nil) us B ∧ m = (toF (ofTs ts .nil) .nil).len ∧ R0 = (run f' .argl n l1).bind (fun xs l' => .ok (ofTs ts xs) l') ∧ f' ≤ f ∧ m + l1.length ≤ 8001 ∧
    St W (rlA R l n).own w [rlA R l1 n, sl 52 6 (.slice p m c) m us, B]) ∨
  (end_ = true ∧ ∃ x l1 us B, isF (toF x .nil) us B ∧ m = (toF x .nil).len ∧ R0 = .ok x l1 ∧ St W (rlA R l n).own w [rlA R l1 n, sl 52 6 (.slice p m c) m us, B]) ∨
  (∃ line en, R0 = .err line en ∧ St W (rlA R l n).own w [rdA R line en])
theorem rargs_step [Inhabited G3o] {f : Nat} (I : ∀ f' ≤ f, JE 119 .expr f') : JA (f + 1) := by
  intro W R n l h hn hr
  have hG : Good l := h.1.2.1
  have hrun : run (f + 1) .args n l = if is cRP l then .ok .nil l.tail else run f .argl n l := by rw [run]
  generalize run (f + 1) .args n l = R0 at *
  refine vc135 R.b 0 ?_
  refine (rl_take cRP h).mono ?_
  rintro _ w2 ⟨rfl, hp⟩
  have H0 := (St.begin h).upd 0 rfl hp
  clear hp
  have H2 : St W (rlA R l n).own w2 ([rlA R (if is cRP l then l.tail else l) n] ++ [sl 52 6 (.slice none 0 0) 0 []] ++ [all []]) := (H0.add (A := sl 52 6 (.slice none 0 0) 0 []) ⟨Sl.nil _ _ _, XTouch.refl _ _, fun q hq => by cases hq⟩).add (A := all []) ⟨trivial, XTouch.refl _ _, fun q hq => hq.elim⟩
  refine ⟨_, rfl, fun e p m c w => argI R n f W l R0 e p m c w, fun _ _ _ _ w => rmeas R w, ?_, ?_⟩
  · cases hi : is cRP l with
    | true =>
      rw [hi] at H2 hrun
      exact .inr (.inl ⟨rfl, .nil, l.tail, [], _, ⟨rfl, rfl⟩, rfl, hrun, H2⟩)
    | false =>
      rw [hi] at H2 hrun
      refine .inl ⟨rfl, [], f, l, [], _, ⟨rfl, rfl⟩, rfl, ?_, Nat.le_refl _, by have := hG.2.2.2; omega, H2⟩
      rw [hrun]
      show run f .argl n l = _
      cases run f .argl n l <;> rfl
  rintro _ end_ p m c w3 (⟨rfl, ts, f', l1, us, B, hF, hm, hR, hf, hml, H3⟩ | ⟨rfl, x, l1, us, B, hF, hm, hR, H3⟩ | ⟨line, en, hR, H3⟩)
  · refine Sx.split_of (fun _ => ?_) (fun h => by cases h)
    refine rl_err H3 (Sx.split_of (fun _ => ?_) (fun h => by cases h))
    match f', hR with
    | 0, hR => exact absurd hR hr
    | f' + 1, hR =>
    have hR : R0 = (run f' .expr n l1).bind fun x l => (if is cRP l then .ok (.cons x .nil) l.tail else want cComma l fun l => (run f' .argl n l).bind fun xs l => .ok (.cons x xs) l : Lang.R T).bind (fun xs l' => .ok (ofTs ts xs) l') := by
      rw [hR, run]
      cases run f' .expr n l1 <;> rfl
    have hlen := fun (x : T) (l2 : List Tok) (h : run f' .expr n l1 = .ok x l2) => (run_le _ _ _ _ _ _ h).1
    obtain ⟨re, hre⟩ : ∃ re, re = run f' .expr n l1 := ⟨_, rfl⟩
    have hne : re ≠ .out := fun e => hr (by rw [hR, ← hre, e]; rfl)
    refine (I f' (by omega) (H3.nth 0 rfl) hn (by rw [← hre]; exact hne)).mono ?_
    intro e w4 he
    rw [← hre] at he hR hlen
    cases re with
    | out => exact absurd rfl hne
    | err line en =>
      obtain ⟨vs, rfl, ho, hp⟩ := he
      have H4 := (H3.upd 0 rfl hp)
      refine ⟨_, rfl, ?_⟩
      refine H4.al fun k3 w5 H5 => ?_
      refine H5.sts0 3 (n := 6) (vs := vs.toArray) rfl (by simpa using ho.1) rfl (by simpa using ho.2) fun w6 H6 => ?_
      refine cells_node H6 (k := 3) rfl ho.1 ⟨by simpa using ho.1, ?_⟩
      refine H6.al fun k5 w7 H7 => ?_
      simp only [List.append_nil] at H7
      refine H7.app 1 rfl vs (.inr ⟨_, rfl, fun j v hj => ?_⟩) (by rw [ho.1]) ho.2 (by show m + 1 ≤ maxLen; unfold maxLen; omega) (by omega) fun p' c' w8 H8 => ?_
      · rw [show (Addr.add ⟨k5, 0, none⟩ j) = ⟨k5, j, none⟩ by simp [Addr.add]; intro e; exact e.symm]; exact H7.ld 4 rfl (i := j) (by simpa using hj)
      refine H8.call 0 rfl (rd_take cRP (H8.nth 0 rfl)) fun w9 H9 => ?_
      refine ⟨_, rfl, Sx.split_of (fun _ => ?_) (fun h => by cases h)⟩
      refine H9.call 0 rfl (rd_want cComma (H9.nth 0 rfl)) fun w10 H10 => ?_
      exact ⟨rfl, .inr (.inr ⟨line, en, hR, H10.pick [0]⟩), rmeas_ltd (H3.nth 0 rfl) (H10.nth 0 rfl)⟩
    | ok x l2 =>
      obtain ⟨vs, B2, rfl, ho, hF2, hp⟩ := he
      have hl2 := hlen x l2 rfl
      have H4 := St.open_ (L := [_, _]) (H3.upd 0 rfl hp)
      have hR : R0 = (if is cRP l2 then .ok (.cons x .nil) l2.tail else want cComma l2 fun l => (run f' .argl n l).bind fun xs l => .ok (.cons x xs) l : Lang.R T).bind (fun xs l' => .ok (ofTs ts xs) l') := hR
      refine ⟨_, rfl, ?_⟩
      refine H4.al fun k3 w5 H5 => ?_
      refine H5.sts0 4 (n := 6) (vs := vs.toArray) rfl (by simpa using ho.1) rfl (by simpa using ho.2) fun w6 H6 => ?_
      refine cells_node H6 (k := 4) rfl ho.1 ⟨by simpa using ho.1, ?_⟩
      refine H6.al fun k5 w7 H7 => ?_
      simp only [List.append_nil] at H7
      refine H7.app 2 rfl vs (.inr ⟨_, rfl, fun j v hj => ?_⟩) (by rw [ho.1]) ho.2 (by show m + 1 ≤ maxLen; unfold maxLen; omega) (by omega) fun p' c' w8 H8 => ?_
      · rw [show (Addr.add ⟨k5, 0, none⟩ j) = ⟨k5, j, none⟩ by simp [Addr.add]; intro e; exact e.symm]; exact H7.ld 5 rfl (i := j) (by simpa using hj)
      have H8 := H8.pick [3, 1, 0, 2]
      obtain ⟨C, hC, H9⟩ := two_rows hF hF2 H8
      rw [← toF_snoc] at hC
      have hm2 : m + 1 = (toF (ofTs (ts ++ [x]) .nil) .nil).len := by rw [toF_snoc, Fo.app_len, ← isF_len1 hF2 ho.1, hm]
      have H10 := H9.pick [1, 2, 0]
      refine H10.call 0 rfl (rl_take cRP (H10.nth 0 rfl)) fun w9 H11 => ?_
      cases hi : is cRP l2 with
      | true =>
        rw [hi] at H11 hR
        have ht := tail_lt (is_mark hi)
        refine ⟨_, rfl, Sx.split_of (fun h => by cases h) (fun _ => ?_)⟩
        refine ⟨.inr (.inl ⟨rfl, _, l2.tail, _, C, hC, hm2, ?_, H11⟩), rmeas_lt (H3.nth 0 rfl) (H11.nth 0 rfl) (by show l2.tail.length < _; omega)⟩
        rw [hR]
        show Lang.R.ok (ofTs ts (.cons x .nil)) l2.tail = _
        rw [ofTs_snoc]
      | false =>
        rw [hi] at H11 hR
        have hR : R0 = (want cComma l2 fun l => (run f' .argl n l).bind fun xs l => .ok (.cons x xs) l : Lang.R T).bind (fun xs l' => .ok (ofTs ts xs) l') := hR
        refine ⟨_, rfl, Sx.split_of (fun _ => ?_) (fun h => by cases h)⟩
        unfold want at hR
        cases hc : is cComma l2 with
        | true =>
          rw [hc] at hR
          have ht := tail_lt (is_mark hc)
          refine H11.call 0 rfl (rl_want_yes hc (H11.nth 0 rfl)) fun w10 H12 => ?_
          refine ⟨rfl, .inl ⟨rfl, ts ++ [x], f', l2.tail, _, C, hC, hm2, ?_, by omega, by omega, H12⟩, rmeas_lt (H3.nth 0 rfl) (H12.nth 0 rfl) (by show l2.tail.length < _; omega)⟩
          rw [hR]
          show ((run f' .argl n l2.tail).bind fun xs l => Lang.R.ok (T.cons x xs) l).bind _ = _
          cases run f' .argl n l2.tail with
          | ok xs l3 => show Lang.R.ok (ofTs ts (.cons x xs)) l3 = Lang.R.ok (ofTs (ts ++ [x]) xs) l3; rw [ofTs_snoc]
          | err => rfl
          | out => rfl
        | false =>
          rw [hc] at hR
          refine H11.call 0 rfl (rl_want_no hc (H11.nth 0 rfl)) fun w10 H12 => ?_
          exact ⟨rfl, .inr (.inr ⟨_, _, hR, H12.pick [0]⟩), rmeas_ltd (H3.nth 0 rfl) (H12.nth 0 rfl)⟩
  · refine Sx.split_of (fun h => by cases h) (fun _ => ?_)
    subst hm
    rw [hR]
    exact ⟨p, c, us, B, rfl, hF, St.post (St.shut (L := [_, _, _]) (L' := []) H3) 0 rfl⟩
  · have fin : RA R n W (rlA R l n) R0 (.returned (.slice p m c)) w3 := by
      rw [hR]
      exact ⟨p, m, c, rfl, H3.post 0 rfl⟩
    cases end_ with
    | true => exact Sx.split_of (fun h => by cases h) (fun _ => fin)
    | false => exact Sx.split_of (fun _ => rd_err H3 (fun hen => Sx.split_of (fun h => absurd (beq_iff_eq.1 h) hen) (fun _ => fin))) (fun h => by cases h)
end Go.Proofs.YtojogkljneonmaaGreatDoor
/- The reference's parser: primary expressions, statements of an expression. No condition. -/
namespace Go.Proofs.YtojogkljneonmaaGreatDoor
open Go Go.Proofs Go.Sep Go.XHeap Go.RowKit Go.Lang
set_option linter.unusedVariables false
set_option linter.unusedSimpArgs false
variable {W w0 w : World} {M : Nat → Prop} {L : List Asn} {R : Rx} {l : List Tok} {n : Nat} {line en : Int}
/-- a mark that must stand behind a node, alive -/
theorem want_then [Inhabited G3o] {P : Asn} {R0 : Lang.R T} {s : ByteArray} {kk : List Tok → Lang.R T} {Q : Ending → World → Prop} (H : St W P.own w (rlA R l n :: L)) (hR : R0 = want s l kk)
    (hok : ∀ w', is s l = true → R0 = kk l.tail → St W P.own w' (rlA R l.tail n :: L) → Q (.returned (.tuple #[])) w') (herr : ∀ w', R0 = .err (now l).line 8 → St W P.own w' (rdA R (now l).line 8 :: L) → Q (.returned (.tuple #[])) w') : Calls Tryz.prog 64 #[pt R.b, .string s] w Q := by
  unfold want at hR
  cases hi : is s l with
  | true =>
    rw [hi] at hR
    exact H.call 0 rfl (rl_want_yes hi (H.nth 0 rfl)) fun w' H' => hok w' hi hR H'
  | false =>
    rw [hi] at hR
    exact H.call 0 rfl (rl_want_no hi (H.nth 0 rfl)) fun w' H' => herr w' hR H'
theorem rprim_step [Inhabited G3o] {f : Nat} (I : JE 119 .expr f) (Ia : JA f) : JE 173 .prim (f + 1) := by
  intro W R n l h hn hr
  have hrun : run (f + 1) .prim n l = if (now l).k = 2 then number l fun v l' => .ok (.num v (now l).line) l'
    else if is cLP l then (run f .expr n l.tail).bind fun x l => want cRP l fun l => .ok x l
    else name l fun t l =>
      if is cLP l then (run f .args n l.tail).bind fun xs l => .ok (.call t none xs) l
      else if is cLB l then (run f .expr n l.tail).bind fun x l => want cRB l fun l => .ok (.index t 0 0 x) l
      else .ok (.name t 0 0) l := by rw [run]
  generalize run (f + 1) .prim n l = R0 at *
  refine vc173 R.b 0 ?_
  refine (St.begin h).al fun k w2 H2 => ?_
  refine H2.dr fun w3 H3 => ?_
  refine rl_tok H3 ?_
  refine H3.alb fun k6 w4 H4 _ hb => ⟨hb, ?_⟩
  refine H4.sts0 2 (n := 3) (vs := (tkR (now l)).toArray) rfl rfl rfl (by simpa using tkR_one _) fun w5 H5 => ?_
  clear H2 H3 H4 hb
  have H5 : St W (rlA R l n).own w5 [rlA R l n, blk k nodeZ.toArray 52, blk k6 (tkR (now l)).toArray 96] := H5
  refine rl_err H5 (Sx.split_of (fun h => by cases h) (fun _ => ?_))
  refine ⟨_, H5.ld 2 rfl (i := 0) rfl, Sx.split_of (fun h1 => ?_) (fun h1 => ?_)⟩
  · have hk2 : (now l).k = 2 := (kR_iff (.inr (.inl ⟨rfl, rfl⟩))).1 (beq_iff_eq.1 h1)
    rw [if_pos hk2, number_bind] at hrun
    refine (rl_number (H5.nth 0 rfl)).mono ?_
    intro e w6 he
    cases hb : (number l fun v l => Lang.R.ok v l) with
    | out => rw [hb] at hrun; exact absurd hrun hr
    | err line en =>
      rw [hb] at he hrun
      obtain ⟨rfl, hp⟩ := he
      have H6 := H5.upd 0 rfl hp
      refine ⟨_, rfl, _, H6.ld 2 rfl (i := 2) rfl, ?_⟩
      rintro vs rfl
      exact ret_node H6 (k := 1) (us := nodeC cNumK (ofL []) (now l).line 0 (.slice none 0 0) (.slice none 0 0)) rfl rfl rfl nodeC_one fun w8 H8 => rk_err hrun ones_C H8
    | ok v l' =>
      rw [hb] at he hrun
      obtain ⟨-, rfl, hp⟩ := he
      have H6 := H5.upd 0 rfl hp
      refine ⟨_, rfl, _, H6.ld 2 rfl (i := 2) rfl, ?_⟩
      rintro vs rfl
      refine ret_node H6 (k := 1) (us := nodeC cNumK (ofL []) (now l).line v (.slice none 0 0) (.slice none 0 0)) rfl rfl rfl nodeC_one fun w8 H8 => ?_
      obtain ⟨B, hB, H9⟩ := mk_leaf cNumK (ofL []) (now l).line v H8
      exact rk_ok hrun ones_C hB (H9.pick [1, 0])
  have hk2 : ¬ (now l).k = 2 := fun e => (beq_eq_false_iff_ne.1 h1) ((kR_iff (.inr (.inl ⟨rfl, rfl⟩))).2 e)
  rw [if_neg hk2] at hrun
  refine H5.call 0 rfl (rl_take cLP (H5.nth 0 rfl)) fun w6 H6 => ?_
  cases hi : is cLP l with
  | true =>
    rw [hi] at H6 hrun
    refine ⟨_, rfl, Sx.split_of (fun _ => ?_) (fun h => by cases h)⟩
    refine rcall H6 hrun hr (fun hr => I (H6.nth 0 rfl) hn hr) ?_ ?_
    · intro x l' us B w7 hR ho hF H7
      refine ⟨_, rfl, ?_⟩
      refine H7.al fun k10 w8 H8 => ?_
      refine H8.sts0 4 (n := 6) (vs := us.toArray) rfl (by simpa using ho.1) rfl (by simpa using ho.2) fun w9 H9 => ?_
      refine want_then H9 hR ?_ ?_
      · intro w10 _ hR H10
        refine ⟨rfl, cells_node H10 (k := 4) rfl ho.1 ?_⟩
        exact ret_node H10 (k := 2) rfl rfl ho.1 ho.2 fun w8 H8 => rk_ok hR ho hF H8
      · intro w10 hR H10
        refine ⟨rfl, cells_node H10 (k := 4) rfl ho.1 ?_⟩
        exact ret_node H10 (k := 2) rfl rfl ho.1 ho.2 fun w8 H8 => rk_err hR ho H8
    · intro line en us w7 hR ho H7
      refine ⟨_, rfl, ?_⟩
      refine H7.al fun k10 w8 H8 => ?_
      refine H8.sts0 3 (n := 6) (vs := us.toArray) rfl (by simpa using ho.1) rfl (by simpa using ho.2) fun w9 H9 => ?_
      refine H9.call 0 rfl (rd_want cRP (H9.nth 0 rfl)) fun w10 H10 => ?_
      refine ⟨rfl, cells_node H10 (k := 3) rfl ho.1 ?_⟩
      exact ret_node H10 (k := 1) rfl rfl ho.1 ho.2 fun w8 H8 => rk_err hR ho H8
  | false =>
    rw [hi] at H6 hrun
    have H6 : St W (rlA R l n).own w6 [rlA R l n, blk k nodeZ.toArray 52, blk k6 (tkR (now l)).toArray 96] := H6
    have hrun : R0 = name l fun t l =>
      if is cLP l then (run f .args n l.tail).bind fun xs l => .ok (.call t none xs) l
      else if is cLB l then (run f .expr n l.tail).bind fun x l => want cRB l fun l => .ok (.index t 0 0 x) l
      else .ok (.name t 0 0) l := hrun
    refine ⟨_, rfl, Sx.split_of (fun h => by cases h) (fun _ => ?_)⟩
    rcases name_cases l with ⟨a1, a2, a3⟩ | ⟨e1, a1, a2⟩
    · rw [a3] at hrun
      refine H6.call 0 rfl (rl_name_ok a1 a2 (H6.nth 0 rfl)) fun w7 H7 => ?_
      refine ⟨_, rfl, ?_⟩
      refine H7.call 0 rfl (rl_take cLP (H7.nth 0 rfl)) fun w8 H8 => ?_
      cases hi2 : is cLP l.tail with
      | true =>
        rw [hi2] at H8 hrun
        have hrun : R0 = (run f .args n l.tail.tail).bind fun xs l' => .ok (.call (now l) none xs) l' := hrun
        refine ⟨_, rfl, Sx.split_of (fun _ => ?_) (fun h => by cases h)⟩
        refine (Ia (H8.nth 0 rfl) hn (fun e => hr (by rw [hrun]; show Lang.R.bind (run f .args n l.tail.tail) _ = _; rw [show run f .args n l.tail.tail = .out from e]; rfl))).mono ?_
        intro e w9 he
        have he : RA R n w8 (rlA R l.tail.tail n) (run f .args n l.tail.tail) e w9 := he
        cases hb : run f .args n l.tail.tail with
        | out => rw [hb] at hrun; exact absurd hrun hr
        | err line en =>
          rw [hb] at he hrun
          obtain ⟨p, m, c, rfl, hp⟩ := he
          have H9 := H8.upd 0 rfl hp
          refine ⟨_, _, _, rfl, _, H9.ld 2 rfl (i := 2) rfl, ?_⟩
          rintro vs rfl
          exact ret_node H9 (k := 1) (us := nodeC cCallK (now l).s (now l).line 0 (.slice p m c) (.slice none 0 0)) rfl rfl rfl nodeC_one fun w8 H8 => rk_err hrun ones_C H8
        | ok xs l2 =>
          rw [hb] at he hrun
          obtain ⟨p, c, us, B, rfl, hF, hp⟩ := he
          have H9 := St.open_ (L := [_, _, _]) (H8.upd 0 rfl hp)
          refine ⟨_, _, _, rfl, _, H9.ld 4 rfl (i := 2) rfl, ?_⟩
          rintro vs rfl
          refine ret_node H9 (k := 3) (us := nodeC cCallK (now l).s (now l).line 0 (.slice p (toF xs .nil).len c) (.slice none 0 0)) rfl rfl rfl nodeC_one fun w8 H8 => ?_
          obtain ⟨B2, hB, H10⟩ := mk_sl cCallK (now l).s (now l).line 0 hF (H8.pick [1, 2, 0])
          exact rk_ok hrun ones_C hB (H10.pick [1, 0])
      | false =>
        rw [hi2] at H8 hrun
        have hrun : R0 = if is cLB l.tail then (run f .expr n l.tail.tail).bind fun x l' => want cRB l' fun l' => .ok (.index (now l) 0 0 x) l' else .ok (.name (now l) 0 0) l.tail := hrun
        refine ⟨_, rfl, Sx.split_of (fun h => by cases h) (fun _ => ?_)⟩
        have H8 : St W (rlA R l n).own w8 [rlA R l.tail n, blk k nodeZ.toArray 52, blk k6 (tkR (now l)).toArray 96] := H8
        refine H8.call 0 rfl (rl_take cLB (H8.nth 0 rfl)) fun w9 H9 => ?_
        cases hi3 : is cLB l.tail with
        | true =>
          rw [hi3] at hrun
          rw [hi3] at H9
          have H9 : St W (rlA R l n).own w9 [rlA R l.tail.tail n, blk k nodeZ.toArray 52, blk k6 (tkR (now l)).toArray 96] := H9
          have hrun : R0 = (run f .expr n l.tail.tail).bind fun x l' => want cRB l' fun l' => .ok (.index (now l) 0 0 x) l' := hrun
          refine ⟨_, rfl, Sx.split_of (fun _ => ?_) (fun h => by cases h)⟩
          refine rcall H9 hrun hr (fun hr => I (H9.nth 0 rfl) hn hr) ?_ ?_
          · intro x l' us B w7 hR ho hF H7
            refine ⟨_, rfl, ?_⟩
            refine H7.al fun k10 w8 H8 => ?_
            refine H8.sts0 4 (n := 6) (vs := us.toArray) rfl (by simpa using ho.1) rfl (by simpa using ho.2) fun w9 H9 => ?_
            refine want_then H9 hR ?_ ?_
            · intro w10 _ hR H10
              refine ⟨rfl, _, H10.ld 3 rfl (i := 2) rfl, cells_node H10 (k := 4) rfl ho.1 ⟨by simpa using ho.1, ?_⟩⟩
              refine H10.al fun k18 w11 H11 => ?_
              rintro vs rfl
              refine ret_node H11 (k := 2) (us := nodeC cIndexK (now l).s (now l).line 0 (.slice (some ⟨k18, 0, none⟩) 1 1) (.slice none 0 0)) rfl rfl rfl nodeC_one fun w8 H12 => ?_
              have H13 := H12.pick [5, 1, 0]
              simp only [List.append_nil] at H13
              obtain ⟨B2, hB2, H16⟩ := mk_blk cIndexK (now l).s (now l).line 0 hF (m := 1) (isF_len1 hF ho.1).symm (by omega) H13
              exact rk_ok hR ones_C hB2 (H16.pick [1, 0])
            · intro w10 hR H10
              refine ⟨rfl, _, H10.ld 3 rfl (i := 2) rfl, cells_node H10 (k := 4) rfl ho.1 ⟨by simpa using ho.1, ?_⟩⟩
              refine H10.al fun k18 w11 H11 => ?_
              rintro vs rfl
              exact ret_node H11 (k := 2) (us := nodeC cIndexK (now l).s (now l).line 0 (.slice (some ⟨k18, 0, none⟩) 1 1) (.slice none 0 0)) rfl rfl rfl nodeC_one fun w8 H12 => rk_err hR ones_C H12
          · intro line en us w7 hR ho H7
            refine ⟨_, rfl, ?_⟩
            refine H7.al fun k10 w8 H8 => ?_
            refine H8.sts0 3 (n := 6) (vs := us.toArray) rfl (by simpa using ho.1) rfl (by simpa using ho.2) fun w9 H9 => ?_
            refine H9.call 0 rfl (rd_want cRB (H9.nth 0 rfl)) fun w10 H10 => ?_
            refine ⟨rfl, _, H10.ld 2 rfl (i := 2) rfl, cells_node H10 (k := 3) rfl ho.1 ⟨by simpa using ho.1, ?_⟩⟩
            refine H10.al fun k18 w11 H11 => ?_
            rintro vs rfl
            exact ret_node H11 (k := 1) (us := nodeC cIndexK (now l).s (now l).line 0 (.slice (some ⟨k18, 0, none⟩) 1 1) (.slice none 0 0)) rfl rfl rfl nodeC_one fun w8 H12 => rk_err hR ones_C H12
        | false =>
          rw [hi3] at hrun
          rw [hi3] at H9
          have H9 : St W (rlA R l n).own w9 [rlA R l.tail n, blk k nodeZ.toArray 52, blk k6 (tkR (now l)).toArray 96] := H9
          have hrun : R0 = .ok (.name (now l) 0 0) l.tail := hrun
          refine ⟨_, rfl, Sx.split_of (fun h => by cases h) (fun _ => ?_)⟩
          refine ⟨_, H9.ld 2 rfl (i := 2) rfl, ?_⟩
          rintro vs rfl
          refine ret_node H9 (k := 1) (us := nodeC cNameK (now l).s (now l).line 0 (.slice none 0 0) (.slice none 0 0)) rfl rfl rfl nodeC_one fun w8 H8 => ?_
          obtain ⟨B, hB, H9⟩ := mk_leaf cNameK (now l).s (now l).line 0 H8
          exact rk_ok hrun ones_C hB (H9.pick [1, 0])
    · rw [a2] at hrun
      refine H6.call 0 rfl (rl_name_err (a2 _) (H6.nth 0 rfl)) fun w7 H7 => ?_
      refine ⟨_, rfl, ?_⟩
      refine H7.call 0 rfl (rd_take cLP (H7.nth 0 rfl)) fun w8 H8 => ?_
      refine ⟨_, rfl, Sx.split_of (fun h => by cases h) (fun _ => ?_)⟩
      refine H8.call 0 rfl (rd_take cLB (H8.nth 0 rfl)) fun w9 H9 => ?_
      refine ⟨_, rfl, Sx.split_of (fun h => by cases h) (fun _ => ?_)⟩
      refine ⟨_, H9.ld 2 rfl (i := 2) rfl, ?_⟩
      rintro vs rfl
      exact ret_node H9 (k := 1) (us := nodeC cNameK ⟨#[]⟩ (now l).line 0 (.slice none 0 0) (.slice none 0 0)) rfl rfl rfl nodeC_one fun w8 H8 => rk_err hrun ones_C H8
end Go.Proofs.YtojogkljneonmaaGreatDoor
