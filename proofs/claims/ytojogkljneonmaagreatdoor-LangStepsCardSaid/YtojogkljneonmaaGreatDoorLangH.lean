import Derived.Test.YtojogkljneonmaaGreatDoorLangD
/- The parser's calls, places and primary expressions. No condition. -/
namespace Go.Proofs.YtojogkljneonmaaGreatDoor
open Go Go.Proofs Go.Sep Go.XHeap Go.RowKit Go.Lang
set_option linter.unusedVariables false
set_option linter.unusedSimpArgs false

variable {W : World} {b g n : Nat} {l : List Tok}
/-! ### a place in an array -/
def idxR (f n : Nat) (t : Tok) (l : List Tok) : R T := (run f .expr n l.tail).bind fun x l => want cRB l fun l => .ok (.index t 0 0 x) l
theorem index_any [Inhabited G3o] {f : Nat} {t : Tok} (I : Ih f) (h : (parA b g l n).at_ W) (hn : n ≤ 24) (hi : is cLB l = true) (hr : idxR f n t l ≠ .out) : Calls Tryz.prog 129 #[pt b, tkV t] W (Ans (parW b) (parA b g l n) W (idxR f n t l) (PtK 177 b g n W (parA b g l n))) := by
  refine vc129 b 0 (tkL t).toArray ?_
  refine (St.begin h).al fun k w2 H2 => ?_
  refine (want_yes (s := cLB) (H2.nth 0 rfl) hi).mono ?_
  rintro _ w3 ⟨rfl, hp⟩
  have H3 := H2.upd 0 rfl hp
  refine .inl ⟨rfl, ?_⟩
  refine H3.dr fun w4 H4 => ?_
  refine ⟨_, rfl, H4.cells 1 rfl, ?_⟩
  generalize hR : idxR f n t l = R0 at *
  have hrun : R0 = (run f .expr n l.tail).bind fun x l => want cRB l fun l => .ok (.index t 0 0 x) l := hR.symm
  refine (I.expr (H4.nth 0 rfl) hn (fun e => hr (by rw [hrun, e]; rfl))).mono ?_
  intro e w5 he
  cases hb : run f .expr n l.tail with
  | out => rw [hb] at hrun; exact absurd hrun hr
  | err line en =>
    rw [hb] at he hrun
    obtain ⟨q, rfl, hp⟩ := he
    rw [show R0 = .err line en from hrun]
    exact .inr ⟨_, rfl, _, rfl, (H4.upd 0 rfl hp).post 0 rfl⟩
  | ok x l1 =>
    rw [hb] at he hrun
    obtain ⟨v, B, rfl, hB, hp⟩ := he
    have H5 := St.open_ (L := [_, _]) (H4.upd 0 rfl hp)
    refine .inl ⟨_, rfl, ⟨_, rfl, H5.cells 2 rfl, rfl⟩, rfl, isP_one hB ?_⟩
    rintro _ rfl
    refine H5.al fun k2 w6 H6 => ?_
    have hrun : R0 = want cRB l1 fun l => .ok (.index t 0 0 x) l := hrun
    unfold want at hrun
    cases h3 : is cRB l1 with
    | false =>
      rw [h3] at hrun
      rw [show R0 = .err (now l1).line 8 from hrun]
      exact perr H6 0 rfl (want_no (s := cRB) (H6.nth 0 rfl) h3)
    | true =>
      rw [h3] at hrun
      refine (want_yes (s := cRB) (H6.nth 0 rfl) h3).mono ?_
      rintro _ w7 ⟨rfl, hp⟩
      have H7 := (H6.upd 0 rfl hp).pick [3, 1, 0]
      have H7 := (St.shut (L := [_, _]) (L' := [_]) H7).pick [1, 0]
      rw [show R0 = .ok (.index t 0 0 x) l1.tail from hrun]
      exact .inl ⟨rfl, k2, _, rfl, ⟨k2, v, B, hB, rfl, rfl⟩, St.post (St.shut (L := [_, _]) (L' := []) H7) 0 rfl⟩
/-! ### a call -/
/-- what a call that is being read has: its arguments so far -/
def callL [Inhabited G3o] (b g n : Nat) (l : List Tok) (t : Tok) (kc kp k : Nat) (p : Option Addr) (c : Nat) (us : List Value) (As : List Asn) : List Asn :=
  [parA b g l n, blk kc #[pt k] 193, blk kp #[pt b] 80, blk k (callC t none (.slice p us.length c)).toArray 214, sl 169 1 (.slice p us.length c) us.length us, all As]
theorem call1_any [Inhabited G3o] {f : Nat} {t : Tok} {kc kp k c : Nat} {p : Option Addr} {us : List Value} {As : List Asn} {ts : List T} (I : Ih f) (hT : isP (ofTs ts .nil) us (all As)) (h : (all (callL b g n l t kc kp k p c us As)).at_ W) (hn : n ≤ 24) (hlen : us.length ≤ 8005) (hr : run f .expr n l ≠ .out) :
    Calls Tryz.prog 142 #[pt kc, pt kp] W (Ans (parW b) (all (callL b g n l t kc kp k p c us As)) W (run f .expr n l) fun x l' e w' => e = .returned (.tuple #[]) ∧ ∃ v p' c' As', isP (ofTs (ts ++ [x]) .nil) (us ++ [v]) (all As') ∧ Post (all (callL b g n l t kc kp k p c us As)) W (all (callL b g n l' t kc kp k p' c' (us ++ [v]) As')) w') := by
  refine vc142 kc 0 kp 0 ?_
  have H := St.open_ (L' := []) (St.begin h)
  refine H.dr fun w2 H2 => ?_
  refine ⟨_, H2.ld 2 rfl (i := 0) rfl, _, H2.ld 1 rfl (i := 0) rfl, _, H2.ld 1 rfl (i := 0) rfl, ptr_some ⟨p, us.length, c, H2.ld 3 rfl (i := 4) rfl, ?_⟩⟩
  refine (I.expr (H2.nth 0 rfl) hn hr).mono ?_
  intro e w3 he
  cases hb : run f .expr n l with
  | out => exact absurd hb hr
  | err line en =>
    rw [hb] at he
    obtain ⟨q, rfl, hp⟩ := he
    exact .inr ⟨_, rfl, _, rfl, (H2.upd 0 rfl hp).post 0 rfl⟩
  | ok x l1 =>
    rw [hb] at he
    obtain ⟨v, B, rfl, hB, hp⟩ := he
    have H3 := St.open_ (L := [_, _]) (H2.upd 0 rfl hp)
    refine .inl ⟨_, rfl, ⟨p, _, c, H3.ld 4 rfl (i := 4) rfl, rfl⟩, ⟨_, H3.ld 2 rfl (i := 0) rfl, rfl⟩, ⟨_, H3.ld 2 rfl (i := 0) rfl, rfl⟩, isP_one hB ?_⟩
    refine H3.al fun k5 w4 H4 => ?_
    refine ⟨⟨p, _, c, H4.ld 4 rfl (i := 4) rfl, rfl⟩, ⟨_, H4.ld 2 rfl (i := 0) rfl, rfl⟩, ⟨_, H4.ld 2 rfl (i := 0) rfl, rfl⟩, ?_⟩
    refine H4.app 5 rfl [v] (.inr ⟨_, rfl, fun j u hj => ?_⟩) rfl (by simpa using isP_cell hB) (by show us.length + 1 ≤ maxLen; unfold maxLen; omega) (by omega) fun p' c' w5 H5 => ?_
    · match j, hj with
      | 0, hj => cases hj; exact H4.ld 7 rfl (i := 0) rfl
    · refine ⟨⟨_, H5.ld 2 rfl (i := 0) rfl, rfl⟩, ptr_some (H5.st 4 rfl (i := 4) (by simp [callC, tkL]) fun w6 H6 => ?_)⟩
      refine ⟨rfl, v, p', c', ?_⟩
      obtain ⟨As', h1, h2⟩ := isP_snoc hB hT
      have H7 := H6.pick [6, 1, 0, 2, 3, 4, 5]
      have H8 := (h2 _ _ _ _ H7).pick [1, 2, 3, 4, 5, 0]
      refine ⟨As', h1, ?_⟩
      have e1 : (us ++ [v]).length = us.length + 1 := by simp
      have H9 : St W (all (callL b g n l t kc kp k p c us As)).own w6 (callL b g n l1 t kc kp k p' c' (us ++ [v]) As' ++ []) := by
        unfold callL
        rw [e1]
        exact H8
      exact St.post (St.shut H9) 0 rfl
def callR (f n : Nat) (t : Tok) (l : List Tok) : R T := (run f .args n l.tail).bind fun xs l => .ok (.call t none xs) l
theorem list_call [Inhabited G3o] {f : Nat} {t : Tok} {kc kp k : Nat} (I : ∀ f' ≤ f, Ih f') (h : (all (callL b g n l t kc kp k none 0 [] [])).at_ W) (hn : n ≤ 24) (hi : is cLP l = true) (hr : callR f n t l ≠ .out) :
    Calls Tryz.prog 54 #[pt b, .func (.func 142) #[] #[pt kc, pt kp]] W (Ans (parW b) (all (callL b g n l t kc kp k none 0 [] [])) W (callR f n t l) fun x l' e w' => e = .returned (.tuple #[]) ∧ ∃ p c us As xs, x = .call t none xs ∧ isP xs us (all As) ∧ Post (all (callL b g n l t kc kp k none 0 [] [])) W (all (callL b g n l' t kc kp k p c us As)) w') := by
  refine vc54c b 0 kc kp ?_
  have H := St.open_ (L' := []) (St.begin h)
  refine (want_yes (s := cLP) (H.nth 0 rfl) hi).mono ?_
  rintro _ w2 ⟨rfl, hp⟩
  have H2 := H.upd 0 rfl hp
  refine .inl ⟨rfl, ?_⟩
  have hG := (par_good (H.nth 0 rfl)).1
  generalize hR : callR f n t l = R0 at *
  have hrun : R0 = (run f .args n l.tail).bind fun xs l => .ok (.call t none xs) l := hR.symm
  refine (take_any cRP (H2.nth 0 rfl)).mono ?_
  rintro _ w3 ⟨rfl, hp⟩
  have H3 := H2.upd 0 rfl hp
  refine ⟨_, rfl, ?_⟩
  have hlen0 : l.length ≤ 8001 := hG.2.2.2
  refine ⟨fun more w => ∃ ts us As p c l1 f', isP (ofTs ts .nil) us (all As) ∧ St W (all (callL b g n l t kc kp k none 0 [] [])).own w (callL b g n l1 t kc kp k p c us As) ∧ us.length + l1.length ≤ 8001 ∧ f' ≤ f ∧ (match more with
    | true => R0 = (run f' .argl n l1).bind fun xs l' => .ok (.call t none (ofTs ts xs)) l'
    | false => R0 = .ok (.call t none (ofTs ts .nil)) l1), fun more w => match more with | true => lenAt b w + 1 | false => 0, ?_, fun _ => ?_⟩
  · match f, I, hrun with
    | 0, _, hrun => exact absurd hrun hr
    | f + 1, I, hrun =>
    unfold run at hrun
    have hl2 : l.tail.length ≤ l.length := tail_le l
    cases hi2 : is cRP l.tail with
    | true =>
      rw [hi2] at hrun H3
      have := tail_le l.tail
      exact ⟨[], [], [], none, 0, l.tail.tail, 0, ⟨rfl, rfl⟩, H3, by simp only [List.length_nil]; omega, by omega, hrun⟩
    | false =>
      rw [hi2] at hrun H3
      exact ⟨[], [], [], none, 0, l.tail, f, ⟨rfl, rfl⟩, H3, by simp only [List.length_nil]; omega, by omega, hrun⟩
  · rintro more w4 ⟨ts, us, As, p, c, l1, f', hT, H4, hlen, hf, hm⟩
    refine Sx.split_of (fun hm1 => ?_) (fun hm1 => ?_)
    · subst hm1
      have hm : R0 = (run f' .argl n l1).bind fun xs l' => .ok (.call t none (ofTs ts xs)) l' := hm
      match f', hf, hm with
      | 0, _, hm => exact absurd hm hr
      | f' + 1, hf, hm =>
      unfold run at hm
      have H5 := St.shut (L' := []) (by simpa using H4)
      refine (call1_any (I f' (by omega)) hT (H5.nth 0 rfl) hn (by omega) (fun e => hr (by rw [hm, e]; rfl))).mono ?_
      intro e w6 he
      cases hb : run f' .expr n l1 with
      | out => rw [hb] at hm; exact absurd hm hr
      | err line en =>
        rw [hb] at he hm
        obtain ⟨q, rfl, hp⟩ := he
        rw [show R0 = .err line en from hm]
        exact .inr ⟨_, rfl, _, rfl, (H5.upd 0 rfl hp).post 0 rfl⟩
      | ok x l2 =>
        rw [hb] at he hm
        obtain ⟨rfl, v, p', c', As', hT', hp⟩ := he
        have H6 := St.open_ (L' := []) (H5.upd 0 rfl hp)
        have hle := (run_le _ _ _ _ _ _ hb).1
        have hm : R0 = (if is cRP l2 then R.ok (T.cons x .nil) l2.tail else want cComma l2 fun l => (run f' .argl n l).bind fun xs l => .ok (.cons x xs) l).bind fun xs l' => .ok (.call t none (ofTs ts xs)) l' := hm
        have hu : (us ++ [v]).length = us.length + 1 := by simp
        refine .inl ⟨rfl, ?_⟩
        refine (take_any cRP (H6.nth 0 rfl)).mono ?_
        rintro _ w7 ⟨rfl, hp⟩
        have H7 := H6.upd 0 rfl hp
        refine ⟨_, rfl, ?_⟩
        obtain ⟨hG2, -⟩ := par_good (H6.nth 0 rfl)
        cases hi2 : is cRP l2 with
        | true =>
          rw [hi2] at hm
          rw [if_pos hi2] at H7
          have h8 := tail_lt (l := l2) (by rw [is_k hi2]; omega)
          refine ⟨⟨ts ++ [x], us ++ [v], As', p', c', l2.tail, 0, hT', H7, by rw [hu]; omega, by omega, ?_⟩, by show 0 < lenAt b w4 + 1; omega⟩
          show R0 = .ok (.call t none (ofTs (ts ++ [x]) .nil)) l2.tail
          rw [ofTs_snoc]; exact hm
        | false =>
          rw [hi2] at hm
          rw [if_neg (by rw [hi2]; exact Bool.false_ne_true)] at H7
          have hm : R0 = (want cComma l2 fun l => (run f' .argl n l).bind fun xs l => .ok (.cons x xs) l).bind fun xs l' => .ok (.call t none (ofTs ts xs)) l' := hm
          unfold want at hm
          cases hi3 : is cComma l2 with
          | false =>
            rw [hi3] at hm
            rw [show R0 = .err (now l2).line 8 from hm]
            exact perr H7 0 rfl (want_no (s := cComma) (H7.nth 0 rfl) hi3)
          | true =>
            rw [hi3] at hm
            refine (want_yes (s := cComma) (H7.nth 0 rfl) hi3).mono ?_
            rintro _ w8 ⟨rfl, hp⟩
            have H8 := H7.upd 0 rfl hp
            have h8 := tail_lt (l := l2) (by rw [is_k hi3]; omega)
            refine .inl ⟨rfl, ⟨ts ++ [x], us ++ [v], As', p', c', l2.tail, f', hT', H8, by rw [hu]; omega, by omega, ?_⟩, ?_⟩
            · show R0 = (run f' .argl n l2.tail).bind fun xs l' => .ok (.call t none (ofTs (ts ++ [x]) xs)) l'
              rw [show R0 = ((run f' .argl n l2.tail).bind fun xs l => .ok (.cons x xs) l).bind fun xs l' => .ok (.call t none (ofTs ts xs)) l' from hm]
              cases run f' .argl n l2.tail with
              | ok xs l' => show R.ok _ _ = R.ok _ _; rw [ofTs_snoc]
              | err => rfl
              | out => rfl
            · show lenAt b w8 + 1 < lenAt b w4 + 1
              rw [lenAt_par (H8.nth 0 rfl), lenAt_par (H4.nth 0 rfl)]
              omega
    · subst hm1
      have hm : R0 = .ok (.call t none (ofTs ts .nil)) l1 := hm
      rw [hm]
      exact ⟨rfl, p, c, us, As, _, rfl, hT, St.post (St.shut (L' := []) (by simpa using H4)) 0 rfl⟩
theorem call_any [Inhabited G3o] {f : Nat} {t : Tok} (I : ∀ f' ≤ f, Ih f') (h : (parA b g l n).at_ W) (hn : n ≤ 24) (hi : is cLP l = true) (hr : callR f n t l ≠ .out) : Calls Tryz.prog 128 #[pt b, tkV t] W (Ans (parW b) (parA b g l n) W (callR f n t l) (PtK 193 b g n W (parA b g l n))) := by
  refine vc128 b 0 (tkL t).toArray ?_
  refine (St.begin h).al fun k w2 H2 => ?_
  refine H2.al fun k2 w3 H3 => ?_
  refine ⟨_, rfl, H3.cells 2 rfl, rfl, ?_⟩
  rintro _ rfl
  refine H3.al fun k3 w4 H4 => ?_
  refine H4.al fun k4 w5 H5 => ?_
  refine H5.st 4 rfl (i := 0) (by simp) fun w6 H6 => ?_
  refine ⟨_, H6.ld 1 rfl (i := 0) rfl, ?_⟩
  have H7 : St W (parA b g l n).own w6 ([parA b g l n, blk k4 #[pt k3] 193, blk k #[pt b] 80, blk k3 (callC t none (.slice none 0 0)).toArray 214] ++ [sl 169 1 (.slice none 0 0) 0 [], all []]) := by
    have := ((H6.pick [0, 4, 1, 3]).add (A := sl 169 1 (.slice none 0 0) 0 []) ⟨Sl.nil _ _ _, XTouch.refl _ _, fun q hq => by cases hq⟩).add (A := all []) ⟨trivial, XTouch.refl _ _, fun q hq => hq.elim⟩
    exact this
  have H7 := St.shut (L := callL b g n l t k4 k k3 none 0 [] []) (L' := []) H7
  refine (list_call I (H7.nth 0 rfl) hn hi hr).mono ?_
  intro e w8 he
  cases hb : callR f n t l with
  | out => exact absurd hb hr
  | err line en =>
    rw [hb] at he
    obtain ⟨q, rfl, hp⟩ := he
    exact .inr ⟨_, rfl, _, rfl, (H7.upd 0 rfl hp).post 0 rfl⟩
  | ok x l1 =>
    rw [hb] at he
    obtain ⟨rfl, p, c, us, As, xs, rfl, hT, hp⟩ := he
    have H8 := St.open_ (L' := []) (H7.upd 0 rfl hp)
    refine .inl ⟨rfl, _, H8.ld 1 rfl (i := 0) rfl, ?_⟩
    have H9 := (St.shut (L := [_, _, _]) (L' := [_]) (H8.pick [3, 4, 5, 0])).pick [1, 0]
    exact ⟨k3, _, rfl, ⟨k3, p, c, us, _, hT, rfl, rfl⟩, St.post (St.shut (L := [_, _]) (L' := []) H9) 0 rfl⟩
end Go.Proofs.YtojogkljneonmaaGreatDoor
/- The parser's primary expressions. No condition. -/
namespace Go.Proofs.YtojogkljneonmaaGreatDoor
open Go Go.Proofs Go.Sep Go.XHeap Go.RowKit Go.Lang
set_option linter.unusedVariables false
set_option linter.unusedSimpArgs false

variable {W : World} {b g n : Nat} {l : List Tok}
theorem number_bind {β : Type} (l : List Tok) (k : Int → List Tok → R β) : number l k = (number l fun v l => R.ok v l).bind k := by
  unfold number
  split
  · rfl
  · split <;> rfl
theorem name_bind {β : Type} (l : List Tok) (k : Tok → List Tok → R β) : name l k = (name l fun v l => R.ok v l).bind k := by
  unfold name
  split
  · rfl
  · split <;> rfl
theorem prim_step [Inhabited G3o] {f : Nat} (I : ∀ f' ≤ f, Ih f') (h : (parA b g l n).at_ W) (hn : n ≤ 24) (hr : run (f + 1) .prim n l ≠ .out) : Calls Tryz.prog 172 #[pt b] W (Ans (parW b) (parA b g l n) W (run (f + 1) .prim n l) (TreeK b g n W (parA b g l n))) := by
  refine vc172 b 0 ?_
  generalize hR : run (f + 1) .prim n l = R0 at *
  have hrun := hR.symm
  unfold run at hrun
  refine (St.begin h).callq (now_any h) fun w2 H2 => ?_
  refine ⟨_, rfl, _, rfl, ?_⟩
  refine Sx.split_of (fun h3 => ?_) (fun h3 => ?_)
  · have hk : (now l).k = 2 := by have := beq_iff_eq.1 h3; omega
    rw [if_pos hk, number_bind] at hrun
    refine (number_any (H2.nth 0 rfl)).mono ?_
    intro e w3 he
    cases hb : (number l fun v l => R.ok v l) with
    | out => rw [hb] at hrun; exact absurd hrun hr
    | err line en =>
      rw [hb] at he hrun
      obtain ⟨q, rfl, hp⟩ := he
      rw [show R0 = .err line en from hrun]
      exact .inr ⟨_, rfl, _, rfl, (H2.upd 0 rfl hp).post 0 rfl⟩
    | ok v l1 =>
      rw [hb] at he hrun
      obtain ⟨rfl, hp⟩ := he
      rw [show R0 = .ok (.num v (now l).line) l1 from hrun]
      have H3 := (H2.upd 0 rfl hp).add (A := emp) ⟨trivial, XTouch.refl _ _, fun q hq => hq.elim⟩
      exact .inl ⟨_, rfl, _, _, rfl, ⟨rfl, rfl⟩, St.post (St.shut (L := [_, _]) (L' := []) H3) 0 rfl⟩
  · have hk : ¬ (now l).k = 2 := fun e => by rw [e] at h3; cases h3
    rw [if_neg hk] at hrun
    refine (take_any cLP (H2.nth 0 rfl)).mono ?_
    rintro _ w3 ⟨rfl, hp⟩
    have H3 := H2.upd 0 rfl hp
    refine ⟨_, rfl, ?_⟩
    refine Sx.split_of (fun h4 => ?_) (fun h4 => ?_)
    · rw [if_pos h4] at hrun H3
      refine ((I f (Nat.le_refl _)).expr (H3.nth 0 rfl) hn (fun e => hr (by rw [hrun, e]; rfl))).mono ?_
      intro e w5 he
      cases hb : run f .expr n l.tail with
      | out => rw [hb] at hrun; exact absurd hrun hr
      | err line en =>
        rw [hb] at he hrun
        obtain ⟨q, rfl, hp⟩ := he
        rw [show R0 = .err line en from hrun]
        exact .inr ⟨_, rfl, _, rfl, (H3.upd 0 rfl hp).post 0 rfl⟩
      | ok x l1 =>
        rw [hb] at he hrun
        obtain ⟨v, B, rfl, hB, hp⟩ := he
        have H5 := St.open_ (L := [_, _]) (H3.upd 0 rfl hp)
        refine .inl ⟨_, rfl, ?_⟩
        have hrun : R0 = want cRP l1 fun l => .ok x l := hrun
        unfold want at hrun
        cases h5 : is cRP l1 with
        | false =>
          rw [h5] at hrun
          rw [show R0 = .err (now l1).line 8 from hrun]
          exact perr H5 0 rfl (want_no (s := cRP) (H5.nth 0 rfl) h5)
        | true =>
          rw [h5] at hrun
          refine (want_yes (s := cRP) (H5.nth 0 rfl) h5).mono ?_
          rintro _ w7 ⟨rfl, hp⟩
          have H7 := H5.upd 0 rfl hp
          rw [show R0 = .ok x l1.tail from hrun]
          exact .inl ⟨rfl, _, _, rfl, hB, St.post (St.shut (L := [_, _]) (L' := []) H7) 0 rfl⟩
    · have h4' : ¬ is cLP l = true := by rw [h4]; exact Bool.false_ne_true
      rw [if_neg h4'] at hrun H3
      rw [name_bind] at hrun
      refine (name_any (H3.nth 0 rfl)).mono ?_
      intro e w4 he
      cases hb : (name l fun t l => R.ok t l) with
      | out => rw [hb] at hrun; exact absurd hrun hr
      | err line en =>
        rw [hb] at he hrun
        obtain ⟨q, rfl, hp⟩ := he
        rw [show R0 = .err line en from hrun]
        exact .inr ⟨_, rfl, _, rfl, (H3.upd 0 rfl hp).post 0 rfl⟩
      | ok t l1 =>
        rw [hb] at he hrun
        obtain ⟨rfl, hp⟩ := he
        have H4 := H3.upd 0 rfl hp
        have hrun : R0 = if is cLP l1 then callR f n t l1 else if is cLB l1 then idxR f n t l1 else .ok (.name t 0 0) l1 := hrun
        refine .inl ⟨_, rfl, ?_⟩
        refine H4.al fun k w5 H5 => ?_
        refine H5.sts0 1 (n := 3) (vs := (tkL t).toArray) rfl rfl rfl (by simpa using tkL_one _) fun w6 H6 => ?_
        refine H6.callq (is_any cLP (H6.nth 0 rfl)) fun w7 H7 => ?_
        refine ⟨_, rfl, ?_⟩
        refine Sx.split_of (fun h5 => ?_) (fun h5 => ?_)
        · rw [if_pos h5] at hrun
          refine ⟨_, rfl, H7.cells 1 rfl, ?_⟩
          rw [hrun] at hr ⊢
          refine (call_any I (H7.nth 0 rfl) hn h5 hr).mono ?_
          intro e w8 he
          cases hc : callR f n t l1 with
          | out => exact absurd hc hr
          | err line en =>
            rw [hc] at he
            obtain ⟨q, rfl, hp⟩ := he
            exact .inr ⟨_, rfl, _, rfl, (H7.upd 0 rfl hp).post 0 rfl⟩
          | ok x l2 =>
            rw [hc] at he
            obtain ⟨k, B, rfl, hB, hp⟩ := he
            exact .inl ⟨_, rfl, _, _, rfl, hB, (H7.upd 0 rfl hp).post 0 rfl⟩
        · rw [if_neg (by rw [h5]; exact Bool.false_ne_true)] at hrun
          refine H7.callq (is_any cLB (H7.nth 0 rfl)) fun w8 H8 => ?_
          refine ⟨_, rfl, ?_⟩
          refine Sx.split_of (fun h6 => ?_) (fun h6 => ?_)
          · rw [if_pos h6] at hrun
            refine ⟨_, rfl, H8.cells 1 rfl, ?_⟩
            rw [hrun] at hr ⊢
            refine (index_any (I f (Nat.le_refl _)) (H8.nth 0 rfl) hn h6 hr).mono ?_
            intro e w9 he
            cases hc : idxR f n t l1 with
            | out => exact absurd hc hr
            | err line en =>
              rw [hc] at he
              obtain ⟨q, rfl, hp⟩ := he
              exact .inr ⟨_, rfl, _, rfl, (H8.upd 0 rfl hp).post 0 rfl⟩
            | ok x l2 =>
              rw [hc] at he
              obtain ⟨k, B, rfl, hB, hp⟩ := he
              exact .inl ⟨_, rfl, _, _, rfl, hB, (H8.upd 0 rfl hp).post 0 rfl⟩
          · rw [if_neg (by rw [h6]; exact Bool.false_ne_true)] at hrun
            refine ⟨_, rfl, H8.cells 1 rfl, rfl, ?_⟩
            rintro _ rfl
            refine H8.al fun k3 w9 H9 => ?_
            rw [hrun]
            exact ⟨_, _, rfl, ⟨k3, rfl, rfl⟩, St.post (St.shut (L := [_, _]) (L' := []) (H9.pick [0, 2])) 0 rfl⟩
end Go.Proofs.YtojogkljneonmaaGreatDoor
/- The parser's statements. No condition. -/
namespace Go.Proofs.YtojogkljneonmaaGreatDoor
open Go Go.Proofs Go.Sep Go.XHeap Go.RowKit Go.Lang
set_option linter.unusedVariables false
set_option linter.unusedSimpArgs false

variable {W : World} {b g n : Nat} {l : List Tok}
def closedR (f n : Nat) (l : List Tok) : R T := (run f .expr n l).bind fun x l => want cSemi l fun l => .ok x l
theorem want_bind {β : Type} (s : ByteArray) (l : List Tok) (k : List Tok → R β) : want s l k = (want s l fun l => R.ok () l).bind fun _ l => k l := by
  unfold want
  split <;> rfl
theorem closed_bind {f n : Nat} {l : List Tok} {β : Type} (k : T → List Tok → R β) : ((run f .expr n l).bind fun x l => want cSemi l fun l => k x l) = (closedR f n l).bind k := by
  unfold closedR
  cases run f .expr n l with
  | ok x l1 => show want cSemi l1 _ = (want cSemi l1 _).bind k; unfold want; split <;> rfl
  | err => rfl
  | out => rfl
theorem closed_any [Inhabited G3o] {f : Nat} (I : Ih f) (h : (parA b g l n).at_ W) (hn : n ≤ 24) (hr : closedR f n l ≠ .out) : Calls Tryz.prog 112 #[pt b] W (Ans (parW b) (parA b g l n) W (closedR f n l) (TreeK b g n W (parA b g l n))) := by
  refine vc112 b 0 ?_
  have H := St.begin h
  generalize hR : closedR f n l = R0 at *
  have hrun : R0 = (run f .expr n l).bind fun x l => want cSemi l fun l => .ok x l := hR.symm
  refine (I.expr h hn (fun e => hr (by rw [hrun, e]; rfl))).mono ?_
  intro e w5 he
  cases hb : run f .expr n l with
  | out => rw [hb] at hrun; exact absurd hrun hr
  | err line en =>
    rw [hb] at he hrun
    obtain ⟨q, rfl, hp⟩ := he
    rw [show R0 = .err line en from hrun]
    exact .inr ⟨_, rfl, _, rfl, (H.upd 0 rfl hp).post 0 rfl⟩
  | ok x l1 =>
    rw [hb] at he hrun
    obtain ⟨v, B, rfl, hB, hp⟩ := he
    have H5 := St.open_ (L := [_, _]) (H.upd 0 rfl hp)
    refine .inl ⟨_, rfl, ?_⟩
    have hrun : R0 = want cSemi l1 fun l => .ok x l := hrun
    unfold want at hrun
    cases h5 : is cSemi l1 with
    | false =>
      rw [h5] at hrun
      rw [show R0 = .err (now l1).line 8 from hrun]
      exact perr H5 0 rfl (want_no (s := cSemi) (H5.nth 0 rfl) h5)
    | true =>
      rw [h5] at hrun
      refine (want_yes (s := cSemi) (H5.nth 0 rfl) h5).mono ?_
      rintro _ w7 ⟨rfl, hp⟩
      have H7 := H5.upd 0 rfl hp
      rw [show R0 = .ok x l1.tail from hrun]
      exact .inl ⟨rfl, _, _, rfl, hB, St.post (St.shut (L := [_, _]) (L' := []) H7) 0 rfl⟩
/-! ### statements that begin with a name -/
def toPut (i x : T) : T := match i with | .index t w z p => .putS t w z p x | _ => .nil
def plainR (f n : Nat) (l : List Tok) : R T := (name l fun t l => R.ok t l).bind fun t l =>
  if is cLP l then (callR f n t l).bind fun c l => want cSemi l fun l => .ok (.doS t.line c) l
  else if is cLB l then (idxR f n t l).bind fun i l => want cEq l fun l => (closedR f n l).bind fun x l => .ok (toPut i x) l
  else want cEq l fun l => (closedR f n l).bind fun x l => .ok (.setS t 0 0 x) l
theorem plain_eq [Inhabited G3o] {f n : Nat} {l : List Tok} (hk : (now l).k = 1) : run (f + 1) .stmt n l = plainR f n l := by
  rw [run, if_pos hk, name_bind]
  unfold plainR
  congr 1
  funext t l
  split
  · unfold callR
    cases run f .args n l.tail <;> rfl
  · split
    · unfold idxR
      cases run f .expr n l.tail with
      | ok p l1 =>
        simp only [R.bind]
        cases h1 : is cRB l1 with
        | false => simp only [want, h1, Bool.false_eq_true, if_false]
        | true =>
          simp only [want, h1, if_true]
          cases h2 : is cEq l1.tail with
          | false => simp only [h2, Bool.false_eq_true, if_false]
          | true =>
            simp only [h2, if_true]
            exact closed_bind (k := fun x l => R.ok (T.putS t 0 0 p x) l)
      | err => rfl
      | out => rfl
    · congr 1
      funext l
      exact closed_bind (k := fun x l => R.ok (T.setS t 0 0 x) l)
theorem plain_any [Inhabited G3o] {f : Nat} (I : ∀ f' ≤ f, Ih f') (h : (parA b g l n).at_ W) (hn : n ≤ 24) (hr : plainR f n l ≠ .out) : Calls Tryz.prog 111 #[pt b] W (Ans (parW b) (parA b g l n) W (plainR f n l) (TreeK b g n W (parA b g l n))) := by
  refine vc111 b 0 ?_
  have H := St.begin h
  have I0 := I f (Nat.le_refl _)
  generalize hR : plainR f n l = R0 at *
  have hrun := hR.symm
  unfold plainR at hrun
  refine (name_any h).mono ?_
  intro e w2 he
  cases hb : (name l fun t l => R.ok t l) with
  | out => rw [hb] at hrun; exact absurd hrun hr
  | err line en =>
    rw [hb] at he hrun
    obtain ⟨q, rfl, hp⟩ := he
    rw [show R0 = .err line en from hrun]
    exact .inr ⟨_, rfl, _, rfl, (H.upd 0 rfl hp).post 0 rfl⟩
  | ok t l1 =>
    rw [hb] at he hrun
    obtain ⟨rfl, hp⟩ := he
    have H2 := H.upd 0 rfl hp
    have hrun : R0 = if is cLP l1 then (callR f n t l1).bind fun c l => want cSemi l fun l => .ok (.doS t.line c) l
      else if is cLB l1 then (idxR f n t l1).bind fun i l => want cEq l fun l => (closedR f n l).bind fun x l => .ok (toPut i x) l
      else want cEq l1 fun l => (closedR f n l).bind fun x l => .ok (.setS t 0 0 x) l := hrun
    refine .inl ⟨_, rfl, ?_⟩
    refine H2.al fun k w3 H3 => ?_
    refine H3.sts0 1 (n := 3) (vs := (tkL t).toArray) rfl rfl rfl (by simpa using tkL_one _) fun w4 H4 => ?_
    refine H4.callq (is_any cLP (H4.nth 0 rfl)) fun w5 H5 => ?_
    refine ⟨_, rfl, ?_⟩
    refine Sx.split_of (fun h5 => ?_) (fun h5 => ?_)
    · rw [if_pos h5] at hrun
      refine ⟨_, rfl, H5.cells 1 rfl, ?_⟩
      refine (call_any I (H5.nth 0 rfl) hn h5 (fun e => hr (by rw [hrun, e]; rfl))).mono ?_
      intro e w6 he
      cases hc : callR f n t l1 with
      | out => rw [hc] at hrun; exact absurd hrun hr
      | err line en =>
        rw [hc] at he hrun
        obtain ⟨q, rfl, hp⟩ := he
        rw [show R0 = .err line en from hrun]
        exact .inr ⟨_, rfl, _, rfl, (H5.upd 0 rfl hp).post 0 rfl⟩
      | ok x l2 =>
        rw [hc] at he hrun
        obtain ⟨k2, B, rfl, hB, hp⟩ := he
        have H6 := St.open_ (L := [_, _]) (H5.upd 0 rfl hp)
        have hrun : R0 = want cSemi l2 fun l => .ok (.doS t.line x) l := hrun
        unfold want at hrun
        refine .inl ⟨_, rfl, ?_⟩
        cases h6 : is cSemi l2 with
        | false =>
          rw [h6] at hrun
          rw [show R0 = .err (now l2).line 8 from hrun]
          exact perr H6 0 rfl (want_no (s := cSemi) (H6.nth 0 rfl) h6)
        | true =>
          rw [h6] at hrun
          refine (want_yes (s := cSemi) (H6.nth 0 rfl) h6).mono ?_
          rintro _ w7 ⟨rfl, hp⟩
          have H7 := H6.upd 0 rfl hp
          refine .inl ⟨rfl, ?_⟩
          rintro _ rfl
          refine H7.al fun k3 w8 H8 => ?_
          rw [show R0 = .ok (.doS t.line x) l2.tail from hrun]
          have H9 := (St.shut (L := [_, _]) (L' := [_]) (H8.pick [3, 1, 0])).pick [1, 0]
          exact ⟨_, _, rfl, ⟨k3, k2, B, hB, rfl, rfl⟩, St.post (St.shut (L := [_, _]) (L' := []) H9) 0 rfl⟩
    · rw [if_neg (by rw [h5]; exact Bool.false_ne_true)] at hrun
      refine H5.callq (is_any cLB (H5.nth 0 rfl)) fun w6 H6 => ?_
      refine ⟨_, rfl, ?_⟩
      refine Sx.split_of (fun h6 => ?_) (fun h6 => ?_)
      · rw [if_pos h6] at hrun
        refine ⟨_, rfl, H6.cells 1 rfl, ?_⟩
        refine (index_any I0 (H6.nth 0 rfl) hn h6 (fun e => hr (by rw [hrun, e]; rfl))).mono ?_
        intro e w7 he
        cases hc : idxR f n t l1 with
        | out => rw [hc] at hrun; exact absurd hrun hr
        | err line en =>
          rw [hc] at he hrun
          obtain ⟨q, rfl, hp⟩ := he
          rw [show R0 = .err line en from hrun]
          exact .inr ⟨_, rfl, _, rfl, (H6.upd 0 rfl hp).post 0 rfl⟩
        | ok i l2 =>
          rw [hc] at he hrun
          obtain ⟨k2, B, rfl, hB, hp⟩ := he
          have H7 := St.open_ (L := [_, _]) (H6.upd 0 rfl hp)
          have hrun : R0 = want cEq l2 fun l => (closedR f n l).bind fun x l => .ok (toPut i x) l := hrun
          obtain ⟨p, rfl⟩ : ∃ p, i = .index t 0 0 p := by
            unfold idxR at hc
            obtain ⟨p, l3, -, h2⟩ := bind_ok hc
            obtain ⟨-, h3⟩ := want_ok h2
            cases h3
            exact ⟨p, rfl⟩
          unfold want at hrun
          refine .inl ⟨_, rfl, ?_⟩
          cases h7 : is cEq l2 with
          | false =>
            rw [h7] at hrun
            rw [show R0 = .err (now l2).line 8 from hrun]
            exact perr H7 0 rfl (want_no (s := cEq) (H7.nth 0 rfl) h7)
          | true =>
            rw [h7] at hrun
            refine (want_yes (s := cEq) (H7.nth 0 rfl) h7).mono ?_
            rintro _ w8 ⟨rfl, hp⟩
            have H8 := H7.upd 0 rfl hp
            refine .inl ⟨rfl, ?_⟩
            have hrun : R0 = (closedR f n l2.tail).bind fun x l => .ok (.putS t 0 0 p x) l := hrun
            refine (closed_any I0 (H8.nth 0 rfl) hn (fun e => hr (by rw [hrun, e]; rfl))).mono ?_
            intro e w9 he
            cases hd : closedR f n l2.tail with
            | out => rw [hd] at hrun; exact absurd hrun hr
            | err line en =>
              rw [hd] at he hrun
              obtain ⟨q, rfl, hp⟩ := he
              rw [show R0 = .err line en from hrun]
              exact .inr ⟨_, rfl, _, rfl, (H8.upd 0 rfl hp).post 0 rfl⟩
            | ok x l3 =>
              rw [hd] at he hrun
              obtain ⟨v, B2, rfl, hB2, hp⟩ := he
              have H9 := St.open_ (L := [_, _]) (H8.upd 0 rfl hp)
              refine .inl ⟨_, rfl, isP_one hB2 ?_⟩
              rintro _ rfl
              refine H9.al fun k4 w10 H10 => ?_
              rw [show R0 = .ok (.putS t 0 0 p x) l3 from hrun]
              obtain ⟨k', u, A1, hA1, hv, rfl⟩ := hB
              obtain rfl : k2 = k' := by
                simp only [List.cons.injEq, Value.iface.injEq, pt, Value.pointer.injEq, Option.some.injEq, Addr.mk.injEq] at hv
                exact hv.1.2.1
              have H11 := St.open_ (L := [_, _]) (H10.pick [2, 4, 1, 0])
              have H12 := (St.shut (L := [_, _, _, _]) (L' := [_]) (H11.pick [2, 0, 1, 3, 4])).pick [1, 0]
              exact ⟨_, _, rfl, ⟨k4, k2, u, v, A1, B2, hA1, hB2, rfl, rfl⟩, St.post (St.shut (L := [_, _]) (L' := []) H12) 0 rfl⟩
      · rw [if_neg (by rw [h6]; exact Bool.false_ne_true)] at hrun
        unfold want at hrun
        cases h7 : is cEq l1 with
        | false =>
          rw [h7] at hrun
          rw [show R0 = .err (now l1).line 8 from hrun]
          exact perr H6 0 rfl (want_no (s := cEq) (H6.nth 0 rfl) h7)
        | true =>
          rw [h7] at hrun
          refine (want_yes (s := cEq) (H6.nth 0 rfl) h7).mono ?_
          rintro _ w8 ⟨rfl, hp⟩
          have H8 := H6.upd 0 rfl hp
          refine .inl ⟨rfl, ?_⟩
          have hrun : R0 = (closedR f n l1.tail).bind fun x l => .ok (.setS t 0 0 x) l := hrun
          refine H8.dr fun w9 H9 => ?_
          refine ⟨_, rfl, H9.cells 1 rfl, _, rfl, H9.cells 1 rfl, rfl, ?_⟩
          rintro _ rfl
          refine ⟨?_, ?_⟩
          · refine H9.alb fun k5 w10 H10 _ hb10 => ?_
            refine ⟨hb10, ⟨_, rfl, H10.cells 1 rfl, rfl⟩, ?_⟩
            refine (closed_any I0 (H10.nth 0 rfl) hn (fun e => hr (by rw [hrun, e]; rfl))).mono ?_
            intro e w11 he
            cases hd : closedR f n l1.tail with
            | out => rw [hd] at hrun; exact absurd hrun hr
            | err line en =>
              rw [hd] at he hrun
              obtain ⟨q, rfl, hp⟩ := he
              rw [show R0 = .err line en from hrun]
              exact .inr ⟨_, rfl, _, rfl, (H10.upd 0 rfl hp).post 0 rfl⟩
            | ok x l3 =>
              rw [hd] at he hrun
              obtain ⟨v, B, rfl, hB, hp⟩ := he
              have H11 := St.open_ (L := [_, _]) (H10.upd 0 rfl hp)
              refine .inl ⟨_, rfl, ⟨_, rfl, H11.cells 2 rfl, rfl⟩, rfl, isP_one hB ?_⟩
              rintro _ rfl
              refine H11.al fun k6 w12 H12 => ?_
              rw [show R0 = .ok (.setS t 0 0 x) l3 from hrun]
              have H13 := (St.shut (L := [_, _, _]) (L' := [_]) (H12.pick [4, 3, 1, 0])).pick [1, 0]
              exact ⟨_, _, rfl, ⟨k6, k5, v, B, hB, rfl, rfl⟩, St.post (St.shut (L := [_, _]) (L' := []) H13) 0 rfl⟩
          · refine (closed_any I0 (H9.nth 0 rfl) hn (fun e => hr (by rw [hrun, e]; rfl))).mono ?_
            intro e w11 he
            cases hd : closedR f n l1.tail with
            | out => rw [hd] at hrun; exact absurd hrun hr
            | err line en =>
              rw [hd] at he hrun
              obtain ⟨q, rfl, hp⟩ := he
              rw [show R0 = .err line en from hrun]
              exact .inr ⟨_, rfl, _, rfl, (H9.upd 0 rfl hp).post 0 rfl⟩
            | ok x l3 =>
              rw [hd] at he hrun
              obtain ⟨v, B, rfl, hB, hp⟩ := he
              have H11 := St.open_ (L := [_, _]) (H9.upd 0 rfl hp)
              refine .inl ⟨_, rfl, ⟨_, rfl, H11.cells 2 rfl, rfl⟩, ⟨_, rfl, H11.cells 2 rfl, rfl⟩, ?_⟩
              refine H11.al fun k7 w12 H12 => ?_
              refine ⟨⟨_, rfl, H12.cells 2 rfl, rfl⟩, rfl, isP_one hB ?_⟩
              rintro _ rfl
              refine H12.al fun k6 w13 H13 => ?_
              rw [show R0 = .ok (.setS t 0 0 x) l3 from hrun]
              have H14 := (St.shut (L := [_, _, _]) (L' := [_]) (H13.pick [4, 3, 1, 0])).pick [1, 0]
              exact ⟨_, _, rfl, ⟨k6, k7, v, B, hB, rfl, rfl⟩, St.post (St.shut (L := [_, _]) (L' := []) H14) 0 rfl⟩
end Go.Proofs.YtojogkljneonmaaGreatDoor
