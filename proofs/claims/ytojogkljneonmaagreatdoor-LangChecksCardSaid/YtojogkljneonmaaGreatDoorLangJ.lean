import Derived.Test.YtojogkljneonmaaGreatDoorLangE
/- The parser's primary expressions. No condition. -/
namespace Go.Proofs.YtojogkljneonmaaGreatDoor
open Go Go.Proofs Go.Sep Go.XHeap Go.RowKit Go.Lang
set_option linter.unusedVariables false
set_option linter.unusedSimpArgs false

variable {W : World} {b g n : Nat} {l : List Tok}
theorem number_bind {β : Type} (l : List Tok) (k : Int → List Tok → R β) : number l k = (number l fun v l => R.ok v l).bind k := by
  unfold number
  split
  · rfl
  · split <;> rfl
theorem name_bind {β : Type} (l : List Tok) (k : Tok → List Tok → R β) : name l k = (name l fun v l => R.ok v l).bind k := by
  unfold name
  split
  · rfl
  · split <;> rfl
theorem prim_step [Inhabited G3o] {f : Nat} (I : ∀ f' ≤ f, Ih f') (h : (parA b g l n).at_ W) (hn : n ≤ 24) (hr : run (f + 1) .prim n l ≠ .out) : Calls Tryz.prog 172 #[pt b] W (Ans (parW b) (parA b g l n) W (run (f + 1) .prim n l) (TreeK b g n W (parA b g l n))) := by
  refine vc172 b 0 ?_
  generalize hR : run (f + 1) .prim n l = R0 at *
  have hrun := hR.symm
  unfold run at hrun
  refine (St.begin h).callq (now_any h) fun w2 H2 => ?_
  refine ⟨_, rfl, _, rfl, ?_⟩
  refine Sx.split_of (fun h3 => ?_) (fun h3 => ?_)
  · have hk : (now l).k = 2 := by have := beq_iff_eq.1 h3; omega
    rw [if_pos hk, number_bind] at hrun
    refine (number_any (H2.nth 0 rfl)).mono ?_
    intro e w3 he
    cases hb : (number l fun v l => R.ok v l) with
    | out => rw [hb] at hrun; exact absurd hrun hr
    | err line en =>
      rw [hb] at he hrun
      obtain ⟨q, rfl, hp⟩ := he
      rw [show R0 = .err line en from hrun]
      exact .inr ⟨_, rfl, _, rfl, (H2.upd 0 rfl hp).post 0 rfl⟩
    | ok v l1 =>
      rw [hb] at he hrun
      obtain ⟨rfl, hp⟩ := he
      rw [show R0 = .ok (.num v (now l).line) l1 from hrun]
      have H3 := (H2.upd 0 rfl hp).add (A := emp) ⟨trivial, XTouch.refl _ _, fun q hq => hq.elim⟩
      exact .inl ⟨_, rfl, _, _, rfl, ⟨rfl, rfl⟩, St.post (St.shut (L := [_, _]) (L' := []) H3) 0 rfl⟩
  · have hk : ¬ (now l).k = 2 := fun e => by rw [e] at h3; cases h3
    rw [if_neg hk] at hrun
    refine (take_any cLP (H2.nth 0 rfl)).mono ?_
    rintro _ w3 ⟨rfl, hp⟩
    have H3 := H2.upd 0 rfl hp
    refine ⟨_, rfl, ?_⟩
    refine Sx.split_of (fun h4 => ?_) (fun h4 => ?_)
    · rw [if_pos h4] at hrun H3
      refine ((I f (Nat.le_refl _)).expr (H3.nth 0 rfl) hn (fun e => hr (by rw [hrun, e]; rfl))).mono ?_
      intro e w5 he
      cases hb : run f .expr n l.tail with
      | out => rw [hb] at hrun; exact absurd hrun hr
      | err line en =>
        rw [hb] at he hrun
        obtain ⟨q, rfl, hp⟩ := he
        rw [show R0 = .err line en from hrun]
        exact .inr ⟨_, rfl, _, rfl, (H3.upd 0 rfl hp).post 0 rfl⟩
      | ok x l1 =>
        rw [hb] at he hrun
        obtain ⟨v, B, rfl, hB, hp⟩ := he
        have H5 := St.open_ (L := [_, _]) (H3.upd 0 rfl hp)
        refine .inl ⟨_, rfl, ?_⟩
        have hrun : R0 = want cRP l1 fun l => .ok x l := hrun
        unfold want at hrun
        cases h5 : is cRP l1 with
        | false =>
          rw [h5] at hrun
          rw [show R0 = .err (now l1).line 8 from hrun]
          exact perr H5 0 rfl (want_no (s := cRP) (H5.nth 0 rfl) h5)
        | true =>
          rw [h5] at hrun
          refine (want_yes (s := cRP) (H5.nth 0 rfl) h5).mono ?_
          rintro _ w7 ⟨rfl, hp⟩
          have H7 := H5.upd 0 rfl hp
          rw [show R0 = .ok x l1.tail from hrun]
          exact .inl ⟨rfl, _, _, rfl, hB, St.post (St.shut (L := [_, _]) (L' := []) H7) 0 rfl⟩
    · have h4' : ¬ is cLP l = true := by rw [h4]; exact Bool.false_ne_true
      rw [if_neg h4'] at hrun H3
      rw [name_bind] at hrun
      refine (name_any (H3.nth 0 rfl)).mono ?_
      intro e w4 he
      cases hb : (name l fun t l => R.ok t l) with
      | out => rw [hb] at hrun; exact absurd hrun hr
      | err line en =>
        rw [hb] at he hrun
        obtain ⟨q, rfl, hp⟩ := he
        rw [show R0 = .err line en from hrun]
        exact .inr ⟨_, rfl, _, rfl, (H3.upd 0 rfl hp).post 0 rfl⟩
      | ok t l1 =>
        rw [hb] at he hrun
        obtain ⟨rfl, hp⟩ := he
        have H4 := H3.upd 0 rfl hp
        have hrun : R0 = if is cLP l1 then callR f n t l1 else if is cLB l1 then idxR f n t l1 else .ok (.name t 0 0) l1 := hrun
        refine .inl ⟨_, rfl, ?_⟩
        refine H4.al fun k w5 H5 => ?_
        refine H5.sts0 1 (n := 3) (vs := (tkL t).toArray) rfl rfl rfl (by simpa using tkL_one _) fun w6 H6 => ?_
        refine H6.callq (is_any cLP (H6.nth 0 rfl)) fun w7 H7 => ?_
        refine ⟨_, rfl, ?_⟩
        refine Sx.split_of (fun h5 => ?_) (fun h5 => ?_)
        · rw [if_pos h5] at hrun
          refine ⟨_, rfl, H7.cells 1 rfl, ?_⟩
          rw [hrun] at hr ⊢
          refine (call_any I (H7.nth 0 rfl) hn h5 hr).mono ?_
          intro e w8 he
          cases hc : callR f n t l1 with
          | out => exact absurd hc hr
          | err line en =>
            rw [hc] at he
            obtain ⟨q, rfl, hp⟩ := he
            exact .inr ⟨_, rfl, _, rfl, (H7.upd 0 rfl hp).post 0 rfl⟩
          | ok x l2 =>
            rw [hc] at he
            obtain ⟨k, B, rfl, hB, hp⟩ := he
            exact .inl ⟨_, rfl, _, _, rfl, hB, (H7.upd 0 rfl hp).post 0 rfl⟩
        · rw [if_neg (by rw [h5]; exact Bool.false_ne_true)] at hrun
          refine H7.callq (is_any cLB (H7.nth 0 rfl)) fun w8 H8 => ?_
          refine ⟨_, rfl, ?_⟩
          refine Sx.split_of (fun h6 => ?_) (fun h6 => ?_)
          · rw [if_pos h6] at hrun
            refine ⟨_, rfl, H8.cells 1 rfl, ?_⟩
            rw [hrun] at hr ⊢
            refine (index_any (I f (Nat.le_refl _)) (H8.nth 0 rfl) hn h6 hr).mono ?_
            intro e w9 he
            cases hc : idxR f n t l1 with
            | out => exact absurd hc hr
            | err line en =>
              rw [hc] at he
              obtain ⟨q, rfl, hp⟩ := he
              exact .inr ⟨_, rfl, _, rfl, (H8.upd 0 rfl hp).post 0 rfl⟩
            | ok x l2 =>
              rw [hc] at he
              obtain ⟨k, B, rfl, hB, hp⟩ := he
              exact .inl ⟨_, rfl, _, _, rfl, hB, (H8.upd 0 rfl hp).post 0 rfl⟩
          · rw [if_neg (by rw [h6]; exact Bool.false_ne_true)] at hrun
            refine ⟨_, rfl, H8.cells 1 rfl, rfl, ?_⟩
            rintro _ rfl
            refine H8.al fun k3 w9 H9 => ?_
            rw [hrun]
            exact ⟨_, _, rfl, ⟨k3, rfl, rfl⟩, St.post (St.shut (L := [_, _]) (L' := []) (H9.pick [0, 2])) 0 rfl⟩
end Go.Proofs.YtojogkljneonmaaGreatDoor
/- The parser's statements. No condition. -/
namespace Go.Proofs.YtojogkljneonmaaGreatDoor
open Go Go.Proofs Go.Sep Go.XHeap Go.RowKit Go.Lang
set_option linter.unusedVariables false
set_option linter.unusedSimpArgs false

variable {W : World} {b g n : Nat} {l : List Tok}
def closedR (f n : Nat) (l : List Tok) : R T := (run f .expr n l).bind fun x l => want cSemi l fun l => .ok x l
theorem want_bind {β : Type} (s : ByteArray) (l : List Tok) (k : List Tok → R β) : want s l k = (want s l fun l => R.ok () l).bind fun _ l => k l := by
  unfold want
  split <;> rfl
theorem closed_bind {f n : Nat} {l : List Tok} {β : Type} (k : T → List Tok → R β) : ((run f .expr n l).bind fun x l => want cSemi l fun l => k x l) = (closedR f n l).bind k := by
  unfold closedR
  cases run f .expr n l with
  | ok x l1 => show want cSemi l1 _ = (want cSemi l1 _).bind k; unfold want; split <;> rfl
  | err => rfl
  | out => rfl
theorem closed_any [Inhabited G3o] {f : Nat} (I : Ih f) (h : (parA b g l n).at_ W) (hn : n ≤ 24) (hr : closedR f n l ≠ .out) : Calls Tryz.prog 112 #[pt b] W (Ans (parW b) (parA b g l n) W (closedR f n l) (TreeK b g n W (parA b g l n))) := by
  refine vc112 b 0 ?_
  have H := St.begin h
  generalize hR : closedR f n l = R0 at *
  have hrun : R0 = (run f .expr n l).bind fun x l => want cSemi l fun l => .ok x l := hR.symm
  refine (I.expr h hn (fun e => hr (by rw [hrun, e]; rfl))).mono ?_
  intro e w5 he
  cases hb : run f .expr n l with
  | out => rw [hb] at hrun; exact absurd hrun hr
  | err line en =>
    rw [hb] at he hrun
    obtain ⟨q, rfl, hp⟩ := he
    rw [show R0 = .err line en from hrun]
    exact .inr ⟨_, rfl, _, rfl, (H.upd 0 rfl hp).post 0 rfl⟩
  | ok x l1 =>
    rw [hb] at he hrun
    obtain ⟨v, B, rfl, hB, hp⟩ := he
    have H5 := St.open_ (L := [_, _]) (H.upd 0 rfl hp)
    refine .inl ⟨_, rfl, ?_⟩
    have hrun : R0 = want cSemi l1 fun l => .ok x l := hrun
    unfold want at hrun
    cases h5 : is cSemi l1 with
    | false =>
      rw [h5] at hrun
      rw [show R0 = .err (now l1).line 8 from hrun]
      exact perr H5 0 rfl (want_no (s := cSemi) (H5.nth 0 rfl) h5)
    | true =>
      rw [h5] at hrun
      refine (want_yes (s := cSemi) (H5.nth 0 rfl) h5).mono ?_
      rintro _ w7 ⟨rfl, hp⟩
      have H7 := H5.upd 0 rfl hp
      rw [show R0 = .ok x l1.tail from hrun]
      exact .inl ⟨rfl, _, _, rfl, hB, St.post (St.shut (L := [_, _]) (L' := []) H7) 0 rfl⟩
/-! ### statements that begin with a name -/
def toPut (i x : T) : T := match i with | .index t w z p => .putS t w z p x | _ => .nil
def plainR (f n : Nat) (l : List Tok) : R T := (name l fun t l => R.ok t l).bind fun t l =>
  if is cLP l then (callR f n t l).bind fun c l => want cSemi l fun l => .ok (.doS t.line c) l
  else if is cLB l then (idxR f n t l).bind fun i l => want cEq l fun l => (closedR f n l).bind fun x l => .ok (toPut i x) l
  else want cEq l fun l => (closedR f n l).bind fun x l => .ok (.setS t 0 0 x) l
theorem plain_eq [Inhabited G3o] {f n : Nat} {l : List Tok} (hk : (now l).k = 1) : run (f + 1) .stmt n l = plainR f n l := by
  rw [run, if_pos hk, name_bind]
  unfold plainR
  congr 1
  funext t l
  split
  · unfold callR
    cases run f .args n l.tail <;> rfl
  · split
    · unfold idxR
      cases run f .expr n l.tail with
      | ok p l1 =>
        simp only [R.bind]
        cases h1 : is cRB l1 with
        | false => simp only [want, h1, Bool.false_eq_true, if_false]
        | true =>
          simp only [want, h1, if_true]
          cases h2 : is cEq l1.tail with
          | false => simp only [h2, Bool.false_eq_true, if_false]
          | true =>
            simp only [h2, if_true]
            exact closed_bind (k := fun x l => R.ok (T.putS t 0 0 p x) l)
      | err => rfl
      | out => rfl
    · congr 1
      funext l
      exact closed_bind (k := fun x l => R.ok (T.setS t 0 0 x) l)
theorem plain_any [Inhabited G3o] {f : Nat} (I : ∀ f' ≤ f, Ih f') (h : (parA b g l n).at_ W) (hn : n ≤ 24) (hr : plainR f n l ≠ .out) : Calls Tryz.prog 111 #[pt b] W (Ans (parW b) (parA b g l n) W (plainR f n l) (TreeK b g n W (parA b g l n))) := by
  refine vc111 b 0 ?_
  have H := St.begin h
  have I0 := I f (Nat.le_refl _)
  generalize hR : plainR f n l = R0 at *
  have hrun := hR.symm
  unfold plainR at hrun
  refine (name_any h).mono ?_
  intro e w2 he
  cases hb : (name l fun t l => R.ok t l) with
  | out => rw [hb] at hrun; exact absurd hrun hr
  | err line en =>
    rw [hb] at he hrun
    obtain ⟨q, rfl, hp⟩ := he
    rw [show R0 = .err line en from hrun]
    exact .inr ⟨_, rfl, _, rfl, (H.upd 0 rfl hp).post 0 rfl⟩
  | ok t l1 =>
    rw [hb] at he hrun
    obtain ⟨rfl, hp⟩ := he
    have H2 := H.upd 0 rfl hp
    have hrun : R0 = if is cLP l1 then (callR f n t l1).bind fun c l => want cSemi l fun l => .ok (.doS t.line c) l
      else if is cLB l1 then (idxR f n t l1).bind fun i l => want cEq l fun l => (closedR f n l).bind fun x l => .ok (toPut i x) l
      else want cEq l1 fun l => (closedR f n l).bind fun x l => .ok (.setS t 0 0 x) l := hrun
    refine .inl ⟨_, rfl, ?_⟩
    refine H2.al fun k w3 H3 => ?_
    refine H3.sts0 1 (n := 3) (vs := (tkL t).toArray) rfl rfl rfl (by simpa using tkL_one _) fun w4 H4 => ?_
    refine H4.callq (is_any cLP (H4.nth 0 rfl)) fun w5 H5 => ?_
    refine ⟨_, rfl, ?_⟩
    refine Sx.split_of (fun h5 => ?_) (fun h5 => ?_)
    · rw [if_pos h5] at hrun
      refine ⟨_, rfl, H5.cells 1 rfl, ?_⟩
      refine (call_any I (H5.nth 0 rfl) hn h5 (fun e => hr (by rw [hrun, e]; rfl))).mono ?_
      intro e w6 he
      cases hc : callR f n t l1 with
      | out => rw [hc] at hrun; exact absurd hrun hr
      | err line en =>
        rw [hc] at he hrun
        obtain ⟨q, rfl, hp⟩ := he
        rw [show R0 = .err line en from hrun]
        exact .inr ⟨_, rfl, _, rfl, (H5.upd 0 rfl hp).post 0 rfl⟩
      | ok x l2 =>
        rw [hc] at he hrun
        obtain ⟨k2, B, rfl, hB, hp⟩ := he
        have H6 := St.open_ (L := [_, _]) (H5.upd 0 rfl hp)
        have hrun : R0 = want cSemi l2 fun l => .ok (.doS t.line x) l := hrun
        unfold want at hrun
        refine .inl ⟨_, rfl, ?_⟩
        cases h6 : is cSemi l2 with
        | false =>
          rw [h6] at hrun
          rw [show R0 = .err (now l2).line 8 from hrun]
          exact perr H6 0 rfl (want_no (s := cSemi) (H6.nth 0 rfl) h6)
        | true =>
          rw [h6] at hrun
          refine (want_yes (s := cSemi) (H6.nth 0 rfl) h6).mono ?_
          rintro _ w7 ⟨rfl, hp⟩
          have H7 := H6.upd 0 rfl hp
          refine .inl ⟨rfl, ?_⟩
          rintro _ rfl
          refine H7.al fun k3 w8 H8 => ?_
          rw [show R0 = .ok (.doS t.line x) l2.tail from hrun]
          have H9 := (St.shut (L := [_, _]) (L' := [_]) (H8.pick [3, 1, 0])).pick [1, 0]
          exact ⟨_, _, rfl, ⟨k3, k2, B, hB, rfl, rfl⟩, St.post (St.shut (L := [_, _]) (L' := []) H9) 0 rfl⟩
    · rw [if_neg (by rw [h5]; exact Bool.false_ne_true)] at hrun
      refine H5.callq (is_any cLB (H5.nth 0 rfl)) fun w6 H6 => ?_
      refine ⟨_, rfl, ?_⟩
      refine Sx.split_of (fun h6 => ?_) (fun h6 => ?_)
      · rw [if_pos h6] at hrun
        refine ⟨_, rfl, H6.cells 1 rfl, ?_⟩
        refine (index_any I0 (H6.nth 0 rfl) hn h6 (fun e => hr (by rw [hrun, e]; rfl))).mono ?_
        intro e w7 he
        cases hc : idxR f n t l1 with
        | out => rw [hc] at hrun; exact absurd hrun hr
        | err line en =>
          rw [hc] at he hrun
          obtain ⟨q, rfl, hp⟩ := he
          rw [show R0 = .err line en from hrun]
          exact .inr ⟨_, rfl, _, rfl, (H6.upd 0 rfl hp).post 0 rfl⟩
        | ok i l2 =>
          rw [hc] at he hrun
          obtain ⟨k2, B, rfl, hB, hp⟩ := he
          have H7 := St.open_ (L := [_, _]) (H6.upd 0 rfl hp)
          have hrun : R0 = want cEq l2 fun l => (closedR f n l).bind fun x l => .ok (toPut i x) l := hrun
          obtain ⟨p, rfl⟩ : ∃ p, i = .index t 0 0 p := by
            unfold idxR at hc
            obtain ⟨p, l3, -, h2⟩ := bind_ok hc
            obtain ⟨-, h3⟩ := want_ok h2
            cases h3
            exact ⟨p, rfl⟩
          unfold want at hrun
          refine .inl ⟨_, rfl, ?_⟩
          cases h7 : is cEq l2 with
          | false =>
            rw [h7] at hrun
            rw [show R0 = .err (now l2).line 8 from hrun]
            exact perr H7 0 rfl (want_no (s := cEq) (H7.nth 0 rfl) h7)
          | true =>
            rw [h7] at hrun
            refine (want_yes (s := cEq) (H7.nth 0 rfl) h7).mono ?_
            rintro _ w8 ⟨rfl, hp⟩
            have H8 := H7.upd 0 rfl hp
            refine .inl ⟨rfl, ?_⟩
            have hrun : R0 = (closedR f n l2.tail).bind fun x l => .ok (.putS t 0 0 p x) l := hrun
            refine (closed_any I0 (H8.nth 0 rfl) hn (fun e => hr (by rw [hrun, e]; rfl))).mono ?_
            intro e w9 he
            cases hd : closedR f n l2.tail with
            | out => rw [hd] at hrun; exact absurd hrun hr
            | err line en =>
              rw [hd] at he hrun
              obtain ⟨q, rfl, hp⟩ := he
              rw [show R0 = .err line en from hrun]
              exact .inr ⟨_, rfl, _, rfl, (H8.upd 0 rfl hp).post 0 rfl⟩
            | ok x l3 =>
              rw [hd] at he hrun
              obtain ⟨v, B2, rfl, hB2, hp⟩ := he
              have H9 := St.open_ (L := [_, _]) (H8.upd 0 rfl hp)
              refine .inl ⟨_, rfl, isP_one hB2 ?_⟩
              rintro _ rfl
              refine H9.al fun k4 w10 H10 => ?_
              rw [show R0 = .ok (.putS t 0 0 p x) l3 from hrun]
              obtain ⟨k', u, A1, hA1, hv, rfl⟩ := hB
              obtain rfl : k2 = k' := by
                simp only [List.cons.injEq, Value.iface.injEq, pt, Value.pointer.injEq, Option.some.injEq, Addr.mk.injEq] at hv
                exact hv.1.2.1
              have H11 := St.open_ (L := [_, _]) (H10.pick [2, 4, 1, 0])
              have H12 := (St.shut (L := [_, _, _, _]) (L' := [_]) (H11.pick [2, 0, 1, 3, 4])).pick [1, 0]
              exact ⟨_, _, rfl, ⟨k4, k2, u, v, A1, B2, hA1, hB2, rfl, rfl⟩, St.post (St.shut (L := [_, _]) (L' := []) H12) 0 rfl⟩
      · rw [if_neg (by rw [h6]; exact Bool.false_ne_true)] at hrun
        unfold want at hrun
        cases h7 : is cEq l1 with
        | false =>
          rw [h7] at hrun
          rw [show R0 = .err (now l1).line 8 from hrun]
          exact perr H6 0 rfl (want_no (s := cEq) (H6.nth 0 rfl) h7)
        | true =>
          rw [h7] at hrun
          refine (want_yes (s := cEq) (H6.nth 0 rfl) h7).mono ?_
          rintro _ w8 ⟨rfl, hp⟩
          have H8 := H6.upd 0 rfl hp
          refine .inl ⟨rfl, ?_⟩
          have hrun : R0 = (closedR f n l1.tail).bind fun x l => .ok (.setS t 0 0 x) l := hrun
          refine H8.dr fun w9 H9 => ?_
          refine ⟨_, rfl, H9.cells 1 rfl, _, rfl, H9.cells 1 rfl, rfl, ?_⟩
          rintro _ rfl
          refine ⟨?_, ?_⟩
          · refine H9.alb fun k5 w10 H10 _ hb10 => ?_
            refine ⟨hb10, ⟨_, rfl, H10.cells 1 rfl, rfl⟩, ?_⟩
            refine (closed_any I0 (H10.nth 0 rfl) hn (fun e => hr (by rw [hrun, e]; rfl))).mono ?_
            intro e w11 he
            cases hd : closedR f n l1.tail with
            | out => rw [hd] at hrun; exact absurd hrun hr
            | err line en =>
              rw [hd] at he hrun
              obtain ⟨q, rfl, hp⟩ := he
              rw [show R0 = .err line en from hrun]
              exact .inr ⟨_, rfl, _, rfl, (H10.upd 0 rfl hp).post 0 rfl⟩
            | ok x l3 =>
              rw [hd] at he hrun
              obtain ⟨v, B, rfl, hB, hp⟩ := he
              have H11 := St.open_ (L := [_, _]) (H10.upd 0 rfl hp)
              refine .inl ⟨_, rfl, ⟨_, rfl, H11.cells 2 rfl, rfl⟩, rfl, isP_one hB ?_⟩
              rintro _ rfl
              refine H11.al fun k6 w12 H12 => ?_
              rw [show R0 = .ok (.setS t 0 0 x) l3 from hrun]
              have H13 := (St.shut (L := [_, _, _]) (L' := [_]) (H12.pick [4, 3, 1, 0])).pick [1, 0]
              exact ⟨_, _, rfl, ⟨k6, k5, v, B, hB, rfl, rfl⟩, St.post (St.shut (L := [_, _]) (L' := []) H13) 0 rfl⟩
          · refine (closed_any I0 (H9.nth 0 rfl) hn (fun e => hr (by rw [hrun, e]; rfl))).mono ?_
            intro e w11 he
            cases hd : closedR f n l1.tail with
            | out => rw [hd] at hrun; exact absurd hrun hr
            | err line en =>
              rw [hd] at he hrun
              obtain ⟨q, rfl, hp⟩ := he
              rw [show R0 = .err line en from hrun]
              exact .inr ⟨_, rfl, _, rfl, (H9.upd 0 rfl hp).post 0 rfl⟩
            | ok x l3 =>
              rw [hd] at he hrun
              obtain ⟨v, B, rfl, hB, hp⟩ := he
              have H11 := St.open_ (L := [_, _]) (H9.upd 0 rfl hp)
              refine .inl ⟨_, rfl, ⟨_, rfl, H11.cells 2 rfl, rfl⟩, ⟨_, rfl, H11.cells 2 rfl, rfl⟩, ?_⟩
              refine H11.al fun k7 w12 H12 => ?_
              refine ⟨⟨_, rfl, H12.cells 2 rfl, rfl⟩, rfl, isP_one hB ?_⟩
              rintro _ rfl
              refine H12.al fun k6 w13 H13 => ?_
              rw [show R0 = .ok (.setS t 0 0 x) l3 from hrun]
              have H14 := (St.shut (L := [_, _, _]) (L' := [_]) (H13.pick [4, 3, 1, 0])).pick [1, 0]
              exact ⟨_, _, rfl, ⟨k6, k7, v, B, hB, rfl, rfl⟩, St.post (St.shut (L := [_, _]) (L' := []) H14) 0 rfl⟩
end Go.Proofs.YtojogkljneonmaaGreatDoor
/- The parser's blocks and statements; all of it by induction. No condition. -/
namespace Go.Proofs.YtojogkljneonmaaGreatDoor
open Go Go.Proofs Go.Sep Go.XHeap Go.RowKit Go.Lang
set_option linter.unusedVariables false
set_option linter.unusedSimpArgs false

variable {W : World} {b g n : Nat} {l : List Tok}
def blkR (f n : Nat) (line : Int) (l : List Tok) : R T := want cLC l fun l' => (run f .stmts n l').bind fun xs l'' => .ok (.block line xs) l''
theorem block1_any [Inhabited G3o] {f kp : Nat} {line : Int} (I : ∀ f' ≤ f, Ih f') (h : (all [parA b g l n, blk kp #[pt b] 80]).at_ W) (hn : n ≤ 24) (hr : blkR f n line l ≠ .out) :
    Calls Tryz.prog 94 #[pt kp] W (Ans (parW b) (all [parA b g l n, blk kp #[pt b] 80]) W (blkR f n line l) fun x l' e w' => ∃ k B, e = .returned (pt k) ∧ isP x [.iface 113 (pt k)] B ∧ Post (all [parA b g l n, blk kp #[pt b] 80]) W (all [parA b g l' n, blk kp #[pt b] 80, B]) w') := by
  refine vc94 kp 0 ?_
  have H := St.open_ (L' := []) (St.begin h)
  generalize hR : blkR f n line l = R0 at *
  have hrun := hR.symm
  unfold blkR at hrun
  rintro _ rfl
  refine H.al fun k w2 H2 => ?_
  refine ⟨_, H2.ld 1 rfl (i := 0) rfl, ?_⟩
  obtain ⟨hG, -⟩ := par_good (H2.nth 0 rfl)
  unfold want at hrun
  cases h5 : is cLC l with
  | false =>
    rw [h5] at hrun
    rw [show R0 = .err (now l).line 8 from hrun]
    exact perr H2 0 rfl (want_no (s := cLC) (H2.nth 0 rfl) h5)
  | true =>
    rw [h5] at hrun
    refine (want_yes (s := cLC) (H2.nth 0 rfl) h5).mono ?_
    rintro _ w3 ⟨rfl, hp⟩
    have H3 := H2.upd 0 rfl hp
    refine .inl ⟨rfl, ?_⟩
    have hrun : R0 = (run f .stmts n l.tail).bind fun xs l'' => .ok (.block line xs) l'' := hrun
    have hlen0 : l.length ≤ 8001 := hG.2.2.2
    have htl := tail_le l
    refine ⟨fun w => ∃ ts us As p c l1 f', isP (ofTs ts .nil) us (all As) ∧ St W (all [parA b g l n, blk kp #[pt b] 80]).own w [parA b g l1 n, blk kp #[pt b] 80, blk k #[.slice p us.length c] 164, sl 161 1 (.slice p us.length c) us.length us, all As] ∧ us.length + l1.length ≤ 8001 ∧ f' ≤ f ∧ R0 = (run f' .stmts n l1).bind fun xs l' => .ok (.block line (ofTs ts xs)) l', fun w => lenAt b w, ?_, fun _ => ?_⟩
    · have H4 := (H3.add (A := sl 161 1 (.slice none 0 0) 0 []) ⟨Sl.nil _ _ _, XTouch.refl _ _, fun q hq => by cases hq⟩).add (A := all []) ⟨trivial, XTouch.refl _ _, fun q hq => hq.elim⟩
      exact ⟨[], [], [], none, 0, l.tail, f, ⟨rfl, rfl⟩, H4, by simp only [List.length_nil]; omega, Nat.le_refl _, hrun⟩
    · clear hrun H3 hp
      rintro w4 ⟨ts, us, As, p, c, l1, f', hT, H4, hlen, hf, hm⟩
      refine ⟨_, H4.ld 1 rfl (i := 0) rfl, ?_⟩
      refine (take_any cRC (H4.nth 0 rfl)).mono ?_
      rintro _ w5 ⟨rfl, hp⟩
      have H5 := H4.upd 0 rfl hp
      refine ⟨_, rfl, ?_⟩
      match f', hf, hm with
      | 0, _, hm => exact absurd hm hr
      | f' + 1, hf, hm =>
      unfold run at hm
      refine Sx.split_of (fun h6 => ?_) (fun h6 => ?_)
      · have h6 : is cRC l1 = false := by simpa using h6
        rw [h6] at hm
        rw [if_neg (by rw [h6]; exact Bool.false_ne_true)] at H5
        have hm : R0 = ((run f' .stmt n l1).bind fun x l => (run f' .stmts n l).bind fun xs l => .ok (.cons x xs) l).bind fun xs l' => .ok (.block line (ofTs ts xs)) l' := hm
        refine H5.dr fun w6 H6 => ?_
        refine ⟨_, H6.ld 1 rfl (i := 0) rfl, p, us.length, c, H6.ld 2 rfl (i := 0) rfl, ?_⟩
        refine ((I f' (by omega)).stmt (H6.nth 0 rfl) hn (fun e => hr (by rw [hm, e]; rfl))).mono ?_
        intro e w7 he
        cases hb : run f' .stmt n l1 with
        | out => rw [hb] at hm; exact absurd hm hr
        | err line en =>
          rw [hb] at he hm
          obtain ⟨q, rfl, hp⟩ := he
          rw [show R0 = .err line en from hm]
          exact .inr ⟨_, rfl, _, rfl, (H6.upd 0 rfl hp).post 0 rfl⟩
        | ok x l2 =>
          rw [hb] at he hm
          obtain ⟨v, B, rfl, hB, hp⟩ := he
          have hlt := (run_le _ _ _ _ _ _ hb).2 rfl
          have H7 := St.open_ (L := [_, _]) (H6.upd 0 rfl hp)
          refine .inl ⟨_, rfl, ⟨p, _, c, H7.ld 3 rfl (i := 0) rfl, rfl⟩, isP_one hB ?_⟩
          refine H7.al fun k6 w8 H8 => ?_
          refine ⟨⟨p, _, c, H8.ld 3 rfl (i := 0) rfl, rfl⟩, ?_⟩
          refine H8.app 4 rfl [v] (.inr ⟨_, rfl, fun j u hj => ?_⟩) rfl (by simpa using isP_cell hB) (by show us.length + 1 ≤ maxLen; unfold maxLen; omega) (by omega) fun p' c' w9 H9 => ?_
          · match j, hj with
            | 0, hj => cases hj; exact H8.ld 6 rfl (i := 0) rfl
          · refine H9.st 3 rfl (i := 0) (by simp) fun w10 H10 => ?_
            obtain ⟨As', h1, h2⟩ := isP_snoc hB hT
            have H11 := H10.pick [5, 1, 0, 2, 3, 4]
            have H12 := (h2 _ _ _ _ H11).pick [1, 2, 3, 4, 0]
            have e1 : (us ++ [v]).length = us.length + 1 := by simp
            have H13 : St W (all [parA b g l n, blk kp #[pt b] 80]).own w10 [parA b g l2 n, blk kp #[pt b] 80, blk k #[.slice p' (us ++ [v]).length c'] 164, sl 161 1 (.slice p' (us ++ [v]).length c') (us ++ [v]).length (us ++ [v]), all As'] := by
              rw [e1]; exact H12
            refine ⟨⟨ts ++ [x], us ++ [v], As', p', c', l2, f', h1, H13, by rw [e1]; omega, by omega, ?_⟩, ?_⟩
            · rw [show R0 = ((run f' .stmts n l2).bind fun xs l => .ok (.cons x xs) l).bind fun xs l' => .ok (.block line (ofTs ts xs)) l' from hm]
              cases run f' .stmts n l2 with
              | ok xs l' => show R.ok _ _ = R.ok _ _; rw [ofTs_snoc]
              | err => rfl
              | out => rfl
            · show lenAt b w10 < lenAt b w4
              rw [lenAt_par (H13.nth 0 rfl), lenAt_par (H4.nth 0 rfl)]
              omega
      · have h6 : is cRC l1 = true := by simpa using h6
        rw [h6] at hm
        rw [if_pos h6] at H5
        rw [show R0 = .ok (.block line (ofTs ts .nil)) l1.tail from hm]
        have H6 := (St.shut (L := [_, _, _]) (L' := [_, _]) (H5.pick [2, 3, 4, 0, 1])).pick [1, 2, 0]
        exact ⟨k, _, rfl, ⟨k, p, c, us, _, hT, rfl, rfl⟩, St.post (St.shut (L := [_, _, _]) (L' := []) H6) 0 rfl⟩
theorem within_b [Inhabited G3o] {f k : Nat} (I : ∀ f' ≤ f, Ih f') (h : (all [parA b g l n, blk k #[pt b] 80]).at_ W) (hn : n ≤ 24) (hr : run (f + 1) .blk n l ≠ .out) :
    Calls Tryz.prog 93 #[pt b, .func (.func 94) #[] #[pt k]] W (Ans (parW b) (all [parA b g l n, blk k #[pt b] 80]) W (run (f + 1) .blk n l) (PtK 113 b g n W (all [parA b g l n, blk k #[pt b] 80]))) := by
  refine vc93 b 0 k ?_
  have H := St.open_ (L' := []) (St.begin h)
  refine H.al fun k1 w2 H2 => ?_
  obtain ⟨hG, -, off, c, H2⟩ := par_open H2
  refine ⟨_, H2.ld 4 rfl (i := 0) rfl, ptr_some ⟨_, H2.ld 0 rfl (i := 1) rfl, ?_⟩⟩
  rintro z rfl
  rw [wrap_nest hn]
  refine ptr_some (H2.st 0 rfl (i := 1) (by simp) fun w3 H3 => ?_)
  have H3 : St W _ w3 (parL b g off c l (n + 1) ++ [blk k #[pt b] 80, blk k1 #[pt b] 80]) := H3
  refine ⟨_, H3.ld 4 rfl (i := 0) rfl, ptr_some ⟨_, H3.ld 0 rfl (i := 1) rfl, ?_⟩⟩
  have H4 := par_shut hG (by omega) H3
  refine Sx.split_of (fun h4 => ?_) (fun h4 => ?_)
  · have h4 := of_decide_eq_true h4
    refine ⟨_, H4.ld 2 rfl (i := 0) rfl, ?_⟩
    rw [show run (f + 1) .blk n l = .err (now l).line 3 by unfold run; rw [if_pos (by omega)]]
    exact perr' H4 0 rfl (pfail_any 3 (H4.nth 0 rfl))
  · have h4 := of_decide_eq_false h4
    have hrun : run (f + 1) .blk n l = blkR f (n + 1) (now l).line l := by
      rw [run, if_neg (by omega)]; rfl
    rw [hrun] at hr ⊢
    have H4 := St.shut (L := [_, _]) (L' := [_]) H4
    refine (block1_any I (H4.nth 0 rfl) (by omega) hr).mono ?_
    intro e w5 he
    cases hb : blkR f (n + 1) (now l).line l with
    | out => exact absurd hb hr
    | ok x l1 =>
      rw [hb] at he
      obtain ⟨k2, B, rfl, hB, hp⟩ := he
      have H5 := (St.open_ (L := [_, _, _]) (H4.upd 0 rfl hp)).pick [3, 0, 2]
      have H5 := St.shut (L := [_, _]) (L' := [_]) H5
      refine .inl ⟨_, rfl, ?_⟩
      refine (withB_dec (H5.nth 0 rfl)).mono ?_
      rintro e u' w6 ⟨rfl, rfl, hp6⟩
      have H6 := (St.open_ (L := [_, _]) (H5.upd 0 rfl hp6)).pick [1, 2]
      exact .inl ⟨_, rfl, .inl ⟨rfl, _, _, rfl, hB, St.post (St.shut (L := [_, _]) (L' := []) H6) 0 rfl⟩⟩
    | err line en =>
      rw [hb] at he
      obtain ⟨q, rfl, hp⟩ := he
      have H5 := (St.open_ (L := [_, _]) (H4.upd 0 rfl hp)).pick [2, 1, 0]
      have H5 := St.shut (L := [_, _]) (L' := [_]) H5
      refine .inr ⟨_, rfl, ?_⟩
      refine (withB_decW (H5.nth 0 rfl)).mono ?_
      rintro e u' w6 ⟨rfl, rfl, hp6⟩
      have H6 := (St.open_ (L := [_, _]) (H5.upd 0 rfl hp6)).pick [2, 1]
      exact .inl ⟨_, rfl, .inr ⟨_, rfl, q, rfl, St.post (St.shut (L := [_, _]) (L' := []) H6) 0 rfl⟩⟩
theorem blk_step [Inhabited G3o] {f : Nat} (I : ∀ f' ≤ f, Ih f') (h : (parA b g l n).at_ W) (hn : n ≤ 24) (hr : run (f + 1) .blk n l ≠ .out) : Calls Tryz.prog 56 #[pt b] W (Ans (parW b) (parA b g l n) W (run (f + 1) .blk n l) (PtK 113 b g n W (parA b g l n))) := by
  refine vc56 b 0 ?_
  refine (St.begin h).al fun k w2 H2 => ?_
  refine ⟨_, H2.ld 1 rfl (i := 0) rfl, ?_⟩
  have H2 := St.shut (L := [_, _]) (L' := []) H2
  refine (within_b I (H2.nth 0 rfl) hn hr).mono ?_
  intro e w5 he
  cases hb : run (f + 1) .blk n l with
  | out => exact absurd hb hr
  | ok x l1 =>
    rw [hb] at he
    obtain ⟨k2, B, rfl, hB, hp⟩ := he
    exact .inl ⟨_, rfl, _, _, rfl, hB, (H2.upd 0 rfl hp).post 0 rfl⟩
  | err line en =>
    rw [hb] at he
    obtain ⟨q, rfl, hp⟩ := he
    exact .inr ⟨_, rfl, _, rfl, (H2.upd 0 rfl hp).post 0 rfl⟩
end Go.Proofs.YtojogkljneonmaaGreatDoor
/- The parser's statements; all of its functions by induction. No condition. -/
namespace Go.Proofs.YtojogkljneonmaaGreatDoor
open Go Go.Proofs Go.Sep Go.XHeap Go.RowKit Go.Lang
set_option linter.unusedVariables false
set_option linter.unusedSimpArgs false

variable {W : World} {b g n : Nat} {l : List Tok}
def letR (f n : Nat) (t : Tok) (l : List Tok) : R T := (name l fun t l => R.ok t l).bind fun nm l => want cEq l fun l => (closedR f n l).bind fun x l => .ok (.letS t nm 0 0 x) l
def ifR (f n : Nat) (line : Int) (l : List Tok) : R T := (run f .expr n l).bind fun c l => (run f .blk n l).bind fun b l => if is cElse l then (run f .blk n l.tail).bind fun e l => .ok (.ifS line c b e) l else .ok (.ifS line c b .nil) l
def whileR (f n : Nat) (line : Int) (l : List Tok) : R T := (run f .expr n l).bind fun c l => (run f .blk n l).bind fun b l => .ok (.whileS line c b) l
theorem stmt_eq [Inhabited G3o] {f n : Nat} {l : List Tok} (hk : ¬ (now l).k = 1) : run (f + 1) .stmt n l = if is cLet l then letR f n (now l) l.tail
    else if is cReturn l then (closedR f n l.tail).bind fun x l' => .ok (.retS (now l).line x) l'
    else if is cPrint l then (closedR f n l.tail).bind fun x l' => .ok (.prtS (now l).line x) l'
    else if is cWhile l then whileR f n (now l).line l.tail
    else if is cIf l then ifR f n (now l).line l.tail
    else .err (now l).line 8 := by
  rw [run, if_neg hk]
  split
  · unfold letR
    rw [name_bind]
    congr 1
    funext nm l'
    congr 1
    funext l'
    exact closed_bind (k := fun x l' => R.ok (T.letS (now l) nm 0 0 x) l')
  · split
    · exact closed_bind (k := fun x l' => R.ok (T.retS (now l).line x) l')
    · split
      · exact closed_bind (k := fun x l' => R.ok (T.prtS (now l).line x) l')
      · rfl
/-- what stands behind a call that may fail -/
theorem pcase [Inhabited G3o] {γ : Type} {P : Program} {fn : FuncId} {args : Array Value} {w0 w : World} {R0 : R γ} {A0 A : Asn} {L : List Asn} {α β : Type} {r : R α} {Rp : Asn} {K : α → List Tok → Ending → World → Prop} {k : α → List Tok → R γ} {K0 : γ → List Tok → Ending → World → Prop} {G : Ending → World → Prop}
    (H : St w0 A0.own w L) (i : Nat) (hi : L[i]? = some A) (hrun : R0 = r.bind k) (hr : R0 ≠ .out) (hc : r ≠ .out → Calls P fn args w (Ans Rp A w r K)) (hk : ∀ x l, r = .ok x l → R0 = k x l → ∀ e w', K x l e w' → G e w') :
    Calls P fn args w (fun e w' => G e w' ∨ ∃ c : List PanicEntry, e = .panicked c ∧ Ans Rp A0 w0 R0 K0 (.panicked c) w') := by
  refine (hc (fun e => hr (by rw [hrun, e]; rfl))).mono ?_
  intro e w' he
  cases hb : r with
  | out => rw [hb] at hrun; exact absurd hrun hr
  | err line en =>
    rw [hb] at he hrun
    obtain ⟨q, rfl, hp⟩ := he
    rw [show R0 = .err line en from hrun]
    exact .inr ⟨_, rfl, q, rfl, (H.upd i hi hp).post i (set_same _ hi)⟩
  | ok x l =>
    rw [hb] at he hrun
    exact .inl (hk x l hb hrun e w' he)
theorem stmt_step [Inhabited G3o] {f : Nat} (I : ∀ f' ≤ f, Ih f') (h : (parA b g l n).at_ W) (hn : n ≤ 24) (hr : run (f + 1) .stmt n l ≠ .out) : Calls Tryz.prog 95 #[pt b] W (Ans (parW b) (parA b g l n) W (run (f + 1) .stmt n l) (TreeK b g n W (parA b g l n))) := by
  refine vc95 b 0 ?_
  have I0 := I f (Nat.le_refl _)
  refine (St.begin h).callq (now_any h) fun w2 H2 => ?_
  refine ⟨_, rfl, ?_⟩
  refine H2.al fun k w3 H3 => ?_
  refine H3.sts0 1 (n := 3) (vs := (tkL (now l)).toArray) rfl rfl rfl (by simpa using tkL_one _) fun w4 H4 => ?_
  refine ⟨_, H4.ld 1 rfl (i := 0) rfl, ?_⟩
  refine Sx.split_of (fun h4 => ?_) (fun h4 => ?_)
  · have hk : (now l).k = 1 := by have := beq_iff_eq.1 h4; omega
    rw [plain_eq hk] at hr ⊢
    refine (plain_any I (H4.nth 0 rfl) hn hr).mono ?_
    intro e w5 he
    cases hb : plainR f n l with
    | out => exact absurd hb hr
    | ok x l1 =>
      rw [hb] at he
      obtain ⟨v, B, rfl, hB, hp⟩ := he
      exact .inl ⟨_, rfl, _, _, rfl, hB, (H4.upd 0 rfl hp).post 0 rfl⟩
    | err line en =>
      rw [hb] at he
      obtain ⟨q, rfl, hp⟩ := he
      exact .inr ⟨_, rfl, _, rfl, (H4.upd 0 rfl hp).post 0 rfl⟩
  have hk : ¬ (now l).k = 1 := fun e => by rw [e] at h4; cases h4
  have hrun := stmt_eq (f := f) (n := n) hk
  generalize run (f + 1) .stmt n l = R0 at *
  refine (take_any cLet (H4.nth 0 rfl)).mono ?_
  rintro _ w5 ⟨rfl, hp⟩
  have H5 := H4.upd 0 rfl hp
  refine ⟨_, rfl, ?_⟩
  refine Sx.split_of (fun h5 => ?_) (fun h5 => ?_)
  · rw [if_pos h5] at hrun H5
    unfold letR at hrun
    refine pcase (β := Unit) H5 0 rfl hrun hr (fun _ => name_any (H5.nth 0 rfl)) ?_
    rintro nm l1 - hrun _ w6 ⟨rfl, hp⟩
    have H6 := H5.upd 0 rfl hp
    refine ⟨_, rfl, ?_⟩
    refine H6.al fun k3 w7 H7 => ?_
    refine H7.sts0 2 (n := 3) (vs := (tkL nm).toArray) rfl rfl rfl (by simpa using tkL_one _) fun w8 H8 => ?_
    rw [want_bind] at hrun
    refine pcase (β := Unit) H8 0 rfl hrun hr (fun _ => want_any cEq (H8.nth 0 rfl)) ?_
    rintro _ l2 - hrun _ w9 ⟨rfl, hp⟩
    have H9 := H8.upd 0 rfl hp
    refine ⟨rfl, ?_⟩
    refine H9.dr fun w10 H10 => ?_
    refine ⟨_, rfl, H10.cells 1 rfl, _, rfl, H10.cells 2 rfl, rfl, ?_⟩
    rintro _ rfl
    refine ⟨?_, ?_⟩
    · refine H10.alb fun k5 w11 H11 _ hb11 => ?_
      refine ⟨hb11, ⟨_, rfl, H11.cells 1 rfl, rfl⟩, ?_⟩
      refine pcase (β := Unit) H11 0 rfl hrun hr (fun hr => closed_any I0 (H11.nth 0 rfl) hn hr) ?_
      rintro x l3 - hrun _ w12 ⟨v, B, rfl, hB, hp⟩
      have H12 := St.open_ (L := [_, _]) (H11.upd 0 rfl hp)
      refine ⟨_, rfl, ⟨_, rfl, H12.cells 2 rfl, rfl⟩, rfl, isP_one hB ?_⟩
      rintro _ rfl
      refine H12.al fun k6 w13 H13 => ?_
      rw [hrun]
      have H14 := (St.shut (L := [_, _, _]) (L' := [_]) (H13.pick [5, 4, 1, 0])).pick [1, 0]
      exact ⟨_, _, rfl, ⟨k6, k5, v, B, hB, rfl, rfl⟩, St.post (St.shut (L := [_, _]) (L' := []) H14) 0 rfl⟩
    · refine pcase (β := Unit) H10 0 rfl hrun hr (fun hr => closed_any I0 (H10.nth 0 rfl) hn hr) ?_
      rintro x l3 - hrun _ w12 ⟨v, B, rfl, hB, hp⟩
      have H12 := St.open_ (L := [_, _]) (H10.upd 0 rfl hp)
      refine ⟨_, rfl, ⟨_, rfl, H12.cells 3 rfl, rfl⟩, ⟨_, rfl, H12.cells 2 rfl, rfl⟩, ?_⟩
      refine H12.al fun k7 w13 H13 => ?_
      refine ⟨⟨_, rfl, H13.cells 2 rfl, rfl⟩, rfl, isP_one hB ?_⟩
      rintro _ rfl
      refine H13.al fun k6 w14 H14 => ?_
      rw [hrun]
      have H15 := (St.shut (L := [_, _, _]) (L' := [_]) (H14.pick [5, 4, 1, 0])).pick [1, 0]
      exact ⟨_, _, rfl, ⟨k6, k7, v, B, hB, rfl, rfl⟩, St.post (St.shut (L := [_, _]) (L' := []) H15) 0 rfl⟩
  rw [if_neg (by rw [h5]; exact Bool.false_ne_true)] at hrun H5
  refine (take_any cReturn (H5.nth 0 rfl)).mono ?_
  rintro _ w6 ⟨rfl, hp⟩
  have H6 := H5.upd 0 rfl hp
  refine ⟨_, rfl, ?_⟩
  refine Sx.split_of (fun h6 => ?_) (fun h6 => ?_)
  · rw [if_pos h6] at hrun H6
    refine pcase (β := Unit) H6 0 rfl hrun hr (fun hr => closed_any I0 (H6.nth 0 rfl) hn hr) ?_
    rintro x l3 - hrun _ w12 ⟨v, B, rfl, hB, hp⟩
    have H12 := St.open_ (L := [_, _]) (H6.upd 0 rfl hp)
    refine ⟨_, rfl, isP_one hB ?_⟩
    rintro _ rfl
    refine H12.al fun k6 w13 H13 => ?_
    rw [hrun]
    have H14 := (St.shut (L := [_, _]) (L' := [_]) (H13.pick [3, 1, 0])).pick [1, 0]
    exact ⟨_, _, rfl, ⟨k6, v, B, hB, rfl, rfl⟩, St.post (St.shut (L := [_, _]) (L' := []) H14) 0 rfl⟩
  rw [if_neg (by rw [h6]; exact Bool.false_ne_true)] at hrun H6
  refine (take_any cPrint (H6.nth 0 rfl)).mono ?_
  rintro _ w7 ⟨rfl, hp⟩
  have H7 := H6.upd 0 rfl hp
  refine ⟨_, rfl, ?_⟩
  refine Sx.split_of (fun h7 => ?_) (fun h7 => ?_)
  · rw [if_pos h7] at hrun H7
    refine pcase (β := Unit) H7 0 rfl hrun hr (fun hr => closed_any I0 (H7.nth 0 rfl) hn hr) ?_
    rintro x l3 - hrun _ w12 ⟨v, B, rfl, hB, hp⟩
    have H12 := St.open_ (L := [_, _]) (H7.upd 0 rfl hp)
    refine ⟨_, rfl, isP_one hB ?_⟩
    rintro _ rfl
    refine H12.al fun k6 w13 H13 => ?_
    rw [hrun]
    have H14 := (St.shut (L := [_, _]) (L' := [_]) (H13.pick [3, 1, 0])).pick [1, 0]
    exact ⟨_, _, rfl, ⟨k6, v, B, hB, rfl, rfl⟩, St.post (St.shut (L := [_, _]) (L' := []) H14) 0 rfl⟩
  rw [if_neg (by rw [h7]; exact Bool.false_ne_true)] at hrun H7
  refine (take_any cWhile (H7.nth 0 rfl)).mono ?_
  rintro _ w8 ⟨rfl, hp⟩
  have H8 := H7.upd 0 rfl hp
  refine ⟨_, rfl, ?_⟩
  refine Sx.split_of (fun h8 => ?_) (fun h8 => ?_)
  · rw [if_pos h8] at hrun H8
    unfold whileR at hrun
    refine pcase (β := Unit) H8 0 rfl hrun hr (fun hr => I0.expr (H8.nth 0 rfl) hn hr) ?_
    rintro x l3 - hrun _ w12 ⟨v, B, rfl, hB, hp⟩
    have H12 := St.open_ (L := [_, _]) (H8.upd 0 rfl hp)
    refine ⟨_, rfl, ?_⟩
    refine pcase (β := Unit) H12 0 rfl hrun hr (fun hr => I0.blk (H12.nth 0 rfl) hn hr) ?_
    rintro y l4 - hrun _ w13 ⟨k2, B2, rfl, hB2, hp⟩
    have H13 := St.open_ (L := [_, _]) (H12.upd 0 rfl hp)
    refine ⟨_, rfl, isP_one hB ?_⟩
    rintro _ rfl
    refine H13.al fun k6 w14 H14 => ?_
    rw [hrun]
    have H15 := (St.shut (L := [_, _, _]) (L' := [_]) (H14.pick [4, 2, 1, 0])).pick [1, 0]
    exact ⟨_, _, rfl, ⟨k6, v, k2, B, B2, hB, hB2, rfl, rfl⟩, St.post (St.shut (L := [_, _]) (L' := []) H15) 0 rfl⟩
  rw [if_neg (by rw [h8]; exact Bool.false_ne_true)] at hrun H8
  refine (take_any cIf (H8.nth 0 rfl)).mono ?_
  rintro _ w9 ⟨rfl, hp⟩
  have H9 := H8.upd 0 rfl hp
  refine ⟨_, rfl, ?_⟩
  refine Sx.split_of (fun h9 => ?_) (fun h9 => ?_)
  · rw [if_pos h9] at hrun H9
    unfold ifR at hrun
    refine pcase (β := Unit) H9 0 rfl hrun hr (fun hr => I0.expr (H9.nth 0 rfl) hn hr) ?_
    rintro x l3 - hrun _ w12 ⟨v, B, rfl, hB, hp⟩
    have H12 := St.open_ (L := [_, _]) (H9.upd 0 rfl hp)
    refine ⟨_, rfl, isP_one hB ?_⟩
    rintro _ rfl
    refine H12.al fun k6 w13 H13 => ?_
    refine pcase (β := Unit) H13 0 rfl hrun hr (fun hr => I0.blk (H13.nth 0 rfl) hn hr) ?_
    rintro y l4 - hrun _ w14 ⟨k2, B2, rfl, hB2, hp⟩
    have H14 := St.open_ (L := [_, _]) (H13.upd 0 rfl hp)
    refine ⟨_, rfl, ?_⟩
    refine H14.st 4 rfl (i := 1) (by simp [Value.cells]) fun w15 H15 => ?_
    refine (take_any cElse (H15.nth 0 rfl)).mono ?_
    rintro _ w16 ⟨rfl, hp⟩
    have H16 := H15.upd 0 rfl hp
    refine ⟨_, rfl, ?_⟩
    refine Sx.split_of (fun h10 => ?_) (fun h10 => ?_)
    · rw [if_pos h10] at hrun H16
      refine pcase (β := Unit) H16 0 rfl hrun hr (fun hr => I0.blk (H16.nth 0 rfl) hn hr) ?_
      rintro z l5 - hrun _ w17 ⟨k3, B3, rfl, hB3, hp⟩
      have H17 := St.open_ (L := [_, _]) (H16.upd 0 rfl hp)
      refine ⟨_, rfl, ?_⟩
      refine H17.st 5 rfl (i := 2) (by simp [Value.cells]) fun w18 H18 => ?_
      rw [hrun]
      have H19 := (St.shut (L := [_, _, _, _]) (L' := [_]) (H18.pick [5, 3, 2, 1, 0])).pick [1, 0]
      exact ⟨_, _, rfl, ⟨k6, v, k2, B, B2, hB, hB2, rfl, .inr ⟨k3, B3, hB3, rfl⟩⟩, St.post (St.shut (L := [_, _]) (L' := []) H19) 0 rfl⟩
    · rw [if_neg (by rw [h10]; exact Bool.false_ne_true)] at hrun H16
      rw [hrun]
      have H19 := (St.shut (L := [_, _, _]) (L' := [_]) (H16.pick [4, 2, 1, 0])).pick [1, 0]
      exact ⟨_, _, rfl, ⟨k6, v, k2, B, B2, hB, hB2, rfl, .inl ⟨rfl, rfl⟩⟩, St.post (St.shut (L := [_, _]) (L' := []) H19) 0 rfl⟩
  rw [if_neg (by rw [h9]; exact Bool.false_ne_true)] at hrun H9
  rw [hrun]
  exact perr' H9 0 rfl (pfail_any 8 (H9.nth 0 rfl))
theorem ih_all [Inhabited G3o] : ∀ f, Ih f := by
  intro f
  induction f using Nat.strongRecOn with
  | _ f ih =>
    match f with
    | 0 => exact ⟨fun _ _ h => absurd rfl h, fun _ _ _ _ h => absurd rfl h, fun _ _ h => absurd rfl h, fun _ _ h => absurd rfl h, fun _ _ h => absurd rfl h, fun _ _ h => absurd rfl h⟩
    | f + 1 =>
      have I : ∀ f' ≤ f, Ih f' := fun f' hf => ih f' (by omega)
      have I0 := I f (Nat.le_refl _)
      exact ⟨expr_step I0, bin_step I, un_step I0, prim_step I, blk_step I, stmt_step I⟩
end Go.Proofs.YtojogkljneonmaaGreatDoor
