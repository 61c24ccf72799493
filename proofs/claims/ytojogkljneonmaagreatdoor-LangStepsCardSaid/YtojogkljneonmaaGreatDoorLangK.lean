import Derived.Test.YtojogkljneonmaaGreatDoorLangH
import Derived.Test.YtojogkljneonmaaGreatDoorLangVd
/- The parser's blocks and statements; all of it by induction. No condition. -/
namespace Go.Proofs.YtojogkljneonmaaGreatDoor
open Go Go.Proofs Go.Sep Go.XHeap Go.RowKit Go.Lang
set_option linter.unusedVariables false
set_option linter.unusedSimpArgs false

variable {W : World} {b g n : Nat} {l : List Tok}
def blkR (f n : Nat) (line : Int) (l : List Tok) : R T := want cLC l fun l' => (run f .stmts n l').bind fun xs l'' => .ok (.block line xs) l''
theorem block1_any [Inhabited G3o] {f kp : Nat} {line : Int} (I : ∀ f' ≤ f, Ih f') (h : (all [parA b g l n, blk kp #[pt b] 80]).at_ W) (hn : n ≤ 24) (hr : blkR f n line l ≠ .out) :
    Calls Tryz.prog 94 #[pt kp] W (Ans (parW b) (all [parA b g l n, blk kp #[pt b] 80]) W (blkR f n line l) fun x l' e w' => ∃ k B, e = .returned (pt k) ∧ isP x [.iface 113 (pt k)] B ∧ Post (all [parA b g l n, blk kp #[pt b] 80]) W (all [parA b g l' n, blk kp #[pt b] 80, B]) w') := by
  refine vc94 kp 0 ?_
  have H := St.open_ (L' := []) (St.begin h)
  generalize hR : blkR f n line l = R0 at *
  have hrun := hR.symm
  unfold blkR at hrun
  rintro _ rfl
  refine H.al fun k w2 H2 => ?_
  refine ⟨_, H2.ld 1 rfl (i := 0) rfl, ?_⟩
  obtain ⟨hG, -⟩ := par_good (H2.nth 0 rfl)
  unfold want at hrun
  cases h5 : is cLC l with
  | false =>
    rw [h5] at hrun
    rw [show R0 = .err (now l).line 8 from hrun]
    exact perr H2 0 rfl (want_no (s := cLC) (H2.nth 0 rfl) h5)
  | true =>
    rw [h5] at hrun
    refine (want_yes (s := cLC) (H2.nth 0 rfl) h5).mono ?_
    rintro _ w3 ⟨rfl, hp⟩
    have H3 := H2.upd 0 rfl hp
    refine .inl ⟨rfl, ?_⟩
    have hrun : R0 = (run f .stmts n l.tail).bind fun xs l'' => .ok (.block line xs) l'' := hrun
    have hlen0 : l.length ≤ 8001 := hG.2.2.2
    have htl := tail_le l
    refine ⟨fun w => ∃ ts us As p c l1 f', isP (ofTs ts .nil) us (all As) ∧ St W (all [parA b g l n, blk kp #[pt b] 80]).own w [parA b g l1 n, blk kp #[pt b] 80, blk k #[.slice p us.length c] 164, sl 161 1 (.slice p us.length c) us.length us, all As] ∧ us.length + l1.length ≤ 8001 ∧ f' ≤ f ∧ R0 = (run f' .stmts n l1).bind fun xs l' => .ok (.block line (ofTs ts xs)) l', fun w => lenAt b w, ?_, fun _ => ?_⟩
    · have H4 := (H3.add (A := sl 161 1 (.slice none 0 0) 0 []) ⟨Sl.nil _ _ _, XTouch.refl _ _, fun q hq => by cases hq⟩).add (A := all []) ⟨trivial, XTouch.refl _ _, fun q hq => hq.elim⟩
      exact ⟨[], [], [], none, 0, l.tail, f, ⟨rfl, rfl⟩, H4, by simp only [List.length_nil]; omega, Nat.le_refl _, hrun⟩
    · clear hrun H3 hp
      rintro w4 ⟨ts, us, As, p, c, l1, f', hT, H4, hlen, hf, hm⟩
      refine ⟨_, H4.ld 1 rfl (i := 0) rfl, ?_⟩
      refine (take_any cRC (H4.nth 0 rfl)).mono ?_
      rintro _ w5 ⟨rfl, hp⟩
      have H5 := H4.upd 0 rfl hp
      refine ⟨_, rfl, ?_⟩
      match f', hf, hm with
      | 0, _, hm => exact absurd hm hr
      | f' + 1, hf, hm =>
      unfold run at hm
      refine Sx.split_of (fun h6 => ?_) (fun h6 => ?_)
      · have h6 : is cRC l1 = false := by simpa using h6
        rw [h6] at hm
        rw [if_neg (by rw [h6]; exact Bool.false_ne_true)] at H5
        have hm : R0 = ((run f' .stmt n l1).bind fun x l => (run f' .stmts n l).bind fun xs l => .ok (.cons x xs) l).bind fun xs l' => .ok (.block line (ofTs ts xs)) l' := hm
        refine H5.dr fun w6 H6 => ?_
        refine ⟨_, H6.ld 1 rfl (i := 0) rfl, p, us.length, c, H6.ld 2 rfl (i := 0) rfl, ?_⟩
        refine ((I f' (by omega)).stmt (H6.nth 0 rfl) hn (fun e => hr (by rw [hm, e]; rfl))).mono ?_
        intro e w7 he
        cases hb : run f' .stmt n l1 with
        | out => rw [hb] at hm; exact absurd hm hr
        | err line en =>
          rw [hb] at he hm
          obtain ⟨q, rfl, hp⟩ := he
          rw [show R0 = .err line en from hm]
          exact .inr ⟨_, rfl, _, rfl, (H6.upd 0 rfl hp).post 0 rfl⟩
        | ok x l2 =>
          rw [hb] at he hm
          obtain ⟨v, B, rfl, hB, hp⟩ := he
          have hlt := (run_le _ _ _ _ _ _ hb).2 rfl
          have H7 := St.open_ (L := [_, _]) (H6.upd 0 rfl hp)
          refine .inl ⟨_, rfl, ⟨p, _, c, H7.ld 3 rfl (i := 0) rfl, rfl⟩, isP_one hB ?_⟩
          refine H7.al fun k6 w8 H8 => ?_
          refine ⟨⟨p, _, c, H8.ld 3 rfl (i := 0) rfl, rfl⟩, ?_⟩
          refine H8.app 4 rfl [v] (.inr ⟨_, rfl, fun j u hj => ?_⟩) rfl (by simpa using isP_cell hB) (by show us.length + 1 ≤ maxLen; unfold maxLen; omega) (by omega) fun p' c' w9 H9 => ?_
          · match j, hj with
            | 0, hj => cases hj; exact H8.ld 6 rfl (i := 0) rfl
          · refine H9.st 3 rfl (i := 0) (by simp) fun w10 H10 => ?_
            obtain ⟨As', h1, h2⟩ := isP_snoc hB hT
            have H11 := H10.pick [5, 1, 0, 2, 3, 4]
            have H12 := (h2 _ _ _ _ H11).pick [1, 2, 3, 4, 0]
            have e1 : (us ++ [v]).length = us.length + 1 := by simp
            have H13 : St W (all [parA b g l n, blk kp #[pt b] 80]).own w10 [parA b g l2 n, blk kp #[pt b] 80, blk k #[.slice p' (us ++ [v]).length c'] 164, sl 161 1 (.slice p' (us ++ [v]).length c') (us ++ [v]).length (us ++ [v]), all As'] := by
              rw [e1]; exact H12
            refine ⟨⟨ts ++ [x], us ++ [v], As', p', c', l2, f', h1, H13, by rw [e1]; omega, by omega, ?_⟩, ?_⟩
            · rw [show R0 = ((run f' .stmts n l2).bind fun xs l => .ok (.cons x xs) l).bind fun xs l' => .ok (.block line (ofTs ts xs)) l' from hm]
              cases run f' .stmts n l2 with
              | ok xs l' => show R.ok _ _ = R.ok _ _; rw [ofTs_snoc]
              | err => rfl
              | out => rfl
            · show lenAt b w10 < lenAt b w4
              rw [lenAt_par (H13.nth 0 rfl), lenAt_par (H4.nth 0 rfl)]
              omega
      · have h6 : is cRC l1 = true := by simpa using h6
        rw [h6] at hm
        rw [if_pos h6] at H5
        rw [show R0 = .ok (.block line (ofTs ts .nil)) l1.tail from hm]
        have H6 := (St.shut (L := [_, _, _]) (L' := [_, _]) (H5.pick [2, 3, 4, 0, 1])).pick [1, 2, 0]
        exact ⟨k, _, rfl, ⟨k, p, c, us, _, hT, rfl, rfl⟩, St.post (St.shut (L := [_, _, _]) (L' := []) H6) 0 rfl⟩
theorem within_b [Inhabited G3o] {f k : Nat} (I : ∀ f' ≤ f, Ih f') (h : (all [parA b g l n, blk k #[pt b] 80]).at_ W) (hn : n ≤ 24) (hr : run (f + 1) .blk n l ≠ .out) :
    Calls Tryz.prog 93 #[pt b, .func (.func 94) #[] #[pt k]] W (Ans (parW b) (all [parA b g l n, blk k #[pt b] 80]) W (run (f + 1) .blk n l) (PtK 113 b g n W (all [parA b g l n, blk k #[pt b] 80]))) := by
  refine vc93 b 0 k ?_
  have H := St.open_ (L' := []) (St.begin h)
  refine H.al fun k1 w2 H2 => ?_
  obtain ⟨hG, -, off, c, H2⟩ := par_open H2
  refine ⟨_, H2.ld 4 rfl (i := 0) rfl, ptr_some ⟨_, H2.ld 0 rfl (i := 1) rfl, ?_⟩⟩
  rintro z rfl
  rw [wrap_nest hn]
  refine ptr_some (H2.st 0 rfl (i := 1) (by simp) fun w3 H3 => ?_)
  have H3 : St W _ w3 (parL b g off c l (n + 1) ++ [blk k #[pt b] 80, blk k1 #[pt b] 80]) := H3
  refine ⟨_, H3.ld 4 rfl (i := 0) rfl, ptr_some ⟨_, H3.ld 0 rfl (i := 1) rfl, ?_⟩⟩
  have H4 := par_shut hG (by omega) H3
  refine Sx.split_of (fun h4 => ?_) (fun h4 => ?_)
  · have h4 := of_decide_eq_true h4
    refine ⟨_, H4.ld 2 rfl (i := 0) rfl, ?_⟩
    rw [show run (f + 1) .blk n l = .err (now l).line 3 by unfold run; rw [if_pos (by omega)]]
    exact perr' H4 0 rfl (pfail_any 3 (H4.nth 0 rfl))
  · have h4 := of_decide_eq_false h4
    have hrun : run (f + 1) .blk n l = blkR f (n + 1) (now l).line l := by
      rw [run, if_neg (by omega)]; rfl
    rw [hrun] at hr ⊢
    have H4 := St.shut (L := [_, _]) (L' := [_]) H4
    refine (block1_any I (H4.nth 0 rfl) (by omega) hr).mono ?_
    intro e w5 he
    cases hb : blkR f (n + 1) (now l).line l with
    | out => exact absurd hb hr
    | ok x l1 =>
      rw [hb] at he
      obtain ⟨k2, B, rfl, hB, hp⟩ := he
      have H5 := (St.open_ (L := [_, _, _]) (H4.upd 0 rfl hp)).pick [3, 0, 2]
      have H5 := St.shut (L := [_, _]) (L' := [_]) H5
      refine .inl ⟨_, rfl, ?_⟩
      refine (withB_dec (H5.nth 0 rfl)).mono ?_
      rintro e u' w6 ⟨rfl, rfl, hp6⟩
      have H6 := (St.open_ (L := [_, _]) (H5.upd 0 rfl hp6)).pick [1, 2]
      exact .inl ⟨_, rfl, .inl ⟨rfl, _, _, rfl, hB, St.post (St.shut (L := [_, _]) (L' := []) H6) 0 rfl⟩⟩
    | err line en =>
      rw [hb] at he
      obtain ⟨q, rfl, hp⟩ := he
      have H5 := (St.open_ (L := [_, _]) (H4.upd 0 rfl hp)).pick [2, 1, 0]
      have H5 := St.shut (L := [_, _]) (L' := [_]) H5
      refine .inr ⟨_, rfl, ?_⟩
      refine (withB_decW (H5.nth 0 rfl)).mono ?_
      rintro e u' w6 ⟨rfl, rfl, hp6⟩
      have H6 := (St.open_ (L := [_, _]) (H5.upd 0 rfl hp6)).pick [2, 1]
      exact .inl ⟨_, rfl, .inr ⟨_, rfl, q, rfl, St.post (St.shut (L := [_, _]) (L' := []) H6) 0 rfl⟩⟩
theorem blk_step [Inhabited G3o] {f : Nat} (I : ∀ f' ≤ f, Ih f') (h : (parA b g l n).at_ W) (hn : n ≤ 24) (hr : run (f + 1) .blk n l ≠ .out) : Calls Tryz.prog 56 #[pt b] W (Ans (parW b) (parA b g l n) W (run (f + 1) .blk n l) (PtK 113 b g n W (parA b g l n))) := by
  refine vc56 b 0 ?_
  refine (St.begin h).al fun k w2 H2 => ?_
  refine ⟨_, H2.ld 1 rfl (i := 0) rfl, ?_⟩
  have H2 := St.shut (L := [_, _]) (L' := []) H2
  refine (within_b I (H2.nth 0 rfl) hn hr).mono ?_
  intro e w5 he
  cases hb : run (f + 1) .blk n l with
  | out => exact absurd hb hr
  | ok x l1 =>
    rw [hb] at he
    obtain ⟨k2, B, rfl, hB, hp⟩ := he
    exact .inl ⟨_, rfl, _, _, rfl, hB, (H2.upd 0 rfl hp).post 0 rfl⟩
  | err line en =>
    rw [hb] at he
    obtain ⟨q, rfl, hp⟩ := he
    exact .inr ⟨_, rfl, _, rfl, (H2.upd 0 rfl hp).post 0 rfl⟩
end Go.Proofs.YtojogkljneonmaaGreatDoor
/- The parser's statements; all of its functions by induction. No condition. -/
namespace Go.Proofs.YtojogkljneonmaaGreatDoor
open Go Go.Proofs Go.Sep Go.XHeap Go.RowKit Go.Lang
set_option linter.unusedVariables false
set_option linter.unusedSimpArgs false

variable {W : World} {b g n : Nat} {l : List Tok}
def letStR (f n : Nat) (t : Tok) (l : List Tok) : R T := (name l fun t l => R.ok t l).bind fun nm l => want cEq l fun l => (closedR f n l).bind fun x l => .ok (.letS t nm 0 0 x) l
def ifR (f n : Nat) (line : Int) (l : List Tok) : R T := (run f .expr n l).bind fun c l => (run f .blk n l).bind fun b l => if is cElse l then (run f .blk n l.tail).bind fun e l => .ok (.ifS line c b e) l else .ok (.ifS line c b .nil) l
def whileR (f n : Nat) (line : Int) (l : List Tok) : R T := (run f .expr n l).bind fun c l => (run f .blk n l).bind fun b l => .ok (.whileS line c b) l
theorem stmt_eq [Inhabited G3o] {f n : Nat} {l : List Tok} (hk : ¬ (now l).k = 1) : run (f + 1) .stmt n l = if is cLet l then letStR f n (now l) l.tail
    else if is cReturn l then (closedR f n l.tail).bind fun x l' => .ok (.retS (now l).line x) l'
    else if is cPrint l then (closedR f n l.tail).bind fun x l' => .ok (.prtS (now l).line x) l'
    else if is cWhile l then whileR f n (now l).line l.tail
    else if is cIf l then ifR f n (now l).line l.tail
    else .err (now l).line 8 := by
  rw [run, if_neg hk]
  split
  · unfold letStR
    rw [name_bind]
    congr 1
    funext nm l'
    congr 1
    funext l'
    exact closed_bind (k := fun x l' => R.ok (T.letS (now l) nm 0 0 x) l')
  · split
    · exact closed_bind (k := fun x l' => R.ok (T.retS (now l).line x) l')
    · split
      · exact closed_bind (k := fun x l' => R.ok (T.prtS (now l).line x) l')
      · rfl
/-- what stands behind a call that may fail -/
theorem pcase [Inhabited G3o] {γ : Type} {P : Program} {fn : FuncId} {args : Array Value} {w0 w : World} {R0 : R γ} {A0 A : Asn} {L : List Asn} {α β : Type} {r : R α} {Rp : Asn} {K : α → List Tok → Ending → World → Prop} {k : α → List Tok → R γ} {K0 : γ → List Tok → Ending → World → Prop} {G : Ending → World → Prop}
    (H : St w0 A0.own w L) (i : Nat) (hi : L[i]? = some A) (hrun : R0 = r.bind k) (hr : R0 ≠ .out) (hc : r ≠ .out → Calls P fn args w (Ans Rp A w r K)) (hk : ∀ x l, r = .ok x l → R0 = k x l → ∀ e w', K x l e w' → G e w') :
    Calls P fn args w (fun e w' => G e w' ∨ ∃ c : List PanicEntry, e = .panicked c ∧ Ans Rp A0 w0 R0 K0 (.panicked c) w') := by
  refine (hc (fun e => hr (by rw [hrun, e]; rfl))).mono ?_
  intro e w' he
  cases hb : r with
  | out => rw [hb] at hrun; exact absurd hrun hr
  | err line en =>
    rw [hb] at he hrun
    obtain ⟨q, rfl, hp⟩ := he
    rw [show R0 = .err line en from hrun]
    exact .inr ⟨_, rfl, q, rfl, (H.upd i hi hp).post i (set_same _ hi)⟩
  | ok x l =>
    rw [hb] at he hrun
    exact .inl (hk x l hb hrun e w' he)
theorem stmt_step [Inhabited G3o] {f : Nat} (I : ∀ f' ≤ f, Ih f') (h : (parA b g l n).at_ W) (hn : n ≤ 24) (hr : run (f + 1) .stmt n l ≠ .out) : Calls Tryz.prog 95 #[pt b] W (Ans (parW b) (parA b g l n) W (run (f + 1) .stmt n l) (TreeK b g n W (parA b g l n))) := by
  refine vc95 b 0 ?_
  have I0 := I f (Nat.le_refl _)
  refine (St.begin h).callq (now_any h) fun w2 H2 => ?_
  refine ⟨_, rfl, ?_⟩
  refine H2.al fun k w3 H3 => ?_
  refine H3.sts0 1 (n := 3) (vs := (tkL (now l)).toArray) rfl rfl rfl (by simpa using tkL_one _) fun w4 H4 => ?_
  refine ⟨_, H4.ld 1 rfl (i := 0) rfl, ?_⟩
  refine Sx.split_of (fun h4 => ?_) (fun h4 => ?_)
  · have hk : (now l).k = 1 := by have := beq_iff_eq.1 h4; omega
    rw [plain_eq hk] at hr ⊢
    refine (plain_any I (H4.nth 0 rfl) hn hr).mono ?_
    intro e w5 he
    cases hb : plainR f n l with
    | out => exact absurd hb hr
    | ok x l1 =>
      rw [hb] at he
      obtain ⟨v, B, rfl, hB, hp⟩ := he
      exact .inl ⟨_, rfl, _, _, rfl, hB, (H4.upd 0 rfl hp).post 0 rfl⟩
    | err line en =>
      rw [hb] at he
      obtain ⟨q, rfl, hp⟩ := he
      exact .inr ⟨_, rfl, _, rfl, (H4.upd 0 rfl hp).post 0 rfl⟩
  have hk : ¬ (now l).k = 1 := fun e => by rw [e] at h4; cases h4
  have hrun := stmt_eq (f := f) (n := n) hk
  generalize run (f + 1) .stmt n l = R0 at *
  refine (take_any cLet (H4.nth 0 rfl)).mono ?_
  rintro _ w5 ⟨rfl, hp⟩
  have H5 := H4.upd 0 rfl hp
  refine ⟨_, rfl, ?_⟩
  refine Sx.split_of (fun h5 => ?_) (fun h5 => ?_)
  · rw [if_pos h5] at hrun H5
    unfold letStR at hrun
    refine pcase (β := Unit) H5 0 rfl hrun hr (fun _ => name_any (H5.nth 0 rfl)) ?_
    rintro nm l1 - hrun _ w6 ⟨rfl, hp⟩
    have H6 := H5.upd 0 rfl hp
    refine ⟨_, rfl, ?_⟩
    refine H6.al fun k3 w7 H7 => ?_
    refine H7.sts0 2 (n := 3) (vs := (tkL nm).toArray) rfl rfl rfl (by simpa using tkL_one _) fun w8 H8 => ?_
    rw [want_bind] at hrun
    refine pcase (β := Unit) H8 0 rfl hrun hr (fun _ => want_any cEq (H8.nth 0 rfl)) ?_
    rintro _ l2 - hrun _ w9 ⟨rfl, hp⟩
    have H9 := H8.upd 0 rfl hp
    refine ⟨rfl, ?_⟩
    refine H9.dr fun w10 H10 => ?_
    refine ⟨_, rfl, H10.cells 1 rfl, _, rfl, H10.cells 2 rfl, rfl, ?_⟩
    rintro _ rfl
    refine ⟨?_, ?_⟩
    · refine H10.alb fun k5 w11 H11 _ hb11 => ?_
      refine ⟨hb11, ⟨_, rfl, H11.cells 1 rfl, rfl⟩, ?_⟩
      refine pcase (β := Unit) H11 0 rfl hrun hr (fun hr => closed_any I0 (H11.nth 0 rfl) hn hr) ?_
      rintro x l3 - hrun _ w12 ⟨v, B, rfl, hB, hp⟩
      have H12 := St.open_ (L := [_, _]) (H11.upd 0 rfl hp)
      refine ⟨_, rfl, ⟨_, rfl, H12.cells 2 rfl, rfl⟩, rfl, isP_one hB ?_⟩
      rintro _ rfl
      refine H12.al fun k6 w13 H13 => ?_
      rw [hrun]
      have H14 := (St.shut (L := [_, _, _]) (L' := [_]) (H13.pick [5, 4, 1, 0])).pick [1, 0]
      exact ⟨_, _, rfl, ⟨k6, k5, v, B, hB, rfl, rfl⟩, St.post (St.shut (L := [_, _]) (L' := []) H14) 0 rfl⟩
    · refine pcase (β := Unit) H10 0 rfl hrun hr (fun hr => closed_any I0 (H10.nth 0 rfl) hn hr) ?_
      rintro x l3 - hrun _ w12 ⟨v, B, rfl, hB, hp⟩
      have H12 := St.open_ (L := [_, _]) (H10.upd 0 rfl hp)
      refine ⟨_, rfl, ⟨_, rfl, H12.cells 3 rfl, rfl⟩, ⟨_, rfl, H12.cells 2 rfl, rfl⟩, ?_⟩
      refine H12.al fun k7 w13 H13 => ?_
      refine ⟨⟨_, rfl, H13.cells 2 rfl, rfl⟩, rfl, isP_one hB ?_⟩
      rintro _ rfl
      refine H13.al fun k6 w14 H14 => ?_
      rw [hrun]
      have H15 := (St.shut (L := [_, _, _]) (L' := [_]) (H14.pick [5, 4, 1, 0])).pick [1, 0]
      exact ⟨_, _, rfl, ⟨k6, k7, v, B, hB, rfl, rfl⟩, St.post (St.shut (L := [_, _]) (L' := []) H15) 0 rfl⟩
  rw [if_neg (by rw [h5]; exact Bool.false_ne_true)] at hrun H5
  refine (take_any cReturn (H5.nth 0 rfl)).mono ?_
  rintro _ w6 ⟨rfl, hp⟩
  have H6 := H5.upd 0 rfl hp
  refine ⟨_, rfl, ?_⟩
  refine Sx.split_of (fun h6 => ?_) (fun h6 => ?_)
  · rw [if_pos h6] at hrun H6
    refine pcase (β := Unit) H6 0 rfl hrun hr (fun hr => closed_any I0 (H6.nth 0 rfl) hn hr) ?_
    rintro x l3 - hrun _ w12 ⟨v, B, rfl, hB, hp⟩
    have H12 := St.open_ (L := [_, _]) (H6.upd 0 rfl hp)
    refine ⟨_, rfl, isP_one hB ?_⟩
    rintro _ rfl
    refine H12.al fun k6 w13 H13 => ?_
    rw [hrun]
    have H14 := (St.shut (L := [_, _]) (L' := [_]) (H13.pick [3, 1, 0])).pick [1, 0]
    exact ⟨_, _, rfl, ⟨k6, v, B, hB, rfl, rfl⟩, St.post (St.shut (L := [_, _]) (L' := []) H14) 0 rfl⟩
  rw [if_neg (by rw [h6]; exact Bool.false_ne_true)] at hrun H6
  refine (take_any cPrint (H6.nth 0 rfl)).mono ?_
  rintro _ w7 ⟨rfl, hp⟩
  have H7 := H6.upd 0 rfl hp
  refine ⟨_, rfl, ?_⟩
  refine Sx.split_of (fun h7 => ?_) (fun h7 => ?_)
  · rw [if_pos h7] at hrun H7
    refine pcase (β := Unit) H7 0 rfl hrun hr (fun hr => closed_any I0 (H7.nth 0 rfl) hn hr) ?_
    rintro x l3 - hrun _ w12 ⟨v, B, rfl, hB, hp⟩
    have H12 := St.open_ (L := [_, _]) (H7.upd 0 rfl hp)
    refine ⟨_, rfl, isP_one hB ?_⟩
    rintro _ rfl
    refine H12.al fun k6 w13 H13 => ?_
    rw [hrun]
    have H14 := (St.shut (L := [_, _]) (L' := [_]) (H13.pick [3, 1, 0])).pick [1, 0]
    exact ⟨_, _, rfl, ⟨k6, v, B, hB, rfl, rfl⟩, St.post (St.shut (L := [_, _]) (L' := []) H14) 0 rfl⟩
  rw [if_neg (by rw [h7]; exact Bool.false_ne_true)] at hrun H7
  refine (take_any cWhile (H7.nth 0 rfl)).mono ?_
  rintro _ w8 ⟨rfl, hp⟩
  have H8 := H7.upd 0 rfl hp
  refine ⟨_, rfl, ?_⟩
  refine Sx.split_of (fun h8 => ?_) (fun h8 => ?_)
  · rw [if_pos h8] at hrun H8
    unfold whileR at hrun
    refine pcase (β := Unit) H8 0 rfl hrun hr (fun hr => I0.expr (H8.nth 0 rfl) hn hr) ?_
    rintro x l3 - hrun _ w12 ⟨v, B, rfl, hB, hp⟩
    have H12 := St.open_ (L := [_, _]) (H8.upd 0 rfl hp)
    refine ⟨_, rfl, ?_⟩
    refine pcase (β := Unit) H12 0 rfl hrun hr (fun hr => I0.blk (H12.nth 0 rfl) hn hr) ?_
    rintro y l4 - hrun _ w13 ⟨k2, B2, rfl, hB2, hp⟩
    have H13 := St.open_ (L := [_, _]) (H12.upd 0 rfl hp)
    refine ⟨_, rfl, isP_one hB ?_⟩
    rintro _ rfl
    refine H13.al fun k6 w14 H14 => ?_
    rw [hrun]
    have H15 := (St.shut (L := [_, _, _]) (L' := [_]) (H14.pick [4, 2, 1, 0])).pick [1, 0]
    exact ⟨_, _, rfl, ⟨k6, v, k2, B, B2, hB, hB2, rfl, rfl⟩, St.post (St.shut (L := [_, _]) (L' := []) H15) 0 rfl⟩
  rw [if_neg (by rw [h8]; exact Bool.false_ne_true)] at hrun H8
  refine (take_any cIf (H8.nth 0 rfl)).mono ?_
  rintro _ w9 ⟨rfl, hp⟩
  have H9 := H8.upd 0 rfl hp
  refine ⟨_, rfl, ?_⟩
  refine Sx.split_of (fun h9 => ?_) (fun h9 => ?_)
  · rw [if_pos h9] at hrun H9
    unfold ifR at hrun
    refine pcase (β := Unit) H9 0 rfl hrun hr (fun hr => I0.expr (H9.nth 0 rfl) hn hr) ?_
    rintro x l3 - hrun _ w12 ⟨v, B, rfl, hB, hp⟩
    have H12 := St.open_ (L := [_, _]) (H9.upd 0 rfl hp)
    refine ⟨_, rfl, isP_one hB ?_⟩
    rintro _ rfl
    refine H12.al fun k6 w13 H13 => ?_
    refine pcase (β := Unit) H13 0 rfl hrun hr (fun hr => I0.blk (H13.nth 0 rfl) hn hr) ?_
    rintro y l4 - hrun _ w14 ⟨k2, B2, rfl, hB2, hp⟩
    have H14 := St.open_ (L := [_, _]) (H13.upd 0 rfl hp)
    refine ⟨_, rfl, ?_⟩
    refine H14.st 4 rfl (i := 1) (by simp [Value.cells]) fun w15 H15 => ?_
    refine (take_any cElse (H15.nth 0 rfl)).mono ?_
    rintro _ w16 ⟨rfl, hp⟩
    have H16 := H15.upd 0 rfl hp
    refine ⟨_, rfl, ?_⟩
    refine Sx.split_of (fun h10 => ?_) (fun h10 => ?_)
    · rw [if_pos h10] at hrun H16
      refine pcase (β := Unit) H16 0 rfl hrun hr (fun hr => I0.blk (H16.nth 0 rfl) hn hr) ?_
      rintro z l5 - hrun _ w17 ⟨k3, B3, rfl, hB3, hp⟩
      have H17 := St.open_ (L := [_, _]) (H16.upd 0 rfl hp)
      refine ⟨_, rfl, ?_⟩
      refine H17.st 5 rfl (i := 2) (by simp [Value.cells]) fun w18 H18 => ?_
      rw [hrun]
      have H19 := (St.shut (L := [_, _, _, _]) (L' := [_]) (H18.pick [5, 3, 2, 1, 0])).pick [1, 0]
      exact ⟨_, _, rfl, ⟨k6, v, k2, B, B2, hB, hB2, rfl, .inr ⟨k3, B3, hB3, rfl⟩⟩, St.post (St.shut (L := [_, _]) (L' := []) H19) 0 rfl⟩
    · rw [if_neg (by rw [h10]; exact Bool.false_ne_true)] at hrun H16
      rw [hrun]
      have H19 := (St.shut (L := [_, _, _]) (L' := [_]) (H16.pick [4, 2, 1, 0])).pick [1, 0]
      exact ⟨_, _, rfl, ⟨k6, v, k2, B, B2, hB, hB2, rfl, .inl ⟨rfl, rfl⟩⟩, St.post (St.shut (L := [_, _]) (L' := []) H19) 0 rfl⟩
  rw [if_neg (by rw [h9]; exact Bool.false_ne_true)] at hrun H9
  rw [hrun]
  exact perr' H9 0 rfl (pfail_any 8 (H9.nth 0 rfl))
theorem ih_all [Inhabited G3o] : ∀ f, Ih f := by
  intro f
  induction f using Nat.strongRecOn with
  | _ f ih =>
    match f with
    | 0 => exact ⟨fun _ _ h => absurd rfl h, fun _ _ _ _ h => absurd rfl h, fun _ _ h => absurd rfl h, fun _ _ h => absurd rfl h, fun _ _ h => absurd rfl h, fun _ _ h => absurd rfl h⟩
    | f + 1 =>
      have I : ∀ f' ≤ f, Ih f' := fun f' hf => ih f' (by omega)
      have I0 := I f (Nat.le_refl _)
      exact ⟨expr_step I0, bin_step I, un_step I0, prim_step I, blk_step I, stmt_step I⟩
end Go.Proofs.YtojogkljneonmaaGreatDoor
/- The parser's declarations. No condition. -/
namespace Go.Proofs.YtojogkljneonmaaGreatDoor
open Go Go.Proofs Go.Sep Go.XHeap Go.RowKit Go.Lang
set_option linter.unusedVariables false
set_option linter.unusedSimpArgs false

variable {W : World} {b g n : Nat} {l : List Tok}
def varC (t : Tok) (nm : ByteArray) (w z : Int) : List Value := tkL t ++ [.string nm, .int .i64 w, .int .i64 z]
def fnC (t : Tok) (nm : ByteArray) (ps bd : Value) (sl no : Int) : List Value := tkL t ++ [.string nm, ps, bd, .int .i64 sl, .int .i64 no]
def strs (ps : List ByteArray) : List Value := ps.map .string
/-- a declaration in memory -/
def isDe : D → Value → Asn → Prop
  | .var t nm w z, v, A => ∃ k, v = .iface 125 (pt k) ∧ A = blk k (varC t nm w z).toArray 127
  | .fn t nm ps s no bd, v, A => ∃ k kb p c B, isP bd [.iface 113 (pt kb)] B ∧ v = .iface 63 (pt k) ∧ A = all [blk k (fnC t nm (.slice p ps.length c) (pt kb) s no).toArray 115, sl 9 1 (.slice p ps.length c) ps.length (strs ps), B]
theorem isD_one {d : D} {v : Value} {A : Asn} (h : isDe d v A) {φ : Prop} (hφ : φ) : Sx.one v φ := by
  cases d with
  | var => obtain ⟨k, rfl, -⟩ := h; exact hφ
  | fn => obtain ⟨k, kb, p, c, B, -, rfl, -⟩ := h; exact hφ
theorem isD_cell {d : D} {v : Value} {A : Asn} (h : isDe d v A) : v.oneCell' = true := by
  cases d with
  | var => obtain ⟨k, rfl, -⟩ := h; rfl
  | fn => obtain ⟨k, kb, p, c, B, -, rfl, -⟩ := h; rfl
/-! ### parameters -/
def parmL [Inhabited G3o] (b g n : Nat) (l : List Tok) (t : Tok) (nm : ByteArray) (kp kf k : Nat) (p : Option Addr) (c : Nat) (ps : List ByteArray) : List Asn :=
  [parA b g l n, blk kp #[pt b] 80, blk kf #[pt k] 63, blk k (fnC t nm (.slice p ps.length c) (.pointer none) 0 0).toArray 115, sl 9 1 (.slice p ps.length c) ps.length (strs ps)]
def parmR (m : Nat) (l : List Tok) : R ByteArray := name l fun t l => if m = 6 then .err t.line 3 else .ok t.s l
theorem decl1_any [Inhabited G3o] {t : Tok} {nm : ByteArray} {kp kf k c : Nat} {p : Option Addr} {ps : List ByteArray} (h : (all (parmL b g n l t nm kp kf k p c ps)).at_ W) (hps : ps.length ≤ 6) :
    Calls Tryz.prog 55 #[pt kp, pt kf] W (Ans (parW b) (all (parmL b g n l t nm kp kf k p c ps)) W (parmR ps.length l) fun s l' e w' => e = .returned (.tuple #[]) ∧ ∃ p' c', Post (all (parmL b g n l t nm kp kf k p c ps)) W (all (parmL b g n l' t nm kp kf k p' c' (ps ++ [s]))) w') := by
  refine vc55 kp 0 kf 0 ?_
  have H := St.open_ (L' := []) (St.begin h)
  refine ⟨_, H.ld 1 rfl (i := 0) rfl, ?_⟩
  have hrun : parmR ps.length l = (name l fun t l => R.ok t l).bind fun t l => if ps.length = 6 then .err t.line 3 else .ok t.s l := by
    unfold parmR
    unfold name
    split
    · rfl
    · split <;> rfl
  generalize parmR ps.length l = R0 at *
  refine (name_any (H.nth 0 rfl)).mono ?_
  intro e w2 he
  cases hb : (name l fun t l => R.ok t l) with
  | out =>
    exfalso
    unfold name at hb
    split at hb
    · cases hb
    · split at hb <;> cases hb
  | err line en =>
    rw [hb] at he hrun
    obtain ⟨q, rfl, hp⟩ := he
    rw [show R0 = .err line en from hrun]
    exact .inr ⟨_, rfl, q, rfl, (H.upd 0 rfl hp).post 0 rfl⟩
  | ok u l1 =>
    rw [hb] at he hrun
    obtain ⟨rfl, hp⟩ := he
    have H2 := H.upd 0 rfl hp
    have hrun : R0 = if ps.length = 6 then .err u.line 3 else .ok u.s l1 := hrun
    refine .inl ⟨_, rfl, ?_⟩
    refine H2.al fun k3 w3 H3 => ?_
    refine H3.sts0 5 (n := 3) (vs := (tkL u).toArray) rfl rfl rfl (by simpa using tkL_one _) fun w4 H4 => ?_
    refine H4.dr fun w5 H5 => ?_
    refine ⟨_, H5.ld 2 rfl (i := 0) rfl, ptr_some ⟨p, ps.length, c, H5.ld 3 rfl (i := 4) rfl, _, H5.ld 5 rfl (i := 1) rfl, _, H5.ld 2 rfl (i := 0) rfl, ?_⟩⟩
    refine H5.alb fun k5 w6 H6 _ hb6 => ?_
    refine ⟨hb6, ⟨_, H6.ld 2 rfl (i := 0) rfl, rfl⟩, ?_⟩
    refine H6.app 4 rfl [.string u.s] (.inr ⟨_, rfl, fun j v hj => ?_⟩) rfl (by simp; rfl) (by show ps.length + 1 ≤ maxLen; unfold maxLen; omega) (by omega) fun p' c' w7 H7 => ?_
    · match j, hj with
      | 0, hj => cases hj; exact H6.ld 6 rfl (i := 0) rfl
    refine ⟨⟨_, H7.ld 2 rfl (i := 0) rfl, rfl⟩, ptr_some (H7.st 3 rfl (i := 4) (by simp [fnC, tkL]) fun w8 H8 => ?_)⟩
    refine ⟨_, H8.ld 2 rfl (i := 0) rfl, ptr_some ?_⟩
    have e1 : (ps ++ [u.s]).length = ps.length + 1 := by simp
    have e2 : strs (ps ++ [u.s]) = strs ps ++ [.string u.s] := by simp [strs]
    have H9 : St W (all (parmL b g n l t nm kp kf k p c ps)).own w8 (parmL b g n l1 t nm kp kf k p' c' (ps ++ [u.s]) ++ [blk k3 (tkL u).toArray 87]) := by
      unfold parmL
      rw [e1, e2]
      exact H8.pick [0, 1, 2, 3, 4, 5]
    refine ⟨p', ps.length + 1, c', by rw [← e1]; exact H9.ld 3 rfl (i := 4) rfl, ?_⟩
    refine Sx.split_of (fun h9 => ?_) (fun h9 => ?_)
    · have h9 := of_decide_eq_true h9
      rw [if_pos (by omega)] at hrun
      rw [hrun]
      refine ⟨_, H9.ld 5 rfl (i := 2) rfl, ?_⟩
      exact perr' H9 0 rfl (fail_in (H9.nth 0 rfl) u.line 3)
    · have h9 := of_decide_eq_false h9
      rw [if_neg (by omega)] at hrun
      rw [hrun]
      have H10 := St.shut (L := parmL b g n l1 t nm kp kf k p' c' (ps ++ [u.s])) (L' := [_]) H9
      exact ⟨rfl, p', c', H10.post 0 rfl⟩
theorem paramL_eq (m : Nat) (hm : m ≤ 6) (l : List Tok) : params.paramL (6 - m) l = (parmR m l).bind fun s l => if is cRP l then .ok [s] l.tail else want cComma l fun l => (params.paramL (6 - (m + 1)) l).bind fun r l => .ok (s :: r) l := by
  by_cases h6 : m = 6
  · subst h6
    show params.paramL 0 l = _
    rw [params.paramL]
    unfold parmR
    by_cases h1 : (now l).k ≠ 1
    · simp only [name, if_pos h1, R.bind]
    · by_cases h2 : 16 < (now l).s.size
      · simp only [name, if_neg h1, if_pos h2, R.bind]
      · simp only [name, if_neg h1, if_neg h2, if_true, R.bind]
  · rw [show 6 - m = (6 - (m + 1)) + 1 by omega]
    rw [params.paramL]
    generalize 6 - (m + 1) = q
    unfold parmR
    by_cases h1 : (now l).k ≠ 1
    · rw [name, if_pos h1]
      show _ = R.bind (name l _) _
      rw [name, if_pos h1]; rfl
    · by_cases h2 : 16 < (now l).s.size
      · rw [name, if_neg h1, if_pos h2]
        show _ = R.bind (name l _) _
        rw [name, if_neg h1, if_pos h2]; rfl
      · rw [name, if_neg h1, if_neg h2]
        show _ = R.bind (name l _) _
        rw [name, if_neg h1, if_neg h2, if_neg h6]; rfl
theorem list_decl [Inhabited G3o] {t : Tok} {nm : ByteArray} {kp kf k : Nat} (h : (all (parmL b g n l t nm kp kf k none 0 [])).at_ W) :
    Calls Tryz.prog 54 #[pt b, .func (.func 55) #[] #[pt kp, pt kf]] W (Ans (parW b) (all (parmL b g n l t nm kp kf k none 0 [])) W (want cLP l fun l => params 6 l) fun ps l' e w' => e = .returned (.tuple #[]) ∧ ∃ p c, Post (all (parmL b g n l t nm kp kf k none 0 [])) W (all (parmL b g n l' t nm kp kf k p c ps)) w') := by
  refine vc54d b 0 kp kf ?_
  have H := St.open_ (L' := []) (St.begin h)
  generalize hR : (want cLP l fun l => params 6 l) = R0 at *
  have hrun := hR.symm
  unfold want at hrun
  cases hi : is cLP l with
  | false =>
    rw [hi] at hrun
    rw [show R0 = .err (now l).line 8 from hrun]
    exact perr H 0 rfl (want_no (s := cLP) (H.nth 0 rfl) hi)
  | true =>
  rw [hi] at hrun
  refine (want_yes (s := cLP) (H.nth 0 rfl) hi).mono ?_
  rintro _ w2 ⟨rfl, hp⟩
  have H2 := H.upd 0 rfl hp
  refine .inl ⟨rfl, ?_⟩
  have hrun : R0 = params 6 l.tail := hrun
  refine (take_any cRP (H2.nth 0 rfl)).mono ?_
  rintro _ w3 ⟨rfl, hp⟩
  have H3 := H2.upd 0 rfl hp
  refine ⟨_, rfl, ?_⟩
  refine ⟨fun more w => ∃ ps p c l1, St W (all (parmL b g n l t nm kp kf k none 0 [])).own w (parmL b g n l1 t nm kp kf k p c ps) ∧ ps.length ≤ 6 ∧ (match more with
    | true => R0 = (params.paramL (6 - ps.length) l1).bind fun r l' => .ok (ps ++ r) l'
    | false => R0 = .ok ps l1), fun more w => match more with | true => lenAt b w + 1 | false => 0, ?_, fun _ => ?_⟩
  · have hrun : R0 = if is cRP l.tail then .ok [] l.tail.tail else params.paramL 6 l.tail := hrun
    cases hi2 : is cRP l.tail with
    | true =>
      rw [hi2] at hrun
      rw [if_pos hi2] at H3
      exact ⟨[], none, 0, l.tail.tail, H3, by simp, hrun⟩
    | false =>
      rw [hi2] at hrun
      rw [if_neg (by rw [hi2]; exact Bool.false_ne_true)] at H3
      refine ⟨[], none, 0, l.tail, H3, by simp, ?_⟩
      show R0 = (params.paramL 6 l.tail).bind fun r l' => .ok ([] ++ r) l'
      rw [show R0 = params.paramL 6 l.tail from hrun]
      cases params.paramL 6 l.tail <;> rfl
  · rintro more w4 ⟨ps, p, c, l1, H4, hps, hm⟩
    refine Sx.split_of (fun hm1 => ?_) (fun hm1 => ?_)
    · subst hm1
      have hm : R0 = (params.paramL (6 - ps.length) l1).bind fun r l' => .ok (ps ++ r) l' := hm
      have H5 := St.shut (L' := []) (by simpa using H4)
      refine (decl1_any (H5.nth 0 rfl) hps).mono ?_
      intro e w6 he
      have hnm := paramL_eq ps.length hps l1
      cases hb : parmR ps.length l1 with
      | out =>
        exfalso
        unfold parmR name at hb
        split at hb
        · cases hb
        · split at hb
          · cases hb
          · split at hb <;> cases hb
      | err line en =>
        rw [hb] at he hnm
        rw [hnm] at hm
        obtain ⟨q, rfl, hp⟩ := he
        rw [show R0 = .err line en from hm]
        exact .inr ⟨_, rfl, _, rfl, (H5.upd 0 rfl hp).post 0 rfl⟩
      | ok s l2 =>
        rw [hb] at he hnm
        rw [hnm] at hm
        obtain ⟨rfl, p', c', hp⟩ := he
        have H6 := St.open_ (L' := []) (H5.upd 0 rfl hp)
        have h6 : ps.length ≠ 6 ∧ l2.length < l1.length := by
          unfold parmR at hb
          obtain ⟨h1, h2⟩ := name_ok hb
          by_cases h6 : ps.length = 6
          · rw [if_pos h6] at h2; cases h2
          · rw [if_neg h6] at h2
            cases h2
            exact ⟨h6, tail_lt (by omega)⟩
        have hu : (ps ++ [s]).length = ps.length + 1 := by simp
        have hm : R0 = (if is cRP l2 then R.ok [s] l2.tail else want cComma l2 fun l => (params.paramL (6 - (ps.length + 1)) l).bind fun r l => .ok (s :: r) l).bind fun r l' => .ok (ps ++ r) l' := hm
        refine .inl ⟨rfl, ?_⟩
        refine (take_any cRP (H6.nth 0 rfl)).mono ?_
        rintro _ w7 ⟨rfl, hp⟩
        have H7 := H6.upd 0 rfl hp
        refine ⟨_, rfl, ?_⟩
        cases hi2 : is cRP l2 with
        | true =>
          rw [hi2] at hm
          rw [if_pos hi2] at H7
          exact ⟨⟨ps ++ [s], p', c', l2.tail, H7, by rw [hu]; omega, hm⟩, by show 0 < lenAt b w4 + 1; omega⟩
        | false =>
          rw [hi2] at hm
          rw [if_neg (by rw [hi2]; exact Bool.false_ne_true)] at H7
          have hm : R0 = (want cComma l2 fun l => (params.paramL (6 - (ps.length + 1)) l).bind fun r l => .ok (s :: r) l).bind fun r l' => .ok (ps ++ r) l' := hm
          unfold want at hm
          cases hi3 : is cComma l2 with
          | false =>
            rw [hi3] at hm
            rw [show R0 = .err (now l2).line 8 from hm]
            exact perr H7 0 rfl (want_no (s := cComma) (H7.nth 0 rfl) hi3)
          | true =>
            rw [hi3] at hm
            refine (want_yes (s := cComma) (H7.nth 0 rfl) hi3).mono ?_
            rintro _ w8 ⟨rfl, hp⟩
            have H8 := H7.upd 0 rfl hp
            have h8 := tail_lt (l := l2) (by rw [is_k hi3]; omega)
            refine .inl ⟨rfl, ⟨ps ++ [s], p', c', l2.tail, H8, by rw [hu]; omega, ?_⟩, ?_⟩
            · show R0 = (params.paramL (6 - (ps ++ [s]).length) l2.tail).bind fun r l' => .ok (ps ++ [s] ++ r) l'
              rw [hu]
              rw [show R0 = ((params.paramL (6 - (ps.length + 1)) l2.tail).bind fun r l => .ok (s :: r) l).bind fun r l' => .ok (ps ++ r) l' from hm]
              cases params.paramL (6 - (ps.length + 1)) l2.tail with
              | ok xs l' => show R.ok _ _ = R.ok _ _; simp
              | err => rfl
              | out => rfl
            · show lenAt b w8 + 1 < lenAt b w4 + 1
              rw [lenAt_par (H8.nth 0 rfl), lenAt_par (H4.nth 0 rfl)]
              omega
    · subst hm1
      have hm : R0 = .ok ps l1 := hm
      rw [hm]
      exact ⟨rfl, p, c, St.post (St.shut (L' := []) (by simpa using H4)) 0 rfl⟩
end Go.Proofs.YtojogkljneonmaaGreatDoor
