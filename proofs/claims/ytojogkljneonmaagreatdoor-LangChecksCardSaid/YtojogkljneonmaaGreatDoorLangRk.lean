import Derived.Test.YtojogkljneonmaaGreatDoorLangRl
import Derived.Test.YtojogkljneonmaaGreatDoorLangZi
import Derived.Test.YtojogkljneonmaaGreatDoorLangRb
import Derived.Test.YtojogkljneonmaaGreatDoorLangX
import Derived.Test.YtojogkljneonmaaGreatDoorLangRg
import Derived.Test.YtojogkljneonmaaGreatDoorLangZd
/- The parser's declarations, whole. No condition. -/
namespace Go.Proofs.YtojogkljneonmaaGreatDoor
open Go Go.Proofs Go.Sep Go.XHeap Go.RowKit Go.Lang
set_option linter.unusedVariables false
set_option linter.unusedSimpArgs false

variable {W : World} {b g n : Nat} {l : List Tok}
theorem number_is {l l1 : List Tok} {v : Int} (h : (number l fun v l => R.ok v l) = .ok v l1) : ∃ k : Nat, v = k ∧ k < 4294967296 := by
  unfold number at h
  split at h
  · cases h
  · split at h
    · cases h
    · cases h; exact ⟨_, rfl, by omega⟩
/-- a declaration is read -/
def DeclK [Inhabited G3o] (b g : Nat) (W : World) (A : Asn) (d : D) (l' : List Tok) (e : Ending) (w' : World) : Prop := ∃ v B, e = .returned v ∧ isD d v B ∧ Post A W (all [parA b g l' 0, B]) w'
theorem decl_any [Inhabited G3o] {f : Nat} (h : (parA b g l 0).at_ W) (hr : decl f l ≠ .out) : Calls Tryz.prog 26 #[pt b] W (Ans (parW b) (parA b g l 0) W (decl f l) (DeclK b g W (parA b g l 0))) := by
  refine vc26 b 0 ?_
  have I0 := ih_all f
  have hrun : decl f l = if is cVar l then (name l.tail fun t l => R.ok t l).bind fun nm l' =>
      if is cLB l' then (number l'.tail fun v l => R.ok v l).bind fun v l'' => if v < 1 ∨ 256 < v then .err (now l'.tail).line 3 else (want cRB l'' fun l => R.ok () l).bind fun _ l'' => (want cSemi l'' fun l => R.ok () l).bind fun _ l'' => .ok (.var (now l) nm.s 0 v) l''
      else (want cSemi l' fun l => R.ok () l).bind fun _ l' => .ok (.var (now l) nm.s 0 0) l'
    else (want cFunc l fun l => R.ok () l).bind fun _ l' => (name l' fun t l => R.ok t l).bind fun nm l' => (want cLP l' fun l => params 6 l).bind fun ps l' => (run f .blk 0 l').bind fun b l' => .ok (.fn (now l) nm.s ps 0 0 b) l' := by
    unfold decl
    split
    · rw [name_bind]
      congr 1
      funext nm l'
      split
      · rw [number_bind]
        congr 1
        funext v l''
        split
        · rfl
        · rw [want_bind]
          congr 1
          funext _ l3
          rw [want_bind]
      · rw [want_bind]
    · rw [want_bind]
      congr 1
      funext _ l'
      rw [name_bind]
      congr 1
      funext nm l'
      unfold want
      split <;> rfl
  generalize decl f l = R0 at *
  refine (St.begin h).al fun k w2 H2 => ?_
  refine ⟨_, H2.ld 1 rfl (i := 0) rfl, ?_⟩
  refine H2.callq (now_any (H2.nth 0 rfl)) fun w3 H3 => ?_
  refine ⟨_, rfl, ?_⟩
  refine H3.al fun k2 w4 H4 => ?_
  refine H4.sts0 2 (n := 3) (vs := (tkL (now l)).toArray) rfl rfl rfl (by simpa using tkL_one _) fun w5 H5 => ?_
  refine ⟨_, H5.ld 1 rfl (i := 0) rfl, ?_⟩
  refine (take_any cVar (H5.nth 0 rfl)).mono ?_
  rintro _ w6 ⟨rfl, hp⟩
  have H6 := H5.upd 0 rfl hp
  refine ⟨_, rfl, ?_⟩
  refine Sx.split_of (fun h6 => ?_) (fun h6 => ?_)
  · rw [if_pos h6] at hrun H6
    refine H6.dr fun w7 H7 => ?_
    refine ⟨_, H7.ld 1 rfl (i := 0) rfl, _, rfl, H7.cells 2 rfl, ?_⟩
    refine pcase (β := Unit) H7 0 rfl hrun hr (fun _ => name_any (H7.nth 0 rfl)) ?_
    rintro nm l1 - hrun _ w8 ⟨rfl, hp⟩
    have H8 := H7.upd 0 rfl hp
    refine ⟨_, rfl, ⟨_, rfl, H8.cells 2 rfl, rfl⟩, _, rfl, rfl, ?_⟩
    rintro _ rfl
    refine H8.al fun k4 w9 H9 => ?_
    refine ⟨_, H9.ld 1 rfl (i := 0) rfl, ?_⟩
    refine (take_any cLB (H9.nth 0 rfl)).mono ?_
    rintro _ w10 ⟨rfl, hp⟩
    have H10 := H9.upd 0 rfl hp
    refine ⟨_, rfl, ?_⟩
    refine Sx.split_of (fun h10 => ?_) (fun h10 => ?_)
    · rw [if_pos h10] at hrun H10
      refine ⟨_, H10.ld 1 rfl (i := 0) rfl, ?_⟩
      refine H10.callq (now_any (H10.nth 0 rfl)) fun w11 H11 => ?_
      refine ⟨_, rfl, ?_⟩
      refine H11.al fun k5 w12 H12 => ?_
      refine H12.sts0 4 (n := 3) (vs := (tkL (now l1.tail)).toArray) rfl rfl rfl (by simpa using tkL_one _) fun w13 H13 => ?_
      refine ⟨_, H13.ld 1 rfl (i := 0) rfl, ?_⟩
      refine pcase (β := Unit) H13 0 rfl hrun hr (fun _ => number_any (H13.nth 0 rfl)) ?_
      rintro v l2 hnum hrun _ w14 ⟨rfl, hp⟩
      have H14 := H13.upd 0 rfl hp
      obtain ⟨q, rfl, hq⟩ := number_is hnum
      refine ⟨_, rfl, ?_⟩
      rintro _ rfl
      rw [show IntKind.wrap .i64 ((q : Nat) : Int) = ((q : Nat) : Int) from Go.Bits.n64 (by omega)]
      refine H14.st 3 rfl (i := 5) (by simp [tkL, Value.cells]) fun w15 H15 => ?_
      refine ⟨_, H15.ld 3 rfl (i := 5) rfl, ?_⟩
      refine Sx.split_of (fun h15 => ?_) (fun h15 => ?_)
      · have h15 := of_decide_eq_true h15
        rw [if_pos (.inl h15)] at hrun
        rw [hrun]
        refine ⟨_, H15.ld 4 rfl (i := 2) rfl, ?_⟩
        exact perr' H15 0 rfl (fail_in (H15.nth 0 rfl) (now l1.tail).line 3)
      have h15 := of_decide_eq_false h15
      refine ⟨_, H15.ld 3 rfl (i := 5) rfl, ?_⟩
      refine Sx.split_of (fun h16 => ?_) (fun h16 => ?_)
      · have h16 := of_decide_eq_true h16
        rw [if_pos (.inr h16)] at hrun
        rw [hrun]
        refine ⟨_, H15.ld 4 rfl (i := 2) rfl, ?_⟩
        exact perr' H15 0 rfl (fail_in (H15.nth 0 rfl) (now l1.tail).line 3)
      have h16 := of_decide_eq_false h16
      rw [if_neg (fun h => h.elim h15 (fun h => h16 h))] at hrun
      refine ⟨_, H15.ld 1 rfl (i := 0) rfl, ?_⟩
      refine pcase (β := Unit) H15 0 rfl hrun hr (fun _ => want_any cRB (H15.nth 0 rfl)) ?_
      rintro _ l3 - hrun _ w18 ⟨rfl, hp⟩
      have H18 := H15.upd 0 rfl hp
      refine ⟨rfl, _, H18.ld 1 rfl (i := 0) rfl, ?_⟩
      refine pcase (β := Unit) H18 0 rfl hrun hr (fun _ => want_any cSemi (H18.nth 0 rfl)) ?_
      rintro _ l4 - hrun _ w19 ⟨rfl, hp⟩
      have H19 := H18.upd 0 rfl hp
      rw [hrun]
      exact ⟨rfl, _, _, rfl, ⟨k4, rfl, rfl⟩, St.post (St.shut (L := [_, _]) (L' := []) (H19.pick [0, 3])) 0 rfl⟩
    · rw [if_neg (by rw [h10]; exact Bool.false_ne_true)] at hrun H10
      refine ⟨_, H10.ld 1 rfl (i := 0) rfl, ?_⟩
      refine pcase (β := Unit) H10 0 rfl hrun hr (fun _ => want_any cSemi (H10.nth 0 rfl)) ?_
      rintro _ l4 - hrun _ w19 ⟨rfl, hp⟩
      have H19 := H10.upd 0 rfl hp
      rw [hrun]
      exact ⟨rfl, _, _, rfl, ⟨k4, rfl, rfl⟩, St.post (St.shut (L := [_, _]) (L' := []) (H19.pick [0, 3])) 0 rfl⟩
  · rw [if_neg (by rw [h6]; exact Bool.false_ne_true)] at hrun H6
    refine ⟨_, H6.ld 1 rfl (i := 0) rfl, ?_⟩
    refine pcase (β := Unit) H6 0 rfl hrun hr (fun _ => want_any cFunc (H6.nth 0 rfl)) ?_
    rintro _ l1 - hrun _ w7 ⟨rfl, hp⟩
    have H7 := H6.upd 0 rfl hp
    refine ⟨rfl, ?_⟩
    refine ⟨fun x w => ∃ nm l2 kf kd, x = some ⟨kf, 0, none⟩ ∧ St W (parA b g l 0).own w (parmL b g 0 l2 (now l) nm k kf kd none 0 []) ∧ R0 = (want cLP l2 fun l => params 6 l).bind fun ps l' => (run f .blk 0 l').bind fun b l' => .ok (.fn (now l) nm ps 0 0 b) l', ?_, fun _ => ?_⟩
    · refine H7.dr fun w8 H8 => ?_
      refine ⟨_, H8.ld 1 rfl (i := 0) rfl, _, rfl, H8.cells 2 rfl, ?_, ?_⟩
      · refine pcase (β := Unit) H8 0 rfl hrun hr (fun _ => name_any (H8.nth 0 rfl)) ?_
        rintro nm l2 - hrun _ w9 ⟨rfl, hp⟩
        have H9 := H8.upd 0 rfl hp
        refine ⟨_, rfl, ⟨_, rfl, H9.cells 2 rfl, rfl⟩, _, rfl, rfl, ?_⟩
        rintro _ rfl
        refine ⟨?_, ?_⟩
        · refine H9.al fun k7 w10 H10 => ?_
          refine H10.al fun k8 w11 H11 => ?_
          refine H11.st 4 rfl (i := 0) (by simp) fun w12 H12 => ?_
          have H13 := (H12.pick [0, 1, 4, 3]).add (A := sl 9 1 (.slice none 0 0) 0 []) ⟨Sl.nil _ _ _, XTouch.refl _ _, fun q hq => by cases hq⟩
          exact ⟨nm.s, l2, k8, k7, rfl, H13, hrun⟩
        · refine H9.al fun k9 w10 H10 => ?_
          refine ⟨⟨_, rfl, H10.cells 2 rfl, rfl⟩, ?_⟩
          refine H10.al fun k10 w11 H11 => ?_
          refine H11.st 3 rfl (i := 0) (by simp) fun w12 H12 => ?_
          have H13 := (H12.pick [0, 1, 3, 4]).add (A := sl 9 1 (.slice none 0 0) 0 []) ⟨Sl.nil _ _ _, XTouch.refl _ _, fun q hq => by cases hq⟩
          exact ⟨nm.s, l2, k9, k10, rfl, H13, hrun⟩
      · refine H8.alb fun k11 w9 H9 _ hb9 => ?_
        refine ⟨hb9, ⟨_, rfl, H9.cells 2 rfl, rfl⟩, ?_⟩
        refine pcase (β := Unit) H9 0 rfl hrun hr (fun _ => name_any (H9.nth 0 rfl)) ?_
        rintro nm l2 - hrun _ w10 ⟨rfl, hp⟩
        have H10 := H9.upd 0 rfl hp
        refine ⟨_, rfl, ⟨_, rfl, H10.cells 2 rfl, rfl⟩, _, rfl, rfl, ?_⟩
        rintro _ rfl
        refine H10.al fun k12 w11 H11 => ?_
        refine H11.st 3 rfl (i := 0) (by simp) fun w12 H12 => ?_
        have H13 := (H12.pick [0, 1, 3, 4]).add (A := sl 9 1 (.slice none 0 0) 0 []) ⟨Sl.nil _ _ _, XTouch.refl _ _, fun q hq => by cases hq⟩
        exact ⟨nm.s, l2, k11, k12, rfl, H13, hrun⟩
    · clear hrun H7 hp
      rintro x w34 ⟨nm, l2, kf, kd, rfl, H8, hrun⟩
      refine ⟨_, H8.ld 1 rfl (i := 0) rfl, ?_⟩
      have H8 := St.shut (L' := []) (by simpa using H8)
      refine pcase (β := Unit) H8 0 rfl hrun hr (fun _ => list_decl (H8.nth 0 rfl)) ?_
      rintro ps l3 - hrun _ w9 ⟨rfl, p, c, hp⟩
      have H9 := St.open_ (L' := []) (H8.upd 0 rfl hp)
      refine ⟨rfl, ?_⟩
      refine H9.dr fun w10 H10 => ?_
      refine ⟨_, H10.ld 1 rfl (i := 0) rfl, ptr_some ⟨_, H10.ld 2 rfl (i := 0) rfl, ?_⟩⟩
      refine pcase (β := Unit) H10 0 rfl hrun hr (fun hr => I0.blk (H10.nth 0 rfl) (by omega) hr) ?_
      rintro y l4 - hrun _ w11 ⟨kb, B, rfl, hB, hp⟩
      have H11 := St.open_ (L := [_, _]) (H10.upd 0 rfl hp)
      refine ⟨_, rfl, ptr_some ⟨_, H11.ld 3 rfl (i := 0) rfl, rfl⟩, ptr_some ?_⟩
      refine H11.st 4 rfl (i := 5) (by simp [fnC, tkL]) fun w12 H12 => ?_
      refine ptr_some ⟨_, H12.ld 3 rfl (i := 0) rfl, ?_⟩
      rw [hrun]
      have H13 := (St.shut (L := [_, _, _]) (L' := [_]) (H12.pick [4, 5, 1, 0])).pick [1, 0]
      exact ⟨_, _, rfl, ⟨kd, kb, p, c, B, hB, rfl, rfl⟩, St.post (St.shut (L := [_, _]) (L' := []) H13) 0 rfl⟩
end Go.Proofs.YtojogkljneonmaaGreatDoor
/- A text is loaded: tokens, declarations, the check. No condition. -/
namespace Go.Proofs.YtojogkljneonmaaGreatDoor
open Go Go.Proofs Go.Sep Go.XHeap Go.RowKit Go.Lang
set_option linter.unusedVariables false
set_option linter.unusedSimpArgs false
variable {W : World}
/-- a declaration that was read, taken apart -/
theorem isD_dm [Inhabited G3o] {d : D} {v : Value} {B : Asn} (h : isD d v B) (hd : DOk d) : ∃ m : Dm, m.d = d ∧ gval m.g = v ∧ m.Ok ∧ m.New ∧ ∀ {w0 w : World} {M : Nat → Prop} {L : List Asn}, St w0 M w (B :: L) → St w0 M w (hdA m.g :: rsA m :: L) := by
  cases d with
  | var t nm w z =>
    obtain ⟨k, rfl, rfl⟩ := h
    refine ⟨⟨.var k t nm w z, [], .nil, emp⟩, rfl, rfl, hd, trivial, fun H => ?_⟩
    have := H.add (A := emp) ⟨trivial, XTouch.refl _ _, fun q hq => hq.elim⟩
    exact this.perm (List.Perm.cons _ (List.perm_append_singleton _ _))
  | fn t nm ps s no bd =>
    obtain ⟨k, kb, p, c, B', hP, rfl, rfl⟩ := h
    obtain ⟨rfl, h2, h3, h4⟩ := hd
    refine ⟨⟨.fn ⟨k, t, nm, ps.length, p, c, kb, no⟩ 0, ps, bd, B'⟩, rfl, rfl, ⟨rfl, hP, h3, h4, h2⟩, rfl, fun {w0 w M L} H => ?_⟩
    have H1 := St.open_ (L := [_, _, _]) H
    exact shut2 (A := hdA (.fn ⟨k, t, nm, ps.length, p, c, kb, no⟩ 0)) (Bs := [_, _]) (L := L) H1
/-- what the deferred closure makes of a fault -/
theorem load1_any [Inhabited G3o] {A0 : Asn} {w : World} {k k2 k3 b : Nat} {line en : Int} {v2 : Value} {L : List Asn} {v1 : Value} {z : Int} {Q : Ending → FrameMode → World → Prop}
    (H : St W A0.own w ([blk k #[v1] 44, blk k2 #[.int .i64 z] 3, blk k3 #[v2] 23, fltA b line en] ++ L))
    (hQ : ∀ w', St W A0.own w' ([blk k #[.pointer none] 44, blk k2 #[.int .i64 line] 3, blk k3 #[.iface 77 (pt b)] 23, fltA b line en] ++ L) → Q (.returned (.tuple #[])) (.panicking [⟨.iface 77 (pt b), true, false⟩]) w') :
    CallsD Tryz.prog 23 #[pt k, pt k2, pt k3] (.panicking (pan b)) w Q := by
  refine vc23 k 0 k2 0 k3 0 _ ?_
  refine nil_false (split_false (tag_eq ⟨_, rfl, ptr_some ⟨line, H.ld 3 rfl (i := 0) rfl, ?_⟩⟩))
  refine H.st 0 rfl (i := 0) (by simp) fun w2 H2 => ?_
  refine H2.st 1 rfl (i := 0) (by simp) fun w3 H3 => ?_
  refine H3.st 2 rfl (i := 0) (by simp) fun w4 H4 => ?_
  exact hQ w4 H4
def toC {α : Type} : R α → C α
  | .ok ds _ => .ok ds
  | .err l e => .err l e
  | .out => .err 0 0
/-- a text in plain Lean: its declarations -/
def parseP (f g : Nat) (s : List UInt8) : C (List D) := if 8000 < s.length then .err 0 1 else toC (decls f g (lex s 1))
/-- a program that was loaded -/
def Loaded [Inhabited G3o] (W : World) (q : List D × Nat) (kp : Nat) (w' : World) : Prop := ∃ (ms cur : List Dm) (km : Nat) (pf pd : Option Addr) (cf cd tot : Nat), cur.map Dm.d = q.1 ∧ (cur.map Dm.g).map gz = ((countM ms 0 0).map Dm.g).map gz ∧ (∀ m ∈ cur, m.Fit) ∧ Post globA W (all [globA, all (finL kp km pf cf pd cd (pt q.2) (tot : Int) (countM ms 0 0) cur)]) w'
/-- what Load hands back -/
def LoadK [Inhabited G3o] (W : World) (s : List UInt8) (f g : Nat) (e : Ending) (w' : World) : Prop := ∃ ad, match (parseP f g s).bind (check ad) with
  | .ok q => ∃ kp, e = .returned (.tuple #[pt kp, .int .i64 0, .nilIface]) ∧ Loaded W q kp w'
  | .err line en => ∃ v, e = .returned (.tuple #[.pointer none, .int .i64 line, v]) ∧ ((v = .iface 29 (.int .i64 en) ∧ Post globA W globA w') ∨ ∃ b, v = .iface 77 (pt b) ∧ Post globA W (all [globA, fltA b line en]) w')
theorem load_any [Inhabited G3o] {f g : Nat} (s : List UInt8) (hr : s.length ≤ 8000 → decls f g (lex s 1) ≠ .out) (h : globA.at_ W) : Calls Tryz.prog 12 #[.string (ofL s)] W (LoadK W s f g) := by
  refine vc12 (ofL s) ?_
  refine (St.begin h).al fun k w2 H2 => ?_
  refine H2.al fun k2 w3 H3 => ?_
  refine H3.al fun k3 w4 H4 => ?_
  refine Sx.split_of (fun hs => ?_) (fun hs => ?_)
  · have hs : 8000 < s.length := by have := of_decide_eq_true hs; rw [ofL_size] at this; omega
    refine H4.st 1 rfl (i := 0) (by simp) fun w5 H5 => ?_
    refine H5.st 2 rfl (i := 0) (by simp) fun w6 H6 => ?_
    refine H6.st 3 rfl (i := 0) (by simp) fun w7 H7 => ?_
    refine ⟨_, H7.ld 1 rfl (i := 0) rfl, _, H7.ld 2 rfl (i := 0) rfl, _, H7.ld 3 rfl (i := 0) rfl, fun _ => 0, ?_⟩
    unfold parseP
    rw [if_pos hs]
    exact ⟨_, rfl, .inl ⟨rfl, H7.post 0 rfl⟩⟩
  have hs : ¬ 8000 < s.length := by have := of_decide_eq_false hs; rw [ofL_size] at this; omega
  have hr := hr (by omega)
  rintro vs rfl
  refine H4.al fun k4 w8 H8 => ?_
  refine H8.st 1 rfl (i := 0) (by simp) fun w9 H9 => ?_
  refine (tokens_any s (by omega)).mono ?_
  rintro _ w10 ⟨p, c, rfl, hp⟩
  have H10 := H9.add hp
  refine ⟨_, _, _, rfl, ?_⟩
  rintro vs2 rfl
  refine H10.al fun k7 w11 H11 => ?_
  have hgood := good_lex (s := s) (by omega) 1
  obtain ⟨t0, l0, hl0⟩ := hgood.cons
  obtain ⟨gb, off, rfl⟩ : ∃ gb off, p = some ⟨gb, off, none⟩ := by
    have h1 : Sl w11 87 3 (.slice p (lex s 1).length c) (lex s 1).length ((lex s 1).flatMap tkL) := H11.nth 5 rfl
    rcases h1.2 with ⟨-, h2⟩ | ⟨gb, off, cap, cur, hv, -⟩
    · rw [hl0] at h2; simp at h2
    · simp at hv; exact ⟨gb, off, hv.1⟩
  have H12 : St W globA.own w11 (parL k7 gb off c (lex s 1) 0 ++ [blk k #[pt k4] 44, blk k2 #[.int .i64 0] 3, blk k3 #[.nilIface] 23, blk k4 #[.slice none 0 0, .pointer none, .int .i64 0, .slice none 0 0] 66]) := H11.pick [6, 5, 0, 1, 2, 3, 4]
  have H13 := par_shut hgood (by omega) H12
  have H14 := ((H13.add (A := sl 20 1 (.slice none 0 0) 0 []) ⟨Sl.nil _ _ _, XTouch.refl _ _, fun q hq => by cases hq⟩).add (A := all []) ⟨trivial, XTouch.refl _ _, fun q hq => hq.elim⟩).add (A := all []) ⟨trivial, XTouch.refl _ _, fun q hq => hq.elim⟩
  obtain ⟨R0, hR0⟩ : ∃ R0, R0 = decls f g (lex s 1) := ⟨_, rfl⟩
  have hpar : parseP f g s = toC R0 := by
    unfold parseP; rw [if_neg hs, hR0]
  have hout : R0 ≠ .out := by rw [hR0]; exact hr
  -- what a fault comes to
  have fault : ∀ {w : World} {L : List Asn} {b : Nat} {line en : Int} {ad : Nat → Nat} {v1 v2 : Value} {z : Int}, (parseP f g s).bind (check ad) = .err line en → St W globA.own w ([blk k #[v1] 44, blk k2 #[.int .i64 z] 3, blk k3 #[v2] 23, fltA b line en] ++ globA :: L) →
      CallsD Tryz.prog 23 #[pt k, pt k2, pt k3] (.panicking (pan b)) w fun e4 u W19 => (∃ v10 : Value, e4 = .returned v10 ∧ ((settle u = .returning ∧ ∃ p14 : Option Addr, W19.cell? ⟨k, 0, none⟩ = some (.pointer p14) ∧ ∃ z3 : Int, W19.cell? ⟨k2, 0, none⟩ = some (.int .i64 z3) ∧ ∃ v11 : Value, W19.cell? ⟨k3, 0, none⟩ = some v11 ∧ LoadK W s f g (.returned (.tuple #[.pointer p14, .int .i64 z3, v11])) W19) ∨ ∃ l4 : List PanicEntry, settle u = .panicking l4 ∧ LoadK W s f g (.panicked l4) W19)) ∨ ∃ l5 : List PanicEntry, e4 = .panicked l5 ∧ ∃ l6 : List PanicEntry, raised u l5 = .panicking l6 ∧ LoadK W s f g (.panicked l6) W19 := by
    intro w L b line en ad v1 v2 z he H
    refine load1_any H fun w' H' => .inl ⟨_, rfl, .inl ⟨rfl, _, H'.ld 0 rfl (i := 0) rfl, _, H'.ld 1 rfl (i := 0) rfl, _, H'.ld 2 rfl (i := 0) rfl, ad, ?_⟩⟩
    rw [he]
    refine ⟨_, rfl, .inr ⟨b, rfl, ?_⟩⟩
    have H2 := H'.pick [4, 3]
    exact St.post (St.shut (L := [globA, fltA b line en]) (L' := []) H2) 0 rfl
  refine ⟨fun w => ∃ (ms : List Dm) (l : List Tok) (g' : Nat) (pd : Option Addr) (cd : Nat), (∀ m ∈ ms, m.Ok ∧ m.New) ∧ ms.length + l.length ≤ 8001 ∧ R0 = (decls f g' l).bind (fun r l' => .ok (ms.map Dm.d ++ r) l') ∧
    St W globA.own w [parA k7 gb l 0, blk k #[pt k4] 44, blk k2 #[.int .i64 0] 3, blk k3 #[.nilIface] 23, blk k4 #[.slice none 0 0, .pointer none, .int .i64 0, .slice pd ms.length cd] 66, sl 20 1 (.slice pd ms.length cd) ms.length (ms.map fun m => gval m.g), all ((ms.map Dm.g).map hdA), all (ms.map rsA)], fun w => lenAt k7 w, ⟨[], lex s 1, g, none, 0, (fun m hm => by cases hm), by have := hgood.2.2.2; simpa using this, by rw [hR0]; cases decls f g (lex s 1) <;> rfl, H14⟩, fun _ w12 hI => ?_⟩
  obtain ⟨ms, l, g', pd, cd, hms, hlen, hR, H15⟩ := hI
  refine H15.callq (now_any (H15.nth 0 rfl)) fun w13 H16 => ?_
  refine ⟨_, rfl, _, rfl, ?_⟩
  cases g' with
  | zero => exact absurd (by rw [hR]; rfl) hout
  | succ g' =>
  have hR : R0 = ((if (now l).k = 0 then .ok [] l else (decl f l).bind fun d l => (decls f g' l).bind fun ds l => .ok (d :: ds) l) : R (List D)).bind (fun r l' => .ok (ms.map Dm.d ++ r) l') := hR
  refine Sx.split_of (fun hk => ?_) (fun hk => ?_)
  · have hk : ¬ (now l).k = 0 := fun e => by rw [e] at hk; cases hk
    rw [if_neg hk] at hR
    refine H16.dr fun w14 H17 => ?_
    refine ⟨_, H17.ld 1 rfl (i := 0) rfl, _, H17.ld 1 rfl (i := 0) rfl, ptr_some ⟨_, _, _, H17.ld 4 rfl (i := 3) rfl, ?_⟩⟩
    have hdne : decl f l ≠ .out := fun e => hout (by rw [hR, e]; rfl)
    refine (decl_any (H17.nth 0 rfl) hdne).mono ?_
    intro e w15 he
    cases hd : decl f l with
    | out => exact absurd hd hdne
    | err line en =>
      rw [hd] at he hR
      obtain ⟨b, rfl, hp⟩ := he
      have H18 := St.open_ (L := [fltA b line en, parW k7]) (H17.upd 0 rfl hp)
      have H19 : St W globA.own w15 (parW k7 :: [blk k #[pt k4] 44, blk k2 #[.int .i64 0] 3, blk k3 #[.nilIface] 23, fltA b line en]) := H18.pick [1, 2, 3, 4, 0]
      obtain ⟨v, z, H20⟩ := parW_open H19
      have H21 : St W globA.own w15 ([blk k #[pt k4] 44, blk k2 #[.int .i64 0] 3, blk k3 #[.nilIface] 23, fltA b line en] ++ globA :: []) := H20.pick [2, 3, 4, 5, 1]
      exact .inr ⟨_, rfl, fault (ad := fun _ => 0) (by rw [hpar, hR]; rfl) H21⟩
    | ok d l1 =>
      rw [hd] at he hR
      obtain ⟨v, B, rfl, hD, hp⟩ := he
      obtain ⟨hdok, hlt⟩ := decl_shape (by omega) hd
      obtain ⟨m, hm1, hm2, hm3, hm4, hm5⟩ := isD_dm hD hdok
      have H18 := St.open_ (L := [parA k7 gb l1 0, B]) (H17.upd 0 rfl hp)
      refine .inl ⟨v, rfl, ⟨_, _, _, H18.ld 5 rfl (i := 3) rfl, rfl⟩, ⟨_, H18.ld 2 rfl (i := 0) rfl, rfl⟩, ⟨_, H18.ld 2 rfl (i := 0) rfl, rfl⟩, isD_one hD ?_⟩
      refine H18.al fun ka w16 H19 => ⟨⟨_, _, _, H19.ld 5 rfl (i := 3) rfl, rfl⟩, ⟨_, H19.ld 2 rfl (i := 0) rfl, rfl⟩, ⟨_, H19.ld 2 rfl (i := 0) rfl, rfl⟩, ?_⟩
      refine H19.app 6 rfl [v] (.inr ⟨_, rfl, fun j u hj => ?_⟩) rfl (by simpa using isD_cell hD) (by show ms.length + 1 ≤ maxLen; unfold maxLen; omega) (by omega) fun p' c' w17 H20 => ?_
      · match j, hj with
        | 0, hj => cases hj; exact H19.ld 9 rfl (i := 0) rfl
      refine ⟨⟨_, H20.ld 2 rfl (i := 0) rfl, rfl⟩, ptr_some (H20.st 5 rfl (i := 3) (by simp) fun w18 H21 => ?_)⟩
      have H22 := hm5 (H21.pick [1, 0, 2, 3, 4, 5, 6, 7, 8])
      have H23 : St W globA.own w18 (all (ms.map rsA) :: rsA m :: [all ((ms.map Dm.g).map hdA), hdA m.g, parA k7 gb l1 0, blk k #[pt k4] 44, blk k2 #[.int .i64 0] 3, blk k3 #[.nilIface] 23, blk k4 #[.slice none 0 0, .pointer none, .int .i64 0, .slice p' (ms.length + 1) c'] 66, sl 20 1 (.slice p' (ms.length + 1) c') (ms.length + 1) ((ms.map fun m => gval m.g) ++ [v])]) := H22.pick [9, 1, 8, 0, 2, 3, 4, 5, 6, 7]
      have H24 := (St.push H23).pick [1, 2, 0, 3, 4, 5, 6, 7, 8]
      have H25 := (St.push H24).pick [2, 3, 4, 5, 6, 7, 0, 1]
      refine ⟨⟨ms ++ [m], l1, g', p', c', fun x hx => ?_, by simp; omega, ?_, ?_⟩, ?_⟩
      · rcases List.mem_append.1 hx with hx | hx
        · exact hms x hx
        · simp at hx; subst hx; exact ⟨hm3, hm4⟩
      · rw [hR]
        show ((decls f g' l1).bind fun ds l => .ok (d :: ds) l).bind _ = _
        cases decls f g' l1 with
        | ok r l' => simp [R.bind, hm1]
        | err a b => rfl
        | out => rfl
      · have e1 : (ms ++ [m]).length = ms.length + 1 := by simp
        rw [e1, List.map_append, List.map_append, List.map_append, List.map_append]
        simp only [List.map_cons, List.map_nil]
        rw [hm2]
        exact H25
      · show lenAt k7 w18 < lenAt k7 w12
        rw [lenAt_par (H25.nth 0 rfl), lenAt_par (H15.nth 0 rfl)]
        exact hlt
  · have hk : (now l).k = 0 := by
      have := bne_eq_false_iff_eq.1 hk
      omega
    rw [if_pos hk] at hR
    have hR : R0 = .ok (ms.map Dm.d) l := by rw [hR]; show R.ok (ms.map Dm.d ++ []) l = _; rw [List.append_nil]
    rw [hR] at hpar
    obtain ⟨-, -, off2, c2, H17⟩ := par_open H16
    refine ⟨_, H17.ld 3 rfl (i := 0) rfl, ?_⟩
    have H18 : St W globA.own w13 (rawL k4 pd cd ms ++ [globA, blk k #[pt k4] 44, blk k2 #[.int .i64 0] 3, blk k3 #[.nilIface] 23]) := H17.pick [6, 7, 8, 9, 2, 3, 4, 5]
    have H19 := St.shut (L := rawL k4 pd cd ms) H18
    refine (check_any (by omega) (fun m hm => (hms m hm).1) (fun m hm => (hms m hm).2) (H19.nth 0 rfl)).mono ?_
    intro e w14 he
    have hpc : (parseP f g s).bind (check (adOf (countM ms 0 0))) = check (adOf (countM ms 0 0)) (ms.map Dm.d) := by rw [hpar]; rfl
    cases hc : check (adOf (countM ms 0 0)) (ms.map Dm.d) with
    | err line en =>
      rw [hc] at he hpc
      obtain ⟨b, rfl, hp⟩ := he
      have H20 := H19.upd 0 rfl hp
      have H21 : St W globA.own w14 ([blk k #[pt k4] 44, blk k2 #[.int .i64 0] 3, blk k3 #[.nilIface] 23, fltA b line en] ++ globA :: []) := H20.pick [2, 3, 4, 0, 1]
      exact .inr ⟨_, rfl, fault hpc H21⟩
    | ok q =>
      rw [hc] at he hpc
      obtain ⟨rfl, cur, km, pf, cf, tot, hcur, hgz, hfit, hp⟩ := he
      have H20 := H19.upd 0 rfl hp
      refine .inl ⟨rfl, _, H20.ld 2 rfl (i := 0) rfl, ?_⟩
      refine H20.st 2 rfl (i := 0) (by simp) fun w15 H21 => ?_
      refine H21.st 3 rfl (i := 0) (by simp) fun w16 H22 => ?_
      refine H22.st 4 rfl (i := 0) (by simp) fun w17 H23 => ?_
      refine vc23z k 0 k2 0 k3 0 .nilIface ?_
      refine .inl ⟨_, rfl, .inl ⟨rfl, _, H23.ld 2 rfl (i := 0) rfl, _, H23.ld 3 rfl (i := 0) rfl, _, H23.ld 4 rfl (i := 0) rfl, adOf (countM ms 0 0), ?_⟩⟩
      rw [hpc]
      refine ⟨k4, rfl, ms, cur, km, pf, pd, cf, cd, tot, hcur, hgz, hfit, ?_⟩
      exact St.post (St.shut (L := [_, _]) (L' := []) (H23.pick [1, 0])) 0 rfl
end Go.Proofs.YtojogkljneonmaaGreatDoor
/- The reference's parser: a whole text. No condition. -/
namespace Go.Proofs.YtojogkljneonmaaGreatDoor
open Go Go.Proofs Go.Sep Go.XHeap Go.RowKit Go.Lang
set_option linter.unusedVariables false
set_option linter.unusedSimpArgs false
variable {W w0 w : World} {M : Nat → Prop} {L : List Asn} {R : Rx} {l : List Tok} {n : Nat} {line en : Int}
theorem toD_app : ∀ (ds es : List D), toD (ds ++ es) .nil = (toD ds .nil).app (toD es .nil)
  | [], es => rfl
  | .var t nm w z :: ds, es => by
    show Fo.cons _ _ _ _ _ _ (toD (ds ++ es) .nil) = Fo.cons _ _ _ _ _ _ ((toD ds .nil).app (toD es .nil))
    rw [toD_app ds es]
  | .fn t nm ps a b c :: ds, es => by
    show Fo.cons _ _ _ _ _ _ (toD (ds ++ es) .nil) = Fo.cons _ _ _ _ _ _ ((toD ds .nil).app (toD es .nil))
    rw [toD_app ds es]
theorem toD_len : ∀ (ds : List D), (toD ds .nil).len = ds.length
  | [] => rfl
  | .var .. :: ds => by simp only [toD, Fo.len, toD_len ds, List.length_cons]
  | .fn .. :: ds => by simp only [toD, Fo.len, toD_len ds, List.length_cons]
theorem rl_kind [Inhabited G3o] {φ : Int → Prop} (H : St w0 M w (rlA R l n :: L)) (hq : φ ((kR (now l).k : Nat) : Int)) : ∃ (p2 : Option Addr) (k k2 : Nat), w.cell? ⟨R.b, 0, none⟩ = some (.slice p2 k k2) ∧ ∃ z : Int, w.cell? ⟨R.b, 0 + 1, none⟩ = some (.int .i64 z) ∧ ((0 : Int) ≤ z ∧ z < (k : Int)) ∧ Sx.adr p2 fun k3 k4 => ∃ x : Int, w.cell? ⟨k3, k4 + z.toNat * 3, none⟩ = some (.int .u8 x) ∧ φ x := by
  obtain ⟨h0, a, h1, H⟩ := rl_open H
  have H := St.open_ H
  have ht := drop_now h1 h0.2.1
  have hat := (List.getElem?_eq_some_iff.1 ht).1
  refine ⟨_, _, _, H.ld 0 rfl (i := 0) rfl, _, H.ld 0 rfl (i := 1) rfl, ⟨by omega, by omega⟩, adr_some ⟨((kR (now l).k : Nat) : Int), ?_, hq⟩⟩
  exact rtok_at (H.nth 1 rfl) ht 0 (.int .u8 ((kR (now l).k : Nat) : Int)) rfl
def PK (W : World) (r : C (List D)) (e : Ending) (w' : World) : Prop := match r with
  | .ok ds => ∃ p c us B, e = .returned (.tuple #[.slice p ds.length c, .int .i64 0, .int .i64 0]) ∧ isF (toD ds .nil) us B ∧ Post emp W (all [sl 52 6 (.slice p ds.length c) ds.length us, B]) w'
  | .err line en => en ≠ 0 ∧ e = .returned (.tuple #[.slice none 0 0, .int .i64 line, .int .i64 en]) ∧ Hush W w'
def rpI [Inhabited G3o] (R : Rx) (f : Nat) (W : World) (R0 : Lang.R (List D)) (p : Option Addr) (m c : Nat) (w : World) : Prop :=
  (∃ ds l1 g' us B, isF (toD ds .nil) us B ∧ m = ds.length ∧ R0 = (decls f g' l1).bind (fun r l' => .ok (ds ++ r) l') ∧ ds.length + l1.length ≤ 8001 ∧ St W emp.own w [rlA R l1 0, sl 52 6 (.slice p m c) m us, B]) ∨
  (∃ line en, R0 = .err line en ∧ St W emp.own w [rdA R line en])
theorem rparse_any [Inhabited G3o] {f g : Nat} (s : List UInt8) (hr : s.length ≤ 8000 → decls f g (lex s 1) ≠ .out) : Calls Tryz.prog 13 #[.string (ofL s)] W (PK W (parseP f g s)) := by
  refine vc13 (ofL s) ?_
  refine Sx.split_of (fun hs => ?_) (fun hs => ?_)
  · have hs : 8000 < s.length := by have := of_decide_eq_true hs; rw [ofL_size] at this; omega
    unfold parseP
    rw [if_pos hs]
    exact ⟨by decide, rfl, XTouch.refl _ _⟩
  have hs : ¬ 8000 < s.length := by have := of_decide_eq_false hs; rw [ofL_size] at this; omega
  have hr := hr (by omega)
  refine (rtokens_any s (by omega)).mono ?_
  rintro _ w2 ⟨p, c, rfl, hp⟩
  have H2 := (St.nil W).add hp
  refine ⟨_, _, _, rfl, ?_⟩
  rintro vs rfl
  refine H2.al fun k3 w3 H3 => ?_
  have hgood := good_lex (s := s) (by omega) 1
  obtain ⟨t0, l0, hl0⟩ := hgood.cons
  obtain ⟨gb, off, rfl⟩ : ∃ gb off, p = some ⟨gb, off, none⟩ := by
    have h1 : Sl w3 96 3 (.slice p (lex s 1).length c) (lex s 1).length ((lex s 1).flatMap tkR) := H3.nth 0 rfl
    rcases h1.2 with ⟨-, h2⟩ | ⟨gb, off, cap, cur, hv, -⟩
    · rw [hl0] at h2; simp at h2
    · simp at hv; exact ⟨gb, off, hv.1⟩
  obtain ⟨R, hRx⟩ : ∃ R : Rx, R = ⟨k3, gb, off, c, lex s 1⟩ := ⟨_, rfl⟩
  have H4 : St W emp.own w3 [rlA R (lex s 1) 0] := by
    have h1 : St W emp.own w3 (rpL R 0 0 0 ((0 : Nat) : Int) ++ []) := by rw [hRx]; exact H3.pick [1, 0]
    exact rl_shut ⟨by rw [hRx]; exact hgood, hgood, by omega⟩ (by rw [hRx]; rfl) (St.shut (L := rpL R 0 0 0 ((0 : Nat) : Int)) h1)
  have H5 : St W emp.own w3 [rlA R (lex s 1) 0, sl 52 6 (.slice none 0 0) 0 [], all []] := (H4.add (A := sl 52 6 (.slice none 0 0) 0 []) ⟨Sl.nil _ _ _, XTouch.refl _ _, fun q hq => by cases hq⟩).add (A := all []) ⟨trivial, XTouch.refl _ _, fun q hq => hq.elim⟩
  obtain ⟨R0, hR0⟩ : ∃ R0, R0 = decls f g (lex s 1) := ⟨_, rfl⟩
  have hpar : parseP f g s = toC R0 := by
    unfold parseP; rw [if_neg hs, hR0]
  have hout : R0 ≠ .out := by rw [hR0]; exact hr
  have hb : k3 = R.b := by rw [hRx]
  rw [hpar]
  subst hb
  refine ⟨fun p m c w => rpI R f W R0 p m c w, fun _ _ _ w => rmeas R w, .inl ⟨[], lex s 1, g, [], _, ⟨rfl, rfl⟩, rfl, by rw [hR0]; cases decls f g (lex s 1) <;> rfl, by have := hgood.2.2.2; simpa using this, H5⟩, ?_⟩
  clear H5 H4 H3 H2 hp
  rintro _ p m c4 w4 (⟨ds, l1, g', us, B, hF, hm, hR, hlen, H⟩ | ⟨line, en, hR, H⟩)
  · refine rl_err H (Sx.split_of (fun _ => ?_) (fun h => by cases h))
    refine rl_kind H ?_
    refine H.drN fun w5 H5 => ?_
    cases g' with
    | zero => exact absurd (by rw [hR]; rfl) hout
    | succ g' =>
    have hR : R0 = ((if (now l1).k = 0 then .ok [] l1 else (decl f l1).bind fun d l => (decls f g' l).bind fun ds l => .ok (d :: ds) l) : Lang.R (List D)).bind (fun r l' => .ok (ds ++ r) l') := hR
    refine Sx.split_of (fun hk => ?_) (fun hk => ?_)
    · have hk : ¬ (now l1).k = 0 := fun e => by
        rw [show ((kR (now l1).k : Nat) : Int) = 101 from (kR_iff (.inr (.inr (.inr ⟨rfl, rfl⟩)))).2 e] at hk; cases hk
      rw [if_neg hk] at hR
      have hdne : decl f l1 ≠ .out := fun e => hout (by rw [hR, e]; rfl)
      refine (rdecl_any (H5.nth 0 rfl) hdne).mono ?_
      intro e w6 he
      cases hd : decl f l1 with
      | out => exact absurd hd hdne
      | err line en =>
        rw [hd] at he hR
        obtain ⟨vs, rfl, ho, hp⟩ := he
        have H6 := H5.upd 0 rfl hp
        refine ⟨_, rfl, ?_⟩
        refine H6.al fun k11 w7 H7 => ?_
        refine H7.sts0 3 (n := 6) (vs := vs.toArray) rfl (node_ones ho) rfl (by simpa using ho.2) fun w8 H8 => ?_
        refine cells_node H8 (k := 3) rfl ho.1 ⟨node_ones ho, ?_⟩
        refine H8.al fun k13 w9 H9 => ?_
        simp only [List.append_nil] at H9
        refine H9.app 1 rfl vs (.inr ⟨_, rfl, fun j v hj => ?_⟩) (by rw [ho.1]) ho.2 (by show m + 1 ≤ maxLen; unfold maxLen; omega) (by omega) fun p' c' w10 H10 => ?_
        · rw [show (Addr.add ⟨k13, 0, none⟩ j) = ⟨k13, j, none⟩ by simp [Addr.add]; intro e; exact e.symm]; exact H9.ld 4 rfl (i := j) (by simpa using hj)
        exact ⟨.inr ⟨line, en, hR, H10.pick [0]⟩, rmeas_ltd (H.nth 0 rfl) (H10.nth 0 rfl)⟩
      | ok d l2 =>
        rw [hd] at he hR
        obtain ⟨vs, B2, rfl, ho, hF2, hp⟩ := he
        obtain ⟨-, hlt⟩ := decl_shape (by omega) hd
        have H6 := St.open_ (L := [_, _]) (H5.upd 0 rfl hp)
        have hR : R0 = ((decls f g' l2).bind fun ds l => .ok (d :: ds) l : Lang.R (List D)).bind (fun r l' => .ok (ds ++ r) l') := hR
        refine ⟨_, rfl, ?_⟩
        refine H6.al fun k11 w7 H7 => ?_
        refine H7.sts0 4 (n := 6) (vs := vs.toArray) rfl (node_ones ho) rfl (by simpa using ho.2) fun w8 H8 => ?_
        refine cells_node H8 (k := 4) rfl ho.1 ⟨node_ones ho, ?_⟩
        refine H8.al fun k13 w9 H9 => ?_
        simp only [List.append_nil] at H9
        refine H9.app 2 rfl vs (.inr ⟨_, rfl, fun j v hj => ?_⟩) (by rw [ho.1]) ho.2 (by show m + 1 ≤ maxLen; unfold maxLen; omega) (by omega) fun p' c' w10 H10 => ?_
        · rw [show (Addr.add ⟨k13, 0, none⟩ j) = ⟨k13, j, none⟩ by simp [Addr.add]; intro e; exact e.symm]; exact H9.ld 5 rfl (i := j) (by simpa using hj)
        have H11 := H10.pick [3, 1, 0, 2]
        obtain ⟨C, hC, H12⟩ := two_rows hF hF2 H11
        rw [← toD_app] at hC
        have H13 : St W emp.own w10 [rlA R l2 0, sl 52 6 (.slice p' (m + 1) c') (m + 1) (us ++ vs), C] := H12.pick [1, 2, 0]
        refine ⟨.inl ⟨ds ++ [d], l2, g', _, C, hC, by simp [hm], ?_, by simp; omega, H13⟩, rmeas_lt (H.nth 0 rfl) (H13.nth 0 rfl) hlt⟩
        rw [hR]
        cases decls f g' l2 with
        | ok r l' => show Lang.R.ok (ds ++ (d :: r)) l' = Lang.R.ok (ds ++ [d] ++ r) l'; simp
        | err a b => rfl
        | out => rfl
    · have hk : (now l1).k = 0 := (kR_iff (.inr (.inr (.inr ⟨rfl, rfl⟩)))).1 (bne_eq_false_iff_eq.1 hk)
      rw [if_pos hk] at hR
      have hR : R0 = .ok ds l1 := by rw [hR]; show Lang.R.ok (ds ++ []) l1 = _; rw [List.append_nil]
      refine rl_err H5 (Sx.split_of (fun h => by cases h) (fun _ => ?_))
      rw [hR]
      subst hm
      refine ⟨p, c4, us, B, rfl, hF, ?_⟩
      exact St.new (St.shut (L := [_, _]) (L' := [rlA R l1 0]) (H5.pick [1, 2, 0])) 0 rfl
  · refine rd_err H (fun hen => Sx.split_of (fun h => absurd (beq_iff_eq.1 h) hen) (fun _ => ?_))
    refine H.drN fun w5 H5 => ?_
    refine rd_err H5 (fun hen => Sx.split_of (fun _ => ?_) (fun h => by rw [bne_eq_false_iff_eq] at h; exact absurd h hen))
    obtain ⟨h0, a, z, t, h1, H6⟩ := rd_open H5
    have H7 := St.open_ H6
    refine ⟨_, H7.ld 0 rfl (i := 2) rfl, _, H7.ld 0 rfl (i := 3) rfl, ?_⟩
    refine H5.drN fun w6 H8 => ?_
    rw [hR]
    exact ⟨hen, rfl, H8.touch⟩
end Go.Proofs.YtojogkljneonmaaGreatDoor
/- The reference's checker in plain Lean, over rows of nodes; it says what the plain checker says. No condition. -/
namespace Go.Lang
set_option linter.unusedVariables false
/-- a declaration as the reference's checker finds it: kind, value, number of names -/
abbrev Gf := ByteArray → Option (ByteArray × Int × Nat)
def globF : Fo → Gf
  | .nil, _ => none
  | .cons k n _ v _ ns r, s => if n = s then some (k, v, ns.length) else globF r s
def hasN (Ls : List ByteArray) (s : ByteArray) : Bool := Ls.any fun t => decide (t = s)
theorem hasN_iff {Ls : List ByteArray} {s : ByteArray} : hasN Ls s = true ↔ s ∈ Ls := by
  unfold hasN; rw [List.any_eq_true]
  exact ⟨fun ⟨t, h, e⟩ => (of_decide_eq_true e) ▸ h, fun h => ⟨s, h, decide_eq_true rfl⟩⟩
def fsc (g : Gf) (Ls : List ByteArray) (s : ByteArray) (line : Int) : C Unit :=
  if hasN Ls s then .ok () else match g s with
    | some (k, v, _) => if k ≠ cVar then .err line 9 else if 0 < v then .err line 9 else .ok ()
    | none => .err line 9
def farr (g : Gf) (Ls : List ByteArray) (s : ByteArray) (line : Int) : C Unit :=
  if hasN Ls s then .err line 9 else match g s with
    | some (k, v, _) => if k ≠ cVar then .err line 9 else if v = 0 then .err line 9 else .ok ()
    | none => .err line 9
def fcal (g : Gf) (Ls : List ByteArray) (s : ByteArray) (line : Int) (m : Nat) : C Unit :=
  if hasN Ls s then .err line 9 else match g s with
    | some (k, _, np) => if k ≠ cFunc then .err line 9 else if np ≠ m then .err line 9 else .ok ()
    | none => .err line 9
def fname (g : Gf) (Ls : List ByteArray) (k s : ByteArray) (line : Int) (m : Nat) : C Unit :=
  if k = cNameK then fsc g Ls s line else if k = cIndexK then farr g Ls s line else if k = cCallK then fcal g Ls s line m else .ok ()
/-- the names of a row of expressions -/
def finner (g : Gf) (Ls : List ByteArray) : Fo → C Unit
  | .nil => .ok ()
  | .cons k s line _ ks _ r => (fname g Ls k s line ks.len).bind fun _ => (finner g Ls ks).bind fun _ => finner g Ls r
def plusOf (k s : ByteArray) : Bool := decide (k = cCallK) || (decide (k = cBinK) && (!decide (s = ofL [38, 38])) && !decide (s = ofL [124, 124]))
/-- what a row of expressions needs, from a place on -/
def fneed (plus : Bool) : Fo → Nat → Nat
  | .nil, _ => 1
  | .cons k s _ _ ks _ r, i => max (fneed (plusOf k s) ks 0 + if plus then i else 0) (fneed plus r (i + 1))
/-- the first of a row, whole -/
def fwhole (g : Gf) (Ls : List ByteArray) (beside : Nat) : Fo → C Unit
  | .nil => .ok ()
  | .cons k s line _ ks _ _ => (fname g Ls k s line ks.len).bind fun _ => (finner g Ls ks).bind fun _ => if 8 < fneed (plusOf k s) ks 0 + beside then .err line 4 else .ok ()
def fdecl (g : Gf) (Ls : List ByteArray) (n : Nat) (line : Int) (s : ByteArray) : C (List ByteArray × Nat) :=
  if (g s).isSome || hasN Ls s then .err line 9 else if 24 < n + 1 then .err line 4 else .ok (Ls ++ [s], n + 1)
def fpre (g : Gf) (Ls : List ByteArray) (k s : ByteArray) (line : Int) : C Unit :=
  if k = cSetK then fsc g Ls s line else if k = cPutK then farr g Ls s line else .ok ()
def Fo.tl : Fo → Fo
  | .nil => .nil
  | .cons _ _ _ _ _ _ r => r
def Fo.sz : Fo → Nat
  | .nil => 0
  | .cons _ _ _ _ ks _ r => ks.sz + r.sz + 1
theorem Fo.tl_le (f : Fo) : f.tl.sz ≤ f.sz := by
  cases f with
  | nil => exact Nat.le_refl _
  | cons => simp only [Fo.tl, Fo.sz]; omega
/-- a row of statements: what is visible behind it, how many locals there were -/
def fst' (g : Gf) : Fo → List ByteArray → Nat → C (List ByteArray × Nat)
  | .nil, Ls, n => .ok (Ls, n)
  | .cons k s line v ks ns r, Ls, n =>
    (if k = cBlockK then (fst' g ks Ls n).bind fun p => .ok (Ls, p.2)
      else (fpre g Ls k s line).bind fun _ => (fwhole g Ls 0 ks).bind fun _ =>
        if k = cLet then fdecl g Ls n line s
        else if k = cPutK then (fwhole g Ls 1 ks.tl).bind fun _ => .ok (Ls, n)
        else if k = cIf ∨ k = cWhile then fst' g ks.tl Ls n
        else .ok (Ls, n)).bind fun p => fst' g r p.1 p.2
termination_by f => f.sz
decreasing_by
  all_goals simp only [Fo.sz]
  all_goals (try have := Fo.tl_le ks)
  all_goals omega
def fpars (g : Gf) (line : Int) : List ByteArray → List ByteArray → Nat → C (List ByteArray × Nat)
  | [], Ls, n => .ok (Ls, n)
  | p :: ps, Ls, n => (fdecl g Ls n line p).bind fun q => fpars g line ps q.1 q.2
/-- declarations behind others: their names, their words -/
def fcr (g : Gf) : List ByteArray → Nat → Fo → C Unit
  | _, _, .nil => .ok ()
  | seen, w, .cons k s line v ks ns r =>
    (if hasN seen s then .err line 9 else if k = cVar then (if 512 < w + (if v = 0 then 1 else v.toNat) then .err line 1 else .ok ())
      else (fpars g line ns [] 0).bind fun p => (fst' g ks p.1 p.2).bind fun _ => .ok ()).bind fun _ => fcr g (seen ++ [s]) (w + (if k = cVar then (if v = 0 then 1 else v.toNat) else v.toNat)) r
def fcheck (f : Fo) : C Unit := (fcr (globF f) [] 0 f).bind fun _ => match globF f cMain with
  | some (k, _, np) => if k ≠ cFunc then .err 0 9 else if 0 < np then .err 0 9 else .ok ()
  | none => .err 0 9
/-! ### the same as the plain checker -/
def C.er {α : Type} : C α → C Unit
  | .ok _ => .ok ()
  | .err l e => .err l e
/-- what is looked up is the same -/
def RelG (lk : Lk) (g : Gf) : Prop := ∀ s, match lk s with
  | none => g s = none
  | some (.var _ z) => ∃ m, g s = some (cVar, z, m)
  | some (.fn _ np) => ∃ v, g s = some (cFunc, v, np)
theorem localOf_iff (Ls : Lcs) (s : ByteArray) : 0 ≤ localOf Ls s ↔ hasN (Ls.map Prod.fst) s = true := by
  rw [hasN_iff]
  unfold localOf
  cases h : Ls.find? fun p => decide (p.1 = s) with
  | some p =>
    have h1 := List.mem_of_find?_eq_some h
    have h2 := List.find?_some h
    simp only [decide_eq_true_eq] at h2
    exact ⟨fun _ => List.mem_map.2 ⟨p, h1, h2⟩, fun _ => by show (0 : Int) ≤ (p.2 : Int); omega⟩
  | none =>
    rw [List.find?_eq_none] at h
    refine ⟨fun h => by exact absurd h (by show ¬ (0 : Int) ≤ -1; omega), fun h2 => ?_⟩
    obtain ⟨p, hp, e⟩ := List.mem_map.1 h2
    exact absurd (by simpa using e) (h p hp)
variable {lk : Lk} {g : Gf}
theorem fsc_eq (hR : RelG lk g) (Ls : Lcs) (t : Tok) (w : Int) : fsc g (Ls.map Prod.fst) t.s t.line = (cword lk Ls t w).er := by
  unfold fsc cword
  have := hR t.s
  by_cases h : 0 ≤ localOf Ls t.s
  · rw [if_pos h, if_pos ((localOf_iff Ls t.s).1 h)]; rfl
  · rw [if_neg h, if_neg (fun e => h ((localOf_iff Ls t.s).2 e))]
    cases hl : lk t.s with
    | none => rw [hl] at this; rw [this]; rfl
    | some x =>
      rw [hl] at this
      cases x with
      | var wd z =>
        obtain ⟨m, hg⟩ := this
        rw [hg]
        simp only [ne_eq, not_true_eq_false, if_false]
        by_cases hz : 0 < z
        · rw [if_pos hz, if_pos hz]; rfl
        · rw [if_neg hz, if_neg hz]; rfl
      | fn k np =>
        obtain ⟨v, hg⟩ := this
        rw [hg]
        simp only
        rw [if_pos (by decide)]; rfl
theorem farr_eq (hR : RelG lk g) (Ls : Lcs) (t : Tok) : farr g (Ls.map Prod.fst) t.s t.line = (carr lk Ls t).er := by
  unfold farr carr
  have := hR t.s
  by_cases h : 0 ≤ localOf Ls t.s
  · rw [if_pos ((localOf_iff Ls t.s).1 h)]
    cases hl : lk t.s with
    | none => rfl
    | some x =>
      cases x with
      | var wd z =>
        simp only
        by_cases hz : z = 0
        · rw [if_pos hz]; rfl
        · rw [if_neg hz, if_pos h]; rfl
      | fn k np => rfl
  · rw [if_neg (fun e => h ((localOf_iff Ls t.s).2 e))]
    cases hl : lk t.s with
    | none => rw [hl] at this; rw [this]; rfl
    | some x =>
      rw [hl] at this
      cases x with
      | var wd z =>
        obtain ⟨m, hg⟩ := this
        rw [hg]
        simp only [ne_eq, not_true_eq_false, if_false]
        by_cases hz : z = 0
        · rw [if_pos hz, if_pos hz]; rfl
        · rw [if_neg hz, if_neg hz, if_neg h]; rfl
      | fn k np =>
        obtain ⟨v, hg⟩ := this
        rw [hg]
        simp only
        rw [if_pos (by decide)]; rfl
end Go.Lang
