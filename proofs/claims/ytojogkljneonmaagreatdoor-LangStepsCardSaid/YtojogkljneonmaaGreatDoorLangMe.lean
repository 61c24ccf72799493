import Derived.Test.YtojogkljneonmaaGreatDoorLangM
import Derived.Test.YtojogkljneonmaaGreatDoorLangZi
import Derived.Test.YtojogkljneonmaaGreatDoorLangL
import Derived.Test.YtojogkljneonmaaGreatDoorLangY
import Derived.Test.YtojogkljneonmaaGreatDoorLangVf
import Derived.Test.YtojogkljneonmaaGreatDoorAluH
/- A text is loaded: tokens, declarations, the check. No condition. -/
namespace Go.Proofs.YtojogkljneonmaaGreatDoor
open Go Go.Proofs Go.Sep Go.XHeap Go.RowKit Go.Lang
set_option linter.unusedVariables false
set_option linter.unusedSimpArgs false
variable {W : World}
/-- a declaration that was read, taken apart -/
theorem isD_dm [Inhabited G3o] {d : D} {v : Value} {B : Asn} (h : isDe d v B) (hd : DOk d) : ∃ m : Dm, m.d = d ∧ gval m.g = v ∧ m.Ok ∧ m.New ∧ ∀ {w0 w : World} {M : Nat → Prop} {L : List Asn}, St w0 M w (B :: L) → St w0 M w (hdA m.g :: rsA m :: L) := by
  cases d with
  | var t nm w z =>
    obtain ⟨k, rfl, rfl⟩ := h
    refine ⟨⟨.var k t nm w z, [], .nil, emp⟩, rfl, rfl, hd, trivial, fun H => ?_⟩
    have := H.add (A := emp) ⟨trivial, XTouch.refl _ _, fun q hq => hq.elim⟩
    exact this.perm (List.Perm.cons _ (List.perm_append_singleton _ _))
  | fn t nm ps s no bd =>
    obtain ⟨k, kb, p, c, B', hP, rfl, rfl⟩ := h
    obtain ⟨rfl, h2, h3, h4⟩ := hd
    refine ⟨⟨.fn ⟨k, t, nm, ps.length, p, c, kb, no⟩ 0, ps, bd, B'⟩, rfl, rfl, ⟨rfl, hP, h3, h4, h2⟩, rfl, fun {w0 w M L} H => ?_⟩
    have H1 := St.open_ (L := [_, _, _]) H
    exact shut2 (A := hdA (.fn ⟨k, t, nm, ps.length, p, c, kb, no⟩ 0)) (Bs := [_, _]) (L := L) H1
/-- what the deferred closure makes of a fault -/
theorem load1_any [Inhabited G3o] {A0 : Asn} {w : World} {k k2 k3 b : Nat} {line en : Int} {v2 : Value} {L : List Asn} {v1 : Value} {z : Int} {Q : Ending → FrameMode → World → Prop}
    (H : St W A0.own w ([blk k #[v1] 44, blk k2 #[.int .i64 z] 3, blk k3 #[v2] 23, fltA b line en] ++ L))
    (hQ : ∀ w', St W A0.own w' ([blk k #[.pointer none] 44, blk k2 #[.int .i64 line] 3, blk k3 #[.iface 77 (pt b)] 23, fltA b line en] ++ L) → Q (.returned (.tuple #[])) (.panicking [⟨.iface 77 (pt b), true, false⟩]) w') :
    CallsD Tryz.prog 23 #[pt k, pt k2, pt k3] (.panicking (pan b)) w Q := by
  refine vc23 k 0 k2 0 k3 0 _ ?_
  refine nil_false (split_false (tag_eq ⟨_, rfl, ptr_some ⟨line, H.ld 3 rfl (i := 0) rfl, ?_⟩⟩))
  refine H.st 0 rfl (i := 0) (by simp) fun w2 H2 => ?_
  refine H2.st 1 rfl (i := 0) (by simp) fun w3 H3 => ?_
  refine H3.st 2 rfl (i := 0) (by simp) fun w4 H4 => ?_
  exact hQ w4 H4
def toC {α : Type} : R α → C α
  | .ok ds _ => .ok ds
  | .err l e => .err l e
  | .out => .err 0 0
/-- a text in plain Lean: its declarations -/
def parseP (f g : Nat) (s : List UInt8) : C (List D) := if 8000 < s.length then .err 0 1 else toC (decls f g (lex s 1))
/-- a program that was loaded -/
def Loaded [Inhabited G3o] (W : World) (ad : Nat → Nat) (r : C (List D)) (q : List D × Nat) (kp : Nat) (w' : World) : Prop := ∃ (ms cur : List Dm) (km : Nat) (pf pd : Option Addr) (cf cd tot : Nat), ad = adOf (countM ms 0 0) ∧ r = .ok (ms.map Dm.d) ∧ (∀ m ∈ ms, m.Ok) ∧ tot = gtot ((countM ms 0 0).map Dm.g) ∧ cur.map Dm.d = q.1 ∧ (cur.map Dm.g).map gz = ((countM ms 0 0).map Dm.g).map gz ∧ (∀ m ∈ cur, m.Fit) ∧ Post globA W (all [globA, all (finL kp km pf cf pd cd (pt q.2) (tot : Int) (countM ms 0 0) cur)]) w'
/-- what Load hands back -/
def LoadK [Inhabited G3o] (W : World) (s : List UInt8) (f g : Nat) (e : Ending) (w' : World) : Prop := ∃ ad, match (parseP f g s).bind (check ad) with
  | .ok q => ∃ kp, e = .returned (.tuple #[pt kp, .int .i64 0, .nilIface]) ∧ Loaded W ad (parseP f g s) q kp w'
  | .err line en => ∃ v, e = .returned (.tuple #[.pointer none, .int .i64 line, v]) ∧ ((v = .iface 29 (.int .i64 en) ∧ Post globA W globA w') ∨ ∃ b, v = .iface 77 (pt b) ∧ Post globA W (all [globA, fltA b line en]) w')
theorem load_any [Inhabited G3o] {f g : Nat} (s : List UInt8) (hr : s.length ≤ 8000 → decls f g (lex s 1) ≠ .out) (h : globA.at_ W) : Calls Tryz.prog 12 #[.string (ofL s)] W (LoadK W s f g) := by
  refine vc12 (ofL s) ?_
  refine (St.begin h).al fun k w2 H2 => ?_
  refine H2.al fun k2 w3 H3 => ?_
  refine H3.al fun k3 w4 H4 => ?_
  refine Sx.split_of (fun hs => ?_) (fun hs => ?_)
  · have hs : 8000 < s.length := by have := of_decide_eq_true hs; rw [ofL_size] at this; omega
    refine H4.st 1 rfl (i := 0) (by simp) fun w5 H5 => ?_
    refine H5.st 2 rfl (i := 0) (by simp) fun w6 H6 => ?_
    refine H6.st 3 rfl (i := 0) (by simp) fun w7 H7 => ?_
    refine ⟨_, H7.ld 1 rfl (i := 0) rfl, _, H7.ld 2 rfl (i := 0) rfl, _, H7.ld 3 rfl (i := 0) rfl, fun _ => 0, ?_⟩
    unfold parseP
    rw [if_pos hs]
    exact ⟨_, rfl, .inl ⟨rfl, H7.post 0 rfl⟩⟩
  have hs : ¬ 8000 < s.length := by have := of_decide_eq_false hs; rw [ofL_size] at this; omega
  have hr := hr (by omega)
  rintro vs rfl
  refine H4.al fun k4 w8 H8 => ?_
  refine H8.st 1 rfl (i := 0) (by simp) fun w9 H9 => ?_
  refine (tokens_any s (by omega)).mono ?_
  rintro _ w10 ⟨p, c, rfl, hp⟩
  have H10 := H9.add hp
  refine ⟨_, _, _, rfl, ?_⟩
  rintro vs2 rfl
  refine H10.al fun k7 w11 H11 => ?_
  have hgood := good_lex (s := s) (by omega) 1
  obtain ⟨t0, l0, hl0⟩ := hgood.cons
  obtain ⟨gb, off, rfl⟩ : ∃ gb off, p = some ⟨gb, off, none⟩ := by
    have h1 : Sl w11 87 3 (.slice p (lex s 1).length c) (lex s 1).length ((lex s 1).flatMap tkL) := H11.nth 5 rfl
    rcases h1.2 with ⟨-, h2⟩ | ⟨gb, off, cap, cur, hv, -⟩
    · rw [hl0] at h2; simp at h2
    · simp at hv; exact ⟨gb, off, hv.1⟩
  have H12 : St W globA.own w11 (parL k7 gb off c (lex s 1) 0 ++ [blk k #[pt k4] 44, blk k2 #[.int .i64 0] 3, blk k3 #[.nilIface] 23, blk k4 #[.slice none 0 0, .pointer none, .int .i64 0, .slice none 0 0] 66]) := H11.pick [6, 5, 0, 1, 2, 3, 4]
  have H13 := par_shut hgood (by omega) H12
  have H14 := ((H13.add (A := sl 20 1 (.slice none 0 0) 0 []) ⟨Sl.nil _ _ _, XTouch.refl _ _, fun q hq => by cases hq⟩).add (A := all []) ⟨trivial, XTouch.refl _ _, fun q hq => hq.elim⟩).add (A := all []) ⟨trivial, XTouch.refl _ _, fun q hq => hq.elim⟩
  obtain ⟨R0, hR0⟩ : ∃ R0, R0 = decls f g (lex s 1) := ⟨_, rfl⟩
  have hpar : parseP f g s = toC R0 := by
    unfold parseP; rw [if_neg hs, hR0]
  have hout : R0 ≠ .out := by rw [hR0]; exact hr
  -- what a fault comes to
  have fault : ∀ {w : World} {L : List Asn} {b : Nat} {line en : Int} {ad : Nat → Nat} {v1 v2 : Value} {z : Int}, (parseP f g s).bind (check ad) = .err line en → St W globA.own w ([blk k #[v1] 44, blk k2 #[.int .i64 z] 3, blk k3 #[v2] 23, fltA b line en] ++ globA :: L) →
      CallsD Tryz.prog 23 #[pt k, pt k2, pt k3] (.panicking (pan b)) w fun e4 u W19 => (∃ v10 : Value, e4 = .returned v10 ∧ ((settle u = .returning ∧ ∃ p14 : Option Addr, W19.cell? ⟨k, 0, none⟩ = some (.pointer p14) ∧ ∃ z3 : Int, W19.cell? ⟨k2, 0, none⟩ = some (.int .i64 z3) ∧ ∃ v11 : Value, W19.cell? ⟨k3, 0, none⟩ = some v11 ∧ LoadK W s f g (.returned (.tuple #[.pointer p14, .int .i64 z3, v11])) W19) ∨ ∃ l4 : List PanicEntry, settle u = .panicking l4 ∧ LoadK W s f g (.panicked l4) W19)) ∨ ∃ l5 : List PanicEntry, e4 = .panicked l5 ∧ ∃ l6 : List PanicEntry, raised u l5 = .panicking l6 ∧ LoadK W s f g (.panicked l6) W19 := by
    intro w L b line en ad v1 v2 z he H
    refine load1_any H fun w' H' => .inl ⟨_, rfl, .inl ⟨rfl, _, H'.ld 0 rfl (i := 0) rfl, _, H'.ld 1 rfl (i := 0) rfl, _, H'.ld 2 rfl (i := 0) rfl, ad, ?_⟩⟩
    rw [he]
    refine ⟨_, rfl, .inr ⟨b, rfl, ?_⟩⟩
    have H2 := H'.pick [4, 3]
    exact St.post (St.shut (L := [globA, fltA b line en]) (L' := []) H2) 0 rfl
  refine ⟨fun w => ∃ (ms : List Dm) (l : List Tok) (g' : Nat) (pd : Option Addr) (cd : Nat), (∀ m ∈ ms, m.Ok ∧ m.New) ∧ ms.length + l.length ≤ 8001 ∧ R0 = (decls f g' l).bind (fun r l' => .ok (ms.map Dm.d ++ r) l') ∧
    St W globA.own w [parA k7 gb l 0, blk k #[pt k4] 44, blk k2 #[.int .i64 0] 3, blk k3 #[.nilIface] 23, blk k4 #[.slice none 0 0, .pointer none, .int .i64 0, .slice pd ms.length cd] 66, sl 20 1 (.slice pd ms.length cd) ms.length (ms.map fun m => gval m.g), all ((ms.map Dm.g).map hdA), all (ms.map rsA)], fun w => lenAt k7 w, ⟨[], lex s 1, g, none, 0, (fun m hm => by cases hm), by have := hgood.2.2.2; simpa using this, by rw [hR0]; cases decls f g (lex s 1) <;> rfl, H14⟩, fun _ w12 hI => ?_⟩
  obtain ⟨ms, l, g', pd, cd, hms, hlen, hR, H15⟩ := hI
  refine H15.callq (now_any (H15.nth 0 rfl)) fun w13 H16 => ?_
  refine ⟨_, rfl, _, rfl, ?_⟩
  cases g' with
  | zero => exact absurd (by rw [hR]; rfl) hout
  | succ g' =>
  have hR : R0 = ((if (now l).k = 0 then .ok [] l else (decl f l).bind fun d l => (decls f g' l).bind fun ds l => .ok (d :: ds) l) : R (List D)).bind (fun r l' => .ok (ms.map Dm.d ++ r) l') := hR
  refine Sx.split_of (fun hk => ?_) (fun hk => ?_)
  · have hk : ¬ (now l).k = 0 := fun e => by rw [e] at hk; cases hk
    rw [if_neg hk] at hR
    refine H16.dr fun w14 H17 => ?_
    refine ⟨_, H17.ld 1 rfl (i := 0) rfl, _, H17.ld 1 rfl (i := 0) rfl, ptr_some ⟨_, _, _, H17.ld 4 rfl (i := 3) rfl, ?_⟩⟩
    have hdne : decl f l ≠ .out := fun e => hout (by rw [hR, e]; rfl)
    refine (decl_any (H17.nth 0 rfl) hdne).mono ?_
    intro e w15 he
    cases hd : decl f l with
    | out => exact absurd hd hdne
    | err line en =>
      rw [hd] at he hR
      obtain ⟨b, rfl, hp⟩ := he
      have H18 := St.open_ (L := [fltA b line en, parW k7]) (H17.upd 0 rfl hp)
      have H19 : St W globA.own w15 (parW k7 :: [blk k #[pt k4] 44, blk k2 #[.int .i64 0] 3, blk k3 #[.nilIface] 23, fltA b line en]) := H18.pick [1, 2, 3, 4, 0]
      obtain ⟨v, z, H20⟩ := parW_open H19
      have H21 : St W globA.own w15 ([blk k #[pt k4] 44, blk k2 #[.int .i64 0] 3, blk k3 #[.nilIface] 23, fltA b line en] ++ globA :: []) := H20.pick [2, 3, 4, 5, 1]
      exact .inr ⟨_, rfl, fault (ad := fun _ => 0) (by rw [hpar, hR]; rfl) H21⟩
    | ok d l1 =>
      rw [hd] at he hR
      obtain ⟨v, B, rfl, hD, hp⟩ := he
      obtain ⟨hdok, hlt⟩ := decl_shape (by omega) hd
      obtain ⟨m, hm1, hm2, hm3, hm4, hm5⟩ := isD_dm hD hdok
      have H18 := St.open_ (L := [parA k7 gb l1 0, B]) (H17.upd 0 rfl hp)
      refine .inl ⟨v, rfl, ⟨_, _, _, H18.ld 5 rfl (i := 3) rfl, rfl⟩, ⟨_, H18.ld 2 rfl (i := 0) rfl, rfl⟩, ⟨_, H18.ld 2 rfl (i := 0) rfl, rfl⟩, isD_one hD ?_⟩
      refine H18.al fun ka w16 H19 => ⟨⟨_, _, _, H19.ld 5 rfl (i := 3) rfl, rfl⟩, ⟨_, H19.ld 2 rfl (i := 0) rfl, rfl⟩, ⟨_, H19.ld 2 rfl (i := 0) rfl, rfl⟩, ?_⟩
      refine H19.app 6 rfl [v] (.inr ⟨_, rfl, fun j u hj => ?_⟩) rfl (by simpa using isD_cell hD) (by show ms.length + 1 ≤ maxLen; unfold maxLen; omega) (by omega) fun p' c' w17 H20 => ?_
      · match j, hj with
        | 0, hj => cases hj; exact H19.ld 9 rfl (i := 0) rfl
      refine ⟨⟨_, H20.ld 2 rfl (i := 0) rfl, rfl⟩, ptr_some (H20.st 5 rfl (i := 3) (by simp) fun w18 H21 => ?_)⟩
      have H22 := hm5 (H21.pick [1, 0, 2, 3, 4, 5, 6, 7, 8])
      have H23 : St W globA.own w18 (all (ms.map rsA) :: rsA m :: [all ((ms.map Dm.g).map hdA), hdA m.g, parA k7 gb l1 0, blk k #[pt k4] 44, blk k2 #[.int .i64 0] 3, blk k3 #[.nilIface] 23, blk k4 #[.slice none 0 0, .pointer none, .int .i64 0, .slice p' (ms.length + 1) c'] 66, sl 20 1 (.slice p' (ms.length + 1) c') (ms.length + 1) ((ms.map fun m => gval m.g) ++ [v])]) := H22.pick [9, 1, 8, 0, 2, 3, 4, 5, 6, 7]
      have H24 := (St.push H23).pick [1, 2, 0, 3, 4, 5, 6, 7, 8]
      have H25 := (St.push H24).pick [2, 3, 4, 5, 6, 7, 0, 1]
      refine ⟨⟨ms ++ [m], l1, g', p', c', fun x hx => ?_, by simp; omega, ?_, ?_⟩, ?_⟩
      · rcases List.mem_append.1 hx with hx | hx
        · exact hms x hx
        · simp at hx; subst hx; exact ⟨hm3, hm4⟩
      · rw [hR]
        show ((decls f g' l1).bind fun ds l => .ok (d :: ds) l).bind _ = _
        cases decls f g' l1 with
        | ok r l' => simp [R.bind, hm1]
        | err a b => rfl
        | out => rfl
      · have e1 : (ms ++ [m]).length = ms.length + 1 := by simp
        rw [e1, List.map_append, List.map_append, List.map_append, List.map_append]
        simp only [List.map_cons, List.map_nil]
        rw [hm2]
        exact H25
      · show lenAt k7 w18 < lenAt k7 w12
        rw [lenAt_par (H25.nth 0 rfl), lenAt_par (H15.nth 0 rfl)]
        exact hlt
  · have hk : (now l).k = 0 := by
      have := bne_eq_false_iff_eq.1 hk
      omega
    rw [if_pos hk] at hR
    have hR : R0 = .ok (ms.map Dm.d) l := by rw [hR]; show R.ok (ms.map Dm.d ++ []) l = _; rw [List.append_nil]
    rw [hR] at hpar
    obtain ⟨-, -, off2, c2, H17⟩ := par_open H16
    refine ⟨_, H17.ld 3 rfl (i := 0) rfl, ?_⟩
    have H18 : St W globA.own w13 (rawL k4 pd cd ms ++ [globA, blk k #[pt k4] 44, blk k2 #[.int .i64 0] 3, blk k3 #[.nilIface] 23]) := H17.pick [6, 7, 8, 9, 2, 3, 4, 5]
    have H19 := St.shut (L := rawL k4 pd cd ms) H18
    refine (check_any (by omega) (fun m hm => (hms m hm).1) (fun m hm => (hms m hm).2) (H19.nth 0 rfl)).mono ?_
    intro e w14 he
    have hpc : (parseP f g s).bind (check (adOf (countM ms 0 0))) = check (adOf (countM ms 0 0)) (ms.map Dm.d) := by rw [hpar]; rfl
    cases hc : check (adOf (countM ms 0 0)) (ms.map Dm.d) with
    | err line en =>
      rw [hc] at he hpc
      obtain ⟨b, rfl, hp⟩ := he
      have H20 := H19.upd 0 rfl hp
      have H21 : St W globA.own w14 ([blk k #[pt k4] 44, blk k2 #[.int .i64 0] 3, blk k3 #[.nilIface] 23, fltA b line en] ++ globA :: []) := H20.pick [2, 3, 4, 0, 1]
      exact .inr ⟨_, rfl, fault hpc H21⟩
    | ok q =>
      rw [hc] at he hpc
      obtain ⟨rfl, cur, km, pf, cf, tot, hcur, hgz, hfit, htot, hp⟩ := he
      have H20 := H19.upd 0 rfl hp
      refine .inl ⟨rfl, _, H20.ld 2 rfl (i := 0) rfl, ?_⟩
      refine H20.st 2 rfl (i := 0) (by simp) fun w15 H21 => ?_
      refine H21.st 3 rfl (i := 0) (by simp) fun w16 H22 => ?_
      refine H22.st 4 rfl (i := 0) (by simp) fun w17 H23 => ?_
      refine vc23z k 0 k2 0 k3 0 .nilIface ?_
      refine .inl ⟨_, rfl, .inl ⟨rfl, _, H23.ld 2 rfl (i := 0) rfl, _, H23.ld 3 rfl (i := 0) rfl, _, H23.ld 4 rfl (i := 0) rfl, adOf (countM ms 0 0), ?_⟩⟩
      rw [hpc]
      refine ⟨k4, rfl, ms, cur, km, pf, pd, cf, cd, tot, rfl, by rw [hpar]; rfl, fun m hm => (hms m hm).1, htot, hcur, hgz, hfit, ?_⟩
      exact St.post (St.shut (L := [_, _]) (L' := []) (H23.pick [1, 0])) 0 rfl
end Go.Proofs.YtojogkljneonmaaGreatDoor
/- The evaluator in memory: trees only read; a program that runs. No condition. -/
namespace Go.Proofs.YtojogkljneonmaaGreatDoor
open Go Go.Proofs Go.Sep Go.XHeap Go.RowKit Go.Lang
set_option linter.unusedVariables false
set_option linter.unusedSimpArgs false

def vU (x : UInt32) : Value := .int .u32 (x.toNat : Int)
def vB (x : UInt8) : Value := .int .u8 (x.toNat : Int)
/-- the values that stand for a tree, whose cells are only read -/
def tV (DA : Asn) : T → List Value → Prop
  | .num v _, vs => vs = [.iface 211 (.int .u32 v)]
  | .name t s w, vs => ∃ k, vs = [.iface 167 (pt k)] ∧ ∀ W, DA.at_ W → Blk W k (nameC t s w).toArray 221
  | .index t w z p, vs => ∃ k x, tV DA p [x] ∧ vs = [.iface 177 (pt k)] ∧ ∀ W, DA.at_ W → Blk W k (indexC t w z x).toArray 176
  | .call t f xs, vs => ∃ k p c us, tV DA xs us ∧ vs = [.iface 193 (pt k)] ∧ ∀ W, DA.at_ W → Blk W k (callC t f (.slice p us.length c)).toArray 214 ∧ Sl W 169 1 (.slice p us.length c) us.length us
  | .un t x, vs => ∃ k v, tV DA x [v] ∧ vs = [.iface 215 (pt k)] ∧ ∀ W, DA.at_ W → Blk W k (unC t v).toArray 217
  | .bin t x y, vs => ∃ k u v, tV DA x [u] ∧ tV DA y [v] ∧ vs = [.iface 218 (pt k)] ∧ ∀ W, DA.at_ W → Blk W k (binC t u v).toArray 230
  | .nil, vs => vs = []
  | .cons x xs, vs => ∃ v us, tV DA x [v] ∧ tV DA xs us ∧ vs = v :: us
  | .letS t nm s w x, vs => ∃ k k2 v, tV DA x [v] ∧ vs = [.iface 165 (pt k)] ∧ ∀ W, DA.at_ W → Blk W k (setC t k2 v true).toArray 171 ∧ Blk W k2 (nameC nm s w).toArray 221
  | .setS t s w x, vs => ∃ k k2 v, tV DA x [v] ∧ vs = [.iface 165 (pt k)] ∧ ∀ W, DA.at_ W → Blk W k (setC t k2 v false).toArray 171 ∧ Blk W k2 (nameC t s w).toArray 221
  | .putS t w z p x, vs => ∃ k k2 u v, tV DA p [u] ∧ tV DA x [v] ∧ vs = [.iface 174 (pt k)] ∧ ∀ W, DA.at_ W → Blk W k #[pt k2, v] 179 ∧ Blk W k2 (indexC t w z u).toArray 176
  | .ifS _ c a b, vs => ∃ k v k2, tV DA c [v] ∧ tV DA a [.iface 113 (pt k2)] ∧ vs = [.iface 181 (pt k)] ∧
      ((b = .nil ∧ ∀ W, DA.at_ W → Blk W k #[v, pt k2, .pointer none] 183) ∨ (b.isNil = false ∧ ∃ k3, tV DA b [.iface 113 (pt k3)] ∧ ∀ W, DA.at_ W → Blk W k #[v, pt k2, pt k3] 183))
  | .whileS _ c b, vs => ∃ k v k2, tV DA c [v] ∧ tV DA b [.iface 113 (pt k2)] ∧ vs = [.iface 184 (pt k)] ∧ ∀ W, DA.at_ W → Blk W k #[v, pt k2] 186
  | .retS _ x, vs => ∃ k v, tV DA x [v] ∧ vs = [.iface 187 (pt k)] ∧ ∀ W, DA.at_ W → Blk W k #[v] 189
  | .prtS _ x, vs => ∃ k v, tV DA x [v] ∧ vs = [.iface 190 (pt k)] ∧ ∀ W, DA.at_ W → Blk W k #[v] 191
  | .doS _ x, vs => ∃ k k2, tV DA x [.iface 193 (pt k2)] ∧ vs = [.iface 192 (pt k)] ∧ ∀ W, DA.at_ W → Blk W k #[pt k2] 195
  | .block _ l, vs => ∃ k p c us, tV DA l us ∧ vs = [.iface 113 (pt k)] ∧ ∀ W, DA.at_ W → Blk W k #[.slice p us.length c] 164 ∧ Sl W 161 1 (.slice p us.length c) us.length us
theorem at0 {A : Asn} {L : List Asn} {W : World} (h : (all (A :: L)).at_ W) : A.at_ W := h.1
theorem at1 {A B : Asn} {L : List Asn} {W : World} (h : (all (A :: B :: L)).at_ W) : B.at_ W := h.2.2.1
theorem at2 {A B C : Asn} {L : List Asn} {W : World} (h : (all (A :: B :: C :: L)).at_ W) : C.at_ W := h.2.2.2.2.1
theorem at3 {A B C D : Asn} {L : List Asn} {W : World} (h : (all (A :: B :: C :: D :: L)).at_ W) : D.at_ W := h.2.2.2.2.2.2.1
theorem atl {A : Asn} {L : List Asn} {W : World} (h : (all (A :: L)).at_ W) : (all L).at_ W := h.2.2
theorem isP_tV {DA : Asn} : ∀ (x : T) (vs : List Value) (A : Asn), isP x vs A → (∀ W, DA.at_ W → A.at_ W) → tV DA x vs := by
  intro x
  induction x with
  | num v l => rintro vs A ⟨rfl, -⟩ hA; rfl
  | name t s w => rintro vs A ⟨k, rfl, rfl⟩ hA; exact ⟨k, rfl, hA⟩
  | nil => rintro vs A ⟨rfl, -⟩ hA; rfl
  | cons x xs ih1 ih2 =>
    rintro vs A ⟨v, us, A1, As, h1, h2, rfl, rfl⟩ hA
    exact ⟨v, us, ih1 _ _ h1 fun W h => at0 (hA W h), ih2 _ _ h2 fun W h => atl (hA W h), rfl⟩
  | index t w z p ih => rintro vs A ⟨k, x, A1, h1, rfl, rfl⟩ hA; exact ⟨k, x, ih _ _ h1 fun W h => at1 (hA W h), rfl, fun W h => at0 (hA W h)⟩
  | call t f xs ih => rintro vs A ⟨k, p, c, us, A1, h1, rfl, rfl⟩ hA; exact ⟨k, p, c, us, ih _ _ h1 fun W h => at2 (hA W h), rfl, fun W h => ⟨at0 (hA W h), at1 (hA W h)⟩⟩
  | un t x ih => rintro vs A ⟨k, v, A1, h1, rfl, rfl⟩ hA; exact ⟨k, v, ih _ _ h1 fun W h => at1 (hA W h), rfl, fun W h => at0 (hA W h)⟩
  | bin t x y ih1 ih2 => rintro vs A ⟨k, u, v, A1, A2, h1, h2, rfl, rfl⟩ hA; exact ⟨k, u, v, ih1 _ _ h1 fun W h => at1 (hA W h), ih2 _ _ h2 fun W h => at2 (hA W h), rfl, fun W h => at0 (hA W h)⟩
  | letS t nm s w x ih => rintro vs A ⟨k, k2, v, A1, h1, rfl, rfl⟩ hA; exact ⟨k, k2, v, ih _ _ h1 fun W h => at2 (hA W h), rfl, fun W h => ⟨at0 (hA W h), at1 (hA W h)⟩⟩
  | setS t s w x ih => rintro vs A ⟨k, k2, v, A1, h1, rfl, rfl⟩ hA; exact ⟨k, k2, v, ih _ _ h1 fun W h => at2 (hA W h), rfl, fun W h => ⟨at0 (hA W h), at1 (hA W h)⟩⟩
  | putS t w z p x ih1 ih2 => rintro vs A ⟨k, k2, u, v, A1, A2, h1, h2, rfl, rfl⟩ hA; exact ⟨k, k2, u, v, ih1 _ _ h1 fun W h => at2 (hA W h), ih2 _ _ h2 fun W h => at3 (hA W h), rfl, fun W h => ⟨at0 (hA W h), at1 (hA W h)⟩⟩
  | ifS l c a b ih1 ih2 ih3 =>
    rintro vs A ⟨k, v, k2, A1, A2, h1, h2, rfl, h⟩ hA
    rcases h with ⟨rfl, rfl⟩ | ⟨k3, A3, h3, rfl⟩
    · exact ⟨k, v, k2, ih1 _ _ h1 fun W h => at1 (hA W h), ih2 _ _ h2 fun W h => at2 (hA W h), rfl, .inl ⟨rfl, fun W h => at0 (hA W h)⟩⟩
    · refine ⟨k, v, k2, ih1 _ _ h1 fun W h => at1 (hA W h), ih2 _ _ h2 fun W h => at2 (hA W h), rfl, .inr ⟨?_, k3, ih3 _ _ h3 fun W h => at3 (hA W h), fun W h => at0 (hA W h)⟩⟩
      cases b <;> first | rfl | (obtain ⟨h, -⟩ := h3; cases h)
  | whileS l c b ih1 ih2 => rintro vs A ⟨k, v, k2, A1, A2, h1, h2, rfl, rfl⟩ hA; exact ⟨k, v, k2, ih1 _ _ h1 fun W h => at1 (hA W h), ih2 _ _ h2 fun W h => at2 (hA W h), rfl, fun W h => at0 (hA W h)⟩
  | retS l x ih => rintro vs A ⟨k, v, A1, h1, rfl, rfl⟩ hA; exact ⟨k, v, ih _ _ h1 fun W h => at1 (hA W h), rfl, fun W h => at0 (hA W h)⟩
  | prtS l x ih => rintro vs A ⟨k, v, A1, h1, rfl, rfl⟩ hA; exact ⟨k, v, ih _ _ h1 fun W h => at1 (hA W h), rfl, fun W h => at0 (hA W h)⟩
  | doS l x ih => rintro vs A ⟨k, k2, A1, h1, rfl, rfl⟩ hA; exact ⟨k, k2, ih _ _ h1 fun W h => at1 (hA W h), rfl, fun W h => at0 (hA W h)⟩
  | block l xs ih => rintro vs A ⟨k, p, c, us, A1, h1, rfl, rfl⟩ hA; exact ⟨k, p, c, us, ih _ _ h1 fun W h => at2 (hA W h), rfl, fun W h => ⟨at0 (hA W h), at1 (hA W h)⟩⟩
/-! ### a program that runs -/
/-- its block, its words, the code -/
structure Ev where
  k : Nat
  pw : Option Addr
  cw : Nat
  DA : Asn
/-- the headers of what was printed, and of the slots -/
structure Eh where
  po : Option Addr
  co : Nat
  ps : Option Addr
  cs : Nat
def rnL (X : Ev) (h : Eh) (s : Rn) : List Asn :=
  [blk X.k #[.slice X.pw s.words.length X.cw, .slice h.po s.out.length h.co, .int .i64 (s.steps : Nat), .int .i64 (s.room : Nat), .slice h.ps s.slots.length h.cs] 69,
   sl 32 1 (.slice X.pw s.words.length X.cw) s.words.length (s.words.map vU), sl 5 1 (.slice h.po s.out.length h.co) s.out.length (s.out.map vB),
   sl 32 1 (.slice h.ps s.slots.length h.cs) s.slots.length (s.slots.map vU), X.DA]
def rnA (X : Ev) (h : Eh) (s : Rn) : Asn := all (rnL X h s)
/-- it has stopped -/
def stL (X : Ev) (h : Eh) (z1 z2 : Int) (v : Value) (s : Rn) : List Asn :=
  [blk X.k #[.slice X.pw s.words.length X.cw, .slice h.po s.out.length h.co, .int .i64 z1, .int .i64 z2, v] 69,
   sl 32 1 (.slice X.pw s.words.length X.cw) s.words.length (s.words.map vU), sl 5 1 (.slice h.po s.out.length h.co) s.out.length (s.out.map vB), X.DA]
def stopped (k : Nat) : List PanicEntry := [PanicEntry.mk (.iface 70 (.int .i64 (k : Nat))) false false]
end Go.Proofs.YtojogkljneonmaaGreatDoor
/- The evaluator's small functions. No condition. -/
namespace Go.Proofs.YtojogkljneonmaaGreatDoor
open Go Go.Proofs Go.Sep Go.XHeap Go.RowKit Go.Lang
set_option linter.unusedVariables false
set_option linter.unusedSimpArgs false
variable {W0 W : World} {M : Nat → Prop} {L : List Asn} {X : Ev} {h : Eh} {s : Rn} {Q : Ending → World → Prop}

theorem rn_open (H : St W0 M W (rnA X h s :: L)) : St W0 M W (rnL X h s ++ L) := St.open_ H
theorem rn_shut (H : St W0 M W (rnL X h s ++ L)) : St W0 M W (rnA X h s :: L) := St.shut H
theorem els_at {w : World} {e n c : Nat} {p : Option Addr} {xs : List Value} (h : Sl w e 1 (.slice p n c) n xs) {i : Nat} (hi : i < n) : ∃ g off, p = some ⟨g, off, none⟩ ∧ w.cell? ⟨g, off + i, none⟩ = xs[i]? ∧ w.frozen? ⟨g, off + i, none⟩ = false := by
  obtain ⟨ao, cap, hv, hl, -, -, -, hc⟩ := h.open1
  cases hv
  obtain ⟨g, off, rfl, -, h2⟩ := hc (by omega)
  exact ⟨g, off, rfl, h2 i hi⟩
theorem post_el {w : World} {e n c g off : Nat} {xs : List Value} (h : Sl w e 1 (.slice (some ⟨g, off, none⟩) n c) n xs) {i : Nat} (hi : i < n) (x : Value) : Post (sl e 1 (.slice (some ⟨g, off, none⟩) n c) n xs) w (sl e 1 (.slice (some ⟨g, off, none⟩) n c) n (xs.set i x)) (w.setCell ⟨g, off + i, none⟩ x) :=
  ⟨h.set1 i hi x, XTouch.setCell (S := (sl e 1 (.slice (some ⟨g, off, none⟩) n c) n xs).own) (p := ⟨g, off + i, none⟩) (XTouch.refl _ _) (.inl rfl) x, fun q hq => .inl hq⟩
theorem dec64 {a : Nat} (h0 : a ≠ 0) (h : a ≤ 100000) : IntKind.wrap .i64 ((a : Nat) - 1 : Int) = ((a - 1 : Nat) : Int) := by
  rw [show ((a : Nat) - 1 : Int) = ((a - 1 : Nat) : Int) by omega]
  exact Go.Bits.n64 (by omega)
theorem inc64e {a : Nat} (h : a ≤ 100000) : IntKind.wrap .i64 ((a : Nat) + 1 : Int) = ((a + 1 : Nat) : Int) := by
  rw [show ((a : Nat) + 1 : Int) = ((a + 1 : Nat) : Int) by omega]
  exact Go.Bits.n64 (by omega)
/-- a step -/
theorem step_q (hs : s.steps ≤ 20000) (H : St W0 M W (rnA X h s :: L)) (h0 : s.steps = 0 → Q (.panicked (stopped 0)) W) (h1 : s.steps ≠ 0 → ∀ w', St W0 M w' (rnA X h { s with steps := s.steps - 1 } :: L) → Q (.returned (.tuple #[])) w') : Calls Tryz.prog 70 #[pt X.k] W Q := by
  have H1 := rn_open H
  refine vc70 X.k 0 ⟨_, H1.ld 0 rfl (i := 2) rfl, Sx.split_of (fun hz => ?_) (fun hz => ?_)⟩
  · have hz : s.steps = 0 := by have := beq_iff_eq.1 hz; omega
    exact h0 hz
  · have hz : s.steps ≠ 0 := fun e => by rw [e] at hz; cases hz
    refine ⟨_, H1.ld 0 rfl (i := 2) rfl, ?_⟩
    rintro z rfl
    rw [dec64 hz (by omega)]
    exact H1.st 0 rfl (i := 2) (by simp [rnL]) fun w2 H2 => h1 hz w2 (rn_shut H2)
/-- the place of a name's value -/
def placeOf (X : Ev) (h : Eh) (sl w : Int) (a : Addr) : Prop := ∃ g off, a = ⟨g, off, none⟩ ∧ ((0 ≤ sl ∧ ∃ o, h.ps = some ⟨g, o, none⟩ ∧ off = o + sl.toNat) ∨ (sl < 0 ∧ ∃ o, X.pw = some ⟨g, o, none⟩ ∧ off = o + w.toNat))
theorem word_q {kn : Nat} {t : Tok} {slt wd : Int} (hn : ∀ W, X.DA.at_ W → Blk W kn (nameC t slt wd).toArray 221) (hin : inW s.words.length s.slots.length slt wd) (H : St W0 M W (rnA X h s :: L))
    (hQ : ∀ a w', placeOf X h slt wd a → St W0 M w' (rnA X h s :: L) → Q (.returned (.pointer (some a))) w') : Calls Tryz.prog 72 #[pt X.k, pt kn] W Q := by
  have H1 := rn_open H
  have hb := hn W (H1.nth 4 rfl)
  refine vc72 X.k 0 kn 0 ⟨_, hb.cell' (i := 3) rfl, Sx.split_of (fun hz => ?_) (fun hz => ?_)⟩
  · have hz := of_decide_eq_true hz
    rcases hin with ⟨-, h2⟩ | ⟨h2, -⟩
    · refine ⟨_, _, _, H1.ld 0 rfl (i := 4) rfl, _, hb.cell' (i := 3) rfl, ⟨hz, h2⟩, ?_⟩
      obtain ⟨g, off, e, -, -⟩ := els_at (H1.nth 3 rfl) (i := slt.toNat) (by omega)
      rw [e]
      refine adr_some ?_
      refine H1.drN fun w2 H2 => ?_
      exact hQ _ _ ⟨g, _, rfl, .inl ⟨hz, off, e, by omega⟩⟩ (rn_shut H2)
    · omega
  · have hz := of_decide_eq_false hz
    rcases hin with ⟨h2, -⟩ | ⟨h2, h3, h4⟩
    · omega
    · refine ⟨_, _, _, H1.ld 0 rfl (i := 0) rfl, _, hb.cell' (i := 4) rfl, ⟨h3, h4⟩, ?_⟩
      obtain ⟨g, off, e, -, -⟩ := els_at (H1.nth 1 rfl) (i := wd.toNat) (by omega)
      rw [e]
      refine adr_some ?_
      refine H1.drN fun w2 H2 => ?_
      exact hQ _ _ ⟨g, _, rfl, .inr ⟨by omega, off, e, by omega⟩⟩ (rn_shut H2)
theorem getD_map (l : List UInt32) {i : Nat} (hi : i < l.length) : (l.map vU)[i]? = some (vU (l.getD i 0)) := by
  rw [List.getElem?_map, List.getElem?_eq_getElem hi, List.getD_eq_getElem?_getD, List.getElem?_eq_getElem hi]
  rfl
/-- a name's value is read -/
theorem place_ld {slt wd : Int} {a : Addr} (ha : placeOf X h slt wd a) (hin : inW s.words.length s.slots.length slt wd) (H : St W0 M W (rnA X h s :: L)) : W.cell? a = some (vU (s.get slt wd)) := by
  have H1 := rn_open H
  obtain ⟨g, off, rfl, ⟨h0, o, e, rfl⟩ | ⟨h0, o, e, rfl⟩⟩ := ha
  · rcases hin with ⟨-, h2⟩ | ⟨h2, -⟩
    · obtain ⟨g', off', e', hc, -⟩ := els_at (H1.nth 3 rfl) (i := slt.toNat) (by omega)
      rw [e] at e'; cases e'
      rw [hc, getD_map _ (by omega)]
      unfold Rn.get
      rw [if_pos h0]
    · omega
  · rcases hin with ⟨h2, -⟩ | ⟨h2, h3, h4⟩
    · omega
    · obtain ⟨g', off', e', hc, -⟩ := els_at (H1.nth 1 rfl) (i := wd.toNat) (by omega)
      rw [e] at e'; cases e'
      rw [hc, getD_map _ (by omega)]
      unfold Rn.get
      rw [if_neg (by omega)]
/-- .. and written -/
theorem place_st {slt wd : Int} {a : Addr} {v : UInt32} {φ : World → Prop} (ha : placeOf X h slt wd a) (hin : inW s.words.length s.slots.length slt wd) (H : St W0 M W (rnA X h s :: L)) (hφ : ∀ w', St W0 M w' (rnA X h (s.set slt wd v) :: L) → φ w') :
    (∃ u, W.cell? a = some u) ∧ W.frozen? a = false ∧ ∀ w', w' = W.setCell a (vU v) → φ w' := by
  have hl := place_ld ha hin H
  have H1 := rn_open H
  obtain ⟨g, off, rfl, ⟨h0, o, e, rfl⟩ | ⟨h0, o, e, rfl⟩⟩ := ha
  · rcases hin with ⟨-, h2⟩ | ⟨h2, -⟩
    · have hS : Sl W 32 1 (.slice h.ps s.slots.length h.cs) s.slots.length (s.slots.map vU) := H1.nth 3 rfl
      obtain ⟨g', off', e', hc, hf⟩ := els_at hS (i := slt.toNat) (by omega)
      rw [e] at e'; cases e'
      refine ⟨⟨_, hl⟩, hf, ?_⟩
      rintro w' rfl
      rw [e] at hS
      have hp := post_el hS (i := slt.toNat) (by omega) (vU v)
      rw [← e, ← List.map_set] at hp
      have H2 := H1.upd 3 rfl hp
      refine hφ _ (rn_shut (s := s.set slt wd v) ?_)
      have e2 : s.set slt wd v = { s with slots := s.slots.set slt.toNat v } := by unfold Rn.set; rw [if_pos h0]
      rw [e2]
      unfold rnL
      simp only [List.length_set]
      exact H2
    · omega
  · rcases hin with ⟨h2, -⟩ | ⟨h2, h3, h4⟩
    · omega
    · have hS : Sl W 32 1 (.slice X.pw s.words.length X.cw) s.words.length (s.words.map vU) := H1.nth 1 rfl
      obtain ⟨g', off', e', hc, hf⟩ := els_at hS (i := wd.toNat) (by omega)
      rw [e] at e'; cases e'
      refine ⟨⟨_, hl⟩, hf, ?_⟩
      rintro w' rfl
      rw [e] at hS
      have hp := post_el hS (i := wd.toNat) (by omega) (vU v)
      rw [← e, ← List.map_set] at hp
      have H2 := H1.upd 1 rfl hp
      refine hφ _ (rn_shut (s := s.set slt wd v) ?_)
      have e2 : s.set slt wd v = { s with words := s.words.set wd.toNat v } := by unfold Rn.set; rw [if_neg (by omega)]
      rw [e2]
      unfold rnL
      simp only [List.length_set]
      exact H2
/-- an array's element -/
theorem elem_q {ki : Nat} {t : Tok} {wd z : Int} {x : Value} {v : UInt32} (hi : ∀ W, X.DA.at_ W → Blk W ki (indexC t wd z x).toArray 176) (hin : inA s.words.length wd z) (hw : s.words.length ≤ 100000) (H : St W0 M W (rnA X h s :: L))
    (h1 : z ≤ (v.toNat : Int) → Q (.panicked (stopped 1)) W) (hQ : ¬ z ≤ (v.toNat : Int) → ∀ g o w', X.pw = some ⟨g, o, none⟩ → St W0 M w' (rnA X h s :: L) → Q (.returned (.pointer (some ⟨g, o + (wd.toNat + v.toNat), none⟩))) w') : Calls Tryz.prog 73 #[pt X.k, pt ki, vU v] W Q := by
  have H1 := rn_open H
  have hb := hi W (H1.nth 4 rfl)
  obtain ⟨a1, a2, a3, a4⟩ := hin
  refine vc73 X.k 0 ki 0 _ ⟨_, hb.cell' (i := 4) rfl, Sx.split_of (fun hz => ?_) (fun hz => ?_)⟩
  · exact h1 (of_decide_eq_true hz)
  · have hz : ¬ z ≤ (v.toNat : Int) := of_decide_eq_false hz
    refine ⟨_, _, _, H1.ld 0 rfl (i := 0) rfl, _, hb.cell' (i := 3) rfl, ?_⟩
    rintro z3 rfl z4 rfl
    rw [Go.Bits.n64 (x := v.toNat) (by omega)]
    have e4 : IntKind.wrap .i64 (wd + (v.toNat : Int)) = ((wd.toNat + v.toNat : Nat) : Int) := by
      rw [show wd + (v.toNat : Int) = ((wd.toNat + v.toNat : Nat) : Int) by omega]
      exact Go.Bits.n64 (by have := v.toNat_lt; omega)
    rw [e4]
    refine ⟨⟨by omega, by omega⟩, ?_⟩
    obtain ⟨g, off, e, -, -⟩ := els_at (H1.nth 1 rfl) (i := wd.toNat + v.toNat) (by omega)
    rw [e]
    refine adr_some ?_
    refine H1.drN fun w2 H2 => ?_
    rw [show off + (((wd.toNat + v.toNat : Nat) : Int)).toNat * 1 = off + (wd.toNat + v.toNat) by omega]
    exact hQ hz g off w2 e (rn_shut H2)
end Go.Proofs.YtojogkljneonmaaGreatDoor
