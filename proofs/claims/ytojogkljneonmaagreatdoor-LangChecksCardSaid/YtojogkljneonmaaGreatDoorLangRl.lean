import Derived.Test.YtojogkljneonmaaGreatDoorLangVd
import Derived.Test.YtojogkljneonmaaGreatDoorLangJ
import Derived.Test.YtojogkljneonmaaGreatDoorLangVe
import Derived.Test.YtojogkljneonmaaGreatDoorLangRg
import Derived.Test.YtojogkljneonmaaGreatDoorLangRj
/- The parser's declarations. No condition. -/
namespace Go.Proofs.YtojogkljneonmaaGreatDoor
open Go Go.Proofs Go.Sep Go.XHeap Go.RowKit Go.Lang
set_option linter.unusedVariables false
set_option linter.unusedSimpArgs false

variable {W : World} {b g n : Nat} {l : List Tok}
def varC (t : Tok) (nm : ByteArray) (w z : Int) : List Value := tkL t ++ [.string nm, .int .i64 w, .int .i64 z]
def fnC (t : Tok) (nm : ByteArray) (ps bd : Value) (sl no : Int) : List Value := tkL t ++ [.string nm, ps, bd, .int .i64 sl, .int .i64 no]
def strs (ps : List ByteArray) : List Value := ps.map .string
/-- a declaration in memory -/
def isD : D → Value → Asn → Prop
  | .var t nm w z, v, A => ∃ k, v = .iface 125 (pt k) ∧ A = blk k (varC t nm w z).toArray 127
  | .fn t nm ps s no bd, v, A => ∃ k kb p c B, isP bd [.iface 113 (pt kb)] B ∧ v = .iface 63 (pt k) ∧ A = all [blk k (fnC t nm (.slice p ps.length c) (pt kb) s no).toArray 115, sl 9 1 (.slice p ps.length c) ps.length (strs ps), B]
theorem isD_one {d : D} {v : Value} {A : Asn} (h : isD d v A) {φ : Prop} (hφ : φ) : Sx.one v φ := by
  cases d with
  | var => obtain ⟨k, rfl, -⟩ := h; exact hφ
  | fn => obtain ⟨k, kb, p, c, B, -, rfl, -⟩ := h; exact hφ
theorem isD_cell {d : D} {v : Value} {A : Asn} (h : isD d v A) : v.oneCell' = true := by
  cases d with
  | var => obtain ⟨k, rfl, -⟩ := h; rfl
  | fn => obtain ⟨k, kb, p, c, B, -, rfl, -⟩ := h; rfl
/-! ### parameters -/
def parmL [Inhabited G3o] (b g n : Nat) (l : List Tok) (t : Tok) (nm : ByteArray) (kp kf k : Nat) (p : Option Addr) (c : Nat) (ps : List ByteArray) : List Asn :=
  [parA b g l n, blk kp #[pt b] 80, blk kf #[pt k] 63, blk k (fnC t nm (.slice p ps.length c) (.pointer none) 0 0).toArray 115, sl 9 1 (.slice p ps.length c) ps.length (strs ps)]
def parmR (m : Nat) (l : List Tok) : R ByteArray := name l fun t l => if m = 6 then .err t.line 3 else .ok t.s l
theorem decl1_any [Inhabited G3o] {t : Tok} {nm : ByteArray} {kp kf k c : Nat} {p : Option Addr} {ps : List ByteArray} (h : (all (parmL b g n l t nm kp kf k p c ps)).at_ W) (hps : ps.length ≤ 6) :
    Calls Tryz.prog 55 #[pt kp, pt kf] W (Ans (parW b) (all (parmL b g n l t nm kp kf k p c ps)) W (parmR ps.length l) fun s l' e w' => e = .returned (.tuple #[]) ∧ ∃ p' c', Post (all (parmL b g n l t nm kp kf k p c ps)) W (all (parmL b g n l' t nm kp kf k p' c' (ps ++ [s]))) w') := by
  refine vc55 kp 0 kf 0 ?_
  have H := St.open_ (L' := []) (St.begin h)
  refine ⟨_, H.ld 1 rfl (i := 0) rfl, ?_⟩
  have hrun : parmR ps.length l = (name l fun t l => R.ok t l).bind fun t l => if ps.length = 6 then .err t.line 3 else .ok t.s l := by
    unfold parmR
    unfold name
    split
    · rfl
    · split <;> rfl
  generalize parmR ps.length l = R0 at *
  refine (name_any (H.nth 0 rfl)).mono ?_
  intro e w2 he
  cases hb : (name l fun t l => R.ok t l) with
  | out =>
    exfalso
    unfold name at hb
    split at hb
    · cases hb
    · split at hb <;> cases hb
  | err line en =>
    rw [hb] at he hrun
    obtain ⟨q, rfl, hp⟩ := he
    rw [show R0 = .err line en from hrun]
    exact .inr ⟨_, rfl, q, rfl, (H.upd 0 rfl hp).post 0 rfl⟩
  | ok u l1 =>
    rw [hb] at he hrun
    obtain ⟨rfl, hp⟩ := he
    have H2 := H.upd 0 rfl hp
    have hrun : R0 = if ps.length = 6 then .err u.line 3 else .ok u.s l1 := hrun
    refine .inl ⟨_, rfl, ?_⟩
    refine H2.al fun k3 w3 H3 => ?_
    refine H3.sts0 5 (n := 3) (vs := (tkL u).toArray) rfl rfl rfl (by simpa using tkL_one _) fun w4 H4 => ?_
    refine H4.dr fun w5 H5 => ?_
    refine ⟨_, H5.ld 2 rfl (i := 0) rfl, ptr_some ⟨p, ps.length, c, H5.ld 3 rfl (i := 4) rfl, _, H5.ld 5 rfl (i := 1) rfl, _, H5.ld 2 rfl (i := 0) rfl, ?_⟩⟩
    refine H5.alb fun k5 w6 H6 _ hb6 => ?_
    refine ⟨hb6, ⟨_, H6.ld 2 rfl (i := 0) rfl, rfl⟩, ?_⟩
    refine H6.app 4 rfl [.string u.s] (.inr ⟨_, rfl, fun j v hj => ?_⟩) rfl (by simp; rfl) (by show ps.length + 1 ≤ maxLen; unfold maxLen; omega) (by omega) fun p' c' w7 H7 => ?_
    · match j, hj with
      | 0, hj => cases hj; exact H6.ld 6 rfl (i := 0) rfl
    refine ⟨⟨_, H7.ld 2 rfl (i := 0) rfl, rfl⟩, ptr_some (H7.st 3 rfl (i := 4) (by simp [fnC, tkL]) fun w8 H8 => ?_)⟩
    refine ⟨_, H8.ld 2 rfl (i := 0) rfl, ptr_some ?_⟩
    have e1 : (ps ++ [u.s]).length = ps.length + 1 := by simp
    have e2 : strs (ps ++ [u.s]) = strs ps ++ [.string u.s] := by simp [strs]
    have H9 : St W (all (parmL b g n l t nm kp kf k p c ps)).own w8 (parmL b g n l1 t nm kp kf k p' c' (ps ++ [u.s]) ++ [blk k3 (tkL u).toArray 87]) := by
      unfold parmL
      rw [e1, e2]
      exact H8.pick [0, 1, 2, 3, 4, 5]
    refine ⟨p', ps.length + 1, c', by rw [← e1]; exact H9.ld 3 rfl (i := 4) rfl, ?_⟩
    refine Sx.split_of (fun h9 => ?_) (fun h9 => ?_)
    · have h9 := of_decide_eq_true h9
      rw [if_pos (by omega)] at hrun
      rw [hrun]
      refine ⟨_, H9.ld 5 rfl (i := 2) rfl, ?_⟩
      exact perr' H9 0 rfl (fail_in (H9.nth 0 rfl) u.line 3)
    · have h9 := of_decide_eq_false h9
      rw [if_neg (by omega)] at hrun
      rw [hrun]
      have H10 := St.shut (L := parmL b g n l1 t nm kp kf k p' c' (ps ++ [u.s])) (L' := [_]) H9
      exact ⟨rfl, p', c', H10.post 0 rfl⟩
theorem paramL_eq (m : Nat) (hm : m ≤ 6) (l : List Tok) : params.paramL (6 - m) l = (parmR m l).bind fun s l => if is cRP l then .ok [s] l.tail else want cComma l fun l => (params.paramL (6 - (m + 1)) l).bind fun r l => .ok (s :: r) l := by
  by_cases h6 : m = 6
  · subst h6
    show params.paramL 0 l = _
    rw [params.paramL]
    unfold parmR
    by_cases h1 : (now l).k ≠ 1
    · simp only [name, if_pos h1, R.bind]
    · by_cases h2 : 16 < (now l).s.size
      · simp only [name, if_neg h1, if_pos h2, R.bind]
      · simp only [name, if_neg h1, if_neg h2, if_true, R.bind]
  · rw [show 6 - m = (6 - (m + 1)) + 1 by omega]
    rw [params.paramL]
    generalize 6 - (m + 1) = q
    unfold parmR
    by_cases h1 : (now l).k ≠ 1
    · rw [name, if_pos h1]
      show _ = R.bind (name l _) _
      rw [name, if_pos h1]; rfl
    · by_cases h2 : 16 < (now l).s.size
      · rw [name, if_neg h1, if_pos h2]
        show _ = R.bind (name l _) _
        rw [name, if_neg h1, if_pos h2]; rfl
      · rw [name, if_neg h1, if_neg h2]
        show _ = R.bind (name l _) _
        rw [name, if_neg h1, if_neg h2, if_neg h6]; rfl
theorem list_decl [Inhabited G3o] {t : Tok} {nm : ByteArray} {kp kf k : Nat} (h : (all (parmL b g n l t nm kp kf k none 0 [])).at_ W) :
    Calls Tryz.prog 54 #[pt b, .func (.func 55) #[] #[pt kp, pt kf]] W (Ans (parW b) (all (parmL b g n l t nm kp kf k none 0 [])) W (want cLP l fun l => params 6 l) fun ps l' e w' => e = .returned (.tuple #[]) ∧ ∃ p c, Post (all (parmL b g n l t nm kp kf k none 0 [])) W (all (parmL b g n l' t nm kp kf k p c ps)) w') := by
  refine vc54d b 0 kp kf ?_
  have H := St.open_ (L' := []) (St.begin h)
  generalize hR : (want cLP l fun l => params 6 l) = R0 at *
  have hrun := hR.symm
  unfold want at hrun
  cases hi : is cLP l with
  | false =>
    rw [hi] at hrun
    rw [show R0 = .err (now l).line 8 from hrun]
    exact perr H 0 rfl (want_no (s := cLP) (H.nth 0 rfl) hi)
  | true =>
  rw [hi] at hrun
  refine (want_yes (s := cLP) (H.nth 0 rfl) hi).mono ?_
  rintro _ w2 ⟨rfl, hp⟩
  have H2 := H.upd 0 rfl hp
  refine .inl ⟨rfl, ?_⟩
  have hrun : R0 = params 6 l.tail := hrun
  refine (take_any cRP (H2.nth 0 rfl)).mono ?_
  rintro _ w3 ⟨rfl, hp⟩
  have H3 := H2.upd 0 rfl hp
  refine ⟨_, rfl, ?_⟩
  refine ⟨fun more w => ∃ ps p c l1, St W (all (parmL b g n l t nm kp kf k none 0 [])).own w (parmL b g n l1 t nm kp kf k p c ps) ∧ ps.length ≤ 6 ∧ (match more with
    | true => R0 = (params.paramL (6 - ps.length) l1).bind fun r l' => .ok (ps ++ r) l'
    | false => R0 = .ok ps l1), fun more w => match more with | true => lenAt b w + 1 | false => 0, ?_, fun _ => ?_⟩
  · have hrun : R0 = if is cRP l.tail then .ok [] l.tail.tail else params.paramL 6 l.tail := hrun
    cases hi2 : is cRP l.tail with
    | true =>
      rw [hi2] at hrun
      rw [if_pos hi2] at H3
      exact ⟨[], none, 0, l.tail.tail, H3, by simp, hrun⟩
    | false =>
      rw [hi2] at hrun
      rw [if_neg (by rw [hi2]; exact Bool.false_ne_true)] at H3
      refine ⟨[], none, 0, l.tail, H3, by simp, ?_⟩
      show R0 = (params.paramL 6 l.tail).bind fun r l' => .ok ([] ++ r) l'
      rw [show R0 = params.paramL 6 l.tail from hrun]
      cases params.paramL 6 l.tail <;> rfl
  · rintro more w4 ⟨ps, p, c, l1, H4, hps, hm⟩
    refine Sx.split_of (fun hm1 => ?_) (fun hm1 => ?_)
    · subst hm1
      have hm : R0 = (params.paramL (6 - ps.length) l1).bind fun r l' => .ok (ps ++ r) l' := hm
      have H5 := St.shut (L' := []) (by simpa using H4)
      refine (decl1_any (H5.nth 0 rfl) hps).mono ?_
      intro e w6 he
      have hnm := paramL_eq ps.length hps l1
      cases hb : parmR ps.length l1 with
      | out =>
        exfalso
        unfold parmR name at hb
        split at hb
        · cases hb
        · split at hb
          · cases hb
          · split at hb <;> cases hb
      | err line en =>
        rw [hb] at he hnm
        rw [hnm] at hm
        obtain ⟨q, rfl, hp⟩ := he
        rw [show R0 = .err line en from hm]
        exact .inr ⟨_, rfl, _, rfl, (H5.upd 0 rfl hp).post 0 rfl⟩
      | ok s l2 =>
        rw [hb] at he hnm
        rw [hnm] at hm
        obtain ⟨rfl, p', c', hp⟩ := he
        have H6 := St.open_ (L' := []) (H5.upd 0 rfl hp)
        have h6 : ps.length ≠ 6 ∧ l2.length < l1.length := by
          unfold parmR at hb
          obtain ⟨h1, h2⟩ := name_ok hb
          by_cases h6 : ps.length = 6
          · rw [if_pos h6] at h2; cases h2
          · rw [if_neg h6] at h2
            cases h2
            exact ⟨h6, tail_lt (by omega)⟩
        have hu : (ps ++ [s]).length = ps.length + 1 := by simp
        have hm : R0 = (if is cRP l2 then R.ok [s] l2.tail else want cComma l2 fun l => (params.paramL (6 - (ps.length + 1)) l).bind fun r l => .ok (s :: r) l).bind fun r l' => .ok (ps ++ r) l' := hm
        refine .inl ⟨rfl, ?_⟩
        refine (take_any cRP (H6.nth 0 rfl)).mono ?_
        rintro _ w7 ⟨rfl, hp⟩
        have H7 := H6.upd 0 rfl hp
        refine ⟨_, rfl, ?_⟩
        cases hi2 : is cRP l2 with
        | true =>
          rw [hi2] at hm
          rw [if_pos hi2] at H7
          exact ⟨⟨ps ++ [s], p', c', l2.tail, H7, by rw [hu]; omega, hm⟩, by show 0 < lenAt b w4 + 1; omega⟩
        | false =>
          rw [hi2] at hm
          rw [if_neg (by rw [hi2]; exact Bool.false_ne_true)] at H7
          have hm : R0 = (want cComma l2 fun l => (params.paramL (6 - (ps.length + 1)) l).bind fun r l => .ok (s :: r) l).bind fun r l' => .ok (ps ++ r) l' := hm
          unfold want at hm
          cases hi3 : is cComma l2 with
          | false =>
            rw [hi3] at hm
            rw [show R0 = .err (now l2).line 8 from hm]
            exact perr H7 0 rfl (want_no (s := cComma) (H7.nth 0 rfl) hi3)
          | true =>
            rw [hi3] at hm
            refine (want_yes (s := cComma) (H7.nth 0 rfl) hi3).mono ?_
            rintro _ w8 ⟨rfl, hp⟩
            have H8 := H7.upd 0 rfl hp
            have h8 := tail_lt (l := l2) (by rw [is_k hi3]; omega)
            refine .inl ⟨rfl, ⟨ps ++ [s], p', c', l2.tail, H8, by rw [hu]; omega, ?_⟩, ?_⟩
            · show R0 = (params.paramL (6 - (ps ++ [s]).length) l2.tail).bind fun r l' => .ok (ps ++ [s] ++ r) l'
              rw [hu]
              rw [show R0 = ((params.paramL (6 - (ps.length + 1)) l2.tail).bind fun r l => .ok (s :: r) l).bind fun r l' => .ok (ps ++ r) l' from hm]
              cases params.paramL (6 - (ps.length + 1)) l2.tail with
              | ok xs l' => show R.ok _ _ = R.ok _ _; simp
              | err => rfl
              | out => rfl
            · show lenAt b w8 + 1 < lenAt b w4 + 1
              rw [lenAt_par (H8.nth 0 rfl), lenAt_par (H4.nth 0 rfl)]
              omega
    · subst hm1
      have hm : R0 = .ok ps l1 := hm
      rw [hm]
      exact ⟨rfl, p, c, St.post (St.shut (L' := []) (by simpa using H4)) 0 rfl⟩
end Go.Proofs.YtojogkljneonmaaGreatDoor
/- The checker in memory: what is visible; the small functions. No condition. -/
namespace Go.Proofs.YtojogkljneonmaaGreatDoor
open Go Go.Proofs Go.Sep Go.XHeap Go.RowKit Go.Lang
set_option linter.unusedVariables false
set_option linter.unusedSimpArgs false

/-- a map keyed by strings -/
def mpS (b : Nat) (f : ByteArray → Option Value) : Asn := ⟨fun k => k = b, fun w => Sx.MpS w b f, fun h ht hn => Sx.MpS.keep h ht (hn b rfl), fun h k e => by subst e; exact Sx.MpS.lt h⟩
/-- a function's header: its block, its token, its name, parameters, body, number -/
structure Fh where
  k : Nat
  t : Tok
  nm : ByteArray
  np : Nat
  p : Option Addr
  c : Nat
  kb : Nat
  no : Int
/-- a declaration's header in memory -/
inductive Gd where
  | var (k : Nat) (t : Tok) (nm : ByteArray) (w z : Int)
  | fn (h : Fh) (sl : Int)
def hdA : Gd → Asn
  | .var k t nm w z => blk k (varC t nm w z).toArray 127
  | .fn h s => blk h.k (fnC h.t h.nm (.slice h.p h.np h.c) (pt h.kb) s h.no).toArray 115
/-- the scope's slices -/
structure Sp where
  pl : Option Addr
  cl : Nat
  pi : Option Addr
  ci : Nat
/-- what does not change in a function's check -/
structure Cx where
  ks : Nat
  kp : Nat
  km : Nat
  I : ByteArray → Option Value
  G : List Gd
  j : Nat
  h : Fh
def Cx.gs (X : Cx) (n : Nat) : List Gd := X.G.set X.j (.fn X.h (n : Int))
def scL (X : Cx) (S : Sp) (n : Nat) (Ls : Lcs) : List Asn :=
  [blk X.ks #[pt X.kp, .map (some X.km), .slice S.pl Ls.length S.cl, .slice S.pi Ls.length S.ci, pt X.h.k] 138,
   sl 9 1 (.slice S.pl Ls.length S.cl) Ls.length (Ls.map fun p => .string p.1),
   sl 3 1 (.slice S.pi Ls.length S.ci) Ls.length (Ls.map fun p => .int .i64 (p.2 : Int)),
   mpS X.km X.I, all ((X.gs n).map hdA)]
def scA (X : Cx) (S : Sp) (n : Nat) (Ls : Lcs) : Asn := all (scL X S n Ls)
/-- what the names' map holds of a name -/
def LkAt (I : ByteArray → Option Value) (G : List Gd) (s : ByteArray) : Option Gl → Prop
  | none => I s = none
  | some (.var w z) => ∃ (i k : Nat) (t : Tok) (nm : ByteArray), I s = some (.iface 125 (pt k)) ∧ G[i]? = some (Gd.var k t nm w z)
  | some (.fn k np) => ∃ (i : Nat) (h : Fh) (sl : Int), I s = some (.iface 63 (pt k)) ∧ G[i]? = some (Gd.fn h sl) ∧ h.k = k ∧ h.np = np
def EnvOk (lk : Lk) (X : Cx) : Prop := X.j < X.G.length ∧ ∀ n s, LkAt X.I (X.gs n) s (lk s)
/-- it panics with the fault -/
def ErrC (A : Asn) (w : World) (line en : Int) (e : Ending) (w' : World) : Prop := ∃ b, e = .panicked (pan b) ∧ Post A w (fltA b line en) w'
def AnsC {α : Type} (A : Asn) (w : World) (r : C α) (K : α → Ending → World → Prop) (e : Ending) (w' : World) : Prop := match r with
  | .ok x => K x e w'
  | .err line en => ErrC A w line en e w'
section
variable {P : Program} {f : FuncId} {args : Array Value} {w0 w : World} {M : Nat → Prop} {A A0 : Asn} {L : List Asn} {α β : Type} {K : α → Ending → World → Prop} {K0 : β → Ending → World → Prop} {line en : Int} {G : Ending → World → Prop}
theorem fail_c [Inhabited G3o] (H : St w0 A0.own w L) (line e : Int) {R0 : C β} (hR : R0 = .err line e) : Calls Tryz.prog 52 #[.int .i64 line, .int .i64 e] w (fun en w' => ∃ c : List PanicEntry, en = .panicked c ∧ AnsC A0 w0 R0 K0 (.panicked c) w') := by
  subst hR
  refine (fail_any line e).mono ?_
  rintro en w' ⟨q, rfl, hp⟩
  exact ⟨_, rfl, q, rfl, (H.add hp).post L.length (by simp)⟩
theorem ccase [Inhabited G3o] (H : St w0 A0.own w L) (k : Nat) (hk : L[k]? = some A) {r : C α} {kk : α → C β} {R0 : C β} (hR : R0 = r.bind kk) (hc : Calls P f args w (AnsC A w r K)) (h : ∀ x e w', r = .ok x → R0 = kk x → K x e w' → G e w') :
    Calls P f args w (fun e w' => G e w' ∨ ∃ c : List PanicEntry, e = .panicked c ∧ AnsC A0 w0 R0 K0 (.panicked c) w') := by
  refine hc.mono fun e w' h' => ?_
  cases r with
  | ok x => exact .inl (h x e w' rfl hR h')
  | err line en =>
    obtain ⟨q, rfl, hp⟩ := h'
    subst hR
    exact .inr ⟨_, rfl, q, rfl, (H.upd k hk hp).post k (set_same _ hk)⟩
end
variable {W : World} {X : Cx} {S : Sp} {n : Nat} {Ls : Lcs} {lk : Lk}
theorem find_at (s : ByteArray) : ∀ (L : Lcs) (i : Nat), (∀ j, j < i → ∀ p, L[j]? = some p → p.1 ≠ s) → (∀ p, L[i]? = some p → p.1 = s → localOf L s = (p.2 : Int)) ∧ (L.length ≤ i → localOf L s = -1)
  | [], i, h => ⟨(fun p hp => by simp at hp), (fun _ => rfl)⟩
  | q :: L, 0, h => by
    refine ⟨fun p hp he => ?_, fun h => by simp at h⟩
    simp at hp; subst hp
    unfold localOf
    rw [List.find?_cons_of_pos (by simpa using he)]
  | q :: L, i + 1, h => by
    have hq := h 0 (by omega) q rfl
    have h1 := find_at s L i (fun j hj p hp => h (j + 1) (by omega) p (by simpa using hp))
    have e : localOf (q :: L) s = localOf L s := by
      unfold localOf
      rw [List.find?_cons_of_neg (by simpa using hq)]
    rw [e]
    exact ⟨(fun p hp => h1.1 p (by simpa using hp)), (fun hl => h1.2 (by simpa using hl))⟩
theorem sl_get {w : World} {e : TypeId} {p : Option Addr} {m c : Nat} {xs : List Value} (h : Sl w e 1 (.slice p m c) m xs) {i : Nat} {v : Value} (hi : xs[i]? = some v) {φ : Nat → Nat → Prop} (hφ : ∀ g o, w.cell? ⟨g, o + i, none⟩ = some v → φ g o) : Sx.adr p φ := by
  obtain ⟨ao, cap, hv, hl, -, -, -, h1⟩ := h.open1
  simp at hv
  obtain ⟨rfl, rfl⟩ := hv
  have hlt : i < m := by have := (List.getElem?_eq_some_iff.1 hi).1; omega
  obtain ⟨g, off, rfl, -, h2⟩ := h1 (by omega)
  exact adr_some (hφ g off (by rw [(h2 i hlt).1]; exact hi))
theorem slocal_any [Inhabited G3o] (s : ByteArray) (hsz : Ls.length ≤ 24) (h : (scA X S n Ls).at_ W) : Calls Tryz.prog 96 #[pt X.ks, .string s] W fun e w' => e = .returned (.int .i64 (localOf Ls s)) ∧ w' = W := by
  refine vc96 X.ks 0 s ?_
  have H : St W (scA X S n Ls).own W (scL X S n Ls ++ []) := St.open_ (St.begin h)
  refine ⟨_, _, _, H.ld 0 rfl (i := 2) rfl, ?_⟩
  refine ⟨fun x w => w = W ∧ ∃ i : Nat, x = i ∧ i ≤ Ls.length ∧ ∀ j, j < i → ∀ p, Ls[j]? = some p → p.1 ≠ s, fun x _ => (Ls.length - x).toNat, ⟨rfl, 0, rfl, by omega, fun j hj => by omega⟩, fun _ x w2 hI => ?_⟩
  obtain ⟨rfl, i, rfl, hi, hno⟩ := hI
  refine Sx.split_of (fun h => ?_) (fun h => ?_)
  · have h2 : i < Ls.length := by have := of_decide_eq_true h; omega
    have hg : Ls[i]? = some Ls[i] := List.getElem?_eq_getElem h2
    refine ⟨⟨by omega, by omega⟩, ?_⟩
    refine sl_get (H.nth 1 rfl) (i := i) (v := .string Ls[i].1) (by rw [List.getElem?_map, hg]; rfl) fun g o hc => ?_
    rw [ix1]
    refine ⟨_, hc, ?_⟩
    rw [toList_eq]
    refine Sx.split_of (fun h3 => ?_) (fun h3 => ?_)
    · refine ⟨_, _, _, H.ld 0 rfl (i := 3) rfl, ⟨by omega, by omega⟩, ?_⟩
      refine sl_get (H.nth 2 rfl) (i := i) (v := .int .i64 (Ls[i].2 : Int)) (by rw [List.getElem?_map, hg]; rfl) fun g2 o2 hc2 => ?_
      rw [ix1]
      refine ⟨_, hc2, ?_, rfl⟩
      rw [(find_at s Ls i hno).1 _ hg (of_decide_eq_true h3)]
    · rintro z rfl
      have hw : IntKind.wrap .i64 ((i : Nat) + 1 : Int) = ((i + 1 : Nat) : Int) := by rw [show ((i : Nat) + 1 : Int) = ((i + 1 : Nat) : Int) by omega]; exact Go.Bits.n64 (by omega)
      rw [hw]
      refine ⟨⟨rfl, i + 1, rfl, by omega, fun j hj p hp => ?_⟩, by show ((Ls.length : Int) - ((i + 1 : Nat) : Int)).toNat < ((Ls.length : Int) - ((i : Nat) : Int)).toNat; omega⟩
      rcases Nat.lt_or_eq_of_le (Nat.lt_succ_iff.1 hj) with h7 | h7
      · exact hno j h7 p hp
      · subst h7
        rw [hg] at hp
        cases hp
        exact of_decide_eq_false h3
  · have h2 : Ls.length ≤ i := by have := of_decide_eq_false h; omega
    exact ⟨by rw [(find_at s Ls i hno).2 h2], rfl⟩
theorem hd_at {w : World} {L : List Gd} {i : Nat} {g : Gd} (h : here (L.map hdA) w) (hi : L[i]? = some g) : (hdA g).at_ w := h.nth i (by rw [List.getElem?_map, hi]; rfl)
theorem tag_eq {t : TypeId} {v : Value} {a : Value → Prop} {b : Prop} (h : a v) : Sx.tagOf (.iface t v) t a b := by
  exact Sx.split_of (fun _ => h) (fun e => by rw [Nat.beq_refl] at e; cases e)
theorem tag_ne {t u : TypeId} {v : Value} {a : Value → Prop} {b : Prop} (hn : t ≠ u) (h : b) : Sx.tagOf (.iface t v) u a b := by
  exact Sx.split_of (fun e => absurd (Nat.eq_of_beq_eq_true e) hn) (fun _ => h)
theorem tag_nil {u : TypeId} {a : Value → Prop} {b : Prop} (h : b) : Sx.tagOf .nilIface u a b := h
end Go.Proofs.YtojogkljneonmaaGreatDoor
/- The reference's parser: binary operations. No condition. -/
namespace Go.Proofs.YtojogkljneonmaaGreatDoor
open Go Go.Proofs Go.Sep Go.XHeap Go.RowKit Go.Lang
set_option linter.unusedVariables false
set_option linter.unusedSimpArgs false
variable {W w0 w : World} {M : Nat → Prop} {L : List Asn} {R : Rx} {l : List Tok} {n : Nat} {line en : Int}
theorem opsOf_len (k : Nat) : (opsOf k).length ≤ 4 := by
  unfold opsOf
  split <;> simp
/-- the last of these operations that stands here -/
def opOf (l : List Tok) (ops : List ByteArray) : ByteArray := if ops.any (fun s => is s l) then (now l).s else ⟨#[]⟩
theorem is_text {s : ByteArray} (h : is s l = true) : s = (now l).s := by
  unfold is at h
  rw [Bool.and_eq_true] at h
  exact (of_decide_eq_true h.2).symm
theorem opOf_snoc [Inhabited G3o] (ops : List ByteArray) (s : ByteArray) : opOf l (ops ++ [s]) = if is s l then s else opOf l ops := by
  unfold opOf
  rw [List.any_append]
  cases h : is s l with
  | true =>
    rw [if_pos (by simp [h]), if_pos rfl]
    exact (is_text h).symm
  | false => simp [h]
theorem opOf_all [Inhabited G3o] {k : Nat} (hk : k < 10) : ((now l).k = 3 ∧ strength (now l).s = k + 1 ∧ opOf l (opsOf k) = (now l).s ∧ (now l).s ≠ ⟨#[]⟩) ∨ (¬ ((now l).k = 3 ∧ strength (now l).s = k + 1) ∧ opOf l (opsOf k) = ⟨#[]⟩) := by
  by_cases h : (now l).k = 3 ∧ strength (now l).s = k + 1
  · refine .inl ⟨h.1, h.2, ?_, ?_⟩
    · unfold opOf
      rw [if_pos]
      rw [List.any_eq_true]
      exact ⟨_, mem_ops.2 ⟨h.2, hk⟩, by unfold is; rw [h.1]; simp⟩
    · intro e
      have h2 := h.2
      rw [e, show strength ⟨#[]⟩ = 0 by decide] at h2
      omega
  · refine .inr ⟨h, ?_⟩
    unfold opOf
    rw [if_neg]
    rw [List.any_eq_true]
    rintro ⟨s, hs, hi⟩
    exact h ⟨is_k hi, by rw [← is_text hi]; exact (mem_ops.1 hs).1⟩
theorem isF_len1 [Inhabited G3o] {f : Fo} {us : List Value} {B : Asn} (h : isF f us B) (hu : us.length = 6) : 1 = f.len := by
  have := isF_len h
  omega
/-- the loop's state: what was read so far, or an error -/
def binI [Inhabited G3o] (R : Rx) (n k k1 g kx f : Nat) (W : World) (l : List Tok) (R0 : Lang.R T) (w : World) : Prop :=
  (∃ x l1 f1 us B, ones us ∧ isF (toF x .nil) us B ∧ run f1 (.loop (k + 1) x) n l1 = R0 ∧ f1 ≤ f ∧ weak (k + 2) l1 ∧ St W (rlA R l n).own w [rlA R l1 n, B, blk k1 nodeZ.toArray 52, sl 9 1 (.slice (some ⟨g, 0, none⟩) (opsOf k).length (opsOf k).length) (opsOf k).length (strs' (opsOf k)), blk kx us.toArray 52]) ∨
  (∃ line en us, R0 = .err line en ∧ ones us ∧ St W (rlA R l n).own w [rdA R line en, blk k1 nodeZ.toArray 52, sl 9 1 (.slice (some ⟨g, 0, none⟩) (opsOf k).length (opsOf k).length) (opsOf k).length (strs' (opsOf k)), blk kx us.toArray 52])
theorem rbin_step [Inhabited G3o] {f k : Nat} (I : ∀ f' < f, ∀ k ≤ 10, JB f' k) (Iu : ∀ f' < f, JE 147 .un f') (hk : k ≤ 10) (hK : k < 10 → JB f (k + 1)) : JB f k := by
  intro W R n l h hn hr
  generalize hR : run f (.bin (k + 1)) n l = R0 at *
  refine vc137 R.b 0 k ?_
  refine (St.begin h).al fun k1 w2 H2 => ?_
  refine (rlevels_any hk).mono ?_
  rintro e w3 (⟨hk2, g, rfl, hp⟩ | ⟨hk2, rfl, hp⟩)
  · have H3 := H2.add hp
    clear hp H2
    refine ⟨_, _, _, rfl, Sx.split_of (fun h => by cases h) (fun _ => ?_)⟩
    rintro z rfl
    rw [inc64 (by omega)]
    have hsp := bin_split hR hr
    refine (hK hk2 (H3.nth 0 rfl) hn ?_).mono ?_
    · rcases hsp with ⟨a, b, c, -⟩ | ⟨a, b, c, d, -⟩
      · rw [c]; intro e; cases e
      · rw [d]; intro e; cases e
    intro e w4 he
    rcases hsp with ⟨line, en, hb, hR0⟩ | ⟨x, l1, f1, hb, hf, hR0⟩
    rw [hb] at he
    obtain ⟨us, rfl, ho, hp⟩ := he
    have H4 := H3.upd 0 rfl hp
    clear hp H3
    refine ⟨_, rfl, ?_⟩
    refine H4.al fun kx w5 H5 => ?_
    refine H5.sts0 3 (n := 6) (vs := us.toArray) rfl (by simpa using ho.1) rfl (by simpa using ho.2) fun w6 H6 => ?_
    refine ⟨binI R n k k1 g kx f W l R0, fun w => rmeas R w, .inr ⟨line, en, us, hR0, ho, H6⟩, ?_⟩
    rotate_left
    rw [hb] at he
    obtain ⟨us, B, rfl, ho, hF, hp⟩ := he
    have H4 := St.open_ (L := [_, _]) (H3.upd 0 rfl hp)
    clear hp H3
    refine ⟨_, rfl, ?_⟩
    refine H4.al fun kx w5 H5 => ?_
    refine H5.sts0 4 (n := 6) (vs := us.toArray) rfl (by simpa using ho.1) rfl (by simpa using ho.2) fun w6 H6 => ?_
    refine ⟨binI R n k k1 g kx f W l R0, fun w => rmeas R w, .inl ⟨x, l1, f1, us, B, ho, hF, hR0, by omega, bin_weak hb, H6⟩, ?_⟩
    all_goals
      clear H6 H5 H4 hb hR0
      intro _ w9 hI
      rcases hI with ⟨x, l1, f1, us, B, ho, hF, hrun, hf, hwk, H9⟩ | ⟨line, en, us, hR0, ho, H9⟩
      · refine rl_err H9 (Sx.split_of (fun _ => ?_) (fun h => by cases h))
        refine ⟨fun i op w => ∃ j : Nat, i = (j : Nat) ∧ j ≤ (opsOf k).length ∧ op = opOf l1 ((opsOf k).take j) ∧ St W (rlA R l n).own w [rlA R l1 n, B, blk k1 nodeZ.toArray 52, sl 9 1 (.slice (some ⟨g, 0, none⟩) (opsOf k).length (opsOf k).length) (opsOf k).length (strs' (opsOf k)), blk kx us.toArray 52], fun i _ _ => (opsOf k).length - i.toNat, ⟨0, rfl, Nat.zero_le _, rfl, H9⟩, ?_⟩
        rintro _ i op w10 ⟨j, rfl, hj, rfl, H10⟩
        refine Sx.split_of (fun h1 => ?_) (fun h1 => ?_)
        · have h1 : j < (opsOf k).length := by have := of_decide_eq_true h1; omega
          refine ⟨⟨by omega, by omega⟩, ?_⟩
          have hgj : (strs' (opsOf k))[j]? = some (.string (opsOf k)[j]) := by simp [strs', h1]
          refine sl_get (H10.nth 3 rfl) hgj fun g2 o2 hc => ?_
          refine ⟨(opsOf k)[j], by rw [ix1]; exact hc, ?_⟩
          refine H10.callq (rl_is _ (H10.nth 0 rfl)) fun w11 H11 => ?_
          have hw : IntKind.wrap .i64 ((j : Nat) + 1 : Int) = ((j + 1 : Nat) : Int) := by
            rw [show ((j : Nat) + 1 : Int) = ((j + 1 : Nat) : Int) by omega]
            refine Go.Bits.n64 ?_
            have := opsOf_len k
            omega
          have htk : (opsOf k).take (j + 1) = (opsOf k).take j ++ [(opsOf k)[j]] := by rw [List.take_succ_eq_append_getElem h1]
          refine ⟨_, rfl, Sx.split_of (fun h2 => ?_) (fun h2 => ?_)⟩
          · refine ⟨⟨by omega, by omega⟩, ?_⟩
            refine sl_get (H11.nth 3 rfl) hgj fun g3 o3 hc3 => ?_
            refine ⟨(opsOf k)[j], by rw [ix1]; exact hc3, ?_⟩
            rintro z rfl
            rw [hw]
            exact ⟨⟨j + 1, rfl, by omega, by rw [htk, opOf_snoc, if_pos h2], H11⟩, by show _ - ((j + 1 : Nat) : Int).toNat < _ - ((j : Nat) : Int).toNat; omega⟩
          · rintro z rfl
            rw [hw]
            exact ⟨⟨j + 1, rfl, by omega, by rw [htk, opOf_snoc, if_neg (by rw [h2]; exact Bool.false_ne_true)], H11⟩, by show _ - ((j + 1 : Nat) : Int).toNat < _ - ((j : Nat) : Int).toNat; omega⟩
        · have h1 : j = (opsOf k).length := by have := of_decide_eq_false h1; omega
          subst h1
          rw [List.take_length]
          have e0 : (ByteArray.toList (opOf l1 (opsOf k)) == ByteArray.toList ⟨#[]⟩) = decide (opOf l1 (opsOf k) = ⟨#[]⟩) := toList_eq _ _
          rw [e0]
          rcases opOf_all (l := l1) hk2 with ⟨a1, a2, a3, a4⟩ | ⟨a1, a3⟩
          · rw [a3, decide_eq_false a4]
            refine Sx.split_of (fun h => by cases h) (fun _ => ?_)
            match f1, hrun with
            | 0, hrun => exact absurd hrun.symm hr
            | f1 + 1, hrun =>
            have hrun : R0 = (run f1 (.bin (k + 1 + 1)) n l1.tail).bind fun y l' => run f1 (.loop (k + 1) (.bin (now l1) x y)) n l' := by
              rw [← hrun, run, if_pos ⟨a1, by omega⟩, a2]
            refine rl_line H10 ?_
            refine H10.drN fun w12 H12 => ?_
            refine rl_adv (by omega) H12 fun w13 H13 => ?_
            rintro z rfl
            have hb2 : run f1 (.bin (k + 1 + 1)) n l1.tail ≠ .out := fun e => hr (by rw [hrun, e]; rfl)
            refine (I f1 (by omega) (k + 1) (by omega) (H13.nth 0 rfl) hn hb2).mono ?_
            intro e w14 he
            cases hb : run f1 (.bin (k + 1 + 1)) n l1.tail with
            | out => exact absurd hb hb2
            | err line en =>
              rw [hb] at he hrun
              obtain ⟨vs, rfl, ho2, hp⟩ := he
              have H14 := H13.upd 0 rfl hp
              refine ⟨_, rfl, ?_⟩
              refine H14.al fun k17 w15 H15 => ?_
              refine H15.sts0 5 (n := 6) (vs := vs.toArray) rfl (by simpa using ho2.1) rfl (by simpa using ho2.2) fun w16 H16 => ?_
              refine cells_node H16 (k := 4) rfl ho.1 ?_
              refine cells_node H16 (k := 5) rfl ho2.1 ⟨by simpa using ho.1, by simpa using ho2.1, ?_⟩
              refine H16.al fun k19 w17 H17 => ?_
              rintro vs9 rfl
              refine H17.sts0 4 (n := 6) (vs := (nodeC cBinK (now l1).s (now l1).line 0 (.slice (some ⟨k19, 0, none⟩) 2 2) (.slice none 0 0)).toArray) rfl rfl (by simpa using ho.1) nodeC_one fun w18 H18 => ?_
              exact ⟨.inr ⟨line, en, _, hrun, ones_C, H18.pick [0, 2, 3, 4]⟩, rmeas_ltd (H9.nth 0 rfl) (H18.nth 0 rfl)⟩
            | ok y l2 =>
              rw [hb] at he hrun
              have hrun : R0 = run f1 (.loop (k + 1) (.bin (now l1) x y)) n l2 := hrun
              obtain ⟨vs, B2, rfl, ho2, hF2, hp⟩ := he
              have H14 := St.open_ (L := [_, _]) (H13.upd 0 rfl hp)
              refine ⟨_, rfl, ?_⟩
              refine H14.al fun k17 w15 H15 => ?_
              refine H15.sts0 6 (n := 6) (vs := vs.toArray) rfl (by simpa using ho2.1) rfl (by simpa using ho2.2) fun w16 H16 => ?_
              refine cells_node H16 (k := 5) rfl ho.1 ?_
              refine cells_node H16 (k := 6) rfl ho2.1 ⟨by simpa using ho.1, by simpa using ho2.1, ?_⟩
              refine H16.al fun k19 w17 H17 => ?_
              rintro vs9 rfl
              refine H17.sts0 5 (n := 6) (vs := (nodeC cBinK (now l1).s (now l1).line 0 (.slice (some ⟨k19, 0, none⟩) 2 2) (.slice none 0 0)).toArray) rfl rfl (by simpa using ho.1) nodeC_one fun w18 H18 => ?_
              have H19 := H18.pick [2, 1, 7, 0, 3, 4, 5]
              obtain ⟨C, hC, H20⟩ := two_rows hF hF2 H19
              have H21 := H20.pick [1, 0, 2, 3, 4, 5]
              obtain ⟨C2, hC2, H22⟩ := mk_blk cBinK (now l1).s (now l1).line 0 hC (m := 2) (by rw [Fo.app_len, ← isF_len1 hF ho.1, ← isF_len1 hF2 ho2.1]) (by omega) (by rw [List.append_nil] at H21; exact H21)
              have hl2 : l2.length ≤ l1.tail.length := (run_le _ _ _ _ _ _ hb).1
              have hlt := tail_lt (l := l1) (by omega)
              refine ⟨.inl ⟨_, l2, f1, _, C2, ones_C, ?_, hrun.symm, by omega, bin_weak hb, H22.pick [1, 0, 2, 3, 4]⟩, rmeas_lt (H9.nth 0 rfl) (H18.nth 0 rfl) (by omega)⟩
              have e2 : toF (.bin (now l1) x y) .nil = .cons cBinK (now l1).s (now l1).line 0 ((toF x .nil).app (toF y .nil)) [] .nil := by rw [← toF_app]; rfl
              rw [e2]; exact hC2
          · rw [a3, decide_eq_true rfl]
            refine Sx.split_of (fun _ => ?_) (fun h => by cases h)
            have hfin : R0 = .ok x l1 := by
              rw [← hrun]
              cases f1 with
              | zero => exact absurd hrun.symm hr
              | succ f1 =>
                rw [run, if_neg]
                rintro ⟨b1, b2⟩
                by_cases b3 : strength (now l1).s = k + 1
                · exact a1 ⟨b1, b3⟩
                · exact hwk ⟨b1, by omega⟩
            refine cells_node H10 (k := 4) rfl ho.1 ?_
            exact ret_node H10 (k := 2) rfl rfl ho.1 ho.2 fun w8 H8 => rk_ok hfin ho hF H8
      · refine rd_err H9 (fun hen => Sx.split_of (fun h => absurd (beq_iff_eq.1 h) hen) (fun _ => ?_))
        refine cells_node H9 (k := 3) rfl ho.1 ?_
        exact ret_node H9 (k := 1) rfl rfl ho.1 ho.2 fun w8 H8 => rk_err hR0 ho H8
  · have H3 := H2.quiet hp
    subst hk2
    refine ⟨_, _, _, rfl, Sx.split_of (fun _ => ?_) (fun h => by cases h)⟩
    obtain ⟨f1, hf, hrun⟩ := bin_top (f := f) (n := n) (l := l) (by rw [hR]; exact hr)
    rw [hR] at hrun
    refine rcall (kk := fun x l => .ok x l) H3 (by rw [hrun]; cases run f1 .un n l <;> rfl) hr (fun hr => Iu f1 hf (H3.nth 0 rfl) hn hr) ?_ ?_
    · intro x l' us B w4 hR ho hF H4
      refine ⟨_, rfl, ?_⟩
      exact ret_node H4 (k := 2) rfl rfl ho.1 ho.2 fun w8 H8 => rk_ok hR ho hF H8
    · intro line en us w4 hR ho H4
      refine ⟨_, rfl, ?_⟩
      exact ret_node H4 (k := 1) rfl rfl ho.1 ho.2 fun w8 H8 => rk_err hR ho H8
end Go.Proofs.YtojogkljneonmaaGreatDoor
