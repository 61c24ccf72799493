import Derived.Test.YtojogkljneonmaaGreatDoorLangTb
import Derived.Test.YtojogkljneonmaaGreatDoorLangZd
/- The reference's checker: new locals, statements. No condition. -/
namespace Go.Lang
def fone (g : Gf) (k s : ByteArray) (line : Int) (ks : Fo) (Ls : List ByteArray) (n : Nat) : C (List ByteArray × Nat) :=
  if k = cBlockK then (fst' g ks Ls n).bind fun p => .ok (Ls, p.2)
  else (fpre g Ls k s line).bind fun _ => (fwhole g Ls 0 ks).bind fun _ =>
    if k = cLet then fdecl g Ls n line s
    else if k = cPutK then (fwhole g Ls 1 ks.tl).bind fun _ => .ok (Ls, n)
    else if k = cIf ∨ k = cWhile then fst' g ks.tl Ls n
    else .ok (Ls, n)
theorem fst_one (g : Gf) (k s : ByteArray) (line v : Int) (ks : Fo) (ns : List ByteArray) (r : Fo) (Ls : List ByteArray) (n : Nat) : fst' g (.cons k s line v ks ns r) Ls n = (fone g k s line ks Ls n).bind fun p => fst' g r p.1 p.2 := by
  rw [fst']
  rfl
theorem fst_nil (g : Gf) (Ls : List ByteArray) (n : Nat) : fst' g .nil Ls n = .ok (Ls, n) := by rw [fst']
/-- rows of statements as the parser makes them -/
def fok : Fo → Prop
  | .nil => True
  | .cons k _ _ _ ks _ r => (k ≠ cBlockK → ks ≠ .nil ∧ (k = cPutK → ks.tl ≠ .nil)) ∧ (k = cBlockK → fok ks) ∧ (k = cIf ∨ k = cWhile → fok ks.tl) ∧ fok r
termination_by f => f.sz
decreasing_by
  all_goals simp only [Fo.sz]
  all_goals (try have := Fo.tl_le ks)
  all_goals omega
/-- locals that were visible stay; there are no more than were counted -/
theorem fst_pre (g : Gf) : ∀ (N : Nat) (f : Fo), f.sz < N → ∀ (Ls Ls' : List ByteArray) (n n' : Nat), fst' g f Ls n = .ok (Ls', n') → Ls.length ≤ n → n ≤ 24 → (∃ ex, Ls' = Ls ++ ex) ∧ Ls'.length ≤ n' ∧ n' ≤ 24
  | 0, f, h, _, _, _, _, _, _, _ => by omega
  | N + 1, .nil, h, Ls, Ls', n, n', he, h1, h2 => by
    rw [fst_nil] at he
    cases he
    exact ⟨⟨[], by simp⟩, h1, h2⟩
  | N + 1, .cons k s ln v ks ns r, h, Ls, Ls', n, n', he, h1, h2 => by
    simp only [Fo.sz] at h
    rw [fst_one] at he
    obtain ⟨p, ho, hr⟩ := C.bind_ok he
    have key : (∃ ex, p.1 = Ls ++ ex) ∧ p.1.length ≤ p.2 ∧ p.2 ≤ 24 := by
      unfold fone at ho
      split at ho
      · obtain ⟨q, hq, ho⟩ := C.bind_ok ho
        cases ho
        obtain ⟨⟨ex, a⟩, b, c⟩ := fst_pre g N ks (by omega) Ls q.1 n q.2 hq h1 h2
        rw [a, List.length_append] at b
        exact ⟨⟨[], by simp⟩, by show Ls.length ≤ q.2; omega, c⟩
      · obtain ⟨-, -, ho⟩ := C.bind_ok ho
        obtain ⟨-, -, ho⟩ := C.bind_ok ho
        split at ho
        · unfold fdecl at ho
          split at ho
          · cases ho
          · split at ho
            · cases ho
            · cases ho
              exact ⟨⟨[s], rfl⟩, by simp; omega, by show n + 1 ≤ 24; omega⟩
        · split at ho
          · obtain ⟨-, -, ho⟩ := C.bind_ok ho
            cases ho
            exact ⟨⟨[], by simp⟩, h1, h2⟩
          · split at ho
            · have := Fo.tl_le ks
              exact fst_pre g N ks.tl (by omega) Ls p.1 n p.2 ho h1 h2
            · cases ho
              exact ⟨⟨[], by simp⟩, h1, h2⟩
    obtain ⟨⟨ex, a⟩, b, c⟩ := key
    obtain ⟨⟨ex2, a2⟩, b2, c2⟩ := fst_pre g N r (by omega) p.1 Ls' p.2 n' hr b c
    exact ⟨⟨ex ++ ex2, by rw [a2, a, List.append_assoc]⟩, b2, c2⟩
end Go.Lang
namespace Go.Proofs.YtojogkljneonmaaGreatDoor
open Go Go.Proofs Go.Sep Go.XHeap Go.RowKit Go.Lang
set_option linter.unusedVariables false
set_option linter.unusedSimpArgs false
variable {W w0 w : World} {M : Nat → Prop} {L : List Asn} {K : Kx} {S : Ck}
theorem aft_cases [Inhabited G3o] {S : Ck} {r : C Unit} (h0 : S.err = 0) (hg : good r) : (r = .ok () ∧ S.aft r = S) ∨ ∃ l e, r = .err l e ∧ e ≠ 0 ∧ S.aft r = { S with line := l, err := e } := by
  cases r with
  | ok x => exact .inl ⟨rfl, aft_ok S⟩
  | err l e => exact .inr ⟨l, e, rfl, hg l e rfl, by unfold Ck.aft; rw [if_pos h0]⟩
theorem good_fwhole [Inhabited G3o] (g : Gf) (Ls : List ByteArray) (b : Nat) (f : Fo) : good (fwhole g Ls b f) := by
  unfold fwhole
  cases f with
  | nil => exact good_ok _
  | cons k s ln v ks ns r =>
    exact good_bind (good_fname _ _ _ _ _ _) fun _ => good_bind (good_finner _ _ _) fun _ => by
      split
      · exact good_err (by decide)
      · exact good_ok _
theorem good_fpre [Inhabited G3o] (g : Gf) (Ls : List ByteArray) (k s : ByteArray) (ln : Int) : good (fpre g Ls k s ln) := by
  unfold fpre
  split
  · exact good_fsc _ _ _ _
  · split
    · exact good_farr _ _ _ _
    · exact good_ok _
/-- the state behind a new local -/
def Ck.dcl (S : Ck) (g : Gf) (ln : Int) (nm : ByteArray) (p : Option Addr) (c : Nat) : Ck :=
  Ck.aft { S.aft (if (g nm).isSome || hasN S.Ls nm then .err ln 9 else .ok ()) with Ls := S.Ls ++ [nm], p := p, c := c, n := S.n + 1 } (if 24 < S.n + 1 then .err ln 4 else .ok ())
section
variable {k s : ByteArray} {ln v : Int} {q q2 : Option Addr} {m c m2 c2 : Nat}
theorem aft_pn (S : Ck) (r : C Unit) : (S.aft r).p = S.p ∧ (S.aft r).c = S.c ∧ (S.aft r).n = S.n := by
  unfold Ck.aft
  split
  · cases r <;> exact ⟨rfl, rfl, rfl⟩
  · exact ⟨rfl, rfl, rfl⟩
theorem rdeclare_any [Inhabited G3o] (nm : ByteArray) (hK : KOk K) (hs : S.Ls.length ≤ 100) (hn : 0 ≤ S.n ∧ S.n ≤ 100) (h : (ckA K S).at_ W) : Calls Tryz.prog 16 #[pt K.c, .agg (nodeC k s ln v (.slice q m c) (.slice q2 m2 c2)).toArray, .string nm] W fun e w' => e = .returned (.tuple #[]) ∧ ∃ p c, Post (ckA K S) W (ckA K (S.dcl (globF K.F) ln nm p c)) w' := by
  refine vc16 K.c 0 _ nm ?_
  refine (St.begin h).al fun k1 w2 H2 => ?_
  have H2 : St W (ckA K S).own w2 [ckA K S, blk k1 (nodeC k s ln v (.slice q m c) (.slice q2 m2 c2)).toArray 52] := H2
  refine (rglobal_any nm hK (H2.nth 0 rfl)).mono ?_
  rintro e w3 ⟨hh, hg⟩
  have H3 := H2.quiet hh
  have main : ∃ vs : List Value, ones vs ∧ e = .returned (.tuple #[.agg vs.toArray, .bool (globF K.F nm).isSome]) := by
    cases hgl : globF K.F nm with
    | none => rw [hgl] at hg; exact ⟨nodeZ, ones_Z, hg⟩
    | some x =>
      obtain ⟨k', v', m'⟩ := x
      rw [hgl] at hg
      obtain ⟨nm', ln', q', mm, c', q2', c2', rfl⟩ := hg
      exact ⟨_, ones_C, rfl⟩
  obtain ⟨vs, ho, rfl⟩ := main
  refine ⟨_, _, rfl, ?_⟩
  refine H3.al fun k2 w4 H4 => ?_
  refine H4.sts0 2 (n := 6) (vs := vs.toArray) rfl (node_ones ho) rfl (by simpa using ho.2) fun w5 H5 => ?_
  refine H5.callq (rlocal_any nm hs (H5.nth 0 rfl)) fun w6 H6 => ?_
  obtain ⟨S1, hS1⟩ : ∃ S1, S1 = S.aft (if (globF K.F nm).isSome || hasN S.Ls nm then .err ln 9 else .ok ()) := ⟨_, rfl⟩
  have e1 : S1.Ls = S.Ls := by rw [hS1, aft_Ls]
  have e2 := aft_pn S (if (globF K.F nm).isSome || hasN S.Ls nm then .err ln 9 else .ok ())
  rw [← hS1] at e2
  refine ⟨_, rfl, fun w => St W (ckA K S).own w [ckA K S1, blk k1 (nodeC k s ln v (.slice q m c) (.slice q2 m2 c2)).toArray 52], ?_, ?_⟩
  · have fail : ((globF K.F nm).isSome || hasN S.Ls nm) = true → ∃ vs : Array Value, vs.size = 6 ∧ Sx.cellsAt w6 ⟨k1, 0, none⟩ vs ∧ Calls Tryz.prog 14 #[pt K.c, .agg vs, .int .i64 9] w6 fun e3 w' => e3 = .returned (.tuple #[]) ∧ St W (ckA K S).own w' [ckA K S1, blk k1 (nodeC k s ln v (.slice q m c) (.slice q2 m2 c2)).toArray 52] := by
      intro hc
      refine fail_in' H6 1 rfl fun w' H' => ?_
      rw [hS1, if_pos hc]
      exact H'.pick [0, 1]
    refine Sx.split_of (fun h1 => fail (by rw [h1]; rfl)) (fun h1 => Sx.split_of (fun h2 => fail (by rw [h2, Bool.or_true])) (fun h2 => ?_))
    rw [h1, h2] at hS1
    rw [hS1, show (if (false || false) = true then C.err ln 9 else C.ok ()) = C.ok () from rfl, aft_ok]
    exact H6.pick [0, 1]
  · rintro _ w7 H7
    have H8 : St W (ckA K S).own w7 (ckL K S1 ++ [blk k1 (nodeC k s ln v (.slice q m c) (.slice q2 m2 c2)).toArray 52]) := St.open_ H7
    refine ⟨_, _, _, H8.ld 0 rfl (i := 1) rfl, ?_⟩
    refine H8.al fun k6 w8 H9 => ?_
    refine H9.app 1 rfl [.string nm] (.inr ⟨_, rfl, fun j u hj => ?_⟩) rfl (by intro u hu; rw [List.mem_singleton.1 hu]; rfl) (by rw [e1]; show _ ≤ maxLen; unfold maxLen; omega) (by rw [e1]; omega) fun p' c' w9 H10 => ?_
    · match j, hj with
      | 0, hj => cases hj; exact H9.ld 4 rfl (i := 0) rfl
    refine H10.st 0 rfl (i := 1) (by simp) fun w10 H11 => ?_
    refine ⟨_, H11.ld 0 rfl (i := 2) rfl, ?_⟩
    rintro z rfl
    rw [e2.2.2]
    have hw : IntKind.wrap .i64 (S.n + 1) = S.n + 1 := by
      obtain ⟨n, hn'⟩ : ∃ n : Nat, S.n = n := ⟨S.n.toNat, by omega⟩
      rw [hn']
      exact inc64 (by omega)
    rw [hw]
    refine H11.st 0 rfl (i := 2) (by simp) fun w11 H12 => ?_
    refine ⟨_, H12.ld 0 rfl (i := 2) rfl, ?_⟩
    obtain ⟨S2, hS2⟩ : ∃ S2 : Ck, S2 = { S1 with Ls := S1.Ls ++ [nm], p := p', c := c', n := S.n + 1 } := ⟨_, rfl⟩
    have H13 : St W (ckA K S).own w11 [ckA K S2, blk k1 (nodeC k s ln v (.slice q m c) (.slice q2 m2 c2)).toArray 52] := by
      refine St.shut (L := ckL K S2) ?_
      have h1 : S2.Ls.length = S1.Ls.length + 1 := by rw [hS2]; simp
      have h2 : strs' S2.Ls = strs' S1.Ls ++ [.string nm] := by rw [hS2]; simp [strs']
      unfold ckL
      rw [h1, h2, hS2]
      exact H12.pick [0, 1, 2, 3]
    have hfin : S.dcl (globF K.F) ln nm p' c' = S2.aft (if 24 < S.n + 1 then .err ln 4 else .ok ()) := by
      unfold Ck.dcl
      rw [← hS1, hS2, e1]
    refine Sx.split_of (fun h1 => ?_) (fun h1 => ?_)
    · have h1 : 24 < S.n + 1 := by have := of_decide_eq_true h1; omega
      rw [if_pos h1] at hfin
      exact fail_in' H13 1 rfl fun w' H' => ⟨rfl, p', c', by rw [hfin]; exact H'.post 0 rfl⟩
    · have h1 : ¬ 24 < S.n + 1 := by have := of_decide_eq_false h1; omega
      rw [if_neg h1, aft_ok] at hfin
      exact ⟨rfl, p', c', by rw [hfin]; exact H13.post 0 rfl⟩
end
end Go.Proofs.YtojogkljneonmaaGreatDoor
/- The reference's checker: statements. No condition. -/
namespace Go.Proofs.YtojogkljneonmaaGreatDoor
open Go Go.Proofs Go.Sep Go.XHeap Go.RowKit Go.Lang
set_option linter.unusedVariables false
set_option linter.unusedSimpArgs false
variable {W w0 w : World} {M : Nat → Prop} {L : List Asn} {K : Kx} {S : Ck}
/-- what a statement leaves -/
def CKr (K : Kx) (S : Ck) (W : World) (r : C (List ByteArray × Nat)) (w' : World) : Prop := match r with
  | .ok q => ∃ p c, Post (ckA K S) W (ckA K { S with Ls := q.1, p := p, c := c, n := (q.2 : Nat) }) w'
  | .err line en => en ≠ 0 ∧ ∃ S' : Ck, S'.line = line ∧ S'.err = en ∧ S.Ls.length ≤ S'.Ls.length ∧ Post (ckA K S) W (ckA K S') w'
/-- locals are visible no more -/
theorem blk_exit [Inhabited G3o] {φ : World → Prop} {n0 : Nat} (H : St w0 M w (ckA K S :: L)) (hle : n0 ≤ S.Ls.length) (hq : ∀ w', St w0 M w' (ckA K { S with Ls := S.Ls.take n0 } :: L) → φ w') :
    ∃ (p4 : Option Addr) (k10 k11 : Nat), w.cell? ⟨K.c, 0 + 1, none⟩ = some (.slice p4 k10 k11) ∧ ((0 : Int) ≤ ((n0 : Nat) : Int) ∧ ((n0 : Nat) : Int) ≤ (k11 : Int)) ∧ (∃ v, w.cell? ⟨K.c, 0 + 1, none⟩ = some v) ∧ w.frozen? ⟨K.c, 0 + 1, none⟩ = false ∧ ∀ w', w' = w.setCell ⟨K.c, 0 + 1, none⟩ (.slice p4 (((n0 : Nat) : Int)).toNat k11) → φ w' := by
  have H2 := St.open_ (L := ckL K S) H
  have hsl : Sl w 9 1 (.slice S.p S.Ls.length S.c) S.Ls.length (strs' S.Ls) := H2.nth 1 rfl
  have hc : n0 ≤ S.c := by
    rcases hsl.2 with ⟨h, h0⟩ | ⟨g, off, cap, cur, hv, hb, h1, h2, h3, h4⟩
    · omega
    · simp at hv; omega
  refine ⟨_, _, _, H2.ld 0 rfl (i := 1) rfl, ⟨by omega, by omega⟩, ?_⟩
  refine H2.st 0 rfl (i := 1) (by simp) fun w' H3 => hq w' ?_
  rw [Int.toNat_natCast] at H3
  have h1 : (S.Ls.take n0).length = n0 := by rw [List.length_take]; omega
  have H4 := H3.conv 1 rfl (A' := sl 9 1 (.slice S.p n0 S.c) n0 (strs' (S.Ls.take n0))) (fun h => by
    have := Sl.pre h hle
    rw [Nat.mul_one] at this
    rw [show strs' (S.Ls.take n0) = (strs' S.Ls).take n0 by simp [strs', List.map_take]]
    exact this) (fun q hq => own_len hq)
  refine St.shut (L := ckL K { S with Ls := S.Ls.take n0 }) ?_
  unfold ckL
  rw [h1]
  exact H4
theorem put_aft [Inhabited G3o] {S : Ck} (h0 : S.err = 0) (g : Gf) (Ls : List ByteArray) (k s : ByteArray) (ln v : Int) (ks r : Fo) (ns : List ByteArray) :
    (S.aft (fwhole g Ls 0 (.cons k s ln v ks ns r))).aft (if 8 < fneed (plusOf k s) ks 0 + 1 then .err ln 4 else .ok ()) = S.aft (fwhole g Ls 1 (.cons k s ln v ks ns r)) := by
  have g1 : good ((fname g Ls k s ln ks.len).bind fun _ => finner g Ls ks) := good_bind (good_fname _ _ _ _ _ _) fun _ => good_finner _ _ _
  have e0 : fwhole g Ls 0 (.cons k s ln v ks ns r) = ((fname g Ls k s ln ks.len).bind fun _ => finner g Ls ks).bind fun _ => if 8 < fneed (plusOf k s) ks 0 + 0 then .err ln 4 else .ok () := by rw [C.bind_assoc]; rfl
  have e1 : fwhole g Ls 1 (.cons k s ln v ks ns r) = ((fname g Ls k s ln ks.len).bind fun _ => finner g Ls ks).bind fun _ => if 8 < fneed (plusOf k s) ks 0 + 1 then .err ln 4 else .ok () := by rw [C.bind_assoc]; rfl
  rw [e0, e1, ← aft_bind g1, ← aft_bind g1]
  generalize S.aft ((fname g Ls k s ln ks.len).bind fun _ => finner g Ls ks) = S1
  by_cases h8 : 8 < fneed (plusOf k s) ks 0 + 0
  · rw [if_pos h8, if_pos (by omega)]
    by_cases h1 : S1.err = 0
    · have e : S1.aft (.err ln 4) = { S1 with line := ln, err := 4 } := by unfold Ck.aft; rw [if_pos h1]
      rw [e]
      exact aft_dead (show (4 : Int) ≠ 0 by decide) _
    · rw [aft_dead h1, aft_dead h1]
  · rw [if_neg h8, aft_ok]
theorem dcl_live [Inhabited G3o] {g : Gf} {ln : Int} {nm : ByteArray} {p : Option Addr} {c n : Nat} (h0 : S.err = 0) (hn : S.n = (n : Nat)) : match fdecl g S.Ls n ln nm with
    | .ok q => S.dcl g ln nm p c = { S with Ls := q.1, p := p, c := c, n := (q.2 : Nat) }
    | .err l e => e ≠ 0 ∧ (S.dcl g ln nm p c).line = l ∧ (S.dcl g ln nm p c).err = e ∧ (S.dcl g ln nm p c).Ls = S.Ls ++ [nm] := by
  unfold fdecl Ck.dcl
  by_cases h1 : ((g nm).isSome || hasN S.Ls nm) = true
  · rw [if_pos h1, if_pos h1]
    have e : S.aft (.err ln 9) = { S with line := ln, err := 9 } := by unfold Ck.aft; rw [if_pos h0]
    rw [e, aft_dead (by show (9 : Int) ≠ 0; decide)]
    exact ⟨by decide, rfl, rfl, rfl⟩
  · rw [if_neg h1, if_neg h1, aft_ok]
    by_cases h2 : 24 < n + 1
    · rw [if_pos h2, if_pos (by omega)]
      unfold Ck.aft
      rw [if_pos h0]
      exact ⟨by decide, rfl, rfl, rfl⟩
    · rw [if_neg h2, if_neg (by omega), aft_ok]
      show _ = ({ S with Ls := S.Ls ++ [nm], p := p, c := c, n := ((n + 1 : Nat) : Int) } : Ck)
      rw [hn]
      congr 1
theorem dcl_dead [Inhabited G3o] {g : Gf} {ln : Int} {nm : ByteArray} {p : Option Addr} {c : Nat} (h0 : S.err ≠ 0) : (S.dcl g ln nm p c).line = S.line ∧ (S.dcl g ln nm p c).err = S.err ∧ (S.dcl g ln nm p c).Ls = S.Ls ++ [nm] := by
  unfold Ck.dcl
  rw [aft_dead h0, aft_dead (by exact h0)]
  exact ⟨rfl, rfl, rfl⟩
theorem ck_eta {S1 S : Ck} {n1 : Int} (h1 : S1.err = 0) (h2 : S.err = 0) (h3 : S1.n = n1) (h4 : S1.line = S.line) : S1 = { S with Ls := S1.Ls, p := S1.p, c := S1.c, n := n1 } := by
  cases S1; cases S; simp_all
/-- a row of statements, so far -/
def stI (K : Kx) (S : Ck) (W : World) (ks : Fo) (us : List Value) (full : C (List ByteArray × Nat)) (B : Asn) (x : Int) (w : World) : Prop :=
  ∃ j : Nat, x = (j : Nat) ∧ j ≤ ks.len ∧
    ((∃ (r : Fo) (ws : List Value) (S1 : Ck) (n1 : Nat), Suf K.DA ks us j r ws ∧ r.sz ≤ ks.sz ∧ fok r ∧ S1.err = 0 ∧ S1.n = (n1 : Nat) ∧ (∃ ex, S1.Ls = S.Ls ++ ex) ∧ S1.Ls.length ≤ n1 ∧ n1 ≤ 24 ∧ S1.line = S.line ∧ full = fst' (globF K.F) r S1.Ls n1 ∧ St W (ckA K S).own w [ckA K S1, B]) ∨
     (∃ (S1 : Ck) (line en : Int), full = .err line en ∧ S1.line = line ∧ S1.err = en ∧ en ≠ 0 ∧ S.Ls.length ≤ S1.Ls.length ∧ St W (ckA K S).own w [ckA K S1, B]))
set_option maxHeartbeats 2000000 in
theorem rcstmt_all [Inhabited G3o] : ∀ (N : Nat) (ks : Fo), ks.sz < N → ks.sz ≤ 1000000 → ∀ {W : World} {K : Kx} {S : Ck} {k s : ByteArray} {ln v : Int} {q q2 : Option Addr} {c m2 c2 n : Nat} {us : List Value}, KOk K → S.err = 0 → S.n = (n : Nat) → S.Ls.length ≤ n → n ≤ 24 →
    (k ≠ cBlockK → ks ≠ .nil ∧ (k = cPutK → ks.tl ≠ .nil)) → (k = cBlockK → fok ks) → (k = cIf ∨ k = cWhile → fok ks.tl) → isV K.DA ks us → (∀ w, K.DA.at_ w → Sl w 52 6 (.slice q ks.len c) ks.len us) → (ckA K S).at_ W →
    Calls Tryz.prog 17 #[pt K.c, .agg (nodeC k s ln v (.slice q ks.len c) (.slice q2 m2 c2)).toArray] W fun e w' => e = .returned (.tuple #[]) ∧ CKr K S W (fone (globF K.F) k s ln ks S.Ls n) w' := by
  intro N
  induction N with
  | zero => intro ks hN; omega
  | succ N ih =>
    intro ks hN hsz W K S k s ln v q q2 c m2 c2 n us hK hE hSn hLn hn24 hwf1 hwf2 hwf3 hV hsl h
    refine vc17 K.c 0 _ ?_
    refine (St.begin h).al fun k1 w2 H2 => ?_
    have H2 : St W (ckA K S).own w2 [ckA K S, blk k1 (nodeC k s ln v (.slice q ks.len c) (.slice q2 m2 c2)).toArray 52] := H2
    refine ⟨fun w => k ≠ cBlockK ∧ St W (ckA K S).own w [ckA K (S.aft (fpre (globF K.F) S.Ls k s ln)), blk k1 (nodeC k s ln v (.slice q ks.len c) (.slice q2 m2 c2)).toArray 52], ?_, ?_⟩
    · refine ⟨_, H2.ld 1 rfl (i := 0) rfl, ?_⟩
      rw [toList_eq, toList_eq, toList_eq]
      refine Sx.split_of (fun h6 => ?_) (fun h6 => ?_)
      · have h6 : k = cBlockK := of_decide_eq_true h6
        have hfo : fone (globF K.F) k s ln ks S.Ls n = (fst' (globF K.F) ks S.Ls n).bind fun p => .ok (S.Ls, p.2) := by unfold fone; rw [if_pos h6]
        rw [hfo]
        refine ⟨_, _, _, (St.open_ (L := ckL K S) H2).ld 0 rfl (i := 1) rfl, ?_⟩
        refine ⟨fun x w => stI K S W ks us (fst' (globF K.F) ks S.Ls n) (blk k1 (nodeC k s ln v (.slice q ks.len c) (.slice q2 m2 c2)).toArray 52) x w, fun x _ => ks.len - x.toNat, ⟨0, rfl, Nat.zero_le _, .inl ⟨ks, us, S, n, Suf.start hV, Nat.le_refl _, hwf2 h6, hE, hSn, ⟨[], by simp⟩, hLn, hn24, rfl, rfl, H2⟩⟩, ?_⟩
        rintro _ x w4 ⟨j, rfl, hj, ⟨r, ws, S1, n1, hSuf, hrsz, hfk, hE1, hN1, ⟨ex, hex⟩, hl1, hl2, hln, hfull, H4⟩ | ⟨S1, line, en, hfull, hSl, hSe, hen, hle, H4⟩⟩
        · have hDA : K.DA.at_ w4 := (St.open_ (L := ckL K S1) H4).nth 2 rfl
          have hlen := Fo.len_le ks
          refine ⟨_, _, _, H4.ld 1 rfl (i := 4) rfl, ?_⟩
          cases r with
          | nil =>
            obtain ⟨-, pre, -, -, hl⟩ := hSuf
            simp only [Fo.len] at hl
            refine Sx.split_of (fun h1 => by have := of_decide_eq_true h1; omega) (fun _ => ?_)
            rw [fst_nil] at hfull
            refine blk_exit (n0 := S.Ls.length) H4 (by rw [hex, List.length_append]; omega) fun w6 H6 => ⟨rfl, ?_⟩
            rw [hfull]
            refine ⟨S1.p, S1.c, ?_⟩
            have e1 : S1.Ls.take S.Ls.length = S.Ls := by rw [hex]; simp
            rw [e1] at H6
            have e2 : ({ S1 with Ls := S.Ls } : Ck) = { S with Ls := S.Ls, p := S1.p, c := S1.c, n := (n1 : Nat) } := ck_eta (S1 := { S1 with Ls := S.Ls }) hE1 hE hN1 hln
            rw [e2] at H6
            exact H6.post 0 rfl
          | cons k2 s2 ln2 v2 kids ns rest =>
            obtain ⟨q3, c3, us1, q4, c4, ws', h1, h3, hj2, h4, h5, hat⟩ := hSuf.next
            simp only [Fo.sz] at hrsz
            refine Sx.split_of (fun _ => ?_) (fun h1 => by have := of_decide_eq_false h1; omega)
            refine ck_err H4 (Sx.split_of (fun _ => ?_) (fun h0 => absurd hE1 (beq_eq_false_iff_ne.1 h0)))
            refine ⟨_, _, _, H4.ld 1 rfl (i := 4) rfl, ⟨by omega, by omega⟩, ?_⟩
            refine hat (hsl _ hDA) fun g o hc => ?_
            rw [Int.toNat_natCast]
            refine ⟨_, rfl, hc, ?_⟩
            rw [fok] at hfk
            refine (ih kids (by omega) (by omega) hK hE1 hN1 hl1 hl2 hfk.1 hfk.2.1 hfk.2.2.1 h1 h4 (H4.nth 0 rfl)).mono ?_
            rintro e w5 ⟨rfl, hp⟩
            refine ⟨rfl, ?_⟩
            rintro z rfl
            rw [inc64' (by omega)]
            rw [fst_one] at hfull
            cases hfo : fone (globF K.F) k2 s2 ln2 kids S1.Ls n1 with
            | err line en =>
              rw [hfo] at hp hfull
              obtain ⟨hen, S', a1, a2, a3, hp⟩ := hp
              refine ⟨⟨j + 1, rfl, by omega, .inr ⟨S', line, en, hfull, a1, a2, hen, ?_, H4.upd 0 rfl hp⟩⟩, by show ks.len - ((j + 1 : Nat) : Int).toNat < ks.len - ((j : Nat) : Int).toNat; omega⟩
              rw [hex, List.length_append] at a3
              omega
            | ok p =>
              rw [hfo] at hp hfull
              obtain ⟨p', c', hp⟩ := hp
              have hpre := fst_pre (globF K.F) (Fo.sz (.cons k2 s2 ln2 v2 kids ns .nil) + 1) (.cons k2 s2 ln2 v2 kids ns .nil) (by omega) S1.Ls p.1 n1 p.2 (by rw [fst_one, hfo]; show fst' _ .nil p.1 p.2 = _; rw [fst_nil]) hl1 hl2
              obtain ⟨⟨ex2, hex2⟩, b1, b2⟩ := hpre
              refine ⟨⟨j + 1, rfl, by omega, .inl ⟨rest, ws', { S1 with Ls := p.1, p := p', c := c', n := (p.2 : Nat) }, p.2, h3, by omega, hfk.2.2.2, hE1, rfl, ⟨ex ++ ex2, by show p.1 = _; rw [hex2, hex, List.append_assoc]⟩, b1, b2, hln, hfull, H4.upd 0 rfl hp⟩⟩, by show ks.len - ((j + 1 : Nat) : Int).toNat < ks.len - ((j : Nat) : Int).toNat; omega⟩
        · refine ⟨_, _, _, H4.ld 1 rfl (i := 4) rfl, ?_⟩
          refine Sx.split_of (fun _ => ?_) (fun _ => ?_)
          · refine ck_err H4 (Sx.split_of (fun h0 => absurd (hSe.symm.trans (beq_iff_eq.1 h0)) hen) (fun _ => ?_))
            refine blk_exit (n0 := S.Ls.length) H4 hle fun w6 H6 => ⟨rfl, ?_⟩
            rw [hfull]
            exact ⟨hen, { S1 with Ls := S1.Ls.take S.Ls.length }, hSl, hSe, by show _ ≤ (S1.Ls.take S.Ls.length).length; rw [List.length_take]; omega, H6.post 0 rfl⟩
          · refine blk_exit (n0 := S.Ls.length) H4 hle fun w6 H6 => ⟨rfl, ?_⟩
            rw [hfull]
            exact ⟨hen, { S1 with Ls := S1.Ls.take S.Ls.length }, hSl, hSe, by show _ ≤ (S1.Ls.take S.Ls.length).length; rw [List.length_take]; omega, H6.post 0 rfl⟩
      have h6 : ¬ k = cBlockK := of_decide_eq_false h6
      refine Sx.split_of (fun h7 => ?_) (fun h7 => ?_)
      · have h7 : k = cSetK := of_decide_eq_true h7
        have hf : fpre (globF K.F) S.Ls k s ln = fsc (globF K.F) S.Ls s ln := by unfold fpre; rw [if_pos h7]
        refine ⟨_, rfl, H2.cells 1 rfl, ?_⟩
        refine (rscalar_any hK (by omega) (H2.nth 0 rfl)).mono ?_
        rintro e w3 ⟨rfl, hp⟩
        rw [hf]
        exact ⟨rfl, h6, H2.upd 0 rfl hp⟩
      have h7 : ¬ k = cSetK := of_decide_eq_false h7
      refine Sx.split_of (fun h8 => ?_) (fun h8 => ?_)
      · have h8 : k = cPutK := of_decide_eq_true h8
        have hf : fpre (globF K.F) S.Ls k s ln = farr (globF K.F) S.Ls s ln := by unfold fpre; rw [if_neg h7, if_pos h8]
        refine ⟨_, rfl, H2.cells 1 rfl, ?_⟩
        refine (rarray_any hK (by omega) (H2.nth 0 rfl)).mono ?_
        rintro e w3 ⟨rfl, hp⟩
        rw [hf]
        exact ⟨rfl, h6, H2.upd 0 rfl hp⟩
      · have h8 : ¬ k = cPutK := of_decide_eq_false h8
        have hf : fpre (globF K.F) S.Ls k s ln = .ok () := by unfold fpre; rw [if_neg h7, if_neg h8]
        rw [hf, aft_ok]
        exact ⟨h6, H2⟩
    · rintro _ w3 ⟨hkb, H3⟩
      have hfo : fone (globF K.F) k s ln ks S.Ls n = (fpre (globF K.F) S.Ls k s ln).bind fun _ => (fwhole (globF K.F) S.Ls 0 ks).bind fun _ =>
          if k = cLet then fdecl (globF K.F) S.Ls n ln s
          else if k = cPutK then (fwhole (globF K.F) S.Ls 1 ks.tl).bind fun _ => .ok (S.Ls, n)
          else if k = cIf ∨ k = cWhile then fst' (globF K.F) ks.tl S.Ls n
          else .ok (S.Ls, n) := by unfold fone; rw [if_neg hkb]
      generalize fone (globF K.F) k s ln ks S.Ls n = R0 at *
      rcases aft_cases hE (good_fpre (globF K.F) S.Ls k s ln) with ⟨hpr, haf⟩ | ⟨l1, e1, hpr, he1, haf⟩
      rotate_left
      · rw [haf] at H3
        rw [hpr] at hfo
        refine ck_err H3 (Sx.split_of (fun _ => ⟨rfl, ?_⟩) (fun h => absurd (bne_eq_false_iff_eq.1 h) he1))
        rw [show R0 = .err l1 e1 from hfo]
        exact ⟨he1, { S with line := l1, err := e1 }, rfl, rfl, Nat.le_refl _, H3.post 0 rfl⟩
      rw [haf] at H3
      rw [hpr] at hfo
      refine ck_err H3 (Sx.split_of (fun h => by rw [hE] at h; cases h) (fun _ => ?_))
      obtain ⟨hks, hput⟩ := hwf1 hkb
      cases ks with
      | nil => exact absurd rfl hks
      | cons k2 s2 ln2 v2 kids ns rest =>
      obtain ⟨q3, c3, us1, q4, c4, ws', h1, h3, hj2, h4, h5, hat⟩ := (Suf.start hV).next
      have hsz2 : kids.sz + rest.sz + 1 ≤ 1000000 := by simpa only [Fo.sz] using hsz
      have hDA : K.DA.at_ w3 := (St.open_ (L := ckL K S) H3).nth 2 rfl
      refine ⟨_, _, _, H3.ld 1 rfl (i := 4) rfl, ⟨by omega, by simp only [Fo.len]; omega⟩, ?_⟩
      refine hat (hsl _ hDA) fun g o hc => ?_
      refine ⟨_, rfl, by rw [Nat.zero_mul] at hc; exact hc, ?_⟩
      refine (rcexpr_any (rest := rest) (ns := ns) hK (by omega) (by omega) h1 h4 (H3.nth 0 rfl)).mono ?_
      rintro e w4 ⟨rfl, hp⟩
      have H4 := H3.upd 0 rfl hp
      clear hp
      refine ⟨rfl, _, H4.ld 1 rfl (i := 0) rfl, ?_⟩
      rw [toList_eq, toList_eq, toList_eq, toList_eq]
      have hfo : R0 = (fwhole (globF K.F) S.Ls 0 (.cons k2 s2 ln2 v2 kids ns rest)).bind fun _ =>
          if k = cLet then fdecl (globF K.F) S.Ls n ln s
          else if k = cPutK then (fwhole (globF K.F) S.Ls 1 rest).bind fun _ => .ok (S.Ls, n)
          else if k = cIf ∨ k = cWhile then fst' (globF K.F) rest S.Ls n
          else .ok (S.Ls, n) := hfo
      rcases aft_cases hE (good_fwhole (globF K.F) S.Ls 0 (.cons k2 s2 ln2 v2 kids ns rest)) with ⟨hwh, haf2⟩ | ⟨l1, e1, hwh, he1, haf2⟩
      · -- the expression is well
        rw [haf2] at H4
        rw [hwh] at hfo
        have H4 : St W (ckA K S).own w4 [ckA K S, blk k1 (nodeC k s ln v (.slice q (Fo.len (.cons k2 s2 ln2 v2 kids ns rest)) c) (.slice q2 m2 c2)).toArray 52] := H4
        refine Sx.split_of (fun h6 => ?_) (fun h6 => ?_)
        · have h6 : k = cLet := of_decide_eq_true h6
          have hfo : R0 = fdecl (globF K.F) S.Ls n ln s := by rw [hfo]; show ite _ _ _ = _; rw [if_pos h6]
          refine ⟨_, rfl, H4.cells 1 rfl, _, H4.ld 1 rfl (i := 1) rfl, ?_⟩
          refine (rdeclare_any s hK (by omega) (by omega) (H4.nth 0 rfl)).mono ?_
          rintro e w5 ⟨rfl, p', c', hp⟩
          refine ⟨rfl, rfl, ?_⟩
          have H5 := (H4.upd 0 rfl hp).post 0 rfl
          have hd := dcl_live (g := globF K.F) (ln := ln) (nm := s) (p := p') (c := c') hE hSn
          rw [hfo]
          cases hdd : fdecl (globF K.F) S.Ls n ln s with
          | ok qq =>
            rw [hdd] at hd
            rw [hd] at H5
            exact ⟨p', c', H5⟩
          | err l e =>
            rw [hdd] at hd
            obtain ⟨a0, a1, a2, a3⟩ := hd
            exact ⟨a0, _, a1, a2, by rw [a3, List.length_append]; omega, H5⟩
        have h6 : ¬ k = cLet := of_decide_eq_false h6
        refine Sx.split_of (fun h7 => ?_) (fun h7 => ?_)
        · have h7 : k = cPutK := of_decide_eq_true h7
          have hfo : R0 = (fwhole (globF K.F) S.Ls 1 rest).bind fun _ => .ok (S.Ls, n) := by rw [hfo]; show ite _ _ _ = _; rw [if_neg h6, if_pos h7]
          have hrest : rest ≠ .nil := hput h7
          cases rest with
          | nil => exact absurd rfl hrest
          | cons k5 s5 ln5 v5 kids5 ns5 rest5 =>
          obtain ⟨q6, c6, us6, q7, c7, ws6, g1, g3, gj2, g4, g5, gat⟩ := h3.next
          simp only [Fo.sz] at hsz2
          have hlen2 : ((1 : Nat) : Int) < ((Fo.len (.cons k2 s2 ln2 v2 kids ns (.cons k5 s5 ln5 v5 kids5 ns5 rest5)) : Nat) : Int) := by simp only [Fo.len]; omega
          refine ⟨_, _, _, H4.ld 1 rfl (i := 4) rfl, ⟨by omega, hlen2⟩, ?_⟩
          have hDA4 : K.DA.at_ w4 := (St.open_ (L := ckL K S) H4).nth 2 rfl
          refine gat (hsl _ hDA4) fun g o hc => ?_
          refine ⟨_, rfl, by simpa using hc, ?_⟩
          refine H4.callq (rneed_all kids5.sz kids5 (Nat.le_refl _) (by omega) g1 g4 hDA4) fun w5 H5 => ?_
          refine ⟨_, rfl, ?_⟩
          rintro z5 rfl
          have hnl := fneed_le (plusOf k5 s5) kids5 0
          refine ⟨_, _, _, H5.ld 1 rfl (i := 4) rfl, ⟨by omega, hlen2⟩, ?_⟩
          have hDA5 : K.DA.at_ w5 := (St.open_ (L := ckL K S) H5).nth 2 rfl
          refine gat (hsl _ hDA5) fun g o hc => ?_
          refine ⟨_, rfl, by simpa using hc, ?_⟩
          refine (rcexpr_any (rest := rest5) (ns := ns5) hK (by omega) (by omega) g1 g4 (H5.nth 0 rfl)).mono ?_
          rintro e w6 ⟨rfl, hp⟩
          have H6 := H5.upd 0 rfl hp
          clear hp
          rw [show IntKind.wrap .i64 (((fneed (plusOf k5 s5) kids5 0 : Nat) : Int) + 1) = ((fneed (plusOf k5 s5) kids5 0 + 1 : Nat) : Int) by rw [show ((fneed (plusOf k5 s5) kids5 0 : Nat) : Int) + 1 = ((fneed (plusOf k5 s5) kids5 0 + 1 : Nat) : Int) by omega]; exact Go.Bits.n64 (by omega)]
          have hpa := put_aft hE (globF K.F) S.Ls k5 s5 ln5 v5 kids5 rest5 ns5
          have fin : ∀ {w : World} {L : List Asn}, St W (ckA K S).own w (ckA K (S.aft (fwhole (globF K.F) S.Ls 1 (.cons k5 s5 ln5 v5 kids5 ns5 rest5))) :: L) → CKr K S W R0 w := by
            intro w L H
            rcases aft_cases hE (good_fwhole (globF K.F) S.Ls 1 (.cons k5 s5 ln5 v5 kids5 ns5 rest5)) with ⟨a1, a2⟩ | ⟨l1, e1, a1, he1, a2⟩
            · rw [a2] at H
              rw [hfo, a1]
              refine ⟨S.p, S.c, ?_⟩
              have e2 : S = { S with Ls := S.Ls, p := S.p, c := S.c, n := (n : Nat) } := ck_eta hE hE hSn rfl
              have H7 := H.post 0 rfl
              rw [e2] at H7
              exact H7
            · rw [a2] at H
              rw [hfo, a1]
              exact ⟨he1, { S with line := l1, err := e1 }, rfl, rfl, Nat.le_refl _, H.post 0 rfl⟩
          refine ⟨rfl, Sx.split_of (fun h8 => ?_) (fun h8 => ?_)⟩
          · have h8 : 8 < fneed (plusOf k5 s5) kids5 0 + 1 := by have := of_decide_eq_true h8; omega
            rw [if_pos h8] at hpa
            refine ⟨_, _, _, H6.ld 1 rfl (i := 4) rfl, ⟨by omega, hlen2⟩, ?_⟩
            have hDA6 : K.DA.at_ w6 := (St.open_ (L := ckL K _) H6).nth 2 rfl
            refine gat (hsl _ hDA6) fun g o hc => ?_
            refine ⟨_, rfl, by simpa using hc, ?_⟩
            refine (rfailc_any (H6.nth 0 rfl)).mono ?_
            rintro en w7 ⟨rfl, hp⟩
            have H7 := H6.upd 0 rfl hp
            rw [hpa] at H7
            exact ⟨rfl, rfl, fin (L := [_]) H7⟩
          · have h8 : ¬ 8 < fneed (plusOf k5 s5) kids5 0 + 1 := by have := of_decide_eq_false h8; omega
            rw [if_neg h8, aft_ok] at hpa
            rw [hpa] at H6
            exact ⟨rfl, fin (L := [_]) H6⟩
        have h7 : ¬ k = cPutK := of_decide_eq_false h7
        refine ⟨fun t w => t = decide (k = cIf ∨ k = cWhile) ∧ St W (ckA K S).own w [ckA K S, blk k1 (nodeC k s ln v (.slice q (Fo.len (.cons k2 s2 ln2 v2 kids ns rest)) c) (.slice q2 m2 c2)).toArray 52], ?_, ?_⟩
        · refine Sx.split_of (fun h8 => ?_) (fun h8 => ?_)
          · have h8 : k = cIf := of_decide_eq_true h8
            exact ⟨by rw [decide_eq_true (.inl h8)], H4⟩
          · have h8 : ¬ k = cIf := of_decide_eq_false h8
            refine ⟨?_, H4⟩
            by_cases h9 : k = cWhile
            · rw [decide_eq_true (show k = ⟨#[119, 104, 105, 108, 101]⟩ from h9), decide_eq_true (.inr h9)]
            · rw [decide_eq_false (show ¬ k = ⟨#[119, 104, 105, 108, 101]⟩ from h9), decide_eq_false (fun e => e.elim h8 h9)]
        · rintro _ t w5 ⟨rfl, H5⟩
          refine Sx.split_of (fun h8 => ?_) (fun h8 => ?_)
          · have h8 : k = cIf ∨ k = cWhile := of_decide_eq_true h8
            have hfoR : R0 = fst' (globF K.F) rest S.Ls n := by rw [hfo]; show ite _ _ _ = _; rw [if_neg h6, if_neg h7, if_pos h8]
            generalize hks2 : Fo.cons k2 s2 ln2 v2 kids ns rest = ks at *
            have hrz : rest.sz ≤ ks.sz := by rw [← hks2]; simp only [Fo.sz]; omega
            have hfk0 : fok rest := by have := hwf3 h8; rw [← hks2] at this; exact this
            refine ⟨fun x w => stI K S W ks us R0 (blk k1 (nodeC k s ln v (.slice q ks.len c) (.slice q2 m2 c2)).toArray 52) x w, fun x _ => ks.len - x.toNat, ⟨1, rfl, by omega, .inl ⟨rest, ws', S, n, h3, hrz, hfk0, hE, hSn, ⟨[], by simp⟩, hLn, hn24, rfl, hfoR, H5⟩⟩, ?_⟩
            clear hfo hfoR
            rintro _ x w4 ⟨j, rfl, hj, ⟨r, ws, S1, n1, hSuf, hrsz, hfk, hE1, hN1, ⟨ex, hex⟩, hl1, hl2, hln, hfull, H4⟩ | ⟨S1, line, en, hfull, hSl, hSe, hen, hle, H4⟩⟩
            · have hDA : K.DA.at_ w4 := (St.open_ (L := ckL K S1) H4).nth 2 rfl
              have hlen := Fo.len_le ks
              refine ⟨_, _, _, H4.ld 1 rfl (i := 4) rfl, ?_⟩
              cases r with
              | nil =>
                obtain ⟨-, pre, -, -, hl⟩ := hSuf
                simp only [Fo.len] at hl
                refine Sx.split_of (fun h1 => by have := of_decide_eq_true h1; omega) (fun _ => ?_)
                rw [fst_nil] at hfull
                refine ⟨rfl, ?_⟩
                rw [hfull]
                refine ⟨S1.p, S1.c, ?_⟩
                have e2 : S1 = { S with Ls := S1.Ls, p := S1.p, c := S1.c, n := (n1 : Nat) } := ck_eta hE1 hE hN1 hln
                have H6 := H4.post 0 rfl
                rw [e2] at H6
                exact H6
              | cons k2 s2 ln2 v2 kids ns rest =>
                obtain ⟨q3, c3, us1, q4, c4, ws', h1, h3, hj2, h4, h5, hat⟩ := hSuf.next
                simp only [Fo.sz] at hrsz
                refine Sx.split_of (fun _ => ?_) (fun h1 => by have := of_decide_eq_false h1; omega)
                refine ck_err H4 (Sx.split_of (fun _ => ?_) (fun h0 => absurd hE1 (beq_eq_false_iff_ne.1 h0)))
                refine ⟨_, _, _, H4.ld 1 rfl (i := 4) rfl, ⟨by omega, by omega⟩, ?_⟩
                refine hat (hsl _ hDA) fun g o hc => ?_
                rw [Int.toNat_natCast]
                refine ⟨_, rfl, hc, ?_⟩
                rw [fok] at hfk
                refine (ih kids (by omega) (by omega) hK hE1 hN1 hl1 hl2 hfk.1 hfk.2.1 hfk.2.2.1 h1 h4 (H4.nth 0 rfl)).mono ?_
                rintro e w5 ⟨rfl, hp⟩
                refine ⟨rfl, ?_⟩
                rintro z rfl
                rw [inc64' (by omega)]
                rw [fst_one] at hfull
                cases hfo : fone (globF K.F) k2 s2 ln2 kids S1.Ls n1 with
                | err line en =>
                  rw [hfo] at hp hfull
                  obtain ⟨hen, S', a1, a2, a3, hp⟩ := hp
                  refine ⟨⟨j + 1, rfl, by omega, .inr ⟨S', line, en, hfull, a1, a2, hen, ?_, H4.upd 0 rfl hp⟩⟩, by show ks.len - ((j + 1 : Nat) : Int).toNat < ks.len - ((j : Nat) : Int).toNat; omega⟩
                  rw [hex, List.length_append] at a3
                  omega
                | ok p =>
                  rw [hfo] at hp hfull
                  obtain ⟨p', c', hp⟩ := hp
                  have hpre := fst_pre (globF K.F) (Fo.sz (.cons k2 s2 ln2 v2 kids ns .nil) + 1) (.cons k2 s2 ln2 v2 kids ns .nil) (by omega) S1.Ls p.1 n1 p.2 (by rw [fst_one, hfo]; show fst' _ .nil p.1 p.2 = _; rw [fst_nil]) hl1 hl2
                  obtain ⟨⟨ex2, hex2⟩, b1, b2⟩ := hpre
                  refine ⟨⟨j + 1, rfl, by omega, .inl ⟨rest, ws', { S1 with Ls := p.1, p := p', c := c', n := (p.2 : Nat) }, p.2, h3, by omega, hfk.2.2.2, hE1, rfl, ⟨ex ++ ex2, by show p.1 = _; rw [hex2, hex, List.append_assoc]⟩, b1, b2, hln, hfull, H4.upd 0 rfl hp⟩⟩, by show ks.len - ((j + 1 : Nat) : Int).toNat < ks.len - ((j : Nat) : Int).toNat; omega⟩
            · refine ⟨_, _, _, H4.ld 1 rfl (i := 4) rfl, ?_⟩
              refine Sx.split_of (fun _ => ?_) (fun _ => ?_)
              · refine ck_err H4 (Sx.split_of (fun h0 => absurd (hSe.symm.trans (beq_iff_eq.1 h0)) hen) (fun _ => ⟨rfl, ?_⟩))
                rw [hfull]
                exact ⟨hen, _, hSl, hSe, hle, H4.post 0 rfl⟩
              · refine ⟨rfl, ?_⟩
                rw [hfull]
                exact ⟨hen, _, hSl, hSe, hle, H4.post 0 rfl⟩
          · have h8 : ¬ (k = cIf ∨ k = cWhile) := of_decide_eq_false h8
            have hfo : R0 = .ok (S.Ls, n) := by rw [hfo]; show ite _ _ _ = _; rw [if_neg h6, if_neg h7, if_neg h8]
            refine ⟨rfl, ?_⟩
            rw [hfo]
            refine ⟨S.p, S.c, ?_⟩
            have e2 : S = { S with Ls := S.Ls, p := S.p, c := S.c, n := (n : Nat) } := ck_eta hE hE hSn rfl
            have H7 := H5.post 0 rfl
            rw [e2] at H7
            exact H7
      · -- there is an error
        rw [haf2] at H4
        rw [hwh] at hfo
        have hfo : R0 = .err l1 e1 := hfo
        generalize hS1 : ({ S with line := l1, err := e1 } : Ck) = S1 at *
        have b1 : S1.line = l1 := by rw [← hS1]
        have b2 : S1.err = e1 := by rw [← hS1]
        have b3 : S1.Ls = S.Ls := by rw [← hS1]
        have b4 : S1.n = S.n := by rw [← hS1]
        have b5 : S1.err ≠ 0 := by rw [b2]; exact he1
        have H4 : St W (ckA K S).own w4 [ckA K S1, blk k1 (nodeC k s ln v (.slice q (Fo.len (.cons k2 s2 ln2 v2 kids ns rest)) c) (.slice q2 m2 c2)).toArray 52] := H4
        have fin : ∀ {w : World} {L : List Asn}, St W (ckA K S).own w (ckA K S1 :: L) → CKr K S W R0 w := by
          intro w L H
          rw [hfo]
          exact ⟨he1, _, b1, b2, by rw [b3]; omega, H.post 0 rfl⟩
        refine Sx.split_of (fun h6 => ?_) (fun h6 => ?_)
        · refine ⟨_, rfl, H4.cells 1 rfl, _, H4.ld 1 rfl (i := 1) rfl, ?_⟩
          refine (rdeclare_any s hK (by rw [b3]; omega) (by rw [b4]; omega) (H4.nth 0 rfl)).mono ?_
          rintro e w5 ⟨rfl, p', c', hp⟩
          refine ⟨rfl, rfl, ?_⟩
          have H5 := (H4.upd 0 rfl hp).post 0 rfl
          obtain ⟨a1, a2, a3⟩ := dcl_dead (g := globF K.F) (ln := ln) (nm := s) (p := p') (c := c') b5
          rw [hfo]
          exact ⟨he1, _, a1.trans b1, a2.trans b2, by rw [a3, b3, List.length_append]; omega, H5⟩
        have h6 : ¬ k = cLet := of_decide_eq_false h6
        refine Sx.split_of (fun h7 => ?_) (fun h7 => ?_)
        · have h7 : k = cPutK := of_decide_eq_true h7
          have hrest : rest ≠ .nil := hput h7
          cases rest with
          | nil => exact absurd rfl hrest
          | cons k5 s5 ln5 v5 kids5 ns5 rest5 =>
          obtain ⟨q6, c6, us6, q7, c7, ws6, g1, g3, gj2, g4, g5, gat⟩ := h3.next
          simp only [Fo.sz] at hsz2
          have hlen2 : ((1 : Nat) : Int) < ((Fo.len (.cons k2 s2 ln2 v2 kids ns (.cons k5 s5 ln5 v5 kids5 ns5 rest5)) : Nat) : Int) := by simp only [Fo.len]; omega
          refine ⟨_, _, _, H4.ld 1 rfl (i := 4) rfl, ⟨by omega, hlen2⟩, ?_⟩
          have hDA4 : K.DA.at_ w4 := (St.open_ (L := ckL K S1) H4).nth 2 rfl
          refine gat (hsl _ hDA4) fun g o hc => ?_
          refine ⟨_, rfl, by simpa using hc, ?_⟩
          refine H4.callq (rneed_all kids5.sz kids5 (Nat.le_refl _) (by omega) g1 g4 hDA4) fun w5 H5 => ?_
          refine ⟨_, rfl, ?_⟩
          rintro z5 rfl
          refine ⟨_, _, _, H5.ld 1 rfl (i := 4) rfl, ⟨by omega, hlen2⟩, ?_⟩
          have hDA5 : K.DA.at_ w5 := (St.open_ (L := ckL K S1) H5).nth 2 rfl
          refine gat (hsl _ hDA5) fun g o hc => ?_
          refine ⟨_, rfl, by simpa using hc, ?_⟩
          refine (rcexpr_any (rest := rest5) (ns := ns5) hK (by rw [b3]; omega) (by omega) g1 g4 (H5.nth 0 rfl)).mono ?_
          rintro e w6 ⟨rfl, hp⟩
          have H6 := H5.upd 0 rfl hp
          rw [aft_dead b5] at H6
          refine ⟨rfl, Sx.split_of (fun h8 => ?_) (fun h8 => ⟨rfl, fin (L := [_]) H6⟩)⟩
          refine ⟨_, _, _, H6.ld 1 rfl (i := 4) rfl, ⟨by omega, hlen2⟩, ?_⟩
          have hDA6 : K.DA.at_ w6 := (St.open_ (L := ckL K _) H6).nth 2 rfl
          refine gat (hsl _ hDA6) fun g o hc => ?_
          refine ⟨_, rfl, by simpa using hc, ?_⟩
          refine (rfailc_any (H6.nth 0 rfl)).mono ?_
          rintro en w7 ⟨rfl, hp⟩
          have H7 := H6.upd 0 rfl hp
          rw [aft_dead b5] at H7
          exact ⟨rfl, rfl, fin (L := [_]) H7⟩
        refine ⟨fun t w => St W (ckA K S).own w [ckA K S1, blk k1 (nodeC k s ln v (.slice q (Fo.len (.cons k2 s2 ln2 v2 kids ns rest)) c) (.slice q2 m2 c2)).toArray 52], Sx.split_of (fun _ => H4) (fun _ => H4), ?_⟩
        rintro _ t w5 H5
        refine Sx.split_of (fun _ => ?_) (fun _ => ⟨rfl, fin (L := [_]) H5⟩)
        refine ⟨fun x w => St W (ckA K S).own w [ckA K S1, blk k1 (nodeC k s ln v (.slice q (Fo.len (.cons k2 s2 ln2 v2 kids ns rest)) c) (.slice q2 m2 c2)).toArray 52], fun _ _ => 0, H5, ?_⟩
        rintro _ x w6 H6
        refine ⟨_, _, _, H6.ld 1 rfl (i := 4) rfl, Sx.split_of (fun _ => ?_) (fun _ => ⟨rfl, fin (L := [_]) H6⟩)⟩
        exact ck_err H6 (Sx.split_of (fun h0 => absurd (beq_iff_eq.1 h0) b5) (fun _ => ⟨rfl, fin (L := [_]) H6⟩))
end Go.Proofs.YtojogkljneonmaaGreatDoor
