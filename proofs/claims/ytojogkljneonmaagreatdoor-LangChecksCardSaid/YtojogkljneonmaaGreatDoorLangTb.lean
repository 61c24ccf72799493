import Derived.Test.YtojogkljneonmaaGreatDoorLangRx
import Derived.Test.YtojogkljneonmaaGreatDoorLangRk
/- The reference's checker in memory: nodes that are only read; the small functions. No condition. -/
namespace Go.Proofs.YtojogkljneonmaaGreatDoor
open Go Go.Proofs Go.Sep Go.XHeap Go.RowKit Go.Lang
set_option linter.unusedVariables false
set_option linter.unusedSimpArgs false
/-- nodes that a piece holds: their cells -/
def isV (DA : Asn) : Fo → List Value → Prop
  | .nil, vs => vs = []
  | .cons k s line val kids names rest, vs => ∃ q c us q2 c2 ws, isV DA kids us ∧ isV DA rest ws ∧ vs = nodeC k s line val (.slice q kids.len c) (.slice q2 names.length c2) ++ ws ∧
      (∀ w, DA.at_ w → Sl w 52 6 (.slice q kids.len c) kids.len us) ∧ (∀ w, DA.at_ w → Sl w 9 1 (.slice q2 names.length c2) names.length (names.map .string))
theorem isF_isV {DA : Asn} : ∀ {f : Fo} {us : List Value} {A : Asn}, isF f us A → (∀ w, DA.at_ w → A.at_ w) → isV DA f us
  | .nil, us, A, h, _ => h.1
  | .cons k s line val kids names rest, us, A, h, hA => by
    obtain ⟨q, c, us1, Ak, q2, c2, ws, As, g1, g2, rfl, rfl⟩ := h
    have h1 : ∀ w, DA.at_ w → here [sl 52 6 (.slice q kids.len c) kids.len us1, Ak, sl 9 1 (.slice q2 names.length c2) names.length (names.map .string)] w := fun w hw => (hA w hw).1
    exact ⟨q, c, us1, q2, c2, ws, isF_isV g1 (fun w hw => (h1 w hw).nth 1 rfl), isF_isV g2 (fun w hw => (hA w hw).2.2), rfl, fun w hw => (h1 w hw).nth 0 rfl, fun w hw => (h1 w hw).nth 2 rfl⟩
/-- the rest of a row, from a place on -/
def Suf (DA : Asn) (f : Fo) (us : List Value) (j : Nat) (r : Fo) (ws : List Value) : Prop := isV DA r ws ∧ ∃ pre, us = pre ++ ws ∧ pre.length = j * 6 ∧ j + r.len = f.len
theorem Suf.start {DA : Asn} {f : Fo} {us : List Value} (h : isV DA f us) : Suf DA f us 0 f us := ⟨h, [], rfl, rfl, by omega⟩
theorem sl_at {w : World} {e : TypeId} {n m c j : Nat} {p : Option Addr} {xs pre x post : List Value} (h : Sl w e n (.slice p m c) m xs) (hx : xs = pre ++ (x ++ post)) (hp : pre.length = j * n) (hl : x.length = n) (hn : 0 < n) {φ : Nat → Nat → Prop}
    (hφ : ∀ g o, Sx.cellsAt w ⟨g, o + j * n, none⟩ x.toArray → φ g o) : Sx.adr p φ := by
  obtain ⟨hlen, h⟩ := h
  rcases h with ⟨h, h0⟩ | ⟨g, off, cap, cur, hv, hb, h1, h2, h3, h4⟩
  · subst h0
    rw [hx] at hlen
    simp only [List.length_append] at hlen
    omega
  · simp at hv
    obtain ⟨rfl, rfl⟩ := hv
    refine adr_some (hφ g off (Go.Sx.cellsAt_of_blk hb _ fun i v hi => ?_))
    have hi2 : x[i]? = some v := by simpa using hi
    have hlt : i < n := by have := (List.getElem?_eq_some_iff.1 hi2).1; omega
    have hx2 : xs[j * n + i]? = some v := by
      rw [hx, List.getElem?_append_right (by omega), hp, show j * n + i - j * n = i by omega, List.getElem?_append_left (by omega)]
      exact hi2
    have hlt2 : j * n + i < m * n := by have := (List.getElem?_eq_some_iff.1 hx2).1; omega
    rw [← h4, List.getElem?_take, if_pos hlt2, List.getElem?_drop] at hx2
    rw [← Array.getElem?_toList, Nat.add_assoc]
    exact hx2
/-- the next node of a row -/
theorem Suf.next [Inhabited G3o] {DA : Asn} {f : Fo} {us ws : List Value} {j : Nat} {k s : ByteArray} {line val : Int} {kids rest : Fo} {names : List ByteArray} (h : Suf DA f us j (.cons k s line val kids names rest) ws) :
    ∃ q c us1 q2 c2 ws', isV DA kids us1 ∧ Suf DA f us (j + 1) rest ws' ∧ j < f.len ∧ (∀ w, DA.at_ w → Sl w 52 6 (.slice q kids.len c) kids.len us1) ∧ (∀ w, DA.at_ w → Sl w 9 1 (.slice q2 names.length c2) names.length (names.map .string)) ∧
      ∀ {w : World} {p : Option Addr} {cp : Nat} {φ : Nat → Nat → Prop}, Sl w 52 6 (.slice p f.len cp) f.len us → (∀ g o, Sx.cellsAt w ⟨g, o + j * 6, none⟩ (nodeC k s line val (.slice q kids.len c) (.slice q2 names.length c2)).toArray → φ g o) → Sx.adr p φ := by
  obtain ⟨hV, pre, hp, hl, hlen⟩ := h
  obtain ⟨q, c, us1, q2, c2, ws', h1, h2, rfl, h3, h4⟩ := hV
  simp only [Fo.len] at hlen
  refine ⟨q, c, us1, q2, c2, ws', h1, ⟨h2, pre ++ nodeC k s line val (.slice q kids.len c) (.slice q2 names.length c2), by rw [hp, List.append_assoc], ?_, by omega⟩, by omega, h3, h4, fun hsl hφ => sl_at hsl hp hl rfl (by decide) hφ⟩
  rw [List.length_append, hl]
  show j * 6 + 6 = _
  omega
/-! ### the checker's state -/
structure Ck where
  Ls : List ByteArray
  p : Option Addr
  c : Nat
  n : Int
  line : Int
  err : Int
structure Kx where
  c : Nat
  dp : Option Addr
  dc : Nat
  F : Fo
  us : List Value
  DA : Asn
def ckL (K : Kx) (S : Ck) : List Asn := [blk K.c #[.slice K.dp K.F.len K.dc, .slice S.p S.Ls.length S.c, .int .i64 S.n, .int .i64 S.line, .int .i64 S.err] 50, sl 9 1 (.slice S.p S.Ls.length S.c) S.Ls.length (strs' S.Ls), K.DA]
def ckA (K : Kx) (S : Ck) : Asn := all (ckL K S)
def KOk (K : Kx) : Prop := (∀ w, K.DA.at_ w → Sl w 52 6 (.slice K.dp K.F.len K.dc) K.F.len K.us) ∧ isV K.DA K.F K.us ∧ K.F.len ≤ 8001
def Ck.aft (S : Ck) (r : C Unit) : Ck := if S.err = 0 then (match r with
  | .ok _ => S
  | .err l e => { S with line := l, err := e }) else S
theorem aft_dead {S : Ck} (h : S.err ≠ 0) (r : C Unit) : S.aft r = S := by unfold Ck.aft; rw [if_neg h]
theorem aft_ok (S : Ck) : S.aft (.ok ()) = S := by unfold Ck.aft; split <;> rfl
theorem aft_Ls (S : Ck) (r : C Unit) : (S.aft r).Ls = S.Ls := by
  unfold Ck.aft
  split
  · cases r <;> rfl
  · rfl
/-- an error is not naught -/
def good {α : Type} (r : C α) : Prop := ∀ l e, r = .err l e → e ≠ 0
theorem aft_bind [Inhabited G3o] {S : Ck} {r1 r2 : C Unit} (h : good r1) : (S.aft r1).aft r2 = S.aft (r1.bind fun _ => r2) := by
  by_cases h0 : S.err = 0
  · cases r1 with
    | ok x => rw [show S.aft (.ok x) = S from aft_ok S]; rfl
    | err l e =>
      have h1 : S.aft (.err l e) = { S with line := l, err := e } := by unfold Ck.aft; rw [if_pos h0]
      rw [h1]
      show _ = S.aft (.err l e)
      rw [h1]
      exact aft_dead (h l e rfl) r2
  · rw [aft_dead h0, aft_dead h0, aft_dead h0]
variable {W w0 w : World} {M : Nat → Prop} {L : List Asn} {K : Kx} {S : Ck}
theorem rfailc_any [Inhabited G3o] {k s : ByteArray} {ln v e : Int} {q q2 : Option Addr} {m c m2 c2 : Nat} (h : (ckA K S).at_ W) : Calls Tryz.prog 14 #[pt K.c, .agg (nodeC k s ln v (.slice q m c) (.slice q2 m2 c2)).toArray, .int .i64 e] W fun en w' => en = .returned (.tuple #[]) ∧ Post (ckA K S) W (ckA K (S.aft (.err ln e))) w' := by
  refine vc14 K.c 0 _ e ?_
  have H : St W (ckA K S).own W (ckL K S ++ []) := St.open_ (St.begin h)
  refine H.al fun k2 w2 H2 => ?_
  refine ⟨_, H2.ld 0 rfl (i := 4) rfl, Sx.split_of (fun h0 => ?_) (fun h0 => ?_)⟩
  · have h0 : S.err = 0 := beq_iff_eq.1 h0
    refine H2.st 0 rfl (i := 4) (by simp) fun w3 H3 => ?_
    refine ⟨_, H3.ld 3 rfl (i := 2) rfl, ?_⟩
    refine H3.st 0 rfl (i := 3) (by simp) fun w4 H4 => ⟨rfl, ?_⟩
    unfold Ck.aft
    rw [if_pos h0]
    exact (St.shut (L := ckL K { S with line := ln, err := e }) (L' := [_]) H4).post 0 rfl
  · have h0 : S.err ≠ 0 := beq_eq_false_iff_ne.1 h0
    rw [aft_dead h0]
    exact ⟨rfl, (St.shut (L := ckL K S) (L' := [_]) H2).post 0 rfl⟩
/-- a declaration by its name -/
theorem rglobal_any [Inhabited G3o] (s : ByteArray) (hK : KOk K) (h : (ckA K S).at_ W) : Calls Tryz.prog 18 #[pt K.c, .string s] W fun e w' => Hush W w' ∧ match globF K.F s with
    | some (k, v, m) => ∃ nm ln q mm c q2 c2, e = .returned (.tuple #[.agg (nodeC k nm ln v (.slice q mm c) (.slice q2 m c2)).toArray, .bool true])
    | none => e = .returned (.tuple #[.agg nodeZ.toArray, .bool false]) := by
  refine vc18 K.c 0 s ?_
  refine (St.nil W).al fun k w2 H2 => ?_
  have h2 := hush_keep h H2.touch
  have H : St w2 (ckA K S).own w2 (ckL K S ++ []) := St.open_ (St.begin h2)
  refine ⟨fun i w => w = w2 ∧ ∃ (j : Nat) (r : Fo) (ws : List Value), i = (j : Nat) ∧ Suf K.DA K.F K.us j r ws ∧ globF K.F s = globF r s, fun i _ => K.F.len - i.toNat, ⟨rfl, 0, K.F, K.us, rfl, Suf.start hK.2.1, rfl⟩, ?_⟩
  rintro _ i w3 ⟨rfl, j, r, ws, rfl, hS, hg⟩
  have hsl := hK.1 w3 (H.nth 2 rfl)
  refine ⟨_, _, _, H.ld 0 rfl (i := 0) rfl, ?_⟩
  cases r with
  | nil =>
    obtain ⟨-, pre, -, -, hl⟩ := hS
    simp only [Fo.len] at hl
    refine Sx.split_of (fun h1 => by have := of_decide_eq_true h1; omega) (fun _ => ?_)
    rintro vs rfl
    refine ret_node H2 (k := 0) (us := nodeZ) rfl rfl rfl nodeZ_one fun w8 H8 => ⟨H8.touch, ?_⟩
    rw [hg]
    rfl
  | cons k1 s1 ln v kids ns rest =>
    obtain ⟨q, c, us1, q2, c2, ws', h1, h3, hj, h4, h5, hat⟩ := hS.next
    refine Sx.split_of (fun _ => ?_) (fun h1 => by have := of_decide_eq_false h1; omega)
    refine ⟨_, _, _, H.ld 0 rfl (i := 0) rfl, ⟨by omega, by omega⟩, ?_⟩
    refine hat hsl fun g o hc => ?_
    rw [Int.toNat_natCast]
    refine ⟨s1, hc 1 (.string s1) rfl, ?_⟩
    rw [toList_eq]
    refine Sx.split_of (fun h6 => ?_) (fun h6 => ?_)
    · have h6 : s1 = s := of_decide_eq_true h6
      refine ⟨_, _, _, H.ld 0 rfl (i := 0) rfl, ⟨by omega, by omega⟩, ?_⟩
      refine hat hsl fun g2 o2 hc2 => ?_
      refine ⟨_, rfl, hc2, ?_⟩
      refine ret_node H2 (k := 0) (us := nodeC k1 s1 ln v (.slice q kids.len c) (.slice q2 ns.length c2)) rfl rfl rfl nodeC_one fun w8 H8 => ⟨H8.touch, ?_⟩
      rw [hg, show globF (.cons k1 s1 ln v kids ns rest) s = some (k1, v, ns.length) by rw [globF, if_pos h6]]
      exact ⟨_, _, _, _, _, _, _, rfl⟩
    · have h6 : ¬ s1 = s := of_decide_eq_false h6
      rintro z rfl
      have hz := hK.2.2
      rw [inc64 (by omega)]
      refine ⟨⟨rfl, j + 1, rest, ws', rfl, h3, ?_⟩, by show _ - ((j + 1 : Nat) : Int).toNat < _ - ((j : Nat) : Int).toNat; omega⟩
      rw [hg, globF, if_neg h6]
theorem rlocal_any [Inhabited G3o] (s : ByteArray) (hs : S.Ls.length ≤ 100) (h : (ckA K S).at_ W) : Calls Tryz.prog 30 #[pt K.c, .string s] W fun e w' => e = .returned (.bool (hasN S.Ls s)) ∧ Hush W w' := by
  refine vc30 K.c 0 s ?_
  have H : St W (ckA K S).own W (ckL K S ++ []) := St.open_ (St.begin h)
  refine ⟨fun i w => w = W ∧ ∃ j : Nat, i = (j : Nat) ∧ j ≤ S.Ls.length ∧ hasN S.Ls s = hasN (S.Ls.drop j) s, fun i _ => S.Ls.length - i.toNat, ⟨rfl, 0, rfl, Nat.zero_le _, rfl⟩, ?_⟩
  rintro _ i w3 ⟨rfl, j, rfl, hj, hg⟩
  refine ⟨_, _, _, H.ld 0 rfl (i := 1) rfl, Sx.split_of (fun h1 => ?_) (fun h1 => ?_)⟩
  · have h1 : j < S.Ls.length := by have := of_decide_eq_true h1; omega
    refine ⟨_, _, _, H.ld 0 rfl (i := 1) rfl, ⟨by omega, by omega⟩, ?_⟩
    refine sl_get (H.nth 1 rfl) (i := j) (v := .string S.Ls[j]) (by simp [strs', h1]) fun g2 o2 hc => ?_
    refine ⟨S.Ls[j], by rw [ix1]; exact hc, ?_⟩
    rw [toList_eq]
    rw [List.drop_eq_getElem_cons h1] at hg
    refine Sx.split_of (fun h6 => ?_) (fun h6 => ?_)
    · refine ⟨?_, XTouch.refl _ _⟩
      rw [hg]
      unfold hasN
      rw [List.any_cons, h6, Bool.true_or]
    · rintro z rfl
      rw [inc64 (by omega)]
      refine ⟨⟨rfl, j + 1, rfl, by omega, ?_⟩, by show _ - ((j + 1 : Nat) : Int).toNat < _ - ((j : Nat) : Int).toNat; omega⟩
      rw [hg]
      unfold hasN
      rw [List.any_cons, h6, Bool.false_or]
  · have h1 : j = S.Ls.length := by have := of_decide_eq_false h1; omega
    refine ⟨?_, XTouch.refl _ _⟩
    rw [hg, h1, List.drop_length]
    rfl
end Go.Proofs.YtojogkljneonmaaGreatDoor
/- The reference's checker: names, expressions. No condition. -/
namespace Go.Lang
theorem fneed_le : ∀ (plus : Bool) (f : Fo) (i : Nat), fneed plus f i ≤ f.sz + i + 1
  | plus, .nil, i => by simp only [fneed, Fo.sz]; omega
  | plus, .cons k s l v ks ns r, i => by
    have h1 := fneed_le (plusOf k s) ks 0
    have h2 := fneed_le plus r (i + 1)
    simp only [fneed, Fo.sz]
    split <;> omega
theorem Fo.len_le : ∀ (f : Fo), f.len ≤ f.sz
  | .nil => Nat.le_refl _
  | .cons _ _ _ _ ks _ r => by
    have := Fo.len_le r
    simp only [Fo.len, Fo.sz]
    omega
theorem fneed_pos : ∀ (plus : Bool) (f : Fo) (i : Nat), 1 ≤ fneed plus f i
  | plus, .nil, i => Nat.le_refl _
  | plus, .cons k s l v ks ns r, i => by
    have h2 := fneed_pos plus r (i + 1)
    simp only [fneed]
    omega
end Go.Lang
namespace Go.Proofs.YtojogkljneonmaaGreatDoor
open Go Go.Proofs Go.Sep Go.XHeap Go.RowKit Go.Lang
set_option linter.unusedVariables false
set_option linter.unusedSimpArgs false
variable {W w0 w : World} {M : Nat → Prop} {L : List Asn} {K : Kx} {S : Ck}
theorem good_ok {α : Type} (x : α) : good (C.ok x) := fun l e h => by cases h
theorem good_err {α : Type} {l e : Int} (h : e ≠ 0) : good (C.err l e : C α) := fun l' e' h' => by cases h'; exact h
theorem good_bind [Inhabited G3o] {α β : Type} {r : C α} {k : α → C β} (h : good r) (hk : ∀ x, good (k x)) : good (r.bind k) := by
  cases r with
  | ok x => exact hk x
  | err l e => exact good_err (h l e rfl)
theorem good_fsc [Inhabited G3o] (g : Gf) (Ls : List ByteArray) (s : ByteArray) (ln : Int) : good (fsc g Ls s ln) := by
  unfold fsc
  split
  · exact good_ok _
  · split
    · split
      · exact good_err (by decide)
      · split
        · exact good_err (by decide)
        · exact good_ok _
    · exact good_err (by decide)
theorem good_farr [Inhabited G3o] (g : Gf) (Ls : List ByteArray) (s : ByteArray) (ln : Int) : good (farr g Ls s ln) := by
  unfold farr
  split
  · exact good_err (by decide)
  · split
    · split
      · exact good_err (by decide)
      · split
        · exact good_err (by decide)
        · exact good_ok _
    · exact good_err (by decide)
theorem good_fcal [Inhabited G3o] (g : Gf) (Ls : List ByteArray) (s : ByteArray) (ln : Int) (m : Nat) : good (fcal g Ls s ln m) := by
  unfold fcal
  split
  · exact good_err (by decide)
  · split
    · split
      · exact good_err (by decide)
      · split
        · exact good_err (by decide)
        · exact good_ok _
    · exact good_err (by decide)
theorem good_fname [Inhabited G3o] (g : Gf) (Ls : List ByteArray) (k s : ByteArray) (ln : Int) (m : Nat) : good (fname g Ls k s ln m) := by
  unfold fname
  split
  · exact good_fsc _ _ _ _
  · split
    · exact good_farr _ _ _ _
    · split
      · exact good_fcal _ _ _ _ _
      · exact good_ok _
theorem good_finner [Inhabited G3o] (g : Gf) (Ls : List ByteArray) : ∀ f : Fo, good (finner g Ls f)
  | .nil => good_ok _
  | .cons k s ln v ks ns r => by
    unfold finner
    exact good_bind (good_fname _ _ _ _ _ _) fun _ => good_bind (good_finner g Ls ks) fun _ => good_finner g Ls r
/-- an error is noted -/
theorem fail_in' [Inhabited G3o] {φ : World → Prop} {k s : ByteArray} {ln v e : Int} {q q2 : Option Addr} {m c m2 c2 b : Nat} {t : TypeId} (H : St w0 M w (ckA K S :: L)) (i : Nat) (hi : (ckA K S :: L)[i]? = some (blk b (nodeC k s ln v (.slice q m c) (.slice q2 m2 c2)).toArray t)) (hq : ∀ w', St w0 M w' (ckA K (S.aft (.err ln e)) :: L) → φ w') :
    ∃ vs : Array Value, vs.size = 6 ∧ Sx.cellsAt w ⟨b, 0, none⟩ vs ∧ Calls Tryz.prog 14 #[pt K.c, .agg vs, .int .i64 e] w fun e3 w' => e3 = .returned (.tuple #[]) ∧ φ w' := by
  refine ⟨_, rfl, H.cells i hi, ?_⟩
  refine (rfailc_any (H.nth 0 rfl)).mono ?_
  rintro en w' ⟨rfl, hp⟩
  exact ⟨rfl, hq w' (H.upd 0 rfl hp)⟩
section
variable {k s : ByteArray} {ln v : Int} {q q2 : Option Addr} {m c m2 c2 : Nat}
theorem rscalar_any [Inhabited G3o] (hK : KOk K) (hs : S.Ls.length ≤ 100) (h : (ckA K S).at_ W) : Calls Tryz.prog 31 #[pt K.c, .agg (nodeC k s ln v (.slice q m c) (.slice q2 m2 c2)).toArray] W fun e w' => e = .returned (.tuple #[]) ∧ Post (ckA K S) W (ckA K (S.aft (fsc (globF K.F) S.Ls s ln))) w' := by
  refine vc31 K.c 0 _ ?_
  refine (St.begin h).al fun k1 w2 H2 => ?_
  have H2 : St W (ckA K S).own w2 [ckA K S, blk k1 (nodeC k s ln v (.slice q m c) (.slice q2 m2 c2)).toArray 52] := H2
  refine ⟨_, H2.ld 1 rfl (i := 1) rfl, ?_⟩
  refine (rglobal_any s hK (H2.nth 0 rfl)).mono ?_
  rintro e w3 ⟨hh, hg⟩
  have H3 := H2.quiet hh
  have fail : ∀ {w : World} {L : List Asn}, fsc (globF K.F) S.Ls s ln = .err ln 9 → St W (ckA K S).own w (ckA K S :: blk k1 (nodeC k s ln v (.slice q m c) (.slice q2 m2 c2)).toArray 52 :: L) →
      ∃ vs : Array Value, vs.size = 6 ∧ Sx.cellsAt w ⟨k1, 0, none⟩ vs ∧ Calls Tryz.prog 14 #[pt K.c, .agg vs, .int .i64 9] w fun e3 w' => e3 = .returned (.tuple #[]) ∧ (.returned (.tuple #[]) : Ending) = .returned (.tuple #[]) ∧ Post (ckA K S) W (ckA K (S.aft (fsc (globF K.F) S.Ls s ln))) w' := by
    intro w L hf H
    refine fail_in' H 1 rfl fun w' H' => ⟨rfl, ?_⟩
    rw [hf]
    exact H'.post 0 rfl
  have done : ∀ {w : World} {L : List Asn}, fsc (globF K.F) S.Ls s ln = .ok () → St W (ckA K S).own w (ckA K S :: L) → (.returned (.tuple #[]) : Ending) = .returned (.tuple #[]) ∧ Post (ckA K S) W (ckA K (S.aft (fsc (globF K.F) S.Ls s ln))) w := by
    intro w L hf H
    rw [hf, aft_ok]
    exact ⟨rfl, H.post 0 rfl⟩
  cases hgl : globF K.F s with
  | none =>
    rw [hgl] at hg
    subst hg
    refine ⟨_, _, rfl, ?_⟩
    refine H3.al fun k2 w4 H4 => ?_
    refine H4.sts0 2 (n := 6) (vs := nodeZ.toArray) rfl rfl rfl nodeZ_one fun w5 H5 => ?_
    refine ⟨_, H5.ld 1 rfl (i := 1) rfl, ?_⟩
    refine H5.callq (rlocal_any s hs (H5.nth 0 rfl)) fun w6 H6 => ?_
    refine ⟨_, rfl, ?_⟩
    cases hl : hasN S.Ls s with
    | true => exact Sx.split_of (fun h => by cases h) (fun _ => done (by unfold fsc; rw [hl]; rfl) H6)
    | false => exact Sx.split_of (fun _ => Sx.split_of (fun _ => fail (by unfold fsc; rw [hl, hgl]; rfl) H6) (fun h => by cases h)) (fun h => by cases h)
  | some x =>
    obtain ⟨k', v', m'⟩ := x
    rw [hgl] at hg
    obtain ⟨nm, ln', q', mm, c', q2', c2', rfl⟩ := hg
    refine ⟨_, _, rfl, ?_⟩
    refine H3.al fun k2 w4 H4 => ?_
    refine H4.sts0 2 (n := 6) (vs := (nodeC k' nm ln' v' (.slice q' mm c') (.slice q2' m' c2')).toArray) rfl rfl rfl nodeC_one fun w5 H5 => ?_
    refine ⟨_, H5.ld 1 rfl (i := 1) rfl, ?_⟩
    refine H5.callq (rlocal_any s hs (H5.nth 0 rfl)) fun w6 H6 => ?_
    refine ⟨_, rfl, ?_⟩
    cases hl : hasN S.Ls s with
    | true => exact Sx.split_of (fun h => by cases h) (fun _ => done (by unfold fsc; rw [hl]; rfl) H6)
    | false =>
      refine Sx.split_of (fun _ => Sx.split_of (fun h => by cases h) (fun _ => ?_)) (fun h => by cases h)
      refine ⟨_, H6.ld 2 rfl (i := 0) rfl, ?_⟩
      rw [toList_eq]
      by_cases hk : k' = cVar
      · refine Sx.split_of (fun h => by rw [decide_eq_true (show k' = ⟨#[118, 97, 114]⟩ from hk)] at h; cases h) (fun _ => ?_)
        refine ⟨_, H6.ld 2 rfl (i := 3) rfl, Sx.split_of (fun h => ?_) (fun h => ?_)⟩
        · have h : 0 < v' := by have := of_decide_eq_true h; omega
          exact fail (by unfold fsc; rw [hl, hgl]; simp only [Bool.false_eq_true, if_false]; rw [if_neg (by simp [hk]), if_pos h]) H6
        · have h : ¬ 0 < v' := by have := of_decide_eq_false h; omega
          exact done (by unfold fsc; rw [hl, hgl]; simp only [Bool.false_eq_true, if_false]; rw [if_neg (by simp [hk]), if_neg h]) H6
      · refine Sx.split_of (fun _ => ?_) (fun h => by rw [decide_eq_false (show ¬ k' = ⟨#[118, 97, 114]⟩ from hk)] at h; cases h)
        exact fail (by unfold fsc; rw [hl, hgl]; simp only [Bool.false_eq_true, if_false]; rw [if_pos hk]) H6
theorem rarray_any [Inhabited G3o] (hK : KOk K) (hs : S.Ls.length ≤ 100) (h : (ckA K S).at_ W) : Calls Tryz.prog 32 #[pt K.c, .agg (nodeC k s ln v (.slice q m c) (.slice q2 m2 c2)).toArray] W fun e w' => e = .returned (.tuple #[]) ∧ Post (ckA K S) W (ckA K (S.aft (farr (globF K.F) S.Ls s ln))) w' := by
  refine vc32 K.c 0 _ ?_
  refine (St.begin h).al fun k1 w2 H2 => ?_
  have H2 : St W (ckA K S).own w2 [ckA K S, blk k1 (nodeC k s ln v (.slice q m c) (.slice q2 m2 c2)).toArray 52] := H2
  refine ⟨_, H2.ld 1 rfl (i := 1) rfl, ?_⟩
  refine (rglobal_any s hK (H2.nth 0 rfl)).mono ?_
  rintro e w3 ⟨hh, hg⟩
  have H3 := H2.quiet hh
  have fail : ∀ {w : World} {L : List Asn}, farr (globF K.F) S.Ls s ln = .err ln 9 → St W (ckA K S).own w (ckA K S :: blk k1 (nodeC k s ln v (.slice q m c) (.slice q2 m2 c2)).toArray 52 :: L) →
      ∃ vs : Array Value, vs.size = 6 ∧ Sx.cellsAt w ⟨k1, 0, none⟩ vs ∧ Calls Tryz.prog 14 #[pt K.c, .agg vs, .int .i64 9] w fun e3 w' => e3 = .returned (.tuple #[]) ∧ (.returned (.tuple #[]) : Ending) = .returned (.tuple #[]) ∧ Post (ckA K S) W (ckA K (S.aft (farr (globF K.F) S.Ls s ln))) w' := by
    intro w L hf H
    refine fail_in' H 1 rfl fun w' H' => ⟨rfl, ?_⟩
    rw [hf]
    exact H'.post 0 rfl
  have done : ∀ {w : World} {L : List Asn}, farr (globF K.F) S.Ls s ln = .ok () → St W (ckA K S).own w (ckA K S :: L) → (.returned (.tuple #[]) : Ending) = .returned (.tuple #[]) ∧ Post (ckA K S) W (ckA K (S.aft (farr (globF K.F) S.Ls s ln))) w := by
    intro w L hf H
    rw [hf, aft_ok]
    exact ⟨rfl, H.post 0 rfl⟩
  cases hgl : globF K.F s with
  | none =>
    rw [hgl] at hg
    subst hg
    refine ⟨_, _, rfl, ?_⟩
    refine H3.al fun k2 w4 H4 => ?_
    refine H4.sts0 2 (n := 6) (vs := nodeZ.toArray) rfl rfl rfl nodeZ_one fun w5 H5 => ?_
    refine ⟨_, H5.ld 1 rfl (i := 1) rfl, ?_⟩
    refine H5.callq (rlocal_any s hs (H5.nth 0 rfl)) fun w6 H6 => ?_
    refine ⟨_, rfl, ?_⟩
    cases hl : hasN S.Ls s with
    | true => exact Sx.split_of (fun _ => fail (by unfold farr; rw [hl]; rfl) H6) (fun h => by cases h)
    | false => exact Sx.split_of (fun h => by cases h) (fun _ => Sx.split_of (fun _ => fail (by unfold farr; rw [hl, hgl]; rfl) H6) (fun h => by cases h))
  | some x =>
    obtain ⟨k', v', m'⟩ := x
    rw [hgl] at hg
    obtain ⟨nm, ln', q', mm, c', q2', c2', rfl⟩ := hg
    refine ⟨_, _, rfl, ?_⟩
    refine H3.al fun k2 w4 H4 => ?_
    refine H4.sts0 2 (n := 6) (vs := (nodeC k' nm ln' v' (.slice q' mm c') (.slice q2' m' c2')).toArray) rfl rfl rfl nodeC_one fun w5 H5 => ?_
    refine ⟨_, H5.ld 1 rfl (i := 1) rfl, ?_⟩
    refine H5.callq (rlocal_any s hs (H5.nth 0 rfl)) fun w6 H6 => ?_
    refine ⟨_, rfl, ?_⟩
    cases hl : hasN S.Ls s with
    | true => exact Sx.split_of (fun _ => fail (by unfold farr; rw [hl]; rfl) H6) (fun h => by cases h)
    | false =>
      refine Sx.split_of (fun h => by cases h) (fun _ => Sx.split_of (fun h => by cases h) (fun _ => ?_))
      refine ⟨_, H6.ld 2 rfl (i := 0) rfl, ?_⟩
      rw [toList_eq]
      by_cases hk : k' = cVar
      · refine Sx.split_of (fun h => by rw [decide_eq_true (show k' = ⟨#[118, 97, 114]⟩ from hk)] at h; cases h) (fun _ => ?_)
        refine ⟨_, H6.ld 2 rfl (i := 3) rfl, Sx.split_of (fun h => ?_) (fun h => ?_)⟩
        · have h : v' = 0 := beq_iff_eq.1 h
          exact fail (by unfold farr; rw [hl, hgl]; simp only [Bool.false_eq_true, if_false]; rw [if_neg (by simp [hk]), if_pos h]) H6
        · have h : ¬ v' = 0 := beq_eq_false_iff_ne.1 h
          exact done (by unfold farr; rw [hl, hgl]; simp only [Bool.false_eq_true, if_false]; rw [if_neg (by simp [hk]), if_neg h]) H6
      · refine Sx.split_of (fun _ => ?_) (fun h => by rw [decide_eq_false (show ¬ k' = ⟨#[118, 97, 114]⟩ from hk)] at h; cases h)
        exact fail (by unfold farr; rw [hl, hgl]; simp only [Bool.false_eq_true, if_false]; rw [if_pos hk]) H6
end
theorem inc64' {a : Nat} (h : a ≤ 1000000) : IntKind.wrap .i64 ((a : Nat) + 1 : Int) = ((a + 1 : Nat) : Int) := by
  rw [show ((a : Nat) + 1 : Int) = ((a + 1 : Nat) : Int) by omega]; exact Go.Bits.n64 (by omega)
/-! ### how many temporaries -/
theorem rneed_all [Inhabited G3o] {DA : Asn} : ∀ (N : Nat) (ks : Fo), ks.sz ≤ N → ks.sz ≤ 1000000 → ∀ {W : World} {k s : ByteArray} {ln v : Int} {q q2 : Option Addr} {c m2 c2 : Nat} {us : List Value}, isV DA ks us → (∀ w, DA.at_ w → Sl w 52 6 (.slice q ks.len c) ks.len us) → DA.at_ W →
    Calls Tryz.prog 34 #[.agg (nodeC k s ln v (.slice q ks.len c) (.slice q2 m2 c2)).toArray] W fun e w' => e = .returned (.int .i64 ((fneed (plusOf k s) ks 0 : Nat) : Int)) ∧ Hush W w' := by
  intro N
  induction N with
  | zero =>
    intro ks hN _ W k s ln v q q2 c m2 c2 us hV hsl h
    refine vc34 _ ?_
    refine (St.nil W).al fun k1 w2 H2 => ?_
    cases ks with
    | cons => simp only [Fo.sz] at hN; omega
    | nil =>
      refine ⟨fun i most w => i = 0 ∧ most = 1 ∧ w = w2, fun _ _ _ => 0, ⟨rfl, rfl, rfl⟩, ?_⟩
      rintro _ i most w3 ⟨rfl, rfl, rfl⟩
      refine ⟨_, _, _, H2.ld 0 rfl (i := 4) rfl, Sx.split_of (fun h => by cases (of_decide_eq_true h)) (fun _ => ⟨rfl, H2.touch⟩)⟩
  | succ N ih =>
    intro ks hN hsz W k s ln v q q2 c m2 c2 us hV hsl h
    refine vc34 _ ?_
    refine (St.nil W).al fun k1 w2 H2 => ?_
    have H2 : St W (fun _ => False) w2 [blk k1 (nodeC k s ln v (.slice q ks.len c) (.slice q2 m2 c2)).toArray 52] := H2
    have hle := fneed_le (plusOf k s) ks 0
    refine ⟨fun i most w => ∃ (j m : Nat) (r : Fo) (ws : List Value), i = (j : Nat) ∧ most = (m : Nat) ∧ Suf DA ks us j r ws ∧ r.sz ≤ ks.sz ∧ 1 ≤ m ∧ max m (fneed (plusOf k s) r j) = fneed (plusOf k s) ks 0 ∧ St W (fun _ => False) w [blk k1 (nodeC k s ln v (.slice q ks.len c) (.slice q2 m2 c2)).toArray 52], fun i _ _ => ks.len - i.toNat, ⟨0, 1, ks, us, rfl, rfl, Suf.start hV, Nat.le_refl _, Nat.le_refl _, by have := fneed_pos (plusOf k s) ks 0; omega, H2⟩, ?_⟩
    rintro _ i most w3 ⟨j, m, r, ws, rfl, rfl, hS, hrsz, hm1, hmx, H3⟩
    have hDA := hush_keep h H3.touch
    refine ⟨_, _, _, H3.ld 0 rfl (i := 4) rfl, ?_⟩
    cases r with
    | nil =>
      obtain ⟨-, pre, -, -, hl⟩ := hS
      simp only [Fo.len] at hl
      refine Sx.split_of (fun h1 => by have := of_decide_eq_true h1; omega) (fun _ => ⟨?_, H3.touch⟩)
      have hm2 : m = fneed (plusOf k s) ks 0 := by
        simp only [fneed] at hmx
        omega
      rw [hm2]
    | cons k2 s2 ln2 v2 kids ns rest =>
      obtain ⟨q3, c3, us1, q4, c4, ws', h1, h3, hj, h4, h5, hat⟩ := hS.next
      simp only [Fo.sz] at hrsz
      refine Sx.split_of (fun _ => ?_) (fun h1 => by have := of_decide_eq_false h1; omega)
      refine ⟨_, _, _, H3.ld 0 rfl (i := 4) rfl, ⟨by omega, by omega⟩, ?_⟩
      refine hat (hsl _ hDA) fun g o hc => ?_
      rw [Int.toNat_natCast]
      refine ⟨_, rfl, hc, ?_⟩
      refine H3.callq (ih kids (by omega) (by omega) h1 h4 hDA) fun w4 H4 => ?_
      have hzle := fneed_le (plusOf k2 s2) kids 0
      generalize hz : fneed (plusOf k2 s2) kids 0 = z at *
      have hjl : j + rest.len + 1 = ks.len := by
        obtain ⟨-, pre, -, -, hl⟩ := hS
        simp only [Fo.len] at hl
        omega
      have hlen := Fo.len_le ks
      have fin : ∀ (mo : Nat), mo = max m (z + if plusOf k s then j else 0) → ∀ z3, z3 = IntKind.wrap .i64 (((j : Nat) : Int) + 1) →
          (∃ (j' m' : Nat) (r : Fo) (ws : List Value), z3 = (j' : Nat) ∧ ((mo : Nat) : Int) = (m' : Nat) ∧ Suf DA ks us j' r ws ∧ r.sz ≤ ks.sz ∧ 1 ≤ m' ∧ max m' (fneed (plusOf k s) r j') = fneed (plusOf k s) ks 0 ∧ St W (fun _ => False) w4 [blk k1 (nodeC k s ln v (.slice q ks.len c) (.slice q2 m2 c2)).toArray 52]) ∧ ks.len - z3.toNat < ks.len - ((j : Nat) : Int).toNat := by
        rintro mo hmo z3 rfl
        rw [inc64' (by omega)]
        refine ⟨⟨j + 1, mo, rest, ws', rfl, rfl, h3, by omega, by omega, ?_, H4⟩, by rw [Int.toNat_natCast, Int.toNat_natCast]; omega⟩
        rw [← hmx, hmo]
        simp only [fneed, hz]
        omega
      have plus : plusOf k s = true → ∀ z2, z2 = IntKind.wrap .i64 (((z : Nat) : Int) + ((j : Nat) : Int)) → z2 = ((z + j : Nat) : Int) := by
        rintro - z2 rfl
        rw [show ((z : Nat) : Int) + ((j : Nat) : Int) = ((z + j : Nat) : Int) by omega]
        exact Go.Bits.n64 (by omega)
      have big : plusOf k s = true → ∀ z2, z2 = IntKind.wrap .i64 (((z : Nat) : Int) + ((j : Nat) : Int)) → Sx.split (decide (z2 > ((m : Nat) : Int))) (∀ z3, z3 = IntKind.wrap .i64 (((j : Nat) : Int) + 1) → (∃ (j' m' : Nat) (r : Fo) (ws : List Value), z3 = (j' : Nat) ∧ z2 = (m' : Nat) ∧ Suf DA ks us j' r ws ∧ r.sz ≤ ks.sz ∧ 1 ≤ m' ∧ max m' (fneed (plusOf k s) r j') = fneed (plusOf k s) ks 0 ∧ St W (fun _ => False) w4 [blk k1 (nodeC k s ln v (.slice q ks.len c) (.slice q2 m2 c2)).toArray 52]) ∧ ks.len - z3.toNat < ks.len - ((j : Nat) : Int).toNat)
          (∀ z4, z4 = IntKind.wrap .i64 (((j : Nat) : Int) + 1) → (∃ (j' m' : Nat) (r : Fo) (ws : List Value), z4 = (j' : Nat) ∧ ((m : Nat) : Int) = (m' : Nat) ∧ Suf DA ks us j' r ws ∧ r.sz ≤ ks.sz ∧ 1 ≤ m' ∧ max m' (fneed (plusOf k s) r j') = fneed (plusOf k s) ks 0 ∧ St W (fun _ => False) w4 [blk k1 (nodeC k s ln v (.slice q ks.len c) (.slice q2 m2 c2)).toArray 52]) ∧ ks.len - z4.toNat < ks.len - ((j : Nat) : Int).toNat) := by
        intro hp z2 hz2
        rw [plus hp z2 hz2]
        refine Sx.split_of (fun h => fin (z + j) (by rw [if_pos hp]; have := of_decide_eq_true h; omega)) (fun h => fin m (by rw [if_pos hp]; have := of_decide_eq_false h; omega))
      have small : plusOf k s = false → Sx.split (decide (((z : Nat) : Int) > ((m : Nat) : Int))) (∀ z3, z3 = IntKind.wrap .i64 (((j : Nat) : Int) + 1) → (∃ (j' m' : Nat) (r : Fo) (ws : List Value), z3 = (j' : Nat) ∧ ((z : Nat) : Int) = (m' : Nat) ∧ Suf DA ks us j' r ws ∧ r.sz ≤ ks.sz ∧ 1 ≤ m' ∧ max m' (fneed (plusOf k s) r j') = fneed (plusOf k s) ks 0 ∧ St W (fun _ => False) w4 [blk k1 (nodeC k s ln v (.slice q ks.len c) (.slice q2 m2 c2)).toArray 52]) ∧ ks.len - z3.toNat < ks.len - ((j : Nat) : Int).toNat)
          (∀ z4, z4 = IntKind.wrap .i64 (((j : Nat) : Int) + 1) → (∃ (j' m' : Nat) (r : Fo) (ws : List Value), z4 = (j' : Nat) ∧ ((m : Nat) : Int) = (m' : Nat) ∧ Suf DA ks us j' r ws ∧ r.sz ≤ ks.sz ∧ 1 ≤ m' ∧ max m' (fneed (plusOf k s) r j') = fneed (plusOf k s) ks 0 ∧ St W (fun _ => False) w4 [blk k1 (nodeC k s ln v (.slice q ks.len c) (.slice q2 m2 c2)).toArray 52]) ∧ ks.len - z4.toNat < ks.len - ((j : Nat) : Int).toNat) := by
        intro hp
        refine Sx.split_of (fun h => fin z (by rw [hp]; have := of_decide_eq_true h; simp only [Bool.false_eq_true, if_false]; omega)) (fun h => fin m (by rw [hp]; have := of_decide_eq_false h; simp only [Bool.false_eq_true, if_false]; omega))
      clear fin plus
      refine ⟨_, rfl, _, H4.ld 0 rfl (i := 0) rfl, ?_⟩
      rw [toList_eq]
      refine Sx.split_of (fun h6 => ?_) (fun h6 => ?_)
      · have h6 : k = cCallK := of_decide_eq_true h6
        exact big (by unfold plusOf; rw [h6]; rfl)
      have h6 : ¬ k = cCallK := of_decide_eq_false h6
      refine ⟨_, H4.ld 0 rfl (i := 0) rfl, ?_⟩
      rw [toList_eq]
      refine Sx.split_of (fun h7 => ?_) (fun h7 => ?_)
      · have h7 : k = cBinK := of_decide_eq_true h7
        refine ⟨_, H4.ld 0 rfl (i := 1) rfl, ?_⟩
        rw [toList_eq]
        refine Sx.split_of (fun h8 => ?_) (fun h8 => ?_)
        · have h8 : ¬ s = ofL [38, 38] := fun e => by rw [decide_eq_true (show s = ⟨#[38, 38]⟩ from e)] at h8; cases h8
          refine ⟨_, H4.ld 0 rfl (i := 1) rfl, ?_⟩
          rw [toList_eq]
          refine Sx.split_of (fun h9 => ?_) (fun h9 => ?_)
          · have h9 : ¬ s = ofL [124, 124] := fun e => by rw [decide_eq_true (show s = ⟨#[124, 124]⟩ from e)] at h9; cases h9
            exact big (by unfold plusOf; rw [decide_eq_true h7, decide_eq_false h8, decide_eq_false h9, decide_eq_false h6]; rfl)
          · have h9 : s = ofL [124, 124] := Decidable.byContradiction fun e => by rw [decide_eq_false (show ¬ s = ⟨#[124, 124]⟩ from e)] at h9; cases h9
            exact small (by unfold plusOf; rw [decide_eq_true h9, decide_eq_false h6]; simp)
        · have h8 : s = ofL [38, 38] := Decidable.byContradiction fun e => by rw [decide_eq_false (show ¬ s = ⟨#[38, 38]⟩ from e)] at h8; cases h8
          exact small (by unfold plusOf; rw [decide_eq_true h8, decide_eq_false h6]; simp)
      · have h7 : ¬ k = cBinK := of_decide_eq_false h7
        exact small (by unfold plusOf; rw [decide_eq_false h7, decide_eq_false h6]; rfl)
end Go.Proofs.YtojogkljneonmaaGreatDoor
/- The reference's checker: expressions, new locals. No condition. -/
namespace Go.Proofs.YtojogkljneonmaaGreatDoor
open Go Go.Proofs Go.Sep Go.XHeap Go.RowKit Go.Lang
set_option linter.unusedVariables false
set_option linter.unusedSimpArgs false
variable {W w0 w : World} {M : Nat → Prop} {L : List Asn} {K : Kx} {S : Ck}
section
variable {k s : ByteArray} {ln v : Int} {q q2 : Option Addr} {m c m2 c2 : Nat}
theorem ck_err {φ : Int → Prop} (H : St w0 M w (ckA K S :: L)) (hq : φ S.err) : ∃ z : Int, w.cell? ⟨K.c, 0 + 4, none⟩ = some (.int .i64 z) ∧ φ z := ⟨_, (St.open_ (L := ckL K S) H).ld 0 rfl (i := 4) rfl, hq⟩
theorem rinner_all [Inhabited G3o] : ∀ (N : Nat) (ks : Fo), ks.sz < N → ks.sz ≤ 1000000 → ∀ {W : World} {K : Kx} {S : Ck} {k s : ByteArray} {ln v : Int} {q q2 : Option Addr} {c m2 c2 : Nat} {us : List Value}, KOk K → S.Ls.length ≤ 100 → isV K.DA ks us → (∀ w, K.DA.at_ w → Sl w 52 6 (.slice q ks.len c) ks.len us) → (ckA K S).at_ W →
    Calls Tryz.prog 66 #[pt K.c, .agg (nodeC k s ln v (.slice q ks.len c) (.slice q2 m2 c2)).toArray] W fun e w' => e = .returned (.tuple #[]) ∧ Post (ckA K S) W (ckA K (S.aft ((fname (globF K.F) S.Ls k s ln ks.len).bind fun _ => finner (globF K.F) S.Ls ks))) w' := by
  intro N
  induction N with
  | zero => intro ks hN; omega
  | succ N ih =>
    intro ks hN hsz W K S k s ln v q q2 c m2 c2 us hK hs hV hsl h
    refine vc66 K.c 0 _ ?_
    refine (St.begin h).al fun k1 w2 H2 => ?_
    have H2 : St W (ckA K S).own w2 [ckA K S, blk k1 (nodeC k s ln v (.slice q ks.len c) (.slice q2 m2 c2)).toArray 52] := H2
    refine ⟨fun w => St W (ckA K S).own w [ckA K (S.aft (fname (globF K.F) S.Ls k s ln ks.len)), blk k1 (nodeC k s ln v (.slice q ks.len c) (.slice q2 m2 c2)).toArray 52], ?_, ?_⟩
    · -- the name
      refine ⟨_, H2.ld 1 rfl (i := 0) rfl, ?_⟩
      rw [toList_eq, toList_eq, toList_eq]
      refine Sx.split_of (fun h6 => ?_) (fun h6 => ?_)
      · have h6 : k = cNameK := of_decide_eq_true h6
        have hf : fname (globF K.F) S.Ls k s ln ks.len = fsc (globF K.F) S.Ls s ln := by unfold fname; rw [if_pos h6]
        refine ⟨_, rfl, H2.cells 1 rfl, ?_⟩
        refine (rscalar_any hK hs (H2.nth 0 rfl)).mono ?_
        rintro e w3 ⟨rfl, hp⟩
        rw [hf]
        exact ⟨rfl, H2.upd 0 rfl hp⟩
      have h6 : ¬ k = cNameK := of_decide_eq_false h6
      refine Sx.split_of (fun h7 => ?_) (fun h7 => ?_)
      · have h7 : k = cIndexK := of_decide_eq_true h7
        have hf : fname (globF K.F) S.Ls k s ln ks.len = farr (globF K.F) S.Ls s ln := by unfold fname; rw [if_neg h6, if_pos h7]
        refine ⟨_, rfl, H2.cells 1 rfl, ?_⟩
        refine (rarray_any hK hs (H2.nth 0 rfl)).mono ?_
        rintro e w3 ⟨rfl, hp⟩
        rw [hf]
        exact ⟨rfl, H2.upd 0 rfl hp⟩
      have h7 : ¬ k = cIndexK := of_decide_eq_false h7
      refine Sx.split_of (fun h8 => ?_) (fun h8 => ?_)
      · have h8 : k = cCallK := of_decide_eq_true h8
        have hf : fname (globF K.F) S.Ls k s ln ks.len = fcal (globF K.F) S.Ls s ln ks.len := by unfold fname; rw [if_neg h6, if_neg h7, if_pos h8]
        rw [hf]
        have fail : ∀ {w : World} {L : List Asn}, fcal (globF K.F) S.Ls s ln ks.len = .err ln 9 → St W (ckA K S).own w (ckA K S :: blk k1 (nodeC k s ln v (.slice q ks.len c) (.slice q2 m2 c2)).toArray 52 :: L) →
            ∃ vs : Array Value, vs.size = 6 ∧ Sx.cellsAt w ⟨k1, 0, none⟩ vs ∧ Calls Tryz.prog 14 #[pt K.c, .agg vs, .int .i64 9] w fun e3 w' => e3 = .returned (.tuple #[]) ∧ St W (ckA K S).own w' [ckA K (S.aft (fcal (globF K.F) S.Ls s ln ks.len)), blk k1 (nodeC k s ln v (.slice q ks.len c) (.slice q2 m2 c2)).toArray 52] := by
          intro w L hf H
          refine fail_in' H 1 rfl fun w' H' => ?_
          rw [hf]
          exact H'.pick [0, 1]
        refine ⟨_, H2.ld 1 rfl (i := 1) rfl, ?_⟩
        refine (rglobal_any s hK (H2.nth 0 rfl)).mono ?_
        rintro e w3 ⟨hh, hg⟩
        have H3 := H2.quiet hh
        cases hgl : globF K.F s with
        | none =>
          rw [hgl] at hg
          subst hg
          refine ⟨_, _, rfl, ?_⟩
          refine H3.al fun k2 w4 H4 => ?_
          refine H4.sts0 2 (n := 6) (vs := nodeZ.toArray) rfl rfl rfl nodeZ_one fun w5 H5 => ?_
          refine ⟨_, H5.ld 1 rfl (i := 1) rfl, ?_⟩
          refine H5.callq (rlocal_any s hs (H5.nth 0 rfl)) fun w6 H6 => ?_
          refine ⟨_, rfl, ?_⟩
          cases hl : hasN S.Ls s with
          | true => exact Sx.split_of (fun _ => fail (by unfold fcal; rw [hl]; rfl) H6) (fun h => by cases h)
          | false => exact Sx.split_of (fun h => by cases h) (fun _ => Sx.split_of (fun _ => fail (by unfold fcal; rw [hl, hgl]; rfl) H6) (fun h => by cases h))
        | some x =>
          obtain ⟨k', v', m'⟩ := x
          rw [hgl] at hg
          obtain ⟨nm, ln', q', mm, c', q2', c2', rfl⟩ := hg
          refine ⟨_, _, rfl, ?_⟩
          refine H3.al fun k2 w4 H4 => ?_
          refine H4.sts0 2 (n := 6) (vs := (nodeC k' nm ln' v' (.slice q' mm c') (.slice q2' m' c2')).toArray) rfl rfl rfl nodeC_one fun w5 H5 => ?_
          refine ⟨_, H5.ld 1 rfl (i := 1) rfl, ?_⟩
          refine H5.callq (rlocal_any s hs (H5.nth 0 rfl)) fun w6 H6 => ?_
          refine ⟨_, rfl, ?_⟩
          cases hl : hasN S.Ls s with
          | true => exact Sx.split_of (fun _ => fail (by unfold fcal; rw [hl]; rfl) H6) (fun h => by cases h)
          | false =>
            refine Sx.split_of (fun h => by cases h) (fun _ => Sx.split_of (fun h => by cases h) (fun _ => ?_))
            refine ⟨_, H6.ld 2 rfl (i := 0) rfl, ?_⟩
            rw [toList_eq]
            by_cases hk : k' = cFunc
            · refine Sx.split_of (fun h => by rw [decide_eq_true (show k' = ⟨#[102, 117, 110, 99]⟩ from hk)] at h; cases h) (fun _ => ?_)
              refine ⟨_, _, _, H6.ld 2 rfl (i := 5) rfl, _, _, _, H6.ld 1 rfl (i := 4) rfl, Sx.split_of (fun h => ?_) (fun h => ?_)⟩
              · have h : m' ≠ ks.len := fun e => by rw [e] at h; simp at h
                exact fail (by unfold fcal; rw [hl, hgl]; simp only [Bool.false_eq_true, if_false]; rw [if_neg (by simp [hk]), if_pos h]) H6
              · have h : m' = ks.len := by have := bne_eq_false_iff_eq.1 h; omega
                have hf : fcal (globF K.F) S.Ls s ln ks.len = .ok () := by unfold fcal; rw [hl, hgl]; simp only [Bool.false_eq_true, if_false]; rw [if_neg (by simp [hk]), if_neg (by simp [h])]
                rw [hf, aft_ok]
                exact H6.pick [0, 1]
            · refine Sx.split_of (fun _ => ?_) (fun h => by rw [decide_eq_false (show ¬ k' = ⟨#[102, 117, 110, 99]⟩ from hk)] at h; cases h)
              exact fail (by unfold fcal; rw [hl, hgl]; simp only [Bool.false_eq_true, if_false]; rw [if_pos hk]) H6
      · have h8 : ¬ k = cCallK := of_decide_eq_false h8
        have hf : fname (globF K.F) S.Ls k s ln ks.len = .ok () := by unfold fname; rw [if_neg h6, if_neg h7, if_neg h8]
        rw [hf, aft_ok]
        exact H2
    · -- the parts
      intro _ w3 H3
      generalize hS1 : S.aft (fname (globF K.F) S.Ls k s ln ks.len) = S1 at *
      have hL1 : S1.Ls = S.Ls := by rw [← hS1, aft_Ls]
      have hfin : S.aft ((fname (globF K.F) S.Ls k s ln ks.len).bind fun _ => finner (globF K.F) S.Ls ks) = S1.aft (finner (globF K.F) S.Ls ks) := by rw [← hS1, aft_bind (good_fname _ _ _ _ _ _)]
      rw [hfin]
      have hlen := Fo.len_le ks
      refine ⟨fun x w => ∃ (j : Nat) (r : Fo) (ws : List Value) (S2 : Ck), x = (j : Nat) ∧ Suf K.DA ks us j r ws ∧ r.sz ≤ ks.sz ∧ S2.Ls = S.Ls ∧ S2.aft (finner (globF K.F) S.Ls r) = S1.aft (finner (globF K.F) S.Ls ks) ∧ St W (ckA K S).own w [ckA K S2, blk k1 (nodeC k s ln v (.slice q ks.len c) (.slice q2 m2 c2)).toArray 52], fun x _ => ks.len - x.toNat, ⟨0, ks, us, S1, rfl, Suf.start hV, Nat.le_refl _, hL1, rfl, H3⟩, ?_⟩
      rintro _ x w4 ⟨j, r, ws, S2, rfl, hSuf, hrsz, hL2, hS2, H4⟩
      have hDA : K.DA.at_ w4 := (St.open_ (L := ckL K S2) H4).nth 2 rfl
      refine ⟨_, _, _, H4.ld 1 rfl (i := 4) rfl, ?_⟩
      cases r with
      | nil =>
        obtain ⟨-, pre, -, -, hl⟩ := hSuf
        simp only [Fo.len] at hl
        refine Sx.split_of (fun h1 => by have := of_decide_eq_true h1; omega) (fun _ => ⟨rfl, ?_⟩)
        rw [← hS2, show finner (globF K.F) S.Ls .nil = .ok () by unfold finner; rfl, aft_ok]
        exact H4.post 0 rfl
      | cons k2 s2 ln2 v2 kids ns rest =>
        obtain ⟨q3, c3, us1, q4, c4, ws', h1, h3, hj, h4, h5, hat⟩ := hSuf.next
        simp only [Fo.sz] at hrsz
        refine Sx.split_of (fun _ => ?_) (fun h1 => by have := of_decide_eq_false h1; omega)
        refine ck_err H4 (Sx.split_of (fun h0 => ?_) (fun h0 => ?_))
        · refine ⟨_, _, _, H4.ld 1 rfl (i := 4) rfl, ⟨by omega, by omega⟩, ?_⟩
          refine hat (hsl _ hDA) fun g o hc => ?_
          rw [Int.toNat_natCast]
          refine ⟨_, rfl, hc, ?_⟩
          refine (ih kids (by omega) (by omega) hK (by rw [hL2]; exact hs) h1 h4 (H4.nth 0 rfl)).mono ?_
          rintro e w5 ⟨rfl, hp⟩
          have H5 := H4.upd 0 rfl hp
          refine ⟨rfl, ?_⟩
          rintro z rfl
          rw [inc64' (by omega)]
          refine ⟨⟨j + 1, rest, ws', _, rfl, h3, by omega, by rw [aft_Ls, hL2], ?_, H5⟩, by show _ - ((j + 1 : Nat) : Int).toNat < _ - ((j : Nat) : Int).toNat; omega⟩
          rw [← hS2, hL2, aft_bind (good_bind (good_fname _ _ _ _ _ _) fun _ => good_finner _ _ _)]
          rw [show finner (globF K.F) S.Ls (.cons k2 s2 ln2 v2 kids ns rest) = ((fname (globF K.F) S.Ls k2 s2 ln2 kids.len).bind fun _ => (finner (globF K.F) S.Ls kids).bind fun _ => finner (globF K.F) S.Ls rest) by rw [finner]]
          rw [C.bind_assoc]
        · have h0 : S2.err ≠ 0 := beq_eq_false_iff_ne.1 h0
          rw [← hS2, aft_dead h0]
          exact ⟨rfl, H4.post 0 rfl⟩
/-- a whole expression -/
theorem rcexpr_any [Inhabited G3o] {ks rest : Fo} {ns : List ByteArray} {us : List Value} (hK : KOk K) (hs : S.Ls.length ≤ 100) (hsz : ks.sz ≤ 1000000) (hV : isV K.DA ks us) (hsl : ∀ w, K.DA.at_ w → Sl w 52 6 (.slice q ks.len c) ks.len us) (h : (ckA K S).at_ W) :
    Calls Tryz.prog 33 #[pt K.c, .agg (nodeC k s ln v (.slice q ks.len c) (.slice q2 m2 c2)).toArray] W fun e w' => e = .returned (.tuple #[]) ∧ Post (ckA K S) W (ckA K (S.aft (fwhole (globF K.F) S.Ls 0 (.cons k s ln v ks ns rest)))) w' := by
  refine vc33 K.c 0 _ ?_
  refine (St.begin h).al fun k1 w2 H2 => ?_
  have H2 : St W (ckA K S).own w2 [ckA K S, blk k1 (nodeC k s ln v (.slice q ks.len c) (.slice q2 m2 c2)).toArray 52] := H2
  refine ⟨_, rfl, H2.cells 1 rfl, ?_⟩
  refine (rinner_all (ks.sz + 1) ks (by omega) hsz hK hs hV hsl (H2.nth 0 rfl)).mono ?_
  rintro e w3 ⟨rfl, hp⟩
  have H3 := H2.upd 0 rfl hp
  generalize hS1 : S.aft ((fname (globF K.F) S.Ls k s ln ks.len).bind fun _ => finner (globF K.F) S.Ls ks) = S1 at *
  have H3 : St W (ckA K S).own w3 [ckA K S1, blk k1 (nodeC k s ln v (.slice q ks.len c) (.slice q2 m2 c2)).toArray 52] := H3
  have hfin : S.aft (fwhole (globF K.F) S.Ls 0 (.cons k s ln v ks ns rest)) = S1.aft (if 8 < fneed (plusOf k s) ks 0 + 0 then .err ln 4 else .ok ()) := by
    rw [← hS1, aft_bind (good_bind (good_fname _ _ _ _ _ _) fun _ => good_finner _ _ _), C.bind_assoc]
    rfl
  rw [hfin]
  refine ⟨rfl, _, rfl, H3.cells 1 rfl, ?_⟩
  have hDA : K.DA.at_ w3 := (St.open_ (L := ckL K S1) H3).nth 2 rfl
  refine H3.callq (rneed_all ks.sz ks (Nat.le_refl _) hsz hV hsl hDA) fun w4 H4 => ?_
  refine ⟨_, rfl, Sx.split_of (fun h8 => ?_) (fun h8 => ?_)⟩
  · have h8 : 8 < fneed (plusOf k s) ks 0 + 0 := by have := of_decide_eq_true h8; omega
    rw [if_pos h8]
    exact fail_in' H4 1 rfl fun w' H' => ⟨rfl, H'.post 0 rfl⟩
  · have h8 : ¬ 8 < fneed (plusOf k s) ks 0 + 0 := by have := of_decide_eq_false h8; omega
    rw [if_neg h8, aft_ok]
    exact ⟨rfl, H4.post 0 rfl⟩
end
end Go.Proofs.YtojogkljneonmaaGreatDoor
