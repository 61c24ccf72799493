import Derived.Test.YtojogkljneonmaaGreatDoorLangTh
import Derived.Test.YtojogkljneonmaaGreatDoorRows
import Derived.Test.YtojogkljneonmaaGreatDoorSxM
import Derived.WalkLawsBesides
import Derived.RegionTactic
import Derived.BigRegion
import Derived.Outline
import Derived.Stop.Asserts
import Derived.Laws.LoneSync
import Derived.Lib.ReflectliteSlice
import Derived.Test.YtojogkljneonmaaGreatDoorLangVe
/- The reference's checker: the whole of Check. No condition. -/
namespace Go.Proofs.YtojogkljneonmaaGreatDoor
open Go Go.Proofs Go.Sep Go.XHeap Go.RowKit Go.Lang
set_option linter.unusedVariables false
set_option linter.unusedSimpArgs false
variable {W w0 w : World} {M : Nat → Prop} {L : List Asn} {K : Kx} {S : Ck}
theorem hasN_snoc (seen : List ByteArray) (t s : ByteArray) : hasN (seen ++ [t]) s = (hasN seen s || decide (t = s)) := by
  unfold hasN
  rw [List.any_append]
  simp
theorem good_if9 [Inhabited G3o] (b : Bool) (ln : Int) : good (if b = true then C.err ln 9 else C.ok () : C Unit) := by
  split
  · exact good_err (by decide)
  · exact good_ok _
/-- what is over all declarations, so far -/
def chI (K : Kx) (W : World) (full : C Unit) (x : Int) (w : World) : Prop :=
  ∃ j : Nat, x = (j : Nat) ∧ j ≤ K.F.len ∧ ∃ S : Ck, St W emp.own w [ckA K S] ∧
    ((S.err = 0 ∧ full = fcr (globF K.F) ((fnames K.F).take j) (fwn j K.F) (K.F.drop j)) ∨ (S.err ≠ 0 ∧ full = .err S.line S.err))
def chE (K : Kx) (W : World) (full : C Unit) (w : World) : Prop :=
  ∃ S : Ck, St W emp.own w [ckA K S] ∧ ((S.err = 0 ∧ full = .ok ()) ∨ (S.err ≠ 0 ∧ full = .err S.line S.err))
/-- a function's parameters, so far -/
def paI (K : Kx) (W : World) (ln : Int) (ns : List ByteArray) (KK : List ByteArray × Nat → C Unit) (one : C Unit) (x : Int) (w : World) : Prop :=
  ∃ j : Nat, x = (j : Nat) ∧ j ≤ ns.length ∧ ∃ S : Ck, St W emp.own w [ckA K S] ∧
    ((S.err = 0 ∧ ∃ n : Nat, S.n = (n : Nat) ∧ S.Ls.length ≤ n ∧ n ≤ 24 ∧ one = (fpars (globF K.F) ln (ns.drop j) S.Ls n).bind KK) ∨ (S.err ≠ 0 ∧ one = .err S.line S.err))
def paE (K : Kx) (W : World) (KK : List ByteArray × Nat → C Unit) (one : C Unit) (w : World) : Prop :=
  ∃ S : Ck, St W emp.own w [ckA K S] ∧
    ((S.err = 0 ∧ ∃ n : Nat, S.n = (n : Nat) ∧ S.Ls.length ≤ n ∧ n ≤ 24 ∧ one = KK (S.Ls, n)) ∨ (S.err ≠ 0 ∧ one = .err S.line S.err))
def RChk (W : World) (r : C (List D)) (e : Ending) (w' : World) : Prop := match r with
  | .err l en => en ≠ 0 ∧ e = .returned (.tuple #[.slice none 0 0, .int .i64 l, .int .i64 en]) ∧ Hush W w'
  | .ok ds => ∃ p c us B, e = .returned (.tuple #[.slice p ds.length c, .int .i64 0, .int .i64 0]) ∧ isF (toD ds .nil) us B ∧ Post emp W (all [sl 52 6 (.slice p ds.length c) ds.length us, B]) w'
set_option maxHeartbeats 4000000 in
theorem rcheck_any [Inhabited G3o] {f g : Nat} (s : List UInt8) (hr : s.length ≤ 8000 → decls f g (lex s 1) ≠ .out) (hds : ∀ ds, parseP f g s = .ok ds → dok (toD ds .nil) ∧ ds.length ≤ 8001) :
    Calls Tryz.prog 7 #[.string (ofL s)] W (RChk W ((parseP f g s).bind fun ds => (fcheck (toD ds .nil)).bind fun _ => .ok ds)) := by
  refine vc7 (ofL s) ?_
  refine (rparse_any (f := f) (g := g) s hr).mono ?_
  intro e w2 he
  cases hp : parseP f g s with
  | err line en =>
    rw [hp] at he
    obtain ⟨hen, rfl, hh⟩ := he
    refine ⟨_, _, _, _, _, rfl, Sx.split_of (fun _ => ⟨hen, rfl, hh⟩) (fun h => absurd (bne_eq_false_iff_eq.1 h) hen)⟩
  | ok ds =>
  rw [hp] at he
  obtain ⟨p, c, us, B, rfl, hF, hpost⟩ := he
  obtain ⟨hdok, hlen⟩ := hds ds hp
  refine ⟨_, _, _, _, _, rfl, Sx.split_of (fun h => by cases h) (fun _ => ?_)⟩
  rintro vs rfl
  have hl := toD_len ds
  have H2 := (St.nil W).add hpost
  refine H2.al fun k3 w3 H3 => ?_
  rw [← hl] at H3
  simp only [← hl]
  obtain ⟨K, hKd⟩ : ∃ K : Kx, K = ⟨k3, p, c, toD ds .nil, us, all [sl 52 6 (.slice p (toD ds .nil).len c) (toD ds .nil).len us, B]⟩ := ⟨_, rfl⟩
  have hK : KOk K := by
    rw [hKd]
    exact ⟨fun w hw => hw.nth 0 rfl, isF_isV hF (fun w hw => hw.nth 1 rfl), by show (toD ds .nil).len ≤ 8001; omega⟩
  have hdK : dok K.F := by rw [hKd]; exact hdok
  have eF : toD ds .nil = K.F := by rw [hKd]
  have ep : p = K.dp := by rw [hKd]
  have ec : k3 = K.c := by rw [hKd]
  have edc : c = K.dc := by rw [hKd]
  have H4 : St W emp.own w3 [ckA K ⟨[], none, 0, 0, 0, 0⟩] := by
    have h1 := H3.add (A := sl 9 1 (.slice none 0 0) 0 []) ⟨Sl.nil _ _ _, XTouch.refl _ _, fun q hq => by cases hq⟩
    rw [hKd]
    exact St.shut (L := ckL _ ⟨[], none, 0, 0, 0, 0⟩) (L' := []) (h1.pick [1, 2, 0])
  rw [eF, ec, edc, ep]
  clear H3 H2 hpost
  have hpost : ∀ {w : World} {S : Ck}, St W emp.own w [ckA K S] → (fcheck K.F = .ok ()) → RChk W ((C.ok ds).bind fun ds => (fcheck (toD ds .nil)).bind fun _ => .ok ds) (.returned (.tuple #[.slice K.dp K.F.len K.dc, .int .i64 0, .int .i64 0])) w := by
    intro w S H hfc
    show RChk W ((fcheck (toD ds .nil)).bind fun _ => .ok ds) _ w
    rw [eF, hfc]
    have H5 := (St.open_ (L := ckL K S) (L' := []) H).pick [2]
    refine ⟨K.dp, K.dc, us, B, by rw [← eF, hl], hF, ?_⟩
    have h6 := H5.new 0 rfl
    rw [hKd] at h6 ⊢
    rw [← hl]
    exact h6
  have herr : ∀ {w : World} {S : Ck} {l en : Int}, St W emp.own w [ckA K S] → fcheck K.F = .err l en → en ≠ 0 → RChk W ((C.ok ds).bind fun ds => (fcheck (toD ds .nil)).bind fun _ => .ok ds) (.returned (.tuple #[.slice none 0 0, .int .i64 l, .int .i64 en])) w := by
    intro w S l en H hfc hen
    show RChk W ((fcheck (toD ds .nil)).bind fun _ => .ok ds) _ w
    rw [eF, hfc]
    exact ⟨hen, rfl, H.touch⟩
  clear eF ep ec edc hKd hF hl hdok hlen
  obtain ⟨full, hfull⟩ : ∃ full, full = fcr (globF K.F) [] 0 K.F := ⟨_, rfl⟩
  refine ⟨fun w => chE K W full w, ?_, ?_⟩
  · refine ⟨fun x w => chI K W full x w, fun x _ => K.F.len - x.toNat, ⟨0, rfl, Nat.zero_le _, _, H4, .inl ⟨rfl, hfull⟩⟩, ?_⟩
    clear H4
    rintro _ x w4 ⟨j, rfl, hj, S, H4, hst⟩
    have hlenF := hK.2.2
    refine Sx.split_of (fun h1 => ?_) (fun h1 => ?_)
    rotate_left
    · have h1 : j = K.F.len := by have := of_decide_eq_false h1; omega
      refine ⟨S, H4, hst.imp (fun ⟨a, b⟩ => ⟨a, ?_⟩) id⟩
      rw [b, h1, drop_len]
      unfold fcr; rfl
    have h1 : j < K.F.len := by have := of_decide_eq_true h1; omega
    refine ck_err H4 (Sx.split_of (fun h0 => ?_) (fun h0 => ?_))
    rotate_left
    · have h0 : S.err ≠ 0 := beq_eq_false_iff_ne.1 h0
      exact ⟨S, H4, hst.imp (fun ⟨a, b⟩ => absurd a h0) id⟩
    have h0 : S.err = 0 := beq_iff_eq.1 h0
    clear hfull
    have hfull : full = fcr (globF K.F) ((fnames K.F).take j) (fwn j K.F) (K.F.drop j) := by
      rcases hst with ⟨-, b⟩ | ⟨a, -⟩
      · exact b
      · exact absurd h0 a
    clear hst
    obtain ⟨ws, hS⟩ := suf_drop hK.2.1 j (by omega)
    obtain ⟨k, nm, ln, v, ks, ns, r, e1, e2, e3, e4, e5⟩ := drop_cons j K.F h1 hdK
    rw [e1] at hS hfull
    obtain ⟨q, c3, us1, q2, c2, ws', hV1, -, -, hsl1, hsl2, hat⟩ := hS.next
    rw [fcr_cons] at hfull
    have hone : (fnames K.F).take (j + 1) = (fnames K.F).take j ++ [nm] := by
      have hlt : j < (fnames K.F).length := (List.getElem?_eq_some_iff.1 e3).1
      rw [List.take_succ_eq_append_getElem hlt, (List.getElem?_eq_some_iff.1 e3).2]
    rw [← hone, ← e4, ← e2] at hfull
    have hDA : ∀ {w : World} {S' : Ck} {L : List Asn}, St W emp.own w (ckA K S' :: L) → K.DA.at_ w := fun H => (St.open_ (L := ckL K _) H).nth 2 rfl
    -- names that were seen
    refine ⟨fun y w => ∃ j2 : Nat, y = (j2 : Nat) ∧ j2 ≤ j ∧ St W emp.own w [ckA K (S.aft (if hasN ((fnames K.F).take j2) nm then .err ln 9 else .ok ()))], fun y _ => j - y.toNat, ⟨0, rfl, Nat.zero_le _, by rw [show hasN ((fnames K.F).take 0) nm = false from rfl]; rw [show (if false = true then C.err ln 9 else C.ok ()) = C.ok () from rfl, aft_ok]; exact H4⟩, ?_⟩
    clear H4
    rintro _ y w5 ⟨j2, rfl, hj2, H5⟩
    refine Sx.split_of (fun h6 => ?_) (fun h6 => ?_)
    · have h6 : j2 < j := by have := of_decide_eq_true h6; omega
      obtain ⟨ws2, hS2⟩ := suf_drop hK.2.1 j2 (by omega)
      obtain ⟨k', nm', ln', v', ks', ns', r', f1, f2, f3, f4, f5⟩ := drop_cons j2 K.F (by omega) hdK
      rw [f1] at hS2
      obtain ⟨q', c3', us1', q2', c2', ws2', -, -, -, -, -, hat2⟩ := hS2.next
      have htk : (fnames K.F).take (j2 + 1) = (fnames K.F).take j2 ++ [nm'] := by
        have hlt : j2 < (fnames K.F).length := (List.getElem?_eq_some_iff.1 f3).1
        rw [List.take_succ_eq_append_getElem hlt, (List.getElem?_eq_some_iff.1 f3).2]
      refine ⟨⟨by omega, by omega⟩, hat2 (hK.1 _ (hDA H5)) fun g2 o2 hc2 => ?_⟩
      rw [Int.toNat_natCast]
      refine ⟨nm', hc2 1 (.string nm') rfl, ⟨by omega, by omega⟩, hat (hK.1 _ (hDA H5)) fun g3 o3 hc3 => ?_⟩
      rw [Int.toNat_natCast]
      refine ⟨nm, hc3 1 (.string nm) rfl, ?_⟩
      refine H5.drN fun w6 H6 => ?_
      rw [toList_eq]
      refine Sx.split_of (fun h7 => ?_) (fun h7 => ?_)
      · have h7 : nm' = nm := of_decide_eq_true h7
        refine ⟨⟨by omega, by omega⟩, hat (hK.1 _ (hDA H6)) fun g4 o4 hc4 => ?_⟩
        refine ⟨_, rfl, hc4, ?_⟩
        refine (rfailc_any (H6.nth 0 rfl)).mono ?_
        rintro en w7 ⟨rfl, hp⟩
        have H7 := H6.upd 0 rfl hp
        refine ⟨rfl, ?_⟩
        rintro z rfl
        rw [inc64 (by omega)]
        refine ⟨⟨j2 + 1, rfl, by omega, ?_⟩, by show j - ((j2 + 1 : Nat) : Int).toNat < j - ((j2 : Nat) : Int).toNat; omega⟩
        rw [htk, hasN_snoc, decide_eq_true h7, Bool.or_true]
        rw [aft_bind (good_if9 _ _)] at H7
        cases hb : hasN ((fnames K.F).take j2) nm with
        | true => rw [hb] at H7; exact H7
        | false => rw [hb] at H7; exact H7
      · have h7 : ¬ nm' = nm := of_decide_eq_false h7
        rintro z rfl
        rw [inc64 (by omega)]
        refine ⟨⟨j2 + 1, rfl, by omega, ?_⟩, by show j - ((j2 + 1 : Nat) : Int).toNat < j - ((j2 : Nat) : Int).toNat; omega⟩
        rw [htk, hasN_snoc, decide_eq_false h7, Bool.or_false]
        exact H6
    · have h6 : j2 = j := by have := of_decide_eq_false h6; omega
      rw [h6] at H5

      obtain ⟨seen, hseen⟩ : ∃ seen, seen = (fnames K.F).take j := ⟨_, rfl⟩
      rw [← hseen] at H5 hfull
      obtain ⟨one, hone2⟩ : ∃ one, one = fcone (globF K.F) seen (fwn j K.F) k nm ln v ks ns := ⟨_, rfl⟩
      rw [← hone2] at hfull
      have fin1 : ∀ {w : World} {S' : Ck} {L : List Asn}, St W emp.own w (ckA K S' :: L) → ((S'.err = 0 ∧ one = .ok ()) ∨ (S'.err ≠ 0 ∧ one = .err S'.line S'.err)) → ∀ z8, z8 = IntKind.wrap .i64 (((j : Nat) : Int) + 1) → chI K W full z8 w ∧ K.F.len - z8.toNat < K.F.len - ((j : Nat) : Int).toNat := by
        rintro w S' L H ho z8 rfl
        rw [inc64 (by omega)]
        refine ⟨⟨j + 1, rfl, by omega, S', H.pick [0], ho.imp (fun ⟨a, b⟩ => ⟨a, ?_⟩) (fun ⟨a, b⟩ => ⟨a, ?_⟩)⟩, by rw [Int.toNat_natCast, Int.toNat_natCast]; omega⟩
        · rw [hfull, b]; rfl
        · rw [hfull, b]; rfl
      have fin0 : ∀ {w : World} {r : C Unit} {L : List Asn}, good r → r = one → St W emp.own w (ckA K (S.aft r) :: L) → ∀ z8, z8 = IntKind.wrap .i64 (((j : Nat) : Int) + 1) → chI K W full z8 w ∧ K.F.len - z8.toNat < K.F.len - ((j : Nat) : Int).toNat := by
        intro w r L hg hro H
        refine fin1 H ?_
        rcases aft_cases h0 hg with ⟨a, b⟩ | ⟨l, e, a, a0, b⟩
        · rw [b]; exact .inl ⟨h0, by rw [← hro, a]⟩
        · rw [b]; exact .inr ⟨a0, by rw [← hro, a]⟩
      refine ⟨⟨by omega, by omega⟩, hat (hK.1 _ (hDA H5)) fun g4 o4 hc4 => ?_⟩
      rw [Int.toNat_natCast]
      refine ⟨k, hc4 0 (.string k) rfl, ?_⟩
      rw [toList_eq]
      refine Sx.split_of (fun h7 => ?_) (fun h7 => ?_)
      · -- a variable
        have h7 : k = cVar := of_decide_eq_true h7
        rintro z6 hz6
        rw [inc64 (by omega)] at hz6
        subst hz6
        have hcap : K.F.len ≤ K.dc := by
          rcases (hK.1 _ (hDA H5)).2 with ⟨h, h00⟩ | ⟨g, off, cap, cur, hv, hb, h1', h2, h3, h4⟩
          · omega
          · simp at hv; omega
        refine ⟨⟨by omega, by omega⟩, ?_⟩
        rw [Int.toNat_natCast]
        refine H5.callp (rwords_any (hK.1 _ (hDA H5)) hK.2.1 (by omega) hK.2.2 hdK _) ?_
        have hw : one = (if hasN seen nm then .err ln 9 else .ok () : C Unit).bind fun _ => if 512 < fwn (j + 1) K.F then .err ln 1 else .ok () := by
          rw [hone2]
          unfold fcone
          rw [if_pos h7, ← e4]
          cases hasN seen nm <;> rfl
        refine ⟨_, rfl, Sx.split_of (fun h8 => ?_) (fun h8 => ?_)⟩
        · have h8 : 512 < fwn (j + 1) K.F := by have := of_decide_eq_true h8; omega
          rw [if_pos h8] at hw
          refine ⟨⟨by omega, by omega⟩, hat (hK.1 _ (hDA H5)) fun g5 o5 hc5 => ?_⟩
          refine ⟨_, rfl, hc5, ?_⟩
          refine (rfailc_any (H5.nth 0 rfl)).mono ?_
          rintro en w7 ⟨rfl, hp⟩
          have H7 := H5.upd 0 rfl hp
          rw [aft_bind (good_if9 _ _), ← hw] at H7
          refine ⟨rfl, fin0 ?_ rfl H7⟩
          rw [hw]
          exact good_bind (good_if9 _ _) fun _ => good_err (by decide)
        · have h8 : ¬ 512 < fwn (j + 1) K.F := by have := of_decide_eq_false h8; omega
          rw [if_neg h8] at hw
          refine fin0 (good_if9 _ _) ?_ H5
          rw [hw]
          cases hasN seen nm <;> rfl
      · -- a function
        have h7 : ¬ k = cVar := of_decide_eq_false h7
        rw [dok] at e5
        obtain ⟨-, e5b, hns, -⟩ := e5
        obtain ⟨hk0, hk1, hk2, hksz⟩ := e5b h7
        obtain ⟨KK, hKK⟩ : ∃ KK : List ByteArray × Nat → C Unit, KK = fun p => (fst' (globF K.F) ks p.1 p.2).bind fun _ => .ok () := ⟨_, rfl⟩
        have hw : one = if hasN seen nm then .err ln 9 else (fpars (globF K.F) ln ns [] 0).bind KK := by
          rw [hone2, hKK]
          unfold fcone
          rw [if_neg h7]
        have H6 := St.open_ (L := ckL K _) H5
        refine H6.st 0 rfl (i := 1) (by simp) fun w6 H7 => ?_
        refine H7.st 0 rfl (i := 2) (by simp) fun w7 H8 => ?_
        have H9 := H8.conv 1 rfl (A' := sl 9 1 (.slice none 0 0) 0 []) (fun _ => Sl.nil _ _ _) (fun q hq => by cases hq)
        obtain ⟨S3, hS3⟩ : ∃ S3 : Ck, S3 = { S.aft (if hasN seen nm then .err ln 9 else .ok ()) with Ls := [], p := none, c := 0, n := 0 } := ⟨_, rfl⟩
        have H10 : St W emp.own w7 [ckA K S3] := by
          rw [hS3]
          exact St.shut (L := ckL K { S.aft (if hasN seen nm then .err ln 9 else .ok ()) with Ls := [], p := none, c := 0, n := 0 }) (L' := []) H9
        clear H9 H8 H7 H6 H5
        refine ⟨fun w => paE K W KK one w, ?_, ?_⟩
        · refine ⟨fun x w => paI K W ln ns KK one x w, fun x _ => ns.length - x.toNat, ⟨0, rfl, Nat.zero_le _, S3, H10, ?_⟩, ?_⟩
          · cases hd : hasN seen nm with
            | true =>
              rw [hd] at hS3 hw
              have e : S.aft (.err ln 9) = { S with line := ln, err := 9 } := by unfold Ck.aft; rw [if_pos h0]
              rw [if_pos rfl, e] at hS3
              rw [hS3]
              exact .inr ⟨by show (9 : Int) ≠ 0; decide, hw⟩
            | false =>
              rw [hd] at hS3 hw
              rw [show (if false = true then C.err ln 9 else C.ok ()) = C.ok () from rfl, aft_ok] at hS3
              rw [hS3]
              exact .inl ⟨h0, 0, rfl, Nat.zero_le _, by omega, hw⟩
          clear H10 hS3 S3
          rintro _ x3 w8 ⟨j3, rfl, hj3, S4, H11, hst⟩
          refine ⟨⟨by omega, by omega⟩, hat (hK.1 _ (hDA H11)) fun g5 o5 hc5 => ?_⟩
          rw [Int.toNat_natCast]
          refine ⟨_, _, _, hc5 5 _ rfl, ?_⟩
          refine Sx.split_of (fun h8 => ?_) (fun h8 => ?_)
          rotate_left
          · have h8 : j3 = ns.length := by have := of_decide_eq_false h8; omega
            refine ⟨S4, H11, hst.imp (fun ⟨a, n, b1, b2, b3, b4⟩ => ⟨a, n, b1, b2, b3, ?_⟩) id⟩
            rw [b4, h8, List.drop_length]
            rfl
          have h8 : j3 < ns.length := by have := of_decide_eq_true h8; omega
          refine ck_err H11 (Sx.split_of (fun h9 => ?_) (fun h9 => ?_))
          rotate_left
          · have h9 : S4.err ≠ 0 := beq_eq_false_iff_ne.1 h9
            exact ⟨S4, H11, hst.imp (fun ⟨a, b⟩ => absurd a h9) id⟩
          have h9 : S4.err = 0 := beq_iff_eq.1 h9
          rcases hst with ⟨-, n, b1, b2, b3, b4⟩ | ⟨a, -⟩
          rotate_left
          · exact absurd h9 a
          refine H11.dr fun w9 H12 => ?_
          refine ⟨⟨by omega, by omega⟩, hat (hK.1 _ (hDA H12)) fun g6 o6 hc6 => ⟨⟨by omega, by omega⟩, hat (hK.1 _ (hDA H12)) fun g7 o7 hc7 => ?_⟩⟩
          refine ⟨_, rfl, hc6, _, _, _, hc7 5 _ rfl, ⟨by omega, by omega⟩, ?_⟩
          refine sl_get (hsl2 _ (hDA H12)) (i := j3) (v := .string ns[j3]) (by simp [h8]) fun g8 o8 hc8 => ?_
          refine ⟨ns[j3], by rw [Nat.mul_one]; exact hc8, ?_⟩
          refine (rdeclare_any ns[j3] hK (by omega) (by omega) (H12.nth 0 rfl)).mono ?_
          rintro e w10 ⟨rfl, p', c', hp⟩
          have H13 := H12.upd 0 rfl hp
          refine ⟨rfl, ?_⟩
          rintro z rfl
          rw [inc64 (by omega)]
          rw [List.drop_eq_getElem_cons h8] at b4
          have b4 : one = ((fdecl (globF K.F) S4.Ls n ln ns[j3]).bind fun q => fpars (globF K.F) ln (ns.drop (j3 + 1)) q.1 q.2).bind KK := b4
          have hd := dcl_live (g := globF K.F) (ln := ln) (nm := ns[j3]) (p := p') (c := c') h9 b1
          refine ⟨⟨j3 + 1, rfl, by omega, S4.dcl (globF K.F) ln ns[j3] p' c', H13, ?_⟩, by show ns.length - ((j3 + 1 : Nat) : Int).toNat < ns.length - ((j3 : Nat) : Int).toNat; omega⟩
          cases hdd : fdecl (globF K.F) S4.Ls n ln ns[j3] with
          | err l e =>
            rw [hdd] at hd b4
            obtain ⟨a0, a1, a2, a3⟩ := hd
            exact .inr ⟨by rw [a2]; exact a0, by rw [a1, a2]; exact b4⟩
          | ok qq =>
            rw [hdd] at hd b4
            rw [hd]
            have hqq : qq.1.length ≤ qq.2 ∧ qq.2 ≤ 24 := by
              unfold fdecl at hdd
              split at hdd
              · cases hdd
              · split at hdd
                · cases hdd
                · cases hdd
                  exact ⟨by simp; omega, by show n + 1 ≤ 24; omega⟩
            exact .inl ⟨h9, qq.2, rfl, hqq.1, hqq.2, b4⟩
        · rintro _ w8 ⟨S4, H11, hst⟩
          refine ck_err H11 (Sx.split_of (fun h9 => ?_) (fun h9 => ?_))
          rotate_left
          · have h9 : S4.err ≠ 0 := beq_eq_false_iff_ne.1 h9
            refine fin1 H11 ?_
            rcases hst with ⟨a, -⟩ | h
            · exact absurd a h9
            · exact .inr h
          have h9 : S4.err = 0 := beq_iff_eq.1 h9
          rcases hst with ⟨-, n, b1, b2, b3, b4⟩ | ⟨a, -⟩
          rotate_left
          · exact absurd h9 a
          refine ⟨⟨by omega, by omega⟩, hat (hK.1 _ (hDA H11)) fun g6 o6 hc6 => ?_⟩
          cases ks with
          | nil => exact absurd rfl hk0
          | cons k5 s5 ln5 v5 kids5 ns5 rest5 =>
          have hr5 : rest5 = .nil := hk1
          subst hr5
          obtain ⟨q6, c6, us6, q7, c7, ws6, i1, -, -, i4, i5, iat⟩ := (Suf.start hV1).next
          refine ⟨_, _, _, hc6 4 _ rfl, ⟨by omega, by simp only [Fo.len]; omega⟩, ?_⟩
          refine iat (hsl1 _ (hDA H11)) fun g7 o7 hc7 => ?_
          refine ⟨_, rfl, by rw [Nat.zero_mul] at hc7; exact hc7, ?_⟩
          have hsz5 : kids5.sz ≤ 1000000 := by simp only [Fo.sz] at hksz; omega
          rw [fok] at hk2
          refine (rcstmt_all (kids5.sz + 1) kids5 (by omega) (by omega) hK h9 b1 b2 b3 hk2.1 hk2.2.1 hk2.2.2.1 i1 i4 (H11.nth 0 rfl)).mono ?_
          rintro e w9 ⟨rfl, hp⟩
          refine ⟨rfl, ?_⟩
          have b5 : one = ((fone (globF K.F) k5 s5 ln5 kids5 S4.Ls n).bind fun p => .ok p).bind fun _ => .ok () := by
            rw [b4, hKK]
            show (fst' (globF K.F) (.cons k5 s5 ln5 v5 kids5 ns5 .nil) S4.Ls n).bind _ = _
            rw [fst_one]
            cases fone (globF K.F) k5 s5 ln5 kids5 S4.Ls n with
            | ok p => show (fst' _ .nil p.1 p.2).bind _ = _; rw [fst_nil]; rfl
            | err l e => rfl
          cases hfo : fone (globF K.F) k5 s5 ln5 kids5 S4.Ls n with
          | err l e =>
            rw [hfo] at hp b5
            obtain ⟨a0, S', a1, a2, a3, hp⟩ := hp
            exact fin1 (H11.upd 0 rfl hp) (.inr ⟨by rw [a2]; exact a0, by rw [a1, a2]; exact b5⟩)
          | ok p =>
            rw [hfo] at hp b5
            obtain ⟨p', c', hp⟩ := hp
            exact fin1 (H11.upd 0 rfl hp) (.inl ⟨h9, b5⟩)
  · rintro _ w4 ⟨S, H4, hst⟩
    refine ck_err H4 (Sx.split_of (fun h0 => ?_) (fun h0 => ?_))
    · have h0 : S.err ≠ 0 := fun e => by rw [e] at h0; cases h0
      rcases hst with ⟨a, -⟩ | ⟨-, b⟩
      · exact absurd a h0
      have H5 := St.open_ (L := ckL K S) (L' := []) H4
      refine ⟨_, H5.ld 0 rfl (i := 3) rfl, _, H5.ld 0 rfl (i := 4) rfl, ?_⟩
      refine H4.drN fun w6 H6 => ?_
      refine herr H6 ?_ h0
      unfold fcheck
      rw [← hfull, b]; rfl
    · have h0 : S.err = 0 := bne_eq_false_iff_eq.1 h0
      rcases hst with ⟨-, b⟩ | ⟨a, -⟩
      rotate_left
      · exact absurd h0 a
      have hfc : fcheck K.F = match globF K.F cMain with
        | some (k, _, np) => if k ≠ cFunc then .err 0 9 else if 0 < np then .err 0 9 else .ok ()
        | none => .err 0 9 := by
        unfold fcheck
        rw [← hfull, b]; rfl
      refine (rglobal_any cMain hK (H4.nth 0 rfl)).mono ?_
      rintro e w5 ⟨hh, hg⟩
      have H5 := H4.quiet hh
      cases hgl : globF K.F cMain with
      | none =>
        rw [hgl] at hg hfc
        subst hg
        refine ⟨_, _, rfl, ?_⟩
        refine H5.al fun k2 w6 H6 => ?_
        refine H6.sts0 1 (n := 6) (vs := nodeZ.toArray) rfl rfl rfl nodeZ_one fun w7 H7 => ?_
        exact Sx.split_of (fun _ => herr (H7.pick [0]) hfc (by decide)) (fun h => by cases h)
      | some x =>
        obtain ⟨k', v', m'⟩ := x
        rw [hgl] at hg hfc
        obtain ⟨nm, ln', q', mm, c', q2', c2', rfl⟩ := hg
        refine ⟨_, _, rfl, ?_⟩
        refine H5.al fun k2 w6 H6 => ?_
        refine H6.sts0 1 (n := 6) (vs := (nodeC k' nm ln' v' (.slice q' mm c') (.slice q2' m' c2')).toArray) rfl rfl rfl nodeC_one fun w7 H7 => ?_
        refine Sx.split_of (fun h => by cases h) (fun _ => ?_)
        refine ⟨_, H7.ld 1 rfl (i := 0) rfl, ?_⟩
        rw [toList_eq]
        by_cases hk : k' = cFunc
        · refine Sx.split_of (fun h => by rw [decide_eq_true (show k' = ⟨#[102, 117, 110, 99]⟩ from hk)] at h; cases h) (fun _ => ?_)
          simp only [hk, ne_eq, not_true_eq_false, if_false] at hfc
          refine ⟨_, _, _, H7.ld 1 rfl (i := 5) rfl, Sx.split_of (fun h => ?_) (fun h => ?_)⟩
          · have h : 0 < m' := by have := of_decide_eq_true h; omega
            rw [if_pos h] at hfc
            exact herr (H7.pick [0]) hfc (by decide)
          · have h : ¬ 0 < m' := by have := of_decide_eq_false h; omega
            rw [if_neg h] at hfc
            exact hpost (H7.pick [0]) hfc
        · refine Sx.split_of (fun _ => ?_) (fun h => by rw [decide_eq_false (show ¬ k' = ⟨#[102, 117, 110, 99]⟩ from hk)] at h; cases h)
          simp only [ne_eq, hk, not_false_eq_true, if_true] at hfc
          exact herr (H7.pick [0]) hfc (by decide)
end Go.Proofs.YtojogkljneonmaaGreatDoor
/- Told: the number of an error. -/
namespace Go.Proofs.YtojogkljneonmaaGreatDoor.told
open Go.RowKit Go.XHeap
set_option linter.unusedVariables false

theorem f22_ptr (p : Addr) (w : World) : (callFunc 35 #[.iface 60 (.pointer (some p))]).run Tryz.prog w = .ok (.value (.agg #[.pointer (some ⟨7, 60, none⟩), .pointer (some ⟨w.heap.size, 0, none⟩), .int .u64 150])) (w.alloc (.cells #[.pointer (some p)] 60)) := by kernel_rfl
theorem f22_int (n : Int) (w : World) : (callFunc 35 #[.iface 29 (.int .i64 n)]).run Tryz.prog w = .ok (.value (.agg #[.pointer (some ⟨7, 29, none⟩), .pointer (some ⟨w.heap.size, 0, none⟩), .int .u64 130])) (w.alloc (.cells #[.int .i64 n] 29)) := by kernel_rfl
theorem f23_ptr (a : Addr) (w : World) : (callFunc 36 #[.agg #[.pointer (some ⟨7, 60, none⟩), .pointer (some a), .int .u64 150]]).run Tryz.prog w = .ok (.value (.iface 147 (.agg #[.pointer (some ⟨7, 60, none⟩)]))) w := by kernel_rfl
theorem f28_int (n : Int) (w : World) : (callFunc 67 #[.iface 29 (.int .i64 n)]).run Tryz.prog w = .ok (.value (.iface 147 (.agg #[.pointer (some ⟨7, 29, none⟩)]))) w := by kernel_rfl
theorem meth_def (z : Sem Value) (f : TypeId → Addr → Nat → Nat → Sem Value) (v : Value) : Extern.ReflectliteValue.method z f #[v] = (do match ← Extern.ReflectliteValue.parts v with | none => z | some (t, a, fl) => f t a fl (fl % 32)) := rfl
theorem parts57 (a : Addr) (w : World) : (Extern.ReflectliteValue.parts (.agg #[.pointer (some ⟨7, 60, none⟩), .pointer (some a), .int .u64 150])).run Tryz.prog w = .ok (some (60, a, 150)) w := by kernel_rfl
theorem elem57 (w : World) : (Extern.Rtype.elem? 60).run Tryz.prog w = .ok (some 29) w := by kernel_rfl
theorem mk31 (p : Addr) (w : World) : (Extern.ReflectliteValue.mk 29 p 256).run Tryz.prog w = .ok (.agg #[.pointer (some ⟨7, 29, none⟩), .pointer (some p), .int .u64 386]) w := by kernel_rfl
theorem load57 (a p : Addr) (w : World) (h : w.cell? a = some (.pointer (some p))) : (loadVar 60 a).run Tryz.prog w = .ok (.pointer (some p)) w := by
  simp [loadVar, isAgg, underlying, Tryz.underlying60, h, Result.andThen]
theorem load31 (a : Addr) (n : Int) (w : World) (h : w.cell? a = some (.int .i64 n)) : (loadVar 29 a).run Tryz.prog w = .ok (.int .i64 n) w := by
  simp [loadVar, isAgg, underlying, Tryz.underlying29, h, Result.andThen]
theorem f24_ptr (a p : Addr) (w : World) (h : w.cell? a = some (.pointer (some p))) : (callFunc 37 #[.agg #[.pointer (some ⟨7, 60, none⟩), .pointer (some a), .int .u64 150]]).run Tryz.prog w = .ok (.value (.bool false)) w := by
  rw [run_callFunc_extern Tryz.func37 (by kernel_rfl) (by kernel_rfl) (by kernel_rfl) (e := Extern.ReflectliteValue.method (Extern.ReflectliteValue.valueError "reflectlite.Value.IsNil" 0) Extern.ReflectliteValue.isNil) (by kernel_rfl), meth_def]
  simp only [Sem.run_bind, parts57, Result.andThen]
  simp [Extern.ReflectliteValue.isNil, load57 a p w h, Result.andThen]
theorem f29_ptr (a p : Addr) (w : World) (h : w.cell? a = some (.pointer (some p))) : (callFunc 68 #[.agg #[.pointer (some ⟨7, 60, none⟩), .pointer (some a), .int .u64 150]]).run Tryz.prog w = .ok (.value (.agg #[.pointer (some ⟨7, 29, none⟩), .pointer (some p), .int .u64 386])) w := by
  rw [run_callFunc_extern Tryz.func68 (by kernel_rfl) (by kernel_rfl) (by kernel_rfl) (e := Extern.ReflectliteValue.method (Extern.ReflectliteValue.valueError "reflectlite.Value.Elem" 0) Extern.ReflectliteValue.elem) (by kernel_rfl), meth_def]
  simp only [Sem.run_bind, parts57, Result.andThen]
  simp [Extern.ReflectliteValue.elem, load57 a p w h, elem57, mk31, Extern.ReflectliteValue.flagAddr, Result.andThen]
end Go.Proofs.YtojogkljneonmaaGreatDoor.told
/- Told: the number of an error. -/
namespace Go.Proofs.YtojogkljneonmaaGreatDoor.told
open Go.RowKit Go.XHeap
set_option linter.unusedVariables false

theorem set31 (p b : Addr) (w : World) : (Extern.ReflectliteValue.set #[.agg #[.pointer (some ⟨7, 29, none⟩), .pointer (some p), .int .u64 386], .agg #[.pointer (some ⟨7, 29, none⟩), .pointer (some b), .int .u64 130]]).run Tryz.prog w = (do let v ← loadVar 29 b; storeVar 29 p v; pure (.tuple #[]) : Sem Value).run Tryz.prog w := by kernel_rfl
theorem store31 (p : Addr) (n m : Int) (w : World) (hp : w.cell? p = some (.int .i64 m)) (hz : w.frozen? p = false) : (storeVar 29 p (.int .i64 n)).run Tryz.prog w = .ok () (w.setCell p (.int .i64 n)) := by
  simp [storeVar, hp, hz, go_sem, Result.andThen]
theorem f30_int (p b : Addr) (n m : Int) (w : World) (hb : w.cell? b = some (.int .i64 n)) (hp : w.cell? p = some (.int .i64 m)) (hz : w.frozen? p = false) :
    (callFunc 69 #[.agg #[.pointer (some ⟨7, 29, none⟩), .pointer (some p), .int .u64 386], .agg #[.pointer (some ⟨7, 29, none⟩), .pointer (some b), .int .u64 130]]).run Tryz.prog w = .ok (.value (.tuple #[])) (w.setCell p (.int .i64 n)) := by
  rw [run_callFunc_extern Tryz.func69 (by kernel_rfl) (by kernel_rfl) (by kernel_rfl) (e := Extern.ReflectliteValue.set) (by kernel_rfl)]
  rw [set31]
  simp only [Sem.run_bind, load31 b n w hb, store31 p n m w hp hz, Result.andThen]
  rfl
theorem mKind57 (w : World) : (method 408 147 (.agg #[.pointer (some ⟨7, 60, none⟩)]) "Kind").run Tryz.prog w = .ok (202, .pointer (some ⟨7, 60, none⟩)) w := by kernel_rfl
theorem mKind31 (w : World) : (method 408 147 (.agg #[.pointer (some ⟨7, 29, none⟩)]) "Kind").run Tryz.prog w = .ok (202, .pointer (some ⟨7, 29, none⟩)) w := by kernel_rfl
theorem mElem57 (w : World) : (method 408 147 (.agg #[.pointer (some ⟨7, 60, none⟩)]) "Elem").run Tryz.prog w = .ok (215, .agg #[.pointer (some ⟨7, 60, none⟩)]) w := by kernel_rfl
theorem mImpl31 (w : World) : (method 408 147 (.agg #[.pointer (some ⟨7, 29, none⟩)]) "Implements").run Tryz.prog w = .ok (216, .agg #[.pointer (some ⟨7, 29, none⟩)]) w := by kernel_rfl
theorem mAssign31 (w : World) : (method 408 147 (.agg #[.pointer (some ⟨7, 29, none⟩)]) "AssignableTo").run Tryz.prog w = .ok (213, .agg #[.pointer (some ⟨7, 29, none⟩)]) w := by kernel_rfl
theorem cKind57 (w : World) : (callFunc 202 #[.pointer (some ⟨7, 60, none⟩)]).run Tryz.prog w = .ok (.value (.int .u8 22)) w := by kernel_rfl
theorem cKind31 (w : World) : (callFunc 202 #[.pointer (some ⟨7, 29, none⟩)]).run Tryz.prog w = .ok (.value (.int .u8 2)) w := by kernel_rfl
theorem cElem57 (w : World) : (callFunc 215 #[.agg #[.pointer (some ⟨7, 60, none⟩)]]).run Tryz.prog w = .ok (.value (.iface 147 (.agg #[.pointer (some ⟨7, 29, none⟩)]))) w := by kernel_rfl
theorem cImpl31 (w : World) : (callFunc 216 #[.agg #[.pointer (some ⟨7, 29, none⟩)], .iface 147 (.agg #[.pointer (some ⟨7, 23, none⟩)])]).run Tryz.prog w = .ok (.value (.bool true)) w := by kernel_rfl
theorem cAssign31 (w : World) : (callFunc 213 #[.agg #[.pointer (some ⟨7, 29, none⟩)], .iface 147 (.agg #[.pointer (some ⟨7, 29, none⟩)])]).run Tryz.prog w = .ok (.value (.bool true)) w := by kernel_rfl
end Go.Proofs.YtojogkljneonmaaGreatDoor.told
/- Told, part C: errors.As at a number's error, walked. -/
namespace Go.Proofs.YtojogkljneonmaaGreatDoor.told
open Go.RowKit Go.XHeap
set_option linter.unusedVariables false

theorem grown_cell {a b : World} (h : Grown a b) {g o : Nat} {v : Value} (hc : a.cell? ⟨g, o, none⟩ = some v) : b.cell? ⟨g, o, none⟩ = some v :=
  (h.1.cell (World.block_lt_of_cell? _ _ hc) (fun f => f)).trans hc
def setAt (g : Nat) (n : Int) (w : World) (e : Ending) (w' : World) : Prop := e = .returned (.bool true) ∧ XTouch (fun k => k = g) w w' ∧ w'.cell? ⟨g, 0, none⟩ = some (.int .i64 n)
set_option maxRecDepth 100000 in
set_option maxHeartbeats 1000000 in
theorem as25 (n m : Int) (g a : Nat) (w : World) (ha : w.cell? ⟨a, 0, none⟩ = some (.pointer (some ⟨g, 0, none⟩))) (hp : w.cell? ⟨g, 0, none⟩ = some (.int .i64 m)) (hz : w.frozen? ⟨g, 0, none⟩ = false) :
    Calls Tryz.prog 38 #[.iface 29 (.int .i64 n), .iface 60 (.pointer (some ⟨g, 0, none⟩)), .agg #[.pointer (some ⟨7, 60, none⟩), .pointer (some ⟨a, 0, none⟩), .int .u64 150], .iface 147 (.agg #[.pointer (some ⟨7, 29, none⟩)])] w (setAt g n w) := by
  have g0 := World.block_lt_of_cell? _ _ ha
  have g1 := World.block_lt_of_cell? _ _ hp
  have F22i := f22_int n
  have F28 := f28_int n
  have M1 := mAssign31
  have C1 := cAssign31
  have F29 := fun a => f29_ptr a ⟨g, 0, none⟩
  have hG := ((Grown.refl w).alloc #[.pointer (some ⟨7, 60, none⟩), .pointer (some ⟨a, 0, none⟩), .int .u64 150] 102).alloc #[.int .i64 n] 29
  have hb : ((w.alloc (.cells #[.pointer (some ⟨7, 60, none⟩), .pointer (some ⟨a, 0, none⟩), .int .u64 150] 102)).alloc (.cells #[.int .i64 n] 29)).cell? ⟨w.heap.size + 1, 0, none⟩ = some (.int .i64 n) := by
    have := World.cell?_alloc_new (w.alloc (.cells #[.pointer (some ⟨7, 60, none⟩), .pointer (some ⟨a, 0, none⟩), .int .u64 150] 102)) #[.int .i64 n] 29 0
    simp at this ⊢
  have F30 := f30_int ⟨g, 0, none⟩ ⟨w.heap.size + 1, 0, none⟩ n m _ hb (grown_cell hG hp) ((hG.2.1 _).trans hz)
  have hk : (w.setCell ⟨g, 0, none⟩ (.int .i64 n)).cell? ⟨g, 0, none⟩ = some (.int .i64 n) := by first | exact World.cell?_setCell_same _ _ _ hp | exact World.cell?_setCell_same _ _ hp
  have HK := Lib.hid (grown_cell (((Grown.refl (w.setCell ⟨g, 0, none⟩ (.int .i64 n))).alloc #[.pointer (some ⟨7, 60, none⟩), .pointer (some ⟨a, 0, none⟩), .int .u64 150] 102).alloc #[.int .i64 n] 29) hk)
  clear hG hb hk
  go_enter Tryz.func38, Tryz.ntmps38
  go_wp2_with fail
  refine wp_loop_rounds 1 ?_
  rw [rounds_succ]
  go_wp2_with fail
  go_ret
  exact ⟨rfl, (((XTouch.refl (fun k => k = g) w).setCell (p := ⟨g, 0, none⟩) (.inl rfl) _).alloc _).alloc _, HK.out⟩
set_option maxRecDepth 100000 in
set_option maxHeartbeats 1000000 in
theorem as16 (n m : Int) (g : Nat) (w : World) (hp : w.cell? ⟨g, 0, none⟩ = some (.int .i64 m)) (hz : w.frozen? ⟨g, 0, none⟩ = false) (hE : w.cell? ⟨0, 0, none⟩ = some (.iface 147 (.agg #[.pointer (some ⟨7, 23, none⟩)]))) :
    Calls Tryz.prog 19 #[.iface 29 (.int .i64 n), .iface 60 (.pointer (some ⟨g, 0, none⟩))] w (setAt g n w) := by
  have g0 := World.block_lt_of_cell? _ _ hE
  have g1 := World.block_lt_of_cell? _ _ hp
  have F22 := f22_ptr ⟨g, 0, none⟩
  have F23 := f23_ptr
  have F24 := fun a => f24_ptr a ⟨g, 0, none⟩
  have M1 := mKind57; have M2 := mKind31; have M3 := mElem57; have M4 := mImpl31
  have C1 := cKind57; have C2 := cKind31; have C3 := cElem57; have C4 := cImpl31
  have hG := ((Grown.refl w).alloc #[.pointer (some ⟨g, 0, none⟩)] 60).alloc #[.pointer (some ⟨7, 60, none⟩), .pointer (some ⟨w.heap.size, 0, none⟩), .int .u64 150] 102
  have hA : ((w.alloc (.cells #[.pointer (some ⟨g, 0, none⟩)] 60)).alloc (.cells #[.pointer (some ⟨7, 60, none⟩), .pointer (some ⟨w.heap.size, 0, none⟩), .int .u64 150] 102)).cell? ⟨w.heap.size, 0, none⟩ = some (.pointer (some ⟨g, 0, none⟩)) :=
    grown_cell ((Grown.refl (w.alloc (.cells #[.pointer (some ⟨g, 0, none⟩)] 60))).alloc _ _) (World.cell?_alloc_new w #[.pointer (some ⟨g, 0, none⟩)] 60 0)
  have HC := Lib.hid (as25 n m g w.heap.size _ hA (grown_cell hG hp) ((hG.2.1 _).trans hz))
  have HG := Lib.hid hG
  clear hG hA
  go_enter Tryz.func19, Tryz.ntmps19
  go_wp2_with fail
  refine (HC.out).mono ?_
  rintro e w' ⟨rfl, ht, hc⟩
  have HT := Lib.hid ((((XTouch.refl (fun k => k = g) w).alloc (.cells #[.pointer (some ⟨g, 0, none⟩)] 60)).alloc (.cells #[.pointer (some ⟨7, 60, none⟩), .pointer (some ⟨w.heap.size, 0, none⟩), .int .u64 150] 102)).trans ht (fun k _ h => h))
  have HC2 := Lib.hid hc
  clear ht hc
  go_wp2
  go_ret
  exact ⟨rfl, HT.out, HC2.out⟩
/-- an error of the program's, told: its number -/
theorem told_err (n : Int) (w : World) (hE : w.cell? ⟨0, 0, none⟩ = some (.iface 147 (.agg #[.pointer (some ⟨7, 23, none⟩)]))) : Calls Tryz.prog 8 #[.iface 29 (.int .i64 n)] w fun e w' => e = .returned (.int .i64 n) ∧ XTouch (fun _ => False) w w' := by
  have hG := (Grown.refl w).alloc #[.int .i64 0] 29
  have HC := Lib.hid (as16 n 0 w.heap.size _ (World.cell?_alloc_new w #[.int .i64 0] 29 0) (World.frozen?_alloc_new _ _ _ _) (grown_cell hG hE))
  have HG := Lib.hid hG
  clear hG
  go_enter Tryz.func8, Tryz.ntmps8
  go_wp2_with fail
  refine (HC.out).mono ?_
  rintro e w' ⟨rfl, ht, k0⟩
  have HT : Hid (XTouch (fun _ => False) w w') := Lib.hid (by
    have h := ((XTouch.refl (fun k => k = w.heap.size) w).alloc (.cells #[.int .i64 0] 29)).trans ht (fun k _ h => h)
    exact h.mono (fun k hk e => by omega))
  clear ht
  go_wp2
  go_ret
  exact ⟨rfl, HT.out⟩
theorem told_nil (w : World) : Calls Tryz.prog 8 #[.nilIface] w fun e w' => e = .returned (.int .i64 0) ∧ w = w' := by
  go_enter Tryz.func8, Tryz.ntmps8
  go_wp2
  go_ret
  exact ⟨rfl, rfl⟩
end Go.Proofs.YtojogkljneonmaaGreatDoor.told
/- Told at a fault of the language: a round more. -/
namespace Go.Proofs.YtojogkljneonmaaGreatDoor.told
open Go.RowKit Go.XHeap
set_option linter.unusedVariables false
theorem f28_fault (p : Addr) (w : World) : (callFunc 67 #[.iface 77 (.pointer (some p))]).run Tryz.prog w = .ok (.value (.iface 147 (.agg #[.pointer (some ⟨7, 77, none⟩)]))) w := by kernel_rfl
theorem mAssign77 (w : World) : (method 408 147 (.agg #[.pointer (some ⟨7, 77, none⟩)]) "AssignableTo").run Tryz.prog w = .ok (213, .agg #[.pointer (some ⟨7, 77, none⟩)]) w := by kernel_rfl
theorem cAssign77 (w : World) : (callFunc 213 #[.agg #[.pointer (some ⟨7, 77, none⟩)], .iface 147 (.agg #[.pointer (some ⟨7, 29, none⟩)])]).run Tryz.prog w = .ok (.value (.bool false)) w := by kernel_rfl
theorem mUnwrap (p : Addr) (w : World) : (method 408 77 (.pointer (some p)) "Unwrap").run Tryz.prog w = .ok (207, .pointer (some p)) w := by kernel_rfl
theorem asAs (f : Nat) (w : World) : (Instr.typeAssert (.iface 77 (.pointer (some ⟨f, 0, none⟩))) 23 152 true).run Tryz.prog w = .ok (.tuple #[.nilIface, .bool false]) w := by
  have hu : ∃ want, Tryz.prog.underlying 152 = some (.interface want) ∧ (Tryz.prog.info? 77).map (fun i => (Go.lacking want i.methods).isEmpty) = some false := by
    refine ⟨#[("As", 154)], ?_, ?_⟩ <;> kernel_rfl
  obtain ⟨want, h1, h2⟩ := hu
  exact run_typeAssert_lacksB h1 h2 (by kernel_rfl) _ _ _
theorem asUn (f : Nat) (w : World) : (Instr.typeAssert (.iface 77 (.pointer (some ⟨f, 0, none⟩))) 23 155 true).run Tryz.prog w = .ok (.tuple #[.iface 77 (.pointer (some ⟨f, 0, none⟩)), .bool true]) w := by kernel_rfl
theorem unwrap_any (f : Nat) (en : Int) (w : World) (hf : w.cell? ⟨f, 1, none⟩ = some (.int .i64 en)) : Calls Tryz.prog 207 #[.pointer (some ⟨f, 0, none⟩)] w fun e w' => e = .returned (.iface 29 (.int .i64 en)) ∧ w' = w := by
  go_enter Tryz.func207, Tryz.ntmps207
  go_wp2
  go_ret
  exact ⟨rfl, rfl⟩
set_option maxRecDepth 100000 in
set_option maxHeartbeats 1000000 in
theorem as25f (n m : Int) (g a f : Nat) (w : World) (hf : w.cell? ⟨f, 1, none⟩ = some (.int .i64 n)) (ha : w.cell? ⟨a, 0, none⟩ = some (.pointer (some ⟨g, 0, none⟩))) (hp : w.cell? ⟨g, 0, none⟩ = some (.int .i64 m)) (hz : w.frozen? ⟨g, 0, none⟩ = false) :
    Calls Tryz.prog 38 #[.iface 77 (.pointer (some ⟨f, 0, none⟩)), .iface 60 (.pointer (some ⟨g, 0, none⟩)), .agg #[.pointer (some ⟨7, 60, none⟩), .pointer (some ⟨a, 0, none⟩), .int .u64 150], .iface 147 (.agg #[.pointer (some ⟨7, 29, none⟩)])] w (setAt g n w) := by
  have g0 := World.block_lt_of_cell? _ _ ha
  have g1 := World.block_lt_of_cell? _ _ hp
  have F22i := f22_int n
  have F28f := f28_fault ⟨f, 0, none⟩
  have M2 := mAssign77
  have C2 := cAssign77
  have M3 := mUnwrap ⟨f, 0, none⟩
  have T1 := asAs f
  have T2 := asUn f
  have HU := Lib.hid (unwrap_any f n (w.alloc (.cells #[.pointer (some ⟨7, 60, none⟩), .pointer (some ⟨a, 0, none⟩), .int .u64 150] 102)) (grown_cell ((Grown.refl w).alloc #[.pointer (some ⟨7, 60, none⟩), .pointer (some ⟨a, 0, none⟩), .int .u64 150] 102) hf))
  have F28 := f28_int n
  have M1 := mAssign31
  have C1 := cAssign31
  have F29 := fun a => f29_ptr a ⟨g, 0, none⟩
  have hG := ((Grown.refl w).alloc #[.pointer (some ⟨7, 60, none⟩), .pointer (some ⟨a, 0, none⟩), .int .u64 150] 102).alloc #[.int .i64 n] 29
  have hb : ((w.alloc (.cells #[.pointer (some ⟨7, 60, none⟩), .pointer (some ⟨a, 0, none⟩), .int .u64 150] 102)).alloc (.cells #[.int .i64 n] 29)).cell? ⟨w.heap.size + 1, 0, none⟩ = some (.int .i64 n) := by
    have := World.cell?_alloc_new (w.alloc (.cells #[.pointer (some ⟨7, 60, none⟩), .pointer (some ⟨a, 0, none⟩), .int .u64 150] 102)) #[.int .i64 n] 29 0
    simp at this ⊢
  have F30 := f30_int ⟨g, 0, none⟩ ⟨w.heap.size + 1, 0, none⟩ n m _ hb (grown_cell hG hp) ((hG.2.1 _).trans hz)
  have hk : (w.setCell ⟨g, 0, none⟩ (.int .i64 n)).cell? ⟨g, 0, none⟩ = some (.int .i64 n) := by first | exact World.cell?_setCell_same _ _ _ hp | exact World.cell?_setCell_same _ _ hp
  have HK := Lib.hid (grown_cell (((Grown.refl (w.setCell ⟨g, 0, none⟩ (.int .i64 n))).alloc #[.pointer (some ⟨7, 60, none⟩), .pointer (some ⟨a, 0, none⟩), .int .u64 150] 102).alloc #[.int .i64 n] 29) hk)
  clear hG hb hk
  go_enter Tryz.func38, Tryz.ntmps38
  go_wp2_with fail
  refine wp_loop_rounds 2 ?_
  rw [rounds_succ]
  go_wp2_with fail
  refine (HU.out).mono ?_
  rintro e w' ⟨rfl, rfl⟩
  go_wp2_with fail
  rw [rounds_succ]
  go_wp2_with fail
  go_ret
  exact ⟨rfl, (((XTouch.refl (fun k => k = g) w).setCell (p := ⟨g, 0, none⟩) (.inl rfl) _).alloc _).alloc _, HK.out⟩
set_option maxRecDepth 100000 in
set_option maxHeartbeats 1000000 in
theorem as16f (n m : Int) (g f : Nat) (w : World) (hf : w.cell? ⟨f, 1, none⟩ = some (.int .i64 n)) (hp : w.cell? ⟨g, 0, none⟩ = some (.int .i64 m)) (hz : w.frozen? ⟨g, 0, none⟩ = false) (hE : w.cell? ⟨0, 0, none⟩ = some (.iface 147 (.agg #[.pointer (some ⟨7, 23, none⟩)]))) :
    Calls Tryz.prog 19 #[.iface 77 (.pointer (some ⟨f, 0, none⟩)), .iface 60 (.pointer (some ⟨g, 0, none⟩))] w (setAt g n w) := by
  have g0 := World.block_lt_of_cell? _ _ hE
  have g1 := World.block_lt_of_cell? _ _ hp
  have F22 := f22_ptr ⟨g, 0, none⟩
  have F23 := f23_ptr
  have F24 := fun a => f24_ptr a ⟨g, 0, none⟩
  have M1 := mKind57; have M2 := mKind31; have M3 := mElem57; have M4 := mImpl31
  have C1 := cKind57; have C2 := cKind31; have C3 := cElem57; have C4 := cImpl31
  have hG := ((Grown.refl w).alloc #[.pointer (some ⟨g, 0, none⟩)] 60).alloc #[.pointer (some ⟨7, 60, none⟩), .pointer (some ⟨w.heap.size, 0, none⟩), .int .u64 150] 102
  have hA : ((w.alloc (.cells #[.pointer (some ⟨g, 0, none⟩)] 60)).alloc (.cells #[.pointer (some ⟨7, 60, none⟩), .pointer (some ⟨w.heap.size, 0, none⟩), .int .u64 150] 102)).cell? ⟨w.heap.size, 0, none⟩ = some (.pointer (some ⟨g, 0, none⟩)) :=
    grown_cell ((Grown.refl (w.alloc (.cells #[.pointer (some ⟨g, 0, none⟩)] 60))).alloc _ _) (World.cell?_alloc_new w #[.pointer (some ⟨g, 0, none⟩)] 60 0)
  have HC := Lib.hid (as25f n m g w.heap.size f _ (grown_cell hG hf) hA (grown_cell hG hp) ((hG.2.1 _).trans hz))
  have HG := Lib.hid hG
  clear hG hA
  go_enter Tryz.func19, Tryz.ntmps19
  go_wp2_with fail
  refine (HC.out).mono ?_
  rintro e w' ⟨rfl, ht, hc⟩
  have HT := Lib.hid ((((XTouch.refl (fun k => k = g) w).alloc (.cells #[.pointer (some ⟨g, 0, none⟩)] 60)).alloc (.cells #[.pointer (some ⟨7, 60, none⟩), .pointer (some ⟨w.heap.size, 0, none⟩), .int .u64 150] 102)).trans ht (fun k _ h => h))
  have HC2 := Lib.hid hc
  clear ht hc
  go_wp2
  go_ret
  exact ⟨rfl, HT.out, HC2.out⟩
/-- a fault of a text, told -/
theorem told_fault (n : Int) (f : Nat) (w : World) (hf : w.cell? ⟨f, 1, none⟩ = some (.int .i64 n)) (hE : w.cell? ⟨0, 0, none⟩ = some (.iface 147 (.agg #[.pointer (some ⟨7, 23, none⟩)]))) : Calls Tryz.prog 8 #[.iface 77 (.pointer (some ⟨f, 0, none⟩))] w fun e w' => e = .returned (.int .i64 n) ∧ XTouch (fun _ => False) w w' := by
  have hG := (Grown.refl w).alloc #[.int .i64 0] 29
  have HC := Lib.hid (as16f n 0 w.heap.size f _ (grown_cell hG hf) (World.cell?_alloc_new w #[.int .i64 0] 29 0) (World.frozen?_alloc_new _ _ _ _) (grown_cell hG hE))
  have HG := Lib.hid hG
  clear hG
  go_enter Tryz.func8, Tryz.ntmps8
  go_wp2_with fail
  refine (HC.out).mono ?_
  rintro e w' ⟨rfl, ht, k0⟩
  have HT : Hid (XTouch (fun _ => False) w w') := Lib.hid (by
    have h := ((XTouch.refl (fun k => k = w.heap.size) w).alloc (.cells #[.int .i64 0] 29)).trans ht (fun k _ h => h)
    exact h.mono (fun k hk e => by omega))
  clear ht
  go_wp2
  go_ret
  exact ⟨rfl, HT.out⟩
end Go.Proofs.YtojogkljneonmaaGreatDoor.told
