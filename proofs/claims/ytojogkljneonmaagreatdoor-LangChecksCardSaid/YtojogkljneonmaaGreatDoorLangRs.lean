import Derived.Test.YtojogkljneonmaaGreatDoorLangRo
/- The reference's parser: alive or behind an error, in one; statements. No condition. -/
namespace Go.Proofs.YtojogkljneonmaaGreatDoor
open Go Go.Proofs Go.Sep Go.XHeap Go.RowKit Go.Lang
set_option linter.unusedVariables false
set_option linter.unusedSimpArgs false
variable {W w0 w : World} {M : Nat → Prop} {L : List Asn} {R : Rx} {l : List Tok} {n : Nat} {line en : Int}
/-! ### behind an error -/
theorem rexpr_dead [Inhabited G3o] (h : (rdA R line en).at_ W) : Calls Tryz.prog 119 #[pt R.b] W fun e w' => ∃ us, e = .returned (.agg us.toArray) ∧ ones us ∧ Post (rdA R line en) W (rdA R line en) w' := by
  refine vc119 R.b 0 ?_
  refine (St.begin h).al fun k w2 H2 => ?_
  refine H2.call 0 rfl (rd_deeper (H2.nth 0 rfl)) fun w3 H3 => ?_
  refine ⟨_, rfl, Sx.split_of (fun _ => ?_) (fun h => by cases h)⟩
  rintro vs rfl
  exact ret_node H3 (k := 1) (us := nodeZ) rfl rfl rfl nodeZ_one fun w8 H8 => ⟨nodeZ, rfl, ones_Z, H8.post 0 rfl⟩
theorem rblock_dead [Inhabited G3o] (h : (rdA R line en).at_ W) : Calls Tryz.prog 65 #[pt R.b] W fun e w' => ∃ us, e = .returned (.agg us.toArray) ∧ ones us ∧ Post (rdA R line en) W (rdA R line en) w' := by
  refine vc65 R.b 0 ?_
  refine (St.begin h).al fun k w2 H2 => ?_
  refine H2.dr fun w3 H3 => ?_
  refine rd_line H3 fun x => ?_
  rintro vs rfl
  refine H3.alb fun k6 w4 H4 _ hb => ⟨hb, ?_⟩
  refine H4.sts0 2 (n := 6) (vs := (nodeC cBlockK ⟨#[]⟩ x 0 (.slice none 0 0) (.slice none 0 0)).toArray) rfl rfl rfl nodeC_one fun w5 H5 => ?_
  refine H5.call 0 rfl (rd_deeper (H5.nth 0 rfl)) fun w6 H6 => ?_
  refine ⟨_, rfl, Sx.split_of (fun _ => ?_) (fun h => by cases h)⟩
  refine cells_node H6 (k := 2) (us := nodeC cBlockK ⟨#[]⟩ x 0 (.slice none 0 0) (.slice none 0 0)) rfl rfl ?_
  exact ret_node H6 (k := 1) (us := nodeC cBlockK ⟨#[]⟩ x 0 (.slice none 0 0) (.slice none 0 0)) rfl rfl rfl nodeC_one fun w8 H8 => ⟨_, rfl, ones_C, H8.post 0 rfl⟩
/-! ### the parser's piece: alive, with something to do; or behind the error that the whole comes to -/
def ZS [Inhabited G3o] {α : Type} (R : Rx) (n : Nat) (R0 : Lang.R α) (P : List Tok → Prop) (Z : Asn) : Prop := (∃ l, P l ∧ Z = rlA R l n) ∨ (∃ line en, R0 = .err line en ∧ Z = rdA R line en)
section
variable {α : Type} {R0 : Lang.R α} {Z A0 : Asn} {Q : Ending → World → Prop}
theorem zs_want [Inhabited G3o] {s : ByteArray} {P P' : List Tok → Prop} (H : St W A0.own w (Z :: L)) (hZ : ZS R n R0 P Z) (hP : ∀ l, P l → ∃ kk : List Tok → Lang.R α, R0 = want s l kk ∧ (is s l = true → R0 = kk l.tail → P' l.tail))
    (hq : ∀ Z' w', ZS R n R0 P' Z' → St W A0.own w' (Z' :: L) → Q (.returned (.tuple #[])) w') : Calls Tryz.prog 64 #[pt R.b, .string s] w Q := by
  rcases hZ with ⟨l, hp, rfl⟩ | ⟨line, en, hR, rfl⟩
  · obtain ⟨kk, hR, hP⟩ := hP l hp
    unfold want at hR
    cases hi : is s l with
    | true =>
      rw [hi] at hR
      exact H.call 0 rfl (rl_want_yes hi (H.nth 0 rfl)) fun w' H' => hq _ w' (.inl ⟨l.tail, hP hi hR, rfl⟩) H'
    | false =>
      rw [hi] at hR
      exact H.call 0 rfl (rl_want_no hi (H.nth 0 rfl)) fun w' H' => hq _ w' (.inr ⟨_, _, hR, rfl⟩) H'
  · exact H.call 0 rfl (rd_want s (H.nth 0 rfl)) fun w' H' => hq _ w' (.inr ⟨_, _, hR, rfl⟩) H'
theorem zs_take [Inhabited G3o] {s : ByteArray} {P : List Tok → Prop} (H : St W A0.own w (Z :: L)) (hZ : ZS R n R0 P Z)
    (hy : ∀ l w', is s l = true → P l → St W A0.own w' (rlA R l.tail n :: L) → Q (.returned (.bool true)) w')
    (hno : ∀ Z' w', ZS R n R0 (fun l => is s l = false ∧ P l) Z' → St W A0.own w' (Z' :: L) → Q (.returned (.bool false)) w') : Calls Tryz.prog 60 #[pt R.b, .string s] w Q := by
  rcases hZ with ⟨l, hR, rfl⟩ | ⟨line, en, hR, rfl⟩
  · refine H.call 0 rfl (rl_take s (H.nth 0 rfl)) fun w' H' => ?_
    cases hi : is s l with
    | true =>
      rw [hi] at H'
      exact hy l w' hi hR H'
    | false =>
      rw [hi] at H'
      exact hno _ w' (.inl ⟨l, ⟨hi, hR⟩, rfl⟩) H'
  · exact H.call 0 rfl (rd_take s (H.nth 0 rfl)) fun w' H' => hno _ w' (.inr ⟨_, _, hR, rfl⟩) H'
theorem zs_name [Inhabited G3o] {P : List Tok → Prop} {P' : ByteArray → List Tok → Prop} (H : St W A0.own w (Z :: L)) (hZ : ZS R n R0 P Z) (hP : ∀ l, P l → ∃ kk : Tok → List Tok → Lang.R α, R0 = name l kk ∧ ((now l).k = 1 → R0 = kk (now l) l.tail → P' (now l).s l.tail))
    (hq : ∀ s Z' w', ZS R n R0 (P' s) Z' → St W A0.own w' (Z' :: L) → Q (.returned (.string s)) w') : Calls Tryz.prog 61 #[pt R.b] w Q := by
  rcases hZ with ⟨l, hp, rfl⟩ | ⟨line, en, hR, rfl⟩
  · obtain ⟨kk, hR, hP⟩ := hP l hp
    rcases name_cases l with ⟨a1, a2, a3⟩ | ⟨e1, a1, a2⟩
    · rw [a3] at hR
      exact H.call 0 rfl (rl_name_ok a1 a2 (H.nth 0 rfl)) fun w' H' => hq _ _ w' (.inl ⟨l.tail, hP a1 hR, rfl⟩) H'
    · rw [a2] at hR
      exact H.call 0 rfl (rl_name_err (a2 _) (H.nth 0 rfl)) fun w' H' => hq _ _ w' (.inr ⟨_, _, hR, rfl⟩) H'
  · exact H.call 0 rfl (rd_name (H.nth 0 rfl)) fun w' H' => hq _ _ w' (.inr ⟨_, _, hR, rfl⟩) H'
/-- an expression, or a block -/
theorem zs_node [Inhabited G3o] {F : FuncId} {q : Req} {f : Nat} {P : List Tok → Prop} {P' : List Value → Asn → List Tok → Prop} (I : JE F q f) (hd : ∀ {W : World} {R : Rx} {line en : Int}, (rdA R line en).at_ W → Calls Tryz.prog F #[pt R.b] W fun e w' => ∃ us, e = .returned (.agg us.toArray) ∧ ones us ∧ Post (rdA R line en) W (rdA R line en) w')
    (hn : n ≤ 24) (hr : R0 ≠ .out) (H : St W A0.own w (Z :: L)) (hZ : ZS R n R0 P Z) (hP : ∀ l, P l → ∃ kk : T → List Tok → Lang.R α, R0 = (run f q n l).bind kk ∧ ∀ x us B l', isF (toF x .nil) us B → R0 = kk x l' → P' us B l')
    (hq : ∀ us B Z' w', ones us → ZS R n R0 (P' us B) Z' → St W A0.own w' (Z' :: B :: L) → Q (.returned (.agg us.toArray)) w') : Calls Tryz.prog F #[pt R.b] w Q := by
  rcases hZ with ⟨l, hp, rfl⟩ | ⟨line, en, hR, rfl⟩
  · obtain ⟨kk, hR, hP⟩ := hP l hp
    refine (I (H.nth 0 rfl) hn (fun e => hr (by rw [hR, e]; rfl))).mono ?_
    intro e w' he
    cases hb : run f q n l with
    | out => rw [hb] at hR; exact absurd hR hr
    | err line en =>
      rw [hb] at he hR
      obtain ⟨us, rfl, ho, hp⟩ := he
      have H' := (H.upd 0 rfl hp).add (A := emp) ⟨trivial, XTouch.refl _ _, fun q hq => hq.elim⟩
      exact hq us emp _ w' ho (.inr ⟨_, _, hR, rfl⟩) (H'.perm (List.Perm.cons _ (List.perm_append_singleton _ _)))
    | ok x l =>
      rw [hb] at he hR
      obtain ⟨us, B, rfl, ho, hF, hp⟩ := he
      exact hq us B _ w' ho (.inl ⟨l, hP _ _ _ _ hF hR, rfl⟩) (St.open_ (L := [_, _]) (H.upd 0 rfl hp))
  · refine (hd (H.nth 0 rfl)).mono ?_
    rintro e w' ⟨us, rfl, ho, hp⟩
    have H' := (H.upd 0 rfl hp).add (A := emp) ⟨trivial, XTouch.refl _ _, fun q hq => hq.elim⟩
    exact hq us emp _ w' ho (.inr ⟨_, _, hR, rfl⟩) (H'.perm (List.Perm.cons _ (List.perm_append_singleton _ _)))
/-- a statement of an expression, and its end -/
theorem zs_ended [Inhabited G3o] {f : Nat} {kd : ByteArray} {ln : Int} {P : List Tok → Prop} {P' : List Value → Asn → List Tok → Prop} (I : JE 119 .expr f) (hn : n ≤ 24) (hr : R0 ≠ .out) (H : St W A0.own w (Z :: L)) (hZ : ZS R n R0 P Z)
    (hP : ∀ l, P l → ∃ kk : T → List Tok → Lang.R α, R0 = ((run f .expr n l).bind fun x l => want cSemi l fun l => kk x l) ∧ ∀ x us B l', isF (toF x .nil) us B → R0 = kk x l' → P' us B l')
    (hq : ∀ q us B Z' w', ones us → ZS R n R0 (P' us B) Z' → St W A0.own w' (Z' :: blk q us.toArray 52 :: B :: L) → Q (.returned (.agg (nodeC kd ⟨#[]⟩ ln 0 (.slice (some ⟨q, 0, none⟩) 1 1) (.slice none 0 0)).toArray)) w') : Calls Tryz.prog 118 #[pt R.b, .string kd, .int .i64 ln] w Q := by
  refine vc118 R.b 0 kd ln ?_
  refine H.al fun k w2 H2 => ?_
  have H2 : St W A0.own w2 (Z :: blk k nodeZ.toArray 52 :: L) := H2.perm (List.Perm.cons _ (List.perm_append_singleton _ _))
  refine zs_node (P' := fun us B l => ∃ (kk : T → List Tok → Lang.R α) (x : T), (∀ x us B l', isF (toF x .nil) us B → R0 = kk x l' → P' us B l') ∧ isF (toF x .nil) us B ∧ R0 = want cSemi l fun l => kk x l) I rexpr_dead hn hr H2 hZ (fun l hp => ?_) ?_
  · obtain ⟨kk, hR, h⟩ := hP l hp
    exact ⟨_, hR, fun x us B l' hF hR => ⟨kk, x, h, hF, hR⟩⟩
  intro us B Z2 w3 ho hZ2 H3
  refine ⟨_, rfl, ?_⟩
  refine H3.al fun k2 w4 H4 => ?_
  have H4 : St W A0.own w4 (Z2 :: blk k2 nodeZ.toArray 52 :: B :: blk k nodeZ.toArray 52 :: L) := H4.perm (List.Perm.cons _ (List.perm_append_singleton _ _))
  refine H4.sts0 1 (n := 6) (vs := us.toArray) rfl (by simpa using ho.1) rfl (by simpa using ho.2) fun w5 H5 => ?_
  refine zs_want (P' := P' us B) H5 hZ2 (fun l hp => ?_) ?_
  · obtain ⟨kk, x, h, hF, hR⟩ := hp
    exact ⟨_, hR, fun _ hR => h x us B _ hF hR⟩
  intro Z3 w6 hZ3 H6
  refine ⟨rfl, cells_node H6 (k := 1) rfl ho.1 ⟨by simpa using ho.1, ?_⟩⟩
  refine H6.al fun k4 w7 H7 => ?_
  rintro vs rfl
  have H7 : St W A0.own w7 (Z3 :: blk k4 us.toArray 52 :: blk k2 us.toArray 52 :: B :: blk k nodeZ.toArray 52 :: L) := by
    simp only [List.append_nil] at H7
    exact H7.perm (List.Perm.cons _ (List.perm_append_singleton _ _))
  refine ret_node H7 (k := 4) (us := nodeC kd ⟨#[]⟩ ln 0 (.slice (some ⟨k4, 0, none⟩) 1 1) (.slice none 0 0)) rfl rfl rfl nodeC_one fun w8 H8 => ?_
  refine hq k4 us B Z3 w8 ho hZ3 ?_
  exact St.sub (L' := [blk k2 us.toArray 52, blk k (nodeC kd ⟨#[]⟩ ln 0 (.slice (some ⟨k4, 0, none⟩) 1 1) (.slice none 0 0)).toArray 52]) (H8.perm (by
    refine List.Perm.cons _ (List.Perm.cons _ ?_)
    refine (List.Perm.swap ..).trans (List.Perm.cons _ ?_)
    refine (List.perm_append_comm (l₁ := [_, _]) (l₂ := L))))
/-- arguments -/
theorem zs_args [Inhabited G3o] {f : Nat} {kk : T → List Tok → Lang.R α} (I : JA f) (hn : n ≤ 24) (hr : R0 ≠ .out) (H : St W A0.own w (rlA R l n :: L)) (hR : R0 = (run f .args n l).bind kk)
    (hq : ∀ p m c us S B Z' w', ZS R n R0 (fun l' => ∃ xs, isF (toF xs .nil) us B ∧ m = (toF xs .nil).len ∧ S = sl 52 6 (.slice p m c) m us ∧ R0 = kk xs l') Z' → St W A0.own w' (Z' :: S :: B :: L) → Q (.returned (.slice p m c)) w') : Calls Tryz.prog 135 #[pt R.b] w Q := by
  refine (I (H.nth 0 rfl) hn (fun e => hr (by rw [hR, e]; rfl))).mono ?_
  intro e w' he
  cases hb : run f .args n l with
  | out => rw [hb] at hR; exact absurd hR hr
  | err line en =>
    rw [hb] at he hR
    obtain ⟨p, m, c, rfl, hp⟩ := he
    have H' := ((H.upd 0 rfl hp).add (A := emp) ⟨trivial, XTouch.refl _ _, fun q hq => hq.elim⟩).add (A := emp) ⟨trivial, XTouch.refl _ _, fun q hq => hq.elim⟩
    refine hq p m c [] emp emp _ w' (.inr ⟨_, _, hR, rfl⟩) (H'.perm ?_)
    simp only [List.append_assoc]
    exact List.Perm.cons _ (List.perm_append_comm (l₁ := L))
  | ok x l =>
    rw [hb] at he hR
    obtain ⟨p, c, us, B, rfl, hF, hp⟩ := he
    exact hq p _ c us _ B _ w' (.inl ⟨l, ⟨x, hF, rfl, rfl, hR⟩, rfl⟩) (St.open_ (L := [_, _, _]) (H.upd 0 rfl hp))
end
/-! ### the first part -/
theorem rkids0_any [Inhabited G3o] {kd nm : ByteArray} {ln v : Int} {q : Nat} {us : List Value} {t : TypeId} (ho : ones us) (h : (blk q us.toArray t).at_ W) : Calls Tryz.prog 136 #[.agg (nodeC kd nm ln v (.slice (some ⟨q, 0, none⟩) 1 1) (.slice none 0 0)).toArray] W fun e w' => e = .returned (.agg us.toArray) ∧ Hush W w' := by
  refine vc136 _ ?_
  refine (St.nil W).al fun k w2 H2 => ?_
  refine H2.al fun k2 w3 H3 => ?_
  have hh := hush_keep h H3.touch
  refine ⟨_, _, _, H3.ld 0 rfl (i := 4) rfl, Sx.split_of (fun h => by cases h) (fun _ => ?_)⟩
  refine ⟨_, _, _, H3.ld 0 rfl (i := 4) rfl, ⟨by omega, by omega⟩, adr_some ⟨us.toArray, by simpa using ho.1, ?_, ?_⟩⟩
  · exact (St.begin hh).cells 0 rfl
  · exact ret_node H3 (k := 1) rfl rfl ho.1 ho.2 fun w8 H8 => ⟨rfl, H8.touch⟩
end Go.Proofs.YtojogkljneonmaaGreatDoor
/- The reference's parser: statements that begin with a name. No condition. -/
namespace Go.Proofs.YtojogkljneonmaaGreatDoor
open Go Go.Proofs Go.Sep Go.XHeap Go.RowKit Go.Lang
set_option linter.unusedVariables false
set_option linter.unusedSimpArgs false
variable {W w0 w : World} {M : Nat → Prop} {L : List Asn} {R : Rx} {l : List Tok} {n : Nat} {line en : Int}
theorem node_ones {us : List Value} (ho : ones us) : us.toArray.size = 6 := by simpa using ho.1
/-- a node of one part that stands in a block -/
theorem mk_one [Inhabited G3o] {x : T} {us : List Value} {B : Asn} {q : Nat} (kd nm : ByteArray) (ln : Int) (ho : ones us) (hF : isF (toF x .nil) us B) (H : St w0 M w (blk q us.toArray 52 :: B :: L)) :
    ∃ B', isF (.cons kd nm ln 0 (toF x .nil) [] .nil) (nodeC kd nm ln 0 (.slice (some ⟨q, 0, none⟩) 1 1) (.slice none 0 0)) B' ∧ St w0 M w (B' :: L) :=
  mk_blk kd nm ln 0 hF (m := 1) (isF_len1 hF ho.1).symm (by omega) H
theorem mk_two [Inhabited G3o] {x y : T} {us vs : List Value} {A B : Asn} {q : Nat} (kd nm : ByteArray) (ln : Int) (ho : ones us) (ho2 : ones vs) (hF : isF (toF x .nil) us A) (hF2 : isF (toF y .nil) vs B) (H : St w0 M w (A :: B :: blk q (us ++ vs).toArray 52 :: L)) :
    ∃ B', isF (.cons kd nm ln 0 (toF x (toF y .nil)) [] .nil) (nodeC kd nm ln 0 (.slice (some ⟨q, 0, none⟩) 2 2) (.slice none 0 0)) B' ∧ St w0 M w (B' :: L) := by
  obtain ⟨C, hC, H2⟩ := two_rows hF hF2 H
  rw [← toF_nil_app] at hC
  refine mk_blk kd nm ln 0 hC (m := 2) ?_ (by omega) (H2.perm (List.Perm.swap ..))
  rw [toF_nil_app, Fo.app_len, ← isF_len1 hF ho.1, ← isF_len1 hF2 ho2.1]
/-- a statement behind its name -/
def plKK (f n : Nat) (t : Tok) (l : List Tok) : Lang.R T :=
  if is cLP l then (run f .args n l.tail).bind fun xs l => want cSemi l fun l => .ok (.doS t.line (.call t none xs)) l
  else if is cLB l then (run f .expr n l.tail).bind fun p l => want cRB l fun l => want cEq l fun l => (run f .expr n l).bind fun x l => want cSemi l fun l => .ok (.putS t 0 0 p x) l
  else want cEq l fun l => (run f .expr n l).bind fun x l => want cSemi l fun l => .ok (.setS t 0 0 x) l
theorem rplain_any [Inhabited G3o] {f : Nat} (I : JE 119 .expr f) (Ia : JA f) (h : (rlA R l n).at_ W) (hn : n ≤ 24) (hk : (now l).k = 1) (hr : run (f + 1) .stmt n l ≠ .out) : Calls Tryz.prog 117 #[pt R.b] W (RK R n W (rlA R l n) (run (f + 1) .stmt n l)) := by
  have hrun : run (f + 1) .stmt n l = name l (plKK f n) := by rw [run, if_pos hk]; rfl
  generalize run (f + 1) .stmt n l = R0 at *
  refine vc117 R.b 0 ?_
  refine (St.begin h).al fun k w2 H2 => ?_
  refine H2.dr fun w3 H3 => ?_
  refine rl_tok H3 ?_
  refine H3.alb fun k6 w4 H4 _ hb => ⟨hb, ?_⟩
  refine H4.sts0 2 (n := 3) (vs := (tkR (now l)).toArray) rfl rfl rfl (by simpa using tkR_one _) fun w5 H5 => ?_
  clear H2 H3 H4 hb
  have H5 : St W (rlA R l n).own w5 [rlA R l n, blk k nodeZ.toArray 52, blk k6 (tkR (now l)).toArray 96] := H5
  generalize ht : now l = t at *
  refine zs_name (n := n) (R0 := R0) (P := fun x => x = l ∧ R0 = name l (plKK f n)) (P' := fun s l' => s = t.s ∧ R0 = plKK f n t l') H5 (.inl ⟨l, ⟨rfl, hrun⟩, rfl⟩) (fun l' hp => ?_) ?_
  · obtain ⟨rfl, hR⟩ := hp
    exact ⟨_, hR, fun l' h => ⟨by rw [ht], by rw [ht] at h; exact h⟩⟩
  intro s Z6 w6 hZ6 H6
  refine ⟨_, rfl, ?_⟩
  refine zs_take (s := cLP) H6 hZ6 ?_ ?_
  · rintro l1 w7 hi ⟨rfl, hR⟩ H7
    unfold plKK at hR
    rw [if_pos hi] at hR
    refine ⟨_, rfl, Sx.split_of (fun _ => ?_) (fun h => by cases h)⟩
    refine zs_args Ia hn hr H7 hR ?_
    intro p m c us S B Z8 w8 hZ8 H8
    refine ⟨_, _, _, rfl, ?_⟩
    refine zs_want (P' := fun l' => ∃ xs, isF (toF xs .nil) us B ∧ m = (toF xs .nil).len ∧ S = sl 52 6 (.slice p m c) m us ∧ R0 = .ok (.doS t.line (.call t none xs)) l') H8 hZ8 (fun l' hp => ?_) ?_
    · obtain ⟨xs, a, b, d, hR⟩ := hp
      exact ⟨_, hR, fun l'' h => ⟨xs, a, b, d, h⟩⟩
    intro Z9 w9 hZ9 H9
    refine ⟨rfl, _, H9.ld 4 rfl (i := 2) rfl, _, H9.ld 4 rfl (i := 2) rfl, ?_⟩
    rintro vs2 rfl
    refine ⟨rfl, ?_⟩
    refine H9.al fun k10 w10 H10 => ?_
    rintro vs3 rfl
    refine ret_node H10 (k := 3) (us := nodeC cDoK ⟨#[]⟩ t.line 0 (.slice (some ⟨k10, 0, none⟩) 1 1) (.slice none 0 0)) rfl rfl rfl nodeC_one fun w11 H11 => ?_
    rcases hZ9 with ⟨l2, ⟨xs, hF, rfl, rfl, hR⟩, rfl⟩ | ⟨line, en, hR, rfl⟩
    · obtain ⟨B2, hB2, H12⟩ := mk_sl cCallK t.s t.line 0 hF (H11.pick [1, 2, 5, 0])
      obtain ⟨B3, hB3, H13⟩ := mk_one (x := .call t none xs) cDoK (ofL []) t.line ones_C hB2 (H12.pick [1, 0, 2])
      exact rk_ok hR ones_C hB3 (H13.pick [1, 0])
    · exact rk_err hR ones_C H11
  intro Z7 w7 hZ7 H7
  refine ⟨_, rfl, Sx.split_of (fun h => by cases h) (fun _ => ?_)⟩
  refine zs_take (s := cLB) H7 hZ7 ?_ ?_
  · rintro l1 w8 hi ⟨hi0, rfl, hR⟩ H8
    unfold plKK at hR
    rw [if_neg (by rw [hi0]; exact Bool.false_ne_true), if_pos hi] at hR
    refine ⟨_, rfl, Sx.split_of (fun _ => ?_) (fun h => by cases h)⟩
    refine zs_node (P := fun x => x = l1.tail) (P' := fun us B l' => ∃ x, isF (toF x .nil) us B ∧ R0 = want cRB l' fun l => want cEq l fun l => (run f .expr n l).bind fun y l => want cSemi l fun l => .ok (.putS t 0 0 x y) l) I rexpr_dead hn hr H8 (.inl ⟨_, rfl, rfl⟩) (fun l' hp => ?_) ?_
    · subst hp
      exact ⟨_, hR, fun x us B l' hF h => ⟨x, hF, h⟩⟩
    intro us B Z9 w9 ho hZ9 H9
    refine ⟨_, rfl, ?_⟩
    refine H9.al fun k12 w10 H10 => ?_
    refine H10.sts0 4 (n := 6) (vs := us.toArray) rfl (node_ones ho) rfl (by simpa using ho.2) fun w11 H11 => ?_
    refine zs_want (P' := fun l' => ∃ x, isF (toF x .nil) us B ∧ R0 = want cEq l' fun l => (run f .expr n l).bind fun y l => want cSemi l fun l => .ok (.putS t 0 0 x y) l) H11 hZ9 (fun l' hp => ?_) ?_
    · obtain ⟨x, a, hR⟩ := hp
      exact ⟨_, hR, fun l'' h => ⟨x, a, h⟩⟩
    intro Z12 w12 hZ12 H12
    refine ⟨rfl, ?_⟩
    refine zs_want (P' := fun l' => ∃ x, isF (toF x .nil) us B ∧ R0 = (run f .expr n l').bind fun y l => want cSemi l fun l => .ok (.putS t 0 0 x y) l) H12 hZ12 (fun l' hp => ?_) ?_
    · obtain ⟨x, a, hR⟩ := hp
      exact ⟨_, hR, fun l'' h => ⟨x, a, h⟩⟩
    intro Z13 w13 hZ13 H13
    refine ⟨rfl, _, H13.ld 3 rfl (i := 2) rfl, ?_⟩
    refine zs_ended (P' := fun vs B2 l' => ∃ x y, isF (toF x .nil) us B ∧ isF (toF y .nil) vs B2 ∧ R0 = .ok (.putS t 0 0 x y) l') I hn hr H13 hZ13 (fun l' hp => ?_) ?_
    · obtain ⟨x, a, hR⟩ := hp
      exact ⟨_, hR, fun y vs B2 l'' hF h => ⟨x, y, a, hF, h⟩⟩
    intro q vs B2 Z14 w14 ho2 hZ14 H14
    refine ⟨_, rfl, ?_⟩
    refine H14.al fun k14 w15 H15 => ?_
    refine H15.sts0 7 (n := 6) (vs := (nodeC cPutK ⟨#[]⟩ t.line 0 (.slice (some ⟨q, 0, none⟩) 1 1) (.slice none 0 0)).toArray) rfl rfl rfl nodeC_one fun w16 H16 => ?_
    refine H16.dr fun w17 H17 => ?_
    refine cells_node H17 (k := 7) (us := nodeC cPutK ⟨#[]⟩ t.line 0 (.slice (some ⟨q, 0, none⟩) 1 1) (.slice none 0 0)) rfl rfl ?_
    refine ⟨_, H17.ld 5 rfl (i := 2) rfl, cells_node H17 (k := 6) rfl ho.1 ?_⟩
    refine H17.callq (rkids0_any ho2 (H17.nth 1 rfl)) fun w18 H18 => ?_
    refine ⟨_, rfl, cells_node H18 (k := 6) rfl ho.1 rfl, ⟨_, H18.ld 5 rfl (i := 2) rfl, rfl⟩, node_ones ho, node_ones ho2, ?_⟩
    refine H18.al fun k16 w19 H19 => ⟨⟨_, H19.ld 5 rfl (i := 2) rfl, rfl⟩, ?_⟩
    rintro vs11 rfl
    refine ret_node H19 (k := 4) (us := nodeC cPutK t.s t.line 0 (.slice (some ⟨k16, 0, none⟩) 2 2) (.slice none 0 0)) rfl rfl rfl nodeC_one fun w20 H20 => ?_
    rcases hZ14 with ⟨l2, ⟨x, y, hF, hF2, hR⟩, rfl⟩ | ⟨line, en, hR, rfl⟩
    · have H21 := H20.pick [3, 2, 8, 0]
      simp only [List.append_nil] at H21
      obtain ⟨B3, hB3, H22⟩ := mk_two cPutK t.s t.line ho ho2 hF hF2 H21
      exact rk_ok hR ones_C hB3 (H22.pick [1, 0])
    · exact rk_err hR ones_C H20
  · intro Z8 w8 hZ8 H8
    refine ⟨_, rfl, Sx.split_of (fun h => by cases h) (fun _ => ?_)⟩
    refine zs_want (P' := fun l' => s = t.s ∧ R0 = (run f .expr n l').bind fun y l => want cSemi l fun l => .ok (.setS t 0 0 y) l) H8 hZ8 (fun l' hp => ?_) ?_
    · obtain ⟨hi, hi0, rfl, hR⟩ := hp
      unfold plKK at hR
      rw [if_neg (by rw [hi0]; exact Bool.false_ne_true), if_neg (by rw [hi]; exact Bool.false_ne_true)] at hR
      exact ⟨_, hR, fun l'' h => ⟨rfl, h⟩⟩
    intro Z9 w9 hZ9 H9
    refine ⟨rfl, _, H9.ld 2 rfl (i := 2) rfl, ?_⟩
    refine zs_ended (P' := fun vs B2 l' => s = t.s ∧ ∃ y, isF (toF y .nil) vs B2 ∧ R0 = .ok (.setS t 0 0 y) l') I hn hr H9 hZ9 (fun l' hp => ?_) ?_
    · obtain ⟨rfl, hR⟩ := hp
      exact ⟨_, hR, fun y vs B2 l'' hF h => ⟨rfl, y, hF, h⟩⟩
    intro q vs B2 Z14 w14 ho2 hZ14 H14
    refine ⟨_, rfl, ?_⟩
    refine H14.al fun k14 w15 H15 => ?_
    refine H15.sts0 5 (n := 6) (vs := (nodeC cSetK ⟨#[]⟩ t.line 0 (.slice (some ⟨q, 0, none⟩) 1 1) (.slice none 0 0)).toArray) rfl rfl rfl nodeC_one fun w16 H16 => ?_
    refine H16.st 5 rfl (i := 1) (by simp [nodeC]) fun w17 H17 => ?_
    refine cells_node H17 (k := 5) (us := nodeC cSetK s t.line 0 (.slice (some ⟨q, 0, none⟩) 1 1) (.slice none 0 0)) rfl rfl ?_
    refine ret_node H17 (k := 3) (us := nodeC cSetK s t.line 0 (.slice (some ⟨q, 0, none⟩) 1 1) (.slice none 0 0)) rfl rfl rfl nodeC_one fun w20 H20 => ?_
    rcases hZ14 with ⟨l2, ⟨rfl, y, hF2, hR⟩, rfl⟩ | ⟨line, en, hR, rfl⟩
    · obtain ⟨B3, hB3, H22⟩ := mk_one cSetK t.s t.line ho2 hF2 (H20.pick [1, 2, 0])
      exact rk_ok hR ones_C hB3 (H22.pick [1, 0])
    · exact rk_err hR ones_C H20
end Go.Proofs.YtojogkljneonmaaGreatDoor
/- The reference's parser: blocks and statements; all its functions by induction. No condition. -/
namespace Go.Proofs.YtojogkljneonmaaGreatDoor
open Go Go.Proofs Go.Sep Go.XHeap Go.RowKit Go.Lang
set_option linter.unusedVariables false
set_option linter.unusedSimpArgs false
variable {W w0 w : World} {M : Nat → Prop} {L : List Asn} {R : Rx} {l : List Tok} {n : Nat} {line en : Int}
/-- a block's loop: statements so far -/
def blkI [Inhabited G3o] (R : Rx) (n f k k6 : Nat) (W : World) (l : List Tok) (ln : Int) (R0 : Lang.R T) (end_ : Bool) (w : World) : Prop :=
  (end_ = false ∧ ∃ ts f' l1 us B p m c, isF (toF (ofTs ts .nil) .nil) us B ∧ m = (toF (ofTs ts .nil) .nil).len ∧ R0 = (run f' .stmts (n + 1) l1).bind (fun xs l' => .ok (.block ln (ofTs ts xs)) l') ∧ f' ≤ f ∧ m + l1.length ≤ 8001 ∧ is cRC l1 = false ∧
    St W (rlA R l n).own w [rlA R l1 (n + 1), blk k nodeZ.toArray 52, blk k6 (nodeC cBlockK ⟨#[]⟩ ln 0 (.slice p m c) (.slice none 0 0)).toArray 52, sl 52 6 (.slice p m c) m us, B]) ∨
  (end_ = true ∧ ∃ x l1 us B p m c, isF (toF x .nil) us B ∧ m = (toF x .nil).len ∧ R0 = .ok (.block ln x) l1 ∧
    St W (rlA R l n).own w [rlA R l1 (n + 1), blk k nodeZ.toArray 52, blk k6 (nodeC cBlockK ⟨#[]⟩ ln 0 (.slice p m c) (.slice none 0 0)).toArray 52, sl 52 6 (.slice p m c) m us, B]) ∨
  (∃ line en p m c, R0 = .err line en ∧ St W (rlA R l n).own w [rdA R line en, blk k nodeZ.toArray 52, blk k6 (nodeC cBlockK ⟨#[]⟩ ln 0 (.slice p m c) (.slice none 0 0)).toArray 52])
theorem stmts_eq {f n : Nat} {l : List Tok} (hi : is cRC l = false) : run (f + 1) .stmts n l = (run f .stmt n l).bind fun x l => (run f .stmts n l).bind fun xs l => .ok (.cons x xs) l := by
  rw [run, if_neg (by rw [hi]; exact Bool.false_ne_true)]
theorem rblock_step [Inhabited G3o] {f : Nat} (I : ∀ f' ≤ f, JE 103 .stmt f') : JE 65 .blk (f + 1) := by
  intro W R n l h hn hr
  have hG : Good l := h.1.2.1
  have hrun : run (f + 1) .blk n l = if 24 ≤ n then .err (now l).line 3 else want cLC l fun l' => (run f .stmts (n + 1) l').bind fun xs l'' => .ok (.block (now l).line xs) l'' := by rw [run]
  generalize run (f + 1) .blk n l = R0 at *
  refine vc65 R.b 0 ?_
  refine (St.begin h).al fun k w2 H2 => ?_
  refine H2.dr fun w3 H3 => ?_
  refine rl_line H3 ?_
  rintro vs rfl
  refine H3.alb fun k6 w4 H4 _ hb => ⟨hb, ?_⟩
  refine H4.sts0 2 (n := 6) (vs := (nodeC cBlockK ⟨#[]⟩ (now l).line 0 (.slice none 0 0) (.slice none 0 0)).toArray) rfl rfl rfl nodeC_one fun w5 H5 => ?_
  clear H2 H3 H4 hb
  have H5 : St W (rlA R l n).own w5 [rlA R l n, blk k nodeZ.toArray 52, blk k6 (nodeC cBlockK ⟨#[]⟩ (now l).line 0 (.slice none 0 0) (.slice none 0 0)).toArray 52] := H5
  generalize hln : (now l).line = ln at *
  refine (rl_deeper (H5.nth 0 rfl) hn).mono ?_
  rintro e w6 (⟨hn2, rfl, hp⟩ | ⟨hn2, rfl, hp⟩)
  rotate_left
  · have H6 := H5.upd 0 rfl hp
    rw [if_pos hn2] at hrun
    rw [hln] at H6
    refine ⟨_, rfl, Sx.split_of (fun _ => ?_) (fun h => by cases h)⟩
    refine cells_node H6 (k := 2) (us := nodeC cBlockK ⟨#[]⟩ ln 0 (.slice none 0 0) (.slice none 0 0)) rfl rfl ?_
    exact ret_node H6 (k := 1) (us := nodeC cBlockK ⟨#[]⟩ ln 0 (.slice none 0 0) (.slice none 0 0)) rfl rfl rfl nodeC_one fun w8 H8 => rk_err hrun ones_C H8
  have H6 := H5.upd 0 rfl hp
  rw [if_neg (by omega)] at hrun
  refine ⟨_, rfl, Sx.split_of (fun h => by cases h) (fun _ => ?_)⟩
  refine zs_want (n := n + 1) (R0 := R0) (P := fun x => x = l) (P' := fun l' => R0 = (run f .stmts (n + 1) l').bind fun xs l'' => .ok (.block ln xs) l'') H6 (.inl ⟨l, rfl, rfl⟩) (fun l' hp => ?_) ?_
  · subst hp
    exact ⟨_, hrun, fun l'' h => h⟩
  intro Z7 w7 hZ7 H7
  have H7 : St W (rlA R l n).own w7 [Z7, blk k nodeZ.toArray 52, blk k6 (nodeC cBlockK ⟨#[]⟩ ln 0 (.slice none 0 0) (.slice none 0 0)).toArray 52, sl 52 6 (.slice none 0 0) 0 [], all []] := (H7.add (A := sl 52 6 (.slice none 0 0) 0 []) ⟨Sl.nil _ _ _, XTouch.refl _ _, fun q hq => by cases hq⟩).add (A := all []) ⟨trivial, XTouch.refl _ _, fun q hq => hq.elim⟩
  refine ⟨rfl, ?_⟩
  refine zs_take (s := cRC) H7 hZ7 ?_ ?_
  intro l1 w8 hi hR H8
  refine ⟨_, rfl, fun e w => blkI R n f k k6 W l ln R0 e w, fun _ w => rmeas R w, ?_, ?_⟩
  · refine .inr (.inl ⟨rfl, .nil, l1.tail, [], _, none, 0, 0, ⟨rfl, rfl⟩, rfl, ?_, H8⟩)
    rw [hR]
    cases f with
    | zero => exact absurd (by rw [hR]; rfl) hr
    | succ f => rw [run, if_pos hi]; rfl
  rotate_left
  intro Z8 w8 hZ8 H8
  refine ⟨_, rfl, fun e w => blkI R n f k k6 W l ln R0 e w, fun _ w => rmeas R w, ?_, ?_⟩
  · rcases hZ8 with ⟨l1, ⟨hi, hR⟩, rfl⟩ | ⟨line, en, hR, rfl⟩
    · refine .inl ⟨rfl, [], f, l1, [], _, none, 0, 0, ⟨rfl, rfl⟩, rfl, hR, Nat.le_refl _, ?_, hi, H8⟩
      have := (H8.nth 0 rfl).1.2.1.2.2.2
      omega
    · exact .inr (.inr ⟨line, en, none, 0, 0, hR, H8.pick [0, 1, 2]⟩)
  all_goals
    clear H7 H5 H6
    rintro _ end_ w10 (⟨rfl, ts, f', l1, us, B, p, m, c, hF, hm, hR, hf, hml, hnc, H10⟩ | ⟨rfl, x, l1, us, B, p, m, c, hF, hm, hR, H10⟩ | ⟨line, en, p, m, c, hR, H10⟩)
    · refine Sx.split_of (fun _ => ?_) (fun h => by cases h)
      refine rl_err H10 (Sx.split_of (fun _ => ?_) (fun h => by cases h))
      match f', hR with
      | 0, hR => exact absurd hR hr
      | f' + 1, hR =>
      have hR : R0 = (run f' .stmt (n + 1) l1).bind fun x l => ((run f' .stmts (n + 1) l).bind fun xs l => .ok (.cons x xs) l : Lang.R T).bind (fun xs l' => .ok (.block ln (ofTs ts xs)) l') := by
        rw [hR, stmts_eq hnc]
        cases run f' .stmt (n + 1) l1 <;> rfl
      have hlen := fun (x : T) (l2 : List Tok) (h : run f' .stmt (n + 1) l1 = .ok x l2) => (run_le _ _ _ _ _ _ h).2 rfl
      obtain ⟨re, hre⟩ : ∃ re, re = run f' .stmt (n + 1) l1 := ⟨_, rfl⟩
      have hne : re ≠ .out := fun e => hr (by rw [hR, ← hre, e]; rfl)
      refine (I f' (by omega) (H10.nth 0 rfl) (by omega) (by rw [← hre]; exact hne)).mono ?_
      intro e w11 he
      rw [← hre] at he hR hlen
      cases re with
      | out => exact absurd rfl hne
      | err line en =>
        obtain ⟨vs, rfl, ho, hp⟩ := he
        have H11 := (H10.upd 0 rfl hp)
        refine ⟨_, rfl, ?_⟩
        refine H11.al fun k9 w12 H12 => ?_
        refine H12.sts0 5 (n := 6) (vs := vs.toArray) rfl (node_ones ho) rfl (by simpa using ho.2) fun w13 H13 => ?_
        refine ⟨_, _, _, H13.ld 2 rfl (i := 4) rfl, cells_node H13 (k := 5) rfl ho.1 ⟨node_ones ho, ?_⟩⟩
        refine H13.al fun k13 w14 H14 => ?_
        simp only [List.append_nil] at H14
        refine H14.app 3 rfl vs (.inr ⟨_, rfl, fun j v hj => ?_⟩) (by rw [ho.1]) ho.2 (by show m + 1 ≤ maxLen; unfold maxLen; omega) (by omega) fun p' c' w15 H15 => ?_
        · rw [show (Addr.add ⟨k13, 0, none⟩ j) = ⟨k13, j, none⟩ by simp [Addr.add]; intro e; exact e.symm]; exact H14.ld 6 rfl (i := j) (by simpa using hj)
        refine H15.st 2 rfl (i := 4) (by simp [nodeC]) fun w16 H16 => ?_
        refine H16.call 0 rfl (rd_take cRC (H16.nth 0 rfl)) fun w17 H17 => ?_
        exact ⟨_, rfl, .inr (.inr ⟨line, en, p', m + 1, c', hR, H17.pick [0, 1, 2]⟩), rmeas_ltd (H10.nth 0 rfl) (H17.nth 0 rfl)⟩
      | ok x l2 =>
        obtain ⟨vs, B2, rfl, ho, hF2, hp⟩ := he
        have hl2 := hlen x l2 rfl
        have H11 := St.open_ (L := [_, _]) (H10.upd 0 rfl hp)
        have hR : R0 = ((run f' .stmts (n + 1) l2).bind fun xs l => .ok (.cons x xs) l : Lang.R T).bind (fun xs l' => .ok (.block ln (ofTs ts xs)) l') := hR
        refine ⟨_, rfl, ?_⟩
        refine H11.al fun k9 w12 H12 => ?_
        refine H12.sts0 6 (n := 6) (vs := vs.toArray) rfl (node_ones ho) rfl (by simpa using ho.2) fun w13 H13 => ?_
        refine ⟨_, _, _, H13.ld 3 rfl (i := 4) rfl, cells_node H13 (k := 6) rfl ho.1 ⟨node_ones ho, ?_⟩⟩
        refine H13.al fun k13 w14 H14 => ?_
        simp only [List.append_nil] at H14
        refine H14.app 4 rfl vs (.inr ⟨_, rfl, fun j v hj => ?_⟩) (by rw [ho.1]) ho.2 (by show m + 1 ≤ maxLen; unfold maxLen; omega) (by omega) fun p' c' w15 H15 => ?_
        · rw [show (Addr.add ⟨k13, 0, none⟩ j) = ⟨k13, j, none⟩ by simp [Addr.add]; intro e; exact e.symm]; exact H14.ld 7 rfl (i := j) (by simpa using hj)
        refine H15.st 3 rfl (i := 4) (by simp [nodeC]) fun w16 H16 => ?_
        have H16 := H16.pick [5, 1, 0, 2, 3, 4]
        obtain ⟨C, hC, H17⟩ := two_rows hF hF2 H16
        rw [← toF_snoc] at hC
        have hm2 : m + 1 = (toF (ofTs (ts ++ [x]) .nil) .nil).len := by rw [toF_snoc, Fo.app_len, ← isF_len1 hF2 ho.1, hm]
        have H18 : St W (rlA R l n).own w16 [rlA R l2 (n + 1), blk k nodeZ.toArray 52, blk k6 (nodeC cBlockK ⟨#[]⟩ ln 0 (.slice p' (m + 1) c') (.slice none 0 0)).toArray 52, sl 52 6 (.slice p' (m + 1) c') (m + 1) (us ++ vs), C] := H17.pick [1, 2, 3, 4, 0]
        refine H18.call 0 rfl (rl_take cRC (H18.nth 0 rfl)) fun w19 H19 => ?_
        cases hi : is cRC l2 with
        | true =>
          rw [hi] at H19
          have ht := tail_lt (is_mark hi)
          refine ⟨_, rfl, .inr (.inl ⟨rfl, _, l2.tail, _, C, p', m + 1, c', hC, hm2, ?_, H19⟩), rmeas_lt (H10.nth 0 rfl) (H19.nth 0 rfl) (by show l2.tail.length < _; omega)⟩
          rw [hR]
          cases f' with
          | zero => exact absurd (by rw [hR]; rfl) hr
          | succ f' =>
            rw [run, if_pos hi]
            show Lang.R.ok (T.block ln (ofTs ts (.cons x .nil))) l2.tail = _
            rw [ofTs_snoc]
        | false =>
          rw [hi] at H19
          refine ⟨_, rfl, .inl ⟨rfl, ts ++ [x], f', l2, _, C, p', m + 1, c', hC, hm2, ?_, by omega, by omega, hi, H19⟩, rmeas_lt (H10.nth 0 rfl) (H19.nth 0 rfl) (by show l2.length < _; omega)⟩
          rw [hR]
          cases run f' .stmts (n + 1) l2 with
          | ok xs l3 => show Lang.R.ok (T.block ln (ofTs ts (.cons x xs))) l3 = Lang.R.ok (T.block ln (ofTs (ts ++ [x]) xs)) l3; rw [ofTs_snoc]
          | err => rfl
          | out => rfl
    · refine Sx.split_of (fun h => by cases h) (fun _ => ?_)
      refine rl_dec H10 fun w11 H11 => ?_
      refine cells_node H11 (k := 2) (us := nodeC cBlockK ⟨#[]⟩ ln 0 (.slice p m c) (.slice none 0 0)) rfl rfl ?_
      refine ret_node H11 (k := 1) (us := nodeC cBlockK ⟨#[]⟩ ln 0 (.slice p m c) (.slice none 0 0)) rfl rfl rfl nodeC_one fun w12 H12 => ?_
      subst hm
      obtain ⟨B2, hB2, H13⟩ := mk_sl cBlockK ⟨#[]⟩ ln 0 hF (H12.pick [3, 4, 0])
      exact rk_ok hR ones_C hB2 (H13.pick [1, 0])
    · cases end_ with
      | true =>
        refine Sx.split_of (fun h => by cases h) (fun _ => ?_)
        refine rd_dec H10 fun w11 H11 => ?_
        refine cells_node H11 (k := 2) (us := nodeC cBlockK ⟨#[]⟩ ln 0 (.slice p m c) (.slice none 0 0)) rfl rfl ?_
        exact ret_node H11 (k := 1) (us := nodeC cBlockK ⟨#[]⟩ ln 0 (.slice p m c) (.slice none 0 0)) rfl rfl rfl nodeC_one fun w12 H12 => rk_err hR ones_C H12
      | false =>
        refine Sx.split_of (fun _ => ?_) (fun h => by cases h)
        refine rd_err H10 (fun hen => Sx.split_of (fun h => absurd (beq_iff_eq.1 h) hen) (fun _ => ?_))
        refine rd_dec H10 fun w11 H11 => ?_
        refine cells_node H11 (k := 2) (us := nodeC cBlockK ⟨#[]⟩ ln 0 (.slice p m c) (.slice none 0 0)) rfl rfl ?_
        exact ret_node H11 (k := 1) (us := nodeC cBlockK ⟨#[]⟩ ln 0 (.slice p m c) (.slice none 0 0)) rfl rfl rfl nodeC_one fun w12 H12 => rk_err hR ones_C H12
end Go.Proofs.YtojogkljneonmaaGreatDoor
