import Derived.Test.YtojogkljneonmaaGreatDoorLangY
/- The checker in memory: expressions. No condition. -/
namespace Go.Proofs.YtojogkljneonmaaGreatDoor
open Go Go.Proofs Go.Sep Go.XHeap Go.RowKit Go.Lang
set_option linter.unusedVariables false
set_option linter.unusedSimpArgs false
variable {W : World} {X : Cx} {S : Sp} {n : Nat} {Ls : Lcs} {lk : Lk}
theorem open2 {w0 w : World} {M : Nat → Prop} {A : Asn} {Bs L : List Asn} (H : St w0 M w (A :: all Bs :: L)) : St w0 M w (A :: (Bs ++ L)) := by
  have H1 := St.open_ (St.swap H)
  exact H1.perm List.perm_middle
theorem shut2 {w0 w : World} {M : Nat → Prop} {A : Asn} {Bs L : List Asn} (H : St w0 M w (A :: (Bs ++ L))) : St w0 M w (A :: all Bs :: L) :=
  St.swap (St.shut (L := Bs) (L' := A :: L) (H.perm List.perm_middle.symm))
/-- the answer of a walk over an expression -/
def XAns (X : Cx) (S : Sp) (n : Nat) (Ls : Lcs) (A0 : Asn) (W : World) (v : Value) (R0 : C T) : Ending → World → Prop := AnsC A0 W R0 fun x' e w' => e = .returned (.tuple #[]) ∧ ∃ B', isP x' [v] B' ∧ Post A0 W (all [scA X S n Ls, B']) w'
theorem x_ok [Inhabited G3o] {A0 : Asn} {w : World} {v : Value} {R0 : C T} {x' : T} {B' : Asn} (hR : R0 = .ok x') (hP : isP x' [v] B') (H : St W A0.own w [scA X S n Ls, B']) : XAns X S n Ls A0 W v R0 (.returned (.tuple #[])) w :=
  ansc_ok hR ⟨rfl, B', hP, (St.shut (L := [_, _]) (L' := []) H).post 0 rfl⟩
theorem sexpr_any [Inhabited G3o] (hE : EnvOk lk X) (hZ : SizesOk lk) (hn : Ls.length ≤ 24) : ∀ (N : Nat) (x : T), x.sz ≤ N → N < 4611686018427387904 → x.ok 0 = true → ∀ (W : World) (v : Value) (B : Asn), isP x [v] B → (all [scA X S n Ls, B]).at_ W →
    Calls Tryz.prog 133 #[pt X.ks, v] W (XAns X S n Ls (all [scA X S n Ls, B]) W v (cexp lk Ls x)) := by
  intro N
  induction N with
  | zero => intro x hx; cases x <;> simp [T.sz] at hx
  | succ N ih =>
    intro x hsz hN hx W v B hP h
    have ih := fun (x : T) (hs : x.sz ≤ N) => ih x hs (by omega)
    refine vc133 X.ks 0 v ?_
    have H := St.begin h
    cases x with
    | num a b =>
      obtain ⟨e, rfl⟩ := hP
      cases e
      exact tag_ne (by decide) (tag_ne (by decide) (tag_ne (by decide) (tag_ne (by decide) (tag_ne (by decide) (x_ok (x' := .num a b) rfl ⟨rfl, rfl⟩ (St.open_ (L' := []) H))))))
    | name t s w =>
      obtain ⟨k, e, rfl⟩ := hP
      cases e
      refine tag_eq ⟨_, rfl, ?_⟩
      refine ccase H 0 rfl (R0 := cexp lk Ls (.name t s w)) rfl (sword_any hE hn h) ?_
      rintro p _ w2 - hR ⟨rfl, hp⟩
      exact ⟨rfl, x_ok hR ⟨k, rfl, rfl⟩ (St.open_ (L' := []) (H.upd 0 rfl hp))⟩
    | index t w z p =>
      obtain ⟨k, y, A1, h1, e, rfl⟩ := hP
      cases e
      have hp : p.ok 0 = true := by simpa [T.ok] using hx
      simp only [T.sz] at hsz
      refine tag_ne (by decide) (tag_eq ⟨_, rfl, ?_⟩)
      have H2 := open2 (L := []) (St.open_ (L' := []) H)
      have H3 := St.shut (L := [scA X S n Ls, blk k (indexC t w z y).toArray 176]) (L' := [A1]) H2
      refine ccase H3 0 rfl (R0 := cexp lk Ls (.index t w z p)) rfl (sarray_any hE hZ hn (H3.nth 0 rfl)) ?_
      rintro q _ w2 - hR ⟨rfl, hp1⟩
      have H4 := St.open_ (L := [scA X S n Ls, blk k (indexC t q.1 q.2 y).toArray 176]) (L' := [A1]) (H3.upd 0 rfl hp1)
      refine ⟨rfl, ptr_some ⟨_, H4.ld 1 rfl (i := 5) rfl, ?_⟩⟩
      have H5 := St.shut (L := [scA X S n Ls, A1]) (L' := [blk k (indexC t q.1 q.2 y).toArray 176]) (H4.pick [0, 2, 1])
      refine ccase H5 0 rfl hR (ih p (by omega) hp _ _ _ h1 (H5.nth 0 rfl)) ?_
      rintro p' _ w3 - hR ⟨rfl, B', hB', hp2⟩
      have H6 := St.open_ (L := [scA X S n Ls, B']) (L' := [blk k (indexC t q.1 q.2 y).toArray 176]) (H5.upd 0 rfl hp2)
      exact ⟨rfl, x_ok hR ⟨k, y, B', hB', rfl, rfl⟩ (shut2 (Bs := [blk k (indexC t q.1 q.2 y).toArray 176, B']) (L := []) (H6.pick [0, 2, 1]))⟩
    | un t p =>
      obtain ⟨k, y, A1, h1, e, rfl⟩ := hP
      cases e
      have hp : p.ok 0 = true := by simpa [T.ok] using hx
      simp only [T.sz] at hsz
      refine tag_ne (by decide) (tag_ne (by decide) (tag_ne (by decide) (tag_eq ⟨_, rfl, ?_⟩)))
      have H4 := open2 (L := []) (St.open_ (L' := []) H)
      refine ptr_some ⟨_, H4.ld 1 rfl (i := 4) rfl, ?_⟩
      have H5 := St.shut (L := [scA X S n Ls, A1]) (L' := [blk k (unC t y).toArray 217]) (H4.pick [0, 2, 1])
      refine ccase H5 0 rfl (R0 := cexp lk Ls (.un t p)) rfl (ih p (by omega) hp _ _ _ h1 (H5.nth 0 rfl)) ?_
      rintro p' _ w3 - hR ⟨rfl, B', hB', hp2⟩
      have H6 := St.open_ (L := [scA X S n Ls, B']) (L' := [blk k (unC t y).toArray 217]) (H5.upd 0 rfl hp2)
      exact ⟨rfl, x_ok hR ⟨k, y, B', hB', rfl, rfl⟩ (shut2 (Bs := [blk k (unC t y).toArray 217, B']) (L := []) (H6.pick [0, 2, 1]))⟩
    | bin t x y =>
      obtain ⟨k, u1, u2, A1, A2, h1, h2, e, rfl⟩ := hP
      cases e
      obtain ⟨hx1, hy1⟩ : x.ok 0 = true ∧ y.ok 0 = true := by simpa [T.ok] using hx
      simp only [T.sz] at hsz
      refine tag_ne (by decide) (tag_ne (by decide) (tag_ne (by decide) (tag_ne (by decide) (tag_eq ⟨_, rfl, ?_⟩))))
      have H4 := open2 (L := []) (St.open_ (L' := []) H)
      refine ptr_some ⟨_, H4.ld 1 rfl (i := 4) rfl, ?_⟩
      have H5 := St.shut (L := [scA X S n Ls, A1]) (L' := [blk k (binC t u1 u2).toArray 230, A2]) (H4.pick [0, 2, 1, 3])
      refine ccase H5 0 rfl (R0 := cexp lk Ls (.bin t x y)) rfl (ih x (by omega) hx1 _ _ _ h1 (H5.nth 0 rfl)) ?_
      rintro x' _ w3 - hR ⟨rfl, B1, hB1, hp2⟩
      have H6 := St.open_ (L := [scA X S n Ls, B1]) (L' := [blk k (binC t u1 u2).toArray 230, A2]) (H5.upd 0 rfl hp2)
      refine ⟨rfl, ptr_some ⟨_, H6.ld 2 rfl (i := 5) rfl, ?_⟩⟩
      have H7 := St.shut (L := [scA X S n Ls, A2]) (L' := [blk k (binC t u1 u2).toArray 230, B1]) (H6.pick [0, 3, 2, 1])
      refine ccase H7 0 rfl hR (ih y (by omega) hy1 _ _ _ h2 (H7.nth 0 rfl)) ?_
      rintro y' _ w4 - hR ⟨rfl, B2, hB2, hp3⟩
      have H8 := St.open_ (L := [scA X S n Ls, B2]) (L' := [blk k (binC t u1 u2).toArray 230, B1]) (H7.upd 0 rfl hp3)
      exact ⟨rfl, x_ok hR ⟨k, u1, u2, B1, B2, hB1, hB2, rfl, rfl⟩ (shut2 (Bs := [blk k (binC t u1 u2).toArray 230, B1, B2]) (L := []) (H8.pick [0, 2, 3, 1]))⟩
    | call t f xs =>
      obtain ⟨k, p, c, us, A1, h1, e, rfl⟩ := hP
      cases e
      have hxs : xs.ok 1 = true := by simpa [T.ok] using hx
      simp only [T.sz] at hsz
      refine tag_ne (by decide) (tag_ne (by decide) (tag_eq ⟨_, rfl, ?_⟩))
      have H2 := open2 (L := []) (St.open_ (L' := []) H)
      have H3 := St.open_ (L := scL X S n Ls) H2
      refine ⟨_, H3.ld 0 rfl (i := 1) rfl, ptr_some ⟨_, H3.ld 5 rfl (i := 1) rfl, mapp_some ⟨X.I, H3.nth 3 rfl, _, rfl, ?_⟩⟩⟩
      have hL := hE.2 n t.s
      have hcx : cexp lk Ls (.call t f xs) = match lk t.s with
        | some (.fn k np) => if 0 ≤ localOf Ls t.s then .err t.line 9 else if np ≠ xs.len then .err t.line 9 else (cexp lk Ls xs).bind fun xs' => .ok (.call t (some ⟨k, 0, none⟩) xs')
        | _ => .err t.line 9 := by rw [cexp]; rfl
      generalize cexp lk Ls (.call t f xs) = R0 at *
      cases hlk : lk t.s with
      | none =>
        rw [hlk] at hL hcx
        rw [show X.I t.s = none from hL]
        refine tag_nil ?_
        refine H3.drN fun w7 H7 => ?_
        refine H7.dr fun w8 H8 => ?_
        exact ptr_some ⟨_, H8.ld 5 rfl (i := 2) rfl, fail_c H8 t.line 9 hcx⟩
      | some g =>
        rw [hlk] at hL hcx
        cases g with
        | var wd z =>
          obtain ⟨i, kv, tv, nv, hI, -⟩ := hL
          rw [hI]
          refine tag_ne (by decide) ?_
          refine H3.drN fun w7 H7 => ?_
          refine H7.dr fun w8 H8 => ?_
          exact ptr_some ⟨_, H8.ld 5 rfl (i := 2) rfl, fail_c H8 t.line 9 hcx⟩
        | fn kf np =>
          obtain ⟨i, hf, slv, hI, hG, rfl, rfl⟩ := hL
          rw [hI]
          refine tag_eq ⟨_, rfl, ?_⟩
          refine H3.drN fun w6 H6 => ?_
          refine H6.dr fun w7 H7 => ?_
          refine ptr_some ⟨_, H7.ld 5 rfl (i := 1) rfl, ?_⟩
          have H7' := St.shut (L := scL X S n Ls) H7
          refine (slocal_any t.s hn (H7'.nth 0 rfl)).mono ?_
          rintro _ w8 ⟨rfl, rfl⟩
          refine ⟨_, rfl, ?_⟩
          refine Sx.split_of (fun h3 => ?_) (fun h3 => ?_)
          · have h3 := of_decide_eq_true h3
            exact ptr_some ⟨_, H7.ld 5 rfl (i := 2) rfl, fail_c H7 t.line 9 (hcx.trans (if_pos h3))⟩
          · have h3 := of_decide_eq_false h3
            have hcx := hcx.trans (if_neg h3)
            have hb : Blk w8 hf.k (fnC hf.t hf.nm (.slice hf.p hf.np hf.c) (pt hf.kb) slv hf.no).toArray 115 := hd_at (H7.nth 4 rfl) hG
            refine ptr_some (ptr_some ⟨_, _, _, hb.cell' (i := 4) rfl, _, _, _, H7.ld 5 rfl (i := 4) rfl, ?_⟩)
            obtain ⟨hl1, hl2⟩ := row_len hxs h1
            refine Sx.split_of (fun h4 => ?_) (fun h4 => ?_)
            · have h4 : hf.np ≠ xs.len := by
                have := bne_iff_ne.1 h4
                omega
              exact ptr_some ⟨_, H7.ld 5 rfl (i := 2) rfl, fail_c H7 t.line 9 (hcx.trans (if_pos h4))⟩
            · have h4 : ¬ hf.np ≠ xs.len := by
                rw [bne_eq_false_iff_eq] at h4
                omega
              have hcx := hcx.trans (if_neg h4)
              refine ptr_some (H7.st 5 rfl (i := 3) (by simp [callC, tkL]) fun w9 H9 => ?_)
              have H10 : St W (all [scA X S n Ls, all [blk k (callC t f (.slice p us.length c)).toArray 214, sl 169 1 (.slice p us.length c) us.length us, A1]]).own w9 [scA X S n Ls, blk k (callC t (some ⟨hf.k, 0, none⟩) (.slice p us.length c)).toArray 214, Sep.sl 169 1 (.slice p us.length c) us.length us, A1] := St.shut (L := scL X S n Ls) (L' := [blk k (callC t (some ⟨hf.k, 0, none⟩) (.slice p us.length c)).toArray 214, Sep.sl 169 1 (.slice p us.length c) us.length us, A1]) H9
              refine ptr_some ⟨_, _, _, H10.ld 1 rfl (i := 4) rfl, ?_⟩
              obtain ⟨As, rfl⟩ : ∃ As, A1 = all As := by
                cases us with
                | nil => have := row_nil hxs h1; subst this; exact ⟨[], h1.2⟩
                | cons u us => obtain ⟨y, ys, B1, Bs, -, -, -, e, -⟩ := row_cons hxs h1; exact ⟨_, e⟩
              refine ⟨fun x w => ∃ (i : Nat) (ts : List T) (us1 us2 : List Value) (As1 As2 : List Asn) (r : T), x = i ∧ us = us1 ++ us2 ∧ us1.length = i ∧ isP (ofTs ts .nil) us1 (all As1) ∧ isP r us2 (all As2) ∧ r.ok 1 = true ∧ r.sz ≤ N ∧
                St W (all [scA X S n Ls, all [blk k (callC t f (.slice p us.length c)).toArray 214, sl 169 1 (.slice p us.length c) us.length us, all As]]).own w [scA X S n Ls, blk k (callC t (some ⟨hf.k, 0, none⟩) (.slice p us.length c)).toArray 214, Sep.sl 169 1 (.slice p us.length c) us.length us, all As1, all As2] ∧
                R0 = (cexp lk Ls r).bind fun r' => .ok (.call t (some ⟨hf.k, 0, none⟩) (ofTs ts r')), fun x _ => ((us.length : Int) - x).toNat, ?_, fun _ x w hI => ?_⟩
              · refine ⟨0, [], [], us, [], As, xs, rfl, rfl, rfl, ⟨rfl, rfl⟩, h1, hxs, by omega, ?_, hcx⟩
                have H11 := H10.add (A := all []) ⟨trivial, XTouch.refl _ _, fun q hq => hq.elim⟩
                exact H11.pick [0, 1, 2, 4, 3]
              obtain ⟨i, ts, us1, us2, As1, As2, r, rfl, rfl, rfl, ht, hr, hro, hrs, H11, hR⟩ := hI
              refine Sx.split_of (fun h5 => ?_) (fun h5 => ?_)
              · have h5 := of_decide_eq_true h5
                rw [List.length_append] at h5
                cases us2 with
                | nil => simp at h5
                | cons u us2 =>
                  obtain ⟨y, ys, B1, Bs, rfl, hy, hys, e, hyo, hyso⟩ := row_cons hro hr
                  rw [e] at H11
                  simp only [T.sz] at hrs
                  refine ⟨⟨by omega, by rw [List.length_append, List.length_cons]; omega⟩, ?_⟩
                  refine sl_get (H11.nth 2 rfl) (i := us1.length) (v := u) (by simp) fun g o hc => ?_
                  rw [ix1]
                  refine ⟨_, hc, ?_⟩
                  have H12 : St W (all [scA X S n Ls, all [blk k (callC t f (.slice p (us1 ++ u :: us2).length c)).toArray 214, sl 169 1 (.slice p (us1 ++ u :: us2).length c) (us1 ++ u :: us2).length (us1 ++ u :: us2), all As]]).own w ((B1 :: Bs) ++ [scA X S n Ls, blk k (callC t (some ⟨hf.k, 0, none⟩) (.slice p (us1 ++ u :: us2).length c)).toArray 214, Sep.sl 169 1 (.slice p (us1 ++ u :: us2).length c) (us1 ++ u :: us2).length (us1 ++ u :: us2), all As1]) := St.open_ (H11.pick [4, 0, 1, 2, 3])
                  have H13 := (St.shut (L := Bs) (L' := [scA X S n Ls, blk k (callC t (some ⟨hf.k, 0, none⟩) (.slice p (us1 ++ u :: us2).length c)).toArray 214, Sep.sl 169 1 (.slice p (us1 ++ u :: us2).length c) (us1 ++ u :: us2).length (us1 ++ u :: us2), all As1, B1]) (H12.perm (by
                    simp only [List.cons_append]
                    refine (List.perm_append_singleton B1 _).symm.trans ?_
                    simp))).pick [1, 5, 2, 3, 4, 0]
                  have H14 := St.shut (L := [scA X S n Ls, B1]) H13
                  refine ccase H14 0 rfl (hR.trans (by rw [cexp, C.bind_assoc])) (ih y (by omega) hyo _ _ _ hy (H14.nth 0 rfl)) ?_
                  rintro y' _ w4 - hR ⟨rfl, B2, hB2, hp3⟩
                  have H15 := St.open_ (L := [scA X S n Ls, B2]) (H14.upd 0 rfl hp3)
                  refine ⟨rfl, ?_⟩
                  rintro z4 rfl
                  rw [show IntKind.wrap .i64 ((us1.length : Nat) + 1 : Int) = ((us1.length + 1 : Nat) : Int) from i64s (b := 1) (by simp at hl1; omega)]
                  obtain ⟨As', hs1, hs2⟩ := isP_snoc hB2 ht
                  have H16 := hs2 _ _ _ _ (H15.pick [4, 1, 0, 2, 3, 5])
                  refine ⟨⟨_, ts ++ [y'], us1 ++ [u], us2, As', Bs, ys, rfl, by simp, by simp, hs1, hys, hyso, by omega, H16.pick [1, 2, 3, 0, 4], ?_⟩, by simp only [List.length_append, List.length_cons]; omega⟩
                  rw [hR, C.bind_assoc]
                  congr 1
                  funext z
                  rw [ofTs_snoc]
                  rfl
              · have h5 := of_decide_eq_false h5
                rw [List.length_append] at h5
                have : us2 = [] := List.eq_nil_of_length_eq_zero (by omega)
                subst this
                have hnil := row_nil hro hr
                subst hnil
                rw [List.append_nil] at H11 ⊢
                exact x_ok hR ⟨k, p, c, us1, all As1, ht, rfl, rfl⟩ (shut2 (L := []) (H11.take 4))
    | nil => cases hx
    | cons => cases hx
    | letS => cases hx
    | setS => cases hx
    | putS => cases hx
    | ifS => cases hx
    | whileS => cases hx
    | retS => cases hx
    | prtS => cases hx
    | doS => cases hx
    | block => cases hx
end Go.Proofs.YtojogkljneonmaaGreatDoor
/- The checker in memory: whole expressions, new locals. No condition. -/
namespace Go.Lang
theorem cexp_ok (lk : Lk) (Ls : Lcs) : ∀ (x : T) (k : Nat) (x' : T), (k = 0 ∨ k = 1) → x.ok k = true → cexp lk Ls x = .ok x' → x'.ok k = true
  | .num .., k, x', hk, hx, h => by cases h; exact hx
  | .nil, k, x', hk, hx, h => by cases h; exact hx
  | .name t s w, k, x', hk, hx, h => by obtain ⟨p, -, h⟩ := C.bind_ok h; cases h; exact hx
  | .index t w z p, k, x', hk, hx, h => by
    obtain ⟨a, -, h⟩ := C.bind_ok h
    obtain ⟨p', h1, h⟩ := C.bind_ok h
    cases h
    rw [T.ok, Bool.and_eq_true] at hx ⊢
    exact ⟨hx.1, cexp_ok lk Ls p 0 p' (.inl rfl) hx.2 h1⟩
  | .call t f xs, k, x', hk, hx, h => by
    rw [cexp] at h
    split at h
    · split at h
      · cases h
      · split at h
        · cases h
        · obtain ⟨p', h1, h⟩ := C.bind_ok h
          cases h
          rw [T.ok, Bool.and_eq_true] at hx ⊢
          exact ⟨hx.1, cexp_ok lk Ls xs 1 p' (.inr rfl) hx.2 h1⟩
    · cases h
  | .un t x, k, x', hk, hx, h => by
    obtain ⟨p', h1, h⟩ := C.bind_ok h
    cases h
    rw [T.ok, Bool.and_eq_true] at hx ⊢
    exact ⟨hx.1, cexp_ok lk Ls x 0 p' (.inl rfl) hx.2 h1⟩
  | .bin t x y, k, x', hk, hx, h => by
    obtain ⟨p', h1, h⟩ := C.bind_ok h
    obtain ⟨q', h2, h⟩ := C.bind_ok h
    cases h
    rw [T.ok, Bool.and_eq_true, Bool.and_eq_true] at hx ⊢
    exact ⟨⟨hx.1.1, cexp_ok lk Ls x 0 p' (.inl rfl) hx.1.2 h1⟩, cexp_ok lk Ls y 0 q' (.inl rfl) hx.2 h2⟩
  | .cons x y, k, x', hk, hx, h => by
    obtain ⟨p', h1, h⟩ := C.bind_ok h
    obtain ⟨q', h2, h⟩ := C.bind_ok h
    cases h
    rcases hk with rfl | rfl
    · cases hx
    · obtain ⟨a, b⟩ := ok_cons hx
      have a' := cexp_ok lk Ls x 0 p' (.inl rfl) a h1
      have b' := cexp_ok lk Ls y 1 q' (.inr rfl) b h2
      rw [T.ok, a', b']; rfl
  | .letS .., k, x', hk, hx, h => by cases h; exact hx
  | .setS .., k, x', hk, hx, h => by cases h; exact hx
  | .putS .., k, x', hk, hx, h => by cases h; exact hx
  | .ifS .., k, x', hk, hx, h => by cases h; exact hx
  | .whileS .., k, x', hk, hx, h => by cases h; exact hx
  | .retS .., k, x', hk, hx, h => by cases h; exact hx
  | .prtS .., k, x', hk, hx, h => by cases h; exact hx
  | .doS .., k, x', hk, hx, h => by cases h; exact hx
  | .block .., k, x', hk, hx, h => by cases h; exact hx
end Go.Lang
namespace Go.Proofs.YtojogkljneonmaaGreatDoor
open Go Go.Proofs Go.Sep Go.XHeap Go.RowKit Go.Lang
set_option linter.unusedVariables false
set_option linter.unusedSimpArgs false
variable {W : World} {X : Cx} {S : Sp} {n : Nat} {Ls : Lcs} {lk : Lk}
theorem swhole_any [Inhabited G3o] (hE : EnvOk lk X) (hZ : SizesOk lk) (hn : Ls.length ≤ 24) {x : T} (hs : x.sz < 4611686018427387904) (hx : x.ok 0 = true) (beside : Nat) (hb : beside ≤ 1) {v : Value} {B : Asn} (hP : isP x [v] B) (h : (all [scA X S n Ls, B]).at_ W) :
    Calls Tryz.prog 115 #[pt X.ks, v, .int .i64 (beside : Int)] W (XAns X S n Ls (all [scA X S n Ls, B]) W v (cwhole lk Ls x beside)) := by
  refine vc115 X.ks 0 v beside ?_
  have H := St.begin h
  refine ccase H 0 rfl (R0 := cwhole lk Ls x beside) rfl (sexpr_any hE hZ hn x.sz x (Nat.le_refl _) hs hx W v B hP h) ?_
  rintro x' _ w2 hr hR ⟨rfl, B', hB', hp⟩
  have H2 := St.open_ (L := [scA X S n Ls, B']) (L' := []) (H.upd 0 rfl hp)
  have hx' := cexp_ok lk Ls x 0 x' (.inl rfl) hx hr
  have hs' := (cexp_len lk Ls x x' hr).2
  obtain ⟨u, vs, hm, hc⟩ := need_any w2 x'.sz x' (Nat.le_refl _) (by omega) hx' v B' hB' (H2.nth 1 rfl)
  refine ⟨rfl, u, vs, hm, hc.mono ?_⟩
  rintro _ w3 ⟨rfl, rfl⟩
  refine ⟨_, rfl, ?_⟩
  rintro z rfl
  have hnl := need_le x' 0
  rw [i64s (by omega)]
  refine Sx.split_of (fun h1 => ?_) (fun h1 => ?_)
  · have h1 := of_decide_eq_true h1
    refine (lineof_any hx' hB' (H2.nth 1 rfl)).mono ?_
    rintro _ w4 ⟨rfl, rfl⟩
    exact ⟨_, rfl, fail_c H2 (lineOf x') 4 (hR.trans (if_pos (by omega)))⟩
  · have h1 := of_decide_eq_false h1
    exact x_ok (hR.trans (if_neg (by omega))) hB' H2
theorem gs_at (hj : X.j < X.G.length) (n : Nat) : (X.gs n)[X.j]? = some (.fn X.h (n : Int)) := by
  unfold Cx.gs
  rw [List.getElem?_set_self hj]
theorem gs_set (n m : Nat) : ((X.gs n).map hdA).set X.j (hdA (.fn X.h (m : Int))) = (X.gs m).map hdA := by
  unfold Cx.gs
  rw [← List.map_set, List.set_set]
theorem slots_set [Inhabited G3o] {w : World} (hj : X.j < X.G.length) (m : Nat) (h : (all ((X.gs n).map hdA)).at_ w) : Post (all ((X.gs n).map hdA)) w (all ((X.gs m).map hdA)) (w.setCell ⟨X.h.k, 6, none⟩ (.int .i64 (m : Int))) := by
  have hb : Blk w X.h.k (fnC X.h.t X.h.nm (.slice X.h.p X.h.np X.h.c) (pt X.h.kb) (n : Int) X.h.no).toArray 115 := hd_at h (gs_at hj n)
  have := all_upd (A := hdA (.fn X.h (n : Int))) (i := X.j) h (by rw [List.getElem?_map, gs_at hj n]; rfl) (post_set hb 6 (.int .i64 (m : Int)))
  rw [← gs_set n m]
  exact this
theorem sdecl_any [Inhabited G3o] (hE : EnvOk lk X) (hL : Ls.length ≤ n) (hn : n ≤ 24) (t : Tok) (s : ByteArray) (h : (scA X S n Ls).at_ W) :
    Calls Tryz.prog 57 #[pt X.ks, .agg (tkL t).toArray, .string s] W (AnsC (scA X S n Ls) W (cdecl lk Ls n t.line s) fun p e w' => e = .returned (.int .i64 (n : Int)) ∧ ∃ S', Post (scA X S n Ls) W (scA X S' p.2 p.1) w') := by
  refine vc57 X.ks 0 (tkL t).toArray s ?_
  refine (St.begin h).al fun kt w2 H2 => ?_
  have H3 : St W (scA X S n Ls).own w2 (scL X S n Ls ++ [blk kt (tkL t).toArray 87]) := St.open_ H2
  refine ⟨_, H3.ld 0 rfl (i := 1) rfl, mapp_some ⟨X.I, H3.nth 3 rfl, _, rfl, ?_⟩⟩
  unfold cdecl
  have hlk : (X.I s).isSome = (lk s).isSome := by
    have := hE.2 n s
    cases hq : lk s with
    | none => rw [hq] at this; rw [show X.I s = none from this]; rfl
    | some g =>
      rw [hq] at this
      cases g with
      | var w z => obtain ⟨i, k, t, nm, e, -⟩ := this; rw [e]; rfl
      | fn k np => obtain ⟨i, hf, slv, e, -⟩ := this; rw [e]; rfl
  rw [hlk]
  refine Sx.split_of (fun h1 => ?_) (fun h1 => ?_)
  · exact ⟨_, H3.ld 5 rfl (i := 2) rfl, fail_c H3 t.line 9 (if_pos h1)⟩
  have e1 : ∀ {y : C (Lcs × Nat)}, (if (lk s).isSome = true then (C.err t.line 9 : C (Lcs × Nat)) else y) = y := fun {y} => if_neg (by rw [h1]; decide)
  rw [e1]
  have H3' := St.shut (L := scL X S n Ls) H3
  refine (slocal_any s (by omega) (H3'.nth 0 rfl)).mono ?_
  rintro _ w4 ⟨rfl, rfl⟩
  refine ⟨_, rfl, Sx.split_of (fun h2 => ?_) (fun h2 => ?_)⟩
  · exact ⟨_, H3.ld 5 rfl (i := 2) rfl, fail_c H3 t.line 9 (if_pos (of_decide_eq_true h2))⟩
  have h2 := of_decide_eq_false h2
  rw [show (if 0 ≤ localOf Ls s then (C.err t.line 9 : C (Lcs × Nat)) else if n = 24 then .err t.line 4 else .ok (Ls ++ [(s, n)], n + 1)) = if n = 24 then .err t.line 4 else .ok (Ls ++ [(s, n)], n + 1) from if_neg h2]
  have rd : ∀ {w : World} {L : List Asn}, L[4]? = some (all ((X.gs n).map hdA)) → St W (scA X S n Ls).own w L → Blk w X.h.k (fnC X.h.t X.h.nm (.slice X.h.p X.h.np X.h.c) (pt X.h.kb) (n : Int) X.h.no).toArray 115 := fun e H => hd_at (H.nth 4 e) (gs_at hE.1 n)
  refine ⟨_, H3.ld 0 rfl (i := 4) rfl, ptr_some ⟨_, (rd rfl H3).cell' (i := 6) rfl, Sx.split_of (fun h3 => ?_) (fun h3 => ?_)⟩⟩
  · have h3 := beq_iff_eq.1 h3
    exact ⟨_, H3.ld 5 rfl (i := 2) rfl, fail_c H3 t.line 4 (if_pos (by omega))⟩
  have h3 : ¬ n = 24 := fun e => by subst e; cases h3
  rw [if_neg h3]
  have l1 : (Ls ++ [(s, n)]).length = Ls.length + 1 := by simp
  refine ⟨fun w => ∃ S', St W (scA X S n Ls).own w (scL X S' n (Ls ++ [(s, n)])), ?_, fun _ w hI => ?_⟩
  · have fin : ∀ {w : World} {L : List Asn} {p p' : Option Addr} {c c' : Nat}, St W (scA X S n Ls).own w ([blk X.ks #[pt X.kp, .map (some X.km), .slice p (Ls.length + 1) c, .slice p' (Ls.length + 1) c', pt X.h.k] 138, sl 9 1 (.slice p (Ls.length + 1) c) (Ls.length + 1) ((Ls.map fun p => Value.string p.1) ++ [.string s]), sl 3 1 (.slice p' (Ls.length + 1) c') (Ls.length + 1) ((Ls.map fun p => Value.int .i64 (p.2 : Int)) ++ [.int .i64 (n : Int)]), mpS X.km X.I, all ((X.gs n).map hdA)] ++ L) → ∃ S', St W (scA X S n Ls).own w (scL X S' n (Ls ++ [(s, n)])) := by
      intro w L p p' c c' H
      refine ⟨⟨p, c, p', c'⟩, ?_⟩
      unfold scL
      rw [l1, List.map_append, List.map_append]
      exact H.sub
    refine H3.dr fun w7 H7 => ?_
    refine ⟨_, _, _, H7.ld 0 rfl (i := 2) rfl, _, _, _, H7.ld 0 rfl (i := 3) rfl, _, H7.ld 0 rfl (i := 4) rfl, ptr_some ⟨_, (rd rfl H7).cell' (i := 6) rfl, ?_, ?_⟩⟩
    · refine H7.alb fun k7 w8 H8 _ hb8 => ⟨hb8, ⟨_, (rd rfl H8).cell' (i := 6) rfl, rfl⟩, ⟨_, H8.ld 0 rfl (i := 4) rfl, rfl⟩, ⟨_, _, _, H8.ld 0 rfl (i := 3) rfl, rfl⟩, ?_, ?_⟩
      · refine H8.app 1 rfl [.string s] (.inr ⟨_, rfl, fun j u hj => ?_⟩) rfl (by simp; rfl) (by show Ls.length + 1 ≤ maxLen; unfold maxLen; omega) (by omega) fun p c w9 H9 => ?_
        · match j, hj with
          | 0, hj => cases hj; exact H8.ld 6 rfl (i := 0) rfl
        refine ⟨⟨_, (rd rfl H9).cell' (i := 6) rfl, rfl⟩, ⟨_, H9.ld 0 rfl (i := 4) rfl, rfl⟩, ⟨_, _, _, H9.ld 0 rfl (i := 3) rfl, rfl⟩, ?_⟩
        refine H9.al fun k16 w10 H10 => ⟨⟨_, _, _, H10.ld 0 rfl (i := 3) rfl, rfl⟩, ?_⟩
        refine H10.app 2 rfl [.int .i64 (n : Int)] (.inr ⟨_, rfl, fun j u hj => ?_⟩) rfl (by simp; rfl) (by show Ls.length + 1 ≤ maxLen; unfold maxLen; omega) (by omega) fun p' c' w11 H11 => ?_
        · match j, hj with
          | 0, hj => cases hj; exact H10.ld 7 rfl (i := 0) rfl
        refine H11.st 0 rfl (i := 2) (by simp) fun w12 H12 => ?_
        refine H12.st 0 rfl (i := 3) (by simp) fun w13 H13 => ?_
        exact fin H13
      · refine H8.alb fun k8 w9 H9 _ hb9 => ⟨(hb8.trans (hb9.mono hb8.size)), ⟨_, _, _, H9.ld 0 rfl (i := 3) rfl, rfl⟩, ?_⟩
        refine H9.app 1 rfl [.string s] (.inr ⟨_, rfl, fun j u hj => ?_⟩) rfl (by simp; rfl) (by show Ls.length + 1 ≤ maxLen; unfold maxLen; omega) (by omega) fun p c w10 H10 => ?_
        · match j, hj with
          | 0, hj => cases hj; exact H9.ld 6 rfl (i := 0) rfl
        refine ⟨⟨_, _, _, H10.ld 0 rfl (i := 3) rfl, rfl⟩, ?_⟩
        refine H10.app 2 rfl [.int .i64 (n : Int)] (.inr ⟨_, rfl, fun j u hj => ?_⟩) rfl (by simp; rfl) (by show Ls.length + 1 ≤ maxLen; unfold maxLen; omega) (by omega) fun p' c' w11 H11 => ?_
        · match j, hj with
          | 0, hj => cases hj; exact H10.ld 7 rfl (i := 0) rfl
        refine H11.st 0 rfl (i := 2) (by simp) fun w12 H12 => ?_
        refine H12.st 0 rfl (i := 3) (by simp) fun w13 H13 => ?_
        exact fin H13
    · refine H7.alb fun k7 w8 H8 _ hb8 => ⟨hb8, ⟨_, _, _, H8.ld 0 rfl (i := 3) rfl, rfl⟩, ?_⟩
      refine H8.alb fun k8 w9 H9 _ hb9 => ⟨(hb8.trans (hb9.mono hb8.size)), ⟨_, _, _, H9.ld 0 rfl (i := 3) rfl, rfl⟩, ?_⟩
      refine H9.app 1 rfl [.string s] (.inr ⟨_, rfl, fun j u hj => ?_⟩) rfl (by simp; rfl) (by show Ls.length + 1 ≤ maxLen; unfold maxLen; omega) (by omega) fun p c w10 H10 => ?_
      · match j, hj with
        | 0, hj => cases hj; exact H9.ld 7 rfl (i := 0) rfl
      refine ⟨⟨_, _, _, H10.ld 0 rfl (i := 3) rfl, rfl⟩, ?_⟩
      refine H10.app 2 rfl [.int .i64 (n : Int)] (.inr ⟨_, rfl, fun j u hj => ?_⟩) rfl (by simp; rfl) (by show Ls.length + 1 ≤ maxLen; unfold maxLen; omega) (by omega) fun p' c' w11 H11 => ?_
      · match j, hj with
        | 0, hj => cases hj; exact H10.ld 6 rfl (i := 0) rfl
      refine H11.st 0 rfl (i := 2) (by simp) fun w12 H12 => ?_
      refine H12.st 0 rfl (i := 3) (by simp) fun w13 H13 => ?_
      exact fin H13
  · obtain ⟨S', H5⟩ := hI
    refine ⟨_, H5.ld 0 rfl (i := 4) rfl, ptr_some ⟨_, (rd rfl H5).cell' (i := 6) rfl, ?_⟩⟩
    rintro z10 rfl
    rw [show IntKind.wrap .i64 ((n : Nat) + 1 : Int) = ((n + 1 : Nat) : Int) from i64s (b := 1) (by omega)]
    refine ptr_some ⟨⟨_, (rd rfl H5).cell' (i := 6) rfl⟩, (rd rfl H5).frozen 6, ?_⟩
    rintro w14 rfl
    have H6 := H5.upd 4 rfl (slots_set hE.1 (n + 1) (H5.nth 4 rfl))
    have hb : Blk _ X.h.k (fnC X.h.t X.h.nm (.slice X.h.p X.h.np X.h.c) (pt X.h.kb) ((n + 1 : Nat) : Int) X.h.no).toArray 115 := hd_at (H6.nth 4 rfl) (gs_at hE.1 (n + 1))
    refine ⟨_, H6.ld 0 rfl (i := 4) rfl, ptr_some ⟨_, hb.cell' (i := 6) rfl, ?_⟩⟩
    rintro z12 rfl
    refine ⟨?_, S', ?_⟩
    · rw [show (((n + 1 : Nat) : Int) - 1) = (n : Int) by omega, Go.Bits.n64 (by omega)]
    · exact (St.shut (L := scL X S' (n + 1) (Ls ++ [(s, n)])) (L' := []) H6).post 0 rfl
end Go.Proofs.YtojogkljneonmaaGreatDoor
/- The checker in memory: blocks. No condition. -/
namespace Go.Lang
theorem cdecl_inv {lk : Lk} {Ls : Lcs} {n : Nat} {line : Int} {s : ByteArray} {p : Lcs × Nat} (h : cdecl lk Ls n line s = .ok p) : p = (Ls ++ [(s, n)], n + 1) ∧ n ≠ 24 := by
  unfold cdecl at h
  split at h
  · cases h
  · split at h
    · cases h
    · split at h
      · cases h
      · rename_i h3; cases h; exact ⟨rfl, h3⟩
/-- what a statement leaves: more locals behind the old ones; never more than slots -/
def Inv (Ls : Lcs) (n : Nat) (q : T × Lcs × Nat) : Prop := Ls <+: q.2.1 ∧ q.2.1.length ≤ q.2.2 ∧ q.2.2 ≤ 24 ∧ n ≤ q.2.2
theorem cst_inv (lk : Lk) : ∀ (x : T) (Ls : Lcs) (n : Nat) (q : T × Lcs × Nat), Ls.length ≤ n → n ≤ 24 → cst lk x Ls n = .ok q → Inv Ls n q
  | .letS t nm s w x, Ls, n, q, h1, h2, h => by
    obtain ⟨x', -, h⟩ := C.bind_ok h
    obtain ⟨p, hp, h⟩ := C.bind_ok h
    obtain ⟨rfl, h3⟩ := cdecl_inv hp
    cases h
    exact ⟨List.prefix_append _ _, by simp; omega, by show n + 1 ≤ 24; omega, by show n ≤ n + 1; omega⟩
  | .setS t s w x, Ls, n, q, h1, h2, h => by
    obtain ⟨p, -, h⟩ := C.bind_ok h
    obtain ⟨x', -, h⟩ := C.bind_ok h
    cases h
    exact ⟨List.prefix_rfl, h1, h2, Nat.le_refl _⟩
  | .putS t w z p x, Ls, n, q, h1, h2, h => by
    obtain ⟨p, -, h⟩ := C.bind_ok h
    obtain ⟨x', -, h⟩ := C.bind_ok h
    obtain ⟨y', -, h⟩ := C.bind_ok h
    cases h
    exact ⟨List.prefix_rfl, h1, h2, Nat.le_refl _⟩
  | .ifS line c a b, Ls, n, q, h1, h2, h => by
    obtain ⟨c', -, h⟩ := C.bind_ok h
    obtain ⟨a', ha, h⟩ := C.bind_ok h
    obtain ⟨b', hb, h⟩ := C.bind_ok h
    cases h
    obtain ⟨i1, i2, i3, i4⟩ := cst_inv lk a Ls n a' h1 h2 ha
    obtain ⟨j1, j2, j3, j4⟩ := cst_inv lk b _ _ b' i2 i3 hb
    exact ⟨i1.trans j1, j2, j3, Nat.le_trans i4 j4⟩
  | .whileS line c b, Ls, n, q, h1, h2, h => by
    obtain ⟨c', -, h⟩ := C.bind_ok h
    obtain ⟨b', hb, h⟩ := C.bind_ok h
    cases h
    exact cst_inv lk b Ls n b' h1 h2 hb
  | .retS line x, Ls, n, q, h1, h2, h => by
    obtain ⟨c', -, h⟩ := C.bind_ok h
    cases h
    exact ⟨List.prefix_rfl, h1, h2, Nat.le_refl _⟩
  | .prtS line x, Ls, n, q, h1, h2, h => by
    obtain ⟨c', -, h⟩ := C.bind_ok h
    cases h
    exact ⟨List.prefix_rfl, h1, h2, Nat.le_refl _⟩
  | .doS line x, Ls, n, q, h1, h2, h => by
    obtain ⟨c', -, h⟩ := C.bind_ok h
    cases h
    exact ⟨List.prefix_rfl, h1, h2, Nat.le_refl _⟩
  | .block line l, Ls, n, q, h1, h2, h => by
    obtain ⟨b', hb, h⟩ := C.bind_ok h
    cases h
    obtain ⟨j1, j2, j3, j4⟩ := cst_inv lk l Ls n b' h1 h2 hb
    exact ⟨List.prefix_rfl, by show Ls.length ≤ b'.2.2; omega, j3, j4⟩
  | .cons a b, Ls, n, q, h1, h2, h => by
    obtain ⟨a', ha, h⟩ := C.bind_ok h
    obtain ⟨b', hb, h⟩ := C.bind_ok h
    cases h
    obtain ⟨i1, i2, i3, i4⟩ := cst_inv lk a Ls n a' h1 h2 ha
    obtain ⟨j1, j2, j3, j4⟩ := cst_inv lk b _ _ b' i2 i3 hb
    exact ⟨i1.trans j1, j2, j3, Nat.le_trans i4 j4⟩
  | .num .., Ls, n, q, h1, h2, h => by cases h; exact ⟨List.prefix_rfl, h1, h2, Nat.le_refl _⟩
  | .name .., Ls, n, q, h1, h2, h => by cases h; exact ⟨List.prefix_rfl, h1, h2, Nat.le_refl _⟩
  | .nil, Ls, n, q, h1, h2, h => by cases h; exact ⟨List.prefix_rfl, h1, h2, Nat.le_refl _⟩
  | .index .., Ls, n, q, h1, h2, h => by cases h; exact ⟨List.prefix_rfl, h1, h2, Nat.le_refl _⟩
  | .call .., Ls, n, q, h1, h2, h => by cases h; exact ⟨List.prefix_rfl, h1, h2, Nat.le_refl _⟩
  | .un .., Ls, n, q, h1, h2, h => by cases h; exact ⟨List.prefix_rfl, h1, h2, Nat.le_refl _⟩
  | .bin .., Ls, n, q, h1, h2, h => by cases h; exact ⟨List.prefix_rfl, h1, h2, Nat.le_refl _⟩
end Go.Lang
namespace Go.Proofs.YtojogkljneonmaaGreatDoor
open Go Go.Proofs Go.Sep Go.XHeap Go.RowKit Go.Lang
set_option linter.unusedVariables false
set_option linter.unusedSimpArgs false
variable {W : World} {X : Cx} {S : Sp} {n : Nat} {Ls : Lcs} {lk : Lk}
theorem row_nil3 {r : T} {A : Asn} (hr : r.ok 3 = true) (h : isP r [] A) : r = .nil := by
  cases r with
  | nil => rfl
  | cons x xs => obtain ⟨v, us, A1, As, -, -, e, -⟩ := h; cases e
  | num => cases hr
  | name => cases hr
  | index => cases hr
  | call => cases hr
  | un => cases hr
  | bin => cases hr
  | letS => cases hr
  | setS => cases hr
  | putS => cases hr
  | ifS => cases hr
  | whileS => cases hr
  | retS => cases hr
  | prtS => cases hr
  | doS => cases hr
  | block => cases hr
theorem row_cons3 {r : T} {v : Value} {us : List Value} {A : Asn} (hr : r.ok 3 = true) (h : isP r (v :: us) A) : ∃ y ys A1 As, r = .cons y ys ∧ isP y [v] A1 ∧ isP ys us (all As) ∧ A = all (A1 :: As) ∧ y.ok 2 = true ∧ ys.ok 3 = true := by
  cases r with
  | nil => obtain ⟨e, -⟩ := h; cases e
  | cons x xs =>
    obtain ⟨v', us', A1, As, h1, h2, e, rfl⟩ := h
    cases e
    exact ⟨x, xs, A1, As, rfl, h1, h2, rfl, ok_cons3 hr⟩
  | num => cases hr
  | name => cases hr
  | index => cases hr
  | call => cases hr
  | un => cases hr
  | bin => cases hr
  | letS => cases hr
  | setS => cases hr
  | putS => cases hr
  | ifS => cases hr
  | whileS => cases hr
  | retS => cases hr
  | prtS => cases hr
  | doS => cases hr
  | block => cases hr
theorem row_len3 [Inhabited G3o] {us : List Value} : ∀ {r : T} {A : Asn}, r.ok 3 = true → isP r us A → us.length = r.len ∧ r.len ≤ r.sz := by
  induction us with
  | nil => intro r A hr h; have := row_nil3 hr h; subst this; exact ⟨rfl, by simp [T.len]⟩
  | cons v us ih =>
    intro r A hr h
    obtain ⟨y, ys, A1, As, rfl, -, h2, -, -, h3⟩ := row_cons3 hr h
    obtain ⟨h4, h5⟩ := ih h3 h2
    exact ⟨by simp [T.len, h4], by simp only [T.len, T.sz]; omega⟩
theorem Sl.pre {w : World} {e size n c i : Nat} {p : Option Addr} {xs : List Value} (h : Sl w e size (.slice p n c) n xs) (hi : i ≤ n) : Sl w e size (.slice p i c) i (xs.take (i * size)) := by
  obtain ⟨hl, h⟩ := h
  have hm : i * size ≤ n * size := Nat.mul_le_mul_right _ hi
  refine ⟨by rw [List.length_take, hl]; omega, ?_⟩
  rcases h with ⟨hv, rfl⟩ | ⟨g, off, cap, cur, hv, hb, h1, h2, h3, h4⟩
  · simp at hv
    obtain ⟨rfl, rfl⟩ := hv
    have : i = 0 := by omega
    subst this
    exact .inl ⟨rfl, rfl⟩
  · simp at hv
    obtain ⟨rfl, rfl⟩ := hv
    exact .inr ⟨g, off, c, cur, rfl, hb, by omega, h2, h3, by rw [← h4, List.take_take, Nat.min_eq_left hm]⟩
theorem own_len {p : Option Addr} {n c n' c' q : Nat} (h : (Value.slice p n c).ownBlock = some q) : (Value.slice p n' c').ownBlock = some q := by
  cases p with
  | none => exact h
  | some a => exact h
/-- the answer of a walk over a statement -/
def SAns (X : Cx) (A0 : Asn) (W : World) (v : Value) (R0 : C (T × Lcs × Nat)) : Ending → World → Prop := AnsC A0 W R0 fun q e w' => e = .returned (.tuple #[]) ∧ ∃ B' S', isP q.1 [v] B' ∧ Post A0 W (all [scA X S' q.2.2 q.2.1, B']) w'
theorem s_ok [Inhabited G3o] {A0 : Asn} {w : World} {v : Value} {R0 : C (T × Lcs × Nat)} {q : T × Lcs × Nat} {B' : Asn} {S' : Sp} (hR : R0 = .ok q) (hP : isP q.1 [v] B') (H : St W A0.own w [scA X S' q.2.2 q.2.1, B']) : SAns X A0 W v R0 (.returned (.tuple #[])) w :=
  ansc_ok hR ⟨rfl, B', S', hP, (St.shut (L := [_, _]) (L' := []) H).post 0 rfl⟩
/-- statements up to a size are walked -/
def Sth (lk : Lk) (X : Cx) (N : Nat) : Prop := ∀ x : T, x.sz ≤ N → x.ok 2 = true → ∀ (W : World) (v : Value) (B : Asn) (S : Sp) (n : Nat) (Ls : Lcs), Ls.length ≤ n → n ≤ 24 → isP x [v] B → (all [scA X S n Ls, B]).at_ W →
  Calls Tryz.prog 97 #[pt X.ks, v] W (SAns X (all [scA X S n Ls, B]) W v (cst lk x Ls n))
theorem sblock_any [Inhabited G3o] {N : Nat} (I : Sth lk X N) (hE : EnvOk lk X) (hN : N < 4611686018427387904) {line : Int} {l : T} (hs : l.sz ≤ N) (hl : l.ok 3 = true) {k : Nat} {B : Asn} (h1 : Ls.length ≤ n) (h2 : n ≤ 24) (hP : isP (.block line l) [.iface 113 (pt k)] B) (h : (all [scA X S n Ls, B]).at_ W) :
    Calls Tryz.prog 58 #[pt X.ks, pt k] W (SAns X (all [scA X S n Ls, B]) W (.iface 113 (pt k)) (cst lk (.block line l) Ls n)) := by
  obtain ⟨kb, p, c, us, A1, hr0, e, rfl⟩ := hP
  cases e
  refine vc58 X.ks 0 k 0 ?_
  have H := open2 (L := []) (St.open_ (L' := []) (St.begin h))
  have H2 := St.open_ (L := scL X S n Ls) H
  refine ⟨_, _, _, H2.ld 0 rfl (i := 2) rfl, _, _, _, H2.ld 5 rfl (i := 0) rfl, ?_⟩
  obtain ⟨hl1, hl2⟩ := row_len3 hl hr0
  obtain ⟨As, rfl⟩ : ∃ As, A1 = all As := by
    cases us with
    | nil => have := row_nil3 hl hr0; subst this; exact ⟨[], hr0.2⟩
    | cons u us => obtain ⟨y, ys, B1, Bs, -, -, -, e, -⟩ := row_cons3 hl hr0; exact ⟨_, e⟩
  have hR0 : cst lk (.block line l) Ls n = (cst lk l Ls n).bind fun l' => .ok (.block line l'.1, Ls, l'.2.2) := rfl
  generalize cst lk (.block line l) Ls n = R0 at *
  refine ⟨fun x w => ∃ (i : Nat) (ts : List T) (us1 us2 : List Value) (As1 As2 : List Asn) (r : T) (S' : Sp) (n' : Nat) (Ls' : Lcs), x = i ∧ us = us1 ++ us2 ∧ us1.length = i ∧ isP (ofTs ts .nil) us1 (all As1) ∧ isP r us2 (all As2) ∧ r.ok 3 = true ∧ r.sz ≤ N ∧ Ls <+: Ls' ∧ Ls'.length ≤ n' ∧ n' ≤ 24 ∧
      St W (all [scA X S n Ls, all [blk k #[.slice p us.length c] 164, sl 161 1 (.slice p us.length c) us.length us, all As]]).own w [scA X S' n' Ls', blk k #[.slice p us.length c] 164, sl 161 1 (.slice p us.length c) us.length us, all As1, all As2] ∧
      R0 = (cst lk r Ls' n').bind fun r' => .ok (.block line (ofTs ts r'.1), Ls, r'.2.2), fun x _ => ((us.length : Int) - x).toNat, ?_, fun _ x w hI => ?_⟩
  · refine ⟨0, [], [], us, [], As, l, S, n, Ls, rfl, rfl, rfl, ⟨rfl, rfl⟩, hr0, hl, hs, List.prefix_rfl, h1, h2, ?_, hR0⟩
    have H11 := H.add (A := all []) ⟨trivial, XTouch.refl _ _, fun q hq => hq.elim⟩
    exact H11.pick [0, 1, 2, 4, 3]
  obtain ⟨i, ts, us1, us2, As1, As2, r, S', n', Ls', rfl, rfl, rfl, ht, hr, hro, hrs, hpre, g1, g2, H11, hR⟩ := hI
  refine Sx.split_of (fun h5 => ?_) (fun h5 => ?_)
  · have h5 := of_decide_eq_true h5
    rw [List.length_append] at h5
    cases us2 with
    | nil => simp at h5
    | cons u us2 =>
      obtain ⟨y, ys, B1, Bs, rfl, hy, hys, e, hyo, hyso⟩ := row_cons3 hro hr
      rw [e] at H11
      simp only [T.sz] at hrs
      refine ⟨⟨by omega, by rw [List.length_append, List.length_cons]; omega⟩, ?_⟩
      refine sl_get (H11.nth 2 rfl) (i := us1.length) (v := u) (by simp) fun g o hc => ?_
      rw [ix1]
      refine ⟨_, hc, ?_⟩
      have H12 : St W (all [scA X S n Ls, all [blk k #[.slice p (us1 ++ u :: us2).length c] 164, sl 161 1 (.slice p (us1 ++ u :: us2).length c) (us1 ++ u :: us2).length (us1 ++ u :: us2), all As]]).own w ((B1 :: Bs) ++ [scA X S' n' Ls', blk k #[.slice p (us1 ++ u :: us2).length c] 164, sl 161 1 (.slice p (us1 ++ u :: us2).length c) (us1 ++ u :: us2).length (us1 ++ u :: us2), all As1]) := St.open_ (H11.pick [4, 0, 1, 2, 3])
      have H13 := (St.shut (L := Bs) (L' := [scA X S' n' Ls', blk k #[.slice p (us1 ++ u :: us2).length c] 164, sl 161 1 (.slice p (us1 ++ u :: us2).length c) (us1 ++ u :: us2).length (us1 ++ u :: us2), all As1, B1]) (H12.perm (by
        simp only [List.cons_append]
        refine (List.perm_append_singleton B1 _).symm.trans ?_
        simp))).pick [1, 5, 2, 3, 4, 0]
      have H14 := St.shut (L := [scA X S' n' Ls', B1]) H13
      refine ccase H14 0 rfl (hR.trans (by rw [cst, C.bind_assoc])) (I y (by omega) hyo _ _ _ _ _ _ g1 g2 hy (H14.nth 0 rfl)) ?_
      rintro q _ w4 hq hR ⟨rfl, B2, S2, hB2, hp3⟩
      obtain ⟨v1, v2, v3, v4⟩ := cst_inv lk y _ _ q g1 g2 hq
      have H15 := St.open_ (L := [scA X S2 q.2.2 q.2.1, B2]) (H14.upd 0 rfl hp3)
      refine ⟨rfl, ?_⟩
      rintro z4 rfl
      rw [show IntKind.wrap .i64 ((us1.length : Nat) + 1 : Int) = ((us1.length + 1 : Nat) : Int) from i64s (b := 1) (by simp at hl1; omega)]
      obtain ⟨As', hs1, hs2⟩ := isP_snoc hB2 ht
      have H16 := hs2 _ _ _ _ (H15.pick [4, 1, 0, 2, 3, 5])
      refine ⟨⟨_, ts ++ [q.1], us1 ++ [u], us2, As', Bs, ys, S2, q.2.2, q.2.1, rfl, by simp, by simp, hs1, hys, hyso, by omega, hpre.trans v1, v2, v3, H16.pick [1, 2, 3, 0, 4], ?_⟩, by simp only [List.length_append, List.length_cons]; omega⟩
      rw [hR, C.bind_assoc]
      congr 1
      funext z
      rw [ofTs_snoc]
      rfl
  · have h5 := of_decide_eq_false h5
    rw [List.length_append] at h5
    have : us2 = [] := List.eq_nil_of_length_eq_zero (by omega)
    subst this
    have hnil := row_nil3 hro hr
    subst hnil
    rw [List.append_nil] at H11 ⊢
    refine H11.dr fun w5 H17 => ?_
    have H18 := St.open_ (L := scL X S' n' Ls') H17
    have hle := hpre.length_le
    obtain ⟨ao, cp, hv, -, -, hcp, -⟩ := (H18.nth 1 rfl : Sl _ _ _ _ _ _).open1
    obtain ⟨ao2, cp2, hv2, -, -, hcp2, -⟩ := (H18.nth 2 rfl : Sl _ _ _ _ _ _).open1
    simp at hv hv2
    refine ⟨_, _, _, H18.ld 0 rfl (i := 2) rfl, ⟨by omega, by omega⟩, _, _, _, H18.ld 0 rfl (i := 3) rfl, ⟨by omega, by omega⟩, ?_⟩
    refine H18.st 0 rfl (i := 2) (by simp) fun w6 H19 => ?_
    refine H19.st 0 rfl (i := 3) (by simp) fun w7 H20 => ?_
    have hm1 : (Ls'.map fun p => Value.string p.1).take (Ls.length * 1) = Ls.map fun p => Value.string p.1 := by
      rw [← List.map_take, Nat.mul_one, ← List.prefix_iff_eq_take.1 hpre]
    have hm2 : (Ls'.map fun p => Value.int .i64 (p.2 : Int)).take (Ls.length * 1) = Ls.map fun p => Value.int .i64 (p.2 : Int) := by
      rw [← List.map_take, Nat.mul_one, ← List.prefix_iff_eq_take.1 hpre]
    have H21 := H20.conv 1 (A' := sl 9 1 (.slice S'.pl Ls.length S'.cl) Ls.length (Ls.map fun p : ByteArray × Nat => Value.string p.1)) rfl (fun h => by rw [← hm1]; exact Sl.pre h hle) (fun q hq => own_len hq)
    have H22 := H21.conv 2 (A' := sl 3 1 (.slice S'.pi Ls.length S'.ci) Ls.length (Ls.map fun p : ByteArray × Nat => Value.int .i64 (p.2 : Int))) rfl (fun h => by rw [← hm2]; exact Sl.pre h hle) (fun q hq => own_len hq)
    have H23 : St W (all [scA X S n Ls, all [blk k #[.slice p us1.length c] 164, sl 161 1 (.slice p us1.length c) us1.length us1, all As]]).own w7 (scL X S' n' Ls ++ [blk k #[.slice p us1.length c] 164, sl 161 1 (.slice p us1.length c) us1.length us1, all As1, all As2]) := by
      exact H22
    have H24 := St.shut (L := scL X S' n' Ls) H23
    exact s_ok (q := (.block line (ofTs ts .nil), Ls, n')) hR ⟨k, p, c, us1, all As1, ht, rfl, rfl⟩ (shut2 (L := []) (H24.take 4))
end Go.Proofs.YtojogkljneonmaaGreatDoor
