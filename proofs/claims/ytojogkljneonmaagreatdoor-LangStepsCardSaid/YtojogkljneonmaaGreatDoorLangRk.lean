import Derived.Test.YtojogkljneonmaaGreatDoorLangZb
import Derived.Test.YtojogkljneonmaaGreatDoorLangY
/- The checker in memory: statements. No condition. -/
namespace Go.Proofs.YtojogkljneonmaaGreatDoor
open Go Go.Proofs Go.Sep Go.XHeap Go.RowKit Go.Lang
set_option linter.unusedVariables false
set_option linter.unusedSimpArgs false
variable {W : World} {X : Cx} {S : Sp} {n : Nat} {Ls : Lcs} {lk : Lk}
theorem block_of {a : T} {q : Value} {A : Asn} (ha : a.ok 2 = true) (h : isP a [.iface 113 q] A) : ∃ line l k, a = .block line l ∧ q = pt k ∧ l.ok 3 = true := by
  cases a with
  | block line l => obtain ⟨k, p, c, us, A1, -, e, -⟩ := h; cases e; exact ⟨line, l, k, rfl, rfl, by simpa [T.ok] using ha⟩
  | nil => cases ha
  | cons => cases ha
  | num => cases ha
  | name => cases ha
  | index => cases ha
  | call => cases ha
  | un => cases ha
  | bin => cases ha
  | letS => obtain ⟨k, k2, v, A1, -, e, -⟩ := h; cases e
  | setS => obtain ⟨k, k2, v, A1, -, e, -⟩ := h; cases e
  | putS => obtain ⟨k, k2, v, u, A1, A2, -, -, e, -⟩ := h; cases e
  | ifS => obtain ⟨k, v, k2, A1, A2, -, -, e, -⟩ := h; cases e
  | whileS => obtain ⟨k, v, k2, A1, A2, -, -, e, -⟩ := h; cases e
  | retS => obtain ⟨k, v, A1, -, e, -⟩ := h; cases e
  | prtS => obtain ⟨k, v, A1, -, e, -⟩ := h; cases e
  | doS => obtain ⟨k, v, A1, -, e, -⟩ := h; cases e
theorem split_true {a b : Prop} (h : a) : Sx.split true a b := h
theorem split_false {a b : Prop} (h : b) : Sx.split false a b := h
theorem sth_all [Inhabited G3o] (hE : EnvOk lk X) (hZ : SizesOk lk) : ∀ N, N < 4611686018427387904 → Sth lk X N := by
  intro N
  induction N with
  | zero => intro _ x hx; cases x <;> simp [T.sz] at hx
  | succ N ih =>
    intro hN x hsz hx W v B S n Ls g1 g2 hP h
    have I := ih (by omega)
    refine vc97 X.ks 0 v ?_
    have H := St.begin h
    have hn : Ls.length ≤ 24 := by omega
    cases x with
    | letS t nm s w x =>
      obtain ⟨k, k2, y, A1, h1, e, rfl⟩ := hP
      cases e
      have hp : x.ok 0 = true := by simpa [T.ok] using hx
      simp only [T.sz] at hsz
      refine tag_eq ⟨_, rfl, ?_⟩
      have H4 := open2 (L := []) (St.open_ (L' := []) H)
      refine ptr_some ⟨_, H4.ld 1 rfl (i := 5) rfl, split_false (ptr_some ⟨_, H4.ld 1 rfl (i := 4) rfl, ?_⟩)⟩
      have H5 := St.shut (L := [scA X S n Ls, A1]) (L' := [blk k (setC t k2 y true).toArray 171, blk k2 (nameC nm s w).toArray 221]) (H4.pick [0, 3, 1, 2])
      refine ccase H5 0 rfl (R0 := cst lk (.letS t nm s w x) Ls n) rfl (swhole_any hE hZ hn (by omega) hp 0 (by omega) h1 (H5.nth 0 rfl)) ?_
      rintro x' _ w3 - hR ⟨rfl, B', hB', hp2⟩
      have H6 := St.open_ (L := [scA X S n Ls, B']) (H5.upd 0 rfl hp2)
      refine ⟨rfl, ptr_some ⟨_, H6.ld 2 rfl (i := 5) rfl, split_true ?_⟩⟩
      refine H6.dr fun w4 H7 => ?_
      refine ptr_some (ptr_some (ptr_some ⟨(tkL t).toArray, rfl, H7.lds 2 rfl (o := 0) (fun j u hj => ?_), _, H7.ld 2 rfl (i := 3) rfl, ptr_some ⟨nm.s, H7.ld 3 rfl (i := 1) rfl, _, H7.ld 2 rfl (i := 3) rfl, ?_⟩⟩))
      · rw [Nat.zero_add]
        unfold setC
        rw [List.getElem?_toArray] at hj ⊢
        rw [List.getElem?_append_left (List.getElem?_eq_some_iff.1 hj).1]; exact hj
      refine ccase H7 0 rfl hR (sdecl_any hE g1 g2 t nm.s (H7.nth 0 rfl)) ?_
      rintro q _ w5 hq hR ⟨rfl, S', hp3⟩
      have H8 := H7.upd 0 rfl hp3
      refine ⟨_, rfl, ⟨_, H8.ld 2 rfl (i := 3) rfl, rfl⟩, ptr_some (H8.st 3 rfl (i := 3) (by simp [nameC, tkL]) fun w6 H9 => ?_)⟩
      have H10 : St W (all [scA X S n Ls, all [blk k (setC t k2 y true).toArray 171, blk k2 (nameC nm s w).toArray 221, A1]]).own w6 [scA X S' q.2 q.1, B', blk k (setC t k2 y true).toArray 171, blk k2 (nameC nm (n : Int) w).toArray 221] := H9
      exact s_ok (q := (.letS t nm (n : Int) w x', q.1, q.2)) hR ⟨k, k2, y, B', hB', rfl, rfl⟩ (shut2 (Bs := [blk k (setC t k2 y true).toArray 171, blk k2 (nameC nm (n : Int) w).toArray 221, B']) (L := []) (H10.pick [0, 2, 3, 1]))
    | setS t s w x =>
      obtain ⟨k, k2, y, A1, h1, e, rfl⟩ := hP
      cases e
      have hp : x.ok 0 = true := by simpa [T.ok] using hx
      simp only [T.sz] at hsz
      refine tag_eq ⟨_, rfl, ?_⟩
      have H4 := open2 (L := []) (St.open_ (L' := []) H)
      refine ptr_some ⟨_, H4.ld 1 rfl (i := 5) rfl, split_true (ptr_some ⟨_, H4.ld 1 rfl (i := 3) rfl, ?_⟩)⟩
      have H5 := St.shut (L := [scA X S n Ls, blk k2 (nameC t s w).toArray 221]) (L' := [blk k (setC t k2 y false).toArray 171, A1]) (H4.pick [0, 2, 1, 3])
      refine ccase H5 0 rfl (R0 := cst lk (.setS t s w x) Ls n) rfl (sword_any hE hn (H5.nth 0 rfl)) ?_
      rintro q _ w3 - hR ⟨rfl, hp2⟩
      have H6 := St.open_ (L := [scA X S n Ls, blk k2 (nameC t q.1 q.2).toArray 221]) (H5.upd 0 rfl hp2)
      refine ⟨rfl, ptr_some ⟨_, H6.ld 2 rfl (i := 4) rfl, ?_⟩⟩
      have H7 := St.shut (L := [scA X S n Ls, A1]) (L' := [blk k (setC t k2 y false).toArray 171, blk k2 (nameC t q.1 q.2).toArray 221]) (H6.pick [0, 3, 2, 1])
      refine ccase H7 0 rfl hR (swhole_any hE hZ hn (by omega) hp 0 (by omega) h1 (H7.nth 0 rfl)) ?_
      rintro x' _ w4 - hR ⟨rfl, B', hB', hp3⟩
      have H8 := St.open_ (L := [scA X S n Ls, B']) (H7.upd 0 rfl hp3)
      refine ⟨rfl, ptr_some ⟨_, H8.ld 2 rfl (i := 5) rfl, split_false ?_⟩⟩
      exact s_ok (q := (.setS t q.1 q.2 x', Ls, n)) hR ⟨k, k2, y, B', hB', rfl, rfl⟩ (shut2 (Bs := [blk k (setC t k2 y false).toArray 171, blk k2 (nameC t q.1 q.2).toArray 221, B']) (L := []) (H8.pick [0, 2, 3, 1]))
    | putS t w z p x =>
      obtain ⟨k, k2, u, y, A1, A2, h1, h2, e, rfl⟩ := hP
      cases e
      obtain ⟨hp, hx2⟩ : p.ok 0 = true ∧ x.ok 0 = true := by simpa [T.ok] using hx
      simp only [T.sz] at hsz
      refine tag_ne (by decide) (tag_eq ⟨_, rfl, ?_⟩)
      have H4 := open2 (L := []) (St.open_ (L' := []) H)
      refine ptr_some ⟨_, H4.ld 1 rfl (i := 0) rfl, ?_⟩
      have H5 := St.shut (L := [scA X S n Ls, blk k2 (indexC t w z u).toArray 176]) (L' := [blk k #[pt k2, y] 179, A1, A2]) (H4.pick [0, 2, 1, 3, 4])
      refine ccase H5 0 rfl (R0 := cst lk (.putS t w z p x) Ls n) rfl (sarray_any hE hZ hn (H5.nth 0 rfl)) ?_
      rintro q _ w3 - hR ⟨rfl, hp2⟩
      have H6 := St.open_ (L := [scA X S n Ls, blk k2 (indexC t q.1 q.2 u).toArray 176]) (H5.upd 0 rfl hp2)
      refine ⟨rfl, ptr_some ⟨_, H6.ld 2 rfl (i := 0) rfl, ptr_some ⟨_, H6.ld 1 rfl (i := 5) rfl, ?_⟩⟩⟩
      have H7 := St.shut (L := [scA X S n Ls, A1]) (L' := [blk k #[pt k2, y] 179, blk k2 (indexC t q.1 q.2 u).toArray 176, A2]) (H6.pick [0, 3, 2, 1, 4])
      refine ccase H7 0 rfl hR (swhole_any hE hZ hn (by omega) hp 0 (by omega) h1 (H7.nth 0 rfl)) ?_
      rintro p' _ w4 - hR ⟨rfl, B1, hB1, hp3⟩
      have H8 := St.open_ (L := [scA X S n Ls, B1]) (H7.upd 0 rfl hp3)
      refine ⟨rfl, ptr_some ⟨_, H8.ld 2 rfl (i := 1) rfl, ?_⟩⟩
      have H9 := St.shut (L := [scA X S n Ls, A2]) (L' := [blk k #[pt k2, y] 179, blk k2 (indexC t q.1 q.2 u).toArray 176, B1]) (H8.pick [0, 4, 2, 3, 1])
      refine ccase H9 0 rfl hR (swhole_any hE hZ hn (by omega) hx2 1 (by omega) h2 (H9.nth 0 rfl)) ?_
      rintro x' _ w5 - hR ⟨rfl, B2, hB2, hp4⟩
      have H10 := St.open_ (L := [scA X S n Ls, B2]) (H9.upd 0 rfl hp4)
      exact ⟨rfl, s_ok (q := (.putS t q.1 q.2 p' x', Ls, n)) hR ⟨k, k2, u, y, B1, B2, hB1, hB2, rfl, rfl⟩ (shut2 (Bs := [blk k #[pt k2, y] 179, blk k2 (indexC t q.1 q.2 u).toArray 176, B1, B2]) (L := []) (H10.pick [0, 2, 3, 4, 1]))⟩
    | ifS line c a b =>
      obtain ⟨k, y, k2, A1, A2, h1, h2, e, hb⟩ := hP
      cases e
      rw [T.ok, Bool.and_eq_true, Bool.and_eq_true, Bool.and_eq_true] at hx
      obtain ⟨⟨⟨-, hc⟩, ha⟩, hbo⟩ := hx
      simp only [T.sz] at hsz
      obtain ⟨la, ll, k2', rfl, e2, hll⟩ := block_of ha h2
      refine tag_ne (by decide) (tag_ne (by decide) (tag_eq ⟨_, rfl, ?_⟩))
      simp only [T.sz] at hsz
      have main : ∀ (z : Option Addr) (L : List Asn), B = all ([blk k #[y, pt k2, .pointer z] 183, A1, A2] ++ L) → ((z = none ∧ b = .nil ∧ L = []) ∨ ∃ k3 A3, z = some ⟨k3, 0, none⟩ ∧ isP b [.iface 113 (pt k3)] A3 ∧ L = [A3]) →
          Sx.ptr (some ⟨k, 0, none⟩) (fun a21 => ∃ v10 : Value, W.cell? (Addr.add a21 0) = some v10 ∧
            Calls Tryz.prog 115 #[pt X.ks, v10, .int .i64 0] W (fun e9 W14 => (e9 = .returned (.tuple #[]) ∧ Sx.ptr (some ⟨k, 0, none⟩) (fun a22 => ∃ p13 : Option Addr, W14.cell? (Addr.add a22 1) = some (.pointer p13) ∧
              Calls Tryz.prog 58 #[pt X.ks, .pointer p13] W14 (fun e10 W15 => (e10 = .returned (.tuple #[]) ∧ Sx.ptr (some ⟨k, 0, none⟩) (fun a23 => ∃ p14 : Option Addr, W15.cell? (Addr.add a23 2) = some (.pointer p14) ∧
                Sx.split p14.isSome (Sx.ptr (some ⟨k, 0, none⟩) (fun a24 => ∃ p15 : Option Addr, W15.cell? (Addr.add a24 2) = some (.pointer p15) ∧
                  Calls Tryz.prog 58 #[pt X.ks, .pointer p15] W15 (fun e11 W16 => (e11 = .returned (.tuple #[]) ∧ SAns X (all [scA X S n Ls, B]) W (.iface 181 (pt k)) (cst lk (.ifS line c (.block la ll) b) Ls n) (.returned (.tuple #[])) W16) ∨ ∃ l9 : List PanicEntry, e11 = .panicked l9 ∧ SAns X (all [scA X S n Ls, B]) W (.iface 181 (pt k)) (cst lk (.ifS line c (.block la ll) b) Ls n) (.panicked l9) W16)))
                  (SAns X (all [scA X S n Ls, B]) W (.iface 181 (pt k)) (cst lk (.ifS line c (.block la ll) b) Ls n) (.returned (.tuple #[])) W15))) ∨ ∃ l10 : List PanicEntry, e10 = .panicked l10 ∧ SAns X (all [scA X S n Ls, B]) W (.iface 181 (pt k)) (cst lk (.ifS line c (.block la ll) b) Ls n) (.panicked l10) W15))) ∨ ∃ l11 : List PanicEntry, e9 = .panicked l11 ∧ SAns X (all [scA X S n Ls, B]) W (.iface 181 (pt k)) (cst lk (.ifS line c (.block la ll) b) Ls n) (.panicked l11) W14)) := by
        rintro z L rfl hz
        have H4 : St W (all [scA X S n Ls, all ([blk k #[y, pt k2, .pointer z] 183, A1, A2] ++ L)]).own W (scA X S n Ls :: (([blk k #[y, pt k2, .pointer z] 183, A1, A2] ++ L) ++ [])) := open2 (L := []) (St.open_ (L' := []) H)
        rw [List.append_nil] at H4
        refine ptr_some ⟨_, H4.ld 1 rfl (i := 0) rfl, ?_⟩
        have H5 := St.shut (L := [scA X S n Ls, A1]) (L' := [blk k #[y, pt k2, .pointer z] 183, A2] ++ L) (H4.perm (List.Perm.cons _ (List.Perm.swap _ _ _)))
        refine ccase H5 0 rfl (R0 := cst lk (.ifS line c (.block la ll) b) Ls n) rfl (swhole_any hE hZ hn (by omega) hc 0 (by omega) h1 (H5.nth 0 rfl)) ?_
        rintro c' _ w3 - hR ⟨rfl, B1, hB1, hp1⟩
        have H6 := St.open_ (L := [scA X S n Ls, B1]) (L' := [blk k #[y, pt k2, .pointer z] 183, A2] ++ L) (H5.upd 0 rfl hp1)
        refine ⟨rfl, ptr_some ⟨_, H6.ld 2 rfl (i := 1) rfl, ?_⟩⟩
        have H7 := St.shut (L := [scA X S n Ls, A2]) (L' := [blk k #[y, pt k2, .pointer z] 183, B1] ++ L) (H6.perm (List.Perm.cons _ ((List.Perm.swap _ _ _).trans ((List.Perm.cons _ (List.Perm.swap _ _ _)).trans (List.Perm.swap _ _ _)))) |>.perm (List.Perm.cons _ (List.Perm.cons _ (List.Perm.refl _))))
        refine ccase H7 0 rfl hR (sblock_any I hE (by omega) (by omega) hll g1 g2 h2 (H7.nth 0 rfl)) ?_
        rintro q _ w4 hq hR ⟨rfl, B2, S2, hB2, hp2⟩
        obtain ⟨v1, v2, v3, v4⟩ := cst_inv lk _ _ _ q g1 g2 hq
        have H8 := St.open_ (L := [scA X S2 q.2.2 q.2.1, B2]) (L' := [blk k #[y, pt k2, .pointer z] 183, B1] ++ L) (H7.upd 0 rfl hp2)
        refine ⟨rfl, ptr_some ⟨_, H8.ld 2 rfl (i := 2) rfl, ?_⟩⟩
        rcases hz with ⟨rfl, rfl, rfl⟩ | ⟨k3, A3, rfl, hb3, rfl⟩
        · refine split_false ?_
          exact s_ok (q := (.ifS line c' q.1 .nil, q.2.1, q.2.2)) hR ⟨k, y, k2, B1, B2, hB1, hB2, rfl, .inl ⟨rfl, rfl⟩⟩ (shut2 (Bs := [blk k #[y, pt k2, .pointer none] 183, B1, B2]) (L := []) (H8.pick [0, 2, 3, 1]))
        · refine split_true (ptr_some ⟨_, H8.ld 2 rfl (i := 2) rfl, ?_⟩)
          have hbo : b.ok 2 = true := by
            rcases Bool.or_eq_true_iff.1 hbo with h | h
            · exact h
            · cases b with
              | nil => obtain ⟨e, -⟩ := hb3; cases e
              | _ => cases h
          obtain ⟨lb, lm, k3', rfl, e3, hlm⟩ := block_of hbo hb3
          simp only [T.sz] at hsz
          have H9 := St.shut (L := [scA X S2 q.2.2 q.2.1, A3]) (L' := [blk k #[y, pt k2, pt k3] 183, B1, B2]) (H8.pick [0, 4, 2, 3, 1])
          refine ccase H9 0 rfl hR (sblock_any I hE (by omega) (by omega) hlm v2 v3 hb3 (H9.nth 0 rfl)) ?_
          rintro q2 _ w5 hq2 hR ⟨rfl, B3, S3, hB3, hp3⟩
          have H10 := St.open_ (L := [scA X S3 q2.2.2 q2.2.1, B3]) (L' := [blk k #[y, pt k2, pt k3] 183, B1, B2]) (H9.upd 0 rfl hp3)
          exact ⟨rfl, s_ok (q := (.ifS line c' q.1 q2.1, q2.2.1, q2.2.2)) hR ⟨k, y, k2, B1, B2, hB1, hB2, rfl, .inr ⟨k3, B3, hB3, rfl⟩⟩ (shut2 (Bs := [blk k #[y, pt k2, pt k3] 183, B1, B2, B3]) (L := []) (H10.pick [0, 2, 3, 4, 1]))⟩
      rcases hb with ⟨rfl, hB⟩ | ⟨k3, A3, hb3, hB⟩
      · exact main none [] hB (.inl ⟨rfl, rfl, rfl⟩)
      · exact main (some ⟨k3, 0, none⟩) [A3] hB (.inr ⟨k3, A3, rfl, hb3, rfl⟩)
    | whileS line c b =>
      obtain ⟨k, y, k2, A1, A2, h1, h2, e, rfl⟩ := hP
      cases e
      obtain ⟨hc, hb⟩ : c.ok 0 = true ∧ b.ok 2 = true := by simpa [T.ok] using hx
      simp only [T.sz] at hsz
      obtain ⟨la, ll, k2', rfl, e2, hll⟩ := block_of hb h2
      simp only [T.sz] at hsz
      refine tag_ne (by decide) (tag_ne (by decide) (tag_ne (by decide) (tag_eq ⟨_, rfl, ?_⟩)))
      have H4 := open2 (L := []) (St.open_ (L' := []) H)
      refine ptr_some ⟨_, H4.ld 1 rfl (i := 0) rfl, ?_⟩
      have H5 := St.shut (L := [scA X S n Ls, A1]) (L' := [blk k #[y, pt k2] 186, A2]) (H4.pick [0, 2, 1, 3])
      refine ccase H5 0 rfl (R0 := cst lk (.whileS line c (.block la ll)) Ls n) rfl (swhole_any hE hZ hn (by omega) hc 0 (by omega) h1 (H5.nth 0 rfl)) ?_
      rintro c' _ w3 - hR ⟨rfl, B1, hB1, hp1⟩
      have H6 := St.open_ (L := [scA X S n Ls, B1]) (L' := [blk k #[y, pt k2] 186, A2]) (H5.upd 0 rfl hp1)
      refine ⟨rfl, ptr_some ⟨_, H6.ld 2 rfl (i := 1) rfl, ?_⟩⟩
      have H7 := St.shut (L := [scA X S n Ls, A2]) (L' := [blk k #[y, pt k2] 186, B1]) (H6.pick [0, 3, 2, 1])
      refine ccase H7 0 rfl hR (sblock_any I hE (by omega) (by omega) hll g1 g2 h2 (H7.nth 0 rfl)) ?_
      rintro q _ w4 hq hR ⟨rfl, B2, S2, hB2, hp2⟩
      have H8 := St.open_ (L := [scA X S2 q.2.2 q.2.1, B2]) (L' := [blk k #[y, pt k2] 186, B1]) (H7.upd 0 rfl hp2)
      exact ⟨rfl, s_ok (q := (.whileS line c' q.1, q.2.1, q.2.2)) hR ⟨k, y, k2, B1, B2, hB1, hB2, rfl, rfl⟩ (shut2 (Bs := [blk k #[y, pt k2] 186, B1, B2]) (L := []) (H8.pick [0, 2, 3, 1]))⟩
    | retS line x =>
      obtain ⟨k, y, A1, h1, e, rfl⟩ := hP
      cases e
      have hp : x.ok 0 = true := by simpa [T.ok] using hx
      simp only [T.sz] at hsz
      refine tag_ne (by decide) (tag_ne (by decide) (tag_ne (by decide) (tag_ne (by decide) (tag_eq ⟨_, rfl, ?_⟩))))
      have H4 := open2 (L := []) (St.open_ (L' := []) H)
      refine ptr_some ⟨_, H4.ld 1 rfl (i := 0) rfl, ?_⟩
      have H5 := St.shut (L := [scA X S n Ls, A1]) (L' := [blk k #[y] 189]) (H4.pick [0, 2, 1])
      refine ccase H5 0 rfl (R0 := cst lk (.retS line x) Ls n) rfl (swhole_any hE hZ hn (by omega) hp 0 (by omega) h1 (H5.nth 0 rfl)) ?_
      rintro x' _ w3 - hR ⟨rfl, B1, hB1, hp1⟩
      have H6 := St.open_ (L := [scA X S n Ls, B1]) (L' := [blk k #[y] 189]) (H5.upd 0 rfl hp1)
      exact ⟨rfl, s_ok (q := (.retS line x', Ls, n)) hR ⟨k, y, B1, hB1, rfl, rfl⟩ (shut2 (Bs := [blk k #[y] 189, B1]) (L := []) (H6.pick [0, 2, 1]))⟩
    | prtS line x =>
      obtain ⟨k, y, A1, h1, e, rfl⟩ := hP
      cases e
      have hp : x.ok 0 = true := by simpa [T.ok] using hx
      simp only [T.sz] at hsz
      refine tag_ne (by decide) (tag_ne (by decide) (tag_ne (by decide) (tag_ne (by decide) (tag_ne (by decide) (tag_eq ⟨_, rfl, ?_⟩)))))
      have H4 := open2 (L := []) (St.open_ (L' := []) H)
      refine ptr_some ⟨_, H4.ld 1 rfl (i := 0) rfl, ?_⟩
      have H5 := St.shut (L := [scA X S n Ls, A1]) (L' := [blk k #[y] 191]) (H4.pick [0, 2, 1])
      refine ccase H5 0 rfl (R0 := cst lk (.prtS line x) Ls n) rfl (swhole_any hE hZ hn (by omega) hp 0 (by omega) h1 (H5.nth 0 rfl)) ?_
      rintro x' _ w3 - hR ⟨rfl, B1, hB1, hp1⟩
      have H6 := St.open_ (L := [scA X S n Ls, B1]) (L' := [blk k #[y] 191]) (H5.upd 0 rfl hp1)
      exact ⟨rfl, s_ok (q := (.prtS line x', Ls, n)) hR ⟨k, y, B1, hB1, rfl, rfl⟩ (shut2 (Bs := [blk k #[y] 191, B1]) (L := []) (H6.pick [0, 2, 1]))⟩
    | doS line x =>
      obtain ⟨k, k2, A1, h1, e, rfl⟩ := hP
      cases e
      have hp : x.ok 0 = true := by simpa [T.ok] using hx
      simp only [T.sz] at hsz
      refine tag_ne (by decide) (tag_ne (by decide) (tag_ne (by decide) (tag_ne (by decide) (tag_ne (by decide) (tag_ne (by decide) (tag_eq ⟨_, rfl, ?_⟩))))))
      have H4 := open2 (L := []) (St.open_ (L' := []) H)
      refine ptr_some ⟨_, H4.ld 1 rfl (i := 0) rfl, ?_⟩
      have H5 := St.shut (L := [scA X S n Ls, A1]) (L' := [blk k #[pt k2] 195]) (H4.pick [0, 2, 1])
      refine ccase H5 0 rfl (R0 := cst lk (.doS line x) Ls n) rfl (swhole_any hE hZ hn (by omega) hp 0 (by omega) h1 (H5.nth 0 rfl)) ?_
      rintro x' _ w3 - hR ⟨rfl, B1, hB1, hp1⟩
      have H6 := St.open_ (L := [scA X S n Ls, B1]) (L' := [blk k #[pt k2] 195]) (H5.upd 0 rfl hp1)
      exact ⟨rfl, s_ok (q := (.doS line x', Ls, n)) hR ⟨k, k2, B1, hB1, rfl, rfl⟩ (shut2 (Bs := [blk k #[pt k2] 195, B1]) (L := []) (H6.pick [0, 2, 1]))⟩
    | block line l =>
      have hP' := hP
      obtain ⟨k, p, c, us, A1, h1, e, rfl⟩ := hP
      cases e
      have hl : l.ok 3 = true := by simpa [T.ok] using hx
      simp only [T.sz] at hsz
      refine tag_ne (by decide) (tag_ne (by decide) (tag_ne (by decide) (tag_ne (by decide) (tag_ne (by decide) (tag_ne (by decide) (tag_ne (by decide) (tag_eq ⟨_, rfl, ?_⟩)))))))
      refine (sblock_any I hE (by omega) (by omega) hl g1 g2 hP' h).mono ?_
      intro e w2 he
      generalize cst lk (.block line l) Ls n = R0 at *
      cases R0 with
      | ok q => obtain ⟨rfl, hr⟩ := he; exact .inl ⟨rfl, rfl, hr⟩
      | err line en => obtain ⟨b, rfl, hr⟩ := he; exact .inr ⟨_, rfl, b, rfl, hr⟩
    | num => cases hx
    | name => cases hx
    | index => cases hx
    | call => cases hx
    | un => cases hx
    | bin => cases hx
    | nil => cases hx
    | cons => cases hx
end Go.Proofs.YtojogkljneonmaaGreatDoor
/- The checker: declarations, in plain Lean and in memory. No condition. -/
namespace Go.Lang
def D.nm : D → ByteArray
  | .var _ n _ _ => n
  | .fn _ n _ _ _ _ => n
def cMain : ByteArray := ofL [109, 97, 105, 110]
/-- each variable's first word, each function's number -/
def count : List D → Nat → Nat → List D
  | [], _, _ => []
  | .var t n _ z :: r, tot, no => .var t n (tot : Int) z :: count r (tot + max 1 z.toNat) no
  | .fn t n ps s _ b :: r, tot, no => .fn t n ps s (no : Int) b :: count r tot (no + 1)
def total : List D → Nat
  | [] => 0
  | .var _ _ _ z :: r => max 1 z.toNat + total r
  | .fn .. :: r => total r
def glOf (a : Nat) : D → Gl
  | .var _ _ w z => .var w z
  | .fn _ _ ps _ _ _ => .fn a ps.length
/-- the first declaration of a name -/
def firstOf (ds : List D) (s : ByteArray) : Option Nat := ds.findIdx? fun d => decide (d.nm = s)
def lkOf (ad : Nat → Nat) (ds : List D) : Lk := fun s => (firstOf ds s).bind fun i => (ds[i]?).map (glOf (ad i))
def cpars (lk : Lk) (line : Int) : List ByteArray → Lcs → Nat → C (Lcs × Nat)
  | [], Ls, n => .ok (Ls, n)
  | p :: ps, Ls, n => (cdecl lk Ls n line p).bind fun q => cpars lk line ps q.1 q.2
def cone (lk : Lk) (dup : Bool) : D → C D
  | .var t nm w z => if dup then .err t.line 9 else if 512 < w + max 1 z then .err t.line 1 else .ok (.var t nm w z)
  | .fn t nm ps _ no b => if dup then .err t.line 9 else (cpars lk t.line ps [] 0).bind fun q => (cst lk b q.1 q.2).bind fun r => .ok (.fn t nm ps (r.2.2 : Int) no r.1)
def crest (lk : Lk) (ds0 : List D) : Nat → List D → C (List D)
  | _, [] => .ok []
  | i, d :: r => (cone lk (decide (firstOf ds0 d.nm ≠ some i)) d).bind fun d' => (crest lk ds0 (i + 1) r).bind fun r' => .ok (d' :: r')
/-- a program's declarations are checked; where main stands -/
def check (ad : Nat → Nat) (ds : List D) : C (List D × Nat) :=
  (crest (lkOf ad (count ds 0 0)) (count ds 0 0) 0 (count ds 0 0)).bind fun ds' => match lkOf ad (count ds 0 0) cMain with
    | some (.fn k np) => if 0 < np then .err 0 9 else .ok (ds', k)
    | _ => .err 0 9
end Go.Lang
namespace Go.Proofs.YtojogkljneonmaaGreatDoor
open Go Go.Proofs Go.Sep Go.XHeap Go.RowKit Go.Lang
set_option linter.unusedVariables false
set_option linter.unusedSimpArgs false
variable {W : World}
def gval : Gd → Value
  | .var k _ _ _ _ => .iface 125 (pt k)
  | .fn h _ => .iface 63 (pt h.k)
def gkey : Gd → Nat
  | .var k _ _ _ _ => k
  | .fn h _ => h.k
def gnm : Gd → ByteArray
  | .var _ _ nm _ _ => nm
  | .fn h _ => h.nm
/-- a declaration in memory: its header, its parameters, its body -/
structure Dm where
  g : Gd
  ps : List ByteArray
  bd : T
  B : Asn
def Dm.d (m : Dm) : D := match m.g with
  | .var _ t nm w z => .var t nm w z
  | .fn h s => .fn h.t h.nm m.ps s h.no m.bd
def Dm.Ok (m : Dm) : Prop := match m.g with
  | .var _ _ _ _ z => 0 ≤ z ∧ z ≤ 256
  | .fn h _ => h.np = m.ps.length ∧ isP m.bd [.iface 113 (pt h.kb)] m.B ∧ m.bd.ok 2 = true ∧ m.bd.sz < 1000000 ∧ m.ps.length ≤ 6
def rsA (m : Dm) : Asn := match m.g with
  | .var .. => emp
  | .fn h _ => all [sl 9 1 (.slice h.p h.np h.c) h.np (strs m.ps), m.B]
theorem dm_nm (m : Dm) : m.d.nm = gnm m.g := by
  unfold Dm.d
  cases m.g <;> rfl
/-- the names' map -/
def mapOf (gs : List Gd) : ByteArray → Option Value := fun s => (gs.find? fun g => decide (gnm g = s)).map gval
theorem mapOf_snoc (gs : List Gd) (g : Gd) : mapOf (gs ++ [g]) = if (mapOf gs (gnm g)).isSome then mapOf gs else Sx.updS (mapOf gs) (gnm g) (some (gval g)) := by
  funext s
  unfold mapOf
  rw [List.find?_append]
  cases h : gs.find? fun x => decide (gnm x = gnm g) with
  | some y =>
    simp only [Option.map_some, Option.isSome_some, if_true]
    by_cases e : gnm g = s
    · subst e; rw [h]; rfl
    · have : ([g].find? fun x => decide (gnm x = s)) = none := by simp [e]
      rw [this]
      cases (gs.find? fun x => decide (gnm x = s)) <;> rfl
  | none =>
    simp only [Option.map_none, Option.isSome_none, Bool.false_eq_true, if_false]
    unfold Sx.updS
    by_cases e : gnm g = s
    · subst e; rw [h, if_pos rfl]
      simp
    · have : ([g].find? fun x => decide (gnm x = s)) = none := by simp [e]
      rw [this, if_neg (fun h => e h.symm), Option.or_none]
/-- words and numbers, of headers -/
def countG : List Gd → Nat → Nat → List Gd
  | [], _, _ => []
  | .var k t n _ z :: r, tot, no => .var k t n (tot : Int) z :: countG r (tot + max 1 z.toNat) no
  | .fn h s :: r, tot, no => .fn { h with no := (no : Int) } s :: countG r tot (no + 1)
def fnsOf : List Gd → List Value
  | [] => []
  | .var .. :: r => fnsOf r
  | .fn h _ :: r => pt h.k :: fnsOf r
theorem fnsOf_append : ∀ (a b : List Gd), fnsOf (a ++ b) = fnsOf a ++ fnsOf b
  | [], b => rfl
  | .var .. :: r, b => fnsOf_append r b
  | .fn h _ :: r, b => by simp [fnsOf, fnsOf_append r b]
theorem perm_erase {α : Type} : ∀ {L : List α} {i : Nat} {a : α}, L[i]? = some a → L.Perm (a :: L.eraseIdx i)
  | [], i, a, h => by simp at h
  | x :: L, 0, a, h => by simp at h; subst h; exact List.Perm.refl _
  | x :: L, i + 1, a, h => by
    have h : L[i]? = some a := by simpa using h
    exact ((perm_erase h).cons x).trans (List.Perm.swap _ _ _)
theorem focus [Inhabited G3o] {w0 w : World} {M : Nat → Prop} {L L' : List Asn} {A : Asn} {i : Nat} (H : St w0 M w (all L :: L')) (hi : L[i]? = some A) : St w0 M w (A :: all (L.eraseIdx i) :: L') :=
  shut2 (Bs := L.eraseIdx i) ((St.open_ H).perm ((perm_erase hi).append_right L'))
theorem unfocus [Inhabited G3o] {w0 w : World} {M : Nat → Prop} {L L' : List Asn} {A' : Asn} {i : Nat} (H : St w0 M w (A' :: all (L.eraseIdx i) :: L')) (hi : i < L.length) : St w0 M w (all (L.set i A') :: L') := by
  have h1 : (L.set i A')[i]? = some A' := List.getElem?_set_self hi
  have h2 : (L.set i A').eraseIdx i = L.eraseIdx i := by rw [List.eraseIdx_set_eq]
  have := perm_erase h1
  rw [h2] at this
  exact St.shut ((open2 (A := A') (Bs := L.eraseIdx i) (L := L') H).perm ((this.append_right L').symm))
/-- a header's cell is written -/
theorem hd_set [Inhabited G3o] {w : World} {G : List Gd} {i c : Nat} {g g' : Gd} {v : Value} {cs : Array Value} {t : TypeId} (h : (all (G.map hdA)).at_ w) (hi : G[i]? = some g) (hg : hdA g = blk (gkey g) cs t) (hg' : hdA g' = blk (gkey g) (cs.setIfInBounds c v) t) : Post (all (G.map hdA)) w (all ((G.set i g').map hdA)) (w.setCell ⟨gkey g, c, none⟩ v) := by
  have hb : Blk w (gkey g) cs t := by have := hd_at h hi; rw [hg] at this; exact this
  have := all_upd (A := hdA g) (A' := hdA g') (i := i) h (by rw [List.getElem?_map, hi]; rfl) (by rw [hg, hg']; exact post_set hb c v)
  rw [List.map_set]
  exact this
end Go.Proofs.YtojogkljneonmaaGreatDoor
/- The reference's checker in plain Lean, over rows of nodes; it says what the plain checker says. No condition. -/
namespace Go.Lang
set_option linter.unusedVariables false
/-- a declaration as the reference's checker finds it: kind, value, number of names -/
abbrev Gf := ByteArray → Option (ByteArray × Int × Nat)
def globF : Fo → Gf
  | .nil, _ => none
  | .cons k n _ v _ ns r, s => if n = s then some (k, v, ns.length) else globF r s
def hasN (Ls : List ByteArray) (s : ByteArray) : Bool := Ls.any fun t => decide (t = s)
theorem hasN_iff {Ls : List ByteArray} {s : ByteArray} : hasN Ls s = true ↔ s ∈ Ls := by
  unfold hasN; rw [List.any_eq_true]
  exact ⟨fun ⟨t, h, e⟩ => (of_decide_eq_true e) ▸ h, fun h => ⟨s, h, decide_eq_true rfl⟩⟩
def fsc (g : Gf) (Ls : List ByteArray) (s : ByteArray) (line : Int) : C Unit :=
  if hasN Ls s then .ok () else match g s with
    | some (k, v, _) => if k ≠ cVar then .err line 9 else if 0 < v then .err line 9 else .ok ()
    | none => .err line 9
def farr (g : Gf) (Ls : List ByteArray) (s : ByteArray) (line : Int) : C Unit :=
  if hasN Ls s then .err line 9 else match g s with
    | some (k, v, _) => if k ≠ cVar then .err line 9 else if v = 0 then .err line 9 else .ok ()
    | none => .err line 9
def fcal (g : Gf) (Ls : List ByteArray) (s : ByteArray) (line : Int) (m : Nat) : C Unit :=
  if hasN Ls s then .err line 9 else match g s with
    | some (k, _, np) => if k ≠ cFunc then .err line 9 else if np ≠ m then .err line 9 else .ok ()
    | none => .err line 9
def fname (g : Gf) (Ls : List ByteArray) (k s : ByteArray) (line : Int) (m : Nat) : C Unit :=
  if k = cNameK then fsc g Ls s line else if k = cIndexK then farr g Ls s line else if k = cCallK then fcal g Ls s line m else .ok ()
/-- the names of a row of expressions -/
def finner (g : Gf) (Ls : List ByteArray) : Fo → C Unit
  | .nil => .ok ()
  | .cons k s line _ ks _ r => (fname g Ls k s line ks.len).bind fun _ => (finner g Ls ks).bind fun _ => finner g Ls r
def plusOf (k s : ByteArray) : Bool := decide (k = cCallK) || (decide (k = cBinK) && (!decide (s = ofL [38, 38])) && !decide (s = ofL [124, 124]))
/-- what a row of expressions needs, from a place on -/
def fneed (plus : Bool) : Fo → Nat → Nat
  | .nil, _ => 1
  | .cons k s _ _ ks _ r, i => max (fneed (plusOf k s) ks 0 + if plus then i else 0) (fneed plus r (i + 1))
/-- the first of a row, whole -/
def fwhole (g : Gf) (Ls : List ByteArray) (beside : Nat) : Fo → C Unit
  | .nil => .ok ()
  | .cons k s line _ ks _ _ => (fname g Ls k s line ks.len).bind fun _ => (finner g Ls ks).bind fun _ => if 8 < fneed (plusOf k s) ks 0 + beside then .err line 4 else .ok ()
def fdecl (g : Gf) (Ls : List ByteArray) (n : Nat) (line : Int) (s : ByteArray) : C (List ByteArray × Nat) :=
  if (g s).isSome || hasN Ls s then .err line 9 else if 24 < n + 1 then .err line 4 else .ok (Ls ++ [s], n + 1)
def fpre (g : Gf) (Ls : List ByteArray) (k s : ByteArray) (line : Int) : C Unit :=
  if k = cSetK then fsc g Ls s line else if k = cPutK then farr g Ls s line else .ok ()
def Fo.tl : Fo → Fo
  | .nil => .nil
  | .cons _ _ _ _ _ _ r => r
def Fo.sz : Fo → Nat
  | .nil => 0
  | .cons _ _ _ _ ks _ r => ks.sz + r.sz + 1
theorem Fo.tl_le (f : Fo) : f.tl.sz ≤ f.sz := by
  cases f with
  | nil => exact Nat.le_refl _
  | cons => simp only [Fo.tl, Fo.sz]; omega
/-- a row of statements: what is visible behind it, how many locals there were -/
def fst' (g : Gf) : Fo → List ByteArray → Nat → C (List ByteArray × Nat)
  | .nil, Ls, n => .ok (Ls, n)
  | .cons k s line v ks ns r, Ls, n =>
    (if k = cBlockK then (fst' g ks Ls n).bind fun p => .ok (Ls, p.2)
      else (fpre g Ls k s line).bind fun _ => (fwhole g Ls 0 ks).bind fun _ =>
        if k = cLet then fdecl g Ls n line s
        else if k = cPutK then (fwhole g Ls 1 ks.tl).bind fun _ => .ok (Ls, n)
        else if k = cIf ∨ k = cWhile then fst' g ks.tl Ls n
        else .ok (Ls, n)).bind fun p => fst' g r p.1 p.2
termination_by f => f.sz
decreasing_by
  all_goals simp only [Fo.sz]
  all_goals (try have := Fo.tl_le ks)
  all_goals omega
def fpars (g : Gf) (line : Int) : List ByteArray → List ByteArray → Nat → C (List ByteArray × Nat)
  | [], Ls, n => .ok (Ls, n)
  | p :: ps, Ls, n => (fdecl g Ls n line p).bind fun q => fpars g line ps q.1 q.2
/-- declarations behind others: their names, their words -/
def fcr (g : Gf) : List ByteArray → Nat → Fo → C Unit
  | _, _, .nil => .ok ()
  | seen, w, .cons k s line v ks ns r =>
    (if hasN seen s then .err line 9 else if k = cVar then (if 512 < w + (if v = 0 then 1 else v.toNat) then .err line 1 else .ok ())
      else (fpars g line ns [] 0).bind fun p => (fst' g ks p.1 p.2).bind fun _ => .ok ()).bind fun _ => fcr g (seen ++ [s]) (w + (if k = cVar then (if v = 0 then 1 else v.toNat) else v.toNat)) r
def fcheck (f : Fo) : C Unit := (fcr (globF f) [] 0 f).bind fun _ => match globF f cMain with
  | some (k, _, np) => if k ≠ cFunc then .err 0 9 else if 0 < np then .err 0 9 else .ok ()
  | none => .err 0 9
/-! ### the same as the plain checker -/
def C.er {α : Type} : C α → C Unit
  | .ok _ => .ok ()
  | .err l e => .err l e
/-- what is looked up is the same -/
def RelG (lk : Lk) (g : Gf) : Prop := ∀ s, match lk s with
  | none => g s = none
  | some (.var _ z) => ∃ m, g s = some (cVar, z, m)
  | some (.fn _ np) => ∃ v, g s = some (cFunc, v, np)
theorem localOf_iff (Ls : Lcs) (s : ByteArray) : 0 ≤ localOf Ls s ↔ hasN (Ls.map Prod.fst) s = true := by
  rw [hasN_iff]
  unfold localOf
  cases h : Ls.find? fun p => decide (p.1 = s) with
  | some p =>
    have h1 := List.mem_of_find?_eq_some h
    have h2 := List.find?_some h
    simp only [decide_eq_true_eq] at h2
    exact ⟨fun _ => List.mem_map.2 ⟨p, h1, h2⟩, fun _ => by show (0 : Int) ≤ (p.2 : Int); omega⟩
  | none =>
    rw [List.find?_eq_none] at h
    refine ⟨fun h => by exact absurd h (by show ¬ (0 : Int) ≤ -1; omega), fun h2 => ?_⟩
    obtain ⟨p, hp, e⟩ := List.mem_map.1 h2
    exact absurd (by simpa using e) (h p hp)
variable {lk : Lk} {g : Gf}
theorem fsc_eq (hR : RelG lk g) (Ls : Lcs) (t : Tok) (w : Int) : fsc g (Ls.map Prod.fst) t.s t.line = (cword lk Ls t w).er := by
  unfold fsc cword
  have := hR t.s
  by_cases h : 0 ≤ localOf Ls t.s
  · rw [if_pos h, if_pos ((localOf_iff Ls t.s).1 h)]; rfl
  · rw [if_neg h, if_neg (fun e => h ((localOf_iff Ls t.s).2 e))]
    cases hl : lk t.s with
    | none => rw [hl] at this; rw [this]; rfl
    | some x =>
      rw [hl] at this
      cases x with
      | var wd z =>
        obtain ⟨m, hg⟩ := this
        rw [hg]
        simp only [ne_eq, not_true_eq_false, if_false]
        by_cases hz : 0 < z
        · rw [if_pos hz, if_pos hz]; rfl
        · rw [if_neg hz, if_neg hz]; rfl
      | fn k np =>
        obtain ⟨v, hg⟩ := this
        rw [hg]
        simp only
        rw [if_pos (by decide)]; rfl
theorem farr_eq (hR : RelG lk g) (Ls : Lcs) (t : Tok) : farr g (Ls.map Prod.fst) t.s t.line = (carr lk Ls t).er := by
  unfold farr carr
  have := hR t.s
  by_cases h : 0 ≤ localOf Ls t.s
  · rw [if_pos ((localOf_iff Ls t.s).1 h)]
    cases hl : lk t.s with
    | none => rfl
    | some x =>
      cases x with
      | var wd z =>
        simp only
        by_cases hz : z = 0
        · rw [if_pos hz]; rfl
        · rw [if_neg hz, if_pos h]; rfl
      | fn k np => rfl
  · rw [if_neg (fun e => h ((localOf_iff Ls t.s).2 e))]
    cases hl : lk t.s with
    | none => rw [hl] at this; rw [this]; rfl
    | some x =>
      rw [hl] at this
      cases x with
      | var wd z =>
        obtain ⟨m, hg⟩ := this
        rw [hg]
        simp only [ne_eq, not_true_eq_false, if_false]
        by_cases hz : z = 0
        · rw [if_pos hz, if_pos hz]; rfl
        · rw [if_neg hz, if_neg hz, if_neg h]; rfl
      | fn k np =>
        obtain ⟨v, hg⟩ := this
        rw [hg]
        simp only
        rw [if_pos (by decide)]; rfl
theorem fneed_pos : ∀ (plus : Bool) (f : Fo) (i : Nat), 1 ≤ fneed plus f i
  | plus, .nil, i => Nat.le_refl _
  | plus, .cons k s l v ks ns r, i => by
    have h2 := fneed_pos plus r (i + 1)
    simp only [fneed]
    omega
def fone (g : Gf) (k s : ByteArray) (line : Int) (ks : Fo) (Ls : List ByteArray) (n : Nat) : C (List ByteArray × Nat) :=
  if k = cBlockK then (fst' g ks Ls n).bind fun p => .ok (Ls, p.2)
  else (fpre g Ls k s line).bind fun _ => (fwhole g Ls 0 ks).bind fun _ =>
    if k = cLet then fdecl g Ls n line s
    else if k = cPutK then (fwhole g Ls 1 ks.tl).bind fun _ => .ok (Ls, n)
    else if k = cIf ∨ k = cWhile then fst' g ks.tl Ls n
    else .ok (Ls, n)
theorem fst_one (g : Gf) (k s : ByteArray) (line v : Int) (ks : Fo) (ns : List ByteArray) (r : Fo) (Ls : List ByteArray) (n : Nat) : fst' g (.cons k s line v ks ns r) Ls n = (fone g k s line ks Ls n).bind fun p => fst' g r p.1 p.2 := by
  rw [fst']
  rfl
theorem fst_nil (g : Gf) (Ls : List ByteArray) (n : Nat) : fst' g .nil Ls n = .ok (Ls, n) := by rw [fst']
/-- locals that were visible stay; there are no more than were counted -/
theorem fst_pre (g : Gf) : ∀ (N : Nat) (f : Fo), f.sz < N → ∀ (Ls Ls' : List ByteArray) (n n' : Nat), fst' g f Ls n = .ok (Ls', n') → Ls.length ≤ n → n ≤ 24 → (∃ ex, Ls' = Ls ++ ex) ∧ Ls'.length ≤ n' ∧ n' ≤ 24
  | 0, f, h, _, _, _, _, _, _, _ => by omega
  | N + 1, .nil, h, Ls, Ls', n, n', he, h1, h2 => by
    rw [fst_nil] at he
    cases he
    exact ⟨⟨[], by simp⟩, h1, h2⟩
  | N + 1, .cons k s ln v ks ns r, h, Ls, Ls', n, n', he, h1, h2 => by
    simp only [Fo.sz] at h
    rw [fst_one] at he
    obtain ⟨p, ho, hr⟩ := C.bind_ok he
    have key : (∃ ex, p.1 = Ls ++ ex) ∧ p.1.length ≤ p.2 ∧ p.2 ≤ 24 := by
      unfold fone at ho
      split at ho
      · obtain ⟨q, hq, ho⟩ := C.bind_ok ho
        cases ho
        obtain ⟨⟨ex, a⟩, b, c⟩ := fst_pre g N ks (by omega) Ls q.1 n q.2 hq h1 h2
        rw [a, List.length_append] at b
        exact ⟨⟨[], by simp⟩, by show Ls.length ≤ q.2; omega, c⟩
      · obtain ⟨-, -, ho⟩ := C.bind_ok ho
        obtain ⟨-, -, ho⟩ := C.bind_ok ho
        split at ho
        · unfold fdecl at ho
          split at ho
          · cases ho
          · split at ho
            · cases ho
            · cases ho
              exact ⟨⟨[s], rfl⟩, by simp; omega, by show n + 1 ≤ 24; omega⟩
        · split at ho
          · obtain ⟨-, -, ho⟩ := C.bind_ok ho
            cases ho
            exact ⟨⟨[], by simp⟩, h1, h2⟩
          · split at ho
            · have := Fo.tl_le ks
              exact fst_pre g N ks.tl (by omega) Ls p.1 n p.2 ho h1 h2
            · cases ho
              exact ⟨⟨[], by simp⟩, h1, h2⟩
    obtain ⟨⟨ex, a⟩, b, c⟩ := key
    obtain ⟨⟨ex2, a2⟩, b2, c2⟩ := fst_pre g N r (by omega) p.1 Ls' p.2 n' hr b c
    exact ⟨⟨ex ++ ex2, by rw [a2, a, List.append_assoc]⟩, b2, c2⟩
def Fo.drop : Nat → Fo → Fo
  | 0, f => f
  | _ + 1, .nil => .nil
  | n + 1, .cons _ _ _ _ _ _ r => r.drop n
def wv (k : ByteArray) (v : Int) : Nat := if k = cVar then (if v = 0 then 1 else v.toNat) else v.toNat
/-- a declaration by itself -/
def fcone (g : Gf) (seen : List ByteArray) (w : Nat) (k s : ByteArray) (line : Int) (v : Int) (ks : Fo) (ns : List ByteArray) : C Unit :=
  if hasN seen s then .err line 9 else if k = cVar then (if 512 < w + wv k v then .err line 1 else .ok ())
  else (fpars g line ns [] 0).bind fun p => (fst' g ks p.1 p.2).bind fun _ => .ok ()
theorem fcr_cons (g : Gf) (seen : List ByteArray) (w : Nat) (k s : ByteArray) (line v : Int) (ks : Fo) (ns : List ByteArray) (r : Fo) : fcr g seen w (.cons k s line v ks ns r) = (fcone g seen w k s line v ks ns).bind fun _ => fcr g (seen ++ [s]) (w + wv k v) r := by
  rw [fcr]
  unfold fcone wv
  by_cases h1 : hasN seen s = true
  · rw [if_pos h1, if_pos h1]
  · rw [if_neg h1, if_neg h1]
    by_cases h2 : k = cVar
    · simp only [if_pos h2]
    · simp only [if_neg h2]
end Go.Lang
