import Derived.Test.YtojogkljneonmaaGreatDoorLangRb
/- The reference's lexer: the first token of a text (printed by genRc.py). No condition. -/
namespace Go.Lang
/-- the reference's names of the kinds -/
def kR : Nat → Nat
  | 0 => 101
  | 1 => 110
  | 2 => 100
  | 3 => 107
  | _ => 120
theorem wl_step : ∀ (s : List UInt8) (i : Nat) (h : i < s.length), i ≤ wordLen s → if (isL s[i] || isD s[i]) = true then i + 1 ≤ wordLen s else wordLen s = i
  | [], i, h, _ => by simp at h
  | c :: r, 0, h, hi => by
    unfold wordLen
    rw [List.takeWhile_cons]
    show if (isL c || isD c) = true then _ else _
    cases hc : (isL c || isD c) with
    | true => simp
    | false => simp
  | c :: r, i + 1, h, hi => by
    have hc : (isL c || isD c) = true := by
      cases hc : (isL c || isD c) with
      | true => rfl
      | false =>
        exfalso
        unfold wordLen at hi
        rw [List.takeWhile_cons, hc] at hi
        simp at hi
    have hw : wordLen (c :: r) = wordLen r + 1 := by
      unfold wordLen
      rw [List.takeWhile_cons, hc]
      simp
    have hr : i < r.length := by simpa using h
    have := wl_step r i hr (by omega)
    rw [hw]
    show if (isL r[i] || isD r[i]) = true then _ else _
    split at this
    · rename_i h1; rw [if_pos h1]; omega
    · rename_i h1; rw [if_neg h1]; omega
theorem bnot_t {b : Bool} (h : (!b) = true) : b = false := by cases b; rfl; cases h
theorem bnot_f {b : Bool} (h : (!b) = false) : b = true := by cases b; cases h; rfl
end Go.Lang
namespace Go.Proofs.YtojogkljneonmaaGreatDoor
open Go Go.Proofs Go.Sep Go.XHeap Go.RowKit Go.Lang
set_option linter.unusedVariables false
set_option linter.unusedSimpArgs false
variable {W : World}
theorem rnext_any [Inhabited G3o] (c : UInt8) (r : List UInt8) (hsz : (c :: r).length ≤ 8000) : Calls Tryz.prog 59 #[.string (ofL (c :: r))] W fun e w' => e = .returned (.tuple #[.int .u8 ((kR (first (c :: r)).1 : Nat) : Int), .int .i64 ((first (c :: r)).2 : Nat)]) ∧ Hush W w' := by
  refine vc59 (ofL (c :: r)) ?_
  refine ⟨fun x w => Hush W w ∧ ∃ i : Nat, x = i ∧ i ≤ wordLen (c :: r), fun x _ => (((c :: r).length : Int) - x).toNat, ⟨XTouch.refl _ _, 0, rfl, by omega⟩, fun _ x w2 hI => ?_⟩
  obtain ⟨h2, i, rfl, hi⟩ := hI
  have hwl0 := wordLen_le (c :: r)
  refine Sx.split_of (fun hlt => ?_) (fun hge => ?_)
  · have hlt : i < (c :: r).length := by have := of_decide_eq_true hlt; rw [ofL_size] at this; omega
    have hst := wl_step (c :: r) i hlt hi
    have hget : (ofL (c :: r))[((i : Nat) : Int).toNat]? = some (c :: r)[i] := by rw [ofL_get, Int.toNat_natCast, List.getElem?_eq_getElem hlt]
    refine ⟨_, by omega, hget, (rletter_any _).mono ?_⟩
    rintro _ w3 ⟨rfl, rfl⟩
    refine ⟨_, rfl, _, by omega, hget, (rdigit_any _).mono ?_⟩
    rintro _ w4 ⟨rfl, rfl⟩
    refine ⟨_, rfl, ?_⟩
    have go : (isL (c :: r)[i] || isD (c :: r)[i]) = true → i + 1 ≤ wordLen (c :: r) := fun h => by rw [if_pos h] at hst; exact hst
    have hw : IntKind.wrap .i64 ((i : Nat) + 1 : Int) = ((i + 1 : Nat) : Int) ∨ 9223372036854775807 ≤ i := by
      rcases Nat.lt_or_ge i 9223372036854775807 with h | h
      · left; rw [show ((i : Nat) + 1 : Int) = ((i + 1 : Nat) : Int) by omega]; exact Go.Bits.n64 (by omega)
      · exact .inr h
    refine Sx.split_of (fun h3 => ?_) (fun h3 => ?_)
    · have h3 := bnot_t h3
      refine Sx.split_of (fun h4 => ?_) (fun h4 => ?_)
      · have h4 := bnot_t h4
        have hm : wordLen (c :: r) = i := by rw [h3, h4] at hst; simpa using hst
        refine Sx.split_of (fun hp => ?_) (fun hp => ?_)
        · have hp : 0 < i := by have := of_decide_eq_true hp; omega
          obtain ⟨m, rfl⟩ : ∃ m, i = m + 1 := ⟨i - 1, by omega⟩
          have hf : first (c :: r) = if isL c then (if (c :: r).take (m + 1) ∈ words then (3, m + 1) else (1, m + 1)) else if ((c :: r).take (m + 1)).all isD then (2, m + 1) else (4, m + 1) := by unfold first; rw [hm]; rfl
          have hwb := word_bytes (c :: r)
          rw [hm] at hwb
          have hwl := wordLen_le (c :: r)
          have hx : (ofL (c :: r)).extract 0 ((m + 1 : Nat) : Int).toNat = ofL ((c :: r).take (m + 1)) := by
            rw [extract_ofL, List.drop_zero]; rfl
          refine ⟨c, by omega, ofL_get _ 0, (rdigit_any c).mono ?_⟩
          rintro _ w6 ⟨rfl, rfl⟩
          refine ⟨_, rfl, Sx.split_of (fun hd => ?_) (fun hd => ?_)⟩
          · have hd := bnot_t hd
            have hL : isL c = true := by
              have := hwb c (by simp)
              rw [hd, Bool.or_false] at this; exact this
            rw [if_pos hL] at hf
            refine ⟨by omega, ⟨by omega, by rw [ofL_size]; omega⟩, ?_⟩
            rw [hx]
            refine (rword_any ((c :: r).take (m + 1))).mono ?_
            rintro _ w7 ⟨rfl, h7⟩
            have h8 := hush_trans h2 h7
            refine ⟨_, rfl, Sx.split_of (fun ht => ?_) (fun ht => ?_)⟩
            · rw [hf, if_pos (of_decide_eq_true ht)]
              exact ⟨rfl, h8⟩
            · rw [hf, if_neg (of_decide_eq_false ht)]
              exact ⟨rfl, h8⟩
          · have hd := bnot_f hd
            have hL : ¬ isL c = true := by
              rw [isL_nat]
              rw [isD_nat] at hd
              unfold digR at hd
              unfold letR
              rw [Bool.and_eq_true] at hd
              have b1 := of_decide_eq_true hd.1
              have b2 := of_decide_eq_true hd.2
              intro a
              rcases Bool.or_eq_true_iff.1 a with a | a
              · have := beq_iff_eq.1 a; omega
              · rw [Bool.and_eq_true] at a
                have := of_decide_eq_true a.1; omega
            rw [if_neg hL] at hf
            refine ⟨fun x w => Hush W w ∧ ∃ j : Nat, x = j ∧ j ≤ m + 1 ∧ ((c :: r).take j).all isD = true, fun x _ => (((m + 1 : Nat) : Int) - x).toNat, ⟨h2, 0, rfl, by omega, rfl⟩, fun _ x w8 hI => ?_⟩
            obtain ⟨h8, j, rfl, hj, hall⟩ := hI
            refine Sx.split_of (fun hlt => ?_) (fun hge => ?_)
            · have hlt : j < m + 1 := by have := of_decide_eq_true hlt; omega
              have hjl : j < (c :: r).length := by omega
              refine ⟨(c :: r)[j], by omega, by rw [ofL_get, Int.toNat_natCast, List.getElem?_eq_getElem hjl], (rdigit_any _).mono ?_⟩
              rintro _ w9 ⟨rfl, rfl⟩
              refine ⟨_, rfl, Sx.split_of (fun hq => ?_) (fun hq => ?_)⟩
              · have hq := bnot_t hq
                rw [hf, if_neg (fun ha => by
                  have := List.all_eq_true.1 ha (c :: r)[j] (List.mem_of_getElem? (i := j) (by rw [List.getElem?_take_of_lt hlt, List.getElem?_eq_getElem hjl]))
                  rw [this] at hq; cases hq)]
                exact ⟨rfl, h8⟩
              · have hq := bnot_f hq
                rintro z rfl
                have hw : IntKind.wrap .i64 ((j : Nat) + 1 : Int) = ((j + 1 : Nat) : Int) := by rw [show ((j : Nat) + 1 : Int) = ((j + 1 : Nat) : Int) by omega]; exact Go.Bits.n64 (by omega)
                rw [hw]
                refine ⟨⟨h8, j + 1, rfl, by omega, ?_⟩, by show (((m + 1 : Nat) : Int) - ((j + 1 : Nat) : Int)).toNat < (((m + 1 : Nat) : Int) - ((j : Nat) : Int)).toNat; omega⟩
                rw [List.take_succ_eq_append_getElem hjl, List.all_append, hall]
                simp [hq]
            · have hge : j = m + 1 := by have := of_decide_eq_false hge; omega
              subst hge
              rw [hf, if_pos hall]
              exact ⟨rfl, h8⟩
        · have hp : i = 0 := by have := of_decide_eq_false hp; omega
          subst hp
          have hf : first (c :: r) = if (c :: r).take 2 ∈ twos then (3, 2) else if (c :: r).headD 0 ∈ ones then (3, 1) else (4, 1) := by unfold first; rw [hm]
          intro k w7 ek ew
          have H7 := ((St.nil W).quiet h2).al (φ := fun k w => St W (fun _ => False) w ([] ++ [blk k ((twos.map fun l => Value.string (ofL l)).toArray) 9])) (cs := (twos.map fun l => Value.string (ofL l)).toArray) (t := 9) (fun k w H => H) k w7 ek ew
          have hb7 : Blk w7 k ((twos.map fun l => Value.string (ofL l)).toArray) 9 := H7.nth 0 rfl
          refine ⟨fun x w => (Hush W w ∧ Blk w k ((twos.map fun l => Value.string (ofL l)).toArray) 9) ∧ ∃ j : Nat, x = j ∧ j ≤ 8 ∧ ∀ q t, q < j → twos[q]? = some t → (c :: r).take 2 ≠ t, fun x _ => (8 - x).toNat, ⟨⟨H7.touch, hb7⟩, 0, rfl, by omega, fun q t hq => by omega⟩, fun _ x w8 hI => ?_⟩
          obtain ⟨⟨h8, hb⟩, i, rfl, hi8, hno2⟩ := hI
          have hlen2 : ∀ x ∈ twos, x.length = 2 := by decide
          refine Sx.split_of (fun h => ?_) (fun h => ?_)
          · have h5 : i < 8 := by have := of_decide_eq_true h; omega
            have hit : i < twos.length := h5
            refine Sx.split_of (fun h1 => ?_) (fun h1 => ?_)
            · have h1 : 1 < (c :: r).length := by have := of_decide_eq_true h1; rw [ofL_size] at this; omega
              have hx : (ofL (c :: r)).extract 0 2 = ofL ((c :: r).take 2) := by rw [extract_ofL, List.drop_zero]
              refine ⟨by omega, ⟨by omega, by rw [ofL_size]; omega⟩, ⟨by omega, by omega⟩, ofL twos[i], ?_, ?_⟩
              · rw [ix1, Nat.zero_add]
                exact hb.cell' (by rw [List.getElem?_toArray, List.getElem?_map, List.getElem?_eq_getElem hit]; rfl)
              · rintro w11 k2 rfl
                have h9 : Hush W (w8.drewN k2) := hush_trans h8 ((XTouch.refl _ w8).drewN k2)
                rw [hx, toList_eq]
                refine Sx.split_of (fun h6 => ?_) (fun h6 => ?_)
                · have h6 : (c :: r).take 2 = twos[i] := ofL_inj (of_decide_eq_true h6)
                  rw [hf, if_pos (h6 ▸ List.getElem_mem hit)]
                  exact ⟨rfl, h9⟩
                · have h6 : ¬ ofL ((c :: r).take 2) = ofL twos[i] := of_decide_eq_false h6
                  rintro z rfl
                  have hw : IntKind.wrap .i64 ((i : Nat) + 1 : Int) = ((i + 1 : Nat) : Int) := by rw [show ((i : Nat) + 1 : Int) = ((i + 1 : Nat) : Int) by omega]; exact Go.Bits.n64 (by omega)
                  rw [hw]
                  refine ⟨⟨⟨h9, hb.drewN k2⟩, i + 1, rfl, by omega, fun q t hq hqt => ?_⟩, by show (8 - ((i + 1 : Nat) : Int)).toNat < (8 - ((i : Nat) : Int)).toNat; omega⟩
                  rcases Nat.lt_or_eq_of_le (Nat.lt_succ_iff.1 hq) with h7 | h7
                  · exact hno2 q t h7 hqt
                  · subst h7
                    rw [List.getElem?_eq_getElem hit] at hqt
                    cases hqt
                    exact fun e => h6 (by rw [e])
            · have h1 : ¬ 1 < (c :: r).length := by have := of_decide_eq_false h1; rw [ofL_size] at this; omega
              have hnot : ¬ (c :: r).take 2 ∈ twos := fun hm2 => by
                have := hlen2 _ hm2
                rw [List.length_take] at this; omega
              have hf1 : first (c :: r) = if c ∈ ones then (3, 1) else (4, 1) := by rw [hf, if_neg hnot]; rfl
              refine ⟨fun x w => Hush W w ∧ ∃ j : Nat, x = j ∧ j ≤ 21 ∧ ∀ q t, q < j → ones[q]? = some t → c ≠ t, fun x _ => (21 - x).toNat, ⟨h8, 0, rfl, by omega, fun q t hq => by omega⟩, fun _ x wo hI => ?_⟩
              obtain ⟨ho, j, rfl, hj, hno⟩ := hI
              refine Sx.split_of (fun h => ?_) (fun h => ?_)
              · have h5 : j < 21 := by have := of_decide_eq_true h; have e : (ofL ones).size = 21 := rfl; have : ((j : Nat) : Int) < ((ofL ones).size : Int) := this; omega
                have hjt : j < ones.length := h5
                refine ⟨c, by omega, ofL_get _ 0, ones[j], by omega, ?_, ?_⟩
                · show (ofL ones)[((j : Nat) : Int).toNat]? = _
                  rw [ofL_get, Int.toNat_natCast, List.getElem?_eq_getElem hjt]
                · rintro w13 k3 rfl
                  have ho' : Hush W (wo.drewN k3) := hush_trans ho ((XTouch.refl _ wo).drewN k3)
                  refine Sx.split_of (fun h6 => ?_) (fun h6 => ?_)
                  · have h6 : c = ones[j] := by have := beq_iff_eq.1 h6; exact UInt8.toNat_inj.1 (by omega)
                    rw [hf1, if_pos (by rw [h6]; exact List.getElem_mem hjt)]
                    exact ⟨rfl, ho'⟩
                  · have h6 : c ≠ ones[j] := fun e => by rw [e] at h6; simp at h6
                    rintro z rfl
                    have hw : IntKind.wrap .i64 ((j : Nat) + 1 : Int) = ((j + 1 : Nat) : Int) := by rw [show ((j : Nat) + 1 : Int) = ((j + 1 : Nat) : Int) by omega]; exact Go.Bits.n64 (by omega)
                    rw [hw]
                    refine ⟨⟨ho', j + 1, rfl, by omega, fun q t hq hqt => ?_⟩, by show (21 - ((j + 1 : Nat) : Int)).toNat < (21 - ((j : Nat) : Int)).toNat; omega⟩
                    rcases Nat.lt_or_eq_of_le (Nat.lt_succ_iff.1 hq) with h7 | h7
                    · exact hno q t h7 hqt
                    · subst h7
                      rw [List.getElem?_eq_getElem hjt] at hqt
                      cases hqt
                      exact h6
              · have h5 : j = 21 := by have := of_decide_eq_false h; have e : (ofL ones).size = 21 := rfl; have : ¬ ((j : Nat) : Int) < ((ofL ones).size : Int) := this; omega
                subst h5
                rw [hf1, if_neg (fun hm => by
                  obtain ⟨q, hq, e⟩ := List.getElem_of_mem hm
                  exact hno q _ hq (List.getElem?_eq_getElem hq) e.symm)]
                exact ⟨rfl, ho⟩
          · have h5 : i = 8 := by have := of_decide_eq_false h; omega
            subst h5
            have hnot : ¬ (c :: r).take 2 ∈ twos := fun hm2 => by
              obtain ⟨q, hq, e⟩ := List.getElem_of_mem hm2
              exact hno2 q _ hq (List.getElem?_eq_getElem hq) e.symm
            have hf1 : first (c :: r) = if c ∈ ones then (3, 1) else (4, 1) := by rw [hf, if_neg hnot]; rfl
            refine ⟨fun x w => Hush W w ∧ ∃ j : Nat, x = j ∧ j ≤ 21 ∧ ∀ q t, q < j → ones[q]? = some t → c ≠ t, fun x _ => (21 - x).toNat, ⟨h8, 0, rfl, by omega, fun q t hq => by omega⟩, fun _ x wo hI => ?_⟩
            obtain ⟨ho, j, rfl, hj, hno⟩ := hI
            refine Sx.split_of (fun h => ?_) (fun h => ?_)
            · have h5 : j < 21 := by have := of_decide_eq_true h; have e : (ofL ones).size = 21 := rfl; have : ((j : Nat) : Int) < ((ofL ones).size : Int) := this; omega
              have hjt : j < ones.length := h5
              refine ⟨c, by omega, ofL_get _ 0, ones[j], by omega, ?_, ?_⟩
              · show (ofL ones)[((j : Nat) : Int).toNat]? = _
                rw [ofL_get, Int.toNat_natCast, List.getElem?_eq_getElem hjt]
              · rintro w13 k3 rfl
                have ho' : Hush W (wo.drewN k3) := hush_trans ho ((XTouch.refl _ wo).drewN k3)
                refine Sx.split_of (fun h6 => ?_) (fun h6 => ?_)
                · have h6 : c = ones[j] := by have := beq_iff_eq.1 h6; exact UInt8.toNat_inj.1 (by omega)
                  rw [hf1, if_pos (by rw [h6]; exact List.getElem_mem hjt)]
                  exact ⟨rfl, ho'⟩
                · have h6 : c ≠ ones[j] := fun e => by rw [e] at h6; simp at h6
                  rintro z rfl
                  have hw : IntKind.wrap .i64 ((j : Nat) + 1 : Int) = ((j + 1 : Nat) : Int) := by rw [show ((j : Nat) + 1 : Int) = ((j + 1 : Nat) : Int) by omega]; exact Go.Bits.n64 (by omega)
                  rw [hw]
                  refine ⟨⟨ho', j + 1, rfl, by omega, fun q t hq hqt => ?_⟩, by show (21 - ((j + 1 : Nat) : Int)).toNat < (21 - ((j : Nat) : Int)).toNat; omega⟩
                  rcases Nat.lt_or_eq_of_le (Nat.lt_succ_iff.1 hq) with h7 | h7
                  · exact hno q t h7 hqt
                  · subst h7
                    rw [List.getElem?_eq_getElem hjt] at hqt
                    cases hqt
                    exact h6
            · have h5 : j = 21 := by have := of_decide_eq_false h; have e : (ofL ones).size = 21 := rfl; have : ¬ ((j : Nat) : Int) < ((ofL ones).size : Int) := this; omega
              subst h5
              rw [hf1, if_neg (fun hm => by
                obtain ⟨q, hq, e⟩ := List.getElem_of_mem hm
                exact hno q _ hq (List.getElem?_eq_getElem hq) e.symm)]
              exact ⟨rfl, ho⟩
      · have h4 := bnot_f h4
        rintro z rfl
        rcases hw with hw | hw
        · rw [hw]
          exact ⟨⟨h2, i + 1, rfl, go (by rw [h4, Bool.or_true])⟩, by show (((c :: r).length : Int) - ((i + 1 : Nat) : Int)).toNat < (((c :: r).length : Int) - ((i : Nat) : Int)).toNat; omega⟩
        · exact absurd hsz (by omega)
    · have h3 := bnot_f h3
      rintro z rfl
      rcases hw with hw | hw
      · rw [hw]
        exact ⟨⟨h2, i + 1, rfl, go (by rw [h3, Bool.true_or])⟩, by show (((c :: r).length : Int) - ((i + 1 : Nat) : Int)).toNat < (((c :: r).length : Int) - ((i : Nat) : Int)).toNat; omega⟩
      · exact absurd hsz (by omega)
  · have hge : (c :: r).length ≤ i := by have := of_decide_eq_false hge; rw [ofL_size] at this; omega
    have hm : wordLen (c :: r) = i := by omega
    refine Sx.split_of (fun hp => ?_) (fun hp => ?_)
    · have hp : 0 < i := by have := of_decide_eq_true hp; omega
      obtain ⟨m, rfl⟩ : ∃ m, i = m + 1 := ⟨i - 1, by omega⟩
      have hf : first (c :: r) = if isL c then (if (c :: r).take (m + 1) ∈ words then (3, m + 1) else (1, m + 1)) else if ((c :: r).take (m + 1)).all isD then (2, m + 1) else (4, m + 1) := by unfold first; rw [hm]; rfl
      have hwb := word_bytes (c :: r)
      rw [hm] at hwb
      have hwl := wordLen_le (c :: r)
      have hx : (ofL (c :: r)).extract 0 ((m + 1 : Nat) : Int).toNat = ofL ((c :: r).take (m + 1)) := by
        rw [extract_ofL, List.drop_zero]; rfl
      refine ⟨c, by omega, ofL_get _ 0, (rdigit_any c).mono ?_⟩
      rintro _ w6 ⟨rfl, rfl⟩
      refine ⟨_, rfl, Sx.split_of (fun hd => ?_) (fun hd => ?_)⟩
      · have hd := bnot_t hd
        have hL : isL c = true := by
          have := hwb c (by simp)
          rw [hd, Bool.or_false] at this; exact this
        rw [if_pos hL] at hf
        refine ⟨by omega, ⟨by omega, by rw [ofL_size]; omega⟩, ?_⟩
        rw [hx]
        refine (rword_any ((c :: r).take (m + 1))).mono ?_
        rintro _ w7 ⟨rfl, h7⟩
        have h8 := hush_trans h2 h7
        refine ⟨_, rfl, Sx.split_of (fun ht => ?_) (fun ht => ?_)⟩
        · rw [hf, if_pos (of_decide_eq_true ht)]
          exact ⟨rfl, h8⟩
        · rw [hf, if_neg (of_decide_eq_false ht)]
          exact ⟨rfl, h8⟩
      · have hd := bnot_f hd
        have hL : ¬ isL c = true := by
          rw [isL_nat]
          rw [isD_nat] at hd
          unfold digR at hd
          unfold letR
          rw [Bool.and_eq_true] at hd
          have b1 := of_decide_eq_true hd.1
          have b2 := of_decide_eq_true hd.2
          intro a
          rcases Bool.or_eq_true_iff.1 a with a | a
          · have := beq_iff_eq.1 a; omega
          · rw [Bool.and_eq_true] at a
            have := of_decide_eq_true a.1; omega
        rw [if_neg hL] at hf
        refine ⟨fun x w => Hush W w ∧ ∃ j : Nat, x = j ∧ j ≤ m + 1 ∧ ((c :: r).take j).all isD = true, fun x _ => (((m + 1 : Nat) : Int) - x).toNat, ⟨h2, 0, rfl, by omega, rfl⟩, fun _ x w8 hI => ?_⟩
        obtain ⟨h8, j, rfl, hj, hall⟩ := hI
        refine Sx.split_of (fun hlt => ?_) (fun hge => ?_)
        · have hlt : j < m + 1 := by have := of_decide_eq_true hlt; omega
          have hjl : j < (c :: r).length := by omega
          refine ⟨(c :: r)[j], by omega, by rw [ofL_get, Int.toNat_natCast, List.getElem?_eq_getElem hjl], (rdigit_any _).mono ?_⟩
          rintro _ w9 ⟨rfl, rfl⟩
          refine ⟨_, rfl, Sx.split_of (fun hq => ?_) (fun hq => ?_)⟩
          · have hq := bnot_t hq
            rw [hf, if_neg (fun ha => by
              have := List.all_eq_true.1 ha (c :: r)[j] (List.mem_of_getElem? (i := j) (by rw [List.getElem?_take_of_lt hlt, List.getElem?_eq_getElem hjl]))
              rw [this] at hq; cases hq)]
            exact ⟨rfl, h8⟩
          · have hq := bnot_f hq
            rintro z rfl
            have hw : IntKind.wrap .i64 ((j : Nat) + 1 : Int) = ((j + 1 : Nat) : Int) := by rw [show ((j : Nat) + 1 : Int) = ((j + 1 : Nat) : Int) by omega]; exact Go.Bits.n64 (by omega)
            rw [hw]
            refine ⟨⟨h8, j + 1, rfl, by omega, ?_⟩, by show (((m + 1 : Nat) : Int) - ((j + 1 : Nat) : Int)).toNat < (((m + 1 : Nat) : Int) - ((j : Nat) : Int)).toNat; omega⟩
            rw [List.take_succ_eq_append_getElem hjl, List.all_append, hall]
            simp [hq]
        · have hge : j = m + 1 := by have := of_decide_eq_false hge; omega
          subst hge
          rw [hf, if_pos hall]
          exact ⟨rfl, h8⟩
    · have hp : i = 0 := by have := of_decide_eq_false hp; omega
      subst hp
      have hf : first (c :: r) = if (c :: r).take 2 ∈ twos then (3, 2) else if (c :: r).headD 0 ∈ ones then (3, 1) else (4, 1) := by unfold first; rw [hm]
      intro k w7 ek ew
      have H7 := ((St.nil W).quiet h2).al (φ := fun k w => St W (fun _ => False) w ([] ++ [blk k ((twos.map fun l => Value.string (ofL l)).toArray) 9])) (cs := (twos.map fun l => Value.string (ofL l)).toArray) (t := 9) (fun k w H => H) k w7 ek ew
      have hb7 : Blk w7 k ((twos.map fun l => Value.string (ofL l)).toArray) 9 := H7.nth 0 rfl
      refine ⟨fun x w => (Hush W w ∧ Blk w k ((twos.map fun l => Value.string (ofL l)).toArray) 9) ∧ ∃ j : Nat, x = j ∧ j ≤ 8 ∧ ∀ q t, q < j → twos[q]? = some t → (c :: r).take 2 ≠ t, fun x _ => (8 - x).toNat, ⟨⟨H7.touch, hb7⟩, 0, rfl, by omega, fun q t hq => by omega⟩, fun _ x w8 hI => ?_⟩
      obtain ⟨⟨h8, hb⟩, i, rfl, hi8, hno2⟩ := hI
      have hlen2 : ∀ x ∈ twos, x.length = 2 := by decide
      refine Sx.split_of (fun h => ?_) (fun h => ?_)
      · have h5 : i < 8 := by have := of_decide_eq_true h; omega
        have hit : i < twos.length := h5
        refine Sx.split_of (fun h1 => ?_) (fun h1 => ?_)
        · have h1 : 1 < (c :: r).length := by have := of_decide_eq_true h1; rw [ofL_size] at this; omega
          have hx : (ofL (c :: r)).extract 0 2 = ofL ((c :: r).take 2) := by rw [extract_ofL, List.drop_zero]
          refine ⟨by omega, ⟨by omega, by rw [ofL_size]; omega⟩, ⟨by omega, by omega⟩, ofL twos[i], ?_, ?_⟩
          · rw [ix1, Nat.zero_add]
            exact hb.cell' (by rw [List.getElem?_toArray, List.getElem?_map, List.getElem?_eq_getElem hit]; rfl)
          · rintro w11 k2 rfl
            have h9 : Hush W (w8.drewN k2) := hush_trans h8 ((XTouch.refl _ w8).drewN k2)
            rw [hx, toList_eq]
            refine Sx.split_of (fun h6 => ?_) (fun h6 => ?_)
            · have h6 : (c :: r).take 2 = twos[i] := ofL_inj (of_decide_eq_true h6)
              rw [hf, if_pos (h6 ▸ List.getElem_mem hit)]
              exact ⟨rfl, h9⟩
            · have h6 : ¬ ofL ((c :: r).take 2) = ofL twos[i] := of_decide_eq_false h6
              rintro z rfl
              have hw : IntKind.wrap .i64 ((i : Nat) + 1 : Int) = ((i + 1 : Nat) : Int) := by rw [show ((i : Nat) + 1 : Int) = ((i + 1 : Nat) : Int) by omega]; exact Go.Bits.n64 (by omega)
              rw [hw]
              refine ⟨⟨⟨h9, hb.drewN k2⟩, i + 1, rfl, by omega, fun q t hq hqt => ?_⟩, by show (8 - ((i + 1 : Nat) : Int)).toNat < (8 - ((i : Nat) : Int)).toNat; omega⟩
              rcases Nat.lt_or_eq_of_le (Nat.lt_succ_iff.1 hq) with h7 | h7
              · exact hno2 q t h7 hqt
              · subst h7
                rw [List.getElem?_eq_getElem hit] at hqt
                cases hqt
                exact fun e => h6 (by rw [e])
        · have h1 : ¬ 1 < (c :: r).length := by have := of_decide_eq_false h1; rw [ofL_size] at this; omega
          have hnot : ¬ (c :: r).take 2 ∈ twos := fun hm2 => by
            have := hlen2 _ hm2
            rw [List.length_take] at this; omega
          have hf1 : first (c :: r) = if c ∈ ones then (3, 1) else (4, 1) := by rw [hf, if_neg hnot]; rfl
          refine ⟨fun x w => Hush W w ∧ ∃ j : Nat, x = j ∧ j ≤ 21 ∧ ∀ q t, q < j → ones[q]? = some t → c ≠ t, fun x _ => (21 - x).toNat, ⟨h8, 0, rfl, by omega, fun q t hq => by omega⟩, fun _ x wo hI => ?_⟩
          obtain ⟨ho, j, rfl, hj, hno⟩ := hI
          refine Sx.split_of (fun h => ?_) (fun h => ?_)
          · have h5 : j < 21 := by have := of_decide_eq_true h; have e : (ofL ones).size = 21 := rfl; have : ((j : Nat) : Int) < ((ofL ones).size : Int) := this; omega
            have hjt : j < ones.length := h5
            refine ⟨c, by omega, ofL_get _ 0, ones[j], by omega, ?_, ?_⟩
            · show (ofL ones)[((j : Nat) : Int).toNat]? = _
              rw [ofL_get, Int.toNat_natCast, List.getElem?_eq_getElem hjt]
            · rintro w13 k3 rfl
              have ho' : Hush W (wo.drewN k3) := hush_trans ho ((XTouch.refl _ wo).drewN k3)
              refine Sx.split_of (fun h6 => ?_) (fun h6 => ?_)
              · have h6 : c = ones[j] := by have := beq_iff_eq.1 h6; exact UInt8.toNat_inj.1 (by omega)
                rw [hf1, if_pos (by rw [h6]; exact List.getElem_mem hjt)]
                exact ⟨rfl, ho'⟩
              · have h6 : c ≠ ones[j] := fun e => by rw [e] at h6; simp at h6
                rintro z rfl
                have hw : IntKind.wrap .i64 ((j : Nat) + 1 : Int) = ((j + 1 : Nat) : Int) := by rw [show ((j : Nat) + 1 : Int) = ((j + 1 : Nat) : Int) by omega]; exact Go.Bits.n64 (by omega)
                rw [hw]
                refine ⟨⟨ho', j + 1, rfl, by omega, fun q t hq hqt => ?_⟩, by show (21 - ((j + 1 : Nat) : Int)).toNat < (21 - ((j : Nat) : Int)).toNat; omega⟩
                rcases Nat.lt_or_eq_of_le (Nat.lt_succ_iff.1 hq) with h7 | h7
                · exact hno q t h7 hqt
                · subst h7
                  rw [List.getElem?_eq_getElem hjt] at hqt
                  cases hqt
                  exact h6
          · have h5 : j = 21 := by have := of_decide_eq_false h; have e : (ofL ones).size = 21 := rfl; have : ¬ ((j : Nat) : Int) < ((ofL ones).size : Int) := this; omega
            subst h5
            rw [hf1, if_neg (fun hm => by
              obtain ⟨q, hq, e⟩ := List.getElem_of_mem hm
              exact hno q _ hq (List.getElem?_eq_getElem hq) e.symm)]
            exact ⟨rfl, ho⟩
      · have h5 : i = 8 := by have := of_decide_eq_false h; omega
        subst h5
        have hnot : ¬ (c :: r).take 2 ∈ twos := fun hm2 => by
          obtain ⟨q, hq, e⟩ := List.getElem_of_mem hm2
          exact hno2 q _ hq (List.getElem?_eq_getElem hq) e.symm
        have hf1 : first (c :: r) = if c ∈ ones then (3, 1) else (4, 1) := by rw [hf, if_neg hnot]; rfl
        refine ⟨fun x w => Hush W w ∧ ∃ j : Nat, x = j ∧ j ≤ 21 ∧ ∀ q t, q < j → ones[q]? = some t → c ≠ t, fun x _ => (21 - x).toNat, ⟨h8, 0, rfl, by omega, fun q t hq => by omega⟩, fun _ x wo hI => ?_⟩
        obtain ⟨ho, j, rfl, hj, hno⟩ := hI
        refine Sx.split_of (fun h => ?_) (fun h => ?_)
        · have h5 : j < 21 := by have := of_decide_eq_true h; have e : (ofL ones).size = 21 := rfl; have : ((j : Nat) : Int) < ((ofL ones).size : Int) := this; omega
          have hjt : j < ones.length := h5
          refine ⟨c, by omega, ofL_get _ 0, ones[j], by omega, ?_, ?_⟩
          · show (ofL ones)[((j : Nat) : Int).toNat]? = _
            rw [ofL_get, Int.toNat_natCast, List.getElem?_eq_getElem hjt]
          · rintro w13 k3 rfl
            have ho' : Hush W (wo.drewN k3) := hush_trans ho ((XTouch.refl _ wo).drewN k3)
            refine Sx.split_of (fun h6 => ?_) (fun h6 => ?_)
            · have h6 : c = ones[j] := by have := beq_iff_eq.1 h6; exact UInt8.toNat_inj.1 (by omega)
              rw [hf1, if_pos (by rw [h6]; exact List.getElem_mem hjt)]
              exact ⟨rfl, ho'⟩
            · have h6 : c ≠ ones[j] := fun e => by rw [e] at h6; simp at h6
              rintro z rfl
              have hw : IntKind.wrap .i64 ((j : Nat) + 1 : Int) = ((j + 1 : Nat) : Int) := by rw [show ((j : Nat) + 1 : Int) = ((j + 1 : Nat) : Int) by omega]; exact Go.Bits.n64 (by omega)
              rw [hw]
              refine ⟨⟨ho', j + 1, rfl, by omega, fun q t hq hqt => ?_⟩, by show (21 - ((j + 1 : Nat) : Int)).toNat < (21 - ((j : Nat) : Int)).toNat; omega⟩
              rcases Nat.lt_or_eq_of_le (Nat.lt_succ_iff.1 hq) with h7 | h7
              · exact hno q t h7 hqt
              · subst h7
                rw [List.getElem?_eq_getElem hjt] at hqt
                cases hqt
                exact h6
        · have h5 : j = 21 := by have := of_decide_eq_false h; have e : (ofL ones).size = 21 := rfl; have : ¬ ((j : Nat) : Int) < ((ofL ones).size : Int) := this; omega
          subst h5
          rw [hf1, if_neg (fun hm => by
            obtain ⟨q, hq, e⟩ := List.getElem_of_mem hm
            exact hno q _ hq (List.getElem?_eq_getElem hq) e.symm)]
          exact ⟨rfl, ho⟩
end Go.Proofs.YtojogkljneonmaaGreatDoor
/- The reference's lexer: all tokens of a text. No condition. -/
namespace Go.Proofs.YtojogkljneonmaaGreatDoor
open Go Go.Proofs Go.Sep Go.XHeap Go.RowKit Go.Lang
set_option linter.unusedVariables false
set_option linter.unusedSimpArgs false
variable {W : World}
/-- a token of the reference's -/
def tkR (t : Tok) : List Value := [.int .u8 ((kR t.k : Nat) : Int), .string t.s, .int .i64 t.line]
theorem tkR_len (t : Tok) : (tkR t).length = 3 := rfl
theorem tkR_one (t : Tok) : ∀ v ∈ (tkR t), v.oneCell' = true := by
  intro v hv
  simp only [tkR, List.mem_cons, List.not_mem_nil, or_false] at hv
  rcases hv with rfl | rfl | rfl <;> rfl
/-- all tokens of a text -/
theorem rtokens_any [Inhabited G3o] (s : List UInt8) (hs : s.length ≤ 8000) : Calls Tryz.prog 28 #[.string (ofL s)] W fun e w' => ∃ p c, e = .returned (.slice p (lex s 1).length c) ∧ Post emp W (sl 96 3 (.slice p (lex s 1).length c) (lex s 1).length ((lex s 1).flatMap tkR)) w' := by
  refine vc28 (ofL s) ?_
  have hlen := (good_lex hs 1).2.2.2
  refine ⟨fun s2 line p k c w => ∃ u ts, s2 = ofL u ∧ k = ts.length ∧ ts ++ lex u line = lex s 1 ∧ 1 ≤ line ∧ line + u.length ≤ s.length + 1 ∧ St W emp.own w [sl 96 3 (.slice p ts.length c) ts.length (ts.flatMap tkR)], fun s2 _ _ _ _ _ => s2.size, ?_, fun _ s2 line p k c w2 hI => ?_⟩
  · exact ⟨s, [], rfl, rfl, rfl, by omega, by omega, (St.nil W).add ⟨Sl.nil _ _ _, XTouch.refl _ _, fun q hq => by cases hq⟩⟩
  obtain ⟨u, ts, rfl, rfl, ht, hl1, hl2, H⟩ := hI
  have hts : ts.length + (lex u line).length ≤ 8001 := by rw [← List.length_append, ht]; exact hlen
  refine Sx.split_of (fun h => ?_) (fun h => ?_)
  · obtain ⟨a, r, rfl⟩ : ∃ a r, u = a :: r := by
      cases u with
      | nil => exact absurd (of_decide_eq_true h) (by rw [ofL_size]; simp)
      | cons a r => exact ⟨a, r, rfl⟩
    have h0 : (ofL (a :: r))[0]? = some a := ofL_get _ 0
    have hsz : (ofL (a :: r)).size = r.length + 1 := rfl
    simp only [List.length_cons] at hl2
    have hx1 : (ofL (a :: r)).extract 1 (ofL (a :: r)).size = ofL r := by
      rw [extract_ofL, hsz, List.take_of_length_le (by simp)]; rfl
    rw [lex_cons] at ht hts
    refine ⟨a, by omega, h0, Sx.split_of (fun h1 => ?_) (fun h1 => ?_)⟩
    · have ha : a = 10 := by
        have := beq_iff_eq.1 h1
        exact UInt8.toNat_inj.1 (by show a.toNat = 10; omega)
      rw [if_pos ha] at ht
      rintro z rfl
      refine ⟨by omega, ⟨by omega, Nat.le_refl _⟩, ?_⟩
      rw [hx1]
      have hw : IntKind.wrap .i64 (line + 1) = line + 1 := by
        obtain ⟨m, rfl⟩ : ∃ m : Nat, line = m := ⟨line.toNat, by omega⟩
        rw [show ((m : Nat) + 1 : Int) = ((m + 1 : Nat) : Int) by omega]; exact Go.Bits.n64 (by omega)
      rw [hw]
      exact ⟨⟨r, ts, rfl, rfl, ht, by omega, by omega, H⟩, by show (ofL r).size < (ofL (a :: r)).size; rw [hsz, ofL_size]; omega⟩
    have ha : a ≠ 10 := fun e => by rw [e] at h1; cases h1
    rw [if_neg ha] at ht hts
    have blank : (a = 32 ∨ a = 9) → ((0 : Int) ≤ 1 ∧ (1 ≤ (ofL (a :: r)).size ∧ (ofL (a :: r)).size ≤ (ofL (a :: r)).size) ∧ (∃ u ts', (ofL (a :: r)).extract 1 (ofL (a :: r)).size = ofL u ∧ ts.length = ts'.length ∧ ts' ++ lex u line = lex s 1 ∧ 1 ≤ line ∧ line + u.length ≤ s.length + 1 ∧ St W emp.own w2 [sl 96 3 (.slice p ts'.length c) ts'.length (ts'.flatMap tkR)]) ∧ ((ofL (a :: r)).extract 1 (ofL (a :: r)).size).size < (ofL (a :: r)).size) := by
      intro hb
      rw [if_pos hb] at ht
      refine ⟨by omega, ⟨by omega, Nat.le_refl _⟩, ?_⟩
      rw [hx1]
      exact ⟨⟨r, ts, rfl, rfl, ht, by omega, by omega, H⟩, by rw [hsz, ofL_size]; omega⟩
    refine ⟨a, by omega, h0, Sx.split_of (fun h2 => ?_) (fun h2 => ?_)⟩
    · have ha : a = 32 := by
        have := beq_iff_eq.1 h2
        exact UInt8.toNat_inj.1 (by show a.toNat = 32; omega)
      exact blank (.inl ha)
    refine ⟨a, by omega, h0, Sx.split_of (fun h3 => ?_) (fun h3 => ?_)⟩
    · have ha : a = 9 := by
        have := beq_iff_eq.1 h3
        exact UInt8.toNat_inj.1 (by show a.toNat = 9; omega)
      exact blank (.inr ha)
    have hb : ¬ (a = 32 ∨ a = 9) := by
      rintro (e | e)
      · rw [e] at h2; cases h2
      · rw [e] at h3; cases h3
    rw [if_neg hb] at ht hts
    refine Sx.split_of (fun hs1 => ?_) (fun hs1 => ?_)
    · have hs1 : 1 < (a :: r).length := by have := of_decide_eq_true hs1; rw [ofL_size] at this; omega
      have hx2 : (ofL (a :: r)).extract 0 2 = ofL ((a :: r).take 2) := by rw [extract_ofL, List.drop_zero]
      refine ⟨by omega, ⟨by omega, by rw [ofL_size]; omega⟩, ?_⟩
      rw [hx2, toList_eq]
      refine Sx.split_of (fun h4 => ?_) (fun h4 => ?_)
      · have hc : (a :: r).take 2 = [47, 47] := ofL_inj (of_decide_eq_true h4)
        rw [if_pos hc] at ht
        have hlt := comment_lt hc
        refine ⟨fun x w => ∃ v, x = ofL v ∧ (v.dropWhile fun c => c ≠ 10) = ((a :: r).dropWhile fun c => c ≠ 10) ∧ v.length ≤ (a :: r).length ∧ w = w2, fun x _ => x.size, ⟨a :: r, rfl, rfl, Nat.le_refl _, rfl⟩, fun _ x w3 hI => ?_⟩
        obtain ⟨v, rfl, hv, hvl, rfl⟩ := hI
        have done : v = ((a :: r).dropWhile fun c => c ≠ 10) → (∃ u ts', ofL v = ofL u ∧ ts.length = ts'.length ∧ ts' ++ lex u line = lex s 1 ∧ 1 ≤ line ∧ line + u.length ≤ s.length + 1 ∧ St W emp.own w3 [sl 96 3 (.slice p ts'.length c) ts'.length (ts'.flatMap tkR)]) ∧ (ofL v).size < (ofL (a :: r)).size := by
          intro e
          rw [← e] at ht hlt
          simp only [List.length_cons] at hlt
          exact ⟨⟨v, ts, rfl, rfl, ht, by omega, by omega, H⟩, by rw [ofL_size, hsz]; omega⟩
        refine Sx.split_of (fun h5 => ?_) (fun h5 => ?_)
        · obtain ⟨d, q, rfl⟩ : ∃ d q, v = d :: q := by
            cases v with
            | nil => exact absurd (of_decide_eq_true h5) (by rw [ofL_size]; simp)
            | cons d q => exact ⟨d, q, rfl⟩
          refine ⟨d, by omega, ofL_get _ 0, Sx.split_of (fun h6 => ?_) (fun h6 => ?_)⟩
          · have hd : d ≠ 10 := fun e => by rw [e] at h6; cases h6
            have hxq : (ofL (d :: q)).extract 1 (ofL (d :: q)).size = ofL q := by
              rw [extract_ofL, ofL_size, List.take_of_length_le (Nat.le_refl _)]; rfl
            refine ⟨by omega, ⟨by rw [ofL_size]; simp, Nat.le_refl _⟩, ?_⟩
            rw [hxq]
            rw [List.dropWhile_cons_of_pos (by simpa using hd)] at hv
            simp only [List.length_cons] at hvl
            exact ⟨⟨q, rfl, hv, by simp only [List.length_cons]; omega, rfl⟩, by show (ofL q).size < (ofL (d :: q)).size; rw [ofL_size, ofL_size]; simp⟩
          · have hd : d = 10 := by
              have : ((d.toNat : Int) == 10) = true := by
                cases hh : ((d.toNat : Int) == 10) with
                | true => rfl
                | false => simp [bne, hh] at h6
              have := beq_iff_eq.1 this
              exact UInt8.toNat_inj.1 (by show d.toNat = 10; omega)
            exact done (by rw [← hv, List.dropWhile_cons_of_neg (by simp [hd])])
        · have hv0 : v = [] := by
            have := of_decide_eq_false h5
            rw [ofL_size] at this
            exact List.eq_nil_of_length_eq_zero (by omega)
          subst hv0
          exact done hv
      · have hc : ¬ (a :: r).take 2 = [47, 47] := fun e => (of_decide_eq_false h4) (by rw [e]; rfl)
        rw [if_neg hc] at ht hts
        have hf := first_pos (s := a :: r) (by simp)
        simp only [List.length_cons] at hf
        refine H.callq (rnext_any a r (by simp only [List.length_cons]; omega)) fun w4 H4 => ?_
        generalize hk : (first (a :: r)).1 = kk at *
        generalize hn : (first (a :: r)).2 = nn at *
        refine ⟨_, _, rfl, by omega, ⟨by omega, by rw [hsz]; omega⟩, ?_⟩
        have hx0 : (ofL (a :: r)).extract 0 ((nn : Nat) : Int).toNat = ofL ((a :: r).take nn) := by
          rw [extract_ofL, List.drop_zero]; rfl
        have hxn : (ofL (a :: r)).extract ((nn : Nat) : Int).toNat (ofL (a :: r)).size = ofL ((a :: r).drop nn) := by
          rw [extract_ofL, ofL_size, List.take_of_length_le (Nat.le_refl _)]; rfl
        simp only [hx0, hxn]
        rintro vs rfl
        refine ⟨rfl, ?_⟩
        refine H4.al fun k3 w5 H5 => ?_
        have hts2 : ts.length + 1 + (lex ((a :: r).drop nn) line).length ≤ 8001 := by simp only [List.length_cons] at hts; omega
        refine H5.app 0 rfl (tkR ⟨kk, ofL ((a :: r).take nn), line⟩) (.inr ⟨_, rfl, fun j v hj => ?_⟩) rfl (tkR_one _) (by show ts.length + 1 ≤ maxLen; unfold maxLen; omega) (by omega) fun p' c' w6 H6 => ?_
        · rw [show (Addr.add ⟨k3, 0, none⟩ j) = ⟨k3, j, none⟩ by simp [Addr.add]; intro e; exact e.symm]; exact H5.ld 1 rfl (i := j) (by simpa [tkR, ofL, kR] using hj)
        refine ⟨by omega, ⟨by rw [hsz]; omega, Nat.le_refl _⟩, ⟨_, ts ++ [⟨kk, ofL ((a :: r).take nn), line⟩], rfl, by simp, by rw [← ht]; simp, by omega, by rw [List.length_drop]; simp only [List.length_cons]; omega, ?_⟩, ?_⟩
        · have h9 : St W emp.own w6 [sl 96 3 (.slice p' (ts.length + 1) c') (ts.length + 1) (ts.flatMap tkR ++ tkR ⟨kk, ofL ((a :: r).take nn), line⟩)] := H6.pick [0]
          rw [show (ts ++ [(⟨kk, ofL ((a :: r).take nn), line⟩ : Tok)]).length = ts.length + 1 by simp]
          rw [List.flatMap_append, List.flatMap_cons, List.flatMap_nil, List.append_nil]
          exact h9
        · show (ofL _).size < (ofL (a :: r)).size
          rw [hsz, ofL_size, List.length_drop]; simp only [List.length_cons]; omega
    · have hc : ¬ (a :: r).take 2 = [47, 47] := fun e => by
        have := congrArg List.length e
        have hs1 := of_decide_eq_false hs1
        rw [ofL_size] at hs1
        rw [List.length_take] at this
        simp only [List.length_cons, List.length_nil] at this hs1
        omega
      rw [if_neg hc] at ht hts
      have hf := first_pos (s := a :: r) (by simp)
      simp only [List.length_cons] at hf
      refine H.callq (rnext_any a r (by simp only [List.length_cons]; omega)) fun w4 H4 => ?_
      generalize hk : (first (a :: r)).1 = kk at *
      generalize hn : (first (a :: r)).2 = nn at *
      refine ⟨_, _, rfl, by omega, ⟨by omega, by rw [hsz]; omega⟩, ?_⟩
      have hx0 : (ofL (a :: r)).extract 0 ((nn : Nat) : Int).toNat = ofL ((a :: r).take nn) := by
        rw [extract_ofL, List.drop_zero]; rfl
      have hxn : (ofL (a :: r)).extract ((nn : Nat) : Int).toNat (ofL (a :: r)).size = ofL ((a :: r).drop nn) := by
        rw [extract_ofL, ofL_size, List.take_of_length_le (Nat.le_refl _)]; rfl
      simp only [hx0, hxn]
      rintro vs rfl
      refine ⟨rfl, ?_⟩
      refine H4.al fun k3 w5 H5 => ?_
      have hts2 : ts.length + 1 + (lex ((a :: r).drop nn) line).length ≤ 8001 := by simp only [List.length_cons] at hts; omega
      refine H5.app 0 rfl (tkR ⟨kk, ofL ((a :: r).take nn), line⟩) (.inr ⟨_, rfl, fun j v hj => ?_⟩) rfl (tkR_one _) (by show ts.length + 1 ≤ maxLen; unfold maxLen; omega) (by omega) fun p' c' w6 H6 => ?_
      · rw [show (Addr.add ⟨k3, 0, none⟩ j) = ⟨k3, j, none⟩ by simp [Addr.add]; intro e; exact e.symm]; exact H5.ld 1 rfl (i := j) (by simpa [tkR, ofL, kR] using hj)
      refine ⟨by omega, ⟨by rw [hsz]; omega, Nat.le_refl _⟩, ⟨_, ts ++ [⟨kk, ofL ((a :: r).take nn), line⟩], rfl, by simp, by rw [← ht]; simp, by omega, by rw [List.length_drop]; simp only [List.length_cons]; omega, ?_⟩, ?_⟩
      · have h9 : St W emp.own w6 [sl 96 3 (.slice p' (ts.length + 1) c') (ts.length + 1) (ts.flatMap tkR ++ tkR ⟨kk, ofL ((a :: r).take nn), line⟩)] := H6.pick [0]
        rw [show (ts ++ [(⟨kk, ofL ((a :: r).take nn), line⟩ : Tok)]).length = ts.length + 1 by simp]
        rw [List.flatMap_append, List.flatMap_cons, List.flatMap_nil, List.append_nil]
        exact h9
      · show (ofL _).size < (ofL (a :: r)).size
        rw [hsz, ofL_size, List.length_drop]; simp only [List.length_cons]; omega
  · have hu : u = [] := by
      have h := of_decide_eq_false h
      rw [ofL_size] at h
      exact List.eq_nil_of_length_eq_zero (by omega)
    subst hu
    rw [lex_nil] at ht
    rintro vs rfl
    refine ⟨rfl, ?_⟩
    refine H.al fun k3 w5 H5 => ?_
    rw [lex_nil] at hts
    simp only [List.length_cons, List.length_nil] at hts
    refine H5.app 0 rfl (tkR ⟨0, ofL [], line⟩) (.inr ⟨_, rfl, fun j v hj => ?_⟩) rfl (tkR_one _) (by show ts.length + 1 ≤ maxLen; unfold maxLen; omega) (by omega) fun p' c' w6 H6 => ?_
    · rw [show (Addr.add ⟨k3, 0, none⟩ j) = ⟨k3, j, none⟩ by simp [Addr.add]; intro e; exact e.symm]; exact H5.ld 1 rfl (i := j) (by simpa [tkR, ofL, kR] using hj)
    refine ⟨p', c', ?_, ?_⟩
    · rw [← ht]; simp
    · rw [← ht]
      have h9 : St W emp.own w6 [sl 96 3 (.slice p' (ts.length + 1) c') (ts.length + 1) (ts.flatMap tkR ++ tkR ⟨0, ofL [], line⟩)] := H6.pick [0]
      rw [show (ts ++ [(⟨0, ofL [], line⟩ : Tok)]).length = ts.length + 1 by simp]
      rw [List.flatMap_append, List.flatMap_cons, List.flatMap_nil, List.append_nil]
      exact h9.post 0 rfl
end Go.Proofs.YtojogkljneonmaaGreatDoor
