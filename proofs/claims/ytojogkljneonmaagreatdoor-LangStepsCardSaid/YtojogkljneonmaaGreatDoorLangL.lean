import Derived.Test.YtojogkljneonmaaGreatDoorLangM
import Derived.Test.YtojogkljneonmaaGreatDoorLangK
/- The lexer in memory: the first token of a text. No condition. -/
namespace Go.Proofs.YtojogkljneonmaaGreatDoor
open Go Go.Proofs Go.Sep Go.XHeap Go.RowKit Go.Lang
set_option linter.unusedVariables false
set_option linter.unusedSimpArgs false

variable {W : World}
theorem letter_any (c : Int) (hc : 0 ≤ c) : Calls Tryz.prog 86 #[.int .i32 c] W fun e w' => e = .returned (.bool (letR c.toNat)) ∧ w' = W := by
  refine vc86 c ?_
  unfold letR
  refine Sx.split_of (fun h => ?_) (fun h => ?_)
  · have := beq_iff_eq.1 h
    rw [show c.toNat = 95 by omega]
    exact ⟨rfl, rfl⟩
  · have h1 : (c.toNat == 95) = false := beq_eq_false_iff_ne.2 fun e => (beq_eq_false_iff_ne.1 h) (by omega)
    rw [h1, Bool.false_or]
    refine Sx.split_of (fun h => ?_) (fun h => ?_)
    · have h2 := of_decide_eq_true h
      rw [decide_eq_true (show 97 ≤ c.toNat by omega), Bool.true_and]
      exact ⟨by rw [show decide (c ≤ 122) = decide (c.toNat ≤ 122) from decide_eq_decide.2 (by omega)], rfl⟩
    · have h2 := of_decide_eq_false h
      rw [decide_eq_false (show ¬ 97 ≤ c.toNat by omega)]
      exact ⟨rfl, rfl⟩
theorem digit_any (c : Int) (hc : 0 ≤ c) : Calls Tryz.prog 87 #[.int .i32 c] W fun e w' => e = .returned (.bool (digR c.toNat)) ∧ w' = W := by
  refine vc87 c ?_
  unfold digR
  refine Sx.split_of (fun h => ?_) (fun h => ?_)
  · have h2 := of_decide_eq_true h
    rw [decide_eq_true (show 48 ≤ c.toNat by omega), Bool.true_and]
    exact ⟨by rw [show decide (c ≤ 57) = decide (c.toNat ≤ 57) from decide_eq_decide.2 (by omega)], rfl⟩
  · have h2 := of_decide_eq_false h
    rw [decide_eq_false (show ¬ 48 ≤ c.toNat by omega)]
    exact ⟨rfl, rfl⟩
theorem first1_any [Inhabited G3o] (c : Int) (hc : 0 ≤ c) : Calls Tryz.prog 85 #[.int .i32 c] W fun e w' => e = .returned (.bool (!(letR c.toNat || digR c.toNat))) ∧ w' = W := by
  refine vc85 c ?_
  refine (letter_any c hc).mono ?_
  rintro _ w2 ⟨rfl, rfl⟩
  refine ⟨_, rfl, ?_⟩
  refine Sx.split_of (fun h => ?_) (fun h => ?_)
  · refine (digit_any c hc).mono ?_
    rintro _ w3 ⟨rfl, rfl⟩
    have h : letR c.toNat = false := by simpa using h
    exact ⟨_, rfl, by rw [h]; rfl, rfl⟩
  · have h : letR c.toNat = true := by simpa using h
    exact ⟨by rw [h]; rfl, rfl⟩
theorem special_any [Inhabited G3o] (w : ByteArray) : Calls Tryz.prog 88 #[.string w] W fun e w' => e = .returned (.bool (decide (w.data.toList ∈ words))) ∧ w' = W := by
  refine vc88 w ?_
  simp only [toList_eq]
  have yes : ∀ {l : List UInt8}, l ∈ words → decide (w = ofL l) = true → (Ending.returned (.bool true) = Ending.returned (.bool (decide (w.data.toList ∈ words)))) ∧ True := by
    intro l hl h
    have := of_decide_eq_true h
    subst this
    rw [toList_ofL, decide_eq_true hl]
    exact ⟨rfl, trivial⟩
  refine Sx.split_of (fun h => yes (l := [118, 97, 114]) (by decide) h) (fun h1 => ?_)
  refine Sx.split_of (fun h => yes (l := [102, 117, 110, 99]) (by decide) h) (fun h2 => ?_)
  refine Sx.split_of (fun h => yes (l := [108, 101, 116]) (by decide) h) (fun h3 => ?_)
  refine Sx.split_of (fun h => yes (l := [105, 102]) (by decide) h) (fun h4 => ?_)
  refine Sx.split_of (fun h => yes (l := [101, 108, 115, 101]) (by decide) h) (fun h5 => ?_)
  refine Sx.split_of (fun h => yes (l := [119, 104, 105, 108, 101]) (by decide) h) (fun h6 => ?_)
  refine Sx.split_of (fun h => yes (l := [114, 101, 116, 117, 114, 110]) (by decide) h) (fun h7 => ?_)
  refine Sx.split_of (fun h => yes (l := [112, 114, 105, 110, 116]) (by decide) h) (fun h8 => ?_)
  have no : ∀ {l : List UInt8}, decide (w = ofL l) = false → w.data.toList ≠ l := fun h e => of_decide_eq_false h (by rw [← e, ofL_toList])
  rw [decide_eq_false]
  · exact ⟨rfl, trivial⟩
  · intro hm
    simp only [words, List.mem_cons, List.not_mem_nil, or_false] at hm
    rcases hm with e | e | e | e | e | e | e | e
    · exact no (l := [118, 97, 114]) h1 e
    · exact no (l := [102, 117, 110, 99]) h2 e
    · exact no (l := [108, 101, 116]) h3 e
    · exact no (l := [105, 102]) h4 e
    · exact no (l := [101, 108, 115, 101]) h5 e
    · exact no (l := [119, 104, 105, 108, 101]) h6 e
    · exact no (l := [114, 101, 116, 117, 114, 110]) h7 e
    · exact no (l := [112, 114, 105, 110, 116]) h8 e
theorem pred_letter [Inhabited G3o] (w : World) : PredAt Tryz.prog 86 #[] encR letR w := fun W x hb => (letter_any (W := W) (x : Int) (by omega)).mono fun e w' h => ⟨h.1, 0, h.2⟩
theorem pred_first1 [Inhabited G3o] (w : World) : PredAt Tryz.prog 85 #[] encR (fun r => !(letR r || digR r)) w := fun W x hb => (first1_any (W := W) (x : Int) (by omega)).mono fun e w' h => ⟨h.1, 0, h.2⟩
theorem below_hush {w w' : World} (h : Below w.heap.size w w') : Hush w w' := (XTouch.of_below h).mono fun k hk hs => by omega
/-- the length of the word with which a text begins -/
theorem idx1_any [Inhabited G3o] (s : ByteArray) : Calls Tryz.prog 84 #[.string s, .func (.func 85) #[] #[]] W fun e w' => e = .returned (.int .i64 (if wordLen s.data.toList = s.data.toList.length then -1 else (wordLen s.data.toList : Int))) ∧ Hush W w' := by
  refine (Tryz.strings_IndexFunc 85 #[] (enters_of Tryz.func85 (by kernel_rfl) rfl) _ s W (pred_first1 W)).mono ?_
  rintro e w' ⟨rfl, hb⟩
  rw [idx_word]
  exact ⟨rfl, below_hush hb⟩
theorem idx2_any [Inhabited G3o] (s : ByteArray) : Calls Tryz.prog 84 #[.string s, .func (.func 86) #[] #[]] W fun e w' => e = .returned (.int .i64 (Lib.idxFunc letR true s)) ∧ Hush W w' := by
  refine (Tryz.strings_IndexFunc 86 #[] (enters_of Tryz.func86 (by kernel_rfl) rfl) _ s W (pred_letter W)).mono ?_
  rintro e w' ⟨rfl, hb⟩
  exact ⟨rfl, below_hush hb⟩
theorem ones_any (b : UInt8) : Calls Tryz.prog 47 #[.string (ofL ones), .int .u8 (b.toNat : Int)] W fun e w' => (∃ z : Int, e = .returned (.int .i64 z) ∧ (0 ≤ z ↔ b ∈ ones)) ∧ w' = W := by
  refine (Tryz.strings_IndexByte (ofL ones) (b.toNat : Int) W).mono ?_
  rintro e w' ⟨rfl, rfl⟩
  refine ⟨⟨_, rfl, ?_⟩, rfl⟩
  rw [toList_ofL, indexByte_eq, show ((b.toNat : Nat) : Int).toNat.toUInt8 = b by simp]
  split
  · rename_i h; exact ⟨fun _ => h, fun _ => by omega⟩
  · rename_i h; exact ⟨fun e => by omega, fun e => absurd e h⟩
theorem prefix_take (l p : List UInt8) : Lib.hasPrefix l p = decide (l.take p.length = p) := by
  unfold Lib.hasPrefix
  rw [Bool.eq_iff_iff, List.isPrefixOf_iff_prefix, List.prefix_iff_eq_take, decide_eq_true_iff]
  exact eq_comm
theorem wrap32 (b : UInt8) : IntKind.wrap .i32 (b.toNat : Int) = (b.toNat : Int) := by
  have := b.toNat_lt
  unfold IntKind.wrap
  simp [IntKind.bits, IntKind.signed]
  omega
theorem wordLen_le (s : List UInt8) : wordLen s ≤ s.length := takeWhile_len _ s
theorem word_bytes (s : List UInt8) : ∀ c ∈ s.take (wordLen s), (isL c || isD c) = true := by
  intro c hc
  have hp : s.take (wordLen s) = s.takeWhile fun c => isL c || isD c := by
    unfold wordLen
    exact (List.prefix_iff_eq_take.1 (List.takeWhile_prefix _)).symm
  rw [hp] at hc
  have := List.all_takeWhile (l := s) (p := fun c => isL c || isD c)
  exact List.all_eq_true.1 this c hc
/-- the token with which a text begins -/
theorem first_any [Inhabited G3o] (s : List UInt8) (hs : s ≠ []) : Calls Tryz.prog 48 #[.string (ofL s)] W fun e w' => e = .returned (.tuple #[.int .u8 ((first s).1 : Nat), .int .i64 ((first s).2 : Nat)]) ∧ Hush W w' := by
  refine vc48 (ofL s) ?_
  refine (idx1_any (ofL s)).mono ?_
  rintro _ w2 ⟨rfl, h2⟩
  rw [toList_ofL]
  have hwl := wordLen_le s
  refine ⟨_, rfl, ?_⟩
  refine ⟨fun n w => n = (wordLen s : Int) ∧ Hush W w, Sx.split_of (fun h => ⟨?_, h2⟩) (fun h => ⟨?_, h2⟩), fun _ n w3 hI => ?_⟩
  · have h := of_decide_eq_true h
    rw [ofL_size]
    split at h <;> omega
  · have h := of_decide_eq_false h
    split at h
    · omega
    · rename_i h5; rw [if_neg h5]
  obtain ⟨rfl, h3⟩ := hI
  refine ⟨by omega, ⟨by omega, by rw [ofL_size]; omega⟩, ?_⟩
  obtain ⟨c, r, rfl⟩ := List.exists_cons_of_ne_nil hs
  refine Sx.split_of (fun h => ?_) (fun h => ?_)
  · have h0 : wordLen (c :: r) = 0 := by have := beq_iff_eq.1 h; omega
    have hf : first (c :: r) = if (c :: r).take 2 ∈ twos then (3, 2) else if (c :: r).headD 0 ∈ ones then (3, 1) else (4, 1) := by unfold first; rw [h0]
    rintro vs rfl
    refine ⟨fun x w => Hush W w ∧ ∃ i : Nat, x = i ∧ i ≤ 8 ∧ ∀ j t, j < i → twos[j]? = some t → (c :: r).take 2 ≠ t, fun x w => (8 - x).toNat, ⟨h3, 0, rfl, by omega, fun j t hj => by omega⟩, fun _ x w4 hI => ?_⟩
    obtain ⟨h4, i, rfl, hi, hno⟩ := hI
    refine Sx.split_of (fun h => ?_) (fun h => ?_)
    · have h5 : i < 8 := by have := of_decide_eq_true h; omega
      have ht : i < twos.length := h5
      have hlen : ∀ x ∈ twos, x.length = 2 := by decide
      refine ⟨⟨by omega, by omega⟩, ofL twos[i], ?_, ?_⟩
      · show (twos.map fun l => Value.string (ofL l)).toArray[((i : Nat) : Int).toNat * 1]? = _
        rw [show ((i : Nat) : Int).toNat * 1 = i by omega, List.getElem?_toArray, List.getElem?_map, List.getElem?_eq_getElem ht]
        rfl
      · refine (Tryz.strings_HasPrefix (ofL (c :: r)) (ofL twos[i]) w4).mono ?_
        rintro _ w5 ⟨rfl, rfl⟩
        rw [toList_ofL, toList_ofL, prefix_take, hlen _ (List.getElem_mem ht)]
        refine ⟨_, rfl, Sx.split_of (fun h => ?_) (fun h => ?_)⟩
        · have h6 := of_decide_eq_true h
          rw [hf, if_pos (h6 ▸ List.getElem_mem ht)]
          exact ⟨rfl, h4⟩
        · have h6 := of_decide_eq_false h
          rintro z rfl
          have hw : IntKind.wrap .i64 ((i : Nat) + 1 : Int) = ((i + 1 : Nat) : Int) := by rw [show ((i : Nat) + 1 : Int) = ((i + 1 : Nat) : Int) by omega]; exact Go.Bits.n64 (by omega)
          rw [hw]
          refine ⟨⟨h4, i + 1, rfl, by omega, fun j t hj hjt => ?_⟩, by show (8 - ((i + 1 : Nat) : Int)).toNat < (8 - ((i : Nat) : Int)).toNat; omega⟩
          rcases Nat.lt_or_eq_of_le (Nat.lt_succ_iff.1 hj) with h7 | h7
          · exact hno j t h7 hjt
          · subst h7
            rw [List.getElem?_eq_getElem ht] at hjt
            cases hjt
            exact h6
    · have h5 : i = 8 := by have := of_decide_eq_false h; omega
      subst h5
      have hnot : ¬ (c :: r).take 2 ∈ twos := by
        intro hm
        obtain ⟨j, hj, e⟩ := List.getElem_of_mem hm
        exact hno j _ hj (List.getElem?_eq_getElem hj) e.symm
      rw [if_neg hnot] at hf
      have hf : first (c :: r) = if c ∈ ones then (3, 1) else (4, 1) := hf
      refine ⟨c, by omega, ofL_get _ 0, ?_⟩
      refine (ones_any (W := w4) c).mono ?_
      rintro _ w5 ⟨⟨z, rfl, hz⟩, rfl⟩
      refine ⟨z, rfl, Sx.split_of (fun h => ?_) (fun h => ?_)⟩
      · have h6 := of_decide_eq_true h
        rw [hf, if_pos (hz.1 h6)]
        exact ⟨rfl, h4⟩
      · have h6 := of_decide_eq_false h
        rw [hf, if_neg (fun e => h6 (hz.2 e))]
        exact ⟨rfl, h4⟩
  · obtain ⟨m, hm⟩ : ∃ m, wordLen (c :: r) = m + 1 := ⟨wordLen (c :: r) - 1, by have := bne_iff_ne.1 (show ((wordLen (c :: r) : Int) != 0) = true by simpa [bne] using h); omega⟩
    have hf : first (c :: r) = if isL c then (if (c :: r).take (m + 1) ∈ words then (3, m + 1) else (1, m + 1)) else if ((c :: r).take (m + 1)).all isD then (2, m + 1) else (4, m + 1) := by unfold first; rw [hm]; rfl
    have hwb := word_bytes (c :: r)
    rw [hm] at hwb ⊢
    have hx : (ofL (c :: r)).extract 0 ((m + 1 : Nat) : Int).toNat = ofL ((c :: r).take (m + 1)) := by
      rw [extract_ofL, List.drop_zero]
      rfl
    simp only [hx]
    have hc0 : (ofL ((c :: r).take (m + 1)))[0]? = some c := by rw [ofL_get]; rfl
    refine ⟨c, by omega, hc0, ?_⟩
    rintro z rfl
    rw [wrap32]
    refine (letter_any (W := w3) (c.toNat : Int) (by omega)).mono ?_
    rintro _ w4 ⟨rfl, rfl⟩
    rw [Int.toNat_natCast, ← isL_nat]
    refine ⟨_, rfl, Sx.split_of (fun h => ?_) (fun h => ?_)⟩
    · refine (special_any (W := w4) (ofL ((c :: r).take (m + 1)))).mono ?_
      rintro _ w5 ⟨rfl, rfl⟩
      rw [toList_ofL]
      refine ⟨_, rfl, Sx.split_of (fun h6 => ?_) (fun h6 => ?_)⟩
      · rw [hf, if_pos h, if_pos (of_decide_eq_true h6)]
        exact ⟨rfl, h3⟩
      · refine ⟨c, by omega, hc0, ?_⟩
        rintro z rfl
        rw [wrap32]
        refine (letter_any (W := w5) (c.toNat : Int) (by omega)).mono ?_
        rintro _ w6 ⟨rfl, rfl⟩
        rw [Int.toNat_natCast, ← isL_nat]
        refine ⟨_, rfl, Sx.split_of (fun h7 => ?_) (fun h7 => ?_)⟩
        · rw [hf, if_pos h, if_neg (of_decide_eq_false h6)]
          exact ⟨rfl, h3⟩
        · rw [h] at h7; cases h7
    · refine ⟨c, by omega, hc0, ?_⟩
      rintro z rfl
      rw [wrap32]
      refine (letter_any (W := w4) (c.toNat : Int) (by omega)).mono ?_
      rintro _ w6 ⟨rfl, rfl⟩
      rw [Int.toNat_natCast, ← isL_nat]
      refine ⟨_, rfl, Sx.split_of (fun h7 => ?_) (fun h7 => ?_)⟩
      · rw [h] at h7; cases h7
      · refine (idx2_any (W := w6) (ofL ((c :: r).take (m + 1)))).mono ?_
        rintro _ w7 ⟨rfl, h7'⟩
        have hil := idx_letter (ofL ((c :: r).take (m + 1))) hwb
        rw [toList_ofL] at hil
        have hL : ¬ isL c = true := by rw [h]; decide
        refine ⟨_, rfl, Sx.split_of (fun h8 => ?_) (fun h8 => ?_)⟩
        · have h9 := hil.1 (of_decide_eq_true h8)
          rw [hf, if_neg hL, if_neg (by rw [h9]; decide)]
          exact ⟨rfl, hush_trans h3 h7'⟩
        · have h9 : ((c :: r).take (m + 1)).all isD = true := by
            cases he : ((c :: r).take (m + 1)).all isD with
            | true => rfl
            | false => exact absurd (hil.2 he) (of_decide_eq_false h8)
          rw [hf, if_neg hL, if_pos h9]
          exact ⟨rfl, hush_trans h3 h7'⟩
end Go.Proofs.YtojogkljneonmaaGreatDoor
/- The lexer in memory: all tokens of a text. No condition. -/
namespace Go.Lang
open Go
theorem drop_takeWhile {α : Type} (p : α → Bool) : ∀ (l : List α), l.dropWhile p = l.drop (l.takeWhile p).length
  | [] => rfl
  | a :: l => by
    rw [List.dropWhile_cons, List.takeWhile_cons]
    cases p a with
    | false => rfl
    | true => simpa using drop_takeWhile p l
theorem dropWhile_all {α : Type} (p : α → Bool) : ∀ (l : List α), (∀ x ∈ l, p x = true) → l.dropWhile p = []
  | [], _ => rfl
  | a :: l, h => by
    rw [List.dropWhile_cons, if_pos (h a (List.mem_cons_self ..))]
    exact dropWhile_all p l fun x hx => h x (List.mem_cons_of_mem _ hx)
theorem drop_comment (l : List UInt8) : (l.dropWhile fun c => c ≠ 10) = if Lib.indexByte l 10 < 0 then [] else l.drop (Lib.indexByte l 10).toNat := by
  rw [indexByte_eq]
  by_cases h : (10 : UInt8) ∈ l
  · rw [if_pos h, if_neg (by omega), Int.toNat_natCast]
    exact drop_takeWhile _ l
  · rw [if_neg h, if_pos (by omega)]
    exact dropWhile_all _ l fun x hx => by
      simp only [decide_eq_true_eq]
      intro e; exact h (e ▸ hx)
end Go.Lang
namespace Go.Proofs.YtojogkljneonmaaGreatDoor
open Go Go.Proofs Go.Sep Go.XHeap Go.RowKit Go.Lang
set_option linter.unusedVariables false
set_option linter.unusedSimpArgs false
variable {W : World}
theorem good_lex {s : List UInt8} (h : s.length ≤ 8000) (line : Int) : Good (lex s line) := by
  obtain ⟨h1, h2, h3, h4⟩ := lex_ind s.length s line (Nat.le_refl _)
  exact ⟨h1, h2, fun t ht => by have := h3 t ht; omega, by omega⟩
/-- all tokens of a text -/
theorem tokens_any [Inhabited G3o] (s : List UInt8) (hs : s.length ≤ 8000) : Calls Tryz.prog 24 #[.string (ofL s)] W fun e w' => ∃ p c, e = .returned (.slice p (lex s 1).length c) ∧ Post emp W (sl 87 3 (.slice p (lex s 1).length c) (lex s 1).length ((lex s 1).flatMap tkL)) w' := by
  refine vc24 (ofL s) ?_
  have hlen := (good_lex hs 1).2.2.2
  refine ⟨fun s2 line p k c w => ∃ u ts, s2 = ofL u ∧ k = ts.length ∧ ts ++ lex u line = lex s 1 ∧ 1 ≤ line ∧ line + u.length ≤ s.length + 1 ∧ St W emp.own w [sl 87 3 (.slice p ts.length c) ts.length (ts.flatMap tkL)], fun s2 _ _ _ _ _ => s2.size, ?_, fun _ s2 line p k c w2 hI => ?_⟩
  · exact ⟨s, [], rfl, rfl, rfl, by omega, by omega, (St.nil W).add ⟨Sl.nil _ _ _, XTouch.refl _ _, fun q hq => by cases hq⟩⟩
  obtain ⟨u, ts, rfl, rfl, ht, hl1, hl2, H⟩ := hI
  have hts : ts.length + (lex u line).length ≤ 8001 := by rw [← List.length_append, ht]; exact hlen
  rw [toList_eq]
  refine Sx.split_of (fun h => ?_) (fun h => ?_)
  · obtain ⟨a, r, rfl⟩ : ∃ a r, u = a :: r := by
      cases u with
      | nil => cases h
      | cons a r => exact ⟨a, r, rfl⟩
    have h0 : (ofL (a :: r))[0]? = some a := ofL_get _ 0
    have hsz : (ofL (a :: r)).size = r.length + 1 := rfl
    simp only [List.length_cons] at hl2
    have hx1 : (ofL (a :: r)).extract 1 (ofL (a :: r)).size = ofL r := by
      rw [extract_ofL, hsz, List.take_of_length_le (by simp)]; rfl
    rw [lex_cons] at ht hts
    refine ⟨a, by omega, h0, Sx.split_of (fun h1 => ?_) (fun h1 => ?_)⟩
    · have ha : a = 10 := by
        have := beq_iff_eq.1 h1
        exact UInt8.toNat_inj.1 (by show a.toNat = 10; omega)
      rw [if_pos ha] at ht
      rintro z rfl
      refine ⟨by omega, ⟨by omega, Nat.le_refl _⟩, ?_⟩
      rw [hx1]
      have hw : IntKind.wrap .i64 (line + 1) = line + 1 := by
        obtain ⟨m, rfl⟩ : ∃ m : Nat, line = m := ⟨line.toNat, by omega⟩
        rw [show ((m : Nat) + 1 : Int) = ((m + 1 : Nat) : Int) by omega]; exact Go.Bits.n64 (by omega)
      rw [hw]
      exact ⟨⟨r, ts, rfl, rfl, ht, by omega, by omega, H⟩, by show (ofL r).size < (ofL (a :: r)).size; rw [hsz, ofL_size]; omega⟩
    have ha : a ≠ 10 := fun e => by rw [e] at h1; cases h1
    rw [if_neg ha] at ht hts
    have blank : (a = 32 ∨ a = 9) → ((0 : Int) ≤ 1 ∧ (1 ≤ (ofL (a :: r)).size ∧ (ofL (a :: r)).size ≤ (ofL (a :: r)).size) ∧ (∃ u ts', (ofL (a :: r)).extract 1 (ofL (a :: r)).size = ofL u ∧ ts.length = ts'.length ∧ ts' ++ lex u line = lex s 1 ∧ 1 ≤ line ∧ line + u.length ≤ s.length + 1 ∧ St W emp.own w2 [sl 87 3 (.slice p ts'.length c) ts'.length (ts'.flatMap tkL)]) ∧ ((ofL (a :: r)).extract 1 (ofL (a :: r)).size).size < (ofL (a :: r)).size) := by
      intro hb
      rw [if_pos hb] at ht
      refine ⟨by omega, ⟨by omega, Nat.le_refl _⟩, ?_⟩
      rw [hx1]
      exact ⟨⟨r, ts, rfl, rfl, ht, by omega, by omega, H⟩, by rw [hsz, ofL_size]; omega⟩
    refine ⟨a, by omega, h0, Sx.split_of (fun h2 => ?_) (fun h2 => ?_)⟩
    · have ha : a = 32 := by
        have := beq_iff_eq.1 h2
        exact UInt8.toNat_inj.1 (by show a.toNat = 32; omega)
      exact blank (.inl ha)
    refine ⟨a, by omega, h0, Sx.split_of (fun h3 => ?_) (fun h3 => ?_)⟩
    · have ha : a = 9 := by
        have := beq_iff_eq.1 h3
        exact UInt8.toNat_inj.1 (by show a.toNat = 9; omega)
      exact blank (.inr ha)
    have hb : ¬ (a = 32 ∨ a = 9) := by
      rintro (e | e)
      · rw [e] at h2; cases h2
      · rw [e] at h3; cases h3
    rw [if_neg hb] at ht hts
    refine (Tryz.strings_HasPrefix (ofL (a :: r)) (ofL [47, 47]) w2).mono ?_
    rintro _ w3 ⟨rfl, rfl⟩
    rw [toList_ofL, toList_ofL, prefix_take]
    refine ⟨_, rfl, Sx.split_of (fun h4 => ?_) (fun h4 => ?_)⟩
    · have hc : (a :: r).take 2 = [47, 47] := of_decide_eq_true h4
      rw [if_pos hc] at ht
      have hlt := comment_lt hc
      rw [drop_comment] at ht hlt
      refine (Tryz.strings_IndexByte (ofL (a :: r)) 10 w3).mono ?_
      rintro _ w4 ⟨rfl, rfl⟩
      rw [toList_ofL, show (10 : Int).toNat.toUInt8 = 10 from rfl]
      refine ⟨_, rfl, Sx.split_of (fun h5 => ?_) (fun h5 => ?_)⟩
      · have h5 := of_decide_eq_true h5
        rw [if_pos h5] at ht
        have hx : (ofL (a :: r)).extract ((ofL (a :: r)).size : Int).toNat (ofL (a :: r)).size = ofL [] := by
          rw [extract_ofL, Int.toNat_natCast, ofL_size, List.take_of_length_le (Nat.le_refl _), List.drop_eq_nil_of_le (Nat.le_refl _)]
        refine ⟨by omega, ⟨by omega, Nat.le_refl _⟩, ?_⟩
        rw [hx]
        exact ⟨⟨[], ts, rfl, rfl, ht, by omega, by simp only [List.length_nil]; omega, H⟩, by show 0 < (ofL (a :: r)).size; omega⟩
      · have h5 := of_decide_eq_false h5
        rw [if_neg h5] at ht hlt
        rw [List.length_drop] at hlt
        simp only [List.length_cons] at hlt
        have hrange : (Lib.indexByte (a :: r) 10).toNat ≤ r.length + 1 := by
          rw [indexByte_eq]
          split
          · have := takeWhile_len (fun x : UInt8 => decide (x ≠ 10)) (a :: r)
            simp only [List.length_cons] at this
            omega
          · omega
        have hx : (ofL (a :: r)).extract (Lib.indexByte (a :: r) 10).toNat (ofL (a :: r)).size = ofL ((a :: r).drop (Lib.indexByte (a :: r) 10).toNat) := by
          rw [extract_ofL, ofL_size, List.take_of_length_le (Nat.le_refl _)]
        refine ⟨by omega, ⟨by rw [hsz]; omega, Nat.le_refl _⟩, ?_⟩
        rw [hx]
        refine ⟨⟨_, ts, rfl, rfl, ht, by omega, by rw [List.length_drop]; simp only [List.length_cons]; omega, H⟩, ?_⟩
        show (ofL _).size < (ofL (a :: r)).size
        rw [hsz, ofL_size, List.length_drop]; simp only [List.length_cons]; omega
    · have hc : ¬ (a :: r).take 2 = [47, 47] := of_decide_eq_false h4
      rw [if_neg hc] at ht hts
      have hf := first_pos (s := a :: r) (by simp)
      simp only [List.length_cons] at hf
      refine H.callq (first_any (a :: r) (by simp)) fun w4 H4 => ?_
      generalize hk : (first (a :: r)).1 = kk at *
      generalize hn : (first (a :: r)).2 = nn at *
      refine ⟨_, _, rfl, by omega, ⟨by omega, by rw [hsz]; omega⟩, ?_⟩
      have hx0 : (ofL (a :: r)).extract 0 ((nn : Nat) : Int).toNat = ofL ((a :: r).take nn) := by
        rw [extract_ofL, List.drop_zero]; rfl
      have hxn : (ofL (a :: r)).extract ((nn : Nat) : Int).toNat (ofL (a :: r)).size = ofL ((a :: r).drop nn) := by
        rw [extract_ofL, ofL_size, List.take_of_length_le (Nat.le_refl _)]; rfl
      simp only [hx0, hxn]
      rintro vs rfl
      refine ⟨rfl, ?_⟩
      refine H4.al fun k3 w5 H5 => ?_
      have hts2 : ts.length + 1 + (lex ((a :: r).drop nn) line).length ≤ 8001 := by simp only [List.length_cons] at hts; omega
      refine H5.app 0 rfl (tkL ⟨kk, ofL ((a :: r).take nn), line⟩) (.inr ⟨_, rfl, fun j v hj => ?_⟩) rfl (tkL_one _) (by show ts.length + 1 ≤ maxLen; unfold maxLen; omega) (by omega) fun p' c' w6 H6 => ?_
      · rw [show (Addr.add ⟨k3, 0, none⟩ j) = ⟨k3, j, none⟩ by simp [Addr.add]; intro e; exact e.symm]; exact H5.ld 1 rfl (i := j) (by simpa [tkL, ofL] using hj)
      refine ⟨by omega, ⟨by rw [hsz]; omega, Nat.le_refl _⟩, ⟨_, ts ++ [⟨kk, ofL ((a :: r).take nn), line⟩], rfl, by simp, by rw [← ht]; simp, by omega, by rw [List.length_drop]; simp only [List.length_cons]; omega, ?_⟩, ?_⟩
      · have h9 : St W emp.own w6 [sl 87 3 (.slice p' (ts.length + 1) c') (ts.length + 1) (ts.flatMap tkL ++ tkL ⟨kk, ofL ((a :: r).take nn), line⟩)] := H6.pick [0]
        rw [show (ts ++ [(⟨kk, ofL ((a :: r).take nn), line⟩ : Tok)]).length = ts.length + 1 by simp]
        rw [List.flatMap_append, List.flatMap_cons, List.flatMap_nil, List.append_nil]
        exact h9
      · show (ofL _).size < (ofL (a :: r)).size
        rw [hsz, ofL_size, List.length_drop]; simp only [List.length_cons]; omega
  · have hu : u = [] := by
      have h : decide (ofL u = ofL []) = true := by
        cases hd : decide (ofL u = ofL []) with
        | true => rfl
        | false =>
          have h : (!decide (ofL u = ofL [])) = false := h
          rw [hd] at h; cases h
      exact ofL_inj (of_decide_eq_true h)
    subst hu
    rw [lex_nil] at ht
    rintro vs rfl
    refine ⟨rfl, ?_⟩
    refine H.al fun k3 w5 H5 => ?_
    rw [lex_nil] at hts
    simp only [List.length_cons, List.length_nil] at hts
    refine H5.app 0 rfl (tkL ⟨0, ofL [], line⟩) (.inr ⟨_, rfl, fun j v hj => ?_⟩) rfl (tkL_one _) (by show ts.length + 1 ≤ maxLen; unfold maxLen; omega) (by omega) fun p' c' w6 H6 => ?_
    · rw [show (Addr.add ⟨k3, 0, none⟩ j) = ⟨k3, j, none⟩ by simp [Addr.add]; intro e; exact e.symm]; exact H5.ld 1 rfl (i := j) (by simpa [tkL, ofL] using hj)
    refine ⟨p', c', ?_, ?_⟩
    · rw [← ht]; simp
    · rw [← ht]
      have h9 : St W emp.own w6 [sl 87 3 (.slice p' (ts.length + 1) c') (ts.length + 1) (ts.flatMap tkL ++ tkL ⟨0, ofL [], line⟩)] := H6.pick [0]
      rw [show (ts ++ [(⟨0, ofL [], line⟩ : Tok)]).length = ts.length + 1 by simp]
      rw [List.flatMap_append, List.flatMap_cons, List.flatMap_nil, List.append_nil]
      exact h9.post 0 rfl
end Go.Proofs.YtojogkljneonmaaGreatDoor
/- The parser's declarations, whole. No condition. -/
namespace Go.Proofs.YtojogkljneonmaaGreatDoor
open Go Go.Proofs Go.Sep Go.XHeap Go.RowKit Go.Lang
set_option linter.unusedVariables false
set_option linter.unusedSimpArgs false

variable {W : World} {b g n : Nat} {l : List Tok}
theorem number_is {l l1 : List Tok} {v : Int} (h : (number l fun v l => R.ok v l) = .ok v l1) : ∃ k : Nat, v = k ∧ k < 4294967296 := by
  unfold number at h
  split at h
  · cases h
  · split at h
    · cases h
    · cases h; exact ⟨_, rfl, by omega⟩
/-- a declaration is read -/
def DeclK [Inhabited G3o] (b g : Nat) (W : World) (A : Asn) (d : D) (l' : List Tok) (e : Ending) (w' : World) : Prop := ∃ v B, e = .returned v ∧ isDe d v B ∧ Post A W (all [parA b g l' 0, B]) w'
theorem decl_any [Inhabited G3o] {f : Nat} (h : (parA b g l 0).at_ W) (hr : decl f l ≠ .out) : Calls Tryz.prog 26 #[pt b] W (Ans (parW b) (parA b g l 0) W (decl f l) (DeclK b g W (parA b g l 0))) := by
  refine vc26 b 0 ?_
  have I0 := ih_all f
  have hrun : decl f l = if is cVar l then (name l.tail fun t l => R.ok t l).bind fun nm l' =>
      if is cLB l' then (number l'.tail fun v l => R.ok v l).bind fun v l'' => if v < 1 ∨ 256 < v then .err (now l'.tail).line 3 else (want cRB l'' fun l => R.ok () l).bind fun _ l'' => (want cSemi l'' fun l => R.ok () l).bind fun _ l'' => .ok (.var (now l) nm.s 0 v) l''
      else (want cSemi l' fun l => R.ok () l).bind fun _ l' => .ok (.var (now l) nm.s 0 0) l'
    else (want cFunc l fun l => R.ok () l).bind fun _ l' => (name l' fun t l => R.ok t l).bind fun nm l' => (want cLP l' fun l => params 6 l).bind fun ps l' => (run f .blk 0 l').bind fun b l' => .ok (.fn (now l) nm.s ps 0 0 b) l' := by
    unfold decl
    split
    · rw [name_bind]
      congr 1
      funext nm l'
      split
      · rw [number_bind]
        congr 1
        funext v l''
        split
        · rfl
        · rw [want_bind]
          congr 1
          funext _ l3
          rw [want_bind]
      · rw [want_bind]
    · rw [want_bind]
      congr 1
      funext _ l'
      rw [name_bind]
      congr 1
      funext nm l'
      unfold want
      split <;> rfl
  generalize decl f l = R0 at *
  refine (St.begin h).al fun k w2 H2 => ?_
  refine ⟨_, H2.ld 1 rfl (i := 0) rfl, ?_⟩
  refine H2.callq (now_any (H2.nth 0 rfl)) fun w3 H3 => ?_
  refine ⟨_, rfl, ?_⟩
  refine H3.al fun k2 w4 H4 => ?_
  refine H4.sts0 2 (n := 3) (vs := (tkL (now l)).toArray) rfl rfl rfl (by simpa using tkL_one _) fun w5 H5 => ?_
  refine ⟨_, H5.ld 1 rfl (i := 0) rfl, ?_⟩
  refine (take_any cVar (H5.nth 0 rfl)).mono ?_
  rintro _ w6 ⟨rfl, hp⟩
  have H6 := H5.upd 0 rfl hp
  refine ⟨_, rfl, ?_⟩
  refine Sx.split_of (fun h6 => ?_) (fun h6 => ?_)
  · rw [if_pos h6] at hrun H6
    refine H6.dr fun w7 H7 => ?_
    refine ⟨_, H7.ld 1 rfl (i := 0) rfl, _, rfl, H7.cells 2 rfl, ?_⟩
    refine pcase (β := Unit) H7 0 rfl hrun hr (fun _ => name_any (H7.nth 0 rfl)) ?_
    rintro nm l1 - hrun _ w8 ⟨rfl, hp⟩
    have H8 := H7.upd 0 rfl hp
    refine ⟨_, rfl, ⟨_, rfl, H8.cells 2 rfl, rfl⟩, _, rfl, rfl, ?_⟩
    rintro _ rfl
    refine H8.al fun k4 w9 H9 => ?_
    refine ⟨_, H9.ld 1 rfl (i := 0) rfl, ?_⟩
    refine (take_any cLB (H9.nth 0 rfl)).mono ?_
    rintro _ w10 ⟨rfl, hp⟩
    have H10 := H9.upd 0 rfl hp
    refine ⟨_, rfl, ?_⟩
    refine Sx.split_of (fun h10 => ?_) (fun h10 => ?_)
    · rw [if_pos h10] at hrun H10
      refine ⟨_, H10.ld 1 rfl (i := 0) rfl, ?_⟩
      refine H10.callq (now_any (H10.nth 0 rfl)) fun w11 H11 => ?_
      refine ⟨_, rfl, ?_⟩
      refine H11.al fun k5 w12 H12 => ?_
      refine H12.sts0 4 (n := 3) (vs := (tkL (now l1.tail)).toArray) rfl rfl rfl (by simpa using tkL_one _) fun w13 H13 => ?_
      refine ⟨_, H13.ld 1 rfl (i := 0) rfl, ?_⟩
      refine pcase (β := Unit) H13 0 rfl hrun hr (fun _ => number_any (H13.nth 0 rfl)) ?_
      rintro v l2 hnum hrun _ w14 ⟨rfl, hp⟩
      have H14 := H13.upd 0 rfl hp
      obtain ⟨q, rfl, hq⟩ := number_is hnum
      refine ⟨_, rfl, ?_⟩
      rintro _ rfl
      rw [show IntKind.wrap .i64 ((q : Nat) : Int) = ((q : Nat) : Int) from Go.Bits.n64 (by omega)]
      refine H14.st 3 rfl (i := 5) (by simp [tkL, Value.cells]) fun w15 H15 => ?_
      refine ⟨_, H15.ld 3 rfl (i := 5) rfl, ?_⟩
      refine Sx.split_of (fun h15 => ?_) (fun h15 => ?_)
      · have h15 := of_decide_eq_true h15
        rw [if_pos (.inl h15)] at hrun
        rw [hrun]
        refine ⟨_, H15.ld 4 rfl (i := 2) rfl, ?_⟩
        exact perr' H15 0 rfl (fail_in (H15.nth 0 rfl) (now l1.tail).line 3)
      have h15 := of_decide_eq_false h15
      refine ⟨_, H15.ld 3 rfl (i := 5) rfl, ?_⟩
      refine Sx.split_of (fun h16 => ?_) (fun h16 => ?_)
      · have h16 := of_decide_eq_true h16
        rw [if_pos (.inr h16)] at hrun
        rw [hrun]
        refine ⟨_, H15.ld 4 rfl (i := 2) rfl, ?_⟩
        exact perr' H15 0 rfl (fail_in (H15.nth 0 rfl) (now l1.tail).line 3)
      have h16 := of_decide_eq_false h16
      rw [if_neg (fun h => h.elim h15 (fun h => h16 h))] at hrun
      refine ⟨_, H15.ld 1 rfl (i := 0) rfl, ?_⟩
      refine pcase (β := Unit) H15 0 rfl hrun hr (fun _ => want_any cRB (H15.nth 0 rfl)) ?_
      rintro _ l3 - hrun _ w18 ⟨rfl, hp⟩
      have H18 := H15.upd 0 rfl hp
      refine ⟨rfl, _, H18.ld 1 rfl (i := 0) rfl, ?_⟩
      refine pcase (β := Unit) H18 0 rfl hrun hr (fun _ => want_any cSemi (H18.nth 0 rfl)) ?_
      rintro _ l4 - hrun _ w19 ⟨rfl, hp⟩
      have H19 := H18.upd 0 rfl hp
      rw [hrun]
      exact ⟨rfl, _, _, rfl, ⟨k4, rfl, rfl⟩, St.post (St.shut (L := [_, _]) (L' := []) (H19.pick [0, 3])) 0 rfl⟩
    · rw [if_neg (by rw [h10]; exact Bool.false_ne_true)] at hrun H10
      refine ⟨_, H10.ld 1 rfl (i := 0) rfl, ?_⟩
      refine pcase (β := Unit) H10 0 rfl hrun hr (fun _ => want_any cSemi (H10.nth 0 rfl)) ?_
      rintro _ l4 - hrun _ w19 ⟨rfl, hp⟩
      have H19 := H10.upd 0 rfl hp
      rw [hrun]
      exact ⟨rfl, _, _, rfl, ⟨k4, rfl, rfl⟩, St.post (St.shut (L := [_, _]) (L' := []) (H19.pick [0, 3])) 0 rfl⟩
  · rw [if_neg (by rw [h6]; exact Bool.false_ne_true)] at hrun H6
    refine ⟨_, H6.ld 1 rfl (i := 0) rfl, ?_⟩
    refine pcase (β := Unit) H6 0 rfl hrun hr (fun _ => want_any cFunc (H6.nth 0 rfl)) ?_
    rintro _ l1 - hrun _ w7 ⟨rfl, hp⟩
    have H7 := H6.upd 0 rfl hp
    refine ⟨rfl, ?_⟩
    refine ⟨fun x w => ∃ nm l2 kf kd, x = some ⟨kf, 0, none⟩ ∧ St W (parA b g l 0).own w (parmL b g 0 l2 (now l) nm k kf kd none 0 []) ∧ R0 = (want cLP l2 fun l => params 6 l).bind fun ps l' => (run f .blk 0 l').bind fun b l' => .ok (.fn (now l) nm ps 0 0 b) l', ?_, fun _ => ?_⟩
    · refine H7.dr fun w8 H8 => ?_
      refine ⟨_, H8.ld 1 rfl (i := 0) rfl, _, rfl, H8.cells 2 rfl, ?_, ?_⟩
      · refine pcase (β := Unit) H8 0 rfl hrun hr (fun _ => name_any (H8.nth 0 rfl)) ?_
        rintro nm l2 - hrun _ w9 ⟨rfl, hp⟩
        have H9 := H8.upd 0 rfl hp
        refine ⟨_, rfl, ⟨_, rfl, H9.cells 2 rfl, rfl⟩, _, rfl, rfl, ?_⟩
        rintro _ rfl
        refine ⟨?_, ?_⟩
        · refine H9.al fun k7 w10 H10 => ?_
          refine H10.al fun k8 w11 H11 => ?_
          refine H11.st 4 rfl (i := 0) (by simp) fun w12 H12 => ?_
          have H13 := (H12.pick [0, 1, 4, 3]).add (A := sl 9 1 (.slice none 0 0) 0 []) ⟨Sl.nil _ _ _, XTouch.refl _ _, fun q hq => by cases hq⟩
          exact ⟨nm.s, l2, k8, k7, rfl, H13, hrun⟩
        · refine H9.al fun k9 w10 H10 => ?_
          refine ⟨⟨_, rfl, H10.cells 2 rfl, rfl⟩, ?_⟩
          refine H10.al fun k10 w11 H11 => ?_
          refine H11.st 3 rfl (i := 0) (by simp) fun w12 H12 => ?_
          have H13 := (H12.pick [0, 1, 3, 4]).add (A := sl 9 1 (.slice none 0 0) 0 []) ⟨Sl.nil _ _ _, XTouch.refl _ _, fun q hq => by cases hq⟩
          exact ⟨nm.s, l2, k9, k10, rfl, H13, hrun⟩
      · refine H8.alb fun k11 w9 H9 _ hb9 => ?_
        refine ⟨hb9, ⟨_, rfl, H9.cells 2 rfl, rfl⟩, ?_⟩
        refine pcase (β := Unit) H9 0 rfl hrun hr (fun _ => name_any (H9.nth 0 rfl)) ?_
        rintro nm l2 - hrun _ w10 ⟨rfl, hp⟩
        have H10 := H9.upd 0 rfl hp
        refine ⟨_, rfl, ⟨_, rfl, H10.cells 2 rfl, rfl⟩, _, rfl, rfl, ?_⟩
        rintro _ rfl
        refine H10.al fun k12 w11 H11 => ?_
        refine H11.st 3 rfl (i := 0) (by simp) fun w12 H12 => ?_
        have H13 := (H12.pick [0, 1, 3, 4]).add (A := sl 9 1 (.slice none 0 0) 0 []) ⟨Sl.nil _ _ _, XTouch.refl _ _, fun q hq => by cases hq⟩
        exact ⟨nm.s, l2, k11, k12, rfl, H13, hrun⟩
    · clear hrun H7 hp
      rintro x w34 ⟨nm, l2, kf, kd, rfl, H8, hrun⟩
      refine ⟨_, H8.ld 1 rfl (i := 0) rfl, ?_⟩
      have H8 := St.shut (L' := []) (by simpa using H8)
      refine pcase (β := Unit) H8 0 rfl hrun hr (fun _ => list_decl (H8.nth 0 rfl)) ?_
      rintro ps l3 - hrun _ w9 ⟨rfl, p, c, hp⟩
      have H9 := St.open_ (L' := []) (H8.upd 0 rfl hp)
      refine ⟨rfl, ?_⟩
      refine H9.dr fun w10 H10 => ?_
      refine ⟨_, H10.ld 1 rfl (i := 0) rfl, ptr_some ⟨_, H10.ld 2 rfl (i := 0) rfl, ?_⟩⟩
      refine pcase (β := Unit) H10 0 rfl hrun hr (fun hr => I0.blk (H10.nth 0 rfl) (by omega) hr) ?_
      rintro y l4 - hrun _ w11 ⟨kb, B, rfl, hB, hp⟩
      have H11 := St.open_ (L := [_, _]) (H10.upd 0 rfl hp)
      refine ⟨_, rfl, ptr_some ⟨_, H11.ld 3 rfl (i := 0) rfl, rfl⟩, ptr_some ?_⟩
      refine H11.st 4 rfl (i := 5) (by simp [fnC, tkL]) fun w12 H12 => ?_
      refine ptr_some ⟨_, H12.ld 3 rfl (i := 0) rfl, ?_⟩
      rw [hrun]
      have H13 := (St.shut (L := [_, _, _]) (L' := [_]) (H12.pick [4, 5, 1, 0])).pick [1, 0]
      exact ⟨_, _, rfl, ⟨kd, kb, p, c, B, hB, rfl, rfl⟩, St.post (St.shut (L := [_, _]) (L' := []) H13) 0 rfl⟩
end Go.Proofs.YtojogkljneonmaaGreatDoor
