import Derived.Test.YtojogkljneonmaaGreatDoorLangQ
import Derived.Test.YtojogkljneonmaaGreatDoorLangVd
import Derived.Test.YtojogkljneonmaaGreatDoorLangRa
/- The plain lexer: a step at a time; what its tokens are. No condition. -/
namespace Go.Lang
set_option linter.unusedVariables false

theorem ofL_toList (s : ByteArray) : ofL s.data.toList = s := rfl
theorem toList_ofL (l : List UInt8) : (ofL l).data.toList = l := rfl
theorem ofL_size (l : List UInt8) : (ofL l).size = l.length := rfl
theorem ofL_inj {a b : List UInt8} (h : ofL a = ofL b) : a = b := by
  have := congrArg (fun s : ByteArray => s.data.toList) h
  exact this
theorem extract_ofL (l : List UInt8) (a b : Nat) : (ofL l).extract a b = ofL ((l.take b).drop a) := by
  have : ((ofL l).extract a b).data.toList = (l.take b).drop a := by
    rw [ByteArray.data_extract]
    simp [ofL, List.extract_eq_take_drop]
    rw [List.drop_take]
  rw [← this, ofL_toList]
theorem takeWhile_len {α : Type} (p : α → Bool) : ∀ (l : List α), (l.takeWhile p).length ≤ l.length
  | [] => by simp
  | a :: l => by
    rw [List.takeWhile_cons]
    split
    · simp; exact takeWhile_len p l
    · simp
theorem first_pos {s : List UInt8} (h : s ≠ []) : 1 ≤ (first s).2 ∧ ((first s).2 ≤ s.length) := by
  unfold first
  have hw : wordLen s ≤ s.length := takeWhile_len _ s
  split
  · split
    · rename_i h2
      refine ⟨by decide, ?_⟩
      have : ∀ x ∈ twos, x.length = 2 := by decide
      have h3 := this _ h2
      rw [List.length_take] at h3
      show 2 ≤ s.length
      omega
    · have : 1 ≤ s.length := List.length_pos_iff.2 h
      split <;> exact ⟨by decide, this⟩
  · rename_i n hn
    split
    · split <;> exact ⟨by simp, by show n + 1 ≤ s.length; omega⟩
    · split <;> exact ⟨by simp, by show n + 1 ≤ s.length; omega⟩
def lex (s : List UInt8) (line : Int) : List Tok := lexF s.length s line
theorem comment_lt {s : List UInt8} (h : s.take 2 = [47, 47]) : (s.dropWhile fun c => c ≠ 10).length < s.length := by
  match s, h with
  | a :: b :: r, h =>
    simp at h
    obtain ⟨rfl, rfl⟩ := h
    rw [List.dropWhile_cons_of_pos (by decide), List.dropWhile_cons_of_pos (by decide)]
    have := (List.dropWhile_suffix (l := r) (fun c : UInt8 => decide (c ≠ 10))).length_le
    simp only [List.length_cons]
    omega
theorem lexF_any : ∀ (n : Nat) (s : List UInt8) (f g : Nat) (line : Int), s.length ≤ n → s.length ≤ f → s.length ≤ g → lexF f s line = lexF g s line := by
  intro n
  induction n with
  | zero =>
    intro s f g line hn hf hg
    have : s = [] := List.eq_nil_of_length_eq_zero (by omega)
    subst this
    cases f <;> cases g <;> rfl
  | succ n ih =>
    intro s f g line hn hf hg
    cases s with
    | nil => cases f <;> cases g <;> rfl
    | cons c r =>
      simp only [List.length_cons] at hn hf hg
      match f, g, hf, hg with
      | f + 1, g + 1, hf, hg =>
      unfold lexF
      dsimp only
      have hd : ∀ (t : List UInt8) (line : Int), t.length ≤ r.length → lexF f t line = lexF g t line := fun t line h => ih t f g line (by omega) (by omega) (by omega)
      split
      · exact hd r _ (Nat.le_refl _)
      · split
        · exact hd r _ (Nat.le_refl _)
        · split
          · rename_i h2
            have := comment_lt h2
            simp only [List.length_cons] at this
            exact hd _ _ (by omega)
          · have := first_pos (s := c :: r) (by simp)
            rw [hd _ _ (by rw [List.length_drop]; simp only [List.length_cons]; omega)]
theorem lex_nil (line : Int) : lex [] line = [⟨0, ofL [], line⟩] := rfl
theorem lex_cons (c : UInt8) (r : List UInt8) (line : Int) : lex (c :: r) line = if c = 10 then lex r (line + 1) else if c = 32 ∨ c = 9 then lex r line
      else if (c :: r).take 2 = [47, 47] then lex ((c :: r).dropWhile fun c => c ≠ 10) line
      else ⟨(first (c :: r)).1, ofL ((c :: r).take (first (c :: r)).2), line⟩ :: lex ((c :: r).drop (first (c :: r)).2) line := by
  unfold lex
  rw [List.length_cons, lexF]
  split
  · rfl
  · split
    · rfl
    · split
      · rename_i h2
        have := comment_lt h2
        simp only [List.length_cons] at this
        exact lexF_any _ _ _ _ _ (Nat.le_refl _) (by omega) (Nat.le_refl _)
      · have := first_pos (s := c :: r) (by simp)
        rw [lexF_any _ _ _ _ _ (Nat.le_refl _) (by rw [List.length_drop]; simp only [List.length_cons]; omega) (Nat.le_refl _)]
/-! ### what the tokens are -/
def NumTok (t : Tok) : Prop := t.k = 2 → t.s.data.toList ≠ [] ∧ t.s.data.toList.all isD = true
theorem lex_ind : ∀ (n : Nat) (s : List UInt8) (line : Int), s.length ≤ n → (∃ l0 t, lex s line = l0 ++ [t] ∧ t.k = 0) ∧ (∀ t ∈ lex s line, NumTok t) ∧ (∀ t ∈ lex s line, t.s.size ≤ s.length) ∧ (lex s line).length ≤ s.length + 1 := by
  intro n
  induction n with
  | zero =>
    intro s line hn
    have : s = [] := List.eq_nil_of_length_eq_zero (by omega)
    subst this
    rw [lex_nil]
    exact ⟨⟨[], _, rfl, rfl⟩, (fun t ht => by simp at ht; subst ht; exact fun h => by cases h), (fun t ht => by simp at ht; subst ht; exact Nat.le_refl _), by simp⟩
  | succ n ih =>
    intro s line hn
    cases s with
    | nil =>
      rw [lex_nil]
      exact ⟨⟨[], _, rfl, rfl⟩, (fun t ht => by simp at ht; subst ht; exact fun h => by cases h), (fun t ht => by simp at ht; subst ht; exact Nat.le_refl _), by simp⟩
    | cons c r =>
      simp only [List.length_cons] at hn
      have sub : ∀ (u : List UInt8) (line : Int), u.length ≤ r.length → (∃ l0 t, lex u line = l0 ++ [t] ∧ t.k = 0) ∧ (∀ t ∈ lex u line, NumTok t) ∧ (∀ t ∈ lex u line, t.s.size ≤ (c :: r).length) ∧ (lex u line).length ≤ (c :: r).length := by
        intro u line hu
        obtain ⟨h1, h2, h3, h4⟩ := ih u line (by omega)
        exact ⟨h1, h2, (fun t ht => by have := h3 t ht; simp only [List.length_cons]; omega), by simp only [List.length_cons]; omega⟩
      rw [lex_cons]
      split
      · obtain ⟨h1, h2, h3, h4⟩ := sub r (line + 1) (Nat.le_refl _)
        exact ⟨h1, h2, h3, by omega⟩
      · split
        · obtain ⟨h1, h2, h3, h4⟩ := sub r line (Nat.le_refl _)
          exact ⟨h1, h2, h3, by omega⟩
        · split
          · rename_i hc
            have := comment_lt hc
            simp only [List.length_cons] at this
            obtain ⟨h1, h2, h3, h4⟩ := sub _ line (show ((c :: r).dropWhile fun c => c ≠ 10).length ≤ r.length by omega)
            exact ⟨h1, h2, h3, by omega⟩
          · have hf := first_pos (s := c :: r) (by simp)
            obtain ⟨⟨l0, t, h1, h1'⟩, h2, h3, h4⟩ := sub ((c :: r).drop (first (c :: r)).2) line (by rw [List.length_drop]; simp only [List.length_cons]; omega)
            refine ⟨⟨_ :: l0, t, by rw [h1]; rfl, h1'⟩, fun u hu => ?_, fun u hu => ?_, by simp only [List.length_cons] at h4 ⊢; omega⟩
            · rcases List.mem_cons.1 hu with rfl | hu
              · intro hk
                show (List.take _ _) ≠ [] ∧ (List.take _ _).all isD = true
                have hk : (first (c :: r)).1 = 2 := hk
                unfold first at hk ⊢
                split at hk
                · split at hk
                  · cases hk
                  · split at hk <;> cases hk
                · split at hk
                  · split at hk <;> cases hk
                  · rename_i m hm hl
                    split at hk
                    · rename_i ha
                      rw [if_neg hl, if_pos ha]
                      exact ⟨by simp, ha⟩
                    · cases hk
              · exact h2 u hu
            · rcases List.mem_cons.1 hu with rfl | hu
              · show (ofL _).size ≤ _
                rw [ofL_size, List.length_take]
                omega
              · exact h3 u hu
end Go.Lang
/- The lexer in memory: the first token of a text. No condition. -/
namespace Go.Lang
set_option linter.unusedVariables false
open Go

theorem ofL_get (l : List UInt8) (i : Nat) : (ofL l)[i]? = l[i]? := by
  by_cases h : i < l.length
  · rw [getElem?_pos (ofL l) i (by show i < (ofL l).size; rw [ofL_size]; exact h), List.getElem?_eq_getElem h]
    rfl
  · rw [getElem?_neg (ofL l) i (by show ¬ i < (ofL l).size; rw [ofL_size]; exact h), List.getElem?_eq_none (by omega)]
def letR (r : Nat) : Bool := r == 95 || (decide (97 ≤ r) && decide (r ≤ 122))
def digR (r : Nat) : Bool := decide (48 ≤ r) && decide (r ≤ 57)
theorem isL_nat (c : UInt8) : isL c = letR c.toNat := by
  unfold isL letR
  congr 1
  rw [Bool.eq_iff_iff, beq_iff_eq, beq_iff_eq]
  exact ⟨fun h => by rw [h]; rfl, fun h => UInt8.toNat_inj.1 h⟩
theorem isD_nat (c : UInt8) : isD c = digR c.toNat := rfl
theorem high_word {r : Nat} (h : 128 ≤ r) : (letR r || digR r) = false := by
  unfold letR digR
  rw [Bool.or_eq_false_iff, Bool.or_eq_false_iff, Bool.and_eq_false_iff, Bool.and_eq_false_iff]
  exact ⟨⟨beq_eq_false_iff_ne.2 (by omega), .inr (decide_eq_false (by omega))⟩, .inr (decide_eq_false (by omega))⟩
theorem size_list (s : ByteArray) : s.size = s.data.toList.length := rfl
/-- where the first rune stands of which p holds -/
theorem idx_eq (p : Nat → Bool) (q : UInt8 → Bool) (s : ByteArray) (H : ∀ i, (h : i < s.size) → ((s[i]'h).toNat < 128 ∧ q s[i] = !p (s[i]'h).toNat) ∨ (128 ≤ (s[i]'h).toNat ∧ q s[i] = false ∧ ∀ r, 128 ≤ r → p r = true)) :
    ∀ (f pos : Nat), s.size ≤ pos + f → Lib.idxFuncFrom p true s f pos = if (s.data.toList.drop pos).all q then -1 else ((pos + ((s.data.toList.drop pos).takeWhile q).length : Nat) : Int) := by
  intro f
  induction f with
  | zero =>
    intro pos h
    rw [List.drop_eq_nil_of_le (by rw [← size_list]; omega)]
    rfl
  | succ f ih =>
    intro pos h
    unfold Lib.idxFuncFrom
    by_cases hp : pos < s.size
    · rw [if_pos hp]
      have hd : s.data.toList.drop pos = s[pos] :: s.data.toList.drop (pos + 1) := List.drop_eq_getElem_cons (by rw [← size_list]; exact hp)
      rw [hd, List.all_cons, List.takeWhile_cons]
      rcases H pos hp with ⟨h1, h2⟩ | ⟨h1, h2, h3⟩
      · rw [decode_ascii s pos hp h1]
        show (if p (s[pos]'hp).toNat = true then (pos : Int) else Lib.idxFuncFrom p true s f (pos + 1)) = _
        rw [h2]
        cases p (s[pos]'hp).toNat with
        | true => simp
        | false =>
          rw [if_neg (by decide), ih (pos + 1) (by omega)]
          simp only [Bool.not_false, Bool.true_and, if_true, List.length_cons]
          rw [show pos + 1 + (List.takeWhile q (List.drop (pos + 1) s.data.toList)).length = pos + ((List.takeWhile q (List.drop (pos + 1) s.data.toList)).length + 1) by omega]
      · rw [if_pos (h3 _ (decode_high s pos hp h1).1), h2]
        simp
    · rw [if_neg hp, List.drop_eq_nil_of_le (by rw [← size_list]; omega)]
      rfl
theorem mem_byte {s : ByteArray} {c : UInt8} {i : Nat} (h : i < s.size) (e : s[i]'h = c) : c ∈ s.data.toList := by
  rw [← e]
  exact List.getElem_mem (l := s.data.toList) (by rw [← size_list]; exact h)
theorem all_takeWhile {α : Type} (p : α → Bool) : ∀ (l : List α), l.all p = true ↔ (l.takeWhile p).length = l.length
  | [] => by simp
  | a :: l => by
    rw [List.all_cons, List.takeWhile_cons]
    cases p a with
    | false => simp
    | true => simpa using all_takeWhile p l
/-- how long the word is -/
theorem idx_word (s : ByteArray) : Lib.idxFunc (fun r => !(letR r || digR r)) true s = if wordLen s.data.toList = s.data.toList.length then -1 else (wordLen s.data.toList : Int) := by
  unfold Lib.idxFunc
  rw [idx_eq (fun r => !(letR r || digR r)) (fun c => isL c || isD c) s (fun i h => by
    by_cases h2 : (s[i]'h).toNat < 128
    · exact .inl ⟨h2, by rw [isL_nat, isD_nat]; simp⟩
    · refine .inr ⟨by omega, ?_, fun r hr => by rw [high_word hr]; rfl⟩
      rw [isL_nat, isD_nat]
      exact high_word (by omega)) s.size 0 (by omega)]
  rw [List.drop_zero]
  unfold wordLen
  generalize s.data.toList = l
  have key := all_takeWhile (fun c => isL c || isD c) l
  by_cases h : (l.all fun c => isL c || isD c) = true
  · rw [if_pos h, if_pos (key.1 h)]
  · rw [if_neg h, if_neg (fun e => h (key.2 e))]
    simp
/-- whether a word of letters and digits has a letter -/
theorem idx_letter (s : ByteArray) (hs : ∀ c ∈ s.data.toList, (isL c || isD c) = true) : (0 ≤ Lib.idxFunc letR true s) ↔ s.data.toList.all isD = false := by
  unfold Lib.idxFunc
  have hlow : ∀ c ∈ s.data.toList, c.toNat < 128 := by
    intro c hc
    rcases Nat.lt_or_ge c.toNat 128 with h | h
    · exact h
    · have := hs c hc
      rw [isL_nat, isD_nat, high_word h] at this
      cases this
  rw [idx_eq letR (fun c => !isL c) s (fun i h => .inl ⟨hlow _ (mem_byte h rfl), by rw [isL_nat]⟩) s.size 0 (by omega)]
  rw [List.drop_zero]
  have e : s.data.toList.all (fun c => !isL c) = s.data.toList.all isD := by
    rw [Bool.eq_iff_iff, List.all_eq_true, List.all_eq_true]
    refine forall_congr' fun c => forall_congr' fun hc => ?_
    have h1 := hs c hc
    have h2 : ¬ (isL c = true ∧ isD c = true) := by
      rw [isL_nat, isD_nat]
      unfold letR digR
      intro ⟨a, b⟩
      rw [Bool.and_eq_true] at b
      have b1 := of_decide_eq_true b.1
      have b2 := of_decide_eq_true b.2
      rcases Bool.or_eq_true_iff.1 a with a | a
      · have := beq_iff_eq.1 a; omega
      · rw [Bool.and_eq_true] at a
        have := of_decide_eq_true a.1; omega
    cases hL : isL c <;> cases hD : isD c <;> simp_all
  rw [e]
  cases s.data.toList.all isD with
  | true => simp
  | false => simp
theorem indexByte_eq (l : List UInt8) (c : UInt8) : Lib.indexByte l c = if c ∈ l then (((l.takeWhile fun x => decide (x ≠ c)).length : Nat) : Int) else -1 := by
  induction l with
  | nil => rfl
  | cons b l ih =>
    unfold Lib.indexByte
    by_cases h : b = c
    · subst h; simp
    · rw [if_neg (by simpa using h), ih]
      have hm : c ∈ b :: l ↔ c ∈ l := by simp [Ne.symm h]
      by_cases h2 : c ∈ l
      · rw [if_pos h2, if_pos (hm.2 h2), List.takeWhile_cons_of_pos (by simpa using h), List.length_cons]
        rw [if_neg (by simp)]
        rfl
      · rw [if_neg h2, if_neg (fun e => h2 (hm.1 e))]
        rfl
end Go.Lang
/- The lexer in memory: the first token of a text. No condition. -/
namespace Go.Proofs.YtojogkljneonmaaGreatDoor
open Go Go.Proofs Go.Sep Go.XHeap Go.RowKit Go.Lang
set_option linter.unusedVariables false
set_option linter.unusedSimpArgs false

variable {W : World}
theorem letter_any (c : Int) (hc : 0 ≤ c) : Calls Tryz.prog 86 #[.int .i32 c] W fun e w' => e = .returned (.bool (letR c.toNat)) ∧ w' = W := by
  refine vc86 c ?_
  unfold letR
  refine Sx.split_of (fun h => ?_) (fun h => ?_)
  · have := beq_iff_eq.1 h
    rw [show c.toNat = 95 by omega]
    exact ⟨rfl, rfl⟩
  · have h1 : (c.toNat == 95) = false := beq_eq_false_iff_ne.2 fun e => (beq_eq_false_iff_ne.1 h) (by omega)
    rw [h1, Bool.false_or]
    refine Sx.split_of (fun h => ?_) (fun h => ?_)
    · have h2 := of_decide_eq_true h
      rw [decide_eq_true (show 97 ≤ c.toNat by omega), Bool.true_and]
      exact ⟨by rw [show decide (c ≤ 122) = decide (c.toNat ≤ 122) from decide_eq_decide.2 (by omega)], rfl⟩
    · have h2 := of_decide_eq_false h
      rw [decide_eq_false (show ¬ 97 ≤ c.toNat by omega)]
      exact ⟨rfl, rfl⟩
theorem digit_any (c : Int) (hc : 0 ≤ c) : Calls Tryz.prog 87 #[.int .i32 c] W fun e w' => e = .returned (.bool (digR c.toNat)) ∧ w' = W := by
  refine vc87 c ?_
  unfold digR
  refine Sx.split_of (fun h => ?_) (fun h => ?_)
  · have h2 := of_decide_eq_true h
    rw [decide_eq_true (show 48 ≤ c.toNat by omega), Bool.true_and]
    exact ⟨by rw [show decide (c ≤ 57) = decide (c.toNat ≤ 57) from decide_eq_decide.2 (by omega)], rfl⟩
  · have h2 := of_decide_eq_false h
    rw [decide_eq_false (show ¬ 48 ≤ c.toNat by omega)]
    exact ⟨rfl, rfl⟩
theorem first1_any [Inhabited G3o] (c : Int) (hc : 0 ≤ c) : Calls Tryz.prog 85 #[.int .i32 c] W fun e w' => e = .returned (.bool (!(letR c.toNat || digR c.toNat))) ∧ w' = W := by
  refine vc85 c ?_
  refine (letter_any c hc).mono ?_
  rintro _ w2 ⟨rfl, rfl⟩
  refine ⟨_, rfl, ?_⟩
  refine Sx.split_of (fun h => ?_) (fun h => ?_)
  · refine (digit_any c hc).mono ?_
    rintro _ w3 ⟨rfl, rfl⟩
    have h : letR c.toNat = false := by simpa using h
    exact ⟨_, rfl, by rw [h]; rfl, rfl⟩
  · have h : letR c.toNat = true := by simpa using h
    exact ⟨by rw [h]; rfl, rfl⟩
theorem special_any [Inhabited G3o] (w : ByteArray) : Calls Tryz.prog 88 #[.string w] W fun e w' => e = .returned (.bool (decide (w.data.toList ∈ words))) ∧ w' = W := by
  refine vc88 w ?_
  simp only [toList_eq]
  have yes : ∀ {l : List UInt8}, l ∈ words → decide (w = ofL l) = true → (Ending.returned (.bool true) = Ending.returned (.bool (decide (w.data.toList ∈ words)))) ∧ True := by
    intro l hl h
    have := of_decide_eq_true h
    subst this
    rw [toList_ofL, decide_eq_true hl]
    exact ⟨rfl, trivial⟩
  refine Sx.split_of (fun h => yes (l := [118, 97, 114]) (by decide) h) (fun h1 => ?_)
  refine Sx.split_of (fun h => yes (l := [102, 117, 110, 99]) (by decide) h) (fun h2 => ?_)
  refine Sx.split_of (fun h => yes (l := [108, 101, 116]) (by decide) h) (fun h3 => ?_)
  refine Sx.split_of (fun h => yes (l := [105, 102]) (by decide) h) (fun h4 => ?_)
  refine Sx.split_of (fun h => yes (l := [101, 108, 115, 101]) (by decide) h) (fun h5 => ?_)
  refine Sx.split_of (fun h => yes (l := [119, 104, 105, 108, 101]) (by decide) h) (fun h6 => ?_)
  refine Sx.split_of (fun h => yes (l := [114, 101, 116, 117, 114, 110]) (by decide) h) (fun h7 => ?_)
  refine Sx.split_of (fun h => yes (l := [112, 114, 105, 110, 116]) (by decide) h) (fun h8 => ?_)
  have no : ∀ {l : List UInt8}, decide (w = ofL l) = false → w.data.toList ≠ l := fun h e => of_decide_eq_false h (by rw [← e, ofL_toList])
  rw [decide_eq_false]
  · exact ⟨rfl, trivial⟩
  · intro hm
    simp only [words, List.mem_cons, List.not_mem_nil, or_false] at hm
    rcases hm with e | e | e | e | e | e | e | e
    · exact no (l := [118, 97, 114]) h1 e
    · exact no (l := [102, 117, 110, 99]) h2 e
    · exact no (l := [108, 101, 116]) h3 e
    · exact no (l := [105, 102]) h4 e
    · exact no (l := [101, 108, 115, 101]) h5 e
    · exact no (l := [119, 104, 105, 108, 101]) h6 e
    · exact no (l := [114, 101, 116, 117, 114, 110]) h7 e
    · exact no (l := [112, 114, 105, 110, 116]) h8 e
theorem pred_letter [Inhabited G3o] (w : World) : PredAt Tryz.prog 86 #[] encR letR w := fun W x hb => (letter_any (W := W) (x : Int) (by omega)).mono fun e w' h => ⟨h.1, 0, h.2⟩
theorem pred_first1 [Inhabited G3o] (w : World) : PredAt Tryz.prog 85 #[] encR (fun r => !(letR r || digR r)) w := fun W x hb => (first1_any (W := W) (x : Int) (by omega)).mono fun e w' h => ⟨h.1, 0, h.2⟩
theorem below_hush {w w' : World} (h : Below w.heap.size w w') : Hush w w' := (XTouch.of_below h).mono fun k hk hs => by omega
/-- the length of the word with which a text begins -/
theorem idx1_any [Inhabited G3o] (s : ByteArray) : Calls Tryz.prog 84 #[.string s, .func (.func 85) #[] #[]] W fun e w' => e = .returned (.int .i64 (if wordLen s.data.toList = s.data.toList.length then -1 else (wordLen s.data.toList : Int))) ∧ Hush W w' := by
  refine (Tryz.strings_IndexFunc 85 #[] (enters_of Tryz.func85 (by kernel_rfl) rfl) _ s W (pred_first1 W)).mono ?_
  rintro e w' ⟨rfl, hb⟩
  rw [idx_word]
  exact ⟨rfl, below_hush hb⟩
theorem idx2_any [Inhabited G3o] (s : ByteArray) : Calls Tryz.prog 84 #[.string s, .func (.func 86) #[] #[]] W fun e w' => e = .returned (.int .i64 (Lib.idxFunc letR true s)) ∧ Hush W w' := by
  refine (Tryz.strings_IndexFunc 86 #[] (enters_of Tryz.func86 (by kernel_rfl) rfl) _ s W (pred_letter W)).mono ?_
  rintro e w' ⟨rfl, hb⟩
  exact ⟨rfl, below_hush hb⟩
theorem ones_any (b : UInt8) : Calls Tryz.prog 47 #[.string (ofL ones), .int .u8 (b.toNat : Int)] W fun e w' => (∃ z : Int, e = .returned (.int .i64 z) ∧ (0 ≤ z ↔ b ∈ ones)) ∧ w' = W := by
  refine (Tryz.strings_IndexByte (ofL ones) (b.toNat : Int) W).mono ?_
  rintro e w' ⟨rfl, rfl⟩
  refine ⟨⟨_, rfl, ?_⟩, rfl⟩
  rw [toList_ofL, indexByte_eq, show ((b.toNat : Nat) : Int).toNat.toUInt8 = b by simp]
  split
  · rename_i h; exact ⟨fun _ => h, fun _ => by omega⟩
  · rename_i h; exact ⟨fun e => by omega, fun e => absurd e h⟩
theorem prefix_take (l p : List UInt8) : Lib.hasPrefix l p = decide (l.take p.length = p) := by
  unfold Lib.hasPrefix
  rw [Bool.eq_iff_iff, List.isPrefixOf_iff_prefix, List.prefix_iff_eq_take, decide_eq_true_iff]
  exact eq_comm
theorem wrap32 (b : UInt8) : IntKind.wrap .i32 (b.toNat : Int) = (b.toNat : Int) := by
  have := b.toNat_lt
  unfold IntKind.wrap
  simp [IntKind.bits, IntKind.signed]
  omega
theorem wordLen_le (s : List UInt8) : wordLen s ≤ s.length := takeWhile_len _ s
theorem word_bytes (s : List UInt8) : ∀ c ∈ s.take (wordLen s), (isL c || isD c) = true := by
  intro c hc
  have hp : s.take (wordLen s) = s.takeWhile fun c => isL c || isD c := by
    unfold wordLen
    exact (List.prefix_iff_eq_take.1 (List.takeWhile_prefix _)).symm
  rw [hp] at hc
  have := List.all_takeWhile (l := s) (p := fun c => isL c || isD c)
  exact List.all_eq_true.1 this c hc
/-- the token with which a text begins -/
theorem first_any [Inhabited G3o] (s : List UInt8) (hs : s ≠ []) : Calls Tryz.prog 48 #[.string (ofL s)] W fun e w' => e = .returned (.tuple #[.int .u8 ((first s).1 : Nat), .int .i64 ((first s).2 : Nat)]) ∧ Hush W w' := by
  refine vc48 (ofL s) ?_
  refine (idx1_any (ofL s)).mono ?_
  rintro _ w2 ⟨rfl, h2⟩
  rw [toList_ofL]
  have hwl := wordLen_le s
  refine ⟨_, rfl, ?_⟩
  refine ⟨fun n w => n = (wordLen s : Int) ∧ Hush W w, Sx.split_of (fun h => ⟨?_, h2⟩) (fun h => ⟨?_, h2⟩), fun _ n w3 hI => ?_⟩
  · have h := of_decide_eq_true h
    rw [ofL_size]
    split at h <;> omega
  · have h := of_decide_eq_false h
    split at h
    · omega
    · rename_i h5; rw [if_neg h5]
  obtain ⟨rfl, h3⟩ := hI
  refine ⟨by omega, ⟨by omega, by rw [ofL_size]; omega⟩, ?_⟩
  obtain ⟨c, r, rfl⟩ := List.exists_cons_of_ne_nil hs
  refine Sx.split_of (fun h => ?_) (fun h => ?_)
  · have h0 : wordLen (c :: r) = 0 := by have := beq_iff_eq.1 h; omega
    have hf : first (c :: r) = if (c :: r).take 2 ∈ twos then (3, 2) else if (c :: r).headD 0 ∈ ones then (3, 1) else (4, 1) := by unfold first; rw [h0]
    rintro vs rfl
    refine ⟨fun x w => Hush W w ∧ ∃ i : Nat, x = i ∧ i ≤ 8 ∧ ∀ j t, j < i → twos[j]? = some t → (c :: r).take 2 ≠ t, fun x w => (8 - x).toNat, ⟨h3, 0, rfl, by omega, fun j t hj => by omega⟩, fun _ x w4 hI => ?_⟩
    obtain ⟨h4, i, rfl, hi, hno⟩ := hI
    refine Sx.split_of (fun h => ?_) (fun h => ?_)
    · have h5 : i < 8 := by have := of_decide_eq_true h; omega
      have ht : i < twos.length := h5
      have hlen : ∀ x ∈ twos, x.length = 2 := by decide
      refine ⟨⟨by omega, by omega⟩, ofL twos[i], ?_, ?_⟩
      · show (twos.map fun l => Value.string (ofL l)).toArray[((i : Nat) : Int).toNat * 1]? = _
        rw [show ((i : Nat) : Int).toNat * 1 = i by omega, List.getElem?_toArray, List.getElem?_map, List.getElem?_eq_getElem ht]
        rfl
      · refine (Tryz.strings_HasPrefix (ofL (c :: r)) (ofL twos[i]) w4).mono ?_
        rintro _ w5 ⟨rfl, rfl⟩
        rw [toList_ofL, toList_ofL, prefix_take, hlen _ (List.getElem_mem ht)]
        refine ⟨_, rfl, Sx.split_of (fun h => ?_) (fun h => ?_)⟩
        · have h6 := of_decide_eq_true h
          rw [hf, if_pos (h6 ▸ List.getElem_mem ht)]
          exact ⟨rfl, h4⟩
        · have h6 := of_decide_eq_false h
          rintro z rfl
          have hw : IntKind.wrap .i64 ((i : Nat) + 1 : Int) = ((i + 1 : Nat) : Int) := by rw [show ((i : Nat) + 1 : Int) = ((i + 1 : Nat) : Int) by omega]; exact Go.Bits.n64 (by omega)
          rw [hw]
          refine ⟨⟨h4, i + 1, rfl, by omega, fun j t hj hjt => ?_⟩, by show (8 - ((i + 1 : Nat) : Int)).toNat < (8 - ((i : Nat) : Int)).toNat; omega⟩
          rcases Nat.lt_or_eq_of_le (Nat.lt_succ_iff.1 hj) with h7 | h7
          · exact hno j t h7 hjt
          · subst h7
            rw [List.getElem?_eq_getElem ht] at hjt
            cases hjt
            exact h6
    · have h5 : i = 8 := by have := of_decide_eq_false h; omega
      subst h5
      have hnot : ¬ (c :: r).take 2 ∈ twos := by
        intro hm
        obtain ⟨j, hj, e⟩ := List.getElem_of_mem hm
        exact hno j _ hj (List.getElem?_eq_getElem hj) e.symm
      rw [if_neg hnot] at hf
      have hf : first (c :: r) = if c ∈ ones then (3, 1) else (4, 1) := hf
      refine ⟨c, by omega, ofL_get _ 0, ?_⟩
      refine (ones_any (W := w4) c).mono ?_
      rintro _ w5 ⟨⟨z, rfl, hz⟩, rfl⟩
      refine ⟨z, rfl, Sx.split_of (fun h => ?_) (fun h => ?_)⟩
      · have h6 := of_decide_eq_true h
        rw [hf, if_pos (hz.1 h6)]
        exact ⟨rfl, h4⟩
      · have h6 := of_decide_eq_false h
        rw [hf, if_neg (fun e => h6 (hz.2 e))]
        exact ⟨rfl, h4⟩
  · obtain ⟨m, hm⟩ : ∃ m, wordLen (c :: r) = m + 1 := ⟨wordLen (c :: r) - 1, by have := bne_iff_ne.1 (show ((wordLen (c :: r) : Int) != 0) = true by simpa [bne] using h); omega⟩
    have hf : first (c :: r) = if isL c then (if (c :: r).take (m + 1) ∈ words then (3, m + 1) else (1, m + 1)) else if ((c :: r).take (m + 1)).all isD then (2, m + 1) else (4, m + 1) := by unfold first; rw [hm]; rfl
    have hwb := word_bytes (c :: r)
    rw [hm] at hwb ⊢
    have hx : (ofL (c :: r)).extract 0 ((m + 1 : Nat) : Int).toNat = ofL ((c :: r).take (m + 1)) := by
      rw [extract_ofL, List.drop_zero]
      rfl
    simp only [hx]
    have hc0 : (ofL ((c :: r).take (m + 1)))[0]? = some c := by rw [ofL_get]; rfl
    refine ⟨c, by omega, hc0, ?_⟩
    rintro z rfl
    rw [wrap32]
    refine (letter_any (W := w3) (c.toNat : Int) (by omega)).mono ?_
    rintro _ w4 ⟨rfl, rfl⟩
    rw [Int.toNat_natCast, ← isL_nat]
    refine ⟨_, rfl, Sx.split_of (fun h => ?_) (fun h => ?_)⟩
    · refine (special_any (W := w4) (ofL ((c :: r).take (m + 1)))).mono ?_
      rintro _ w5 ⟨rfl, rfl⟩
      rw [toList_ofL]
      refine ⟨_, rfl, Sx.split_of (fun h6 => ?_) (fun h6 => ?_)⟩
      · rw [hf, if_pos h, if_pos (of_decide_eq_true h6)]
        exact ⟨rfl, h3⟩
      · refine ⟨c, by omega, hc0, ?_⟩
        rintro z rfl
        rw [wrap32]
        refine (letter_any (W := w5) (c.toNat : Int) (by omega)).mono ?_
        rintro _ w6 ⟨rfl, rfl⟩
        rw [Int.toNat_natCast, ← isL_nat]
        refine ⟨_, rfl, Sx.split_of (fun h7 => ?_) (fun h7 => ?_)⟩
        · rw [hf, if_pos h, if_neg (of_decide_eq_false h6)]
          exact ⟨rfl, h3⟩
        · rw [h] at h7; cases h7
    · refine ⟨c, by omega, hc0, ?_⟩
      rintro z rfl
      rw [wrap32]
      refine (letter_any (W := w4) (c.toNat : Int) (by omega)).mono ?_
      rintro _ w6 ⟨rfl, rfl⟩
      rw [Int.toNat_natCast, ← isL_nat]
      refine ⟨_, rfl, Sx.split_of (fun h7 => ?_) (fun h7 => ?_)⟩
      · rw [h] at h7; cases h7
      · refine (idx2_any (W := w6) (ofL ((c :: r).take (m + 1)))).mono ?_
        rintro _ w7 ⟨rfl, h7'⟩
        have hil := idx_letter (ofL ((c :: r).take (m + 1))) hwb
        rw [toList_ofL] at hil
        have hL : ¬ isL c = true := by rw [h]; decide
        refine ⟨_, rfl, Sx.split_of (fun h8 => ?_) (fun h8 => ?_)⟩
        · have h9 := hil.1 (of_decide_eq_true h8)
          rw [hf, if_neg hL, if_neg (by rw [h9]; decide)]
          exact ⟨rfl, hush_trans h3 h7'⟩
        · have h9 : ((c :: r).take (m + 1)).all isD = true := by
            cases he : ((c :: r).take (m + 1)).all isD with
            | true => rfl
            | false => exact absurd (hil.2 he) (of_decide_eq_false h8)
          rw [hf, if_neg hL, if_pos h9]
          exact ⟨rfl, hush_trans h3 h7'⟩
end Go.Proofs.YtojogkljneonmaaGreatDoor
/- The lexer in memory: all tokens of a text. No condition. -/
namespace Go.Lang
open Go
theorem drop_takeWhile {α : Type} (p : α → Bool) : ∀ (l : List α), l.dropWhile p = l.drop (l.takeWhile p).length
  | [] => rfl
  | a :: l => by
    rw [List.dropWhile_cons, List.takeWhile_cons]
    cases p a with
    | false => rfl
    | true => simpa using drop_takeWhile p l
theorem dropWhile_all {α : Type} (p : α → Bool) : ∀ (l : List α), (∀ x ∈ l, p x = true) → l.dropWhile p = []
  | [], _ => rfl
  | a :: l, h => by
    rw [List.dropWhile_cons, if_pos (h a (List.mem_cons_self ..))]
    exact dropWhile_all p l fun x hx => h x (List.mem_cons_of_mem _ hx)
theorem drop_comment (l : List UInt8) : (l.dropWhile fun c => c ≠ 10) = if Lib.indexByte l 10 < 0 then [] else l.drop (Lib.indexByte l 10).toNat := by
  rw [indexByte_eq]
  by_cases h : (10 : UInt8) ∈ l
  · rw [if_pos h, if_neg (by omega), Int.toNat_natCast]
    exact drop_takeWhile _ l
  · rw [if_neg h, if_pos (by omega)]
    exact dropWhile_all _ l fun x hx => by
      simp only [decide_eq_true_eq]
      intro e; exact h (e ▸ hx)
end Go.Lang
namespace Go.Proofs.YtojogkljneonmaaGreatDoor
open Go Go.Proofs Go.Sep Go.XHeap Go.RowKit Go.Lang
set_option linter.unusedVariables false
set_option linter.unusedSimpArgs false
variable {W : World}
theorem good_lex {s : List UInt8} (h : s.length ≤ 8000) (line : Int) : Good (lex s line) := by
  obtain ⟨h1, h2, h3, h4⟩ := lex_ind s.length s line (Nat.le_refl _)
  exact ⟨h1, h2, fun t ht => by have := h3 t ht; omega, by omega⟩
/-- all tokens of a text -/
theorem tokens_any [Inhabited G3o] (s : List UInt8) (hs : s.length ≤ 8000) : Calls Tryz.prog 24 #[.string (ofL s)] W fun e w' => ∃ p c, e = .returned (.slice p (lex s 1).length c) ∧ Post emp W (sl 87 3 (.slice p (lex s 1).length c) (lex s 1).length ((lex s 1).flatMap tkL)) w' := by
  refine vc24 (ofL s) ?_
  have hlen := (good_lex hs 1).2.2.2
  refine ⟨fun s2 line p k c w => ∃ u ts, s2 = ofL u ∧ k = ts.length ∧ ts ++ lex u line = lex s 1 ∧ 1 ≤ line ∧ line + u.length ≤ s.length + 1 ∧ St W emp.own w [sl 87 3 (.slice p ts.length c) ts.length (ts.flatMap tkL)], fun s2 _ _ _ _ _ => s2.size, ?_, fun _ s2 line p k c w2 hI => ?_⟩
  · exact ⟨s, [], rfl, rfl, rfl, by omega, by omega, (St.nil W).add ⟨Sl.nil _ _ _, XTouch.refl _ _, fun q hq => by cases hq⟩⟩
  obtain ⟨u, ts, rfl, rfl, ht, hl1, hl2, H⟩ := hI
  have hts : ts.length + (lex u line).length ≤ 8001 := by rw [← List.length_append, ht]; exact hlen
  rw [toList_eq]
  refine Sx.split_of (fun h => ?_) (fun h => ?_)
  · obtain ⟨a, r, rfl⟩ : ∃ a r, u = a :: r := by
      cases u with
      | nil => cases h
      | cons a r => exact ⟨a, r, rfl⟩
    have h0 : (ofL (a :: r))[0]? = some a := ofL_get _ 0
    have hsz : (ofL (a :: r)).size = r.length + 1 := rfl
    simp only [List.length_cons] at hl2
    have hx1 : (ofL (a :: r)).extract 1 (ofL (a :: r)).size = ofL r := by
      rw [extract_ofL, hsz, List.take_of_length_le (by simp)]; rfl
    rw [lex_cons] at ht hts
    refine ⟨a, by omega, h0, Sx.split_of (fun h1 => ?_) (fun h1 => ?_)⟩
    · have ha : a = 10 := by
        have := beq_iff_eq.1 h1
        exact UInt8.toNat_inj.1 (by show a.toNat = 10; omega)
      rw [if_pos ha] at ht
      rintro z rfl
      refine ⟨by omega, ⟨by omega, Nat.le_refl _⟩, ?_⟩
      rw [hx1]
      have hw : IntKind.wrap .i64 (line + 1) = line + 1 := by
        obtain ⟨m, rfl⟩ : ∃ m : Nat, line = m := ⟨line.toNat, by omega⟩
        rw [show ((m : Nat) + 1 : Int) = ((m + 1 : Nat) : Int) by omega]; exact Go.Bits.n64 (by omega)
      rw [hw]
      exact ⟨⟨r, ts, rfl, rfl, ht, by omega, by omega, H⟩, by show (ofL r).size < (ofL (a :: r)).size; rw [hsz, ofL_size]; omega⟩
    have ha : a ≠ 10 := fun e => by rw [e] at h1; cases h1
    rw [if_neg ha] at ht hts
    have blank : (a = 32 ∨ a = 9) → ((0 : Int) ≤ 1 ∧ (1 ≤ (ofL (a :: r)).size ∧ (ofL (a :: r)).size ≤ (ofL (a :: r)).size) ∧ (∃ u ts', (ofL (a :: r)).extract 1 (ofL (a :: r)).size = ofL u ∧ ts.length = ts'.length ∧ ts' ++ lex u line = lex s 1 ∧ 1 ≤ line ∧ line + u.length ≤ s.length + 1 ∧ St W emp.own w2 [sl 87 3 (.slice p ts'.length c) ts'.length (ts'.flatMap tkL)]) ∧ ((ofL (a :: r)).extract 1 (ofL (a :: r)).size).size < (ofL (a :: r)).size) := by
      intro hb
      rw [if_pos hb] at ht
      refine ⟨by omega, ⟨by omega, Nat.le_refl _⟩, ?_⟩
      rw [hx1]
      exact ⟨⟨r, ts, rfl, rfl, ht, by omega, by omega, H⟩, by rw [hsz, ofL_size]; omega⟩
    refine ⟨a, by omega, h0, Sx.split_of (fun h2 => ?_) (fun h2 => ?_)⟩
    · have ha : a = 32 := by
        have := beq_iff_eq.1 h2
        exact UInt8.toNat_inj.1 (by show a.toNat = 32; omega)
      exact blank (.inl ha)
    refine ⟨a, by omega, h0, Sx.split_of (fun h3 => ?_) (fun h3 => ?_)⟩
    · have ha : a = 9 := by
        have := beq_iff_eq.1 h3
        exact UInt8.toNat_inj.1 (by show a.toNat = 9; omega)
      exact blank (.inr ha)
    have hb : ¬ (a = 32 ∨ a = 9) := by
      rintro (e | e)
      · rw [e] at h2; cases h2
      · rw [e] at h3; cases h3
    rw [if_neg hb] at ht hts
    refine (Tryz.strings_HasPrefix (ofL (a :: r)) (ofL [47, 47]) w2).mono ?_
    rintro _ w3 ⟨rfl, rfl⟩
    rw [toList_ofL, toList_ofL, prefix_take]
    refine ⟨_, rfl, Sx.split_of (fun h4 => ?_) (fun h4 => ?_)⟩
    · have hc : (a :: r).take 2 = [47, 47] := of_decide_eq_true h4
      rw [if_pos hc] at ht
      have hlt := comment_lt hc
      rw [drop_comment] at ht hlt
      refine (Tryz.strings_IndexByte (ofL (a :: r)) 10 w3).mono ?_
      rintro _ w4 ⟨rfl, rfl⟩
      rw [toList_ofL, show (10 : Int).toNat.toUInt8 = 10 from rfl]
      refine ⟨_, rfl, Sx.split_of (fun h5 => ?_) (fun h5 => ?_)⟩
      · have h5 := of_decide_eq_true h5
        rw [if_pos h5] at ht
        have hx : (ofL (a :: r)).extract ((ofL (a :: r)).size : Int).toNat (ofL (a :: r)).size = ofL [] := by
          rw [extract_ofL, Int.toNat_natCast, ofL_size, List.take_of_length_le (Nat.le_refl _), List.drop_eq_nil_of_le (Nat.le_refl _)]
        refine ⟨by omega, ⟨by omega, Nat.le_refl _⟩, ?_⟩
        rw [hx]
        exact ⟨⟨[], ts, rfl, rfl, ht, by omega, by simp only [List.length_nil]; omega, H⟩, by show 0 < (ofL (a :: r)).size; omega⟩
      · have h5 := of_decide_eq_false h5
        rw [if_neg h5] at ht hlt
        rw [List.length_drop] at hlt
        simp only [List.length_cons] at hlt
        have hrange : (Lib.indexByte (a :: r) 10).toNat ≤ r.length + 1 := by
          rw [indexByte_eq]
          split
          · have := takeWhile_len (fun x : UInt8 => decide (x ≠ 10)) (a :: r)
            simp only [List.length_cons] at this
            omega
          · omega
        have hx : (ofL (a :: r)).extract (Lib.indexByte (a :: r) 10).toNat (ofL (a :: r)).size = ofL ((a :: r).drop (Lib.indexByte (a :: r) 10).toNat) := by
          rw [extract_ofL, ofL_size, List.take_of_length_le (Nat.le_refl _)]
        refine ⟨by omega, ⟨by rw [hsz]; omega, Nat.le_refl _⟩, ?_⟩
        rw [hx]
        refine ⟨⟨_, ts, rfl, rfl, ht, by omega, by rw [List.length_drop]; simp only [List.length_cons]; omega, H⟩, ?_⟩
        show (ofL _).size < (ofL (a :: r)).size
        rw [hsz, ofL_size, List.length_drop]; simp only [List.length_cons]; omega
    · have hc : ¬ (a :: r).take 2 = [47, 47] := of_decide_eq_false h4
      rw [if_neg hc] at ht hts
      have hf := first_pos (s := a :: r) (by simp)
      simp only [List.length_cons] at hf
      refine H.callq (first_any (a :: r) (by simp)) fun w4 H4 => ?_
      generalize hk : (first (a :: r)).1 = kk at *
      generalize hn : (first (a :: r)).2 = nn at *
      refine ⟨_, _, rfl, by omega, ⟨by omega, by rw [hsz]; omega⟩, ?_⟩
      have hx0 : (ofL (a :: r)).extract 0 ((nn : Nat) : Int).toNat = ofL ((a :: r).take nn) := by
        rw [extract_ofL, List.drop_zero]; rfl
      have hxn : (ofL (a :: r)).extract ((nn : Nat) : Int).toNat (ofL (a :: r)).size = ofL ((a :: r).drop nn) := by
        rw [extract_ofL, ofL_size, List.take_of_length_le (Nat.le_refl _)]; rfl
      simp only [hx0, hxn]
      rintro vs rfl
      refine ⟨rfl, ?_⟩
      refine H4.al fun k3 w5 H5 => ?_
      have hts2 : ts.length + 1 + (lex ((a :: r).drop nn) line).length ≤ 8001 := by simp only [List.length_cons] at hts; omega
      refine H5.app 0 rfl (tkL ⟨kk, ofL ((a :: r).take nn), line⟩) (.inr ⟨_, rfl, fun j v hj => ?_⟩) rfl (tkL_one _) (by show ts.length + 1 ≤ maxLen; unfold maxLen; omega) (by omega) fun p' c' w6 H6 => ?_
      · rw [show (Addr.add ⟨k3, 0, none⟩ j) = ⟨k3, j, none⟩ by simp [Addr.add]; intro e; exact e.symm]; exact H5.ld 1 rfl (i := j) (by simpa [tkL, ofL] using hj)
      refine ⟨by omega, ⟨by rw [hsz]; omega, Nat.le_refl _⟩, ⟨_, ts ++ [⟨kk, ofL ((a :: r).take nn), line⟩], rfl, by simp, by rw [← ht]; simp, by omega, by rw [List.length_drop]; simp only [List.length_cons]; omega, ?_⟩, ?_⟩
      · have h9 : St W emp.own w6 [sl 87 3 (.slice p' (ts.length + 1) c') (ts.length + 1) (ts.flatMap tkL ++ tkL ⟨kk, ofL ((a :: r).take nn), line⟩)] := H6.pick [0]
        rw [show (ts ++ [(⟨kk, ofL ((a :: r).take nn), line⟩ : Tok)]).length = ts.length + 1 by simp]
        rw [List.flatMap_append, List.flatMap_cons, List.flatMap_nil, List.append_nil]
        exact h9
      · show (ofL _).size < (ofL (a :: r)).size
        rw [hsz, ofL_size, List.length_drop]; simp only [List.length_cons]; omega
  · have hu : u = [] := by
      have h : decide (ofL u = ofL []) = true := by
        cases hd : decide (ofL u = ofL []) with
        | true => rfl
        | false =>
          have h : (!decide (ofL u = ofL [])) = false := h
          rw [hd] at h; cases h
      exact ofL_inj (of_decide_eq_true h)
    subst hu
    rw [lex_nil] at ht
    rintro vs rfl
    refine ⟨rfl, ?_⟩
    refine H.al fun k3 w5 H5 => ?_
    rw [lex_nil] at hts
    simp only [List.length_cons, List.length_nil] at hts
    refine H5.app 0 rfl (tkL ⟨0, ofL [], line⟩) (.inr ⟨_, rfl, fun j v hj => ?_⟩) rfl (tkL_one _) (by show ts.length + 1 ≤ maxLen; unfold maxLen; omega) (by omega) fun p' c' w6 H6 => ?_
    · rw [show (Addr.add ⟨k3, 0, none⟩ j) = ⟨k3, j, none⟩ by simp [Addr.add]; intro e; exact e.symm]; exact H5.ld 1 rfl (i := j) (by simpa [tkL, ofL] using hj)
    refine ⟨p', c', ?_, ?_⟩
    · rw [← ht]; simp
    · rw [← ht]
      have h9 : St W emp.own w6 [sl 87 3 (.slice p' (ts.length + 1) c') (ts.length + 1) (ts.flatMap tkL ++ tkL ⟨0, ofL [], line⟩)] := H6.pick [0]
      rw [show (ts ++ [(⟨0, ofL [], line⟩ : Tok)]).length = ts.length + 1 by simp]
      rw [List.flatMap_append, List.flatMap_cons, List.flatMap_nil, List.append_nil]
      exact h9.post 0 rfl
end Go.Proofs.YtojogkljneonmaaGreatDoor
/- The reference's lexer: letters, digits, words. No condition. -/
namespace Go.Proofs.YtojogkljneonmaaGreatDoor
open Go Go.Proofs Go.Sep Go.XHeap Go.RowKit Go.Lang
set_option linter.unusedVariables false
set_option linter.unusedSimpArgs false
variable {W : World}
theorem rletter_any (b : UInt8) : Calls Tryz.prog 98 #[.int .u8 (b.toNat : Int)] W fun e w' => e = .returned (.bool (isL b)) ∧ w' = W := by
  refine vc98 _ ?_
  rw [isL_nat]
  unfold letR
  have e95 : ((b.toNat : Int) == 95) = (b.toNat == 95) := by
    rw [Bool.eq_iff_iff, beq_iff_eq, beq_iff_eq]; omega
  refine Sx.split_of (fun h => ?_) (fun h => ?_)
  · have h1 := of_decide_eq_true h
    refine Sx.split_of (fun h => ?_) (fun h => ?_)
    · have h2 := of_decide_eq_true h
      rw [decide_eq_true (show 97 ≤ b.toNat by omega), decide_eq_true (show b.toNat ≤ 122 by omega), Bool.and_self, Bool.or_true]
      exact ⟨rfl, rfl⟩
    · have h2 := of_decide_eq_false h
      rw [decide_eq_false (show ¬ b.toNat ≤ 122 by omega), Bool.and_false, Bool.or_false, e95]
      exact ⟨rfl, rfl⟩
  · have h1 := of_decide_eq_false h
    rw [decide_eq_false (show ¬ 97 ≤ b.toNat by omega), Bool.false_and, Bool.or_false, e95]
    exact ⟨rfl, rfl⟩
theorem rdigit_any (b : UInt8) : Calls Tryz.prog 99 #[.int .u8 (b.toNat : Int)] W fun e w' => e = .returned (.bool (isD b)) ∧ w' = W := by
  refine vc99 _ ?_
  rw [isD_nat]
  unfold digR
  refine Sx.split_of (fun h => ?_) (fun h => ?_)
  · have h1 := of_decide_eq_true h
    rw [decide_eq_true (show 48 ≤ b.toNat by omega), Bool.true_and]
    exact ⟨by rw [show decide ((b.toNat : Int) ≤ 57) = decide (b.toNat ≤ 57) from decide_eq_decide.2 (by omega)], rfl⟩
  · have h1 := of_decide_eq_false h
    rw [decide_eq_false (show ¬ 48 ≤ b.toNat by omega), Bool.false_and]
    exact ⟨rfl, rfl⟩
theorem rword_any [Inhabited G3o] (s : List UInt8) : Calls Tryz.prog 100 #[.string (ofL s)] W fun e w' => e = .returned (.bool (decide (s ∈ words))) ∧ Hush W w' := by
  refine vc100 (ofL s) ?_
  refine (St.nil W).al fun k w2 H2 => ?_
  refine ⟨fun x w => (Hush W w ∧ Blk w k ((words.map fun l => Value.string (ofL l)).toArray) 9) ∧ ∃ i : Nat, x = i ∧ i ≤ 8 ∧ ∀ j t, j < i → words[j]? = some t → s ≠ t, fun x _ => (8 - x).toNat, ⟨⟨H2.touch, H2.nth 0 rfl⟩, 0, rfl, by omega, fun j t hj => by omega⟩, fun _ x w3 hI => ?_⟩
  obtain ⟨⟨h3, hb⟩, i, rfl, hi, hno⟩ := hI
  refine Sx.split_of (fun h => ?_) (fun h => ?_)
  · have h5 : i < 8 := by have := of_decide_eq_true h; omega
    have ht : i < words.length := h5
    refine ⟨⟨by omega, by omega⟩, ofL words[i], ?_, ?_⟩
    · rw [ix1, Nat.zero_add]
      exact hb.cell' (by rw [List.getElem?_toArray, List.getElem?_map, List.getElem?_eq_getElem ht]; rfl)
    · rw [toList_eq]
      refine Sx.split_of (fun h6 => ?_) (fun h6 => ?_)
      · have h6 : words[i] = s := ofL_inj (of_decide_eq_true h6)
        rw [decide_eq_true (h6 ▸ List.getElem_mem ht)]
        exact ⟨rfl, h3⟩
      · have h6 : ¬ ofL words[i] = ofL s := of_decide_eq_false h6
        rintro z rfl
        have hw : IntKind.wrap .i64 ((i : Nat) + 1 : Int) = ((i + 1 : Nat) : Int) := by rw [show ((i : Nat) + 1 : Int) = ((i + 1 : Nat) : Int) by omega]; exact Go.Bits.n64 (by omega)
        rw [hw]
        refine ⟨⟨⟨h3, hb⟩, i + 1, rfl, by omega, fun j t hj hjt => ?_⟩, by show (8 - ((i + 1 : Nat) : Int)).toNat < (8 - ((i : Nat) : Int)).toNat; omega⟩
        rcases Nat.lt_or_eq_of_le (Nat.lt_succ_iff.1 hj) with h7 | h7
        · exact hno j t h7 hjt
        · subst h7
          rw [List.getElem?_eq_getElem ht] at hjt
          cases hjt
          exact fun e => h6 (by rw [e])
  · have h5 : i = 8 := by have := of_decide_eq_false h; omega
    subst h5
    rw [decide_eq_false (fun hm => by
      obtain ⟨j, hj, e⟩ := List.getElem_of_mem hm
      exact hno j _ hj (List.getElem?_eq_getElem hj) e.symm)]
    exact ⟨rfl, h3⟩
end Go.Proofs.YtojogkljneonmaaGreatDoor
