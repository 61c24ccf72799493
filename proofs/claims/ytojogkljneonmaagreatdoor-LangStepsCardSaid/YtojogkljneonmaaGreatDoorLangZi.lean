import Derived.Test.YtojogkljneonmaaGreatDoorLangRk
import Derived.Test.YtojogkljneonmaaGreatDoorLangMb
/- The reference's checker over rows of nodes says what the plain checker says. No condition. -/
namespace Go.Lang
set_option linter.unusedVariables false
set_option linter.unusedSimpArgs false
variable {lk : Lk} {g : Gf}
/-- an expression is one node -/
theorem ok0_cons : ∀ (x : T), x.ok 0 = true → ∃ k s v ks, (∀ r, toF x r = .cons k s (match x with | .num _ l => l | x => lineOf x) v ks [] r) ∧ ks.sz + 1 ≤ x.sz
  | .num v l, _ => ⟨_, _, _, _, fun r => rfl, by simp [Fo.sz, T.sz]⟩
  | .name t _ _, _ => ⟨_, _, _, _, fun r => rfl, by simp [Fo.sz, T.sz]⟩
  | .index t _ _ p, h => ⟨_, _, _, _, fun r => rfl, by have := toF_sz p .nil; simp only [Fo.sz, T.sz] at *; omega⟩
  | .call t _ xs, h => ⟨_, _, _, _, fun r => rfl, by have := toF_sz xs .nil; simp only [Fo.sz, T.sz] at *; omega⟩
  | .un t x, h => ⟨_, _, _, _, fun r => rfl, by have := toF_sz x .nil; simp only [Fo.sz, T.sz] at *; omega⟩
  | .bin t x y, h => ⟨_, _, _, _, fun r => rfl, by have := toF_sz x (toF y .nil); have := toF_sz y .nil; simp only [Fo.sz, T.sz] at *; omega⟩
  | .nil, h => by simp [T.ok] at h
  | .cons .., h => by simp [T.ok] at h
  | .letS .., h => by simp [T.ok] at h
  | .setS .., h => by simp [T.ok] at h
  | .putS .., h => by simp [T.ok] at h
  | .ifS .., h => by simp [T.ok] at h
  | .whileS .., h => by simp [T.ok] at h
  | .retS .., h => by simp [T.ok] at h
  | .prtS .., h => by simp [T.ok] at h
  | .doS .., h => by simp [T.ok] at h
  | .block .., h => by simp [T.ok] at h
where toF_sz : ∀ (x : T) (r : Fo), (toF x r).sz ≤ x.sz + r.sz
  | .num .., r => by simp only [toF, Fo.sz, T.sz]; omega
  | .name .., r => by simp only [toF, Fo.sz, T.sz]; omega
  | .index _ _ _ p, r => by have := toF_sz p .nil; simp only [toF, Fo.sz, T.sz] at *; omega
  | .call _ _ p, r => by have := toF_sz p .nil; simp only [toF, Fo.sz, T.sz] at *; omega
  | .un _ p, r => by have := toF_sz p .nil; simp only [toF, Fo.sz, T.sz] at *; omega
  | .bin _ p q, r => by have := toF_sz p (toF q .nil); have := toF_sz q .nil; simp only [toF, Fo.sz, T.sz] at *; omega
  | .nil, r => by simp only [toF, T.sz]; omega
  | .cons x xs, r => by have := toF_sz x (toF xs r); have := toF_sz xs r; simp only [toF, T.sz] at *; omega
  | .letS _ _ _ _ p, r => by have := toF_sz p .nil; simp only [toF, Fo.sz, T.sz] at *; omega
  | .setS _ _ _ p, r => by have := toF_sz p .nil; simp only [toF, Fo.sz, T.sz] at *; omega
  | .putS _ _ _ p q, r => by have := toF_sz p (toF q .nil); have := toF_sz q .nil; simp only [toF, Fo.sz, T.sz] at *; omega
  | .ifS _ c a b, r => by have := toF_sz c (toF a (toF b .nil)); have := toF_sz a (toF b .nil); have := toF_sz b .nil; simp only [toF, Fo.sz, T.sz] at *; omega
  | .whileS _ c b, r => by have := toF_sz c (toF b .nil); have := toF_sz b .nil; simp only [toF, Fo.sz, T.sz] at *; omega
  | .retS _ p, r => by have := toF_sz p .nil; simp only [toF, Fo.sz, T.sz] at *; omega
  | .prtS _ p, r => by have := toF_sz p .nil; simp only [toF, Fo.sz, T.sz] at *; omega
  | .doS _ p, r => by have := toF_sz p .nil; simp only [toF, Fo.sz, T.sz] at *; omega
  | .block _ p, r => by have := toF_sz p .nil; simp only [toF, Fo.sz, T.sz] at *; omega
theorem toF_len1 : ∀ (x : T) (r : Fo), x.ok 1 = true → (toF x r).len = x.len + r.len
  | .nil, r, _ => by simp [toF, T.len]
  | .cons x xs, r, h => by
    have h2 : x.ok 0 = true ∧ xs.ok 1 = true := by simpa [T.ok] using h
    obtain ⟨k, s, v, ks, e, -⟩ := ok0_cons x h2.1
    show (toF x (toF xs r)).len = _
    rw [e, Fo.len, toF_len1 xs r h2.2, T.len]
    omega
  | .num .., r, h => by simp [T.ok] at h
  | .name .., r, h => by simp [T.ok] at h
  | .index .., r, h => by simp [T.ok] at h
  | .call .., r, h => by simp [T.ok] at h
  | .un .., r, h => by simp [T.ok] at h
  | .bin .., r, h => by simp [T.ok] at h
  | .letS .., r, h => by simp [T.ok] at h
  | .setS .., r, h => by simp [T.ok] at h
  | .putS .., r, h => by simp [T.ok] at h
  | .ifS .., r, h => by simp [T.ok] at h
  | .whileS .., r, h => by simp [T.ok] at h
  | .retS .., r, h => by simp [T.ok] at h
  | .prtS .., r, h => by simp [T.ok] at h
  | .doS .., r, h => by simp [T.ok] at h
  | .block .., r, h => by simp [T.ok] at h
theorem finner_nil (g : Gf) (Ls : List ByteArray) : finner g Ls .nil = .ok () := by unfold finner; rfl
theorem finner_cons (g : Gf) (Ls : List ByteArray) (k s : ByteArray) (ln v : Int) (ks : Fo) (ns : List ByteArray) (r : Fo) : finner g Ls (.cons k s ln v ks ns r) = (fname g Ls k s ln ks.len).bind fun _ => (finner g Ls ks).bind fun _ => finner g Ls r := by rw [finner]
theorem fcal_eq (hR : RelG lk g) (Ls : Lcs) (t : Tok) (m : Nat) (R : C T) : fcal g (Ls.map Prod.fst) t.s t.line m = (match lk t.s with
    | some (.fn k np) => if 0 ≤ localOf Ls t.s then .err t.line 9 else if np ≠ m then .err t.line 9 else .ok ()
    | _ => .err t.line 9 : C Unit) := by
  unfold fcal
  have := hR t.s
  by_cases h : 0 ≤ localOf Ls t.s
  · rw [if_pos ((localOf_iff Ls t.s).1 h)]
    cases hl : lk t.s with
    | none => rfl
    | some x =>
      cases x with
      | var wd z => rfl
      | fn k np => simp only; rw [if_pos h]
  · rw [if_neg (fun e => h ((localOf_iff Ls t.s).2 e))]
    cases hl : lk t.s with
    | none => rw [hl] at this; rw [this]
    | some x =>
      rw [hl] at this
      cases x with
      | var wd z =>
        obtain ⟨m', hg⟩ := this
        rw [hg]
        simp only
        rw [if_pos (by decide)]
      | fn k np =>
        obtain ⟨v, hg⟩ := this
        rw [hg]
        simp only [ne_eq, not_true_eq_false, if_false]
        rw [if_neg h]
/-- names in an expression -/
theorem finner_eq (hR : RelG lk g) (Ls : Lcs) : ∀ (x : T) (r : Fo), (x.ok 0 = true ∨ x.ok 1 = true) → finner g (Ls.map Prod.fst) (toF x r) = (cexp lk Ls x).er.bind fun _ => finner g (Ls.map Prod.fst) r
  | .num v l, r, _ => by
    show finner g _ (.cons cNumK _ _ _ .nil [] r) = _
    rw [finner_cons, finner_nil]
    rfl
  | .name t s w, r, _ => by
    show finner g _ (.cons cNameK t.s t.line 0 .nil [] r) = _
    rw [finner_cons, finner_nil]
    rw [show fname g (Ls.map Prod.fst) cNameK t.s t.line Fo.nil.len = fsc g (Ls.map Prod.fst) t.s t.line from rfl, fsc_eq hR Ls t w]
    simp only [cexp]
    cases cword lk Ls t w <;> rfl
  | .index t w z p, r, h => by
    have h0 : p.ok 0 = true := by simpa [T.ok] using h
    show finner g _ (.cons cIndexK t.s t.line 0 (toF p .nil) [] r) = _
    rw [finner_cons, finner_eq hR Ls p .nil (.inl h0), finner_nil]
    rw [show fname g (Ls.map Prod.fst) cIndexK t.s t.line (toF p .nil).len = farr g (Ls.map Prod.fst) t.s t.line from rfl, farr_eq hR Ls t]
    simp only [cexp]
    cases carr lk Ls t with
    | err l e => rfl
    | ok a => cases cexp lk Ls p <;> rfl
  | .call t f xs, r, h => by
    have h0 : xs.ok 1 = true := by simpa [T.ok] using h
    show finner g _ (.cons cCallK t.s t.line 0 (toF xs .nil) [] r) = _
    rw [finner_cons, finner_eq hR Ls xs .nil (.inr h0), finner_nil]
    rw [show fname g (Ls.map Prod.fst) cCallK t.s t.line (toF xs .nil).len = fcal g (Ls.map Prod.fst) t.s t.line (toF xs .nil).len from rfl, show (toF xs .nil).len = xs.len by rw [toF_len1 xs .nil h0]; rfl, fcal_eq hR Ls t _ (.ok .nil)]
    simp only [cexp]
    cases lk t.s with
    | none => rfl
    | some x =>
      cases x with
      | var => rfl
      | fn k np =>
        simp only
        by_cases h8 : 0 ≤ localOf Ls t.s
        · rw [if_pos h8, if_pos h8]; rfl
        · rw [if_neg h8, if_neg h8]
          by_cases h9 : np ≠ xs.len
          · rw [if_pos h9, if_pos h9]; rfl
          · rw [if_neg h9, if_neg h9]
            cases cexp lk Ls xs <;> rfl
  | .un t x, r, h => by
    have h0 : x.ok 0 = true := by simpa [T.ok] using h
    show finner g _ (.cons cUnK t.s t.line 0 (toF x .nil) [] r) = _
    rw [finner_cons, finner_eq hR Ls x .nil (.inl h0), finner_nil]
    rw [show fname g (Ls.map Prod.fst) cUnK t.s t.line (toF x .nil).len = .ok () from rfl]
    simp only [cexp]
    cases cexp lk Ls x <;> rfl
  | .bin t x y, r, h => by
    have h0 : x.ok 0 = true ∧ y.ok 0 = true := by simpa [T.ok] using h
    show finner g _ (.cons cBinK t.s t.line 0 (toF x (toF y .nil)) [] r) = _
    rw [finner_cons, finner_eq hR Ls x _ (.inl h0.1), finner_eq hR Ls y .nil (.inl h0.2), finner_nil]
    rw [show fname g (Ls.map Prod.fst) cBinK t.s t.line (toF x (toF y .nil)).len = .ok () from rfl]
    simp only [cexp]
    cases cexp lk Ls x with
    | err l e => rfl
    | ok x' => cases cexp lk Ls y <;> rfl
  | .nil, r, _ => by rfl
  | .cons x xs, r, h => by
    have h0 : x.ok 0 = true ∧ xs.ok 1 = true := by simpa [T.ok] using h
    show finner g _ (toF x (toF xs r)) = _
    rw [finner_eq hR Ls x _ (.inl h0.1), finner_eq hR Ls xs r (.inr h0.2)]
    simp only [cexp]
    cases cexp lk Ls x with
    | err l e => rfl
    | ok x' => cases cexp lk Ls xs <;> rfl
  | .letS .., r, h => by simp [T.ok] at h
  | .setS .., r, h => by simp [T.ok] at h
  | .putS .., r, h => by simp [T.ok] at h
  | .ifS .., r, h => by simp [T.ok] at h
  | .whileS .., r, h => by simp [T.ok] at h
  | .retS .., r, h => by simp [T.ok] at h
  | .prtS .., r, h => by simp [T.ok] at h
  | .doS .., r, h => by simp [T.ok] at h
  | .block .., r, h => by simp [T.ok] at h
theorem fneed_cons (plus : Bool) (k s : ByteArray) (l v : Int) (ks : Fo) (ns : List ByteArray) (r : Fo) (i : Nat) : fneed plus (.cons k s l v ks ns r) i = max (fneed (plusOf k s) ks 0 + if plus then i else 0) (fneed plus r (i + 1)) := by rw [fneed]
theorem fneed_nil (plus : Bool) (i : Nat) : fneed plus .nil i = 1 := by rw [fneed]
/-- what an expression needs -/
theorem fneed_eq : ∀ (x : T), (x.ok 0 = true → ∀ (plus : Bool) (r : Fo) (i : Nat), fneed plus (toF x r) i = max (need x 0 + if plus then i else 0) (fneed plus r (i + 1))) ∧ (x.ok 1 = true → ∀ i, fneed true (toF x .nil) i = need x i)
  | .num v l => ⟨fun _ plus r i => by show fneed plus (.cons _ _ _ _ .nil _ r) i = _; rw [fneed_cons, fneed_nil]; simp [need], fun h => by simp [T.ok] at h⟩
  | .name t s w => ⟨fun _ plus r i => by show fneed plus (.cons _ _ _ _ .nil _ r) i = _; rw [fneed_cons, fneed_nil]; simp [need], fun h => by simp [T.ok] at h⟩
  | .index t w z p => ⟨fun h plus r i => by
      have h0 : p.ok 0 = true := by simpa [T.ok] using h
      show fneed plus (.cons _ _ _ _ (toF p .nil) _ r) i = _
      rw [fneed_cons, (fneed_eq p).1 h0, fneed_nil, show plusOf cIndexK t.s = false from rfl]
      have := need_pos p 0
      simp only [need, Bool.false_eq_true, if_false, Nat.add_zero]
      rw [Nat.max_eq_left this], fun h => by simp [T.ok] at h⟩
  | .call t f xs => ⟨fun h plus r i => by
      have h0 : xs.ok 1 = true := by simpa [T.ok] using h
      show fneed plus (.cons _ _ _ _ (toF xs .nil) _ r) i = _
      rw [fneed_cons, show plusOf cCallK t.s = true from rfl, (fneed_eq xs).2 h0]
      simp only [need], fun h => by simp [T.ok] at h⟩
  | .un t x => ⟨fun h plus r i => by
      have h0 : x.ok 0 = true := by simpa [T.ok] using h
      show fneed plus (.cons _ _ _ _ (toF x .nil) _ r) i = _
      rw [fneed_cons, (fneed_eq x).1 h0, fneed_nil, show plusOf cUnK t.s = false from rfl]
      have := need_pos x 0
      simp only [need, Bool.false_eq_true, if_false, Nat.add_zero]
      rw [Nat.max_eq_left this], fun h => by simp [T.ok] at h⟩
  | .bin t x y => ⟨fun h plus r i => by
      have h0 : x.ok 0 = true ∧ y.ok 0 = true := by simpa [T.ok] using h
      show fneed plus (.cons _ _ _ _ (toF x (toF y .nil)) _ r) i = _
      rw [fneed_cons, (fneed_eq x).1 h0.1, (fneed_eq y).1 h0.2, fneed_nil]
      have h1 := need_pos x 0
      have h2 := need_pos y 0
      have hp : plusOf cBinK t.s = (!decide (t.s = ofL [38, 38]) && !decide (t.s = ofL [124, 124])) := by
        unfold plusOf
        rw [show decide (cBinK = cCallK) = false from rfl, decide_eq_true (rfl : cBinK = cBinK)]
        simp
      rw [hp]
      simp only [need]
      by_cases a1 : t.s = ofL [38, 38]
      · simp only [a1, decide_true, Bool.not_true, Bool.false_and, Bool.false_eq_true, if_false, Nat.add_zero, true_or, if_true]
        rw [Nat.max_eq_left h2]
      · by_cases a2 : t.s = ofL [124, 124]
        · simp only [a2, decide_true, Bool.not_true, Bool.and_false, Bool.false_eq_true, if_false, Nat.add_zero, or_true, if_true]
          rw [Nat.max_eq_left h2]
        · simp only [a1, a2, decide_false, Bool.not_false, Bool.and_self, if_true, or_self, if_false, Nat.add_zero, Nat.zero_add]
          rw [Nat.max_eq_left (by omega : 1 ≤ need y 0 + 1)], fun h => by simp [T.ok] at h⟩
  | .nil => ⟨fun h => by simp [T.ok] at h, fun _ i => by show fneed true .nil i = _; rw [fneed_nil]; simp [need]⟩
  | .cons x xs => ⟨fun h => by simp [T.ok] at h, fun h i => by
      have h0 : x.ok 0 = true ∧ xs.ok 1 = true := by simpa [T.ok] using h
      show fneed true (toF x (toF xs .nil)) i = _
      rw [(fneed_eq x).1 h0.1, (fneed_eq xs).2 h0.2]
      simp only [need, if_true]⟩
  | .letS .. => ⟨fun h => by simp [T.ok] at h, fun h => by simp [T.ok] at h⟩
  | .setS .. => ⟨fun h => by simp [T.ok] at h, fun h => by simp [T.ok] at h⟩
  | .putS .. => ⟨fun h => by simp [T.ok] at h, fun h => by simp [T.ok] at h⟩
  | .ifS .. => ⟨fun h => by simp [T.ok] at h, fun h => by simp [T.ok] at h⟩
  | .whileS .. => ⟨fun h => by simp [T.ok] at h, fun h => by simp [T.ok] at h⟩
  | .retS .. => ⟨fun h => by simp [T.ok] at h, fun h => by simp [T.ok] at h⟩
  | .prtS .. => ⟨fun h => by simp [T.ok] at h, fun h => by simp [T.ok] at h⟩
  | .doS .. => ⟨fun h => by simp [T.ok] at h, fun h => by simp [T.ok] at h⟩
  | .block .. => ⟨fun h => by simp [T.ok] at h, fun h => by simp [T.ok] at h⟩
/-- finding names changes no needs -/
theorem cexp_need (lk : Lk) (Ls : Lcs) : ∀ (x x' : T), cexp lk Ls x = .ok x' → (∀ k, need x' k = need x k) ∧ lineOf x' = lineOf x
  | .num .., x', h => by cases h; exact ⟨fun _ => rfl, rfl⟩
  | .nil, x', h => by cases h; exact ⟨fun _ => rfl, rfl⟩
  | .name t s w, x', h => by obtain ⟨p, -, h⟩ := C.bind_ok h; cases h; exact ⟨fun _ => by simp [need], rfl⟩
  | .index t w z p, x', h => by
    obtain ⟨a, -, h⟩ := C.bind_ok h
    obtain ⟨p', h1, h⟩ := C.bind_ok h
    cases h
    exact ⟨fun k => by simp only [need]; exact (cexp_need lk Ls p p' h1).1 0, rfl⟩
  | .call t f xs, x', h => by
    rw [cexp] at h
    split at h
    · split at h
      · cases h
      · split at h
        · cases h
        · obtain ⟨p', h1, h⟩ := C.bind_ok h
          cases h
          exact ⟨fun k => by simp only [need]; exact (cexp_need lk Ls xs p' h1).1 0, rfl⟩
    · cases h
  | .un t x, x', h => by
    obtain ⟨p', h1, h⟩ := C.bind_ok h
    cases h
    exact ⟨fun k => by simp only [need]; exact (cexp_need lk Ls x p' h1).1 0, rfl⟩
  | .bin t x y, x', h => by
    obtain ⟨p', h1, h⟩ := C.bind_ok h
    obtain ⟨q', h2, h⟩ := C.bind_ok h
    cases h
    exact ⟨fun k => by simp only [need, (cexp_need lk Ls x p' h1).1 0, (cexp_need lk Ls y q' h2).1 0], rfl⟩
  | .cons x y, x', h => by
    obtain ⟨p', h1, h⟩ := C.bind_ok h
    obtain ⟨q', h2, h⟩ := C.bind_ok h
    cases h
    exact ⟨fun k => by simp only [need, (cexp_need lk Ls x p' h1).1 0, (cexp_need lk Ls y q' h2).1 (k + 1)], rfl⟩
  | .letS .., x', h => by cases h; exact ⟨fun _ => rfl, rfl⟩
  | .setS .., x', h => by cases h; exact ⟨fun _ => rfl, rfl⟩
  | .putS .., x', h => by cases h; exact ⟨fun _ => rfl, rfl⟩
  | .ifS .., x', h => by cases h; exact ⟨fun _ => rfl, rfl⟩
  | .whileS .., x', h => by cases h; exact ⟨fun _ => rfl, rfl⟩
  | .retS .., x', h => by cases h; exact ⟨fun _ => rfl, rfl⟩
  | .prtS .., x', h => by cases h; exact ⟨fun _ => rfl, rfl⟩
  | .doS .., x', h => by cases h; exact ⟨fun _ => rfl, rfl⟩
  | .block .., x', h => by cases h; exact ⟨fun _ => rfl, rfl⟩
theorem fwhole_cons (g : Gf) (Ls : List ByteArray) (b : Nat) (k s : ByteArray) (ln v : Int) (ks : Fo) (ns : List ByteArray) (r : Fo) : fwhole g Ls b (.cons k s ln v ks ns r) = (fname g Ls k s ln ks.len).bind fun _ => (finner g Ls ks).bind fun _ => if 8 < fneed (plusOf k s) ks 0 + b then .err ln 4 else .ok () := rfl
/-- a whole expression -/
theorem fwhole_eq (hR : RelG lk g) (Ls : Lcs) (x : T) (b : Nat) (hb : b ≤ 1) (h : x.ok 0 = true) (r : Fo) : fwhole g (Ls.map Prod.fst) b (toF x r) = (cwhole lk Ls x b).er := by
  obtain ⟨k, s, v, ks, e, -⟩ := ok0_cons x h
  have h1 := finner_eq hR Ls x .nil (.inl h)
  rw [finner_nil, e .nil, finner_cons, finner_nil] at h1
  have h2 := (fneed_eq x).1 h false .nil 0
  rw [e .nil, fneed_cons, fneed_nil] at h2
  have h3 := need_pos x 0
  have h4 := fneed_pos (plusOf k s) ks 0
  simp only [Bool.false_eq_true, if_false, Nat.add_zero] at h2
  have h5 : fneed (plusOf k s) ks 0 = need x 0 := by omega
  rw [e r, fwhole_cons, h5]
  unfold cwhole
  generalize hA : fname g (Ls.map Prod.fst) k s _ ks.len = A at *
  generalize hB : finner g (Ls.map Prod.fst) ks = Bq at *
  have h6 : (A.bind fun _ => Bq.bind fun _ => C.ok ()) = (cexp lk Ls x).er := by
    rw [h1]; cases cexp lk Ls x <;> rfl
  cases hc : cexp lk Ls x with
  | err l en =>
    rw [hc] at h6
    cases A with
    | err l2 e2 => cases h6; rfl
    | ok _ =>
      cases Bq with
      | err l2 e2 => cases h6; rfl
      | ok _ => cases h6
  | ok x' =>
    rw [hc] at h6
    obtain ⟨hn, hl⟩ := cexp_need lk Ls x x' hc
    cases A with
    | err l2 e2 => cases h6
    | ok _ =>
      cases Bq with
      | err l2 e2 => cases h6
      | ok _ =>
        show (if 8 < need x 0 + b then C.err _ 4 else C.ok ()) = (if 8 < need x' 0 + b then C.err (lineOf x') 4 else C.ok x').er
        rw [hn 0, hl]
        split
        · cases x with
          | num v l => rename_i h8; simp only [need] at h8; omega
          | _ => rfl
        · rfl
end Go.Lang
/- What the parser in plain Lean makes is well formed, and no greater than its tokens. No condition. -/
namespace Go.Lang
set_option linter.unusedVariables false
def kindOf : Req → Nat
  | .args => 1
  | .argl => 1
  | .blk => 2
  | .stmts => 3
  | .stmt => 2
  | _ => 0
def before : Req → Nat
  | .loop _ x => x.sz + 1
  | _ => 0
def reqOk : Req → Prop
  | .loop _ x => x.ok 0 = true
  | _ => True
theorem tail_eq {l : List Tok} (h : (now l).k ≠ 0) : l.tail.length + 1 = l.length := by
  cases l with
  | nil => exact absurd rfl h
  | cons t l => simp
theorem is_tail {s : ByteArray} {l : List Tok} (h : is s l = true) : l.tail.length + 1 = l.length := tail_eq (by rw [is_k h]; omega)
theorem k_tail {l : List Tok} {k : Nat} (h : (now l).k = k) (hk : k ≠ 0) : l.tail.length + 1 = l.length := tail_eq (by rw [h]; exact hk)
theorem run_shape : ∀ (f : Nat) (q : Req) (n : Nat) (l : List Tok) (x : T) (l' : List Tok), run f q n l = .ok x l' → reqOk q → x.ok (kindOf q) = true ∧ x.sz + 1 + 4 * l'.length ≤ 4 * l.length + before q := by
  intro f
  induction f with
  | zero => intro q n l x l' h; cases h
  | succ f ih =>
    intro q n l x l' h hq
    cases q with
    | expr =>
      unfold run at h
      split at h
      · cases h
      · exact ih (.bin 1) _ _ _ _ h trivial
    | bin k =>
      unfold run at h
      obtain ⟨x1, l1, h1, h2⟩ := bind_ok h
      obtain ⟨a1, a2⟩ := ih _ _ _ _ _ h1 trivial
      obtain ⟨b1, b2⟩ := ih (.loop k x1) _ _ _ _ h2 a1
      exact ⟨b1, by simp only [before] at *; omega⟩
    | loop k u =>
      unfold run at h
      split at h
      · rename_i hk
        have t0 := k_tail hk.1 (by omega)
        obtain ⟨x1, l1, h1, h2⟩ := bind_ok h
        obtain ⟨a1, a2⟩ := ih _ _ _ _ _ h1 trivial
        have hu : u.ok 0 = true := hq
        obtain ⟨b1, b2⟩ := ih (.loop k (.bin (now l) u x1)) _ _ _ _ h2 (show (T.bin (now l) u x1).ok 0 = true by simp only [kindOf] at a1; simp [T.ok, hu, a1])
        exact ⟨b1, by simp only [before, T.sz] at *; omega⟩
      · cases h
        exact ⟨hq, by simp only [before]; omega⟩
    | un =>
      unfold run at h
      split at h
      · rename_i h1
        have t0 : l.tail.length + 1 = l.length := by
          unfold isOne at h1
          rw [Bool.or_eq_true, Bool.or_eq_true] at h1
          rcases h1 with (h1 | h1) | h1 <;> exact is_tail h1
        split at h
        · cases h
        · obtain ⟨x1, l1, h1, h2⟩ := bind_ok h
          cases h2
          obtain ⟨a1, a2⟩ := ih _ _ _ _ _ h1 trivial
          exact ⟨by simp only [kindOf] at a1 ⊢; simp [T.ok, a1], by simp only [before, T.sz] at *; omega⟩
      · exact ih .prim _ _ _ _ h trivial
    | prim =>
      unfold run at h
      split at h
      · rename_i hk
        have t0 := k_tail hk (by omega)
        obtain ⟨-, v, h1⟩ := number_ok h
        cases h1
        exact ⟨rfl, by simp only [before, T.sz] at *; omega⟩
      · split at h
        · rename_i hk
          have t0 := is_tail hk
          obtain ⟨x1, l1, h1, h2⟩ := bind_ok h
          obtain ⟨h3', h3⟩ := want_ok h2
          cases h3
          have t1 := is_tail h3'
          obtain ⟨a1, a2⟩ := ih _ _ _ _ _ h1 trivial
          exact ⟨a1, by simp only [before] at *; omega⟩
        · obtain ⟨hk, h1⟩ := name_ok h
          have t0 := k_tail hk (by omega)
          split at h1
          · rename_i hk
            have t1 := is_tail hk
            obtain ⟨x1, l1, h1, h2⟩ := bind_ok h1
            cases h2
            obtain ⟨a1, a2⟩ := ih _ _ _ _ _ h1 trivial
            exact ⟨by simp only [kindOf] at a1 ⊢; simp [T.ok, a1], by simp only [before, T.sz] at *; omega⟩
          · split at h1
            · rename_i hk
              have t1 := is_tail hk
              obtain ⟨x1, l1, h5, h2⟩ := bind_ok h1
              obtain ⟨h3', h3⟩ := want_ok h2
              have t2 := is_tail h3'
              cases h3
              obtain ⟨a1, a2⟩ := ih _ _ _ _ _ h5 trivial
              exact ⟨by simp only [kindOf] at a1 ⊢; simp [T.ok, a1], by simp only [before, T.sz] at *; omega⟩
            · cases h1
              exact ⟨rfl, by simp only [before, T.sz] at *; omega⟩
    | args =>
      unfold run at h
      split at h
      · rename_i hk
        have t1 := is_tail hk
        cases h
        exact ⟨rfl, by simp only [before, T.sz] at *; omega⟩
      · exact ih .argl _ _ _ _ h trivial
    | argl =>
      unfold run at h
      obtain ⟨x1, l1, h1, h2⟩ := bind_ok h
      obtain ⟨a1, a2⟩ := ih _ _ _ _ _ h1 trivial
      split at h2
      · rename_i hk
        have t1 := is_tail hk
        cases h2
        exact ⟨by simp only [kindOf] at a1 ⊢; simp [T.ok, a1], by simp only [before, T.sz] at *; omega⟩
      · obtain ⟨h3', h3⟩ := want_ok h2
        have t1 := is_tail h3'
        obtain ⟨x2, l2, h4, h5⟩ := bind_ok h3
        cases h5
        obtain ⟨b1, b2⟩ := ih _ _ _ _ _ h4 trivial
        exact ⟨by simp only [kindOf] at a1 b1 ⊢; simp [T.ok, a1, b1], by simp only [before, T.sz] at *; omega⟩
    | blk =>
      unfold run at h
      split at h
      · cases h
      · obtain ⟨h3', h1⟩ := want_ok h
        have t1 := is_tail h3'
        obtain ⟨x2, l2, h4, h5⟩ := bind_ok h1
        cases h5
        obtain ⟨b1, b2⟩ := ih _ _ _ _ _ h4 trivial
        exact ⟨by simp only [kindOf] at b1 ⊢; simp [T.ok, b1], by simp only [before, T.sz] at *; omega⟩
    | stmts =>
      unfold run at h
      split at h
      · rename_i hk
        have t1 := is_tail hk
        cases h
        exact ⟨rfl, by simp only [before, T.sz] at *; omega⟩
      · obtain ⟨x1, l1, h1, h2⟩ := bind_ok h
        obtain ⟨x2, l2, h4, h5⟩ := bind_ok h2
        cases h5
        obtain ⟨a1, a2⟩ := ih _ _ _ _ _ h1 trivial
        obtain ⟨b1, b2⟩ := ih _ _ _ _ _ h4 trivial
        exact ⟨by simp only [kindOf] at a1 b1 ⊢; simp [T.ok, a1, b1], by simp only [before, T.sz] at *; omega⟩
    | stmt =>
      unfold run at h
      split at h
      · rename_i hk
        have t0 := k_tail hk (by omega)
        obtain ⟨-, h⟩ := name_ok h
        split at h
        · rename_i hk1
          have t1 := is_tail hk1
          obtain ⟨x1, l1, h1, h2⟩ := bind_ok h
          obtain ⟨h3', h3⟩ := want_ok h2
          have t2 := is_tail h3'
          cases h3
          obtain ⟨a1, a2⟩ := ih _ _ _ _ _ h1 trivial
          exact ⟨by simp only [kindOf] at a1 ⊢; simp [T.ok, a1], by simp only [before, T.sz] at *; omega⟩
        · split at h
          · rename_i hk1
            have t1 := is_tail hk1
            obtain ⟨x1, l1, h1, h2⟩ := bind_ok h
            obtain ⟨h3', h3⟩ := want_ok h2
            have t2 := is_tail h3'
            obtain ⟨h4', h3⟩ := want_ok h3
            have t3 := is_tail h4'
            obtain ⟨x2, l2, h4, h5⟩ := bind_ok h3
            obtain ⟨h5', h5⟩ := want_ok h5
            have t4 := is_tail h5'
            cases h5
            obtain ⟨a1, a2⟩ := ih _ _ _ _ _ h1 trivial
            obtain ⟨b1, b2⟩ := ih _ _ _ _ _ h4 trivial
            exact ⟨by simp only [kindOf] at a1 b1 ⊢; simp [T.ok, a1, b1], by simp only [before, T.sz] at *; omega⟩
          · obtain ⟨h3', h3⟩ := want_ok h
            have t2 := is_tail h3'
            obtain ⟨x2, l2, h4, h5⟩ := bind_ok h3
            obtain ⟨h5', h5⟩ := want_ok h5
            have t4 := is_tail h5'
            cases h5
            obtain ⟨b1, b2⟩ := ih _ _ _ _ _ h4 trivial
            exact ⟨by simp only [kindOf] at b1 ⊢; simp [T.ok, b1], by simp only [before, T.sz] at *; omega⟩
      · split at h
        · rename_i hk
          have t0 := is_tail hk
          obtain ⟨hn, h⟩ := name_ok h
          have t1 := k_tail hn (by omega)
          obtain ⟨h3', h⟩ := want_ok h
          have t2 := is_tail h3'
          obtain ⟨x2, l2, h4, h5⟩ := bind_ok h
          obtain ⟨h5', h5⟩ := want_ok h5
          have t4 := is_tail h5'
          cases h5
          obtain ⟨b1, b2⟩ := ih _ _ _ _ _ h4 trivial
          exact ⟨by simp only [kindOf] at b1 ⊢; simp [T.ok, b1], by simp only [before, T.sz] at *; omega⟩
        · split at h
          · rename_i hk
            have t0 := is_tail hk
            obtain ⟨x2, l2, h4, h5⟩ := bind_ok h
            obtain ⟨h5', h5⟩ := want_ok h5
            have t4 := is_tail h5'
            cases h5
            obtain ⟨b1, b2⟩ := ih _ _ _ _ _ h4 trivial
            exact ⟨by simp only [kindOf] at b1 ⊢; simp [T.ok, b1], by simp only [before, T.sz] at *; omega⟩
          · split at h
            · rename_i hk
              have t0 := is_tail hk
              obtain ⟨x2, l2, h4, h5⟩ := bind_ok h
              obtain ⟨h5', h5⟩ := want_ok h5
              have t4 := is_tail h5'
              cases h5
              obtain ⟨b1, b2⟩ := ih _ _ _ _ _ h4 trivial
              exact ⟨by simp only [kindOf] at b1 ⊢; simp [T.ok, b1], by simp only [before, T.sz] at *; omega⟩
            · split at h
              · rename_i hk
                have t0 := is_tail hk
                obtain ⟨x2, l2, h4, h5⟩ := bind_ok h
                obtain ⟨x3, l3, h6, h7⟩ := bind_ok h5
                cases h7
                obtain ⟨a1, a2⟩ := ih _ _ _ _ _ h4 trivial
                obtain ⟨b1, b2⟩ := ih _ _ _ _ _ h6 trivial
                exact ⟨by simp only [kindOf] at a1 b1 ⊢; simp [T.ok, a1, b1], by simp only [before, T.sz] at *; omega⟩
              · split at h
                · rename_i hk
                  have t0 := is_tail hk
                  obtain ⟨x2, l2, h4, h5⟩ := bind_ok h
                  obtain ⟨x3, l3, h6, h7⟩ := bind_ok h5
                  obtain ⟨a1, a2⟩ := ih _ _ _ _ _ h4 trivial
                  obtain ⟨b1, b2⟩ := ih _ _ _ _ _ h6 trivial
                  split at h7
                  · rename_i hk2
                    have t5 := is_tail hk2
                    obtain ⟨x4, l4, h8, h9⟩ := bind_ok h7
                    cases h9
                    obtain ⟨c1, c2⟩ := ih _ _ _ _ _ h8 trivial
                    exact ⟨by simp only [kindOf] at a1 b1 c1 ⊢; simp [T.ok, a1, b1, c1], by simp only [before, T.sz] at *; omega⟩
                  · cases h7
                    exact ⟨by simp only [kindOf] at a1 b1 ⊢; simp [T.ok, a1, b1, T.isNil], by simp only [before, T.sz] at *; omega⟩
                · cases h
/-! ### declarations -/
def DOk : D → Prop
  | .var _ _ _ z => 0 ≤ z ∧ z ≤ 256
  | .fn _ _ ps s _ b => s = 0 ∧ ps.length ≤ 6 ∧ b.ok 2 = true ∧ b.sz < 1000000
theorem paramL_shape : ∀ (k : Nat) (l l' : List Tok) (ps : List ByteArray), params.paramL k l = .ok ps l' → ps.length ≤ k ∧ l'.length ≤ l.length
  | 0, l, l', ps, h => by
    rw [params.paramL] at h
    obtain ⟨-, h⟩ := name_ok h
    cases h
  | k + 1, l, l', ps, h => by
    rw [params.paramL] at h
    obtain ⟨-, h⟩ := name_ok h
    have t1 := tail_le l
    have t2 := tail_le l.tail
    split at h
    · cases h; exact ⟨by simp, by omega⟩
    · obtain ⟨-, h⟩ := want_ok h
      obtain ⟨x2, l2, h4, h5⟩ := bind_ok h
      cases h5
      obtain ⟨a1, a2⟩ := paramL_shape k _ _ _ h4
      exact ⟨by simp; omega, by omega⟩
theorem params_shape {k : Nat} {l l' : List Tok} {ps : List ByteArray} (h : params k l = .ok ps l') : ps.length ≤ k ∧ l'.length ≤ l.length := by
  have e : params k l = if is cRP l then .ok [] l.tail else params.paramL k l := by rw [params]
  rw [e] at h
  by_cases hp : is cRP l = true
  · rw [if_pos hp] at h; cases h; exact ⟨by simp, tail_le l⟩
  · rw [if_neg hp] at h; exact paramL_shape k _ _ _ h
theorem decl_shape {f : Nat} {l l' : List Tok} {d : D} (hl : l.length ≤ 8001) (h : decl f l = .ok d l') : DOk d ∧ l'.length < l.length := by
  unfold decl at h
  split at h
  · rename_i hk
    have t0 := is_tail hk
    obtain ⟨hn, h⟩ := name_ok h
    have t1 := k_tail hn (by omega)
    split at h
    · rename_i hk2
      have t2 := is_tail hk2
      unfold number at h
      split at h
      · cases h
      · split at h
        · cases h
        · rename_i hk3 _
          have t3 := k_tail (Decidable.not_not.1 hk3) (by omega)
          dsimp only at h
          split at h
          · cases h
          · rename_i hv
            obtain ⟨h3', h⟩ := want_ok h
            have t4 := is_tail h3'
            obtain ⟨h3'', h⟩ := want_ok h
            have t5 := is_tail h3''
            cases h
            exact ⟨⟨by omega, by omega⟩, by omega⟩
    · obtain ⟨h3', h⟩ := want_ok h
      have t4 := is_tail h3'
      cases h
      exact ⟨⟨Int.le_refl _, by omega⟩, by omega⟩
  · obtain ⟨h3', h⟩ := want_ok h
    have t0 := is_tail h3'
    obtain ⟨hn, h⟩ := name_ok h
    have t1 := k_tail hn (by omega)
    obtain ⟨h4', h⟩ := want_ok h
    have t2 := is_tail h4'
    obtain ⟨ps, l2, h5, h⟩ := bind_ok h
    obtain ⟨b, l3, h6, h⟩ := bind_ok h
    cases h
    obtain ⟨a1, a2⟩ := params_shape h5
    obtain ⟨b1, b2⟩ := run_shape _ _ _ _ _ _ h6 trivial
    simp only [before, kindOf] at b1 b2
    exact ⟨⟨rfl, a1, b1, by omega⟩, by omega⟩
end Go.Lang
