import Derived.Test.YtojogkljneonmaaGreatDoorLangZi
/- The reference's checker over rows of nodes says what the plain checker says: statements, declarations. No condition. -/
namespace Go.Lang
set_option linter.unusedVariables false
set_option linter.unusedSimpArgs false
variable {lk : Lk} {g : Gf}
def C.mp {α β : Type} (f : α → β) : C α → C β
  | .ok x => .ok (f x)
  | .err l e => .err l e
theorem isSome_iff (hR : RelG lk g) (s : ByteArray) : (g s).isSome = (lk s).isSome := by
  have := hR s
  cases hl : lk s with
  | none => rw [hl] at this; rw [this]; rfl
  | some x =>
    rw [hl] at this
    cases x with
    | var wd z => obtain ⟨m, h⟩ := this; rw [h]; rfl
    | fn k np => obtain ⟨v, h⟩ := this; rw [h]; rfl
theorem fdecl_eq (hR : RelG lk g) (Ls : Lcs) {n : Nat} (hn : n ≤ 24) (line : Int) (s : ByteArray) : fdecl g (Ls.map Prod.fst) n line s = (cdecl lk Ls n line s).mp fun p => (p.1.map Prod.fst, p.2) := by
  unfold fdecl cdecl
  rw [isSome_iff hR]
  by_cases h1 : (lk s).isSome = true
  · rw [if_pos h1, if_pos (by rw [h1]; rfl)]; rfl
  · by_cases h2 : 0 ≤ localOf Ls s
    · rw [if_neg h1, if_pos h2, if_pos (by rw [(localOf_iff Ls s).1 h2, Bool.or_true])]; rfl
    · have h3 : hasN (Ls.map Prod.fst) s = false := by
        cases hh : hasN (Ls.map Prod.fst) s with
        | false => rfl
        | true => exact absurd ((localOf_iff Ls s).2 hh) h2
      rw [if_neg h1, if_neg h2, if_neg (by rw [h3]; simpa using h1)]
      by_cases h4 : n = 24
      · rw [if_pos h4, if_pos (by omega)]; rfl
      · rw [if_neg h4, if_neg (by omega)]
        simp [C.mp]
def stm (q : T × Lcs × Nat) : List ByteArray × Nat := (q.2.1.map Prod.fst, q.2.2)
theorem fone_put (g : Gf) (s : ByteArray) (ln : Int) (ks : Fo) (Ls : List ByteArray) (n : Nat) : fone g cPutK s ln ks Ls n = (farr g Ls s ln).bind fun _ => (fwhole g Ls 0 ks).bind fun _ => (fwhole g Ls 1 ks.tl).bind fun _ => .ok (Ls, n) := rfl
theorem fone_if (g : Gf) (s : ByteArray) (ln : Int) (ks : Fo) (Ls : List ByteArray) (n : Nat) : fone g cIf s ln ks Ls n = (fwhole g Ls 0 ks).bind fun _ => fst' g ks.tl Ls n := rfl
theorem fone_while (g : Gf) (s : ByteArray) (ln : Int) (ks : Fo) (Ls : List ByteArray) (n : Nat) : fone g cWhile s ln ks Ls n = (fwhole g Ls 0 ks).bind fun _ => fst' g ks.tl Ls n := rfl
/-- a statement, a row of them -/
theorem fst_eq (hR : RelG lk g) : ∀ (x : T), (x.ok 2 = true ∨ x.ok 3 = true) → ∀ (Ls : Lcs) (n : Nat) (r : Fo), Ls.length ≤ n → n ≤ 24 → fst' g (toF x r) (Ls.map Prod.fst) n = ((cst lk x Ls n).mp stm).bind fun p => fst' g r p.1 p.2 := by
  intro x
  have bd : ∀ (y : T) (Ls : Lcs) (n : Nat), Ls.length ≤ n → n ≤ 24 → fst' g (toF y .nil) (Ls.map Prod.fst) n = ((cst lk y Ls n).mp stm).bind (fun p => fst' g .nil p.1 p.2) → ∀ q, cst lk y Ls n = .ok q → q.2.1.length ≤ q.2.2 ∧ q.2.2 ≤ 24 := by
    intro y Ls n h1 h2 h q hq
    rw [hq] at h
    have h3 : fst' g (toF y .nil) (Ls.map Prod.fst) n = .ok (q.2.1.map Prod.fst, q.2.2) := by rw [h]; show fst' g .nil _ _ = _; rw [fst_nil]; rfl
    have := fst_pre g _ _ (Nat.lt_succ_self _) _ _ _ _ h3 (by rw [List.length_map]; exact h1) h2
    rw [List.length_map] at this
    exact this.2
  induction x with
  | num => intro h; simp [T.ok] at h
  | name => intro h; simp [T.ok] at h
  | index => intro h; simp [T.ok] at h
  | call => intro h; simp [T.ok] at h
  | un => intro h; simp [T.ok] at h
  | bin => intro h; simp [T.ok] at h
  | nil =>
    intro _ Ls n r _ _
    rfl
  | cons x xs ih1 ih2 =>
    intro h Ls n r h1 h2
    have h0 : x.ok 2 = true ∧ xs.ok 3 = true := by simpa [T.ok] using h
    show fst' g (toF x (toF xs r)) _ n = _
    have e1 := ih1 (.inl h0.1) Ls n
    rw [e1 (toF xs r) h1 h2]
    simp only [cst]
    cases hc : cst lk x Ls n with
    | err l e => rfl
    | ok q =>
      obtain ⟨b1, b2⟩ := bd x Ls n h1 h2 (e1 .nil h1 h2) q hc
      show fst' g (toF xs r) (q.2.1.map Prod.fst) q.2.2 = _
      rw [ih2 (.inr h0.2) q.2.1 q.2.2 r b1 b2]
      show _ = (((cst lk xs q.2.1 q.2.2).bind _).mp stm).bind _
      cases cst lk xs q.2.1 q.2.2 <;> rfl
  | letS t nm s w x _ =>
    intro h Ls n r h1 h2
    have h0 : x.ok 0 = true := by simpa [T.ok] using h
    show fst' g (.cons cLet nm.s t.line 0 (toF x .nil) [] r) _ n = _
    rw [fst_one]
    have hf : fone g cLet nm.s t.line (toF x .nil) (Ls.map Prod.fst) n = (cwhole lk Ls x 0).er.bind fun _ => (cdecl lk Ls n t.line nm.s).mp fun p => (p.1.map Prod.fst, p.2) := by
      rw [← fwhole_eq hR Ls x 0 (by omega) h0 .nil, ← fdecl_eq hR Ls h2]
      rfl
    rw [hf]
    simp only [cst]
    cases cwhole lk Ls x 0 with
    | err l e => rfl
    | ok x' => show ((cdecl lk Ls n t.line nm.s).mp _).bind _ = _; cases hd : cdecl lk Ls n t.line nm.s <;> simp [C.bind, C.mp, stm, hd]
  | setS t s w x _ =>
    intro h Ls n r h1 h2
    have h0 : x.ok 0 = true := by simpa [T.ok] using h
    show fst' g (.cons cSetK t.s t.line 0 (toF x .nil) [] r) _ n = _
    rw [fst_one]
    have hf : fone g cSetK t.s t.line (toF x .nil) (Ls.map Prod.fst) n = (cword lk Ls t w).er.bind fun _ => (cwhole lk Ls x 0).er.bind fun _ => .ok (Ls.map Prod.fst, n) := by
      rw [← fwhole_eq hR Ls x 0 (by omega) h0 .nil, ← fsc_eq hR Ls t w]
      rfl
    rw [hf]
    simp only [cst]
    cases cword lk Ls t w with
    | err l e => rfl
    | ok p => cases hw : cwhole lk Ls x 0 <;> simp [C.bind, C.mp, C.er, stm, hw]
  | putS t w z p x _ _ =>
    intro h Ls n r h1 h2
    have h0 : p.ok 0 = true ∧ x.ok 0 = true := by simpa [T.ok] using h
    show fst' g (.cons cPutK t.s t.line 0 (toF p (toF x .nil)) [] r) _ n = _
    rw [fst_one]
    obtain ⟨k', s', v', ks', e', -⟩ := ok0_cons p h0.1
    have htl : (toF p (toF x .nil)).tl = toF x .nil := by rw [e']; rfl
    have hf : fone g cPutK t.s t.line (toF p (toF x .nil)) (Ls.map Prod.fst) n = (carr lk Ls t).er.bind fun _ => (cwhole lk Ls p 0).er.bind fun _ => (cwhole lk Ls x 1).er.bind fun _ => .ok (Ls.map Prod.fst, n) := by
      rw [fone_put, htl, farr_eq hR Ls t, fwhole_eq hR Ls p 0 (by omega) h0.1 (toF x .nil), fwhole_eq hR Ls x 1 (by omega) h0.2 .nil]
    rw [hf]
    simp only [cst]
    cases carr lk Ls t with
    | err l e => rfl
    | ok a =>
      cases hw : cwhole lk Ls p 0 with
      | err l e => simp [C.bind, C.mp, C.er, stm, hw]
      | ok p' => cases hx : cwhole lk Ls x 1 <;> simp [C.bind, C.mp, C.er, stm, hw, hx]
  | ifS line c a b ih0 ih1 ih2 =>
    intro h Ls n r h1 h2
    have h0 : c.ok 0 = true ∧ a.ok 2 = true ∧ (b.ok 2 = true ∨ b.isNil = true) := by
      have : (c.ok 0 = true ∧ a.ok 2 = true) ∧ (b.ok 2 = true ∨ b.isNil = true) := by simpa [T.ok] using h
      exact ⟨this.1.1, this.1.2, this.2⟩
    show fst' g (.cons cIf (ofL []) line 0 (toF c (toF a (toF b .nil))) [] r) _ n = _
    rw [fst_one]
    obtain ⟨k', s', v', ks', e', -⟩ := ok0_cons c h0.1
    have htl : (toF c (toF a (toF b .nil))).tl = toF a (toF b .nil) := by rw [e']; rfl
    have hf : fone g cIf (ofL []) line (toF c (toF a (toF b .nil))) (Ls.map Prod.fst) n = (cwhole lk Ls c 0).er.bind fun _ => fst' g (toF a (toF b .nil)) (Ls.map Prod.fst) n := by
      rw [fone_if, htl, fwhole_eq hR Ls c 0 (by omega) h0.1 (toF a (toF b .nil))]
    have e1 := ih1 (.inl h0.2.1) Ls n
    rw [hf, e1 (toF b .nil) h1 h2]
    simp only [cst]
    cases hcw : cwhole lk Ls c 0 with
    | err l e => rfl
    | ok c' =>
      show (((cst lk a Ls n).mp stm).bind fun p => fst' g (toF b .nil) p.1 p.2).bind (fun p => fst' g r p.1 p.2) = (((cst lk a Ls n).bind fun a' => (cst lk b a'.2.1 a'.2.2).bind fun b' => C.ok (T.ifS line c' a'.1 b'.1, b'.2.1, b'.2.2)).mp stm).bind _
      cases hc : cst lk a Ls n with
      | err l e => rfl
      | ok q =>
        obtain ⟨b1, b2⟩ := bd a Ls n h1 h2 (e1 .nil h1 h2) q hc
        have hb : fst' g (toF b .nil) (q.2.1.map Prod.fst) q.2.2 = ((cst lk b q.2.1 q.2.2).mp stm).bind fun p => fst' g .nil p.1 p.2 := by
          rcases h0.2.2 with hb | hb
          · exact ih2 (.inl hb) q.2.1 q.2.2 .nil b1 b2
          · cases b with
            | nil => show fst' g .nil _ _ = fst' g .nil _ _; rfl
            | _ => cases hb
        show (fst' g (toF b .nil) (q.2.1.map Prod.fst) q.2.2).bind _ = (((cst lk b q.2.1 q.2.2).bind _).mp stm).bind _
        rw [hb]
        cases cst lk b q.2.1 q.2.2 with
        | err l e => rfl
        | ok q2 => show (fst' g .nil _ _).bind _ = _; rw [fst_nil]; rfl
  | whileS line c b ih0 ih1 =>
    intro h Ls n r h1 h2
    have h0 : c.ok 0 = true ∧ b.ok 2 = true := by simpa [T.ok] using h
    show fst' g (.cons cWhile (ofL []) line 0 (toF c (toF b .nil)) [] r) _ n = _
    rw [fst_one]
    obtain ⟨k', s', v', ks', e', -⟩ := ok0_cons c h0.1
    have htl : (toF c (toF b .nil)).tl = toF b .nil := by rw [e']; rfl
    have hf : fone g cWhile (ofL []) line (toF c (toF b .nil)) (Ls.map Prod.fst) n = (cwhole lk Ls c 0).er.bind fun _ => fst' g (toF b .nil) (Ls.map Prod.fst) n := by
      rw [fone_while, htl, fwhole_eq hR Ls c 0 (by omega) h0.1 (toF b .nil)]
    have e1 := ih1 (.inl h0.2) Ls n
    rw [hf, e1 .nil h1 h2]
    simp only [cst]
    cases hcw : cwhole lk Ls c 0 with
    | err l e => rfl
    | ok c' =>
      show (((cst lk b Ls n).mp stm).bind fun p => fst' g .nil p.1 p.2).bind (fun p => fst' g r p.1 p.2) = (((cst lk b Ls n).bind fun b' => C.ok (T.whileS line c' b'.1, b'.2.1, b'.2.2)).mp stm).bind _
      cases hc : cst lk b Ls n with
      | err l e => rfl
      | ok q => show (fst' g .nil _ _).bind _ = _; rw [fst_nil]; rfl
  | retS line x _ =>
    intro h Ls n r h1 h2
    have h0 : x.ok 0 = true := by simpa [T.ok] using h
    show fst' g (.cons cReturn (ofL []) line 0 (toF x .nil) [] r) _ n = _
    rw [fst_one]
    have hf : fone g cReturn (ofL []) line (toF x .nil) (Ls.map Prod.fst) n = (cwhole lk Ls x 0).er.bind fun _ => .ok (Ls.map Prod.fst, n) := by
      rw [← fwhole_eq hR Ls x 0 (by omega) h0 .nil]
      rfl
    rw [hf]
    simp only [cst]
    cases hw : cwhole lk Ls x 0 <;> simp [C.bind, C.mp, C.er, stm, hw]
  | prtS line x _ =>
    intro h Ls n r h1 h2
    have h0 : x.ok 0 = true := by simpa [T.ok] using h
    show fst' g (.cons cPrint (ofL []) line 0 (toF x .nil) [] r) _ n = _
    rw [fst_one]
    have hf : fone g cPrint (ofL []) line (toF x .nil) (Ls.map Prod.fst) n = (cwhole lk Ls x 0).er.bind fun _ => .ok (Ls.map Prod.fst, n) := by
      rw [← fwhole_eq hR Ls x 0 (by omega) h0 .nil]
      rfl
    rw [hf]
    simp only [cst]
    cases hw : cwhole lk Ls x 0 <;> simp [C.bind, C.mp, C.er, stm, hw]
  | doS line x _ =>
    intro h Ls n r h1 h2
    have h0 : x.ok 0 = true := by simpa [T.ok] using h
    show fst' g (.cons cDoK (ofL []) line 0 (toF x .nil) [] r) _ n = _
    rw [fst_one]
    have hf : fone g cDoK (ofL []) line (toF x .nil) (Ls.map Prod.fst) n = (cwhole lk Ls x 0).er.bind fun _ => .ok (Ls.map Prod.fst, n) := by
      rw [← fwhole_eq hR Ls x 0 (by omega) h0 .nil]
      rfl
    rw [hf]
    simp only [cst]
    cases hw : cwhole lk Ls x 0 <;> simp [C.bind, C.mp, C.er, stm, hw]
  | block line l ih =>
    intro h Ls n r h1 h2
    have h0 : l.ok 3 = true := by simpa [T.ok] using h
    show fst' g (.cons cBlockK (ofL []) line 0 (toF l .nil) [] r) _ n = _
    rw [fst_one]
    have hf : fone g cBlockK (ofL []) line (toF l .nil) (Ls.map Prod.fst) n = (fst' g (toF l .nil) (Ls.map Prod.fst) n).bind fun p => .ok (Ls.map Prod.fst, p.2) := rfl
    rw [hf, ih (.inr h0) Ls n .nil h1 h2]
    simp only [cst]
    cases hc : cst lk l Ls n with
    | err l e => rfl
    | ok q => show ((fst' g .nil _ _).bind _).bind _ = _; rw [fst_nil]; rfl
theorem fpars_eq (hR : RelG lk g) (line : Int) : ∀ (ps : List ByteArray) (Ls : Lcs) (n : Nat), Ls.length ≤ n → n ≤ 24 → fpars g line ps (Ls.map Prod.fst) n = (cpars lk line ps Ls n).mp (fun p => (p.1.map Prod.fst, p.2)) ∧ ∀ q, cpars lk line ps Ls n = .ok q → q.1.length ≤ q.2 ∧ q.2 ≤ 24
  | [], Ls, n, h1, h2 => ⟨rfl, fun q h => by cases h; exact ⟨h1, h2⟩⟩
  | p :: ps, Ls, n, h1, h2 => by
    unfold fpars cpars
    rw [fdecl_eq hR Ls h2]
    cases hd : cdecl lk Ls n line p with
    | err l e => exact ⟨rfl, fun q h => by cases h⟩
    | ok q =>
      have hq : q.1.length ≤ q.2 ∧ q.2 ≤ 24 := by
        unfold cdecl at hd
        split at hd
        · cases hd
        · split at hd
          · cases hd
          · split at hd
            · cases hd
            · cases hd
              rename_i hn
              exact ⟨by simp; omega, by show n + 1 ≤ 24; omega⟩
      obtain ⟨a, b⟩ := fpars_eq hR line ps q.1 q.2 hq.1 hq.2
      exact ⟨a, b⟩
end Go.Lang
/- The two checkers agree on declarations; there is enough fuel. No condition. -/
namespace Go.Lang
set_option linter.unusedVariables false
set_option linter.unusedSimpArgs false
variable {lk : Lk} {g : Gf}
/-- what the reference keeps of a declaration -/
def dsig : D → ByteArray × Int × Nat
  | .var _ _ _ z => (cVar, z, 0)
  | .fn _ _ ps _ _ _ => (cFunc, 0, ps.length)
theorem fcons_pos {s : ByteArray} {d : D} {l : List D} (h : d.nm = s) : ((d :: l).find? fun d => decide (d.nm = s)) = some d := List.find?_cons_of_pos (p := fun d : D => decide (d.nm = s)) (decide_eq_true h)
theorem fcons_neg {s : ByteArray} {d : D} {l : List D} (h : ¬ d.nm = s) : ((d :: l).find? fun d => decide (d.nm = s)) = l.find? fun d => decide (d.nm = s) := List.find?_cons_of_neg (p := fun d : D => decide (d.nm = s)) (by rw [decide_eq_false h]; exact Bool.false_ne_true)
theorem cone_var (lk : Lk) (dup : Bool) (t : Tok) (nm : ByteArray) (w z : Int) : cone lk dup (.var t nm w z) = if dup then .err t.line 9 else if 512 < w + max 1 z then .err t.line 1 else .ok (.var t nm w z) := rfl
theorem cone_fn (lk : Lk) (dup : Bool) (t : Tok) (nm : ByteArray) (ps : List ByteArray) (s no : Int) (b : T) : cone lk dup (.fn t nm ps s no b) = if dup then .err t.line 9 else (cpars lk t.line ps [] 0).bind fun q => (cst lk b q.1 q.2).bind fun r => .ok (.fn t nm ps (r.2.2 : Int) no r.1) := rfl
theorem globF_eq (s : ByteArray) : ∀ ds : List D, globF (toD ds .nil) s = (ds.find? fun d => decide (d.nm = s)).map dsig
  | [] => rfl
  | .var t nm w z :: ds => by
    show globF (.cons cVar nm t.line z .nil [] (toD ds .nil)) s = _
    rw [globF, globF_eq s ds]
    by_cases h : nm = s
    · rw [if_pos h, fcons_pos (d := .var t nm w z) h]; rfl
    · rw [if_neg h, fcons_neg (d := .var t nm w z) h]
  | .fn t nm ps a b c :: ds => by
    show globF (.cons cFunc nm t.line 0 (toF c .nil) ps (toD ds .nil)) s = _
    rw [globF, globF_eq s ds]
    by_cases h : nm = s
    · rw [if_pos h, fcons_pos (d := .fn t nm ps a b c) h]; rfl
    · rw [if_neg h, fcons_neg (d := .fn t nm ps a b c) h]
theorem find_count (s : ByteArray) : ∀ (ds : List D) (t n : Nat), ((count ds t n).find? fun d => decide (d.nm = s)).map dsig = (ds.find? fun d => decide (d.nm = s)).map dsig
  | [], _, _ => rfl
  | .var tk nm w z :: ds, t, n => by
    by_cases h : nm = s
    · rw [count, fcons_pos (d := .var tk nm ((t : Nat) : Int) z) h, fcons_pos (d := .var tk nm w z) h]; rfl
    · rw [count, fcons_neg (d := .var tk nm ((t : Nat) : Int) z) h, fcons_neg (d := .var tk nm w z) h, find_count s ds]
  | .fn tk nm ps a b c :: ds, t, n => by
    by_cases h : nm = s
    · rw [count, fcons_pos (d := .fn tk nm ps a ((n : Nat) : Int) c) h, fcons_pos (d := .fn tk nm ps a b c) h]; rfl
    · rw [count, fcons_neg (d := .fn tk nm ps a ((n : Nat) : Int) c) h, fcons_neg (d := .fn tk nm ps a b c) h, find_count s ds]
theorem find_idx {α : Type} (p : α → Bool) : ∀ (l : List α), (l.findIdx? p = none ∧ l.find? p = none) ∨ ∃ i d, l.findIdx? p = some i ∧ l[i]? = some d ∧ l.find? p = some d
  | [] => .inl ⟨rfl, rfl⟩
  | x :: l => by
    by_cases h : p x = true
    · exact .inr ⟨0, x, by rw [List.findIdx?_cons, if_pos h], rfl, List.find?_cons_of_pos h⟩
    · rw [List.findIdx?_cons, if_neg h, List.find?_cons_of_neg h]
      rcases find_idx p l with ⟨a, b⟩ | ⟨i, d, a, b, c⟩
      · exact .inl ⟨by rw [a]; rfl, b⟩
      · exact .inr ⟨i + 1, d, by rw [a]; rfl, by simpa using b, c⟩
theorem relG (ad : Nat → Nat) (ds : List D) : RelG (lkOf ad (count ds 0 0)) (globF (toD ds .nil)) := by
  intro s
  have h1 : globF (toD ds .nil) s = ((count ds 0 0).find? fun d => decide (d.nm = s)).map dsig := by rw [globF_eq, find_count]
  rw [h1]
  unfold lkOf firstOf
  rcases find_idx (fun d : D => decide (d.nm = s)) (count ds 0 0) with ⟨a, b⟩ | ⟨i, d, a, b, c⟩
  · rw [a, b]; rfl
  · rw [a, c]
    simp only [Option.bind_some, b, Option.map_some]
    cases d with
    | var t nm w z => exact ⟨0, rfl⟩
    | fn t nm ps x y z => exact ⟨0, rfl⟩
/-- seen before? -/
theorem dup_iff (pre tl : List D) (d : D) : (decide (firstOf (pre ++ d :: tl) d.nm ≠ some pre.length)) = hasN (pre.map D.nm) d.nm := by
  unfold firstOf
  rw [List.findIdx?_append]
  rcases find_idx (fun x : D => decide (x.nm = d.nm)) pre with ⟨a, b⟩ | ⟨i, x, a, b, c⟩
  · rw [a, List.findIdx?_cons, if_pos (by simp)]
    have : hasN (pre.map D.nm) d.nm = false := by
      cases h : hasN (pre.map D.nm) d.nm with
      | false => rfl
      | true =>
        rw [hasN_iff] at h
        obtain ⟨x, hx, e⟩ := List.mem_map.1 h
        rw [List.find?_eq_none] at b
        exact absurd (by simpa using e) (b x hx)
    rw [this]
    simp
  · have hi := (List.getElem?_eq_some_iff.1 b).1
    have hx : x.nm = d.nm := by have := List.find?_some c; simpa using this
    have : hasN (pre.map D.nm) d.nm = true := hasN_iff.2 (List.mem_map.2 ⟨x, List.mem_of_getElem? b, hx⟩)
    rw [a, this]
    simp
    omega
theorem wv_var {z : Int} (hz : 0 ≤ z) : wv cVar z = max 1 z.toNat := by
  unfold wv
  rw [if_pos rfl]
  split <;> omega
/-- the rest of the declarations -/
theorem crest_eq (hR : RelG lk g) (ds0 : List D) : ∀ (rest pre : List D) (tot no : Nat), ds0 = pre ++ count rest tot no → (∀ d ∈ rest, DOk d) → (crest lk ds0 pre.length (count rest tot no)).er = fcr g (pre.map D.nm) tot (toD rest .nil)
  | [], pre, tot, no, h, hd => by
    rw [show toD [] Fo.nil = .nil from rfl]
    unfold fcr
    rfl
  | .var t nm w z :: rest, pre, tot, no, h, hd => by
    have hz : 0 ≤ z ∧ z ≤ 256 := hd _ (List.mem_cons_self ..)
    rw [show toD (.var t nm w z :: rest) .nil = .cons cVar nm t.line z .nil [] (toD rest .nil) from rfl, fcr_cons]
    rw [count] at h ⊢
    have hdup := dup_iff pre (count rest (tot + max 1 z.toNat) no) (.var t nm tot z)
    rw [← h] at hdup
    rw [crest, hdup]
    have ih := crest_eq hR ds0 rest (pre ++ [.var t nm tot z]) (tot + max 1 z.toNat) no (by rw [h]; simp) (fun d h => hd d (List.mem_cons_of_mem _ h))
    rw [List.length_append, List.map_append] at ih
    rw [wv_var hz.1]
    show (((cone lk (hasN (pre.map D.nm) nm) (.var t nm tot z)).bind _).er) = (fcone g (pre.map D.nm) tot cVar nm t.line z .nil []).bind fun _ => fcr g (pre.map D.nm ++ [nm]) (tot + max 1 z.toNat) (toD rest .nil)
    rw [cone_var]
    unfold fcone
    rw [wv_var hz.1]
    cases hasN (pre.map D.nm) nm with
    | true => rfl
    | false =>
      rw [if_neg Bool.false_ne_true, if_neg Bool.false_ne_true, if_pos rfl]
      by_cases h5 : 512 < tot + max 1 z.toNat
      · rw [if_pos h5, if_pos (by omega)]; rfl
      · rw [if_neg h5, if_neg (by omega)]
        show ((crest lk ds0 (pre.length + 1) _).bind _).er = fcr g _ _ _
        rw [← show (crest lk ds0 (pre.length + 1) (count rest (tot + max 1 z.toNat) no)).er = fcr g (pre.map D.nm ++ [nm]) (tot + max 1 z.toNat) (toD rest .nil) from ih]
        cases crest lk ds0 (pre.length + 1) (count rest (tot + max 1 z.toNat) no) <;> rfl
  | .fn t nm ps s no' b :: rest, pre, tot, no, h, hd => by
    obtain ⟨-, hps, hb, hsz⟩ : DOk (.fn t nm ps s no' b) := hd _ (List.mem_cons_self ..)
    rw [show toD (.fn t nm ps s no' b :: rest) .nil = .cons cFunc nm t.line 0 (toF b .nil) ps (toD rest .nil) from rfl, fcr_cons]
    rw [count] at h ⊢
    have hdup := dup_iff pre (count rest tot (no + 1)) (.fn t nm ps s no b)
    rw [← h] at hdup
    rw [crest, hdup]
    have ih := crest_eq hR ds0 rest (pre ++ [.fn t nm ps s no b]) tot (no + 1) (by rw [h]; simp) (fun d h => hd d (List.mem_cons_of_mem _ h))
    rw [List.length_append, List.map_append] at ih
    rw [show wv cFunc 0 = 0 from rfl, Nat.add_zero]
    show (((cone lk (hasN (pre.map D.nm) nm) (.fn t nm ps s no b)).bind _).er) = (fcone g (pre.map D.nm) tot cFunc nm t.line 0 (toF b .nil) ps).bind fun _ => fcr g (pre.map D.nm ++ [nm]) tot (toD rest .nil)
    rw [cone_fn]
    unfold fcone
    cases hasN (pre.map D.nm) nm with
    | true => rfl
    | false =>
      rw [if_neg Bool.false_ne_true, if_neg Bool.false_ne_true, if_neg (by decide)]
      obtain ⟨e1, e2⟩ := fpars_eq hR t.line ps [] 0 (Nat.le_refl _) (by omega)
      have e1 : fpars g t.line ps [] 0 = (cpars lk t.line ps [] 0).mp fun p => (p.1.map Prod.fst, p.2) := e1
      rw [e1]
      cases hp : cpars lk t.line ps [] 0 with
      | err l e => rfl
      | ok q =>
        obtain ⟨b1, b2⟩ := e2 q hp
        have hs := fst_eq hR b (.inl hb) q.1 q.2 .nil b1 b2
        show ((C.bind ((cst lk b q.1 q.2).bind _) _).er) = C.bind ((fst' g (toF b .nil) (q.1.map Prod.fst) q.2).bind _) _
        rw [hs]
        cases cst lk b q.1 q.2 with
        | err l e => rfl
        | ok r =>
          show ((crest lk ds0 (pre.length + 1) _).bind _).er = C.bind (C.bind (fst' g .nil _ _) _) _
          rw [fst_nil]
          show _ = fcr g _ _ _
          rw [← show (crest lk ds0 (pre.length + 1) (count rest tot (no + 1))).er = fcr g (pre.map D.nm ++ [nm]) tot (toD rest .nil) from ih]
          cases crest lk ds0 (pre.length + 1) (count rest tot (no + 1)) <;> rfl
/-- THE TWO CHECKERS SAY THE SAME -/
theorem fcheck_eq (ad : Nat → Nat) (ds : List D) (hd : ∀ d ∈ ds, DOk d) : fcheck (toD ds .nil) = (check ad ds).er := by
  have hR := relG ad ds
  have h := crest_eq hR (count ds 0 0) ds [] 0 0 rfl hd
  unfold fcheck check
  rw [← show (crest (lkOf ad (count ds 0 0)) (count ds 0 0) 0 (count ds 0 0)).er = fcr (globF (toD ds .nil)) [] 0 (toD ds .nil) from h]
  cases crest (lkOf ad (count ds 0 0)) (count ds 0 0) 0 (count ds 0 0) with
  | err l e => rfl
  | ok ds' =>
    have hm := hR cMain
    show (match globF (toD ds .nil) cMain with | some (k, _, np) => _ | none => _) = (match lkOf ad (count ds 0 0) cMain with | some (.fn k np) => _ | _ => _ : C (List D × Nat)).er
    cases hl : lkOf ad (count ds 0 0) cMain with
    | none => rw [hl] at hm; rw [hm]; rfl
    | some x =>
      rw [hl] at hm
      cases x with
      | var wd z =>
        obtain ⟨m, hg⟩ := hm
        rw [hg]
        simp only
        rw [if_pos (by decide)]; rfl
      | fn k np =>
        obtain ⟨v, hg⟩ := hm
        rw [hg]
        simp only [ne_eq, not_true_eq_false, if_false]
        split <;> rfl
/-! ### well formed -/
/-! ### enough fuel -/
theorem bind_out {α β : Type} {r : R α} {k : α → List Tok → R β} (h : r.bind k = .out) : r = .out ∨ ∃ x l, r = .ok x l ∧ k x l = .out := by
  cases r with
  | ok x l => exact .inr ⟨x, l, rfl, h⟩
  | err a e => cases h
  | out => exact .inl rfl
theorem want_out {β : Type} {s : ByteArray} {l : List Tok} {k : List Tok → R β} (h : want s l k = .out) : is s l = true ∧ k l.tail = .out := by
  unfold want at h
  split at h
  · rename_i hi; exact ⟨hi, h⟩
  · cases h
theorem name_out {β : Type} {l : List Tok} {k : Tok → List Tok → R β} (h : name l k = .out) : (now l).k = 1 ∧ k (now l) l.tail = .out := by
  unfold name at h
  split at h
  · cases h
  · rename_i hk
    split at h
    · cases h
    · exact ⟨Decidable.not_not.1 hk, h⟩
theorem number_out {β : Type} {l : List Tok} {k : Int → List Tok → R β} (h : number l k = .out) : (now l).k = 2 ∧ ∃ v, k v l.tail = .out := by
  unfold number at h
  split at h
  · cases h
  · rename_i hk
    split at h
    · cases h
    · exact ⟨Decidable.not_not.1 hk, _, h⟩
def rank : Req → Nat
  | .expr => 3
  | .bin _ => 2
  | .loop _ _ => 0
  | .un => 1
  | .prim => 0
  | .args => 5
  | .argl => 4
  | .blk => 0
  | .stmts => 2
  | .stmt => 1
/-- an expression takes a token at least -/
theorem run_lt {f : Nat} {q : Req} {n : Nat} {l l' : List Tok} {x : T} (h : run f q n l = .ok x l') (hq : reqOk q) (hb : before q = 0) : l'.length < l.length := by
  have := (run_shape f q n l x l' h hq).2
  rw [hb] at this
  omega
theorem fuel : ∀ (f : Nat) (q : Req) (n : Nat) (l : List Tok), 8 * l.length + rank q < f → run f q n l ≠ .out := by
  intro f
  induction f with
  | zero => intro q n l h; omega
  | succ f ih =>
    intro q n l hf ho
    have tl := fun (l : List Tok) => tail_le l
    cases q with
    | expr =>
      simp only [rank] at hf
      unfold run at ho
      split at ho
      · cases ho
      · exact ih _ _ _ (by simp only [rank]; omega) ho
    | bin k =>
      simp only [rank] at hf
      unfold run at ho
      rcases bind_out ho with h1 | ⟨x, l1, h1, h2⟩
      · exact ih _ _ _ (by simp only [rank]; omega) h1
      · have := run_lt h1 trivial rfl
        exact ih _ _ _ (by simp only [rank]; omega) h2
    | loop k u =>
      simp only [rank] at hf
      unfold run at ho
      split at ho
      · rename_i hk
        have t0 := k_tail hk.1 (by omega)
        rcases bind_out ho with h1 | ⟨x, l1, h1, h2⟩
        · exact ih _ _ _ (by simp only [rank]; omega) h1
        · have := run_lt h1 trivial rfl
          exact ih _ _ _ (by simp only [rank]; omega) h2
      · cases ho
    | un =>
      simp only [rank] at hf
      unfold run at ho
      split at ho
      · rename_i h1
        have t0 : l.tail.length + 1 = l.length := by
          unfold isOne at h1
          rw [Bool.or_eq_true, Bool.or_eq_true] at h1
          rcases h1 with (h1 | h1) | h1 <;> exact is_tail h1
        split at ho
        · cases ho
        · rcases bind_out ho with h1 | ⟨x, l1, h1, h2⟩
          · exact ih _ _ _ (by simp only [rank]; omega) h1
          · cases h2
      · exact ih _ _ _ (by simp only [rank]; omega) ho
    | prim =>
      simp only [rank] at hf
      unfold run at ho
      split at ho
      · obtain ⟨-, v, h1⟩ := number_out ho
        cases h1
      · split at ho
        · rename_i hk
          have t0 := is_tail hk
          rcases bind_out ho with h1 | ⟨x, l1, h1, h2⟩
          · exact ih _ _ _ (by simp only [rank]; omega) h1
          · obtain ⟨-, h3⟩ := want_out h2
            cases h3
        · obtain ⟨hk, h1⟩ := name_out ho
          have t0 := k_tail hk (by omega)
          have t1 := tl l.tail
          split at h1
          · rename_i hi
            have t2 := is_tail hi
            rcases bind_out h1 with h1 | ⟨x, l1, h1, h2⟩
            · exact ih _ _ _ (by simp only [rank]; omega) h1
            · cases h2
          · split at h1
            · rename_i hi
              have t2 := is_tail hi
              rcases bind_out h1 with h1 | ⟨x, l1, h1, h2⟩
              · exact ih _ _ _ (by simp only [rank]; omega) h1
              · obtain ⟨-, h3⟩ := want_out h2
                cases h3
            · cases h1
    | args =>
      simp only [rank] at hf
      unfold run at ho
      split at ho
      · cases ho
      · exact ih _ _ _ (by simp only [rank]; omega) ho
    | argl =>
      simp only [rank] at hf
      unfold run at ho
      rcases bind_out ho with h1 | ⟨x, l1, h1, h2⟩
      · exact ih _ _ _ (by simp only [rank]; omega) h1
      · have := run_lt h1 trivial rfl
        have := tl l1
        split at h2
        · cases h2
        · obtain ⟨-, h3⟩ := want_out h2
          rcases bind_out h3 with h4 | ⟨xs, l2, h4, h5⟩
          · exact ih _ _ _ (by simp only [rank]; omega) h4
          · cases h5
    | blk =>
      simp only [rank] at hf
      unfold run at ho
      split at ho
      · cases ho
      · obtain ⟨hi, h1⟩ := want_out ho
        have t0 := is_tail hi
        rcases bind_out h1 with h4 | ⟨xs, l2, h4, h5⟩
        · exact ih _ _ _ (by simp only [rank]; omega) h4
        · cases h5
    | stmts =>
      simp only [rank] at hf
      unfold run at ho
      split at ho
      · cases ho
      · rcases bind_out ho with h1 | ⟨x, l1, h1, h2⟩
        · exact ih _ _ _ (by simp only [rank]; omega) h1
        · have := (run_le _ _ _ _ _ _ h1).2 rfl
          rcases bind_out h2 with h4 | ⟨xs, l2, h4, h5⟩
          · exact ih _ _ _ (by simp only [rank]; omega) h4
          · cases h5
    | stmt =>
      simp only [rank] at hf
      have cl : ∀ {l1 : List Tok} {K : T → List Tok → R T}, l1.length < l.length → (∀ x l, K x l ≠ .out) → ((run f .expr n l1).bind fun x l => want cSemi l fun l => K x l) = .out → False := by
        intro l1 K hl hK h
        rcases bind_out h with h1 | ⟨x, l2, h1, h2⟩
        · exact ih _ _ _ (by simp only [rank]; omega) h1
        · obtain ⟨-, h3⟩ := want_out h2
          exact hK _ _ h3
      unfold run at ho
      split at ho
      · rename_i hk
        have t0 := k_tail hk (by omega)
        obtain ⟨-, h⟩ := name_out ho
        have t2 := tl l.tail
        split at h
        · rename_i hi
          have t3 := is_tail hi
          rcases bind_out h with h1 | ⟨x, l1, h1, h2⟩
          · exact ih _ _ _ (by simp only [rank]; omega) h1
          · obtain ⟨-, h3⟩ := want_out h2
            cases h3
        · split at h
          · rename_i hi
            have t3 := is_tail hi
            rcases bind_out h with h1 | ⟨x, l1, h1, h2⟩
            · exact ih _ _ _ (by simp only [rank]; omega) h1
            · have t4 := run_lt h1 trivial rfl
              obtain ⟨-, h3⟩ := want_out h2
              obtain ⟨-, h3⟩ := want_out h3
              have t5 := tl l1
              have t6 := tl l1.tail
              exact cl (by omega) (fun _ _ e => by cases e) h3
          · obtain ⟨-, h3⟩ := want_out h
            exact cl (by omega) (fun _ _ e => by cases e) h3
      · split at ho
        · rename_i hk
          have t0 := is_tail hk
          obtain ⟨-, h⟩ := name_out ho
          obtain ⟨-, h3⟩ := want_out h
          have t2 := tl l.tail
          have t3 := tl l.tail.tail
          exact cl (by omega) (fun _ _ e => by cases e) h3
        · split at ho
          · rename_i hk
            have t0 := is_tail hk
            exact cl (by omega) (fun _ _ e => by cases e) ho
          · split at ho
            · rename_i hk
              have t0 := is_tail hk
              exact cl (by omega) (fun _ _ e => by cases e) ho
            · split at ho
              · rename_i hk
                have t0 := is_tail hk
                rcases bind_out ho with h1 | ⟨x, l1, h1, h2⟩
                · exact ih _ _ _ (by simp only [rank]; omega) h1
                · have := run_lt h1 trivial rfl
                  rcases bind_out h2 with h4 | ⟨y, l2, h4, h5⟩
                  · exact ih _ _ _ (by simp only [rank]; omega) h4
                  · cases h5
              · split at ho
                · rename_i hk
                  have t0 := is_tail hk
                  rcases bind_out ho with h1 | ⟨x, l1, h1, h2⟩
                  · exact ih _ _ _ (by simp only [rank]; omega) h1
                  · have := run_lt h1 trivial rfl
                    rcases bind_out h2 with h4 | ⟨y, l2, h4, h5⟩
                    · exact ih _ _ _ (by simp only [rank]; omega) h4
                    · have := run_lt h4 trivial rfl
                      have := tl l2
                      split at h5
                      · rcases bind_out h5 with h6 | ⟨y, l3, h6, h7⟩
                        · exact ih _ _ _ (by simp only [rank]; omega) h6
                        · cases h7
                      · cases h5
                · cases ho
theorem paramL_out : ∀ (k : Nat) (l : List Tok), params.paramL k l ≠ .out
  | 0, l, h => by
    rw [params.paramL] at h
    obtain ⟨-, h⟩ := name_out h
    cases h
  | k + 1, l, h => by
    rw [params.paramL] at h
    obtain ⟨-, h⟩ := name_out h
    split at h
    · cases h
    · obtain ⟨-, h⟩ := want_out h
      rcases bind_out h with h1 | ⟨x, l1, h1, h2⟩
      · exact paramL_out k _ h1
      · cases h2
theorem decl_fuel {f : Nat} {l : List Tok} (hf : 8 * l.length < f) : decl f l ≠ .out := by
  intro h
  have tl := fun (l : List Tok) => tail_le l
  unfold decl at h
  split at h
  · obtain ⟨-, h⟩ := name_out h
    split at h
    · obtain ⟨-, v, h⟩ := number_out h
      split at h
      · cases h
      · obtain ⟨-, h⟩ := want_out h
        obtain ⟨-, h⟩ := want_out h
        cases h
    · obtain ⟨-, h⟩ := want_out h
      cases h
  · obtain ⟨-, h⟩ := want_out h
    obtain ⟨-, h⟩ := name_out h
    obtain ⟨-, h⟩ := want_out h
    rcases bind_out h with h1 | ⟨ps, l1, h1, h2⟩
    · have h1 : (if is cRP l.tail.tail.tail then R.ok [] l.tail.tail.tail.tail else params.paramL 6 l.tail.tail.tail) = R.out := h1
      split at h1
      · cases h1
      · exact paramL_out _ _ h1
    · have a1 := (params_shape h1).2
      have a2 := tl l
      have a3 := tl l.tail
      have a4 := tl l.tail.tail
      rcases bind_out h2 with h3 | ⟨b, l2, h3, h4⟩
      · exact fuel f .blk 0 l1 (by simp only [rank]; omega) h3
      · cases h4
theorem decls_fuel {f : Nat} : ∀ (g : Nat) (l : List Tok), l.length < g → l.length ≤ 8001 → 8 * 8001 < f → decls f g l ≠ .out
  | 0, l, h, _, _ => by omega
  | g + 1, l, h, h2, hf => by
    intro ho
    unfold decls at ho
    split at ho
    · cases ho
    · rcases bind_out ho with h1 | ⟨d, l1, h1, h3⟩
      · exact decl_fuel (by omega) h1
      · have := (decl_shape h2 h1).2
        rcases bind_out h3 with h4 | ⟨ds, l2, h4, h5⟩
        · exact decls_fuel g l1 (by omega) (by omega) hf h4
        · cases h5
theorem decls_shape {f : Nat} : ∀ (g : Nat) (l l' : List Tok) (ds : List D), decls f g l = .ok ds l' → l.length ≤ 8001 → (∀ d ∈ ds, DOk d) ∧ ds.length ≤ l.length
  | 0, l, l', ds, h, _ => by cases h
  | g + 1, l, l', ds, h, h2 => by
    unfold decls at h
    split at h
    · cases h; exact ⟨(fun d hd => by cases hd), Nat.zero_le _⟩
    · obtain ⟨d, l1, h1, h3⟩ := bind_ok h
      obtain ⟨a, b⟩ := decl_shape h2 h1
      obtain ⟨ds', l2, h4, h5⟩ := bind_ok h3
      cases h5
      obtain ⟨c, e⟩ := decls_shape g l1 _ ds' h4 (by omega)
      refine ⟨fun x hx => ?_, by simp only [List.length_cons]; omega⟩
      rcases List.mem_cons.1 hx with rfl | hx
      · exact a
      · exact c x hx
end Go.Lang
