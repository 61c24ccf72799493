/- The plain law, part C: the transaction, Ask, Tick, Data. No condition. -/
import Derived.Test.YtbiogceijdcoiaaCohB
namespace Go.Proofs.Ytbiogceijdcoiaa
open Go.RowKit Go.XHeap Go.Sx Go.Sep
set_option linter.unusedVariables false
set_option maxRecDepth 100000
variable {S S' : PB} {F : List Nat} {m : Nat}
/-- lines of a cache are lowered or go; what was modified goes to memory -/
theorem coh_move (h : Coh S F) (ho : S.Ok m) {k : Nat} (hk : k < 2) {C' : CS} {y : Way} (ht : C'.Tidy) (hy : y.Ok) (hyl : y.state ≠ 0 → LineOk 256 y.line)
    (hsub : ∀ L s b, Has C' L s b → ∃ s0, Has (S.C k) L s0 b ∧ s ≤ s0) (hM : ∀ L b, Has (S.C k) L 3 b → Has C' L 3 b ∨ (y.state = 3 ∧ y.line = L)) (hyb : y.state = 3 → y.bytes = seg F y.line) : Coh (S.move k C' y) F := by
  have hk2 : k < S.Cs.length := by rw [h.n]; exact hk
  have hCe : ∀ j, (S.move k C' y).C j = if k = j then C' else S.C j := fun j => setC_C hk2 C'
  have up : ∀ j L s b, Has ((S.move k C' y).C j) L s b → ∃ s0, Has (S.C j) L s0 b ∧ s ≤ s0 := fun j L s b hh => by
    rw [hCe] at hh
    split at hh
    · rename_i e; subst e; exact hsub L s b hh
    · exact ⟨s, hh, Nat.le_refl _⟩
  refine ⟨by show (S.Cs.set k C').length = 2; rw [List.length_set]; exact h.n, ?_, h.fl, fun j hj => ?_, ?_, ?_, ?_⟩
  · show (keepM S.mem y).length = 256
    rw [keepM_len hy (by rw [h.len]; exact hyl)]; exact h.len
  · rw [hCe]
    split
    · exact ht
    · exact h.tidy j hj
  · intro k1 k2 L s1 b1 s2 b2 h1 h2 h3 h4 h5
    obtain ⟨t1, g1, g2⟩ := up _ _ _ _ h4
    obtain ⟨t2, g3, g4⟩ := up _ _ _ _ h5
    have := h.excl k1 k2 L _ _ _ _ h1 h2 h3 g1 g3
    have p1 := h4.pos
    have p2 := h5.pos
    omega
  · intro j L s b hj hh
    obtain ⟨t, g, -⟩ := up _ _ _ _ hh
    exact h.cur j L _ _ hj g
  · intro L hL hn
    show seg (keepM S.mem y) L = _
    rw [seg_keep h.len hy hyl hL]
    split
    · rename_i e
      rw [hyb e.1, e.2]
    · rename_i e
      refine h.mem L hL fun j b hj hh => ?_
      have := hn j b hj
      rw [hCe] at this
      by_cases q : k = j
      · rw [if_pos q] at this
        subst q
        rcases hM L b hh with hh | hh
        · exact this hh
        · exact e hh
      · rw [if_neg q] at this
        exact this hh
theorem run_two (h : Coh S F) {core a : Nat} (hc : core < 2) (wr : Bool) : LS.run core a wr S S.Cs.length = (⟨S, [], 2⟩ : LS).step core a wr (1 - core) := by
  have skip : ∀ X : LS, X.step core a wr core = X := fun X => by unfold LS.step; rw [if_pos (.inl rfl)]
  rw [h.n]
  obtain rfl | rfl : core = 0 ∨ core = 1 := by omega
  · show ((⟨S, [], 2⟩ : LS).step 0 a wr 0).step 0 a wr 1 = _
    rw [skip]
  · show ((⟨S, [], 2⟩ : LS).step 1 a wr 0).step 1 a wr 1 = _
    rw [skip]
theorem coh_step (h : Coh S F) (ho : S.Ok m) {core a : Nat} (hc : core < 2) (hl : LineOk 256 a) (wr : Bool) :
    Coh ((⟨S, [], 2⟩ : LS).step core a wr (1 - core)).S F ∧ ((⟨S, [], 2⟩ : LS).step core a wr (1 - core)).S.C core = S.C core ∧
    (∀ s b, Has (((⟨S, [], 2⟩ : LS).step core a wr (1 - core)).S.C (1 - core)) a s b → s = 1 ∧ ((⟨S, [], 2⟩ : LS).step core a wr (1 - core)).mine = 1) ∧
    (((⟨S, [], 2⟩ : LS).step core a wr (1 - core)).mine = 1 ∨ ((⟨S, [], 2⟩ : LS).step core a wr (1 - core)).mine = 2) ∧ (wr = true → ((⟨S, [], 2⟩ : LS).step core a wr (1 - core)).mine = 2) ∧ ((⟨S, [], 2⟩ : LS).step core a wr (1 - core)).S.Ok m := by
  have h16 : a % 16 = 0 := hl.1
  have hk : 1 - core < 2 := by omega
  have hk2 : 1 - core < S.Cs.length := by rw [h.n]; exact hk
  have hok := h.ok ho hk
  have htd := h.tidy _ hk
  rw [step_def]
  dsimp only
  by_cases q1 : 1 - core = core ∨ (S.C (1 - core)).stateAt a = 0
  · rw [if_pos q1]
    have q1 : (S.C (1 - core)).stateAt a = 0 := by rcases q1 with e | e; omega; exact e
    refine ⟨h, rfl, fun s b hh => ?_, .inr rfl, fun _ => rfl, ho⟩
    rw [← low_of h16] at hh
    obtain ⟨j, -, e, -⟩ := has_look hok htd hh
    exact absurd (e.symm.trans q1) hh.pos
  · rw [if_neg q1]
    have q1' : ¬ (S.C (1 - core)).stateAt a = 0 := fun e => q1 (.inr e)
    by_cases q2 : othS wr < (S.C (1 - core)).stateAt a
    · rw [if_pos q2]
      dsimp only
      obtain ⟨t1, t2⟩ := lowN_has hok htd h16 (othS wr)
      have hg := ho.cs _ hk2
      obtain ⟨y1, y2⟩ := lowY_ok hg a (othS wr)
      have hy : (S.C (1 - core)).lowY a (othS wr) = (S.C (1 - core)).wayOf a := by unfold CS.lowY; rw [if_pos q2]
      obtain ⟨j, hj⟩ : ∃ j, (S.C (1 - core)).look a = some j := by
        cases hl : (S.C (1 - core)).look a with
        | none => exact absurd (wayOf_none hl) q1'
        | some j => exact ⟨j, rfl⟩
      obtain ⟨u1, u2, u3⟩ := look_used hok hj
      have uh := look_has hok hj
      rw [low_of h16] at u2 uh
      have hoth := oth_le wr
      refine ⟨coh_move h ho hk t1 y1 (by have := y2; unfold PB.len at this; rw [h.len] at this; exact this) ?_ ?_ ?_, ?_, ?_, ?_, ?_, move_ok ho hk2 (Nat.le_refl _) (lowN_good hg a _ (by omega)) y1 y2⟩
      · intro L s b hh
        rcases (t2 L s b).1 hh with ⟨g, -⟩ | ⟨rfl, -, rfl, g1, g2⟩
        · exact ⟨s, g, Nat.le_refl _⟩
        · exact ⟨_, g2, by omega⟩
      · intro L b hh
        by_cases e : L = a
        · subst e
          obtain ⟨e1, -⟩ := htd.one hh uh
          exact .inr ⟨by rw [hy, ← u3]; exact e1.symm, by rw [hy]; exact u2⟩
        · exact .inl ((t2 L 3 b).2 (.inl ⟨hh, .inl e⟩))
      · intro e
        rw [hy, u2]
        exact h.cur _ _ _ _ hk uh
      · show (S.setC (1 - core) _).C core = _
        rw [setC_C hk2, if_neg (by omega)]
      · intro s b hh
        have e : (S.move (1 - core) ((S.C (1 - core)).lowN a (othS wr)) ((S.C (1 - core)).lowY a (othS wr))).C (1 - core) = (S.C (1 - core)).lowN a (othS wr) := (setC_C hk2 _).trans (if_pos rfl)
        rw [e] at hh
        have hp := hh.pos
        rcases (t2 a s b).1 hh with ⟨g, g2⟩ | ⟨-, g0, rfl, g1, g2⟩
        · have hs : s ≤ othS wr := by rcases g2 with g2 | g2; exact absurd rfl g2; exact g2
          cases wr
          · exact ⟨by unfold othS at hs; simp at hs; omega, rfl⟩
          · unfold othS at hs; simp at hs; omega
        · cases wr
          · exact ⟨rfl, rfl⟩
          · exact absurd rfl g0
      · cases wr
        · exact .inl rfl
        · exact .inr rfl
      · rintro rfl; rfl
    · rw [if_neg q2]
      dsimp only
      cases wr with
      | true => unfold othS at q2; simp at q2; omega
      | false =>
        unfold othS at q2
        simp only [Bool.false_eq_true, if_false] at q2
        refine ⟨h, rfl, fun s b hh => ⟨?_, rfl⟩, .inl rfl, fun e => (by cases e), ho⟩
        rw [← low_of h16] at hh
        obtain ⟨j, -, e, -⟩ := has_look hok htd hh
        omega
theorem coh_fill (h : Coh S F) (ho : S.Ok m) {core a mine : Nat} (hc : core < 2) (hl : LineOk 256 a) (hno : ∀ s b, ¬ Has (S.C core) a s b) (hoth : ∀ s b, Has (S.C (1 - core)) a s b → s = 1 ∧ mine = 1) (hm : mine = 1 ∨ mine = 2) :
    Coh (S.move core ((S.C core).fillN a (seg S.mem a) mine) ((S.C core).goneOf a)) F ∧ Has ((S.C core).fillN a (seg S.mem a) mine) a mine (seg F a) := by
  have h16 : a % 16 = 0 := hl.1
  have hk2 : core < S.Cs.length := by rw [h.n]; exact hc
  have hok := h.ok ho hc
  obtain ⟨g1, g2⟩ := goneOf_ok (ho.cs _ hk2) a
  unfold PB.len at g2
  rw [h.len] at g2
  have hmem : seg S.mem a = seg F a := h.mem a hl fun k b hk hh => by
    by_cases e : k = core
    · subst e; exact hno _ _ hh
    · obtain rfl : k = 1 - core := by omega
      have := (hoth _ _ hh).1
      omega
  rw [hmem]
  obtain ⟨t1, t2, t3⟩ := fillN_has (s := mine) hok (h.tidy _ hc) h16 hno (by omega) (seg F a)
  refine ⟨?_, (t3 _ _ _).2 (.inl ⟨rfl, rfl, rfl⟩)⟩
  generalize (S.C core).goneOf a = y at *
  generalize (S.C core).fillN a (seg F a) mine = C' at *
  have hCe : ∀ j, (S.move core C' y).C j = if core = j then C' else S.C j := fun j => setC_C hk2 C'
  have two : ∀ k L s1 b1 s2 b2, k < 2 → core ≠ k → Has C' L s1 b1 → Has (S.C k) L s2 b2 → s1 = 1 ∧ s2 = 1 := by
    intro k L s1 b1 s2 b2 hk hn h1 h2
    rcases (t3 _ _ _).1 h1 with ⟨e1, e2, -⟩ | ⟨h1, -⟩
    · obtain rfl : k = 1 - core := by omega
      rw [e1] at h2
      have := hoth _ _ h2
      omega
    · exact h.excl core k L _ _ _ _ hc hk hn h1 h2
  refine ⟨by show (S.Cs.set core C').length = 2; rw [List.length_set]; exact h.n, ?_, h.fl, fun j hj => ?_, ?_, ?_, ?_⟩
  · show (keepM S.mem y).length = 256
    rw [keepM_len g1 (by rw [h.len]; exact g2)]; exact h.len
  · rw [hCe]
    split
    · exact t1
    · exact h.tidy j hj
  · intro k1 k2 L s1 b1 s2 b2 h1 h2 h3 h4 h5
    rw [hCe] at h4 h5
    by_cases e : core = k1
    · rw [if_pos e] at h4
      rw [if_neg (by omega)] at h5
      exact two k2 L _ _ _ _ h2 (by omega) h4 h5
    · rw [if_neg e] at h4
      by_cases e2 : core = k2
      · rw [if_pos e2] at h5
        exact (two k1 L _ _ _ _ h1 e h5 h4).symm
      · rw [if_neg e2] at h5
        exact h.excl k1 k2 L _ _ _ _ h1 h2 h3 h4 h5
  · intro j L s b hj hh
    rw [hCe] at hh
    split at hh
    · rcases (t3 _ _ _).1 hh with ⟨e1, -, e3⟩ | ⟨hh, -⟩
      · rw [e1, e3]
      · exact h.cur core L _ _ hc hh
    · exact h.cur j L _ _ hj hh
  · intro L hL hn
    show seg (keepM S.mem y) L = _
    rw [seg_keep h.len g1 g2 hL]
    split
    · rename_i e
      have := (t2 (by omega)).2
      rw [e.1, e.2] at this
      exact h.cur core _ _ _ hc this
    · rename_i e
      refine h.mem L hL fun j b hj hh => ?_
      have := hn j b hj
      rw [hCe] at this
      by_cases q : core = j
      · rw [if_pos q] at this
        subst q
        refine this ((t3 _ _ _).2 (.inr ⟨hh, fun e3 => e ⟨?_, e3.2⟩⟩))
        have := (t2 e3.1).2
        rw [e3.2] at this
        exact ((h.tidy _ hc).one this hh).1
      · rw [if_neg q] at this
        exact this hh
theorem coh_done (h : Coh S F) (ho : S.Ok m) (hm : m + 1 < 4611686018427387904) {core a : Nat} (hc : core < 2) (hl : LineOk 256 a) (wr : Bool) (hown : ∀ s b, Has (S.C core) a s b → s = 1) :
    Coh (S.done core a wr).S F ∧ ∃ mine, (mine = 1 ∨ mine = 2) ∧ (wr = true → mine = 2) ∧ ((S.done core a wr).S.C core).stateAt a = mine := by
  have h16 : a % 16 = 0 := hl.1
  have hr := run_two h (a := a) hc wr
  obtain ⟨c1, c2, c3, c4, c5, c6⟩ := coh_step h ho hc hl wr
  rw [← hr] at c1 c2 c3 c4 c5 c6
  have hn2 : core < S.Cs.length := by rw [h.n]; exact hc
  unfold PB.done
  generalize LS.run core a wr S S.Cs.length = X at *
  dsimp only
  have hx2 : core < X.S.Cs.length := by rw [c1.n]; exact hc
  have hok := c1.ok c6 hc
  have hown' : ∀ s b, Has (X.S.C core) a s b → s = 1 := by rw [c2]; exact hown
  obtain ⟨t1, t2⟩ := lowN_has hok (c1.tidy _ hc) h16 0
  have hlg := lowN_good (c6.cs _ hx2) a 0 (by omega)
  generalize (X.S.C core).lowN a 0 = C1 at *
  have d1 : Coh (X.S.move core C1 zeroWay) F := coh_move c1 c6 hc t1 zero_ok (fun e => absurd rfl e) (fun L s b hh => by
      rcases (t2 L s b).1 hh with ⟨g, -⟩ | ⟨-, g, -⟩
      · exact ⟨s, g, Nat.le_refl _⟩
      · exact absurd rfl g) (fun L b hh => .inl ((t2 L 3 b).2 (.inl ⟨hh, .inl fun e => by
        subst e
        have := hown' _ _ hh
        omega⟩))) (fun e => by cases e)
  have e0 : keepM X.S.mem zeroWay = X.S.mem := rfl
  have d2 : Coh (X.S.setC core C1) F := d1.of rfl rfl
  have o2 : (X.S.setC core C1).Ok m := setC_ok c6 hx2 (Nat.le_refl _) hlg
  have ec : (X.S.setC core C1).C core = C1 := (setC_C hx2 _).trans (if_pos rfl)
  have eo : (X.S.setC core C1).C (1 - core) = X.S.C (1 - core) := (setC_C hx2 _).trans (if_neg (by omega))
  obtain ⟨f1, f2⟩ := coh_fill (mine := X.mine) d2 o2 hc hl (fun s b hh => by
      rw [ec] at hh
      rcases (t2 a s b).1 hh with ⟨g, g2⟩ | ⟨-, g, -⟩
      · rcases g2 with g2 | g2
        · exact g2 rfl
        · exact g.pos (by omega)
      · exact g rfl) (fun s b hh => by rw [eo] at hh; exact c3 s b hh) c4
  rw [ec] at f1 f2
  have es : seg (X.S.setC core C1).mem a = (X.S.mem.drop (a - 65536)).take 16 := rfl
  rw [es] at f1 f2
  have d3 : Coh (X.S.move core (C1.fillN a ((X.S.mem.drop (a - 65536)).take 16) X.mine) (C1.goneOf a)) F := f1.of (by
    show X.S.Cs.set core _ = (X.S.Cs.set core C1).set core _
    rw [List.set_set]) rfl
  refine ⟨d3, X.mine, c4, c5, ?_⟩
  have ef : (X.S.move core (C1.fillN a ((X.S.mem.drop (a - 65536)).take 16) X.mine) (C1.goneOf a)).C core = C1.fillN a ((X.S.mem.drop (a - 65536)).take 16) X.mine := (setC_C hx2 _).trans (if_pos rfl)
  rw [ef]
  have hlx : LineOk X.S.len a := by unfold PB.len; rw [c1.len]; exact hl
  have hfo : (C1.fillN a ((X.S.mem.drop (a - 65536)).take 16) X.mine).Ok :=
    (fillN_good hlg hm (by unfold LineOk at hl; omega) hlx (by have := c1.len; unfold LineOk at hl; simp; omega) (fun x hx => c6.byte x (List.mem_of_mem_drop (List.mem_of_mem_take hx))) (by omega)).ok
  have f3 : Has (C1.fillN a ((X.S.mem.drop (a - 65536)).take 16) X.mine) (a / 16 * 16) X.mine (seg F a) := by rw [low_of h16]; exact f2
  have htf := d3.tidy core hc
  rw [ef] at htf
  obtain ⟨j, -, e, -⟩ := has_look hfo htf f3
  exact e
end Go.Proofs.Ytbiogceijdcoiaa
