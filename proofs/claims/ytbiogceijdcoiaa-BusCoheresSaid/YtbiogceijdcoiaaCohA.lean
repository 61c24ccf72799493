/- The plain law, part A: the lines that a cache holds, and what its functions make of them. No condition. -/
import Derived.Test.YtbiogceijdcoiaaCacheF
namespace Go.Proofs.Ytbiogceijdcoiaa
open Go.RowKit Go.XHeap Go.Sx Go.Sep
set_option linter.unusedVariables false
variable {C : CS} {len m : Nat}
/-- a way in use -/
def CS.used_ (C : CS) (i j : Nat) (y : Way) : Prop := i < C.S ∧ (C.set_ i)[j]? = some y ∧ y.state ≠ 0
structure CS.Tidy (C : CS) : Prop where
  place : ∀ i j y, C.used_ i j y → C.ix y.line = i ∧ y.line % 16 = 0
  uniq : ∀ i j j' y y', C.used_ i j y → C.used_ i j' y' → y.line = y'.line → j = j'
def Has (C : CS) (L st : Nat) (bs : List Nat) : Prop := ∃ i j y, C.used_ i j y ∧ y.line = L ∧ y.state = st ∧ y.bytes = bs
theorem Has.pos {L st : Nat} {bs : List Nat} (h : Has C L st bs) : st ≠ 0 := by
  obtain ⟨i, j, y, h1, -, rfl, -⟩ := h
  exact h1.2.2
theorem CS.Tidy.same (h : C.Tidy) {i j i' j' : Nat} {y y' : Way} (h1 : C.used_ i j y) (h2 : C.used_ i' j' y') (e : y.line = y'.line) : i = i' ∧ j = j' ∧ y = y' := by
  have p1 := (h.place _ _ _ h1).1
  have p2 := (h.place _ _ _ h2).1
  rw [e, p2] at p1
  subst p1
  have := h.uniq _ _ _ _ _ h1 h2 e
  subst this
  exact ⟨rfl, rfl, Option.some.inj (h1.2.1.symm.trans h2.2.1)⟩
theorem CS.Tidy.one (h : C.Tidy) {L s s' : Nat} {b b' : List Nat} (h1 : Has C L s b) (h2 : Has C L s' b') : s = s' ∧ b = b' := by
  obtain ⟨i, j, y, a1, a2, a3, a4⟩ := h1
  obtain ⟨i', j', y', b1, b2, b3, b4⟩ := h2
  obtain ⟨-, -, rfl⟩ := h.same a1 b1 (a2.trans b2.symm)
  exact ⟨a3.symm.trans b3, a4.symm.trans b4⟩
theorem put_set_ne {i i2 j : Nat} {y : Way} (h : i2 ≠ i) : (C.put i j y).set_ i2 = C.set_ i2 := by
  unfold CS.set_ CS.put
  dsimp only
  rw [List.getD_eq_getElem?_getD, List.getD_eq_getElem?_getD, List.getElem?_set_ne (fun e => h e.symm)]
theorem used_put (ho : C.Ok) {i j i2 j2 : Nat} {y' z : Way} (hi : i < C.S) : (C.put i j y').used_ i2 j2 z ↔ (i2 = i ∧ j2 = j ∧ z = y' ∧ y'.state ≠ 0 ∧ j < (C.set_ i).length) ∨ ((i2 ≠ i ∨ j2 ≠ j) ∧ C.used_ i2 j2 z) := by
  unfold CS.used_
  show i2 < C.S ∧ _ ↔ _
  by_cases e : i2 = i
  · subst e
    rw [put_set ho hi, List.getElem?_set]
    by_cases e2 : j = j2
    · subst e2
      rw [if_pos rfl]
      constructor
      · rintro ⟨h1, h2, h3⟩
        split at h2
        · cases h2; exact .inl ⟨rfl, rfl, rfl, h3, by assumption⟩
        · cases h2
      · rintro (⟨-, -, rfl, h1, h2⟩ | ⟨h | h, -⟩)
        · exact ⟨hi, by rw [if_pos h2], h1⟩
        · exact absurd rfl h
        · exact absurd rfl h
    · rw [if_neg e2]
      constructor
      · intro h; exact .inr ⟨.inr fun e => e2 e.symm, h⟩
      · rintro (⟨-, h, -⟩ | ⟨-, h⟩)
        · exact absurd h.symm e2
        · exact h
  · rw [put_set_ne e]
    constructor
    · intro h; exact .inr ⟨.inl e, h⟩
    · rintro (⟨h, -⟩ | ⟨-, h⟩)
      · exact absurd h e
      · exact h
theorem put_tidy (ho : C.Ok) (ht : C.Tidy) {i j : Nat} {y y' : Way} (hi : i < C.S) (hy : (C.set_ i)[j]? = some y) (hn : y'.state ≠ 0 → C.ix y'.line = i ∧ y'.line % 16 = 0 ∧ ∀ j2 z, C.used_ i j2 z → z.line = y'.line → j2 = j) :
    (C.put i j y').Tidy ∧ ∀ L st bs, Has (C.put i j y') L st bs ↔ (y'.state ≠ 0 ∧ y'.line = L ∧ y'.state = st ∧ y'.bytes = bs) ∨ (Has C L st bs ∧ ¬ (y.state ≠ 0 ∧ y.line = L)) := by
  have hj : j < (C.set_ i).length := (List.getElem?_eq_some_iff.1 hy).1
  have hix : ∀ a, (C.put i j y').ix a = C.ix a := fun a => rfl
  refine ⟨⟨fun i2 j2 z h => ?_, fun i2 j2 j3 z z' h h' e => ?_⟩, fun L st bs => ⟨?_, ?_⟩⟩
  · rcases (used_put ho hi).1 h with ⟨rfl, rfl, rfl, h1, -⟩ | ⟨-, h1⟩
    · exact ⟨(hn h1).1, (hn h1).2.1⟩
    · exact ht.place _ _ _ h1
  · rcases (used_put ho hi).1 h with ⟨rfl, rfl, rfl, h1, -⟩ | ⟨hne, h1⟩
    · rcases (used_put ho hi).1 h' with ⟨-, rfl, -⟩ | ⟨hne, h2⟩
      · rfl
      · exact ((hn h1).2.2 _ _ h2 e.symm).symm
    · rcases (used_put ho hi).1 h' with ⟨rfl, rfl, rfl, h2, -⟩ | ⟨hne', h2⟩
      · exact (hn h2).2.2 _ _ h1 e
      · exact ht.uniq _ _ _ _ _ h1 h2 e
  · rintro ⟨i2, j2, z, h, h1, h2, h3⟩
    rcases (used_put ho hi).1 h with ⟨rfl, rfl, rfl, h4, -⟩ | ⟨hne, h4⟩
    · exact .inl ⟨h4, h1, h2, h3⟩
    · refine .inr ⟨⟨i2, j2, z, h4, h1, h2, h3⟩, fun ⟨q1, q2⟩ => ?_⟩
      obtain ⟨e1, e2, -⟩ := ht.same h4 ⟨hi, hy, q1⟩ (h1.trans q2.symm)
      rcases hne with hne | hne
      · exact hne e1
      · exact hne e2
  · rintro (⟨h1, h2, h3, h4⟩ | ⟨⟨i2, j2, z, h1, h2, h3, h4⟩, h5⟩)
    · exact ⟨i, j, y', (used_put ho hi).2 (.inl ⟨rfl, rfl, rfl, h1, hj⟩), h2, h3, h4⟩
    · refine ⟨i2, j2, z, (used_put ho hi).2 (.inr ⟨?_, h1⟩), h2, h3, h4⟩
      by_cases e : i2 = i
      · subst e
        refine .inr fun e => h5 ?_
        subst e
        obtain rfl := Option.some.inj (h1.2.1.symm.trans hy)
        exact ⟨h1.2.2, h2⟩
      · exact .inl e
/-! ### look -/
theorem ix_low (a : Nat) : C.ix (a / 16 * 16) = C.ix a := by unfold CS.ix; rw [Nat.mul_div_cancel _ (by decide)]
theorem look_used (ho : C.Ok) {a j : Nat} (h : C.look a = some j) : C.used_ (C.ix a) j (C.wayOf a) ∧ (C.wayOf a).line = a / 16 * 16 ∧ C.stateAt a = (C.wayOf a).state := by
  obtain ⟨h1, h2, h3, h4⟩ := wayOf_at h
  exact ⟨⟨ho.ix_lt a, h1, h2⟩, h3, h4⟩
theorem look_has (ho : C.Ok) {a j : Nat} (h : C.look a = some j) : Has C (a / 16 * 16) (C.stateAt a) (C.wayOf a).bytes := by
  obtain ⟨h1, h2, h3⟩ := look_used ho h
  exact ⟨_, _, _, h1, h2, h3.symm, rfl⟩
theorem look_no (ho : C.Ok) (ht : C.Tidy) {a : Nat} (h : C.look a = none) (st : Nat) (bs : List Nat) : ¬ Has C (a / 16 * 16) st bs := by
  rintro ⟨i, j, y, h1, h2, h3, h4⟩
  have hp := (ht.place _ _ _ h1).1
  rw [h2, ix_low] at hp
  subst hp
  unfold CS.look at h
  rw [List.findIdx?_eq_none_iff] at h
  have := h y (List.mem_of_getElem? h1.2.1)
  unfold isThere at this
  have h5 := h1.2.2
  simp [h2, h5] at this
theorem has_look (ho : C.Ok) (ht : C.Tidy) {a st : Nat} {bs : List Nat} (h : Has C (a / 16 * 16) st bs) : ∃ j, C.look a = some j ∧ C.stateAt a = st ∧ (C.wayOf a).bytes = bs := by
  cases hl : C.look a with
  | none => exact absurd h (look_no ho ht hl st bs)
  | some j =>
    obtain ⟨e1, e2⟩ := ht.one h (look_has ho hl)
    exact ⟨j, rfl, e1.symm, e2.symm⟩
theorem state_has (ho : C.Ok) {a : Nat} (h : C.stateAt a ≠ 0) : ∃ bs, Has C (a / 16 * 16) (C.stateAt a) bs := by
  cases hl : C.look a with
  | none => exact absurd (wayOf_none hl) h
  | some j => exact ⟨_, look_has ho hl⟩
theorem low_of {a : Nat} (h : a % 16 = 0) : a / 16 * 16 = a := by omega
/-! ### Read, Write -/
theorem used_tidy (ho : C.Ok) (ht : C.Tidy) {i j u : Nat} {y : Way} (hi : i < C.S) (hy : (C.set_ i)[j]? = some y) (st : Nat) (hs : st ≠ 0) (h0 : y.state ≠ 0) (bs : List Nat) :
    (C.tick.put i j ⟨y.line, st, u, bs⟩).Tidy ∧ ∀ L s b, Has (C.tick.put i j ⟨y.line, st, u, bs⟩) L s b ↔ (L = y.line ∧ s = st ∧ b = bs) ∨ (Has C L s b ∧ L ≠ y.line) := by
  have hu : C.used_ i j y := ⟨hi, hy, h0⟩
  have ho' : C.put i j y = C.put i j y := rfl
  have key := put_tidy (C := C) (y' := ⟨y.line, st, u, bs⟩) ho ht hi hy (fun _ => ⟨(ht.place _ _ _ hu).1, (ht.place _ _ _ hu).2, fun j2 z hz e => ht.uniq _ _ _ _ _ hz hu e⟩)
  have e1 : ∀ L s b, Has (C.tick.put i j ⟨y.line, st, u, bs⟩) L s b ↔ Has (C.put i j ⟨y.line, st, u, bs⟩) L s b := fun _ _ _ => Iff.rfl
  refine ⟨⟨key.1.place, key.1.uniq⟩, fun L s b => ?_⟩
  rw [e1, key.2]
  constructor
  · rintro (⟨-, h1, h2, h3⟩ | ⟨h1, h2⟩)
    · exact .inl ⟨h1.symm, h2.symm, h3.symm⟩
    · exact .inr ⟨h1, fun e => h2 ⟨h0, e.symm⟩⟩
  · rintro (⟨rfl, rfl, rfl⟩ | ⟨h1, h2⟩)
    · exact .inl ⟨hs, rfl, rfl, rfl⟩
    · exact .inr ⟨h1, fun e => h2 e.2.symm⟩
theorem readN_has (ho : C.Ok) (ht : C.Tidy) (a : Nat) (sz : Int) : (C.readN a sz).Tidy ∧ ∀ L st bs, Has (C.readN a sz) L st bs ↔ Has C L st bs := by
  unfold CS.readN
  cases hh : C.hit a sz 1 with
  | none => exact ⟨ht, fun _ _ _ => Iff.rfl⟩
  | some j =>
    obtain ⟨h1, h2, h3⟩ := look_used ho (hit_look hh)
    show (C.touched (C.ix a) j).Tidy ∧ ∀ L st bs, Has (C.touched (C.ix a) j) L st bs ↔ Has C L st bs
    rw [touched_eq h1.2.1]
    have key := used_tidy (u := C.clock + 1) ho ht h1.1 h1.2.1 (C.wayOf a).state h1.2.2 h1.2.2 (C.wayOf a).bytes
    refine ⟨key.1, fun L st bs => (key.2 L st bs).trans ⟨?_, fun h => ?_⟩⟩
    · rintro (⟨rfl, rfl, rfl⟩ | ⟨h, -⟩)
      · exact ⟨_, _, _, h1, rfl, rfl, rfl⟩
      · exact h
    · by_cases e : L = (C.wayOf a).line
      · subst e
        obtain ⟨rfl, rfl⟩ := ht.one h ⟨_, _, _, h1, rfl, rfl, rfl⟩
        exact .inl ⟨rfl, rfl, rfl⟩
      · exact .inr ⟨h, e⟩
theorem hit_of {a : Nat} {sz : Int} {l j : Nat} (hf : fitsAt a sz) (hl : l ≤ C.stateAt a) (hj : C.look a = some j) : C.hit a sz l = some j := by unfold CS.hit; rw [if_pos ⟨hf, hl⟩, hj]
theorem read_has (ho : C.Ok) (ht : C.Tidy) {a st : Nat} {sz : Int} {bs : List Nat} (h : Has C (a / 16 * 16) st bs) (hf : fitsAt a sz) : C.readT a sz = true ∧ C.readV a sz = le ((bs.drop (a % 16)).take sz.toNat) := by
  obtain ⟨j, h1, h2, h3⟩ := has_look ho ht h
  have h0 := h.pos
  have hh : C.hit a sz 1 = some j := hit_of hf (by omega) h1
  unfold CS.readT CS.readV
  rw [hh]
  refine ⟨rfl, ?_⟩
  show C.val a sz j = _
  unfold CS.val Way.part
  rw [← h3]
  unfold CS.wayOf
  rw [h1]
theorem writeN_has (ho : C.Ok) (ht : C.Tidy) {a s0 d : Nat} {sz : Int} {b0 : List Nat} (h : Has C (a / 16 * 16) s0 b0) (h2 : 2 ≤ s0) (hf : fitsAt a sz) :
    (C.writeN a sz d).Tidy ∧ C.writeT a sz = true ∧ ∀ L st bs, Has (C.writeN a sz d) L st bs ↔ (L = a / 16 * 16 ∧ st = 3 ∧ bs = wrN b0 (a % 16) d sz.toNat) ∨ (Has C L st bs ∧ L ≠ a / 16 * 16) := by
  obtain ⟨j, g1, g2, g3⟩ := has_look ho ht h
  have hh : C.hit a sz 2 = some j := hit_of hf (by omega) g1
  obtain ⟨h1, hl, -⟩ := look_used ho g1
  unfold CS.writeN CS.writeT
  rw [hh]
  show (C.wrote a sz d j).Tidy ∧ (some j).isSome = true ∧ ∀ L st bs, Has (C.wrote a sz d j) L st bs ↔ (L = a / 16 * 16 ∧ st = 3 ∧ bs = wrN b0 (a % 16) d sz.toNat) ∨ (Has C L st bs ∧ L ≠ a / 16 * 16)
  rw [wrote_eq h1.2.1]
  have key := used_tidy (u := C.clock + 1) ho ht h1.1 h1.2.1 3 (by decide) h1.2.2 (wrN (C.wayOf a).bytes (a % 16) d sz.toNat)
  rw [hl] at key
  rw [← g3]
  refine ⟨?_, rfl, fun L st bs => ?_⟩
  · have := key.1
    rw [← hl] at this
    exact this
  · have := key.2 L st bs
    rw [← hl] at this ⊢
    exact this
/-! ### Lower, Fill -/
theorem lowN_has (ho : C.Ok) (ht : C.Tidy) {a : Nat} (h16 : a % 16 = 0) (s : Nat) :
    (C.lowN a s).Tidy ∧ ∀ L st bs, Has (C.lowN a s) L st bs ↔ (Has C L st bs ∧ (L ≠ a ∨ st ≤ s)) ∨ (L = a ∧ s ≠ 0 ∧ st = s ∧ s < C.stateAt a ∧ Has C a (C.stateAt a) bs) := by
  unfold CS.lowN
  cases hl : C.look a with
  | none =>
    have hno := look_no ho ht hl
    rw [low_of h16] at hno
    refine ⟨ht, fun L st bs => ⟨fun h => .inl ⟨h, .inl fun e => hno st bs (e ▸ h)⟩, ?_⟩⟩
    rintro (⟨h, -⟩ | ⟨-, -, -, -, h⟩)
    · exact h
    · exact absurd h (hno _ _)
  | some j =>
    obtain ⟨h1, h2, h3⟩ := look_used ho hl
    have hh := look_has ho hl
    rw [low_of h16] at h2 hh
    dsimp only
    split
    · rename_i q
      have ey : (C.set_ (C.ix a)).getD j default = C.wayOf a := by rw [List.getD_eq_getElem?_getD, h1.2.1]; rfl
      unfold CS.lowered
      rw [ey]
      by_cases hs : s = 0
      · rw [if_pos hs]
        have key := put_tidy (y' := zeroWay) ho ht h1.1 h1.2.1 (fun e => absurd rfl e)
        refine ⟨key.1, fun L st bs => (key.2 L st bs).trans ⟨?_, ?_⟩⟩
        · rintro (⟨h, -⟩ | ⟨h, h4⟩)
          · exact absurd rfl h
          · exact .inl ⟨h, .inl fun e => h4 ⟨h1.2.2, h2.trans e.symm⟩⟩
        · rintro (⟨h, h4⟩ | ⟨-, h, -⟩)
          · refine .inr ⟨h, fun ⟨_, e⟩ => ?_⟩
            rw [h2] at e
            rcases h4 with h4 | h4
            · exact h4 e.symm
            · exact h.pos (by omega)
          · exact absurd hs h
      · rw [if_neg hs]
        have key := put_tidy (y' := { C.wayOf a with state := s }) ho ht h1.1 h1.2.1 (fun _ => ⟨(ht.place _ _ _ h1).1, (ht.place _ _ _ h1).2, fun j2 z hz e => ht.uniq _ _ _ _ _ hz h1 e⟩)
        refine ⟨key.1, fun L st bs => (key.2 L st bs).trans ⟨?_, ?_⟩⟩
        · rintro (⟨-, h4, h5, h6⟩ | ⟨h, h4⟩)
          · have h4 : (C.wayOf a).line = L := h4
            have h5 : s = st := h5
            have h6 : (C.wayOf a).bytes = bs := h6
            refine .inr ⟨by rw [← h4, h2], hs, h5.symm, q, ?_⟩
            rw [← h6]; exact hh
          · exact .inl ⟨h, .inl fun e => h4 ⟨h1.2.2, h2.trans e.symm⟩⟩
        · rintro (⟨h, h4⟩ | ⟨rfl, -, rfl, -, h⟩)
          · by_cases e : L = a
            · subst e
              obtain ⟨e1, -⟩ := ht.one h hh
              rcases h4 with h4 | h4
              · exact absurd rfl h4
              · omega
            · exact .inr ⟨h, fun ⟨_, e2⟩ => e (e2.symm.trans h2)⟩
          · exact .inl ⟨hs, h2, rfl, (ht.one hh h).2⟩
    · rename_i q
      refine ⟨ht, fun L st bs => ⟨fun h => .inl ⟨h, ?_⟩, ?_⟩⟩
      · by_cases e : L = a
        · subst e
          have := (ht.one h hh).1
          exact .inr (by omega)
        · exact .inl e
      · rintro (⟨h, -⟩ | ⟨-, -, -, h, -⟩)
        · exact h
        · exact absurd h q
theorem lowY_has (ho : C.Ok) {a : Nat} (h16 : a % 16 = 0) (s : Nat) : (C.lowY a s).state = 0 ∨ (s < C.stateAt a ∧ (C.lowY a s).line = a ∧ (C.lowY a s).state = C.stateAt a ∧ Has C a (C.stateAt a) (C.lowY a s).bytes) := by
  unfold CS.lowY
  split
  · rename_i q
    cases hl : C.look a with
    | none => rw [wayOf_none hl] at q; omega
    | some j =>
      obtain ⟨h1, h2, h3⟩ := look_used ho hl
      have hh := look_has ho hl
      rw [low_of h16] at h2 hh
      exact .inr ⟨q, h2, h3.symm, hh⟩
  · exact .inl rfl
theorem fillN_has (ho : C.Ok) (ht : C.Tidy) {a : Nat} (h16 : a % 16 = 0) (hno : ∀ st bs, ¬ Has C a st bs) {s : Nat} (hs : s ≠ 0) (b : List Nat) :
    (C.fillN a b s).Tidy ∧ ((C.goneOf a).state ≠ 0 → (C.goneOf a).line ≠ a ∧ Has C (C.goneOf a).line (C.goneOf a).state (C.goneOf a).bytes) ∧
    ∀ L st bs, Has (C.fillN a b s) L st bs ↔ (L = a ∧ st = s ∧ bs = b) ∨ (Has C L st bs ∧ ¬ ((C.goneOf a).state ≠ 0 ∧ (C.goneOf a).line = L)) := by
  have hl : C.look a = none := by
    cases hl : C.look a with
    | none => rfl
    | some j =>
      have := look_has ho hl
      rw [low_of h16] at this
      exact absurd this (hno _ _)
  have hi := ho.ix_lt a
  have hv := vway_at ho a
  have hg : C.goneOf a = if (C.vway a).state ≠ 0 then C.vway a else zeroWay := by
    unfold CS.goneOf
    rw [hl]
    rfl
  have hf : C.fillN a b s = C.tick.put (C.ix a) (C.vict a) ⟨a, s, C.clock + 1, b⟩ := by
    unfold CS.fillN
    rw [hl]
    rfl
  have key := put_tidy (y' := ⟨a, s, C.clock + 1, b⟩) ho ht hi hv (fun _ => ⟨rfl, h16, fun j2 z hz e => absurd ⟨_, _, z, hz, e, rfl, rfl⟩ (hno z.state z.bytes)⟩)
  rw [hf]
  refine ⟨⟨key.1.place, key.1.uniq⟩, ?_, fun L st bs => (show Has (C.tick.put (C.ix a) (C.vict a) ⟨a, s, C.clock + 1, b⟩) L st bs ↔ Has (C.put (C.ix a) (C.vict a) ⟨a, s, C.clock + 1, b⟩) L st bs from Iff.rfl).trans ((key.2 L st bs).trans ⟨?_, ?_⟩)⟩
  · rw [hg]
    split
    · rename_i q
      intro _
      have hh : Has C (C.vway a).line (C.vway a).state (C.vway a).bytes := ⟨_, _, _, ⟨hi, hv, q⟩, rfl, rfl, rfl⟩
      exact ⟨fun e => hno _ _ (e ▸ hh), hh⟩
    · intro e; exact absurd rfl e
  · rw [hg]
    rintro (⟨-, h1, h2, h3⟩ | ⟨h1, h2⟩)
    · exact .inl ⟨h1.symm, h2.symm, h3.symm⟩
    · refine .inr ⟨h1, ?_⟩
      split
      · exact h2
      · intro e; exact absurd rfl e.1
  · rw [hg]
    rintro (⟨h1, h2, h3⟩ | ⟨h1, h2⟩)
    · exact .inl ⟨hs, h1.symm, h2.symm, h3.symm⟩
    · refine .inr ⟨h1, fun e => ?_⟩
      rw [if_pos e.1] at h2
      exact h2 e
theorem fresh_tidy (h : ∀ s ∈ C.sets, ∀ y ∈ s, y.state = 0) : C.Tidy ∧ ∀ L st bs, ¬ Has C L st bs := by
  have no : ∀ i j y, ¬ C.used_ i j y := by
    rintro i j y ⟨h1, h2, h3⟩
    unfold CS.set_ at h2
    rw [List.getD_eq_getElem?_getD] at h2
    cases hs : C.sets[i]? with
    | none => rw [hs] at h2; simp at h2
    | some s =>
      rw [hs] at h2
      exact h3 (h s (List.mem_of_getElem? hs) y (List.mem_of_getElem? h2))
  exact ⟨⟨fun i j y e => absurd e (no _ _ _), fun i j j' y y' e => absurd e (no _ _ _)⟩, fun L st bs ⟨i, j, y, e, _⟩ => no _ _ _ e⟩
end Go.Proofs.Ytbiogceijdcoiaa
