/- The plain law, part C: what one answers the other answers too. No program in sight. -/
import Derived.Test.YtbiogceijdcoiaaDoorCacheQ
namespace Go.Proofs.YtbiogceijdcoiaaDoor
open Go.RowKit Go.XHeap Go.Sx Go.Sep
set_option linter.unusedVariables false
variable {C : CS} {R : RC} {U : List Way}

theorem Rel.hit1 (h : Rel C R U) (ho : C.Ok) (a : Nat) (sz : Int) : (∃ j k y, C.hit a sz 1 = some j ∧ R.hit a sz = some k ∧ (C.set_ (C.ix a))[j]? = some y ∧ U[k]? = some y ∧ y.state ≠ 0 ∧ R.lineAt k = y.toR) ∨ (C.hit a sz 1 = none ∧ R.hit a sz = none) := by
  unfold CS.hit RC.hit
  by_cases hf : fitsAt a sz
  · rcases h.find ho a with ⟨j, k, y, h1, h2, h3, h4, h5, h6, -, h7⟩ | ⟨h1, h2⟩
    · refine .inl ⟨j, k, y, ?_, ?_, h2, h4, h6, h5⟩
      · rw [if_pos ⟨hf, by rw [h7]; omega⟩, h1]
      · rw [if_pos hf, h3]
    · refine .inr ⟨?_, by rw [if_pos hf, h2]⟩
      split
      · exact h1
      · rfl
  · exact .inr ⟨if_neg (fun e => hf e.1), if_neg hf⟩
theorem Rel.hit2 (h : Rel C R U) (ho : C.Ok) (a : Nat) (sz : Int) : (∃ j k y, C.hit a sz 2 = some j ∧ R.hitW a sz = some k ∧ (C.set_ (C.ix a))[j]? = some y ∧ U[k]? = some y ∧ y.state ≠ 0 ∧ R.lineAt k = y.toR) ∨ (C.hit a sz 2 = none ∧ R.hitW a sz = none) := by
  unfold CS.hit RC.hitW RC.hit
  by_cases hf : fitsAt a sz
  · rw [if_pos hf]
    rcases h.find ho a with ⟨j, k, y, h1, h2, h3, h4, h5, h6, -, h7⟩ | ⟨h1, h2⟩
    · rw [h7, h1, h3]
      by_cases h8 : 2 ≤ y.state
      · refine .inl ⟨j, k, y, by rw [if_pos ⟨hf, h8⟩], ?_, h2, h4, h6, h5⟩
        show ite _ _ _ = _
        rw [h5, if_neg (by show ¬ y.state < 2; omega)]
      · refine .inr ⟨by rw [if_neg (fun e => h8 e.2)], ?_⟩
        show ite _ _ _ = _
        rw [h5, if_pos (by show y.state < 2; omega)]
    · refine .inr ⟨?_, by rw [h2]⟩
      split
      · exact h1
      · rfl
  · exact .inr ⟨if_neg (fun e => hf e.1), by rw [if_neg hf]⟩
/-- the next one -/
def Next (C C' : CS) : Prop := C'.Ok ∧ C'.clock ≤ C.clock + 1
theorem Next.same (ho : C.Ok) : Next C C := ⟨ho, by omega⟩
theorem read_both (h : Rel C R U) (ho : C.Ok) (hc : C.clock + 1 < 4611686018427387904) {W w : World} {b a : Nat} {sz : Int} {e : Ending} (hp : ReadPost W b C a sz e w) :
    ∃ (v : Nat) (t : Bool) (C' : CS), e = .returned (.tuple #[.int .u32 v, .bool t]) ∧ Next C C' ∧ Sep.Post (cacheA b C) W (cacheA b C') w ∧
      ∀ {W2 b2 e2 w2}, RReadPost W2 b2 R a sz e2 w2 → e2 = .returned (.tuple #[.int .u32 v, .bool t]) ∧ ∃ R' U', Rel C' R' U' ∧ Sep.Post (refcA b2 R) W2 (refcA b2 R') w2 := by
  unfold ReadPost at hp
  unfold RReadPost
  rcases h.hit1 ho a sz with ⟨j, k, y, h1, h2, h3, h4, h5, h6⟩ | ⟨h1, h2⟩
  · rw [h1] at hp
    rw [h2]
    obtain ⟨rfl, hp⟩ := hp
    refine ⟨_, true, _, rfl, ⟨touched_ok ho hc (ho.ix_lt a), by rw [touched_eq h3]; exact Nat.le_refl _⟩, hp, ?_⟩
    rintro W2 b2 e2 w2 ⟨rfl, z, hq⟩
    refine ⟨?_, ?_⟩
    · rw [h6]
      unfold CS.val
      rw [List.getD_eq_getElem?_getD, h3]
      rfl
    · obtain ⟨U', hU⟩ := h.used ho h3 h4 y.state y.bytes h5 z.1 z.2
      rw [touched_eq h3]
      rw [h6] at hq
      exact ⟨_, U', hU, hq⟩
  · rw [h1] at hp
    rw [h2]
    obtain ⟨rfl, hp⟩ := hp
    refine ⟨0, false, C, rfl, Next.same ho, hp, ?_⟩
    rintro W2 b2 e2 w2 ⟨rfl, hq⟩
    exact ⟨rfl, R, U, h, hq⟩
theorem write_both (h : Rel C R U) (ho : C.Ok) (hc : C.clock + 1 < 4611686018427387904) {W w : World} {b a d : Nat} {sz : Int} {e : Ending} (hp : WritePost W b C a sz d e w) :
    ∃ (t : Bool) (C' : CS), e = .returned (.bool t) ∧ Next C C' ∧ Sep.Post (cacheA b C) W (cacheA b C') w ∧
      ∀ {W2 b2 e2 w2}, RWritePost W2 b2 R a sz d e2 w2 → e2 = .returned (.bool t) ∧ ∃ R' U', Rel C' R' U' ∧ Sep.Post (refcA b2 R) W2 (refcA b2 R') w2 := by
  unfold WritePost at hp
  unfold RWritePost
  rcases h.hit2 ho a sz with ⟨j, k, y, h1, h2, h3, h4, h5, h6⟩ | ⟨h1, h2⟩
  · rw [h1] at hp
    rw [h2]
    obtain ⟨rfl, hp⟩ := hp
    have hyo := ho.way _ (CS.set_mem ho (ho.ix_lt a)) y (List.mem_of_getElem? h3)
    have e : C.wrote a sz d j = C.tick.put (C.ix a) j { y with used := C.clock + 1, state := 3, bytes := wrN y.bytes (a % 16) d sz.toNat } := by unfold CS.wrote; rw [h3]
    refine ⟨true, _, rfl, ⟨?_, by rw [e]; exact Nat.le_refl _⟩, hp, ?_⟩
    · rw [e]
      exact put_ok (tick_ok ho hc) (ho.ix_lt a) ⟨hyo.line, by show 3 ≤ 3; decide, by show (wrN _ _ _ _).length = 16; rw [wrN_len]; exact hyo.len, wrN_byte hyo.byte _ _ _⟩
    rintro W2 b2 e2 w2 ⟨rfl, z, hq⟩
    refine ⟨rfl, ?_⟩
    obtain ⟨U', hU⟩ := h.used ho h3 h4 3 (wrN y.bytes (a % 16) d sz.toNat) (by decide) z.1 z.2
    rw [e]
    rw [h6] at hq
    exact ⟨_, U', hU, hq⟩
  · rw [h1] at hp
    rw [h2]
    obtain ⟨rfl, hp⟩ := hp
    refine ⟨false, C, rfl, Next.same ho, hp, ?_⟩
    rintro W2 b2 e2 w2 ⟨rfl, hq⟩
    exact ⟨rfl, R, U, h, hq⟩
/-- an error's number as a value -/
def errV (n : Nat) : Value := if n = 0 then .nilIface else errN n
theorem fill_both (h : Rel C R U) (ho : C.Ok) (hc : C.clock + 1 < 4611686018427387904) {W w : World} {b a : Nat} (ha : a < 4294967296) {bs : List Nat} (hb : bs.length = 16) (hb2 : ∀ x ∈ bs, x < 256) {s : Int} {e : Ending} (hp : FillPost W b C a bs s e w) :
    ∃ (ln st : Nat) (gb : List Nat) (en : Nat) (C' : CS), e = .returned (.tuple #[.agg (lineC ln st gb).toArray, .bool (decide (st ≠ 0)), errV en]) ∧ (ln < 4294967296 ∧ gb.length = 16) ∧ Next C C' ∧ Sep.Post (cacheA b C) W (cacheA b C') w ∧
      ∀ {W2 b2 e2 w2}, RFillPost W2 b2 R a bs s e2 w2 → e2 = .returned (.tuple #[.agg (RLine.mk ln st gb).cells.toArray, .int .i64 en]) ∧ ∃ R' U', Rel C' R' U' ∧ Sep.Post (refcA b2 R) W2 (refcA b2 R') w2 := by
  unfold FillPost at hp
  unfold RFillPost
  by_cases q : a % 16 ≠ 0 ∨ s < 1 ∨ s > 3
  · rw [if_pos q] at hp
    obtain ⟨rfl, hp⟩ := hp
    refine ⟨0, 0, zero16, 3, C, rfl, ⟨by decide, rfl⟩, Next.same ho, hp, ?_⟩
    intro W2 b2 e2 w2 hq
    rw [if_pos q] at hq
    obtain ⟨rfl, hq⟩ := hq
    exact ⟨rfl, R, U, h, hq⟩
  · rw [if_neg q] at hp
    rcases h.find ho a with ⟨j, k, y, h1, h2, h3, h4, h5, h6, -, h7⟩ | ⟨h1, h2⟩
    · rw [h1, if_pos (show (some j).isSome = true from rfl)] at hp
      obtain ⟨rfl, hp⟩ := hp
      refine ⟨0, 0, zero16, 7, C, rfl, ⟨by decide, rfl⟩, Next.same ho, hp, ?_⟩
      intro W2 b2 e2 w2 hq
      rw [if_neg q, h3, if_pos (show (some k).isSome = true from rfl)] at hq
      obtain ⟨rfl, hq⟩ := hq
      exact ⟨rfl, R, U, h, hq⟩
    · rw [h1, if_neg (by decide)] at hp
      obtain ⟨rfl, hp⟩ := hp
      have hvm : C.vway a ∈ C.set_ (C.ix a) := List.mem_of_getElem? (vway_at ho a)
      have hvo := ho.way _ (CS.set_mem ho (ho.ix_lt a)) _ hvm
      have ha16 : a % 16 = 0 := by omega
      have hs : s.toNat ≠ 0 := by omega
      have hnx : Next C (C.filled a bs s.toNat) := ⟨filled_ok ho hc ha (by omega) hb hb2, Nat.le_refl _⟩
      by_cases hst : (C.vway a).state ≠ 0
      · refine ⟨(C.vway a).line, (C.vway a).state, (C.vway a).bytes, 0, _, by rw [if_pos hst]; rfl, ⟨hvo.line, hvo.len⟩, hnx, hp, ?_⟩
        intro W2 b2 e2 w2 hq
        rw [if_neg q, h2, if_neg (by decide)] at hq
        obtain ⟨rfl, z, hq⟩ := hq
        obtain ⟨hg, U', hU⟩ := h.filled ho ha16 h2 s.toNat hs bs z.1 z.2
        rw [if_pos hst] at hg
        rw [hg]
        exact ⟨rfl, _, U', hU, hq⟩
      · have h0 : (C.vway a).state = 0 := by omega
        refine ⟨0, 0, zero16, 0, _, by rw [if_neg hst, h0]; rfl, ⟨by decide, rfl⟩, hnx, hp, ?_⟩
        intro W2 b2 e2 w2 hq
        rw [if_neg q, h2, if_neg (by decide)] at hq
        obtain ⟨rfl, z, hq⟩ := hq
        obtain ⟨hg, U', hU⟩ := h.filled ho ha16 h2 s.toNat hs bs z.1 z.2
        rw [if_neg hst] at hg
        rw [hg]
        exact ⟨rfl, _, U', hU, hq⟩
theorem lower_both (h : Rel C R U) (ho : C.Ok) {W w : World} {b a : Nat} {s : Int} {e : Ending} (hp : LowerPost W b C a s e w) :
    ∃ (ln st : Nat) (gb : List Nat) (en : Nat) (C' : CS), e = .returned (.tuple #[.agg (lineC ln st gb).toArray, errV en]) ∧ (ln < 4294967296 ∧ gb.length = 16) ∧ Next C C' ∧ Sep.Post (cacheA b C) W (cacheA b C') w ∧
      ∀ {W2 b2 e2 w2}, RLowerPost W2 b2 R a s e2 w2 → e2 = .returned (.tuple #[.agg (RLine.mk ln st gb).cells.toArray, .int .i64 en]) ∧ ∃ R' U', Rel C' R' U' ∧ Sep.Post (refcA b2 R) W2 (refcA b2 R') w2 := by
  unfold LowerPost at hp
  unfold RLowerPost
  by_cases q : a % 16 ≠ 0 ∨ s < 0 ∨ s > 2
  · rw [if_pos q] at hp
    obtain ⟨rfl, hp⟩ := hp
    refine ⟨0, 0, zero16, 3, C, rfl, ⟨by decide, rfl⟩, Next.same ho, hp, ?_⟩
    intro W2 b2 e2 w2 hq
    rw [if_pos q] at hq
    obtain ⟨rfl, hq⟩ := hq
    exact ⟨rfl, R, U, h, hq⟩
  · rw [if_neg q] at hp
    rcases h.find ho a with ⟨j, k, y, h1, h2, h3, h4, h5, h6, -, h7⟩ | ⟨h1, h2⟩
    · rw [h1] at hp
      dsimp only at hp
      by_cases q2 : (y.state : Int) ≤ s
      · rw [h7, if_pos q2] at hp
        obtain ⟨rfl, hp⟩ := hp
        refine ⟨0, 0, zero16, 7, C, rfl, ⟨by decide, rfl⟩, Next.same ho, hp, ?_⟩
        intro W2 b2 e2 w2 hq
        rw [if_neg q, h3] at hq
        dsimp only at hq
        rw [h5, if_pos (show ((y.toR.state : Nat) : Int) ≤ s from q2)] at hq
        obtain ⟨rfl, hq⟩ := hq
        exact ⟨rfl, R, U, h, hq⟩
      · rw [h7, if_neg q2] at hp
        obtain ⟨rfl, hp⟩ := hp
        have hyo := ho.way _ (CS.set_mem ho (ho.ix_lt a)) y (List.mem_of_getElem? h2)
        have ey : (C.set_ (C.ix a)).getD j default = y := by rw [List.getD_eq_getElem?_getD, h2]; rfl
        rw [ey]
        refine ⟨y.line, y.state, y.bytes, 0, _, rfl, ⟨hyo.line, hyo.len⟩, ⟨lowered_ok ho h2 (by omega), ?_⟩, hp, ?_⟩
        · show C.clock ≤ C.clock + 1
          omega
        · intro W2 b2 e2 w2 hq
          rw [if_neg q, h3] at hq
          dsimp only at hq
          rw [h5, if_neg (show ¬ ((y.toR.state : Nat) : Int) ≤ s from q2)] at hq
          obtain ⟨rfl, z, hq⟩ := hq
          obtain ⟨U', hU⟩ := h.lowered ho h2 h4 s.toNat z.1 z.2
          exact ⟨rfl, _, U', hU, hq⟩
    · rw [h1] at hp
      obtain ⟨rfl, hp⟩ := hp
      refine ⟨0, 0, zero16, 7, C, rfl, ⟨by decide, rfl⟩, Next.same ho, hp, ?_⟩
      intro W2 b2 e2 w2 hq
      rw [if_neg q, h2] at hq
      obtain ⟨rfl, hq⟩ := hq
      exact ⟨rfl, R, U, h, hq⟩
end Go.Proofs.YtbiogceijdcoiaaDoor
