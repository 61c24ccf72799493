/- The caches' functions, each as a plain function of the program's state: of both the program's and the document's. No condition. -/
import Derived.Test.YtbiogceijdcoiaaDoorCacheB2
namespace Go.Proofs.YtbiogceijdcoiaaDoor
open Go.RowKit Go.XHeap Go.Sx Go.Sep
set_option linter.unusedVariables false
/-- a line of so many bytes of data -/
def LineOk (len L : Nat) : Prop := L % 16 = 0 ∧ 65536 ≤ L ∧ L + 16 ≤ 65536 + len
structure CS.Good (C : CS) (len m : Nat) : Prop where
  ok : C.Ok
  clk : C.clock ≤ m
  line : ∀ s ∈ C.sets, ∀ y ∈ s, y.state ≠ 0 → LineOk len y.line
theorem CS.Good.mono {C : CS} {len m m' : Nat} (h : C.Good len m) (hm : m ≤ m') : C.Good len m' := ⟨h.ok, Nat.le_trans h.clk hm, h.line⟩
theorem put_good {C : CS} {len m i j : Nat} {y : Way} (h : C.Good len m) (hi : i < C.S) (hy : y.Ok) (hl : y.state ≠ 0 → LineOk len y.line) : (C.put i j y).Good len m := by
  refine ⟨put_ok h.ok hi hy, h.clk, fun s hs z hz => ?_⟩
  have hm : s ∈ C.sets ∨ s = (C.set_ i).set j y := List.mem_or_eq_of_mem_set hs
  rcases hm with hm | rfl
  · exact h.line s hm z hz
  · rcases List.mem_or_eq_of_mem_set hz with hz | rfl
    · exact h.line _ (CS.set_mem h.ok hi) z hz
    · exact hl
theorem tick_good {C : CS} {len m : Nat} (h : C.Good len m) (hm : m + 1 < 4611686018427387904) : C.tick.Good len (m + 1) := ⟨tick_ok h.ok (by have := h.clk; omega), by show C.clock + 1 ≤ m + 1; have := h.clk; omega, h.line⟩
variable {C : CS} {R : RC} {U : List Way} {W : World} {b b2 len m : Nat}
/-! ### the way that is found -/
def CS.wayOf (C : CS) (a : Nat) : Way := match C.look a with | some j => (C.set_ (C.ix a)).getD j default | none => zeroWay
theorem wayOf_at {a j : Nat} (h : C.look a = some j) : (C.set_ (C.ix a))[j]? = some (C.wayOf a) ∧ (C.wayOf a).state ≠ 0 ∧ (C.wayOf a).line = a / 16 * 16 ∧ C.stateAt a = (C.wayOf a).state := by
  obtain ⟨y, h1, h2, h3⟩ := look_some h
  have e : C.wayOf a = y := by unfold CS.wayOf; rw [h]; show (C.set_ (C.ix a)).getD j default = y; rw [List.getD_eq_getElem?_getD, h1]; rfl
  have e2 : C.stateAt a = y.state := by
    unfold CS.stateAt; rw [h]; simp only [List.getD_eq_getElem?_getD, h1]; rfl
  rw [e]; exact ⟨h1, h2, h3, e2⟩
theorem wayOf_none {a : Nat} (h : C.look a = none) : C.stateAt a = 0 := by unfold CS.stateAt; rw [h]
theorem wayOf_ok (h : C.Good len m) {a j : Nat} (hj : C.look a = some j) : (C.wayOf a).Ok ∧ LineOk len (C.wayOf a).line := by
  obtain ⟨h1, h2, -⟩ := wayOf_at hj
  have hm := CS.set_mem h.ok (h.ok.ix_lt a)
  exact ⟨h.ok.way _ hm _ (List.mem_of_getElem? h1), h.line _ hm _ (List.mem_of_getElem? h1) h2⟩
theorem state_le (h : C.Ok) (a : Nat) : C.stateAt a ≤ 3 := by
  cases hl : C.look a with
  | none => rw [wayOf_none hl]; omega
  | some j =>
    obtain ⟨h1, h2, -, h4⟩ := wayOf_at hl
    rw [h4]
    exact (h.way _ (CS.set_mem h (h.ix_lt a)) _ (List.mem_of_getElem? h1)).state
/-! ### Read -/
def CS.readN (C : CS) (a : Nat) (sz : Int) : CS := match C.hit a sz 1 with | some j => C.touched (C.ix a) j | none => C
def CS.readV (C : CS) (a : Nat) (sz : Int) : Nat := match C.hit a sz 1 with | some j => C.val a sz j | none => 0
def CS.readT (C : CS) (a : Nat) (sz : Int) : Bool := (C.hit a sz 1).isSome
theorem hit_look {a : Nat} {sz : Int} {l j : Nat} (h : C.hit a sz l = some j) : C.look a = some j := by
  unfold CS.hit at h
  split at h
  · exact h
  · cases h
theorem read_f (h : C.Good len m) (hm : m + 1 < 4611686018427387904) (hA : (cacheA b C).at_ W) (a : Nat) (ha : a < 4294967296) (sz : Int) :
    Calls Tryd.prog 30 #[.pointer (some ⟨b, 0, none⟩), .int .u32 a, .int .i64 sz] W fun e w => e = .returned (.tuple #[.int .u32 (C.readV a sz), .bool (C.readT a sz)]) ∧ Sep.Post (cacheA b C) W (cacheA b (C.readN a sz)) w := by
  refine (read_any h.ok (by have := h.clk; omega) hA a ha sz).mono fun e w hp => ?_
  unfold ReadPost at hp
  unfold CS.readV CS.readT CS.readN
  cases hh : C.hit a sz 1 with
  | none => rw [hh] at hp; exact hp
  | some j => rw [hh] at hp; exact hp
theorem readN_good (h : C.Good len m) (hm : m + 1 < 4611686018427387904) (a : Nat) (sz : Int) : (C.readN a sz).Good len (m + 1) := by
  unfold CS.readN
  cases hh : C.hit a sz 1 with
  | none => exact h.mono (by omega)
  | some j =>
    obtain ⟨h1, h2, -, -⟩ := wayOf_at (hit_look hh)
    obtain ⟨g1, g2⟩ := wayOf_ok h (hit_look hh)
    show (C.touched (C.ix a) j).Good len (m + 1)
    rw [touched_eq h1]
    exact put_good (tick_good h hm) (h.ok.ix_lt a) ⟨g1.line, g1.state, g1.len, g1.byte⟩ (fun _ => g2)
theorem rread_f (h : Rel C R U) (ho : C.Ok) (hA : (refcA b2 R).at_ W) (a : Nat) (ha : a < 4294967296) (sz : Int) :
    Calls Tryd.prog 31 #[.pointer (some ⟨b2, 0, none⟩), .int .i64 a, .int .i64 sz] W fun e w => e = .returned (.tuple #[.int .u32 (C.readV a sz), .bool (C.readT a sz)]) ∧ ∃ R' U', Rel (C.readN a sz) R' U' ∧ Sep.Post (refcA b2 R) W (refcA b2 R') w := by
  refine (rread_any (h.ok ho) hA a ha sz).mono fun e w hq => ?_
  unfold RReadPost at hq
  unfold CS.readV CS.readT CS.readN
  rcases h.hit1 ho a sz with ⟨j, k, y, h1, h2, h3, h4, h5, h6⟩ | ⟨h1, h2⟩
  · rw [h2] at hq
    rw [h1]
    obtain ⟨rfl, z, hq⟩ := hq
    obtain ⟨U', hU⟩ := h.used ho h3 h4 y.state y.bytes h5 z.1 z.2
    rw [h6] at hq ⊢
    refine ⟨?_, _, U', ?_, hq⟩
    · have : C.val a sz j = y.toR.val a sz := by
        unfold CS.val RLine.val Way.part
        rw [List.getD_eq_getElem?_getD, h3]
        rfl
      show _ = Ending.returned (.tuple #[.int .u32 (C.val a sz j : Nat), .bool true])
      rw [this]
    · show Rel (C.touched (C.ix a) j) _ _
      rw [touched_eq h3]; exact hU
  · rw [h2] at hq
    rw [h1]
    obtain ⟨rfl, hq⟩ := hq
    exact ⟨rfl, R, U, h, hq⟩
/-! ### Write -/
def CS.writeN (C : CS) (a : Nat) (sz : Int) (d : Nat) : CS := match C.hit a sz 2 with | some j => C.wrote a sz d j | none => C
def CS.writeT (C : CS) (a : Nat) (sz : Int) : Bool := (C.hit a sz 2).isSome
theorem write_f (h : C.Good len m) (hm : m + 1 < 4611686018427387904) (hA : (cacheA b C).at_ W) (a : Nat) (ha : a < 4294967296) (sz : Int) (d : Nat) (hd : d < 4294967296) :
    Calls Tryd.prog 32 #[.pointer (some ⟨b, 0, none⟩), .int .u32 a, .int .i64 sz, .int .u32 d] W fun e w => e = .returned (.bool (C.writeT a sz)) ∧ Sep.Post (cacheA b C) W (cacheA b (C.writeN a sz d)) w := by
  refine (write_any h.ok (by have := h.clk; omega) hA a ha sz d hd).mono fun e w hp => ?_
  unfold WritePost at hp
  unfold CS.writeT CS.writeN
  cases hh : C.hit a sz 2 with
  | none => rw [hh] at hp; exact hp
  | some j => rw [hh] at hp; exact hp
theorem wrote_eq {a j d : Nat} {sz : Int} {y : Way} (h : (C.set_ (C.ix a))[j]? = some y) : C.wrote a sz d j = C.tick.put (C.ix a) j { y with used := C.clock + 1, state := 3, bytes := wrN y.bytes (a % 16) d sz.toNat } := by unfold CS.wrote; rw [h]
theorem writeN_good (h : C.Good len m) (hm : m + 1 < 4611686018427387904) (a : Nat) (sz : Int) (d : Nat) : (C.writeN a sz d).Good len (m + 1) := by
  unfold CS.writeN
  cases hh : C.hit a sz 2 with
  | none => exact h.mono (by omega)
  | some j =>
    obtain ⟨h1, h2, -, -⟩ := wayOf_at (hit_look hh)
    obtain ⟨g1, g2⟩ := wayOf_ok h (hit_look hh)
    show (C.wrote a sz d j).Good len (m + 1)
    rw [wrote_eq h1]
    exact put_good (tick_good h hm) (h.ok.ix_lt a) ⟨g1.line, by show 3 ≤ 3; decide, by show (wrN _ _ _ _).length = 16; rw [wrN_len]; exact g1.len, wrN_byte g1.byte _ _ _⟩ (fun _ => g2)
theorem rwrite_f (h : Rel C R U) (ho : C.Ok) (hA : (refcA b2 R).at_ W) (a : Nat) (ha : a < 4294967296) (sz : Int) (d : Nat) (hd : d < 4294967296) :
    Calls Tryd.prog 33 #[.pointer (some ⟨b2, 0, none⟩), .int .i64 a, .int .i64 sz, .int .u32 d] W fun e w => e = .returned (.bool (C.writeT a sz)) ∧ ∃ R' U', Rel (C.writeN a sz d) R' U' ∧ Sep.Post (refcA b2 R) W (refcA b2 R') w := by
  refine (rwrite_any (h.ok ho) hA a ha sz d hd).mono fun e w hq => ?_
  unfold RWritePost at hq
  unfold CS.writeT CS.writeN
  rcases h.hit2 ho a sz with ⟨j, k, y, h1, h2, h3, h4, h5, h6⟩ | ⟨h1, h2⟩
  · rw [h2] at hq
    rw [h1]
    obtain ⟨rfl, z, hq⟩ := hq
    obtain ⟨U', hU⟩ := h.used ho h3 h4 3 (wrN y.bytes (a % 16) d sz.toNat) (by decide) z.1 z.2
    rw [h6] at hq
    refine ⟨rfl, _, U', ?_, hq⟩
    show Rel (C.wrote a sz d j) _ _
    rw [wrote_eq h3]; exact hU
  · rw [h2] at hq
    rw [h1]
    obtain ⟨rfl, hq⟩ := hq
    exact ⟨rfl, R, U, h, hq⟩
/-! ### Lower -/
def CS.lowN (C : CS) (a s : Nat) : CS := match C.look a with | some j => if s < C.stateAt a then C.lowered a j s else C | none => C
def CS.lowY (C : CS) (a s : Nat) : Way := if s < C.stateAt a then C.wayOf a else zeroWay
def CS.lowE (C : CS) (a s : Nat) : Nat := if s < C.stateAt a then 0 else 7
theorem lower_f (h : C.Good len m) (hA : (cacheA b C).at_ W) (a : Nat) (ha : a < 4294967296) (h16 : a % 16 = 0) (s : Nat) (hs : s ≤ 2) :
    Calls Tryd.prog 42 #[.pointer (some ⟨b, 0, none⟩), .int .u32 a, .int .i64 s] W fun e w => e = .returned (.tuple #[.agg (C.lowY a s).lineC.toArray, errV (C.lowE a s)]) ∧ Sep.Post (cacheA b C) W (cacheA b (C.lowN a s)) w := by
  refine (lower_any h.ok hA a ha s).mono fun e w hp => ?_
  unfold LowerPost at hp
  rw [if_neg (by omega)] at hp
  unfold CS.lowN CS.lowY CS.lowE
  cases hl : C.look a with
  | none =>
    rw [hl] at hp
    rw [wayOf_none hl, if_neg (by omega), if_neg (by omega)]
    exact hp
  | some j =>
    rw [hl] at hp
    dsimp only at hp ⊢
    by_cases q : s < C.stateAt a
    · rw [if_neg (by omega)] at hp
      rw [if_pos q, if_pos q, if_pos q]
      unfold CS.wayOf
      rw [hl]
      exact hp
    · rw [if_pos (by omega)] at hp
      rw [if_neg q, if_neg q, if_neg q]
      exact hp
theorem lowN_good (h : C.Good len m) (a s : Nat) (hs : s ≤ 2) : (C.lowN a s).Good len m := by
  unfold CS.lowN
  cases hl : C.look a with
  | none => exact h
  | some j =>
    dsimp only
    split
    · obtain ⟨h1, h2, -, -⟩ := wayOf_at hl
      obtain ⟨g1, g2⟩ := wayOf_ok h hl
      have ey : (C.set_ (C.ix a)).getD j default = C.wayOf a := by rw [List.getD_eq_getElem?_getD, h1]; rfl
      unfold CS.lowered
      rw [ey]
      refine put_good h (h.ok.ix_lt a) ?_ ?_
      · split
        · exact zero_ok
        · exact ⟨g1.line, by show s ≤ 3; omega, g1.len, g1.byte⟩
      · split
        · intro e; exact absurd rfl e
        · exact fun _ => g2
    · exact h
theorem Rel.state (h : Rel C R U) (ho : C.Ok) (a : Nat) : C.stateAt a = R.stateAt a := by
  unfold RC.stateAt
  rcases h.find ho a with ⟨j, k, y, h1, h2, h3, h4, h5, h6, -, h7⟩ | ⟨h1, h2⟩
  · rw [h3, h7]
    show _ = (R.lineAt k).state
    rw [h5]; rfl
  · rw [h2]
    unfold CS.stateAt
    rw [h1]
theorem rlower_f (h : Rel C R U) (ho : C.Ok) (hA : (refcA b2 R).at_ W) (a : Nat) (ha : a < 4294967296) (h16 : a % 16 = 0) (s : Nat) (hs : s ≤ 2) :
    Calls Tryd.prog 45 #[.pointer (some ⟨b2, 0, none⟩), .int .i64 a, .int .i64 s] W fun e w => e = .returned (.tuple #[.agg (C.lowY a s).toR.cells.toArray, .int .i64 (C.lowE a s)]) ∧ ∃ R' U', Rel (C.lowN a s) R' U' ∧ Sep.Post (refcA b2 R) W (refcA b2 R') w := by
  refine (rlower_any (h.ok ho) hA a ha s).mono fun e w hq => ?_
  unfold RLowerPost at hq
  rw [if_neg (by omega)] at hq
  unfold CS.lowN CS.lowY CS.lowE
  rcases h.find ho a with ⟨j, k, y, h1, h2, h3, h4, h5, h6, -, h7⟩ | ⟨h1, h2⟩
  · rw [h3] at hq
    have ew : C.wayOf a = y := by unfold CS.wayOf; rw [h1]; show (C.set_ (C.ix a)).getD j default = y; rw [List.getD_eq_getElem?_getD, h2]; rfl
    rw [h1]
    dsimp only at hq ⊢
    rw [h5] at hq
    by_cases q : s < C.stateAt a
    · rw [if_neg (show ¬ ((y.toR.state : Nat) : Int) ≤ s by show ¬ ((y.state : Nat) : Int) ≤ s; omega)] at hq
      rw [if_pos q, if_pos q, if_pos q, ew]
      obtain ⟨rfl, z, hq⟩ := hq
      obtain ⟨U', hU⟩ := h.lowered ho h2 h4 s z.1 z.2
      exact ⟨rfl, _, U', hU, hq⟩
    · rw [if_pos (show ((y.toR.state : Nat) : Int) ≤ s by show ((y.state : Nat) : Int) ≤ s; omega)] at hq
      rw [if_neg q, if_neg q, if_neg q]
      obtain ⟨rfl, hq⟩ := hq
      exact ⟨rfl, R, U, h, hq⟩
  · rw [h2] at hq
    rw [h1, wayOf_none h1, if_neg (by omega), if_neg (by omega)]
    obtain ⟨rfl, hq⟩ := hq
    exact ⟨rfl, R, U, h, hq⟩
/-! ### Fill -/
def CS.fillN (C : CS) (a : Nat) (bs : List Nat) (s : Nat) : CS := if (C.look a).isSome then C else C.filled a bs s
def CS.goneOf (C : CS) (a : Nat) : Way := if (C.look a).isSome then zeroWay else if (C.vway a).state ≠ 0 then C.vway a else zeroWay
def CS.fillE (C : CS) (a : Nat) : Nat := if (C.look a).isSome then 7 else 0
theorem fill_f (h : C.Good len m) (hm : m + 1 < 4611686018427387904) (hA : (cacheA b C).at_ W) (a : Nat) (ha : a < 4294967296) (h16 : a % 16 = 0) (bs : List Nat) (hb : bs.length = 16) (hb2 : ∀ x ∈ bs, x < 256) (s : Nat) (h1 : 1 ≤ s) (h3 : s ≤ 3) :
    Calls Tryd.prog 43 #[.pointer (some ⟨b, 0, none⟩), .int .u32 a, .agg (u8n bs).toArray, .int .i64 s] W fun e w => e = .returned (.tuple #[.agg (C.goneOf a).lineC.toArray, .bool (decide ((C.goneOf a).state ≠ 0)), errV (C.fillE a)]) ∧ Sep.Post (cacheA b C) W (cacheA b (C.fillN a bs s)) w := by
  refine (fill_any h.ok (by have := h.clk; omega) hA a ha bs hb hb2 s).mono fun e w hp => ?_
  unfold FillPost at hp
  rw [if_neg (by omega)] at hp
  unfold CS.goneOf CS.fillN CS.fillE
  by_cases q : (C.look a).isSome = true
  · rw [if_pos q] at hp
    rw [if_pos q, if_pos q, if_pos q]
    exact hp
  · rw [if_neg q] at hp
    rw [if_neg q, if_neg q, if_neg q]
    by_cases q2 : (C.vway a).state ≠ 0
    · rw [if_pos q2] at hp
      rw [if_pos q2]
      exact hp
    · rw [if_neg q2] at hp
      rw [if_neg q2]
      have e0 : (C.vway a).state = 0 := by omega
      rw [e0] at hp
      exact hp
theorem goneOf_ok (h : C.Good len m) (a : Nat) : (C.goneOf a).Ok ∧ ((C.goneOf a).state ≠ 0 → LineOk len (C.goneOf a).line) := by
  unfold CS.goneOf
  have hm := CS.set_mem h.ok (h.ok.ix_lt a)
  have hv := List.mem_of_getElem? (vway_at h.ok a)
  split
  · exact ⟨zero_ok, fun e => absurd rfl e⟩
  · split
    · exact ⟨h.ok.way _ hm _ hv, h.line _ hm _ hv⟩
    · exact ⟨zero_ok, fun e => absurd rfl e⟩
theorem lowY_ok (h : C.Good len m) (a s : Nat) : (C.lowY a s).Ok ∧ ((C.lowY a s).state ≠ 0 → LineOk len (C.lowY a s).line) := by
  unfold CS.lowY
  split
  · cases hl : C.look a with
    | none => rename_i q; rw [wayOf_none hl] at q; omega
    | some j => have := wayOf_ok h hl; exact ⟨this.1, fun _ => this.2⟩
  · exact ⟨zero_ok, fun e => absurd rfl e⟩
theorem fillN_good (h : C.Good len m) (hm : m + 1 < 4611686018427387904) {a : Nat} (ha : a < 4294967296) (hl : LineOk len a) {bs : List Nat} (hb : bs.length = 16) (hb2 : ∀ x ∈ bs, x < 256) {s : Nat} (h3 : s ≤ 3) : (C.fillN a bs s).Good len (m + 1) := by
  unfold CS.fillN
  split
  · exact h.mono (by omega)
  · exact put_good (tick_good h hm) (h.ok.ix_lt a) ⟨ha, h3, hb, hb2⟩ (fun _ => hl)
theorem rfill_f (h : Rel C R U) (ho : C.Ok) (hA : (refcA b2 R).at_ W) (a : Nat) (ha : a < 4294967296) (h16 : a % 16 = 0) (bs : List Nat) (hb : bs.length = 16) (s : Nat) (h1 : 1 ≤ s) (h3 : s ≤ 3) :
    Calls Tryd.prog 47 #[.pointer (some ⟨b2, 0, none⟩), .int .i64 a, .agg (u8n bs).toArray, .int .i64 s] W fun e w => e = .returned (.tuple #[.agg (C.goneOf a).toR.cells.toArray, .int .i64 (C.fillE a)]) ∧ ∃ R' U', Rel (C.fillN a bs s) R' U' ∧ Sep.Post (refcA b2 R) W (refcA b2 R') w := by
  refine (rfill_any (h.ok ho) hA a ha bs hb s).mono fun e w hq => ?_
  unfold RFillPost at hq
  rw [if_neg (by omega)] at hq
  unfold CS.goneOf CS.fillN CS.fillE
  rcases h.find ho a with ⟨j, k, y, g1, g2, g3, g4, g5, g6, -, g7⟩ | ⟨g1, g2⟩
  · rw [g3, if_pos (show (some k).isSome = true from rfl)] at hq
    rw [g1, if_pos (show (some j).isSome = true from rfl), if_pos (show (some j).isSome = true from rfl), if_pos (show (some j).isSome = true from rfl)]
    obtain ⟨rfl, hq⟩ := hq
    exact ⟨rfl, R, U, h, hq⟩
  · rw [g2, if_neg (by decide)] at hq
    have n1 : ¬ (none : Option Nat).isSome = true := by decide
    rw [g1, if_neg n1, if_neg n1, if_neg n1]
    obtain ⟨rfl, z, hq⟩ := hq
    obtain ⟨hg, U', hU⟩ := h.filled ho h16 g2 s (by omega) bs z.1 z.2
    rw [hg]
    refine ⟨?_, _, U', hU, hq⟩
    split
    · rfl
    · rfl
end Go.Proofs.YtbiogceijdcoiaaDoor
