/- The caches' functions, each as a plain function of the program's state: the program's. No condition. -/
import Derived.Test.YtbiogceijdcoiaaCacheD
namespace Go.Proofs.Ytbiogceijdcoiaa
open Go.RowKit Go.XHeap Go.Sx Go.Sep
set_option linter.unusedVariables false
/-- a slice of many cells, opened: its cells -/
theorem sl_cells {w : World} {e : TypeId} {size : Nat} {p : Option Addr} {m c : Nat} {xs : List Value} (h : Sl w e size (.slice p m c) m xs) (hm : 0 < m) : m ≤ c ∧ ∃ g o, p = some ⟨g, o, none⟩ ∧ ∀ j v, xs[j]? = some v → w.cell? ⟨g, o + j, none⟩ = some v := by
  obtain ⟨hl, h⟩ := h
  rcases h with ⟨-, rfl⟩ | ⟨g, off, cap, cur, hv, hb, h1, h2, h3, h4⟩
  · omega
  · cases hv
    refine ⟨h1, g, off, rfl, fun j v hj => hb.cell' ?_⟩
    have hjl := (List.getElem?_eq_some_iff.1 hj).1
    rw [← h4] at hj
    rw [← Array.getElem?_toList, ← hj, List.getElem?_take_of_lt (by omega), List.getElem?_drop]
/-- one cell of a slice of many cells is written -/
theorem sl_set {w : World} {e : TypeId} {size : Nat} {g o m c : Nat} {xs : List Value} (h : Sl w e size (.slice (some ⟨g, o, none⟩) m c) m xs) {j : Nat} (hj : j < xs.length) (x : Value) :
    (∃ v, w.cell? ⟨g, o + j, none⟩ = some v) ∧ w.frozen? ⟨g, o + j, none⟩ = false ∧ Sep.Post (sl e size (.slice (some ⟨g, o, none⟩) m c) m xs) w (sl e size (.slice (some ⟨g, o, none⟩) m c) m (xs.set j x)) (w.setCell ⟨g, o + j, none⟩ x) := by
  have h0 : Sl w e size (.slice (some ⟨g, o, none⟩) m c) m xs := h
  obtain ⟨hl, h⟩ := h
  rcases h with ⟨h, -⟩ | ⟨g', off', cap', cur, hv, hb, h1, h2, h3, h4⟩
  · simp at h
  · simp at hv
    obtain ⟨⟨rfl, rfl⟩, rfl⟩ := hv
    have hm := Nat.mul_le_mul_right size h1
    refine ⟨⟨cur[o + j], hb.cell' (Array.getElem?_eq_getElem (by omega))⟩, hb.frozen _, ⟨by simpa using hl, .inr ⟨g, o, c, _, rfl, hb.set (o + j) x, h1, h2, by simpa using h3, ?_⟩⟩, (XTouch.refl (fun k => (Value.slice (some ⟨g, o, none⟩) m c).ownBlock = some k) w).setCell (p := ⟨g, o + j, none⟩) (.inl rfl) x, fun q e => .inl e⟩
    rw [Array.toList_setIfInBounds, List.drop_set, if_neg (by omega), Nat.add_sub_cancel_left, List.take_set, h4]
theorem adr_eq {p : Option Addr} {g o : Nat} {f : Nat → Nat → Prop} (e : p = some ⟨g, o, none⟩) (h : f g o) : Sx.adr p f := by subst e; exact h
theorem cells_at {w : World} {g o : Nat} {vs : Array Value} (h : cellsAt w ⟨g, o, none⟩ vs) {i : Nat} {v : Value} (hi : vs[i]? = some v) : w.cell? ⟨g, o + i, none⟩ = some v := by
  have := h i v hi
  rwa [add_none] at this

/-- a line of so many bytes of data -/
def LineOk (len L : Nat) : Prop := L % 16 = 0 ∧ 65536 ≤ L ∧ L + 16 ≤ 65536 + len
structure CS.Good (C : CS) (len m : Nat) : Prop where
  ok : C.Ok
  clk : C.clock ≤ m
  line : ∀ s ∈ C.sets, ∀ y ∈ s, y.state ≠ 0 → LineOk len y.line
theorem CS.Good.mono {C : CS} {len m m' : Nat} (h : C.Good len m) (hm : m ≤ m') : C.Good len m' := ⟨h.ok, Nat.le_trans h.clk hm, h.line⟩
theorem put_good {C : CS} {len m i j : Nat} {y : Way} (h : C.Good len m) (hi : i < C.S) (hy : y.Ok) (hl : y.state ≠ 0 → LineOk len y.line) : (C.put i j y).Good len m := by
  refine ⟨put_ok h.ok hi hy, h.clk, fun s hs z hz => ?_⟩
  have hm : s ∈ C.sets ∨ s = (C.set_ i).set j y := List.mem_or_eq_of_mem_set hs
  rcases hm with hm | rfl
  · exact h.line s hm z hz
  · rcases List.mem_or_eq_of_mem_set hz with hz | rfl
    · exact h.line _ (CS.set_mem h.ok hi) z hz
    · exact hl
theorem tick_good {C : CS} {len m : Nat} (h : C.Good len m) (hm : m + 1 < 4611686018427387904) : C.tick.Good len (m + 1) := ⟨tick_ok h.ok (by have := h.clk; omega), by show C.clock + 1 ≤ m + 1; have := h.clk; omega, h.line⟩
variable {C : CS} {W : World} {b b2 len m : Nat}
def Way.valid (y : Way) : Bool := y.state != 0
theorem vway_at (ho : C.Ok) (a : Nat) : (C.set_ (C.ix a))[C.vict a]? = some (C.vway a) := by
  have hi := ho.ix_lt a
  have hN : (C.set_ (C.ix a)).length = C.N := ho.len _ (CS.set_mem ho hi)
  have hn := ho.n0
  have hv : C.vict a < (C.set_ (C.ix a)).length := vic_lt (by omega) C.N (by omega)
  unfold CS.vway
  rw [List.getD_eq_getElem?_getD, List.getElem?_eq_getElem hv]; rfl
def errV (n : Nat) : Value := if n = 0 then .nilIface else errN n
/-! ### the way that is found -/
def CS.wayOf (C : CS) (a : Nat) : Way := match C.look a with | some j => (C.set_ (C.ix a)).getD j default | none => zeroWay
theorem wayOf_at {a j : Nat} (h : C.look a = some j) : (C.set_ (C.ix a))[j]? = some (C.wayOf a) ∧ (C.wayOf a).state ≠ 0 ∧ (C.wayOf a).line = a / 16 * 16 ∧ C.stateAt a = (C.wayOf a).state := by
  obtain ⟨y, h1, h2, h3⟩ := look_some h
  have e : C.wayOf a = y := by unfold CS.wayOf; rw [h]; show (C.set_ (C.ix a)).getD j default = y; rw [List.getD_eq_getElem?_getD, h1]; rfl
  have e2 : C.stateAt a = y.state := by
    unfold CS.stateAt; rw [h]; simp only [List.getD_eq_getElem?_getD, h1]; rfl
  rw [e]; exact ⟨h1, h2, h3, e2⟩
theorem wayOf_none {a : Nat} (h : C.look a = none) : C.stateAt a = 0 := by unfold CS.stateAt; rw [h]
theorem wayOf_ok (h : C.Good len m) {a j : Nat} (hj : C.look a = some j) : (C.wayOf a).Ok ∧ LineOk len (C.wayOf a).line := by
  obtain ⟨h1, h2, -⟩ := wayOf_at hj
  have hm := CS.set_mem h.ok (h.ok.ix_lt a)
  exact ⟨h.ok.way _ hm _ (List.mem_of_getElem? h1), h.line _ hm _ (List.mem_of_getElem? h1) h2⟩
theorem state_le (h : C.Ok) (a : Nat) : C.stateAt a ≤ 3 := by
  cases hl : C.look a with
  | none => rw [wayOf_none hl]; omega
  | some j =>
    obtain ⟨h1, h2, -, h4⟩ := wayOf_at hl
    rw [h4]
    exact (h.way _ (CS.set_mem h (h.ix_lt a)) _ (List.mem_of_getElem? h1)).state
/-! ### Read -/
def CS.readN (C : CS) (a : Nat) (sz : Int) : CS := match C.hit a sz 1 with | some j => C.touched (C.ix a) j | none => C
def CS.readV (C : CS) (a : Nat) (sz : Int) : Nat := match C.hit a sz 1 with | some j => C.val a sz j | none => 0
def CS.readT (C : CS) (a : Nat) (sz : Int) : Bool := (C.hit a sz 1).isSome
theorem hit_look {a : Nat} {sz : Int} {l j : Nat} (h : C.hit a sz l = some j) : C.look a = some j := by
  unfold CS.hit at h
  split at h
  · exact h
  · cases h
theorem read_f (h : C.Good len m) (hm : m + 1 < 4611686018427387904) (hA : (cacheA b C).at_ W) (a : Nat) (ha : a < 4294967296) (sz : Int) :
    Calls Try.prog 21 #[.pointer (some ⟨b, 0, none⟩), .int .u32 a, .int .i64 sz] W fun e w => e = .returned (.tuple #[.int .u32 (C.readV a sz), .bool (C.readT a sz)]) ∧ Sep.Post (cacheA b C) W (cacheA b (C.readN a sz)) w := by
  refine (read_any h.ok (by have := h.clk; omega) hA a ha sz).mono fun e w hp => ?_
  unfold ReadPost at hp
  unfold CS.readV CS.readT CS.readN
  cases hh : C.hit a sz 1 with
  | none => rw [hh] at hp; exact hp
  | some j => rw [hh] at hp; exact hp
theorem readN_good (h : C.Good len m) (hm : m + 1 < 4611686018427387904) (a : Nat) (sz : Int) : (C.readN a sz).Good len (m + 1) := by
  unfold CS.readN
  cases hh : C.hit a sz 1 with
  | none => exact h.mono (by omega)
  | some j =>
    obtain ⟨h1, h2, -, -⟩ := wayOf_at (hit_look hh)
    obtain ⟨g1, g2⟩ := wayOf_ok h (hit_look hh)
    show (C.touched (C.ix a) j).Good len (m + 1)
    rw [touched_eq h1]
    exact put_good (tick_good h hm) (h.ok.ix_lt a) ⟨g1.line, g1.state, g1.len, g1.byte⟩ (fun _ => g2)
/-! ### Write -/
def CS.writeN (C : CS) (a : Nat) (sz : Int) (d : Nat) : CS := match C.hit a sz 2 with | some j => C.wrote a sz d j | none => C
def CS.writeT (C : CS) (a : Nat) (sz : Int) : Bool := (C.hit a sz 2).isSome
theorem write_f (h : C.Good len m) (hm : m + 1 < 4611686018427387904) (hA : (cacheA b C).at_ W) (a : Nat) (ha : a < 4294967296) (sz : Int) (d : Nat) (hd : d < 4294967296) :
    Calls Try.prog 20 #[.pointer (some ⟨b, 0, none⟩), .int .u32 a, .int .i64 sz, .int .u32 d] W fun e w => e = .returned (.bool (C.writeT a sz)) ∧ Sep.Post (cacheA b C) W (cacheA b (C.writeN a sz d)) w := by
  refine (write_any h.ok (by have := h.clk; omega) hA a ha sz d hd).mono fun e w hp => ?_
  unfold WritePost at hp
  unfold CS.writeT CS.writeN
  cases hh : C.hit a sz 2 with
  | none => rw [hh] at hp; exact hp
  | some j => rw [hh] at hp; exact hp
theorem wrote_eq {a j d : Nat} {sz : Int} {y : Way} (h : (C.set_ (C.ix a))[j]? = some y) : C.wrote a sz d j = C.tick.put (C.ix a) j { y with used := C.clock + 1, state := 3, bytes := wrN y.bytes (a % 16) d sz.toNat } := by unfold CS.wrote; rw [h]
theorem writeN_good (h : C.Good len m) (hm : m + 1 < 4611686018427387904) (a : Nat) (sz : Int) (d : Nat) : (C.writeN a sz d).Good len (m + 1) := by
  unfold CS.writeN
  cases hh : C.hit a sz 2 with
  | none => exact h.mono (by omega)
  | some j =>
    obtain ⟨h1, h2, -, -⟩ := wayOf_at (hit_look hh)
    obtain ⟨g1, g2⟩ := wayOf_ok h (hit_look hh)
    show (C.wrote a sz d j).Good len (m + 1)
    rw [wrote_eq h1]
    exact put_good (tick_good h hm) (h.ok.ix_lt a) ⟨g1.line, by show 3 ≤ 3; decide, by show (wrN _ _ _ _).length = 16; rw [wrN_len]; exact g1.len, wrN_byte g1.byte _ _ _⟩ (fun _ => g2)
/-! ### Lower -/
def CS.lowN (C : CS) (a s : Nat) : CS := match C.look a with | some j => if s < C.stateAt a then C.lowered a j s else C | none => C
def CS.lowY (C : CS) (a s : Nat) : Way := if s < C.stateAt a then C.wayOf a else zeroWay
def CS.lowE (C : CS) (a s : Nat) : Nat := if s < C.stateAt a then 0 else 7
theorem lower_f (h : C.Good len m) (hA : (cacheA b C).at_ W) (a : Nat) (ha : a < 4294967296) (h16 : a % 16 = 0) (s : Nat) (hs : s ≤ 2) :
    Calls Try.prog 25 #[.pointer (some ⟨b, 0, none⟩), .int .u32 a, .int .i64 s] W fun e w => e = .returned (.tuple #[.agg (C.lowY a s).lineC.toArray, errV (C.lowE a s)]) ∧ Sep.Post (cacheA b C) W (cacheA b (C.lowN a s)) w := by
  refine (lower_any h.ok hA a ha s).mono fun e w hp => ?_
  unfold LowerPost at hp
  rw [if_neg (by omega)] at hp
  unfold CS.lowN CS.lowY CS.lowE
  cases hl : C.look a with
  | none =>
    rw [hl] at hp
    rw [wayOf_none hl, if_neg (by omega), if_neg (by omega)]
    exact hp
  | some j =>
    rw [hl] at hp
    dsimp only at hp ⊢
    by_cases q : s < C.stateAt a
    · rw [if_neg (by omega)] at hp
      rw [if_pos q, if_pos q, if_pos q]
      unfold CS.wayOf
      rw [hl]
      exact hp
    · rw [if_pos (by omega)] at hp
      rw [if_neg q, if_neg q, if_neg q]
      exact hp
theorem lowN_good (h : C.Good len m) (a s : Nat) (hs : s ≤ 2) : (C.lowN a s).Good len m := by
  unfold CS.lowN
  cases hl : C.look a with
  | none => exact h
  | some j =>
    dsimp only
    split
    · obtain ⟨h1, h2, -, -⟩ := wayOf_at hl
      obtain ⟨g1, g2⟩ := wayOf_ok h hl
      have ey : (C.set_ (C.ix a)).getD j default = C.wayOf a := by rw [List.getD_eq_getElem?_getD, h1]; rfl
      unfold CS.lowered
      rw [ey]
      refine put_good h (h.ok.ix_lt a) ?_ ?_
      · split
        · exact zero_ok
        · exact ⟨g1.line, by show s ≤ 3; omega, g1.len, g1.byte⟩
      · split
        · intro e; exact absurd rfl e
        · exact fun _ => g2
    · exact h
/-! ### Fill -/
def CS.fillN (C : CS) (a : Nat) (bs : List Nat) (s : Nat) : CS := if (C.look a).isSome then C else C.filled a bs s
def CS.goneOf (C : CS) (a : Nat) : Way := if (C.look a).isSome then zeroWay else if (C.vway a).state ≠ 0 then C.vway a else zeroWay
def CS.fillE (C : CS) (a : Nat) : Nat := if (C.look a).isSome then 7 else 0
theorem fill_f (h : C.Good len m) (hm : m + 1 < 4611686018427387904) (hA : (cacheA b C).at_ W) (a : Nat) (ha : a < 4294967296) (h16 : a % 16 = 0) (bs : List Nat) (hb : bs.length = 16) (hb2 : ∀ x ∈ bs, x < 256) (s : Nat) (h1 : 1 ≤ s) (h3 : s ≤ 3) :
    Calls Try.prog 26 #[.pointer (some ⟨b, 0, none⟩), .int .u32 a, .agg (u8n bs).toArray, .int .i64 s] W fun e w => e = .returned (.tuple #[.agg (C.goneOf a).lineC.toArray, .bool (decide ((C.goneOf a).state ≠ 0)), errV (C.fillE a)]) ∧ Sep.Post (cacheA b C) W (cacheA b (C.fillN a bs s)) w := by
  refine (fill_any h.ok (by have := h.clk; omega) hA a ha bs hb hb2 s).mono fun e w hp => ?_
  unfold FillPost at hp
  rw [if_neg (by omega)] at hp
  unfold CS.goneOf CS.fillN CS.fillE
  by_cases q : (C.look a).isSome = true
  · rw [if_pos q] at hp
    rw [if_pos q, if_pos q, if_pos q]
    exact hp
  · rw [if_neg q] at hp
    rw [if_neg q, if_neg q, if_neg q]
    by_cases q2 : (C.vway a).state ≠ 0
    · rw [if_pos q2] at hp
      rw [if_pos q2]
      exact hp
    · rw [if_neg q2] at hp
      rw [if_neg q2]
      have e0 : (C.vway a).state = 0 := by omega
      rw [e0] at hp
      exact hp
theorem goneOf_ok (h : C.Good len m) (a : Nat) : (C.goneOf a).Ok ∧ ((C.goneOf a).state ≠ 0 → LineOk len (C.goneOf a).line) := by
  unfold CS.goneOf
  have hm := CS.set_mem h.ok (h.ok.ix_lt a)
  have hv := List.mem_of_getElem? (vway_at h.ok a)
  split
  · exact ⟨zero_ok, fun e => absurd rfl e⟩
  · split
    · exact ⟨h.ok.way _ hm _ hv, h.line _ hm _ hv⟩
    · exact ⟨zero_ok, fun e => absurd rfl e⟩
theorem lowY_ok (h : C.Good len m) (a s : Nat) : (C.lowY a s).Ok ∧ ((C.lowY a s).state ≠ 0 → LineOk len (C.lowY a s).line) := by
  unfold CS.lowY
  split
  · cases hl : C.look a with
    | none => rename_i q; rw [wayOf_none hl] at q; omega
    | some j => have := wayOf_ok h hl; exact ⟨this.1, fun _ => this.2⟩
  · exact ⟨zero_ok, fun e => absurd rfl e⟩
theorem fillN_good (h : C.Good len m) (hm : m + 1 < 4611686018427387904) {a : Nat} (ha : a < 4294967296) (hl : LineOk len a) {bs : List Nat} (hb : bs.length = 16) (hb2 : ∀ x ∈ bs, x < 256) {s : Nat} (h3 : s ≤ 3) : (C.fillN a bs s).Good len (m + 1) := by
  unfold CS.fillN
  split
  · exact h.mono (by omega)
  · exact put_good (tick_good h hm) (h.ok.ix_lt a) ⟨ha, h3, hb, hb2⟩ (fun _ => hl)
end Go.Proofs.Ytbiogceijdcoiaa
