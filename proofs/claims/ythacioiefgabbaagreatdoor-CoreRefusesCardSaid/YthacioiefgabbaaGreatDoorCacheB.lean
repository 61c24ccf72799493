/- The cache, part B: lines given out, parts of lines, Read, Write. No condition. -/
import Derived.Test.YthacioiefgabbaaGreatDoorCacheA
namespace Go.Proofs.YthacioiefgabbaaGreatDoor.cbus
open Go.RowKit Go.XHeap Go.Sx Go.Sep
set_option linter.unusedVariables false
set_option maxRecDepth 100000

/-- a line, as it is given out -/
def lineC (line state : Nat) (bytes : List Nat) : List Value := .int .u32 line :: .int .i64 state :: u8n bytes
def Way.lineC (y : Way) : List Value := Proofs.YthacioiefgabbaaGreatDoor.cbus.lineC y.line y.state y.bytes
theorem u8n_len (l : List Nat) : (u8n l).length = l.length := by simp [u8n]
theorem u8n_get {l : List Nat} {i x : Nat} (h : l[i]? = some x) : (u8n l)[i]? = some (.int .u8 x) := by simp [u8n, h]
theorem u8n_one (l : List Nat) : ∀ v ∈ u8n l, v.oneCell' = true := by
  intro v hv
  simp only [u8n, List.mem_map] at hv
  obtain ⟨x, -, rfl⟩ := hv
  rfl
theorem line_one (line state : Nat) (bytes : List Nat) : ∀ v ∈ (lineC line state bytes).toArray.toList, v.oneCell' = true := by
  intro v hv
  have hv : v ∈ lineC line state bytes := hv
  simp only [lineC, List.mem_cons] at hv
  rcases hv with rfl | rfl | hv
  · rfl
  · rfl
  · exact u8n_one _ v hv
theorem as_any {W : World} {b : Nat} {C : CS} (ho : C.Ok) (h : (cacheA b C).at_ W) {i j : Nat} {y : Way} (hi : i < C.S) (hj : (C.set_ i)[j]? = some y) :
    Calls Tryz.prog 127 #[.pointer (some ⟨C.g i, j * 19, none⟩)] W fun e w => e = .returned (.agg y.lineC.toArray) ∧ Hush W w := by
  have hl : y.bytes.length = 16 := (ho.way _ (CS.set_mem ho hi) y (List.mem_of_getElem? hj)).len
  have hSW : here (setsA C.gs C.sets) W := (show here (C.pieces b) W from h).nth 2 rfl
  refine vc127 _ _ ((St.nil W).al fun k w2 H => H.dr fun w3 H => ?_)
  have hS := hSW.keep H.touch (fun _ _ e => e)
  refine ⟨y.line, by have := way_cell ho hS hi hj (q := 0) (by omega) (v := .int .u32 y.line) rfl
                     exact this, y.state, way_cell ho hS hi hj (q := 1) (by omega) rfl, (u8n y.bytes).toArray, by simp [u8n_len, hl], ?_, by simp [u8n_len, hl], ?_⟩
  · intro q v hq
    rw [add_none, Nat.add_assoc]
    have hq2 : q < 16 := by have := (Array.getElem?_eq_some_iff.1 hq).1; simpa [u8n_len, hl] using this
    refine way_cell ho hS hi hj (q := 3 + q) (by omega) ?_
    rw [show 3 + q = q + 3 by omega]
    simpa [Way.cells] using hq
  · rintro vs2 rfl
    have e : List.toArray (Value.int .u32 y.line :: Value.int .i64 y.state :: ((u8n y.bytes).toArray.toList ++ [])) = y.lineC.toArray := by simp [Way.lineC, lineC]
    rw [e]
    exact H.sts0 0 rfl (by simp [Way.lineC, lineC, u8n_len, hl]) rfl (line_one _ _ _) fun w4 H => ⟨_, by simp [Way.lineC, lineC, u8n_len, hl], H.cells 0 rfl, rfl, H.touch⟩
/-! ### parts of lines -/
def fitsAt (a : Nat) (size : Int) : Prop := (size = 1 ∨ size = 2 ∨ size = 4) ∧ a % size.toNat = 0
instance (a : Nat) (size : Int) : Decidable (fitsAt a size) := inferInstanceAs (Decidable (_ ∧ _))
/-- the way in which bytes are -/
def CS.hit (C : CS) (a : Nat) (size : Int) (least : Nat) : Option Nat := if fitsAt a size ∧ least ≤ C.stateAt a then C.look a else none
theorem hit_some {C : CS} {a least j : Nat} {size : Int} (h : C.hit a size least = some j) : fitsAt a size ∧ C.look a = some j ∧ ∃ y, (C.set_ (C.ix a))[j]? = some y ∧ least ≤ y.state ∧ y.state ≠ 0 ∧ y.line = a / 16 * 16 := by
  unfold CS.hit at h
  split at h
  · rename_i hc
    obtain ⟨y, hy, h1, h2⟩ := look_some h
    refine ⟨hc.1, h, y, hy, ?_, h1, h2⟩
    have h3 := hc.2
    unfold CS.stateAt at h3
    rw [h] at h3
    simp only at h3
    rw [List.getD_eq_getElem?_getD, hy] at h3
    exact h3
  · cases h
theorem low15 {a : Nat} (ha : a < 4294967296) : IntKind.wrap .i64 (IntKind.wrap .u32 ((BitVec.ofInt (IntKind.bits .u32) (a : Int) &&& BitVec.ofInt (IntKind.bits .u32) 15).toNat : Int)) = ((a % 16 : Nat) : Int) := by
  have := Bits.land32 ha (show 15 < 4294967296 by decide)
  rw [show ((15 : Nat) : Int) = 15 from rfl] at this
  rw [this, show a &&& 15 = a % 2 ^ 4 from Bits.mask a 4]
  exact Bits.n64 (by omega)
def PartPost (W : World) (b : Nat) (C : CS) (a : Nat) (size : Int) (least : Nat) (e : Ending) (w : World) : Prop :=
  match C.hit a size least with
  | some j => e = .returned (.tuple #[.pointer (some ⟨C.g (C.ix a), j * 19, none⟩), .slice (some ⟨C.g (C.ix a), j * 19 + 3 + a % 16, none⟩) size.toNat size.toNat]) ∧ Sep.Post (cacheA b C) W (cacheA b (C.touched (C.ix a) j)) w
  | none => e = .returned (.tuple #[.pointer none, .slice none 0 0]) ∧ Hush W w
theorem part_any {W : World} {b : Nat} {C : CS} (ho : C.Ok) (h : (cacheA b C).at_ W) (a : Nat) (ha : a < 4294967296) (size : Int) (least : Nat) (hl1 : 1 ≤ least) :
    Calls Tryz.prog 226 #[.pointer (some ⟨b, 0, none⟩), .int .u32 a, .int .i64 size, .int .i64 least] W (PartPost W b C a size least) := by
  have hi := ho.ix_lt a
  refine vc226 b 0 a size least ((find_any ho h a ha).mono ?_)
  rintro e w2 ⟨rfl, hh⟩
  have h2 : (cacheA b C).at_ w2 := (cacheA b C).keep h hh (fun _ _ e => e)
  have hS : here (setsA C.gs C.sets) w2 := (show here (C.pieces b) w2 from h2).nth 2 rfl
  have al : ∀ s : Nat, (s = 1 ∨ s = 2 ∨ s = 4) → IntKind.wrap .u32 (s : Int) ≠ 0 ∧ ((Int.tmod (a : Int) (IntKind.wrap .u32 (s : Int)) != 0) = decide (¬ a % s = 0)) := by
    intro s hs
    rw [Bits.n32 (x := s) (by omega), Bits.tmod]
    refine ⟨by omega, ?_⟩
    rw [Bool.eq_iff_iff]; simp; omega
  refine ⟨_, rfl, fun x w => x = (C.hit a size least).isNone ∧ w = w2, ?_, fun _ => ?_⟩
  · cases hl : C.look a with
    | none =>
      refine split_of (fun _ => ⟨?_, rfl⟩) (fun q => by cases q)
      unfold CS.hit; rw [hl]; split <;> rfl
    | some j =>
      obtain ⟨y, hy, hy1, hy2⟩ := look_some hl
      have hst : C.stateAt a = y.state := by
        unfold CS.stateAt; rw [hl]; simp only; rw [List.getD_eq_getElem?_getD, hy]; rfl
      refine split_of (fun q => by cases q) (fun _ => ptr_some ⟨y.state, ?_, split_of (fun q => ⟨?_, rfl⟩) (fun q => ?_)⟩)
      · rw [add_none]; exact way_cell ho hS hi hy (q := 1) (by omega) rfl
      · have q := of_decide_eq_true q
        unfold CS.hit
        rw [if_neg (fun e => by have := e.2; omega)]; rfl
      · have q := of_decide_eq_false q
        have go : ∀ s : Nat, (s = 1 ∨ s = 2 ∨ s = 4) → size = s → decide (¬ a % s = 0) = (C.hit a size least).isNone := by
          intro s hs e
          subst e
          unfold CS.hit
          by_cases hz : a % s = 0
          · rw [if_pos ⟨⟨by omega, by rw [Int.toNat_natCast]; exact hz⟩, by omega⟩, hl]
            simp [hz]
          · rw [if_neg (fun e => hz (by have := e.1.2; rw [Int.toNat_natCast] at this; exact this))]
            simp [hz]
        refine split_of (fun q1 => split_of (fun q2 => split_of (fun q3 => ⟨?_, rfl⟩) (fun q3 => ?_)) (fun q2 => ?_)) (fun q1 => ?_)
        · have q1 : ¬ size = 1 := by simpa using q1
          have q2 : ¬ size = 2 := by simpa using q2
          have q3 : ¬ size = 4 := by simpa using q3
          unfold CS.hit
          rw [if_neg (fun e => by have := e.1.1; omega)]; rfl
        · have q3 : size = ((4 : Nat) : Int) := by simpa using q3
          rintro z rfl
          rw [q3]
          refine ⟨(al 4 (by omega)).1, ?_⟩
          rintro z3 rfl
          exact ⟨by rw [(al 4 (by omega)).2, ← q3]; exact go 4 (by omega) q3, rfl⟩
        · have q2 : size = ((2 : Nat) : Int) := by simpa using q2
          rintro z rfl
          rw [q2]
          refine ⟨(al 2 (by omega)).1, ?_⟩
          rintro z3 rfl
          exact ⟨by rw [(al 2 (by omega)).2, ← q2]; exact go 2 (by omega) q2, rfl⟩
        · have q1 : size = ((1 : Nat) : Int) := by simpa using q1
          rintro z rfl
          rw [q1]
          refine ⟨(al 1 (by omega)).1, ?_⟩
          rintro z3 rfl
          exact ⟨by rw [(al 1 (by omega)).2, ← q1]; exact go 1 (by omega) q1, rfl⟩
  · rintro x w3 ⟨rfl, rfl⟩
    refine split_of (fun q => ?_) (fun q => ?_)
    · have : C.hit a size least = none := Option.isNone_iff_eq_none.1 q
      unfold PartPost
      rw [this]
      exact ⟨rfl, hh⟩
    · cases hj : C.hit a size least with
      | none => rw [hj] at q; cases q
      | some j =>
        obtain ⟨hf, hl, y, hy, -, -, -⟩ := hit_some hj
        rw [hl]
        obtain ⟨s, hs, rfl⟩ : ∃ s : Nat, (s = 1 ∨ s = 2 ∨ s = 4) ∧ size = s := ⟨size.toNat, by have := hf.1; omega, by have := hf.1; omega⟩
        have hal : a % s = 0 := by have := hf.2; rwa [Int.toNat_natCast] at this
        refine (touch_any ho h2 hi hy).mono ?_
        rintro e w4 ⟨rfl, hp⟩
        refine ⟨rfl, ?_⟩
        rintro z8 rfl z9 rfl
        rw [low15 ha]
        have hlt : a % 16 + s ≤ 16 := by rcases hs with rfl | rfl | rfl <;> omega
        refine ptr_some ?_
        rintro z10 rfl z11 rfl
        rw [w64 (by omega) (by omega)]
        refine ⟨⟨by omega, by omega, by omega, by omega⟩, ?_⟩
        rintro w5 k rfl
        unfold PartPost
        rw [hj]
        refine ⟨?_, ?_⟩
        · have e1 : ((a % 16 : Nat) : Int).toNat = a % 16 := Int.toNat_natCast _
          have e2 : (((a % 16 : Nat) : Int) + (s : Int)).toNat = a % 16 + s := by omega
          show Ending.returned (.tuple #[.pointer (some ⟨C.g (C.ix a), j * 19, none⟩), .slice (Sx.sub (some (Addr.add ⟨C.g (C.ix a), j * 19, none⟩ 3)) _ _ 1) _ _]) = _
          rw [e1, e2]
          unfold Sx.sub
          rw [if_neg (by omega), Option.map_some, add_none, add_none, Nat.mul_one, show a % 16 + s - a % 16 = s by omega, Int.toNat_natCast]
        · refine ⟨(cacheA b _).keep hp.1 ((XTouch.refl (fun _ => False) w4).drewN k) (fun _ _ e => e), ?_, fun q hq => ?_⟩
          · exact ((hh.mono (fun _ _ e => e.elim)).trans hp.2.1 (fun _ _ e => e)).drewN k
          · rcases hp.2.2 q hq with e | e
            · exact .inl e
            · exact .inr (Nat.le_trans hh.size e)
/-! ### Read -/
def le : List Nat → Nat
  | [] => 0
  | x :: l => x + 256 * le l
theorem le_lt : ∀ {l : List Nat}, (∀ x ∈ l, x < 256) → le l < 256 ^ l.length
  | [], _ => by simp [le]
  | x :: l, h => by
    have h1 := h x (by simp)
    have h2 := le_lt (fun y hy => h y (by simp [hy]) : ∀ y ∈ l, y < 256)
    simp only [le, List.length_cons, Nat.pow_succ]
    omega
theorem le_snoc : ∀ (l : List Nat) (x : Nat), le (l ++ [x]) = le l + 256 ^ l.length * x
  | [], x => by simp [le]
  | y :: l, x => by
    simp only [List.cons_append, le, le_snoc l x, List.length_cons, Nat.pow_succ, Nat.mul_add]
    rw [← Nat.mul_assoc, Nat.mul_comm 256 (256 ^ l.length)]
    omega
theorem or_high {v c x : Nat} (hx : x < 4) (hv : v < 256 ^ x) (hc : c < 256) : IntKind.wrap .u32 ((BitVec.ofInt (IntKind.bits .u32) (v : Int) ||| BitVec.ofInt (IntKind.bits .u32) (IntKind.wrap .u32 (IntKind.wrap .u32 (c : Int) * 2 ^ min (8 * x) (IntKind.bits .u32)))).toNat : Int) = ((v + 256 ^ x * c : Nat) : Int) := by
  have hp : 256 ^ x ≤ 256 ^ 3 := Nat.pow_le_pow_right (by decide) (by omega)
  have hp2 : 256 ^ x * c < 4294967296 := by
    have : 256 ^ x * c ≤ 256 ^ 3 * 255 := Nat.mul_le_mul hp (by omega)
    omega
  have e0 : (2 : Nat) ^ (8 * x) = 256 ^ x := by rw [Nat.pow_mul]
  have e1 : IntKind.wrap .u32 (IntKind.wrap .u32 (c : Int) * 2 ^ min (8 * x) (IntKind.bits .u32)) = ((256 ^ x * c : Nat) : Int) := by
    rw [Bits.n32 (x := c) (by omega), Nat.min_eq_left (by show 8 * x ≤ 32; omega)]
    rw [show ((c : Int) * 2 ^ (8 * x)) = ((256 ^ x * c : Nat) : Int) by rw [← e0]; simp [Int.mul_comm]]
    exact Bits.n32 hp2
  rw [e1, Bits.lor32 (by omega) hp2]
  congr 1
  have := Nat.two_pow_add_eq_or_of_lt (i := 8 * x) (b := v) (by rw [e0]; exact hv) c
  rw [e0] at this
  rw [Nat.or_comm, ← this, Nat.add_comm]
/-- the bytes of an access -/
def Way.part (y : Way) (a n : Nat) : List Nat := (y.bytes.drop (a % 16)).take n
theorem part_len {y : Way} (h : y.Ok) {a n : Nat} (hn : a % 16 + n ≤ 16) : (y.part a n).length = n := by
  have := h.len
  unfold Way.part; simp; omega
theorem part_succ {y : Way} (h : y.Ok) {a n x : Nat} (hx : y.bytes[a % 16 + n]? = some x) : y.part a (n + 1) = y.part a n ++ [x] := by
  unfold Way.part
  rw [List.take_add_one, List.getElem?_drop, hx]
  rfl
theorem part_byte {y : Way} (h : y.Ok) (a n : Nat) : ∀ x ∈ y.part a n, x < 256 := fun x hx => h.byte x (List.mem_of_mem_drop (List.mem_of_mem_take hx))
def CS.val (C : CS) (a : Nat) (size : Int) (j : Nat) : Nat := le ((((C.set_ (C.ix a)).getD j default).part a size.toNat))
def ReadPost (W : World) (b : Nat) (C : CS) (a : Nat) (size : Int) (e : Ending) (w : World) : Prop :=
  match C.hit a size 1 with
  | some j => e = .returned (.tuple #[.int .u32 (C.val a size j), .bool true]) ∧ Sep.Post (cacheA b C) W (cacheA b (C.touched (C.ix a) j)) w
  | none => e = .returned (.tuple #[.int .u32 0, .bool false]) ∧ Sep.Post (cacheA b C) W (cacheA b C) w
theorem touched_ok {C : CS} (h : C.Ok) (hc : C.clock + 1 < 4611686018427387904) {i j : Nat} (hi : i < C.S) : (C.touched i j).Ok := by
  unfold CS.touched
  split
  · rename_i y hy
    have := h.way _ (CS.set_mem h hi) y (List.mem_of_getElem? hy)
    exact put_ok (tick_ok h hc) hi ⟨this.line, this.state, this.len, this.byte⟩
  · exact h
theorem touched_at {C : CS} (h : C.Ok) {i j : Nat} {y : Way} (hi : i < C.S) (hj : (C.set_ i)[j]? = some y) : ((C.touched i j).set_ i)[j]? = some { y with used := C.clock + 1 } := by
  rw [touched_eq hj]
  have hl := (List.getElem?_eq_some_iff.1 hj).1
  show ((C.sets.set i ((C.set_ i).set j _)).getD i [])[j]? = _
  rw [List.getD_eq_getElem?_getD, List.getElem?_set_self (by rw [h.sl]; exact hi)]
  exact List.getElem?_set_self hl
theorem read_any {W : World} {b : Nat} {C : CS} (ho : C.Ok) (hc : C.clock + 1 < 4611686018427387904) (h : (cacheA b C).at_ W) (a : Nat) (ha : a < 4294967296) (size : Int) :
    Calls Tryz.prog 269 #[.pointer (some ⟨b, 0, none⟩), .int .u32 a, .int .i64 size] W (ReadPost W b C a size) := by
  have hi := ho.ix_lt a
  refine vc269 b 0 a size ((part_any ho h a ha size 1 (by decide)).mono ?_)
  intro e w2 hpp
  unfold PartPost at hpp
  unfold ReadPost
  cases hj : C.hit a size 1 with
  | none =>
    rw [hj] at hpp
    obtain ⟨rfl, hh⟩ := hpp
    have hP : Sep.Post (cacheA b C) W (cacheA b C) w2 := ⟨(cacheA b C).keep h hh (fun _ _ e => e), hh.mono (fun _ _ e => e.elim), fun q hq => .inl hq⟩
    refine ⟨_, _, _, _, rfl, fun x v w => x = 0 ∧ v = 0 ∧ w = w2, fun _ _ _ => 0, ⟨rfl, rfl, rfl⟩, fun _ => ?_⟩
    rintro x v w3 ⟨rfl, rfl, rfl⟩
    exact split_of (fun q => absurd (of_decide_eq_true q) (by decide)) (fun _ => ⟨rfl, hP⟩)
  | some j =>
    rw [hj] at hpp
    obtain ⟨rfl, hp⟩ := hpp
    obtain ⟨hf, hl, y, hy, -, -, -⟩ := hit_some hj
    obtain ⟨s, hs, rfl⟩ : ∃ s : Nat, (s = 1 ∨ s = 2 ∨ s = 4) ∧ size = s := ⟨size.toNat, by have := hf.1; omega, by have := hf.1; omega⟩
    have hal : a % s = 0 := by have := hf.2; rwa [Int.toNat_natCast] at this
    have hlt : a % 16 + s ≤ 16 := by rcases hs with rfl | rfl | rfl <;> omega
    have hyo := ho.way _ (CS.set_mem ho hi) y (List.mem_of_getElem? hy)
    have ho2 := touched_ok (j := j) ho hc hi
    have hy2 := touched_at ho hi hy
    have hev : C.val a (s : Int) j = le (y.part a s) := by
      unfold CS.val
      rw [List.getD_eq_getElem?_getD, hy, Int.toNat_natCast]; rfl
    have hg : (C.touched (C.ix a) j).g (C.ix a) = C.g (C.ix a) := by rw [touched_eq hy]; rfl
    have hSS : (C.touched (C.ix a) j).S = C.S := by rw [touched_eq hy]; rfl
    have hp0 := hp
    generalize C.touched (C.ix a) j = C2 at hp ho2 hy2 hg hSS
    have hS : here (setsA C2.gs C2.sets) w2 := (show here (C2.pieces b) w2 from hp.1).nth 2 rfl
    rw [Int.toNat_natCast]
    refine ⟨_, _, _, _, rfl, fun x v w => ∃ m : Nat, x = m ∧ m ≤ s ∧ v = le (y.part a m) ∧ w = w2, fun x _ _ => s - x.toNat, ⟨0, rfl, by omega, by unfold Way.part; simp [le], rfl⟩, fun _ => ?_⟩
    rintro x v w3 ⟨m, rfl, hm, rfl, rfl⟩
    refine split_of (fun q => ?_) (fun q => ?_)
    · have q := of_decide_eq_true q
      obtain ⟨z, hz⟩ : ∃ z, y.bytes[a % 16 + m]? = some z := ⟨_, List.getElem?_eq_getElem (by have := hyo.len; omega)⟩
      have hz2 := hyo.byte z (List.mem_of_getElem? hz)
      refine ⟨⟨by omega, q⟩, adr_some ⟨z, ?_, ?_⟩⟩
      · rw [ix1, show j * 19 + 3 + a % 16 + m = j * 19 + (3 + (a % 16 + m)) by omega, ← hg]
        refine way_cell ho2 hS (by rw [hSS]; exact hi) hy2 (by omega) ?_
        rw [show 3 + (a % 16 + m) = a % 16 + m + 3 by omega]
        show (u8n y.bytes)[a % 16 + m]? = _
        exact u8n_get hz
      · rintro z2 rfl z3 rfl
        rw [show (8 * (m : Int)) = ((8 * m : Nat) : Int) by omega, Bits.n64 (by omega)]
        refine ⟨by omega, ?_⟩
        rintro z4 rfl z5 rfl
        rw [Int.toNat_natCast]
        have hv := le_lt (part_byte hyo a m)
        rw [part_len hyo (by omega)] at hv
        rw [or_high (x := m) (by omega) hv hz2]
        rintro z6 rfl
        rw [w64 (by omega) (by omega)]
        refine ⟨⟨m + 1, by omega, by omega, ?_, rfl⟩, by show s - ((m : Int) + 1).toNat < s - (m : Int).toNat; omega⟩
        rw [part_succ hyo hz, le_snoc, part_len hyo (by omega)]
    · have q := of_decide_eq_false q
      obtain rfl : m = s := by omega
      show Ending.returned (.tuple #[.int .u32 (le (y.part a m) : Nat), .bool true]) = .returned (.tuple #[.int .u32 (C.val a (m : Int) j : Nat), .bool true]) ∧ _
      rw [hev]
      exact ⟨rfl, hp0⟩
/-! ### Write -/
def byteN (d i : Nat) : Nat := d / 2 ^ (8 * i) % 256
def wrN (l : List Nat) (k d : Nat) : Nat → List Nat
  | 0 => l
  | n + 1 => (wrN l k d n).set (k + n) (byteN d n)
def CS.wrote (C : CS) (a : Nat) (size : Int) (d j : Nat) : CS := match (C.set_ (C.ix a))[j]? with
  | some y => C.tick.put (C.ix a) j { y with used := C.clock + 1, state := 3, bytes := wrN y.bytes (a % 16) d size.toNat }
  | none => C
theorem put_put {C : CS} (h : C.Ok) {i : Nat} (hi : i < C.S) (j : Nat) (y z : Way) : (C.put i j y).put i j z = C.put i j z := by
  show CS.mk _ _ _ _ _ _ ((C.sets.set i _).set i (((C.put i j y).set_ i).set j z)) _ = CS.mk _ _ _ _ _ _ _ _
  rw [put_set h hi, List.set_set, List.set_set]
  rfl
end Go.Proofs.YthacioiefgabbaaGreatDoor.cbus
