/- The document's cache, part A: what stands in memory; find, aligned, State, out. No condition. -/
import Derived.Test.YtbiogceijdcoiaaDoorCacheD
import Derived.Test.YtbiogceijdcoiaaDoorCacheRVc
namespace Go.Proofs.YtbiogceijdcoiaaDoor
open Go.RowKit Go.XHeap Go.Sx Go.Sep
set_option linter.unusedVariables false
set_option maxRecDepth 100000

/-- a slice of many cells, opened: its cells -/
theorem sl_cells {w : World} {e : TypeId} {size : Nat} {p : Option Addr} {m c : Nat} {xs : List Value} (h : Sl w e size (.slice p m c) m xs) (hm : 0 < m) : m ≤ c ∧ ∃ g o, p = some ⟨g, o, none⟩ ∧ ∀ j v, xs[j]? = some v → w.cell? ⟨g, o + j, none⟩ = some v := by
  obtain ⟨hl, h⟩ := h
  rcases h with ⟨-, rfl⟩ | ⟨g, off, cap, cur, hv, hb, h1, h2, h3, h4⟩
  · omega
  · cases hv
    refine ⟨h1, g, off, rfl, fun j v hj => hb.cell' ?_⟩
    have hjl := (List.getElem?_eq_some_iff.1 hj).1
    rw [← h4] at hj
    rw [← Array.getElem?_toList, ← hj, List.getElem?_take_of_lt (by omega), List.getElem?_drop]
/-- one cell of a slice of many cells is written -/
theorem sl_set {w : World} {e : TypeId} {size : Nat} {g o m c : Nat} {xs : List Value} (h : Sl w e size (.slice (some ⟨g, o, none⟩) m c) m xs) {j : Nat} (hj : j < xs.length) (x : Value) :
    (∃ v, w.cell? ⟨g, o + j, none⟩ = some v) ∧ w.frozen? ⟨g, o + j, none⟩ = false ∧ Sep.Post (sl e size (.slice (some ⟨g, o, none⟩) m c) m xs) w (sl e size (.slice (some ⟨g, o, none⟩) m c) m (xs.set j x)) (w.setCell ⟨g, o + j, none⟩ x) := by
  have h0 : Sl w e size (.slice (some ⟨g, o, none⟩) m c) m xs := h
  obtain ⟨hl, h⟩ := h
  rcases h with ⟨h, -⟩ | ⟨g', off', cap', cur, hv, hb, h1, h2, h3, h4⟩
  · simp at h
  · simp at hv
    obtain ⟨⟨rfl, rfl⟩, rfl⟩ := hv
    have hm := Nat.mul_le_mul_right size h1
    refine ⟨⟨cur[o + j], hb.cell' (Array.getElem?_eq_getElem (by omega))⟩, hb.frozen _, ⟨by simpa using hl, .inr ⟨g, o, c, _, rfl, hb.set (o + j) x, h1, h2, by simpa using h3, ?_⟩⟩, (XTouch.refl (fun k => (Value.slice (some ⟨g, o, none⟩) m c).ownBlock = some k) w).setCell (p := ⟨g, o + j, none⟩) (.inl rfl) x, fun q e => .inl e⟩
    rw [Array.toList_setIfInBounds, List.drop_set, if_neg (by omega), Nat.add_sub_cancel_left, List.take_set, h4]
theorem adr_eq {p : Option Addr} {g o : Nat} {f : Nat → Nat → Prop} (e : p = some ⟨g, o, none⟩) (h : f g o) : Sx.adr p f := by subst e; exact h
theorem cells_at {w : World} {g o : Nat} {vs : Array Value} (h : cellsAt w ⟨g, o, none⟩ vs) {i : Nat} {v : Value} (hi : vs[i]? = some v) : w.cell? ⟨g, o + i, none⟩ = some v := by
  have := h i v hi
  rwa [add_none] at this

structure RLine where
  addr : Nat
  state : Nat
  bytes : List Nat
deriving Inhabited
def RLine.cells (x : RLine) : List Value := .int .i64 x.addr :: .int .i64 x.state :: u8n x.bytes
structure RLine.Ok (x : RLine) : Prop where
  addr : x.addr < 4294967296
  state : x.state ≤ 3
  len : x.bytes.length = 16
  byte : ∀ b ∈ x.bytes, b < 256
structure RC where
  S : Nat
  N : Nat
  p : Option Addr
  c : Nat
  L : List RLine
structure RC.Ok (R : RC) : Prop where
  s0 : 1 ≤ R.S
  s1 : R.S ≤ 16
  n0 : 1 ≤ R.N
  n1 : R.N ≤ 4
  len : R.L.length < 65536
  line : ∀ x ∈ R.L, x.Ok
def RC.root (R : RC) : Array Value := #[.int .i64 R.S, .int .i64 R.N, .slice R.p R.L.length R.c]
def linesA (p : Option Addr) (c : Nat) (L : List RLine) : Asn := sl 104 18 (.slice p L.length c) L.length (L.flatMap RLine.cells)
def RC.pieces (b : Nat) (R : RC) : List Asn := [blk b R.root 102, linesA R.p R.c R.L]
def refcA (b : Nat) (R : RC) : Asn := all (R.pieces b)
variable {W w : World} {b : Nat} {R R' : RC} {L : List Asn}
theorem refc_open (h : (refcA b R).at_ W) : St W (refcA b R).own W (R.pieces b ++ []) := (St.begin h).open_
theorem refc_shut (H : St W (refcA b R).own w (R'.pieces b ++ L)) : Sep.Post (refcA b R) W (refcA b R') w := (St.shut H).post 0 rfl
theorem refc_at (h : (refcA b R).at_ W) : here (R.pieces b) W := h
theorem refc_same (h : (refcA b R).at_ W) (hh : Hush W w) : Sep.Post (refcA b R) W (refcA b R) w := ⟨(refcA b R).keep h hh (fun _ _ e => e), hh.mono (fun _ _ e => e.elim), fun q hq => .inl hq⟩
theorem lines18 {L : List RLine} (h : ∀ x ∈ L, x.Ok) : ∀ x ∈ L, x.cells.length = 18 := fun x hx => by simp [RLine.cells, u8n, (h x hx).len]
theorem rline_one (x : RLine) : ∀ v ∈ x.cells, v.oneCell' = true := by
  intro v hv
  simp only [RLine.cells, List.mem_cons] at hv
  rcases hv with rfl | rfl | hv
  · rfl
  · rfl
  · exact u8n_one _ v hv
theorem rlines_one (L : List RLine) : ∀ v ∈ L.flatMap RLine.cells, v.oneCell' = true := by
  intro v hv
  obtain ⟨x, -, hx⟩ := List.mem_flatMap.1 hv
  exact rline_one x v hx
/-- a line in memory -/
theorem rline_at {W : World} {p : Option Addr} {c : Nat} {L : List RLine} (ho : ∀ x ∈ L, x.Ok) (h : (linesA p c L).at_ W) {j : Nat} {x : RLine} (hx : L[j]? = some x) :
    ∃ g o, p = some ⟨g, o, none⟩ ∧ cellsAt W ⟨g, o + j * 18, none⟩ x.cells.toArray := (sl_elem h (lines18 ho) hx (by decide)).2

/-! ### find -/
def RC.find (R : RC) (a : Nat) : Option Nat := R.L.findIdx? fun x => x.addr == a / 16 * 16
def ixI : Option Nat → Int
  | some i => (i : Nat)
  | none => -1
theorem rfind_any {W : World} {b : Nat} {R : RC} (ho : R.Ok) (h : (refcA b R).at_ W) (a : Nat) (ha : a < 4294967296) :
    Calls Tryd.prog 49 #[.pointer (some ⟨b, 0, none⟩), .int .i64 a] W fun e w => e = .returned (.int .i64 (ixI (R.find a))) ∧ w = W := by
  have hlen := ho.len
  have H := refc_open h
  refine vc49 b 0 a ⟨fun x w => ∃ m : Nat, x = m ∧ m ≤ R.L.length ∧ w = W ∧ ∀ j y, j < m → R.L[j]? = some y → y.addr ≠ a / 16 * 16, fun x _ => R.L.length - x.toNat, ⟨0, rfl, by omega, rfl, fun j y hj => by omega⟩, fun _ => ?_⟩
  rintro x0 w ⟨m, rfl, hm, rfl, hnot⟩
  refine ⟨_, _, _, H.ld 0 rfl rfl, split_of (fun q => ?_) (fun q => ?_)⟩
  · have q := of_decide_eq_true q
    have hml : m < R.L.length := by omega
    obtain ⟨x, hx⟩ : ∃ x, R.L[m]? = some x := ⟨_, List.getElem?_eq_getElem hml⟩
    obtain ⟨g, o, hp, hc⟩ := rline_at ho.line (H.nth 1 rfl) hx
    refine ⟨_, _, _, H.ld 0 rfl rfl, ⟨by omega, by omega⟩, adr_eq hp ⟨x.addr, ?_, by decide, ?_⟩⟩
    · rw [Int.toNat_natCast]; exact cells_at (i := 0) hc rfl
    · rintro z rfl z3 rfl
      rw [show Int.tmod (a : Int) 16 = ((a % 16 : Nat) : Int) from rfl, w64 (by omega) (by omega)]
      refine split_of (fun q2 => ⟨?_, rfl⟩) (fun q2 => ?_)
      · have q2 : (x.addr : Int) = (a : Int) - ((a % 16 : Nat) : Int) := by simpa using q2
        have : R.find a = some m := by
          unfold RC.find
          rw [List.findIdx?_eq_some_iff_getElem]
          refine ⟨hml, ?_, fun j hj => ?_⟩
          · have : R.L[m] = x := by rw [List.getElem?_eq_getElem hml] at hx; exact Option.some.inj hx
            rw [this]
            simp; omega
          · have := hnot j _ hj (List.getElem?_eq_getElem (by omega))
            simpa using this
        rw [this]; rfl
      · have q2 : ¬ (x.addr : Int) = (a : Int) - ((a % 16 : Nat) : Int) := by simpa using q2
        rintro z4 rfl
        rw [w64 (by omega) (by omega)]
        refine ⟨⟨m + 1, by omega, by omega, rfl, fun j y hj hy => ?_⟩, by show R.L.length - ((m : Int) + 1).toNat < R.L.length - (m : Int).toNat; omega⟩
        by_cases ej : j = m
        · subst ej; rw [hx] at hy; cases hy; omega
        · exact hnot j y (by omega) hy
  · have q := of_decide_eq_false q
    refine ⟨?_, rfl⟩
    have : R.find a = none := by
      unfold RC.find
      rw [List.findIdx?_eq_none_iff]
      intro y hy
      obtain ⟨j, hj, rfl⟩ := List.getElem_of_mem hy
      have := hnot j _ (by omega) (List.getElem?_eq_getElem hj)
      simpa using this
    rw [this]; rfl
theorem rfind_some {R : RC} {a i : Nat} (h : R.find a = some i) : ∃ x, R.L[i]? = some x ∧ x.addr = a / 16 * 16 := by
  unfold RC.find at h
  rw [List.findIdx?_eq_some_iff_getElem] at h
  obtain ⟨h1, h2, -⟩ := h
  exact ⟨_, List.getElem?_eq_getElem h1, by simpa using h2⟩
/-! ### aligned -/
theorem aligned_any (W : World) (a : Nat) (size : Int) :
    Calls Tryd.prog 50 #[.int .i64 a, .int .i64 size] W fun e w => e = .returned (.bool (decide (fitsAt a size))) ∧ w = W := by
  have go : ∀ s : Nat, (s = 1 ∨ s = 2 ∨ s = 4) → size = s → (Int.tmod (a : Int) size == 0) = decide (fitsAt a size) := by
    rintro s hs rfl
    have hiff : fitsAt a (s : Int) ↔ a % s = 0 := by
      unfold fitsAt
      rw [Int.toNat_natCast]
      omega
    rw [Bits.tmod, Bool.eq_iff_iff, decide_eq_true_iff, hiff]
    simp; omega
  refine vc50 a size (split_of (fun q => ?_) (fun q1 => split_of (fun q => ?_) (fun q2 => split_of (fun q => ?_) (fun q3 => ?_))))
  · have q : size = 1 := by simpa using q
    refine ⟨by omega, ?_⟩
    rintro z rfl
    exact ⟨by rw [go 1 (by omega) q], rfl⟩
  · have q : size = 2 := by simpa using q
    refine ⟨by omega, ?_⟩
    rintro z rfl
    exact ⟨by rw [go 2 (by omega) q], rfl⟩
  · have q : size = 4 := by simpa using q
    refine ⟨by omega, ?_⟩
    rintro z rfl
    exact ⟨by rw [go 4 (by omega) q], rfl⟩
  · have q1 : ¬ size = 1 := by simpa using q1
    have q2 : ¬ size = 2 := by simpa using q2
    have q3 : ¬ size = 4 := by simpa using q3
    refine ⟨?_, rfl⟩
    rw [decide_eq_false (show ¬ fitsAt a size from fun e => by have := e.1; omega)]
/-! ### State -/
def RC.stateAt (R : RC) (a : Nat) : Nat := match R.find a with
  | some i => (R.L.getD i default).state
  | none => 0
theorem rstate_any {W : World} {b : Nat} {R : RC} (ho : R.Ok) (h : (refcA b R).at_ W) (a : Nat) (ha : a < 4294967296) :
    Calls Tryd.prog 35 #[.pointer (some ⟨b, 0, none⟩), .int .i64 a] W fun e w => e = .returned (.int .i64 (R.stateAt a)) ∧ w = W := by
  have H := refc_open h
  refine vc35 b 0 a (H.callp (rfind_any ho h a ha) ⟨_, rfl, split_of (fun q => ?_) (fun q => ?_)⟩)
  · have q := of_decide_eq_true q
    cases hf : R.find a with
    | some i => rw [hf] at q; exact absurd q (by show ¬ (i : Int) < 0; omega)
    | none => refine ⟨?_, rfl⟩; unfold RC.stateAt; rw [hf]; rfl
  · have q := of_decide_eq_false q
    cases hf : R.find a with
    | none => rw [hf] at q; exact absurd (show ixI none < 0 by decide) q
    | some i =>
      obtain ⟨x, hx, -⟩ := rfind_some hf
      have hil := (List.getElem?_eq_some_iff.1 hx).1
      obtain ⟨g, o, hp, hc⟩ := rline_at ho.line (H.nth 1 rfl) hx
      show ∃ p k k2, _
      refine ⟨_, _, _, H.ld 0 rfl rfl, ⟨by show (0 : Int) ≤ (i : Int); omega, by show (i : Int) < _; omega⟩, adr_eq hp ⟨x.state, ?_, ?_, rfl⟩⟩
      · show W.cell? ⟨g, o + ((i : Nat) : Int).toNat * 18 + 1, none⟩ = _
        rw [Int.toNat_natCast]; exact cells_at (i := 1) hc rfl
      · unfold RC.stateAt; rw [hf]; simp only; rw [List.getD_eq_getElem?_getD, hx]; rfl
/-! ### out -/
theorem take_cells {L : List RLine} {i j : Nat} {v : Value} (h : ((L.take i).flatMap RLine.cells)[j]? = some v) : (L.flatMap RLine.cells)[j]? = some v := by
  have hj := (List.getElem?_eq_some_iff.1 h).1
  have e : L.flatMap RLine.cells = (L.take i).flatMap RLine.cells ++ (L.drop i).flatMap RLine.cells := by rw [← List.flatMap_append, List.take_append_drop]
  rw [e, List.getElem?_append_left hj]; exact h
theorem drop_cells {L : List RLine} (ho : ∀ x ∈ L, x.Ok) {i j : Nat} (hi : i ≤ L.length) {v : Value} (h : ((L.drop i).flatMap RLine.cells)[j]? = some v) : (L.flatMap RLine.cells)[i * 18 + j]? = some v := by
  have e : L.flatMap RLine.cells = (L.take i).flatMap RLine.cells ++ (L.drop i).flatMap RLine.cells := by rw [← List.flatMap_append, List.take_append_drop]
  have el : ((L.take i).flatMap RLine.cells).length = i * 18 := by rw [rows_len (lines18 fun x hx => ho x (List.mem_of_mem_take hx)), List.length_take, Nat.min_eq_left hi]
  rw [e, List.getElem?_append_right (by omega), el, show i * 18 + j - i * 18 = j by omega]; exact h
theorem rout_any {W : World} {b : Nat} {R : RC} (ho : R.Ok) (h : (refcA b R).at_ W) {i : Nat} {x : RLine} (hx : R.L[i]? = some x) :
    Calls Tryd.prog 51 #[.pointer (some ⟨b, 0, none⟩), .int .i64 i] W fun e w => ∃ z : Option Addr × Nat, e = .returned (.agg x.cells.toArray) ∧ Sep.Post (refcA b R) W (refcA b { R with p := z.1, c := z.2, L := R.L.eraseIdx i }) w := by
  have hlen := ho.len
  have hil := (List.getElem?_eq_some_iff.1 hx).1
  have h18 := lines18 ho.line x (List.mem_of_getElem? hx)
  have hs18 : x.cells.toArray.size = 18 := by simpa using h18
  have H := refc_open h
  obtain ⟨hcap, g, o, hp, -⟩ := sl_cells (show Sl W 104 18 (.slice R.p R.L.length R.c) R.L.length (R.L.flatMap RLine.cells) from H.nth 1 rfl) (by omega)
  have at_ : ∀ {w : World}, (linesA R.p R.c R.L).at_ w → ∀ j v, (R.L.flatMap RLine.cells)[j]? = some v → w.cell? ⟨g, o + j, none⟩ = some v := by
    intro w hw j v hj
    obtain ⟨-, g2, o2, hp2, h2⟩ := sl_cells (show Sl w 104 18 (.slice R.p R.L.length R.c) R.L.length (R.L.flatMap RLine.cells) from hw) (by omega)
    rw [hp] at hp2
    cases hp2
    exact h2 j v hj
  refine vc51 b 0 i (H.al fun k w2 H => ⟨_, _, _, H.ld 0 rfl rfl, ⟨by omega, by omega⟩, adr_eq hp ?_⟩)
  rw [Int.toNat_natCast]
  have hc : cellsAt w2 ⟨g, o + i * 18, none⟩ x.cells.toArray := by
    obtain ⟨g2, o2, hp2, h2⟩ := rline_at ho.line (H.nth 1 rfl) hx
    rw [hp] at hp2; cases hp2; exact h2
  refine ⟨_, hs18, hc, H.al fun k6 w3 H => H.sts0 3 rfl hs18 rfl (rline_one x) fun w4 H => ⟨_, _, _, H.ld 0 rfl rfl, ⟨by omega, by omega⟩, ?_⟩⟩
  have H := H.add (A := sl 104 18 (.slice none 0 0) 0 []) ⟨Sl.nil _ _ _, XTouch.refl _ _, fun q hq => by cases hq⟩
  have ht : ∀ y ∈ R.L.take i, y.cells.length = 18 := lines18 fun y hy => ho.line y (List.mem_of_mem_take hy)
  have hd : ∀ y ∈ R.L.drop (i + 1), y.cells.length = 18 := lines18 fun y hy => ho.line y (List.mem_of_mem_drop hy)
  refine H.app 4 rfl ((R.L.take i).flatMap RLine.cells) (.inr ⟨_, hp, fun j u hj => ?_⟩) ?_ (rlines_one _) (by have : maxLen = 2 ^ 63 - 1 := rfl; omega) (by omega) fun p2 c2 w5 H => ?_
  · rw [add_none]; exact at_ (H.nth 1 rfl) j u (take_cells hj)
  · rw [rows_len ht, List.length_take, Nat.min_eq_left (by omega)]
  refine ⟨_, _, _, H.ld 0 rfl rfl, ?_⟩
  rintro z rfl
  rw [w64 (by omega) (by omega)]
  have ez : ((i : Int) + 1).toNat = i + 1 := by omega
  refine ⟨⟨by omega, by omega⟩, ?_⟩
  rw [ez]
  have hsub : ∃ o2, Sx.sub R.p R.c (i + 1) 18 = some ⟨g, o2, none⟩ ∧ (R.c ≠ i + 1 → o2 = o + (i + 1) * 18) := by
    unfold Sx.sub
    rw [hp]
    split
    · exact ⟨o, rfl, fun e => by omega⟩
    · exact ⟨o + (i + 1) * 18, by rw [Option.map_some, add_none], fun _ => rfl⟩
  obtain ⟨o2, hsub, ho2⟩ := hsub
  refine H.app 4 rfl ((R.L.drop (i + 1)).flatMap RLine.cells) (.inr ⟨_, hsub, fun j u hj => ?_⟩) ?_ (rlines_one _) (by have : maxLen = 2 ^ 63 - 1 := rfl; omega) (by omega) fun p5 c5 w6 H => ?_
  · have : R.c ≠ i + 1 := by
      intro e
      have := (List.getElem?_eq_some_iff.1 hj).1
      rw [rows_len hd, List.length_drop] at this
      omega
    rw [add_none, ho2 this, Nat.add_assoc]
    exact at_ (H.nth 1 rfl) _ u (drop_cells ho.line (by omega) hj)
  · rw [rows_len hd, List.length_drop]
  have el : 0 + i + (R.L.length - (i + 1)) = (R.L.eraseIdx i).length := by rw [List.length_eraseIdx_of_lt hil]; omega
  have ec : [] ++ (R.L.take i).flatMap RLine.cells ++ (R.L.drop (i + 1)).flatMap RLine.cells = (R.L.eraseIdx i).flatMap RLine.cells := by
    rw [List.nil_append, ← List.flatMap_append, List.eraseIdx_eq_take_drop_succ]
  rw [el, ec] at H
  rw [el]
  refine H.st 0 rfl (by show 2 < 3; omega) fun w7 H => ⟨_, hs18, H.cells 3 rfl, H.sts0 2 rfl hs18 rfl (rline_one x) fun w8 H => ⟨_, hs18, H.cells 2 rfl, (p5, c5), rfl, ?_⟩⟩
  exact refc_shut (R' := { R with p := p5, c := c5, L := R.L.eraseIdx i }) (L := []) (H.pick [0, 4])
theorem rout_ok {R : RC} (ho : R.Ok) (i : Nat) (p : Option Addr) (c : Nat) : RC.Ok { R with p := p, c := c, L := R.L.eraseIdx i } :=
  ⟨ho.s0, ho.s1, ho.n0, ho.n1, Nat.lt_of_le_of_lt (List.length_eraseIdx_le _ _) ho.len, fun x hx => ho.line x (List.mem_of_mem_eraseIdx hx)⟩
end Go.Proofs.YtbiogceijdcoiaaDoor
