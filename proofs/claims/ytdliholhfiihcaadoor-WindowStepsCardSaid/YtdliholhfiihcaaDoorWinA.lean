/- The window, part A: what stands in memory; at, has, able, Len, Head. No condition. -/
import Derived.Test.YtdliholhfiihcaaDoorWinVc
import Derived.Test.YtdliholhfiihcaaDoorSep
import Derived.Test.YtdliholhfiihcaaDoorBits
namespace Go.Proofs.YtdliholhfiihcaaDoor
open Go.RowKit Go.XHeap Go.Sx Go.Sep
set_option linter.unusedVariables false
set_option maxRecDepth 100000

structure Slot where
  cls : Int
  s1 : Int
  s2 : Int
  dst : Int
  st : Nat
  seq : Int
deriving Inhabited
def Slot.cells (s : Slot) : List Value := [.int .i64 s.cls, .int .i64 s.s1, .int .i64 s.s2, .int .i64 s.dst, .int .u8 s.st, .int .i64 s.seq]
theorem slot_len (l : List Slot) : ∀ s ∈ l, s.cells.length = 6 := fun _ _ => rfl
structure WS where
  g : Nat
  S : Nat
  head : Nat
  n : Nat
  next : Nat
  ring : List Slot
  rg : Nat
  R : Nat
  ready : List Bool
def bools (l : List Bool) : Array Value := (l.map Value.bool).toArray
theorem bools_get {l : List Bool} {i : Nat} {x : Bool} (h : l[i]? = some x) : (bools l)[i]? = some (.bool x) := by simp [bools, h]
theorem bools_size (l : List Bool) : (bools l).size = l.length := by simp [bools]
theorem bools_set (l : List Bool) (i : Nat) (x : Bool) : (bools l).setIfInBounds i (.bool x) = bools (l.set i x) := by simp [bools, List.map_set]
structure WS.Ok (w : WS) : Prop where
  s0 : 2 ≤ w.S
  s1 : w.S ≤ 64
  ring : w.ring.length = w.S
  head : w.head < w.S
  n : w.n ≤ w.S
  next : w.next < 4611686018427387904
  r0 : 34 ≤ w.R
  r1 : w.R ≤ 128
  ready : w.ready.length = w.R
  st : ∀ s ∈ w.ring, s.st < 256
def WS.root (w : WS) : Array Value := #[.slice (some ⟨w.g, 0, none⟩) w.S w.S, .int .i64 w.head, .int .i64 w.n, .int .i64 w.next, .slice (some ⟨w.rg, 0, none⟩) w.R w.R]
def WS.pieces (b : Nat) (w : WS) : List Asn := [blk b w.root 72, blk w.g (rows Slot.cells w.ring) 76, blk w.rg (bools w.ready) 4]
def winA (b : Nat) (w : WS) : Asn := all (w.pieces b)
variable {W w' : World} {b : Nat} {w v : WS}
theorem win_open (h : (winA b w).at_ W) : St W (winA b w).own W (w.pieces b ++ []) := (St.begin h).open_
theorem win_shut {L : List Asn} (H : St W (winA b w).own w' (v.pieces b ++ L)) : Sep.Post (winA b w) W (winA b v) w' := (St.shut H).post 0 rfl
theorem win_same (h : (winA b w).at_ W) (hh : Hush W w') : Sep.Post (winA b w) W (winA b w) w' := ⟨(winA b w).keep h hh (fun _ _ e => e), hh.mono (fun _ _ e => e.elim), fun q hq => .inl hq⟩
/-- the place of the k-th oldest -/
def WS.ix (w : WS) (k : Nat) : Nat := (w.head + k) % w.S
theorem WS.Ok.ix_lt (h : w.Ok) (k : Nat) : w.ix k < w.ring.length := by rw [h.ring]; exact Nat.mod_lt _ (by have := h.s0; omega)
def WS.slot (w : WS) (k : Nat) : Slot := w.ring.getD (w.ix k) default
theorem slot_at (h : w.Ok) (k : Nat) : w.ring[w.ix k]? = some (w.slot k) := by unfold WS.slot; rw [List.getD_eq_getElem?_getD, List.getElem?_eq_getElem (h.ix_lt k)]; rfl
theorem slot_cell (h : w.Ok) (hb : Blk W w.g (rows Slot.cells w.ring) 76) (k : Nat) {q : Nat} (hq : q < 6) {x : Value} (hx : (w.slot k).cells[q]? = some x) : W.cell? ⟨w.g, w.ix k * 6 + q, none⟩ = some x :=
  hb.cell' (rows_get (slot_len _) (slot_at h k) hq hx)
theorem at_any (ho : w.Ok) (h : (winA b w).at_ W) (k : Nat) (hk : k ≤ 64) :
    Calls Tryd.prog 30 #[.pointer (some ⟨b, 0, none⟩), .int .i64 k] W fun e w2 => e = .returned (.pointer (some ⟨w.g, w.ix k * 6, none⟩)) ∧ ∃ n, w2 = W.drewN n := by
  have H := win_open h
  have hs0 := ho.s0
  have hs1 := ho.s1
  have hh := ho.head
  refine vc30 b 0 k ⟨_, _, _, H.ld 0 rfl rfl, w.head, H.ld 0 rfl rfl, ?_⟩
  rintro z2 rfl
  rw [w64 (by omega) (by omega)]
  refine ⟨_, _, _, H.ld 0 rfl rfl, by omega, ?_⟩
  rintro z3 rfl
  have e : Int.tmod ((w.head : Int) + (k : Int)) (w.S : Int) = ((w.ix k : Nat) : Int) := by
    rw [show ((w.head : Int) + (k : Int)) = ((w.head + k : Nat) : Int) by omega]; rfl
  have hi := ho.ix_lt k
  rw [ho.ring] at hi
  rw [e]
  refine ⟨⟨by omega, by omega⟩, adr_some ?_⟩
  rintro w2 n rfl
  rw [Int.toNat_natCast, Nat.zero_add]
  exact ⟨rfl, n, rfl⟩
theorem hush_drewN (n : Nat) : Hush W (W.drewN n) := (XTouch.refl _ _).drewN n
/-- may it begin, as far as this register goes? -/
def WS.has (w : WS) (p : Int) : Bool := decide (p < 0) || w.ready.getD p.toNat false
theorem has_any (ho : w.Ok) (h : (winA b w).at_ W) (p : Int) (hp : p < w.R) :
    Calls Tryd.prog 43 #[.pointer (some ⟨b, 0, none⟩), .int .i64 p] W fun e w2 => e = .returned (.bool (w.has p)) ∧ w2 = W := by
  have H := win_open h
  refine vc43 b 0 p (split_of (fun q => ⟨?_, rfl⟩) (fun q => ?_))
  · unfold WS.has; rw [q]; rfl
  · have q' := of_decide_eq_false q
    have hl : p.toNat < w.ready.length := by rw [ho.ready]; omega
    obtain ⟨t, ht⟩ : ∃ t, w.ready[p.toNat]? = some t := ⟨_, List.getElem?_eq_getElem hl⟩
    refine ⟨_, _, _, H.ld 0 rfl rfl, ⟨by omega, by omega⟩, adr_some ⟨t, ?_, ?_, rfl⟩⟩
    · rw [show 0 + p.toNat * 1 = p.toNat by omega]
      exact H.ld 2 rfl (bools_get ht)
    · unfold WS.has
      rw [q, List.getD_eq_getElem?_getD, ht]
      rfl
def Slot.regs (s : Slot) (R : Nat) : Prop := s.s1 < R ∧ s.s2 < R
def WS.able (w : WS) (s : Slot) : Bool := decide (s.st = 0) && w.has s.s1 && w.has s.s2
theorem able_any (ho : w.Ok) (h : (winA b w).at_ W) (k : Nat) (hr : (w.slot k).regs w.R) :
    Calls Tryd.prog 33 #[.pointer (some ⟨b, 0, none⟩), .pointer (some ⟨w.g, w.ix k * 6, none⟩)] W fun e w2 => e = .returned (.bool (w.able (w.slot k))) ∧ w2 = W := by
  have H := win_open h
  have hg : Blk W w.g (rows Slot.cells w.ring) 76 := H.nth 1 rfl
  refine vc33 b 0 w.g (w.ix k * 6) ⟨(w.slot k).st, slot_cell ho hg k (q := 4) (by omega) rfl, split_of (fun q => ?_) (fun q => ⟨?_, rfl⟩)⟩
  · have q0 : (w.slot k).st = 0 := by have : ((w.slot k).st : Int) = 0 := by simpa using q
                                      omega
    refine ⟨(w.slot k).s1, slot_cell ho hg k (q := 1) (by omega) rfl, H.callp (has_any ho h _ hr.1) ⟨_, rfl, split_of (fun q1 => ?_) (fun q1 => ⟨?_, rfl⟩)⟩⟩
    · refine ⟨(w.slot k).s2, slot_cell ho hg k (q := 2) (by omega) rfl, H.callp (has_any ho h _ hr.2) ⟨_, rfl, ?_, rfl⟩⟩
      unfold WS.able
      rw [q0, q1]; rfl
    · unfold WS.able
      rw [q0, q1]; rfl
  · have q0 : ¬ (w.slot k).st = 0 := fun e => by rw [e] at q; simp at q
    unfold WS.able
    rw [decide_eq_false q0]; rfl
theorem wlen_any (h : (winA b w).at_ W) : Calls Tryd.prog 14 #[.pointer (some ⟨b, 0, none⟩)] W fun e w2 => e = .returned (.int .i64 w.n) ∧ w2 = W :=
  vc14 b 0 ⟨w.n, (win_open h).ld 0 rfl rfl, rfl, rfl⟩
def WS.headR (w : WS) : Value := if w.n = 0 then .tuple #[.int .i64 0, .bool false, .bool false] else .tuple #[.int .i64 (w.slot 0).seq, .bool (decide ((w.slot 0).st = 2)), .bool true]
theorem whead_any (ho : w.Ok) (h : (winA b w).at_ W) : Calls Tryd.prog 27 #[.pointer (some ⟨b, 0, none⟩)] W fun e w2 => e = .returned w.headR ∧ Hush W w2 := by
  have H := win_open h
  refine vc27 b 0 ⟨w.n, H.ld 0 rfl rfl, split_of (fun q => ⟨?_, XTouch.refl _ _⟩) (fun q => ?_)⟩
  · have q0 : w.n = 0 := by have : (w.n : Int) = 0 := by simpa using q
                            omega
    unfold WS.headR; rw [if_pos q0]
  · have q0 : ¬ w.n = 0 := fun e => by rw [e] at q; simp at q
    refine (at_any ho h 0 (by omega)).mono ?_
    rintro e w2 ⟨rfl, n, rfl⟩
    have H := H.drewN n
    have hg : Blk (W.drewN n) w.g (rows Slot.cells w.ring) 76 := H.nth 1 rfl
    refine ⟨_, rfl, ptr_some ⟨(w.slot 0).seq, ?_, ptr_some ⟨(w.slot 0).st, ?_, ?_⟩⟩⟩
    · rw [add_none]; exact slot_cell ho hg 0 (q := 5) (by omega) rfl
    · rw [add_none]; exact slot_cell ho hg 0 (q := 4) (by omega) rfl
    · rintro w3 m rfl
      refine ⟨?_, (hush_drewN n).trans (hush_drewN m) (fun _ _ e => e)⟩
      unfold WS.headR
      rw [if_neg q0]
      have : (((w.slot 0).st : Int) == 2) = decide ((w.slot 0).st = 2) := by rw [Bool.eq_iff_iff]; simp; omega
      rw [this]
end Go.Proofs.YtdliholhfiihcaaDoor
