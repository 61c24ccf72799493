/- The bus, part A: what stands in memory; within, Busy, State, Ask, next, memory, keep, Read, Write. No condition. -/
import Derived.Test.YthacioiefgabbaaGreatDoorBusVc
import Derived.Test.YthacioiefgabbaaGreatDoorCacheF
namespace Go.Proofs.YthacioiefgabbaaGreatDoor.cbus
open Go.RowKit Go.XHeap Go.Sx Go.Sep
set_option linter.unusedVariables false
set_option maxRecDepth 100000

/-- the bus, plainly -/
structure PB where
  Cs : List CS
  mem : List Nat
  cyc : Nat
  asks : Nat → Option (Nat × Bool)
  last : Nat
  now : Option Nat
  left : Nat
/-- where it lies -/
structure BP where
  p : Option Addr
  c : Nat
  gs : List Nat
  dp : Option Addr
  dc : Nat
  mb : Nat
def noCS : CS := ⟨0, 0, 0, 0, [], 0, [], 0⟩
def PB.C (S : PB) (k : Nat) : CS := S.Cs.getD k noCS
def PB.len (S : PB) : Nat := S.mem.length
def nowI : Option Nat → Int
  | none => -1
  | some k => k
def askV : Option (Nat × Bool) → Option Value := Option.map fun a => .agg #[.int .u32 (a.1 : Nat), .bool a.2]
def askF (f : Nat → Option (Nat × Bool)) : Int → Option Value := fun z => if 0 ≤ z then askV (f z.toNat) else none
theorem askF_nat (f : Nat → Option (Nat × Bool)) (k : Nat) : askF f k = askV (f k) := by unfold askF; rw [if_pos (by omega), Int.toNat_natCast]
structure PB.Ok (S : PB) (m : Nat) : Prop where
  n : S.Cs.length = 1 ∨ S.Cs.length = 2
  cs : ∀ k, k < S.Cs.length → (S.C k).Good S.len m
  l16 : S.len % 16 = 0
  len : S.len ≤ 4096
  byte : ∀ x ∈ S.mem, x < 256
  cyc : S.cyc ≤ 10
  asks : ∀ k a w, S.asks k = some (a, w) → k < S.Cs.length ∧ LineOk S.len a
  last : S.last < S.Cs.length
  now : ∀ k, S.now = some k → k < S.Cs.length ∧ (S.asks k).isSome = true
  left : S.left ≤ 10
def BP.root (B : BP) (S : PB) : Array Value := #[.slice B.p S.Cs.length B.c, .int .i64 S.cyc, .slice B.dp S.len B.dc, .map (some B.mb), .int .i64 S.last, .int .i64 (nowI S.now), .int .i64 S.left]
def BP.ptrs (B : BP) : List Value := B.gs.map fun g => .pointer (some ⟨g, 0, none⟩)
def memA (p : Option Addr) (c : Nat) (l : List Nat) : Asn := sl 5 1 (.slice p l.length c) l.length (u8n l)
def BP.pieces (b : Nat) (B : BP) (S : PB) : List Asn := [blk b (B.root S) 132, sl 133 1 (.slice B.p S.Cs.length B.c) S.Cs.length B.ptrs, all (List.zipWith cacheA B.gs S.Cs), mp .i64 B.mb (askF S.asks), memA B.dp B.dc S.mem]
def busA (b : Nat) (B : BP) (S : PB) : Asn := all (B.pieces b S)
variable {W w : World} {b m : Nat} {B : BP} {S S' : PB} {L : List Asn}
theorem bus_open (h : (busA b B S).at_ W) : St W (busA b B S).own W (B.pieces b S ++ []) := (St.begin h).open_
theorem bus_shut (H : St W (busA b B S).own w (B.pieces b S' ++ L)) : Sep.Post (busA b B S) W (busA b B S') w := (St.shut H).post 0 rfl
theorem bus_at (h : (busA b B S).at_ W) : here (B.pieces b S) W := h
theorem u8n_length (l : List Nat) : (u8n l).length = l.length := by simp [u8n]
/-! ### the pieces -/
theorem caches_at (hB : B.gs.length = S.Cs.length) {k : Nat} (hk : k < S.Cs.length) : (List.zipWith cacheA B.gs S.Cs)[k]? = some (cacheA (B.gs.getD k 0) (S.C k)) := by
  unfold PB.C
  rw [List.getElem?_zipWith, List.getD_eq_getElem?_getD, List.getD_eq_getElem?_getD, List.getElem?_eq_getElem (by omega), List.getElem?_eq_getElem hk]
  rfl
theorem caches_set {gs : List Nat} {Cs : List CS} (k : Nat) (hk : k < gs.length) (C : CS) : (List.zipWith cacheA gs Cs).set k (cacheA (gs.getD k 0) C) = List.zipWith cacheA gs (Cs.set k C) := by
  have hg : gs[k]? = some (gs.getD k 0) := by rw [List.getD_eq_getElem?_getD, List.getElem?_eq_getElem hk]; rfl
  apply List.ext_getElem?
  intro j
  rw [List.getElem?_set, List.getElem?_zipWith, List.getElem?_zipWith, List.getElem?_set]
  by_cases e : k = j
  · subst e
    rw [if_pos rfl, if_pos rfl, hg]
    by_cases hl : k < Cs.length
    · rw [if_pos hl, if_pos (by simp; omega)]
    · rw [if_neg hl, if_neg (by simp; omega)]
  · rw [if_neg e, if_neg e]
theorem ptr_cell (hs : Sl w 133 1 (.slice B.p S.Cs.length B.c) S.Cs.length B.ptrs) (hB : B.gs.length = S.Cs.length) {k : Nat} (hk : k < S.Cs.length) :
    ∃ g off, B.p = some ⟨g, off, none⟩ ∧ w.cell? ⟨g, off + k, none⟩ = some (.pointer (some ⟨B.gs.getD k 0, 0, none⟩)) := by
  obtain ⟨ao, cap, hv, hl, -, -, -, hc⟩ := hs.open1
  obtain ⟨g, off, rfl, -, hc⟩ := hc (by omega)
  simp only [Value.slice.injEq] at hv
  refine ⟨g, off, hv.1, ?_⟩
  rw [(hc k hk).1]
  unfold BP.ptrs
  rw [List.getElem?_map, List.getElem?_eq_getElem (by omega), List.getD_eq_getElem?_getD, List.getElem?_eq_getElem (by omega)]
  rfl
theorem mem_at {p : Option Addr} {c : Nat} {l : List Nat} (hs : (memA p c l).at_ w) : l.length ≤ c ∧ (0 < l.length → ∃ g off, p = some ⟨g, off, none⟩ ∧ ∀ i, i < l.length → w.cell? ⟨g, off + i, none⟩ = some (.int .u8 (l.getD i 0 : Nat)) ∧ w.frozen? ⟨g, off + i, none⟩ = false) := by
  obtain ⟨ao, cap, hv, hl, -, h2, -, hc⟩ := Sl.open1 hs
  cases hv
  refine ⟨h2, fun h0 => ?_⟩
  obtain ⟨g, off, rfl, -, hc⟩ := hc h0
  refine ⟨g, off, rfl, fun i hi => ⟨?_, (hc i hi).2⟩⟩
  rw [(hc i hi).1]
  unfold u8n
  rw [List.getElem?_map, List.getElem?_eq_getElem hi, List.getD_eq_getElem?_getD, List.getElem?_eq_getElem hi]
  rfl
/-! ### within, Busy, State -/
def PB.within (S : PB) (core : Int) (a : Nat) : Bool := decide (0 ≤ core ∧ core < S.Cs.length ∧ 65536 ≤ a ∧ a < 65536 + S.len)
theorem ask_one (a : Nat) (t : Bool) : ∀ v ∈ (#[.int .u32 (a : Nat), .bool t] : Array Value).toList, v.oneCell' = true := by
  intro v hv
  simp only [List.mem_cons, List.not_mem_nil, or_false] at hv
  rcases hv with rfl | rfl <;> rfl
theorem ask_val (f : Nat → Option (Nat × Bool)) (z : Int) : ∃ (a : Nat) (t : Bool), (askF f z).getD (.agg #[.int .u32 0, .bool false]) = .agg #[.int .u32 (a : Nat), .bool t] := by
  unfold askF askV
  split
  · cases f z.toNat with
    | none => exact ⟨0, false, rfl⟩
    | some x => exact ⟨x.1, x.2, rfl⟩
  · exact ⟨0, false, rfl⟩
def PB.busy (S : PB) (core : Int) : Bool := (askF S.asks core).isSome
theorem busy_any (hA : (busA b B S).at_ W) (core : Int) :
    Calls Tryz.prog 98 #[.pointer (some ⟨b, 0, none⟩), .int .i64 core] W fun e w => e = .returned (.bool (S.busy core)) ∧ Hush W w := by
  have H := bus_open hA
  obtain ⟨a, t, hat⟩ := ask_val S.asks core
  refine vc98 b 0 core ⟨_, H.ld 0 rfl rfl, ?_⟩
  refine ⟨_, H.look 3 rfl, _, hat, ?_⟩
  have H := St.nil W
  refine H.al fun k w2 H => H.sts0 0 rfl rfl rfl (ask_one a t) fun w3 H => ⟨rfl, H.touch⟩
def PB.state (S : PB) (core : Int) (a : Nat) : Nat := if S.within core a then (S.C core.toNat).stateAt a else 0
/-! ### Read, Write -/
def PB.setC (S : PB) (k : Nat) (C : CS) : PB := { S with Cs := S.Cs.set k C }
theorem setC_post (hA : (busA b B S).at_ W) (hB : B.gs.length = S.Cs.length) {k : Nat} (hk : k < S.Cs.length) {C : CS} (hp : Sep.Post (cacheA (B.gs.getD k 0) (S.C k)) W (cacheA (B.gs.getD k 0) C) w) : Sep.Post (busA b B S) W (busA b B (S.setC k C)) w := by
  have H := bus_open hA
  have H := H.upd 2 rfl (all_upd (H.nth 2 rfl) (caches_at hB hk) hp)
  rw [caches_set k (by omega)] at H
  refine bus_shut (L := []) ?_
  have e : (S.setC k C).Cs.length = S.Cs.length := List.length_set
  unfold BP.pieces BP.root
  rw [e]
  exact H
theorem setC_C {k j : Nat} (hk : k < S.Cs.length) (C : CS) : (S.setC k C).C j = if k = j then C else S.C j := by
  unfold PB.C PB.setC
  dsimp only
  rw [List.getD_eq_getElem?_getD, List.getElem?_set]
  by_cases e : k = j
  · rw [if_pos e, if_pos e, if_pos hk]; rfl
  · rw [if_neg e, if_neg e, List.getD_eq_getElem?_getD]
theorem setC_ok (ho : S.Ok m) {k : Nat} (hk : k < S.Cs.length) {C : CS} {m' : Nat} (hm : m ≤ m') (hC : C.Good S.len m') : (S.setC k C).Ok m' := by
  have e : (S.setC k C).Cs.length = S.Cs.length := List.length_set
  refine ⟨by rw [e]; exact ho.n, fun j hj => ?_, ho.l16, ho.len, ho.byte, ho.cyc, fun j a w h => by rw [e]; exact ho.asks j a w h, by rw [e]; exact ho.last, fun j h => by rw [e]; exact ho.now j h, ho.left⟩
  rw [setC_C hk]
  split
  · exact hC
  · exact (ho.cs j (by omega)).mono hm
def PB.readT (S : PB) (core : Int) (a : Nat) (sz : Int) : Bool := if S.within core a then (S.C core.toNat).readT a sz else false
def PB.readV (S : PB) (core : Int) (a : Nat) (sz : Int) : Nat := if S.within core a then (S.C core.toNat).readV a sz else 0
def PB.readN (S : PB) (core : Int) (a : Nat) (sz : Int) : PB := if S.within core a then S.setC core.toNat ((S.C core.toNat).readN a sz) else S
def PB.writeT (S : PB) (core : Int) (a : Nat) (sz : Int) : Bool := if S.within core a then (S.C core.toNat).writeT a sz else false
def PB.writeN (S : PB) (core : Int) (a : Nat) (sz : Int) (d : Nat) : PB := if S.within core a then S.setC core.toNat ((S.C core.toNat).writeN a sz d) else S
end Go.Proofs.YthacioiefgabbaaGreatDoor.cbus
