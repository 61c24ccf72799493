import Derived.Test.YthacioiefgabbaaGreatDoorBusC
import Derived.Test.YthacioiefgabbaaGreatDoorCacheF
/- The bus, part D: Tick, Clone, New. No condition. -/
namespace Go.Proofs.YthacioiefgabbaaGreatDoor.cbus
open Go.RowKit Go.XHeap Go.Sx Go.Sep
set_option linter.unusedVariables false
set_option maxRecDepth 100000
variable {W w : World} {b m : Nat} {B : BP} {S S' : PB} {L : List Asn}
/-! ### Tick -/
def PB.turn (S : PB) : PB := if S.now = none then { S with now := S.next, left := S.cyc } else S
def PB.taken (S : PB) (c : Nat) : PB := { S with asks := fun k => if k = c then none else S.asks k, last := c, now := none }
def PB.tick (S : PB) : LS := match S.turn.now with
  | none => ⟨S.turn, [], 0⟩
  | some c => if 0 < S.turn.left then ⟨{ S.turn with left := S.turn.left - 1 }, [], 0⟩ else match S.turn.asks c with
    | none => ⟨S.turn, [], 0⟩
    | some x => (S.turn.taken c).done c x.1 x.2
theorem turn_ok (ho : S.Ok m) : S.turn.Ok m := by
  unfold PB.turn
  split
  · exact ⟨ho.n, ho.cs, ho.l16, ho.len, ho.byte, ho.cyc, ho.asks, ho.last, fun k h => next_ok ho h, ho.cyc⟩
  · exact ho
theorem taken_ok (ho : S.Ok m) {c : Nat} (hc : c < S.Cs.length) : (S.taken c).Ok m := by
  refine ⟨ho.n, ho.cs, ho.l16, ho.len, ho.byte, ho.cyc, fun k a w h => ?_, hc, fun k h => (by cases h), ho.left⟩
  unfold PB.taken at h
  dsimp only at h
  split at h
  · cases h
  · exact ho.asks k a w h
theorem turn_n : S.turn.Cs.length = S.Cs.length := by unfold PB.turn; split <;> rfl
theorem Ok.mono (ho : S.Ok m) {m' : Nat} (h : m ≤ m') : S.Ok m' := ⟨ho.n, fun k hk => (ho.cs k hk).mono h, ho.l16, ho.len, ho.byte, ho.cyc, ho.asks, ho.last, ho.now, ho.left⟩
theorem tick_ok' (ho : S.Ok m) (hm : m + 1 < 4611686018427387904) : S.tick.S.Ok (m + 1) ∧ S.tick.S.Cs.length = S.Cs.length ∧ S.tick.S.len = S.len ∧ S.tick.out.length ≤ 4 := by
  have h1 := turn_ok ho
  have hn := ho.n
  have ht : S.turn.len = S.len := by unfold PB.turn; split <;> rfl
  unfold PB.tick
  cases hnow : S.turn.now with
  | none => exact ⟨Ok.mono h1 (by omega), turn_n, ht, Nat.zero_le _⟩
  | some c =>
    dsimp only
    obtain ⟨hc, hs⟩ := h1.now c hnow
    split
    · have hl := h1.left
      exact ⟨Ok.mono (S := { S.turn with left := S.turn.left - 1 }) (m := m) ⟨h1.n, h1.cs, h1.l16, h1.len, h1.byte, h1.cyc, h1.asks, h1.last, h1.now, by show S.turn.left - 1 ≤ 10; omega⟩ (by omega), turn_n, ht, Nat.zero_le _⟩
    · cases ha : S.turn.asks c with
      | none => rw [ha] at hs; cases hs
      | some x =>
        dsimp only
        have hl := (h1.asks c x.1 x.2 ha).2
        have hd := done_ok (taken_ok h1 hc) hm (core := c) (a := x.1) hc hl x.2
        refine ⟨hd.ok, hd.same.n.trans turn_n, hd.same.len.trans ht, ?_⟩
        have := hd.out
        have e : (S.turn.taken c).Cs.length = S.Cs.length := turn_n
        omega
theorem tick_any (hA : (busA b B S).at_ W) (ho : S.Ok m) (hm : m + 1 < 4611686018427387904) (hB : B.gs.length = S.Cs.length) :
    Calls Tryz.prog 48 #[.pointer (some ⟨b, 0, none⟩)] W fun e w => ∃ z : Option Addr × Nat, e = .returned (.slice z.1 S.tick.out.length z.2) ∧ Sep.Post (busA b B S) W (all [busA b B S.tick.S, outA z.1 z.2 S.tick.out]) w := by
  have H := St.begin hA
  have h1 := turn_ok ho
  have upd_busy : ∀ {w : World} {cs : Array Value} {S' : PB}, St W (busA b B S).own w ([blk b cs 132, sl 133 1 (.slice B.p S.Cs.length B.c) S.Cs.length B.ptrs, all (List.zipWith cacheA B.gs S.Cs), mp .i64 B.mb (askF S'.asks), memA B.dp B.dc S.mem] ++ []) → S'.Cs = S.Cs → S'.mem = S.mem → B.root S' = cs → St W (busA b B S).own w [busA b B S'] := by
    intro w cs S' H e1 e2 e3
    have : busA b B S' = all [blk b cs 132, sl 133 1 (.slice B.p S.Cs.length B.c) S.Cs.length B.ptrs, all (List.zipWith cacheA B.gs S.Cs), mp .i64 B.mb (askF S'.asks), memA B.dp B.dc S.mem] := by
      unfold busA BP.pieces
      rw [e1, e2, e3]
    rw [this]
    exact H.shut
  refine vc48 b 0 ⟨fun w => St W (busA b B S).own w [busA b B S.turn], ?_, fun _ => ?_⟩
  · refine ⟨_, (bus_open (H.nth 0 rfl)).ld 0 rfl rfl, split_of (fun q => ?_) (fun q => ?_)⟩
    · have q : S.now = none := by
        cases hq : S.now with
        | none => rfl
        | some k => rw [hq] at q; simp [nowI] at q
      have et : S.turn = { S with now := S.next, left := S.cyc } := by unfold PB.turn; rw [if_pos q]
      rw [et]
      have fin : ∀ {w : World} {φ : World → Prop}, St W (busA b B S).own w [busA b B S] → (∀ w', St W (busA b B S).own w' [busA b B { S with now := S.next, left := S.cyc }] → φ w') →
          (∃ v, w.cell? ⟨b, 0 + 5, none⟩ = some v) ∧ w.frozen? ⟨b, 0 + 5, none⟩ = false ∧ ∀ w4 : World, w4 = w.setCell ⟨b, 0 + 5, none⟩ (.int .i64 (nowI S.next)) → (∃ v, w4.cell? ⟨b, 0 + 6, none⟩ = some v) ∧ w4.frozen? ⟨b, 0 + 6, none⟩ = false ∧ ∀ w5 : World, w5 = w4.setCell ⟨b, 0 + 6, none⟩ (.int .i64 (S.cyc : Nat)) → φ w5 := by
        intro w φ H hφ
        have H : St W (busA b B S).own w (B.pieces b S ++ []) := H.open_
        exact H.st 0 rfl (by show 5 < 7; decide) fun w4 H => H.st 0 rfl (by show 6 < 7; decide) fun w5 H => hφ w5 (upd_busy H rfl rfl rfl)
      refine H.dr fun w2 H => ⟨?_, _, (bus_open (H.nth 0 rfl)).ld 0 rfl rfl, RowKit.Below.refl _ _, ?_⟩
      · refine H.callq (next_any (H.nth 0 rfl) ho) fun w3 H => ⟨_, rfl, _, (bus_open (H.nth 0 rfl)).ld 0 rfl rfl, fin H fun w' H => H⟩
      · exact H.callq (next_any (H.nth 0 rfl) ho) fun w3 H => ⟨_, rfl, fin H fun w' H => H⟩
    · have q : ¬ S.now = none := by
        intro e
        rw [e] at q
        cases q
      have et : S.turn = S := by unfold PB.turn; rw [if_neg q]
      rw [et]
      exact H
  · clear H
    intro w9 H
    have hA1 := H.nth 0 rfl
    have hBt : B.gs.length = S.turn.Cs.length := by rw [turn_n]; exact hB
    have nilout : ∀ {S' : PB} {w : World}, S.tick = ⟨S', [], 0⟩ → St W (busA b B S).own w [busA b B S'] → ∃ z : Option Addr × Nat, Ending.returned (.slice none 0 0) = .returned (.slice z.1 S.tick.out.length z.2) ∧ Sep.Post (busA b B S) W (all [busA b B S.tick.S, outA z.1 z.2 S.tick.out]) w := by
      intro S' w e H
      rw [e]
      have H : St W (busA b B S).own w ([busA b B S', outA none 0 []] ++ []) := H.add (A := outA none 0 []) ⟨Sl.nil _ _ _, XTouch.refl _ _, fun q e => by cases e⟩
      exact ⟨(none, 0), rfl, H.shut.post 0 rfl⟩
    refine ⟨_, (bus_open hA1).ld 0 rfl rfl, split_of (fun q => ?_) (fun q => ?_)⟩
    · have q : S.turn.now = none := by
        cases hq : S.turn.now with
        | none => rfl
        | some k => rw [hq] at q; simp [nowI] at q
      exact nilout (by unfold PB.tick; rw [q]) H
    obtain ⟨c, hnow⟩ : ∃ c, S.turn.now = some c := by
      cases hq : S.turn.now with
      | none => rw [hq] at q; cases q
      | some k => exact ⟨k, rfl⟩
    obtain ⟨hc, hs⟩ := h1.now c hnow
    have hleft := h1.left
    refine ⟨_, (bus_open hA1).ld 0 rfl rfl, split_of (fun q2 => ?_) (fun q2 => ?_)⟩
    · have q2 := of_decide_eq_true q2
      refine ⟨_, (bus_open hA1).ld 0 rfl rfl, ?_⟩
      rintro z9 rfl
      rw [show (S.turn.left : Int) - 1 = ((S.turn.left - 1 : Nat) : Int) by omega, Bits.n64 (by omega)]
      have H : St W (busA b B S).own w9 (B.pieces b S.turn ++ []) := H.open_
      refine H.st 0 rfl (by show 6 < 7; decide) fun w10 H => ?_
      refine nilout (S' := { S.turn with left := S.turn.left - 1 }) (by unfold PB.tick; rw [hnow]; dsimp only; rw [if_pos (by omega)]) ?_
      exact H.shut
    · have q2 := of_decide_eq_false q2
      obtain ⟨x, hx⟩ : ∃ x, S.turn.asks c = some x := Option.isSome_iff_exists.1 hs
      have eask : askF S.turn.asks (c : Int) = some (.agg #[.int .u32 (x.1 : Nat), .bool x.2]) := by rw [askF_nat, hx]; rfl
      have H : St W (busA b B S).own w9 (B.pieces b S.turn ++ []) := H.open_
      refine ⟨_, H.ld 0 rfl (by show some (Value.int .i64 (nowI S.turn.now)) = _; rw [hnow]), _, H.ld 0 rfl rfl, ?_⟩
      refine ⟨_, H.look 3 rfl, #[.int .u32 (x.1 : Nat), .bool x.2], ?_, ?_⟩
      · show (askF S.turn.asks (c : Int)).getD _ = _
        rw [eask]; rfl
      refine H.al fun k2 w11 H => H.sts0 5 rfl rfl rfl (ask_one _ _) fun w12 H => ⟨_, H.ld 0 rfl rfl, ⟨_, H.look 3 rfl, H.put 3 rfl fun w13 H => ?_⟩⟩
      refine H.st 0 rfl (by show 4 < 7; decide) fun w14 H => H.st 0 rfl (by show 5 < 7; decide) fun w15 H => ⟨_, rfl, H.cells 5 rfl, ?_⟩
      have eu : upd (askF S.turn.asks) (c : Int) none = askF (S.turn.taken c).asks := upd_ask S.turn.asks c none
      have H : St W (busA b B S).own w15 ([blk b (B.root (S.turn.taken c)) 132, sl 133 1 (.slice B.p S.turn.Cs.length B.c) S.turn.Cs.length B.ptrs, all (List.zipWith cacheA B.gs S.turn.Cs), mp .i64 B.mb (upd (askF S.turn.asks) (c : Int) none), memA B.dp B.dc S.turn.mem] ++ [blk k2 #[.int .u32 (x.1 : Nat), .bool x.2] 227]) := H
      rw [eu] at H
      have H : St W (busA b B S).own w15 [busA b B (S.turn.taken c), blk k2 #[.int .u32 (x.1 : Nat), .bool x.2] 227] := H.shut
      have hl := (h1.asks c x.1 x.2 hx).2
      refine H.callx 0 rfl (settle_any (H.nth 0 rfl) (taken_ok h1 hc) hm hBt (core := c) hc hl x.2) fun z w16 H => ⟨_, _, _, rfl, z, ?_, ?_⟩
      · have e : S.tick = (S.turn.taken c).done c x.1 x.2 := by unfold PB.tick; rw [hnow]; dsimp only; rw [if_neg (by omega), hx]
        rw [e]
      · have e : S.tick = (S.turn.taken c).done c x.1 x.2 := by unfold PB.tick; rw [hnow]; dsimp only; rw [if_neg (by omega), hx]
        rw [e]
        exact (H.take 1).post 0 rfl
end Go.Proofs.YthacioiefgabbaaGreatDoor.cbus
/- The bus, part E: slices.Clone, New. No condition. -/
namespace Go.Proofs.YthacioiefgabbaaGreatDoor.cbus
open Go.RowKit Go.XHeap Go.Sx Go.Sep
set_option linter.unusedVariables false
set_option maxRecDepth 100000
variable {W w : World} {b m : Nat} {B : BP} {S S' : PB} {L : List Asn}
/-- a slice of bytes in the world reads as l -/
def BytesAt (w : World) (p : Option Addr) (l : List Nat) : Prop := ∀ i x, l[i]? = some x → ∃ g off, p = some ⟨g, off, none⟩ ∧ g < w.heap.size ∧ w.cell? ⟨g, off + i, none⟩ = some (.int .u8 (x : Nat))
theorem clone_any {p : Option Addr} {l : List Nat} {c : Nat} (h : BytesAt W p l) (hs : p = none ∨ ∃ g off, p = some ⟨g, off, none⟩) (hl : l.length ≤ 4096) :
    Calls Tryz.prog 41 #[.slice p l.length c] W fun e w => ∃ z : Option Addr × Nat, e = .returned (.slice z.1 l.length z.2) ∧ Sep.Post emp W (memA z.1 z.2 l) w := by
  refine vc41 p l.length c (split_of (fun q => ?_) (fun q => ?_))
  · have q : p = none := by simpa using q
    have h0 : l = [] := by
      cases l with
      | nil => rfl
      | cons x r =>
        obtain ⟨g, off, e, -⟩ := h 0 x rfl
        rw [q] at e; cases e
    subst h0
    exact ⟨(none, 0), rfl, Sl.nil _ _ _, XTouch.refl _ _, fun q e => by cases e⟩
  · rcases hs with hs | ⟨g0, off0, hs⟩
    · rw [hs] at q; cases q
    refine (St.nil W).al fun k w2 H => ?_
    have H := H.conv 0 (A' := sl 5 1 (.slice (some ⟨k, 0, none⟩) 0 0) 0 []) rfl (fun hb => ⟨rfl, .inr ⟨k, 0, 0, #[], rfl, hb, Nat.le_refl _, Nat.zero_le _, Nat.zero_le _, rfl⟩⟩) (fun q e => by
      have e : some k = some q := e
      exact (Option.some.inj e).symm)
    refine H.app 0 (m := l.length) (bytes := 1) rfl (u8n l) ?_ (by rw [u8n_length, Nat.mul_one]) (u8n_one l) (by have : maxLen = 2 ^ 63 - 1 := rfl; omega) (by omega) fun p' c' w3 H => ⟨(p', c'), by rw [Nat.zero_add], ?_⟩
    · refine .inr ⟨⟨g0, off0, none⟩, hs, fun j u hj => ?_⟩
      unfold u8n at hj
      rw [List.getElem?_map, Option.map_eq_some_iff] at hj
      obtain ⟨x, hx, rfl⟩ := hj
      obtain ⟨g, off, e, hg, hc⟩ := h j x hx
      rw [hs] at e
      cases e
      rw [add_none]
      exact (H.touch.cell (p := ⟨g0, off0 + j, none⟩) hg (fun e => e)).trans hc
    · have e : memA p' c' l = sl 5 1 (.slice p' (0 + l.length) c') (0 + l.length) ([] ++ u8n l) := by unfold memA; rw [Nat.zero_add]; rfl
      show Sep.Post emp W (memA p' c' l) w3
      rw [e]
      exact H.new 0 rfl
/-! ### New -/
/-- the parameter 'shapes' -/
def ShapesAt (w : World) (p : Option Addr) (l : List (Int × Int)) : Prop := ∀ i x, l[i]? = some x → ∃ g off, p = some ⟨g, off, none⟩ ∧ g < w.heap.size ∧ cellsAt w ⟨g, off + i * 2, none⟩ (shapeC x.1 x.2)
def cfgBad (l : List (Int × Int)) (cyc : Int) : Prop := l.length < 1 ∨ l.length > 2 ∨ cyc < 0 ∨ cyc > 10 ∨ ∃ x ∈ l, ¬ shapeOk x.1 x.2
/-- a fresh bus -/
structure PB.Fresh (S : PB) (l : List (Int × Int)) (cyc : Int) (mem : List Nat) : Prop where
  n : S.Cs.length = l.length
  cs : ∀ (k : Nat) (x : Int × Int), l[k]? = some x → (S.C k).Fresh x.1.toNat x.2.toNat
  mem : S.mem = mem
  cyc : (S.cyc : Int) = cyc
  asks : S.asks = fun _ => none
  last : S.last = l.length - 1
  now : S.now = none
  left : S.left = 0
theorem shape_one (x y : Int) : ∀ v ∈ (shapeC x y).toList, v.oneCell' = true := by
  intro v hv
  simp only [shapeC, List.mem_cons, List.not_mem_nil, or_false] at hv
  rcases hv with rfl | rfl <;> rfl
/-- while it is made -/
def BP.root0 (p : Option Addr) (n c : Nat) (cyc : Int) (kb nl : Nat) : Array Value := #[.slice p n c, .int .i64 cyc, .slice none 0 0, .map (some kb), .int .i64 ((nl : Int) - 1), .int .i64 (-1), .int .i64 0]
theorem bnew_any {p dp : Option Addr} {l : List (Int × Int)} {pc dc : Nat} {cyc : Int} {data : List Nat} (hS : ShapesAt W p l) (hD : BytesAt W dp data) (hdp : dp = none ∨ ∃ g off, dp = some ⟨g, off, none⟩) :
    Calls Tryz.prog 23 #[.slice p l.length pc, .int .i64 cyc, .slice dp data.length dc] W fun e w =>
      (cfgBad l cyc ∧ e = .returned (.tuple #[.pointer none, errN 2]) ∧ Hush W w) ∨ (¬ cfgBad l cyc ∧ (data.length % 16 ≠ 0 ∨ data.length > 4096) ∧ e = .returned (.tuple #[.pointer none, errN 1]) ∧ Hush W w) ∨
      (¬ cfgBad l cyc ∧ ¬ (data.length % 16 ≠ 0 ∨ data.length > 4096) ∧ ∃ (b : Nat) (B : BP) (S : PB), S.Fresh l cyc data ∧ B.gs.length = S.Cs.length ∧ e = .returned (.tuple #[.pointer (some ⟨b, 0, none⟩), .nilIface]) ∧ Sep.Post emp W (busA b B S) w) := by
  have bad : ∀ {w : World}, cfgBad l cyc → Hush W w → (cfgBad l cyc ∧ Ending.returned (.tuple #[.pointer none, errN 2]) = .returned (.tuple #[.pointer none, errN 2]) ∧ Hush W w) ∨ (¬ cfgBad l cyc ∧ (data.length % 16 ≠ 0 ∨ data.length > 4096) ∧ Ending.returned (.tuple #[.pointer none, errN 2]) = .returned (.tuple #[.pointer none, errN 1]) ∧ Hush W w) ∨
      (¬ cfgBad l cyc ∧ ¬ (data.length % 16 ≠ 0 ∨ data.length > 4096) ∧ ∃ (b : Nat) (B : BP) (S : PB), S.Fresh l cyc data ∧ B.gs.length = S.Cs.length ∧ Ending.returned (.tuple #[.pointer none, errN 2]) = .returned (.tuple #[.pointer (some ⟨b, 0, none⟩), .nilIface]) ∧ Sep.Post emp W (busA b B S) w) := fun h1 h2 => .inl ⟨h1, rfl, h2⟩
  refine vc23 p l.length pc cyc dp data.length dc (split_of (fun q => bad (.inl (by have := of_decide_eq_true q; omega)) (XTouch.refl _ _)) (fun q1 => split_of (fun q => bad (.inr (.inl (by have := of_decide_eq_true q; omega))) (XTouch.refl _ _)) (fun q2 =>
    split_of (fun q => bad (.inr (.inr (.inl (of_decide_eq_true q)))) (XTouch.refl _ _)) (fun q3 => split_of (fun q => bad (.inr (.inr (.inr (.inl (of_decide_eq_true q))))) (XTouch.refl _ _)) (fun q4 => ?_)))))
  have q1 := of_decide_eq_false q1
  have q2 := of_decide_eq_false q2
  have q3 := of_decide_eq_false q3
  have q4 := of_decide_eq_false q4
  refine (St.nil W).mkm .i64 fun kb w2 H => ?_
  rintro z rfl vs rfl
  rw [w64 (by omega) (by omega)]
  refine H.al fun k2 w3 H => ?_
  have H : St W (fun _ => False) w3 [mp .i64 kb fun _ => none, blk k2 (BP.root0 none 0 0 cyc kb l.length) 132] := H
  refine ⟨fun x w => ∃ (j : Nat) (gs : List Nat) (Cs : List CS) (p2 : Option Addr) (c2 : Nat), x = j ∧ j ≤ l.length ∧ gs.length = j ∧ Cs.length = j ∧ (∀ (k : Nat) (x : Int × Int), k < j → l[k]? = some x → shapeOk x.1 x.2 ∧ (Cs.getD k noCS).Fresh x.1.toNat x.2.toNat) ∧
      St W (fun _ => False) w [mp .i64 kb fun _ => none, blk k2 (BP.root0 p2 j c2 cyc kb l.length) 132, sl 133 1 (.slice p2 j c2) j (gs.map fun g => .pointer (some ⟨g, 0, none⟩)), all (List.zipWith cacheA gs Cs)],
    fun x _ => l.length - x.toNat, ⟨0, [], [], none, 0, rfl, Nat.zero_le _, rfl, rfl, fun k x hk => by omega, ?_⟩, fun _ => ?_⟩
  · have H := H.add (A := sl 133 1 (.slice none 0 0) 0 []) ⟨Sl.nil _ _ _, XTouch.refl _ _, fun q e => by cases e⟩
    exact H.add (A := all []) ⟨trivial, XTouch.refl _ _, fun q e => e.elim⟩
  clear H
  rintro x w4 ⟨j, gs, Cs, p2, c2, rfl, hj, hgs, hCs, hfr, H⟩
  refine split_of (fun q => ?_) (fun q => ?_)
  · have q := of_decide_eq_true q
    have hjl : j < l.length := by omega
    obtain ⟨x, hx⟩ : ∃ x, l[j]? = some x := ⟨_, List.getElem?_eq_getElem hjl⟩
    obtain ⟨g, off, hp, hg, hc⟩ := hS j x hx
    have hc4 : cellsAt w4 ⟨g, off + j * 2, none⟩ (shapeC x.1 x.2) := fun i v hi => by
      have := hc i v hi
      rw [add_none] at this ⊢
      exact (H.touch.cell (p := ⟨g, off + j * 2 + i, none⟩) hg (fun e => e)).trans this
    refine ⟨⟨by omega, q⟩, adr_eq hp ⟨_, rfl, by rw [Int.toNat_natCast]; exact hc4, H.al fun k5 w5 H => H.sts0 4 rfl rfl rfl (shape_one _ _) fun w6 H => ⟨_, rfl, H.cells 4 rfl, ?_⟩⟩⟩
    by_cases hsh : shapeOk x.1 x.2
    rotate_left
    · refine (cnew_bad w6 x.1 x.2 hsh).mono ?_
      rintro e w7 ⟨rfl, hh⟩
      exact ⟨_, _, rfl, nil_false (split_of (fun _ => bad (.inr (.inr (.inr (.inr ⟨x, List.mem_of_getElem? hx, hsh⟩)))) (H.quiet hh).touch) (fun q => by cases q))⟩
    have hsh0 := hsh
    obtain ⟨s1, s2, s3⟩ := hsh0
    obtain ⟨S1, hS1⟩ : ∃ k : Nat, x.1 = k := ⟨x.1.toNat, by omega⟩
    obtain ⟨N1, hN1⟩ : ∃ k : Nat, x.2 = k := ⟨x.2.toNat, by omega⟩
    have hcn := cnew_good w6 S1 N1 (by rw [← hS1, ← hN1]; exact hsh)
    rw [← hS1, ← hN1] at hcn
    refine H.calln hcn fun y w7 H => ⟨_, _, rfl, nil_true (split_of (fun q => by cases q) (fun _ => ?_))⟩
    obtain ⟨⟨bc, C0⟩, hfr0⟩ := y
    refine ⟨_, _, _, H.ld 1 rfl rfl, H.al fun k9 w8 H => ?_⟩
    refine H.app 2 (m := 1) (bytes := 8) rfl [.pointer (some ⟨bc, 0, none⟩)] (.inr ⟨_, rfl, fun i u hi => H.cells 6 rfl i u (by simpa using hi)⟩) rfl (by intro u hu; simp at hu; subst hu; rfl) (by have : maxLen = 2 ^ 63 - 1 := rfl; omega) (by omega) fun p3 c3 w9 H => H.st 1 rfl (by show 0 < 7; decide) fun w10 H => ?_
    rintro z2 rfl
    rw [w64 (by omega) (by omega)]
    refine ⟨⟨j + 1, gs ++ [bc], Cs ++ [C0], p3, c3, by omega, by omega, by simp [hgs], by simp [hCs], fun k x2 hk hx2 => ?_, ?_⟩, by show l.length - ((j : Int) + 1).toNat < l.length - (j : Int).toNat; omega⟩
    · by_cases e : k = j
      · subst e
        rw [hx] at hx2
        cases hx2
        refine ⟨hsh, ?_⟩
        rw [List.getD_eq_getElem?_getD, List.getElem?_append_right (by omega), hCs, Nat.sub_self]
        show C0.Fresh _ _
        rw [hS1, hN1, Int.toNat_natCast, Int.toNat_natCast]
        exact hfr0
      · have := hfr k x2 (by omega) hx2
        rw [List.getD_eq_getElem?_getD, List.getElem?_append_left (by omega), ← List.getD_eq_getElem?_getD]
        exact this
    · have H : St W (fun _ => False) w10 [mp .i64 kb fun _ => none, blk k2 (BP.root0 p3 (j + 1) c3 cyc kb l.length) 132, sl 133 1 (.slice p3 (j + 1) c3) (j + 1) ((gs.map fun g => .pointer (some ⟨g, 0, none⟩)) ++ [.pointer (some ⟨bc, 0, none⟩)]), all (List.zipWith cacheA gs Cs), blk k5 (shapeC x.1 x.2) 27, cacheA bc C0, blk k9 #[.pointer (some ⟨bc, 0, none⟩)] 133] := H
      have H := (H.pick [3, 5, 0, 1, 2]).push
      have H := H.pick [1, 2, 3, 0]
      have e1 : List.zipWith cacheA gs Cs ++ [cacheA bc C0] = List.zipWith cacheA (gs ++ [bc]) (Cs ++ [C0]) := by rw [List.zipWith_append (by omega)]; rfl
      have e2 : (gs.map fun g => Value.pointer (some ⟨g, 0, none⟩)) ++ [.pointer (some ⟨bc, 0, none⟩)] = (gs ++ [bc]).map fun g => Value.pointer (some ⟨g, 0, none⟩) := by simp
      have H : St W (fun _ => False) w10 [mp .i64 kb fun _ => none, blk k2 (BP.root0 p3 (j + 1) c3 cyc kb l.length) 132, sl 133 1 (.slice p3 (j + 1) c3) (j + 1) ((gs.map fun g => .pointer (some ⟨g, 0, none⟩)) ++ [.pointer (some ⟨bc, 0, none⟩)]), all (List.zipWith cacheA gs Cs ++ [cacheA bc C0])] := H
      rw [e1, e2] at H
      exact H
  · have q := of_decide_eq_false q
    obtain rfl : j = l.length := by omega
    have hgood : ¬ cfgBad l cyc := by
      rintro (h | h | h | h | ⟨x, hx, h⟩)
      · omega
      · omega
      · omega
      · omega
      · obtain ⟨k, hk, e⟩ := List.getElem_of_mem hx
        exact h (hfr k x hk (by rw [List.getElem?_eq_getElem hk, e])).1
    have bad1 : ∀ {w : World}, (data.length % 16 ≠ 0 ∨ data.length > 4096) → Hush W w → (cfgBad l cyc ∧ Ending.returned (.tuple #[.pointer none, errN 1]) = .returned (.tuple #[.pointer none, errN 2]) ∧ Hush W w) ∨ (¬ cfgBad l cyc ∧ (data.length % 16 ≠ 0 ∨ data.length > 4096) ∧ Ending.returned (.tuple #[.pointer none, errN 1]) = .returned (.tuple #[.pointer none, errN 1]) ∧ Hush W w) ∨
      (¬ cfgBad l cyc ∧ ¬ (data.length % 16 ≠ 0 ∨ data.length > 4096) ∧ ∃ (b : Nat) (B : BP) (S : PB), S.Fresh l cyc data ∧ B.gs.length = S.Cs.length ∧ Ending.returned (.tuple #[.pointer none, errN 1]) = .returned (.tuple #[.pointer (some ⟨b, 0, none⟩), .nilIface]) ∧ Sep.Post emp W (busA b B S) w) := fun h1 h2 => .inr (.inl ⟨hgood, h1, rfl, h2⟩)
    refine ⟨by decide, ?_⟩
    rintro z3 rfl
    have em : Int.tmod (data.length : Int) 16 = ((data.length % 16 : Nat) : Int) := rfl
    refine split_of (fun q5 => bad1 (.inl ?_) H.touch) (fun q5 => split_of (fun q6 => bad1 (.inr (by have := of_decide_eq_true q6; omega)) H.touch) (fun q6 => ?_))
    · rw [em] at q5
      intro e
      rw [e] at q5
      cases q5
    · rw [em] at q5
      have q5 : data.length % 16 = 0 := by
        have : ((data.length % 16 : Nat) : Int) = 0 := by simpa using q5
        omega
      have q6 := of_decide_eq_false q6
      have hD4 : BytesAt w4 dp data := fun i x hx => by
        obtain ⟨g, off, e, hg, hc⟩ := hD i x hx
        exact ⟨g, off, e, Nat.lt_of_lt_of_le hg H.size, (H.touch.cell (p := ⟨g, off + i, none⟩) hg (fun e => e)).trans hc⟩
      refine H.calln (clone_any hD4 hdp (by omega)) fun z w11 H => ⟨_, _, _, rfl, H.st 1 rfl (by show 2 < 7; decide) fun w12 H => .inr (.inr ⟨hgood, by omega, k2, ⟨p2, c2, gs, z.1, z.2, kb⟩, ⟨Cs, data, cyc.toNat, fun _ => none, l.length - 1, none, 0⟩, ⟨hCs, fun k x hx => ?_, rfl, by show ((cyc.toNat : Nat) : Int) = cyc; omega, rfl, rfl, rfl, rfl⟩, by show gs.length = Cs.length; omega, rfl, ?_⟩)⟩
      · exact (hfr k x (List.getElem?_eq_some_iff.1 hx).1 hx).2
      · have H : St W (fun _ => False) w12 [mp .i64 kb fun _ => none, blk k2 #[.slice p2 l.length c2, .int .i64 cyc, .slice z.1 data.length z.2, .map (some kb), .int .i64 ((l.length : Int) - 1), .int .i64 (-1), .int .i64 0] 132, sl 133 1 (.slice p2 l.length c2) l.length (gs.map fun g => .pointer (some ⟨g, 0, none⟩)), all (List.zipWith cacheA gs Cs), memA z.1 z.2 data] := H
        have H := H.pick [1, 2, 3, 0, 4]
        have er : BP.root ⟨p2, c2, gs, z.1, z.2, kb⟩ ⟨Cs, data, cyc.toNat, fun _ => none, l.length - 1, none, 0⟩ = #[.slice p2 l.length c2, .int .i64 cyc, .slice z.1 data.length z.2, .map (some kb), .int .i64 ((l.length : Int) - 1), .int .i64 (-1), .int .i64 0] := by
          unfold BP.root PB.len nowI
          dsimp only
          rw [hCs, show ((cyc.toNat : Nat) : Int) = cyc by omega, show ((l.length - 1 : Nat) : Int) = (l.length : Int) - 1 by omega]
          rfl
        have ea : askF (fun _ => none) = fun _ => none := by funext z; unfold askF askV; split <;> rfl
        have e : busA k2 ⟨p2, c2, gs, z.1, z.2, kb⟩ ⟨Cs, data, cyc.toNat, fun _ => none, l.length - 1, none, 0⟩ = all [blk k2 #[.slice p2 l.length c2, .int .i64 cyc, .slice z.1 data.length z.2, .map (some kb), .int .i64 ((l.length : Int) - 1), .int .i64 (-1), .int .i64 0] 132, sl 133 1 (.slice p2 l.length c2) l.length (gs.map fun g => .pointer (some ⟨g, 0, none⟩)), all (List.zipWith cacheA gs Cs), mp .i64 kb fun _ => none, memA z.1 z.2 data] := by
          unfold busA BP.pieces
          rw [er]
          dsimp only
          rw [ea, hCs]
          rfl
        rw [e]
        have H : St W (fun _ => False) w12 ([blk k2 #[.slice p2 l.length c2, .int .i64 cyc, .slice z.1 data.length z.2, .map (some kb), .int .i64 ((l.length : Int) - 1), .int .i64 (-1), .int .i64 0] 132, sl 133 1 (.slice p2 l.length c2) l.length (gs.map fun g => .pointer (some ⟨g, 0, none⟩)), all (List.zipWith cacheA gs Cs), mp .i64 kb fun _ => none, memA z.1 z.2 data] ++ []) := H
        exact H.shut.new 0 rfl
end Go.Proofs.YthacioiefgabbaaGreatDoor.cbus
