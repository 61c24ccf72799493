/- The bus, part D: Tick, Clone, New. No condition. -/
import Derived.Test.YtbiogceijdcoiaaBusC
namespace Go.Proofs.Ytbiogceijdcoiaa
open Go.RowKit Go.XHeap Go.Sx Go.Sep
set_option linter.unusedVariables false
set_option maxRecDepth 100000
variable {W w : World} {b m : Nat} {B : BP} {S S' : PB} {L : List Asn}
/-! ### Tick -/
def PB.turn (S : PB) : PB := if S.now = none then { S with now := S.next, left := S.cyc } else S
def PB.taken (S : PB) (c : Nat) : PB := { S with asks := fun k => if k = c then none else S.asks k, last := c, now := none }
def PB.tick (S : PB) : LS := match S.turn.now with
  | none => ⟨S.turn, [], 0⟩
  | some c => if 0 < S.turn.left then ⟨{ S.turn with left := S.turn.left - 1 }, [], 0⟩ else match S.turn.asks c with
    | none => ⟨S.turn, [], 0⟩
    | some x => (S.turn.taken c).done c x.1 x.2
theorem turn_ok (ho : S.Ok m) : S.turn.Ok m := by
  unfold PB.turn
  split
  · exact ⟨ho.n, ho.cs, ho.l16, ho.len, ho.byte, ho.cyc, ho.asks, ho.last, fun k h => next_ok ho h, ho.cyc⟩
  · exact ho
theorem taken_ok (ho : S.Ok m) {c : Nat} (hc : c < S.Cs.length) : (S.taken c).Ok m := by
  refine ⟨ho.n, ho.cs, ho.l16, ho.len, ho.byte, ho.cyc, fun k a w h => ?_, hc, fun k h => (by cases h), ho.left⟩
  unfold PB.taken at h
  dsimp only at h
  split at h
  · cases h
  · exact ho.asks k a w h
theorem turn_n : S.turn.Cs.length = S.Cs.length := by unfold PB.turn; split <;> rfl
theorem Ok.mono (ho : S.Ok m) {m' : Nat} (h : m ≤ m') : S.Ok m' := ⟨ho.n, fun k hk => (ho.cs k hk).mono h, ho.l16, ho.len, ho.byte, ho.cyc, ho.asks, ho.last, ho.now, ho.left⟩
theorem tick_ok' (ho : S.Ok m) (hm : m + 1 < 4611686018427387904) : S.tick.S.Ok (m + 1) ∧ S.tick.S.Cs.length = S.Cs.length ∧ S.tick.S.len = S.len ∧ S.tick.out.length ≤ 4 := by
  have h1 := turn_ok ho
  have hn := ho.n
  have ht : S.turn.len = S.len := by unfold PB.turn; split <;> rfl
  unfold PB.tick
  cases hnow : S.turn.now with
  | none => exact ⟨Ok.mono h1 (by omega), turn_n, ht, Nat.zero_le _⟩
  | some c =>
    dsimp only
    obtain ⟨hc, hs⟩ := h1.now c hnow
    split
    · have hl := h1.left
      exact ⟨Ok.mono (S := { S.turn with left := S.turn.left - 1 }) (m := m) ⟨h1.n, h1.cs, h1.l16, h1.len, h1.byte, h1.cyc, h1.asks, h1.last, h1.now, by show S.turn.left - 1 ≤ 10; omega⟩ (by omega), turn_n, ht, Nat.zero_le _⟩
    · cases ha : S.turn.asks c with
      | none => rw [ha] at hs; cases hs
      | some x =>
        dsimp only
        have hl := (h1.asks c x.1 x.2 ha).2
        have hd := done_ok (taken_ok h1 hc) hm (core := c) (a := x.1) hc hl x.2
        refine ⟨hd.ok, hd.same.n.trans turn_n, hd.same.len.trans ht, ?_⟩
        have := hd.out
        have e : (S.turn.taken c).Cs.length = S.Cs.length := turn_n
        omega
theorem tick_any (hA : (busA b B S).at_ W) (ho : S.Ok m) (hm : m + 1 < 4611686018427387904) (hB : B.gs.length = S.Cs.length) :
    Calls Try.prog 9 #[.pointer (some ⟨b, 0, none⟩)] W fun e w => ∃ z : Option Addr × Nat, e = .returned (.slice z.1 S.tick.out.length z.2) ∧ Sep.Post (busA b B S) W (all [busA b B S.tick.S, outA z.1 z.2 S.tick.out]) w := by
  have H := St.begin hA
  have h1 := turn_ok ho
  have upd_busy : ∀ {w : World} {cs : Array Value} {S' : PB}, St W (busA b B S).own w ([blk b cs 54, sl 55 1 (.slice B.p S.Cs.length B.c) S.Cs.length B.ptrs, all (List.zipWith cacheA B.gs S.Cs), mp .i64 B.mb (askF S'.asks), memA B.dp B.dc S.mem] ++ []) → S'.Cs = S.Cs → S'.mem = S.mem → B.root S' = cs → St W (busA b B S).own w [busA b B S'] := by
    intro w cs S' H e1 e2 e3
    have : busA b B S' = all [blk b cs 54, sl 55 1 (.slice B.p S.Cs.length B.c) S.Cs.length B.ptrs, all (List.zipWith cacheA B.gs S.Cs), mp .i64 B.mb (askF S'.asks), memA B.dp B.dc S.mem] := by
      unfold busA BP.pieces
      rw [e1, e2, e3]
    rw [this]
    exact H.shut
  refine vc9 b 0 ⟨fun w => St W (busA b B S).own w [busA b B S.turn], ?_, fun _ => ?_⟩
  · refine ⟨_, (bus_open (H.nth 0 rfl)).ld 0 rfl rfl, split_of (fun q => ?_) (fun q => ?_)⟩
    · have q : S.now = none := by
        cases hq : S.now with
        | none => rfl
        | some k => rw [hq] at q; simp [nowI] at q
      have et : S.turn = { S with now := S.next, left := S.cyc } := by unfold PB.turn; rw [if_pos q]
      rw [et]
      have fin : ∀ {w : World} {φ : World → Prop}, St W (busA b B S).own w [busA b B S] → (∀ w', St W (busA b B S).own w' [busA b B { S with now := S.next, left := S.cyc }] → φ w') →
          (∃ v, w.cell? ⟨b, 0 + 5, none⟩ = some v) ∧ w.frozen? ⟨b, 0 + 5, none⟩ = false ∧ ∀ w4 : World, w4 = w.setCell ⟨b, 0 + 5, none⟩ (.int .i64 (nowI S.next)) → (∃ v, w4.cell? ⟨b, 0 + 6, none⟩ = some v) ∧ w4.frozen? ⟨b, 0 + 6, none⟩ = false ∧ ∀ w5 : World, w5 = w4.setCell ⟨b, 0 + 6, none⟩ (.int .i64 (S.cyc : Nat)) → φ w5 := by
        intro w φ H hφ
        have H : St W (busA b B S).own w (B.pieces b S ++ []) := H.open_
        exact H.st 0 rfl (by show 5 < 7; decide) fun w4 H => H.st 0 rfl (by show 6 < 7; decide) fun w5 H => hφ w5 (upd_busy H rfl rfl rfl)
      refine H.dr fun w2 H => ⟨?_, _, (bus_open (H.nth 0 rfl)).ld 0 rfl rfl, RowKit.Below.refl _ _, ?_⟩
      · refine H.callq (next_any (H.nth 0 rfl) ho) fun w3 H => ⟨_, rfl, _, (bus_open (H.nth 0 rfl)).ld 0 rfl rfl, fin H fun w' H => H⟩
      · exact H.callq (next_any (H.nth 0 rfl) ho) fun w3 H => ⟨_, rfl, fin H fun w' H => H⟩
    · have q : ¬ S.now = none := by
        intro e
        rw [e] at q
        cases q
      have et : S.turn = S := by unfold PB.turn; rw [if_neg q]
      rw [et]
      exact H
  · clear H
    intro w9 H
    have hA1 := H.nth 0 rfl
    have hBt : B.gs.length = S.turn.Cs.length := by rw [turn_n]; exact hB
    have nilout : ∀ {S' : PB} {w : World}, S.tick = ⟨S', [], 0⟩ → St W (busA b B S).own w [busA b B S'] → ∃ z : Option Addr × Nat, Ending.returned (.slice none 0 0) = .returned (.slice z.1 S.tick.out.length z.2) ∧ Sep.Post (busA b B S) W (all [busA b B S.tick.S, outA z.1 z.2 S.tick.out]) w := by
      intro S' w e H
      rw [e]
      have H : St W (busA b B S).own w ([busA b B S', outA none 0 []] ++ []) := H.add (A := outA none 0 []) ⟨Sl.nil _ _ _, XTouch.refl _ _, fun q e => by cases e⟩
      exact ⟨(none, 0), rfl, H.shut.post 0 rfl⟩
    refine ⟨_, (bus_open hA1).ld 0 rfl rfl, split_of (fun q => ?_) (fun q => ?_)⟩
    · have q : S.turn.now = none := by
        cases hq : S.turn.now with
        | none => rfl
        | some k => rw [hq] at q; simp [nowI] at q
      exact nilout (by unfold PB.tick; rw [q]) H
    obtain ⟨c, hnow⟩ : ∃ c, S.turn.now = some c := by
      cases hq : S.turn.now with
      | none => rw [hq] at q; cases q
      | some k => exact ⟨k, rfl⟩
    obtain ⟨hc, hs⟩ := h1.now c hnow
    have hleft := h1.left
    refine ⟨_, (bus_open hA1).ld 0 rfl rfl, split_of (fun q2 => ?_) (fun q2 => ?_)⟩
    · have q2 := of_decide_eq_true q2
      refine ⟨_, (bus_open hA1).ld 0 rfl rfl, ?_⟩
      rintro z9 rfl
      rw [show (S.turn.left : Int) - 1 = ((S.turn.left - 1 : Nat) : Int) by omega, Bits.n64 (by omega)]
      have H : St W (busA b B S).own w9 (B.pieces b S.turn ++ []) := H.open_
      refine H.st 0 rfl (by show 6 < 7; decide) fun w10 H => ?_
      refine nilout (S' := { S.turn with left := S.turn.left - 1 }) (by unfold PB.tick; rw [hnow]; dsimp only; rw [if_pos (by omega)]) ?_
      exact H.shut
    · have q2 := of_decide_eq_false q2
      obtain ⟨x, hx⟩ : ∃ x, S.turn.asks c = some x := Option.isSome_iff_exists.1 hs
      have eask : askF S.turn.asks (c : Int) = some (.agg #[.int .u32 (x.1 : Nat), .bool x.2]) := by rw [askF_nat, hx]; rfl
      have H : St W (busA b B S).own w9 (B.pieces b S.turn ++ []) := H.open_
      refine ⟨_, H.ld 0 rfl (by show some (Value.int .i64 (nowI S.turn.now)) = _; rw [hnow]), _, H.ld 0 rfl rfl, ?_⟩
      refine ⟨_, H.look 3 rfl, #[.int .u32 (x.1 : Nat), .bool x.2], ?_, ?_⟩
      · show (askF S.turn.asks (c : Int)).getD _ = _
        rw [eask]; rfl
      refine H.al fun k2 w11 H => H.sts0 5 rfl rfl rfl (ask_one _ _) fun w12 H => ⟨_, H.ld 0 rfl rfl, ⟨_, H.look 3 rfl, H.put 3 rfl fun w13 H => ?_⟩⟩
      refine H.st 0 rfl (by show 4 < 7; decide) fun w14 H => H.st 0 rfl (by show 5 < 7; decide) fun w15 H => ⟨_, rfl, H.cells 5 rfl, ?_⟩
      have eu : upd (askF S.turn.asks) (c : Int) none = askF (S.turn.taken c).asks := upd_ask S.turn.asks c none
      have H : St W (busA b B S).own w15 ([blk b (B.root (S.turn.taken c)) 54, sl 55 1 (.slice B.p S.turn.Cs.length B.c) S.turn.Cs.length B.ptrs, all (List.zipWith cacheA B.gs S.turn.Cs), mp .i64 B.mb (upd (askF S.turn.asks) (c : Int) none), memA B.dp B.dc S.turn.mem] ++ [blk k2 #[.int .u32 (x.1 : Nat), .bool x.2] 62]) := H
      rw [eu] at H
      have H : St W (busA b B S).own w15 [busA b B (S.turn.taken c), blk k2 #[.int .u32 (x.1 : Nat), .bool x.2] 62] := H.shut
      have hl := (h1.asks c x.1 x.2 hx).2
      refine H.callx 0 rfl (settle_any (H.nth 0 rfl) (taken_ok h1 hc) hm hBt (core := c) hc hl x.2) fun z w16 H => ⟨_, _, _, rfl, z, ?_, ?_⟩
      · have e : S.tick = (S.turn.taken c).done c x.1 x.2 := by unfold PB.tick; rw [hnow]; dsimp only; rw [if_neg (by omega), hx]
        rw [e]
      · have e : S.tick = (S.turn.taken c).done c x.1 x.2 := by unfold PB.tick; rw [hnow]; dsimp only; rw [if_neg (by omega), hx]
        rw [e]
        exact (H.take 1).post 0 rfl
end Go.Proofs.Ytbiogceijdcoiaa
