/- The document's bus, part U: Tick. No condition. -/
import Derived.Test.YtbiogceijdcoiaaDoorBusT
namespace Go.Proofs.YtbiogceijdcoiaaDoor
open Go.RowKit Go.XHeap Go.Sx Go.Sep
set_option linter.unusedVariables false
set_option maxRecDepth 100000
variable {W w : World} {b m : Nat} {P P' : RP} {S S' : PB} {L : List Asn}
theorem turn_now (h : S.now ≠ none) : S.turn = S := by unfold PB.turn; rw [if_neg h]
theorem turn_none (h : S.now = none) : S.turn = { S with now := S.next, left := S.cyc } := by unfold PB.turn; rw [if_pos h]
theorem nowI_neg {o : Option Nat} : decide (nowI o < 0) = o.isNone := by
  cases o with
  | none => rfl
  | some k => show decide ((k : Int) < 0) = false; exact decide_eq_false (by omega)
theorem pok_same (hP : P.Ok S) {S' : PB} (h1 : S'.Cs = S.Cs) (h2 : S'.now ≠ none → P'.left = S'.left) (h3 : P'.left ≤ 10) (h4 : P'.gs = P.gs) (h5 : P'.Rs = P.Rs) : P'.Ok S' := by
  refine ⟨by rw [h4, h1]; exact hP.g, by rw [h5, h1]; exact hP.r, fun k hk => ?_, h2, h3⟩
  rw [h1] at hk
  obtain ⟨U, hU⟩ := hP.rel k hk
  refine ⟨U, ?_⟩
  have e1 : S'.C k = S.C k := by unfold PB.C; rw [h1]
  have e2 : P'.R k = P.R k := by unfold RP.R; rw [h5]
  rw [e1, e2]; exact hU
theorem rtick_any (hA : (rbusA b P S).at_ W) (ho : S.Ok m) (hm : m + 1 < 4611686018427387904) (hP : P.Ok S) :
    Calls Tryd.prog 9 #[.pointer (some ⟨b, 0, none⟩)] W fun e w => ∃ z : (Option Addr × Nat) × RP, e = .returned (.slice z.1.1 S.tick.out.length z.1.2) ∧ z.2.Ok S.tick.S ∧ Sep.Post (rbusA b P S) W (all [rbusA b z.2 S.tick.S, routA z.1.1 z.1.2 S.tick.out]) w := by
  have H : St W (rbusA b P S).own W [rbusA b P S] := St.begin hA
  have hn := ho.n
  have hlast := ho.last
  have hcyc := ho.cyc
  have h1 := turn_ok ho
  have tn : S.turn.Cs.length = S.Cs.length := turn_n
  have upd_busy : ∀ {w : World} {cs : Array Value} {P' : RP} {S' : PB}, St W (rbusA b P S).own w ([blk b cs 75, sl 86 1 (.slice P'.p S'.Cs.length P'.c) S'.Cs.length P'.ptrs, all (List.zipWith refcA P'.gs P'.Rs), blk P'.ab (rows askC S'.asksL) 71, memA P'.dp P'.dc S'.mem] ++ []) → P'.root S' = cs → St W (rbusA b P S).own w [rbusA b P' S'] := by
    intro w cs P' S' H e3
    have : rbusA b P' S' = all [blk b cs 75, sl 86 1 (.slice P'.p S'.Cs.length P'.c) S'.Cs.length P'.ptrs, all (List.zipWith refcA P'.gs P'.Rs), blk P'.ab (rows askC S'.asksL) 71, memA P'.dp P'.dc S'.mem] := by
      unfold rbusA RP.pieces
      rw [e3]
    rw [this]
    exact H.shut
  have nilout : ∀ {S' : PB} {P' : RP} {w : World}, S.tick = ⟨S', [], 0⟩ → P'.Ok S' → St W (rbusA b P S).own w [rbusA b P' S'] → ∃ z : (Option Addr × Nat) × RP, Ending.returned (.slice none 0 0) = .returned (.slice z.1.1 S.tick.out.length z.1.2) ∧ z.2.Ok S.tick.S ∧ Sep.Post (rbusA b P S) W (all [rbusA b z.2 S.tick.S, routA z.1.1 z.1.2 S.tick.out]) w := by
    intro S' P' w e hP' H
    rw [e]
    have H : St W (rbusA b P S).own w ([rbusA b P' S', routA none 0 []] ++ []) := H.add (A := routA none 0 []) ⟨Sl.nil _ _ _, XTouch.refl _ _, fun q e => by cases e⟩
    exact ⟨((none, 0), P'), rfl, hP', H.shut.post 0 rfl⟩
  refine vc9 b 0 ⟨_, _, _, (rbus_open (H.nth 0 rfl)).ld 0 rfl rfl, ?_⟩
  refine ⟨fun w => ∃ P1 : RP, P1.Ok S.turn ∧ S.turn.now ≠ none ∧ St W (rbusA b P S).own w [rbusA b P1 S.turn], ⟨_, (rbus_open (H.nth 0 rfl)).ld 0 rfl rfl, ?_⟩, fun _ => ?_⟩
  · rw [nowI_neg]
    refine split_of (fun q => ?_) (fun q => ?_)
    rotate_left
    · have q : S.now ≠ none := by intro e; rw [e] at q; cases q
      rw [turn_now q]
      exact ⟨P, hP, q, H⟩
    have q : S.now = none := by simpa using q
    refine ⟨fun w => ∃ P1 : RP, P1.Ok S.turn ∧ St W (rbusA b P S).own w [rbusA b P1 S.turn], ⟨fun x w => ∃ k : Nat, x = ((k + 1 : Nat) : Int) ∧ k ≤ S.Cs.length ∧ (∀ j, j < k → (S.asks (S.turnAt j)).isSome = false) ∧ w = W, fun x _ => S.Cs.length + 1 - x.toNat, ⟨0, rfl, Nat.zero_le _, fun j hj => by omega, rfl⟩, fun _ => ?_⟩, fun _ => ?_⟩
    · rintro x w2 ⟨k, rfl, hk, hnot, rfl⟩
      refine split_of (fun q2 => ?_) (fun q2 => ?_)
      · have q2 := of_decide_eq_true q2
        have hkn : k < S.Cs.length := by omega
        have ht : S.turnAt k < S.Cs.length := Nat.mod_lt _ (by omega)
        refine ⟨_, (rbus_open (H.nth 0 rfl)).ld 0 rfl rfl, ?_⟩
        rintro z3 rfl
        rw [show (S.last : Int) + ((k + 1 : Nat) : Int) = ((S.last + 1 + k : Nat) : Int) by omega, Bits.n64 (by omega)]
        refine ⟨by omega, ?_⟩
        rintro z4 rfl
        have et : Int.tmod ((S.last + 1 + k : Nat) : Int) (S.Cs.length : Int) = (S.turnAt k : Nat) := rfl
        rw [et]
        refine ⟨_, _, _, (rbus_open (H.nth 0 rfl)).ld 0 rfl rfl, ⟨by omega, by omega⟩, adr_some ⟨(S.asks (S.turnAt k)).isSome, ?_, split_of (fun q3 => ?_) (fun q3 => ?_)⟩⟩
        · rw [Int.toNat_natCast, Nat.zero_add]
          exact ask_cell ((rbus_open (H.nth 0 rfl)).blk 3 rfl) ht (by omega) (askC0 _)
        · have hnx := next_of hkn q3 hnot
          have H : St w2 (rbusA b P S).own w2 (P.pieces b S ++ []) := H.open_
          refine H.st 0 rfl (by show 5 < 7; decide) fun w3 H => ⟨_, H.ld 0 rfl rfl, H.st 0 rfl (by show 6 < 7; decide) fun w4 H => ⟨{ P with left := S.cyc }, ?_, ?_⟩⟩
          · rw [turn_none q]
            exact pok_same hP rfl (fun _ => rfl) hcyc rfl rfl
          · rw [turn_none q]
            exact upd_busy (P' := { P with left := S.cyc }) (S' := { S with now := S.next, left := S.cyc }) H (by unfold RP.root; dsimp only; rw [hnx]; rfl)
        · rintro z6 rfl
          rw [w64 (by omega) (by omega)]
          refine ⟨⟨k + 1, by omega, by omega, fun j hj => ?_, rfl⟩, by show S.Cs.length + 1 - (((k + 1 : Nat) : Int) + 1).toNat < S.Cs.length + 1 - ((k + 1 : Nat) : Int).toNat; omega⟩
          by_cases e : j = k
          · rw [e]; exact q3
          · exact hnot j (by omega)
      · have q2 := of_decide_eq_false q2
        have hnx := next_none fun j hj => hnot j (by omega)
        refine ⟨P, ?_, ?_⟩
        · rw [turn_none q]
          exact pok_same hP rfl (fun h => absurd hnx h) hP.le rfl rfl
        · rw [turn_none q]
          have H : St w2 (rbusA b P S).own w2 (P.pieces b S ++ []) := H.open_
          exact upd_busy (P' := P) (S' := { S with now := S.next, left := S.cyc }) H (by unfold RP.root; dsimp only; rw [hnx, q]; rfl)
    · clear H
      rintro w5 ⟨P1, hP1, H⟩
      refine ⟨_, (rbus_open (H.nth 0 rfl)).ld 0 rfl rfl, ?_⟩
      rw [nowI_neg]
      refine split_of (fun q2 => ?_) (fun q2 => ?_)
      · have q2 : S.turn.now = none := by simpa using q2
        exact nilout (by unfold PB.tick; rw [q2]) hP1 H
      · exact ⟨P1, hP1, (by intro e; rw [e] at q2; cases q2), H⟩
  · clear H
    rintro w6 ⟨P1, hP1, hnn, H⟩
    obtain ⟨c, hnow⟩ := Option.ne_none_iff_exists'.1 hnn
    obtain ⟨hc, hs⟩ := h1.now c hnow
    have hleft := h1.left
    have hPl := hP1.left hnn
    refine ⟨fun w => S.turn.left = 0 ∧ St W (rbusA b P S).own w [rbusA b P1 S.turn], ⟨_, (rbus_open (H.nth 0 rfl)).ld 0 rfl rfl, split_of (fun q2 => ?_) (fun q2 => ?_)⟩, fun _ => ?_⟩
    · have q2 := of_decide_eq_true q2
      refine ⟨_, (rbus_open (H.nth 0 rfl)).ld 0 rfl rfl, ?_⟩
      rintro z9 rfl
      rw [hPl] at q2 ⊢
      rw [show (S.turn.left : Int) - 1 = ((S.turn.left - 1 : Nat) : Int) by omega, Bits.n64 (by omega)]
      have H : St W (rbusA b P S).own w6 (P1.pieces b S.turn ++ []) := H.open_
      refine H.st 0 rfl (by show 6 < 7; decide) fun w10 H => ?_
      refine nilout (S' := { S.turn with left := S.turn.left - 1 }) (P' := { P1 with left := S.turn.left - 1 }) (by unfold PB.tick; rw [hnow]; dsimp only; rw [if_pos (by omega)]) (pok_same hP1 rfl (fun _ => rfl) (by show S.turn.left - 1 ≤ 10; omega) rfl rfl) ?_
      exact upd_busy (P' := { P1 with left := S.turn.left - 1 }) (S' := { S.turn with left := S.turn.left - 1 }) H rfl
    · have q2 := of_decide_eq_false q2
      exact ⟨by omega, H⟩
    clear H
    rintro w8 ⟨hl0, H⟩
    obtain ⟨x, hx⟩ : ∃ x, S.turn.asks c = some x := Option.isSome_iff_exists.1 hs
    have H : St W (rbusA b P S).own w8 (P1.pieces b S.turn ++ []) := H.open_
    refine ⟨(c : Int), H.ld 0 rfl (by show some (Value.int .i64 (nowI S.turn.now)) = _; rw [hnow]; rfl), H.st 0 rfl (by show 5 < 7; decide) fun w9 H => H.st 0 rfl (by show 4 < 7; decide) fun w10 H => ⟨_, _, _, H.ld 0 rfl rfl, ⟨by omega, by show ((c : Nat) : Int) < (S.turn.Cs.length : Int); omega⟩, adr_some ⟨(askC (S.turn.asks c)).toArray, by rw [hx]; rfl, ?_, ?_⟩⟩⟩
    · intro i v hi
      rw [add_none, Int.toNat_natCast, Nat.zero_add]
      have hi3 : i < 3 := by
        have := (Array.getElem?_eq_some_iff.1 hi).1
        rw [List.size_toArray, askC_len] at this
        exact this
      exact ask_cell (H.blk 3 rfl) hc hi3 (by simpa using hi)
    · refine H.al fun k11 w11 H => H.sts0 5 rfl (by rw [hx]; rfl) rfl (askC_one _) fun w12 H => ⟨_, _, _, H.ld 0 rfl rfl, ?_⟩
      rintro vs2 hvs2
      refine ⟨⟨by omega, by show ((c : Nat) : Int) < (S.turn.Cs.length : Int); omega⟩, adr_some ?_⟩
      refine ask_sts (S := S.turn) H 3 rfl hc none (fun w13 H => ?_) hvs2
      have H : St W (rbusA b P S).own w13 ([blk b (P1.root (S.turn.taken c)) 75, sl 86 1 (.slice P1.p S.turn.Cs.length P1.c) S.turn.Cs.length P1.ptrs, all (List.zipWith refcA P1.gs P1.Rs), blk P1.ab (rows askC (S.turn.taken c).asksL) 71, memA P1.dp P1.dc S.turn.mem] ++ [blk k11 (askC (S.turn.asks c)).toArray 71]) := H
      have H : St W (rbusA b P S).own w13 [rbusA b P1 (S.turn.taken c), blk k11 (askC (S.turn.asks c)).toArray 71] := H.shut
      rw [hx] at H
      have hPt : P1.Ok (S.turn.taken c) := pok_same hP1 rfl (fun h => absurd rfl h) hP1.le rfl rfl
      have hl := (h1.asks c x.1 x.2 hx).2
      have e : S.tick = (S.turn.taken c).done c x.1 x.2 := by unfold PB.tick; rw [hnow]; dsimp only; rw [if_neg (by omega), hx]
      refine ⟨_, H.ld 1 rfl rfl, _, H.ld 1 rfl rfl, ?_⟩
      refine (rdone_any (H.nth 0 rfl) (taken_ok h1 hc) hm hPt (core := c) hc hl x.2).mono ?_
      rintro e2 w14 ⟨z, rfl, hz, hpost⟩
      have H := H.upd 0 rfl hpost
      refine ⟨_, _, _, rfl, z, ?_, ?_, ?_⟩
      · rw [e]
      · rw [e]; exact hz
      · rw [e]; exact (H.take 1).post 0 rfl
end Go.Proofs.YtbiogceijdcoiaaDoor
