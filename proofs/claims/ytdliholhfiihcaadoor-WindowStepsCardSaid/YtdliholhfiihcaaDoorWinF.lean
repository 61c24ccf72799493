/- The window, part F: Enter, Retire. No condition. -/
import Derived.Test.YtdliholhfiihcaaDoorWinE
namespace Go.Proofs.YtdliholhfiihcaaDoor
open Go.RowKit Go.XHeap Go.Sx Go.Sep
set_option linter.unusedVariables false
set_option maxRecDepth 100000
variable {W w' : World} {b : Nat} {w v : WS}

def WS.retired (w : WS) : WS := { w with head := (w.head + 1) % w.S, n := w.n - 1 }
theorem retired_ok (ho : w.Ok) : w.retired.Ok := ⟨ho.s0, ho.s1, ho.ring, Nat.mod_lt _ (by have := ho.s0; omega), by have := ho.n; show w.n - 1 ≤ w.S; omega, ho.next, ho.r0, ho.r1, ho.ready, ho.st⟩
def RetirePost (W : World) (b : Nat) (w : WS) (e : Ending) (w2 : World) : Prop :=
  if w.n ≠ 0 ∧ (w.slot 0).st = 2 then e = .returned (.tuple #[.int .i64 (w.slot 0).seq, .nilIface]) ∧ Sep.Post (winA b w) W (winA b w.retired) w2
  else e = .returned (.tuple #[.int .i64 0, errN 7]) ∧ Sep.Post (winA b w) W (winA b w) w2
theorem retire_any (ho : w.Ok) (h : (winA b w).at_ W) : Calls Tryd.prog 13 #[.pointer (some ⟨b, 0, none⟩)] W (RetirePost W b w) := by
  have hs0 := ho.s0
  have hs1 := ho.s1
  have hh0 := ho.head
  have hn := ho.n
  refine vc13 b 0 ((whead_any ho h).mono ?_)
  rintro e w2 ⟨rfl, hh⟩
  have hS := win_same h hh
  by_cases q0 : w.n = 0
  · have e1 : w.headR = .tuple #[.int .i64 0, .bool false, .bool false] := if_pos q0
    have bad : RetirePost W b w (.returned (.tuple #[.int .i64 0, errN 7])) w2 := by unfold RetirePost; rw [if_neg (fun e => e.1 q0)]; exact ⟨rfl, hS⟩
    rw [e1]
    exact ⟨_, _, _, rfl, split_of (fun _ => bad) (fun q => by cases q)⟩
  · have e1 : w.headR = .tuple #[.int .i64 (w.slot 0).seq, .bool (decide ((w.slot 0).st = 2)), .bool true] := if_neg q0
    rw [e1]
    refine ⟨_, _, _, rfl, split_of (fun q => by cases q) (fun _ => split_of (fun q1 => ?_) (fun q1 => ?_))⟩
    · have q1 : ¬ (w.slot 0).st = 2 := by simpa using q1
      unfold RetirePost; rw [if_neg (fun e => q1 e.2)]; exact ⟨rfl, hS⟩
    · have q1 : (w.slot 0).st = 2 := by simpa using q1
      have H : St W (winA b w).own w2 (w.pieces b ++ []) := ((St.begin h).upd 0 rfl hS).open_
      refine H.dr fun w3 H => ⟨w.head, H.ld 0 rfl rfl, ?_⟩
      rintro z3 rfl
      rw [w64 (by omega) (by omega)]
      refine ⟨_, _, _, H.ld 0 rfl rfl, by omega, ?_⟩
      rintro z4 rfl
      have e2 : Int.tmod ((w.head : Int) + 1) (w.S : Int) = (((w.head + 1) % w.S : Nat) : Int) := rfl
      rw [e2]
      refine H.st 0 rfl (by show 1 < 5; omega) fun w4 H => ⟨w.n, H.ld 0 rfl rfl, ?_⟩
      rintro z6 rfl
      rw [w64 (by omega) (by omega), show ((w.n : Int) - 1) = ((w.n - 1 : Nat) : Int) by omega]
      refine H.st 0 rfl (by show 2 < 5; omega) fun w5 H => ?_
      unfold RetirePost
      rw [if_pos ⟨q0, q1⟩]
      exact ⟨rfl, win_shut (v := w.retired) (L := []) H⟩
/-! ### Enter -/
def entryC (cls s1 s2 dst : Int) : Array Value := #[.int .i64 cls, .int .i64 s1, .int .i64 s2, .int .i64 dst]
def WS.entered (w : WS) (cls s1 s2 dst : Int) : WS := { w with ring := w.ring.set (w.ix w.n) ⟨cls, s1, s2, dst, 0, w.next⟩, n := w.n + 1, next := w.next + 1, ready := if 0 ≤ dst then w.ready.set dst.toNat false else w.ready }
theorem entered_ok (ho : w.Ok) (hn : w.n < w.S) (hx : w.next + 1 < 4611686018427387904) (cls s1 s2 dst : Int) : (w.entered cls s1 s2 dst).Ok := ⟨ho.s0, ho.s1, by show (w.ring.set _ _).length = w.S; rw [List.length_set]; exact ho.ring, ho.head, hn, hx, ho.r0, ho.r1, by
  show (if 0 ≤ dst then w.ready.set dst.toNat false else w.ready).length = w.R
  split
  · rw [List.length_set]; exact ho.ready
  · exact ho.ready, fun s hs => by
  rcases List.mem_or_eq_of_mem_set hs with e | rfl
  · exact ho.st s e
  · show 0 < 256; decide⟩
def WS.enterOk (w : WS) (cls s1 s2 dst : Int) : Prop := 0 ≤ cls ∧ cls ≤ 7 ∧ [s1, s2, dst].all w.regOk = true
instance (w : WS) (cls s1 s2 dst : Int) : Decidable (w.enterOk cls s1 s2 dst) := inferInstanceAs (Decidable (_ ∧ _))
def EnterPost (W : World) (b : Nat) (w : WS) (cls s1 s2 dst : Int) (e : Ending) (w2 : World) : Prop :=
  if w.enterOk cls s1 s2 dst then
    (if w.n = w.S then e = .returned (.tuple #[.int .i64 0, errN 4]) ∧ Sep.Post (winA b w) W (winA b w) w2
    else e = .returned (.tuple #[.int .i64 w.next, .nilIface]) ∧ Sep.Post (winA b w) W (winA b (w.entered cls s1 s2 dst)) w2)
  else e = .returned (.tuple #[.int .i64 0, errN 3]) ∧ Sep.Post (winA b w) W (winA b w) w2
theorem slots_set (w : WS) (k : Nat) (hk : w.ix k < w.ring.length) (s : Slot) : splice (rows Slot.cells w.ring) (w.ix k * 6) s.cells = rows Slot.cells (w.ring.set (w.ix k) s) := rows_splice (slot_len _) _ s hk rfl
theorem enter_any (ho : w.Ok) (h : (winA b w).at_ W) (hx : w.next + 1 < 4611686018427387904) (cls s1 s2 dst : Int) :
    Calls Tryd.prog 7 #[.pointer (some ⟨b, 0, none⟩), .agg (entryC cls s1 s2 dst)] W (EnterPost W b w cls s1 s2 dst) := by
  have hs0 := ho.s0
  have hs1 := ho.s1
  have hn := ho.n
  have bad : ∀ {w2 : World}, ¬ w.enterOk cls s1 s2 dst → Sep.Post (winA b w) W (winA b w) w2 → EnterPost W b w cls s1 s2 dst (.returned (.tuple #[.int .i64 0, errN 3])) w2 := fun e hp => by unfold EnterPost; rw [if_neg e]; exact ⟨rfl, hp⟩
  refine vc7 b 0 (entryC cls s1 s2 dst) ((St.begin h).al fun k w2 H => ?_)
  have H : St W (winA b w).own w2 [winA b w, blk k (entryC cls s1 s2 dst) 32] := H
  refine ⟨cls, H.ld 1 rfl rfl, split_of (fun q => bad (fun e => by have := of_decide_eq_true q; have := e.1; omega) (H.post 0 rfl)) (fun q => ⟨cls, H.ld 1 rfl rfl, split_of (fun q1 => bad (fun e => by have := of_decide_eq_true q1; have := e.2.1; omega) (H.post 0 rfl)) (fun q1 => ?_)⟩)⟩
  have q := of_decide_eq_false q
  have q1 := of_decide_eq_false q1
  refine ⟨s1, H.ld 1 rfl rfl, s2, H.ld 1 rfl rfl, dst, H.ld 1 rfl rfl, H.al fun k2 w3 H => ?_⟩
  refine H.callp (register_any ho (H.nth 0 rfl) (l := [s1, s2, dst]) (H.blk 2 rfl) (by simp)) ⟨_, rfl, split_of (fun q2 => bad (fun e => by rw [e.2.2] at q2; cases q2) (H.post 0 rfl)) (fun q2 => ?_)⟩
  have q2 : [s1, s2, dst].all w.regOk = true := by simpa using q2
  have hok : w.enterOk cls s1 s2 dst := ⟨by omega, by omega, q2⟩
  have H : St W (winA b w).own w3 (w.pieces b ++ [blk k (entryC cls s1 s2 dst) 32, blk k2 #[.int .i64 s1, .int .i64 s2, .int .i64 dst] 3]) := H.open_
  refine ⟨w.n, H.ld 0 rfl rfl, _, _, _, H.ld 0 rfl rfl, fun w4 n hw4 => ?_⟩
  subst hw4
  have H := H.drewN n
  refine split_of (fun q3 => ?_) (fun q3 => ?_)
  · have q3 : w.n = w.S := by have : (w.n : Int) = (w.S : Int) := by simpa using q3
                              omega
    unfold EnterPost
    rw [if_pos hok, if_pos q3]
    exact ⟨rfl, win_shut H⟩
  · have q3 : ¬ w.n = w.S := fun e => by rw [e] at q3; simp at q3
    refine H.dr fun w5 H => ⟨w.n, H.ld 0 rfl rfl, entryC cls s1 s2 dst, rfl, H.cells 3 rfl, w.next, H.ld 0 rfl rfl, rfl, ?_⟩
    rintro vs2 rfl
    have hcur : (winA b w).at_ w5 := show here (w.pieces b) w5 from (here_append.1 H.here).1
    refine (at_any ho hcur w.n (by omega)).mono ?_
    rintro e w6 ⟨rfl, n6, rfl⟩
    have H := H.drewN n6
    have hi := ho.ix_lt w.n
    have hcell : List.toArray ((entryC cls s1 s2 dst).toList ++ [Value.int .u8 0, .int .i64 w.next]) = (Slot.mk cls s1 s2 dst 0 w.next).cells.toArray := rfl
    rw [hcell]
    refine ⟨_, rfl, (hush_drewN n6).below (Nat.le_refl _) (fun _ e => e.elim), ptr_some (adr_some (H.sts 1 rfl rfl (by rw [rows_size (slot_len _)]; show w.ix w.n * 6 + 6 ≤ _; omega) (by intro v hv; simp [Slot.cells] at hv; rcases hv with rfl | rfl | rfl | rfl | rfl | rfl <;> rfl) fun w7 H => ?_))⟩
    have hrow : splice (rows Slot.cells w.ring) (w.ix w.n * 6) (Slot.mk cls s1 s2 dst 0 w.next).cells.toArray.toList = rows Slot.cells (w.ring.set (w.ix w.n) ⟨cls, s1, s2, dst, 0, w.next⟩) := slots_set w w.n hi _
    rw [hrow] at H
    have hnx := ho.next
    refine ⟨w.n, H.ld 0 rfl rfl, ?_⟩
    rintro z10 rfl
    rw [w64 (by omega) (by omega), show ((w.n : Int) + 1) = ((w.n + 1 : Nat) : Int) by omega]
    refine H.st 0 rfl (by show 2 < 5; omega) fun w8 H => ⟨w.next, H.ld 0 rfl rfl, ?_⟩
    rintro z12 rfl
    rw [w64 (by omega) (by omega), show ((w.next : Int) + 1) = ((w.next + 1 : Nat) : Int) by omega]
    refine H.st 0 rfl (by show 3 < 5; omega) fun w9 H => ⟨dst, H.ld 3 rfl rfl, split_of (fun q4 => ?_) (fun q4 => ?_)⟩
    · have q4 := of_decide_eq_true q4
      obtain ⟨dd, rfl⟩ : ∃ d : Nat, dst = d := ⟨dst.toNat, by omega⟩
      have hdr : dd < w.R := by
        have := List.all_eq_true.1 q2 (dd : Int) (by simp)
        unfold WS.regOk at this
        simp at this; omega
      refine H.dr fun w10 H => ⟨_, _, _, H.ld 0 rfl rfl, dd, H.ld 3 rfl rfl, ⟨by omega, by omega⟩, adr_some ?_⟩
      rw [Int.toNat_natCast, show 0 + dd * 1 = dd by omega]
      refine H.st 2 rfl (by rw [bools_size, ho.ready]; exact hdr) fun w11 H => ⟨((w.next + 1 : Nat) : Int), H.ld 0 rfl rfl, ?_⟩
      rintro z16 rfl
      rw [w64 (by omega) (by omega), show (((w.next + 1 : Nat) : Int) - 1) = (w.next : Int) by omega]
      rw [bools_set] at H
      unfold EnterPost
      rw [if_pos hok, if_neg q3]
      refine ⟨rfl, ?_⟩
      have ev : w.entered cls s1 s2 dd = { w with ring := w.ring.set (w.ix w.n) ⟨cls, s1, s2, dd, 0, w.next⟩, n := w.n + 1, next := w.next + 1, ready := w.ready.set dd false } := by
        unfold WS.entered
        rw [if_pos (by omega), Int.toNat_natCast]
      rw [ev]
      exact win_shut (v := { w with ring := w.ring.set (w.ix w.n) ⟨cls, s1, s2, dd, 0, w.next⟩, n := w.n + 1, next := w.next + 1, ready := w.ready.set dd false }) H
    · have q4 := of_decide_eq_false q4
      refine ⟨((w.next + 1 : Nat) : Int), H.ld 0 rfl rfl, ?_⟩
      rintro z16 rfl
      rw [w64 (by omega) (by omega), show (((w.next + 1 : Nat) : Int) - 1) = (w.next : Int) by omega]
      unfold EnterPost
      rw [if_pos hok, if_neg q3]
      refine ⟨rfl, ?_⟩
      have ev : w.entered cls s1 s2 dst = { w with ring := w.ring.set (w.ix w.n) ⟨cls, s1, s2, dst, 0, w.next⟩, n := w.n + 1, next := w.next + 1 } := by
        unfold WS.entered
        rw [if_neg (by omega)]
      rw [ev]
      exact win_shut (v := { w with ring := w.ring.set (w.ix w.n) ⟨cls, s1, s2, dst, 0, w.next⟩, n := w.n + 1, next := w.next + 1 }) H
end Go.Proofs.YtdliholhfiihcaaDoor
