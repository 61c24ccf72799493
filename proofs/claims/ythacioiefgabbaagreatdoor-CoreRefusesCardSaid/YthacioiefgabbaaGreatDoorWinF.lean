import Derived.Test.YthacioiefgabbaaGreatDoorWinD
/- The window, part E: register, Enter, Wake, turn, Retire. No condition. -/
namespace Go.Proofs.YthacioiefgabbaaGreatDoor.win
open Go.RowKit Go.XHeap Go.Sx Go.Sep
set_option linter.unusedVariables false
set_option maxRecDepth 100000
variable {W w' : World} {b : Nat} {w v : WS}

def errN (n : Int) : Value := .iface 33 (.int .i64 n)
def WS.regOk (w : WS) (p : Int) : Bool := decide (-1 ≤ p) && decide (p < w.R)
theorem register_any (ho : w.Ok) (h : (winA b w).at_ W) {kb cap : Nat} {l : List Int} (hl : Blk W kb (intsV l).toArray 3) (hll : l.length ≤ 4) :
    Calls Tryz.prog 187 #[.pointer (some ⟨b, 0, none⟩), .slice (some ⟨kb, 0, none⟩) l.length cap] W fun e w2 => e = .returned (.bool (l.all w.regOk)) ∧ w2 = W := by
  have H := win_open h
  refine vc187 b 0 _ l.length cap ⟨fun x A => ∃ m : Nat, x = m ∧ m ≤ l.length ∧ A = W ∧ (l.take m).all w.regOk = true, fun x _ => l.length - x.toNat, ⟨0, rfl, by omega, rfl, rfl⟩, fun _ => ?_⟩
  rintro x A ⟨m, rfl, hm, rfl, hall⟩
  refine split_of (fun q => ?_) (fun q => ?_)
  · have q := of_decide_eq_true q
    have hml : m < l.length := by omega
    have hx : l[m]? = some l[m] := List.getElem?_eq_getElem hml
    have hbad : w.regOk l[m] = false → l.all w.regOk = false := fun e => by
      rw [List.all_eq_false]
      exact ⟨l[m], List.getElem_mem _, by rw [e]; decide⟩
    refine ⟨⟨by omega, q⟩, adr_some ⟨l[m], ?_, split_of (fun q1 => ⟨?_, rfl⟩) (fun q1 => ⟨_, _, _, H.ld 0 rfl rfl, split_of (fun q2 => ⟨?_, rfl⟩) (fun q2 => ?_)⟩)⟩⟩
    · rw [ix1, Nat.zero_add]
      exact hl.cell' (by simp [intsV, hx])
    · have q1 := of_decide_eq_true q1
      rw [hbad (by unfold WS.regOk; rw [decide_eq_false (by omega)]; rfl)]
    · have q2 := of_decide_eq_true q2
      rw [hbad (by unfold WS.regOk; rw [decide_eq_false (p := l[m] < (w.R : Int)) (by omega), Bool.and_false])]
    · have q1 := of_decide_eq_false q1
      have q2 := of_decide_eq_false q2
      rintro z2 rfl
      rw [w64 (by omega) (by omega)]
      refine ⟨⟨m + 1, by omega, by omega, rfl, ?_⟩, by show l.length - ((m : Int) + 1).toNat < l.length - (m : Int).toNat; omega⟩
      rw [List.take_add_one, hx, List.all_append, hall]
      show (true && ([l[m]].all w.regOk)) = true
      have : w.regOk l[m] = true := by unfold WS.regOk; rw [decide_eq_true (by omega), decide_eq_true (by omega)]; rfl
      simp [this]
  · have q := of_decide_eq_false q
    obtain rfl : m = l.length := by omega
    rw [List.take_length] at hall
    exact ⟨by rw [hall], rfl⟩
/-! ### Wake -/
/-! ### turn -/
def WS.turned (w : WS) (k to : Nat) : WS := { w with ring := w.ring.set (w.ix k) { w.slot k with st := to } }
theorem turned_ok (ho : w.Ok) (k : Nat) {to : Nat} (ht : to < 256) : (w.turned k to).Ok := ⟨ho.s0, ho.s1, by show (w.ring.set _ _).length = w.S; rw [List.length_set]; exact ho.ring, ho.head, ho.n, ho.next, ho.r0, ho.r1, ho.ready, fun s hs => by
  rcases List.mem_or_eq_of_mem_set hs with e | rfl
  · exact ho.st s e
  · exact ht⟩
def WS.turn (w : WS) (seq : Int) (a to : Nat) : Option Nat := match w.find seq with
  | some k => if (w.slot k).st = a ∧ (to = 1 → w.able (w.slot k) = true) then some k else none
  | none => none
def TurnPost (W : World) (b : Nat) (w : WS) (seq : Int) (a to : Nat) (e : Ending) (w2 : World) : Prop := match w.turn seq a to with
  | some k => e = .returned .nilIface ∧ Sep.Post (winA b w) W (winA b (w.turned k to)) w2
  | none => e = .returned (errN 7) ∧ Sep.Post (winA b w) W (winA b w) w2
theorem turn_any (ho : w.Ok) (h : (winA b w).at_ W) (hr : ∀ k, k < w.n → (w.slot k).regs w.R) (seq : Int) (a to : Nat) :
    Calls Tryz.prog 186 #[.pointer (some ⟨b, 0, none⟩), .int .i64 seq, .int .u8 a, .int .u8 to] W (TurnPost W b w seq a to) := by
  refine vc186 b 0 seq a to ((find_any ho h seq).mono ?_)
  rintro e w2 ⟨rfl, hh⟩
  have hS := win_same h hh
  have h2 : (winA b w).at_ w2 := hS.1
  have H : St W (winA b w).own w2 (w.pieces b ++ []) := ((St.begin h).upd 0 rfl hS).open_
  have hg : Blk w2 w.g (rows Slot.cells w.ring) 320 := H.nth 1 rfl
  have bad : w.turn seq a to = none → TurnPost W b w seq a to (.returned (errN 7)) w2 := fun e => by unfold TurnPost; rw [e]; exact ⟨rfl, hS⟩
  cases hf : w.find seq with
  | none => exact ⟨_, rfl, split_of (fun _ => bad (by unfold WS.turn; rw [hf])) (fun q => by cases q)⟩
  | some k =>
    have hk : k < w.n := by
      unfold WS.find at hf
      exact List.mem_range.1 (List.mem_of_find?_eq_some hf)
    refine ⟨_, rfl, split_of (fun q => by cases q) (fun _ => ptr_some ⟨(w.slot k).st, ?_, split_of (fun q => ?_) (fun q => ?_)⟩)⟩
    · rw [add_none]; exact slot_cell ho hg k (q := 4) (by omega) rfl
    · have q : ¬ (w.slot k).st = a := fun e => by rw [e] at q; simp at q
      exact bad (by unfold WS.turn; rw [hf]; exact if_neg (fun e => q e.1))
    · have q : (w.slot k).st = a := by have : ((w.slot k).st : Int) = (a : Int) := by simpa using q
                                       omega
      have good : ∀ {B : World}, B = w2 → (to = 1 → w.able (w.slot k) = true) → (∃ u, B.cell? ((⟨w.g, w.ix k * 6, none⟩ : Addr).add 4) = some u) ∧ B.frozen? ((⟨w.g, w.ix k * 6, none⟩ : Addr).add 4) = false ∧ ∀ w3, w3 = B.setCell ((⟨w.g, w.ix k * 6, none⟩ : Addr).add 4) (.int .u8 to) → TurnPost W b w seq a to (.returned .nilIface) w3 := by
        rintro B rfl hab
        rw [add_none]
        have hi := ho.ix_lt k
        refine H.st 1 rfl (by rw [rows_size (slot_len _)]; omega) fun w3 H => ?_
        have et : w.turn seq a to = some k := by unfold WS.turn; rw [hf]; exact if_pos ⟨q, hab⟩
        unfold TurnPost
        rw [et]
        refine ⟨rfl, ?_⟩
        rw [rows_set (f := Slot.cells) (slot_len _) (slot_at ho k) (by decide) (y := { w.slot k with st := to }) rfl] at H
        exact win_shut (v := w.turned k to) (L := []) H
      refine split_of (fun q1 => ?_) (fun q1 => ptr_some (good rfl (fun e => by rw [e] at q1; simp at q1)))
      refine (able_any ho h2 k (hr k hk)).mono ?_
      rintro e w3 ⟨rfl, rfl⟩
      have q1 : to = 1 := by have : (to : Int) = 1 := by simpa using q1
                             omega
      refine ⟨_, rfl, split_of (fun q2 => ?_) (fun q2 => ptr_some (good rfl (fun _ => by simpa using q2)))⟩
      have q2 : ¬ w.able (w.slot k) = true := by simpa using q2
      exact bad (by unfold WS.turn; rw [hf]; exact if_neg (fun e => q2 (e.2 q1)))
theorem issue_any (ho : w.Ok) (h : (winA b w).at_ W) (hr : ∀ k, k < w.n → (w.slot k).regs w.R) (seq : Int) : Calls Tryz.prog 163 #[.pointer (some ⟨b, 0, none⟩), .int .i64 seq] W (TurnPost W b w seq 0 1) :=
  vc163 b 0 seq ((turn_any ho h hr seq 0 1).mono fun e w2 hp => by
    unfold TurnPost at hp ⊢
    split at hp
    · obtain ⟨rfl, hp⟩ := hp; exact ⟨_, rfl, rfl, hp⟩
    · obtain ⟨rfl, hp⟩ := hp; exact ⟨_, rfl, rfl, hp⟩)
theorem done_any (ho : w.Ok) (h : (winA b w).at_ W) (hr : ∀ k, k < w.n → (w.slot k).regs w.R) (seq : Int) : Calls Tryz.prog 140 #[.pointer (some ⟨b, 0, none⟩), .int .i64 seq] W (TurnPost W b w seq 1 2) :=
  vc140 b 0 seq ((turn_any ho h hr seq 1 2).mono fun e w2 hp => by
    unfold TurnPost at hp ⊢
    split at hp
    · obtain ⟨rfl, hp⟩ := hp; exact ⟨_, rfl, rfl, hp⟩
    · obtain ⟨rfl, hp⟩ := hp; exact ⟨_, rfl, rfl, hp⟩)
end Go.Proofs.YthacioiefgabbaaGreatDoor.win
/- The window, part F: Enter, Retire. No condition. -/
namespace Go.Proofs.YthacioiefgabbaaGreatDoor.win
open Go.RowKit Go.XHeap Go.Sx Go.Sep
set_option linter.unusedVariables false
set_option maxRecDepth 100000
variable {W w' : World} {b : Nat} {w v : WS}

def WS.retired (w : WS) : WS := { w with head := (w.head + 1) % w.S, n := w.n - 1 }
theorem retired_ok (ho : w.Ok) : w.retired.Ok := ⟨ho.s0, ho.s1, ho.ring, Nat.mod_lt _ (by have := ho.s0; omega), by have := ho.n; show w.n - 1 ≤ w.S; omega, ho.next, ho.r0, ho.r1, ho.ready, ho.st⟩
def RetirePost (W : World) (b : Nat) (w : WS) (e : Ending) (w2 : World) : Prop :=
  if w.n ≠ 0 ∧ (w.slot 0).st = 2 then e = .returned (.tuple #[.int .i64 (w.slot 0).seq, .nilIface]) ∧ Sep.Post (winA b w) W (winA b w.retired) w2
  else e = .returned (.tuple #[.int .i64 0, errN 7]) ∧ Sep.Post (winA b w) W (winA b w) w2
theorem retire_any (ho : w.Ok) (h : (winA b w).at_ W) : Calls Tryz.prog 198 #[.pointer (some ⟨b, 0, none⟩)] W (RetirePost W b w) := by
  have hs0 := ho.s0
  have hs1 := ho.s1
  have hh0 := ho.head
  have hn := ho.n
  refine vc198 b 0 ((whead_any ho h).mono ?_)
  rintro e w2 ⟨rfl, hh⟩
  have hS := win_same h hh
  by_cases q0 : w.n = 0
  · have e1 : w.headR = .tuple #[.int .i64 0, .bool false, .bool false] := if_pos q0
    have bad : RetirePost W b w (.returned (.tuple #[.int .i64 0, errN 7])) w2 := by unfold RetirePost; rw [if_neg (fun e => e.1 q0)]; exact ⟨rfl, hS⟩
    rw [e1]
    exact ⟨_, _, _, rfl, split_of (fun _ => bad) (fun q => by cases q)⟩
  · have e1 : w.headR = .tuple #[.int .i64 (w.slot 0).seq, .bool (decide ((w.slot 0).st = 2)), .bool true] := if_neg q0
    rw [e1]
    refine ⟨_, _, _, rfl, split_of (fun q => by cases q) (fun _ => split_of (fun q1 => ?_) (fun q1 => ?_))⟩
    · have q1 : ¬ (w.slot 0).st = 2 := by simpa using q1
      unfold RetirePost; rw [if_neg (fun e => q1 e.2)]; exact ⟨rfl, hS⟩
    · have q1 : (w.slot 0).st = 2 := by simpa using q1
      have H : St W (winA b w).own w2 (w.pieces b ++ []) := ((St.begin h).upd 0 rfl hS).open_
      refine H.dr fun w3 H => ⟨w.head, H.ld 0 rfl rfl, ?_⟩
      rintro z3 rfl
      rw [w64 (by omega) (by omega)]
      refine ⟨_, _, _, H.ld 0 rfl rfl, by omega, ?_⟩
      rintro z4 rfl
      have e2 : Int.tmod ((w.head : Int) + 1) (w.S : Int) = (((w.head + 1) % w.S : Nat) : Int) := rfl
      rw [e2]
      refine H.st 0 rfl (by show 1 < 5; omega) fun w4 H => ⟨w.n, H.ld 0 rfl rfl, ?_⟩
      rintro z6 rfl
      rw [w64 (by omega) (by omega), show ((w.n : Int) - 1) = ((w.n - 1 : Nat) : Int) by omega]
      refine H.st 0 rfl (by show 2 < 5; omega) fun w5 H => ?_
      unfold RetirePost
      rw [if_pos ⟨q0, q1⟩]
      exact ⟨rfl, win_shut (v := w.retired) (L := []) H⟩
/-! ### Enter -/
def entryC (cls s1 s2 dst : Int) : Array Value := #[.int .i64 cls, .int .i64 s1, .int .i64 s2, .int .i64 dst]
def WS.entered (w : WS) (cls s1 s2 dst : Int) : WS := { w with ring := w.ring.set (w.ix w.n) ⟨cls, s1, s2, dst, 0, w.next⟩, n := w.n + 1, next := w.next + 1, ready := if 0 ≤ dst then w.ready.set dst.toNat false else w.ready }
theorem entered_ok (ho : w.Ok) (hn : w.n < w.S) (hx : w.next + 1 < 4611686018427387904) (cls s1 s2 dst : Int) : (w.entered cls s1 s2 dst).Ok := ⟨ho.s0, ho.s1, by show (w.ring.set _ _).length = w.S; rw [List.length_set]; exact ho.ring, ho.head, hn, hx, ho.r0, ho.r1, by
  show (if 0 ≤ dst then w.ready.set dst.toNat false else w.ready).length = w.R
  split
  · rw [List.length_set]; exact ho.ready
  · exact ho.ready, fun s hs => by
  rcases List.mem_or_eq_of_mem_set hs with e | rfl
  · exact ho.st s e
  · show 0 < 256; decide⟩
def WS.enterOk (w : WS) (cls s1 s2 dst : Int) : Prop := 0 ≤ cls ∧ cls ≤ 7 ∧ [s1, s2, dst].all w.regOk = true
instance (w : WS) (cls s1 s2 dst : Int) : Decidable (w.enterOk cls s1 s2 dst) := inferInstanceAs (Decidable (_ ∧ _))
def EnterPost (W : World) (b : Nat) (w : WS) (cls s1 s2 dst : Int) (e : Ending) (w2 : World) : Prop :=
  if w.enterOk cls s1 s2 dst then
    (if w.n = w.S then e = .returned (.tuple #[.int .i64 0, errN 4]) ∧ Sep.Post (winA b w) W (winA b w) w2
    else e = .returned (.tuple #[.int .i64 w.next, .nilIface]) ∧ Sep.Post (winA b w) W (winA b (w.entered cls s1 s2 dst)) w2)
  else e = .returned (.tuple #[.int .i64 0, errN 3]) ∧ Sep.Post (winA b w) W (winA b w) w2
theorem slots_set (w : WS) (k : Nat) (hk : w.ix k < w.ring.length) (s : Slot) : splice (rows Slot.cells w.ring) (w.ix k * 6) s.cells = rows Slot.cells (w.ring.set (w.ix k) s) := rows_splice (slot_len _) _ s hk rfl
theorem enter_any (ho : w.Ok) (h : (winA b w).at_ W) (hx : w.next + 1 < 4611686018427387904) (cls s1 s2 dst : Int) :
    Calls Tryz.prog 176 #[.pointer (some ⟨b, 0, none⟩), .agg (entryC cls s1 s2 dst)] W (EnterPost W b w cls s1 s2 dst) := by
  have hs0 := ho.s0
  have hs1 := ho.s1
  have hn := ho.n
  have bad : ∀ {w2 : World}, ¬ w.enterOk cls s1 s2 dst → Sep.Post (winA b w) W (winA b w) w2 → EnterPost W b w cls s1 s2 dst (.returned (.tuple #[.int .i64 0, errN 3])) w2 := fun e hp => by unfold EnterPost; rw [if_neg e]; exact ⟨rfl, hp⟩
  refine vc176 b 0 (entryC cls s1 s2 dst) ((St.begin h).al fun k w2 H => ?_)
  have H : St W (winA b w).own w2 [winA b w, blk k (entryC cls s1 s2 dst) 317] := H
  refine ⟨cls, H.ld 1 rfl rfl, split_of (fun q => bad (fun e => by have := of_decide_eq_true q; have := e.1; omega) (H.post 0 rfl)) (fun q => ⟨cls, H.ld 1 rfl rfl, split_of (fun q1 => bad (fun e => by have := of_decide_eq_true q1; have := e.2.1; omega) (H.post 0 rfl)) (fun q1 => ?_)⟩)⟩
  have q := of_decide_eq_false q
  have q1 := of_decide_eq_false q1
  refine ⟨s1, H.ld 1 rfl rfl, s2, H.ld 1 rfl rfl, dst, H.ld 1 rfl rfl, H.al fun k2 w3 H => ?_⟩
  refine H.callp (register_any ho (H.nth 0 rfl) (l := [s1, s2, dst]) (H.blk 2 rfl) (by simp)) ⟨_, rfl, split_of (fun q2 => bad (fun e => by rw [e.2.2] at q2; cases q2) (H.post 0 rfl)) (fun q2 => ?_)⟩
  have q2 : [s1, s2, dst].all w.regOk = true := by simpa using q2
  have hok : w.enterOk cls s1 s2 dst := ⟨by omega, by omega, q2⟩
  have H : St W (winA b w).own w3 (w.pieces b ++ [blk k (entryC cls s1 s2 dst) 317, blk k2 #[.int .i64 s1, .int .i64 s2, .int .i64 dst] 3]) := H.open_
  refine ⟨w.n, H.ld 0 rfl rfl, _, _, _, H.ld 0 rfl rfl, fun w4 n hw4 => ?_⟩
  subst hw4
  have H := H.drewN n
  refine split_of (fun q3 => ?_) (fun q3 => ?_)
  · have q3 : w.n = w.S := by have : (w.n : Int) = (w.S : Int) := by simpa using q3
                              omega
    unfold EnterPost
    rw [if_pos hok, if_pos q3]
    exact ⟨rfl, win_shut H⟩
  · have q3 : ¬ w.n = w.S := fun e => by rw [e] at q3; simp at q3
    refine H.dr fun w5 H => ⟨w.n, H.ld 0 rfl rfl, entryC cls s1 s2 dst, rfl, H.cells 3 rfl, w.next, H.ld 0 rfl rfl, rfl, ?_⟩
    rintro vs2 rfl
    have hcur : (winA b w).at_ w5 := show here (w.pieces b) w5 from (here_append.1 H.here).1
    refine (at_any ho hcur w.n (by omega)).mono ?_
    rintro e w6 ⟨rfl, n6, rfl⟩
    have H := H.drewN n6
    have hi := ho.ix_lt w.n
    have hcell : List.toArray ((entryC cls s1 s2 dst).toList ++ [Value.int .u8 0, .int .i64 w.next]) = (Slot.mk cls s1 s2 dst 0 w.next).cells.toArray := rfl
    rw [hcell]
    refine ⟨_, rfl, (hush_drewN n6).below (Nat.le_refl _) (fun _ e => e.elim), ptr_some (adr_some (H.sts 1 rfl rfl (by rw [rows_size (slot_len _)]; show w.ix w.n * 6 + 6 ≤ _; omega) (by intro v hv; simp [Slot.cells] at hv; rcases hv with rfl | rfl | rfl | rfl | rfl | rfl <;> rfl) fun w7 H => ?_))⟩
    have hrow : splice (rows Slot.cells w.ring) (w.ix w.n * 6) (Slot.mk cls s1 s2 dst 0 w.next).cells.toArray.toList = rows Slot.cells (w.ring.set (w.ix w.n) ⟨cls, s1, s2, dst, 0, w.next⟩) := slots_set w w.n hi _
    rw [hrow] at H
    have hnx := ho.next
    refine ⟨w.n, H.ld 0 rfl rfl, ?_⟩
    rintro z10 rfl
    rw [w64 (by omega) (by omega), show ((w.n : Int) + 1) = ((w.n + 1 : Nat) : Int) by omega]
    refine H.st 0 rfl (by show 2 < 5; omega) fun w8 H => ⟨w.next, H.ld 0 rfl rfl, ?_⟩
    rintro z12 rfl
    rw [w64 (by omega) (by omega), show ((w.next : Int) + 1) = ((w.next + 1 : Nat) : Int) by omega]
    refine H.st 0 rfl (by show 3 < 5; omega) fun w9 H => ⟨dst, H.ld 3 rfl rfl, split_of (fun q4 => ?_) (fun q4 => ?_)⟩
    · have q4 := of_decide_eq_true q4
      obtain ⟨dd, rfl⟩ : ∃ d : Nat, dst = d := ⟨dst.toNat, by omega⟩
      have hdr : dd < w.R := by
        have := List.all_eq_true.1 q2 (dd : Int) (by simp)
        unfold WS.regOk at this
        simp at this; omega
      refine H.dr fun w10 H => ⟨_, _, _, H.ld 0 rfl rfl, dd, H.ld 3 rfl rfl, ⟨by omega, by omega⟩, adr_some ?_⟩
      rw [Int.toNat_natCast, show 0 + dd * 1 = dd by omega]
      refine H.st 2 rfl (by rw [bools_size, ho.ready]; exact hdr) fun w11 H => ⟨((w.next + 1 : Nat) : Int), H.ld 0 rfl rfl, ?_⟩
      rintro z16 rfl
      rw [w64 (by omega) (by omega), show (((w.next + 1 : Nat) : Int) - 1) = (w.next : Int) by omega]
      rw [bools_set] at H
      unfold EnterPost
      rw [if_pos hok, if_neg q3]
      refine ⟨rfl, ?_⟩
      have ev : w.entered cls s1 s2 dd = { w with ring := w.ring.set (w.ix w.n) ⟨cls, s1, s2, dd, 0, w.next⟩, n := w.n + 1, next := w.next + 1, ready := w.ready.set dd false } := by
        unfold WS.entered
        rw [if_pos (by omega), Int.toNat_natCast]
      rw [ev]
      exact win_shut (v := { w with ring := w.ring.set (w.ix w.n) ⟨cls, s1, s2, dd, 0, w.next⟩, n := w.n + 1, next := w.next + 1, ready := w.ready.set dd false }) H
    · have q4 := of_decide_eq_false q4
      refine ⟨((w.next + 1 : Nat) : Int), H.ld 0 rfl rfl, ?_⟩
      rintro z16 rfl
      rw [w64 (by omega) (by omega), show (((w.next + 1 : Nat) : Int) - 1) = (w.next : Int) by omega]
      unfold EnterPost
      rw [if_pos hok, if_neg q3]
      refine ⟨rfl, ?_⟩
      have ev : w.entered cls s1 s2 dst = { w with ring := w.ring.set (w.ix w.n) ⟨cls, s1, s2, dst, 0, w.next⟩, n := w.n + 1, next := w.next + 1 } := by
        unfold WS.entered
        rw [if_neg (by omega)]
      rw [ev]
      exact win_shut (v := { w with ring := w.ring.set (w.ix w.n) ⟨cls, s1, s2, dst, 0, w.next⟩, n := w.n + 1, next := w.next + 1 }) H
end Go.Proofs.YthacioiefgabbaaGreatDoor.win
