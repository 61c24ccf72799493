/- The window, part E: register, Enter, Wake, turn, Retire. No condition. -/
import Derived.Test.YtdliholhfiihcaaDoorWinD
namespace Go.Proofs.YtdliholhfiihcaaDoor
open Go.RowKit Go.XHeap Go.Sx Go.Sep
set_option linter.unusedVariables false
set_option maxRecDepth 100000
variable {W w' : World} {b : Nat} {w v : WS}

def errN (n : Int) : Value := .iface 35 (.int .i64 n)
def WS.regOk (w : WS) (p : Int) : Bool := decide (-1 ≤ p) && decide (p < w.R)
theorem register_any (ho : w.Ok) (h : (winA b w).at_ W) {kb cap : Nat} {l : List Int} (hl : Blk W kb (intsV l).toArray 3) (hll : l.length ≤ 4) :
    Calls Tryd.prog 29 #[.pointer (some ⟨b, 0, none⟩), .slice (some ⟨kb, 0, none⟩) l.length cap] W fun e w2 => e = .returned (.bool (l.all w.regOk)) ∧ w2 = W := by
  have H := win_open h
  refine vc29 b 0 _ l.length cap ⟨fun x A => ∃ m : Nat, x = m ∧ m ≤ l.length ∧ A = W ∧ (l.take m).all w.regOk = true, fun x _ => l.length - x.toNat, ⟨0, rfl, by omega, rfl, rfl⟩, fun _ => ?_⟩
  rintro x A ⟨m, rfl, hm, rfl, hall⟩
  refine split_of (fun q => ?_) (fun q => ?_)
  · have q := of_decide_eq_true q
    have hml : m < l.length := by omega
    have hx : l[m]? = some l[m] := List.getElem?_eq_getElem hml
    have hbad : w.regOk l[m] = false → l.all w.regOk = false := fun e => by
      rw [List.all_eq_false]
      exact ⟨l[m], List.getElem_mem _, by rw [e]; decide⟩
    refine ⟨⟨by omega, q⟩, adr_some ⟨l[m], ?_, split_of (fun q1 => ⟨?_, rfl⟩) (fun q1 => ⟨_, _, _, H.ld 0 rfl rfl, split_of (fun q2 => ⟨?_, rfl⟩) (fun q2 => ?_)⟩)⟩⟩
    · rw [ix1, Nat.zero_add]
      exact hl.cell' (by simp [intsV, hx])
    · have q1 := of_decide_eq_true q1
      rw [hbad (by unfold WS.regOk; rw [decide_eq_false (by omega)]; rfl)]
    · have q2 := of_decide_eq_true q2
      rw [hbad (by unfold WS.regOk; rw [decide_eq_false (p := l[m] < (w.R : Int)) (by omega), Bool.and_false])]
    · have q1 := of_decide_eq_false q1
      have q2 := of_decide_eq_false q2
      rintro z2 rfl
      rw [w64 (by omega) (by omega)]
      refine ⟨⟨m + 1, by omega, by omega, rfl, ?_⟩, by show l.length - ((m : Int) + 1).toNat < l.length - (m : Int).toNat; omega⟩
      rw [List.take_add_one, hx, List.all_append, hall]
      show (true && ([l[m]].all w.regOk)) = true
      have : w.regOk l[m] = true := by unfold WS.regOk; rw [decide_eq_true (by omega), decide_eq_true (by omega)]; rfl
      simp [this]
  · have q := of_decide_eq_false q
    obtain rfl : m = l.length := by omega
    rw [List.take_length] at hall
    exact ⟨by rw [hall], rfl⟩
/-! ### Wake -/
def WS.woken (w : WS) (p : Nat) : WS := { w with ready := w.ready.set p true }
theorem woken_ok (ho : w.Ok) (p : Nat) : (w.woken p).Ok := ⟨ho.s0, ho.s1, ho.ring, ho.head, ho.n, ho.next, ho.r0, ho.r1, by show (w.ready.set p true).length = w.R; rw [List.length_set]; exact ho.ready, ho.st⟩
theorem wake_bad (ho : w.Ok) (h : (winA b w).at_ W) (p : Int) (hp : p < 0 ∨ (w.R : Int) ≤ p) :
    Calls Tryd.prog 12 #[.pointer (some ⟨b, 0, none⟩), .int .i64 p] W fun e w2 => e = .returned (errN 3) ∧ Hush W w2 := by
  refine vc12 b 0 p (split_of (fun q => ⟨rfl, XTouch.refl _ _⟩) (fun q => (St.nil W).al fun k w2 H => ?_))
  have q := of_decide_eq_false q
  have h2 : (winA b w).at_ w2 := (winA b w).keep h H.touch (fun _ _ e => e)
  refine H.callp (register_any ho h2 (l := [p]) (H.blk 0 rfl) (by simp)) ⟨_, rfl, split_of (fun q1 => ⟨rfl, H.touch⟩) (fun q1 => ?_)⟩
  have : w.regOk p = true := by simpa using q1
  unfold WS.regOk at this
  simp at this
  omega
theorem wake_good (ho : w.Ok) (h : (winA b w).at_ W) (p : Nat) (hp : p < w.R) :
    Calls Tryd.prog 12 #[.pointer (some ⟨b, 0, none⟩), .int .i64 p] W fun e w2 => e = .returned .nilIface ∧ Sep.Post (winA b w) W (winA b (w.woken p)) w2 := by
  refine vc12 b 0 p (split_of (fun q => absurd (of_decide_eq_true q) (by omega)) (fun q => (St.begin h).al fun k w2 H => ?_))
  refine H.callp (register_any ho (H.nth 0 rfl) (l := [(p : Int)]) (H.blk 1 rfl) (by simp)) ⟨_, rfl, split_of (fun q1 => ?_) (fun q1 => ?_)⟩
  · exfalso
    have : w.regOk (p : Int) = true := by unfold WS.regOk; rw [decide_eq_true (by omega), decide_eq_true (by omega)]; rfl
    simp [this] at q1
  · have H : St W (winA b w).own w2 (w.pieces b ++ [blk k #[.int .i64 p] 3]) := H.open_
    refine ⟨_, _, _, H.ld 0 rfl rfl, ⟨by omega, by omega⟩, adr_some ?_⟩
    rw [Int.toNat_natCast, show 0 + p * 1 = p by omega]
    refine H.st 2 rfl (by rw [bools_size, ho.ready]; exact hp) fun w3 H => ⟨rfl, ?_⟩
    rw [bools_set] at H
    exact win_shut (L := [blk k #[.int .i64 p] 3]) H
/-! ### turn -/
def WS.turned (w : WS) (k to : Nat) : WS := { w with ring := w.ring.set (w.ix k) { w.slot k with st := to } }
theorem turned_ok (ho : w.Ok) (k : Nat) {to : Nat} (ht : to < 256) : (w.turned k to).Ok := ⟨ho.s0, ho.s1, by show (w.ring.set _ _).length = w.S; rw [List.length_set]; exact ho.ring, ho.head, ho.n, ho.next, ho.r0, ho.r1, ho.ready, fun s hs => by
  rcases List.mem_or_eq_of_mem_set hs with e | rfl
  · exact ho.st s e
  · exact ht⟩
def WS.turn (w : WS) (seq : Int) (a to : Nat) : Option Nat := match w.find seq with
  | some k => if (w.slot k).st = a ∧ (to = 1 → w.able (w.slot k) = true) then some k else none
  | none => none
def TurnPost (W : World) (b : Nat) (w : WS) (seq : Int) (a to : Nat) (e : Ending) (w2 : World) : Prop := match w.turn seq a to with
  | some k => e = .returned .nilIface ∧ Sep.Post (winA b w) W (winA b (w.turned k to)) w2
  | none => e = .returned (errN 7) ∧ Sep.Post (winA b w) W (winA b w) w2
theorem turn_any (ho : w.Ok) (h : (winA b w).at_ W) (hr : ∀ k, k < w.n → (w.slot k).regs w.R) (seq : Int) (a to : Nat) :
    Calls Tryd.prog 34 #[.pointer (some ⟨b, 0, none⟩), .int .i64 seq, .int .u8 a, .int .u8 to] W (TurnPost W b w seq a to) := by
  refine vc34 b 0 seq a to ((find_any ho h seq).mono ?_)
  rintro e w2 ⟨rfl, hh⟩
  have hS := win_same h hh
  have h2 : (winA b w).at_ w2 := hS.1
  have H : St W (winA b w).own w2 (w.pieces b ++ []) := ((St.begin h).upd 0 rfl hS).open_
  have hg : Blk w2 w.g (rows Slot.cells w.ring) 76 := H.nth 1 rfl
  have bad : w.turn seq a to = none → TurnPost W b w seq a to (.returned (errN 7)) w2 := fun e => by unfold TurnPost; rw [e]; exact ⟨rfl, hS⟩
  cases hf : w.find seq with
  | none => exact ⟨_, rfl, split_of (fun _ => bad (by unfold WS.turn; rw [hf])) (fun q => by cases q)⟩
  | some k =>
    have hk : k < w.n := by
      unfold WS.find at hf
      exact List.mem_range.1 (List.mem_of_find?_eq_some hf)
    refine ⟨_, rfl, split_of (fun q => by cases q) (fun _ => ptr_some ⟨(w.slot k).st, ?_, split_of (fun q => ?_) (fun q => ?_)⟩)⟩
    · rw [add_none]; exact slot_cell ho hg k (q := 4) (by omega) rfl
    · have q : ¬ (w.slot k).st = a := fun e => by rw [e] at q; simp at q
      exact bad (by unfold WS.turn; rw [hf]; exact if_neg (fun e => q e.1))
    · have q : (w.slot k).st = a := by have : ((w.slot k).st : Int) = (a : Int) := by simpa using q
                                       omega
      have good : ∀ {B : World}, B = w2 → (to = 1 → w.able (w.slot k) = true) → (∃ u, B.cell? ((⟨w.g, w.ix k * 6, none⟩ : Addr).add 4) = some u) ∧ B.frozen? ((⟨w.g, w.ix k * 6, none⟩ : Addr).add 4) = false ∧ ∀ w3, w3 = B.setCell ((⟨w.g, w.ix k * 6, none⟩ : Addr).add 4) (.int .u8 to) → TurnPost W b w seq a to (.returned .nilIface) w3 := by
        rintro B rfl hab
        rw [add_none]
        have hi := ho.ix_lt k
        refine H.st 1 rfl (by rw [rows_size (slot_len _)]; omega) fun w3 H => ?_
        have et : w.turn seq a to = some k := by unfold WS.turn; rw [hf]; exact if_pos ⟨q, hab⟩
        unfold TurnPost
        rw [et]
        refine ⟨rfl, ?_⟩
        rw [rows_set (f := Slot.cells) (slot_len _) (slot_at ho k) (by decide) (y := { w.slot k with st := to }) rfl] at H
        exact win_shut (v := w.turned k to) (L := []) H
      refine split_of (fun q1 => ?_) (fun q1 => ptr_some (good rfl (fun e => by rw [e] at q1; simp at q1)))
      refine (able_any ho h2 k (hr k hk)).mono ?_
      rintro e w3 ⟨rfl, rfl⟩
      have q1 : to = 1 := by have : (to : Int) = 1 := by simpa using q1
                             omega
      refine ⟨_, rfl, split_of (fun q2 => ?_) (fun q2 => ptr_some (good rfl (fun _ => by simpa using q2)))⟩
      have q2 : ¬ w.able (w.slot k) = true := by simpa using q2
      exact bad (by unfold WS.turn; rw [hf]; exact if_neg (fun e => q2 (e.2 q1)))
theorem issue_any (ho : w.Ok) (h : (winA b w).at_ W) (hr : ∀ k, k < w.n → (w.slot k).regs w.R) (seq : Int) : Calls Tryd.prog 10 #[.pointer (some ⟨b, 0, none⟩), .int .i64 seq] W (TurnPost W b w seq 0 1) :=
  vc10 b 0 seq ((turn_any ho h hr seq 0 1).mono fun e w2 hp => by
    unfold TurnPost at hp ⊢
    split at hp
    · obtain ⟨rfl, hp⟩ := hp; exact ⟨_, rfl, rfl, hp⟩
    · obtain ⟨rfl, hp⟩ := hp; exact ⟨_, rfl, rfl, hp⟩)
theorem again_any (ho : w.Ok) (h : (winA b w).at_ W) (hr : ∀ k, k < w.n → (w.slot k).regs w.R) (seq : Int) : Calls Tryd.prog 23 #[.pointer (some ⟨b, 0, none⟩), .int .i64 seq] W (TurnPost W b w seq 1 0) :=
  vc23 b 0 seq ((turn_any ho h hr seq 1 0).mono fun e w2 hp => by
    unfold TurnPost at hp ⊢
    split at hp
    · obtain ⟨rfl, hp⟩ := hp; exact ⟨_, rfl, rfl, hp⟩
    · obtain ⟨rfl, hp⟩ := hp; exact ⟨_, rfl, rfl, hp⟩)
theorem done_any (ho : w.Ok) (h : (winA b w).at_ W) (hr : ∀ k, k < w.n → (w.slot k).regs w.R) (seq : Int) : Calls Tryd.prog 11 #[.pointer (some ⟨b, 0, none⟩), .int .i64 seq] W (TurnPost W b w seq 1 2) :=
  vc11 b 0 seq ((turn_any ho h hr seq 1 2).mono fun e w2 hp => by
    unfold TurnPost at hp ⊢
    split at hp
    · obtain ⟨rfl, hp⟩ := hp; exact ⟨_, rfl, rfl, hp⟩
    · obtain ⟨rfl, hp⟩ := hp; exact ⟨_, rfl, rfl, hp⟩)
end Go.Proofs.YtdliholhfiihcaaDoor
