import Derived.Test.YthacioiefgabbaaGreatDoorPrVc
import Derived.Test.YthacioiefgabbaaGreatDoorTabA
import Derived.Test.YthacioiefgabbaaGreatDoorSxB
import Derived.Test.YthacioiefgabbaaGreatDoorChecked
import Derived.Test.YthacioiefgabbaaGreatDoorBits
/- The predictor as it lies in memory, and what of it a core asks where no branch and no jump comes. No condition but the tables as they are laid. -/
namespace Go.Proofs.YthacioiefgabbaaGreatDoor
open Go.RowKit Go.XHeap Go.Sx Go.Sep
set_option linter.unusedVariables false
set_option maxRecDepth 100000

structure Pr where
  dir : Value
  hist : Int
  mask : Int
  tb : Nat
  tn : Nat
  tc : Array Value
  sb : Nat
  stack : List Int
  top : Nat
structure Pr.Ok (P : Pr) : Prop where
  top : P.top < P.stack.length
  len : P.stack.length ≤ 16
  h0 : 0 ≤ P.hist
  h1 : P.hist ≤ P.mask
def Pr.root (P : Pr) : Array Value := #[P.dir, .int .i64 P.hist, .int .i64 P.mask, .slice (some ⟨P.tb, 0, none⟩) P.tn P.tn, .slice (some ⟨P.sb, 0, none⟩) P.stack.length P.stack.length, .int .i64 P.top]
def Pr.pieces (b : Nat) (P : Pr) : List Asn := [blk b P.root 217, blk P.tb P.tc 363, blk P.sb (ints .u32 P.stack) 43]
def predA (b : Nat) (P : Pr) : Asn := all (P.pieces b)
variable {W w : World} {b : Nat} {B : World} {P : Pr} {L : List Asn}
theorem pred_open (h : (predA b P).at_ W) : St W (predA b P).own W (P.pieces b ++ []) := (St.begin h).open_
theorem pred_shut (H : St W (predA b P).own w (P.pieces b ++ L)) : Sep.Post (predA b P) W (predA b P) w := (St.shut H).post 0 rfl
def Pr.val (P : Pr) : Int := P.stack.getD P.top 0
def Pr.mark (P : Pr) : Array Value := #[.int .i64 P.hist, .int .i64 P.top, .int .u32 P.val]
/-- an instruction that is no branch and no jump -/
def Calm (i : Ins) : Prop := classP i.op = 7 ∧ i.op ≠ 3 ∧ i.op ≠ 4
theorem pwithin_any (W : World) (n lo hi : Int) : Calls Tryz.prog 69 #[.int .i64 n, .int .i64 lo, .int .i64 hi] W fun e w => e = .returned (.bool (decide (lo ≤ n) && decide (n ≤ hi))) ∧ w = W :=
  vc69 n lo hi (split_of (fun q => ⟨by have : decide (lo ≤ n) = true := q; rw [this]; rfl, rfl⟩) (fun q => ⟨by have : decide (lo ≤ n) = false := q; rw [this]; rfl, rfl⟩))
theorem returns_calm (i : Ins) (hi : Calm i) (W : World) : Calls Tryz.prog 189 #[.agg i.vs] W fun e w => e = .returned (.bool false) ∧ Hush W w := by
  refine vc189 i.vs ((St.nil W).al fun k w2 H => ⟨i.op, H.ld 0 rfl rfl, split_of (fun q => ?_) (fun q => ⟨rfl, H.quiet'⟩)⟩)
  exact absurd (by simpa using q) hi.2.2
theorem calls_calm (i : Ins) (hi : Calm i) (hT : (tabsA B).at_ W) : Calls Tryz.prog 190 #[.agg i.vs] W fun e w => e = .returned (.bool false) ∧ Hush W w := by
  refine vc190 i.vs ((St.nil W).al fun k w2 H => ⟨i.op, H.ld 0 rfl rfl, ?_⟩)
  have hT2 := (tabsA B).keep hT H.touch (fun _ _ e => e)
  refine H.callq (class_q hT2.1 i.op) fun w3 H => ⟨_, rfl, split_of (fun q => ?_) (fun q => ⟨rfl, H.quiet'⟩)⟩
  rw [hi.1] at q
  cases q
theorem goOn_calm (h : (predA b P).at_ W) (i : Ins) (hi : Calm i) (hT : (tabsA B).at_ W) (pc : Int) (t : Bool) :
    Calls Tryz.prog 143 #[.pointer (some ⟨b, 0, none⟩), .int .u32 pc, .agg i.vs, .bool t] W fun e w => e = .returned (.tuple #[]) ∧ Hush W w := by
  have H0 := pred_open h
  refine vc143 b 0 pc i.vs t ((St.nil W).al fun k w2 H => ?_)
  have kp : ∀ {A : World} {L : List Asn}, St W (fun _ => False) A L → (predA b P).at_ A := fun H => (predA b P).keep h H.touch (fun _ _ e => e)
  have kt : ∀ {A : World} {L : List Asn}, St W (fun _ => False) A L → (tabsA B).at_ A := fun H => (tabsA B).keep hT H.touch (fun _ _ e => e)
  refine ⟨_, _, _, (pred_open (kp H)).ld 0 rfl rfl, i.op, H.ld 0 rfl rfl, H.callq (class_q (kt H).1 i.op) fun w3 H => ⟨_, rfl, split_of (fun q => ?_) (fun q => ?_)⟩⟩
  · rw [hi.1] at q; cases q
  refine ⟨i.vs, rfl, H.cells 0 rfl, H.callq (returns_calm i hi _) fun w4 H => ⟨_, rfl, split_of (fun q => by cases q) (fun _ => ?_)⟩⟩
  exact ⟨i.vs, rfl, H.cells 0 rfl, H.callq (calls_calm i hi (kt H)) fun w5 H => ⟨_, rfl, split_of (fun q => by cases q) (fun _ => ⟨rfl, H.quiet'⟩)⟩⟩
theorem whole_calm (h : (predA b P).at_ W) (ho : P.Ok) : Calls Tryz.prog 142 #[.pointer (some ⟨b, 0, none⟩), .agg P.mark] W fun e w => e = .returned (.bool true) ∧ Hush W w := by
  obtain ⟨h1, h2, h3, h4⟩ := ho
  refine vc142 b 0 P.mark ((St.nil W).al fun k w2 H => ?_)
  have Hp := pred_open ((predA b P).keep h H.touch (fun _ _ e => e))
  have yes : ∀ {n lo hi : Int}, lo ≤ n → n ≤ hi → (decide (lo ≤ n) && decide (n ≤ hi)) = true := fun a b => by rw [decide_eq_true a, decide_eq_true b]; rfl
  refine ⟨P.hist, H.ld 0 rfl rfl, P.mask, Hp.ld 0 rfl rfl, true, fun k2 => (pwithin_any _ P.hist 0 P.mask).mono (fun e w h => ⟨by rw [h.1, yes h3 h4], k2, h.2⟩), split_of (fun _ => ?_) (fun q => by cases q)⟩
  refine ⟨P.top, H.ld 0 rfl rfl, _, _, _, Hp.ld 0 rfl rfl, ?_⟩
  rintro z4 rfl
  rw [w64 (by omega) (by omega)]
  exact ⟨true, fun k2 => (pwithin_any _ (P.top : Int) 0 _).mono (fun e w h => ⟨by rw [h.1, yes (by omega) (by omega)], k2, h.2⟩), H.drN fun w' H => ⟨rfl, H.quiet'⟩⟩
theorem stack_at (ho : P.Ok) : P.stack[P.top]? = some P.val := by
  unfold Pr.val
  rw [List.getD_eq_getElem?_getD, List.getElem?_eq_getElem ho.top]; rfl
theorem mark_one (P : Pr) : ∀ v ∈ P.mark.toList, v.oneCell' = true := by
  intro v hv
  simp only [Pr.mark, List.mem_cons, List.not_mem_nil, or_false] at hv
  rcases hv with rfl | rfl | rfl <;> rfl
theorem guess_calm (h : (predA b P).at_ W) (ho : P.Ok) (i : Ins) (hi : Calm i) (hT : (tabsA B).at_ W) (pc : Int) :
    Calls Tryz.prog 178 #[.pointer (some ⟨b, 0, none⟩), .int .u32 pc, .agg i.vs] W fun e w => e = .returned (.tuple #[.int .u32 (IntKind.wrap .u32 (pc + 4)), .agg P.mark]) ∧ Hush W w := by
  have hlen := ho.len
  have htop := ho.top
  have kp : ∀ {A : World} {L : List Asn}, St W (fun _ => False) A L → (predA b P).at_ A := fun H => (predA b P).keep h H.touch (fun _ _ e => e)
  have kt : ∀ {A : World} {L : List Asn}, St W (fun _ => False) A L → (tabsA B).at_ A := fun H => (tabsA B).keep hT H.touch (fun _ _ e => e)
  refine vc178 b 0 pc i.vs ((St.nil W).al fun k w2 H => H.al fun k2 w3 H => H.dr fun w4 H => ?_)
  have Hp := pred_open (kp H)
  refine ⟨P.hist, Hp.ld 0 rfl rfl, P.top, Hp.ld 0 rfl rfl, _, _, _, Hp.ld 0 rfl rfl, P.top, Hp.ld 0 rfl rfl, ⟨by omega, by omega⟩, adr_some ⟨P.val, ?_, ?_⟩⟩
  · rw [ix1, Nat.zero_add]
    exact Hp.ld 2 rfl (ints_ok (stack_at ho))
  rintro vs rfl
  refine H.alb fun k7 w5 H _ b5 => ⟨b5, H.sts0 2 rfl rfl rfl (mark_one P) fun w6 H => ?_⟩
  rintro z5 rfl
  have H : St W (fun _ => False) w6 [blk k i.vs 238, blk k2 #[.int .i64 0, .int .i64 0, .int .u32 0] 241, blk k7 P.mark 241] := H
  refine ⟨fun x z w => x = false ∧ z = IntKind.wrap .u32 (pc + 4) ∧ St W (fun _ => False) w [blk k i.vs 238, blk k2 #[.int .i64 0, .int .i64 0, .int .u32 0] 241, blk k7 P.mark 241], ?_, fun _ => ?_⟩
  · refine ⟨i.op, H.ld 0 rfl rfl, H.callq (class_q (kt H).1 i.op) fun w7 H => ⟨_, rfl, split_of (fun q => ?_) (fun q => ?_)⟩⟩
    · rw [hi.1] at q; cases q
    refine ⟨i.op, H.ld 0 rfl rfl, split_of (fun q => absurd (by simpa using q) hi.2.1) (fun _ => ?_)⟩
    refine ⟨i.vs, rfl, H.cells 0 rfl, H.callq (returns_calm i hi _) fun w8 H => ⟨_, rfl, split_of (fun q => by cases q) (fun _ => ?_)⟩⟩
    exact ⟨i.op, H.ld 0 rfl rfl, split_of (fun q => absurd (by simpa using q) hi.2.2) (fun _ => ⟨rfl, rfl, H⟩)⟩
  clear H
  rintro x z w12 ⟨rfl, rfl, H⟩
  refine ⟨i.vs, rfl, H.cells 0 rfl, H.callq (goOn_calm (kp H) i hi (kt H) pc false) fun w13 H => ⟨rfl, H.dr fun w14 H => ⟨P.mark, rfl, H.cells 2 rfl, H.sts0 1 rfl rfl rfl (mark_one P) fun w15 H => ⟨P.mark, rfl, H.cells 1 rfl, rfl, H.quiet'⟩⟩⟩⟩
theorem restore_rest (h : (predA b P).at_ W) (ho : P.Ok) (i : Ins) (hi : Calm i) (hT : (tabsA B).at_ W) (hd : ∀ q, (predA b P).own q → B.heap.size ≤ q) (pc : Int) (t : Bool) {A : World} {k k2 : Nat}
    (H : St W (predA b P).own A [blk b P.root 217, blk P.tb P.tc 363, blk P.sb (ints .u32 P.stack) 43, blk k P.mark 241, blk k2 i.vs 238]) {Q : Ending → World → Prop} (hQ : ∀ w, Sep.Post (predA b P) W (predA b P) w → Q (.returned (.tuple #[])) w) :
    ∀ A2 : World, A2 = A.drew → ∃ (p2 : Option Addr) (k3 k4 : Nat), A2.cell? ⟨b, 0 + 4, none⟩ = some (.slice p2 k3 k4) ∧ ∃ z3 : Int, A2.cell? ⟨b, 0 + 5, none⟩ = some (.int .i64 z3) ∧ ∃ z4 : Int, A2.cell? ⟨k, 0 + 2, none⟩ = some (.int .u32 z4) ∧ (0 ≤ z3 ∧ z3 < (k3 : Int)) ∧
      Sx.adr p2 (fun k5 k6 => (∃ v3 : Value, A2.cell? ⟨k5, k6 + Int.toNat z3 * 1, none⟩ = some v3) ∧ A2.frozen? ⟨k5, k6 + Int.toNat z3 * 1, none⟩ = false ∧ ∀ W9 : World, W9 = A2.setCell ⟨k5, k6 + Int.toNat z3 * 1, none⟩ (.int .u32 z4) →
        ∃ vs2 : Array Value, vs2.size = 5 ∧ Sx.cellsAt W9 ⟨k2, 0, none⟩ vs2 ∧ Calls Tryz.prog 143 #[.pointer (some ⟨b, 0, none⟩), .int .u32 pc, .agg vs2, .bool t] W9 (fun e2 W10 => e2 = .returned (.tuple #[]) ∧ Q (.returned (.tuple #[])) W10)) := by
  have hlen := ho.len
  have htop := ho.top
  refine H.dr fun w8 H => ⟨_, _, _, H.ld 0 rfl rfl, P.top, H.ld 0 rfl rfl, P.val, H.ld 3 rfl rfl, ⟨by omega, by omega⟩, adr_some ?_⟩
  rw [ix1, Nat.zero_add]
  refine H.st 2 rfl (by rw [ints_size]; exact htop) fun w9 H => ⟨i.vs, rfl, H.cells 4 rfl, ?_⟩
  rw [ints_set] at H
  have es : P.stack.set P.top P.val = P.stack := by
    apply List.ext_getElem?
    intro j
    rw [List.getElem?_set]
    split
    · rename_i e; subst e; exact (stack_at ho).symm
    · rfl
  rw [es] at H
  have H : St W (predA b P).own w9 (P.pieces b ++ [blk k P.mark 241, blk k2 i.vs 238]) := H
  have hp : (predA b P).at_ w9 := (here_append.1 H.here).1
  have ht : (tabsA B).at_ w9 := (tabsA B).keep hT H.touch (fun q hq e => by have := hd q e; have : q < B.heap.size := hq; omega)
  exact H.callq (goOn_calm hp i hi ht pc t) fun w10 H => ⟨rfl, hQ _ (pred_shut H)⟩
theorem restore_calm (h : (predA b P).at_ W) (ho : P.Ok) (i : Ins) (hi : Calm i) (hT : (tabsA B).at_ W) (hd : ∀ q, (predA b P).own q → B.heap.size ≤ q) (pc : Int) (t : Bool) :
    Calls Tryz.prog 108 #[.pointer (some ⟨b, 0, none⟩), .agg P.mark, .int .u32 pc, .agg i.vs, .bool t] W fun e w => e = .returned (.tuple #[]) ∧ Sep.Post (predA b P) W (predA b P) w := by
  refine vc108 b 0 P.mark pc i.vs t ((St.begin h).al fun k w2 H => H.al fun k2 w3 H => ⟨P.mark, rfl, H.cells 1 rfl, ?_⟩)
  refine H.callq (whole_calm (H.nth 0 rfl) ho) fun w4 H => ⟨_, rfl, split_of (fun q => by cases q) (fun _ => ?_)⟩
  have H : St W (predA b P).own w4 [blk b P.root 217, blk P.tb P.tc 363, blk P.sb (ints .u32 P.stack) 43, blk k P.mark 241, blk k2 i.vs 238] := H.open_
  refine H.dr fun w5 H => ⟨P.hist, H.ld 3 rfl rfl, ⟨P.top, H.ld 3 rfl rfl, Below.refl _ _, H.st 0 rfl (by show 1 < 6; omega) fun w6 H => H.st 0 rfl (by show 5 < 6; omega) fun w7 H => ?_⟩, H.st 0 rfl (by show 1 < 6; omega) fun w6 H => ⟨P.top, H.ld 3 rfl rfl, H.st 0 rfl (by show 5 < 6; omega) fun w7 H => ?_⟩⟩
  · exact restore_rest (Q := fun e w => e = .returned (.tuple #[]) ∧ Sep.Post (predA b P) W (predA b P) w) h ho i hi hT hd pc t H fun w hw => ⟨rfl, hw⟩
  · exact restore_rest (Q := fun e w => e = .returned (.tuple #[]) ∧ Sep.Post (predA b P) W (predA b P) w) h ho i hi hT hd pc t H fun w hw => ⟨rfl, hw⟩
/-! ### New -/
theorem table_ok (W : World) (n : Nat) (hn : n ≤ 10) : Calls Tryz.prog 70 #[.int .i64 n] W fun e w => ∃ z : Nat × Nat, e = .returned (.slice (some ⟨z.1, 0, none⟩) z.2 z.2) ∧ Sep.Post emp W emp w := by
  have hpow : 2 ^ n ≤ 2 ^ 10 := Nat.pow_le_pow_right (by decide) hn
  have hpos := Nat.two_pow_pos n
  refine vc70 _ ⟨by omega, ?_⟩
  rintro z rfl
  rw [Bits.one_shl (by omega)]
  refine ⟨⟨by omega, by omega, by omega, by omega⟩, ?_⟩
  rw [show (((2 ^ n : Nat) : Int).toNat) = 2 ^ n from Int.toNat_natCast _, Nat.mul_one, ints_made]
  refine (St.nil W).al fun k w2 H => ?_
  refine ⟨fun x w => ∃ (m : Nat) (l : List Int), x = m ∧ m ≤ 2 ^ n ∧ l.length = 2 ^ n ∧ St W (fun _ => False) w [blk k (ints .u8 l) 264], fun x _ => 2 ^ n - x.toNat, ⟨0, _, rfl, by omega, by simp, H⟩, fun _ => ?_⟩
  clear H
  rintro x w3 ⟨m, l, rfl, hm, hl, H⟩
  refine split_of (fun q => ?_) (fun q => ?_)
  · have q := of_decide_eq_true q
    refine ⟨⟨by omega, q⟩, ?_⟩
    rw [ix1, Nat.zero_add]
    refine H.st 0 rfl (by rw [ints_size]; omega) fun w4 H => ?_
    rintro z2 rfl
    rw [w64 (by omega) (by omega)]
    rw [ints_set] at H
    exact ⟨⟨m + 1, _, by omega, by omega, by simpa using hl, H⟩, by show 2 ^ n - ((m : Int) + 1).toNat < 2 ^ n - (m : Int).toNat; omega⟩
  · exact ⟨(k, 2 ^ n), rfl, trivial, H.touch.mono (fun _ _ e => e.elim), fun _ e => e.elim⟩
/-- the numbers of a predictor that is one -/
def predOk (κ n h t r : Int) : Prop := (0 ≤ κ ∧ κ ≤ 3) ∧ (1 ≤ n ∧ n ≤ 10) ∧ (0 ≤ h ∧ h ≤ n) ∧ (0 ≤ t ∧ t ≤ 8) ∧ 1 ≤ r ∧ r ≤ 16
def gsC (κ n h t r : Int) : Array Value := #[.int .i64 κ, .int .i64 n, .int .i64 h, .int .i64 t, .int .i64 r]
theorem within_no {n lo hi : Int} (h : (!(decide (lo ≤ n) && decide (n ≤ hi))) = true) : ¬ (lo ≤ n ∧ n ≤ hi) := by
  rintro ⟨a, b⟩
  rw [decide_eq_true a, decide_eq_true b] at h; cases h
theorem within_yes {n lo hi : Int} (h : (!(decide (lo ≤ n) && decide (n ≤ hi))) = false) : lo ≤ n ∧ n ≤ hi := by
  simpa using h
def PNewIs (W : World) (κ n h t r : Int) (e : Ending) (w : World) : Prop :=
  (predOk κ n h t r ∧ ∃ x : { x : Nat × Pr // x.2.Ok }, e = .returned (.tuple #[.pointer (some ⟨x.1.1, 0, none⟩), .nilIface]) ∧ Sep.Post emp W (predA x.1.1 x.1.2) w) ∨
  (¬ predOk κ n h t r ∧ e = .returned (.tuple #[.pointer none, .iface 33 (.int .i64 2)]) ∧ Hush W w)
theorem new_rest {κ n h t r : Int} {k tb sb : Nat} {tc : Array Value} {tn rn : Nat} {mask : Int} (hok : predOk κ n h t r) (hr : 1 ≤ rn ∧ rn ≤ 16) (hm : 0 ≤ mask) {b : Nat}
    (H : St W (fun _ => False) w [blk b #[.nilIface, .int .i64 0, .int .i64 mask, .slice (some ⟨tb, 0, none⟩) tn tn, .slice (some ⟨sb, 0, none⟩) rn rn, .int .i64 0] 217, blk tb tc 363, blk sb (ints .u32 (List.replicate rn 0)) 43, blk k (gsC κ n h t r) 25]) :
    ∃ z : Int, w.cell? ⟨k, 0, none⟩ = some (.int .i64 z) ∧
      Sx.split (z == 2)
       (∃ z2 : Int, w.cell? ⟨k, 0 + 1, none⟩ = some (.int .i64 z2) ∧
         Calls Tryz.prog 70 #[.int .i64 z2] w fun e w2 => ∃ p : Option Addr, ∃ k5 k6 : Nat, e = .returned (.slice p k5 k6) ∧ (∃ v, w2.cell? ⟨b, 0, none⟩ = some v) ∧ w2.frozen? ⟨b, 0, none⟩ = false ∧ ∀ w3 : World, w3 = w2.setCell ⟨b, 0, none⟩ (.iface 219 (.slice p k5 k6)) →
           PNewIs W κ n h t r (.returned (.tuple #[.pointer (some ⟨b, 0, none⟩), .nilIface])) w3)
       (Sx.split (z == 3)
         (∃ z2 : Int, w.cell? ⟨k, 0 + 1, none⟩ = some (.int .i64 z2) ∧
           Calls Tryz.prog 70 #[.int .i64 z2] w fun e w2 => ∃ p : Option Addr, ∃ k5 k6 : Nat, e = .returned (.slice p k5 k6) ∧ ∀ vs : Array Value, vs = #[.slice p k5 k6] → (∃ v, w2.cell? ⟨b, 0, none⟩ = some v) ∧ w2.frozen? ⟨b, 0, none⟩ = false ∧ ∀ w3 : World, w3 = w2.setCell ⟨b, 0, none⟩ (.iface 222 (.agg vs)) →
             PNewIs W κ n h t r (.returned (.tuple #[.pointer (some ⟨b, 0, none⟩), .nilIface])) w3)
         (∃ z2 : Int, w.cell? ⟨k, 0, none⟩ = some (.int .i64 z2) ∧ ∀ vs : Array Value, vs = #[.bool (z2 == 1)] → (∃ v, w.cell? ⟨b, 0, none⟩ = some v) ∧ w.frozen? ⟨b, 0, none⟩ = false ∧ ∀ w3 : World, w3 = w.setCell ⟨b, 0, none⟩ (.iface 224 (.agg vs)) →
             PNewIs W κ n h t r (.returned (.tuple #[.pointer (some ⟨b, 0, none⟩), .nilIface])) w3)) := by
  have fin : ∀ {A : World} {d : Value} {L : List Asn}, St W (fun _ => False) A ([blk b #[d, .int .i64 0, .int .i64 mask, .slice (some ⟨tb, 0, none⟩) tn tn, .slice (some ⟨sb, 0, none⟩) rn rn, .int .i64 0] 217, blk tb tc 363, blk sb (ints .u32 (List.replicate rn 0)) 43] ++ L) → PNewIs W κ n h t r (.returned (.tuple #[.pointer (some ⟨b, 0, none⟩), .nilIface])) A := by
    intro A d L H
    refine .inl ⟨hok, ⟨(b, ⟨d, 0, mask, tb, tn, tc, sb, List.replicate rn 0, 0⟩), ⟨?_, ?_, ?_, ?_⟩⟩, rfl, ?_⟩
    · show 0 < (List.replicate rn (0 : Int)).length; rw [List.length_replicate]; omega
    · show (List.replicate rn (0 : Int)).length ≤ 16; rw [List.length_replicate]; omega
    · exact Int.le_refl _
    · exact hm
    · have e : (Pr.mk d 0 mask tb tn tc sb (List.replicate rn 0) 0).root = #[d, .int .i64 0, .int .i64 mask, .slice (some ⟨tb, 0, none⟩) tn tn, .slice (some ⟨sb, 0, none⟩) rn rn, .int .i64 0] := by
        unfold Pr.root
        rw [show (Pr.mk d 0 mask tb tn tc sb (List.replicate rn 0) 0).stack.length = rn from List.length_replicate]
        rfl
      have H : St W (fun _ => False) A ((Pr.mk d 0 mask tb tn tc sb (List.replicate rn 0) 0).pieces b ++ L) := by
        unfold Pr.pieces; rw [e]; exact H
      exact (St.shut H).new 0 rfl
  have tab : ∀ A : World, Calls Tryz.prog 70 #[.int .i64 n] A fun e w => ∃ z : Nat × Nat, e = .returned (.slice (some ⟨z.1, 0, none⟩) z.2 z.2) ∧ Sep.Post emp A emp w := fun A => by
    have := table_ok A n.toNat (by have := hok.2.1; omega)
    rw [show ((n.toNat : Nat) : Int) = n by have := hok.2.1; omega] at this
    exact this
  refine ⟨κ, H.ld 3 rfl rfl, split_of (fun q => ?_) (fun q => split_of (fun q2 => ?_) (fun q2 => ?_))⟩
  · refine ⟨n, H.ld 3 rfl rfl, ?_⟩
    refine H.calln (tab w) fun z w2 H => ⟨_, _, _, rfl, H.st 0 rfl (by show 0 < 6; omega) fun w3 H => fin H⟩
  · refine ⟨n, H.ld 3 rfl rfl, ?_⟩
    refine H.calln (tab w) fun z w2 H => ⟨_, _, _, rfl, ?_⟩
    rintro vs rfl
    exact H.st 0 rfl (by show 0 < 6; omega) fun w3 H => fin H
  · refine ⟨κ, H.ld 3 rfl rfl, ?_⟩
    rintro vs rfl
    exact H.st 0 rfl (by show 0 < 6; omega) fun w3 H => fin H
theorem pnew_any (W : World) (κ n h t r : Int) : Calls Tryz.prog 47 #[.agg (gsC κ n h t r)] W (PNewIs W κ n h t r) := by
  have bad : ∀ {A : World} {L : List Asn}, St W (fun _ => False) A L → ¬ predOk κ n h t r → PNewIs W κ n h t r (.returned (.tuple #[.pointer none, .iface 33 (.int .i64 2)])) A := fun H hn => .inr ⟨hn, rfl, H.quiet'⟩
  refine vc47 _ ((St.nil W).al fun k w2 H => ⟨κ, H.ld 0 rfl rfl, H.callp (pwithin_any _ κ 0 3) ⟨_, rfl, split_of (fun q => bad H fun e => within_no q e.1) (fun q1 => ?_)⟩⟩)
  refine ⟨n, H.ld 0 rfl rfl, H.callp (pwithin_any _ n 1 10) ⟨_, rfl, split_of (fun q => bad H fun e => within_no q e.2.1) (fun q2 => ?_)⟩⟩
  refine ⟨h, H.ld 0 rfl rfl, n, H.ld 0 rfl rfl, H.callp (pwithin_any _ h 0 _) ⟨_, rfl, split_of (fun q => bad H fun e => within_no q ⟨e.2.2.1.1, by have := e.2.2.1.2; have := e.2.1; split <;> omega⟩) (fun q3 => ?_)⟩⟩
  refine ⟨t, H.ld 0 rfl rfl, H.callp (pwithin_any _ t 0 8) ⟨_, rfl, split_of (fun q => bad H fun e => within_no q e.2.2.2.1) (fun q4 => ?_)⟩⟩
  refine ⟨r, H.ld 0 rfl rfl, H.callp (pwithin_any _ r 1 16) ⟨_, rfl, split_of (fun q => bad H fun e => within_no q e.2.2.2.2) (fun q5 => ?_)⟩⟩
  have hok : predOk κ n h t r := ⟨within_yes q1, within_yes q2, ⟨(within_yes q3).1, by have := (within_yes q3).2; split at this <;> omega⟩, within_yes q4, within_yes q5⟩
  obtain ⟨a1, a2, a3, a4, a5⟩ := hok
  obtain ⟨hN, rfl⟩ : ∃ m : Nat, h = m := ⟨h.toNat, by omega⟩
  obtain ⟨tN, rfl⟩ : ∃ m : Nat, t = m := ⟨t.toNat, by omega⟩
  obtain ⟨rN, rfl⟩ : ∃ m : Nat, r = m := ⟨r.toNat, by omega⟩
  have hp1 : 2 ^ hN ≤ 2 ^ 10 := Nat.pow_le_pow_right (by decide) (by omega)
  have hp2 : 2 ^ tN ≤ 2 ^ 8 := Nat.pow_le_pow_right (by decide) (by omega)
  have hq1 := Nat.two_pow_pos hN
  have hq2 := Nat.two_pow_pos tN
  have sh : ∀ m : Nat, m ≤ 10 → IntKind.wrap .i64 (1 * 2 ^ min ((m : Int).toNat) (IntKind.bits .i64)) = ((2 ^ m : Nat) : Int) := fun m hm => Bits.one_shl (by omega)
  refine H.dr fun w8 H => ⟨hN, H.ld 0 rfl rfl, by omega, ?_⟩
  rintro z8 rfl z9 rfl
  refine ⟨tN, H.ld 0 rfl rfl, by omega, ?_⟩
  rintro z11 rfl
  refine ⟨rN, H.ld 0 rfl rfl, ?_⟩
  rw [sh hN (by omega), sh tN (by omega), w64 (e := ((2 ^ hN : Nat) : Int) - 1) (by omega) (by omega), Int.toNat_natCast, Int.toNat_natCast]
  have e2 : madeCells #[Value.int IntKind.u32 0] (rN * 1) = ints .u32 (List.replicate rN 0) := by rw [Nat.mul_one]; exact ints_made rN
  rw [e2]
  have hr : 1 ≤ rN ∧ rN ≤ 16 := by omega
  refine ⟨⟨⟨by omega, by omega, by omega, by omega⟩, H.alb fun k2 w9 H _ b9 => ⟨b9, ⟨by omega, by omega, by omega, by omega⟩, H.alb fun k3 w10 H _ b10 => ?_⟩⟩, ⟨by omega, by omega, by omega, by omega⟩, H.alb fun k2 w9 H _ b9 => ⟨b9, ⟨by omega, by omega, by omega, by omega⟩, H.alb fun k3 w10 H _ b10 => ?_⟩⟩
  · have b10 := b9.trans (b10.mono b9.size)
    refine ⟨b10, ?_⟩
    rintro vs rfl
    exact H.alb fun k4 w11 H _ b11 => ⟨b10.trans (b11.mono b10.size), new_rest ⟨a1, a2, a3, a4, a5⟩ hr (by omega) (H.pick [3, 1, 2, 0])⟩
  · have b10 := b9.trans (b10.mono b9.size)
    refine ⟨b10, ?_⟩
    rintro vs rfl
    exact H.alb fun k4 w11 H _ b11 => ⟨b10.trans (b11.mono b10.size), new_rest ⟨a1, a2, a3, a4, a5⟩ hr (by omega) (H.pick [3, 2, 1, 0])⟩
end Go.Proofs.YthacioiefgabbaaGreatDoor
/- What each function asks, reckoned out of its text; printed by a program of mine (wip/tpl/VcTool.lean). No condition. -/
namespace Go.Proofs.YthacioiefgabbaaGreatDoor
open Go Go.Proofs
set_option linter.unusedVariables false
set_option maxRecDepth 100000
theorem vc45 {W : World} {Q : Ending → World → Prop} (n : Int)
 (hVC :
 Sx.split (decide (n < 34))
 (Q (.returned (.tuple #[.pointer none, .iface 33 (Value.int .i64 2)])) W)
 (Sx.split (decide (n > 128))
 (Q (.returned (.tuple #[.pointer none, .iface 33 (Value.int .i64 2)])) W)
 ((((0 : Int) ≤ n ∧
 (n ≤ n ∧
 (n ≤ 9223372036854775807 ∧
 (↑1 : Int) * n ≤ 281474976710656))) ∧
 (∀ k : Nat, (∀ W2 : World, (k = Array.size (World.heap W) →
 (W2 = World.alloc W (Obj.cells (madeCells #[.int .u8 0] (Int.toNat n * 1)) 209) →
 (∀ vs : Array Value, (vs = #[.int .i64 0, .int .i64 0, .int .i64 0, .int .i64 0, .int .i64 0, .int .i64 0, .int .i64 0, .int .i64 0, .int .i64 0, .int .i64 0, .int .i64 0, .int .i64 0, .int .i64 0, .int .i64 0, .int .i64 0, .int .i64 0, .int .i64 0, .int .i64 0, .int .i64 0, .int .i64 0, .int .i64 0, .int .i64 0, .int .i64 0, .int .i64 0, .int .i64 0, .int .i64 0, .int .i64 0, .int .i64 0, .int .i64 0, .int .i64 0, .int .i64 0, .int .i64 0, .slice (some (Addr.mk k 0 none)) (Int.toNat n) (Int.toNat n), .slice none 0 0] →
 (∀ k2 : Nat, (∀ W3 : World, (k2 = Array.size (World.heap W2) →
 (W3 = World.alloc W2 (Obj.cells (Value.cells (Value.agg vs)) 208) →
 (∃ I : Int → World → Prop, (∃ I2 : Int → World → Nat, (I 0 W3 ∧
 ((Nat → Value) →
 (∀ x : Int, (∀ W4 : World, (I x W4 →
 Sx.split (decide (x < n))
 (Sx.split (decide (x < 32))
 ((∀ W5 : World, (W5 = World.drew W4 →
 (∃ p : Option Addr, (∃ k3 : Nat, (∃ k4 : Nat, (World.cell? W5 (.mk k2 (0 + 32) none) = some (.slice p k3 k4) ∧
 (((0 : Int) ≤ x ∧
 x < (↑32 : Int)) ∧
 ((∃ v : Value, World.cell? W5 (.mk k2 (0 + Int.toNat x * 1) none) = some v) ∧
 (World.frozen? W5 (.mk k2 (0 + Int.toNat x * 1) none) = false ∧
 (∀ W6 : World, (W6 = World.setCell W5 (.mk k2 (0 + Int.toNat x * 1) none) (Value.int .i64 x) →
 (((0 : Int) ≤ x ∧
 x < (↑k3 : Int)) ∧
 Sx.adr p (fun k5 =>
 (fun k6 =>
 ((∃ v2 : Value, World.cell? W6 (.mk k5 (k6 + Int.toNat x * 1) none) = some v2) ∧
 (World.frozen? W6 (.mk k5 (k6 + Int.toNat x * 1) none) = false ∧
 (∀ W7 : World, (W7 = World.setCell W6 (.mk k5 (k6 + Int.toNat x * 1) none) (Value.int .u8 1) →
 (∀ z : Int, (z = IntKind.wrap .i64 (x + 1) →
 (I z W7 ∧
 I2 z W7 < I2 x W4))))))))))))))))))))))
 ((∃ p2 : Option Addr, (∃ k7 : Nat, (∃ k8 : Nat, (World.cell? W4 (.mk k2 (0 + 33) none) = some (.slice p2 k7 k8) ∧
 (∀ k9 : Nat, (∀ W8 : World, (k9 = Array.size (World.heap W4) →
 (W8 = World.alloc W4 (Obj.cells #[.int .i64 x] 3) →
 (∃ l : List Value, (∃ l2 : List Value, (XHeap.Sl W8 3 1 (Value.slice p2 k7 k8) k7 l ∧
 (((((1 : Nat) = (0 : Nat) ∧
 some (Addr.mk k9 0 none) = none)) ∨
 ((∃ a : Addr, (some (Addr.mk k9 0 none) = some a ∧
 (∀ k10 : Nat, (∀ v3 : Value, (l2[k10]? = some v3 →
 World.cell? W8 (Addr.add a k10) = some v3))))))) ∧
 (List.length l2 = 1 ∧
 ((∀ v4 : Value, (v4 ∈ l2 →
 Value.oneCell' v4 = true)) ∧
 (k7 + 1 ≤ maxLen ∧
 ((k7 + 1) * 8 ≤ 140737488355328 ∧
 (∀ p3 : Option Addr, (∀ k11 : Nat, (∀ W9 : World, (XHeap.Sl W9 3 1 (Value.slice p3 (k7 + 1) k11) (k7 + 1) (l ++ l2) →
 (XHeap.XTouch (fun b => Value.ownBlock (Value.slice p2 k7 k8) = some b) W8 W9 →
 ((∀ k12 : Nat, (Value.ownBlock (Value.slice p3 (k7 + 1) k11) = some k12 →
 ((Value.ownBlock (Value.slice p2 k7 k8) = some k12) ∨
 (Array.size (World.heap W8) ≤ k12)))) →
 (XHeap.Sl W9 3 1 (Value.slice p2 k7 k8) k7 l →
 ((((p3 = p2 ∧
 k11 = k8)) ∨
 ((((XHeap.NilP p2) ∨
 (k8 < k7 + 1)) ∧
 (∀ k13 : Nat, (Value.ownBlock (Value.slice p3 (k7 + 1) k11) = some k13 →
 Array.size (World.heap W8) ≤ k13))))) →
 ((∃ v5 : Value, World.cell? W9 (.mk k2 (0 + 33) none) = some v5) ∧
 (World.frozen? W9 (.mk k2 (0 + 33) none) = false ∧
 (∀ W10 : World, (W10 = World.setCell W9 (.mk k2 (0 + 33) none) (Value.slice p3 (k7 + 1) k11) →
 (∀ z2 : Int, (z2 = IntKind.wrap .i64 (x + 1) →
 (I z2 W10 ∧
 I2 z2 W10 < I2 x W4)))))))))))))))))))))))))))))))))
 (Q (.returned (.tuple #[.pointer (some (Addr.mk k2 0 none)), .nilIface])) W4)))))))))))))))))))))) :
 Calls Tryz.prog 45 #[.int .i64 n] W Q :=
 Sx.sound Tryz.func45 (.node [] [] 0 .leaf (.node [] [] 0 .leaf (.node [] [] 0 .leaf (.node [] [] 0 (.node [] [] 0 .leaf (.node [] [] 0 (.node [(18, .int .i64)] [17, 4] 0 (.node [] [] 0 .leaf (.node [] [] 0 .leaf (.node [] [] 0 (.node [] [] 0 (.node [] [] 0 .leaf (.node [] [] 0 (.node [] [] 0 .leaf (.node [] [] 0 (.node [] [] 0 (.node [] [] 1012 .leaf .leaf) .leaf) .leaf)) .leaf)) .leaf) .leaf))) .leaf) .leaf)) .leaf)))) [Value.int .i64 n] rfl (Eq.mp (by kernel_rfl) hVC)
theorem vc80 {W : World} {Q : Ending → World → Prop} (t : Nat) (to : Nat) (r : Int)
 (hVC :
 Sx.split (r != 0)
 (Calls Tryz.prog 125 #[.int .i64 r] W (fun e =>
 (fun W2 =>
 (∃ t2 : Bool, (e = .returned (.bool t2) ∧
 Sx.split (!t2)
 (Q (.returned (.int .i64 (-1))) W2)
 ((((0 : Int) ≤ r ∧
 r < (↑32 : Int)) ∧
 (∃ z : Int, (World.cell? W2 (.mk t (to + Int.toNat r * 1) none) = some (.int .i64 z) ∧
 Q (.returned (.int .i64 z)) W2)))))))))
 ((((0 : Int) ≤ r ∧
 r < (↑32 : Int)) ∧
 (∃ z2 : Int, (World.cell? W (.mk t (to + Int.toNat r * 1) none) = some (.int .i64 z2) ∧
 Q (.returned (.int .i64 z2)) W))))) :
 Calls Tryz.prog 80 #[.pointer (some ⟨t, to, none⟩), .int .i64 r] W Q :=
 Sx.sound Tryz.func80 .leaf [Value.pointer (some ⟨t, to, none⟩), .int .i64 r] rfl (Eq.mp (by kernel_rfl) hVC)
theorem vc125 {W : World} {Q : Ending → World → Prop} (r : Int)
 (hVC :
 Sx.split (decide (r > 0))
 (Q (.returned (.bool (decide (r < 32)))) W)
 (Q (.returned (.bool false)) W)) :
 Calls Tryz.prog 125 #[.int .i64 r] W Q :=
 Sx.sound Tryz.func125 .leaf [Value.int .i64 r] rfl (Eq.mp (by kernel_rfl) hVC)
end Go.Proofs.YthacioiefgabbaaGreatDoor
/- Names of registers as they are made: New, Look. No condition. -/
namespace Go.Proofs.YthacioiefgabbaaGreatDoor
open Go.RowKit Go.XHeap Go.Sx Go.Sep
set_option linter.unusedVariables false
set_option maxRecDepth 100000

/-- names of registers, as they are made -/
structure Nm where
  ub : Nat
  R : Nat
  us : List Int
  fp : Option Addr
  fn : Nat
  fc : Nat
  fs : List Value
def nmL (m : Nat) : List Value := (List.range 32).map fun k : Nat => .int .i64 (if k < m then (k : Int) else 0)
def nmRoot (m : Nat) (N : Nm) : Array Value := (nmL m ++ [Value.slice (some ⟨N.ub, 0, none⟩) N.R N.R, Value.slice N.fp N.fn N.fc]).toArray
def nmP (b m : Nat) (N : Nm) : List Asn := [blk b (nmRoot m N) 208, blk N.ub (ints .u8 N.us) 209, sl 3 1 (.slice N.fp N.fn N.fc) N.fn N.fs]
def nmA (b : Nat) (N : Nm) : Asn := all (nmP b 32 N)
theorem nmL_len (m : Nat) : (nmL m).length = 32 := by simp [nmL]
theorem nmL_at (m : Nat) {k : Nat} (hk : k < 32) : (nmL m)[k]? = some (.int .i64 (if k < m then (k : Int) else 0)) := by
  unfold nmL
  rw [List.getElem?_map, List.getElem?_range hk]; rfl
theorem nmL_set {m : Nat} (hm : m < 32) : (nmL m).set m (.int .i64 m) = nmL (m + 1) := by
  apply List.ext_getElem?
  intro j
  rw [List.getElem?_set, nmL_len]
  by_cases hj : j < 32
  · rw [nmL_at _ hj, nmL_at _ hj]
    by_cases e : m = j
    · subst e; rw [if_pos rfl, if_pos hm, if_pos (by omega)]
    · rw [if_neg e]
      by_cases h : j < m
      · rw [if_pos h, if_pos (by omega)]
      · rw [if_neg h, if_neg (by omega)]
  · rw [if_neg (by omega), List.getElem?_eq_none (by rw [nmL_len]; omega), List.getElem?_eq_none (by rw [nmL_len]; omega)]
theorem nmL_ge {m : Nat} (h : 32 ≤ m) : nmL m = nmL 32 := by
  apply List.ext_getElem?
  intro j
  by_cases hj : j < 32
  · rw [nmL_at _ hj, nmL_at _ hj, if_pos (by omega), if_pos hj]
  · rw [List.getElem?_eq_none (by rw [nmL_len]; omega), List.getElem?_eq_none (by rw [nmL_len]; omega)]
theorem nmRoot_set (N : Nm) {m : Nat} (hm : m < 32) : (nmRoot m N).setIfInBounds m (.int .i64 m) = nmRoot (m + 1) N := by
  apply Array.toList_inj.1
  unfold nmRoot
  rw [Array.toList_setIfInBounds, List.set_append_left _ _ (by rw [nmL_len]; exact hm), nmL_set hm]
theorem nmRoot_free (N : Nm) (m : Nat) (p : Option Addr) (n c : Nat) (fs : List Value) : (nmRoot m N).setIfInBounds 33 (.slice p n c) = nmRoot m { N with fp := p, fn := n, fc := c, fs := fs } := by
  apply Array.toList_inj.1
  unfold nmRoot
  rw [Array.toList_setIfInBounds, List.set_append_right _ _ (by rw [nmL_len]; decide), nmL_len]
  rfl
theorem nmRoot_at (N : Nm) (m : Nat) {k : Nat} (hk : k < 32) : (nmRoot m N)[k]? = some (.int .i64 (if k < m then (k : Int) else 0)) := by
  unfold nmRoot
  rw [List.getElem?_toArray, List.getElem?_append_left (by rw [nmL_len]; exact hk), nmL_at m hk]
theorem nmRoot_32 (N : Nm) (m : Nat) : (nmRoot m N)[32]? = some (.slice (some ⟨N.ub, 0, none⟩) N.R N.R) := by
  unfold nmRoot
  rw [List.getElem?_toArray, List.getElem?_append_right (by rw [nmL_len]; exact Nat.le_refl _), nmL_len]; rfl
theorem nmRoot_33 (N : Nm) (m : Nat) : (nmRoot m N)[33]? = some (.slice N.fp N.fn N.fc) := by
  unfold nmRoot
  rw [List.getElem?_toArray, List.getElem?_append_right (by rw [nmL_len]; decide), nmL_len]; rfl
theorem nmRoot_size (N : Nm) (m : Nat) : (nmRoot m N).size = 34 := by unfold nmRoot; simp [nmL_len]
theorem register_calm (r : Int) (h0 : 0 < r) (h1 : r < 32) (W : World) : Calls Tryz.prog 125 #[.int .i64 r] W fun e w => e = .returned (.bool true) ∧ w = W :=
  vc125 r (split_of (fun _ => ⟨by rw [decide_eq_true h1], rfl⟩) (fun q => absurd (of_decide_eq_false q) (by omega)))
theorem look_new {W : World} {b : Nat} {N : Nm} (h : (nmA b N).at_ W) (r : Nat) (hr : r < 32) : Calls Tryz.prog 80 #[.pointer (some ⟨b, 0, none⟩), .int .i64 r] W fun e w => e = .returned (.int .i64 r) ∧ w = W := by
  have H : St W (nmA b N).own W (nmP b 32 N ++ []) := (St.begin h).open_
  have hc : W.cell? ⟨b, 0 + ((r : Nat) : Int).toNat * 1, none⟩ = some (.int .i64 r) := by
    rw [ix1, Nat.zero_add]
    have := nmRoot_at N 32 hr
    rw [if_pos hr] at this
    exact H.ld 0 rfl this
  refine vc80 b 0 r (split_of (fun q => ?_) (fun q => ⟨⟨by omega, by omega⟩, r, hc, rfl, rfl⟩))
  have q : (r : Int) ≠ 0 := by simpa using q
  refine (register_calm r (by omega) (by omega) W).mono ?_
  rintro e w ⟨rfl, rfl⟩
  exact ⟨_, rfl, split_of (fun q => by cases q) (fun _ => ⟨⟨by omega, by omega⟩, r, hc, rfl, rfl⟩)⟩
def RNewIs (W : World) (n : Int) (e : Ending) (w : World) : Prop :=
  ((34 ≤ n ∧ n ≤ 128) ∧ ∃ x : Nat × Nm, e = .returned (.tuple #[.pointer (some ⟨x.1, 0, none⟩), .nilIface]) ∧ Sep.Post emp W (nmA x.1 x.2) w) ∨
  (¬ (34 ≤ n ∧ n ≤ 128) ∧ e = .returned (.tuple #[.pointer none, .iface 33 (.int .i64 2)]) ∧ Hush W w)
theorem rnew_any (W : World) (n : Int) : Calls Tryz.prog 45 #[.int .i64 n] W (RNewIs W n) := by
  refine vc45 n (split_of (fun q => .inr ⟨by have := of_decide_eq_true q; omega, rfl, XTouch.refl _ _⟩) (fun q => split_of (fun q2 => .inr ⟨by have := of_decide_eq_true q2; omega, rfl, XTouch.refl _ _⟩) (fun q2 => ?_)))
  have q := of_decide_eq_false q
  have q2 := of_decide_eq_false q2
  obtain ⟨R, rfl⟩ : ∃ m : Nat, n = m := ⟨n.toNat, by omega⟩
  refine ⟨⟨by omega, by omega, by omega, by omega⟩, (St.nil W).al fun ub w2 H => ?_⟩
  rintro vs rfl
  refine H.al fun kb w3 H => ?_
  rw [Int.toNat_natCast, Nat.mul_one, ints_made] at H
  have H : St W (fun _ => False) w3 [blk ub (ints .u8 (List.replicate R 0)) 209, blk kb (nmRoot 0 ⟨ub, R, List.replicate R 0, none, 0, 0, []⟩) 208] := H
  have H : St W (fun _ => False) w3 (nmP kb 0 ⟨ub, R, List.replicate R 0, none, 0, 0, []⟩) := (H.pick [1, 0]).add (A := sl 3 1 (.slice none 0 0) 0 []) ⟨Sl.nil _ _ _, XTouch.refl _ _, fun q e => by cases e⟩
  refine ⟨fun x A => ∃ (m : Nat) (N : Nm), x = m ∧ m ≤ R ∧ N.R = R ∧ N.us.length = R ∧ N.fn ≤ m ∧ St W (fun _ => False) A (nmP kb m N), fun x _ => R - x.toNat, ⟨0, _, rfl, by omega, rfl, by simp, Nat.le_refl _, H⟩, fun _ => ?_⟩
  clear H
  rintro x w4 ⟨m, N, rfl, hm, hR, hus, hfn, H⟩
  refine split_of (fun q3 => split_of (fun q4 => ?_) (fun q4 => ?_)) (fun q3 => ?_)
  · have q3 := of_decide_eq_true q3
    have q4 := of_decide_eq_true q4
    refine H.dr fun w5 H => ⟨_, _, _, H.ld 0 rfl (nmRoot_32 N m), ⟨by omega, by omega⟩, ?_⟩
    rw [ix1, Nat.zero_add]
    refine H.st 0 rfl (by rw [nmRoot_size]; omega) fun w6 H => ⟨⟨by omega, by rw [hR]; omega⟩, adr_some ?_⟩
    rw [nmRoot_set N (by omega)] at H
    rw [ix1, Nat.zero_add]
    refine H.st 1 rfl (by rw [ints_size, hus]; omega) fun w7 H => ?_
    rw [ints_set] at H
    rintro z rfl
    rw [w64 (by omega) (by omega)]
    exact ⟨⟨m + 1, { N with us := N.us.set m 1 }, by omega, by omega, hR, by show (N.us.set m 1).length = R; rw [List.length_set]; exact hus, by show N.fn ≤ m + 1; omega, H⟩, by show R - ((m : Int) + 1).toNat < R - (m : Int).toNat; omega⟩
  · have q3 := of_decide_eq_true q3
    have q4 := of_decide_eq_false q4
    refine ⟨_, _, _, H.ld 0 rfl (nmRoot_33 N m), H.al fun k9 w8 H => ?_⟩
    refine H.app 2 rfl [.int .i64 m] (.inr ⟨_, rfl, fun j u hj => H.cells 3 rfl j u (by simpa using hj)⟩) rfl (by intro u hu; simp at hu; subst hu; rfl) (by have : maxLen = 2 ^ 63 - 1 := rfl; omega) (by omega) fun p' c' w9 H => ?_
    refine H.st 0 rfl (by rw [nmRoot_size]; omega) fun w10 H => ?_
    rw [nmRoot_free N m p' (N.fn + 1) c' (N.fs ++ [.int .i64 m]), show nmRoot m { N with fp := p', fn := N.fn + 1, fc := c', fs := N.fs ++ [.int .i64 m] } = nmRoot (m + 1) { N with fp := p', fn := N.fn + 1, fc := c', fs := N.fs ++ [.int .i64 m] } by unfold nmRoot; rw [nmL_ge (by omega), nmL_ge (m := m + 1) (by omega)]] at H
    rintro z rfl
    rw [w64 (by omega) (by omega)]
    exact ⟨⟨m + 1, { N with fp := p', fn := N.fn + 1, fc := c', fs := N.fs ++ [.int .i64 m] }, by omega, by omega, hR, hus, by show N.fn + 1 ≤ m + 1; omega, H.take 3⟩, by show R - ((m : Int) + 1).toNat < R - (m : Int).toNat; omega⟩
  · have q3 := of_decide_eq_false q3
    have hE : m = R := by omega
    have e : nmP kb m N = nmP kb 32 N := by unfold nmP nmRoot; rw [nmL_ge (by omega)]
    rw [e] at H
    exact .inl ⟨by omega, (kb, N), rfl, (St.shut (L' := []) (by simpa using H)).new 0 rfl⟩
end Go.Proofs.YthacioiefgabbaaGreatDoor
