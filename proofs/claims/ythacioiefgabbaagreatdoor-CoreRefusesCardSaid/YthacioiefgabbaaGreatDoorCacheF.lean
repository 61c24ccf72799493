import Derived.Test.YthacioiefgabbaaGreatDoorCacheC
/- The cache, part D: New. No condition. -/
namespace Go.Proofs.YthacioiefgabbaaGreatDoor.cbus
open Go.RowKit Go.XHeap Go.Sx Go.Sep
set_option linter.unusedVariables false
set_option maxRecDepth 100000

def shapeOk (S N : Int) : Prop := (S = 1 ∨ S = 2 ∨ S = 4 ∨ S = 8 ∨ S = 16) ∧ 1 ≤ N ∧ N ≤ 4
instance (S N : Int) : Decidable (shapeOk S N) := inferInstanceAs (Decidable (_ ∧ _))
def shapeC (S N : Int) : Array Value := #[.int .i64 S, .int .i64 N]
/-- a cache as it is made -/
structure CS.Fresh (C : CS) (S N : Nat) : Prop where
  ok : C.Ok
  s : C.S = S
  n : C.N = N
  sets : C.sets = List.replicate S (List.replicate N zeroWay)
  clock : C.clock = 0
theorem pow_and : ∀ S : Nat, S ≤ 16 → 1 ≤ S → ((S &&& (S - 1) = 0) ↔ (S = 1 ∨ S = 2 ∨ S = 4 ∨ S = 8 ∨ S = 16)) := by decide
theorem cnew_bad (W : World) (S N : Int) (h : ¬ shapeOk S N) :
    Calls Tryz.prog 40 #[.agg (shapeC S N)] W fun e w => e = .returned (.tuple #[.pointer none, errN 2]) ∧ Hush W w := by
  refine vc40 _ ((St.nil W).al fun k w2 H => ⟨S, H.ld 0 rfl rfl, split_of (fun _ => ⟨rfl, H.touch⟩) (fun q1 => ⟨S, H.ld 0 rfl rfl, split_of (fun _ => ⟨rfl, H.touch⟩) (fun q2 => ?_)⟩)⟩)
  have q1 := of_decide_eq_false q1
  have q2 := of_decide_eq_false q2
  obtain ⟨s, rfl⟩ : ∃ s : Nat, S = s := ⟨S.toNat, by omega⟩
  refine ⟨s, H.ld 0 rfl rfl, s, H.ld 0 rfl rfl, ?_⟩
  rintro z5 rfl z6 rfl
  rw [w64 (e := (s : Int) - 1) (by omega) (by omega), show ((s : Int) - 1) = ((s - 1 : Nat) : Int) by omega, Bits.land64 (by omega) (by omega)]
  refine split_of (fun _ => ⟨rfl, H.touch⟩) (fun q3 => ?_)
  have q3 : ((s &&& (s - 1) : Nat) : Int) = 0 := by simpa using q3
  refine ⟨N, H.ld 0 rfl rfl, split_of (fun _ => ⟨rfl, H.touch⟩) (fun q4 => ⟨N, H.ld 0 rfl rfl, split_of (fun _ => ⟨rfl, H.touch⟩) (fun q5 => ?_)⟩)⟩
  have q4 := of_decide_eq_false q4
  have q5 := of_decide_eq_false q5
  have := (pow_and s (by omega) (by omega)).1 (by omega)
  exact absurd (show shapeOk (s : Int) N from ⟨by omega, by omega, by omega⟩) h
theorem cnew_good (W : World) (S N : Nat) (h : shapeOk S N) :
    Calls Tryz.prog 40 #[.agg (shapeC S N)] W fun e w => ∃ x : { x : Nat × CS // x.2.Fresh S N }, e = .returned (.tuple #[.pointer (some ⟨x.1.1, 0, none⟩), .nilIface]) ∧ Sep.Post emp W (cacheA x.1.1 x.1.2) w := by
  obtain ⟨hS, hN1, hN2⟩ := h
  have hpow : ∃ s, s ≤ 4 ∧ S = 2 ^ s := by
    have : S = 1 ∨ S = 2 ∨ S = 4 ∨ S = 8 ∨ S = 16 := by omega
    rcases this with rfl | rfl | rfl | rfl | rfl
    · exact ⟨0, by decide, rfl⟩
    · exact ⟨1, by decide, rfl⟩
    · exact ⟨2, by decide, rfl⟩
    · exact ⟨3, by decide, rfl⟩
    · exact ⟨4, by decide, rfl⟩
  refine vc40 _ ((St.nil W).al fun k w2 H => ⟨S, H.ld 0 rfl rfl, split_of (fun q => absurd (of_decide_eq_true q) (by omega)) (fun _ => ⟨S, H.ld 0 rfl rfl, split_of (fun q => absurd (of_decide_eq_true q) (by omega)) (fun _ => ?_)⟩)⟩)
  refine ⟨S, H.ld 0 rfl rfl, S, H.ld 0 rfl rfl, ?_⟩
  rintro z5 rfl z6 rfl
  rw [w64 (e := (S : Int) - 1) (by omega) (by omega), show ((S : Int) - 1) = ((S - 1 : Nat) : Int) by omega, Bits.land64 (by omega) (by omega), (pow_and S (by omega) (by omega)).2 (by omega)]
  refine split_of (fun q => by simp at q) (fun _ => ⟨N, H.ld 0 rfl rfl, split_of (fun q => absurd (of_decide_eq_true q) (by omega)) (fun _ => ⟨N, H.ld 0 rfl rfl, split_of (fun q => absurd (of_decide_eq_true q) (by omega)) (fun _ => ?_)⟩)⟩)
  rintro vs rfl
  refine H.al fun k2 w3 H => ⟨S, H.ld 0 rfl rfl, ?_⟩
  -- the loop: m sets are made
  have e19 : ∀ n : Nat, madeCells #[.int .u32 0, .int .i64 0, .int .i64 0, .int .u8 0, .int .u8 0, .int .u8 0, .int .u8 0, .int .u8 0, .int .u8 0, .int .u8 0, .int .u8 0, .int .u8 0, .int .u8 0, .int .u8 0, .int .u8 0, .int .u8 0, .int .u8 0, .int .u8 0, .int .u8 0] (n * 19) = rows Way.cells (List.replicate n zeroWay) := fun n => rows_made (f := Way.cells) (x0 := zeroWay) rfl (by decide) n
  have H0 : St W (fun _ => False) w3 [blk k (shapeC S N) 27, blk k2 #[.slice none 0 0, .int .i64 0] 196] := H
  have H0 := H0.add (A := sl 197 1 (.slice none 0 0) 0 []) ⟨Sl.nil _ _ _, XTouch.refl _ _, fun q hq => by cases hq⟩
  have H0 := H0.add (A := all (setsA [] [])) ⟨trivial, XTouch.refl _ _, fun q hq => hq.elim⟩
  refine ⟨fun x w => ∃ (m : Nat) (gs : List Nat) (p : Option Addr) (c : Nat), x = m ∧ m ≤ S ∧ gs.length = m ∧ St W (fun _ => False) w [blk k (shapeC S N) 27, blk k2 #[.slice p m c, .int .i64 0] 196, sl 197 1 (.slice p m c) m (gs.map fun g => .slice (some ⟨g, 0, none⟩) N N), all (setsA gs (List.replicate m (List.replicate N zeroWay)))], fun x _ => S - x.toNat, ⟨0, [], none, 0, rfl, by omega, rfl, H0⟩, fun _ => ?_⟩
  clear H H0
  rintro x w4 ⟨m, gs, p, c, rfl, hm, hgs, H⟩
  refine split_of (fun q => ?_) (fun q => ?_)
  · have q := of_decide_eq_true q
    refine H.dr fun w5 H => ⟨_, _, _, H.ld 1 rfl rfl, N, H.ld 0 rfl rfl, ⟨by omega, by omega, by omega, by omega⟩, ?_⟩
    rw [Int.toNat_natCast, e19]
    refine H.alb fun k5 w6 H _ b6 => ⟨b6, H.alb fun k6 w7 H _ b7 => ⟨b6.trans (b7.mono b6.size), ?_⟩⟩
    refine H.app 2 rfl [.slice (some ⟨k5, 0, none⟩) N N] (.inr ⟨_, rfl, fun j u hj => H.cells 5 rfl j u (by simpa using hj)⟩) rfl (by intro u hu; simp at hu; subst hu; rfl) (by have : maxLen = 2 ^ 63 - 1 := rfl; omega) (by omega) fun p2 k8 w8 H => ?_
    refine H.st 1 rfl (by show 0 < 2; omega) fun w9 H => ?_
    rintro z11 rfl
    rw [w64 (by omega) (by omega)]
    refine ⟨⟨m + 1, gs ++ [k5], p2, k8, by omega, by omega, by simp [hgs], ?_⟩, by show S - ((m : Int) + 1).toNat < S - (m : Int).toNat; omega⟩
    have H : St W (fun _ => False) w9 [all (setsA gs (List.replicate m (List.replicate N zeroWay))), setA k5 (List.replicate N zeroWay), blk k (shapeC S N) 27, blk k2 #[.slice p2 (m + 1) k8, .int .i64 0] 196, sl 197 1 (.slice p2 (m + 1) k8) (m + 1) ((gs.map fun g => .slice (some ⟨g, 0, none⟩) N N) ++ [.slice (some ⟨k5, 0, none⟩) N N])] := H.pick [3, 4, 0, 1, 2]
    have H := H.push
    have e1 : setsA gs (List.replicate m (List.replicate N zeroWay)) ++ [setA k5 (List.replicate N zeroWay)] = setsA (gs ++ [k5]) (List.replicate (m + 1) (List.replicate N zeroWay)) := by
      unfold setsA
      rw [List.replicate_succ', List.zipWith_append (by simp [hgs])]
      rfl
    have e2 : (gs.map fun g => Value.slice (some ⟨g, 0, none⟩) N N) ++ [.slice (some ⟨k5, 0, none⟩) N N] = (gs ++ [k5]).map fun g => .slice (some ⟨g, 0, none⟩) N N := by simp
    rw [e1, e2] at H
    exact H.pick [1, 2, 3, 0]
  · have q := of_decide_eq_false q
    obtain rfl : m = S := by omega
    have hsl : Sl w4 197 1 (.slice p m c) m (gs.map fun g => .slice (some ⟨g, 0, none⟩) N N) := H.nth 2 rfl
    obtain ⟨ao, cap, hv, -, -, -, -, hc⟩ := hsl.open1
    cases hv
    obtain ⟨g, off, rfl, -, -⟩ := hc (by omega)
    refine ⟨⟨(k2, ⟨m, g, off, c, gs, N, List.replicate m (List.replicate N zeroWay), 0⟩), ⟨⟨hpow, hgs, by simp, by show 1 ≤ N; omega, by show N ≤ 4; omega, fun s hs => by rw [(List.mem_replicate.1 hs).2]; simp, fun s hs y hy => ?_, by show 0 < _; decide⟩, rfl, rfl, rfl, rfl⟩⟩, rfl, ?_⟩
    · rw [(List.mem_replicate.1 hs).2] at hy
      rw [(List.mem_replicate.1 hy).2]
      exact zero_ok
    · have H : St W (fun _ => False) w4 ((CS.mk m g off c gs N (List.replicate m (List.replicate N zeroWay)) 0).pieces k2 ++ []) := H.pick [1, 2, 3]
      exact (St.shut H).new 0 rfl
end Go.Proofs.YthacioiefgabbaaGreatDoor.cbus
/- The caches' functions, each as a plain function of the program's state: the program's. No condition. -/
namespace Go.Proofs.YthacioiefgabbaaGreatDoor.cbus
open Go.RowKit Go.XHeap Go.Sx Go.Sep
set_option linter.unusedVariables false
theorem adr_eq {p : Option Addr} {g o : Nat} {f : Nat → Nat → Prop} (e : p = some ⟨g, o, none⟩) (h : f g o) : Sx.adr p f := by subst e; exact h
/-- a line of so many bytes of data -/
def LineOk (len L : Nat) : Prop := L % 16 = 0 ∧ 65536 ≤ L ∧ L + 16 ≤ 65536 + len
structure CS.Good (C : CS) (len m : Nat) : Prop where
  ok : C.Ok
  clk : C.clock ≤ m
  line : ∀ s ∈ C.sets, ∀ y ∈ s, y.state ≠ 0 → LineOk len y.line
theorem CS.Good.mono {C : CS} {len m m' : Nat} (h : C.Good len m) (hm : m ≤ m') : C.Good len m' := ⟨h.ok, Nat.le_trans h.clk hm, h.line⟩
theorem put_good {C : CS} {len m i j : Nat} {y : Way} (h : C.Good len m) (hi : i < C.S) (hy : y.Ok) (hl : y.state ≠ 0 → LineOk len y.line) : (C.put i j y).Good len m := by
  refine ⟨put_ok h.ok hi hy, h.clk, fun s hs z hz => ?_⟩
  have hm : s ∈ C.sets ∨ s = (C.set_ i).set j y := List.mem_or_eq_of_mem_set hs
  rcases hm with hm | rfl
  · exact h.line s hm z hz
  · rcases List.mem_or_eq_of_mem_set hz with hz | rfl
    · exact h.line _ (CS.set_mem h.ok hi) z hz
    · exact hl
theorem tick_good {C : CS} {len m : Nat} (h : C.Good len m) (hm : m + 1 < 4611686018427387904) : C.tick.Good len (m + 1) := ⟨tick_ok h.ok (by have := h.clk; omega), by show C.clock + 1 ≤ m + 1; have := h.clk; omega, h.line⟩
variable {C : CS} {W : World} {b b2 len m : Nat}
def Way.valid (y : Way) : Bool := y.state != 0
theorem vway_at (ho : C.Ok) (a : Nat) : (C.set_ (C.ix a))[C.vict a]? = some (C.vway a) := by
  have hi := ho.ix_lt a
  have hN : (C.set_ (C.ix a)).length = C.N := ho.len _ (CS.set_mem ho hi)
  have hn := ho.n0
  have hv : C.vict a < (C.set_ (C.ix a)).length := vic_lt (by omega) C.N (by omega)
  unfold CS.vway
  rw [List.getD_eq_getElem?_getD, List.getElem?_eq_getElem hv]; rfl
def errV (n : Nat) : Value := if n = 0 then .nilIface else errN n
/-! ### the way that is found -/
def CS.wayOf (C : CS) (a : Nat) : Way := match C.look a with | some j => (C.set_ (C.ix a)).getD j default | none => zeroWay
theorem wayOf_at {a j : Nat} (h : C.look a = some j) : (C.set_ (C.ix a))[j]? = some (C.wayOf a) ∧ (C.wayOf a).state ≠ 0 ∧ (C.wayOf a).line = a / 16 * 16 ∧ C.stateAt a = (C.wayOf a).state := by
  obtain ⟨y, h1, h2, h3⟩ := look_some h
  have e : C.wayOf a = y := by unfold CS.wayOf; rw [h]; show (C.set_ (C.ix a)).getD j default = y; rw [List.getD_eq_getElem?_getD, h1]; rfl
  have e2 : C.stateAt a = y.state := by
    unfold CS.stateAt; rw [h]; simp only [List.getD_eq_getElem?_getD, h1]; rfl
  rw [e]; exact ⟨h1, h2, h3, e2⟩
theorem wayOf_none {a : Nat} (h : C.look a = none) : C.stateAt a = 0 := by unfold CS.stateAt; rw [h]
theorem wayOf_ok (h : C.Good len m) {a j : Nat} (hj : C.look a = some j) : (C.wayOf a).Ok ∧ LineOk len (C.wayOf a).line := by
  obtain ⟨h1, h2, -⟩ := wayOf_at hj
  have hm := CS.set_mem h.ok (h.ok.ix_lt a)
  exact ⟨h.ok.way _ hm _ (List.mem_of_getElem? h1), h.line _ hm _ (List.mem_of_getElem? h1) h2⟩
/-! ### Read -/
def CS.readN (C : CS) (a : Nat) (sz : Int) : CS := match C.hit a sz 1 with | some j => C.touched (C.ix a) j | none => C
def CS.readV (C : CS) (a : Nat) (sz : Int) : Nat := match C.hit a sz 1 with | some j => C.val a sz j | none => 0
def CS.readT (C : CS) (a : Nat) (sz : Int) : Bool := (C.hit a sz 1).isSome
/-! ### Write -/
def CS.writeN (C : CS) (a : Nat) (sz : Int) (d : Nat) : CS := match C.hit a sz 2 with | some j => C.wrote a sz d j | none => C
def CS.writeT (C : CS) (a : Nat) (sz : Int) : Bool := (C.hit a sz 2).isSome
/-! ### Lower -/
def CS.lowN (C : CS) (a s : Nat) : CS := match C.look a with | some j => if s < C.stateAt a then C.lowered a j s else C | none => C
def CS.lowY (C : CS) (a s : Nat) : Way := if s < C.stateAt a then C.wayOf a else zeroWay
def CS.lowE (C : CS) (a s : Nat) : Nat := if s < C.stateAt a then 0 else 7
theorem lower_f (h : C.Good len m) (hA : (cacheA b C).at_ W) (a : Nat) (ha : a < 4294967296) (h16 : a % 16 = 0) (s : Nat) (hs : s ≤ 2) :
    Calls Tryz.prog 100 #[.pointer (some ⟨b, 0, none⟩), .int .u32 a, .int .i64 s] W fun e w => e = .returned (.tuple #[.agg (C.lowY a s).lineC.toArray, errV (C.lowE a s)]) ∧ Sep.Post (cacheA b C) W (cacheA b (C.lowN a s)) w := by
  refine (lower_any h.ok hA a ha s).mono fun e w hp => ?_
  unfold LowerPost at hp
  rw [if_neg (by omega)] at hp
  unfold CS.lowN CS.lowY CS.lowE
  cases hl : C.look a with
  | none =>
    rw [hl] at hp
    rw [wayOf_none hl, if_neg (by omega), if_neg (by omega)]
    exact hp
  | some j =>
    rw [hl] at hp
    dsimp only at hp ⊢
    by_cases q : s < C.stateAt a
    · rw [if_neg (by omega)] at hp
      rw [if_pos q, if_pos q, if_pos q]
      unfold CS.wayOf
      rw [hl]
      exact hp
    · rw [if_pos (by omega)] at hp
      rw [if_neg q, if_neg q, if_neg q]
      exact hp
theorem lowN_good (h : C.Good len m) (a s : Nat) (hs : s ≤ 2) : (C.lowN a s).Good len m := by
  unfold CS.lowN
  cases hl : C.look a with
  | none => exact h
  | some j =>
    dsimp only
    split
    · obtain ⟨h1, h2, -, -⟩ := wayOf_at hl
      obtain ⟨g1, g2⟩ := wayOf_ok h hl
      have ey : (C.set_ (C.ix a)).getD j default = C.wayOf a := by rw [List.getD_eq_getElem?_getD, h1]; rfl
      unfold CS.lowered
      rw [ey]
      refine put_good h (h.ok.ix_lt a) ?_ ?_
      · split
        · exact zero_ok
        · exact ⟨g1.line, by show s ≤ 3; omega, g1.len, g1.byte⟩
      · split
        · intro e; exact absurd rfl e
        · exact fun _ => g2
    · exact h
/-! ### Fill -/
def CS.fillN (C : CS) (a : Nat) (bs : List Nat) (s : Nat) : CS := if (C.look a).isSome then C else C.filled a bs s
def CS.goneOf (C : CS) (a : Nat) : Way := if (C.look a).isSome then zeroWay else if (C.vway a).state ≠ 0 then C.vway a else zeroWay
def CS.fillE (C : CS) (a : Nat) : Nat := if (C.look a).isSome then 7 else 0
theorem fill_f (h : C.Good len m) (hm : m + 1 < 4611686018427387904) (hA : (cacheA b C).at_ W) (a : Nat) (ha : a < 4294967296) (h16 : a % 16 = 0) (bs : List Nat) (hb : bs.length = 16) (hb2 : ∀ x ∈ bs, x < 256) (s : Nat) (h1 : 1 ≤ s) (h3 : s ≤ 3) :
    Calls Tryz.prog 101 #[.pointer (some ⟨b, 0, none⟩), .int .u32 a, .agg (u8n bs).toArray, .int .i64 s] W fun e w => e = .returned (.tuple #[.agg (C.goneOf a).lineC.toArray, .bool (decide ((C.goneOf a).state ≠ 0)), errV (C.fillE a)]) ∧ Sep.Post (cacheA b C) W (cacheA b (C.fillN a bs s)) w := by
  refine (fill_any h.ok (by have := h.clk; omega) hA a ha bs hb hb2 s).mono fun e w hp => ?_
  unfold FillPost at hp
  rw [if_neg (by omega)] at hp
  unfold CS.goneOf CS.fillN CS.fillE
  by_cases q : (C.look a).isSome = true
  · rw [if_pos q] at hp
    rw [if_pos q, if_pos q, if_pos q]
    exact hp
  · rw [if_neg q] at hp
    rw [if_neg q, if_neg q, if_neg q]
    by_cases q2 : (C.vway a).state ≠ 0
    · rw [if_pos q2] at hp
      rw [if_pos q2]
      exact hp
    · rw [if_neg q2] at hp
      rw [if_neg q2]
      have e0 : (C.vway a).state = 0 := by omega
      rw [e0] at hp
      exact hp
theorem goneOf_ok (h : C.Good len m) (a : Nat) : (C.goneOf a).Ok ∧ ((C.goneOf a).state ≠ 0 → LineOk len (C.goneOf a).line) := by
  unfold CS.goneOf
  have hm := CS.set_mem h.ok (h.ok.ix_lt a)
  have hv := List.mem_of_getElem? (vway_at h.ok a)
  split
  · exact ⟨zero_ok, fun e => absurd rfl e⟩
  · split
    · exact ⟨h.ok.way _ hm _ hv, h.line _ hm _ hv⟩
    · exact ⟨zero_ok, fun e => absurd rfl e⟩
theorem lowY_ok (h : C.Good len m) (a s : Nat) : (C.lowY a s).Ok ∧ ((C.lowY a s).state ≠ 0 → LineOk len (C.lowY a s).line) := by
  unfold CS.lowY
  split
  · cases hl : C.look a with
    | none => rename_i q; rw [wayOf_none hl] at q; omega
    | some j => have := wayOf_ok h hl; exact ⟨this.1, fun _ => this.2⟩
  · exact ⟨zero_ok, fun e => absurd rfl e⟩
theorem fillN_good (h : C.Good len m) (hm : m + 1 < 4611686018427387904) {a : Nat} (ha : a < 4294967296) (hl : LineOk len a) {bs : List Nat} (hb : bs.length = 16) (hb2 : ∀ x ∈ bs, x < 256) {s : Nat} (h3 : s ≤ 3) : (C.fillN a bs s).Good len (m + 1) := by
  unfold CS.fillN
  split
  · exact h.mono (by omega)
  · exact put_good (tick_good h hm) (h.ok.ix_lt a) ⟨ha, h3, hb, hb2⟩ (fun _ => hl)
end Go.Proofs.YthacioiefgabbaaGreatDoor.cbus
