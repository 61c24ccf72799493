/- The document's queue, part A: what stands in memory; find, Enter, Value, source, first, without. No condition. -/
import Derived.Test.YtngfaiahlblkkaaDoorLsqF
import Derived.Test.YtngfaiahlblkkaaDoorLsqRVc
namespace Go.Proofs.YtngfaiahlblkkaaDoor
open Go.RowKit Go.XHeap Go.Sx Go.Sep Go.Bits
set_option linter.unusedVariables false
set_option maxRecDepth 100000
variable {W w' : World} {b : Nat}

def En.rc (e : En) : List Value := [.int .i64 e.seq, .bool e.store, .bool e.placed, .int .i64 e.addr, .int .i64 e.size, .bool e.valued, .int .u32 e.data, .bool e.loaded, .int .i64 e.f0, .int .i64 e.f1, .int .i64 e.f2, .int .i64 e.f3, .bool e.retired]
theorem rc_len (l : List En) : ∀ e ∈ l, e.rc.length = 13 := fun _ _ => rfl
theorem rc_one (e : En) : ∀ u ∈ e.rc, u.oneCell' = true := by
  intro u hu
  simp [En.rc] at hu
  rcases hu with rfl | rfl | rfl | rfl | rfl | rfl | rfl | rfl | rfl | rfl | rfl | rfl | rfl <;> rfl
structure RQ where
  size : Nat
  p : Option Addr
  cap : Nat
  L : List En
def RQ.root (q : RQ) : Array Value := #[.int .i64 q.size, .slice q.p q.L.length q.cap]
def rents (L : List En) : List Value := L.flatMap En.rc
def RQ.pieces (b : Nat) (q : RQ) : List Asn := [blk b q.root 96, sl 98 13 (.slice q.p q.L.length q.cap) q.L.length (rents q.L)]
def rA (b : Nat) (q : RQ) : Asn := all (q.pieces b)
variable {q v : RQ}
theorem r_open (h : (rA b q).at_ W) : St W (rA b q).own W (q.pieces b ++ []) := (St.begin h).open_
theorem r_shut {L : List Asn} (H : St W (rA b q).own w' (v.pieces b ++ L)) : Sep.Post (rA b q) W (rA b v) w' := (St.shut H).post 0 rfl
theorem r_same (h : (rA b q).at_ W) (hh : Hush W w') : Sep.Post (rA b q) W (rA b q) w' := ⟨(rA b q).keep h hh (fun _ _ e => e), hh.mono (fun _ _ e => e.elim), fun q hq => .inl hq⟩
theorem re_at {B : World} {L : List En} {p : Option Addr} {c n : Nat} (h : Sl B 98 13 (.slice p n c) n (rents L)) {k : Nat} {e : En} (hk : L[k]? = some e) : ∃ g off, p = some ⟨g, off, none⟩ ∧ cellsAt B ⟨g, off + ((k : Nat) : Int).toNat * 13, none⟩ e.rc.toArray ∧ ∀ i v, e.rc[i]? = some v → B.cell? ⟨g, off + ((k : Nat) : Int).toNat * 13 + i, none⟩ = some v := by
  obtain ⟨-, g, off, hp, hc⟩ := sl_elem h (rc_len _) hk (by decide)
  rw [Int.toNat_natCast]
  refine ⟨g, off, hp, hc, fun i v hi => ?_⟩
  have := hc i v (by simpa using hi)
  rwa [add_none] at this
theorem rflat_set : ∀ {l : List En} {k i : Nat} {s s' : En} {v : Value}, l[k]? = some s → i < 13 → s'.rc = s.rc.set i v → (rents l).set (k * 13 + i) v = rents (l.set k s')
  | [], k, i, s, s', v, h, _, _ => by simp at h
  | a :: l, 0, i, s, s', v, h, hi, he => by
    simp at h; subst h
    unfold rents
    rw [List.set_cons_zero, List.flatMap_cons, List.flatMap_cons, he, List.set_append_left _ _ (by show 0 * 13 + i < 13; omega), Nat.zero_mul, Nat.zero_add]
  | a :: l, k + 1, i, s, s', v, h, hi, he => by
    have := rflat_set (l := l) (k := k) (i := i) (s := s) (s' := s') (v := v) (by simpa using h) hi he
    unfold rents at this ⊢
    rw [List.set_cons_succ, List.flatMap_cons, List.flatMap_cons, List.set_append_right _ _ (by show 13 ≤ (k + 1) * 13 + i; omega)]
    have e : (k + 1) * 13 + i - a.rc.length = k * 13 + i := by show (k + 1) * 13 + i - 13 = _; omega
    rw [e, this]
/-- a cell of an entry is written -/
theorem _root_.Go.Sep.St.rent {w0 w : World} {M : Nat → Prop} {Ls : List Asn} (H : St w0 M w Ls) (j : Nat) {L : List En} {p : Option Addr} {n c : Nat} (hj : Ls[j]? = some (sl 98 13 (.slice p n c) n (rents L))) {k : Nat} {e : En} (hk : L[k]? = some e) {g off : Nat} (hp : p = some ⟨g, off, none⟩) {i : Nat} {v : Value} (e' : En) (hi : i < 13) (he : e'.rc = e.rc.set i v) {φ : World → Prop}
    (hq : ∀ w', St w0 M w' (Ls.set j (sl 98 13 (.slice p n c) n (rents (L.set k e')))) → φ w') : (∃ u, w.cell? ⟨g, off + ((k : Nat) : Int).toNat * 13 + i, none⟩ = some u) ∧ w.frozen? ⟨g, off + ((k : Nat) : Int).toNat * 13 + i, none⟩ = false ∧ ∀ w', w' = w.setCell ⟨g, off + ((k : Nat) : Int).toNat * 13 + i, none⟩ v → φ w' := by
  have hs : Sl w 98 13 (.slice (some ⟨g, off, none⟩) n c) n (rents L) := by rw [← hp]; exact H.nth j hj
  have hl : (rents L).length = L.length * 13 := rows_len (rc_len _)
  have hkl := (List.getElem?_eq_some_iff.1 hk).1
  obtain ⟨c1, c2, c3⟩ := slr_set hs (j := k * 13 + i) (by rw [hl]; have := Nat.mul_le_mul_right 13 (show k + 1 ≤ L.length from hkl); omega) v
  rw [Int.toNat_natCast, Nat.add_assoc]
  refine ⟨c1, c2, ?_⟩
  rintro w' rfl
  rw [rflat_set hk hi he, ← hp] at c3
  exact hq _ (H.upd j hj c3)
def rpos (s : Int) (L : List En) : Option Nat := L.findIdx? fun e => e.seq == s
def oI : Option Nat → Int
  | some k => (k : Nat)
  | none => -1
theorem rpos_hit {p : En → Bool} {L : List En} {j : Nat} {x : En} (hx : L[j]? = some x) (hp : p x = true) (hnot : ∀ (i : Nat) (y : En), i < j → L[i]? = some y → p y = false) : L.findIdx? p = some j := by
  obtain ⟨hj, hjx⟩ := List.getElem?_eq_some_iff.1 hx
  rw [List.findIdx?_eq_some_iff_getElem]
  refine ⟨hj, by rw [hjx]; exact hp, fun i hi => ?_⟩
  rw [hnot i _ hi (List.getElem?_eq_getElem (by omega))]; decide
theorem rpos_none {p : En → Bool} {L : List En} (hnot : ∀ (i : Nat) (y : En), L[i]? = some y → p y = false) : L.findIdx? p = none := by
  rw [List.findIdx?_eq_none_iff]
  intro x hx
  obtain ⟨i, hi, rfl⟩ := List.getElem_of_mem hx
  exact hnot i _ (List.getElem?_eq_getElem hi)
theorem rpos_some {p : En → Bool} {L : List En} {k : Nat} (h : L.findIdx? p = some k) : ∃ x, L[k]? = some x ∧ p x = true ∧ ∀ (i : Nat) (y : En), i < k → L[i]? = some y → p y = false := by
  rw [List.findIdx?_eq_some_iff_getElem] at h
  obtain ⟨hk, hp, hn⟩ := h
  refine ⟨_, List.getElem?_eq_getElem hk, hp, fun i y hi hy => ?_⟩
  have := hn i hi
  obtain ⟨hil, rfl⟩ := List.getElem?_eq_some_iff.1 hy
  simpa using this
theorem rfind_any (h : (rA b q).at_ W) (hn : q.L.length ≤ 32) (s : Int) : Calls Tryd.prog 44 #[.pointer (some ⟨b, 0, none⟩), .int .i64 s] W fun e w => e = .returned (.int .i64 (oI (rpos s q.L))) ∧ w = W := by
  have H := r_open h
  refine vc44 b 0 s ⟨fun i A => A = W ∧ ∃ j : Nat, i = j ∧ j ≤ q.L.length ∧ ∀ (i : Nat) (y : En), i < j → q.L[i]? = some y → (y.seq == s) = false, fun i _ => q.L.length - i.toNat, ⟨rfl, 0, rfl, Nat.zero_le _, fun i y hi => by omega⟩, fun _ => ?_⟩
  rintro i A ⟨rfl, j, rfl, hj, hnot⟩
  refine ⟨_, _, _, H.ld 0 rfl rfl, split_of (fun q1 => ?_) (fun q1 => ?_)⟩
  · have q1 := of_decide_eq_true q1
    have hjl : j < q.L.length := by omega
    have hx := List.getElem?_eq_getElem hjl
    obtain ⟨g, off, hp, -, hc⟩ := re_at (H.nth 1 rfl) hx
    refine ⟨_, _, _, H.ld 0 rfl rfl, ⟨by omega, q1⟩, adr_eq hp ⟨_, hc 0 _ rfl, split_of (fun q2 => ?_) (fun q2 => ?_)⟩⟩
    · unfold rpos
      rw [rpos_hit hx q2 hnot]
      exact ⟨rfl, rfl⟩
    · rintro z rfl
      rw [w64 (by omega) (by omega)]
      refine ⟨⟨rfl, j + 1, by omega, by omega, fun i y hi hy => ?_⟩, by show q.L.length - ((j : Int) + 1).toNat < q.L.length - (j : Int).toNat; omega⟩
      by_cases e : i = j
      · subst e
        rw [hx] at hy
        cases hy
        exact q2
      · exact hnot i y (by omega) hy
  · have q1 := of_decide_eq_false q1
    unfold rpos
    rw [rpos_none (fun i y hy => hnot i y (by have := (List.getElem?_eq_some_iff.1 hy).1; omega) hy)]
    exact ⟨rfl, rfl⟩
/-- .. those that have not retired -/
theorem rfirst_any (h : (rA b q).at_ W) (hn : q.L.length ≤ 32) : Calls Tryd.prog 50 #[.pointer (some ⟨b, 0, none⟩)] W fun e w => e = .returned (.int .i64 (oI (q.L.findIdx? fun e => !e.retired))) ∧ w = W := by
  have H := r_open h
  refine vc50 b 0 ⟨fun i A => A = W ∧ ∃ j : Nat, i = j ∧ j ≤ q.L.length ∧ ∀ (i : Nat) (y : En), i < j → q.L[i]? = some y → (!y.retired) = false, fun i _ => q.L.length - i.toNat, ⟨rfl, 0, rfl, Nat.zero_le _, fun i y hi => by omega⟩, fun _ => ?_⟩
  rintro i A ⟨rfl, j, rfl, hj, hnot⟩
  refine ⟨_, _, _, H.ld 0 rfl rfl, split_of (fun q1 => ?_) (fun q1 => ?_)⟩
  · have q1 := of_decide_eq_true q1
    have hjl : j < q.L.length := by omega
    have hx := List.getElem?_eq_getElem hjl
    obtain ⟨g, off, hp, -, hc⟩ := re_at (H.nth 1 rfl) hx
    refine ⟨_, _, _, H.ld 0 rfl rfl, ⟨by omega, q1⟩, adr_eq hp ⟨_, hc 12 _ rfl, split_of (fun q2 => ?_) (fun q2 => ?_)⟩⟩
    · rw [rpos_hit (p := fun e => !e.retired) hx q2 hnot]
      exact ⟨rfl, rfl⟩
    · rintro z rfl
      rw [w64 (by omega) (by omega)]
      refine ⟨⟨rfl, j + 1, by omega, by omega, fun i y hi hy => ?_⟩, by show q.L.length - ((j : Int) + 1).toNat < q.L.length - (j : Int).toNat; omega⟩
      by_cases e : i = j
      · subst e
        rw [hx] at hy
        cases hy
        exact q2
      · exact hnot i y (by omega) hy
  · have q1 := of_decide_eq_false q1
    rw [rpos_none (p := fun e => !e.retired) (fun i y hy => hnot i y (by have := (List.getElem?_eq_some_iff.1 hy).1; omega) hy)]
    exact ⟨rfl, rfl⟩
def firstSeq (L : List En) : Int := match L.find? fun e => !e.retired with
  | some e => e.seq
  | none => -1
theorem lfirst_any (h : (rA b q).at_ W) (hn : q.L.length ≤ 32) : Calls Tryd.prog 27 #[.pointer (some ⟨b, 0, none⟩)] W fun e w => e = .returned (.int .i64 (firstSeq q.L)) ∧ w = W := by
  have H := r_open h
  refine vc27 b 0 ⟨fun i A => A = W ∧ ∃ j : Nat, i = j ∧ j ≤ q.L.length ∧ ∀ (i : Nat) (y : En), i < j → q.L[i]? = some y → (!y.retired) = false, fun i _ => q.L.length - i.toNat, ⟨rfl, 0, rfl, Nat.zero_le _, fun i y hi => by omega⟩, fun _ => ?_⟩
  rintro i A ⟨rfl, j, rfl, hj, hnot⟩
  refine ⟨_, _, _, H.ld 0 rfl rfl, split_of (fun q1 => ?_) (fun q1 => ?_)⟩
  · have q1 := of_decide_eq_true q1
    have hjl : j < q.L.length := by omega
    have hx := List.getElem?_eq_getElem hjl
    obtain ⟨g, off, hp, -, hc⟩ := re_at (H.nth 1 rfl) hx
    refine ⟨_, _, _, H.ld 0 rfl rfl, ⟨by omega, q1⟩, adr_eq hp ⟨_, hc 12 _ rfl, split_of (fun q2 => ?_) (fun q2 => ?_)⟩⟩
    · refine ⟨_, _, _, H.ld 0 rfl rfl, ⟨by omega, q1⟩, adr_eq hp ⟨_, hc 0 _ rfl, ?_, rfl⟩⟩
      have : q.L.find? (fun e => !e.retired) = some q.L[j] := by
        rw [List.find?_eq_some_iff_getElem]
        refine ⟨q2, j, hjl, rfl, fun i hi => ?_⟩
        rw [hnot i _ hi (List.getElem?_eq_getElem (by omega))]; rfl
      unfold firstSeq
      rw [this]
    · rintro z rfl
      rw [w64 (by omega) (by omega)]
      refine ⟨⟨rfl, j + 1, by omega, by omega, fun i y hi hy => ?_⟩, by show q.L.length - ((j : Int) + 1).toNat < q.L.length - (j : Int).toNat; omega⟩
      by_cases e : i = j
      · subst e
        rw [hx] at hy
        cases hy
        exact q2
      · exact hnot i y (by omega) hy
  · have q1 := of_decide_eq_false q1
    have : q.L.find? (fun e => !e.retired) = none := by
      rw [List.find?_eq_none]
      intro y hy
      obtain ⟨i, hi, rfl⟩ := List.getElem_of_mem hy
      rw [hnot i _ (by omega) (List.getElem?_eq_getElem hi)]; decide
    unfold firstSeq
    rw [this]
    exact ⟨rfl, rfl⟩
theorem rnew_bad (W : World) (S : Int) (h : ¬ (1 ≤ S ∧ S ≤ 32)) : Calls Tryd.prog 14 #[.int .i64 S] W fun e w => e = .returned (.tuple #[.pointer none, .int .i64 2]) ∧ Hush W w := by
  refine vc14 S (split_of (fun _ => ⟨rfl, XTouch.refl _ _⟩) (fun q1 => split_of (fun _ => ⟨rfl, XTouch.refl _ _⟩) (fun q2 => ?_)))
  have q1 := of_decide_eq_false q1
  have q2 := of_decide_eq_false q2
  exact absurd ⟨by omega, by omega⟩ h
theorem rnew_good (W : World) (S : Nat) (h : 1 ≤ S ∧ S ≤ 32) : Calls Tryd.prog 14 #[.int .i64 S] W fun e w => ∃ k : Nat, e = .returned (.tuple #[.pointer (some ⟨k, 0, none⟩), .int .i64 0]) ∧ Sep.Post emp W (rA k ⟨S, none, 0, []⟩) w := by
  refine vc14 S (split_of (fun q => absurd (of_decide_eq_true q) (by omega)) (fun _ => split_of (fun q => absurd (of_decide_eq_true q) (by omega)) (fun _ => ?_)))
  rintro vs rfl
  refine (St.nil W).al fun k A H => ⟨k, rfl, ?_⟩
  have H := H.add (A := sl 98 13 (.slice none 0 0) 0 []) ⟨Sl.nil _ _ _, XTouch.refl _ _, fun q hq => by cases hq⟩
  have H : St W No A ((RQ.mk S none 0 []).pieces k ++ []) := H
  exact (St.shut H).new 0 rfl
/-! ### Enter -/
def rEnterPost (W : World) (b : Nat) (q : RQ) (s : Int) (st : Bool) (e : Ending) (w : World) : Prop := match enterE q.size q.L s with
  | some n => e = .returned (.int .i64 n) ∧ Sep.Post (rA b q) W (rA b q) w
  | none => e = .returned (.int .i64 0) ∧ ∃ (p : Option Addr) (c : Nat), Sep.Post (rA b q) W (rA b { q with p := p, cap := c, L := q.L ++ [newEn s st] }) w
theorem renter_any (h : (rA b q).at_ W) (hn : q.L.length ≤ 32) (s : Int) (st : Bool) : Calls Tryd.prog 17 #[.pointer (some ⟨b, 0, none⟩), .int .i64 s, .bool st] W (rEnterPost W b q s st) := by
  have H := r_open h
  have bad : ∀ n, enterE q.size q.L s = some n → ∀ {B : World}, St W (rA b q).own B (q.pieces b ++ []) → rEnterPost W b q s st (.returned (.int .i64 n)) B := fun n e B H => by unfold rEnterPost; rw [e]; exact ⟨rfl, r_shut H⟩
  have fin : ¬ (s < 0 ∨ lateE q.L s = true) → ∀ {B : World}, St W (rA b q).own B (q.pieces b ++ []) → ∃ p4 k11 k12, B.cell? ⟨b, 0 + 1, none⟩ = some (.slice p4 k11 k12) ∧ ∃ z3 : Int, B.cell? ⟨b, 0, none⟩ = some (.int .i64 z3) ∧ ∀ (W4 : World) (k13 : Nat), W4 = B.drewN k13 → Sx.split ((k11 : Int) == z3) (rEnterPost W b q s st (.returned (.int .i64 4)) W4)
      (∃ p5 k14 k15, W4.cell? ⟨b, 0 + 1, none⟩ = some (.slice p5 k14 k15) ∧ ∀ vs : Array Value, vs = #[.int .i64 s, .bool st, .bool false, .int .i64 0, .int .i64 0, .bool false, .int .u32 0, .bool false, .int .i64 0, .int .i64 0, .int .i64 0, .int .i64 0, .bool false] → vs.size = 13 ∧
        ∀ (k16 : Nat) (W5 : World), k16 = W4.heap.size → W5 = W4.alloc (.cells (vs.toList ++ []).toArray 98) →
          ∃ l l2, Sl W5 98 13 (.slice p5 k14 k15) k14 l ∧ ((1 = 0 ∧ (some ⟨k16, 0, none⟩ : Option Addr) = none) ∨ ∃ a : Addr, some ⟨k16, 0, none⟩ = some a ∧ ∀ (j : Nat) (u : Value), l2[j]? = some u → W5.cell? (a.add j) = some u) ∧ l2.length = 13 ∧ (∀ u ∈ l2, u.oneCell' = true) ∧ k14 + 1 ≤ maxLen ∧ (k14 + 1) * 88 ≤ 140737488355328 ∧
            ∀ (p6 : Option Addr) (k18 : Nat) (W6 : World), Sl W6 98 13 (.slice p6 (k14 + 1) k18) (k14 + 1) (l ++ l2) → XTouch (fun b => (Value.slice p5 k14 k15).ownBlock = some b) W5 W6 → (∀ b, (Value.slice p6 (k14 + 1) k18).ownBlock = some b → (Value.slice p5 k14 k15).ownBlock = some b ∨ W5.heap.size ≤ b) → Sl W6 98 13 (.slice p5 k14 k15) k14 l → ((p6 = p5 ∧ k18 = k15) ∨ ((NilP p5 ∨ k15 < k14 + 1) ∧ ∀ b, (Value.slice p6 (k14 + 1) k18).ownBlock = some b → W5.heap.size ≤ b)) →
              (∃ u, W6.cell? ⟨b, 0 + 1, none⟩ = some u) ∧ W6.frozen? ⟨b, 0 + 1, none⟩ = false ∧ ∀ W7 : World, W7 = W6.setCell ⟨b, 0 + 1, none⟩ (.slice p6 (k14 + 1) k18) → rEnterPost W b q s st (.returned (.int .i64 0)) W7) := by
    intro hno B H
    refine ⟨_, _, _, H.ld 0 rfl rfl, _, H.ld 0 rfl rfl, H.drN fun C H => split_of (fun q1 => ?_) (fun q1 => ?_)⟩
    · have q1 : q.L.length = q.size := by have : ((q.L.length : Nat) : Int) = (q.size : Nat) := by simpa using q1
                                          omega
      exact bad 4 (by unfold enterE; rw [if_neg hno, if_pos q1]) H
    · have q1 : ¬ q.L.length = q.size := fun e => by rw [e] at q1; simp at q1
      refine ⟨_, _, _, H.ld 0 rfl rfl, ?_⟩
      rintro vs rfl
      refine ⟨rfl, H.al fun k16 D H => H.app 1 rfl (newEn s st).rc (.inr ⟨_, rfl, fun j u hj => H.cells 2 rfl j u (by simpa [newEn, En.rc] using hj)⟩) rfl (rc_one _) (by have : maxLen = 2 ^ 63 - 1 := rfl; omega) (by omega) fun p2 c2 E H => ?_⟩
      refine H.st 0 rfl (by show 1 < 2; omega) fun F H => ?_
      have H := H.take 2
      unfold rEnterPost
      rw [show enterE q.size q.L s = none by unfold enterE; rw [if_neg hno, if_neg q1]]
      refine ⟨rfl, p2, c2, r_shut (L := []) ?_⟩
      show St W (rA b q).own F ([blk b #[.int .i64 q.size, .slice p2 (q.L ++ [newEn s st]).length c2] 96, sl 98 13 (.slice p2 (q.L ++ [newEn s st]).length c2) (q.L ++ [newEn s st]).length (rents (q.L ++ [newEn s st]))] ++ [])
      rw [List.length_append, show rents (q.L ++ [newEn s st]) = rents q.L ++ (newEn s st).rc by unfold rents; rw [List.flatMap_append]; simp]
      exact H
  refine vc17 b 0 s st (split_of (fun q0 => H.drN fun B H => bad 5 (by unfold enterE; rw [if_pos (.inl (of_decide_eq_true q0))]) H) (fun q0 => ⟨_, _, _, H.ld 0 rfl rfl, split_of (fun q1 => ?_) (fun q1 => ?_)⟩))
  · have q0 := of_decide_eq_false q0
    have q1 := of_decide_eq_true q1
    have hpos : 0 < q.L.length := by omega
    refine ⟨_, _, _, H.ld 0 rfl rfl, _, _, _, H.ld 0 rfl rfl, ?_⟩
    rintro z rfl
    rw [w64 (by omega) (by omega), show ((q.L.length : Nat) : Int) - 1 = ((q.L.length - 1 : Nat) : Int) by omega]
    have hx := List.getElem?_eq_getElem (show q.L.length - 1 < q.L.length by omega)
    obtain ⟨g, off, hp, -, hc⟩ := re_at (H.nth 1 rfl) hx
    have hlast : q.L.getLast? = some q.L[q.L.length - 1] := by rw [List.getLast?_eq_getElem?, hx]
    refine ⟨⟨by omega, by omega⟩, adr_eq hp ⟨_, hc 0 _ rfl, H.drN fun B H => split_of (fun q2 => ?_) (fun q2 => ?_)⟩⟩
    · exact bad 5 (by unfold enterE; rw [if_pos (.inr (by unfold lateE; rw [hlast]; exact q2))]) H
    · have q2 := of_decide_eq_false q2
      exact fin (by unfold lateE; rw [hlast]; rintro (h | h); exact q0 h; exact q2 (of_decide_eq_true h)) H
  · have q0 := of_decide_eq_false q0
    have q1 := of_decide_eq_false q1
    have : q.L = [] := List.eq_nil_of_length_eq_zero (by omega)
    exact H.drN fun B H => fin (by unfold lateE; rw [this]; rintro (h | h); exact q0 h; cases h) H
/-! ### Value -/
def rvalueK (s : Int) (L : List En) : Option Nat := match rpos s L with
  | some k => match L[k]? with
    | some x => if !x.store || (x.valued || x.retired) then none else some k
    | none => none
  | none => none
def rValuePost (W : World) (b : Nat) (q : RQ) (s : Int) (d : Nat) (e : Ending) (w : World) : Prop := match rvalueK s q.L with
  | none => e = .returned (.int .i64 7) ∧ Sep.Post (rA b q) W (rA b q) w
  | some k => e = .returned (.int .i64 0) ∧ ∃ x, q.L[k]? = some x ∧ Sep.Post (rA b q) W (rA b { q with L := q.L.set k { x with valued := true, data := d } }) w
theorem r_turned {w : World} {k : Nat} {e' : En} {L : List Asn}
    (H : St W (rA b q).own w ([blk b q.root 96, sl 98 13 (.slice q.p q.L.length q.cap) q.L.length (rents (q.L.set k e'))] ++ L)) : Sep.Post (rA b q) W (rA b { q with L := q.L.set k e' }) w := by
  refine r_shut (v := { q with L := q.L.set k e' }) (L := L) ?_
  show St W (rA b q).own w ([blk b #[.int .i64 q.size, .slice q.p (q.L.set k e').length q.cap] 96, sl 98 13 (.slice q.p (q.L.set k e').length q.cap) (q.L.set k e').length (rents (q.L.set k e'))] ++ L)
  rw [List.length_set]
  exact H
theorem rvalue_any (h : (rA b q).at_ W) (hn : q.L.length ≤ 32) (s : Int) (d : Nat) : Calls Tryd.prog 21 #[.pointer (some ⟨b, 0, none⟩), .int .i64 s, .int .u32 d] W (rValuePost W b q s d) := by
  refine vc21 b 0 s d ((rfind_any h hn s).mono ?_)
  rintro e A ⟨rfl, rfl⟩
  have H := r_open h
  have bad : rvalueK s q.L = none → rValuePost A b q s d (.returned (.int .i64 7)) A := fun e => by unfold rValuePost; rw [e]; exact ⟨rfl, r_same h (XTouch.refl _ _)⟩
  cases hp : rpos s q.L with
  | none => exact ⟨-1, rfl, split_of (fun _ => bad (by unfold rvalueK; rw [hp])) (fun q => by simp at q)⟩
  | some k =>
    obtain ⟨x, hx, -, -⟩ := rpos_some hp
    have hkl := (List.getElem?_eq_some_iff.1 hx).1
    obtain ⟨g, off, hpp, -, hc⟩ := re_at (H.nth 1 rfl) hx
    have hl : rvalueK s q.L = if !x.store || (x.valued || x.retired) then none else some k := by unfold rvalueK; rw [hp]; show (match q.L[k]? with | some x => _ | none => _) = _; rw [hx]
    refine ⟨((k : Nat) : Int), rfl, split_of (fun q => ?_) (fun _ => ?_)⟩
    · have := of_decide_eq_true q; omega
    refine ⟨_, _, _, H.ld 0 rfl rfl, ⟨by omega, by omega⟩, adr_eq hpp ⟨_, hc 1 _ rfl, split_of (fun q1 => bad (by rw [hl, q1]; rfl)) (fun q1 => ?_)⟩⟩
    refine ⟨_, _, _, H.ld 0 rfl rfl, ⟨by omega, by omega⟩, adr_eq hpp ⟨_, hc 5 _ rfl, split_of (fun q2 => bad (by rw [hl, q2, Bool.true_or, Bool.or_true]; rfl)) (fun q2 => ?_)⟩⟩
    refine ⟨_, _, _, H.ld 0 rfl rfl, ⟨by omega, by omega⟩, adr_eq hpp ⟨_, hc 12 _ rfl, split_of (fun q3 => bad (by rw [hl, q3, Bool.or_true, Bool.or_true]; rfl)) (fun q3 => ?_)⟩⟩
    refine ⟨_, _, _, H.ld 0 rfl rfl, ⟨by omega, by omega⟩, adr_eq hpp ?_⟩
    refine H.rent 1 rfl hx hpp { x with valued := true } (by omega) rfl fun C H => ?_
    have hx2 : (q.L.set k { x with valued := true })[k]? = some { x with valued := true } := by rw [List.getElem?_set_self hkl]
    refine ⟨_, _, _, H.ld 0 rfl rfl, ⟨by omega, by omega⟩, adr_eq hpp ?_⟩
    refine H.rent 1 rfl hx2 hpp { x with valued := true, data := d } (by omega) rfl fun D H => ?_
    rw [List.set_set, List.set_set] at H
    unfold rValuePost
    rw [hl, q1, q2, q3]
    exact ⟨rfl, x, hx, r_turned (L := []) H⟩
/-! ### source -/
def srcK (L : List En) (i a : Nat) : Option Nat := ((List.range i).reverse.find? fun k => match L[k]? with
  | some e => coverP a e
  | none => false)
theorem source_any (h : (rA b q).at_ W) (ho : ∀ e ∈ q.L, e.Ok) (hn : q.L.length ≤ 32) (i : Nat) (hi : i ≤ q.L.length) (a : Nat) (ha : a < 4294967300) : Calls Tryd.prog 49 #[.pointer (some ⟨b, 0, none⟩), .int .i64 i, .int .i64 a] W fun e w => e = .returned (.int .i64 (oI (srcK q.L i a))) ∧ Hush W w := by
  refine vc49 b 0 i a ?_
  rintro z rfl
  rw [w64 (by omega) (by omega)]
  refine ⟨fun z A => ∃ m : Nat, z = (m : Int) - 1 ∧ m ≤ i ∧ Hush W A ∧ srcK q.L i a = srcK q.L m a, fun z _ => (z + 1).toNat, ⟨i, rfl, Nat.le_refl _, XTouch.refl _ _, rfl⟩, fun _ => ?_⟩
  rintro z A ⟨m, rfl, hm, hh, hsrc⟩
  refine split_of (fun q1 => ?_) (fun q1 => ?_)
  · have q1 := of_decide_eq_true q1
    obtain ⟨j, rfl⟩ : ∃ j, m = j + 1 := ⟨m - 1, by omega⟩
    have ej : ((j + 1 : Nat) : Int) - 1 = (j : Nat) := by omega
    rw [ej]
    have H := r_open ((rA b q).keep h hh (fun _ _ e => e))
    have hjl : j < q.L.length := by omega
    have hx := List.getElem?_eq_getElem hjl
    obtain ⟨x, hxe⟩ : ∃ x, x = q.L[j] := ⟨_, rfl⟩
    rw [← hxe] at hx
    have hxo := ho x (List.mem_of_getElem? hx)
    have h4 : x.size ≤ 4 := by rcases hxo.size with e | e | e | e <;> omega
    have hxa := hxo.addr
    have hstep : srcK q.L (j + 1) a = if coverP a x then some j else srcK q.L j a := by
      unfold srcK
      rw [List.range_succ, List.reverse_append, List.reverse_singleton, List.singleton_append, List.find?_cons]
      rw [hx]
      dsimp only
      cases coverP a x <;> rfl
    obtain ⟨g, off, hp, hcs, -⟩ := re_at (H.nth 1 rfl) hx
    refine ⟨_, _, _, H.ld 0 rfl rfl, ⟨by omega, by omega⟩, adr_eq hp ⟨x.rc.toArray, rfl, hcs, ?_⟩⟩
    refine (St.nil A).al fun k6 B H2 => H2.sts0 0 rfl rfl rfl (rc_one x) fun C H2 => ?_
    have H2 : St A No C [blk k6 x.rc.toArray 98] := H2
    have hh2 : Hush W C := hh.trans H2.touch (fun _ _ e => e)
    have miss : coverP a x = false → ∀ z6 : Int, z6 = IntKind.wrap .i64 ((j : Int) - 1) → (∃ m : Nat, z6 = (m : Int) - 1 ∧ m ≤ i ∧ Hush W C ∧ srcK q.L i a = srcK q.L m a) ∧ (z6 + 1).toNat < ((j : Int) + 1).toNat := by
      rintro hm z6 rfl
      rw [w64 (by omega) (by omega)]
      exact ⟨⟨j, rfl, by omega, hh2, by rw [hsrc, hstep, hm]; rfl⟩, by omega⟩
    refine ⟨x.store, H2.ld 0 rfl rfl, split_of (fun q2 => ?_) (fun q2 => miss (by unfold coverP; rw [q2]; rfl))⟩
    refine ⟨x.placed, H2.ld 0 rfl rfl, split_of (fun q3 => ?_) (fun q3 => miss (by unfold coverP; rw [q3, Bool.false_and, Bool.and_false]))⟩
    refine ⟨x.addr, H2.ld 0 rfl rfl, split_of (fun q4 => ?_) (fun q4 => ?_)⟩
    · have q4 := of_decide_eq_true q4
      refine ⟨x.addr, H2.ld 0 rfl rfl, x.size, H2.ld 0 rfl rfl, ?_⟩
      rintro z5 rfl
      rw [w64 (by omega) (by omega)]
      refine split_of (fun q5 => ?_) (fun q5 => ?_)
      · have q5 := of_decide_eq_true q5
        rw [hsrc, hstep, show coverP a x = true by unfold coverP; rw [q2, q3, Bool.true_and, Bool.true_and]; exact decide_eq_true ⟨by omega, by omega⟩]
        exact ⟨rfl, hh2⟩
      · have q5 := of_decide_eq_false q5
        exact miss (by unfold coverP; rw [decide_eq_false (by omega), Bool.and_false, Bool.and_false])
    · have q4 := of_decide_eq_false q4
      exact miss (by unfold coverP; rw [decide_eq_false (by omega), Bool.and_false, Bool.and_false])
  · have q1 := of_decide_eq_false q1
    obtain rfl : m = 0 := by omega
    rw [hsrc]
    exact ⟨rfl, hh⟩
/-! ### without -/
theorem rents_take (L : List En) (i : Nat) : (rents L).take (i * 13) = rents (L.take i) := by
  unfold rents
  induction L generalizing i with
  | nil => simp
  | cons a l ih =>
    cases i with
    | zero => simp
    | succ i =>
      rw [List.take_succ_cons, List.flatMap_cons, List.flatMap_cons, List.take_append, show (i + 1) * 13 - a.rc.length = i * 13 by show (i + 1) * 13 - 13 = _; omega, ih, List.take_of_length_le (by show 13 ≤ (i + 1) * 13; omega)]
theorem rents_drop (L : List En) (i : Nat) : (rents L).drop (i * 13) = rents (L.drop i) := by
  unfold rents
  induction L generalizing i with
  | nil => simp
  | cons a l ih =>
    cases i with
    | zero => simp
    | succ i =>
      rw [List.drop_succ_cons, List.flatMap_cons, List.drop_append, show (i + 1) * 13 - a.rc.length = i * 13 by show (i + 1) * 13 - 13 = _; omega, ih, List.drop_of_length_le (by show 13 ≤ (i + 1) * 13; omega), List.nil_append]
theorem rents_one (L : List En) : ∀ u ∈ rents L, u.oneCell' = true := by
  intro u hu
  obtain ⟨e, -, he⟩ := List.mem_flatMap.1 hu
  exact rc_one e u he
theorem without_any (h : (rA b q).at_ W) (hn : q.L.length ≤ 32) (i : Nat) (hi : i < q.L.length) : Calls Tryd.prog 51 #[.pointer (some ⟨b, 0, none⟩), .int .i64 i] W fun e w => e = .returned (.tuple #[]) ∧ ∃ (p : Option Addr) (c : Nat), Sep.Post (rA b q) W (rA b { q with p := p, cap := c, L := q.L.eraseIdx i }) w := by
  have H := r_open h
  have hs : Sl W 98 13 (.slice q.p q.L.length q.cap) q.L.length (rents q.L) := H.nth 1 rfl
  obtain ⟨hnc, -, g, o, hp, hcell⟩ := slr_cells hs (by omega)
  have hrl : (rents q.L).length = q.L.length * 13 := hs.1
  refine vc51 b 0 i ⟨_, _, _, H.ld 0 rfl rfl, ⟨by omega, by omega⟩, ?_⟩
  rw [Int.toNat_natCast]
  have H := H.add (A := sl 98 13 (.slice none 0 0) 0 []) ⟨Sl.nil _ _ _, XTouch.refl _ _, fun q hq => by cases hq⟩
  refine H.app 2 rfl (rents (q.L.take i)) (.inr ⟨_, hp, fun j u hj => ?_⟩) (by rw [show (rents (q.L.take i)).length = (q.L.take i).length * 13 from rows_len (rc_len _), List.length_take, Nat.min_eq_left (by omega)]) (rents_one _) (by have : maxLen = 2 ^ 63 - 1 := rfl; omega) (by omega) fun p2 c2 B HB => ?_
  · rw [add_none]
    refine hcell j u ?_
    rw [← rents_take] at hj
    have := (List.getElem?_eq_some_iff.1 hj).1
    rw [List.length_take] at this
    rw [List.getElem?_take_of_lt (by omega)] at hj
    exact hj
  refine ⟨_, _, _, HB.ld 0 rfl rfl, ?_⟩
  rintro z rfl
  rw [w64 (by omega) (by omega), show ((i : Nat) : Int) + 1 = ((i + 1 : Nat) : Int) by omega]
  refine ⟨⟨by omega, by omega⟩, ?_⟩
  rw [Int.toNat_natCast]
  have hsB : Sl B 98 13 (.slice q.p q.L.length q.cap) q.L.length (rents q.L) := HB.nth 1 rfl
  obtain ⟨-, -, g', o', hp', hcell2⟩ := slr_cells hsB (by omega)
  have hlen2 : (rents (q.L.drop (i + 1))).length = (q.L.length - (i + 1)) * 13 := by rw [show (rents (q.L.drop (i + 1))).length = (q.L.drop (i + 1)).length * 13 from rows_len (rc_len _), List.length_drop]
  refine HB.app 2 rfl (rents (q.L.drop (i + 1))) (.inr ?_) hlen2 (rents_one _) (by have : maxLen = 2 ^ 63 - 1 := rfl; omega) (by omega) fun p4 c4 C HC => ?_
  · rw [hp']
    by_cases hcc : q.cap = i + 1
    · refine ⟨⟨g', o', none⟩, by unfold Sx.sub; rw [if_pos hcc], fun j u hj => ?_⟩
      exfalso
      have := (List.getElem?_eq_some_iff.1 hj).1
      omega
    · refine ⟨⟨g', o' + (i + 1) * 13, none⟩, by unfold Sx.sub; rw [if_neg hcc, Option.map_some, add_none], fun j u hj => ?_⟩
      rw [add_none, Nat.add_assoc]
      rw [← rents_drop, List.getElem?_drop] at hj
      exact hcell2 _ u hj
  refine HC.st 0 rfl (by show 1 < 2; omega) fun D HD => ⟨rfl, p4, c4, r_shut (L := []) ?_⟩
  have HD := HD.pick [0, 2]
  have el : (q.L.eraseIdx i).length = 0 + i + (q.L.length - (i + 1)) := by rw [List.length_eraseIdx, if_pos hi]; omega
  have ee : rents (q.L.eraseIdx i) = [] ++ rents (q.L.take i) ++ rents (q.L.drop (i + 1)) := by
    unfold rents
    rw [List.eraseIdx_eq_take_drop_succ, List.flatMap_append, List.nil_append]
  show St W (rA b q).own D ([blk b #[.int .i64 q.size, .slice p4 (q.L.eraseIdx i).length c4] 96, sl 98 13 (.slice p4 (q.L.eraseIdx i).length c4) (q.L.eraseIdx i).length (rents (q.L.eraseIdx i))] ++ [])
  rw [el, ee]
  exact HD
end Go.Proofs.YtngfaiahlblkkaaDoor
