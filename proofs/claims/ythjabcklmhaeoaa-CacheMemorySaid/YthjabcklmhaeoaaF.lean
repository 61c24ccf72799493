/- Part F of the proofs over 'cache': one is made. -/
import Derived.Test.YthjabcklmhaeoaaE
namespace Go.Proofs.Ythjabcklmhaeoaa
open Go.RowKit Go.XHeap Go.Sx
set_option linter.unusedVariables false

def zeroWay : Way := ⟨0, 0, 0, [0, 0, 0, 0, 0, 0, 0, 0, 0, 0, 0, 0, 0, 0, 0, 0]⟩
def zeroSet (N : Nat) : List Way := List.replicate N zeroWay
def zero19 : Array Value := #[.int .u32 0, .int .i64 0, .int .i64 0, .int .u8 0, .int .u8 0, .int .u8 0, .int .u8 0, .int .u8 0, .int .u8 0, .int .u8 0, .int .u8 0, .int .u8 0, .int .u8 0, .int .u8 0, .int .u8 0, .int .u8 0, .int .u8 0, .int .u8 0, .int .u8 0]
theorem made_set (N : Nat) (h : 1 ≤ N ∧ N ≤ 4) : madeCells zero19 (N * 19) = (flatW (zeroSet N)).toArray := by
  have : N = 1 ∨ N = 2 ∨ N = 3 ∨ N = 4 := by omega
  have k1 : madeCells zero19 (1 * 19) = (flatW (zeroSet 1)).toArray := by kernel_rfl
  have k2 : madeCells zero19 (2 * 19) = (flatW (zeroSet 2)).toArray := by kernel_rfl
  have k3 : madeCells zero19 (3 * 19) = (flatW (zeroSet 3)).toArray := by kernel_rfl
  have k4 : madeCells zero19 (4 * 19) = (flatW (zeroSet 4)).toArray := by kernel_rfl
  rcases this with rfl | rfl | rfl | rfl
  · exact k1
  · exact k2
  · exact k3
  · exact k4
theorem pow_mask (S : Nat) (hS : S = 1 ∨ S = 2 ∨ S = 4 ∨ S = 8 ∨ S = 16) : IntKind.wrap .i64 ((BitVec.ofInt (IntKind.bits .i64) (S : Int) &&& BitVec.ofInt (IntKind.bits .i64) ((S : Int) - 1)).toNat : Int) = 0 := by
  have key : ∀ S ∈ [1, 2, 4, 8, 16], IntKind.wrap .i64 ((BitVec.ofInt (IntKind.bits .i64) ((S : Nat) : Int) &&& BitVec.ofInt (IntKind.bits .i64) (((S : Nat) : Int) - 1)).toNat : Int) = 0 := by decide +kernel
  exact key S (by rcases hS with rfl | rfl | rfl | rfl | rfl <;> simp)
def rows (g : Nat → Nat) (N n : Nat) : List Value := (List.range n).map fun i => .slice (some ⟨g i, 0, none⟩) N N
theorem rows_succ (g : Nat → Nat) (N n : Nat) : rows g N (n + 1) = rows g N n ++ [.slice (some ⟨g n, 0, none⟩) N N] := by simp [rows, List.range_succ]
structure Making (W w : World) (S N n : Nat) (g : Nat → Nat) (v : Value) : Prop where
  cfg : Blk w W.heap.size #[.int .i64 S, .int .i64 N] 30
  root : Blk w (W.heap.size + 1) #[v, .int .i64 0] 51
  sl : Sl w 52 1 v n (rows g N n)
  sets : ∀ i, i < n → Blk w (g i) (flatW (zeroSet N)).toArray 56 ∧ W.heap.size + 2 ≤ g i
  inj : ∀ i j, i < n → j < n → g i = g j → i = j
  own : ∀ q, v.ownBlock = some q → W.heap.size + 2 ≤ q ∧ ∀ i, i < n → q ≠ g i
  touch : XTouch (fun _ => False) W w
theorem sl_val {w : World} {v : Value} {n : Nat} {xs : List Value} (h : Sl w 52 1 v n xs) : ∃ p c, v = .slice p n c := by
  rcases h.2 with ⟨rfl, rfl⟩ | ⟨g, off, cap, cur, rfl, -⟩
  · exact ⟨none, 0, rfl⟩
  · exact ⟨_, _, rfl⟩
theorem new_ok (W : World) (S N : Nat) (hS : S = 1 ∨ S = 2 ∨ S = 4 ∨ S = 8 ∨ S = 16) (hN : 1 ≤ N ∧ N ≤ 4) :
    Calls Try.prog 4 #[.agg #[.int .i64 S, .int .i64 N]] W fun e w => ∃ b C, e = .returned (.tuple #[.pointer (some ⟨b, 0, none⟩), .nilIface]) ∧ CacheAt w b C ∧ C.S = S ∧ C.N = N ∧ (∀ i, i < S → C.sets i = zeroSet N) ∧ XTouch (fun _ => False) W w ∧ ∀ k, C.own b k → W.heap.size ≤ k := by
  have hS16 : S ≤ 16 ∧ 1 ≤ S := by rcases hS with e | e | e | e | e <;> omega
  refine vc4 _ ?_
  rintro k w2 rfl rfl
  have hc2 : Blk (W.alloc (.cells #[.int .i64 S, .int .i64 N] 30)) W.heap.size #[.int .i64 S, .int .i64 N] 30 := Blk.new W _ 30
  have c0 : (W.alloc (.cells #[.int .i64 S, .int .i64 N] 30)).cell? ⟨W.heap.size, 0, none⟩ = some (.int .i64 (S : Int)) := hc2.cell' rfl
  have c1 : (W.alloc (.cells #[.int .i64 S, .int .i64 N] 30)).cell? ⟨W.heap.size, 1, none⟩ = some (.int .i64 (N : Int)) := hc2.cell' rfl
  refine ⟨S, c0, split_of (fun q => absurd (of_decide_eq_true q) (by omega)) (fun _ => ?_)⟩
  refine ⟨S, c0, split_of (fun q => absurd (of_decide_eq_true q) (by omega)) (fun _ => ?_)⟩
  refine ⟨S, c0, S, c0, ?_⟩
  rintro z5 hz5 z6 hz6
  rw [w64 (by omega) (by omega)] at hz5
  subst hz5
  rw [pow_mask S hS] at hz6
  subst hz6
  refine split_of (fun q => by cases q) (fun _ => ?_)
  refine ⟨N, c1, split_of (fun q => absurd (of_decide_eq_true q) (by omega)) (fun _ => ?_)⟩
  refine ⟨N, c1, split_of (fun q => absurd (of_decide_eq_true q) (by omega)) (fun _ => ?_)⟩
  rintro vs rfl k2 w3 hk2 hw3
  have ek2 : k2 = W.heap.size + 1 := by rw [hk2]; simp
  subst ek2
  clear hk2
  have hc3 : Blk w3 W.heap.size #[.int .i64 S, .int .i64 N] 30 := by rw [hw3]; exact hc2.alloc _
  have hr3 : Blk w3 (W.heap.size + 1) #[.slice none 0 0, .int .i64 0] 51 := by
    rw [hw3]
    have := Blk.new (W.alloc (.cells #[.int .i64 S, .int .i64 N] 30)) #[.slice none 0 0, .int .i64 0] 51
    rw [show (W.alloc (.cells #[.int .i64 S, .int .i64 N] 30)).heap.size = W.heap.size + 1 by simp] at this
    exact this
  have hT3 : XTouch (fun _ => False) W w3 := by rw [hw3]; exact ((XTouch.refl _ W).alloc _).alloc _
  clear hw3 hc2 c0 c1
  refine ⟨S, hc3.cell' rfl, ?_⟩
  refine ⟨fun x w => ∃ n : Nat, x = n ∧ n ≤ S ∧ ∃ g v, Making W w S N n g v, fun x _ => S - x.toNat, ⟨0, rfl, by omega, fun _ => 0, .slice none 0 0, ⟨hc3, hr3, Sl.nil _ _ _, fun i hi => absurd hi (by omega), fun i j hi => absurd hi (by omega), fun q hq => by simp [Value.ownBlock] at hq, hT3⟩⟩, fun _ => ?_⟩
  rintro x w4 ⟨n, rfl, hn, g, v, hm⟩
  obtain ⟨p, c, rfl⟩ := sl_val hm.sl
  refine split_of (fun hx => ?_) (fun hx => ?_)
  · have hx := of_decide_eq_true hx
    rintro w5 rfl
    refine ⟨p, n, c, hm.root.drew.cell' rfl, N, hm.cfg.drew.cell' rfl, ⟨by omega, by omega, by omega, by omega⟩, ?_⟩
    rintro k5 w6 hk5 hw6
    have hs4 : W.heap.size + 2 ≤ w4.heap.size := by have := hm.root.lt; omega
    have ek5 : k5 = w4.heap.size := hk5
    subst ek5
    clear hk5
    have hT6 : XTouch (fun _ => False) w4 w6 := by rw [hw6]; exact ((XTouch.refl _ w4).drew).alloc _
    have hset : Blk w6 w4.heap.size (flatW (zeroSet N)).toArray 56 := by
      rw [hw6, ← made_set N hN]
      exact Blk.new w4.drew _ 56
    have hs6 : w6.heap.size = w4.heap.size + 1 := by
      rw [hw6, World.size_alloc]; rfl
    refine ⟨by rw [hw6]; exact (Below.refl _ _).alloc (Nat.le_refl _) _, ?_⟩
    clear hw6
    rintro k6 w7 hk6 hw7
    rw [hs6] at hk6
    subst hk6
    have hT7 : XTouch (fun _ => False) w4 w7 := by rw [hw7]; exact hT6.alloc _
    have hset7 : Blk w7 w4.heap.size (flatW (zeroSet N)).toArray 56 := by rw [hw7]; exact hset.alloc _
    have hone : Blk w7 (w4.heap.size + 1) #[.slice (some ⟨w4.heap.size, 0, none⟩) N N] 52 := by
      rw [hw7]
      have := Blk.new w6 #[.slice (some ⟨w4.heap.size, 0, none⟩) N N] 52
      rw [hs6] at this
      exact this
    refine ⟨by
      have hB : Below w4.drew.heap.size w4.drew w6 := hT6.below (B := w4.heap.size) (Nat.le_refl _) (fun _ h => h.elim) |> fun h => ⟨h.os, h.tape, h.output, h.size, h.block⟩
      rw [hw7]
      exact hB.alloc (by rw [hs6]; exact Nat.le_succ _) _, ?_⟩
    have hs7 : w7.heap.size = w4.heap.size + 2 := by rw [hw7, World.size_alloc, hs6]
    clear hw7
    refine ⟨rows g N n, [.slice (some ⟨w4.heap.size, 0, none⟩) N N], hm.sl.keep hT7 (fun _ _ e => e), .inr ⟨_, rfl, ?_⟩, rfl, ?_, by unfold maxLen; omega, by omega, ?_⟩
    · intro q v hv
      rw [add_none, hone.cell]
      rw [Nat.zero_add]
      simpa using hv
    · intro v hv
      rw [List.mem_singleton] at hv
      rw [hv]; rfl
    rintro p2 k8 w8 hsl hT8 hob
    have hroot7 := hm.root.keep hT7 (fun e => e)
    have hroot8 := hroot7.keep hT8 (fun e => by have := (hm.own _ e).1; omega)
    refine ⟨⟨_, hroot8.cell' rfl⟩, hroot8.frozen _, ?_⟩
    rintro w9 rfl z11 rfl
    rw [w64 (by omega) (by omega)]
    refine ⟨⟨n + 1, by omega, by omega, upd g n w4.heap.size, .slice p2 (n + 1) k8, ?_⟩, by show S - ((n : Int) + 1).toNat < S - (n : Int).toNat; omega⟩
    have hT9 := (XTouch.refl (fun q => q = W.heap.size + 1) w8).setCell (p := ⟨W.heap.size + 1, 0, none⟩) (.inl rfl) (.slice p2 (n + 1) k8)
    have glt : ∀ i, i < n → g i < w4.heap.size := fun i hi => (hm.sets i hi).1.lt
    have old : ∀ q, (Value.slice p2 (n + 1) k8).ownBlock = some q → (Value.slice p n c).ownBlock = some q ∨ w4.heap.size + 2 ≤ q := fun q hq => by
      rcases hob q hq with e | e
      · exact .inl e
      · exact .inr (by rw [hs7] at e; exact e)
    have oldlt : ∀ q, (Value.slice p n c).ownBlock = some q → q < w4.heap.size := hm.sl.lt
    have gset : ∀ i, i < n → upd g n w4.heap.size i = g i := fun i hi => by unfold upd; rw [if_neg (by omega)]
    have gn : upd g n w4.heap.size n = w4.heap.size := upd_same _ _ _
    refine ⟨?_, ?_, ?_, ?_, ?_, ?_, ?_⟩
    · exact ((hm.cfg.keep hT7 (fun e => e)).keep hT8 (fun e => by have := (hm.own _ e).1; omega)).keep hT9 (by omega)
    · exact hroot8.set 0 (.slice p2 (n + 1) k8)
    · have e1 : rows (upd g n w4.heap.size) N (n + 1) = rows g N n ++ [.slice (some ⟨w4.heap.size, 0, none⟩) N N] := by
        rw [rows_succ, gn]
        congr 1
        unfold rows
        refine List.map_congr_left fun i hi => ?_
        rw [gset i (by simpa using hi)]
      rw [e1]
      exact hsl.keep hT9 (fun q hq e => by
        rcases old q hq with h1 | h1
        · have := (hm.own q h1).1; omega
        · omega)
    · intro i hi
      by_cases e : i = n
      · subst e
        rw [gn]
        exact ⟨(hset7.keep hT8 (fun e => by have := oldlt _ e; omega)).keep hT9 (by omega), hs4⟩
      · rw [gset i (by omega)]
        obtain ⟨h1, h2⟩ := hm.sets i (by omega)
        exact ⟨((h1.keep hT7 (fun e => e)).keep hT8 (fun e2 => (hm.own _ e2).2 i (by omega) rfl)).keep hT9 (by omega), h2⟩
    · intro i j hi hj e
      by_cases ei : i = n
      · by_cases ej : j = n
        · omega
        · rw [ei, gn, gset j (by omega)] at e
          have := glt j (by omega); omega
      · by_cases ej : j = n
        · rw [ej, gn, gset i (by omega)] at e
          have := glt i (by omega); omega
        · rw [gset i (by omega), gset j (by omega)] at e
          exact hm.inj i j (by omega) (by omega) e
    · intro q hq
      rcases old q hq with h1 | h1
      · refine ⟨(hm.own q h1).1, fun i hi => ?_⟩
        by_cases e : i = n
        · rw [e, gn]; have := oldlt q h1; omega
        · rw [gset i (by omega)]; exact (hm.own q h1).2 i (by omega)
      · refine ⟨by omega, fun i hi => ?_⟩
        by_cases e : i = n
        · rw [e, gn]; omega
        · rw [gset i (by omega)]; have := glt i (by omega); omega
    · refine XTouch.mono (S := fun q => W.heap.size ≤ q) ?_ (fun q hq e => by omega)
      refine (((hm.touch.mono (fun _ _ e => e.elim)).trans hT7 (fun _ _ e => e.elim)).trans hT8 (fun q _ e => ?_)).trans hT9 (fun q _ e => by omega)
      have := (hm.own q e).1; omega
  · have hx := of_decide_eq_false hx
    obtain rfl : n = S := by omega
    have hsl := hm.sl
    rcases hsl.2 with ⟨hv, h0⟩ | ⟨gb, off, cap, cur, hv, hb, q1, q2, q3, q4⟩
    · omega
    · simp only [Value.slice.injEq, true_and] at hv
      obtain ⟨rfl, rfl⟩ := hv
      have hob := hm.own gb rfl
      refine ⟨W.heap.size + 1, ⟨n, N, 0, gb, off, g, fun _ => zeroSet N⟩, rfl, ?_, rfl, rfl, fun _ _ => rfl, hm.touch, ?_⟩
      · refine ⟨hS, hN, ⟨_, hm.root⟩, ⟨cur, hb, fun i hi => ?_⟩, fun i hi => ⟨(hm.sets i hi).1, by simp [zeroSet], fun y hy => by have := List.eq_of_mem_replicate hy; rw [this]; rfl⟩, by dsimp only; omega, fun i hi => ?_, hm.inj⟩
        · have hi' : i < n := hi
          have : (rows g N n)[i]? = some (.slice (some ⟨g i, 0, none⟩) N N) := by simp [rows, hi']
          rw [← q4, List.getElem?_take_of_lt (by omega), List.getElem?_drop] at this
          simpa using this
        · have := (hm.sets i hi).2
          refine ⟨by dsimp only; omega, fun e => hob.2 i hi e.symm⟩
      · rintro q (rfl | rfl | ⟨i, hi, rfl⟩)
        · omega
        · exact Nat.le_trans (Nat.le_add_right _ 2) hob.1
        · exact Nat.le_trans (Nat.le_add_right _ 2) (hm.sets i hi).2
end Go.Proofs.Ythjabcklmhaeoaa
