/- The cache, part D: New. No condition. -/
import Derived.Test.YtbiogceijdcoiaaCacheC
namespace Go.Proofs.Ytbiogceijdcoiaa
open Go.RowKit Go.XHeap Go.Sx Go.Sep
set_option linter.unusedVariables false
set_option maxRecDepth 100000

def shapeOk (S N : Int) : Prop := (S = 1 ∨ S = 2 ∨ S = 4 ∨ S = 8 ∨ S = 16) ∧ 1 ≤ N ∧ N ≤ 4
instance (S N : Int) : Decidable (shapeOk S N) := inferInstanceAs (Decidable (_ ∧ _))
def shapeC (S N : Int) : Array Value := #[.int .i64 S, .int .i64 N]
/-- a cache as it is made -/
structure CS.Fresh (C : CS) (S N : Nat) : Prop where
  ok : C.Ok
  s : C.S = S
  n : C.N = N
  sets : C.sets = List.replicate S (List.replicate N zeroWay)
  clock : C.clock = 0
theorem pow_and : ∀ S : Nat, S ≤ 16 → 1 ≤ S → ((S &&& (S - 1) = 0) ↔ (S = 1 ∨ S = 2 ∨ S = 4 ∨ S = 8 ∨ S = 16)) := by decide
theorem cnew_bad (W : World) (S N : Int) (h : ¬ shapeOk S N) :
    Calls Try.prog 14 #[.agg (shapeC S N)] W fun e w => e = .returned (.tuple #[.pointer none, errN 2]) ∧ Hush W w := by
  refine vc14 _ ((St.nil W).al fun k w2 H => ⟨S, H.ld 0 rfl rfl, split_of (fun _ => ⟨rfl, H.touch⟩) (fun q1 => ⟨S, H.ld 0 rfl rfl, split_of (fun _ => ⟨rfl, H.touch⟩) (fun q2 => ?_)⟩)⟩)
  have q1 := of_decide_eq_false q1
  have q2 := of_decide_eq_false q2
  obtain ⟨s, rfl⟩ : ∃ s : Nat, S = s := ⟨S.toNat, by omega⟩
  refine ⟨s, H.ld 0 rfl rfl, s, H.ld 0 rfl rfl, ?_⟩
  rintro z5 rfl z6 rfl
  rw [w64 (e := (s : Int) - 1) (by omega) (by omega), show ((s : Int) - 1) = ((s - 1 : Nat) : Int) by omega, Bits.land64 (by omega) (by omega)]
  refine split_of (fun _ => ⟨rfl, H.touch⟩) (fun q3 => ?_)
  have q3 : ((s &&& (s - 1) : Nat) : Int) = 0 := by simpa using q3
  refine ⟨N, H.ld 0 rfl rfl, split_of (fun _ => ⟨rfl, H.touch⟩) (fun q4 => ⟨N, H.ld 0 rfl rfl, split_of (fun _ => ⟨rfl, H.touch⟩) (fun q5 => ?_)⟩)⟩
  have q4 := of_decide_eq_false q4
  have q5 := of_decide_eq_false q5
  have := (pow_and s (by omega) (by omega)).1 (by omega)
  exact absurd (show shapeOk (s : Int) N from ⟨by omega, by omega, by omega⟩) h
theorem cnew_good (W : World) (S N : Nat) (h : shapeOk S N) :
    Calls Try.prog 14 #[.agg (shapeC S N)] W fun e w => ∃ x : { x : Nat × CS // x.2.Fresh S N }, e = .returned (.tuple #[.pointer (some ⟨x.1.1, 0, none⟩), .nilIface]) ∧ Sep.Post emp W (cacheA x.1.1 x.1.2) w := by
  obtain ⟨hS, hN1, hN2⟩ := h
  have hpow : ∃ s, s ≤ 4 ∧ S = 2 ^ s := by
    have : S = 1 ∨ S = 2 ∨ S = 4 ∨ S = 8 ∨ S = 16 := by omega
    rcases this with rfl | rfl | rfl | rfl | rfl
    · exact ⟨0, by decide, rfl⟩
    · exact ⟨1, by decide, rfl⟩
    · exact ⟨2, by decide, rfl⟩
    · exact ⟨3, by decide, rfl⟩
    · exact ⟨4, by decide, rfl⟩
  refine vc14 _ ((St.nil W).al fun k w2 H => ⟨S, H.ld 0 rfl rfl, split_of (fun q => absurd (of_decide_eq_true q) (by omega)) (fun _ => ⟨S, H.ld 0 rfl rfl, split_of (fun q => absurd (of_decide_eq_true q) (by omega)) (fun _ => ?_)⟩)⟩)
  refine ⟨S, H.ld 0 rfl rfl, S, H.ld 0 rfl rfl, ?_⟩
  rintro z5 rfl z6 rfl
  rw [w64 (e := (S : Int) - 1) (by omega) (by omega), show ((S : Int) - 1) = ((S - 1 : Nat) : Int) by omega, Bits.land64 (by omega) (by omega), (pow_and S (by omega) (by omega)).2 (by omega)]
  refine split_of (fun q => by simp at q) (fun _ => ⟨N, H.ld 0 rfl rfl, split_of (fun q => absurd (of_decide_eq_true q) (by omega)) (fun _ => ⟨N, H.ld 0 rfl rfl, split_of (fun q => absurd (of_decide_eq_true q) (by omega)) (fun _ => ?_)⟩)⟩)
  rintro vs rfl
  refine H.al fun k2 w3 H => ⟨S, H.ld 0 rfl rfl, ?_⟩
  -- the loop: m sets are made
  have e19 : ∀ n : Nat, madeCells #[.int .u32 0, .int .i64 0, .int .i64 0, .int .u8 0, .int .u8 0, .int .u8 0, .int .u8 0, .int .u8 0, .int .u8 0, .int .u8 0, .int .u8 0, .int .u8 0, .int .u8 0, .int .u8 0, .int .u8 0, .int .u8 0, .int .u8 0, .int .u8 0, .int .u8 0] (n * 19) = rows Way.cells (List.replicate n zeroWay) := fun n => rows_made (f := Way.cells) (x0 := zeroWay) rfl (by decide) n
  have H0 : St W (fun _ => False) w3 [blk k (shapeC S N) 25, blk k2 #[.slice none 0 0, .int .i64 0] 76] := H
  have H0 := H0.add (A := sl 77 1 (.slice none 0 0) 0 []) ⟨Sl.nil _ _ _, XTouch.refl _ _, fun q hq => by cases hq⟩
  have H0 := H0.add (A := all (setsA [] [])) ⟨trivial, XTouch.refl _ _, fun q hq => hq.elim⟩
  refine ⟨fun x w => ∃ (m : Nat) (gs : List Nat) (p : Option Addr) (c : Nat), x = m ∧ m ≤ S ∧ gs.length = m ∧ St W (fun _ => False) w [blk k (shapeC S N) 25, blk k2 #[.slice p m c, .int .i64 0] 76, sl 77 1 (.slice p m c) m (gs.map fun g => .slice (some ⟨g, 0, none⟩) N N), all (setsA gs (List.replicate m (List.replicate N zeroWay)))], fun x _ => S - x.toNat, ⟨0, [], none, 0, rfl, by omega, rfl, H0⟩, fun _ => ?_⟩
  clear H H0
  rintro x w4 ⟨m, gs, p, c, rfl, hm, hgs, H⟩
  refine split_of (fun q => ?_) (fun q => ?_)
  · have q := of_decide_eq_true q
    refine H.dr fun w5 H => ⟨_, _, _, H.ld 1 rfl rfl, N, H.ld 0 rfl rfl, ⟨by omega, by omega, by omega, by omega⟩, ?_⟩
    rw [Int.toNat_natCast, e19]
    refine H.alb fun k5 w6 H _ b6 => ⟨b6, H.alb fun k6 w7 H _ b7 => ⟨b6.trans (b7.mono b6.size), ?_⟩⟩
    refine H.app 2 rfl [.slice (some ⟨k5, 0, none⟩) N N] (.inr ⟨_, rfl, fun j u hj => H.cells 5 rfl j u (by simpa using hj)⟩) rfl (by intro u hu; simp at hu; subst hu; rfl) (by have : maxLen = 2 ^ 63 - 1 := rfl; omega) (by omega) fun p2 k8 w8 H => ?_
    refine H.st 1 rfl (by show 0 < 2; omega) fun w9 H => ?_
    rintro z11 rfl
    rw [w64 (by omega) (by omega)]
    refine ⟨⟨m + 1, gs ++ [k5], p2, k8, by omega, by omega, by simp [hgs], ?_⟩, by show S - ((m : Int) + 1).toNat < S - (m : Int).toNat; omega⟩
    have H : St W (fun _ => False) w9 [all (setsA gs (List.replicate m (List.replicate N zeroWay))), setA k5 (List.replicate N zeroWay), blk k (shapeC S N) 25, blk k2 #[.slice p2 (m + 1) k8, .int .i64 0] 76, sl 77 1 (.slice p2 (m + 1) k8) (m + 1) ((gs.map fun g => .slice (some ⟨g, 0, none⟩) N N) ++ [.slice (some ⟨k5, 0, none⟩) N N])] := H.pick [3, 4, 0, 1, 2]
    have H := H.push
    have e1 : setsA gs (List.replicate m (List.replicate N zeroWay)) ++ [setA k5 (List.replicate N zeroWay)] = setsA (gs ++ [k5]) (List.replicate (m + 1) (List.replicate N zeroWay)) := by
      unfold setsA
      rw [List.replicate_succ', List.zipWith_append (by simp [hgs])]
      rfl
    have e2 : (gs.map fun g => Value.slice (some ⟨g, 0, none⟩) N N) ++ [.slice (some ⟨k5, 0, none⟩) N N] = (gs ++ [k5]).map fun g => .slice (some ⟨g, 0, none⟩) N N := by simp
    rw [e1, e2] at H
    exact H.pick [1, 2, 3, 0]
  · have q := of_decide_eq_false q
    obtain rfl : m = S := by omega
    have hsl : Sl w4 77 1 (.slice p m c) m (gs.map fun g => .slice (some ⟨g, 0, none⟩) N N) := H.nth 2 rfl
    obtain ⟨ao, cap, hv, -, -, -, -, hc⟩ := hsl.open1
    cases hv
    obtain ⟨g, off, rfl, -, -⟩ := hc (by omega)
    refine ⟨⟨(k2, ⟨m, g, off, c, gs, N, List.replicate m (List.replicate N zeroWay), 0⟩), ⟨⟨hpow, hgs, by simp, by show 1 ≤ N; omega, by show N ≤ 4; omega, fun s hs => by rw [(List.mem_replicate.1 hs).2]; simp, fun s hs y hy => ?_, by show 0 < _; decide⟩, rfl, rfl, rfl, rfl⟩⟩, rfl, ?_⟩
    · rw [(List.mem_replicate.1 hs).2] at hy
      rw [(List.mem_replicate.1 hy).2]
      exact zero_ok
    · have H : St W (fun _ => False) w4 ((CS.mk m g off c gs N (List.replicate m (List.replicate N zeroWay)) 0).pieces k2 ++ []) := H.pick [1, 2, 3]
      exact (St.shut H).new 0 rfl
end Go.Proofs.Ytbiogceijdcoiaa
