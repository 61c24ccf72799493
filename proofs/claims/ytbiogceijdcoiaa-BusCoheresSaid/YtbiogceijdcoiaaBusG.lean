/- The bus, part G: a cache's lines, one by one. No condition. -/
import Derived.Test.YtbiogceijdcoiaaBusE
import Derived.Test.YtbiogceijdcoiaaRangeC
import Derived.RangeFuncBound
import Derived.RangeFuncCalls
import Derived.Shelf.RegionOpen
import Derived.WalkKit
import Derived.OwnWalkIn
import Derived.TacticsInMore
import Derived.LoopNIn
import Derived.LoopIn
namespace Go.Proofs.Ytbiogceijdcoiaa
open Go.RowKit Go.XHeap Go.Sx Go.Sep Go.RangeC Go.Shelf
attribute [local go_sem] Oper.semAt_some
set_option linter.unusedVariables false
set_option maxRecDepth 100000
variable {W w : World} {b m : Nat} {B : BP} {S S' : PB} {L : List Asn}
/-- all lines, in order -/
def CS.ways (C : CS) : List Way := C.sets.flatten.filter Way.valid
def CS.upto (C : CS) (i j : Nat) : List Way := (C.sets.take i).flatten ++ (C.set_ i).take j
def CS.cnt (C : CS) (i j : Nat) : Nat := ((C.upto i j).filter Way.valid).length
theorem filter_at {α : Type} {p : α → Bool} {l1 l2 : List α} {y : α} (h : p y = true) : ((l1 ++ y :: l2).filter p)[(l1.filter p).length]? = some y := by
  rw [List.filter_append, List.filter_cons, if_pos h, List.getElem?_append_right (Nat.le_refl _), Nat.sub_self]; rfl
theorem upto_split {C : CS} (ho : C.Ok) {i j : Nat} {y : Way} (hi : i < C.S) (hj : (C.set_ i)[j]? = some y) : C.sets.flatten = C.upto i j ++ y :: ((C.set_ i).drop (j + 1) ++ (C.sets.drop (i + 1)).flatten) := by
  have h1 := CS.set_at ho hi
  obtain ⟨hil, h1⟩ := List.getElem?_eq_some_iff.1 h1
  obtain ⟨hjl, h2⟩ := List.getElem?_eq_some_iff.1 hj
  have e1 : C.sets = C.sets.take i ++ C.set_ i :: C.sets.drop (i + 1) := by
    conv => lhs; rw [← List.take_append_drop i C.sets, List.drop_eq_getElem_cons hil, h1]
  have e2 : C.set_ i = (C.set_ i).take j ++ y :: (C.set_ i).drop (j + 1) := by
    conv => lhs; rw [← List.take_append_drop j (C.set_ i), List.drop_eq_getElem_cons hjl, h2]
  conv => lhs; rw [e1, List.flatten_append, List.flatten_cons]
  conv => lhs; rw [e2]
  unfold CS.upto
  simp
theorem way_at {C : CS} (ho : C.Ok) {i j : Nat} {y : Way} (hi : i < C.S) (hj : (C.set_ i)[j]? = some y) (hv : y.valid = true) : C.ways[C.cnt i j]? = some y := by
  unfold CS.ways CS.cnt
  rw [upto_split ho hi hj]
  exact filter_at hv
theorem cnt_step {C : CS} {i j : Nat} {y : Way} (hj : (C.set_ i)[j]? = some y) : C.cnt i (j + 1) = if y.valid = true then C.cnt i j + 1 else C.cnt i j := by
  unfold CS.cnt CS.upto
  rw [List.take_add_one, hj]
  simp only [Option.toList_some, List.filter_append, List.length_append]
  by_cases h : y.valid = true
  · rw [if_pos h, List.filter_cons, if_pos h]; simp; omega
  · rw [if_neg h, List.filter_cons, if_neg h]; simp
theorem cnt_zero {C : CS} : C.cnt 0 0 = 0 := by simp [CS.cnt, CS.upto]
theorem cnt_row {C : CS} (ho : C.Ok) {i : Nat} (hi : i < C.S) : C.cnt (i + 1) 0 = C.cnt i C.N := by
  have h1 := CS.set_at ho hi
  have hN : (C.set_ i).length = C.N := ho.len _ (CS.set_mem ho hi)
  unfold CS.cnt CS.upto
  rw [List.take_add_one, h1, List.take_of_length_le (l := C.set_ i) (by omega)]
  simp
theorem cnt_end {C : CS} (ho : C.Ok) : C.cnt C.S 0 = C.ways.length := by
  unfold CS.cnt CS.upto CS.ways
  rw [List.take_of_length_le (by rw [ho.sl]; exact Nat.le_refl _), List.take_zero, List.append_nil]
def linesInv (kc bc : Nat) (C : CS) (A : World) : Prop := Blk A kc #[.pointer (some ⟨bc, 0, none⟩)] 55 ∧ (cacheA bc C).at_ A
def CS.encLine (C : CS) (k : Nat) : Value := .agg (C.ways.getD k zeroWay).lineC.toArray
theorem hush_drewN (W : World) (m : Nat) : XTouch (fun _ => False) W (W.drewN m) := (XTouch.refl _ W).drewN m
set_option maxHeartbeats 4000000 in
theorem lines_gives {C : CS} (ho : C.Ok) (n kc bc : Nat) : Gives n Try.prog 29 #[.pointer (some ⟨kc, 0, none⟩)] C.ways.length C.encLine (linesInv kc bc C) := by
  intro l J Jx W hJ hJx hInv hY h0
  have hS := ho.pos
  have hn0 := ho.n0
  have hn1 := ho.n1
  have hiv := hInv 0 W h0
  have c1 : W.cell? ⟨kc, 0, none⟩ = some (.pointer (some ⟨bc, 0, none⟩)) := hiv.1.cell' rfl
  have c2 : W.cell? ⟨bc, 0, none⟩ = some (.slice (some ⟨C.bs, C.bo, none⟩) C.S C.cap) := (cache_open hiv.2).ld 0 rfl rfl
  refine (callsIn_wide (n := n + 1)).1 ?_
  refine callsIn_of_wp Try.func29 rfl trivial ?_ rfl
  simp only [Try.ntmps29, List.size_toArray, List.length_cons, List.length_nil, Nat.reduceAdd, Nat.reduceSub, Array.replicate_succ, Array.replicate_zero, List.push_toArray, List.append_toArray, List.nil_append, List.cons_append]
  gi_wp2
  gi_loopw [11] (fun p wr => ∃ i : Nat, p = .int .i64 i ∧ i ≤ C.S ∧ J (C.cnt i 0) wr) (fun p wr => match p with | .int _ x => C.S - x.toNat | _ => 0)
  case atStart => exact ⟨0, rfl, Nat.zero_le _, by rw [cnt_zero]; exact h0⟩
  case round =>
    obtain ⟨i, rfl, hi, hj⟩ := hrel
    by_cases hlt : i < C.S
    · have hd : decide ((i : Int) < (C.S : Int)) = true := decide_eq_true (by omega)
      have hiv := hInv _ _ hj
      have cr := row_cell ho ((show here (C.pieces bc) wr from hiv.2).nth 1 rfl) hlt
      have hN : (C.set_ i).length = C.N := ho.len _ (CS.set_mem ho hlt)
      gi_wp2
      gi_loopw [17] (fun p wr => ∃ j : Nat, p = .int .i64 j ∧ j ≤ C.N ∧ J (C.cnt i j) wr) (fun p wr => match p with | .int _ x => C.N - x.toNat | _ => 0)
      case atStart => exact ⟨0, rfl, Nat.zero_le _, hj⟩
      case round =>
        clear hj hiv cr
        obtain ⟨j, rfl, hjn, hj⟩ := hrel
        by_cases hlj : j < C.N
        · have hd2 : decide ((j : Int) < (C.N : Int)) = true := decide_eq_true (by omega)
          have hiv := hInv _ _ hj
          obtain ⟨y, hy⟩ : ∃ y, (C.set_ i)[j]? = some y := ⟨_, List.getElem?_eq_getElem (by omega)⟩
          have hset := (show here (C.pieces bc) _ from hiv.2).nth 2 rfl
          have cst := way_cell ho hset hlt hy (q := 1) (by omega) (v := .int .i64 y.state) rfl
          have hyo := ho.way _ (CS.set_mem ho hlt) y (List.mem_of_getElem? hy)
          have hstep := cnt_step (i := i) hy
          cases hv : (((y.state : Nat) : Int) != 0)
          · have hnv : ¬ y.valid = true := by
              have : ((y.state : Nat) : Int) = 0 := by simpa using hv
              unfold Way.valid
              simp; omega
            rw [if_neg hnv] at hstep
            have hno : ∀ f : FuncId, none = some f → Fence.wide.fn f := fun f h => by cases h
            have hw1 : IntKind.wrap .i64 ((j : Int) + 1) = ((j + 1 : Nat) : Int) := by rw [w64 (by omega) (by omega)]; omega
            gi_wp2_with (refine ⟨trivial, ?_⟩)
            refine ⟨hno, ?_⟩
            gi_wp2
            refine ⟨⟨j + 1, by simp, hlj, by rw [hstep]; exact hj⟩, ?_⟩
            show C.N - ((j : Int) + 1).toNat < C.N - (j : Int).toNat
            omega
          · have hval : y.valid = true := by
              have : ¬ ((y.state : Nat) : Int) = 0 := by simpa using hv
              unfold Way.valid
              simp; omega
            rw [if_pos hval] at hstep
            have hat := way_at ho hlt hy hval
            have hlw : C.cnt i j < C.ways.length := (List.getElem?_eq_some_iff.1 hat).1
            have henc : C.encLine (C.cnt i j) = .agg y.lineC.toArray := by
              unfold CS.encLine
              rw [List.getD_eq_getElem?_getD, hat]
              rfl
            gi_wp2_with (refine ⟨trivial, ?_⟩; gi_at_call 30; refine (callsIn_wide.2 (as_any ho hiv.2 hlt hy)).mono ?_; rintro e w2 ⟨rfl, hh⟩; obtain ⟨fn, tmps, assign, body, hyy, hR⟩ := hY (C.cnt i j) w2 hlw (hJ _ _ _ hj hh); rw [henc] at hyy)
            refine hR.mono ?_
            rintro e W3 (⟨rfl, hJ3⟩ | ⟨rfl, hJx3⟩)
            · have hw1 : IntKind.wrap .i64 ((j : Int) + 1) = ((j + 1 : Nat) : Int) := by rw [w64 (by omega) (by omega)]; omega
              gi_wp2
              refine ⟨⟨j + 1, by simp, hlj, by rw [hstep]; exact hJ3⟩, ?_⟩
              show C.N - ((j : Int) + 1).toNat < C.N - (j : Int).toNat
              omega
            · gi_wp2
              refine bodyPost_ret (results_none rfl _ _ _) rfl ?_
              exact ⟨⟨_, rfl⟩, .inr hJx3⟩
        · have hd2 : decide ((j : Int) < (C.N : Int)) = false := decide_eq_false (by omega)
          have hw1 : IntKind.wrap .i64 ((i : Int) + 1) = ((i + 1 : Nat) : Int) := by rw [w64 (by omega) (by omega)]; omega
          gi_wp2
          obtain rfl : j = C.N := by omega
          rw [← cnt_row ho hlt] at hj
          refine ⟨⟨i + 1, by simp, hlt, hj⟩, ?_⟩
          show C.S - ((i : Int) + 1).toNat < C.S - (i : Int).toNat
          omega
    · have hd : decide ((i : Int) < (C.S : Int)) = false := decide_eq_false (by omega)
      gi_wp2
      go_end0
      obtain rfl : i = C.S := by omega
      rw [cnt_end ho] at hj
      exact ⟨⟨_, rfl⟩, .inl hj⟩
end Go.Proofs.Ytbiogceijdcoiaa
