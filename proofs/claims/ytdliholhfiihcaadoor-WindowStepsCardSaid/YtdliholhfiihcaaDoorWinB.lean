/- The window, part B: each, find, Ready: ranges over the method value. No condition. -/
import Derived.Test.YtdliholhfiihcaaDoorWinA
import Derived.Test.YtdliholhfiihcaaDoorRangeM
import Derived.RangeFuncBound
import Derived.RangeFuncCalls
import Derived.Shelf.RegionOpen
import Derived.WalkKit
import Derived.OwnWalkIn
import Derived.TacticsInMore
import Derived.LoopNIn
import Derived.LoopIn
namespace Go.Proofs.YtdliholhfiihcaaDoor
open Go.RowKit Go.XHeap Go.Sx Go.Sep Go.RangeM Go.Shelf
attribute [local go_sem] Oper.semAt_some
set_option linter.unusedVariables false
set_option maxRecDepth 100000
variable {W w' : World} {b : Nat} {w v : WS}

set_option maxHeartbeats 1000000 in
theorem each_gives (ho : w.Ok) (n : Nat) : Gives n Tryd.prog 32 #[.pointer (some ⟨b, 0, none⟩)] w.n (fun k => .pointer (some ⟨w.g, w.ix k * 6, none⟩)) (fun A => (winA b w).at_ A) := by
  intro l J Jx W hJ hJx hInv hY h0
  have hs1 := ho.s1
  have hn := ho.n
  have c2 : W.cell? ⟨b, 2, none⟩ = some (.int .i64 w.n) := (win_open (hInv 0 W h0)).ld 0 rfl rfl
  refine (callsIn_wide (n := n + 1)).1 ?_
  refine callsIn_of_wp Tryd.func32 rfl trivial ?_ rfl
  simp only [Tryd.ntmps32, List.size_toArray, List.length_cons, List.length_nil, Nat.reduceAdd, Nat.reduceSub, Array.replicate_succ, Array.replicate_zero, List.push_toArray, List.append_toArray, List.nil_append, List.cons_append]
  gi_wp2
  gi_loopw [9] (fun p wr => ∃ k : Nat, p = .int .i64 k ∧ k ≤ w.n ∧ J k wr) (fun p wr => match p with | .int _ x => w.n - x.toNat | _ => 0)
  case atStart => exact ⟨0, rfl, Nat.zero_le _, h0⟩
  case round =>
    obtain ⟨k, rfl, hk, hj⟩ := hrel
    by_cases hlt : k < w.n
    · have hd : decide ((k : Int) < (w.n : Int)) = true := decide_eq_true (by omega)
      gi_wp2_with (refine ⟨trivial, ?_⟩; gi_at_call 30; refine (callsIn_wide.2 (at_any ho (hInv k _ hj) k (by omega))).mono ?_; rintro e w2 ⟨rfl, m, rfl⟩; obtain ⟨fn, tmps, assign, body, hy, hR⟩ := hY k (World.drewN _ m) hlt (hJ k _ _ hj (hush_drewN m)))
      refine hR.mono ?_
      rintro e W3 (⟨rfl, hJ3⟩ | ⟨rfl, hJx3⟩)
      · have hw1 : IntKind.wrap .i64 ((k : Int) + 1) = ((k + 1 : Nat) : Int) := by rw [w64 (by omega) (by omega)]; omega
        gi_wp2
        go_roundw
        case rel => exact ⟨k + 1, rfl, hlt, hJ3⟩
        case measure =>
          show w.n - ((k + 1 : Nat) : Int).toNat < w.n - ((k : Nat) : Int).toNat
          omega
      · gi_wp2
        refine bodyPost_ret (results_none rfl _ _ _) rfl ?_
        exact ⟨⟨_, rfl⟩, .inr hJx3⟩
    · have hd : decide ((k : Int) < (w.n : Int)) = false := decide_eq_false (by omega)
      gi_wp2
      go_end0
      obtain rfl : k = w.n := by omega
      exact ⟨⟨_, rfl⟩, .inl hj⟩
/-- what was said abides other blocks' turns -/
theorem St.rec_ {M T : Nat → Prop} {A B : World} {L : List Asn} (H : St W M A L) (ht : XTouch T A B) (hn : ∀ q, owns L q → ¬ T q) (hT : ∀ q, T q → W.heap.size ≤ q) : St W M B L :=
  ⟨H.touch.trans ht (fun q hq e => by have := hT q e; omega), fun q hq => (H.mine q hq), H.here.keep ht hn⟩
def No : Nat → Prop := fun _ => False
def WS.find (w : WS) (seq : Int) : Option Nat := (List.range w.n).find? fun k => (w.slot k).seq == seq
def WS.ptr (w : WS) : Option Nat → Option Addr
  | some k => some ⟨w.g, w.ix k * 6, none⟩
  | none => none
theorem two_set {w A : World} {g o : Nat} (h : g < w.heap.size) (x : Value) : Two w A (A.drew.setCell ⟨g, o, none⟩ x) := by
  rintro q (rfl | rfl)
  · exact Below.heap_setCell A.drew ⟨g, o, none⟩ x _ (by show w.heap.size ≠ g; omega)
  · exact Below.heap_setCell A.drew ⟨g, o, none⟩ x _ (by show w.heap.size + 1 ≠ g; omega)
theorem find_of {seq : Int} {k : Nat} (hk : k < w.n) (he : (w.slot k).seq = seq) (hnot : ∀ j, j < k → (w.slot j).seq ≠ seq) : w.find seq = some k := by
  unfold WS.find
  rw [List.find?_eq_some_iff_getElem]
  refine ⟨by simpa using he, k, by simpa using hk, by simp, fun j hj => ?_⟩
  have := hnot j hj
  simpa using this
theorem find_none {seq : Int} (hnot : ∀ j, j < w.n → (w.slot j).seq ≠ seq) : w.find seq = none := by
  unfold WS.find
  rw [List.find?_eq_none]
  intro k hk
  have := hnot k (List.mem_range.1 hk)
  simpa using this
set_option maxHeartbeats 2000000 in
theorem find_any (ho : w.Ok) (h : (winA b w).at_ W) (seq : Int) :
    Calls Tryd.prog 44 #[.pointer (some ⟨b, 0, none⟩), .int .i64 seq] W fun e w2 => e = .returned (.pointer (w.ptr (w.find seq))) ∧ Hush W w2 := by
  refine (callsIn_wide (n := 3)).1 ?_
  refine callsIn_of_wp_marks Tryd.func44 rfl trivial ?_ rfl
  simp only [Tryd.ntmps44, List.size_toArray, List.length_cons, List.length_nil, Nat.reduceAdd, Nat.reduceSub, Array.replicate_succ, Array.replicate_zero, List.push_toArray, List.append_toArray, List.nil_append, List.cons_append]
  have H : St W No ((W.alloc (.cells #[.int .i64 seq] 3)).alloc (.cells #[.pointer none] 77)) [blk W.heap.size #[.int .i64 seq] 3, blk (W.heap.size + 1) #[.pointer none] 77] := by
    have := ((St.nil W).alloc #[.int .i64 seq] 3).alloc #[.pointer none] 77
    rw [World.size_alloc] at this
    exact this
  obtain ⟨W0, hW0⟩ : ∃ W0, (W.alloc (.cells #[.int .i64 seq] 3)).alloc (.cells #[.pointer none] 77) = W0 := ⟨_, rfl⟩
  have hsz : W0.heap.size = W.heap.size + 2 := by rw [← hW0]; simp
  gi_wp2
  rw [hW0] at H
  try rw [hW0]
  have keep : ∀ {A : World} {L : List Asn}, St W No A L → (winA b w).at_ A := fun H => (winA b w).keep h H.touch (fun _ _ e => e)
  have low : ∀ {A : World} {cs : Array Value}, ∀ q, owns [blk W.heap.size #[.int .i64 seq] 3, blk (W.heap.size + 1) cs 77] q → ¬ Rec W0 q := by
    rintro A cs q (e | e | e) hr
    · have e : q = W.heap.size := e
      rcases hr with hr | hr <;> omega
    · have e : q = W.heap.size + 1 := e
      rcases hr with hr | hr <;> omega
    · exact e
  have high : ∀ q, Rec W0 q → W.heap.size ≤ q := by
    rintro q (hr | hr) <;> omega
  refine range_m (N := w.n) (enc := fun k => .pointer (some ⟨w.g, w.ix k * 6, none⟩)) rfl (enters_of Tryd.func32 (by kernel_rfl) rfl) (each_gives ho 3)
    (fun k A => (∀ j, j < k → (w.slot j).seq ≠ seq) ∧ St W No A [blk W.heap.size #[.int .i64 seq] 3, blk (W.heap.size + 1) #[.pointer none] 77])
    (fun c A => c = .ret ∧ ∃ k, w.find seq = some k ∧ St W No A [blk W.heap.size #[.int .i64 seq] 3, blk (W.heap.size + 1) #[.pointer (some ⟨w.g, w.ix k * 6, none⟩)] 77])
    (fun k A B hi ht => ⟨hi.1, St.rec_ hi.2 ht (low (A := A)) high⟩) (fun c A B hi ht => by
      obtain ⟨hc, k, hk, hi⟩ := hi
      exact ⟨hc, k, hk, St.rec_ hi ht (low (A := A)) high⟩)
    (fun k A hi => keep hi.2) ⟨fun j hj => by omega, H⟩
    (fun x => { tmps := #[.pointer (some ⟨b, 0, none⟩), .int .i64 seq, undef, .pointer (some ⟨W.heap.size, 0, none⟩), .pointer (some ⟨W.heap.size + 1, 0, none⟩), x, .pointer (some ⟨b, 0, none⟩), .func (.func 32) #[.pointer (some ⟨b, 0, none⟩)] #[], x, undef, undef, undef, undef, undef, undef, undef], defers := [] }) ?assign ?body ?done ?stop
  case assign =>
    intro l x A K hK
    gi_wp2
    exact hK
  case body =>
    rintro l k A hk ⟨hnot, H⟩ hsz2
    have hs1 := ho.s1
    have hn := ho.n
    have hg : Blk A w.g (rows Slot.cells w.ring) 76 := (win_open (keep H)).nth 1 rfl
    have c5 := slot_cell ho hg k (q := 5) (by omega) (x := .int .i64 (w.slot k).seq) rfl
    have cs := H.ld 0 (i := 0) rfl rfl
    have cr := H.ld 1 (i := 0) rfl rfl
    have fr := (H.blk 1 rfl).frozen 0
    have mo : Tryd.prog.follows .mixedOrders = true := by kernel_rfl
    cases hq : ((w.slot k).seq == seq)
    · gi_wp2
      gi_region_o
      all_goals gi_wp2
      all_goals exact ⟨fun _ _ => rfl, fun j hj => by
        by_cases e : j = k
        · subst e; simpa using hq
        · exact hnot j (by omega), H.drew⟩
    · gi_wp2
      gi_region_o
      all_goals gi_wp2
      all_goals exact ⟨two_set (by omega) _, rfl, k, find_of hk (by simpa using hq) hnot, H.drew.wr 1 rfl 0 _⟩
  case done =>
    rintro A ⟨hnot, H⟩ hD
    have cr := H.ld 1 (i := 0) rfl rfl
    have fr := (H.blk 1 rfl).frozen 0
    gi_wp2
    have hD' : (A.setCell ⟨W.heap.size + 1, 0, none⟩ (.pointer none)).heap[W0.heap.size]? = some (.deferred (some [])) := (Below.heap_setCell A ⟨W.heap.size + 1, 0, none⟩ (.pointer none) _ (by show W0.heap.size ≠ W.heap.size + 1; omega)).trans hD
    refine ⟨by simp, .inl ⟨_, _, rfl, run_takeDeferred hD', ?_⟩⟩
    have H2 := St.rec_ (H.wr 1 rfl 0 (.pointer none)) ((touch_putObj _ W0.heap.size (.deferred none)).mono fun q _ e => (show Rec W0 q from .inl e)) (low (A := A)) high
    have c2 := H2.ld 1 (i := 0) rfl rfl
    rw [find_none hnot]
    refine ⟨.pointer none, ?_, rfl, H2.touch⟩
    simp [results, Tryd.f44, go_sem, c2]
  case stop =>
    rintro c A ⟨rfl, k, hk, H⟩ hD
    have cr := H.ld 1 (i := 0) rfl rfl
    gi_wp2
    refine ⟨by simp, .inl ⟨_, _, rfl, run_takeDeferred hD, ?_⟩⟩
    have H2 := St.rec_ H ((touch_putObj _ W0.heap.size (.deferred none)).mono fun q _ e => (show Rec W0 q from .inl e)) (low (A := A)) high
    have c2 := H2.ld 1 (i := 0) rfl rfl
    rw [hk]
    refine ⟨.pointer (some ⟨w.g, w.ix k * 6, none⟩), ?_, rfl, H2.touch⟩
    simp [results, Tryd.f44, go_sem, c2]
end Go.Proofs.YtdliholhfiihcaaDoor
