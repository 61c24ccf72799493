/- The window, part D: Ready. No condition. -/
import Derived.Test.YtdliholhfiihcaaDoorWinC
namespace Go.Proofs.YtdliholhfiihcaaDoor
open Go.RowKit Go.XHeap Go.Sx Go.Sep Go.RangeM Go.Shelf
attribute [local go_sem] Oper.semAt_some
set_option linter.unusedVariables false
set_option maxRecDepth 100000
variable {W w' : World} {b : Nat} {w v : WS}

set_option maxHeartbeats 4000000 in
theorem ready_any (ho : w.Ok) (h : (winA b w).at_ W) (hr : ∀ k, k < w.n → (w.slot k).regs w.R) (c most : Int) :
    Calls Tryd.prog 9 #[.pointer (some ⟨b, 0, none⟩), .int .i64 c, .int .i64 most] W fun e w2 => ∃ z : Option Addr × Nat, e = .returned (.slice z.1 (w.readyL c most).length z.2) ∧ Sep.Post emp W (sl 3 1 (.slice z.1 (w.readyL c most).length z.2) (w.readyL c most).length (intsV (w.readyL c most))) w2 := by
  refine (callsIn_wide (n := 3)).1 ?_
  refine callsIn_of_wp_marks Tryd.func9 rfl trivial ?_ rfl
  simp only [Tryd.ntmps9, List.size_toArray, List.length_cons, List.length_nil, Nat.reduceAdd, Nat.reduceSub, Array.replicate_succ, Array.replicate_zero, List.push_toArray, List.append_toArray, List.nil_append, List.cons_append]
  obtain ⟨W0, hW0⟩ : ∃ W0, (((W.alloc (.cells #[.pointer (some ⟨b, 0, none⟩)] 24)).alloc (.cells #[.int .i64 c] 30)).alloc (.cells #[.int .i64 most] 3)).alloc (.cells #[.slice none 0 0] 29) = W0 := ⟨_, rfl⟩
  have H : St W No W0 (readyB W b c most none 0 []) := by
    have := ((((St.nil W).alloc #[.pointer (some ⟨b, 0, none⟩)] 24).alloc #[.int .i64 c] 30).alloc #[.int .i64 most] 3).alloc #[.slice none 0 0] 29
    simp only [World.size_alloc] at this
    rw [hW0] at this
    exact this.add (A := sl 3 1 (.slice none 0 0) 0 []) ⟨Sl.nil _ _ _, XTouch.refl _ _, fun q hq => by cases hq⟩
  have hsz : W0.heap.size = W.heap.size + 4 := by rw [← hW0]; simp
  have c0 := H.ld 0 (i := 0) rfl rfl
  gi_wp2
  try rw [hW0]
  have keep : ∀ {A : World} {L : List Asn}, St W No A L → (winA b w).at_ A := fun H => (winA b w).keep h H.touch (fun _ _ e => e)
  have high : ∀ q, Rec W0 q → W.heap.size ≤ q := by
    rintro q (hr | hr) <;> omega
  have hI : ∀ (l : List Int) A B, ReadyI W b c most l A → XTouch (Rec W0) A B → ReadyI W b c most l B := by
    rintro l A B ⟨p, d, H, hown⟩ ht
    exact ⟨p, d, St.rec_ H ht (ready_low hsz hown) high, hown⟩
  refine range_m (N := w.n) (enc := fun k => .pointer (some ⟨w.g, w.ix k * 6, none⟩)) rfl (enters_of Tryd.func32 (by kernel_rfl) rfl) (each_gives ho 3)
    (RI W w b c most) (RX W w b c most)
    (fun k A B hi ht => ⟨hi.1, hi.2.1, hI _ A B hi.2.2 ht⟩) (fun j A B hi ht => ⟨hi.1, hI _ A B hi.2 ht⟩)
    (fun k A hi => by
      obtain ⟨-, -, p, d, h3, -⟩ := hi
      exact keep h3) ⟨Nat.zero_le _, by rw [rdy_zero]; exact Nat.zero_le _, none, 0, H, fun q hq => by cases hq⟩
    (fun x => { tmps := #[.pointer (some ⟨b, 0, none⟩), .int .i64 c, .int .i64 most, .pointer (some ⟨W.heap.size, 0, none⟩), .pointer (some ⟨W.heap.size + 1, 0, none⟩), .pointer (some ⟨W.heap.size + 2, 0, none⟩), .pointer (some ⟨W.heap.size + 3, 0, none⟩), x, .pointer (some ⟨b, 0, none⟩), .func (.func 32) #[.pointer (some ⟨b, 0, none⟩)] #[], x, undef, undef, undef, undef, undef, undef, undef, undef, undef, undef, undef, undef, undef, undef, undef, undef, undef, undef, undef, undef, undef, undef, undef, undef], defers := [] }) ?assign ?body ?done ?stop
  case assign =>
    intro l x A K hK
    gi_wp2
    exact hK
  case body =>
    rintro l k A hk hi hs2
    exact ready_round ho h hr c most hsz hk hi hs2 rfl rfl rfl rfl rfl rfl rfl
  case done =>
    rintro A ⟨-, hlen, p, d, H, hown⟩ hD
    rw [← readyL_all hlen] at H hown
    have cr := H.ld 3 (i := 0) rfl rfl
    have fr := (H.blk 3 rfl).frozen 0
    gi_wp2
    have hD' : (A.setCell ⟨W.heap.size + 1 + 1 + 1, 0, none⟩ (.slice p (w.readyL c most).length d)).heap[W0.heap.size]? = some (.deferred (some [])) := (Below.heap_setCell A ⟨W.heap.size + 3, 0, none⟩ (.slice p (w.readyL c most).length d) _ (by show W0.heap.size ≠ W.heap.size + 3; omega)).trans hD
    refine ⟨by simp, .inl ⟨_, _, rfl, run_takeDeferred hD', ?_⟩⟩
    have H2 : St W No _ (readyB W b c most p d (w.readyL c most)) := St.rec_ (H.wr 3 rfl 0 (.slice p (w.readyL c most).length d)) ((touch_putObj _ W0.heap.size (.deferred none)).mono fun q _ e => (show Rec W0 q from .inl e)) (ready_low (b := b) (c := c) (most := most) hsz hown) high
    have c2 := H2.ld 3 (i := 0) rfl rfl
    refine ⟨.slice p (w.readyL c most).length d, ?_, (p, d), rfl, H2.new 4 rfl⟩
    simp [results, Tryd.f9, go_sem, c2]
  case stop =>
    rintro j A ⟨rfl, p, d, H, hown⟩ hD
    have cr := H.ld 3 (i := 0) rfl rfl
    have fr := (H.blk 3 rfl).frozen 0
    gi_wp2
    have hD' : (A.setCell ⟨W.heap.size + 1 + 1 + 1, 0, none⟩ (.slice p (w.readyL c most).length d)).heap[W0.heap.size]? = some (.deferred (some [])) := (Below.heap_setCell A ⟨W.heap.size + 3, 0, none⟩ (.slice p (w.readyL c most).length d) _ (by show W0.heap.size ≠ W.heap.size + 3; omega)).trans hD
    refine ⟨by simp, .inl ⟨_, _, rfl, run_takeDeferred hD', ?_⟩⟩
    have H2 : St W No _ (readyB W b c most p d (w.readyL c most)) := St.rec_ (H.wr 3 rfl 0 (.slice p (w.readyL c most).length d)) ((touch_putObj _ W0.heap.size (.deferred none)).mono fun q _ e => (show Rec W0 q from .inl e)) (ready_low (b := b) (c := c) (most := most) hsz hown) high
    have c2 := H2.ld 3 (i := 0) rfl rfl
    refine ⟨.slice p (w.readyL c most).length d, ?_, (p, d), rfl, H2.new 4 rfl⟩
    simp [results, Tryd.f9, go_sem, c2]
end Go.Proofs.YtdliholhfiihcaaDoor
