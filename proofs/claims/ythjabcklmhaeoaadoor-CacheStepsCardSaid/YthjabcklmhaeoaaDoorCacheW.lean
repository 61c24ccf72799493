/- The law 'CacheSteps', walked. No condition but the handle of the type 'error'. -/
import Derived.Test.YthjabcklmhaeoaaDoorCacheB2
import Derived.Test.YthjabcklmhaeoaaDoorCacheLaw
import Derived.Test.YthjabcklmhaeoaaDoorTold
namespace Go.Proofs.YthjabcklmhaeoaaDoor
open Go.RowKit Go.XHeap Go.Sx Go.Sep
set_option linter.unusedVariables false
set_option maxRecDepth 100000

def No : Nat → Prop := fun _ => False
/-- the handle of the type 'error' -/
def HErr (w : World) : Prop := w.cell? ⟨0, 0, none⟩ = some (.iface 98 (.agg #[.pointer (some ⟨1, 25, none⟩)]))
theorem ltold (W : World) (hE : HErr W) (n : Nat) : Calls Tryd.prog 6 #[errV n, .int .i64 n] W fun e w => e = .returned (.bool true) ∧ Hush W w := by
  by_cases h : n = 0
  · subst h
    refine vc6 _ _ ((told_nil W).mono ?_)
    rintro e w ⟨rfl, rfl⟩
    exact ⟨0, rfl, rfl, XTouch.refl _ _⟩
  · have e : errV n = errN n := by unfold errV; rw [if_neg h]
    rw [e]
    refine vc6 _ _ ((told_err n W hE).mono ?_)
    rintro e w ⟨rfl, hh⟩
    exact ⟨n, rfl, by simp, hh⟩
def opC (k a b c : Int) : Array Value := #[.int .i64 k, .int .i64 a, .int .i64 b, .int .i64 c]
def Ops (W : World) (p : Option Addr) (n : Nat) : Prop := ∀ i, i < n → ∃ g off k a b c, p = some ⟨g, off, none⟩ ∧ g < W.heap.size ∧ cellsAt W ⟨g, off + i * 4, none⟩ (opC k a b c)
theorem op_one (k a b c : Int) : ∀ v ∈ (opC k a b c).toList, v.oneCell' = true := by
  intro v hv
  simp only [opC, List.mem_cons, List.not_mem_nil, or_false] at hv
  rcases hv with rfl | rfl | rfl | rfl <;> rfl
theorem u32n (z : Int) : ∃ a : Nat, IntKind.wrap .u32 z = a ∧ a < 4294967296 := by
  rw [w32m]
  exact ⟨(z % 4294967296).toNat, by omega, by omega⟩
/-- what stands in the loop: two caches that hold the same -/
def GI (W : World) (b b2 m : Nat) (w : World) : Prop := ∃ C R U, C.Ok ∧ C.clock ≤ m ∧ Rel C R U ∧ St W No w [cacheA b C, refcA b2 R]
theorem steps_ok {W : World} (h1 : 1 ≤ W.heap.size) (hE : HErr W) (a0 a1 : Int) (p : Option Addr) (n c : Nat) (hs : Ops W p n) :
    Calls Tryd.prog 3 #[.int .i64 a0, .int .i64 a1, .slice p n c] W fun e w => e = .returned (.bool true) ∧ Hush W w := by
  have EE : ∀ {w : World} {L : List Asn}, St W No w L → HErr w := fun H => (H.touch.cell (p := ⟨0, 0, none⟩) (by show 0 < W.heap.size; omega) (fun e => e)).trans hE
  refine vc3 a0 a1 p n c ?_
  rintro vs rfl
  have H := St.nil W
  by_cases hf : shapeOk a0 a1
  rotate_left
  · refine H.callq (cnew_bad W a0 a1 hf) fun w2 H => ⟨none, _, rfl, H.callq (rnew_bad w2 a0 a1 hf) fun w3 H => ⟨none, _, rfl, H.callq (ltold w3 (EE H) 2) fun w4 H => ⟨_, rfl, ?_⟩⟩⟩
    refine split_of (fun q => by cases q) (fun _ => split_of (fun q => by cases q) (fun _ => ⟨fun x _ w => Hush W w, fun _ _ _ => 0, H.touch, fun _ => ?_⟩))
    rintro x x2 w5 hw
    exact split_of (fun _ => split_of (fun _ => split_of (fun q => by cases q) (fun _ => ⟨rfl, hw⟩)) (fun _ => ⟨rfl, hw⟩)) (fun _ => ⟨rfl, hw⟩)
  have hf0 := hf
  obtain ⟨f1, f2, f3⟩ := hf0
  obtain ⟨S, rfl⟩ : ∃ k : Nat, a0 = k := ⟨a0.toNat, by omega⟩
  obtain ⟨N, rfl⟩ : ∃ k : Nat, a1 = k := ⟨a1.toNat, by omega⟩
  refine H.calln (cnew_good W S N hf) fun x w2 H => ⟨some ⟨x.1.1, 0, none⟩, _, rfl, ?_⟩
  obtain ⟨⟨b, C0⟩, hfr⟩ := x
  refine H.calln (rnew_good w2 S N hf) fun b2 w3 H => ⟨some ⟨b2, 0, none⟩, _, rfl, H.callq (ltold w3 (EE H) 0) fun w4 H => ⟨_, rfl, ?_⟩⟩
  have H : St W No w4 [cacheA b C0, refcA b2 (freshR S N)] := H
  refine split_of (fun q => by cases q) (fun _ => split_of (fun q => by cases q) (fun _ => ⟨fun x x2 w => ∃ m : Nat, x = m ∧ x2 = true ∧ m ≤ 4096 ∧ GI W b b2 m w, fun x _ _ => 4096 - x.toNat, ⟨0, rfl, rfl, by omega, C0, _, [], hfr.ok, by rw [hfr.clock]; exact Nat.le_refl _, rel_fresh hfr, H⟩, fun _ => ?_⟩))
  clear H
  rintro x x2 w5 ⟨m, rfl, rfl, hm, C, R, U, ho, hcl, hR, H⟩
  refine split_of (fun q1 => split_of (fun q2 => split_of (fun _ => ?_) (fun q => by cases q)) (fun _ => ⟨rfl, H.touch⟩)) (fun _ => ⟨rfl, H.touch⟩)
  have q1 := of_decide_eq_true q1
  have q2 := of_decide_eq_true q2
  obtain ⟨g, off, zk, za, zb, zc, hp, hg, hcells⟩ := hs m (by omega)
  have hcells5 : cellsAt w5 ⟨g, off + m * 4, none⟩ (opC zk za zb zc) := fun i v hi => by
    have := hcells i v hi
    rw [add_none] at this ⊢
    exact (H.touch.cell (p := ⟨g, off + m * 4 + i, none⟩) hg (fun e => e)).trans this
  have hc : C.clock + 1 < 4611686018427387904 := by omega
  refine ⟨⟨by omega, q1⟩, adr_eq hp ⟨opC zk za zb zc, rfl, ?_, H.al fun k w6 H => H.sts0 2 rfl rfl rfl (op_one _ _ _ _) fun w7 H => ⟨za, H.ld 2 rfl rfl, ?_⟩⟩⟩
  · rw [Int.toNat_natCast]; exact hcells5
  have H : St W No w7 [cacheA b C, refcA b2 R, blk k (opC zk za zb zc) 35] := H
  clear hcells5
  obtain ⟨a, ea, ha⟩ := u32n za
  rintro z3 rfl z4 rfl
  rw [ea, Bits.n64 (by omega)]
  have roks : R.Ok := hR.ok ho
  refine ⟨fun t w => t = true ∧ GI W b b2 (m + 1) w, ⟨zk, H.ld 2 rfl rfl, ?_⟩, fun _ => ?_⟩
  rotate_left
  · rintro t w8 ⟨rfl, hG⟩
    refine split_of (fun q => by cases q) (fun _ => ?_)
    rintro z rfl
    rw [w64 (by omega) (by omega)]
    exact ⟨⟨m + 1, by omega, rfl, by omega, hG⟩, by show 4096 - ((m : Int) + 1).toNat < 4096 - (m : Int).toNat; omega⟩
  refine split_of (fun _ => ?_) (fun _ => split_of (fun _ => ?_) (fun _ => split_of (fun _ => ?_) (fun _ => split_of (fun _ => ?_) (fun _ => split_of (fun _ => ?_) (fun _ => ?_)))))
  · -- State
    refine H.callq (state_any ho (H.nth 0 rfl) a ha) fun w8 H => ⟨_, rfl, H.callp (rstate_any roks (H.nth 1 rfl) a ha) ⟨_, rfl, ?_, C, R, U, ho, by omega, hR, H.take 2⟩⟩
    have : C.stateAt a = R.stateAt a := by
      unfold RC.stateAt
      rcases hR.find ho a with ⟨j, k, y, h1, h2, h3, h4, h5, h6, -, h7⟩ | ⟨h1, h2⟩
      · rw [h3, h7]
        show _ = (R.lineAt k).state
        rw [h5]; rfl
      · rw [h2]
        unfold CS.stateAt
        rw [h1]
    rw [this]
    simp
  · -- Read
    refine ⟨zb, H.ld 2 rfl rfl, (read_any ho hc (H.nth 0 rfl) a ha zb).mono ?_⟩
    intro e w8 hpp
    obtain ⟨v, t, C', rfl, hn, hP, hq⟩ := read_both hR ho hc hpp
    have H := H.upd 0 rfl hP
    refine ⟨_, _, rfl, zb, H.ld 2 rfl rfl, (rread_any roks (H.nth 1 rfl) a ha zb).mono ?_⟩
    intro e w9 hpp
    obtain ⟨rfl, R', U', hR', hP'⟩ := hq hpp
    have H := H.upd 1 rfl hP'
    exact ⟨_, _, rfl, split_of (fun _ => ⟨by simp, C', R', U', hn.1, Nat.le_trans hn.2 (by omega), hR', H.take 2⟩) (fun q => by simp at q)⟩
  · -- Write
    obtain ⟨d, ed, hd⟩ := u32n zc
    refine ⟨zb, H.ld 2 rfl rfl, zc, H.ld 2 rfl rfl, ?_⟩
    rintro z14 rfl
    rw [ed]
    refine (write_any ho hc (H.nth 0 rfl) a ha zb d hd).mono ?_
    intro e w8 hpp
    obtain ⟨t, C', rfl, hn, hP, hq⟩ := write_both hR ho hc hpp
    have H := H.upd 0 rfl hP
    refine ⟨_, rfl, zb, H.ld 2 rfl rfl, zc, H.ld 2 rfl rfl, ?_⟩
    rintro z17 rfl
    rw [ed]
    refine (rwrite_any roks (H.nth 1 rfl) a ha zb d hd).mono ?_
    intro e w9 hpp
    obtain ⟨rfl, R', U', hR', hP'⟩ := hq hpp
    have H := H.upd 1 rfl hP'
    exact ⟨_, rfl, by simp, C', R', U', hn.1, Nat.le_trans hn.2 (by omega), hR', H.take 2⟩
  · -- Fill
    have hb16 := madeB_len zb
    have hb2 := madeB_lt zb
    refine ⟨fun v l left w => ∃ (ln st : Nat) (gb : List Nat) (en : Nat) (C' : CS) (kl : Nat), v = errV en ∧ l = some ⟨kl, 0, none⟩ ∧ left = decide (st ≠ 0) ∧ (ln < 4294967296 ∧ gb.length = 16) ∧ Next C C' ∧
      (∀ {W2 b2 e2 w2}, RFillPost W2 b2 R a (madeB zb) zc e2 w2 → e2 = .returned (.tuple #[.agg (RLine.mk ln st gb).cells.toArray, .int .i64 en]) ∧ ∃ R' U', Rel C' R' U' ∧ Sep.Post (refcA b2 R) W2 (refcA b2 R') w2) ∧
      St W No w [cacheA b C', refcA b2 R, blk k (opC zk za zb zc) 35, blk kl (lineC ln st gb).toArray 47], H.dr fun w14 H => ⟨zb, H.ld 2 rfl rfl, zc, H.ld 2 rfl rfl, ?_, ?_⟩, fun _ => ?_⟩
    · refine (made_any w14 zb).mono ?_
      rintro e w15 ⟨rfl, hh⟩
      have H := H.quiet hh
      refine ⟨_, rfl, hh.below (Nat.le_refl _) (fun k e => e.elim), ?_, ?_⟩
      · refine (fill_any ho hc (H.nth 0 rfl) a ha (madeB zb) hb16 hb2 zc).mono ?_
        intro e w16 hpp
        obtain ⟨ln, st, gb, en, C', rfl, hl, hn, hP, hq⟩ := fill_both hR ho hc ha hb16 hb2 hpp
        have H := H.upd 0 rfl hP
        have hs18 : (lineC ln st gb).toArray.size = 18 := by simp [lineC, u8n_len, hl.2]
        exact ⟨_, _, _, rfl, H.al fun kl w17 H => H.sts0 3 rfl hs18 rfl (line_one _ _ _) fun w18 H => ⟨ln, st, gb, en, C', kl, rfl, rfl, rfl, hl, hn, hq, H⟩⟩
      · refine H.alb fun kl w19 H _ hb => ⟨(hh.below (Nat.le_refl _) (fun k e => e.elim)).trans (hb.mono hh.size), ?_⟩
        refine (fill_any ho hc (H.nth 0 rfl) a ha (madeB zb) hb16 hb2 zc).mono ?_
        intro e w16 hpp
        obtain ⟨ln, st, gb, en, C', rfl, hl, hn, hP, hq⟩ := fill_both hR ho hc ha hb16 hb2 hpp
        have H := H.upd 0 rfl hP
        have hs18 : (lineC ln st gb).toArray.size = 18 := by simp [lineC, u8n_len, hl.2]
        exact ⟨_, _, _, rfl, H.sts0 3 rfl hs18 rfl (line_one _ _ _) fun w18 H => ⟨ln, st, gb, en, C', kl, rfl, rfl, rfl, hl, hn, hq, H⟩⟩
    · refine H.alb fun kl w22 H _ hb => ⟨hb, (made_any w22 zb).mono ?_⟩
      rintro e w15 ⟨rfl, hh⟩
      have H := H.quiet hh
      refine ⟨_, rfl, hb.trans (hh.below hb.size (fun k e => e.elim)), ?_⟩
      refine (fill_any ho hc (H.nth 0 rfl) a ha (madeB zb) hb16 hb2 zc).mono ?_
      intro e w16 hpp
      obtain ⟨ln, st, gb, en, C', rfl, hl, hn, hP, hq⟩ := fill_both hR ho hc ha hb16 hb2 hpp
      have H := H.upd 0 rfl hP
      have hs18 : (lineC ln st gb).toArray.size = 18 := by simp [lineC, u8n_len, hl.2]
      exact ⟨_, _, _, rfl, H.sts0 3 rfl hs18 rfl (line_one _ _ _) fun w18 H => ⟨ln, st, gb, en, C', kl, rfl, rfl, rfl, hl, hn, hq, H⟩⟩
    · clear H
      rintro v l left w26 ⟨ln, st, gb, en, C', kl, rfl, rfl, rfl, hl, hn, hq, H⟩
      have hs18 : (lineC ln st gb).toArray.size = 18 := by simp [lineC, u8n_len, hl.2]
      have hr18 : (RLine.mk ln st gb).cells.toArray.size = 18 := by simp [RLine.cells, u8n_len, hl.2]
      refine ⟨fun z l w => ∃ (R' : RC) (U' : List Way) (k2 : Nat), z = en ∧ l = some ⟨k2, 0, none⟩ ∧ Rel C' R' U' ∧ St W No w [cacheA b C', refcA b2 R', blk k (opC zk za zb zc) 35, blk kl (lineC ln st gb).toArray 47, blk k2 (RLine.mk ln st gb).cells.toArray 52], H.dr fun w14 H => ⟨zb, H.ld 2 rfl rfl, zc, H.ld 2 rfl rfl, ?_, ?_⟩, fun _ => ?_⟩
      · refine (made_any w14 zb).mono ?_
        rintro e w15 ⟨rfl, hh⟩
        have H := H.quiet hh
        refine ⟨_, rfl, hh.below (Nat.le_refl _) (fun k e => e.elim), ?_, ?_⟩
        · refine (rfill_any roks (H.nth 1 rfl) a ha (madeB zb) hb16 zc).mono ?_
          intro e w16 hpp
          obtain ⟨rfl, R', U', hR', hP'⟩ := hq hpp
          have H := H.upd 1 rfl hP'
          exact ⟨_, _, rfl, H.al fun k2 w17 H => H.sts0 4 rfl hr18 rfl (rline_one _) fun w18 H => ⟨R', U', k2, rfl, rfl, hR', H⟩⟩
        · refine H.alb fun k2 w19 H _ hb => ⟨(hh.below (Nat.le_refl _) (fun k e => e.elim)).trans (hb.mono hh.size), ?_⟩
          refine (rfill_any roks (H.nth 1 rfl) a ha (madeB zb) hb16 zc).mono ?_
          intro e w16 hpp
          obtain ⟨rfl, R', U', hR', hP'⟩ := hq hpp
          have H := H.upd 1 rfl hP'
          exact ⟨_, _, rfl, H.sts0 4 rfl hr18 rfl (rline_one _) fun w18 H => ⟨R', U', k2, rfl, rfl, hR', H⟩⟩
      · refine H.alb fun k2 w22 H _ hb => ⟨hb, (made_any w22 zb).mono ?_⟩
        rintro e w15 ⟨rfl, hh⟩
        have H := H.quiet hh
        refine ⟨_, rfl, hb.trans (hh.below hb.size (fun k e => e.elim)), ?_⟩
        refine (rfill_any roks (H.nth 1 rfl) a ha (madeB zb) hb16 zc).mono ?_
        intro e w16 hpp
        obtain ⟨rfl, R', U', hR', hP'⟩ := hq hpp
        have H := H.upd 1 rfl hP'
        exact ⟨_, _, rfl, H.sts0 4 rfl hr18 rfl (rline_one _) fun w18 H => ⟨R', U', k2, rfl, rfl, hR', H⟩⟩
      · clear H
        rintro z l w39 ⟨R', U', k2, rfl, rfl, hR', H⟩
        refine H.callq (ltold w39 (EE H) en) fun w40 H => ⟨_, rfl, ptr_some ⟨_, hs18, H.cells 3 rfl, ptr_some ⟨_, hr18, H.cells 4 rfl, H.callq (line_same w40 ln st gb hl.1 hl.2) fun w41 H => ⟨_, rfl, ?_⟩⟩⟩⟩
        refine split_of (fun _ => split_of (fun _ => ptr_some ⟨st, ?_, ?_, C', R', U', hn.1, Nat.le_trans hn.2 (by omega), hR', H.take 2⟩) (fun q => by cases q)) (fun q => by cases q)
        · rw [add_none]; exact H.ld 4 rfl rfl
        · have : ((st : Int) != 0) = decide (st ≠ 0) := by
            rw [Bool.eq_iff_iff]; simp
          rw [this]
          simp
  · -- Lower
    refine ⟨zc, H.ld 2 rfl rfl, (lower_any ho (H.nth 0 rfl) a ha zc).mono ?_⟩
    intro e w8 hpp
    obtain ⟨ln, st, gb, en, C', rfl, hl, hn, hP, hq⟩ := lower_both hR ho hpp
    have H := H.upd 0 rfl hP
    have hs18 : (lineC ln st gb).toArray.size = 18 := by simp [lineC, u8n_len, hl.2]
    have hr18 : (RLine.mk ln st gb).cells.toArray.size = 18 := by simp [RLine.cells, u8n_len, hl.2]
    refine ⟨_, _, rfl, H.al fun kl w17 H => H.sts0 3 rfl hs18 rfl (line_one _ _ _) fun w18 H => ⟨zc, H.ld 2 rfl rfl, (rlower_any roks (H.nth 1 rfl) a ha zc).mono ?_⟩⟩
    intro e w19 hpp
    obtain ⟨rfl, R', U', hR', hP'⟩ := hq hpp
    have H := H.upd 1 rfl hP'
    exact ⟨_, _, rfl, H.al fun k2 w20 H => H.sts0 4 rfl hr18 rfl (rline_one _) fun w21 H => H.callq (ltold w21 (EE H) en) fun w22 H => ⟨_, rfl, _, hs18, H.cells 3 rfl, _, hr18, H.cells 4 rfl, H.callq (line_same w22 ln st gb hl.1 hl.2) fun w23 H => ⟨_, rfl, split_of (fun _ => ⟨rfl, C', R', U', hn.1, Nat.le_trans hn.2 (by omega), hR', H.take 2⟩) (fun q => by cases q)⟩⟩⟩
  · -- nothing
    exact ⟨rfl, C, R, U, ho, by omega, hR, H.take 2⟩
end Go.Proofs.YthjabcklmhaeoaaDoor
