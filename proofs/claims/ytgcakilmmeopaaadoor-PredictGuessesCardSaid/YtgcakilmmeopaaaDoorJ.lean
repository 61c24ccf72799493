/- Part J of the proofs over 'predict': the law 'PredictReturns'. No condition but the tables. -/
import Derived.Test.YtgcakilmmeopaaaDoorI
namespace Go.Proofs.YtgcakilmmeopaaaDoor
open Go.RowKit Go.XHeap Go.Sx
set_option linter.unusedVariables false
set_option maxRecDepth 100000

theorem adr_some {g o : Nat} {f : Nat → Nat → Prop} (h : f g o) : Sx.adr (some ⟨g, o, none⟩) f := h
theorem nil_true {f : Bool → Prop} (h : f true) : Sx.isNil .nilIface f := h
theorem LW.alloc_ {W w : World} {b kc kb kp : Nat} {l : List Int} {S : PS} (h : LW W w b kc kb kp l S) (o : Obj) : LW W (w.alloc o) b kc kb kp l S := h.keep ((XTouch.refl (fun _ => False) w).alloc o) (fun _ e => e.elim)
theorem LW.keep2 {W w w' : World} {b kc kb kp : Nat} {l : List Int} {S : PS} {T : Nat → Prop} (h : LW W w b kc kb kp l S) (ht : XTouch T w w') (hn : ∀ q, T q → W.heap.size ≤ q ∧ ¬ S.own b q ∧ q ≠ kc ∧ q ≠ kb ∧ q ≠ kp) : LW W w' b kc kb kp l S := by
  have h3 := h.three
  refine ⟨h.pred.keep ht (fun q hq e => (hn q e).2.1 hq), h.tab.keep ht (fun e => ?_) (fun e => ?_), h.call.keep ht (fun e => (hn _ e).2.2.1 rfl), h.back.keep ht (fun e => (hn _ e).2.2.2.1 rfl), h.at_.keep ht (fun e => (hn _ e).2.2.2.2 rfl), h.touch.trans ht (fun q hq e => ?_), h.own, h3⟩
  · have := (hn _ e).1; omega
  · have := (hn _ e).1; omega
  · have := (hn _ e).1; omega
def zero5 : Array Value := #[.int .i64 0, .int .i64 0, .int .i64 0, .int .i64 0, .int .i64 0]
theorem in_one (i : In) : ∀ v ∈ i.cells.toList, v.oneCell' = true := by
  intro v hv
  simp only [In.cells, List.mem_cons, List.not_mem_nil, or_false] at hv
  rcases hv with rfl | rfl | rfl | rfl | rfl <;> rfl
theorem ret_ok {W : World} (hT : Tab W) (h3 : 3 ≤ W.heap.size) (a0 a1 : Int) (b0 : -9223372036854775808 ≤ a0) (b1 : -9223372036854775808 ≤ a1) (a2 : Option Addr) (a2n a2c : Nat) (hp : Pcs W a2 a2n) :
    Calls Tryd.prog 3 #[.int .i64 a0, .int .i64 a1, .slice a2 a2n a2c] W fun e w => e = .returned (.bool true) ∧ XTouch (fun _ => False) W w := by
  refine vc3 a0 a1 a2 a2n a2c ((pick_any W a0 16 b0 (by decide)).mono ?_)
  rintro e w2 ⟨rfl, rfl⟩
  have hk := pk_bound a0 16 (by decide)
  obtain ⟨r, hr, hr1, hr16⟩ : ∃ r : Nat, 1 + pk a0 16 = r ∧ 1 ≤ r ∧ r ≤ 16 := ⟨(1 + pk a0 16).toNat, by omega, by omega, by omega⟩
  refine ⟨_, rfl, ?_⟩
  rintro z2 rfl
  rw [w64 (by omega) (by omega), hr]
  rintro vs rfl
  refine (new_ret _ r hr1 hr16).mono ?_
  rintro e w3 ⟨b, S, rfl, hS, hd, hst, hma, hhi, hto, ht3, hown⟩
  refine ⟨_, _, rfl, nil_true ?_⟩
  refine split_of (fun q => by cases q) (fun _ => ?_)
  refine split_of (fun q => by cases q) (fun _ => ?_)
  rintro z3 rfl
  rw [w64 (by omega) (by omega)]
  refine (pick_any _ a1 ((r : Int) + 1) b1 (by omega)).mono ?_
  rintro e w4 ⟨rfl, rfl⟩
  have hk2 := pk_bound a1 ((r : Int) + 1) (by omega)
  obtain ⟨n, hn, hnr⟩ : ∃ n : Nat, pk a1 ((r : Int) + 1) = n ∧ n ≤ r := ⟨(pk a1 ((r : Int) + 1)).toNat, by omega, by omega⟩
  rw [hn]
  refine ⟨_, rfl, ?_⟩
  rintro vs2 rfl k w5 hk5 hw5
  have hb5 : Blk w5 k zero5 33 := by rw [hw5, hk5]; exact Blk.new w4 _ _
  have ht5 : XTouch (fun _ => False) w4 w5 := by rw [hw5]; exact (XTouch.refl _ w4).alloc _
  have hs5 : w5.heap.size = w4.heap.size + 1 := by rw [hw5, World.size_alloc]
  clear hw5
  refine out_cell callI.cells hb5 rfl rfl (in_one callI) ?_
  intro w6 hb6 ht6
  rintro vs3 rfl k3 w7 hk7 hw7
  have hb7 : Blk w7 k3 zero5 33 := by rw [hw7, hk7]; exact Blk.new w6 _ _
  have ht7 : XTouch (fun _ => False) w6 w7 := by rw [hw7]; exact (XTouch.refl _ w6).alloc _
  clear hw7
  refine out_cell backI.cells hb7 rfl rfl (in_one backI) ?_
  intro w8 hb8 ht8
  have hs6 := ht6.size
  have c6 : k < w6.heap.size := hb6.lt
  have hX8 : XTouch (fun _ => False) w4 w8 := ((ht5.trans ht6 (fun q hq e => by omega)).trans ht7 (fun _ _ e => e)).trans ht8 (fun q hq e => by omega)
  have hc8 : Blk w8 k callI.cells 33 := (hb6.keep ht7 (fun e => e)).keep ht8 (by omega)
  have hs3 := ht3.size
  have hXW : XTouch (fun _ => False) w2 w8 := ht3.trans hX8 (fun _ _ e => e)
  refine (places_any a2 a2n a2c (fun i hi => ?_)).mono ?_
  · obtain ⟨g, o, e1, e2, x, e3⟩ := hp i hi
    exact ⟨g, o, e1, Nat.lt_of_lt_of_le e2 hXW.size, x, (hXW.cell (p := ⟨g, o + i, none⟩) e2 (fun e => e)).trans e3⟩
  rintro e w9 ⟨kp, l, rfl, hb9, hl, hkp, ht9⟩
  have hX9 : XTouch (fun _ => False) w4 w9 := hX8.trans ht9 (fun _ _ e => e)
  have hLW : LW w2 w9 b k k3 kp l S := by
    refine ⟨hS.keep hX9 (fun _ _ e => e), hT.keep (hXW.trans ht9 (fun _ _ e => e)) (fun e => e) (fun e => e), hc8.keep ht9 (fun e => e), hb8.keep ht9 (fun e => e), hb9, hXW.trans ht9 (fun _ _ e => e), fun q hq => ?_, h3⟩
    have h1 := hown q hq
    have h2 := hS.lt q hq
    have h4 := hX8.size
    exact ⟨h1, by omega, by omega, by omega⟩
  have hRI : RI S l r 0 := ⟨hd, hma, hhi, by rw [hst, List.length_replicate], by rw [hto, Nat.zero_mod], fun j hj => absurd hj (by omega)⟩
  refine ⟨_, _, _, rfl, ?_⟩
  clear hX9 hX8 hXW hc8 hb8 ht8 hb7 ht7 hb6 ht6 hb5 ht5 hS ht3
  have cellAt : ∀ {w : World} {S : PS}, LW w2 w b k k3 kp l S → ∀ m : Nat, m < 16 → w.cell? ⟨kp, 0 + ((m : Nat) : Int).toNat * 1, none⟩ = some (.int .u32 (l.getD m 0)) := by
    intro w S h m hm
    rw [show 0 + ((m : Nat) : Int).toNat * 1 = m by omega]
    refine h.at_.cell' ?_
    rw [List.getElem?_toArray, List.getD_eq_getElem?_getD]
    simp [u32s, List.getElem?_eq_getElem (show m < l.length by omega)]
  refine ⟨fun x w => ∃ m : Nat, x = m ∧ m ≤ n ∧ ∃ S, LW w2 w b k k3 kp l S ∧ RI S l r m, fun x _ => n - x.toNat, ⟨0, rfl, by omega, S, hLW, hRI⟩, fun _ => ?_⟩
  clear hLW hRI hd hst hma hhi hto hown
  rintro x w10 ⟨m, rfl, hm, S, hLW, hRI⟩
  refine split_of (fun q => ?_) (fun q => ?_)
  · have q := of_decide_eq_true q
    have hcl := hRI.call (l := l) (show m < r by omega)
    refine ⟨fun z w => z = IntKind.wrap .u32 (l.getD m 0 + 400) ∧ LW w2 w b k k3 kp l (S.on (l.getD m 0) callI false), ?_, fun _ => ?_⟩
    · rintro w11 rfl
      refine ⟨⟨by omega, by omega⟩, adr_some ⟨l.getD m 0, cellAt hLW.drew m (by omega), callI.cells, rfl, cellsAt_self hLW.drew.call, ?_, ?_⟩⟩
      · refine (hLW.drew.guess hRI.dir _ callI (by decide) (by decide) (by decide)).mono ?_
        rintro e w12 ⟨rfl, hL12, -⟩
        rw [next_call]
        refine ⟨_, _, rfl, ?_⟩
        rintro k9 w13 rfl rfl
        refine out_cell S.mark (Blk.new w12 zeroM 37) rfl rfl (mark_one S) ?_
        intro w14 hb14 ht14
        exact ⟨rfl, hL12.keep (T := fun q => q = w12.heap.size) ((((XTouch.refl (fun _ => False) w12).alloc _).mono (fun _ _ e => e.elim)).trans ht14 (fun _ _ e => e)) (by omega)⟩
      · rintro k11 w15 rfl rfl
        have hTa : XTouch (fun _ => False) w10.drew (w10.drew.alloc (.cells zeroM 37)) := (XTouch.refl _ _).alloc _
        refine ⟨hTa.below (Nat.le_refl _) (fun _ e => e.elim), ?_⟩
        have hLa := hLW.drew.alloc_ (.cells zeroM 37)
        have hba := Blk.new w10.drew zeroM 37
        refine (hLa.guess hRI.dir _ callI (by decide) (by decide) (by decide)).mono ?_
        rintro e w16 ⟨rfl, hL16, ht16⟩
        rw [next_call]
        refine ⟨_, _, rfl, ?_⟩
        have hnot : ¬ S.own b w10.drew.heap.size := fun e => by
          have := hLW.drew.pred.lt _ e
          omega
        refine out_cell S.mark (hba.keep ht16 hnot) rfl rfl (mark_one S) ?_
        intro w17 hb17 ht17
        refine ⟨rfl, hL16.keep2 ht17 ?_⟩
        rintro q rfl
        have e1 := hLW.touch.size
        have e2 := hLW.call.lt
        have e3 := hLW.back.lt
        have e4 := hLW.at_.lt
        have e5 : w10.drew.heap.size = w10.heap.size := rfl
        exact ⟨by omega, fun e => hnot ((own_on S _ callI false b _).1 e), by omega, by omega, by omega⟩
    · rintro x2 w18 ⟨rfl, hL18⟩
      refine ⟨⟨by omega, by omega⟩, adr_some ⟨l.getD m 0, cellAt hL18 m (by omega), ?_⟩⟩
      rintro z9 rfl
      refine split_of (fun q => by simp at q) (fun _ => ?_)
      refine ⟨⟨by omega, by omega⟩, adr_some ⟨l.getD m 0, cellAt hL18 m (by omega), ?_⟩⟩
      rintro z11 rfl vs7 rfl
      refine (hL18.guess hcl.dir _ beqI (by decide) (by decide) (by decide)).mono ?_
      generalize S.on (l.getD m 0) callI false = S1 at hL18 hcl
      rintro e w19 ⟨rfl, hL19, -⟩
      refine ⟨_, _, rfl, ?_⟩
      rintro k17 w20 rfl rfl
      refine out_cell S1.mark (Blk.new w19 zeroM 37) rfl rfl (mark_one S1) ?_
      intro w21 hb21 ht21
      have hL21 : LW w2 w21 b k k3 kp l (S1.on (IntKind.wrap .u32 (l.getD m 0 + 400)) beqI false) := hL19.keep (T := fun q => q = w19.heap.size) ((((XTouch.refl (fun _ => False) w19).alloc _).mono (fun _ _ e => e.elim)).trans ht21 (fun _ _ e => e)) (by omega)
      rintro w22 rfl
      refine ⟨⟨by omega, by omega⟩, adr_some ⟨l.getD m 0, cellAt hL21.drew m (by omega), ?_⟩⟩
      rintro z14 rfl
      have hR2 := hcl.beq (IntKind.wrap .u32 (l.getD m 0 + 400)) false
      have hlt1 : S1.top < S1.stack.length := hL18.pred.tlt
      have hnot : ∀ {S' : PS}, (∀ q, S'.own b q ↔ S1.own b q) → ¬ S'.own b w19.heap.size := fun hq e => by
        have := hL19.pred.lt _ ((own_on S1 _ beqI false b _).2 ((hq _).1 e))
        omega
      have hr1 : S1.stack.length = r := hcl.len
      refine ⟨backI.cells, rfl, cellsAt_self hL21.drew.back, (hL21.drew.guess hR2.dir _ backI (by decide) (by decide) (by decide)).mono ?_⟩
      rintro e w23 ⟨rfl, hL23, ht23⟩
      have hm23 := hb21.drew.keep ht23 (hnot (fun q => own_on S1 _ beqI false b q))
      refine ⟨_, _, rfl, fun w => ∃ S4, LW w2 w b k k3 kp l S4 ∧ Blk w w19.heap.size S1.mark 37 ∧ S4.dir = S1.dir ∧ S4.mask = S1.mask ∧ S4.stack.length = r ∧ (∀ i, i ≠ S1.top → S4.stack[i]? = S1.stack[i]?), ⟨by decide, ?_⟩, fun _ => ?_⟩
      · have p3 : ∃ S3 : PS, S3 = (S1.on (IntKind.wrap .u32 (l.getD m 0 + 400)) beqI false).on (IntKind.wrap .u32 (l.getD m 0 + 404)) backI false ∧ S3.dir = S1.dir ∧ S3.mask = S1.mask ∧ S3.stack = S1.stack ∧ S3.top = (S1.top + S1.stack.length - 1) % S1.stack.length := ⟨_, rfl, by rw [on_back, on_beq], by rw [on_back, on_beq], by rw [on_back, on_beq], by rw [on_back, on_beq]⟩
        obtain ⟨S3, e3, d3, m3, s3, t3⟩ := p3
        rw [← e3] at hL23
        have own3 : ∀ q, S3.own b q ↔ S1.own b q := fun q => by rw [e3]; exact (own_on _ _ backI false b q).trans (own_on S1 _ beqI false b q)
        rintro z16 rfl
        refine split_of (fun _ => ?_) (fun _ => ⟨S3, hL23, hm23, d3, m3, by rw [s3, hr1], fun i _ => by rw [s3]⟩)
        rintro w24 rfl
        refine ⟨⟨by omega, by omega⟩, adr_some ⟨l.getD m 0, cellAt hL23.drew m (by omega), ?_⟩⟩
        rintro z18 rfl
        refine ⟨callI.cells, rfl, cellsAt_self hL23.drew.call, (hL23.drew.guess (d3.trans hcl.dir) _ callI (by decide) (by decide) (by decide)).mono ?_⟩
        rintro e w25 ⟨rfl, hL25, ht25⟩
        have et : (S3.top + 1) % S3.stack.length = S1.top := by
          rw [t3, s3, Nat.mod_add_mod, show S1.top + S1.stack.length - 1 + 1 = S1.top + S1.stack.length by omega, Nat.add_mod_right, Nat.mod_eq_of_lt hlt1]
        refine ⟨_, _, rfl, _, hL25, hm23.drew.keep ht25 (hnot own3), by rw [on_call]; exact d3, by rw [on_call]; exact m3, by rw [on_call]; show (S3.stack.set _ _).length = r; rw [List.length_set, s3, hr1], fun i hi => ?_⟩
        rw [on_call, et]
        show (S3.stack.set _ _)[i]? = _
        rw [List.getElem?_set_ne (fun e => hi e.symm), s3]
      · rintro w26 ⟨S4, hL26, hm26, d4, m4, l4, s4⟩
        rintro w27 rfl
        refine ⟨S1.mark, rfl, cellsAt_self hm26.drew, ⟨by omega, by omega⟩, adr_some ⟨l.getD m 0, cellAt hL26.drew m (by omega), ?_⟩⟩
        rintro z21 rfl vs14 rfl
        have h3' := hL26.three
        have hma : S4.mask = 0 := m4.trans hcl.mask
        have hmk : S1.mark = markV S1.hist S1.top (S1.stack.getD S1.top 0) := rfl
        rw [hmk]
        refine (restore_any hL26.drew.pred hL26.drew.tab (fun q hq => by have := (hL26.own q hq).1; omega) S1.hist S1.top (S1.stack.getD S1.top 0) (by rw [hcl.hist]; decide) (by rw [hcl.hist, hma]; decide) (by omega) _ beqI (by decide) (by decide) true).mono ?_
        rintro e w28 ⟨rfl, hp28, ht28⟩
        refine ⟨rfl, ?_⟩
        rintro z22 rfl
        rw [w64 (by omega) (by omega)]
        exact ⟨⟨m + 1, by omega, by omega, _, hL26.drew.moved hp28 ht28 (fun q => own_on (S4.back _ _ _) _ beqI true b q), (hcl.mend (by omega) d4 m4 l4 s4).beq _ _⟩, by show n - ((m : Int) + 1).toNat < n - (m : Int).toNat; omega⟩
  · have q := of_decide_eq_false q
    obtain rfl : m = n := by omega
    rintro z23 hz23
    rw [w64 (by omega) (by omega)] at hz23
    refine ⟨fun x w => ∃ j : Nat, x = (j : Int) - 1 ∧ j ≤ m ∧ ∃ S, LW w2 w b k k3 kp l S ∧ RI S l r j, fun x _ => (x + 1).toNat, ⟨m, by omega, by omega, S, hLW, hRI⟩, fun _ => ?_⟩
    clear hLW hRI
    rintro x w29 ⟨j, rfl, hj, S, hLW, hRI⟩
    refine split_of (fun q2 => ?_) (fun q2 => ⟨rfl, hLW.touch⟩)
    have q2 := of_decide_eq_true q2
    obtain ⟨t, rfl⟩ : ∃ t, j = t + 1 := ⟨j - 1, by omega⟩
    have ex : (((t + 1 : Nat) : Int) - 1) = (t : Int) := by omega
    rw [ex]
    have hpop := fun pc => hRI.pop (show t < r by omega) pc
    refine ⟨fun z w => z = IntKind.wrap .u32 (l.getD t 0 + 4) ∧ ∃ S2, LW w2 w b k k3 kp l S2 ∧ RI S2 l r t, ?_, fun _ => ?_⟩
    · rintro w30 rfl
      refine ⟨⟨by omega, by omega⟩, adr_some ⟨l.getD t 0, cellAt hLW.drew t (by omega), ?_⟩⟩
      rintro z25 rfl
      refine ⟨backI.cells, rfl, cellsAt_self hLW.drew.back, ?_, ?_⟩
      · refine (hLW.drew.guess hRI.dir _ backI (by decide) (by decide) (by decide)).mono ?_
        rintro e w12 ⟨rfl, hL12, -⟩
        rw [hRI.ret]
        refine ⟨_, _, rfl, ?_⟩
        rintro k9 w13 rfl rfl
        refine out_cell S.mark (Blk.new w12 zeroM 37) rfl rfl (mark_one S) ?_
        intro w14 hb14 ht14
        exact ⟨rfl, _, hL12.keep (T := fun q => q = w12.heap.size) ((((XTouch.refl (fun _ => False) w12).alloc _).mono (fun _ _ e => e.elim)).trans ht14 (fun _ _ e => e)) (by omega), hpop _⟩
      · rintro k11 w15 rfl rfl
        have hTa : XTouch (fun _ => False) w29.drew (w29.drew.alloc (.cells zeroM 37)) := (XTouch.refl _ _).alloc _
        refine ⟨hTa.below (Nat.le_refl _) (fun _ e => e.elim), ?_⟩
        have hLa := hLW.drew.alloc_ (.cells zeroM 37)
        have hba := Blk.new w29.drew zeroM 37
        refine (hLa.guess hRI.dir _ backI (by decide) (by decide) (by decide)).mono ?_
        rintro e w16 ⟨rfl, hL16, ht16⟩
        rw [hRI.ret]
        refine ⟨_, _, rfl, ?_⟩
        have hnot : ¬ S.own b w29.drew.heap.size := fun e => by
          have := hLW.drew.pred.lt _ e
          omega
        refine out_cell S.mark (hba.keep ht16 hnot) rfl rfl (mark_one S) ?_
        intro w17 hb17 ht17
        refine ⟨rfl, _, hL16.keep2 ht17 ?_, hpop _⟩
        rintro q rfl
        have e1 := hLW.touch.size
        have e2 := hLW.call.lt
        have e3 := hLW.back.lt
        have e4 := hLW.at_.lt
        have e5 : w29.drew.heap.size = w29.heap.size := rfl
        exact ⟨by omega, fun e => hnot ((own_on S _ backI false b _).1 e), by omega, by omega, by omega⟩
    · rintro x4 w37 ⟨rfl, S2, hL37, hR37⟩
      refine ⟨⟨by omega, by omega⟩, adr_some ⟨l.getD t 0, cellAt hL37 t (by omega), ?_⟩⟩
      rintro z29 rfl
      refine split_of (fun q => by simp at q) (fun _ => ?_)
      rintro z30 rfl
      rw [w64 (by omega) (by omega)]
      exact ⟨⟨t, rfl, by omega, S2, hL37, hR37⟩, by show ((t : Int) - 1 + 1).toNat < ((t : Int) + 1).toNat; omega⟩
end Go.Proofs.YtgcakilmmeopaaaDoor
