/- Part K of the proofs over 'cache': the walk of the law 'CacheMemory'. No condition. -/
import Derived.Test.YthjabcklmhaeoaaH
namespace Go.Proofs.Ythjabcklmhaeoaa
open Go.RowKit Go.XHeap Go.Sx
set_option linter.unusedVariables false
set_option maxRecDepth 100000

theorem nil_true {f : Bool → Prop} (h : f true) : Sx.isNil .nilIface f := h
theorem adr_some {g o : Nat} {f : Nat → Nat → Prop} (h : f g o) : Sx.adr (some ⟨g, o, none⟩) f := h
def zero16 : Array Value := #[.int .u8 0, .int .u8 0, .int .u8 0, .int .u8 0, .int .u8 0, .int .u8 0, .int .u8 0, .int .u8 0, .int .u8 0, .int .u8 0, .int .u8 0, .int .u8 0, .int .u8 0, .int .u8 0, .int .u8 0, .int .u8 0]
theorem mem_ok {W : World} (a0 a1 : Int) (h0 : -9223372036854775808 ≤ a0) (h1 : -9223372036854775808 ≤ a1) (a2 : Option Addr) (a2n a2c : Nat)
    (ops : ∀ i, i < a2n → ∃ g o, a2 = some ⟨g, o, none⟩ ∧ g < W.heap.size ∧ ∃ (st : Bool) (ad sz da : Int), W.cell? ⟨g, o + i * 4, none⟩ = some (.bool st) ∧ W.cell? ⟨g, o + i * 4 + 1, none⟩ = some (.int .i64 ad) ∧ W.cell? ⟨g, o + i * 4 + 2, none⟩ = some (.int .i64 sz) ∧ W.cell? ⟨g, o + i * 4 + 3, none⟩ = some (.int .u32 da) ∧ -9223372036854775808 ≤ ad ∧ -9223372036854775808 ≤ sz) :
    Calls Try.prog 3 #[.int .i64 a0, .int .i64 a1, .slice a2 a2n a2c] W fun e w => e = .returned (.bool true) ∧ XTouch (fun _ => False) W w := by
  refine vc3 a0 a1 a2 a2n a2c ?_
  rintro w2 rfl
  refine (pick_any _ a0 5 h0 (by decide)).mono ?_
  rintro e w3 ⟨rfl, rfl⟩
  have hp := pk_bound a0 5 (by decide)
  obtain ⟨P, hP, hP5⟩ : ∃ P : Nat, pk a0 5 = P ∧ P < 5 := ⟨(pk a0 5).toNat, by omega, by omega⟩
  rw [hP]
  refine ⟨_, rfl, Below.refl _ _, by omega, ?_⟩
  rintro z2 hz2
  rw [shift_pk P hP5] at hz2
  subst hz2
  refine (pick_any _ a1 4 h1 (by decide)).mono ?_
  rintro e w4 ⟨rfl, rfl⟩
  have hn := pk_bound a1 4 (by decide)
  obtain ⟨N, hN, hN4⟩ : ∃ N : Nat, 1 + pk a1 4 = N ∧ 1 ≤ N ∧ N ≤ 4 := ⟨(1 + pk a1 4).toNat, by omega, by omega⟩
  refine ⟨_, rfl, Below.refl _ _, ?_⟩
  rintro z4 rfl vs rfl
  rw [w64 (by omega) (by omega), hN]
  refine (new_ok _ (2 ^ P) N (pow_pk P hP5) hN4).mono ?_
  rintro e w5 ⟨b, C0, rfl, hc5, hCS, hCN, hz5, ht5, hown5⟩
  have hd : W.drew.heap.size = W.heap.size := rfl
  refine ⟨_, _, rfl, ht5.below (Nat.le_refl _) (fun _ e => e.elim), ?_⟩
  refine nil_true ?_
  refine split_of (fun q => by cases q) (fun _ => ?_)
  refine split_of (fun q => by cases q) (fun _ => ?_)
  refine ⟨⟨by omega, by omega, by omega, by omega⟩, ?_⟩
  rintro k w6 hk hw6
  refine ⟨⟨by omega, by omega, by omega, by omega⟩, ?_⟩
  rintro k2 w7 hk2 hw7
  have hT5 : XTouch (fun _ => False) W w5 := ⟨ht5.os, ht5.tape, ht5.output, ht5.size, ht5.block⟩
  have hs6 : w6.heap.size = w5.heap.size + 1 := by rw [hw6, World.size_alloc]
  have hsz5 := hT5.size
  have hL : LS W w7 b k k2 C0 (List.replicate 1024 0) (List.replicate 1024 0) := by
    have hT7 : XTouch (fun _ => False) w5 w7 := by rw [hw7, hw6]; exact ((XTouch.refl _ w5).alloc _).alloc _
    refine ⟨hc5.keep hT7 (fun _ _ e => e), ?_, ?_, hT5.trans hT7 (fun _ _ e => e), ?_, by omega, by omega, by omega⟩
    · rw [hw7, hw6, hk, ← made_mem]; exact (Blk.new w5 _ 5).alloc _
    · rw [hw7, hk2, ← made_mem]; exact Blk.new w6 _ 5
    · intro q hq
      have h1 := hown5 q hq
      have h2 := hc5.lt q hq
      exact ⟨h1, by omega, by omega⟩
  have hI : Inv C0 (List.replicate 1024 0) (List.replicate 1024 0) := Inv.start C0 (by have := hc5.pos; omega) N (fun i hi => hz5 i (by omega))
  clear hw7 hw6 hk hk2 hs6 hz5 hown5 ht5 hT5 hc5
  refine ⟨fun x w => ∃ n : Nat, x = n ∧ n ≤ a2n ∧ ∃ C mem flat, LS W w b k k2 C mem flat ∧ Inv C mem flat, fun x _ => a2n - x.toNat, ⟨0, rfl, by omega, C0, _, _, hL, hI⟩, fun _ => ?_⟩
  clear hL hI hCS hCN
  rintro x w8 ⟨n, rfl, hn, C, mem, flat, hL, hI⟩
  refine split_of (fun hx => ?_) (fun hx => ⟨rfl, hL.touch⟩)
  have hx := of_decide_eq_true hx
  refine split_of (fun hy => ?_) (fun hy => ⟨rfl, hL.touch⟩)
  have hy := of_decide_eq_true hy
  obtain ⟨g, o, rfl, hg, st, ad, sz, da, c0, c1, c2, c3, had, hsz⟩ := ops n (by omega)
  have old : ∀ {w : World} {C : CS} {mem flat : List Int}, LS W w b k k2 C mem flat → ∀ {i : Nat} {v : Value}, W.cell? ⟨g, i, none⟩ = some v → w.cell? ⟨g, i, none⟩ = some v := fun h i v hc => (h.touch.cell (p := ⟨g, i, none⟩) hg (fun e => e)).trans hc
  have e0 : ((n : Nat) : Int).toNat = n := by omega
  refine ⟨fun z w => ∃ s : Nat, (s = 1 ∨ s = 2 ∨ s = 4) ∧ z = s ∧ LS W w b k k2 C mem flat, ?_, fun _ => ?_⟩
  · rintro k3 w9 rfl rfl
    have hL9 := hL.alloc (.cells #[.int .i64 1, .int .i64 2, .int .i64 4] 3)
    refine ⟨⟨by omega, by omega⟩, ?_⟩
    refine adr_some ?_
    refine ⟨sz, by rw [e0]; exact old hL9 c2, (pick_any _ sz 3 hsz (by decide)).mono ?_⟩
    rintro e w10 ⟨rfl, rfl⟩
    have hq := pk_bound sz 3 (by decide)
    obtain ⟨t, ht, ht3⟩ : ∃ t : Nat, pk sz 3 = t ∧ t < 3 := ⟨(pk sz 3).toNat, by omega, by omega⟩
    rw [ht]
    refine ⟨_, rfl, ⟨by omega, by omega⟩, ?_⟩
    have hB := Blk.new w8 #[.int .i64 1, .int .i64 2, .int .i64 4] 3
    have : t = 0 ∨ t = 1 ∨ t = 2 := by omega
    rcases this with rfl | rfl | rfl
    · exact ⟨_, hB.cell' rfl, 1, .inl rfl, rfl, hL9⟩
    · exact ⟨_, hB.cell' rfl, 2, .inr (.inl rfl), rfl, hL9⟩
    · exact ⟨_, hB.cell' rfl, 4, .inr (.inr rfl), rfl, hL9⟩
  rintro z w11 ⟨s, hs, rfl, hL11⟩
  clear hL
  have hs4 : 1 ≤ s ∧ s ≤ 4 := by omega
  refine ⟨⟨by omega, by omega⟩, ?_⟩
  refine adr_some ?_
  refine ⟨ad, by rw [e0]; exact old hL11 c1, by omega, ?_⟩
  rintro z9 hz9
  have hM : IntKind.wrap .i64 (Int.tdiv 1024 s) = ((1024 / s : Nat) : Int) := by rcases hs with rfl | rfl | rfl <;> rfl
  have hMs : 1024 / s * s = 1024 ∧ 0 < 1024 / s := by rcases hs with rfl | rfl | rfl <;> decide
  rw [hM] at hz9
  subst hz9
  refine ⟨pk ad ((1024 / s : Nat) : Int), fun k8 => (pick_any _ _ _ had (by omega)).mono ?_, ?_⟩
  · rintro e w ⟨rfl, rfl⟩
    exact ⟨rfl, k8, rfl⟩
  obtain ⟨a, ha, hal, hza⟩ : ∃ a : Nat, a < 1024 ∧ a % s = 0 ∧ IntKind.wrap .i64 (pk ad ((1024 / s : Nat) : Int) * s) = a := by
    have hq := pk_bound ad ((1024 / s : Nat) : Int) (by omega)
    obtain ⟨q, hq', hqM⟩ : ∃ q : Nat, pk ad ((1024 / s : Nat) : Int) = q ∧ q < 1024 / s := ⟨(pk ad ((1024 / s : Nat) : Int)).toNat, by omega, by omega⟩
    have : q * s < 1024 := by
      have := Nat.mul_lt_mul_of_pos_right hqM (show 0 < s by omega)
      omega
    refine ⟨q * s, this, Nat.mul_mod_left .., ?_⟩
    rw [hq', show (q : Int) * s = ((q * s : Nat) : Int) by simp, w64 (by omega) (by omega)]
  rw [hza]
  rintro z11 rfl w13 k10 rfl z12 hz12
  rw [w32 (by omega) (by omega)] at hz12
  subst hz12
  have hin : a % 16 + s ≤ 16 := by rcases hs with rfl | rfl | rfl <;> omega
  have hL13 := hL11.drewN k10
  refine (state_any hL13.cache a ha).mono ?_
  rintro e w14 ⟨⟨n14, rfl⟩, hcase⟩
  have hL14 := hL13.drewN n14
  obtain ⟨z13, rfl, hz⟩ : ∃ z13 : Int, e = .returned (.int .i64 z13) ∧ ((z13 ≠ 0 ∧ ∃ j y, find? (C.sets (C.ix a)) (a / 16 * 16) = some j ∧ (C.sets (C.ix a))[j]? = some y) ∨ (z13 = 0 ∧ find? (C.sets (C.ix a)) (a / 16 * 16) = none)) := by
    rcases hcase with ⟨j, y, hf, hj, rfl⟩ | ⟨hf, rfl⟩
    · obtain ⟨y', hj', hst, -⟩ := find_some hf
      rw [hj] at hj'; cases hj'
      exact ⟨_, rfl, .inl ⟨hst, j, y, hf, hj⟩⟩
    · exact ⟨_, rfl, .inr ⟨rfl, hf⟩⟩
  clear hcase
  generalize hw14 : ((w11.drewN k10).drewN n14) = w14 at hL14
  clear hw14 hL13 hL11
  have hA : ((a / 16 * 16 : Nat) : Int) = (a : Int) / 16 * 16 := by omega
  have hz16 : IntKind.wrap .i64 (Int.tdiv (a : Int) 16) = ((a / 16 : Nat) : Int) := by
    rw [Int.tdiv_eq_ediv_of_nonneg (by omega), w64 (by omega) (by omega)]; omega
  have hz17 : IntKind.wrap .i64 (((a / 16 : Nat) : Int) * 16) = ((a / 16 * 16 : Nat) : Int) := by
    rw [w64 (by omega) (by omega)]; omega
  refine ⟨z13, rfl, fun w => ∃ C mem j y, LS W w b k k2 C mem flat ∧ Inv C mem flat ∧ find? (C.sets (C.ix a)) (a / 16 * 16) = some j ∧ (C.sets (C.ix a))[j]? = some y, split_of (fun q => ?_) (fun q => ?_), fun _ => ?_⟩
  · have hf : find? (C.sets (C.ix a)) (a / 16 * 16) = none := by
      rcases hz with ⟨hne, -⟩ | ⟨-, hf⟩
      · exact absurd (by simpa using q) hne
      · exact hf
    rintro k11 w15 rfl rfl w16 rfl
    refine ⟨by decide, ?_⟩
    rintro z14 rfl z15 rfl
    rw [hz16, hz17]
    refine ⟨⟨by omega, by omega⟩, ?_⟩
    have hsl : (seg mem (a / 16)).length = 16 := seg_len hI.lm (by omega)
    have hL16 : LS W ((w14.alloc (.cells zero16 38)).drew) b k k2 C mem flat := (hL14.alloc (.cells zero16 38)).drew
    have hb16 : Blk ((w14.alloc (.cells zero16 38)).drew) w14.heap.size zero16 38 := (Blk.new w14 _ 38).drew
    have hs16 : ((w14.alloc (.cells zero16 38)).drew).heap.size = w14.heap.size + 1 := by simp
    have ez : #[Value.int IntKind.u8 0, Value.int IntKind.u8 0, Value.int IntKind.u8 0, Value.int IntKind.u8 0, Value.int IntKind.u8 0, Value.int IntKind.u8 0, Value.int IntKind.u8 0, Value.int IntKind.u8 0, Value.int IntKind.u8 0, Value.int IntKind.u8 0, Value.int IntKind.u8 0, Value.int IntKind.u8 0, Value.int IntKind.u8 0, Value.int IntKind.u8 0, Value.int IntKind.u8 0, Value.int IntKind.u8 0] = zero16 := rfl
    rw [ez]
    generalize hw16 : ((w14.alloc (.cells zero16 38)).drew) = w16 at hL16 hb16 hs16
    have hT16 : XTouch (fun _ => False) w14 w16 := by rw [← hw16]; exact ((XTouch.refl _ w14).alloc _).drew
    clear hw16 ez
    have hmg : ∀ (q : Nat) (v : Value), (u8s (seg mem (a / 16)))[q]? = some v → (u8s mem).toArray[a / 16 * 16 + q]? = some v := by
      intro q v hq
      have hq16 : q < 16 := by have := (List.getElem?_eq_some_iff.1 hq).1; rw [u8s_len, hsl] at this; exact this
      rw [u8s_get, ← seg_get _ _ _ hq16, ← hq]
      simp [u8s]
    refine ⟨u8s (seg mem (a / 16)), ?_, u8s_one _, .inr ⟨⟨⟨k2, a / 16 * 16, none⟩, ?_, ?_⟩, w14.heap.size, 0, rfl, ?_⟩, ?_⟩
    · rw [u8s_len, hsl, Int.toNat_natCast]
      show 16 = min (1024 - a / 16 * 16) 16 * 1
      omega
    · rw [Int.toNat_natCast]
      unfold Sx.sub
      rw [if_neg (by omega)]
      simp [add_none]
    · intro q v hq
      rw [add_none]
      exact hL16.mm.cell' (hmg q v hq)
    · intro q hq
      rw [u8s_len, hsl] at hq
      refine ⟨?_, hb16.frozen _⟩
      rw [hb16.cell, Nat.zero_add]
      exact ⟨_, Array.getElem?_eq_getElem (show q < 16 from hq)⟩
    rintro w17 hw17
    have hb17 : Blk w17 w14.heap.size (u8s (seg mem (a / 16))).toArray 38 := by
      rw [hw17]
      exact blk_over hb16 (u8s (seg mem (a / 16))) (by rw [u8s_len, hsl]; rfl)
    have hT17 : XTouch (fun q => q = w14.heap.size) w16 w17 := by
      rw [hw17]
      exact touch_setCells _ _ _
    have hL17 : LS W w17 b k k2 C mem flat := hL14.keep (T := fun q => q = w14.heap.size) ((hT16.mono (fun _ _ e => e.elim)).trans hT17 (fun _ _ e => e)) (by omega)
    clear hw17 hT17 hb16 hL16 hT16 hs16
    refine ⟨by decide, ?_⟩
    rintro z16 rfl z17 rfl z18 hz18
    rw [hz17, w32 (by omega) (by omega)] at hz18
    subst hz18
    have eix : C.ix (a / 16 * 16) = C.ix a := by
      show a / 16 * 16 / 16 % C.S = a / 16 % C.S
      congr 1; omega
    have e16 : a / 16 * 16 / 16 * 16 = a / 16 * 16 := by omega
    refine ⟨_, by simp [u8s_len, hsl], cellsAt_self hb17, (fill_ok hL17.cache (a / 16 * 16) (by omega) (by omega) (seg mem (a / 16)) hsl 2 (by omega) (by omega) (by rw [eix, e16]; exact hf)).mono ?_⟩
    rintro e w18 ⟨j, y, u, hj, rfl, hc18, ht18⟩
    rw [eix] at hj hc18
    have hL18 := hL17.cached hc18 ht18 (fun _ e => e)
    have hfill := hI.fill ha hf hj u u
    have hlt := CS.ix_lt hL17.cache a
    have hy16 := hL17.cache.ok16 hlt hj
    have hjl : j < (C.sets (C.ix a)).length := (List.getElem?_eq_some_iff.1 hj).1
    obtain ⟨j2, y2, hf2, hj2⟩ := find_there (setWay_get (C := C.tick u) (i := C.ix a) (y := y) hjl { line := ((a / 16 * 16 : Nat) : Int), state := 2, used := u, bytes := seg mem (a / 16) }) (show (2 : Int) ≠ 0 by decide) (L := a / 16 * 16) rfl
    have found : find? (((C.tick u).setWay (C.ix a) j { line := ((a / 16 * 16 : Nat) : Int), state := 2, used := u, bytes := seg mem (a / 16) }).sets (((C.tick u).setWay (C.ix a) j { line := ((a / 16 * 16 : Nat) : Int), state := 2, used := u, bytes := seg mem (a / 16) }).ix a)) (a / 16 * 16) = some j2 ∧ (((C.tick u).setWay (C.ix a) j { line := ((a / 16 * 16 : Nat) : Int), state := 2, used := u, bytes := seg mem (a / 16) }).sets (((C.tick u).setWay (C.ix a) j { line := ((a / 16 * 16 : Nat) : Int), state := 2, used := u, bytes := seg mem (a / 16) }).ix a))[j2]? = some y2 := ⟨hf2, hj2⟩
    generalize (C.tick u).setWay (C.ix a) j { line := ((a / 16 * 16 : Nat) : Int), state := 2, used := u, bytes := seg mem (a / 16) } = C2 at hL18 hfill found
    clear hf2 hj2 hc18 ht18
    refine ⟨_, _, _, rfl, ?_⟩
    rintro k16 w19 rfl rfl
    have hL19 := hL18.alloc (.cells zero18.toArray 40)
    have hb19 := Blk.new w18 zero18.toArray 40
    have ez : (w18.alloc (Obj.cells #[Value.int IntKind.u32 0, Value.int IntKind.i64 0, Value.int IntKind.u8 0, Value.int IntKind.u8 0, Value.int IntKind.u8 0, Value.int IntKind.u8 0, Value.int IntKind.u8 0, Value.int IntKind.u8 0, Value.int IntKind.u8 0, Value.int IntKind.u8 0, Value.int IntKind.u8 0, Value.int IntKind.u8 0, Value.int IntKind.u8 0, Value.int IntKind.u8 0, Value.int IntKind.u8 0, Value.int IntKind.u8 0, Value.int IntKind.u8 0, Value.int IntKind.u8 0] 40)) = w18.alloc (.cells zero18.toArray 40) := rfl
    rw [ez]
    have hT19 : XTouch (fun _ => False) w18 (w18.alloc (.cells zero18.toArray 40)) := (XTouch.refl _ w18).alloc _
    generalize (w18.alloc (.cells zero18.toArray 40)) = w19 at hL19 hb19 hT19
    clear ez
    have hgl : (goneCells y).toArray.size = 18 := by
      unfold goneCells
      split
      · simp [lineCells_len hy16]
      · rfl
    refine out_cell (goneCells y).toArray hb19 rfl hgl (by
      intro v hv
      unfold goneCells at hv
      split at hv
      · exact lineCells_one y v (by simpa using hv)
      · exact zero18_one v (by simpa using hv)) ?_
    intro w20 hb20 hT20
    have hL20 : LS W w20 b k k2 C2 mem flat := hL18.keep (T := fun q => q = w18.heap.size) ((hT19.mono (fun _ _ e => e.elim)).trans hT20 (fun _ _ e => e)) (by omega)
    clear hT20 hT19 hL19 hb19
    refine ⟨fun t w => t = false ∧ w = w20, nil_true (split_of (fun q => by cases q) (fun _ => ?_)), fun _ => ?_⟩
    · by_cases hs0 : y.state = 0
      · have hgone : goneCells y = zero18 := by unfold goneCells; rw [hs0]; rfl
        rw [hgone] at hb20
        rw [hs0]
        exact ⟨0, hb20.cell' rfl, ⟨rfl, rfl⟩⟩
      · have hsb : (y.state != 0) = true := by simpa using hs0
        have hgone : goneCells y = lineCells y := by unfold goneCells; rw [hsb]; rfl
        rw [hgone] at hb20
        refine ⟨y.state, hb20.cell' rfl, ?_⟩
        rw [hsb]
        refine split_of (fun q => by cases q) (fun _ => ?_)
        obtain ⟨-, L, g1, g2, -⟩ := hI.way _ _ _ hlt hj hs0
        refine ⟨y.line, hb20.cell' rfl, ?_⟩
        rintro z21 rfl
        refine ⟨by decide, ?_⟩
        rintro z22 rfl z23 rfl
        rw [hz17, w64 (by omega) (by omega)]
        have := hfill.2.2 hs0
        exact ⟨by simpa using this, rfl⟩
    · rintro x3 w21 ⟨rfl, rfl⟩
      refine split_of (fun q => by cases q) (fun _ => ?_)
      by_cases hs3 : y.state = 3
      · have hgone : goneCells y = lineCells y := by unfold goneCells; rw [hs3]; rfl
        rw [hgone] at hb20
        refine ⟨3, by have h3 := hb20.cell' (i := 0 + 1) (v := .int .i64 y.state) rfl; rw [hs3] at h3; exact h3, ?_⟩
        obtain ⟨L, g1, g2, g3, g4, hI2⟩ := hfill.1 hs3
        show ∀ w22 : World, w22 = w21.drew → _
        rintro w22 rfl
        refine ⟨y.line, hb20.drew.cell' rfl, y.line, hb20.drew.cell' rfl, ?_⟩
        rintro z27 rfl
        rw [g2, w32 (by omega) (by omega)]
        have eN : (((L * 16 : Nat) : Int) + 16) = ((L * 16 + 16 : Nat) : Int) := by omega
        rw [eN, Int.toNat_natCast, Int.toNat_natCast]
        have hml := hI.lm
        have esub : Sx.sub (some ⟨k2, 0, none⟩) 1024 (L * 16) 1 = some ⟨k2, L * 16, none⟩ := by
          unfold Sx.sub
          rw [if_neg (by omega)]
          simp [add_none]
        rw [esub]
        have hul : (u8s y.bytes).length = 16 := by rw [u8s_len, g4]
        refine ⟨⟨by omega, by omega, by omega⟩, u8s y.bytes, ?_, u8s_one _, .inr ⟨⟨_, rfl, ?_⟩, k2, L * 16, rfl, ?_⟩, ?_⟩
        · show _ = min 16 (L * 16 + 16 - L * 16) * 1
          omega
        · intro q v hq
          rw [add_none]
          refine hb20.drew.cell' ?_
          rw [List.getElem?_toArray, show 0 + 2 + q = q + 1 + 1 by omega]
          exact hq
        · intro q hq
          rw [hul] at hq
          refine ⟨?_, hL20.drew.mm.frozen _⟩
          rw [hL20.drew.mm.cell]
          exact ⟨_, Array.getElem?_eq_getElem (by simp [u8s_len]; omega)⟩
        · rintro w23 rfl
          refine ⟨C2, ov mem L y.bytes, j2, y2, hL20.drew.mem_ ?_ (touch_setCells _ _ _), hI2, found.1, found.2⟩
          have := blk_setCells (u8s y.bytes) _ _ (L * 16) hL20.drew.mm (by rw [hul]; simp [u8s_len]; omega)
          rw [ov_splice g4] at this
          exact this
      · have hcell : ∃ z, w21.cell? ⟨w18.heap.size, 0 + 1, none⟩ = some (.int .i64 z) ∧ z ≠ 3 := by
          by_cases hs0 : y.state = 0
          · have hgone : goneCells y = zero18 := by unfold goneCells; rw [hs0]; rfl
            rw [hgone] at hb20
            exact ⟨0, hb20.cell' rfl, by decide⟩
          · have hsb : (y.state != 0) = true := by simpa using hs0
            have hgone : goneCells y = lineCells y := by unfold goneCells; rw [hsb]; rfl
            rw [hgone] at hb20
            exact ⟨y.state, hb20.cell' rfl, hs3⟩
        obtain ⟨z, hz, hz3⟩ := hcell
        exact ⟨z, hz, split_of (fun q => absurd (by simpa using q) hz3) (fun _ => ⟨C2, mem, j2, y2, hL20, hfill.2.1 hs3, found.1, found.2⟩)⟩
  · rcases hz with ⟨-, j, y, hf, hj⟩ | ⟨h0, -⟩
    · exact ⟨C, mem, j, y, hL14, hI, hf, hj⟩
    · rw [h0] at q; cases q
  clear hz hL14 hI
  rintro w24 ⟨C1, mem1, j, y, hL24, hI24, hf, hj⟩
  have hjl : j < (C1.sets (C1.ix a)).length := (List.getElem?_eq_some_iff.1 hj).1
  have hlt := CS.ix_lt hL24.cache a
  obtain ⟨y', hj', hst, hln⟩ := find_some hf
  rw [hj] at hj'; cases hj'
  obtain ⟨hs23, L, eL1, eL2, eL3, eL4, eL5⟩ := hI24.way _ _ _ hlt hj hst
  have eL : L = a / 16 := by rw [hln] at eL1; omega
  subst eL
  have hfl := hI24.lf
  refine ⟨⟨by omega, by omega⟩, ?_⟩
  refine adr_some ?_
  refine ⟨st, by rw [e0]; exact old hL24 c0, split_of (fun q => ?_) (fun q => ?_)⟩
  · rintro z28 hz28
    rw [w32 (by omega) (by omega)] at hz28
    subst hz28
    refine ⟨⟨by omega, by omega⟩, ?_⟩
    refine adr_some ?_
    refine ⟨da, by rw [e0]; exact old hL24 c3, (write_ok hL24.cache a ha s hs hal da hf hj hs23.1).mono ?_⟩
    rintro e w25 ⟨rfl, u, hc25, ht25⟩
    refine ⟨true, rfl, split_of (fun q => by cases q) (fun _ => ?_)⟩
    have hL25 := hL24.cached hc25 ht25 (fun _ e => e)
    have hI25 := hI24.write ha hin da hf hj u u
    generalize (C1.tick u).setWay (C1.ix a) j { line := y.line, state := 3, used := u, bytes := wr y.bytes (a % 16) da s } = C2 at hL25 hI25
    clear hc25 ht25
    refine ⟨fun z w => ∃ m : Nat, z = m ∧ m ≤ s ∧ LS W w b k k2 C2 mem1 (wr flat a da m), fun z _ => s - z.toNat, ⟨0, rfl, by omega, hL25⟩, fun _ => ?_⟩
    rintro x4 w26 ⟨m, rfl, hm, hL26⟩
    refine split_of (fun hx4 => ?_) (fun hx4 => ?_)
    · have hx4 := of_decide_eq_true hx4
      rintro z30 hz30
      rw [w64 (by omega) (by omega)] at hz30
      refine ⟨⟨by omega, by omega⟩, ?_⟩
      refine adr_some ?_
      refine ⟨da, by rw [e0]; exact old hL26 c3, ?_⟩
      rintro z32 hz32
      rw [w64 (by omega) (by omega)] at hz32
      subst hz32
      refine ⟨by omega, ?_⟩
      rintro z33 rfl z34 hz34
      have ez : z34 = byteOf da m := by
        rw [hz34, Go.Sx.w8]
        unfold byteOf
        have : min (8 * (m : Int)).toNat (IntKind.bits .u32) = 8 * m := by simp [IntKind.bits]; omega
        rw [this]
      clear hz34
      subst ez
      have el := wr_len flat a da m
      obtain rfl : z30 = ((a + m : Nat) : Int) := by omega
      refine ⟨⟨by omega, by omega⟩, ?_⟩
      rw [show 0 + (((a + m : Nat) : Int)).toNat * 1 = a + m by omega]
      refine ⟨⟨_, hL26.fl.cell' (v := .int .u8 ((wr flat a da m)[a + m]'(by omega))) (by rw [u8s_get, List.getElem?_eq_getElem (by omega)]; rfl)⟩, hL26.fl.frozen _, ?_⟩
      rintro w27 rfl z35 rfl
      rw [w64 (by omega) (by omega)]
      refine ⟨⟨m + 1, by omega, by omega, hL26.flat_ ?_ ((XTouch.refl (fun q => q = k) w26).setCell (p := ⟨k, a + m, none⟩) (.inl rfl) _)⟩, by show s - ((m : Int) + 1).toNat < s - (m : Int).toNat; omega⟩
      have := hL26.fl.set (a + m) (.int .u8 (byteOf da m))
      rw [wr_succ]
      have e1 : (u8s (wr flat a da m)).toArray.setIfInBounds (a + m) (.int .u8 (byteOf da m)) = (u8s ((wr flat a da m).set (a + m) (byteOf da m))).toArray := by
        apply Array.toList_inj.1
        simp [u8s, List.map_set]
      rw [e1] at this
      exact this
    · have hx4 := of_decide_eq_false hx4
      obtain rfl : m = s := by omega
      rintro z36 rfl
      rw [w64 (by omega) (by omega)]
      exact ⟨⟨n + 1, by omega, by omega, C2, mem1, _, hL26, hI25⟩, by show a2n - ((n : Int) + 1).toNat < a2n - (n : Int).toNat; omega⟩
  · rintro z37 hz37
    rw [w32 (by omega) (by omega)] at hz37
    subst hz37
    have hB : Bytes y.bytes := by
      intro v hv
      rw [eL4] at hv
      exact hI24.bf v (List.mem_of_mem_drop (List.mem_of_mem_take hv))
    refine (read_ok hL24.cache a ha s hs hal hf hj (by omega) hB).mono ?_
    rintro e w28 ⟨rfl, u, hc28, ht28⟩
    have hL28 := hL24.cached hc28 ht28 (fun _ e => e)
    have hI28 := hI24.used hj u u
    generalize (C1.tick u).setWay (C1.ix a) j { y with used := u } = C2 at hL28 hI28
    clear hc28 ht28
    refine ⟨_, _, rfl, fun z w => z = le ((flat.drop a).take s) ∧ LS W w b k k2 C2 mem1 flat, ?_, fun _ => ?_⟩
    · rintro z39 hz39
      rw [w64 (by omega) (by omega)] at hz39
      refine ⟨fun x5 x6 w => ∃ m : Nat, m ≤ s ∧ x5 = (s : Int) - 1 - m ∧ x6 = le ((flat.drop (a + s - m)).take m) ∧ LS W w b k k2 C2 mem1 flat, fun x5 _ _ => (x5 + 1).toNat, ⟨0, by omega, by omega, rfl, hL28⟩, fun _ => ?_⟩
      rintro x5 x6 w29 ⟨m, hm, hx5, rfl, hL29⟩
      refine split_of (fun hc => ?_) (fun hc => ?_)
      · have hc := of_decide_eq_true hc
        refine ⟨by omega, ?_⟩
        rintro z40 rfl z41 hz41
        rw [w64 (by omega) (by omega)] at hz41
        obtain rfl : z41 = ((a + s - (m + 1) : Nat) : Int) := by omega
        refine ⟨⟨by omega, by omega⟩, ?_⟩
        rw [show 0 + (((a + s - (m + 1) : Nat) : Int)).toNat * 1 = a + s - (m + 1) by omega]
        obtain ⟨c, hcv⟩ : ∃ c, flat[a + s - (m + 1)]? = some c := ⟨_, List.getElem?_eq_getElem (by omega)⟩
        have hcb := hI28.bf c (List.mem_of_getElem? hcv)
        refine ⟨c, hL29.fl.cell' (by rw [u8s_get, hcv]; rfl), ?_⟩
        rintro z43 rfl z44 rfl z45 rfl
        rw [w64 (by omega) (by omega)]
        have hb2 := le_bound (l := (flat.drop (a + s - m)).take m) (fun v hv => hI28.bf v (List.mem_of_mem_drop (List.mem_of_mem_take hv)))
        have hlen : ((flat.drop (a + s - m)).take m).length = m := by simp; omega
        rw [hlen] at hb2
        have hpow : (256 : Int) ^ m ≤ 16777216 := by
          have : m = 0 ∨ m = 1 ∨ m = 2 ∨ m = 3 := by omega
          rcases this with rfl | rfl | rfl | rfl <;> decide
        have hor := or_low (le ((flat.drop (a + s - m)).take m)).toNat c.toNat (by omega) (by omega)
        rw [Int.toNat_of_nonneg hb2.1, Int.toNat_of_nonneg hcb.1] at hor
        rw [hor]
        refine ⟨⟨m + 1, by omega, by omega, ?_, hL29⟩, by show (x5 - 1 + 1).toNat < (x5 + 1).toNat; omega⟩
        have ed : (flat.drop (a + s - (m + 1))).take (m + 1) = c :: (flat.drop (a + s - m)).take m := by
          obtain ⟨hlt', hget⟩ := List.getElem?_eq_some_iff.1 hcv
          rw [List.drop_eq_getElem_cons hlt', List.take_succ_cons, hget, show a + s - (m + 1) + 1 = a + s - m by omega]
        rw [ed]
        rfl
      · have hc := of_decide_eq_false hc
        obtain rfl : m = s := by omega
        exact ⟨by rw [show a + m - m = a by omega], hL29⟩
    · rintro x7 w30 ⟨rfl, hL30⟩
      refine ⟨fun t w => t = false ∧ LS W w b k k2 C2 mem1 flat, split_of (fun q => by cases q) (fun _ => ⟨?_, hL30⟩), fun _ => ?_⟩
      · rw [eL4, seg_part flat hin]; simp
      · rintro x8 w31 ⟨rfl, hL31⟩
        refine split_of (fun q => by cases q) (fun _ => ?_)
        rintro z46 rfl
        rw [w64 (by omega) (by omega)]
        exact ⟨⟨n + 1, by omega, by omega, C2, mem1, flat, hL31, hI28⟩, by show a2n - ((n : Int) + 1).toNat < a2n - (n : Int).toNat; omega⟩
end Go.Proofs.Ythjabcklmhaeoaa
