/- Part S of the proofs over 'predict': the reference's New; the program's predictor and the reference's do the same (a plain law). No condition. -/
import Derived.Test.YtgcakilmmeopaaaDoorR
import Derived.Test.YtgcakilmmeopaaaDoorSEq
namespace Go.Proofs.YtgcakilmmeopaaaDoor
open Go.RowKit Go.XHeap Go.Sx Go.Sep
set_option linter.unusedVariables false
set_option maxRecDepth 100000

theorem mark_neq (ox oy : Operand) (a b c : Int) (w : World) : (do eqGuard .neq 60 ox oy (.agg (markW a b c)) (.agg (markW a b c)); binOp .neq 60 (.agg (markW a b c)) (.agg (markW a b c)) : Sem Value).run Tryd.prog w = .ok (.bool false) w := by
  obtain ⟨r, h1, h2⟩ := SEq.struct_run (P := Tryd.prog) (t := 60) (S := [(false, 3, 0), (false, 3, 1), (false, 35, 2)]) (xs := markW a b c) (ys := markW a b c) (by kernel_rfl) (by kernel_rfl) (by kernel_rfl) (by kernel_rfl) (by
    intro s hs
    simp only [List.mem_cons, List.not_mem_nil, or_false] at hs
    rcases hs with rfl | rfl | rfl
    · exact ⟨rfl, _, _, rfl, rfl, .inl ⟨.i64, a, Tryd.underlying3, rfl⟩, .inl ⟨.i64, a, Tryd.underlying3, rfl⟩⟩
    · exact ⟨rfl, _, _, rfl, rfl, .inl ⟨.i64, b, Tryd.underlying3, rfl⟩, .inl ⟨.i64, b, Tryd.underlying3, rfl⟩⟩
    · exact ⟨rfl, _, _, rfl, rfl, .inl ⟨.u32, c, Tryd.underlying35, rfl⟩, .inl ⟨.u32, c, Tryd.underlying35, rfl⟩⟩)
  obtain rfl : r = true := h2.2 (fun _ _ => rfl)
  exact SEq.neq_run (by kernel_rfl) h1 ox oy w
/-! ### the reference's New -/
def R0 (κ B h t r cb tb sb : Nat) (C : List Int) : RS := ⟨κ, B, h, t, r, cb, tb, sb, 0, C, List.replicate (2 ^ t) (0, 0, false), List.replicate r 0, 0⟩
theorem rnew_good (W : World) (κ B h t r : Nat) (hκ : κ ≤ 3) (hB0 : 1 ≤ B) (hB : B ≤ 10) (hh : h ≤ B) (ht : t ≤ 8) (h1 : 1 ≤ r) (h2 : r ≤ 16) :
    Calls Tryd.prog 13 #[.agg (cfgC κ B h t r)] W fun e w => ∃ x : Nat × Nat × Nat × Nat, e = .returned (.tuple #[.pointer (some ⟨x.1, 0, none⟩), .int .i64 0]) ∧ Sep.Post emp W (refA x.1 (R0 κ B h t r x.2.1 x.2.2.1 x.2.2.2 (List.replicate (2 ^ B) 1))) w := by
  have hP := pow_le hB
  have hPt := pow_le (Nat.le_trans ht (by decide : 8 ≤ 10))
  refine vc13 _ ((St.nil W).al fun k w2 H => ⟨κ, H.ld 0 rfl rfl, split_of (fun q => absurd (of_decide_eq_true q) (by omega)) (fun _ => ⟨κ, H.ld 0 rfl rfl, split_of (fun q => absurd (of_decide_eq_true q) (by omega)) (fun _ => ?_)⟩)⟩)
  refine ⟨B, H.ld 0 rfl rfl, split_of (fun q => absurd (of_decide_eq_true q) (by omega)) (fun _ => ⟨B, H.ld 0 rfl rfl, split_of (fun q => absurd (of_decide_eq_true q) (by omega)) (fun _ => ?_)⟩)⟩
  refine ⟨h, H.ld 0 rfl rfl, split_of (fun q => absurd (of_decide_eq_true q) (by omega)) (fun _ => ⟨h, H.ld 0 rfl rfl, B, H.ld 0 rfl rfl, split_of (fun q => absurd (of_decide_eq_true q) (by omega)) (fun _ => ?_)⟩)⟩
  refine ⟨t, H.ld 0 rfl rfl, split_of (fun q => absurd (of_decide_eq_true q) (by omega)) (fun _ => ⟨t, H.ld 0 rfl rfl, split_of (fun q => absurd (of_decide_eq_true q) (by omega)) (fun _ => ?_)⟩)⟩
  refine ⟨r, H.ld 0 rfl rfl, split_of (fun q => absurd (of_decide_eq_true q) (by omega)) (fun _ => ⟨r, H.ld 0 rfl rfl, split_of (fun q => absurd (of_decide_eq_true q) (by omega)) (fun _ => ?_)⟩)⟩
  refine ⟨fun p w => ∃ b cb tb sb, p = some ⟨b, 0, none⟩ ∧ St W No w ((R0 κ B h t r cb tb sb (List.replicate (2 ^ B) 0)).pieces b), H.dr fun w3 H => ?_, fun _ => ?_⟩
  · refine ⟨cfgC κ B h t r, rfl, H.cells 0 rfl, B, H.ld 0 rfl rfl, by omega, ?_⟩
    rintro z13 rfl
    refine ⟨t, H.ld 0 rfl rfl, by omega, ?_⟩
    rintro z15 rfl
    refine ⟨r, H.ld 0 rfl rfl, ?_⟩
    rw [Bits.one_shl (show B ≤ 62 by omega), Bits.one_shl (show t ≤ 62 by omega), Int.toNat_natCast, Int.toNat_natCast, Int.toNat_natCast]
    have e1 : madeCells #[Value.bool false, Value.int IntKind.u32 0, Value.int IntKind.u32 0] (2 ^ t * 3) = rows tgtR (List.replicate (2 ^ t) (0, 0, false)) := rows_made (f := tgtR) (x0 := (0, 0, false)) rfl (by decide) _
    have e2 : madeCells #[Value.int IntKind.u32 0] (r * 1) = ints .u32 (List.replicate r 0) := by rw [Nat.mul_one]; exact ints_made r
    have e3 : madeCells #[Value.int IntKind.i64 0] (2 ^ B * 1) = ints .i64 (List.replicate (2 ^ B) 0) := by rw [Nat.mul_one]; exact ints_made _
    rw [e1, e2, e3]
    have bc : (0 : Int) ≤ ((2 ^ B : Nat) : Int) ∧ ((2 ^ B : Nat) : Int) ≤ ((2 ^ B : Nat) : Int) ∧ ((2 ^ B : Nat) : Int) ≤ 9223372036854775807 ∧ ((8 : Nat) : Int) * ((2 ^ B : Nat) : Int) ≤ 281474976710656 := ⟨by omega, by omega, by omega, by omega⟩
    have bt : (0 : Int) ≤ ((2 ^ t : Nat) : Int) ∧ ((2 ^ t : Nat) : Int) ≤ ((2 ^ t : Nat) : Int) ∧ ((2 ^ t : Nat) : Int) ≤ 9223372036854775807 ∧ ((12 : Nat) : Int) * ((2 ^ t : Nat) : Int) ≤ 281474976710656 := ⟨by omega, by omega, by omega, by omega⟩
    have bs : (0 : Int) ≤ (r : Int) ∧ (r : Int) ≤ (r : Int) ∧ (r : Int) ≤ 9223372036854775807 ∧ ((4 : Nat) : Int) * (r : Int) ≤ 281474976710656 := ⟨by omega, by omega, by omega, by omega⟩
    have fin : ∀ {w w7 : World} {k5 cb tb sb : Nat} {x : Asn}, St W No w7 [blk k5 (R0 κ B h t r cb tb sb (List.replicate (2 ^ B) 0)).root 94, blk cb (ints .i64 (List.replicate (2 ^ B) 0)) 3, blk tb (rows tgtR (List.replicate (2 ^ t) (0, 0, false))) 99, blk sb (ints .u32 (List.replicate r 0)) 35] → ∃ b cb tb sb, some (Addr.mk k5 0 none) = some ⟨b, 0, none⟩ ∧ St W No w7 ((R0 κ B h t r cb tb sb (List.replicate (2 ^ B) 0)).pieces b) := fun H => ⟨_, _, _, _, rfl, H⟩
    refine ⟨⟨bc, H.alb fun k2 w4 H _ c4 => ⟨c4, ⟨bt, H.alb fun k3 w5 H _ c5 => ?_⟩, bs, H.alb fun k3 w5 H _ c5 => ?_⟩⟩, ⟨bt, H.alb fun k2 w4 H _ c4 => ⟨c4, ⟨bc, H.alb fun k3 w5 H _ c5 => ?_⟩, bs, H.alb fun k3 w5 H _ c5 => ?_⟩⟩, bs, H.alb fun k2 w4 H _ c4 => ⟨c4, ⟨bc, H.alb fun k3 w5 H _ c5 => ?_⟩, bt, H.alb fun k3 w5 H _ c5 => ?_⟩⟩
    · have d5 := c4.trans (c5.mono c4.size)
      refine ⟨d5, bs, H.alb fun k4 w6 H _ c6 => ⟨d5.trans (c6.mono d5.size), rfl, ?_⟩⟩
      rintro vs rfl
      exact H.alb fun k5 w7 H _ c7 => ⟨(d5.trans (c6.mono d5.size)).trans (c7.mono (d5.trans (c6.mono d5.size)).size), _, _, _, _, rfl, H.pick [4, 1, 2, 3]⟩
    · have d5 := c4.trans (c5.mono c4.size)
      refine ⟨d5, bt, H.alb fun k4 w6 H _ c6 => ⟨d5.trans (c6.mono d5.size), rfl, ?_⟩⟩
      rintro vs rfl
      exact H.alb fun k5 w7 H _ c7 => ⟨(d5.trans (c6.mono d5.size)).trans (c7.mono (d5.trans (c6.mono d5.size)).size), _, _, _, _, rfl, H.pick [4, 1, 3, 2]⟩
    · have d5 := c4.trans (c5.mono c4.size)
      refine ⟨d5, bs, H.alb fun k4 w6 H _ c6 => ⟨d5.trans (c6.mono d5.size), rfl, ?_⟩⟩
      rintro vs rfl
      exact H.alb fun k5 w7 H _ c7 => ⟨(d5.trans (c6.mono d5.size)).trans (c7.mono (d5.trans (c6.mono d5.size)).size), _, _, _, _, rfl, H.pick [4, 2, 1, 3]⟩
    · have d5 := c4.trans (c5.mono c4.size)
      refine ⟨d5, bc, H.alb fun k4 w6 H _ c6 => ⟨d5.trans (c6.mono d5.size), rfl, ?_⟩⟩
      rintro vs rfl
      exact H.alb fun k5 w7 H _ c7 => ⟨(d5.trans (c6.mono d5.size)).trans (c7.mono (d5.trans (c6.mono d5.size)).size), _, _, _, _, rfl, H.pick [4, 3, 1, 2]⟩
    · have d5 := c4.trans (c5.mono c4.size)
      refine ⟨d5, bt, H.alb fun k4 w6 H _ c6 => ⟨d5.trans (c6.mono d5.size), rfl, ?_⟩⟩
      rintro vs rfl
      exact H.alb fun k5 w7 H _ c7 => ⟨(d5.trans (c6.mono d5.size)).trans (c7.mono (d5.trans (c6.mono d5.size)).size), _, _, _, _, rfl, H.pick [4, 2, 3, 1]⟩
    · have d5 := c4.trans (c5.mono c4.size)
      refine ⟨d5, bc, H.alb fun k4 w6 H _ c6 => ⟨d5.trans (c6.mono d5.size), rfl, ?_⟩⟩
      rintro vs rfl
      exact H.alb fun k5 w7 H _ c7 => ⟨(d5.trans (c6.mono d5.size)).trans (c7.mono (d5.trans (c6.mono d5.size)).size), _, _, _, _, rfl, H.pick [4, 3, 2, 1]⟩
  · rintro p w8 ⟨b, cb, tb, sb, rfl, H⟩
    refine ⟨fun x w => ∃ m : Nat, x = m ∧ m ≤ 2 ^ B ∧ St W No w ((R0 κ B h t r cb tb sb (List.replicate m 1 ++ List.replicate (2 ^ B - m) 0)).pieces b), fun x _ => 2 ^ B - x.toNat, ⟨0, rfl, by omega, by rw [List.replicate_zero, List.nil_append, Nat.sub_zero]; exact H⟩, fun _ => ?_⟩
    rintro x w9 ⟨m, rfl, hm, H⟩
    refine ptr_some ⟨_, _, _, H.ld 0 rfl rfl, split_of (fun q => ?_) (fun q => ?_)⟩
    · have q : (m : Int) < ((2 ^ B : Nat) : Int) := of_decide_eq_true q
      refine ptr_some ⟨_, _, _, H.ld 0 rfl rfl, ⟨by omega, q⟩, adr_some ?_⟩
      rw [ix1, Nat.zero_add]
      refine H.st 1 rfl (by rw [ints_size]; show m < (List.replicate m (1 : Int) ++ List.replicate (2 ^ B - m) 0).length; simp; omega) fun w10 H => ?_
      rintro z17 rfl
      rw [w64 (by omega) (by omega)]
      refine ⟨⟨m + 1, by omega, by omega, ?_⟩, by show 2 ^ B - ((m : Int) + 1).toNat < 2 ^ B - (m : Int).toNat; omega⟩
      have e := rep_set m (2 ^ B - m) (by omega) 1 0
      rw [ints_set] at H
      have H : St W No w10 [blk b (R0 κ B h t r cb tb sb (List.replicate m 1 ++ List.replicate (2 ^ B - m) 0)).root 94, blk cb (ints .i64 ((List.replicate m (1 : Int) ++ List.replicate (2 ^ B - m) 0).set m 1)) 3, blk tb (rows tgtR (List.replicate (2 ^ t) (0, 0, false))) 99, blk sb (ints .u32 (List.replicate r 0)) 35] := H
      rw [e] at H
      exact H
    · have q : ¬ (m : Int) < ((2 ^ B : Nat) : Int) := of_decide_eq_false q
      obtain rfl : m = 2 ^ B := by omega
      rw [Nat.sub_self, List.replicate_zero, List.append_nil] at H
      refine ⟨(b, cb, tb, sb), rfl, ?_⟩
      have H : St W No w9 (refA b (R0 κ B h t r cb tb sb (List.replicate (2 ^ B) 1)) :: []) := St.shut (L' := []) H
      exact H.new 0 rfl
theorem rnew_bad (W : World) (κ B h t r : Int) (hb : ¬ fits κ B h t r) :
    Calls Tryd.prog 13 #[.agg (cfgC κ B h t r)] W fun e w => e = .returned (.tuple #[.pointer none, .int .i64 2]) ∧ Hush W w := by
  refine vc13 _ ((St.nil W).al fun k w2 H => ⟨κ, H.ld 0 rfl rfl, split_of (fun _ => ⟨rfl, H.touch⟩) (fun q1 => ⟨κ, H.ld 0 rfl rfl, split_of (fun _ => ⟨rfl, H.touch⟩) (fun q2 => ?_)⟩)⟩)
  refine ⟨B, H.ld 0 rfl rfl, split_of (fun _ => ⟨rfl, H.touch⟩) (fun q3 => ⟨B, H.ld 0 rfl rfl, split_of (fun _ => ⟨rfl, H.touch⟩) (fun q4 => ?_)⟩)⟩
  refine ⟨h, H.ld 0 rfl rfl, split_of (fun _ => ⟨rfl, H.touch⟩) (fun q5 => ⟨h, H.ld 0 rfl rfl, B, H.ld 0 rfl rfl, split_of (fun _ => ⟨rfl, H.touch⟩) (fun q6 => ?_)⟩)⟩
  refine ⟨t, H.ld 0 rfl rfl, split_of (fun _ => ⟨rfl, H.touch⟩) (fun q7 => ⟨t, H.ld 0 rfl rfl, split_of (fun _ => ⟨rfl, H.touch⟩) (fun q8 => ?_)⟩)⟩
  refine ⟨r, H.ld 0 rfl rfl, split_of (fun _ => ⟨rfl, H.touch⟩) (fun q9 => ⟨r, H.ld 0 rfl rfl, split_of (fun _ => ⟨rfl, H.touch⟩) (fun q10 => ?_)⟩)⟩
  have q1 := of_decide_eq_false q1
  have q2 := of_decide_eq_false q2
  have q3 := of_decide_eq_false q3
  have q4 := of_decide_eq_false q4
  have q5 := of_decide_eq_false q5
  have q6 := of_decide_eq_false q6
  have q7 := of_decide_eq_false q7
  have q8 := of_decide_eq_false q8
  have q9 := of_decide_eq_false q9
  have q10 := of_decide_eq_false q10
  exact absurd (show fits κ B h t r by unfold fits; omega) hb
/-! ### the same: a plain law -/
structure Rel (S : PS) (D : Dir) (T : List Tgt) (R : RS) : Prop where
  pg : Pg S D T R.t
  ok : R.Ok
  hist : S.hist = R.hist
  mask : S.mask = ((2 ^ R.h - 1 : Nat) : Int)
  stack : S.stack = R.stack
  top : S.top = R.top
  tg : T = R.T
  dir : (R.κ = 0 ∧ D = .fixed false) ∨ (R.κ = 1 ∧ D = .fixed true) ∨ (R.κ = 2 ∧ ∃ cb, D = .tab false cb R.B R.C) ∨ (R.κ = 3 ∧ ∃ cb, D = .tab true cb R.B R.C)
theorem class8 : classP 8 = 2 := by decide
theorem class28 : classP 28 = 0 := by decide
theorem class_op (o : OpS) : (classP o.op = 2 ↔ o.wh = 1) ∧ (o.op = 3 ↔ o.wh = 2) ∧ (o.op = 4 ↔ o.wh = 3) ∧ (classP o.op = 3 ↔ (o.wh = 2 ∨ o.wh = 3)) ∧ 0 < o.op ∧ o.op < 68 ∧ (o.wh = 0 ∨ o.wh = 1 ∨ o.wh = 2 ∨ o.wh = 3) := by
  unfold OpS.op OpS.wh
  split
  · rw [class8]; decide
  · split
    · rw [class3]; decide
    · split
      · rw [class4]; decide
      · rw [class28]; decide
theorem rets_iff (o : OpS) : o.I.rets = true ↔ o.J.what = 3 ∧ o.J.rs1 = 1 ∧ o.J.rd = 0 := by
  have := (class_op o).2.2.1
  show ((o.op == 4 && (o.rs1 == 1 && o.rd == 0)) = true) ↔ _
  simp only [Bool.and_eq_true, beq_iff_eq]
  exact and_congr this Iff.rfl
theorem calls_iff (o : OpS) : o.I.calls = true ↔ (o.J.what = 2 ∨ o.J.what = 3) ∧ o.J.rd = 1 := by
  have := (class_op o).2.2.2.1
  show ((classP o.op == 3 && o.rd == 1) = true) ↔ _
  simp only [Bool.and_eq_true, beq_iff_eq]
  exact and_congr this Iff.rfl
theorem or_one (x : Nat) : 2 * x ||| 1 = 2 * x + 1 := by
  have := Nat.two_pow_add_eq_or_of_lt (i := 1) (b := 1) (by decide) x
  simpa using this.symm
/-- the history behind a branch -/
theorem nh_eq {x H : Nat} (hH : H ≤ 10) (hx : x < 2 ^ H) (t : Bool) : nh (x : Int) ((2 ^ H - 1 : Nat) : Int) t = (((2 * x + t.toNat) % 2 ^ H : Nat) : Int) := by
  have hP := pow_le hH
  have e1 : nh1 (x : Int) = ((2 * x : Nat) : Int) := by
    unfold nh1
    rw [show ((x : Int) * 2 ^ min 1 (IntKind.bits .i64)) = ((2 * x : Nat) : Int) by show (x : Int) * 2 ^ 1 = _; omega]
    exact Bits.n64 (by omega)
  unfold nh
  rw [e1]
  have e3 : ∀ y : Nat, y < 4096 → nh3 (y : Int) ((2 ^ H - 1 : Nat) : Int) = ((y % 2 ^ H : Nat) : Int) := by
    intro y hy
    unfold nh3
    rw [Bits.land64 (by omega) (by omega), Bits.mask]
  cases t
  · rw [if_neg (by decide), e3 _ (by omega)]
    rfl
  · rw [if_pos rfl]
    have e2 : nh2 ((2 * x : Nat) : Int) = ((2 * x + 1 : Nat) : Int) := by
      unfold nh2
      rw [show (1 : Int) = ((1 : Nat) : Int) from rfl, Bits.lor64 (by omega) (by decide), or_one]
    rw [e2, e3 _ (by omega)]
    rfl
theorem ix_mix (B pc h : Nat) (hh : h < 1024) : ixOf true B pc h = (pc / 4 ^^^ h) % 2 ^ B := by
  have e : h * 4 % 4294967296 = h * 4 := Nat.mod_eq_of_lt (by omega)
  have e2 : (pc ^^^ h * 4) / 4 = pc / 4 ^^^ h := by
    have := Nat.xor_div_two_pow (a := pc) (b := h * 4) (n := 2)
    rw [show 2 ^ 2 = 4 from rfl, Nat.mul_div_cancel _ (by decide : 0 < 4)] at this
    exact this
  unfold ixOf
  rw [if_pos rfl, e, e2]
theorem Rel.ix {S : PS} {D : Dir} {T : List Tgt} {R : RS} (h : Rel S D T R) {cb : Nat} {mix : Bool} (hm : (mix = false ∧ R.κ = 2) ∨ (mix = true ∧ R.κ = 3)) (pc x : Nat) (hx : x < 1024) : ixOf mix R.B pc x = R.ix pc x := by
  unfold RS.ix
  rcases hm with ⟨rfl, e⟩ | ⟨rfl, e⟩
  · rw [if_neg (by omega)]; rfl
  · rw [if_pos e]; exact ix_mix _ _ _ hx
theorem Rel.guess {S : PS} {D : Dir} {T : List Tgt} {R : RS} (h : Rel S D T R) (pc x : Nat) (hx : x < 1024) (imm : Int) : D.guess pc x imm = if R.κ = 1 then decide (imm < 0) else if R.κ = 2 ∨ R.κ = 3 then decide (R.C.getD (R.ix pc x) 0 > 1) else false := by
  rcases h.dir with ⟨e, rfl⟩ | ⟨e, rfl⟩ | ⟨e, cb, rfl⟩ | ⟨e, cb, rfl⟩
  · rw [if_neg (by omega), if_neg (by omega)]; rfl
  · rw [if_pos e]; simp [Dir.guess]
  · rw [if_neg (by omega), if_pos (by omega), ← h.ix (cb := cb) (.inl ⟨rfl, e⟩) pc x hx]; rfl
  · rw [if_neg (by omega), if_pos (by omega), ← h.ix (cb := cb) (.inr ⟨rfl, e⟩) pc x hx]; rfl
theorem Rel.histlt {S : PS} {D : Dir} {T : List Tgt} {R : RS} (h : Rel S D T R) : R.hist < 1024 := by
  have h1 := (pow_le (Nat.le_trans h.ok.hh h.ok.hB)).2
  have h2 := h.ok.hhist
  omega
theorem Rel.takes {S : PS} {D : Dir} {T : List Tgt} {R : RS} (h : Rel S D T R) (pc : Nat) (o : OpS) : S.takes D pc o.I = R.takes pc o.J := by
  have hc := (class_op o).1
  unfold PS.takes RS.takes
  by_cases e : o.wh = 1
  · rw [if_pos (show o.J.what = 1 from e), show (classP o.I.op == 2) = true from beq_iff_eq.2 (hc.2 e), Bool.true_and, h.hist, Int.toNat_natCast]
    exact h.guess pc R.hist h.histlt o.imm
  · rw [if_neg (show ¬ o.J.what = 1 from e), show (classP o.I.op == 2) = false from by rw [Bool.eq_false_iff]; exact fun q => e (hc.1 (beq_iff_eq.1 q)), Bool.false_and]
theorem Rel.next {S : PS} {D : Dir} {T : List Tgt} {R : RS} (h : Rel S D T R) (pc : Nat) (o : OpS) : S.nextG D T pc o.I = R.next pc o.J := by
  have hc := class_op o
  have ht := h.takes pc o
  unfold PS.nextG RS.next
  by_cases e : o.wh = 1
  · have ht2 : D.guess pc S.hist.toNat o.I.imm = R.takes pc o.J := by
      rw [← ht]; unfold PS.takes
      rw [show (classP o.I.op == 2) = true from beq_iff_eq.2 (hc.1.2 e), Bool.true_and]
    rw [if_pos (show classP o.I.op = 2 from hc.1.2 e), if_pos (show o.J.what = 1 from e), ht2]
    rfl
  · rw [if_neg (show ¬ classP o.I.op = 2 from fun q => e (hc.1.1 q)), if_neg (show ¬ o.J.what = 1 from e)]
    by_cases e2 : o.wh = 2
    · rw [if_pos (show o.I.op = 3 from hc.2.1.2 e2), if_pos (show o.J.what = 2 from e2)]
      rfl
    · rw [if_neg (show ¬ o.I.op = 3 from fun q => e2 (hc.2.1.1 q)), if_neg (show ¬ o.J.what = 2 from e2)]
      have hr := rets_iff o
      by_cases e3 : o.wh = 3
      · rw [if_pos (show o.J.what = 3 from e3)]
        by_cases e4 : o.J.rs1 = 1 ∧ o.J.rd = 0
        · rw [if_pos (hr.2 ⟨e3, e4⟩), if_pos e4, h.stack, h.top]
        · rw [if_neg (fun q => e4 (hr.1 q).2), if_neg e4, if_pos (show o.I.op = 4 from hc.2.2.1.2 e3), h.tg]
      · rw [if_neg (show ¬ o.J.what = 3 from e3), if_neg (fun q => e3 (hr.1 q).1), if_neg (show ¬ o.I.op = 4 from fun q => e3 (hc.2.2.1.1 q))]
theorem Rel.on {S : PS} {D : Dir} {T : List Tgt} {R : RS} (h : Rel S D T R) (pc : Nat) (o : OpS) (t : Bool) : Rel (S.on pc o.I t) D T (R.on pc o.J t) := by
  have hc := class_op o
  have ho := on_ok h.ok pc o.J t
  have hH := Nat.le_trans h.ok.hh h.ok.hB
  have hP := pow_le hH
  unfold PS.on RS.on at *
  by_cases e : o.wh = 1
  · rw [if_pos (show classP o.I.op = 2 from hc.1.2 e)]
    rw [if_pos (show o.J.what = 1 from e)] at ho ⊢
    have e2 : nh S.hist S.mask t = (((2 * R.hist + t.toNat) % 2 ^ R.h : Nat) : Int) := by rw [h.hist, h.mask]; exact nh_eq hH h.ok.hhist t
    have hlt := Nat.mod_lt (2 * R.hist + t.toNat) (show 0 < 2 ^ R.h by omega)
    exact ⟨⟨h.pg.dir, h.pg.dok, h.pg.tc, h.pg.tn, h.pg.tl, h.pg.tb, by show 0 ≤ nh S.hist S.mask t; rw [e2]; omega, by show nh S.hist S.mask t < _; rw [e2]; omega⟩, ho, e2, h.mask, h.stack, h.top, h.tg, h.dir⟩
  · rw [if_neg (show ¬ classP o.I.op = 2 from fun q => e (hc.1.1 q))]
    rw [if_neg (show ¬ o.J.what = 1 from e)] at ho ⊢
    have hr := rets_iff o
    have hk := calls_iff o
    by_cases e2 : o.J.what = 3 ∧ o.J.rs1 = 1 ∧ o.J.rd = 0
    · rw [if_pos (hr.2 e2)]
      rw [if_pos e2] at ho ⊢
      exact ⟨⟨h.pg.dir, h.pg.dok, h.pg.tc, h.pg.tn, h.pg.tl, h.pg.tb, h.pg.h0, h.pg.h1⟩, ho, h.hist, h.mask, h.stack, by show (S.top + S.stack.length - 1) % S.stack.length = (R.top + R.r - 1) % R.r; rw [h.top, h.stack, h.ok.hs], h.tg, h.dir⟩
    · rw [if_neg (fun q => e2 (hr.1 q))]
      rw [if_neg e2] at ho ⊢
      have h0 : (o.J.what ≠ 0 ∧ o.J.rd = 1) ↔ ((o.J.what = 2 ∨ o.J.what = 3) ∧ o.J.rd = 1) := by
        have := hc.2.2.2.2.2.2
        have e' : ¬ o.J.what = 1 := e
        have this : o.J.what = 0 ∨ o.J.what = 1 ∨ o.J.what = 2 ∨ o.J.what = 3 := this
        omega
      by_cases e3 : o.J.what ≠ 0 ∧ o.J.rd = 1
      · rw [if_pos (hk.2 (h0.1 e3))]
        rw [if_pos e3] at ho ⊢
        exact ⟨⟨h.pg.dir, h.pg.dok, h.pg.tc, h.pg.tn, h.pg.tl, h.pg.tb, h.pg.h0, h.pg.h1⟩, ho, h.hist, h.mask, by show S.stack.set _ _ = R.stack.set _ _; rw [h.top, h.stack, h.ok.hs], by show (S.top + 1) % S.stack.length = (R.top + 1) % R.r; rw [h.top, h.stack, h.ok.hs], h.tg, h.dir⟩
      · rw [if_neg (fun q => e3 (h0.2 (hk.1 q)))]
        rw [if_neg e3] at ho ⊢
        exact h
theorem Rel.whole {S : PS} {D : Dir} {T : List Tgt} {R : RS} (h : Rel S D T R) (mh mt : Int) : S.whole mh mt = R.whole mh mt := by
  have hP := pow_le (Nat.le_trans h.ok.hh h.ok.hB)
  have hm := h.mask
  have hl : S.stack.length = R.r := by rw [h.stack]; exact h.ok.hs
  rw [Bool.eq_iff_iff]
  constructor
  · intro e
    obtain ⟨a, b, c, d⟩ := whole_iff e
    unfold RS.whole
    rw [if_pos (by simp; omega), if_pos (by rw [decide_eq_true_eq]; omega), if_pos (by simp; omega)]
    rw [decide_eq_true_eq]; omega
  · intro e
    obtain ⟨a, b, c, d⟩ := rwhole_iff e
    unfold PS.whole
    rw [if_pos (by rw [Bool.and_eq_true, decide_eq_true_eq, decide_eq_true_eq]; omega)]
    rw [Bool.and_eq_true, decide_eq_true_eq, decide_eq_true_eq]; omega
theorem Rel.restored {S : PS} {D : Dir} {T : List Tgt} {R : RS} (h : Rel S D T R) (mh mt mv : Int) (pc : Nat) (o : OpS) (t : Bool) : Rel (S.restored mh mt mv pc o.I t) D T (R.restored mh mt mv pc o.J t) := by
  have hw := h.whole mh mt
  unfold PS.restored RS.restored
  by_cases e : R.whole mh mt = true
  · rw [if_pos (hw.trans e), if_pos e]
    have hb := back_ok h.ok e mv
    obtain ⟨a, b, c, d⟩ := rwhole_iff e
    have hP := pow_le (Nat.le_trans h.ok.hh h.ok.hB)
    have : Rel (S.back mh mt.toNat mv) D T { R with hist := mh.toNat, top := mt.toNat, stack := R.stack.set mt.toNat mv } :=
      ⟨⟨h.pg.dir, h.pg.dok, h.pg.tc, h.pg.tn, h.pg.tl, h.pg.tb, a, by show mh < _; omega⟩, hb, by show mh = (mh.toNat : Int); omega, h.mask, by show S.stack.set _ _ = R.stack.set _ _; rw [h.stack], rfl, h.tg, h.dir⟩
    exact this.on pc o t
  · rw [if_neg (fun q => e (hw.symm.trans q)), if_neg e]
    exact h
theorem Rel.learned {S : PS} {D : Dir} {T : List Tgt} {R : RS} (h : Rel S D T R) (mh mt : Int) (pc : Nat) (o : OpS) (t : Bool) (to : Int) :
    Rel (S.tgts (S.learnT T mh mt pc o.I to)) (S.learnD D mh mt pc o.I t) (S.learnT T mh mt pc o.I to) (R.learned mh mt pc o.J t to) := by
  have hw := h.whole mh mt
  have hc := class_op o
  have ho := learned_ok h.ok mh mt pc o.J t to
  unfold PS.learnT PS.learnD RS.learned at *
  by_cases e : R.whole mh mt = true
  · rw [if_pos (hw.trans e), if_pos (hw.trans e)]
    rw [if_pos e] at ho ⊢
    obtain ⟨a, b, c, d⟩ := rwhole_iff e
    have hP := pow_le (Nat.le_trans h.ok.hh h.ok.hB)
    by_cases e1 : o.wh = 1
    · rw [if_pos (show classP o.I.op = 2 from hc.1.2 e1), if_pos (show classP o.I.op = 2 from hc.1.2 e1), tgts_self h.pg.tc]
      rw [if_pos (show o.J.what = 1 from e1)] at ho ⊢
      refine ⟨h.pg.learn pc mh.toNat t, ho, h.hist, h.mask, h.stack, h.top, h.tg, ?_⟩
      rcases h.dir with ⟨e, rfl⟩ | ⟨e, rfl⟩ | ⟨e, cb, rfl⟩ | ⟨e, cb, rfl⟩
      · exact .inl ⟨e, rfl⟩
      · exact .inr (.inl ⟨e, rfl⟩)
      · refine .inr (.inr (.inl ⟨e, cb, ?_⟩))
        have := h.ix (cb := cb) (.inl ⟨rfl, e⟩) pc mh.toNat (by omega)
        show Dir.tab false cb R.B _ = Dir.tab false cb R.B _
        rw [this]
      · refine .inr (.inr (.inr ⟨e, cb, ?_⟩))
        have := h.ix (cb := cb) (.inr ⟨rfl, e⟩) pc mh.toNat (by omega)
        show Dir.tab true cb R.B _ = Dir.tab true cb R.B _
        rw [this]
    · rw [if_neg (show ¬ classP o.I.op = 2 from fun q => e1 (hc.1.1 q)), if_neg (show ¬ classP o.I.op = 2 from fun q => e1 (hc.1.1 q))]
      rw [if_neg (show ¬ o.J.what = 1 from e1)] at ho ⊢
      by_cases e3 : o.wh = 3
      · rw [if_pos (show o.I.op = 4 from hc.2.2.1.2 e3)]
        rw [if_pos (show o.J.what = 3 from e3)] at ho ⊢
        have hr := rets_iff o
        by_cases e4 : o.J.rs1 = 1 ∧ o.J.rd = 0
        · rw [if_pos (hr.2 ⟨e3, e4⟩), tgts_self h.pg.tc]
          rw [if_pos e4]
          exact h
        · rw [if_neg (fun q => e4 (hr.1 q).2)]
          rw [if_neg e4] at ho ⊢
          exact ⟨⟨h.pg.dir, h.pg.dok, rfl, h.pg.tn, by rw [List.length_set]; exact h.pg.tl, h.pg.tb, h.pg.h0, h.pg.h1⟩, ho, h.hist, h.mask, h.stack, h.top, by show T.set _ _ = R.T.set _ _; rw [h.tg], h.dir⟩
      · rw [if_neg (show ¬ o.I.op = 4 from fun q => e3 (hc.2.2.1.1 q)), if_neg (show ¬ o.J.what = 3 from e3), tgts_self h.pg.tc]
        exact h
  · rw [if_neg (fun q => e (hw.symm.trans q)), if_neg (fun q => e (hw.symm.trans q)), if_neg e, tgts_self h.pg.tc]
    exact h
end Go.Proofs.YtgcakilmmeopaaaDoor
