/- Part W: encoding, of the program. -/
import Derived.Test.YtnkeghnnppoopaaDoorIsaU
import Derived.Test.YtnkeghnnppoopaaDoorIsaV
import Derived.Test.YtnkeghnnppoopaaDoorIsaM
namespace Go.Proofs.YtnkeghnnppoopaaDoor
open Go.RowKit Go.XHeap
set_option linter.unusedVariables false

theorem bv_parts (X M : BitVec 32) : (X &&& M) &&& (X &&& ~~~M) = 0#32 ∧ (X &&& M) ||| (X &&& ~~~M) = X := by
  constructor
  · apply BitVec.eq_of_getLsbD_eq
    intro i hi
    simp only [BitVec.getLsbD_and, BitVec.getLsbD_not, hi, decide_true, Bool.true_and, BitVec.getLsbD_zero]
    cases X.getLsbD i <;> cases M.getLsbD i <;> rfl
  · apply BitVec.eq_of_getLsbD_eq
    intro i hi
    simp only [BitVec.getLsbD_or, BitVec.getLsbD_and, BitVec.getLsbD_not, hi, decide_true, Bool.true_and]
    cases X.getLsbD i <;> cases M.getLsbD i <;> rfl
theorem nat_join_mask (x m : Nat) (hx : x < 4294967296) (hm : m < 4294967296) : (x &&& m) ||| (x - (x &&& m)) = x := by
  obtain ⟨h1, h2⟩ := bv_parts (BitVec.ofNat 32 x) (BitVec.ofNat 32 m)
  have h3 := BitVec.toNat_add_of_and_eq_zero h1
  rw [BitVec.add_eq_or_of_and_eq_zero _ _ h1, h2] at h3
  have e1 : (BitVec.ofNat 32 x &&& BitVec.ofNat 32 m).toNat = x &&& m := by
    rw [BitVec.toNat_and, BitVec.toNat_ofNat, BitVec.toNat_ofNat, Nat.mod_eq_of_lt (by omega), Nat.mod_eq_of_lt (by omega)]
  have e2 : (BitVec.ofNat 32 x).toNat = x := by rw [BitVec.toNat_ofNat, Nat.mod_eq_of_lt (by omega)]
  have h4 := congrArg BitVec.toNat h2
  rw [BitVec.toNat_or, e1, e2] at h4
  rw [e1, e2] at h3
  rw [show x - (x &&& m) = (BitVec.ofNat 32 x &&& ~~~BitVec.ofNat 32 m).toNat by omega]
  exact h4
theorem u32_join (x m v : Int) (x0 : 0 ≤ x) (x1 : x < 4294967296) (m0 : 0 ≤ m) (m1 : m < 4294967296) (v0 : 0 ≤ v) (h : bits .and .u32 x m = v) (hv : v ≤ x) : bits .or .u32 v (x - v) = x ∧ bits .or .u32 (x - v) v = x := by
  rw [u32_and _ _ x0 x1 m0 m1] at h
  have hj := nat_join_mask x.toNat m.toNat (by omega) (by omega)
  have hv' : x.toNat &&& m.toNat = v.toNat := by omega
  rw [hv'] at hj
  rw [u32_or v (x - v) v0 (by omega) (by omega) (by omega), u32_or (x - v) v (by omega) (by omega) v0 (by omega), show (x - v).toNat = x.toNat - v.toNat by omega, Nat.or_comm (x.toNat - v.toNat), hj]
  omega
theorem fld_bd (op rd rs1 rs2 imm : Int) (o1 : 1 ≤ op) (o2 : op ≤ 67) (d0 : 0 ≤ rd) (d1 : rd < 32) (a0 : 0 ≤ rs1) (a1 : rs1 < 32) (b0 : 0 ≤ rs2) (b1 : rs2 < 32) (ho : okF (shP op).1 rd rs1 rs2 imm) :
    let x := (shP op).2.2 + fldF (shP op).1 rd rs1 rs2 imm
    0 ≤ x ∧ x < 4294967296 ∧ Mt op x ∧ readT (shP op).1 x = (rd, rs1, rs2, imm) ∧ bits .or .u32 (fldF (shP op).1 rd rs1 rs2 imm) (shP op).2.2 = x ∧ bits .or .u32 (shP op).2.2 (fldF (shP op).1 rd rs1 rs2 imm) = x := by
  obtain ⟨f0, f1, hm, hk, v0, v1⟩ := forms_at op o1 o2
  obtain ⟨x0, x1, hM, hr⟩ := enc_there (shP op).1 (shP op).2.2 rd rs1 rs2 imm f0 f1 hk v0 v1 d0 d1 a0 a1 b0 b1 ho
  have hMt := (mt_arith op o1 o2 _ x0 x1).2 hM
  have hml : 0 ≤ (shP op).2.1 ∧ (shP op).2.1 < 4294967296 := by
    rw [hm]
    generalize (shP op).1 = f at *
    unfold maskP
    split <;> omega
  have hfl : 0 ≤ fldF (shP op).1 rd rs1 rs2 imm := by
    have h2 : bits .and .u32 ((shP op).2.2 + fldF (shP op).1 rd rs1 rs2 imm) (shP op).2.1 = (shP op).2.2 := hMt
    rw [u32_and _ _ x0 x1 hml.1 hml.2] at h2
    have h3 : (((shP op).2.2 + fldF (shP op).1 rd rs1 rs2 imm).toNat &&& (shP op).2.1.toNat) ≤ ((shP op).2.2 + fldF (shP op).1 rd rs1 rs2 imm).toNat := Nat.and_le_left
    omega
  have hj := u32_join _ _ _ x0 x1 hml.1 hml.2 v0 hMt (by omega)
  rw [show (shP op).2.2 + fldF (shP op).1 rd rs1 rs2 imm - (shP op).2.2 = fldF (shP op).1 rd rs1 rs2 imm by omega] at hj
  exact ⟨x0, x1, hMt, hr, hj.2, hj.1⟩
def EncY (y : Int) (w : World) (e : Ending) (w' : World) : Prop := e = .returned (.tuple #[.int .u32 y, .bool true]) ∧ Grown w w'
def EncN (w : World) (e : Ending) (w' : World) : Prop := e = .returned (.tuple #[.int .u32 0, .bool false]) ∧ Grown w w'
def INS (op rd rs1 rs2 imm : Int) : Array Value := #[.int .i64 op, .int .i64 rd, .int .i64 rs1, .int .i64 rs2, .int .i64 imm]
set_option maxRecDepth 100000 in
set_option maxHeartbeats 1000000 in
theorem encode_op (op rd rs1 rs2 imm : Int) (h : op ≤ 0 ∨ 68 ≤ op) (w : World) : Calls Tryd.prog 6 #[.agg #[.int .i64 op, .int .i64 rd, .int .i64 rs1, .int .i64 rs2, .int .i64 imm]] w (EncN w) := by
  rcases h with h | h
  · go_enter Tryd.func6, Tryd.ntmps6
    go_wp2
    go_ret2
    exact ⟨rfl, (Grown.refl _).alloc _ _⟩
  · have h2 : 1 ≤ op := by omega
    go_enter Tryd.func6, Tryd.ntmps6
    go_wp2
    go_ret2
    exact ⟨rfl, (Grown.refl _).alloc _ _⟩
def EncF (ok : Bool) (v : Int) (Y : Int → Prop) (w : World) (e : Ending) (w' : World) : Prop := (∃ y, Y y ∧ e = .returned (.tuple #[.int .u32 (if ok = true then bits .or .u32 y v else 0), .bool ok])) ∧ Grown w w'
theorem idx0 (a b c : Int) (w : World) : (Instr.index 46 (.agg #[.int .i64 a, .int .i64 b, .int .i64 c]) (.int .i64 0)).run Tryd.prog w = .ok (.int .i64 a) w := by kernel_rfl
theorem idx1 (a b c : Int) (w : World) : (Instr.index 46 (.agg #[.int .i64 a, .int .i64 b, .int .i64 c]) (.int .i64 1)).run Tryd.prog w = .ok (.int .i64 b) w := by kernel_rfl
theorem idx2 (a b c : Int) (w : World) : (Instr.index 46 (.agg #[.int .i64 a, .int .i64 b, .int .i64 c]) (.int .i64 2)).run Tryd.prog w = .ok (.int .i64 c) w := by kernel_rfl
set_option maxRecDepth 100000 in
set_option maxHeartbeats 1000000 in
theorem encode_reg (op rd rs1 rs2 imm : Int) (o1 : 1 ≤ op) (o2 : op ≤ 67) (h : (rd < 0 ∨ 32 ≤ rd) ∨ (rs1 < 0 ∨ 32 ≤ rs1) ∨ (rs2 < 0 ∨ 32 ≤ rs2)) (w : World) : Calls Tryd.prog 6 #[.agg #[.int .i64 op, .int .i64 rd, .int .i64 rs1, .int .i64 rs2, .int .i64 imm]] w (EncN w) := by
  have j0 := idx0 rd rs1 rs2; have j1 := idx1 rd rs1 rs2; have j2 := idx2 rd rs1 rs2
  have p5 : (2 : Int) ^ (5 : Int).toNat = 32 := by decide
  have HH := Lib.hid h
  clear h
  by_cases hd : rd < 0 ∨ 32 ≤ rd
  · have L0 := Lib.hid (fun W => low_no rd 5 (by decide) (by decide) (by rw [p5]; exact hd) W)
    clear hd p5
    go_enter Tryd.func6, Tryd.ntmps6
    go_wp2
    go_loop [5, 24] (fun r i => i = .int .i64 0) (fun r i => 3 - (intOf i).toNat)
    case atStart => rfl
    case round =>
      subst hrel
      go_wp2_with (go_at_call 15; refine (L0.out _).mono ?_; rintro e w' ⟨rfl, rfl⟩)
      go_ret2
      exact ⟨rfl, (Grown.refl _).alloc _ _⟩
  · by_cases ha : rs1 < 0 ∨ 32 ≤ rs1
    · have L0 := Lib.hid (fun W => low_yes rd 5 (by decide) (by decide) (by omega) (by rw [p5]; omega) W)
      have L1 := Lib.hid (fun W => low_no rs1 5 (by decide) (by decide) (by rw [p5]; exact ha) W)
      clear hd ha p5
      go_enter Tryd.func6, Tryd.ntmps6
      go_wp2
      go_loop [5, 24] (fun r i => i = .int .i64 0 ∨ i = .int .i64 1) (fun r i => 3 - (intOf i).toNat)
      case atStart => exact .inl rfl
      case round =>
        rcases hrel with rfl | rfl
        · go_wp2_with (go_at_call 15; refine (L0.out _).mono ?_; rintro e w' ⟨rfl, rfl⟩)
          go_round
          case rel => exact .inr rfl
          case measure => simp [intOf]
        · go_wp2_with (go_at_call 15; refine (L1.out _).mono ?_; rintro e w' ⟨rfl, rfl⟩)
          go_ret2
          exact ⟨rfl, (Grown.refl _).alloc _ _⟩
    · have hb : rs2 < 0 ∨ 32 ≤ rs2 := by rcases HH.out with h | h | h <;> first | exact absurd h hd | exact absurd h ha | exact h
      have L0 := Lib.hid (fun W => low_yes rd 5 (by decide) (by decide) (by omega) (by rw [p5]; omega) W)
      have L1 := Lib.hid (fun W => low_yes rs1 5 (by decide) (by decide) (by omega) (by rw [p5]; omega) W)
      have L2 := Lib.hid (fun W => low_no rs2 5 (by decide) (by decide) (by rw [p5]; exact hb) W)
      clear hd ha hb p5
      go_enter Tryd.func6, Tryd.ntmps6
      go_wp2
      go_loop [5, 24] (fun r i => i = .int .i64 0 ∨ i = .int .i64 1 ∨ i = .int .i64 2) (fun r i => 3 - (intOf i).toNat)
      case atStart => exact .inl rfl
      case round =>
        rcases hrel with rfl | rfl | rfl
        · go_wp2_with (go_at_call 15; refine (L0.out _).mono ?_; rintro e w' ⟨rfl, rfl⟩)
          go_round
          case rel => exact .inr (.inl rfl)
          case measure => simp [intOf]
        · go_wp2_with (go_at_call 15; refine (L1.out _).mono ?_; rintro e w' ⟨rfl, rfl⟩)
          go_round
          case rel => exact .inr (.inr rfl)
          case measure => simp [intOf]
        · go_wp2_with (go_at_call 15; refine (L2.out _).mono ?_; rintro e w' ⟨rfl, rfl⟩)
          go_ret2
          exact ⟨rfl, (Grown.refl _).alloc _ _⟩
set_option maxRecDepth 100000 in
set_option maxHeartbeats 1000000 in
theorem encode_fin (op rd rs1 rs2 imm : Int) (o1 : 1 ≤ op) (o2 : op ≤ 67) (d0 : 0 ≤ rd) (d1 : rd < 32) (a0 : 0 ≤ rs1) (a1 : rs1 < 32) (b0 : 0 ≤ rs2) (b1 : rs2 < 32) (ok : Bool) (Y : Int → Prop)
    (hW : ∀ W, Calls Tryd.prog 17 #[.int .i64 (shP op).1, .agg #[.int .i64 op, .int .i64 rd, .int .i64 rs1, .int .i64 rs2, .int .i64 imm]] W fun e w' => (∃ y, Y y ∧ e = .returned (.tuple #[.int .u32 y, .bool ok])) ∧ Grown W w')
    (w : World) (hT : Tab w) : Calls Tryd.prog 6 #[.agg #[.int .i64 op, .int .i64 rd, .int .i64 rs1, .int .i64 rs2, .int .i64 imm]] w (EncF ok (shP op).2.2 Y w) := by
  have j0 := idx0 rd rs1 rs2; have j1 := idx1 rd rs1 rs2; have j2 := idx2 rd rs1 rs2
  have p5 : (2 : Int) ^ (5 : Int).toNat = 32 := by decide
  have L0 := Lib.hid (fun W => low_yes rd 5 (by decide) (by decide) (by omega) (by rw [p5]; omega) W)
  have L1 := Lib.hid (fun W => low_yes rs1 5 (by decide) (by decide) (by omega) (by rw [p5]; omega) W)
  have L2 := Lib.hid (fun W => low_yes rs2 5 (by decide) (by decide) (by omega) (by rw [p5]; omega) W)
  have HS := Lib.hid (fun w1 (h : Tab w1) => shaped_any op (by omega) (by omega) w1 h)
  have HT := Lib.hid hT; have HW := Lib.hid hW
  have HG0 := Lib.hid ((Grown.refl w).alloc #[.int .i64 op, .int .i64 rd, .int .i64 rs1, .int .i64 rs2, .int .i64 imm] 25)
  clear p5 hT hW
  generalize shP op = s at *
  go_enter Tryd.func6, Tryd.ntmps6
  go_wp2
  go_loop [5, 24] (fun r i => i = .int .i64 0 ∨ i = .int .i64 1 ∨ i = .int .i64 2 ∨ i = .int .i64 3) (fun r i => 3 - (intOf i).toNat)
  case atStart => exact .inl rfl
  case round =>
    rcases hrel with rfl | rfl | rfl | rfl
    · go_wp2_with (go_at_call 15; refine (L0.out _).mono ?_; rintro e w' ⟨rfl, rfl⟩)
      go_round
      case rel => exact .inr (.inl rfl)
      case measure => simp [intOf]
    · go_wp2_with (go_at_call 15; refine (L1.out _).mono ?_; rintro e w' ⟨rfl, rfl⟩)
      go_round
      case rel => exact .inr (.inr (.inl rfl))
      case measure => simp [intOf]
    · go_wp2_with (go_at_call 15; refine (L2.out _).mono ?_; rintro e w' ⟨rfl, rfl⟩)
      go_round
      case rel => exact .inr (.inr (.inr rfl))
      case measure => simp [intOf]
    · go_wp2_with fail
      refine (HS.out _ (HT.out.grown HG0.out)).mono ?_
      rintro e w1 ⟨rfl, hg⟩
      have HG1 := Lib.hid (grown_trans HG0.out hg)
      have hB := blk_grown (Blk.new w #[.int .i64 op, .int .i64 rd, .int .i64 rs1, .int .i64 rs2, .int .i64 imm] 25) hg
      have k0 : w1.cell? ⟨w.heap.size, 0, none⟩ = some (.int .i64 op) := hB.cell' (i := 0) rfl
      have k1 : w1.cell? ⟨w.heap.size, 1, none⟩ = some (.int .i64 rd) := hB.cell' (i := 1) rfl
      have k2 : w1.cell? ⟨w.heap.size, 2, none⟩ = some (.int .i64 rs1) := hB.cell' (i := 2) rfl
      have k3 : w1.cell? ⟨w.heap.size, 3, none⟩ = some (.int .i64 rs2) := hB.cell' (i := 3) rfl
      have k4 : w1.cell? ⟨w.heap.size, 4, none⟩ = some (.int .i64 imm) := hB.cell' (i := 4) rfl
      have hlt := hB.lt
      clear hg hB
      go_wp2_with fail
      refine (HW.out _).mono ?_
      rintro e w2 ⟨⟨y, hy, rfl⟩, hg2⟩
      have HY := Lib.hid hy
      have HG2 := Lib.hid (grown_trans (HG1.out.alloc #[.int .i64 s.1, .int .u32 s.2.1, .int .u32 s.2.2] 50) hg2)
      have q2 : w2.cell? ⟨w1.heap.size, 2, none⟩ = some (.int .u32 s.2.2) := (blk_grown (Blk.new w1 #[.int .i64 s.1, .int .u32 s.2.1, .int .u32 s.2.2] 50) hg2).cell' (i := 2) rfl
      clear hg2 k0 k1 k2 k3 k4 hy
      cases ok
      all_goals
        go_wp2
        go_ret2
        exact ⟨⟨y, HY.out, rfl⟩, HG2.out⟩
theorem encode_ok (op rd rs1 rs2 imm : Int) (o1 : 1 ≤ op) (o2 : op ≤ 67) (d0 : 0 ≤ rd) (d1 : rd < 32) (a0 : 0 ≤ rs1) (a1 : rs1 < 32) (b0 : 0 ≤ rs2) (b1 : rs2 < 32) (ho : okF (shP op).1 rd rs1 rs2 imm) (w : World) (hT : Tab w) :
    Calls Tryd.prog 6 #[.agg #[.int .i64 op, .int .i64 rd, .int .i64 rs1, .int .i64 rs2, .int .i64 imm]] w (EncY ((shP op).2.2 + fldF (shP op).1 rd rs1 rs2 imm) w) := by
  obtain ⟨f0, f1, -⟩ := forms_at op o1 o2
  refine (encode_fin op rd rs1 rs2 imm o1 o2 d0 d1 a0 a1 b0 b1 true (fun y => y = fldF (shP op).1 rd rs1 rs2 imm) (fun W => (write_ok _ op rd rs1 rs2 imm f0 f1 d0 d1 a0 a1 b0 b1 ho W).mono fun e w' h => ⟨⟨_, rfl, h.1⟩, h.2⟩) w hT).mono ?_
  rintro e w' ⟨⟨y, rfl, rfl⟩, hg⟩
  rw [if_pos rfl, (fld_bd op rd rs1 rs2 imm o1 o2 d0 d1 a0 a1 b0 b1 ho).2.2.2.2.1]
  exact ⟨rfl, hg⟩
theorem encode_no (op rd rs1 rs2 imm : Int) (o1 : 1 ≤ op) (o2 : op ≤ 67) (d0 : 0 ≤ rd) (d1 : rd < 32) (a0 : 0 ≤ rs1) (a1 : rs1 < 32) (b0 : 0 ≤ rs2) (b1 : rs2 < 32) (m0 : -9223372036854775808 ≤ imm) (m1 : imm ≤ 9223372036854775807) (hn : ¬ okF (shP op).1 rd rs1 rs2 imm) (w : World) (hT : Tab w) :
    Calls Tryd.prog 6 #[.agg #[.int .i64 op, .int .i64 rd, .int .i64 rs1, .int .i64 rs2, .int .i64 imm]] w (EncN w) := by
  obtain ⟨f0, f1, -⟩ := forms_at op o1 o2
  refine (encode_fin op rd rs1 rs2 imm o1 o2 d0 d1 a0 a1 b0 b1 false (fun _ => True) (fun W => (write_no _ op rd rs1 rs2 imm f0 f1 d0 d1 a0 a1 b0 b1 m0 m1 hn W).mono fun e w' ⟨⟨y, h⟩, hg⟩ => ⟨⟨y, trivial, h⟩, hg⟩) w hT).mono ?_
  rintro e w' ⟨⟨y, -, rfl⟩, hg⟩
  exact ⟨rfl, hg⟩
end Go.Proofs.YtnkeghnnppoopaaDoor
