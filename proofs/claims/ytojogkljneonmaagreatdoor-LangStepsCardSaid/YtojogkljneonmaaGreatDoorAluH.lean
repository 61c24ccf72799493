/- Part H: Exec, every operation. -/
import Derived.Test.YtojogkljneonmaaGreatDoorAluG
namespace Go.Proofs.YtojogkljneonmaaGreatDoor.alu
open Go.RowKit
set_option linter.unusedVariables false
set_option maxRecDepth 100000
def execF (op a b : Int) : Int := match op.toNat with
  | 1 => b * 4096 % 4294967296
  | 2 => (a + b * 4096) % 4294967296
  | 19 => (a + b) % 4294967296
  | 20 => sltF a b
  | 21 => sltuF a b
  | 22 => bits .xor .u32 a b
  | 23 => bits .or .u32 a b
  | 24 => bits .and .u32 a b
  | 25 => a * 2 ^ (b % 32).toNat % 4294967296
  | 26 => a / 2 ^ (b % 32).toNat
  | 27 => wrap32 a / 2 ^ (b % 32).toNat % 4294967296
  | 28 => (a + b) % 4294967296
  | 29 => (a - b) % 4294967296
  | 30 => a * 2 ^ (b % 32).toNat % 4294967296
  | 31 => sltF a b
  | 32 => sltuF a b
  | 33 => bits .xor .u32 a b
  | 34 => a / 2 ^ (b % 32).toNat
  | 35 => wrap32 a / 2 ^ (b % 32).toNat % 4294967296
  | 36 => bits .or .u32 a b
  | 37 => bits .and .u32 a b
  | 38 => a * b % 4294967296
  | 39 => mulhF a b
  | 40 => mulhsuF a b
  | 41 => a * b / 4294967296
  | 42 => quoF a b
  | 43 => divuF a b
  | 44 => remF a b
  | 45 => remuF a b
  | _ => 0
theorem eql_func (n : Nat) (w : World) : (Go.binOp .eql 249 (.func (.func n) #[] #[]) .nilFunc).run Tryz.prog w = .ok (.bool false) w := by kernel_rfl
theorem eql_nil (w : World) : (Go.binOp .eql 249 .nilFunc .nilFunc).run Tryz.prog w = .ok (.bool true) w := by kernel_rfl
theorem operation_out (op : Int) (h : op < 0 ∨ 46 ≤ op) (w : World) : Calls Tryz.prog 138 #[.int .i64 op] w fun e w' => e = .returned .nilFunc ∧ Grown w w' := by
  have hG := Lib.hid ((Grown.refl w).alloc FT 260)
  rcases h with h | h
  all_goals
    go_enter Tryz.func138, Tryz.ntmps138
    go_wp2_with (first | refine wpList_run rfl (build_run _ _) ?_ | refine wpList_run rfl (alloc_run _ _) ?_ | (refine wpList_store_row rfl 260 (.tmp 3) (.tmp 4) rfl w.heap.size FT rfl rfl 260 ZT (heap_alloc_new _ _) (by kernel_rfl) (by kernel_rfl) (by kernel_rfl) ?_; rw [World.setRow_alloc_new]; generalize w.alloc (.cells FT 260) = W at hG ⊢))
    go_ret
    exact ⟨rfl, hG.out⟩
theorem operation_none (op : Int) (h : op = 0 ∨ (3 ≤ op ∧ op ≤ 18) ∨ op < 0 ∨ 46 ≤ op) (w : World) : Calls Tryz.prog 138 #[.int .i64 op] w fun e w' => e = .returned .nilFunc ∧ Grown w w' := by
  by_cases ho : op < 0 ∨ 46 ≤ op
  · exact operation_out op ho w
  · have e : fnNo.getD op.toNat 0 = 0 := by
      have h1 : (List.range 46).all (fun i => (i != 0 && (i < 3 || 18 < i)) || fnNo.getD i 0 == 0) = true := by decide +kernel
      have := List.all_eq_true.1 h1 op.toNat (List.mem_range.2 (by omega))
      rw [Bool.or_eq_true] at this
      rcases this with h2 | h2
      · exfalso; simp at h2; omega
      · simpa using h2
    have h2 := operation_any op (by omega) (by omega) w
    rw [e] at h2
    exact h2
theorem exec_none (op : Int) (h : op = 0 ∨ (3 ≤ op ∧ op ≤ 18) ∨ op < 0 ∨ 46 ≤ op) (a b : Int) (w : World) : Calls Tryz.prog 120 #[.int .i64 op, .int .u32 a, .int .u32 b] w (IsU 0 w) := by
  have HO := Lib.hid (operation_none op h w)
  have e := eql_nil
  clear h
  go_enter Tryz.func120, Tryz.ntmps120
  go_wp2_with (go_at_call 138; refine HO.out.mono ?_; rintro e w1 ⟨rfl, hG⟩; have HG := Lib.hid hG; clear hG)
  go_ret
  exact isU_of rfl HG.out
theorem exec_1 (a b : Int) (h0 : 0 ≤ a) (h1 : a < 4294967296) (h2 : 0 ≤ b) (h3 : b < 4294967296) (w : World) : Calls Tryz.prog 120 #[.int .i64 1, .int .u32 a, .int .u32 b] w (IsU (b * 4096 % 4294967296) w) := by
  have ho : Calls Tryz.prog 138 #[.int .i64 1] w fun e w' => e = .returned (.func (.func 148) #[] #[]) ∧ Grown w w' := operation_any 1 (by omega) (by omega) w
  have HO := Lib.hid ho
  have e := eql_func 148
  clear ho
  go_enter Tryz.func120, Tryz.ntmps120
  go_wp2_with (first | (go_at_call 138; refine HO.out.mono ?_; rintro e w1 ⟨rfl, hG⟩; have HG := Lib.hid hG; clear hG) | (go_at_call 148; refine (fn24 _ _ h0 h1 h2 h3 _).mono ?_; rintro e w2 ⟨rfl, hG⟩; have HG := Lib.hid (grown_trans HG.out hG); clear hG))
  go_ret
  exact isU_of rfl HG.out
theorem exec_2 (a b : Int) (h0 : 0 ≤ a) (h1 : a < 4294967296) (h2 : 0 ≤ b) (h3 : b < 4294967296) (w : World) : Calls Tryz.prog 120 #[.int .i64 2, .int .u32 a, .int .u32 b] w (IsU ((a + b * 4096) % 4294967296) w) := by
  have ho : Calls Tryz.prog 138 #[.int .i64 2] w fun e w' => e = .returned (.func (.func 149) #[] #[]) ∧ Grown w w' := operation_any 2 (by omega) (by omega) w
  have HO := Lib.hid ho
  have e := eql_func 149
  clear ho
  go_enter Tryz.func120, Tryz.ntmps120
  go_wp2_with (first | (go_at_call 138; refine HO.out.mono ?_; rintro e w1 ⟨rfl, hG⟩; have HG := Lib.hid hG; clear hG) | (go_at_call 149; refine (fn25 _ _ h0 h1 h2 h3 _).mono ?_; rintro e w2 ⟨rfl, hG⟩; have HG := Lib.hid (grown_trans HG.out hG); clear hG))
  go_ret
  exact isU_of rfl HG.out
theorem exec_19 (a b : Int) (h0 : 0 ≤ a) (h1 : a < 4294967296) (h2 : 0 ≤ b) (h3 : b < 4294967296) (w : World) : Calls Tryz.prog 120 #[.int .i64 19, .int .u32 a, .int .u32 b] w (IsU ((a + b) % 4294967296) w) := by
  have ho : Calls Tryz.prog 138 #[.int .i64 19] w fun e w' => e = .returned (.func (.func 150) #[] #[]) ∧ Grown w w' := operation_any 19 (by omega) (by omega) w
  have HO := Lib.hid ho
  have e := eql_func 150
  clear ho
  go_enter Tryz.func120, Tryz.ntmps120
  go_wp2_with (first | (go_at_call 138; refine HO.out.mono ?_; rintro e w1 ⟨rfl, hG⟩; have HG := Lib.hid hG; clear hG) | (go_at_call 150; refine (fn26 _ _ h0 h1 h2 h3 _).mono ?_; rintro e w2 ⟨rfl, hG⟩; have HG := Lib.hid (grown_trans HG.out hG); clear hG))
  go_ret
  exact isU_of rfl HG.out
theorem exec_20 (a b : Int) (h0 : 0 ≤ a) (h1 : a < 4294967296) (h2 : 0 ≤ b) (h3 : b < 4294967296) (w : World) : Calls Tryz.prog 120 #[.int .i64 20, .int .u32 a, .int .u32 b] w (IsU (sltF a b) w) := by
  have ho : Calls Tryz.prog 138 #[.int .i64 20] w fun e w' => e = .returned (.func (.func 151) #[] #[]) ∧ Grown w w' := operation_any 20 (by omega) (by omega) w
  have HO := Lib.hid ho
  have e := eql_func 151
  clear ho
  go_enter Tryz.func120, Tryz.ntmps120
  go_wp2_with (first | (go_at_call 138; refine HO.out.mono ?_; rintro e w1 ⟨rfl, hG⟩; have HG := Lib.hid hG; clear hG) | (go_at_call 151; refine (fn27 _ _ h0 h1 h2 h3 _).mono ?_; rintro e w2 ⟨rfl, hG⟩; have HG := Lib.hid (grown_trans HG.out hG); clear hG))
  go_ret
  exact isU_of rfl HG.out
theorem exec_21 (a b : Int) (h0 : 0 ≤ a) (h1 : a < 4294967296) (h2 : 0 ≤ b) (h3 : b < 4294967296) (w : World) : Calls Tryz.prog 120 #[.int .i64 21, .int .u32 a, .int .u32 b] w (IsU (sltuF a b) w) := by
  have ho : Calls Tryz.prog 138 #[.int .i64 21] w fun e w' => e = .returned (.func (.func 152) #[] #[]) ∧ Grown w w' := operation_any 21 (by omega) (by omega) w
  have HO := Lib.hid ho
  have e := eql_func 152
  clear ho
  go_enter Tryz.func120, Tryz.ntmps120
  go_wp2_with (first | (go_at_call 138; refine HO.out.mono ?_; rintro e w1 ⟨rfl, hG⟩; have HG := Lib.hid hG; clear hG) | (go_at_call 152; refine (fn28 _ _ h0 h1 h2 h3 _).mono ?_; rintro e w2 ⟨rfl, hG⟩; have HG := Lib.hid (grown_trans HG.out hG); clear hG))
  go_ret
  exact isU_of rfl HG.out
theorem exec_22 (a b : Int) (h0 : 0 ≤ a) (h1 : a < 4294967296) (h2 : 0 ≤ b) (h3 : b < 4294967296) (w : World) : Calls Tryz.prog 120 #[.int .i64 22, .int .u32 a, .int .u32 b] w (IsU (bits .xor .u32 a b) w) := by
  have ho : Calls Tryz.prog 138 #[.int .i64 22] w fun e w' => e = .returned (.func (.func 153) #[] #[]) ∧ Grown w w' := operation_any 22 (by omega) (by omega) w
  have HO := Lib.hid ho
  have e := eql_func 153
  clear ho
  go_enter Tryz.func120, Tryz.ntmps120
  go_wp2_with (first | (go_at_call 138; refine HO.out.mono ?_; rintro e w1 ⟨rfl, hG⟩; have HG := Lib.hid hG; clear hG) | (go_at_call 153; refine (fn29 _ _ h0 h1 h2 h3 _).mono ?_; rintro e w2 ⟨rfl, hG⟩; have HG := Lib.hid (grown_trans HG.out hG); clear hG))
  go_ret
  exact isU_of rfl HG.out
theorem exec_23 (a b : Int) (h0 : 0 ≤ a) (h1 : a < 4294967296) (h2 : 0 ≤ b) (h3 : b < 4294967296) (w : World) : Calls Tryz.prog 120 #[.int .i64 23, .int .u32 a, .int .u32 b] w (IsU (bits .or .u32 a b) w) := by
  have ho : Calls Tryz.prog 138 #[.int .i64 23] w fun e w' => e = .returned (.func (.func 154) #[] #[]) ∧ Grown w w' := operation_any 23 (by omega) (by omega) w
  have HO := Lib.hid ho
  have e := eql_func 154
  clear ho
  go_enter Tryz.func120, Tryz.ntmps120
  go_wp2_with (first | (go_at_call 138; refine HO.out.mono ?_; rintro e w1 ⟨rfl, hG⟩; have HG := Lib.hid hG; clear hG) | (go_at_call 154; refine (fn30 _ _ h0 h1 h2 h3 _).mono ?_; rintro e w2 ⟨rfl, hG⟩; have HG := Lib.hid (grown_trans HG.out hG); clear hG))
  go_ret
  exact isU_of rfl HG.out
theorem exec_24 (a b : Int) (h0 : 0 ≤ a) (h1 : a < 4294967296) (h2 : 0 ≤ b) (h3 : b < 4294967296) (w : World) : Calls Tryz.prog 120 #[.int .i64 24, .int .u32 a, .int .u32 b] w (IsU (bits .and .u32 a b) w) := by
  have ho : Calls Tryz.prog 138 #[.int .i64 24] w fun e w' => e = .returned (.func (.func 155) #[] #[]) ∧ Grown w w' := operation_any 24 (by omega) (by omega) w
  have HO := Lib.hid ho
  have e := eql_func 155
  clear ho
  go_enter Tryz.func120, Tryz.ntmps120
  go_wp2_with (first | (go_at_call 138; refine HO.out.mono ?_; rintro e w1 ⟨rfl, hG⟩; have HG := Lib.hid hG; clear hG) | (go_at_call 155; refine (fn31 _ _ h0 h1 h2 h3 _).mono ?_; rintro e w2 ⟨rfl, hG⟩; have HG := Lib.hid (grown_trans HG.out hG); clear hG))
  go_ret
  exact isU_of rfl HG.out
theorem exec_25 (a b : Int) (h0 : 0 ≤ a) (h1 : a < 4294967296) (h2 : 0 ≤ b) (h3 : b < 4294967296) (w : World) : Calls Tryz.prog 120 #[.int .i64 25, .int .u32 a, .int .u32 b] w (IsU (a * 2 ^ (b % 32).toNat % 4294967296) w) := by
  have ho : Calls Tryz.prog 138 #[.int .i64 25] w fun e w' => e = .returned (.func (.func 156) #[] #[]) ∧ Grown w w' := operation_any 25 (by omega) (by omega) w
  have HO := Lib.hid ho
  have e := eql_func 156
  clear ho
  go_enter Tryz.func120, Tryz.ntmps120
  go_wp2_with (first | (go_at_call 138; refine HO.out.mono ?_; rintro e w1 ⟨rfl, hG⟩; have HG := Lib.hid hG; clear hG) | (go_at_call 156; refine (fn32 _ _ h0 h1 h2 h3 _).mono ?_; rintro e w2 ⟨rfl, hG⟩; have HG := Lib.hid (grown_trans HG.out hG); clear hG))
  go_ret
  exact isU_of rfl HG.out
theorem exec_26 (a b : Int) (h0 : 0 ≤ a) (h1 : a < 4294967296) (h2 : 0 ≤ b) (h3 : b < 4294967296) (w : World) : Calls Tryz.prog 120 #[.int .i64 26, .int .u32 a, .int .u32 b] w (IsU (a / 2 ^ (b % 32).toNat) w) := by
  have ho : Calls Tryz.prog 138 #[.int .i64 26] w fun e w' => e = .returned (.func (.func 157) #[] #[]) ∧ Grown w w' := operation_any 26 (by omega) (by omega) w
  have HO := Lib.hid ho
  have e := eql_func 157
  clear ho
  go_enter Tryz.func120, Tryz.ntmps120
  go_wp2_with (first | (go_at_call 138; refine HO.out.mono ?_; rintro e w1 ⟨rfl, hG⟩; have HG := Lib.hid hG; clear hG) | (go_at_call 157; refine (fn33 _ _ h0 h1 h2 h3 _).mono ?_; rintro e w2 ⟨rfl, hG⟩; have HG := Lib.hid (grown_trans HG.out hG); clear hG))
  go_ret
  exact isU_of rfl HG.out
theorem exec_27 (a b : Int) (h0 : 0 ≤ a) (h1 : a < 4294967296) (h2 : 0 ≤ b) (h3 : b < 4294967296) (w : World) : Calls Tryz.prog 120 #[.int .i64 27, .int .u32 a, .int .u32 b] w (IsU (wrap32 a / 2 ^ (b % 32).toNat % 4294967296) w) := by
  have ho : Calls Tryz.prog 138 #[.int .i64 27] w fun e w' => e = .returned (.func (.func 158) #[] #[]) ∧ Grown w w' := operation_any 27 (by omega) (by omega) w
  have HO := Lib.hid ho
  have e := eql_func 158
  clear ho
  go_enter Tryz.func120, Tryz.ntmps120
  go_wp2_with (first | (go_at_call 138; refine HO.out.mono ?_; rintro e w1 ⟨rfl, hG⟩; have HG := Lib.hid hG; clear hG) | (go_at_call 158; refine (fn34 _ _ h0 h1 h2 h3 _).mono ?_; rintro e w2 ⟨rfl, hG⟩; have HG := Lib.hid (grown_trans HG.out hG); clear hG))
  go_ret
  exact isU_of rfl HG.out
theorem exec_28 (a b : Int) (h0 : 0 ≤ a) (h1 : a < 4294967296) (h2 : 0 ≤ b) (h3 : b < 4294967296) (w : World) : Calls Tryz.prog 120 #[.int .i64 28, .int .u32 a, .int .u32 b] w (IsU ((a + b) % 4294967296) w) := by
  have ho : Calls Tryz.prog 138 #[.int .i64 28] w fun e w' => e = .returned (.func (.func 150) #[] #[]) ∧ Grown w w' := operation_any 28 (by omega) (by omega) w
  have HO := Lib.hid ho
  have e := eql_func 150
  clear ho
  go_enter Tryz.func120, Tryz.ntmps120
  go_wp2_with (first | (go_at_call 138; refine HO.out.mono ?_; rintro e w1 ⟨rfl, hG⟩; have HG := Lib.hid hG; clear hG) | (go_at_call 150; refine (fn26 _ _ h0 h1 h2 h3 _).mono ?_; rintro e w2 ⟨rfl, hG⟩; have HG := Lib.hid (grown_trans HG.out hG); clear hG))
  go_ret
  exact isU_of rfl HG.out
theorem exec_29 (a b : Int) (h0 : 0 ≤ a) (h1 : a < 4294967296) (h2 : 0 ≤ b) (h3 : b < 4294967296) (w : World) : Calls Tryz.prog 120 #[.int .i64 29, .int .u32 a, .int .u32 b] w (IsU ((a - b) % 4294967296) w) := by
  have ho : Calls Tryz.prog 138 #[.int .i64 29] w fun e w' => e = .returned (.func (.func 159) #[] #[]) ∧ Grown w w' := operation_any 29 (by omega) (by omega) w
  have HO := Lib.hid ho
  have e := eql_func 159
  clear ho
  go_enter Tryz.func120, Tryz.ntmps120
  go_wp2_with (first | (go_at_call 138; refine HO.out.mono ?_; rintro e w1 ⟨rfl, hG⟩; have HG := Lib.hid hG; clear hG) | (go_at_call 159; refine (fn35 _ _ h0 h1 h2 h3 _).mono ?_; rintro e w2 ⟨rfl, hG⟩; have HG := Lib.hid (grown_trans HG.out hG); clear hG))
  go_ret
  exact isU_of rfl HG.out
theorem exec_30 (a b : Int) (h0 : 0 ≤ a) (h1 : a < 4294967296) (h2 : 0 ≤ b) (h3 : b < 4294967296) (w : World) : Calls Tryz.prog 120 #[.int .i64 30, .int .u32 a, .int .u32 b] w (IsU (a * 2 ^ (b % 32).toNat % 4294967296) w) := by
  have ho : Calls Tryz.prog 138 #[.int .i64 30] w fun e w' => e = .returned (.func (.func 156) #[] #[]) ∧ Grown w w' := operation_any 30 (by omega) (by omega) w
  have HO := Lib.hid ho
  have e := eql_func 156
  clear ho
  go_enter Tryz.func120, Tryz.ntmps120
  go_wp2_with (first | (go_at_call 138; refine HO.out.mono ?_; rintro e w1 ⟨rfl, hG⟩; have HG := Lib.hid hG; clear hG) | (go_at_call 156; refine (fn32 _ _ h0 h1 h2 h3 _).mono ?_; rintro e w2 ⟨rfl, hG⟩; have HG := Lib.hid (grown_trans HG.out hG); clear hG))
  go_ret
  exact isU_of rfl HG.out
theorem exec_31 (a b : Int) (h0 : 0 ≤ a) (h1 : a < 4294967296) (h2 : 0 ≤ b) (h3 : b < 4294967296) (w : World) : Calls Tryz.prog 120 #[.int .i64 31, .int .u32 a, .int .u32 b] w (IsU (sltF a b) w) := by
  have ho : Calls Tryz.prog 138 #[.int .i64 31] w fun e w' => e = .returned (.func (.func 151) #[] #[]) ∧ Grown w w' := operation_any 31 (by omega) (by omega) w
  have HO := Lib.hid ho
  have e := eql_func 151
  clear ho
  go_enter Tryz.func120, Tryz.ntmps120
  go_wp2_with (first | (go_at_call 138; refine HO.out.mono ?_; rintro e w1 ⟨rfl, hG⟩; have HG := Lib.hid hG; clear hG) | (go_at_call 151; refine (fn27 _ _ h0 h1 h2 h3 _).mono ?_; rintro e w2 ⟨rfl, hG⟩; have HG := Lib.hid (grown_trans HG.out hG); clear hG))
  go_ret
  exact isU_of rfl HG.out
theorem exec_32 (a b : Int) (h0 : 0 ≤ a) (h1 : a < 4294967296) (h2 : 0 ≤ b) (h3 : b < 4294967296) (w : World) : Calls Tryz.prog 120 #[.int .i64 32, .int .u32 a, .int .u32 b] w (IsU (sltuF a b) w) := by
  have ho : Calls Tryz.prog 138 #[.int .i64 32] w fun e w' => e = .returned (.func (.func 152) #[] #[]) ∧ Grown w w' := operation_any 32 (by omega) (by omega) w
  have HO := Lib.hid ho
  have e := eql_func 152
  clear ho
  go_enter Tryz.func120, Tryz.ntmps120
  go_wp2_with (first | (go_at_call 138; refine HO.out.mono ?_; rintro e w1 ⟨rfl, hG⟩; have HG := Lib.hid hG; clear hG) | (go_at_call 152; refine (fn28 _ _ h0 h1 h2 h3 _).mono ?_; rintro e w2 ⟨rfl, hG⟩; have HG := Lib.hid (grown_trans HG.out hG); clear hG))
  go_ret
  exact isU_of rfl HG.out
theorem exec_33 (a b : Int) (h0 : 0 ≤ a) (h1 : a < 4294967296) (h2 : 0 ≤ b) (h3 : b < 4294967296) (w : World) : Calls Tryz.prog 120 #[.int .i64 33, .int .u32 a, .int .u32 b] w (IsU (bits .xor .u32 a b) w) := by
  have ho : Calls Tryz.prog 138 #[.int .i64 33] w fun e w' => e = .returned (.func (.func 153) #[] #[]) ∧ Grown w w' := operation_any 33 (by omega) (by omega) w
  have HO := Lib.hid ho
  have e := eql_func 153
  clear ho
  go_enter Tryz.func120, Tryz.ntmps120
  go_wp2_with (first | (go_at_call 138; refine HO.out.mono ?_; rintro e w1 ⟨rfl, hG⟩; have HG := Lib.hid hG; clear hG) | (go_at_call 153; refine (fn29 _ _ h0 h1 h2 h3 _).mono ?_; rintro e w2 ⟨rfl, hG⟩; have HG := Lib.hid (grown_trans HG.out hG); clear hG))
  go_ret
  exact isU_of rfl HG.out
theorem exec_34 (a b : Int) (h0 : 0 ≤ a) (h1 : a < 4294967296) (h2 : 0 ≤ b) (h3 : b < 4294967296) (w : World) : Calls Tryz.prog 120 #[.int .i64 34, .int .u32 a, .int .u32 b] w (IsU (a / 2 ^ (b % 32).toNat) w) := by
  have ho : Calls Tryz.prog 138 #[.int .i64 34] w fun e w' => e = .returned (.func (.func 157) #[] #[]) ∧ Grown w w' := operation_any 34 (by omega) (by omega) w
  have HO := Lib.hid ho
  have e := eql_func 157
  clear ho
  go_enter Tryz.func120, Tryz.ntmps120
  go_wp2_with (first | (go_at_call 138; refine HO.out.mono ?_; rintro e w1 ⟨rfl, hG⟩; have HG := Lib.hid hG; clear hG) | (go_at_call 157; refine (fn33 _ _ h0 h1 h2 h3 _).mono ?_; rintro e w2 ⟨rfl, hG⟩; have HG := Lib.hid (grown_trans HG.out hG); clear hG))
  go_ret
  exact isU_of rfl HG.out
theorem exec_35 (a b : Int) (h0 : 0 ≤ a) (h1 : a < 4294967296) (h2 : 0 ≤ b) (h3 : b < 4294967296) (w : World) : Calls Tryz.prog 120 #[.int .i64 35, .int .u32 a, .int .u32 b] w (IsU (wrap32 a / 2 ^ (b % 32).toNat % 4294967296) w) := by
  have ho : Calls Tryz.prog 138 #[.int .i64 35] w fun e w' => e = .returned (.func (.func 158) #[] #[]) ∧ Grown w w' := operation_any 35 (by omega) (by omega) w
  have HO := Lib.hid ho
  have e := eql_func 158
  clear ho
  go_enter Tryz.func120, Tryz.ntmps120
  go_wp2_with (first | (go_at_call 138; refine HO.out.mono ?_; rintro e w1 ⟨rfl, hG⟩; have HG := Lib.hid hG; clear hG) | (go_at_call 158; refine (fn34 _ _ h0 h1 h2 h3 _).mono ?_; rintro e w2 ⟨rfl, hG⟩; have HG := Lib.hid (grown_trans HG.out hG); clear hG))
  go_ret
  exact isU_of rfl HG.out
theorem exec_36 (a b : Int) (h0 : 0 ≤ a) (h1 : a < 4294967296) (h2 : 0 ≤ b) (h3 : b < 4294967296) (w : World) : Calls Tryz.prog 120 #[.int .i64 36, .int .u32 a, .int .u32 b] w (IsU (bits .or .u32 a b) w) := by
  have ho : Calls Tryz.prog 138 #[.int .i64 36] w fun e w' => e = .returned (.func (.func 154) #[] #[]) ∧ Grown w w' := operation_any 36 (by omega) (by omega) w
  have HO := Lib.hid ho
  have e := eql_func 154
  clear ho
  go_enter Tryz.func120, Tryz.ntmps120
  go_wp2_with (first | (go_at_call 138; refine HO.out.mono ?_; rintro e w1 ⟨rfl, hG⟩; have HG := Lib.hid hG; clear hG) | (go_at_call 154; refine (fn30 _ _ h0 h1 h2 h3 _).mono ?_; rintro e w2 ⟨rfl, hG⟩; have HG := Lib.hid (grown_trans HG.out hG); clear hG))
  go_ret
  exact isU_of rfl HG.out
theorem exec_37 (a b : Int) (h0 : 0 ≤ a) (h1 : a < 4294967296) (h2 : 0 ≤ b) (h3 : b < 4294967296) (w : World) : Calls Tryz.prog 120 #[.int .i64 37, .int .u32 a, .int .u32 b] w (IsU (bits .and .u32 a b) w) := by
  have ho : Calls Tryz.prog 138 #[.int .i64 37] w fun e w' => e = .returned (.func (.func 155) #[] #[]) ∧ Grown w w' := operation_any 37 (by omega) (by omega) w
  have HO := Lib.hid ho
  have e := eql_func 155
  clear ho
  go_enter Tryz.func120, Tryz.ntmps120
  go_wp2_with (first | (go_at_call 138; refine HO.out.mono ?_; rintro e w1 ⟨rfl, hG⟩; have HG := Lib.hid hG; clear hG) | (go_at_call 155; refine (fn31 _ _ h0 h1 h2 h3 _).mono ?_; rintro e w2 ⟨rfl, hG⟩; have HG := Lib.hid (grown_trans HG.out hG); clear hG))
  go_ret
  exact isU_of rfl HG.out
theorem exec_38 (a b : Int) (h0 : 0 ≤ a) (h1 : a < 4294967296) (h2 : 0 ≤ b) (h3 : b < 4294967296) (w : World) : Calls Tryz.prog 120 #[.int .i64 38, .int .u32 a, .int .u32 b] w (IsU (a * b % 4294967296) w) := by
  have ho : Calls Tryz.prog 138 #[.int .i64 38] w fun e w' => e = .returned (.func (.func 160) #[] #[]) ∧ Grown w w' := operation_any 38 (by omega) (by omega) w
  have HO := Lib.hid ho
  have e := eql_func 160
  clear ho
  go_enter Tryz.func120, Tryz.ntmps120
  go_wp2_with (first | (go_at_call 138; refine HO.out.mono ?_; rintro e w1 ⟨rfl, hG⟩; have HG := Lib.hid hG; clear hG) | (go_at_call 160; refine (fn36 _ _ h0 h1 h2 h3 _).mono ?_; rintro e w2 ⟨rfl, hG⟩; have HG := Lib.hid (grown_trans HG.out hG); clear hG))
  go_ret
  exact isU_of rfl HG.out
theorem exec_39 (a b : Int) (h0 : 0 ≤ a) (h1 : a < 4294967296) (h2 : 0 ≤ b) (h3 : b < 4294967296) (w : World) : Calls Tryz.prog 120 #[.int .i64 39, .int .u32 a, .int .u32 b] w (IsU (mulhF a b) w) := by
  have ho : Calls Tryz.prog 138 #[.int .i64 39] w fun e w' => e = .returned (.func (.func 161) #[] #[]) ∧ Grown w w' := operation_any 39 (by omega) (by omega) w
  have HO := Lib.hid ho
  have e := eql_func 161
  clear ho
  go_enter Tryz.func120, Tryz.ntmps120
  go_wp2_with (first | (go_at_call 138; refine HO.out.mono ?_; rintro e w1 ⟨rfl, hG⟩; have HG := Lib.hid hG; clear hG) | (go_at_call 161; refine (fn37 _ _ h0 h1 h2 h3 _).mono ?_; rintro e w2 ⟨rfl, hG⟩; have HG := Lib.hid (grown_trans HG.out hG); clear hG))
  go_ret
  exact isU_of rfl HG.out
theorem exec_40 (a b : Int) (h0 : 0 ≤ a) (h1 : a < 4294967296) (h2 : 0 ≤ b) (h3 : b < 4294967296) (w : World) : Calls Tryz.prog 120 #[.int .i64 40, .int .u32 a, .int .u32 b] w (IsU (mulhsuF a b) w) := by
  have ho : Calls Tryz.prog 138 #[.int .i64 40] w fun e w' => e = .returned (.func (.func 164) #[] #[]) ∧ Grown w w' := operation_any 40 (by omega) (by omega) w
  have HO := Lib.hid ho
  have e := eql_func 164
  clear ho
  go_enter Tryz.func120, Tryz.ntmps120
  go_wp2_with (first | (go_at_call 138; refine HO.out.mono ?_; rintro e w1 ⟨rfl, hG⟩; have HG := Lib.hid hG; clear hG) | (go_at_call 164; refine (fn40 _ _ h0 h1 h2 h3 _).mono ?_; rintro e w2 ⟨rfl, hG⟩; have HG := Lib.hid (grown_trans HG.out hG); clear hG))
  go_ret
  exact isU_of rfl HG.out
theorem exec_41 (a b : Int) (h0 : 0 ≤ a) (h1 : a < 4294967296) (h2 : 0 ≤ b) (h3 : b < 4294967296) (w : World) : Calls Tryz.prog 120 #[.int .i64 41, .int .u32 a, .int .u32 b] w (IsU (a * b / 4294967296) w) := by
  have ho : Calls Tryz.prog 138 #[.int .i64 41] w fun e w' => e = .returned (.func (.func 162) #[] #[]) ∧ Grown w w' := operation_any 41 (by omega) (by omega) w
  have HO := Lib.hid ho
  have e := eql_func 162
  clear ho
  go_enter Tryz.func120, Tryz.ntmps120
  go_wp2_with (first | (go_at_call 138; refine HO.out.mono ?_; rintro e w1 ⟨rfl, hG⟩; have HG := Lib.hid hG; clear hG) | (go_at_call 162; refine (fn38 _ _ h0 h1 h2 h3 _).mono ?_; rintro e w2 ⟨rfl, hG⟩; have HG := Lib.hid (grown_trans HG.out hG); clear hG))
  go_ret
  exact isU_of rfl HG.out
theorem exec_42 (a b : Int) (h0 : 0 ≤ a) (h1 : a < 4294967296) (h2 : 0 ≤ b) (h3 : b < 4294967296) (w : World) : Calls Tryz.prog 120 #[.int .i64 42, .int .u32 a, .int .u32 b] w (IsU (quoF a b) w) := by
  have ho : Calls Tryz.prog 138 #[.int .i64 42] w fun e w' => e = .returned (.func (.func 165) #[] #[]) ∧ Grown w w' := operation_any 42 (by omega) (by omega) w
  have HO := Lib.hid ho
  have e := eql_func 165
  clear ho
  go_enter Tryz.func120, Tryz.ntmps120
  go_wp2_with (first | (go_at_call 138; refine HO.out.mono ?_; rintro e w1 ⟨rfl, hG⟩; have HG := Lib.hid hG; clear hG) | (go_at_call 165; refine (fn41 _ _ h0 h1 h2 h3 _).mono ?_; rintro e w2 ⟨rfl, hG⟩; have HG := Lib.hid (grown_trans HG.out hG); clear hG))
  go_ret
  exact isU_of rfl HG.out
theorem exec_43 (a b : Int) (h0 : 0 ≤ a) (h1 : a < 4294967296) (h2 : 0 ≤ b) (h3 : b < 4294967296) (w : World) : Calls Tryz.prog 120 #[.int .i64 43, .int .u32 a, .int .u32 b] w (IsU (divuF a b) w) := by
  have ho : Calls Tryz.prog 138 #[.int .i64 43] w fun e w' => e = .returned (.func (.func 167) #[] #[]) ∧ Grown w w' := operation_any 43 (by omega) (by omega) w
  have HO := Lib.hid ho
  have e := eql_func 167
  clear ho
  go_enter Tryz.func120, Tryz.ntmps120
  go_wp2_with (first | (go_at_call 138; refine HO.out.mono ?_; rintro e w1 ⟨rfl, hG⟩; have HG := Lib.hid hG; clear hG) | (go_at_call 167; refine (fn43 _ _ h0 h1 h2 h3 _).mono ?_; rintro e w2 ⟨rfl, hG⟩; have HG := Lib.hid (grown_trans HG.out hG); clear hG))
  go_ret
  exact isU_of rfl HG.out
theorem exec_44 (a b : Int) (h0 : 0 ≤ a) (h1 : a < 4294967296) (h2 : 0 ≤ b) (h3 : b < 4294967296) (w : World) : Calls Tryz.prog 120 #[.int .i64 44, .int .u32 a, .int .u32 b] w (IsU (remF a b) w) := by
  have ho : Calls Tryz.prog 138 #[.int .i64 44] w fun e w' => e = .returned (.func (.func 168) #[] #[]) ∧ Grown w w' := operation_any 44 (by omega) (by omega) w
  have HO := Lib.hid ho
  have e := eql_func 168
  clear ho
  go_enter Tryz.func120, Tryz.ntmps120
  go_wp2_with (first | (go_at_call 138; refine HO.out.mono ?_; rintro e w1 ⟨rfl, hG⟩; have HG := Lib.hid hG; clear hG) | (go_at_call 168; refine (fn44 _ _ h0 h1 h2 h3 _).mono ?_; rintro e w2 ⟨rfl, hG⟩; have HG := Lib.hid (grown_trans HG.out hG); clear hG))
  go_ret
  exact isU_of rfl HG.out
theorem exec_45 (a b : Int) (h0 : 0 ≤ a) (h1 : a < 4294967296) (h2 : 0 ≤ b) (h3 : b < 4294967296) (w : World) : Calls Tryz.prog 120 #[.int .i64 45, .int .u32 a, .int .u32 b] w (IsU (remuF a b) w) := by
  have ho : Calls Tryz.prog 138 #[.int .i64 45] w fun e w' => e = .returned (.func (.func 169) #[] #[]) ∧ Grown w w' := operation_any 45 (by omega) (by omega) w
  have HO := Lib.hid ho
  have e := eql_func 169
  clear ho
  go_enter Tryz.func120, Tryz.ntmps120
  go_wp2_with (first | (go_at_call 138; refine HO.out.mono ?_; rintro e w1 ⟨rfl, hG⟩; have HG := Lib.hid hG; clear hG) | (go_at_call 169; refine (fn45 _ _ h0 h1 h2 h3 _).mono ?_; rintro e w2 ⟨rfl, hG⟩; have HG := Lib.hid (grown_trans HG.out hG); clear hG))
  go_ret
  exact isU_of rfl HG.out
theorem exec_any (op a b : Int) (h0 : 0 ≤ a) (h1 : a < 4294967296) (h2 : 0 ≤ b) (h3 : b < 4294967296) (w : World) : Calls Tryz.prog 120 #[.int .i64 op, .int .u32 a, .int .u32 b] w (IsU (execF op a b) w) := by
  by_cases h : op = 0 ∨ (3 ≤ op ∧ op ≤ 18) ∨ op < 0 ∨ 46 ≤ op
  · have e : execF op a b = 0 := by
      unfold execF
      split <;> first | rfl | (exfalso; omega)
    rw [e]; exact exec_none op h a b w
  · have : op = 1 ∨ op = 2 ∨ op = 19 ∨ op = 20 ∨ op = 21 ∨ op = 22 ∨ op = 23 ∨ op = 24 ∨ op = 25 ∨ op = 26 ∨ op = 27 ∨ op = 28 ∨ op = 29 ∨ op = 30 ∨ op = 31 ∨ op = 32 ∨ op = 33 ∨ op = 34 ∨ op = 35 ∨ op = 36 ∨ op = 37 ∨ op = 38 ∨ op = 39 ∨ op = 40 ∨ op = 41 ∨ op = 42 ∨ op = 43 ∨ op = 44 ∨ op = 45 := by omega
    rcases this with rfl | rfl | rfl | rfl | rfl | rfl | rfl | rfl | rfl | rfl | rfl | rfl | rfl | rfl | rfl | rfl | rfl | rfl | rfl | rfl | rfl | rfl | rfl | rfl | rfl | rfl | rfl | rfl | rfl
    · exact exec_1 a b h0 h1 h2 h3 w
    · exact exec_2 a b h0 h1 h2 h3 w
    · exact exec_19 a b h0 h1 h2 h3 w
    · exact exec_20 a b h0 h1 h2 h3 w
    · exact exec_21 a b h0 h1 h2 h3 w
    · exact exec_22 a b h0 h1 h2 h3 w
    · exact exec_23 a b h0 h1 h2 h3 w
    · exact exec_24 a b h0 h1 h2 h3 w
    · exact exec_25 a b h0 h1 h2 h3 w
    · exact exec_26 a b h0 h1 h2 h3 w
    · exact exec_27 a b h0 h1 h2 h3 w
    · exact exec_28 a b h0 h1 h2 h3 w
    · exact exec_29 a b h0 h1 h2 h3 w
    · exact exec_30 a b h0 h1 h2 h3 w
    · exact exec_31 a b h0 h1 h2 h3 w
    · exact exec_32 a b h0 h1 h2 h3 w
    · exact exec_33 a b h0 h1 h2 h3 w
    · exact exec_34 a b h0 h1 h2 h3 w
    · exact exec_35 a b h0 h1 h2 h3 w
    · exact exec_36 a b h0 h1 h2 h3 w
    · exact exec_37 a b h0 h1 h2 h3 w
    · exact exec_38 a b h0 h1 h2 h3 w
    · exact exec_39 a b h0 h1 h2 h3 w
    · exact exec_40 a b h0 h1 h2 h3 w
    · exact exec_41 a b h0 h1 h2 h3 w
    · exact exec_42 a b h0 h1 h2 h3 w
    · exact exec_43 a b h0 h1 h2 h3 w
    · exact exec_44 a b h0 h1 h2 h3 w
    · exact exec_45 a b h0 h1 h2 h3 w
end Go.Proofs.YtojogkljneonmaaGreatDoor.alu
