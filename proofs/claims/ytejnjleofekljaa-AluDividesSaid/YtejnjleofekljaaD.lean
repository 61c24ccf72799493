/- Part D: widening and atomic operations. -/
import Derived.Test.YtejnjleofekljaaC
import Derived.WalkLawsBesides
namespace Go.Proofs.Ytejnjleofekljaa
open Go.RowKit
set_option linter.unusedVariables false

def sx8 (r : Int) : Int := if r % 256 < 128 then r % 256 else r % 256 + 4294967040
def sx16 (r : Int) : Int := if r % 65536 < 32768 then r % 65536 else r % 65536 + 4294901760
def widenF (op r : Int) : Int := if op = 11 then sx8 r else if op = 12 then sx16 r else if op = 14 then r % 256 else if op = 15 then r % 65536 else if op = 13 then r else if 46 ≤ op ∧ op ≤ 56 then r else 0
theorem widen_any (op raw : Int) (h0 : 0 ≤ raw) (h1 : raw < 4294967296) (w : World) : Calls Try.prog 8 #[.int .i64 op, .int .u32 raw] w fun e w' => e = .returned (.int .u32 (widenF op raw)) ∧ w = w' := by
  have hs : (sizeF op = 1 ∧ (op = 11 ∨ op = 14 ∨ op = 16)) ∨ (sizeF op = 2 ∧ (op = 12 ∨ op = 15 ∨ op = 17)) ∨ (sizeF op = 4 ∧ (op = 13 ∨ op = 18 ∨ (46 ≤ op ∧ op ≤ 56))) ∨ (sizeF op = 0 ∧ op ≠ 11 ∧ op ≠ 12 ∧ op ≠ 13 ∧ op ≠ 14 ∧ op ≠ 15 ∧ op ≠ 16 ∧ op ≠ 17 ∧ op ≠ 18 ∧ (op < 46 ∨ 56 < op)) := by
    unfold sizeF; (repeat' split) <;> omega
  rcases hs with ⟨hs, ho⟩ | ⟨hs, ho⟩ | ⟨hs, ho⟩ | ⟨hs, ho⟩
  all_goals
    have HO := Lib.hid ho
    clear ho
    go_enter Try.func8, Try.ntmps8
    go_wp2_with (go_at_call 7; refine (size_any _ _).mono ?_; rintro e w' ⟨rfl, rfl⟩)
    all_goals
      go_ret
      refine ⟨congrArg (fun x => Ending.returned (.int .u32 x)) ?_, rfl⟩
      have ho := HO.out
      clear HO
      unfold widenF sx8 sx16
      go_tidy
      first
        | (simp_all; done)
        | (simp_all; (try unfold wrap32); (repeat' split) <;> omega)

theorem rwiden_any (op raw : Int) (h0 : 0 ≤ raw) (h1 : raw < 4294967296) (w : World) : Calls Try.prog 11 #[.int .i64 op, .int .u32 raw] w fun e w' => e = .returned (.int .u32 (widenF op raw)) ∧ Grown w w' := by
  have i1 := is_lb op; have i2 := is_lbu op; have i3 := is_sb op; have i4 := is_lh op; have i5 := is_lhu op; have i6 := is_sh op; have i7 := is_lw op; have i8 := is_sw op
  have i9 := class_atomic op
  go_enter Try.func11, Try.ntmps11
  go_wp2_with (first | (go_at_call 17; refine (name_any _ _).mono ?_; rintro e w' ⟨rfl, hG⟩; have HG := Lib.hid hG; clear hG) | (go_at_call 18; refine (class_any _ _).mono ?_; rintro e w' ⟨rfl, hG⟩; have HG2 := Lib.hid hG; clear hG))
  all_goals
    go_ret
    refine ⟨congrArg (fun x => Ending.returned (.int .u32 x)) ?_, grown_trans HG2.out HG.out⟩
    clear i1 i2 i3 i4 i5 i6 i7 i8 i9 HG HG2
    unfold widenF sx8 sx16
    go_tidy
    first
      | (simp_all; done)
      | (simp_all [IntKind.wrap, IntKind.bits, IntKind.signed]; (try unfold wrap32); (repeat' split) <;> omega)
def sg (a : Int) : Int := if a < 2147483648 then a else a - 4294967296
theorem sg_eq (a : Int) (h0 : 0 ≤ a) (h1 : a < 4294967296) : wrap64 (wrap32 a) = sg a := by
  unfold wrap64 wrap32 sg; split <;> omega
theorem signed_any (a : Int) (h0 : 0 ≤ a) (h1 : a < 4294967296) (w : World) : Calls Try.prog 19 #[.int .u32 a] w fun e w' => e = .returned (.int .i64 (sg a)) ∧ w = w' := by
  have e := Lib.hid (sg_eq a h0 h1)
  go_enter Try.func19, Try.ntmps19
  go_wp2
  go_ret
  exact ⟨congrArg (fun x => Ending.returned (.int .i64 x)) e.out, rfl⟩
def swapF (op a b : Int) : Int := if op = 47 ∨ op = 48 then b else if op = 49 then (a + b) % 4294967296 else if op = 50 then bits .xor .u32 a b else if op = 51 then bits .and .u32 a b
  else if op = 52 then bits .or .u32 a b else if op = 53 then (if sg a < sg b then a else b) else if op = 54 then (if sg a < sg b then b else a)
  else if op = 55 then (if a < b then a else b) else if op = 56 then (if a < b then b else a) else a
theorem swap_any (op a b : Int) (h0 : 0 ≤ a) (h1 : a < 4294967296) (h2 : 0 ≤ b) (h3 : b < 4294967296) (w : World) : Calls Try.prog 9 #[.int .i64 op, .int .u32 a, .int .u32 b] w fun e w' => e = .returned (.int .u32 (swapF op a b)) ∧ w = w' := by
  go_enter Try.func9, Try.ntmps9
  go_wp2
  all_goals
    go_ret
    refine ⟨congrArg (fun x => Ending.returned (.int .u32 x)) ?_, rfl⟩
    unfold swapF sg
    go_tidy
    first
      | (simp_all; done)
      | (simp_all; (try unfold wrap32 at *); (repeat' split) <;> omega)
theorem rswap_any (op a b : Int) (h0 : 0 ≤ a) (h1 : a < 4294967296) (h2 : 0 ≤ b) (h3 : b < 4294967296) (w : World) : Calls Try.prog 12 #[.int .i64 op, .int .u32 a, .int .u32 b] w fun e w' => e = .returned (.int .u32 (swapF op a b)) ∧ Grown w w' := by
  have i1 := is_amoswap_w op; have i2 := is_sc_w op; have i3 := is_amoadd_w op; have i4 := is_amoxor_w op; have i5 := is_amoand_w op; have i6 := is_amoor_w op
  have i7 := is_amomin_w op; have i8 := is_amomax_w op; have i9 := is_amominu_w op; have i10 := is_amomaxu_w op
  have HG := Lib.hid (Grown.refl w)
  go_enter Try.func12, Try.ntmps12
  go_wp2_with (first | (go_at_call 17; refine (name_any _ _).mono ?_; rintro e w' ⟨rfl, hG⟩; have HG := Lib.hid (grown_trans HG.out hG); clear hG) | (go_at_call 19; refine (signed_any _ (by assumption) (by assumption) _).mono ?_; rintro e w' ⟨rfl, rfl⟩))
  all_goals
    go_ret
    refine ⟨congrArg (fun x => Ending.returned (.int .u32 x)) ?_, ?_⟩
    · unfold swapF
      clear i1 i2 i3 i4 i5 i6 i7 i8 i9 i10
      go_tidy
      first
        | (simp_all; done)
        | (simp_all; intro hx; omega)
    · exact HG.out

/-- the law -/
theorem mem_walk (op a b : Int) (h0 : 0 ≤ a) (h1 : a < 4294967296) (h2 : 0 ≤ b) (h3 : b < 4294967296) (w : World) : Calls Try.prog 3 #[.int .i64 op, .int .u32 a, .int .u32 b] w fun e w' => e = .returned (.bool true) ∧ Grown w w' := by
  have HG := Lib.hid (Grown.refl w)
  go_enter Try.func3, Try.ntmps3
  go_wp2_with (first
    | (go_at_call 7; refine (size_any _ _).mono ?_; rintro e w' ⟨rfl, rfl⟩)
    | (go_at_call 8; refine (widen_any _ _ (by assumption) (by assumption) _).mono ?_; rintro e w' ⟨rfl, rfl⟩)
    | (go_at_call 9; refine (swap_any _ _ _ (by assumption) (by assumption) (by assumption) (by assumption) _).mono ?_; rintro e w' ⟨rfl, rfl⟩)
    | (go_at_call 10; refine (rsize_any _ _).mono ?_; rintro e w' ⟨rfl, hG⟩; have HG := Lib.hid (grown_trans HG.out hG); clear hG)
    | (go_at_call 11; refine (rwiden_any _ _ (by assumption) (by assumption) _).mono ?_; rintro e w' ⟨rfl, hG⟩; have HG := Lib.hid (grown_trans HG.out hG); clear hG)
    | (go_at_call 12; refine (rswap_any _ _ _ (by assumption) (by assumption) (by assumption) (by assumption) _).mono ?_; rintro e w' ⟨rfl, hG⟩; have HG := Lib.hid (grown_trans HG.out hG); clear hG))
  go_ret
  exact ⟨by simp, HG.out⟩
end Go.Proofs.Ytejnjleofekljaa
