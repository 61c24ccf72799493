/- Part D: what operations read and write; the law of kinds. -/
import Derived.Test.YtlhmdcehmphiaaaDoorC
namespace Go.Proofs.YtlhmdcehmphiaaaDoor
open Go.RowKit
set_option linter.unusedVariables false

/-- is there such a byte ahead of k? -/
def anyTo (s : ByteArray) (f : Int) (k : Nat) : Bool := (s.data.toList.take k).any fun c => (c.toNat : Int) == f
theorem anyTo_succ (s : ByteArray) (f : Int) (k : Nat) (h : k < s.size) : anyTo s f (k + 1) = (anyTo s f k || ((s[k].toNat : Int) == f)) := by
  unfold anyTo
  rw [List.take_succ_eq_append_getElem (by simpa using h), List.any_append]
  simp; rfl
def hasF (op : Int) (s : ByteArray) : Bool := if op < 1 ∨ 67 < op then false else anyTo s (rF op) s.size
def HasIs (b : Bool) (w : World) (e : Ending) (w' : World) : Prop := e = .returned (.bool b) ∧ Grown w w'
theorem anyTo_mono (s : ByteArray) (f : Int) (k : Nat) (h : k < s.size) (ht : ((s[k].toNat : Int) == f) = true) : anyTo s f s.size = true := by
  unfold anyTo
  rw [List.any_eq_true]
  refine ⟨s[k], ?_, ht⟩
  rw [List.take_of_length_le (by simp)]
  exact List.getElem_mem (by simpa using h)
theorem retBool {a b : Bool} (h : a = b) : Ending.returned (.bool a) = .returned (.bool b) := by rw [h]
theorem has_any (op : Int) (s : ByteArray) (hs : s.size < 1000) (w : World) : Calls Tryd.prog 25 #[.int .i64 op, .string s] w (HasIs (hasF op s) w) := by
  by_cases h1 : op < 1 ∨ 67 < op
  · have e : hasF op s = false := by unfold hasF; rw [if_pos h1]
    rw [e]
    clear e
    rcases h1 with h1 | h1
    all_goals
      go_enter Tryd.func25, Tryd.ntmps25
      go_wp2
      go_ret
      exact ⟨rfl, Grown.refl w⟩
  · have e : hasF op s = anyTo s (rF op) s.size := by unfold hasF; rw [if_neg h1]
    rw [e]
    have h2 : 1 ≤ op := by omega
    have h3 : op ≤ 67 := by omega
    clear e h1
    go_enter Tryd.func25, Tryd.ntmps25
    go_wp2_with fail
    refine (rows_made _).mono ?_
    rintro e w1 ⟨b, rfl, hR, hG⟩
    have c1 := (hR op h2 h3).2.1
    have HC := Lib.hid c1
    have HG := Lib.hid hG
    have HM := Lib.hid (anyTo_mono s (rF op))
    have HS := Lib.hid (anyTo_succ s (rF op))
    clear hR hG c1
    go_wp2
    go_loopw [6] (fun i wr => ∃ k : Nat, k ≤ s.size ∧ i = .int .i64 k ∧ anyTo s (rF op) k = false ∧ Grown w wr ∧ wr.cell? ⟨b, (op.toNat - 1) * 5 + 1, none⟩ = some (.int .u8 (rF op))) (fun i _ => s.size - (intOf i).toNat)
    case atStart => exact ⟨0, by omega, rfl, rfl, HG.out, HC.out⟩
    case round =>
      obtain ⟨k, hk, rfl, ha, hg, hc⟩ := hrel
      have HA := Lib.hid ha
      have HG1 := Lib.hid hg
      have HC1 := Lib.hid hc
      clear ha hg hc HC HG
      by_cases hlt : k < s.size
      · have hc := HC1.out
        have hk0 : (k : Int) < s.size := by omega
        by_cases hf : (s[k].toNat : Int) = rF op
        · have hf' : ((s[k].toNat : Int) == rF op) = true := by simpa using hf
          clear hf
          go_wp2
          go_quiet (fail)
          go_wp2
          go_ret
          exact ⟨retBool (HM.out k hlt hf').symm, HG1.out⟩
        · have hf' : ((s[k].toNat : Int) == rF op) = false := by simpa using hf
          clear hf
          go_wp2
          go_quiet (fail)
          go_wp2
          go_roundw
          case rel => exact ⟨k + 1, by omega, by go_num, by rw [HS.out k hlt, HA.out, hf']; rfl, HG1.out, HC1.out⟩
          case measure => simp [intOf]; omega
      · have hk1 : k = s.size := by omega
        go_wp2
        go_ret
        exact ⟨retBool (by rw [← hk1, HA.out]), HG1.out⟩
def readsR (op : Int) : Bool × Bool := (hasF op ⟨#[76, 66, 83, 73, 72, 82, 65, 75, 67]⟩, hasF op ⟨#[66, 83, 82, 65]⟩)
def writesR (op : Int) : Bool := hasF op ⟨#[85, 74, 76, 73, 72, 82, 65, 75, 67, 68]⟩
theorem rreads_any (op : Int) (w : World) : Calls Tryd.prog 15 #[.int .i64 op] w fun e w' => e = .returned (.tuple #[.bool (readsR op).1, .bool (readsR op).2]) ∧ Grown w w' := by
  go_enter Tryd.func15, Tryd.ntmps15
  go_wp2_with fail
  refine (has_any _ _ (by decide) _).mono ?_
  rintro e w1 ⟨rfl, hg⟩
  have HG := Lib.hid hg
  clear hg
  go_wp2_with fail
  refine (has_any _ _ (by decide) _).mono ?_
  rintro e w2 ⟨rfl, hg⟩
  have HG2 := Lib.hid (grown_trans HG.out hg)
  clear hg
  go_wp2
  go_ret2
  exact ⟨rfl, HG2.out⟩
theorem rwrites_any (op : Int) (w : World) : Calls Tryd.prog 16 #[.int .i64 op] w fun e w' => e = .returned (.bool (writesR op)) ∧ Grown w w' := by
  go_enter Tryd.func16, Tryd.ntmps16
  go_wp2_with fail
  refine (has_any _ _ (by decide) _).mono ?_
  rintro e w1 ⟨rfl, hg⟩
  have HG := Lib.hid hg
  clear hg
  go_wp2
  go_ret
  exact ⟨rfl, HG.out⟩

theorem kinds_in (op : Int) : classP op = classR op ∧ readsP op = readsR op ∧ writesP op = writesR op := by
  by_cases h : op < 1 ∨ 67 < op
  · have e : ofP op = (0, 0, 0) := by unfold ofP; rw [if_pos (by omega)]
    refine ⟨?_, ?_, ?_⟩
    · unfold classP classR; rw [e, if_pos h, if_neg (by omega), if_neg (by omega)]; decide
    · unfold readsP readsR hasF; rw [e, if_pos h, if_pos h]; decide
    · unfold writesP writesR hasF; rw [e, if_pos h]; decide
  · have h1 : (List.range 68).all (fun i => i == 0 || (classP i == classR i && readsP i == readsR i && writesP i == writesR i)) = true := by decide +kernel
    have h2 := List.all_eq_true.1 h1 op.toNat (List.mem_range.2 (by omega))
    have e : ((op.toNat : Nat) : Int) = op := by omega
    have h0 : (op.toNat == 0) = false := by simp; omega
    rw [e, h0] at h2
    simpa [and_assoc] using h2
theorem kinds_walk (op : Int) (w : World) (hT : Tab w) : Calls Tryd.prog 4 #[.int .i64 op] w fun e w' => e = .returned (.bool true) ∧ Grown w w' := by
  obtain ⟨k1, k2, k3⟩ := kinds_in op
  have HT := Lib.hid hT
  have HG := Lib.hid (Grown.refl w)
  have K1 := Lib.hid k1; have K2 := Lib.hid k2; have K3 := Lib.hid k3
  clear k1 k2 k3 hT
  go_enter Tryd.func4, Tryd.ntmps4
  go_wp2_with (first
    | (go_at_call 11; refine (pclass_any _ _ (HT.out.grown HG.out)).mono ?_; rintro e w1 ⟨rfl, hg⟩; have HG := Lib.hid (grown_trans HG.out hg); clear hg)
    | (go_at_call 12; refine (preads_any _ _ (HT.out.grown HG.out)).mono ?_; rintro e w1 ⟨rfl, hg⟩; have HG := Lib.hid (grown_trans HG.out hg); clear hg)
    | (go_at_call 13; refine (pwrites_any _ _ (HT.out.grown HG.out)).mono ?_; rintro e w1 ⟨rfl, hg⟩; have HG := Lib.hid (grown_trans HG.out hg); clear hg)
    | (go_at_call 14; refine (class_any _ _).mono ?_; rintro e w1 ⟨rfl, hg⟩; have HG := Lib.hid (grown_trans HG.out hg); clear hg)
    | (go_at_call 15; refine (rreads_any _ _).mono ?_; rintro e w1 ⟨rfl, hg⟩; have HG := Lib.hid (grown_trans HG.out hg); clear hg)
    | (go_at_call 16; refine (rwrites_any _ _).mono ?_; rintro e w1 ⟨rfl, hg⟩; have HG := Lib.hid (grown_trans HG.out hg); clear hg))
  all_goals
    go_ret
    refine ⟨?_, HG.out⟩
    have k1 := K1.out; have k2 := K2.out; have k3 := K3.out
    clear K1 K2 K3 HT HG
    go_tidy
    simp_all
end Go.Proofs.YtlhmdcehmphiaaaDoor
