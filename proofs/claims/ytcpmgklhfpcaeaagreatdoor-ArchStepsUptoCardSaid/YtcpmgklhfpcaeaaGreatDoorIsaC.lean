/- Part C: shapes of operations. -/
import Derived.Test.YtcpmgklhfpcaeaaGreatDoorIsaB
namespace Go.Proofs.YtcpmgklhfpcaeaaGreatDoor
open Go.RowKit
set_option linter.unusedVariables false
set_option maxRecDepth 100000

/-- the shape of an operation -/
def shP (op : Int) : Int × Int × Int := if op < 28 then earlyL.getD op.toNat (0, 0, 0) else lateL.getD (op.toNat - 28) (0, 0, 0)
def Tab (w : World) : Prop := TriAt w 2 earlyL ∧ TriAt w 3 lateL
theorem Tab.grown {a b : World} (h : Tab a) (hg : Grown a b) : Tab b :=
  ⟨fun i x hi => ⟨grown_cell hg (h.1 i x hi).1, grown_cell hg (h.1 i x hi).2.1, grown_cell hg (h.1 i x hi).2.2⟩, fun i x hi => ⟨grown_cell hg (h.2 i x hi).1, grown_cell hg (h.2 i x hi).2.1, grown_cell hg (h.2 i x hi).2.2⟩⟩
theorem Tab.early {w : World} (h : Tab w) (op : Int) (h0 : 0 ≤ op) (h1 : op < 28) :
    w.cell? ⟨2, op.toNat * 3, none⟩ = some (.int .i64 (shP op).1) ∧ w.cell? ⟨2, op.toNat * 3 + 1, none⟩ = some (.int .u32 (shP op).2.1) ∧ w.cell? ⟨2, op.toNat * 3 + 2, none⟩ = some (.int .u32 (shP op).2.2) := by
  have hl : earlyL.length = 28 := by decide
  have e : shP op = earlyL[op.toNat]'(by omega) := by
    unfold shP; rw [if_pos h1, List.getD_eq_getElem?_getD, List.getElem?_eq_getElem (by omega)]; rfl
  rw [e]
  exact h.1 op.toNat _ (List.getElem?_eq_getElem (by omega))
theorem Tab.late {w : World} (h : Tab w) (op : Int) (h0 : 28 ≤ op) (h1 : op < 68) :
    w.cell? ⟨3, (op - 28).toNat * 3, none⟩ = some (.int .i64 (shP op).1) ∧ w.cell? ⟨3, (op - 28).toNat * 3 + 1, none⟩ = some (.int .u32 (shP op).2.1) ∧ w.cell? ⟨3, (op - 28).toNat * 3 + 2, none⟩ = some (.int .u32 (shP op).2.2) := by
  have hl : lateL.length = 40 := by decide
  have e : shP op = lateL[op.toNat - 28]'(by omega) := by
    unfold shP; rw [if_neg (by omega), List.getD_eq_getElem?_getD, List.getElem?_eq_getElem (by omega)]; rfl
  rw [e, show (op - 28).toNat = op.toNat - 28 by omega]
  exact h.2 _ _ (List.getElem?_eq_getElem (by omega))
theorem tab_of_laid {W : World} {l : List (String × DataW Unit)} (h : laidMet Tryz.prog l W) (h1 : ("oocore/isa.early", Rows.laid_oocore_isa_early) ∈ l) (h2 : ("oocore/isa.late", Rows.laid_oocore_isa_late) ∈ l) : Tab W :=
  ⟨triAt_of (g := 2) (t := 182) (n := 28) (by kernel_rfl) (by kernel_rfl) Tryz.underlying182 (early_eq ▸ Lib.laidMet.reads h h1), triAt_of (g := 3) (t := 183) (n := 40) (by kernel_rfl) (by kernel_rfl) Tryz.underlying183 (late_eq ▸ Lib.laidMet.reads h h2)⟩
def Shaped (x : Int × Int × Int) (w : World) (e : Ending) (w' : World) : Prop := e = .returned (.agg #[.int .i64 x.1, .int .u32 x.2.1, .int .u32 x.2.2]) ∧ Grown w w'
theorem Tab.lt {w : World} (h : Tab w) : 2 < w.heap.size ∧ 3 < w.heap.size :=
  ⟨World.block_lt_of_cell? _ _ (h.early 0 (by omega) (by omega)).1, World.block_lt_of_cell? _ _ (h.late 28 (by omega) (by omega)).1⟩
theorem shaped_any (op : Int) (h0 : 0 ≤ op) (h1 : op < 68) (w : World) (hT : Tab w) : Calls Tryz.prog 76 #[.int .i64 op] w (Shaped (shP op) w) := by
  obtain ⟨s1, s2⟩ := hT.lt
  by_cases h2 : op < 28
  · obtain ⟨c0, c1, c2⟩ := hT.early op h0 h2
    clear hT
    go_enter Tryz.func76, Tryz.ntmps76
    go_wp2
    exact bodyPost_ret (v := .agg #[.int .i64 (shP op).1, .int .u32 (shP op).2.1, .int .u32 (shP op).2.2]) (by simp [results, Tryz.results76, go_sem]) rfl ⟨rfl, (Grown.refl w).alloc _ _⟩
  · obtain ⟨c0, c1, c2⟩ := hT.late op (by omega) h1
    clear hT
    have h2' : 28 ≤ op := by omega
    clear h2
    go_enter Tryz.func76, Tryz.ntmps76
    go_wp2
    exact bodyPost_ret (v := .agg #[.int .i64 (shP op).1, .int .u32 (shP op).2.1, .int .u32 (shP op).2.2]) (by simp [results, Tryz.results76, go_sem]) rfl ⟨rfl, (Grown.refl w).alloc _ _⟩

def ofP (op : Int) : Int × Int × Int := if op ≤ 0 ∨ 68 ≤ op then (0, 0, 0) else shP op
theorem of_any (op : Int) (w : World) (hT : Tab w) : Calls Tryz.prog 79 #[.int .i64 op] w (Shaped (ofP op) w) := by
  by_cases h1 : op ≤ 0 ∨ 68 ≤ op
  · have e : ofP op = (0, 0, 0) := by unfold ofP; rw [if_pos h1]
    rw [e]
    clear e hT
    rcases h1 with h1 | h1
    all_goals
      go_enter Tryz.func79, Tryz.ntmps79
      go_wp2
      exact bodyPost_ret (v := .agg #[.int .i64 0, .int .u32 0, .int .u32 0]) (by simp [results, Tryz.results79, go_sem]) rfl ⟨rfl, (Grown.refl w).alloc _ _⟩
  · have e : ofP op = shP op := by unfold ofP; rw [if_neg h1]
    rw [e]
    have h2 : 1 ≤ op := by omega
    have h3 : op < 68 := by omega
    have HS := Lib.hid (fun w1 (hT1 : Tab w1) => shaped_any op (by omega) h3 w1 hT1)
    have HT := Lib.hid hT
    clear e hT h1
    have HG := Lib.hid ((Grown.refl w).alloc #[.int .i64 0, .int .u32 0, .int .u32 0] 150)
    go_enter Tryz.func79, Tryz.ntmps79
    go_wp2_with fail
    refine (HS.out _ (HT.out.grown HG.out)).mono ?_
    rintro e w1 ⟨rfl, hg⟩
    have HG2 := Lib.hid (grown_trans HG.out hg)
    have k0 := grown_cell hg (World.cell?_alloc_new w #[.int .i64 0, .int .u32 0, .int .u32 0] 150 0)
    have k1 := grown_cell hg (World.cell?_alloc_new w #[.int .i64 0, .int .u32 0, .int .u32 0] 150 1)
    have k2 := grown_cell hg (World.cell?_alloc_new w #[.int .i64 0, .int .u32 0, .int .u32 0] 150 2)
    have f0 : ∀ i, w1.frozen? ⟨w.heap.size, i, none⟩ = false := fun i => (blk_grown (Go.XHeap.Blk.new w _ _) hg).frozen i
    clear hg
    go_wp2
    exact bodyPost_ret (v := .agg #[.int .i64 (shP op).1, .int .u32 (shP op).2.1, .int .u32 (shP op).2.2]) (by simp [results, Tryz.results79, go_sem, k0, k1, k2]) rfl
      ⟨rfl, (((HG2.out).setCell (by simp) _).setCell (by simp) _).setCell (by simp) _⟩

theorem field0 (a b c : Int) (w : World) : (Instr.field 150 (.agg #[.int .i64 a, .int .u32 b, .int .u32 c]) 0).run Tryz.prog w = .ok (.int .i64 a) w := by kernel_rfl
def classP (op : Int) : Int :=
  if 38 ≤ op ∧ op ≤ 45 then 1 else if op = 4 then 3 else
  let f := (ofP op).1
  if f = 1 ∨ f = 6 ∨ f = 7 ∨ f = 8 then 0 else if f = 2 then 3 else if f = 3 then 2 else if f = 4 then 4 else if f = 5 then 5 else if f = 9 ∨ f = 10 then 6 else 7
theorem pclass_any (op : Int) (w : World) (hT : Tab w) : Calls Tryz.prog 35 #[.int .i64 op] w fun e w' => e = .returned (.int .i64 (classP op)) ∧ Grown w w' := by
  have HO := Lib.hid (of_any op w hT)
  have HG := Lib.hid (Grown.refl w)
  have hfld := field0
  clear hT
  go_enter Tryz.func35, Tryz.ntmps35
  go_wp2_with (go_at_call 79; refine HO.out.mono ?_; rintro e w1 ⟨rfl, hg⟩; have HG := Lib.hid hg; clear hg)
  all_goals
    go_ret
    refine ⟨congrArg (fun x => Ending.returned (.int .i64 x)) ?_, HG.out⟩
    clear HG HO hfld
    unfold classP
    go_tidy
    simp only [beq_iff_eq, beq_eq_false_iff_ne] at *
    first
      | (simp_all; done)
      | (simp_all; omega)
def readsP (op : Int) : Bool × Bool :=
  let f := (ofP op).1
  if f = 3 ∨ f = 5 ∨ f = 8 ∨ f = 9 then (true, true) else if f = 4 ∨ f = 6 ∨ f = 7 ∨ f = 10 ∨ f = 12 then (true, false) else (false, false)
theorem two_bools {a b : Bool} {x : Bool × Bool} (h : (a, b) = x) : Ending.returned (.tuple #[.bool a, .bool b]) = .returned (.tuple #[.bool x.1, .bool x.2]) := by rw [← h]
theorem preads_any (op : Int) (w : World) (hT : Tab w) : Calls Tryz.prog 83 #[.int .i64 op] w fun e w' => e = .returned (.tuple #[.bool (readsP op).1, .bool (readsP op).2]) ∧ Grown w w' := by
  have HO := Lib.hid (of_any op w hT)
  have HG := Lib.hid (Grown.refl w)
  have hfld := field0
  clear hT
  go_enter Tryz.func83, Tryz.ntmps83
  go_wp2_with (go_at_call 79; refine HO.out.mono ?_; rintro e w1 ⟨rfl, hg⟩; have HG := Lib.hid hg; clear hg)
  all_goals
    go_ret2
    refine ⟨two_bools ?_, HG.out⟩
    clear HG HO hfld
    unfold readsP
    go_tidy
    simp only [beq_iff_eq, beq_eq_false_iff_ne] at *
    first
      | (simp_all; done)
      | (simp_all; omega)
def writesP (op : Int) : Bool :=
  let f := (ofP op).1
  if f = 0 ∨ f = 3 ∨ f = 5 ∨ f = 11 then false else true
theorem pwrites_any (op : Int) (w : World) (hT : Tab w) : Calls Tryz.prog 51 #[.int .i64 op] w fun e w' => e = .returned (.bool (writesP op)) ∧ Grown w w' := by
  have HO := Lib.hid (of_any op w hT)
  have HG := Lib.hid (Grown.refl w)
  have hfld := field0
  clear hT
  go_enter Tryz.func51, Tryz.ntmps51
  go_wp2_with (go_at_call 79; refine HO.out.mono ?_; rintro e w1 ⟨rfl, hg⟩; have HG := Lib.hid hg; clear hg)
  all_goals
    go_ret
    refine ⟨congrArg (fun x => Ending.returned (.bool x)) ?_, HG.out⟩
    clear HG HO hfld
    unfold writesP
    go_tidy
    simp only [beq_iff_eq, beq_eq_false_iff_ne] at *
    first
      | (simp_all; done)
      | (simp_all; omega)
end Go.Proofs.YtcpmgklhfpcaeaaGreatDoor
