/- Proved: 'Names' returns true (a closed statement: no condition). -/
import Derived.Test.YtlhmdcehmphiaaaRows
import Derived.WalkKit
import Derived.ProofKit
import Derived.OpenShut
import Derived.Lib.Hide
import Derived.Deep.QuietTactic
import Derived.BigQuiet
namespace Go
structure OpRuns (P : Program) (o : Oper) (a : Act) (w : World) (v : Value) (w' : World) : Prop where
  run : (execOp a.eval o).run P w = .ok (.value v) w'
/-- an operation whose run is known, whatever it is -/
theorem wpList_run {P : Program} {ops : Array Oper} {Q : Exit → Act → World → Prop} {a : Act} {w : World} {rest : List Oper} {o : Oper} {v : Value} {w' : World}
    (hg : o.guard = none) (hr : OpRuns P o a w v w') (h : wpList P ops Q rest (a.put o.dst v) w') : wpList P ops Q (o :: rest) a w :=
  wpList_plain hg fun K hK => by
    unfold Oper.wp; rw [hr.run, Oper.upon_value]; exact hK _ _ h
end Go
namespace Go.Proofs.Ytlhmdcehmphiaaa.names
open Go.ChangeShapes Go.WideShapes Go.ChangeAt Go.RowKit
set_option linter.unusedVariables false

theorem own : ownKnob Try.prog.godebug = none := by kernel_rfl

def LO : List Int := [0, 1, 2, 3, 4, 5, 6, 7, 8, 9, 10, 11, 12, 13, 14, 15, 16, 17, 18, 19, 20, 21, 22, 23, 24, 25, 26, 27, 28, 29, 30, 31, 32, 33, 34, 35, 36, 37, 38, 39, 40, 41, 42, 43, 44, 45, 46, 47, 48, 49, 50, 51, 52, 53, 54, 55, 56, 57, 58, 59, 60, 61, 62, 63, 64, 65, 66, 67, 65536, 131072, 4096, 4096, 16, -1, 0, 1, 2, 3, 4, 5, 6, 7, 11, 2147483659, 768, 772, 773, 832, 833, 834, 835, 3074, 3860, 1, 2, 3, 4, 5, 6, 2, 4, 2, 64, 1, 32, 34, 128, 4, 10, 10, 10, 8, 16, 16, 4, 10, 1000000]
def LN : List Int := [0, 1, 2, 3, 4, 5, 6, 7, 8, 9]
def CO : Array Value := (LO.map (Value.int .i64)).toArray
def CN : Array Value := (LN.map (Value.int .i64)).toArray
noncomputable def regOps : Code → Nat → Array Oper
  | .seq (.region _ ops _) _, 0 => ops
  | .seq _ b, n + 1 => regOps b n
  | _, _ => #[]
noncomputable def op (n : Nat) : Oper := ((regOps (Try.f3.body.getD .skip) n)[0]?).getD default
theorem run1 (a : Act) (w : World) : OpRuns Try.prog (op 1) a w ((.slice (some ⟨w.heap.size, 0, none⟩) 10 10)) (w.alloc (.cells CN 3)) := ⟨by kernel_rfl⟩
theorem run2 (a : Act) (w : World) : OpRuns Try.prog (op 2) a w ((.slice (some ⟨w.heap.size, 0, none⟩) 117 117)) (w.alloc (.cells CO 3)) := ⟨by kernel_rfl⟩
theorem run3 (a : Act) (w : World) : OpRuns Try.prog (op 3) a w ((.slice (some ⟨w.heap.size, 0, none⟩) 117 117)) (w.alloc (.cells CO 3)) := ⟨by kernel_rfl⟩
theorem run4 (a : Act) (w : World) : OpRuns Try.prog (op 4) a w ((.slice (some ⟨w.heap.size, 0, none⟩) 10 10)) (w.alloc (.cells CN 23)) := ⟨by kernel_rfl⟩

theorem co_at (k : Nat) (h : k < 117) : CO[k]? = some (.int .i64 (LO.getD k 0)) := by
  have hl : LO.length = 117 := by decide +kernel
  unfold CO; simp [List.getD_eq_getElem?_getD, List.getElem?_eq_getElem (show k < LO.length by omega)]
theorem cn_at (k : Nat) (h : k < 10) : CN[k]? = some (.int .i64 k) := by
  have : ∀ i : Fin 10, CN[i.val]? = some (.int .i64 i.val) := by
    intro i; match i with
    | 0 => rfl | 1 => rfl | 2 => rfl | 3 => rfl | 4 => rfl | 5 => rfl | 6 => rfl | 7 => rfl | 8 => rfl | 9 => rfl
  exact this ⟨k, h⟩
def W4 (w : World) : World := ((((w.alloc (Obj.cells CN 3)).alloc (Obj.cells CO 3)).alloc (Obj.cells CO 3)).alloc (Obj.cells CN 23))
theorem f0 (w : World) (k : Nat) (hk : k < 10) : (W4 w).cell? ⟨w.heap.size, k, none⟩ = some (.int .i64 k) := by
  unfold W4
  rw [World.cell?_alloc_old _ _ _ (by simp; omega), World.cell?_alloc_old _ _ _ (by simp; omega), World.cell?_alloc_old _ _ _ (by simp), World.cell?_alloc_new, cn_at k hk]
theorem f1 (w : World) (k : Nat) (hk : k < 117) : (W4 w).cell? ⟨w.heap.size + 1, k, none⟩ = some (.int .i64 (LO.getD k 0)) := by
  unfold W4
  rw [World.cell?_alloc_old _ _ _ (by simp), World.cell?_alloc_old _ _ _ (by simp), World.cell?_alloc_at _ _ _ _ (by simp), co_at k hk]
theorem f2 (w : World) (k : Nat) (hk : k < 117) : (W4 w).cell? ⟨w.heap.size + 1 + 1, k, none⟩ = some (.int .i64 (LO.getD k 0)) := by
  unfold W4
  rw [World.cell?_alloc_old _ _ _ (by simp), World.cell?_alloc_at _ _ _ _ (by simp), co_at k hk]
theorem f3 (w : World) (k : Nat) (hk : k < 10) : (W4 w).cell? ⟨w.heap.size + 1 + 1 + 1, k, none⟩ = some (.int .i64 k) := by
  unfold W4
  rw [World.cell?_alloc_at _ _ _ _ (by simp), cn_at k hk]
theorem g4 (w : World) : Grown w (W4 w) := by
  unfold W4
  repeat (first | exact Grown.refl _ | apply Grown.drew | apply Grown.alloc)
set_option maxRecDepth 100000 in
theorem walk  (w : World) :
    Calls Try.prog 3 #[] w fun e w' => e = .returned (.bool true) ∧ Grown w w' := by
  have C0 := Lib.hid (f0 w); have C1 := Lib.hid (f1 w); have C2 := Lib.hid (f2 w); have C3 := Lib.hid (f3 w)
  have hG := Lib.hid (g4 w)
  go_enter Try.func3, Try.ntmps3
  go_wp2_with (first | refine wpList_run rfl (run1 _ _) ?_ | refine wpList_run rfl (run2 _ _) ?_ | refine wpList_run rfl (run3 _ _) ?_ | refine wpList_run rfl (run4 _ _) ?_)
  rw [show ((((w.alloc (Obj.cells CN 3)).alloc (Obj.cells CO 3)).alloc (Obj.cells CO 3)).alloc (Obj.cells CN 23)) = W4 w from rfl]
  generalize W4 w = W at hG C0 C1 C2 C3 ⊢
  go_loop [5, 6] (fun i _ => ∃ k : Nat, k ≤ 10 ∧ i = .int .i64 k) (fun i _ => 10 - (intOf i).toNat)
  case atStart => exact ⟨0, by omega, rfl⟩
  case round =>
    obtain ⟨k, hk, rfl⟩ := hrel
    by_cases hlt : k < 10
    · have c0 := C0.out k hlt
      have c3 := C3.out k hlt
      clear C1 C2
      go_wp2
      go_round
      case rel => exact ⟨k + 1, by omega, by go_num⟩
      case measure => simp [intOf]; omega
    · go_wp2
      go_loopw [7] (fun i W' => Grown w W' ∧ (∀ a, W'.cell? a = W.cell? a) ∧ ∃ k : Nat, k ≤ 117 ∧ i = .int .i64 k) (fun i _ => 117 - (intOf i).toNat)
      case atStart => exact ⟨hG.out, fun _ => rfl, 0, by omega, rfl⟩
      case round =>
        clear C0 C3
        obtain ⟨hG', hcells, j, hj, rfl⟩ := hrel
        by_cases hjl : j < 117
        · have c1 := (hcells _).trans (C1.out j hjl)
          have c2 := (hcells _).trans (C2.out j hjl)
          have hc := Lib.hid hcells
          clear C1 C2 hcells
          generalize LO.getD j 0 = x at c1 c2
          go_wp2
          go_quiet (fail)
          go_wp2
          go_roundw
          case rel => exact ⟨hG', fun a => hc.out a, j + 1, by omega, by go_num⟩
          case measure => simp [intOf]; omega
        · go_wp2
          go_ret
          exact ⟨rfl, hG'⟩
/-! ### THE ROW's STEP: WRITTEN OUT: LEAVE IT -/
set_option maxRecDepth 100000 in
theorem lifted (os : Os) (started : os.Started) (H : Type) (enc : TypeId × Value → H) :
    ReturnsInHanded {} Try.checked os 3 .any (Rows.namesSpec.pre6 enc Try.prog Try.f3 Rows.namesRow.domain false) (Rows.namesSpec.post enc Try.prog Try.f3 false true false false) := by
  refine returnsInHanded_of_change (C := Try.checked) own started (by kernel_rfl) Try.func3
    (ChangeSpec.witness6 (enc := enc) (C := Try.checked) false ⟨#[], #[], []⟩ 8 (by kernel_rfl) (by kernel_rfl) (by kernel_rfl) (by kernel_rfl)) ?_
  intro W base args ds gs before hval0 hW hcnd _
  have hval : ∀ (j : Nat) t v, Try.f3.params[j]? = some t → args[j]? = some v → Value.okWide Try.prog W .any base t v := hval0
  have hW' := hW
  obtain ⟨p, q, hA0, hV, rfl, hfz, hnd⟩ := hW
  have hA : DataW.TrodAll enc Try.prog W 0 (fun _ => true) true Try.f3.params.toList args.toList ds p := hA0
  rw [Try.params3] at hA hval
  obtain ⟨rfl, rfl, rfl⟩ := trodAll_none hA
  obtain ⟨rfl, rfl⟩ := trodVars_none hV
  clear hA0 hval0
  simp only [List.append_nil] at hW'
  refine (walk  W).mono fun e W' ⟨he, hg⟩ => ?_
  subst he
  exact ⟨_, rfl, post_of_same (pa := []) (pv := []) hW' (fun _ _ _ => (trodAll_cons_mk (shut_bool Try.underlying4 _) trodAll_mk0)) (fun sp _ => rfl) (fun _ _ => rfl) rfl
    (hg.frame _) hg.2.1 (ok_one (by kernel_rfl) rfl (okWide_bool_mk Try.underlying4 _))⟩

theorem over : Rows.namesRow.holds Try.pinned (OpenSpec.ofChange Rows.namesSpec) :=
  OpenClaim.holds_of_wide 3 Try.f3 rfl rfl rfl rfl rfl rfl rfl ⟨rfl, rfl, rfl, rfl, rfl⟩ rfl rfl rfl rfl rfl (by kernel_rfl) Try.func3 (by kernel_rfl)
    (of_decide_eq_true (by kernel_rfl)) (by unfold Func.isWrapper; first | (rw [if_pos (by decide +kernel)]; kernel_rfl) | (rw [if_neg (by decide +kernel)]; exact ⟨rfl, rfl⟩))
    (fun os started H enc _ => lifted os started H enc)

/-- ████ THE STATEMENT ████ -/
theorem proved : Rows.NamesSaid :=
  over
#print axioms proved
end Go.Proofs.Ytlhmdcehmphiaaa.names
