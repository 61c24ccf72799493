/- Proved: the tied card of WindowFlows: it returns true for every input; the type 'error' is the program's. -/
import Derived.Test.YtdliholhfiihcaaDoorRows
import Derived.WalkKit
import Derived.ProofKit
import Derived.OpenShut
import Derived.Deep.Slices
import Derived.ChangeMaps5
import Derived.LaidHandle
import Derived.LaidMore
import Derived.Stop.Joined
import Derived.SevenTiedAt
import Derived.MakeChecks
import Derived.Test.YtdliholhfiihcaaDoorTie
import Derived.Test.YtdliholhfiihcaaDoorCards
import Derived.Deep.Fields
import Derived.ChangeSame
import Derived.Test.YtdliholhfiihcaaDoorHe
import Derived.Test.YtdliholhfiihcaaDoorWinY
namespace Go.Proofs.YtdliholhfiihcaaDoor.windowFlows
open Go.ChangeShapes Go.WideShapes Go.ChangeAt Go.RowKit Go.Deep Go.XHeap
set_option linter.unusedVariables false

theorem own : ownKnob Tryd.prog.godebug = none := by kernel_rfl
def laidL : List (String × DataW Unit) := [("errors.errorType", Rows.laid_errors_errorType)]
theorem laidOut : laidOutB Tryd.prog = true := by kernel_rfl
-- DOORSTEPS 16
theorem bool_of {H : Type} {enc : TypeId × Value → H} {W : World} {held : Bool} {n : Nat} {t : TypeId} {v : Value} {y : DataW H × List MemPlace} (ht : Tryd.prog.underlying t = some .bool) (h : DataW.trod enc Tryd.prog W 0 (fun _ => true) held n t [v] = some y) : ∃ b : Bool, v = .bool b := by
  obtain ⟨b, h1, -⟩ := DataW.trod_bool ht h
  exact ⟨b, by simpa using h1⟩
theorem rd_which {H : Type} {enc : TypeId × Value → H} {W : World} {a0 : Option Addr} {len cap fuel : Nat} {x : DataW H × List MemPlace} (h : DataW.trod enc Tryd.prog W 0 (fun _ => true) true fuel 22 [.slice a0 len cap] = some x) : Which W a0 len := by
  rcases open_slice1 Tryd.underlying22 (by kernel_rfl) h with ⟨hcs, hx⟩ | ⟨a, len', cap', m, n, V, D, Pl, hcs, _, hl, hm, hmm, hx, hi⟩
  · simp at hcs
    obtain ⟨rfl, rfl, rfl⟩ := hcs
    exact ⟨fun _ => false, fun i hi => by omega⟩
  · simp at hcs
    obtain ⟨rfl, rfl, rfl⟩ := hcs
    simp at hmm
    subst hmm
    refine ⟨fun i => match V i with | .bool b => b | _ => false, fun i hi' => ?_⟩
    obtain ⟨hc, ht⟩ := hi i (by omega)
    obtain ⟨b, hb⟩ := bool_of Tryd.underlying4 ht
    obtain ⟨g, off, spot⟩ := a
    have hspot : spot = none := by
      obtain ⟨hc0, -⟩ := hi 0 (by omega)
      simpa [Addr.add] using World.cell?_spot hc0
    subst hspot
    rw [add_plain] at hc
    refine ⟨g, off, rfl, World.block_lt_of_cell? _ _ hc, ?_⟩
    refine hc.trans ?_
    show some (V i) = some (Value.bool (match V i with | .bool b => b | _ => false))
    rw [hb]
-- PRE: obtain ⟨-, hL2⟩ : laidMet Tryd.prog [] W ∧ handlesMet Tryd.prog [("errors.errorType", Rows.laid_errors_errorType)] W := hL
-- PRE: have hE := hE_of_laid hL2
-- PRE: have hsz : 1 ≤ W.heap.size := World.block_lt_of_cell? _ _ hE

/-- The door's own heap meets the condition. -/
theorem door_met (os : Os) (args : Array Value) : laidMetH Tryd.prog laidL ((World.doorLaid Tryd.prog 16 os).forCall (fun _ _ => 0) ⟨#[], args, []⟩).memory := by
  exact laidMetH_of_parts3 (fuel := 8) (laidMet_of_run' 8 (by kernel_rfl) (by kernel_rfl)) (by kernel_rfl) (by kernel_rfl)
set_option maxRecDepth 100000 in
theorem lifted (os : Os) (started : os.Started) (H : Type) (enc : TypeId × Value → H) :
    ReturnsInHanded {} Tryd.checked os 3 .any (fun w args => (Rows.windowFlowsSpec.pre enc Tryd.prog Tryd.f3 [] false w args ∧ laidMetH Tryd.prog laidL w) ∧ sizedMet enc Tryd.prog Tryd.f3 (OpenSpec.ofChange Rows.windowFlowsSpec) false w args) (Rows.windowFlowsSpec.post enc Tryd.prog Tryd.f3 false true false false) := by
  refine returnsInHanded_of_change_and (C := Tryd.checked) (X := fun w _ => laidMetH Tryd.prog laidL w) (fun _ _ _ hh h => h.of_heap hh) own started (by kernel_rfl) Tryd.func3
    (ChangeSpec.witness_shaped (enc := enc) (C := Tryd.checked) (os := os) (X := fun w _ => laidMetH Tryd.prog laidL w) false (World.doorLaid Tryd.prog 16 os) #[.int .i64 0, .slice none 0 0] 8 rfl (World.shaped_of_RefB (by kernel_rfl) (by kernel_rfl)) (by kernel_rfl) (by kernel_rfl) (by kernel_rfl) (door_met os _)) ?_
  intro W base args ds gs before hval0 hW _ _ hL _
  have hval : ∀ (j : Nat) t v, Tryd.f3.params[j]? = some t → args[j]? = some v → Value.okWide Tryd.prog W .any base t v := hval0
  have hW' := hW
  obtain ⟨p, q, hA0, hV, rfl, hfz, hnd⟩ := hW
  have hA : DataW.TrodAll enc Tryd.prog W 0 (fun _ => true) true Tryd.f3.params.toList args.toList ds p := hA0
  rw [Tryd.params3] at hA hval
  obtain ⟨v0, vs0, d0, ds0, p0, q0, hargs, rfl, rfl, h0, r0⟩ := trodAll_cons hA
  obtain ⟨v1, vs1, d1, ds1, p1, q1, rfl, rfl, rfl, h1, r1⟩ := trodAll_cons r0
  obtain ⟨rfl, rfl, rfl⟩ := trodAll_nil r1
  obtain rfl : args = #[v0, v1] := by cases args; simp_all
  obtain ⟨rfl, rfl⟩ := trodVars_none hV
  obtain ⟨n0, rfl, rfl, rfl, w0⟩ := open_int Tryd.underlying3 (hval 0 3 v0 rfl rfl) h0
  obtain ⟨a1, len1, cap1, rfl⟩ := okWide_slice Tryd.underlying22 (hval 1 22 v1 rfl rfl)
  clear hA0 hval0
  simp only [List.append_nil, List.nil_append] at hW'
  have hn0 : -9223372036854775808 ≤ n0 ∧ n0 ≤ 9223372036854775807 := by simpa [Lit.wf, IntKind.min, IntKind.max, IntKind.signed, IntKind.bits] using w0
  have hlt1 : ∀ x ∈ p1, x.block < W.heap.size := fun x hx => hW'.lt x (by simp [hx])
  have h1c := h1
  obtain ⟨fu1, hf1⟩ := h1c
  simp [Value.cells] at hf1
  have hs1 := rd_which hf1
  obtain ⟨-, hL2⟩ : laidMet Tryd.prog [] W ∧ handlesMet Tryd.prog [("errors.errorType", Rows.laid_errors_errorType)] W := hL
  have hE := hE_of_laid hL2
  have hsz : 1 ≤ W.heap.size := World.block_lt_of_cell? _ _ hE
  refine (flows_ok hsz hE n0 hn0 a1 len1 cap1 hs1).mono fun e W' ⟨he, ht⟩ => ?_
  have hb : Below W.heap.size W W' := ht.below (Nat.le_refl _) (fun _ e => e.elim)
  subst he
  exact ⟨_, rfl, _, _, _, [], [] ++ (p1 ++ []), [], hW', trodAll_mk1 (shut_bool Tryd.underlying4 _),
    trodAll_cons_mk (shut_int Tryd.underlying3 w0) (trodAll_cons_mk (Below.trod laidOut (by kernel_rfl) (of_decide_eq_true (by kernel_rfl)) h1 hb hlt1) trodAll_mk0),
    rfl, hb.frame _, fun h => by cases h⟩

theorem over : Rows.windowFlowsRow.holds Tryd.pinned (OpenSpec.ofChange Rows.windowFlowsSpec) :=
  OpenClaim.holds_of_wide 3 Tryd.f3 rfl rfl rfl rfl rfl rfl rfl ⟨rfl, rfl, rfl, rfl, rfl⟩ rfl rfl rfl rfl rfl (by kernel_rfl) Tryd.func3 (by kernel_rfl)
    (of_decide_eq_true (by kernel_rfl)) (by unfold Func.isWrapper; first | (rw [if_pos (by decide +kernel)]; kernel_rfl) | (rw [if_neg (by decide +kernel)]; exact ⟨rfl, rfl⟩))
    (fun os started H enc _ => lifted os started H enc)

theorem row_holds : Rows.WindowFlowsSaid := over

/-- THE TIED CARD -/
theorem proved : Rows.WindowFlowsCardSaid :=
  Claim7.holds_tied_plain_at .later [] [.handle] true (true, "d52a7eadfe79eeebe503f06769522282abb631f839689a64ea5321d744900086") true
    row_holds (fun _ h => by cases h) (by kernel_rfl) (fun _ h => by cases h) windowFlows_row_tie rfl ⟨rfl, rfl⟩ (by kernel_rfl) rfl
    (fun f fn hf hfn => by
      obtain rfl : f = 3 := Option.some.inj ((show Tryd.prog.funcNamed "oocore/oocorelaw7.WindowFlows" = some 3 by kernel_rfl).symm.trans hf) |>.symm
      obtain rfl : fn = Tryd.f3 := (Option.some.inj (Tryd.func3.symm.trans hfn)).symm
      exact ⟨by kernel_rfl, fun j t ht => by
        rw [Tryd.params3] at ht
        have ht' : t ∈ #[3, 22] := Array.mem_of_getElem? ht
        simp only [List.mem_toArray, List.mem_cons, List.not_mem_nil, or_false] at ht'
        rcases ht' with rfl | rfl
        · exact (show Tryd.prog.wantsStandIn 3 = false by kernel_rfl)
        · exact (show Tryd.prog.wantsStandIn 22 = false by kernel_rfl)⟩)
    (by kernel_rfl)
#print axioms proved
end Go.Proofs.YtdliholhfiihcaaDoor.windowFlows
