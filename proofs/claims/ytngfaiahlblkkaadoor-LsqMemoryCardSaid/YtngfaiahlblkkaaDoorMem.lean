/- Proved: the tied card of LsqMemory: every load gets what the program order says. -/
import Derived.Test.YtngfaiahlblkkaaDoorRows
import Derived.WalkKit
import Derived.ProofKit
import Derived.OpenShut
import Derived.Deep.Slices
import Derived.ChangeMaps5
import Derived.LaidHandle
import Derived.LaidMore
import Derived.Stop.Joined
import Derived.SevenTiedAt
import Derived.MakeChecks
import Derived.Test.YtngfaiahlblkkaaDoorTie
import Derived.Test.YtngfaiahlblkkaaDoorCards
import Derived.Deep.Fields
import Derived.ChangeSame
import Derived.Test.YtngfaiahlblkkaaDoorHe
import Derived.Test.YtngfaiahlblkkaaDoorLsqMZ
namespace Go.Proofs.YtngfaiahlblkkaaDoor.lsqMemory
open Go.ChangeShapes Go.WideShapes Go.ChangeAt Go.RowKit Go.Deep Go.XHeap
set_option linter.unusedVariables false

theorem own : ownKnob Tryd.prog.godebug = none := by kernel_rfl
def laidL : List (String × DataW Unit) := [("errors.errorType", Rows.laid_errors_errorType)]
theorem laidOut : laidOutB Tryd.prog = true := by kernel_rfl
-- DOORSTEPS 16
section
variable {H : Type} {enc : TypeId × Value → H} {P : Program} {w : World} {base : Nat} {spare : Nat → Bool} {held : Bool}
theorem open_slice_fields {t e : TypeId} {fs : Array Field} {fuel : Nat} {cs : List Value} {x : DataW H × List MemPlace} (ht : P.underlying t = some (.slice e)) (he : P.underlying e = some (.struct fs))
    (hone : oneCellFields P fs = true) (hC : P.cellsOf e = fs.size) (h : DataW.trod enc P w base spare held fuel t cs = some x) :
    (cs = [.slice none 0 0] ∧ x = (.nil, [])) ∨
    ∃ (a : Addr) (len cap m : Nat) (D : Nat → DataW H) (Pl : Nat → List MemPlace), cs = [.slice (some a) len cap] ∧ base ≤ a.block ∧ len ≤ cap ∧ cap ≤ maxLen ∧ m = (if spare a.block then cap else len) ∧
      x = (.slice ((List.range len).map D) ((List.range (m - len)).map fun j => D (len + j)), MemPlace.row a (m * fs.size) ++ (List.range m).flatMap Pl) ∧
      ∀ i, i < m → ∃ (ys : List (DataW H × List MemPlace)) (n : Nat), D i = .agg (ys.map (·.1)) ∧ Pl i = ys.flatMap (·.2) ∧ ys.length = fs.size ∧
        ∀ (j : Nat) (f : Field), fs[j]? = some f → ∃ (v : Value) (y : DataW H × List MemPlace), w.cell? (a.add (i * fs.size + j)) = some v ∧ ys[j]? = some y ∧ DataW.trod enc P w base spare held n f.type [v] = some y := by
  rcases open_slice ht h with h0 | ⟨a, len, cap, m, n, D, Pl, hcs, hb, hl, hm, hmm, hx, hi⟩
  · exact .inl h0
  · refine .inr ⟨a, len, cap, m, D, Pl, hcs, hb, hl, hm, hmm, by rw [hC] at hx; exact hx, fun i him => ?_⟩
    obtain ⟨cs', hc, ht'⟩ := hi i him
    rw [hC] at hc
    obtain ⟨ys, n', hn', hy, hlen, hyl, hf⟩ := DataW.trod_struct he ht'
    obtain ⟨_, hcl, hat⟩ := World.cells?_some hc
    simp only [Prod.mk.injEq] at hy
    refine ⟨ys, n', hy.1, hy.2, hyl, fun j f hj => ?_⟩
    obtain ⟨ho, hk⟩ := hone_of hone j f hj
    have hjl : j < fs.size := (Array.getElem?_eq_some_iff.1 hj).1
    have hcell := hat j hjl
    have hv : cs'[j]? = some (cs'[j]'(by omega)) := List.getElem?_eq_getElem (by omega)
    have h1 := hf j f hj
    rw [ho, hk] at h1
    have hone' : (cs'.drop j).take 1 = [cs'[j]'(by omega)] := by
      rw [List.drop_eq_getElem_cons (by omega)]
      rfl
    rw [hone'] at h1
    have hys : ys[j]? = some (ys[j]'(by omega)) := List.getElem?_eq_getElem (by omega)
    refine ⟨_, _, ?_, hys, h1.trans hys⟩
    rw [← Go.Deep.add_add, hcell, hv]
end
theorem at_i64 {H : Type} {enc : TypeId × Value → H} {W : World} {held : Bool} {n : Nat} {t : TypeId} {v : Value} {y : DataW H × List MemPlace} (ht : Tryd.prog.underlying t = some (.int .i64)) (h : DataW.trod enc Tryd.prog W 0 (fun _ => true) held n t [v] = some y) : ∃ z : Int, v = .int .i64 z ∧ -9223372036854775808 ≤ z ∧ z ≤ 9223372036854775807 := by
  obtain ⟨z, h1, -, hw⟩ := DataW.trod_int ht h
  exact ⟨z, by simpa using h1, by simpa [Lit.wf, IntKind.min, IntKind.max, IntKind.signed, IntKind.bits] using hw⟩
theorem at_u32 {H : Type} {enc : TypeId × Value → H} {W : World} {held : Bool} {n : Nat} {t : TypeId} {v : Value} {y : DataW H × List MemPlace} (ht : Tryd.prog.underlying t = some (.int .u32)) (h : DataW.trod enc Tryd.prog W 0 (fun _ => true) held n t [v] = some y) : ∃ z : Nat, v = .int .u32 z ∧ z < 4294967296 := by
  obtain ⟨z, h1, -, hw⟩ := DataW.trod_int ht h
  have : 0 ≤ z ∧ z ≤ 4294967295 := by simpa [Lit.wf, IntKind.min, IntKind.max, IntKind.signed, IntKind.bits] using hw
  refine ⟨z.toNat, ?_, by omega⟩
  rw [show ((z.toNat : Nat) : Int) = z by omega]
  simpa using h1
theorem at_bool {H : Type} {enc : TypeId × Value → H} {W : World} {held : Bool} {n : Nat} {t : TypeId} {v : Value} {y : DataW H × List MemPlace} (ht : Tryd.prog.underlying t = some .bool) (h : DataW.trod enc Tryd.prog W 0 (fun _ => true) held n t [v] = some y) : ∃ b : Bool, v = .bool b := by
  obtain ⟨b, h1, -⟩ := DataW.trod_bool ht h
  exact ⟨b, by simpa using h1⟩
theorem rd_raw {H : Type} {enc : TypeId × Value → H} {W : World} {a0 : Option Addr} {len cap fuel : Nat} {x : DataW H × List MemPlace} (h : DataW.trod enc Tryd.prog W 0 (fun _ => true) true fuel 22 [.slice a0 len cap] = some x) :
    ∀ i, i < len → ∃ g off, a0 = some ⟨g, off, none⟩ ∧ g < W.heap.size ∧ ∃ (x0 : Bool) (x1 : Int) (x2 : Int) (x3 : Nat), (-9223372036854775808 ≤ x1 ∧ x1 ≤ 9223372036854775807) ∧ (-9223372036854775808 ≤ x2 ∧ x2 ≤ 9223372036854775807) ∧ x3 < 4294967296 ∧ ∀ j v, (#[.bool x0, .int .i64 x1, .int .i64 x2, .int .u32 (x3 : Nat)] : Array Value)[j]? = some v → W.cell? ⟨g, off + i * 4 + j, none⟩ = some v := by
  rcases open_slice_fields Tryd.underlying22 Tryd.underlying41 (by kernel_rfl) (by kernel_rfl) h with ⟨hcs, hx⟩ | ⟨a, len', cap', m, D, Pl, hcs, _, hl, hm, hmm, hx, hi⟩
  · simp at hcs
    obtain ⟨rfl, rfl, rfl⟩ := hcs
    intro i hi; omega
  · simp at hcs
    obtain ⟨rfl, rfl, rfl⟩ := hcs
    simp at hmm
    subst hmm
    intro i hi'
    obtain ⟨ys, n, -, -, -, hf⟩ := hi i (by omega)
    obtain ⟨v0, y0, c0, -, t0⟩ := hf 0 _ rfl
    obtain ⟨v1, y1, c1, -, t1⟩ := hf 1 _ rfl
    obtain ⟨v2, y2, c2, -, t2⟩ := hf 2 _ rfl
    obtain ⟨v3, y3, c3, -, t3⟩ := hf 3 _ rfl
    obtain ⟨z0, rfl⟩ := at_bool Tryd.underlying4 t0
    obtain ⟨z1, rfl, b1⟩ := at_i64 Tryd.underlying3 t1
    obtain ⟨z2, rfl, b2⟩ := at_i64 Tryd.underlying3 t2
    obtain ⟨z3, rfl, b3⟩ := at_u32 Tryd.underlying39 t3
    obtain ⟨b, off, spot⟩ := a
    have hspot : spot = none := by
      obtain ⟨ys', n', -, -, -, hf'⟩ := hi 0 (by omega)
      obtain ⟨v, y, c, -, -⟩ := hf' 0 _ rfl
      simpa [Addr.add] using World.cell?_spot c
    subst hspot
    rw [add_plain] at c0 c1 c2 c3
    refine ⟨b, off, rfl, World.block_lt_of_cell? _ _ c0, z0, z1, z2, z3, b1, b2, b3, ?_⟩
    intro j v hj
    match j, hj with
    | 0, hj => cases hj; rw [Nat.add_assoc]; exact c0
    | 1, hj => cases hj; rw [Nat.add_assoc]; exact c1
    | 2, hj => cases hj; rw [Nat.add_assoc]; exact c2
    | 3, hj => cases hj; rw [Nat.add_assoc]; exact c3
theorem cells3 : Tryd.prog.cellsOf 3 = 1 := by kernel_rfl
theorem rd_acs {H : Type} {enc : TypeId × Value → H} {W : World} {a0 : Option Addr} {len cap fuel : Nat} {x : DataW H × List MemPlace} (h : DataW.trod enc Tryd.prog W 0 (fun _ => true) true fuel 22 [.slice a0 len cap] = some x) : len ≤ cap ∧ ∃ a : Nat → Ac, AcsAt W a0 len a := by
  constructor
  · rcases open_slice_fields Tryd.underlying22 Tryd.underlying41 (by kernel_rfl) (by kernel_rfl) h with ⟨hcs, hx⟩ | ⟨a, len', cap', m, D, Pl, hcs, _, hl, hm, hmm, hx, hi⟩
    · simp at hcs; omega
    · simp at hcs; omega
  · have h1 : ∀ i, ∃ c : Ac, i < len → ∃ g off, a0 = some ⟨g, off, none⟩ ∧ g < W.heap.size ∧ ∀ j v, c.cells[j]? = some v → W.cell? ⟨g, off + i * 4 + j, none⟩ = some v := by
      intro i
      by_cases hi : i < len
      · obtain ⟨g, off, e, hg, x0, x1, x2, x3, b1, b2, b3, hc⟩ := rd_raw h i hi
        exact ⟨⟨x0, x1, x2, x3, b2, b1, b3⟩, fun _ => ⟨g, off, e, hg, hc⟩⟩
      · exact ⟨⟨false, 0, 0, 0, by omega, by omega, by omega⟩, fun h => absurd h hi⟩
    obtain ⟨a, ha⟩ := Classical.axiomOfChoice h1
    exact ⟨a, ha⟩
theorem rd_ord {H : Type} {enc : TypeId × Value → H} {W : World} {a0 : Option Addr} {len cap fuel : Nat} {x : DataW H × List MemPlace} (h : DataW.trod enc Tryd.prog W 0 (fun _ => true) true fuel 23 [.slice a0 len cap] = some x) : OrdAt W a0 len := by
  rcases open_slice1 Tryd.underlying23 cells3 h with ⟨hcs, hx⟩ | ⟨a, len', cap', m, n, V, D, Pl, hcs, _, hl, hm, hz, hx, hcell⟩
  · simp at hcs
    obtain ⟨rfl, rfl, rfl⟩ := hcs
    intro i hi; omega
  · simp at hcs
    obtain ⟨rfl, rfl, rfl⟩ := hcs
    simp at hz
    subst hz
    intro i hi
    obtain ⟨g, off, spot⟩ := a
    obtain ⟨c0, t0⟩ := hcell i (by omega)
    have c00 := (hcell 0 (by omega)).1
    have hspot : spot = none := by simpa [Addr.add] using World.cell?_spot c00
    subst hspot
    rw [add_plain] at c0
    obtain ⟨z, e, b1, b2⟩ := at_i64 Tryd.underlying3 t0
    exact ⟨g, off, rfl, World.block_lt_of_cell? _ _ c0, z, ⟨b1, b2⟩, by rw [c0, e]⟩
-- PRE: obtain ⟨-, hL2⟩ : laidMet Tryd.prog [] W ∧ handlesMet Tryd.prog [("errors.errorType", Rows.laid_errors_errorType)] W := hL
-- PRE: have hE := hE_of_laid hL2
-- PRE: have hsz : 1 ≤ W.heap.size := World.block_lt_of_cell? _ _ hE
-- PRE: obtain ⟨hcap2, ac2, hac2⟩ := hs2

/-- The door's own heap meets the condition. -/
theorem door_met (os : Os) (args : Array Value) : laidMetH Tryd.prog laidL ((World.doorLaid Tryd.prog 16 os).forCall (fun _ _ => 0) ⟨#[], args, []⟩).memory := by
  exact laidMetH_of_parts3 (fuel := 8) (laidMet_of_run' 8 (by kernel_rfl) (by kernel_rfl)) (by kernel_rfl) (by kernel_rfl)
set_option maxRecDepth 100000 in
theorem lifted (os : Os) (started : os.Started) (H : Type) (enc : TypeId × Value → H) :
    ReturnsInHanded {} Tryd.checked os 3 .any (fun w args => (Rows.lsqMemorySpec.pre enc Tryd.prog Tryd.f3 [] false w args ∧ laidMetH Tryd.prog laidL w) ∧ sizedMet enc Tryd.prog Tryd.f3 (OpenSpec.ofChange Rows.lsqMemorySpec) false w args) (Rows.lsqMemorySpec.post enc Tryd.prog Tryd.f3 false true false false) := by
  refine returnsInHanded_of_change_and (C := Tryd.checked) (X := fun w _ => laidMetH Tryd.prog laidL w) (fun _ _ _ hh h => h.of_heap hh) own started (by kernel_rfl) Tryd.func3
    (ChangeSpec.witness_shaped (enc := enc) (C := Tryd.checked) (os := os) (X := fun w _ => laidMetH Tryd.prog laidL w) false (World.doorLaid Tryd.prog 16 os) #[.int .i64 0, .bool false, .slice none 0 0, .slice none 0 0] 8 rfl (World.shaped_of_RefB (by kernel_rfl) (by kernel_rfl)) (by kernel_rfl) (by kernel_rfl) (by kernel_rfl) (door_met os _)) ?_
  intro W base args ds gs before hval0 hW _ _ hL _
  have hval : ∀ (j : Nat) t v, Tryd.f3.params[j]? = some t → args[j]? = some v → Value.okWide Tryd.prog W .any base t v := hval0
  have hW' := hW
  obtain ⟨p, q, hA0, hV, rfl, hfz, hnd⟩ := hW
  have hA : DataW.TrodAll enc Tryd.prog W 0 (fun _ => true) true Tryd.f3.params.toList args.toList ds p := hA0
  rw [Tryd.params3] at hA hval
  obtain ⟨v0, vs0, d0, ds0, p0, q0, hargs, rfl, rfl, h0, r0⟩ := trodAll_cons hA
  obtain ⟨v1, vs1, d1, ds1, p1, q1, rfl, rfl, rfl, h1, r1⟩ := trodAll_cons r0
  obtain ⟨v2, vs2, d2, ds2, p2, q2, rfl, rfl, rfl, h2, r2⟩ := trodAll_cons r1
  obtain ⟨v3, vs3, d3, ds3, p3, q3, rfl, rfl, rfl, h3, r3⟩ := trodAll_cons r2
  obtain ⟨rfl, rfl, rfl⟩ := trodAll_nil r3
  obtain rfl : args = #[v0, v1, v2, v3] := by cases args; simp_all
  obtain ⟨rfl, rfl⟩ := trodVars_none hV
  obtain ⟨n0, rfl, rfl, rfl, w0⟩ := open_int Tryd.underlying3 (hval 0 3 v0 rfl rfl) h0
  obtain ⟨b1, rfl, rfl, rfl⟩ := open_bool Tryd.underlying4 (hval 1 4 v1 rfl rfl) h1
  obtain ⟨a2, len2, cap2, rfl⟩ := okWide_slice Tryd.underlying22 (hval 2 22 v2 rfl rfl)
  obtain ⟨a3, len3, cap3, rfl⟩ := okWide_slice Tryd.underlying23 (hval 3 23 v3 rfl rfl)
  clear hA0 hval0
  simp only [List.append_nil, List.nil_append] at hW'
  have hn0 : -9223372036854775808 ≤ n0 ∧ n0 ≤ 9223372036854775807 := by simpa [Lit.wf, IntKind.min, IntKind.max, IntKind.signed, IntKind.bits] using w0
  have hlt2 : ∀ x ∈ p2, x.block < W.heap.size := fun x hx => hW'.lt x (by simp [hx])
  have h2c := h2
  obtain ⟨fu2, hf2⟩ := h2c
  simp [Value.cells] at hf2
  have hs2 := rd_acs hf2
  have hlt3 : ∀ x ∈ p3, x.block < W.heap.size := fun x hx => hW'.lt x (by simp [hx])
  have h3c := h3
  obtain ⟨fu3, hf3⟩ := h3c
  simp [Value.cells] at hf3
  have hs3 := rd_ord hf3
  obtain ⟨-, hL2⟩ : laidMet Tryd.prog [] W ∧ handlesMet Tryd.prog [("errors.errorType", Rows.laid_errors_errorType)] W := hL
  have hE := hE_of_laid hL2
  have hsz : 1 ≤ W.heap.size := World.block_lt_of_cell? _ _ hE
  obtain ⟨hcap2, ac2, hac2⟩ := hs2
  refine (mem_ok hsz hE n0 hn0 b1 a2 len2 cap2 hcap2 ac2 hac2 a3 len3 cap3 hs3).mono fun e W' ⟨he, ht⟩ => ?_
  have hb : Below W.heap.size W W' := ht.below (Nat.le_refl _) (fun _ e => e.elim)
  subst he
  exact ⟨_, rfl, _, _, _, [], [] ++ ([] ++ (p2 ++ (p3 ++ []))), [], hW', trodAll_mk1 (shut_bool Tryd.underlying4 _),
    trodAll_cons_mk (shut_int Tryd.underlying3 w0) (trodAll_cons_mk (shut_bool Tryd.underlying4 _) (trodAll_cons_mk (Below.trod laidOut (by kernel_rfl) (of_decide_eq_true (by kernel_rfl)) h2 hb hlt2) (trodAll_cons_mk (Below.trod laidOut (by kernel_rfl) (of_decide_eq_true (by kernel_rfl)) h3 hb hlt3) trodAll_mk0))),
    rfl, hb.frame _, fun h => by cases h⟩

theorem over : Rows.lsqMemoryRow.holds Tryd.pinned (OpenSpec.ofChange Rows.lsqMemorySpec) :=
  OpenClaim.holds_of_wide 3 Tryd.f3 rfl rfl rfl rfl rfl rfl rfl ⟨rfl, rfl, rfl, rfl, rfl⟩ rfl rfl rfl rfl rfl (by kernel_rfl) Tryd.func3 (by kernel_rfl)
    (of_decide_eq_true (by kernel_rfl)) (by unfold Func.isWrapper; first | (rw [if_pos (by decide +kernel)]; kernel_rfl) | (rw [if_neg (by decide +kernel)]; exact ⟨rfl, rfl⟩))
    (fun os started H enc _ => lifted os started H enc)

theorem row_holds : Rows.LsqMemorySaid := over

/-- THE TIED CARD -/
theorem proved : Rows.LsqMemoryCardSaid :=
  Claim7.holds_tied_plain_at .later [] [.handle] true (true, "c9f5d3e8f384276899e182b9fdba86894a3376e384f78a90e6035a9ce0ebc329") true
    row_holds (fun _ h => by cases h) (by kernel_rfl) (fun _ h => by cases h) lsqMemory_row_tie rfl ⟨rfl, rfl⟩ (by kernel_rfl) rfl
    (fun f fn hf hfn => by
      obtain rfl : f = 3 := Option.some.inj ((show Tryd.prog.funcNamed "oocore/oocorelaw8.LsqMemory" = some 3 by kernel_rfl).symm.trans hf) |>.symm
      obtain rfl : fn = Tryd.f3 := (Option.some.inj (Tryd.func3.symm.trans hfn)).symm
      exact ⟨by kernel_rfl, fun j t ht => by
        rw [Tryd.params3] at ht
        have ht' : t ∈ #[3, 4, 22, 23] := Array.mem_of_getElem? ht
        simp only [List.mem_toArray, List.mem_cons, List.not_mem_nil, or_false] at ht'
        rcases ht' with rfl | rfl | rfl | rfl
        · exact (show Tryd.prog.wantsStandIn 3 = false by kernel_rfl)
        · exact (show Tryd.prog.wantsStandIn 4 = false by kernel_rfl)
        · exact (show Tryd.prog.wantsStandIn 22 = false by kernel_rfl)
        · exact (show Tryd.prog.wantsStandIn 23 = false by kernel_rfl)⟩)
    (by kernel_rfl)
#print axioms proved
end Go.Proofs.YtngfaiahlblkkaaDoor.lsqMemory
