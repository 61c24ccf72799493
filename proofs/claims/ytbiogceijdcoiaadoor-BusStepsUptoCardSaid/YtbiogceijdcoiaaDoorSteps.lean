/- The tied card (second form) of BusSteps. -/
import Derived.Test.YtbiogceijdcoiaaDoorRows
import Derived.WalkKit
import Derived.ProofKit
import Derived.OpenShut
import Derived.Deep.Slices
import Derived.Deep.DeepHandedRow
import Derived.Deep.DeepWitnessRowRef
import Derived.ChangeMaps5
import Derived.LaidHandle
import Derived.LaidMore
import Derived.SevenTiedAt
import Derived.MakeChecks
import Derived.Test.YtbiogceijdcoiaaDoorTie
import Derived.Test.YtbiogceijdcoiaaDoorCards
import Derived.Deep.Fields
import Derived.ChangeSame
import Derived.Test.YtbiogceijdcoiaaDoorBusZ
import Derived.Test.YtbiogceijdcoiaaDoorHe
namespace Go.Proofs.YtbiogceijdcoiaaDoor.busStepsUpto
open Go.ChangeShapes Go.WideShapes Go.ChangeAt Go.RowKit Go.Deep Go.XHeap
set_option linter.unusedVariables false

theorem own : ownKnob Tryd.prog.godebug = none := by kernel_rfl
theorem laidOut : laidOutB Tryd.prog = true := by kernel_rfl
-- DOORSTEPS 16
section
variable {H : Type} {enc : TypeId × Value → H} {P : Program} {w : World} {base : Nat} {spare : Nat → Bool} {held : Bool}
theorem open_slice_fields {t e : TypeId} {fs : Array Field} {fuel : Nat} {cs : List Value} {x : DataW H × List MemPlace} (ht : P.underlying t = some (.slice e)) (he : P.underlying e = some (.struct fs))
    (hone : oneCellFields P fs = true) (hC : P.cellsOf e = fs.size) (h : DataW.trod enc P w base spare held fuel t cs = some x) :
    (cs = [.slice none 0 0] ∧ x = (.nil, [])) ∨
    ∃ (a : Addr) (len cap m : Nat) (D : Nat → DataW H) (Pl : Nat → List MemPlace), cs = [.slice (some a) len cap] ∧ base ≤ a.block ∧ len ≤ cap ∧ cap ≤ maxLen ∧ m = (if spare a.block then cap else len) ∧
      x = (.slice ((List.range len).map D) ((List.range (m - len)).map fun j => D (len + j)), MemPlace.row a (m * fs.size) ++ (List.range m).flatMap Pl) ∧
      ∀ i, i < m → ∃ (ys : List (DataW H × List MemPlace)) (n : Nat), D i = .agg (ys.map (·.1)) ∧ Pl i = ys.flatMap (·.2) ∧ ys.length = fs.size ∧
        ∀ (j : Nat) (f : Field), fs[j]? = some f → ∃ (v : Value) (y : DataW H × List MemPlace), w.cell? (a.add (i * fs.size + j)) = some v ∧ ys[j]? = some y ∧ DataW.trod enc P w base spare held n f.type [v] = some y := by
  rcases open_slice ht h with h0 | ⟨a, len, cap, m, n, D, Pl, hcs, hb, hl, hm, hmm, hx, hi⟩
  · exact .inl h0
  · refine .inr ⟨a, len, cap, m, D, Pl, hcs, hb, hl, hm, hmm, by rw [hC] at hx; exact hx, fun i him => ?_⟩
    obtain ⟨cs', hc, ht'⟩ := hi i him
    rw [hC] at hc
    obtain ⟨ys, n', hn', hy, hlen, hyl, hf⟩ := DataW.trod_struct he ht'
    obtain ⟨_, hcl, hat⟩ := World.cells?_some hc
    simp only [Prod.mk.injEq] at hy
    refine ⟨ys, n', hy.1, hy.2, hyl, fun j f hj => ?_⟩
    obtain ⟨ho, hk⟩ := hone_of hone j f hj
    have hjl : j < fs.size := (Array.getElem?_eq_some_iff.1 hj).1
    have hcell := hat j hjl
    have hv : cs'[j]? = some (cs'[j]'(by omega)) := List.getElem?_eq_getElem (by omega)
    have h1 := hf j f hj
    rw [ho, hk] at h1
    have hone' : (cs'.drop j).take 1 = [cs'[j]'(by omega)] := by
      rw [List.drop_eq_getElem_cons (by omega)]
      rfl
    rw [hone'] at h1
    have hys : ys[j]? = some (ys[j]'(by omega)) := List.getElem?_eq_getElem (by omega)
    refine ⟨_, _, ?_, hys, h1.trans hys⟩
    rw [← Go.Deep.add_add, hcell, hv]
end
theorem at_i64 {H : Type} {enc : TypeId × Value → H} {W : World} {held : Bool} {n : Nat} {t : TypeId} {v : Value} {y : DataW H × List MemPlace} (ht : Tryd.prog.underlying t = some (.int .i64)) (h : DataW.trod enc Tryd.prog W 0 (fun _ => true) held n t [v] = some y) : ∃ z : Int, v = .int .i64 z ∧ -9223372036854775808 ≤ z ∧ z ≤ 9223372036854775807 := by
  obtain ⟨z, h1, -, hw⟩ := DataW.trod_int ht h
  exact ⟨z, by simpa using h1, by simpa [Lit.wf, IntKind.min, IntKind.max, IntKind.signed, IntKind.bits] using hw⟩
theorem at_u32 {H : Type} {enc : TypeId × Value → H} {W : World} {held : Bool} {n : Nat} {t : TypeId} {v : Value} {y : DataW H × List MemPlace} (ht : Tryd.prog.underlying t = some (.int .u32)) (h : DataW.trod enc Tryd.prog W 0 (fun _ => true) held n t [v] = some y) : ∃ z : Nat, v = .int .u32 z ∧ z < 4294967296 := by
  obtain ⟨z, h1, -, hw⟩ := DataW.trod_int ht h
  have : 0 ≤ z ∧ z ≤ 4294967295 := by simpa [Lit.wf, IntKind.min, IntKind.max, IntKind.signed, IntKind.bits] using hw
  refine ⟨z.toNat, ?_, by omega⟩
  rw [show ((z.toNat : Nat) : Int) = z by omega]
  simpa using h1
theorem at_bool {H : Type} {enc : TypeId × Value → H} {W : World} {held : Bool} {n : Nat} {t : TypeId} {v : Value} {y : DataW H × List MemPlace} (ht : Tryd.prog.underlying t = some .bool) (h : DataW.trod enc Tryd.prog W 0 (fun _ => true) held n t [v] = some y) : ∃ b : Bool, v = .bool b := by
  obtain ⟨b, h1, -⟩ := DataW.trod_bool ht h
  exact ⟨b, by simpa using h1⟩
theorem rd_raw {H : Type} {enc : TypeId × Value → H} {W : World} {a0 : Option Addr} {len cap fuel : Nat} {x : DataW H × List MemPlace} (h : DataW.trod enc Tryd.prog W 0 (fun _ => true) true fuel 24 [.slice a0 len cap] = some x) :
    ∀ i, i < len → ∃ g off, a0 = some ⟨g, off, none⟩ ∧ g < W.heap.size ∧ ∃ (x0 : Int) (x1 : Int) (x2 : Int) (x3 : Int) (x4 : Int), (-9223372036854775808 ≤ x0 ∧ x0 ≤ 9223372036854775807) ∧ (-9223372036854775808 ≤ x1 ∧ x1 ≤ 9223372036854775807) ∧ (-9223372036854775808 ≤ x2 ∧ x2 ≤ 9223372036854775807) ∧ (-9223372036854775808 ≤ x3 ∧ x3 ≤ 9223372036854775807) ∧ (-9223372036854775808 ≤ x4 ∧ x4 ≤ 9223372036854775807) ∧ ∀ j v, (#[.int .i64 x0, .int .i64 x1, .int .i64 x2, .int .i64 x3, .int .i64 x4] : Array Value)[j]? = some v → W.cell? ⟨g, off + i * 5 + j, none⟩ = some v := by
  rcases open_slice_fields Tryd.underlying24 Tryd.underlying30 (by kernel_rfl) (by kernel_rfl) h with ⟨hcs, hx⟩ | ⟨a, len', cap', m, D, Pl, hcs, _, hl, hm, hmm, hx, hi⟩
  · simp at hcs
    obtain ⟨rfl, rfl, rfl⟩ := hcs
    intro i hi; omega
  · simp at hcs
    obtain ⟨rfl, rfl, rfl⟩ := hcs
    simp at hmm
    subst hmm
    intro i hi'
    obtain ⟨ys, n, -, -, -, hf⟩ := hi i (by omega)
    obtain ⟨v0, y0, c0, -, t0⟩ := hf 0 _ rfl
    obtain ⟨v1, y1, c1, -, t1⟩ := hf 1 _ rfl
    obtain ⟨v2, y2, c2, -, t2⟩ := hf 2 _ rfl
    obtain ⟨v3, y3, c3, -, t3⟩ := hf 3 _ rfl
    obtain ⟨v4, y4, c4, -, t4⟩ := hf 4 _ rfl
    obtain ⟨z0, rfl, b0⟩ := at_i64 Tryd.underlying3 t0
    obtain ⟨z1, rfl, b1⟩ := at_i64 Tryd.underlying3 t1
    obtain ⟨z2, rfl, b2⟩ := at_i64 Tryd.underlying3 t2
    obtain ⟨z3, rfl, b3⟩ := at_i64 Tryd.underlying3 t3
    obtain ⟨z4, rfl, b4⟩ := at_i64 Tryd.underlying3 t4
    obtain ⟨b, off, spot⟩ := a
    have hspot : spot = none := by
      obtain ⟨ys', n', -, -, -, hf'⟩ := hi 0 (by omega)
      obtain ⟨v, y, c, -, -⟩ := hf' 0 _ rfl
      simpa [Addr.add] using World.cell?_spot c
    subst hspot
    rw [add_plain] at c0 c1 c2 c3 c4
    refine ⟨b, off, rfl, World.block_lt_of_cell? _ _ c0, z0, z1, z2, z3, z4, b0, b1, b2, b3, b4, ?_⟩
    intro j v hj
    match j, hj with
    | 0, hj => cases hj; rw [Nat.add_assoc]; exact c0
    | 1, hj => cases hj; rw [Nat.add_assoc]; exact c1
    | 2, hj => cases hj; rw [Nat.add_assoc]; exact c2
    | 3, hj => cases hj; rw [Nat.add_assoc]; exact c3
    | 4, hj => cases hj; rw [Nat.add_assoc]; exact c4
theorem rd_ops {H : Type} {enc : TypeId × Value → H} {W : World} {a0 : Option Addr} {len cap fuel : Nat} {x : DataW H × List MemPlace} (h : DataW.trod enc Tryd.prog W 0 (fun _ => true) true fuel 24 [.slice a0 len cap] = some x) : Scr W a0 len := by
  intro i hi
  obtain ⟨g, off, e, hg, x0, x1, x2, x3, x4, -, -, -, -, -, hc⟩ := rd_raw h i hi
  exact ⟨g, off, x0, x1, x2, x3, x4, e, hg, fun j v hj => by rw [add_plain]; exact hc j v hj⟩
theorem bulk_one {H : Type} (d : DataW H) : 1 ≤ Rows.uptoBulk d := by
  cases d with
  | lit l => cases l <;> simp [Rows.uptoBulk]
  | _ => simp [Rows.uptoBulk]
theorem bulk_length {H : Type} (l : List (DataW H)) : l.length ≤ Rows.uptoBulkAll l := by
  induction l with
  | nil => simp [Rows.uptoBulkAll]
  | cons x r ih => have := bulk_one x; simp only [Rows.uptoBulkAll, List.length_cons]; omega
theorem list_of {α : Type} {P : Nat → α → Prop} : ∀ (n : Nat), (∀ i, i < n → ∃ x, P i x) → ∃ l : List α, l.length = n ∧ ∀ i x, l[i]? = some x → P i x
  | 0, _ => ⟨[], rfl, fun i x h => by simp at h⟩
  | n + 1, h => by
    obtain ⟨l, hl, hp⟩ := list_of n fun i hi => h i (by omega)
    obtain ⟨y, hy⟩ := h n (by omega)
    refine ⟨l ++ [y], by simp [hl], fun i x hi => ?_⟩
    by_cases hn : i < n
    · rw [List.getElem?_append_left (by omega)] at hi
      exact hp i x hi
    · have : i = n := by have := (List.getElem?_eq_some_iff.1 hi).1; simp at this; omega
      subst this
      rw [List.getElem?_append_right (by omega), hl, Nat.sub_self] at hi
      obtain rfl : y = x := by simpa using hi
      exact hy
/-- a parameter slice of one-cell elements: a list, and what its reading weighs -/
theorem okWide_spot {P : Program} {w : World} {r : Reach} {base : Nat} {t e : TypeId} {a : Addr} {len cap : Nat} (ht : P.underlying t = some (.slice e)) (h : Value.okWide P w r base t (.slice (some a) len cap)) : a.spot = none := by
  simp only [Value.okWide, ht, Cell.okWide, Cell.ok] at h
  exact h.2.2.2.1
set_option maxRecDepth 100000
theorem rd_one {α : Type} {H : Type} {enc : TypeId × Value → H} {W : World} {a0 : Option Addr} {len cap fuel : Nat} {x : DataW H × List MemPlace} {t e : TypeId} (ht : Tryd.prog.underlying t = some (.slice e)) (hC : Tryd.prog.cellsOf e = 1) (V : α → Value) (Q : α → Prop)
    (hv : ∀ (v : Value) (n : Nat) (y : DataW H × List MemPlace), DataW.trod enc Tryd.prog W 0 (fun _ => true) true n e [v] = some y → ∃ z, v = V z ∧ Q z)
    {base : Nat} (hok : Value.okWide Tryd.prog W .any base t (.slice a0 len cap)) (h : DataW.trod enc Tryd.prog W 0 (fun _ => true) true fuel t [.slice a0 len cap] = some x) :
    ∃ l : List α, l.length = len ∧ len ≤ cap ∧ ((a0 = none ∨ ∃ g off, a0 = some ⟨g, off, none⟩) ∧ ∀ i z, l[i]? = some z → Q z ∧ ∃ g off, a0 = some ⟨g, off, none⟩ ∧ g < W.heap.size ∧ W.cell? ⟨g, off + i, none⟩ = some (V z)) ∧ len ≤ Rows.uptoBulk x.1 := by
  rcases open_slice ht h with ⟨hcs, hx⟩ | ⟨a, len', cap', m, n, D, Pl, hcs, _, hl, hm, hmm, hx, hi⟩
  · simp at hcs
    obtain ⟨rfl, rfl, rfl⟩ := hcs
    exact ⟨[], rfl, Nat.le_refl _, ⟨.inl rfl, fun i x h => by simp at h⟩, Nat.zero_le _⟩
  · simp at hcs
    obtain ⟨rfl, rfl, rfl⟩ := hcs
    simp at hmm
    subst hmm
    have key : ∀ i, i < m → ∃ z, V z = V z ∧ Q z ∧ W.cell? (a.add i) = some (V z) := by
      intro i hi'
      obtain ⟨cs', hc, ht'⟩ := hi i hi'
      rw [hC, Nat.mul_one] at hc
      obtain ⟨_, hcl, hat⟩ := World.cells?_some hc
      obtain ⟨v, rfl⟩ := List.length_eq_one_iff.1 hcl
      obtain ⟨z, rfl, hq⟩ := hv v _ _ ht'
      refine ⟨z, rfl, hq, ?_⟩
      have := hat 0 (by omega)
      simpa [Addr.add] using this
    obtain ⟨b, off, spot⟩ := a
    have hb : len ≤ Rows.uptoBulk x.1 := by
      rw [hx]
      simp only [Rows.uptoBulk]
      have := bulk_length ((List.range len).map D)
      simp at this
      omega
    obtain ⟨l, hll, hlp⟩ := list_of len fun i hi' => key i (by omega)
    refine ⟨l, hll, hl, ⟨?_, fun i z hz => ?_⟩, hb⟩
    · have : spot = none := okWide_spot (P := Tryd.prog) (w := W) (r := .any) (base := base) (a := ⟨b, off, spot⟩) ht hok
      subst this
      exact .inr ⟨_, _, rfl⟩
    · obtain ⟨-, hq, hc⟩ := hlp i z hz
      have hspot : spot = none := okWide_spot (P := Tryd.prog) (w := W) (r := .any) (base := base) (a := ⟨b, off, spot⟩) ht hok
      subst hspot
      rw [add_plain] at hc
      exact ⟨hq, b, off, rfl, World.block_lt_of_cell? _ _ hc, hc⟩
theorem rd_ints {H : Type} {enc : TypeId × Value → H} {W : World} {a0 : Option Addr} {len cap fuel : Nat} {x : DataW H × List MemPlace} {base : Nat} (hok : Value.okWide Tryd.prog W .any base 22 (.slice a0 len cap)) (h : DataW.trod enc Tryd.prog W 0 (fun _ => true) true fuel 22 [.slice a0 len cap] = some x) :
    ∃ l : List Int, l.length = len ∧ len ≤ cap ∧ IntsAt W a0 l ∧ len ≤ Rows.uptoBulk x.1 := by
  obtain ⟨l, h1, h2, ⟨-, h3⟩, h4⟩ := rd_one (α := Int) Tryd.underlying22 (by kernel_rfl) (fun z => .int .i64 z) (fun _ => True) (fun v n y h => by
    obtain ⟨z, h1, -, -⟩ := at_i64 Tryd.underlying3 h
    exact ⟨z, h1, trivial⟩) hok h
  exact ⟨l, h1, h2, fun i z hz => (h3 i z hz).2, h4⟩
theorem rd_bytes {H : Type} {enc : TypeId × Value → H} {W : World} {a0 : Option Addr} {len cap fuel : Nat} {x : DataW H × List MemPlace} {base : Nat} (hok : Value.okWide Tryd.prog W .any base 23 (.slice a0 len cap)) (h : DataW.trod enc Tryd.prog W 0 (fun _ => true) true fuel 23 [.slice a0 len cap] = some x) :
    ∃ l : List Nat, l.length = len ∧ len ≤ cap ∧ (BytesAt W a0 l ∧ (a0 = none ∨ ∃ g off, a0 = some ⟨g, off, none⟩) ∧ ∀ x ∈ l, x < 256) ∧ len ≤ Rows.uptoBulk x.1 := by
  obtain ⟨l, h1, h2, ⟨h5, h3⟩, h4⟩ := rd_one (α := Nat) Tryd.underlying23 (by kernel_rfl) (fun z => .int .u8 (z : Nat)) (fun z => z < 256) (fun v n y h => by
    obtain ⟨z, h1, -, hw⟩ := DataW.trod_int Tryd.underlying5 h
    have : 0 ≤ z ∧ z ≤ 255 := by simpa [Lit.wf, IntKind.min, IntKind.max, IntKind.signed, IntKind.bits] using hw
    refine ⟨z.toNat, ?_, by omega⟩
    rw [show ((z.toNat : Nat) : Int) = z by omega]
    simpa using h1) hok h
  refine ⟨l, h1, h2, ⟨fun i z hz => (h3 i z hz).2, h5, fun z hz => ?_⟩, h4⟩
  obtain ⟨i, hi⟩ := List.getElem?_of_mem hz
  exact (h3 i z hi).1
-- PRE: obtain ⟨-, hL2⟩ : laidMet Tryd.prog [] W ∧ handlesMet Tryd.prog [("errors.errorType", Rows.laid_errors_errorType)] W := hL
-- PRE: have hE := hE_of_laid hL2
-- PRE: have hsz : 1 ≤ W.heap.size := World.block_lt_of_cell? _ _ hE

/-- The witness' heap meets the condition. -/
theorem door_met (os : Os) (args : Array Value) : laidMetH Tryd.prog Rows.busStepsUptoRow.laid ((World.doorLaid Tryd.prog 16 os).forCall (fun _ _ => 0) ⟨#[], args, []⟩).memory := by
  exact laidMetH_of_parts3 (fuel := 8) (laidMet_of_run' 8 (by kernel_rfl) (by kernel_rfl)) (by kernel_rfl) (by kernel_rfl)
theorem reads (os : Os) {H : Type} (enc : TypeId × Value → H) : ∃ places, DataW.whole enc Tryd.prog ((World.doorLaid Tryd.prog 16 os).forCall (fun _ _ => 0) ⟨#[], #[.slice none 0 0, .slice none 0 0, .int .i64 0, .slice none 0 0, .slice none 0 0], []⟩).memory Tryd.f3.params.toList Rows.busStepsSpec.vars false (#[.slice none 0 0, .slice none 0 0, .int .i64 0, .slice none 0 0, .slice none 0 0] : Array Value).toList 8 = some ([.nil, .nil, .lit (.int .i64 0), .nil, .nil], [], places) :=
  ⟨[], by kernel_rfl⟩
set_option maxRecDepth 100000 in
theorem lifted (os : Os) (started : os.Started) (H : Type) (enc : TypeId × Value → H) (F : Stop.Interp) :
    ReturnsInHanded {} Tryd.checked os 3 .any ((Rows.OpenSpec.upto Rows.busStepsSpec).preRow enc Tryd.prog Tryd.f3 Rows.busStepsUptoRow.domain false Rows.busStepsUptoRow.laid) (((Rows.OpenSpec.upto Rows.busStepsSpec).at F).post enc Tryd.prog Tryd.f3 false true false false) := by
  obtain ⟨places, hx⟩ := reads os enc
  refine returnsInHanded_of_row (C := Tryd.checked) (s := Rows.OpenSpec.upto Rows.busStepsSpec) own started (by kernel_rfl) Tryd.func3
    (witness_row_atRef (enc := enc) (C := Tryd.checked) false (World.doorLaid Tryd.prog 16 os) #[.slice none 0 0, .slice none 0 0, .int .i64 0, .slice none 0 0, .slice none 0 0] rfl (by kernel_rfl) (by kernel_rfl) (by kernel_rfl)
      (OpenSpec.preRow_of_cond 8 hx (by kernel_rfl) (fun k hk => by cases hk; kernel_rfl) (by kernel_rfl) (door_met os _))) ?_
  intro W base args ds gs before hval0 hW hcnd hk0 _ hL _ _
  have hk := hk0 _ rfl
  have hval : ∀ (j : Nat) t v, Tryd.f3.params[j]? = some t → args[j]? = some v → Value.okWide Tryd.prog W .any base t v := hval0
  have hW' := hW
  obtain ⟨p, q, hA0, hV, rfl, hfz, hnd⟩ := hW
  have hA : DataW.TrodAll enc Tryd.prog W 0 (fun _ => true) true Tryd.f3.params.toList args.toList ds p := hA0
  rw [Tryd.params3] at hA hval
  obtain ⟨v0, vs0, d0, ds0, p0, q0, hargs, rfl, rfl, h0, r0⟩ := trodAll_cons hA
  obtain ⟨v1, vs1, d1, ds1, p1, q1, rfl, rfl, rfl, h1, r1⟩ := trodAll_cons r0
  obtain ⟨v2, vs2, d2, ds2, p2, q2, rfl, rfl, rfl, h2, r2⟩ := trodAll_cons r1
  obtain ⟨v3, vs3, d3, ds3, p3, q3, rfl, rfl, rfl, h3, r3⟩ := trodAll_cons r2
  obtain ⟨v4, vs4, d4, ds4, p4, q4, rfl, rfl, rfl, h4, r4⟩ := trodAll_cons r3
  obtain ⟨rfl, rfl, rfl⟩ := trodAll_nil r4
  obtain rfl : args = #[v0, v1, v2, v3, v4] := by cases args; simp_all
  obtain ⟨rfl, rfl⟩ := trodVars_none hV
  obtain ⟨a0, len0, cap0, rfl⟩ := okWide_slice Tryd.underlying22 (hval 0 22 v0 rfl rfl)
  obtain ⟨a1, len1, cap1, rfl⟩ := okWide_slice Tryd.underlying22 (hval 1 22 v1 rfl rfl)
  obtain ⟨n2, rfl, rfl, rfl, w2⟩ := open_int Tryd.underlying3 (hval 2 3 v2 rfl rfl) h2
  obtain ⟨a3, len3, cap3, rfl⟩ := okWide_slice Tryd.underlying23 (hval 3 23 v3 rfl rfl)
  obtain ⟨a4, len4, cap4, rfl⟩ := okWide_slice Tryd.underlying24 (hval 4 24 v4 rfl rfl)
  clear hA0 hval0
  simp only [List.append_nil, List.nil_append] at hW'
  have hlt0 : ∀ x ∈ p0, x.block < W.heap.size := fun x hx => hW'.lt x (by simp [hx])
  have h0c := h0
  obtain ⟨fu0, hf0⟩ := h0c
  simp [Value.cells] at hf0
  obtain ⟨l0, hl0, hc0, hi0, hb0⟩ := rd_ints (hval 0 22 _ rfl rfl) hf0
  subst hl0
  simp only at hb0
  have hlt1 : ∀ x ∈ p1, x.block < W.heap.size := fun x hx => hW'.lt x (by simp [hx])
  have h1c := h1
  obtain ⟨fu1, hf1⟩ := h1c
  simp [Value.cells] at hf1
  obtain ⟨l1, hl1, hc1, hi1, hb1⟩ := rd_ints (hval 1 22 _ rfl rfl) hf1
  subst hl1
  simp only at hb1
  have hn2 : -9223372036854775808 ≤ n2 ∧ n2 ≤ 9223372036854775807 := by simpa [Lit.wf, IntKind.min, IntKind.max, IntKind.signed, IntKind.bits] using w2
  have hlt3 : ∀ x ∈ p3, x.block < W.heap.size := fun x hx => hW'.lt x (by simp [hx])
  have h3c := h3
  obtain ⟨fu3, hf3⟩ := h3c
  simp [Value.cells] at hf3
  obtain ⟨l3, hl3, hc3, hi3, hb3⟩ := rd_bytes (hval 3 23 _ rfl rfl) hf3
  subst hl3
  simp only at hb3
  have hlt4 : ∀ x ∈ p4, x.block < W.heap.size := fun x hx => hW'.lt x (by simp [hx])
  have h4c := h4
  obtain ⟨fu4, hf4⟩ := h4c
  simp [Value.cells] at hf4
  have hs4 := rd_ops hf4
  have hB : Rows.uptoBulkAll ([d0, d1, .lit (.int .i64 n2), d3, d4] : List (DataW H)) ≤ 1048576 := by simpa [Rows.uptoSmall] using hk
  simp only [Rows.uptoBulkAll] at hB
  obtain ⟨-, hL2⟩ : laidMet Tryd.prog [] W ∧ handlesMet Tryd.prog [("errors.errorType", Rows.laid_errors_errorType)] W := hL
  have hE := hE_of_laid hL2
  have hsz : 1 ≤ W.heap.size := World.block_lt_of_cell? _ _ hE
  refine (steps_ok hE hsz hi0 hi1 hc0 hc1 hi3.1 hi3.2.1 hi3.2.2 (by omega) (by omega) (by omega) a4 len4 cap4 hs4).mono fun e W' ⟨he, ht⟩ => ?_
  have hb : Below W.heap.size W W' := ht.below (Nat.le_refl _) (fun _ e => e.elim)
  subst he
  exact ⟨_, rfl, _, _, _, [], p0 ++ (p1 ++ ([] ++ (p3 ++ (p4 ++ [])))), [], hW', trodAll_mk1 (shut_bool Tryd.underlying4 _),
    trodAll_cons_mk (Below.trod laidOut (by kernel_rfl) (of_decide_eq_true (by kernel_rfl)) h0 hb hlt0) (trodAll_cons_mk (Below.trod laidOut (by kernel_rfl) (of_decide_eq_true (by kernel_rfl)) h1 hb hlt1) (trodAll_cons_mk (shut_int Tryd.underlying3 w2) (trodAll_cons_mk (Below.trod laidOut (by kernel_rfl) (of_decide_eq_true (by kernel_rfl)) h3 hb hlt3) (trodAll_cons_mk (Below.trod laidOut (by kernel_rfl) (of_decide_eq_true (by kernel_rfl)) h4 hb hlt4) trodAll_mk0)))),
    rfl, hb.frame _, fun h => by cases h⟩

theorem over : Rows.BusStepsUptoSaid :=
  OpenClaim.holds_of_cond 3 Tryd.f3 rfl rfl rfl rfl rfl rfl rfl ⟨rfl, rfl, rfl, rfl, rfl⟩ rfl rfl rfl rfl rfl (by kernel_rfl) Tryd.func3 (by kernel_rfl)
    (of_decide_eq_true (by kernel_rfl)) (by unfold Func.isWrapper; first | (rw [if_pos (by decide +kernel)]; kernel_rfl) | (rw [if_neg (by decide +kernel)]; exact ⟨rfl, rfl⟩))
    (fun os started H enc _ F => by rw [OpenClaim.pre_eq_preRow]; exact lifted os started H enc F)

/-- THE TIED CARD -/
theorem proved : Rows.BusStepsUptoCardSaid :=
  Claim7.holds_tied_plain_at .later [] [.handle] true (true, "43b77977604ecf6f949270a531bf9c690a1d838875be6e7c15ddfaf81a54bf98") true
    over (fun _ h => by cases h) (by kernel_rfl) (fun _ h => by cases h) busStepsUpto_row_tie rfl ⟨rfl, rfl⟩ (by kernel_rfl) rfl
    (fun f fn hf hfn => by
      obtain rfl : f = 3 := Option.some.inj ((show Tryd.prog.funcNamed "oocore/oocorelaw10.BusSteps" = some 3 by kernel_rfl).symm.trans hf) |>.symm
      obtain rfl : fn = Tryd.f3 := (Option.some.inj (Tryd.func3.symm.trans hfn)).symm
      exact ⟨by kernel_rfl, fun j t ht => by
        rw [Tryd.params3] at ht
        have ht' : t ∈ #[22, 22, 3, 23, 24] := Array.mem_of_getElem? ht
        simp only [List.mem_toArray, List.mem_cons, List.not_mem_nil, or_false] at ht'
        rcases ht' with rfl | rfl | rfl | rfl | rfl
        · exact (show Tryd.prog.wantsStandIn 22 = false by kernel_rfl)
        · exact (show Tryd.prog.wantsStandIn 22 = false by kernel_rfl)
        · exact (show Tryd.prog.wantsStandIn 3 = false by kernel_rfl)
        · exact (show Tryd.prog.wantsStandIn 23 = false by kernel_rfl)
        · exact (show Tryd.prog.wantsStandIn 24 = false by kernel_rfl)⟩)
    (by kernel_rfl)
#print axioms proved
end Go.Proofs.YtbiogceijdcoiaaDoor.busStepsUpto
