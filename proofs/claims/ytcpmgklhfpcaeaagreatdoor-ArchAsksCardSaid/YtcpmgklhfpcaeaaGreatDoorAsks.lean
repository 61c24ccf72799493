/- ArchAsks: every instruction asks of memory, and does with any answer, what the chapter says. Conditions: the tables of package isa and the type of errors as they are laid. -/
import Derived.Test.YtcpmgklhfpcaeaaGreatDoorRows
import Derived.WalkKit
import Derived.ProofKit
import Derived.OpenShut
import Derived.Deep.Slices
import Derived.ChangeMaps5
import Derived.LaidHandle
import Derived.LaidMore
import Derived.Stop.Joined
import Derived.SevenTiedAt
import Derived.MakeChecks
import Derived.Test.YtcpmgklhfpcaeaaGreatDoorTie
import Derived.Test.YtcpmgklhfpcaeaaGreatDoorCards
import Derived.Test.YtcpmgklhfpcaeaaGreatDoorAskA
import Derived.Test.YtcpmgklhfpcaeaaGreatDoorHe
namespace Go.Proofs.YtcpmgklhfpcaeaaGreatDoor.archAsks
open Go.ChangeShapes Go.WideShapes Go.ChangeAt Go.RowKit Go.Deep Go.XHeap
set_option linter.unusedVariables false

theorem own : ownKnob Tryz.prog.godebug = none := by kernel_rfl
def laidL : List (String × DataW Unit) := [("errors.errorType", Rows.laid_errors_errorType), ("oocore/isa.early", Rows.laid_oocore_isa_early), ("oocore/isa.late", Rows.laid_oocore_isa_late), ("oocore/isa.byCode", Rows.laid_oocore_isa_byCode)]
theorem laidOut : laidOutB Tryz.prog = true := by kernel_rfl
-- DOORSTEPS 110
set_option maxRecDepth 100000
theorem list_of {α : Type} {P : Nat → α → Prop} : ∀ (n : Nat), (∀ i, i < n → ∃ x, P i x) → ∃ l : List α, l.length = n ∧ ∀ i x, l[i]? = some x → P i x
  | 0, _ => ⟨[], rfl, fun i x h => by simp at h⟩
  | n + 1, h => by
    obtain ⟨l, hl, hp⟩ := list_of n fun i hi => h i (by omega)
    obtain ⟨y, hy⟩ := h n (by omega)
    refine ⟨l ++ [y], by simp [hl], fun i x hi => ?_⟩
    by_cases hn : i < n
    · rw [List.getElem?_append_left (by omega)] at hi
      exact hp i x hi
    · have : i = n := by have := (List.getElem?_eq_some_iff.1 hi).1; simp at this; omega
      subst this
      rw [List.getElem?_append_right (by omega), hl, Nat.sub_self] at hi
      obtain rfl : y = x := by simpa using hi
      exact hy
/-- a parameter slice of one-cell elements: a list, and what its reading weighs -/
theorem okWide_spot {P : Program} {w : World} {r : Reach} {base : Nat} {t e : TypeId} {a : Addr} {len cap : Nat} (ht : P.underlying t = some (.slice e)) (h : Value.okWide P w r base t (.slice (some a) len cap)) : a.spot = none := by
  simp only [Value.okWide, ht, Cell.okWide, Cell.ok] at h
  exact h.2.2.2.1
theorem rd_one {α : Type} {H : Type} {enc : TypeId × Value → H} {W : World} {a0 : Option Addr} {len cap fuel : Nat} {x : DataW H × List MemPlace} {t e : TypeId} (ht : Tryz.prog.underlying t = some (.slice e)) (hC : Tryz.prog.cellsOf e = 1) (V : α → Value) (Q : α → Prop)
    (hv : ∀ (v : Value) (n : Nat) (y : DataW H × List MemPlace), DataW.trod enc Tryz.prog W 0 (fun _ => true) true n e [v] = some y → ∃ z, v = V z ∧ Q z)
    {base : Nat} (hok : Value.okWide Tryz.prog W .any base t (.slice a0 len cap)) (h : DataW.trod enc Tryz.prog W 0 (fun _ => true) true fuel t [.slice a0 len cap] = some x) :
    ∃ l : List α, l.length = len ∧ len ≤ maxLen ∧ (a0 = none ∨ ∃ g off, a0 = some ⟨g, off, none⟩) ∧ ∀ i z, l[i]? = some z → Q z ∧ ∃ g off, a0 = some ⟨g, off, none⟩ ∧ g < W.heap.size ∧ W.cell? ⟨g, off + i, none⟩ = some (V z) := by
  rcases open_slice ht h with ⟨hcs, hx⟩ | ⟨a, len', cap', m, n, D, Pl, hcs, _, hl, hm, hmm, hx, hi⟩
  · simp at hcs
    obtain ⟨rfl, rfl, rfl⟩ := hcs
    exact ⟨[], rfl, Nat.zero_le _, .inl rfl, fun i x h => by simp at h⟩
  · simp at hcs
    obtain ⟨rfl, rfl, rfl⟩ := hcs
    simp at hmm
    subst hmm
    have key : ∀ i, i < m → ∃ z, V z = V z ∧ Q z ∧ W.cell? (a.add i) = some (V z) := by
      intro i hi'
      obtain ⟨cs', hc, ht'⟩ := hi i hi'
      rw [hC, Nat.mul_one] at hc
      obtain ⟨_, hcl, hat⟩ := World.cells?_some hc
      obtain ⟨v, rfl⟩ := List.length_eq_one_iff.1 hcl
      obtain ⟨z, rfl, hq⟩ := hv v _ _ ht'
      refine ⟨z, rfl, hq, ?_⟩
      have := hat 0 (by omega)
      simpa [Addr.add] using this
    obtain ⟨b, off, spot⟩ := a
    obtain ⟨l, hll, hlp⟩ := list_of len fun i hi' => key i (by omega)
    refine ⟨l, hll, Nat.le_trans hl hm, ?_, fun i z hz => ?_⟩
    · have : spot = none := okWide_spot (P := Tryz.prog) (w := W) (r := .any) (base := base) (a := ⟨b, off, spot⟩) ht hok
      subst this
      exact .inr ⟨_, _, rfl⟩
    · obtain ⟨-, hq, hc⟩ := hlp i z hz
      have hspot : spot = none := okWide_spot (P := Tryz.prog) (w := W) (r := .any) (base := base) (a := ⟨b, off, spot⟩) ht hok
      subst hspot
      rw [add_plain] at hc
      exact ⟨hq, b, off, rfl, World.block_lt_of_cell? _ _ hc, hc⟩
theorem rd_bytes {H : Type} {enc : TypeId × Value → H} {W : World} {a0 : Option Addr} {len cap fuel : Nat} {x : DataW H × List MemPlace} {base : Nat} (hok : Value.okWide Tryz.prog W .any base 54 (.slice a0 len cap)) (h : DataW.trod enc Tryz.prog W 0 (fun _ => true) true fuel 54 [.slice a0 len cap] = some x) :
    ∃ l : List Nat, l.length = len ∧ (a0 = none ∨ ∃ g off, a0 = some ⟨g, off, none⟩) ∧ BytesAt W a0 l ∧ ∀ x ∈ l, x < 256 := by
  obtain ⟨l, h1, h2, h5, h3⟩ := rd_one (α := Nat) Tryz.underlying54 (by kernel_rfl) (fun z => .int .u8 (z : Nat)) (fun z => z < 256) (fun v n y h => by
    obtain ⟨z, h1, -, hw⟩ := DataW.trod_int Tryz.underlying5 h
    have : 0 ≤ z ∧ z ≤ 255 := by simpa [Lit.wf, IntKind.min, IntKind.max, IntKind.signed, IntKind.bits] using hw
    refine ⟨z.toNat, ?_, by omega⟩
    rw [show ((z.toNat : Nat) : Int) = z by omega]
    simpa using h1) hok h
  refine ⟨l, h1, h5, fun i z hz => (h3 i z hz).2, fun z hz => ?_⟩
  obtain ⟨i, hi⟩ := List.getElem?_of_mem hz
  exact (h3 i z hi).1
theorem rd_words {H : Type} {enc : TypeId × Value → H} {W : World} {a0 : Option Addr} {len cap fuel : Nat} {x : DataW H × List MemPlace} {base : Nat} (hok : Value.okWide Tryz.prog W .any base 22 (.slice a0 len cap)) (h : DataW.trod enc Tryz.prog W 0 (fun _ => true) true fuel 22 [.slice a0 len cap] = some x) :
    ∃ l : List Int, l.length = len ∧ (a0 = none ∨ ∃ g off, a0 = some ⟨g, off, none⟩) ∧ WordsAt W a0 l ∧ ∀ x ∈ l, U32 x := by
  obtain ⟨l, h1, h2, h5, h3⟩ := rd_one (α := Int) Tryz.underlying22 (by kernel_rfl) (fun z => .int .u32 z) U32 (fun v n y h => by
    obtain ⟨z, h1, -, hw⟩ := DataW.trod_int Tryz.underlying35 h
    have : 0 ≤ z ∧ z ≤ 4294967295 := by simpa [Lit.wf, IntKind.min, IntKind.max, IntKind.signed, IntKind.bits] using hw
    exact ⟨z, by simpa using h1, by omega, by omega⟩) hok h
  refine ⟨l, h1, h5, fun i z hz => (h3 i z hz).2, fun z hz => ?_⟩
  obtain ⟨i, hi⟩ := List.getElem?_of_mem hz
  exact (h3 i z hi).1
theorem code_of_laid {W : World} {l : List (String × DataW Unit)} (h : laidMet Tryz.prog l W) (h0 : ("oocore/isa.byCode", Rows.laid_oocore_isa_byCode) ∈ l) : CodeAt W 1 codeL :=
  codeAt_of (g := 1) (t := 147) (n := 128) (by kernel_rfl) (by kernel_rfl) Tryz.underlying147 (code_eq ▸ Lib.laidMet.reads h h0)
theorem rd_ints {H : Type} {enc : TypeId × Value → H} {W : World} {a0 : Option Addr} {len cap fuel : Nat} {x : DataW H × List MemPlace} {base : Nat} (hok : Value.okWide Tryz.prog W .any base 23 (.slice a0 len cap)) (h : DataW.trod enc Tryz.prog W 0 (fun _ => true) true fuel 23 [.slice a0 len cap] = some x) :
    ∃ l : List Int, l.length = len ∧ len ≤ maxLen ∧ IntsAt W a0 l := by
  obtain ⟨l, h1, h2, h5, h3⟩ := rd_one (α := Int) Tryz.underlying23 (by kernel_rfl) (fun z => .int .i64 z) (fun _ => True) (fun v n y h => by
    obtain ⟨z, h1, -, hw⟩ := DataW.trod_int Tryz.underlying3 h
    exact ⟨z, by simpa using h1, trivial⟩) hok h
  exact ⟨l, h1, h2, fun i z hz => (h3 i z hz).2⟩
-- PRE: obtain ⟨hL1, hL2⟩ : laidMet Tryz.prog [("oocore/isa.early", Rows.laid_oocore_isa_early), ("oocore/isa.late", Rows.laid_oocore_isa_late), ("oocore/isa.byCode", Rows.laid_oocore_isa_byCode)] W ∧ handlesMet Tryz.prog [("errors.errorType", Rows.laid_errors_errorType)] W := hL
-- PRE: have hT := tab_of_laid hL1 (by simp) (by simp)
-- PRE: have hC := code_of_laid hL1 (by simp)
-- PRE: have hE := hE_of_laid hL2
-- PRE: have hsz : 1 ≤ W.heap.size := World.block_lt_of_cell? _ _ hE
-- PRE: have hTb : Tabs W.heap.size W := ⟨W, rfl, hT, hC, XTouch.refl _ _⟩
-- PRE: obtain ⟨l0, e0, -, hw0, hu0⟩ := rd_words (hval 0 22 _ rfl rfl) hf0
-- PRE: obtain ⟨l3, e3, -, hw3, hu3⟩ := rd_words (hval 3 22 _ rfl rfl) hf3
-- PRE: obtain ⟨l4, e4, hm4, hw4⟩ := rd_ints (hval 4 23 _ rfl rfl) hf4
-- PRE: subst e0 e3 e4
-- PRE: have hmx : maxLen = 2 ^ 63 - 1 := rfl

/-- The door's own heap meets the condition. -/
theorem door_met (os : Os) (args : Array Value) : laidMetH Tryz.prog laidL ((World.doorLaid Tryz.prog 110 os).forCall (fun _ _ => 0) ⟨#[], args, []⟩).memory := by
  exact laidMetH_of_parts3 (fuel := 8) (laidMet_of_run' 8 (by kernel_rfl) (by kernel_rfl)) (by kernel_rfl) (by kernel_rfl)
set_option maxRecDepth 100000 in
theorem lifted (os : Os) (started : os.Started) (H : Type) (enc : TypeId × Value → H) :
    ReturnsInHanded {} Tryz.checked os 3 .any (fun w args => (Rows.archAsksSpec.pre enc Tryz.prog Tryz.f3 [] false w args ∧ laidMetH Tryz.prog laidL w) ∧ sizedMet enc Tryz.prog Tryz.f3 (OpenSpec.ofChange Rows.archAsksSpec) false w args) (Rows.archAsksSpec.post enc Tryz.prog Tryz.f3 false true false false) := by
  refine returnsInHanded_of_change_and (C := Tryz.checked) (X := fun w _ => laidMetH Tryz.prog laidL w) (fun _ _ _ hh h => h.of_heap hh) own started (by kernel_rfl) Tryz.func3
    (ChangeSpec.witness_shaped (enc := enc) (C := Tryz.checked) (os := os) (X := fun w _ => laidMetH Tryz.prog laidL w) false (World.doorLaid Tryz.prog 110 os) #[.slice none 0 0, .int .i64 0, .int .i64 0, .slice none 0 0, .slice none 0 0, .int .i64 0] 8 rfl (World.shaped_of_RefB (by kernel_rfl) (by kernel_rfl)) (by kernel_rfl) (by kernel_rfl) (by kernel_rfl) (door_met os _)) ?_
  intro W base args ds gs before hval0 hW _ _ hL _
  have hval : ∀ (j : Nat) t v, Tryz.f3.params[j]? = some t → args[j]? = some v → Value.okWide Tryz.prog W .any base t v := hval0
  have hW' := hW
  obtain ⟨p, q, hA0, hV, rfl, hfz, hnd⟩ := hW
  have hA : DataW.TrodAll enc Tryz.prog W 0 (fun _ => true) true Tryz.f3.params.toList args.toList ds p := hA0
  rw [Tryz.params3] at hA hval
  obtain ⟨v0, vs0, d0, ds0, p0, q0, hargs, rfl, rfl, h0, r0⟩ := trodAll_cons hA
  obtain ⟨v1, vs1, d1, ds1, p1, q1, rfl, rfl, rfl, h1, r1⟩ := trodAll_cons r0
  obtain ⟨v2, vs2, d2, ds2, p2, q2, rfl, rfl, rfl, h2, r2⟩ := trodAll_cons r1
  obtain ⟨v3, vs3, d3, ds3, p3, q3, rfl, rfl, rfl, h3, r3⟩ := trodAll_cons r2
  obtain ⟨v4, vs4, d4, ds4, p4, q4, rfl, rfl, rfl, h4, r4⟩ := trodAll_cons r3
  obtain ⟨v5, vs5, d5, ds5, p5, q5, rfl, rfl, rfl, h5, r5⟩ := trodAll_cons r4
  obtain ⟨rfl, rfl, rfl⟩ := trodAll_nil r5
  obtain rfl : args = #[v0, v1, v2, v3, v4, v5] := by cases args; simp_all
  obtain ⟨rfl, rfl⟩ := trodVars_none hV
  obtain ⟨a0, len0, cap0, rfl⟩ := okWide_slice Tryz.underlying22 (hval 0 22 v0 rfl rfl)
  obtain ⟨n1, rfl, rfl, rfl, w1⟩ := open_int Tryz.underlying3 (hval 1 3 v1 rfl rfl) h1
  obtain ⟨n2, rfl, rfl, rfl, w2⟩ := open_int Tryz.underlying3 (hval 2 3 v2 rfl rfl) h2
  obtain ⟨a3, len3, cap3, rfl⟩ := okWide_slice Tryz.underlying22 (hval 3 22 v3 rfl rfl)
  obtain ⟨a4, len4, cap4, rfl⟩ := okWide_slice Tryz.underlying23 (hval 4 23 v4 rfl rfl)
  obtain ⟨n5, rfl, rfl, rfl, w5⟩ := open_int Tryz.underlying3 (hval 5 3 v5 rfl rfl) h5
  clear hA0 hval0
  simp only [List.append_nil, List.nil_append] at hW'
  have hlt0 : ∀ x ∈ p0, x.block < W.heap.size := fun x hx => hW'.lt x (by simp [hx])
  have h0c := h0
  obtain ⟨fu0, hf0⟩ := h0c
  simp [Value.cells] at hf0
  have hs0 := id hf0
  have hn1 : -9223372036854775808 ≤ n1 ∧ n1 ≤ 9223372036854775807 := by simpa [Lit.wf, IntKind.min, IntKind.max, IntKind.signed, IntKind.bits] using w1
  have hn2 : -9223372036854775808 ≤ n2 ∧ n2 ≤ 9223372036854775807 := by simpa [Lit.wf, IntKind.min, IntKind.max, IntKind.signed, IntKind.bits] using w2
  have hlt3 : ∀ x ∈ p3, x.block < W.heap.size := fun x hx => hW'.lt x (by simp [hx])
  have h3c := h3
  obtain ⟨fu3, hf3⟩ := h3c
  simp [Value.cells] at hf3
  have hs3 := id hf3
  have hlt4 : ∀ x ∈ p4, x.block < W.heap.size := fun x hx => hW'.lt x (by simp [hx])
  have h4c := h4
  obtain ⟨fu4, hf4⟩ := h4c
  simp [Value.cells] at hf4
  have hs4 := id hf4
  have hn5 : -9223372036854775808 ≤ n5 ∧ n5 ≤ 9223372036854775807 := by simpa [Lit.wf, IntKind.min, IntKind.max, IntKind.signed, IntKind.bits] using w5
  obtain ⟨hL1, hL2⟩ : laidMet Tryz.prog [("oocore/isa.early", Rows.laid_oocore_isa_early), ("oocore/isa.late", Rows.laid_oocore_isa_late), ("oocore/isa.byCode", Rows.laid_oocore_isa_byCode)] W ∧ handlesMet Tryz.prog [("errors.errorType", Rows.laid_errors_errorType)] W := hL
  have hT := tab_of_laid hL1 (by simp) (by simp)
  have hC := code_of_laid hL1 (by simp)
  have hE := hE_of_laid hL2
  have hsz : 1 ≤ W.heap.size := World.block_lt_of_cell? _ _ hE
  have hTb : Tabs W.heap.size W := ⟨W, rfl, hT, hC, XTouch.refl _ _⟩
  obtain ⟨l0, e0, -, hw0, hu0⟩ := rd_words (hval 0 22 _ rfl rfl) hf0
  obtain ⟨l3, e3, -, hw3, hu3⟩ := rd_words (hval 3 22 _ rfl rfl) hf3
  obtain ⟨l4, e4, hm4, hw4⟩ := rd_ints (hval 4 23 _ rfl rfl) hf4
  subst e0 e3 e4
  have hmx : maxLen = 2 ^ 63 - 1 := rfl
  refine (asks_ok hTb hE hsz ⟨Nat.le_refl _, hw0⟩ hu0 hw3 hu3 hw4 (by omega) n1 n2 n5).mono fun e W' ⟨he, ht⟩ => ?_
  have hb : Below W.heap.size W W' := ht.below (Nat.le_refl _) (fun _ e => e.elim)
  subst he
  exact ⟨_, rfl, _, _, _, [], p0 ++ ([] ++ ([] ++ (p3 ++ (p4 ++ ([] ++ []))))), [], hW', trodAll_mk1 (shut_bool Tryz.underlying4 _),
    trodAll_cons_mk (Below.trod laidOut (by kernel_rfl) (of_decide_eq_true (by kernel_rfl)) h0 hb hlt0) (trodAll_cons_mk (shut_int Tryz.underlying3 w1) (trodAll_cons_mk (shut_int Tryz.underlying3 w2) (trodAll_cons_mk (Below.trod laidOut (by kernel_rfl) (of_decide_eq_true (by kernel_rfl)) h3 hb hlt3) (trodAll_cons_mk (Below.trod laidOut (by kernel_rfl) (of_decide_eq_true (by kernel_rfl)) h4 hb hlt4) (trodAll_cons_mk (shut_int Tryz.underlying3 w5) trodAll_mk0))))),
    rfl, hb.frame _, fun h => by cases h⟩

theorem over : Rows.archAsksRow.holds Tryz.pinned (OpenSpec.ofChange Rows.archAsksSpec) :=
  OpenClaim.holds_of_wide 3 Tryz.f3 rfl rfl rfl rfl rfl rfl rfl ⟨rfl, rfl, rfl, rfl, rfl⟩ rfl rfl rfl rfl rfl (by kernel_rfl) Tryz.func3 (by kernel_rfl)
    (of_decide_eq_true (by kernel_rfl)) (by unfold Func.isWrapper; first | (rw [if_pos (by decide +kernel)]; kernel_rfl) | (rw [if_neg (by decide +kernel)]; exact ⟨rfl, rfl⟩))
    (fun os started H enc _ => lifted os started H enc)

theorem row_holds : Rows.ArchAsksSaid := over

/-- THE TIED CARD -/
theorem proved : Rows.ArchAsksCardSaid :=
  Claim7.holds_tied_plain_at .later [] [.handle, .data, .data, .data] true (true, "42b71422d0334573de6afd933be4a9504f7801fde7da464a6c54e67d02f1197a") true
    row_holds (fun _ h => by cases h) (by kernel_rfl) (fun _ h => by cases h) archAsks_row_tie rfl ⟨rfl, rfl⟩ (by kernel_rfl) rfl
    (fun f fn hf hfn => by
      obtain rfl : f = 3 := Option.some.inj ((show Tryz.prog.funcNamed "oocore/oocorelaw4.ArchAsks" = some 3 by kernel_rfl).symm.trans hf) |>.symm
      obtain rfl : fn = Tryz.f3 := (Option.some.inj (Tryz.func3.symm.trans hfn)).symm
      exact ⟨by kernel_rfl, fun j t ht => by
        rw [Tryz.params3] at ht
        have ht' : t ∈ #[22, 3, 3, 22, 23, 3] := Array.mem_of_getElem? ht
        simp only [List.mem_toArray, List.mem_cons, List.not_mem_nil, or_false] at ht'
        rcases ht' with rfl | rfl | rfl | rfl | rfl | rfl
        · exact (show Tryz.prog.wantsStandIn 22 = false by kernel_rfl)
        · exact (show Tryz.prog.wantsStandIn 3 = false by kernel_rfl)
        · exact (show Tryz.prog.wantsStandIn 3 = false by kernel_rfl)
        · exact (show Tryz.prog.wantsStandIn 22 = false by kernel_rfl)
        · exact (show Tryz.prog.wantsStandIn 23 = false by kernel_rfl)
        · exact (show Tryz.prog.wantsStandIn 3 = false by kernel_rfl)⟩)
    (by kernel_rfl)
#print axioms proved
end Go.Proofs.YtcpmgklhfpcaeaaGreatDoor.archAsks
