/- ArchSteps, where what it reads is of bulk at most 1048576. -/
import Derived.Test.YtcpmgklhfpcaeaaGreatDoorRows
import Derived.WalkKit
import Derived.ProofKit
import Derived.OpenShut
import Derived.Deep.Slices
import Derived.Deep.DeepHandedRow
import Derived.Deep.DeepWitnessRowRef
import Derived.ChangeMaps5
import Derived.LaidHandle
import Derived.LaidMore
import Derived.SevenTiedAt
import Derived.MakeChecks
import Derived.Test.YtcpmgklhfpcaeaaGreatDoorTie
import Derived.Test.YtcpmgklhfpcaeaaGreatDoorCards
import Derived.Test.YtcpmgklhfpcaeaaGreatDoorStepW
import Derived.Test.YtcpmgklhfpcaeaaGreatDoorHe
namespace Go.Proofs.YtcpmgklhfpcaeaaGreatDoor.archStepsUpto
open Go.ChangeShapes Go.WideShapes Go.ChangeAt Go.RowKit Go.Deep Go.XHeap
set_option linter.unusedVariables false

theorem own : ownKnob Tryz.prog.godebug = none := by kernel_rfl
theorem laidOut : laidOutB Tryz.prog = true := by kernel_rfl
-- DOORSTEPS 110
set_option maxRecDepth 100000
theorem bulk_one {H : Type} (d : DataW H) : 1 ≤ Rows.uptoBulk d := by
  cases d with
  | lit l => cases l <;> simp [Rows.uptoBulk]
  | _ => simp [Rows.uptoBulk]
theorem bulk_length {H : Type} (l : List (DataW H)) : l.length ≤ Rows.uptoBulkAll l := by
  induction l with
  | nil => simp [Rows.uptoBulkAll]
  | cons x r ih => have := bulk_one x; simp only [Rows.uptoBulkAll, List.length_cons]; omega
theorem list_of {α : Type} {P : Nat → α → Prop} : ∀ (n : Nat), (∀ i, i < n → ∃ x, P i x) → ∃ l : List α, l.length = n ∧ ∀ i x, l[i]? = some x → P i x
  | 0, _ => ⟨[], rfl, fun i x h => by simp at h⟩
  | n + 1, h => by
    obtain ⟨l, hl, hp⟩ := list_of n fun i hi => h i (by omega)
    obtain ⟨y, hy⟩ := h n (by omega)
    refine ⟨l ++ [y], by simp [hl], fun i x hi => ?_⟩
    by_cases hn : i < n
    · rw [List.getElem?_append_left (by omega)] at hi
      exact hp i x hi
    · have : i = n := by have := (List.getElem?_eq_some_iff.1 hi).1; simp at this; omega
      subst this
      rw [List.getElem?_append_right (by omega), hl, Nat.sub_self] at hi
      obtain rfl : y = x := by simpa using hi
      exact hy
theorem okWide_spot {P : Program} {w : World} {r : Reach} {base : Nat} {t e : TypeId} {a : Addr} {len cap : Nat} (ht : P.underlying t = some (.slice e)) (h : Value.okWide P w r base t (.slice (some a) len cap)) : a.spot = none := by
  simp only [Value.okWide, ht, Cell.okWide, Cell.ok] at h
  exact h.2.2.2.1
theorem rd_one {α : Type} {H : Type} {enc : TypeId × Value → H} {W : World} {a0 : Option Addr} {len cap fuel : Nat} {x : DataW H × List MemPlace} {t e : TypeId} (ht : Tryz.prog.underlying t = some (.slice e)) (hC : Tryz.prog.cellsOf e = 1) (V : α → Value) (Q : α → Prop)
    (hv : ∀ (v : Value) (n : Nat) (y : DataW H × List MemPlace), DataW.trod enc Tryz.prog W 0 (fun _ => true) true n e [v] = some y → ∃ z, v = V z ∧ Q z)
    {base : Nat} (hok : Value.okWide Tryz.prog W .any base t (.slice a0 len cap)) (h : DataW.trod enc Tryz.prog W 0 (fun _ => true) true fuel t [.slice a0 len cap] = some x) :
    ∃ l : List α, l.length = len ∧ len ≤ cap ∧ ((a0 = none ∨ ∃ g off, a0 = some ⟨g, off, none⟩) ∧ ∀ i z, l[i]? = some z → Q z ∧ ∃ g off, a0 = some ⟨g, off, none⟩ ∧ g < W.heap.size ∧ W.cell? ⟨g, off + i, none⟩ = some (V z)) ∧ len ≤ Rows.uptoBulk x.1 := by
  rcases open_slice ht h with ⟨hcs, hx⟩ | ⟨a, len', cap', m, n, D, Pl, hcs, _, hl, hm, hmm, hx, hi⟩
  · simp at hcs
    obtain ⟨rfl, rfl, rfl⟩ := hcs
    exact ⟨[], rfl, Nat.le_refl _, ⟨.inl rfl, fun i x h => by simp at h⟩, Nat.zero_le _⟩
  · simp at hcs
    obtain ⟨rfl, rfl, rfl⟩ := hcs
    simp at hmm
    subst hmm
    have key : ∀ i, i < m → ∃ z, V z = V z ∧ Q z ∧ W.cell? (a.add i) = some (V z) := by
      intro i hi'
      obtain ⟨cs', hc, ht'⟩ := hi i hi'
      rw [hC, Nat.mul_one] at hc
      obtain ⟨_, hcl, hat⟩ := World.cells?_some hc
      obtain ⟨v, rfl⟩ := List.length_eq_one_iff.1 hcl
      obtain ⟨z, rfl, hq⟩ := hv v _ _ ht'
      refine ⟨z, rfl, hq, ?_⟩
      have := hat 0 (by omega)
      simpa [Addr.add] using this
    obtain ⟨b, off, spot⟩ := a
    have hb : len ≤ Rows.uptoBulk x.1 := by
      rw [hx]
      simp only [Rows.uptoBulk]
      have := bulk_length ((List.range len).map D)
      simp at this
      omega
    obtain ⟨l, hll, hlp⟩ := list_of len fun i hi' => key i (by omega)
    refine ⟨l, hll, hl, ⟨?_, fun i z hz => ?_⟩, hb⟩
    · have : spot = none := okWide_spot (P := Tryz.prog) (w := W) (r := .any) (base := base) (a := ⟨b, off, spot⟩) ht hok
      subst this
      exact .inr ⟨_, _, rfl⟩
    · obtain ⟨-, hq, hc⟩ := hlp i z hz
      have hspot : spot = none := okWide_spot (P := Tryz.prog) (w := W) (r := .any) (base := base) (a := ⟨b, off, spot⟩) ht hok
      subst hspot
      rw [add_plain] at hc
      exact ⟨hq, b, off, rfl, World.block_lt_of_cell? _ _ hc, hc⟩
theorem rd_ints {H : Type} {enc : TypeId × Value → H} {W : World} {a0 : Option Addr} {len cap fuel : Nat} {x : DataW H × List MemPlace} {base : Nat} (hok : Value.okWide Tryz.prog W .any base 23 (.slice a0 len cap)) (h : DataW.trod enc Tryz.prog W 0 (fun _ => true) true fuel 23 [.slice a0 len cap] = some x) :
    ∃ l : List Int, l.length = len ∧ len ≤ cap ∧ IntsAt W a0 l ∧ len ≤ Rows.uptoBulk x.1 := by
  obtain ⟨l, h1, h2, ⟨-, h3⟩, h4⟩ := rd_one (α := Int) Tryz.underlying23 (by kernel_rfl) (fun z => .int .i64 z) (fun _ => True) (fun v n y h => by
    obtain ⟨z, h1, -, -⟩ := DataW.trod_int Tryz.underlying3 h
    exact ⟨z, by simpa using h1, trivial⟩) hok h
  exact ⟨l, h1, h2, fun i z hz => (h3 i z hz).2, h4⟩
theorem rd_bytes {H : Type} {enc : TypeId × Value → H} {W : World} {a0 : Option Addr} {len cap fuel : Nat} {x : DataW H × List MemPlace} {base : Nat} (hok : Value.okWide Tryz.prog W .any base 54 (.slice a0 len cap)) (h : DataW.trod enc Tryz.prog W 0 (fun _ => true) true fuel 54 [.slice a0 len cap] = some x) :
    ∃ l : List Nat, l.length = len ∧ len ≤ cap ∧ (BytesAt W a0 l ∧ (a0 = none ∨ ∃ g off, a0 = some ⟨g, off, none⟩) ∧ ∀ x ∈ l, x < 256) ∧ len ≤ Rows.uptoBulk x.1 := by
  obtain ⟨l, h1, h2, ⟨h5, h3⟩, h4⟩ := rd_one (α := Nat) Tryz.underlying54 (by kernel_rfl) (fun z => .int .u8 (z : Nat)) (fun z => z < 256) (fun v n y h => by
    obtain ⟨z, h1, -, hw⟩ := DataW.trod_int Tryz.underlying5 h
    have : 0 ≤ z ∧ z ≤ 255 := by simpa [Lit.wf, IntKind.min, IntKind.max, IntKind.signed, IntKind.bits] using hw
    refine ⟨z.toNat, ?_, by omega⟩
    rw [show ((z.toNat : Nat) : Int) = z by omega]
    simpa using h1) hok h
  refine ⟨l, h1, h2, ⟨fun i z hz => (h3 i z hz).2, h5, fun z hz => ?_⟩, h4⟩
  obtain ⟨i, hi⟩ := List.getElem?_of_mem hz
  exact (h3 i z hi).1
theorem rd_words {H : Type} {enc : TypeId × Value → H} {W : World} {a0 : Option Addr} {len cap fuel : Nat} {x : DataW H × List MemPlace} {base : Nat} (hok : Value.okWide Tryz.prog W .any base 22 (.slice a0 len cap)) (h : DataW.trod enc Tryz.prog W 0 (fun _ => true) true fuel 22 [.slice a0 len cap] = some x) :
    ∃ l : List Int, l.length = len ∧ len ≤ cap ∧ (WordsAt W a0 l ∧ ∀ x ∈ l, U32 x) ∧ len ≤ Rows.uptoBulk x.1 := by
  obtain ⟨l, h1, h2, ⟨h5, h3⟩, h4⟩ := rd_one (α := Int) Tryz.underlying22 (by kernel_rfl) (fun z => .int .u32 z) U32 (fun v n y h => by
    obtain ⟨z, h1, -, hw⟩ := DataW.trod_int Tryz.underlying35 h
    have : 0 ≤ z ∧ z ≤ 4294967295 := by simpa [Lit.wf, IntKind.min, IntKind.max, IntKind.signed, IntKind.bits] using hw
    exact ⟨z, by simpa using h1, by omega, by omega⟩) hok h
  refine ⟨l, h1, h2, ⟨fun i z hz => (h3 i z hz).2, fun z hz => ?_⟩, h4⟩
  obtain ⟨i, hi⟩ := List.getElem?_of_mem hz
  exact (h3 i z hi).1
theorem code_of_laid {W : World} {l : List (String × DataW Unit)} (h : laidMet Tryz.prog l W) (h0 : ("oocore/isa.byCode", Rows.laid_oocore_isa_byCode) ∈ l) : CodeAt W 1 codeL :=
  codeAt_of (g := 1) (t := 147) (n := 128) (by kernel_rfl) (by kernel_rfl) Tryz.underlying147 (code_eq ▸ Lib.laidMet.reads h h0)
-- PRE: obtain ⟨hL1, hL2⟩ : laidMet Tryz.prog [("oocore/isa.early", Rows.laid_oocore_isa_early), ("oocore/isa.late", Rows.laid_oocore_isa_late), ("oocore/isa.byCode", Rows.laid_oocore_isa_byCode)] W ∧ handlesMet Tryz.prog [("errors.errorType", Rows.laid_errors_errorType)] W := hL
-- PRE: have hT := tab_of_laid hL1 (by simp) (by simp)
-- PRE: have hC := code_of_laid hL1 (by simp)
-- PRE: have hE := hE_of_laid hL2
-- PRE: have hsz : 1 ≤ W.heap.size := World.block_lt_of_cell? _ _ hE
-- PRE: have hTb : Tabs W.heap.size W := ⟨W, rfl, hT, hC, XTouch.refl _ _⟩

/-- The witness' heap meets the condition. -/
theorem door_met (os : Os) (args : Array Value) : laidMetH Tryz.prog Rows.archStepsUptoRow.laid ((World.doorLaid Tryz.prog 110 os).forCall (fun _ _ => 0) ⟨#[], args, []⟩).memory := by
  exact laidMetH_of_parts3 (fuel := 8) (laidMet_of_run' 8 (by kernel_rfl) (by kernel_rfl)) (by kernel_rfl) (by kernel_rfl)
theorem reads (os : Os) {H : Type} (enc : TypeId × Value → H) : ∃ places, DataW.whole enc Tryz.prog ((World.doorLaid Tryz.prog 110 os).forCall (fun _ _ => 0) ⟨#[], #[.slice none 0 0, .slice none 0 0, .slice none 0 0, .int .i64 0], []⟩).memory Tryz.f4.params.toList Rows.archStepsSpec.vars false (#[.slice none 0 0, .slice none 0 0, .slice none 0 0, .int .i64 0] : Array Value).toList 8 = some ([.nil, .nil, .nil, .lit (.int .i64 0)], [], places) :=
  ⟨[], by kernel_rfl⟩
set_option maxRecDepth 100000 in
theorem lifted (os : Os) (started : os.Started) (H : Type) (enc : TypeId × Value → H) (F : Stop.Interp) :
    ReturnsInHanded {} Tryz.checked os 4 .any ((Rows.OpenSpec.upto Rows.archStepsSpec).preRow enc Tryz.prog Tryz.f4 Rows.archStepsUptoRow.domain false Rows.archStepsUptoRow.laid) (((Rows.OpenSpec.upto Rows.archStepsSpec).at F).post enc Tryz.prog Tryz.f4 false true false false) := by
  obtain ⟨places, hx⟩ := reads os enc
  refine returnsInHanded_of_row (C := Tryz.checked) (s := Rows.OpenSpec.upto Rows.archStepsSpec) own started (by kernel_rfl) Tryz.func4
    (witness_row_atRef (enc := enc) (C := Tryz.checked) false (World.doorLaid Tryz.prog 110 os) #[.slice none 0 0, .slice none 0 0, .slice none 0 0, .int .i64 0] rfl (by kernel_rfl) (by kernel_rfl) (by kernel_rfl)
      (OpenSpec.preRow_of_cond 8 hx (by kernel_rfl) (fun k hk => by cases hk; kernel_rfl) (by kernel_rfl) (door_met os _))) ?_
  intro W base args ds gs before hval0 hW hcnd hk0 _ hL _ _
  have hk := hk0 _ rfl
  have hval : ∀ (j : Nat) t v, Tryz.f4.params[j]? = some t → args[j]? = some v → Value.okWide Tryz.prog W .any base t v := hval0
  have hW' := hW
  obtain ⟨p, q, hA0, hV, rfl, hfz, hnd⟩ := hW
  have hA : DataW.TrodAll enc Tryz.prog W 0 (fun _ => true) true Tryz.f4.params.toList args.toList ds p := hA0
  rw [Tryz.params4] at hA hval
  obtain ⟨v0, vs0, d0, ds0, p0, q0, hargs, rfl, rfl, h0, r0⟩ := trodAll_cons hA
  obtain ⟨v1, vs1, d1, ds1, p1, q1, rfl, rfl, rfl, h1, r1⟩ := trodAll_cons r0
  obtain ⟨v2, vs2, d2, ds2, p2, q2, rfl, rfl, rfl, h2, r2⟩ := trodAll_cons r1
  obtain ⟨v3, vs3, d3, ds3, p3, q3, rfl, rfl, rfl, h3, r3⟩ := trodAll_cons r2
  obtain ⟨rfl, rfl, rfl⟩ := trodAll_nil r3
  obtain rfl : args = #[v0, v1, v2, v3] := by cases args; simp_all
  obtain ⟨rfl, rfl⟩ := trodVars_none hV
  obtain ⟨a0, len0, cap0, rfl⟩ := okWide_slice Tryz.underlying22 (hval 0 22 v0 rfl rfl)
  obtain ⟨a1, len1, cap1, rfl⟩ := okWide_slice Tryz.underlying54 (hval 1 54 v1 rfl rfl)
  obtain ⟨a2, len2, cap2, rfl⟩ := okWide_slice Tryz.underlying23 (hval 2 23 v2 rfl rfl)
  obtain ⟨n3, rfl, rfl, rfl, w3⟩ := open_int Tryz.underlying3 (hval 3 3 v3 rfl rfl) h3
  clear hA0 hval0
  simp only [List.append_nil] at hW'
  have hlt0 : ∀ x ∈ p0, x.block < W.heap.size := fun x hx => hW'.lt x (by simp [hx])
  have h0c := h0
  obtain ⟨fu0, hf0⟩ := h0c
  simp [Value.cells] at hf0
  obtain ⟨l0, hl0, hc0, hi0, hb0⟩ := rd_words (hval 0 22 _ rfl rfl) hf0
  subst hl0
  simp only at hb0
  have hlt1 : ∀ x ∈ p1, x.block < W.heap.size := fun x hx => hW'.lt x (by simp [hx])
  have h1c := h1
  obtain ⟨fu1, hf1⟩ := h1c
  simp [Value.cells] at hf1
  obtain ⟨l1, hl1, hc1, hi1, hb1⟩ := rd_bytes (hval 1 54 _ rfl rfl) hf1
  subst hl1
  simp only at hb1
  have hlt2 : ∀ x ∈ p2, x.block < W.heap.size := fun x hx => hW'.lt x (by simp [hx])
  have h2c := h2
  obtain ⟨fu2, hf2⟩ := h2c
  simp [Value.cells] at hf2
  obtain ⟨l2, hl2, hc2, hi2, hb2⟩ := rd_ints (hval 2 23 _ rfl rfl) hf2
  subst hl2
  simp only at hb2
  have hn3 : -9223372036854775808 ≤ n3 ∧ n3 ≤ 9223372036854775807 := by simpa [Lit.wf, IntKind.min, IntKind.max, IntKind.signed, IntKind.bits] using w3
  have hB : Rows.uptoBulkAll ([d0, d1, d2, .lit (.int .i64 n3)] : List (DataW H)) ≤ 1048576 := by simpa [Rows.uptoSmall] using hk
  simp only [Rows.uptoBulkAll] at hB
  obtain ⟨hL1, hL2⟩ : laidMet Tryz.prog [("oocore/isa.early", Rows.laid_oocore_isa_early), ("oocore/isa.late", Rows.laid_oocore_isa_late), ("oocore/isa.byCode", Rows.laid_oocore_isa_byCode)] W ∧ handlesMet Tryz.prog [("errors.errorType", Rows.laid_errors_errorType)] W := hL
  have hT := tab_of_laid hL1 (by simp) (by simp)
  have hC := code_of_laid hL1 (by simp)
  have hE := hE_of_laid hL2
  have hsz : 1 ≤ W.heap.size := World.block_lt_of_cell? _ _ hE
  have hTb : Tabs W.heap.size W := ⟨W, rfl, hT, hC, XTouch.refl _ _⟩
  refine (steps_ok hTb hE hsz ⟨Nat.le_refl _, hi0.1⟩ hi0.2 hi1.1 hi1.2.1 hi1.2.2 hi2 (by omega) (by omega) (by omega) n3).mono fun e W' ⟨he, ht⟩ => ?_
  have hb : Below W.heap.size W W' := ht.below (Nat.le_refl _) (fun _ e => e.elim)
  subst he
  exact ⟨_, rfl, _, _, _, [], p0 ++ (p1 ++ (p2 ++ ([] ++ []))), [], hW', trodAll_mk1 (shut_bool Tryz.underlying4 _),
    trodAll_cons_mk (Below.trod laidOut (by kernel_rfl) (of_decide_eq_true (by kernel_rfl)) h0 hb hlt0) (trodAll_cons_mk (Below.trod laidOut (by kernel_rfl) (of_decide_eq_true (by kernel_rfl)) h1 hb hlt1) (trodAll_cons_mk (Below.trod laidOut (by kernel_rfl) (of_decide_eq_true (by kernel_rfl)) h2 hb hlt2) (trodAll_cons_mk (shut_int Tryz.underlying3 w3) trodAll_mk0))),
    rfl, hb.frame _, fun h => by cases h⟩

theorem over : Rows.ArchStepsUptoSaid :=
  OpenClaim.holds_of_cond 4 Tryz.f4 rfl rfl rfl rfl rfl rfl rfl ⟨rfl, rfl, rfl, rfl, rfl⟩ rfl rfl rfl rfl rfl (by kernel_rfl) Tryz.func4 (by kernel_rfl)
    (of_decide_eq_true (by kernel_rfl)) (by unfold Func.isWrapper; first | (rw [if_pos (by decide +kernel)]; kernel_rfl) | (rw [if_neg (by decide +kernel)]; exact ⟨rfl, rfl⟩))
    (fun os started H enc _ F => by rw [OpenClaim.pre_eq_preRow]; exact lifted os started H enc F)

/-- THE TIED CARD -/
theorem proved : Rows.ArchStepsUptoCardSaid :=
  Claim7.holds_tied_plain_at .later [] [.handle, .data, .data, .data] true (true, "42b71422d0334573de6afd933be4a9504f7801fde7da464a6c54e67d02f1197a") true
    over (fun _ h => by cases h) (by kernel_rfl) (fun _ h => by cases h) archStepsUpto_row_tie rfl ⟨rfl, rfl⟩ (by kernel_rfl) rfl
    (fun f fn hf hfn => by
      obtain rfl : f = 4 := Option.some.inj ((show Tryz.prog.funcNamed "oocore/oocorelaw4.ArchSteps" = some 4 by kernel_rfl).symm.trans hf) |>.symm
      obtain rfl : fn = Tryz.f4 := (Option.some.inj (Tryz.func4.symm.trans hfn)).symm
      exact ⟨by kernel_rfl, fun j t ht => by
        rw [Tryz.params4] at ht
        have ht' : t ∈ #[22, 54, 23, 3] := Array.mem_of_getElem? ht
        simp only [List.mem_toArray, List.mem_cons, List.not_mem_nil, or_false] at ht'
        rcases ht' with rfl | rfl | rfl | rfl
        · exact (show Tryz.prog.wantsStandIn 22 = false by kernel_rfl)
        · exact (show Tryz.prog.wantsStandIn 54 = false by kernel_rfl)
        · exact (show Tryz.prog.wantsStandIn 23 = false by kernel_rfl)
        · exact (show Tryz.prog.wantsStandIn 3 = false by kernel_rfl)⟩)
    (by kernel_rfl)
#print axioms proved
end Go.Proofs.YtcpmgklhfpcaeaaGreatDoor.archStepsUpto
