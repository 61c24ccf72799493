/- ArchOnly: an instruction changes its register and the place alone, for every code, data and number of steps. Conditions: the tables of package isa as they are laid. -/
import Derived.Test.YtcpmgklhfpcaeaaDoorRows
import Derived.WalkKit
import Derived.ProofKit
import Derived.OpenShut
import Derived.Deep.Slices
import Derived.ChangeMaps5
import Derived.LaidMore
import Derived.Stop.Joined
import Derived.SevenTiedAt
import Derived.MakeChecks
import Derived.Test.YtcpmgklhfpcaeaaDoorTie
import Derived.Test.YtcpmgklhfpcaeaaDoorCards
import Derived.Test.YtcpmgklhfpcaeaaDoorOnlyA
namespace Go.Proofs.YtcpmgklhfpcaeaaDoor.archOnly
open Go.ChangeShapes Go.WideShapes Go.ChangeAt Go.RowKit Go.Deep Go.XHeap
set_option linter.unusedVariables false

theorem own : ownKnob Tryd.prog.godebug = none := by kernel_rfl
def laidL : List (String × DataW Unit) := [("oocore/isa.early", Rows.laid_oocore_isa_early), ("oocore/isa.late", Rows.laid_oocore_isa_late), ("oocore/isa.byCode", Rows.laid_oocore_isa_byCode)]
theorem laidOut : laidOutB Tryd.prog = true := by kernel_rfl
-- DOORSTEPS 103
set_option maxRecDepth 100000
theorem list_of {α : Type} {P : Nat → α → Prop} : ∀ (n : Nat), (∀ i, i < n → ∃ x, P i x) → ∃ l : List α, l.length = n ∧ ∀ i x, l[i]? = some x → P i x
  | 0, _ => ⟨[], rfl, fun i x h => by simp at h⟩
  | n + 1, h => by
    obtain ⟨l, hl, hp⟩ := list_of n fun i hi => h i (by omega)
    obtain ⟨y, hy⟩ := h n (by omega)
    refine ⟨l ++ [y], by simp [hl], fun i x hi => ?_⟩
    by_cases hn : i < n
    · rw [List.getElem?_append_left (by omega)] at hi
      exact hp i x hi
    · have : i = n := by have := (List.getElem?_eq_some_iff.1 hi).1; simp at this; omega
      subst this
      rw [List.getElem?_append_right (by omega), hl, Nat.sub_self] at hi
      obtain rfl : y = x := by simpa using hi
      exact hy
/-- a parameter slice of one-cell elements: a list, and what its reading weighs -/
theorem okWide_spot {P : Program} {w : World} {r : Reach} {base : Nat} {t e : TypeId} {a : Addr} {len cap : Nat} (ht : P.underlying t = some (.slice e)) (h : Value.okWide P w r base t (.slice (some a) len cap)) : a.spot = none := by
  simp only [Value.okWide, ht, Cell.okWide, Cell.ok] at h
  exact h.2.2.2.1
theorem rd_one {α : Type} {H : Type} {enc : TypeId × Value → H} {W : World} {a0 : Option Addr} {len cap fuel : Nat} {x : DataW H × List MemPlace} {t e : TypeId} (ht : Tryd.prog.underlying t = some (.slice e)) (hC : Tryd.prog.cellsOf e = 1) (V : α → Value) (Q : α → Prop)
    (hv : ∀ (v : Value) (n : Nat) (y : DataW H × List MemPlace), DataW.trod enc Tryd.prog W 0 (fun _ => true) true n e [v] = some y → ∃ z, v = V z ∧ Q z)
    {base : Nat} (hok : Value.okWide Tryd.prog W .any base t (.slice a0 len cap)) (h : DataW.trod enc Tryd.prog W 0 (fun _ => true) true fuel t [.slice a0 len cap] = some x) :
    ∃ l : List α, l.length = len ∧ len ≤ cap ∧ (a0 = none ∨ ∃ g off, a0 = some ⟨g, off, none⟩) ∧ ∀ i z, l[i]? = some z → Q z ∧ ∃ g off, a0 = some ⟨g, off, none⟩ ∧ g < W.heap.size ∧ W.cell? ⟨g, off + i, none⟩ = some (V z) := by
  rcases open_slice ht h with ⟨hcs, hx⟩ | ⟨a, len', cap', m, n, D, Pl, hcs, _, hl, hm, hmm, hx, hi⟩
  · simp at hcs
    obtain ⟨rfl, rfl, rfl⟩ := hcs
    exact ⟨[], rfl, Nat.le_refl _, .inl rfl, fun i x h => by simp at h⟩
  · simp at hcs
    obtain ⟨rfl, rfl, rfl⟩ := hcs
    simp at hmm
    subst hmm
    have key : ∀ i, i < m → ∃ z, V z = V z ∧ Q z ∧ W.cell? (a.add i) = some (V z) := by
      intro i hi'
      obtain ⟨cs', hc, ht'⟩ := hi i hi'
      rw [hC, Nat.mul_one] at hc
      obtain ⟨_, hcl, hat⟩ := World.cells?_some hc
      obtain ⟨v, rfl⟩ := List.length_eq_one_iff.1 hcl
      obtain ⟨z, rfl, hq⟩ := hv v _ _ ht'
      refine ⟨z, rfl, hq, ?_⟩
      have := hat 0 (by omega)
      simpa [Addr.add] using this
    obtain ⟨b, off, spot⟩ := a
    obtain ⟨l, hll, hlp⟩ := list_of len fun i hi' => key i (by omega)
    refine ⟨l, hll, hl, ?_, fun i z hz => ?_⟩
    · have : spot = none := okWide_spot (P := Tryd.prog) (w := W) (r := .any) (base := base) (a := ⟨b, off, spot⟩) ht hok
      subst this
      exact .inr ⟨_, _, rfl⟩
    · obtain ⟨-, hq, hc⟩ := hlp i z hz
      have hspot : spot = none := okWide_spot (P := Tryd.prog) (w := W) (r := .any) (base := base) (a := ⟨b, off, spot⟩) ht hok
      subst hspot
      rw [add_plain] at hc
      exact ⟨hq, b, off, rfl, World.block_lt_of_cell? _ _ hc, hc⟩
theorem rd_bytes {H : Type} {enc : TypeId × Value → H} {W : World} {a0 : Option Addr} {len cap fuel : Nat} {x : DataW H × List MemPlace} {base : Nat} (hok : Value.okWide Tryd.prog W .any base 23 (.slice a0 len cap)) (h : DataW.trod enc Tryd.prog W 0 (fun _ => true) true fuel 23 [.slice a0 len cap] = some x) :
    ∃ l : List Nat, l.length = len ∧ (a0 = none ∨ ∃ g off, a0 = some ⟨g, off, none⟩) ∧ BytesAt W a0 l ∧ ∀ x ∈ l, x < 256 := by
  obtain ⟨l, h1, h2, h5, h3⟩ := rd_one (α := Nat) Tryd.underlying23 (by kernel_rfl) (fun z => .int .u8 (z : Nat)) (fun z => z < 256) (fun v n y h => by
    obtain ⟨z, h1, -, hw⟩ := DataW.trod_int Tryd.underlying5 h
    have : 0 ≤ z ∧ z ≤ 255 := by simpa [Lit.wf, IntKind.min, IntKind.max, IntKind.signed, IntKind.bits] using hw
    refine ⟨z.toNat, ?_, by omega⟩
    rw [show ((z.toNat : Nat) : Int) = z by omega]
    simpa using h1) hok h
  refine ⟨l, h1, h5, fun i z hz => (h3 i z hz).2, fun z hz => ?_⟩
  obtain ⟨i, hi⟩ := List.getElem?_of_mem hz
  exact (h3 i z hi).1
theorem rd_words {H : Type} {enc : TypeId × Value → H} {W : World} {a0 : Option Addr} {len cap fuel : Nat} {x : DataW H × List MemPlace} {base : Nat} (hok : Value.okWide Tryd.prog W .any base 22 (.slice a0 len cap)) (h : DataW.trod enc Tryd.prog W 0 (fun _ => true) true fuel 22 [.slice a0 len cap] = some x) :
    ∃ l : List Int, l.length = len ∧ (a0 = none ∨ ∃ g off, a0 = some ⟨g, off, none⟩) ∧ WordsAt W a0 l ∧ ∀ x ∈ l, U32 x := by
  obtain ⟨l, h1, h2, h5, h3⟩ := rd_one (α := Int) Tryd.underlying22 (by kernel_rfl) (fun z => .int .u32 z) U32 (fun v n y h => by
    obtain ⟨z, h1, -, hw⟩ := DataW.trod_int Tryd.underlying29 h
    have : 0 ≤ z ∧ z ≤ 4294967295 := by simpa [Lit.wf, IntKind.min, IntKind.max, IntKind.signed, IntKind.bits] using hw
    exact ⟨z, by simpa using h1, by omega, by omega⟩) hok h
  refine ⟨l, h1, h5, fun i z hz => (h3 i z hz).2, fun z hz => ?_⟩
  obtain ⟨i, hi⟩ := List.getElem?_of_mem hz
  exact (h3 i z hi).1
theorem code_of_laid {W : World} {l : List (String × DataW Unit)} (h : laidMet Tryd.prog l W) (h0 : ("oocore/isa.byCode", Rows.laid_oocore_isa_byCode) ∈ l) : CodeAt W 0 codeL :=
  codeAt_of (g := 0) (t := 89) (n := 128) (by kernel_rfl) (by kernel_rfl) Tryd.underlying89 (code_eq ▸ Lib.laidMet.reads h h0)
-- PRE: have hT := tab_of_laid hL (by simp [laidL]) (by simp [laidL])
-- PRE: have hC := code_of_laid hL (by simp [laidL])
-- PRE: obtain ⟨l0, e0, -, hw0, hu0⟩ := rd_words (hval 0 22 _ rfl rfl) hf0
-- PRE: obtain ⟨l1, e1, hn1, hw1, hu1⟩ := rd_bytes (hval 1 23 _ rfl rfl) hf1
-- PRE: subst e0 e1
-- PRE: have hTb : Tabs W.heap.size W := ⟨W, rfl, hT, hC, XTouch.refl _ _⟩

/-- The door's own heap meets the condition. -/
theorem door_met (os : Os) (args : Array Value) : laidMetH Tryd.prog laidL ((World.doorLaid Tryd.prog 103 os).forCall (fun _ _ => 0) ⟨#[], args, []⟩).memory := by
  rw [MakeChecks.laidMetH_plain _ _ _ (by kernel_rfl)]
  exact laidMet_of_run' 8 (by kernel_rfl) (by kernel_rfl)
set_option maxRecDepth 100000 in
theorem lifted (os : Os) (started : os.Started) (H : Type) (enc : TypeId × Value → H) :
    ReturnsInHanded {} Tryd.checked os 3 .any (fun w args => (Rows.archOnlySpec.pre enc Tryd.prog Tryd.f3 [] false w args ∧ laidMetH Tryd.prog laidL w) ∧ sizedMet enc Tryd.prog Tryd.f3 (OpenSpec.ofChange Rows.archOnlySpec) false w args) (Rows.archOnlySpec.post enc Tryd.prog Tryd.f3 false true false false) := by
  refine returnsInHanded_of_change_and (C := Tryd.checked) (X := fun w _ => laidMetH Tryd.prog laidL w) (fun _ _ _ hh h => h.of_heap hh) own started (by kernel_rfl) Tryd.func3
    (ChangeSpec.witness_shaped (enc := enc) (C := Tryd.checked) (os := os) (X := fun w _ => laidMetH Tryd.prog laidL w) false (World.doorLaid Tryd.prog 103 os) #[.slice none 0 0, .slice none 0 0, .int .i64 0] 8 rfl (World.shaped_of_RefB (by kernel_rfl) (by kernel_rfl)) (by kernel_rfl) (by kernel_rfl) (by kernel_rfl) (door_met os _)) ?_
  intro W base args ds gs before hval0 hW _ _ hL _
  rw [MakeChecks.laidMetH_plain _ _ _ (by kernel_rfl)] at hL
  have hval : ∀ (j : Nat) t v, Tryd.f3.params[j]? = some t → args[j]? = some v → Value.okWide Tryd.prog W .any base t v := hval0
  have hW' := hW
  obtain ⟨p, q, hA0, hV, rfl, hfz, hnd⟩ := hW
  have hA : DataW.TrodAll enc Tryd.prog W 0 (fun _ => true) true Tryd.f3.params.toList args.toList ds p := hA0
  rw [Tryd.params3] at hA hval
  obtain ⟨v0, vs0, d0, ds0, p0, q0, hargs, rfl, rfl, h0, r0⟩ := trodAll_cons hA
  obtain ⟨v1, vs1, d1, ds1, p1, q1, rfl, rfl, rfl, h1, r1⟩ := trodAll_cons r0
  obtain ⟨v2, vs2, d2, ds2, p2, q2, rfl, rfl, rfl, h2, r2⟩ := trodAll_cons r1
  obtain ⟨rfl, rfl, rfl⟩ := trodAll_nil r2
  obtain rfl : args = #[v0, v1, v2] := by cases args; simp_all
  obtain ⟨rfl, rfl⟩ := trodVars_none hV
  obtain ⟨a0, len0, cap0, rfl⟩ := okWide_slice Tryd.underlying22 (hval 0 22 v0 rfl rfl)
  obtain ⟨a1, len1, cap1, rfl⟩ := okWide_slice Tryd.underlying23 (hval 1 23 v1 rfl rfl)
  obtain ⟨n2, rfl, rfl, rfl, w2⟩ := open_int Tryd.underlying3 (hval 2 3 v2 rfl rfl) h2
  clear hA0 hval0
  simp only [List.append_nil, List.nil_append] at hW'
  have hlt0 : ∀ x ∈ p0, x.block < W.heap.size := fun x hx => hW'.lt x (by simp [hx])
  have h0c := h0
  obtain ⟨fu0, hf0⟩ := h0c
  simp [Value.cells] at hf0
  have hs0 := id hf0
  have hlt1 : ∀ x ∈ p1, x.block < W.heap.size := fun x hx => hW'.lt x (by simp [hx])
  have h1c := h1
  obtain ⟨fu1, hf1⟩ := h1c
  simp [Value.cells] at hf1
  have hs1 := id hf1
  have hn2 : -9223372036854775808 ≤ n2 ∧ n2 ≤ 9223372036854775807 := by simpa [Lit.wf, IntKind.min, IntKind.max, IntKind.signed, IntKind.bits] using w2
  have hT := tab_of_laid hL (by simp [laidL]) (by simp [laidL])
  have hC := code_of_laid hL (by simp [laidL])
  obtain ⟨l0, e0, -, hw0, hu0⟩ := rd_words (hval 0 22 _ rfl rfl) hf0
  obtain ⟨l1, e1, hn1, hw1, hu1⟩ := rd_bytes (hval 1 23 _ rfl rfl) hf1
  subst e0 e1
  have hTb : Tabs W.heap.size W := ⟨W, rfl, hT, hC, XTouch.refl _ _⟩
  refine (only_ok hTb hw0 hw1 hn1 hu0 hu1 n2).mono fun e W' ⟨he, ht⟩ => ?_
  have hb : Below W.heap.size W W' := ht.below (Nat.le_refl _) (fun _ e => e.elim)
  subst he
  exact ⟨_, rfl, _, _, _, [], p0 ++ (p1 ++ ([] ++ [])), [], hW', trodAll_mk1 (shut_bool Tryd.underlying4 _),
    trodAll_cons_mk (Below.trod laidOut (by kernel_rfl) (of_decide_eq_true (by kernel_rfl)) h0 hb hlt0) (trodAll_cons_mk (Below.trod laidOut (by kernel_rfl) (of_decide_eq_true (by kernel_rfl)) h1 hb hlt1) (trodAll_cons_mk (shut_int Tryd.underlying3 w2) trodAll_mk0)),
    rfl, hb.frame _, fun h => by cases h⟩

theorem over : Rows.archOnlyRow.holds Tryd.pinned (OpenSpec.ofChange Rows.archOnlySpec) :=
  OpenClaim.holds_of_wide 3 Tryd.f3 rfl rfl rfl rfl rfl rfl rfl ⟨rfl, rfl, rfl, rfl, rfl⟩ rfl rfl rfl rfl rfl (by kernel_rfl) Tryd.func3 (by kernel_rfl)
    (of_decide_eq_true (by kernel_rfl)) (by unfold Func.isWrapper; first | (rw [if_pos (by decide +kernel)]; kernel_rfl) | (rw [if_neg (by decide +kernel)]; exact ⟨rfl, rfl⟩))
    (fun os started H enc _ => lifted os started H enc)

theorem row_holds : Rows.ArchOnlySaid := over

/-- THE TIED CARD -/
theorem proved : Rows.ArchOnlyCardSaid :=
  Claim7.holds_tied_plain_at .later [] [.data, .data, .data] true (true, "99e80726688242ae5da5c7d516ee7d16ad9ade981d40719659d8640824a08207") false
    row_holds (fun _ h => by cases h) (by kernel_rfl) (fun _ h => by cases h) archOnly_row_tie rfl ⟨rfl, rfl⟩ (by kernel_rfl) rfl
    (fun f fn hf hfn => by
      obtain rfl : f = 3 := Option.some.inj ((show Tryd.prog.funcNamed "oocore/oocorelaw4.ArchOnly" = some 3 by kernel_rfl).symm.trans hf) |>.symm
      obtain rfl : fn = Tryd.f3 := (Option.some.inj (Tryd.func3.symm.trans hfn)).symm
      exact ⟨by kernel_rfl, fun j t ht => by
        rw [Tryd.params3] at ht
        have ht' : t ∈ #[22, 23, 3] := Array.mem_of_getElem? ht
        simp only [List.mem_toArray, List.mem_cons, List.not_mem_nil, or_false] at ht'
        rcases ht' with rfl | rfl | rfl
        · exact (show Tryd.prog.wantsStandIn 22 = false by kernel_rfl)
        · exact (show Tryd.prog.wantsStandIn 23 = false by kernel_rfl)
        · exact (show Tryd.prog.wantsStandIn 3 = false by kernel_rfl)⟩)
    (by kernel_rfl)
#print axioms proved
end Go.Proofs.YtcpmgklhfpcaeaaDoor.archOnly
