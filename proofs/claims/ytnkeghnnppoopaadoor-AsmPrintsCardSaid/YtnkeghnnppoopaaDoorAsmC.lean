/- Printing, part C: the program's Print. No condition but what the tables hold. -/
import Derived.Test.YtnkeghnnppoopaaDoorAsmB
namespace Go.Proofs.YtnkeghnnppoopaaDoor
open Go.RowKit Go.XHeap Go.Sx Go.Sep
set_option linter.unusedVariables false
set_option maxRecDepth 100000
variable {W w : World} {L : List Asn}
theorem tabIs_old {P : Program} {name : String} {k : IntKind} {zs : List Int} (h : Lib.TabIs P W name k zs) (ho : Old W w) : Lib.TabIs P w name k zs := by
  unfold Lib.TabIs World.var? at *
  cases hg : P.globalNamed name with
  | none => simp [hg] at h
  | some g =>
    simp only [hg, Option.bind_some] at h ⊢
    have hlt : g < W.heap.size := by
      rcases Nat.lt_or_ge g W.heap.size with h' | h'
      · exact h'
      · rw [Array.getElem?_eq_none h'] at h; simp at h
    rw [ho.block g hlt]
    exact h
theorem tab_old (h : Tab W) (ho : Old W w) : Tab w :=
  ⟨fun i x hi => ⟨ho.cell (h.1 i x hi).1, ho.cell (h.1 i x hi).2.1, ho.cell (h.1 i x hi).2.2⟩, fun i x hi => ⟨ho.cell (h.2 i x hi).1, ho.cell (h.2 i x hi).2.1, ho.cell (h.2 i x hi).2.2⟩⟩
def NamesAt (w : World) : Prop := ∀ op : Int, 1 ≤ op → op ≤ 67 → w.cell? ⟨0, op.toNat, none⟩ = some (.string (bs (nmL op)))
def OrdersAt (w : World) : Prop := ∀ n : Int, 0 ≤ n → n < 4 → w.cell? ⟨1, n.toNat, none⟩ = some (.string (bs (ordL n)))
/-- the letter by which the program prints -/
def letterP (op : Int) : Int :=
  if classP op = 4 then 76 else if classP op = 5 then 83 else if classP op = 2 then 66 else if classP op = 3 then (if op = 3 then 74 else 76) else if classP op = 6 then (if op = 46 then 75 else 65)
  else if classP op = 7 then (if op ≥ 65 then 68 else if op ≥ 62 then 67 else if op = 57 then 70 else 78) else if op = 1 ∨ op = 2 then 85 else if (readsP op).2 = true then 82 else 73
theorem lettersP_all : ((List.range 67).all fun i => letterP ((i + 1 : Nat) : Int) == (if rF ((i + 1 : Nat) : Int) = 72 then 73 else rF ((i + 1 : Nat) : Int))) = true := by decide +kernel
theorem lettersP (op : Int) (h1 : 1 ≤ op) (h2 : op ≤ 67) : letterP op = if rF op = 72 then 73 else rF op := by
  have := List.all_eq_true.1 lettersP_all (op.toNat - 1) (List.mem_range.2 (by omega))
  rw [show ((op.toNat - 1 + 1 : Nat) : Int) = op by omega] at this
  simpa using this
theorem fstr_letter (op : Int) (h1 : 1 ≤ op) (h2 : op ≤ 67) (nm o d a b n u : List UInt8) : fstr (rF op) nm o d a b n u = fstr (letterP op) nm o d a b n u := by
  rw [lettersP op h1 h2]
  split
  · rename_i e; rw [e]; simp [fstr]
  · rfl
set_option maxHeartbeats 4000000 in
theorem print_ok {op rd rs1 rs2 imm y : Int} (h1 : 1 ≤ op) (h2 : op ≤ 67) (d0 : 0 ≤ rd) (d1 : rd < 32) (a0 : 0 ≤ rs1) (a1 : rs1 < 32) (b0 : 0 ≤ rs2) (b1 : rs2 < 32) (hi : Imm op imm) (W : World)
    (henc : ∀ W : World, Tab W → Calls Tryd.prog 6 #[.agg (insA op rd rs1 rs2 imm)] W fun e w' => e = .returned (.tuple #[.int .u32 y, .bool true]) ∧ Grown W w')
    (hT : Tab W) (hN : NamesAt W) (hR : OrdersAt W) (h10 : Lib.TabIs Tryd.prog W "internal/strconv.uint64pow10" .u64 Lib.pow10Tab) :
    Calls Tryd.prog 4 #[.agg (insA op rd rs1 rs2 imm)] W fun e w => e = .returned (.string (bs (printS op rd rs1 rs2 imm))) ∧ Old W w := by
  obtain ⟨i0, i1, i2⟩ := hi
  have ln := nm_len op h1 h2
  have ld := reg_len rd d0 d1
  have la := reg_len rs1 a0 a1
  have lb := reg_len rs2 b0 b1
  have li := itoa_len imm i0 i1
  have lu := itoa_len rs1 (by omega) (by omega)
  have lo := ord_len imm
  refine vc4 _ ?_
  rintro k w2 rfl rfl
  have hb := Blk.new W (insA op rd rs1 rs2 imm) 25
  have o2 : Old W (W.alloc (.cells (insA op rd rs1 rs2 imm) 25)) := (Old.refl W).alloc _
  have oc : ∀ {w : World}, Old (W.alloc (.cells (insA op rd rs1 rs2 imm) 25)) w → ∀ {i : Nat} {v : Value}, (insA op rd rs1 rs2 imm)[i]? = some v → w.cell? ⟨W.heap.size, i, none⟩ = some v := fun ho i v hv => ho.cell (hb.cell' hv)
  have oc1 : ∀ {w : World}, Old (W.alloc (.cells (insA op rd rs1 rs2 imm) 25)) w → ∀ {i : Nat} {v : Value}, (insA op rd rs1 rs2 imm)[i]? = some v → w.cell? ⟨W.heap.size, 0 + i, none⟩ = some v := fun ho i v hv => by rw [Nat.zero_add]; exact oc ho hv
  refine ⟨insA op rd rs1 rs2 imm, rfl, fun i v hv => by rw [add_none, Nat.zero_add]; exact hb.cell' hv, (henc _ (tab_old hT o2)).mono ?_⟩
  rintro e w3 ⟨rfl, hg⟩
  refine ⟨_, _, rfl, split_of (fun q => by cases q) (fun _ => ?_)⟩
  rintro w4 rfl
  have o4 := (Old.grown hg).drew
  generalize w3.drew = w4 at *
  refine ⟨rd, oc1 o4 (i := 1) rfl, rs1, oc1 o4 (i := 2) rfl, rs2, oc1 o4 (i := 3) rfl, imm, oc1 o4 (i := 4) rfl, (preg_any rd d0 d1 _).mono ?_⟩
  rintro e w ⟨rfl, rfl⟩
  refine ⟨_, rfl, Below.refl _ _, (preg_any rs1 a0 a1 _).mono ?_⟩
  rintro e w ⟨rfl, rfl⟩
  refine ⟨_, rfl, Below.refl _ _, (preg_any rs2 b0 b1 _).mono ?_⟩
  rintro e w ⟨rfl, rfl⟩
  refine ⟨_, rfl, Below.refl _ _, (itoa_any imm (by omega) i1 _ (tabIs_old h10 (o2.trans o4))).mono ?_⟩
  rintro e w8 ⟨rfl, hb8⟩
  have o8 := o4.trans ⟨hb8.os, hb8.output, hb8.size, hb8.block⟩
  clear hb8 hg
  refine ⟨_, rfl, op, oc o8 (i := 0) rfl, ⟨by omega, by show op < ((68 : Nat) : Int); omega⟩, bs (nmL op), ?_, op, oc o8 (i := 0) rfl, (pclass_any op _ (tab_old hT (o2.trans o8))).mono ?_⟩
  · rw [Nat.mul_one, Nat.zero_add]; exact (o2.trans o8).cell (hN op h1 h2)
  rintro e w9 ⟨rfl, hg⟩
  have o9 := o8.trans (Old.grown hg)
  have oW := o2.trans o9
  have hord : 0 ≤ imm → imm < 4 → w9.cell? ⟨1, 0 + imm.toNat * 1, none⟩ = some (.string (bs (ordL imm))) := fun p q => by
    rw [Nat.mul_one, Nat.zero_add]; exact oW.cell (hR imm p q)
  have c0 := oc o9 (i := 0) rfl
  have c2 := oc1 o9 (i := 2) rfl
  have c4 := oc1 o9 (i := 4) rfl
  have hrd := fun w' (h : Grown w9 w') => oc (o9.trans (Old.grown h)) (i := 0) rfl
  have hrw := fun w' (h : Grown w9 w') => oW.trans (Old.grown h)
  have hpr := preads_any op w9 (tab_old hT oW)
  have hit := itoa_small rs1 a0 (by omega) w9
  refine ⟨classP op, rfl, ?_⟩
  clear o9 o8 o4 hg henc hb oc oc1 hT hN hR h10 o2
  simp only [k32, k4432, k40, k41, k443240]
  have i3 : (letterP op = 75 ∨ letterP op = 65) → 0 ≤ imm ∧ imm < 4 := fun h => i2 (by
    rw [lettersP op h1 h2] at h
    split at h <;> omega)
  unfold printS
  rw [fstr_letter op h1 h2]
  generalize nmL op = nm at *
  generalize ordL imm = o at *
  generalize regS rd = d at *
  generalize regS rs1 = a at *
  generalize regS rs2 = b' at *
  generalize Lib.itoa imm = n at *
  generalize Lib.itoa rs1 = u at *
  have fin : ∀ {x y : List UInt8} {w : World}, x = y → Old W w → Ending.returned (.string (bs x)) = Ending.returned (.string (bs y)) ∧ Old W w := fun h h2 => ⟨by rw [h], h2⟩
  refine split_of (fun q1 => ?_) (fun q1 => split_of (fun q2 => ?_) (fun q2 => split_of (fun q3 => ?_) (fun q3 => split_of (fun q4 => ⟨op, c0, split_of (fun q8 => ?_) (fun q8 => ?_)⟩) (fun q4 => split_of (fun q5 => ?_) (fun q5 => split_of (fun q6 => ⟨op, c0, split_of (fun q8 => ?_) (fun q8 => ⟨op, c0, split_of (fun q9 => ?_) (fun q9 => ⟨op, c0, split_of (fun q10 => ?_) (fun q10 => ?_)⟩)⟩)⟩) (fun q6 => ?_))))))
  all_goals (try simp only [beq_iff_eq, beq_eq_false_iff_ne, ne_eq, decide_eq_true_eq, decide_eq_false_iff_not] at *)
  · have e : letterP op = 76 := by unfold letterP; simp [*]
    repeat (refine ⟨by (simp only [bs_app, bs_size, List.length_append, List.length_cons, List.length_nil]; omega), ?_⟩; rintro s rfl)
    simp only [bs_app]
    exact fin (by rw [e]; simp [fstr]) oW
  · have e : letterP op = 83 := by unfold letterP; simp [*]
    repeat (refine ⟨by (simp only [bs_app, bs_size, List.length_append, List.length_cons, List.length_nil]; omega), ?_⟩; rintro s rfl)
    simp only [bs_app]
    exact fin (by rw [e]; simp [fstr]) oW
  · have e : letterP op = 66 := by unfold letterP; simp [*]
    repeat (refine ⟨by (simp only [bs_app, bs_size, List.length_append, List.length_cons, List.length_nil]; omega), ?_⟩; rintro s rfl)
    simp only [bs_app]
    exact fin (by rw [e]; simp [fstr]) oW
  · have e : letterP op = 74 := by unfold letterP; generalize classP op = c at *; simp [*]
    repeat (refine ⟨by (simp only [bs_app, bs_size, List.length_append, List.length_cons, List.length_nil]; omega), ?_⟩; rintro s rfl)
    simp only [bs_app]
    exact fin (by rw [e]; simp [fstr]) oW
  · have e : letterP op = 76 := by unfold letterP; simp [*]
    repeat (refine ⟨by (simp only [bs_app, bs_size, List.length_append, List.length_cons, List.length_nil]; omega), ?_⟩; rintro s rfl)
    simp only [bs_app]
    exact fin (by rw [e]; simp [fstr]) oW
  · have e6 : letterP op = if op = 46 then 75 else 65 := by unfold letterP; simp [*]
    obtain ⟨j0, j1⟩ := i3 (by rw [e6]; split <;> omega)
    refine ⟨imm, c4, ⟨j0, by show imm < ((4 : Nat) : Int); omega⟩, _, hord j0 j1, ?_⟩
    refine ⟨by (simp only [bs_size]; omega), ?_⟩
    rintro s rfl
    refine ⟨op, c0, split_of (fun q8 => ?_) (fun q8 => ?_)⟩
    · have q8 : op = 46 := by simpa using q8
      repeat (refine ⟨by (simp only [bs_app, bs_size, List.length_append, List.length_cons, List.length_nil]; omega), ?_⟩; rintro s rfl)
      simp only [bs_app]
      exact fin (by rw [e6, if_pos q8]; simp [fstr]) oW
    · have q8 : ¬ op = 46 := by simpa using q8
      repeat (refine ⟨by (simp only [bs_app, bs_size, List.length_append, List.length_cons, List.length_nil]; omega), ?_⟩; rintro s rfl)
      simp only [bs_app]
      exact fin (by rw [e6, if_neg q8]; simp [fstr]) oW
  · have e : letterP op = 68 := by unfold letterP; simp [*]
    repeat (refine ⟨by (simp only [bs_app, bs_size, List.length_append, List.length_cons, List.length_nil]; omega), ?_⟩; rintro s rfl)
    refine ⟨rs1, c2, hit.mono ?_⟩
    rintro e2 w ⟨rfl, rfl⟩
    refine ⟨_, rfl, ?_⟩
    repeat (refine ⟨by (simp only [bs_app, bs_size, List.length_append, List.length_cons, List.length_nil]; omega), ?_⟩; rintro s rfl)
    simp only [bs_app]
    exact fin (by rw [e]; simp [fstr]) oW
  · have e : letterP op = 67 := by unfold letterP; simp [*]
    repeat (refine ⟨by (simp only [bs_app, bs_size, List.length_append, List.length_cons, List.length_nil]; omega), ?_⟩; rintro s rfl)
    simp only [bs_app]
    exact fin (by rw [e]; simp [fstr]) oW
  · have e : letterP op = 70 := by unfold letterP; generalize classP op = c at *; simp [*]
    repeat (refine ⟨by (simp only [bs_app, bs_size, List.length_append, List.length_cons, List.length_nil]; omega), ?_⟩; rintro s rfl)
    simp only [bs_app]
    exact fin (by rw [e]; simp [fstr]) oW
  · have e : letterP op = 78 := by unfold letterP; simp [*]
    exact fin (by rw [e]; simp [fstr]) oW
  · refine ⟨op, c0, hpr.mono ?_⟩
    rintro e2 w11 ⟨rfl, hg2⟩
    have e : letterP op = if op = 1 ∨ op = 2 then 85 else if (readsP op).2 = true then 82 else 73 := by unfold letterP; simp [*]
    have c11 := hrd w11 hg2
    have oW2 := hrw w11 hg2
    clear hrd hrw hpr hit c0 c2 c4 hord
    refine ⟨_, _, rfl, op, c11, split_of (fun r1 => ?_) (fun r1 => ⟨op, c11, split_of (fun r2 => ?_) (fun r2 => split_of (fun r3 => ?_) (fun r3 => ?_))⟩)⟩
    · have r1 : op = 1 := by simpa using r1
      rw [if_pos (.inl r1)] at e
      repeat (refine ⟨by (simp only [bs_app, bs_size, List.length_append, List.length_cons, List.length_nil]; omega), ?_⟩; rintro s rfl)
      simp only [bs_app]
      exact fin (by rw [e]; simp [fstr]) oW2
    · have r2 : op = 2 := by simpa using r2
      rw [if_pos (.inr r2)] at e
      repeat (refine ⟨by (simp only [bs_app, bs_size, List.length_append, List.length_cons, List.length_nil]; omega), ?_⟩; rintro s rfl)
      simp only [bs_app]
      exact fin (by rw [e]; simp [fstr]) oW2
    · have r1 : ¬ op = 1 := by simpa using r1
      have r2 : ¬ op = 2 := by simpa using r2
      rw [if_neg (by omega), if_pos r3] at e
      repeat (refine ⟨by (simp only [bs_app, bs_size, List.length_append, List.length_cons, List.length_nil]; omega), ?_⟩; rintro s rfl)
      simp only [bs_app]
      exact fin (by rw [e]; simp [fstr]) oW2
    · have r1 : ¬ op = 1 := by simpa using r1
      have r2 : ¬ op = 2 := by simpa using r2
      rw [if_neg (by omega), if_neg (by rw [r3]; decide)] at e
      repeat (refine ⟨by (simp only [bs_app, bs_size, List.length_append, List.length_cons, List.length_nil]; omega), ?_⟩; rintro s rfl)
      simp only [bs_app]
      exact fin (by rw [e]; simp [fstr]) oW2
end Go.Proofs.YtnkeghnnppoopaaDoor
