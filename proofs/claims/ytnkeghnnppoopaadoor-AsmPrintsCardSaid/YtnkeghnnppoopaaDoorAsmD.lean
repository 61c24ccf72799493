/- Printing, part D: the law AsmPrints, and the tables as the row lists them. -/
import Derived.Test.YtnkeghnnppoopaaDoorAsmC
import Derived.Test.YtnkeghnnppoopaaDoorIsaX
namespace Go.Proofs.YtnkeghnnppoopaaDoor
open Go.RowKit Go.XHeap Go.Sx Go.Sep
set_option linter.unusedVariables false
set_option maxRecDepth 100000
variable {W w : World} {L : List Asn}
theorem print_no {op rd rs1 rs2 imm y : Int} (W : World) (hT : Tab W)
    (henc : ∀ W : World, Tab W → Calls Tryd.prog 6 #[.agg (insA op rd rs1 rs2 imm)] W fun e w' => e = .returned (.tuple #[.int .u32 y, .bool false]) ∧ Grown W w') :
    Calls Tryd.prog 4 #[.agg (insA op rd rs1 rs2 imm)] W fun e w => e = .returned (.string (bs [])) ∧ Old W w := by
  refine vc4 _ ?_
  rintro k w2 rfl rfl
  have hb := Blk.new W (insA op rd rs1 rs2 imm) 25
  have o2 : Old W (W.alloc (.cells (insA op rd rs1 rs2 imm) 25)) := (Old.refl W).alloc _
  refine ⟨insA op rd rs1 rs2 imm, rfl, fun i v hv => by rw [add_none, Nat.zero_add]; exact hb.cell' hv, (henc _ (tab_old hT o2)).mono ?_⟩
  rintro e w3 ⟨rfl, hg⟩
  exact ⟨_, _, rfl, split_of (fun _ => ⟨rfl, o2.trans (Old.grown hg)⟩) (fun q => by cases q)⟩
theorem rprint_no {op rd rs1 rs2 imm y : Int} (W : World)
    (henc : ∀ W : World, Calls Tryd.prog 11 #[.agg (insA op rd rs1 rs2 imm)] W fun e w' => e = .returned (.tuple #[.int .u32 y, .bool false]) ∧ Grown W w') :
    Calls Tryd.prog 5 #[.agg (insA op rd rs1 rs2 imm)] W fun e w => e = .returned (.string (bs [])) ∧ Old W w := by
  refine vc5 _ ?_
  rintro k w2 rfl rfl
  have hb := Blk.new W (insA op rd rs1 rs2 imm) 28
  have o2 : Old W (W.alloc (.cells (insA op rd rs1 rs2 imm) 28)) := (Old.refl W).alloc _
  refine ⟨insA op rd rs1 rs2 imm, rfl, fun i v hv => by rw [add_none, Nat.zero_add]; exact hb.cell' hv, (henc _).mono ?_⟩
  rintro e w3 ⟨rfl, hg⟩
  exact ⟨_, _, rfl, split_of (fun _ => ⟨rfl, o2.trans (Old.grown hg)⟩) (fun q => by cases q)⟩
def kindsB (op : Int) : Bool := (!(rF op == 75) || (shP op).1 == 10) && (!(rF op == 65) || (shP op).1 == 9)
theorem kinds_all : ((List.range 67).all fun i => kindsB ((i + 1 : Nat) : Int)) = true := by decide +kernel
theorem imm_of {op rd rs1 rs2 imm : Int} (h1 : 1 ≤ op) (h2 : op ≤ 67) (hok : okF (shP op).1 rd rs1 rs2 imm) : Imm op imm := by
  have hk := List.all_eq_true.1 kinds_all (op.toNat - 1) (List.mem_range.2 (by omega))
  rw [show ((op.toNat - 1 + 1 : Nat) : Int) = op by omega] at hk
  unfold kindsB at hk
  simp only [Bool.and_eq_true, Bool.or_eq_true, Bool.not_eq_true', beq_eq_false_iff_ne, beq_iff_eq] at hk
  obtain ⟨f0, f1, -⟩ := forms_at op h1 h2
  have hr : (-1048576 ≤ imm ∧ imm < 1048576) ∧ ((shP op).1 = 10 ∨ (shP op).1 = 9 → 0 ≤ imm ∧ imm < 4) := by
    rcases f_cases f0 f1 with e | e | e | e | e | e | e | e | e | e | e | e | e | e <;> rw [e] at hok ⊢ <;> simp only [okF] at hok <;> omega
  unfold Imm
  refine ⟨by omega, by omega, fun h => hr.2 ?_⟩
  rcases h with h | h
  · exact .inl (hk.1.resolve_left (fun e => e h))
  · exact .inr (hk.2.resolve_left (fun e => e h))
theorem prints_ok {op rd rs1 rs2 imm : Int} (m0 : -9223372036854775808 ≤ imm) (m1 : imm ≤ 9223372036854775807) (W : World) (hT : Tab W) (hN : NamesAt W) (hR : OrdersAt W) (h10 : Lib.TabIs Tryd.prog W "internal/strconv.uint64pow10" .u64 Lib.pow10Tab) :
    Calls Tryd.prog 3 #[.int .i64 op, .int .i64 rd, .int .i64 rs1, .int .i64 rs2, .int .i64 imm] W fun e w => e = .returned (.bool true) ∧ Old W w := by
  obtain ⟨y, ok, e1, e2, hc⟩ := enc_same op rd rs1 rs2 imm m0 m1
  obtain ⟨s, p1, p2⟩ : ∃ s : ByteArray, (Calls Tryd.prog 4 #[.agg (insA op rd rs1 rs2 imm)] W fun e w => e = .returned (.string s) ∧ Old W w) ∧ ∀ W : World, Calls Tryd.prog 5 #[.agg (insA op rd rs1 rs2 imm)] W fun e w => e = .returned (.string s) ∧ Old W w := by
    rcases hc with ⟨rfl, hr, hok, -⟩ | ⟨rfl, -, -⟩
    · obtain ⟨h1, h2, d0, d1, a0, a1, b0, b1⟩ := hr
      have hi := imm_of h1 h2 hok
      exact ⟨_, print_ok h1 h2 d0 (by omega) a0 (by omega) b0 (by omega) hi W e1 hT hN hR h10, fun W => rprint_ok h1 h2 d0 (by omega) a0 (by omega) b0 (by omega) hi W e2⟩
    · exact ⟨_, print_no W hT e1, fun W => rprint_no W e2⟩
  refine vc3 op rd rs1 rs2 imm ?_
  rintro vs rfl
  refine p1.mono ?_
  rintro e w2 ⟨rfl, o2⟩
  refine ⟨_, rfl, ?_⟩
  rintro vs rfl
  refine (p2 w2).mono ?_
  rintro e w3 ⟨rfl, o3⟩
  exact ⟨_, rfl, by simp, o2.trans o3⟩
/-! ### the tables -/
def strD {H : Type} (x : List UInt8) : DataW H := .lit (.string x)
theorem strAt_of {W : World} {name : String} {g t n : Nat} {l : List (List UInt8)} (hg : Tryd.prog.globalNamed name = some g) (hty : (Tryd.prog.globals[g]?).map (·.type) = some t)
    (ht : Tryd.prog.underlying t = some (.array n 9)) (h : Lib.VarReads Tryd.prog W name (.agg (l.map strD))) : ∀ (i : Nat) (x : List UInt8), l[i]? = some x → W.cell? ⟨g, i, none⟩ = some (.string (bs x)) := by
  have c9 : Tryd.prog.cellsOf 9 = 1 := by kernel_rfl
  obtain ⟨g', t', cs, fuel, p, hg', ht', hvar, hd⟩ := h
  obtain rfl := Option.some.inj (hg.symm.trans hg')
  obtain rfl := Option.some.inj (hty.symm.trans ht')
  obtain ⟨xs, m, -, hx, hl, hxl, hf⟩ := DataW.trod_array ht hd
  intro i x hi
  have hxs : xs.map (·.1) = l.map strD := by
    have := congrArg Prod.fst hx; simpa using this.symm
  have hlen : l.length = xs.length := by simpa using (congrArg List.length hxs).symm
  have hil : i < l.length := by
    rcases Nat.lt_or_ge i l.length with h | h
    · exact h
    · rw [List.getElem?_eq_none h] at hi; cases hi
  obtain ⟨y, hy⟩ : ∃ y, xs[i]? = some y := ⟨xs[i]'(by omega), List.getElem?_eq_getElem (by omega)⟩
  have h1 : y.1 = strD x := by
    have := congrArg (·[i]?) hxs
    simp [hy, hi] at this
    exact this
  have h2 := hf i (by omega)
  rw [hy, c9] at h2
  obtain ⟨s, hs, rfl, -⟩ := DataW.trod_string Tryd.underlying9 h2
  simp only [strD, DataW.lit.injEq, Lit.string.injEq] at h1
  have hc : cs.toList[i]? = some (.string s) := by
    have := congrArg (·[0]?) hs
    simpa using this
  rw [World.var?_cell hg hvar, ← h1, bs_eta]
  simpa using hc
def namesL : List (List UInt8) := [] :: rowsL.map fun r => r.1.data.toList
def ordersL : List (List UInt8) := [[], [46, 114, 108], [46, 97, 113], [46, 97, 113, 114, 108]]
theorem names_eq {H : Type} : (Rows.laid_oocore_asm_names : DataW H) = .agg (namesL.map strD) := by kernel_rfl
theorem orders_eq {H : Type} : (Rows.laid_oocore_asm_orders : DataW H) = .agg (ordersL.map strD) := by kernel_rfl
theorem pow_eq {H : Type} : (Rows.laid_internal_strconv_uint64pow10 : DataW H) = Lib.tabData .u64 Lib.pow10Tab := by kernel_rfl
theorem names_of {W : World} {l : List (String × DataW Unit)} (h : laidMet Tryd.prog l W) (hm : ("oocore/asm.names", Rows.laid_oocore_asm_names) ∈ l) : NamesAt W := by
  have h0 := strAt_of (g := 0) (t := 34) (n := 68) (l := namesL) (by kernel_rfl) (by kernel_rfl) (by kernel_rfl) (names_eq ▸ Lib.laidMet.reads h hm)
  intro op h1 h2
  refine h0 op.toNat _ ?_
  have hl : rowsL.length = 67 := by decide +kernel
  unfold namesL nmL rowAt
  obtain ⟨k, hk⟩ : ∃ k, op.toNat = k + 1 := ⟨op.toNat - 1, by omega⟩
  rw [hk, List.getElem?_cons_succ, List.getElem?_map, Nat.add_sub_cancel, List.getD_eq_getElem?_getD, List.getElem?_eq_getElem (by omega)]
  rfl
theorem orders_of {W : World} {l : List (String × DataW Unit)} (h : laidMet Tryd.prog l W) (hm : ("oocore/asm.orders", Rows.laid_oocore_asm_orders) ∈ l) : OrdersAt W := by
  have h0 := strAt_of (g := 1) (t := 37) (n := 4) (l := ordersL) (by kernel_rfl) (by kernel_rfl) (by kernel_rfl) (orders_eq ▸ Lib.laidMet.reads h hm)
  intro n h1 h2
  refine h0 n.toNat _ ?_
  obtain rfl | rfl | rfl | rfl : n = 0 ∨ n = 1 ∨ n = 2 ∨ n = 3 := by omega
  · rfl
  · rfl
  · rfl
  · rfl
theorem pow_of {W : World} {l : List (String × DataW Unit)} (h : laidMet Tryd.prog l W) (hm : ("internal/strconv.uint64pow10", Rows.laid_internal_strconv_uint64pow10) ∈ l) : Lib.TabIs Tryd.prog W "internal/strconv.uint64pow10" .u64 Lib.pow10Tab := by
  obtain ⟨g, t, cs, fuel, p, hg, ht, hvar, hd⟩ := Lib.laidMet.reads h hm
  rw [pow_eq] at hd
  obtain rfl := Option.some.inj (hg.symm.trans (show Tryd.prog.globalNamed "internal/strconv.uint64pow10" = some 4 by kernel_rfl))
  obtain rfl := Option.some.inj (ht.symm.trans (show (Tryd.prog.globals[4]?).map (·.type) = some 73 by kernel_rfl))
  unfold Lib.TabIs
  rw [hvar, ← Lib.cells_of_tab (t := 73) (e := 63) (n := 20) (by kernel_rfl) (by kernel_rfl) (by kernel_rfl) (by kernel_rfl) hd]
end Go.Proofs.YtnkeghnnppoopaaDoor
