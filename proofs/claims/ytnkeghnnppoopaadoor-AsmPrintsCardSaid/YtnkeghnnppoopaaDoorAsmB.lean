/- Printing, part B: the document's Print. No condition. -/
import Derived.Test.YtnkeghnnppoopaaDoorAsmA
import Derived.Test.YtnkeghnnppoopaaDoorIsaC
namespace Go.Proofs.YtnkeghnnppoopaaDoor
open Go.RowKit Go.XHeap Go.Sx Go.Sep
set_option linter.unusedVariables false
set_option maxRecDepth 100000
variable {W w : World} {L : List Asn}
def NoB : Nat → Prop := fun _ => False
theorem Old.hush (h : Hush W w) : Old W w := ⟨h.os, h.output, h.size, fun k hk => h.block k hk (fun e => e)⟩
theorem bs_eta (s : ByteArray) : bs s.data.toList = s := by cases s; simp [bs]
def nmL (op : Int) : List UInt8 := (rowAt op).1.data.toList
theorem rows_short : (rowsL.all fun r => decide (r.1.data.toList.length ≤ 20)) = true := by decide +kernel
theorem nm_len (op : Int) (h1 : 1 ≤ op) (h2 : op ≤ 67) : (nmL op).length ≤ 20 := by
  have hl : rowsL.length = 67 := by decide +kernel
  have hm : rowAt op ∈ rowsL := by
    unfold rowAt
    rw [List.getD_eq_getElem?_getD, List.getElem?_eq_getElem (by omega)]
    exact List.getElem_mem _
  exact of_decide_eq_true (List.all_eq_true.1 rows_short _ hm)
def ordL (n : Int) : List UInt8 := if n = 0 then [] else if n = 1 then [46, 114, 108] else if n = 2 then [46, 97, 113] else [46, 97, 113, 114, 108]
theorem ord_len (n : Int) : (ordL n).length ≤ 5 := by unfold ordL; (repeat' split) <;> simp
/-- the text of an instruction of letter f -/
def fstr (f : Int) (nm o d a b n u : List UInt8) : List UInt8 :=
  if f = 85 ∨ f = 74 then nm ++ [32] ++ d ++ [44, 32] ++ n
  else if f = 73 ∨ f = 72 then nm ++ [32] ++ d ++ [44, 32] ++ a ++ [44, 32] ++ n
  else if f = 76 then nm ++ [32] ++ d ++ [44, 32] ++ n ++ [40] ++ a ++ [41]
  else if f = 67 then nm ++ [32] ++ d ++ [44, 32] ++ n ++ [44, 32] ++ a
  else if f = 68 then nm ++ [32] ++ d ++ [44, 32] ++ n ++ [44, 32] ++ u
  else if f = 66 then nm ++ [32] ++ a ++ [44, 32] ++ b ++ [44, 32] ++ n
  else if f = 83 then nm ++ [32] ++ b ++ [44, 32] ++ n ++ [40] ++ a ++ [41]
  else if f = 82 then nm ++ [32] ++ d ++ [44, 32] ++ a ++ [44, 32] ++ b
  else if f = 75 then nm ++ o ++ [32] ++ d ++ [44, 32, 40] ++ a ++ [41]
  else if f = 65 then nm ++ o ++ [32] ++ d ++ [44, 32] ++ b ++ [44, 32, 40] ++ a ++ [41]
  else if f = 70 then nm ++ [32] ++ n
  else nm
def insA (op rd rs1 rs2 imm : Int) : Array Value := #[.int .i64 op, .int .i64 rd, .int .i64 rs1, .int .i64 rs2, .int .i64 imm]
def printS (op rd rs1 rs2 imm : Int) : List UInt8 := fstr (rF op) (nmL op) (ordL imm) (regS rd) (regS rs1) (regS rs2) (Lib.itoa imm) (Lib.itoa rs1)
theorem k32 : ByteArray.mk #[32] = bs [32] := rfl
theorem k4432 : ByteArray.mk #[44, 32] = bs [44, 32] := rfl
theorem k40 : ByteArray.mk #[40] = bs [40] := rfl
theorem k41 : ByteArray.mk #[41] = bs [41] := rfl
theorem k443240 : ByteArray.mk #[44, 32, 40] = bs [44, 32, 40] := rfl
def ordA : Array Value := #[.string (ByteArray.mk #[]), .string (ByteArray.mk #[46, 114, 108]), .string (ByteArray.mk #[46, 97, 113]), .string (ByteArray.mk #[46, 97, 113, 114, 108])]
theorem ordA_at (n : Int) (h0 : 0 ≤ n) (h1 : n < 4) : ordA[n.toNat]? = some (.string (bs (ordL n))) := by
  obtain rfl | rfl | rfl | rfl : n = 0 ∨ n = 1 ∨ n = 2 ∨ n = 3 := by omega
  · rfl
  · rfl
  · rfl
  · rfl
theorem row_one (op : Int) : ∀ v ∈ (#[.string (rowAt op).1, .int .u8 (rF op), .int .i64 (rC op), .int .i64 (rA op), .int .i64 (rG op)] : Array Value).toList, v.oneCell' = true := by
  intro v hv
  simp only [List.mem_cons, List.not_mem_nil, or_false] at hv
  rcases hv with rfl | rfl | rfl | rfl | rfl <;> rfl
def Imm (op imm : Int) : Prop := -9223372036854775807 ≤ imm ∧ imm ≤ 9223372036854775807 ∧ ((rF op = 75 ∨ rF op = 65) → 0 ≤ imm ∧ imm < 4)
set_option maxHeartbeats 4000000 in
theorem rprint_ok {op rd rs1 rs2 imm y : Int} (h1 : 1 ≤ op) (h2 : op ≤ 67) (d0 : 0 ≤ rd) (d1 : rd < 32) (a0 : 0 ≤ rs1) (a1 : rs1 < 32) (b0 : 0 ≤ rs2) (b1 : rs2 < 32) (hi : Imm op imm) (W : World)
    (henc : ∀ W : World, Calls Tryd.prog 11 #[.agg (insA op rd rs1 rs2 imm)] W fun e w' => e = .returned (.tuple #[.int .u32 y, .bool true]) ∧ Grown W w') :
    Calls Tryd.prog 5 #[.agg (insA op rd rs1 rs2 imm)] W fun e w => e = .returned (.string (bs (printS op rd rs1 rs2 imm))) ∧ Old W w := by
  obtain ⟨i0, i1, i2⟩ := hi
  have ln := nm_len op h1 h2
  have ld := reg_len rd d0 d1
  have la := reg_len rs1 a0 a1
  have lb := reg_len rs2 b0 b1
  have li := itoa_len imm i0 i1
  have lu := itoa_len rs1 (by omega) (by omega)
  have lo := ord_len imm
  refine vc5 _ ?_
  rintro k w2 rfl rfl
  have hb := Blk.new W (insA op rd rs1 rs2 imm) 28
  refine ⟨insA op rd rs1 rs2 imm, rfl, fun i v hv => ?_, (henc _).mono ?_⟩
  · rw [add_none, Nat.zero_add]; exact hb.cell' hv
  rintro e w3 ⟨rfl, hg⟩
  refine ⟨_, _, rfl, split_of (fun q => by cases q) (fun _ => (rows_made w3).mono ?_)⟩
  rintro e w4 ⟨b, rfl, hR, hg4⟩
  have o4 : Old (W.alloc (.cells (insA op rd rs1 rs2 imm) 28)) w4 := (Old.grown hg).trans (Old.grown hg4)
  have oc : ∀ {w : World} {L : List Asn}, St w4 NoB w L → ∀ {i : Nat} {v : Value}, (insA op rd rs1 rs2 imm)[i]? = some v → w.cell? ⟨W.heap.size, i, none⟩ = some v := fun H i v hv => (o4.trans (Old.hush H.touch)).cell (hb.cell' hv)
  have oc1 : ∀ {w : World} {L : List Asn}, St w4 NoB w L → ∀ {i : Nat} {v : Value}, (insA op rd rs1 rs2 imm)[i]? = some v → w.cell? ⟨W.heap.size, 0 + i, none⟩ = some v := fun H i v hv => by rw [Nat.zero_add]; exact oc H hv
  have oW : ∀ {w : World} {L : List Asn}, St w4 NoB w L → Old W w := fun H => ((Old.refl W).alloc _).trans (o4.trans (Old.hush H.touch))
  have H : St w4 NoB w4 [] := St.nil w4
  refine ⟨_, _, _, rfl, op, oc H (i := 0) rfl, ?_⟩
  rintro z3 rfl
  rw [w64 (by omega) (by omega)]
  obtain ⟨r0, r1, r2, r3, r4⟩ := hR op h1 h2
  refine ⟨⟨by omega, by show op - 1 < ((67 : Nat) : Int); omega⟩, adr_some ⟨#[.string (rowAt op).1, .int .u8 (rF op), .int .i64 (rC op), .int .i64 (rA op), .int .i64 (rG op)], rfl, fun i v hv => ?_, H.al fun k6 w5 H => H.sts0 0 rfl rfl rfl (row_one op) fun w6 H => ?_⟩⟩
  · rw [add_none, Nat.zero_add, show (op - 1).toNat = op.toNat - 1 by omega]
    match i, hv with
    | 0, hv => cases hv; exact r0
    | 1, hv => cases hv; exact r1
    | 2, hv => cases hv; exact r2
    | 3, hv => cases hv; exact r3
    | 4, hv => cases hv; exact r4
  refine ⟨rd, oc1 H (i := 1) rfl, (rreg_any rd d0 d1 _).mono ?_⟩
  rintro e w ⟨rfl, rfl⟩
  refine ⟨_, rfl, rs1, oc1 H (i := 2) rfl, (rreg_any rs1 a0 a1 _).mono ?_⟩
  rintro e w ⟨rfl, rfl⟩
  refine ⟨_, rfl, rs2, oc1 H (i := 3) rfl, (rreg_any rs2 b0 b1 _).mono ?_⟩
  rintro e w ⟨rfl, rfl⟩
  refine ⟨_, rfl, imm, oc1 H (i := 4) rfl, (rdec_any imm i0 i1 _).mono ?_⟩
  rintro e w ⟨rfl, rfl⟩
  refine ⟨_, rfl, rs1, oc1 H (i := 2) rfl, (rdec_any rs1 (by omega) (by omega) _).mono ?_⟩
  rintro e w ⟨rfl, rfl⟩
  refine ⟨_, rfl, H.al fun k8 w12 H => ⟨rF op, H.ld 0 rfl rfl, ?_⟩⟩
  have hname : w12.cell? ⟨k6, 0, none⟩ = some (.string (bs (nmL op))) := by
    unfold nmL; rw [bs_eta]; exact H.ld 0 (i := 0) rfl rfl
  have hord : 0 ≤ imm → imm < 4 → w12.cell? ⟨k8, 0 + imm.toNat * 1, none⟩ = some (.string (bs (ordL imm))) := fun p q => by
    rw [Nat.mul_one, Nat.zero_add]; exact H.ld 1 (i := imm.toNat) rfl (ordA_at imm p q)
  have h4 := oc1 H (i := 4) rfl
  have hO := oW H
  have hD : ∀ n, Old W (w12.drewN n) := fun n => hO.drewN n
  clear H oc oc1 oW hR hg hg4 o4 henc hb
  simp only [k32, k4432, k40, k41, k443240]
  unfold printS
  generalize nmL op = nm at *
  generalize ordL imm = o at *
  generalize regS rd = d at *
  generalize regS rs1 = a at *
  generalize regS rs2 = b' at *
  generalize Lib.itoa imm = n at *
  generalize Lib.itoa rs1 = u at *
  generalize rF op = f at *
  have fin : ∀ {x y : List UInt8} {w : World}, x = y → Old W w → Ending.returned (.string (bs x)) = Ending.returned (.string (bs y)) ∧ Old W w := fun h h2 => ⟨by rw [h], h2⟩
  repeat' (refine split_of (fun q => ?_) (fun q => ?_))
  all_goals (try simp only [beq_iff_eq, beq_eq_false_iff_ne, ne_eq] at *)
  all_goals refine ⟨_, hname, ?_⟩
  all_goals try (refine ⟨imm, h4, ⟨by have := i2 (by omega); omega, by have := i2 (by omega); show imm < ((4 : Nat) : Int); omega⟩, _, hord (by have := i2 (by omega); omega) (by have := i2 (by omega); omega), ?_⟩)
  all_goals repeat (refine ⟨by (simp only [bs_app, bs_size, List.length_append, List.length_cons, List.length_nil]; omega), ?_⟩; rintro s rfl)
  all_goals try (intro w13 k9 e13; subst e13)
  all_goals try simp only [bs_app]
  all_goals refine fin ?_ (by first | exact hO | exact hD _)
  all_goals (unfold fstr; simp [*])
end Go.Proofs.YtnkeghnnppoopaaDoor
