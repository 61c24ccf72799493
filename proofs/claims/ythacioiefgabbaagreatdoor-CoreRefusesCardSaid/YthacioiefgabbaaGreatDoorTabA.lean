import Derived.Test.YthacioiefgabbaaGreatDoorIsaF
import Derived.Test.YthacioiefgabbaaGreatDoorBits
/- Part P: the plain law of decoding: at most one operation matches a word. -/
namespace Go.Proofs.YthacioiefgabbaaGreatDoor
open Go.RowKit
set_option linter.unusedVariables false
set_option maxRecDepth 100000

/-- does the word match the operation's shape? -/
def Mt (op x : Int) : Prop := bits .and .u32 x (shP op).2.1 = (shP op).2.2
instance (op x : Int) : Decidable (Mt op x) := by unfold Mt; infer_instance
def mN (i : Nat) : Nat := (shP (i + 1 : Nat)).2.1.toNat
def vN (i : Nat) : Nat := (shP (i + 1 : Nat)).2.2.toNat
theorem shapes_ok : ((List.range 67).all fun i => decide (0 ≤ (shP (i + 1 : Nat)).2.1) && decide ((shP (i + 1 : Nat)).2.1 < 4294967296) && decide (0 ≤ (shP (i + 1 : Nat)).2.2) && decide ((shP (i + 1 : Nat)).2.2 < 4294967296)) = true := by kernel_rfl
theorem apart_ok : ((List.range 67).all fun i => (List.range 67).all fun j => i == j || (vN i &&& mN j) != (vN j &&& mN i)) = true := by kernel_rfl
theorem codes_ok : ((List.range 67).all fun i => mN i &&& 127 == 127 && (codeL.getD (vN i &&& 127) []).contains ((i : Int) + 1)) = true := by kernel_rfl
theorem lists_ok : (codeL.all fun l => l.all fun op => decide (1 ≤ op) && decide (op ≤ 67)) = true := by kernel_rfl
theorem mt_nat {op : Int} (h1 : 1 ≤ op) (h2 : op ≤ 67) {x : Int} (hx0 : 0 ≤ x) (hx1 : x < 4294967296) : Mt op x ↔ x.toNat &&& mN (op.toNat - 1) = vN (op.toNat - 1) := by
  have h := List.all_eq_true.1 shapes_ok (op.toNat - 1) (List.mem_range.2 (by omega))
  simp only [Bool.and_eq_true, decide_eq_true_eq] at h
  obtain ⟨⟨⟨m0, m1⟩, v0⟩, v1⟩ := h
  have e : ((op.toNat - 1 + 1 : Nat) : Int) = op := by omega
  unfold Mt mN vN
  rw [e] at m0 m1 v0 v1 ⊢
  rw [u32_and _ _ hx0 hx1 m0 m1]
  constructor
  · intro h; omega
  · intro h; omega
theorem mt_one {i j x : Int} (hi1 : 1 ≤ i) (hi2 : i ≤ 67) (hj1 : 1 ≤ j) (hj2 : j ≤ 67) (hx0 : 0 ≤ x) (hx1 : x < 4294967296) (hi : Mt i x) (hj : Mt j x) : i = j := by
  rw [mt_nat hi1 hi2 hx0 hx1] at hi
  rw [mt_nat hj1 hj2 hx0 hx1] at hj
  have h := List.all_eq_true.1 (List.all_eq_true.1 apart_ok (i.toNat - 1) (List.mem_range.2 (by omega))) (j.toNat - 1) (List.mem_range.2 (by omega))
  simp only [Bool.or_eq_true, beq_iff_eq, bne_iff_ne] at h
  rcases h with h | h
  · omega
  · exact absurd (by rw [← hi, ← hj, Nat.and_assoc, Nat.and_assoc, Nat.and_comm (mN (i.toNat - 1))]) h
theorem mt_code {op x : Int} (h1 : 1 ≤ op) (h2 : op ≤ 67) (hx0 : 0 ≤ x) (hx1 : x < 4294967296) (h : Mt op x) : op ∈ codeL.getD (x.toNat % 128) [] := by
  rw [mt_nat h1 h2 hx0 hx1] at h
  have hc := List.all_eq_true.1 codes_ok (op.toNat - 1) (List.mem_range.2 (by omega))
  simp only [Bool.and_eq_true, beq_iff_eq] at hc
  obtain ⟨c1, c2⟩ := hc
  have e : vN (op.toNat - 1) &&& 127 = x.toNat % 128 := by
    rw [← h, Nat.and_assoc, c1, nat_mask7]
  rw [e] at c2
  have c3 : ((op.toNat - 1 : Nat) : Int) + 1 = op := by omega
  rw [c3] at c2
  simpa using c2
theorem code_ops {c : Nat} {op : Int} (h : op ∈ codeL.getD c []) : 1 ≤ op ∧ op ≤ 67 := by
  by_cases hc : c < codeL.length
  · have hm : codeL.getD c [] ∈ codeL := by
      rw [List.getD_eq_getElem?_getD, List.getElem?_eq_getElem hc]; exact List.getElem_mem _
    have := List.all_eq_true.1 (List.all_eq_true.1 lists_ok _ hm) op h
    simpa using this
  · rw [List.getD_eq_getElem?_getD, List.getElem?_eq_none (by omega)] at h
    simp at h
theorem code_len : codeL.length = 128 := by kernel_rfl
end Go.Proofs.YthacioiefgabbaaGreatDoor
/- Part I: an instruction of the document as one of the program's. -/
namespace Go.Proofs.YthacioiefgabbaaGreatDoor
open Go.RowKit Go.XHeap
set_option linter.unusedVariables false
set_option maxRecDepth 100000

def readT (f x : Int) : Int × Int × Int × Int :=
  match f with
  | 0 => (0, 0, 0, 0)
  | 1 => (partF x 7 5, 0, 0, partF x 12 20)
  | 2 => (partF x 7 5, 0, 0, jumpImm x)
  | 3 => (0, partF x 15 5, partF x 20 5, branchImm x)
  | 4 => (partF x 7 5, partF x 15 5, 0, sgn x / 1048576)
  | 5 => (0, partF x 15 5, partF x 20 5, storeImm x)
  | 6 => (partF x 7 5, partF x 15 5, 0, sgn x / 1048576)
  | 7 => (partF x 7 5, partF x 15 5, 0, partF x 20 5)
  | 8 => (partF x 7 5, partF x 15 5, partF x 20 5, 0)
  | 9 => (partF x 7 5, partF x 15 5, partF x 20 5, partF x 25 2)
  | 10 => (partF x 7 5, partF x 15 5, partF x 20 5, partF x 25 2)
  | 11 => (0, 0, 0, partF x 20 8)
  | 12 => (partF x 7 5, partF x 15 5, 0, partF x 20 12)
  | 13 => (partF x 7 5, partF x 15 5, 0, partF x 20 12)
  | _ => (0, 0, 0, 0)
def ReadT (t : Int × Int × Int × Int) (w : World) (e : Ending) (w' : World) : Prop := e = .returned (ins 0 t.1 t.2.1 t.2.2.1 t.2.2.2) ∧ Grown w w'
theorem formats_ok : ((List.range 67).all fun i => decide (0 ≤ (shP (i + 1 : Nat)).1) && decide ((shP (i + 1 : Nat)).1 ≤ 13)) = true := by kernel_rfl
theorem read_any (op : Int) (h1 : 1 ≤ op) (h2 : op ≤ 67) (x : Int) (hx0 : 0 ≤ x) (hx1 : x < 4294967296) (w : World) : Calls Tryz.prog 271 #[.int .i64 (shP op).1, .int .u32 x] w (ReadT (readT (shP op).1 x) w) := by
  have h := List.all_eq_true.1 formats_ok (op.toNat - 1) (List.mem_range.2 (by omega))
  simp only [Bool.and_eq_true, decide_eq_true_eq] at h
  have e : ((op.toNat - 1 + 1 : Nat) : Int) = op := by omega
  rw [e] at h
  generalize (shP op).1 = f at *
  obtain ⟨f0, f1⟩ := h
  rcases (by omega : f = 0 ∨ f = 1 ∨ f = 2 ∨ f = 3 ∨ f = 4 ∨ f = 5 ∨ f = 6 ∨ f = 7 ∨ f = 8 ∨ f = 9 ∨ f = 10 ∨ f = 11 ∨ f = 12 ∨ f = 13) with rfl | rfl | rfl | rfl | rfl | rfl | rfl | rfl | rfl | rfl | rfl | rfl | rfl | rfl
  · exact read_0 x hx0 hx1 w
  · exact read_1 x hx0 hx1 w
  · exact read_2 x hx0 hx1 w
  · exact read_3 x hx0 hx1 w
  · exact read_4 x hx0 hx1 w
  · exact read_5 x hx0 hx1 w
  · exact read_6 x hx0 hx1 w
  · exact read_7 x hx0 hx1 w
  · exact read_8 x hx0 hx1 w
  · exact read_9 x hx0 hx1 w
  · exact read_10 x hx0 hx1 w
  · exact read_11 x hx0 hx1 w
  · exact read_12 x hx0 hx1 w
  · exact read_13 x hx0 hx1 w
end Go.Proofs.YthacioiefgabbaaGreatDoor
/- Part J: the program's decoding, walked. -/
namespace Go.Proofs.YthacioiefgabbaaGreatDoor
open Go.RowKit Go.XHeap
set_option linter.unusedVariables false
set_option maxRecDepth 100000

def insT (op : Int) (t : Int × Int × Int × Int) : Value := ins op t.1 t.2.1 t.2.2.1 t.2.2.2
def Dec (x : Int) (T : Int → Int × Int × Int × Int) (e : Ending) : Prop :=
  (∃ op, 1 ≤ op ∧ op ≤ 67 ∧ Mt op x ∧ e = .returned (.tuple #[insT op (T op), .bool true])) ∨ ((∀ op, 1 ≤ op → op ≤ 67 → ¬ Mt op x) ∧ e = .returned (.tuple #[ins 0 0 0 0 0, .bool false]))
def DecIs (x : Int) (T : Int → Int × Int × Int × Int) (w : World) (e : Ending) (w' : World) : Prop := Dec x T e ∧ Grown w w'
theorem post5d {Q : Ending → World → Prop} {a : Act} {W : World} {g : Nat} {b : Bool} {cs : Array Value} {v0 v1 v2 v3 v4 : Value} (hd : a.defers = []) (ht : a.tmps[2]?.getD undef = .pointer (some ⟨g, 0, none⟩)) (h3 : a.tmps[3]?.getD undef = .bool b) (hB : Blk W g cs 238)
    (hcs : cs = #[v0, v1, v2, v3, v4]) (hQ : Q (.returned (.tuple #[.agg #[v0, v1, v2, v3, v4], .bool b])) W) : bodyPost Tryz.prog Tryz.f224 Q .ret a W := by
  subst hcs
  have k0 : W.cell? ⟨g, 0, none⟩ = some v0 := hB.cell' (i := 0) rfl
  have k1 : W.cell? ⟨g, 1, none⟩ = some v1 := hB.cell' (i := 1) rfl
  have k2 : W.cell? ⟨g, 2, none⟩ = some v2 := hB.cell' (i := 2) rfl
  have k3 : W.cell? ⟨g, 3, none⟩ = some v3 := hB.cell' (i := 3) rfl
  have k4 : W.cell? ⟨g, 4, none⟩ = some v4 := hB.cell' (i := 4) rfl
  clear hB
  exact bodyPost_ret (v := .tuple #[.agg #[v0, v1, v2, v3, v4], .bool b]) (by simp [results, Tryz.results224, go_sem, ht, h3, k0, k1, k2, k3, k4]) hd hQ
theorem list_at {w : World} (hC : CodeAt w 1 codeL) (k : Nat) (hk : k < 128) : ∃ ao cap, w.cell? ⟨1, k, none⟩ = some (.slice ao (codeL.getD k []).length cap) ∧ (codeL.getD k []).length ≤ 67 ∧
    ∀ i n, (codeL.getD k [])[i]? = some n → ∃ b off, ao = some ⟨b, off, none⟩ ∧ w.cell? ⟨b, off + i, none⟩ = some (.int .i64 n) := by
  have hg : codeL[k]? = some (codeL.getD k []) := by
    rw [List.getD_eq_getElem?_getD, List.getElem?_eq_getElem (by rw [code_len]; exact hk)]; rfl
  have hl : (codeL.getD k []).length ≤ 67 := by
    have h : (codeL.all fun l => decide (l.length ≤ 67)) = true := by kernel_rfl
    have := List.all_eq_true.1 h _ (List.mem_of_getElem? hg)
    simpa using this
  have h := hC k _ hg
  generalize codeL.getD k [] = l at *
  by_cases he : l = []
  · subst he
    exact ⟨none, 0, h.1 rfl, hl, fun i n hi => by simp at hi⟩
  · obtain ⟨b, off, cap, h1, h2⟩ := h.2 he
    exact ⟨some ⟨b, off, none⟩, cap, h1, hl, fun i n hi => ⟨b, off, rfl, h2 i n hi⟩⟩
set_option maxRecDepth 20000 in
set_option maxHeartbeats 500000 in
theorem decode_any (x : Int) (hx0 : 0 ≤ x) (hx1 : x < 4294967296) (w : World) (hT : Tab w) (hC : CodeAt w 1 codeL) : Calls Tryz.prog 224 #[.int .u32 x] w (DecIs x (fun op => readT (shP op).1 x) w) := by
  obtain ⟨kk, hkk⟩ : ∃ kk : Nat, x.toNat % 128 = kk := ⟨_, rfl⟩
  have hk : kk < 128 := by omega
  obtain ⟨ao, cap, c0, hlen, hel⟩ := list_at hC kk hk
  have hb : bits .and .u32 x 127 = (kk : Int) := by
    have := u32_and x 127 hx0 hx1 (by decide) (by decide)
    rw [this]
    have e : x.toNat &&& (127 : Int).toNat = x.toNat % 128 := nat_mask7 _
    rw [e, hkk]
  have hcode : ∀ op, op ∈ codeL.getD kk [] → 1 ≤ op ∧ op ≤ 67 := fun op h => code_ops h
  have hmt : ∀ op, 1 ≤ op → op ≤ 67 → Mt op x → op ∈ codeL.getD kk [] := fun op h1 h2 h => hkk ▸ mt_code h1 h2 hx0 hx1 h
  have g0 : 1 < w.heap.size := World.block_lt_of_cell? _ _ c0
  generalize codeL.getD kk [] = l at *
  have HEL := Lib.hid hel; have HC := Lib.hid hcode; have HM := Lib.hid hmt; have HT := Lib.hid hT
  have HB0 := Lib.hid (Blk.new w #[.int .i64 0, .int .i64 0, .int .i64 0, .int .i64 0, .int .i64 0] 238)
  have HG0 := Lib.hid ((Grown.refl w).alloc #[.int .i64 0, .int .i64 0, .int .i64 0, .int .i64 0, .int .i64 0] 238)
  clear hel hcode hmt hT hkk hC
  go_enter Tryz.func224, Tryz.ntmps224
  go_wp2_with fail
  generalize w.alloc (.cells #[.int .i64 0, .int .i64 0, .int .i64 0, .int .i64 0, .int .i64 0] 238) = W at *
  go_loopw [12] (fun i wr => ∃ k : Nat, k ≤ l.length ∧ i = .int .i64 k ∧ Grown W wr ∧ ∀ j n, j < k → l[j]? = some n → ¬ Mt n x) (fun i _ => l.length - (intOf i).toNat)
  case atStart => exact ⟨0, by omega, rfl, Grown.refl _, fun j n hj => by omega⟩
  case round =>
    obtain ⟨k, hkl, rfl, hg, hno⟩ := hrel
    have HG := Lib.hid hg; have HN := Lib.hid hno
    clear hg hno
    by_cases hlt : k < l.length
    · obtain ⟨n, hn⟩ : ∃ n, l[k]? = some n := ⟨_, List.getElem?_eq_getElem hlt⟩
      obtain ⟨b, off, rfl, ce⟩ := HEL.out k n hn
      have cR := grown_cell HG.out (grown_cell HG0.out ce)
      have hmem := HC.out n (List.mem_of_getElem? hn)
      have HN1 := Lib.hid hn
      clear ce hn
      obtain ⟨n1, n2⟩ := hmem
      by_cases hm : Mt n x
      · have hm' : (bits .and .u32 x (shP n).2.1 == (shP n).2.2) = true := by simpa [Mt] using hm
        have HM1 := Lib.hid hm
        clear hm
        go_wp2_with fail
        refine (shaped_any n (by omega) (by omega) _ (HT.out.grown (grown_trans HG0.out HG.out))).mono ?_
        rintro e w1 ⟨rfl, hG1⟩
        have HG1 := Lib.hid hG1
        clear hG1
        go_wp2_with fail
        refine (read_any n n1 n2 x hx0 hx1 _).mono ?_
        rintro e w2 ⟨rfl, hG2⟩
        have HG2 := Lib.hid hG2
        have HGG := Lib.hid (grown_trans HG0.out (grown_trans HG.out (grown_trans (HG1.out.alloc _ _) HG2.out)))
        unfold ins
        have hB2 := blk_grown ((blk_grown (blk_grown HB0.out HG.out) HG1.out).alloc _) HG2.out
        clear hG2
        have k0 : w2.cell? ⟨w.heap.size, 0, none⟩ = some (.int .i64 0) := hB2.cell' (i := 0) rfl
        have k1 : w2.cell? ⟨w.heap.size, 1, none⟩ = some (.int .i64 0) := hB2.cell' (i := 1) rfl
        have k2 : w2.cell? ⟨w.heap.size, 2, none⟩ = some (.int .i64 0) := hB2.cell' (i := 2) rfl
        have k3 : w2.cell? ⟨w.heap.size, 3, none⟩ = some (.int .i64 0) := hB2.cell' (i := 3) rfl
        have k4 : w2.cell? ⟨w.heap.size, 4, none⟩ = some (.int .i64 0) := hB2.cell' (i := 4) rfl
        have zf := hB2.frozen
        have HB2 := Lib.hid hB2
        clear hB2
        go_wp2
        apply post5d (b := true) (v0 := .int .i64 n) (v1 := .int .i64 (readT (shP n).1 x).1) (v2 := .int .i64 (readT (shP n).1 x).2.1) (v3 := .int .i64 (readT (shP n).1 x).2.2.1) (v4 := .int .i64 (readT (shP n).1 x).2.2.2)
        case hd => rfl
        case ht => rfl
        case h3 => rfl
        case hB => repeat (first | with_reducible apply Blk.set | with_reducible apply Blk.drewN | with_reducible exact HB2.out)
        case hcs => simp
        case hQ =>
          refine ⟨.inl ⟨n, n1, n2, HM1.out, rfl⟩, ?_⟩
          repeat (with_reducible refine Grown.setCell ?_ (Nat.le_refl _) _)
          exact HGG.out
      · have hm' : (bits .and .u32 x (shP n).2.1 == (shP n).2.2) = false := by simpa [Mt] using hm
        have HM1 := Lib.hid hm
        clear hm
        go_wp2_with fail
        refine (shaped_any n (by omega) (by omega) _ (HT.out.grown (grown_trans HG0.out HG.out))).mono ?_
        rintro e w1 ⟨rfl, hG1⟩
        have HG1 := Lib.hid hG1
        clear hG1
        go_wp2
        go_roundw
        case rel => exact ⟨k + 1, by omega, by go_num, (grown_trans HG.out HG1.out).alloc _ _, fun j m hj hjm => by
            rcases Nat.lt_succ_iff_lt_or_eq.1 hj with h | rfl
            · exact HN.out j m h hjm
            · obtain rfl := Option.some.inj (HN1.out.symm.trans hjm); exact HM1.out⟩
        case measure => simp [intOf]; omega
    · have hB2 := blk_grown HB0.out HG.out
      have HGG := Lib.hid (grown_trans HG0.out HG.out)
      have k0 : wr.cell? ⟨w.heap.size, 0, none⟩ = some (.int .i64 0) := hB2.cell' (i := 0) rfl
      have k1 : wr.cell? ⟨w.heap.size, 1, none⟩ = some (.int .i64 0) := hB2.cell' (i := 1) rfl
      have k2 : wr.cell? ⟨w.heap.size, 2, none⟩ = some (.int .i64 0) := hB2.cell' (i := 2) rfl
      have k3 : wr.cell? ⟨w.heap.size, 3, none⟩ = some (.int .i64 0) := hB2.cell' (i := 3) rfl
      have k4 : wr.cell? ⟨w.heap.size, 4, none⟩ = some (.int .i64 0) := hB2.cell' (i := 4) rfl
      have zf := hB2.frozen
      have HB2 := Lib.hid hB2
      clear hB2
      go_wp2
      apply post5d (b := false) (v0 := .int .i64 0) (v1 := .int .i64 0) (v2 := .int .i64 0) (v3 := .int .i64 0) (v4 := .int .i64 0)
      case hd => rfl
      case ht => rfl
      case h3 => rfl
      case hB => repeat (first | with_reducible apply Blk.set | with_reducible apply Blk.drewN | with_reducible exact HB2.out)
      case hcs => simp
      case hQ =>
        refine ⟨.inr ⟨fun op h1 h2 hM => by
        have hmem := HM.out op h1 h2 hM
        obtain ⟨j, hj, hje⟩ := List.getElem_of_mem hmem
        exact HN.out j op (by omega) (by rw [List.getElem?_eq_getElem hj, hje]) hM, rfl⟩, ?_⟩
        repeat (with_reducible refine Grown.setCell ?_ (Nat.le_refl _) _)
        exact HGG.out
end Go.Proofs.YthacioiefgabbaaGreatDoor
/- The isa's tables as they are laid, as a piece of what stands in memory; what a core asks of them. No condition but the tables as they are laid. -/
namespace Go.Proofs.YthacioiefgabbaaGreatDoor
open Go.RowKit Go.XHeap Go.Sx Go.Sep
set_option linter.unusedVariables false
set_option maxRecDepth 100000
def U32 (x : Int) : Prop := 0 ≤ x ∧ x < 4294967296
structure Ins where
  op : Int
  rd : Int
  rs1 : Int
  rs2 : Int
  imm : Int
def Ins.vs (i : Ins) : Array Value := #[.int .i64 i.op, .int .i64 i.rd, .int .i64 i.rs1, .int .i64 i.rs2, .int .i64 i.imm]
def insOf (op : Int) (t : Int × Int × Int × Int) : Ins := ⟨op, t.1, t.2.1, t.2.2.1, t.2.2.2⟩
instance (op x : Int) : Decidable (Mt op x) := by unfold Mt; infer_instance
def opF (x : Int) : Option Int := ((List.range 67).map fun k : Nat => ((k : Int) + 1)).find? fun op => decide (Mt op x)
theorem opF_some {x op : Int} (h : opF x = some op) : 1 ≤ op ∧ op ≤ 67 ∧ Mt op x := by
  have h1 := List.find?_some h
  have h2 := List.mem_of_find?_eq_some h
  simp only [List.mem_map, List.mem_range] at h2
  obtain ⟨k, hk, rfl⟩ := h2
  exact ⟨by omega, by omega, of_decide_eq_true h1⟩
theorem opF_of {x op : Int} (h1 : 1 ≤ op) (h2 : op ≤ 67) (hx0 : 0 ≤ x) (hx1 : x < 4294967296) (h : Mt op x) : opF x = some op := by
  cases e : opF x with
  | none =>
    have := List.find?_eq_none.1 e op (by simp only [List.mem_map, List.mem_range]; exact ⟨op.toNat - 1, by omega, by omega⟩)
    exact absurd (decide_eq_true h) this
  | some o =>
    obtain ⟨a, b, c⟩ := opF_some e
    rw [mt_one a b h1 h2 hx0 hx1 c h]
theorem opF_none {x : Int} (h : ∀ op, 1 ≤ op → op ≤ 67 → ¬ Mt op x) : opF x = none := by
  cases e : opF x with
  | none => rfl
  | some o =>
    obtain ⟨a, b, c⟩ := opF_some e
    exact absurd c (h o a b)
def decF (x : Int) : Ins := match opF x with
  | some op => insOf op (readT (shP op).1 x)
  | none => ⟨0, 0, 0, 0, 0⟩
def decOk (x : Int) : Bool := (opF x).isSome
/-! ### the tables -/
/-- nothing below B has been written since the tables were laid -/
def Tabs (B : Nat) (w : World) : Prop := ∃ W0 : World, W0.heap.size = B ∧ Tab W0 ∧ CodeAt W0 1 codeL ∧ XTouch (fun k => B ≤ k) W0 w
theorem Tabs.cell {B : Nat} {W0 w : World} (hB : W0.heap.size = B) (ht : XTouch (fun k => B ≤ k) W0 w) {g o : Nat} {v : Value} (h : W0.cell? ⟨g, o, none⟩ = some v) : w.cell? ⟨g, o, none⟩ = some v := by
  have hl := World.block_lt_of_cell? _ _ h
  exact (ht.cell hl (fun e => absurd (show B ≤ g from e) (by have : g < W0.heap.size := hl; omega))).trans h
theorem Tabs.tab {B : Nat} {w : World} (h : Tabs B w) : Tab w := by
  obtain ⟨W0, hB, hT, -, ht⟩ := h
  exact ⟨fun i x hi => ⟨cell hB ht (hT.1 i x hi).1, cell hB ht (hT.1 i x hi).2.1, cell hB ht (hT.1 i x hi).2.2⟩, fun i x hi => ⟨cell hB ht (hT.2 i x hi).1, cell hB ht (hT.2 i x hi).2.1, cell hB ht (hT.2 i x hi).2.2⟩⟩
theorem Tabs.code {B : Nat} {w : World} (h : Tabs B w) : CodeAt w 1 codeL := by
  obtain ⟨W0, hB, -, hC, ht⟩ := h
  intro c l hc
  refine ⟨fun e => cell hB ht ((hC c l hc).1 e), fun e => ?_⟩
  obtain ⟨b, off, cap, h1, h2⟩ := (hC c l hc).2 e
  exact ⟨b, off, cap, cell hB ht h1, fun i n hi => cell hB ht (h2 i n hi)⟩
theorem Tabs.keep {B : Nat} {M : Nat → Prop} {W w : World} (h : Tabs B W) (ht : XTouch M W w) (hm : ∀ k, M k → B ≤ k) : Tabs B w := by
  obtain ⟨W0, hB, hT, hC, h0⟩ := h
  exact ⟨W0, hB, hT, hC, h0.trans ht (fun k _ e => hm k e)⟩
theorem Tabs.st {B : Nat} {M : Nat → Prop} {W w : World} {L : List Asn} (h : Tabs B W) (H : St W M w L) (hm : ∀ k, M k → B ≤ k) : Tabs B w := h.keep H.touch hm
theorem class_q {B : Nat} {w : World} (hT : Tabs B w) (op : Int) : Calls Tryz.prog 188 #[.int .i64 op] w fun e w' => e = .returned (.int .i64 (classP op)) ∧ Hush w w' := pclass_any op w hT.tab
theorem reads_q {B : Nat} {w : World} (hT : Tabs B w) (op : Int) : Calls Tryz.prog 174 #[.int .i64 op] w fun e w' => e = .returned (.tuple #[.bool (readsP op).1, .bool (readsP op).2]) ∧ Hush w w' := preads_any op w hT.tab
theorem writes_q {B : Nat} {w : World} (hT : Tabs B w) (op : Int) : Calls Tryz.prog 170 #[.int .i64 op] w fun e w' => e = .returned (.bool (writesP op)) ∧ Hush w w' := pwrites_any op w hT.tab
theorem decode_q {B : Nat} {w : World} (hT : Tabs B w) (x : Int) (hx : U32 x) : Calls Tryz.prog 224 #[.int .u32 x] w fun e w' => e = .returned (.tuple #[.agg (decF x).vs, .bool (decOk x)]) ∧ Hush w w' := by
  refine (decode_any x hx.1 hx.2 w hT.tab hT.code).mono ?_
  rintro e w' ⟨hd, hg⟩
  refine ⟨?_, hg⟩
  rcases hd with ⟨op, h1, h2, hm, rfl⟩ | ⟨hn, rfl⟩
  · have e1 := opF_of h1 h2 hx.1 hx.2 hm
    unfold decF decOk
    rw [e1]
    rfl
  · have e1 := opF_none hn
    unfold decF decOk
    rw [e1]
    rfl
/-- the tables, as a piece that no one writes: nothing of the world B has been written -/
def tabsA (B : World) : Asn := ⟨fun k => k < B.heap.size, fun w => Tabs B.heap.size w ∧ XTouch (fun k => B.heap.size ≤ k) B w, fun h ht hn => ⟨by
  obtain ⟨W0, hB, hT, hC, h0⟩ := h.1
  exact ⟨W0, hB, hT, hC, h0.trans ht (fun k _ e => Nat.le_of_not_lt fun hk => hn k hk e)⟩, h.2.trans ht (fun k _ e => Nat.le_of_not_lt fun hk => hn k hk e)⟩, fun h k hk => Nat.lt_of_lt_of_le hk h.2.size⟩
theorem tabsA_hush {B w : World} (h : (tabsA B).at_ w) : Hush B w := h.2.mono fun k hk e => absurd hk (Nat.not_lt.2 e)
theorem tabsA_mk {B : World} (hT : Tab B) (hC : CodeAt B 1 codeL) : (tabsA B).at_ B := ⟨⟨B, rfl, hT, hC, XTouch.refl _ _⟩, XTouch.refl _ _⟩
def ebreakW : Int := 1048691
theorem dec_ebreak : (decF ebreakW).vs = #[.int .i64 59, .int .i64 0, .int .i64 0, .int .i64 0, .int .i64 0] ∧ decOk ebreakW = true := by
  constructor <;> kernel_rfl
end Go.Proofs.YthacioiefgabbaaGreatDoor
