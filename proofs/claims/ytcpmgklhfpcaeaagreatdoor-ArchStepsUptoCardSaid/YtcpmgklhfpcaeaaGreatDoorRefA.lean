/- The document's hart as it lies in memory, by the program's state; the small functions. Conditions: the code it reads. -/
import Derived.Test.YtcpmgklhfpcaeaaGreatDoorRefP
import Derived.Test.YtcpmgklhfpcaeaaGreatDoorArchRVc
namespace Go.Proofs.YtcpmgklhfpcaeaaGreatDoor
open Go.RowKit Go.XHeap Go.Sx Go.Sep
set_option linter.unusedVariables false
set_option maxRecDepth 100000

/-- words below B that nobody writes -/
structure Src (B : Nat) (w : World) (p : Option Addr) (l : List Int) : Prop where
  size : B ≤ w.heap.size
  at_ : ∀ i x, l[i]? = some x → ∃ g off, p = some ⟨g, off, none⟩ ∧ g < B ∧ w.cell? ⟨g, off + i, none⟩ = some (.int .u32 x)
theorem Src.keep {B : Nat} {M : Nat → Prop} {W w : World} {p : Option Addr} {l : List Int} (h : Src B W p l) (ht : XTouch M W w) (hm : ∀ k, M k → B ≤ k) : Src B w p l := by
  refine ⟨Nat.le_trans h.size ht.size, fun i x hx => ?_⟩
  obtain ⟨g, off, e, hg, hc⟩ := h.at_ i x hx
  exact ⟨g, off, e, hg, (ht.cell (p := ⟨g, off + i, none⟩) (Nat.lt_of_lt_of_le hg h.size) (fun e => absurd (hm g e) (by omega))).trans hc⟩
theorem Src.st {B : Nat} {M : Nat → Prop} {W w : World} {L : List Asn} {p : Option Addr} {l : List Int} (h : Src B W p l) (H : St W M w L) (hm : ∀ k, M k → B ≤ k) : Src B w p l := h.keep H.touch hm
def tailL (S : HS) : List Value := [.bool S.halted, .int .i64 S.R.ret, .int .u32 (S.R.at 768), .int .u32 (S.R.at 772), .int .u32 (S.R.at 773), .int .u32 (S.R.at 832), .int .u32 (S.R.at 833), .int .u32 (S.R.at 834), .int .u32 (S.R.at 835)]
def refL (cp : Option Addr) (cc : Nat) (S : HS) : List Value := .slice cp S.code.length cc :: .int .i64 S.data :: .int .i64 S.R.hart :: .int .u32 S.pc :: (S.x.map (.int .u32) ++ tailL S)
def refC (cp : Option Addr) (cc : Nat) (S : HS) : Array Value := (refL cp cc S).toArray
def refA (b : Nat) (cp : Option Addr) (cc : Nat) (S : HS) : Asn := blk b (refC cp cc S) 77
variable {W w : World} {b cc : Nat} {cp : Option Addr} {S S' : HS} {L : List Asn} {B : Nat} {M : Nat → Prop} {W0 : World}
theorem ref_at (i : Nat) : (refC cp cc S)[i]? = (refL cp cc S)[i]? := by unfold refC; rw [List.getElem?_toArray]
theorem ref_x (h : S.x.length = 32) {i : Nat} (hi : i < 32) : (refC cp cc S)[4 + i]? = some (.int .u32 (S.x.getD i 0)) := by
  rw [ref_at, show 4 + i = i + 1 + 1 + 1 + 1 by omega]
  unfold refL
  rw [List.getElem?_cons_succ, List.getElem?_cons_succ, List.getElem?_cons_succ, List.getElem?_cons_succ, List.getElem?_append_left (by simp; omega), List.getElem?_map, List.getD_eq_getElem?_getD, List.getElem?_eq_getElem (by omega)]
  rfl
theorem ref_t (h : S.x.length = 32) (j : Nat) {v : Value} (hv : (tailL S)[j]? = some v) : (refC cp cc S)[36 + j]? = some v := by
  rw [ref_at, show 36 + j = 32 + j + 1 + 1 + 1 + 1 by omega]
  unfold refL
  rw [List.getElem?_cons_succ, List.getElem?_cons_succ, List.getElem?_cons_succ, List.getElem?_cons_succ, List.getElem?_append_right (by simp; omega)]
  simp only [List.length_map, h]
  rw [show 32 + j - 32 = j by omega, hv]
theorem ref_size (h : S.x.length = 32) : (refC cp cc S).size = 45 := by unfold refC refL tailL; simp [h]
theorem ref_setpc (v : Int) : (refC cp cc S).setIfInBounds 3 (.int .u32 v) = refC cp cc { S with pc := v } := by
  unfold refC refL
  rw [List.setIfInBounds_toArray]
  rfl
theorem ref_setx (h : S.x.length = 32) {i : Nat} (hi : i < 32) (v : Int) : (refC cp cc S).setIfInBounds (4 + i) (.int .u32 v) = refC cp cc { S with x := S.x.set i v } := by
  unfold refC refL
  rw [List.setIfInBounds_toArray, show 4 + i = i + 1 + 1 + 1 + 1 by omega]
  simp only [List.set_cons_succ]
  rw [List.set_append_left _ _ (by simp; omega), List.map_set]
  rfl
theorem ref_sett (h : S.x.length = 32) (j : Nat) (v : Value) (S' : HS) (hc : S'.code = S.code) (hd : S'.data = S.data) (hh : S'.R.hart = S.R.hart) (hp : S'.pc = S.pc) (hx : S'.x = S.x) (ht : tailL S' = (tailL S).set j v) : (refC cp cc S).setIfInBounds (36 + j) v = refC cp cc S' := by
  unfold refC refL
  rw [List.setIfInBounds_toArray, show 36 + j = 32 + j + 1 + 1 + 1 + 1 by omega]
  simp only [List.set_cons_succ]
  rw [List.set_append_right _ _ (by simp; omega), hc, hd, hh, hp, hx, ht]
  simp only [List.length_map, h]
  rw [show 32 + j - 32 = j by omega]
theorem rpc_ld (H : St W0 M w (refA b cp cc S :: L)) : w.cell? ⟨b, 0 + 3, none⟩ = some (.int .u32 S.pc) := H.ld 0 rfl ((ref_at 3).trans rfl)
theorem rcd_ld (H : St W0 M w (refA b cp cc S :: L)) : w.cell? ⟨b, 0, none⟩ = some (.slice cp S.code.length cc) := H.ld 0 rfl ((ref_at 0).trans rfl)
theorem rdt_ld (H : St W0 M w (refA b cp cc S :: L)) : w.cell? ⟨b, 0 + 1, none⟩ = some (.int .i64 S.data) := H.ld 0 rfl ((ref_at 1).trans rfl)
theorem rnb_ld (H : St W0 M w (refA b cp cc S :: L)) : w.cell? ⟨b, 0 + 2, none⟩ = some (.int .i64 S.R.hart) := H.ld 0 rfl ((ref_at 2).trans rfl)
theorem rx_ld (H : St W0 M w (refA b cp cc S :: L)) (h32 : S.x.length = 32) (i : Int) (h0 : 0 ≤ i) (h1 : i < 32) : w.cell? ⟨b, 0 + 4 + i.toNat * 1, none⟩ = some (.int .u32 (S.reg i)) := by
  rw [Nat.mul_one, Nat.zero_add]
  exact H.ld 0 rfl (ref_x h32 (by omega))
theorem rt_ld (H : St W0 M w (refA b cp cc S :: L)) (h32 : S.x.length = 32) (j : Nat) {v : Value} (hv : (tailL S)[j]? = some v) : w.cell? ⟨b, 36 + j, none⟩ = some v := H.ld 0 rfl (ref_t h32 j hv)
/-- a cell of the tail is written -/
theorem rt_st (H : St W0 M w (refA b cp cc S :: L)) (h32 : S.x.length = 32) (j : Nat) (hj : j < 9) (v : Value) (S' : HS) (hc : S'.code = S.code) (hd : S'.data = S.data) (hh : S'.R.hart = S.R.hart) (hp : S'.pc = S.pc) (hx : S'.x = S.x) (ht : tailL S' = (tailL S).set j v) {φ : World → Prop}
    (hq : ∀ w', St W0 M w' (refA b cp cc S' :: L) → φ w') : (∃ u, w.cell? ⟨b, 36 + j, none⟩ = some u) ∧ w.frozen? ⟨b, 36 + j, none⟩ = false ∧ ∀ w', w' = w.setCell ⟨b, 36 + j, none⟩ v → φ w' :=
  H.st 0 rfl (by rw [ref_size h32]; omega) fun w' H => hq w' (by
    have H : St W0 M w' (blk b ((refC cp cc S).setIfInBounds (36 + j) v) 77 :: L) := H
    rw [ref_sett h32 j v S' hc hd hh hp hx ht] at H
    exact H)
theorem rpc_st (H : St W0 M w (refA b cp cc S :: L)) (h32 : S.x.length = 32) (v : Int) {φ : World → Prop} (hq : ∀ w', St W0 M w' (refA b cp cc { S with pc := v } :: L) → φ w') :
    (∃ u, w.cell? ⟨b, 0 + 3, none⟩ = some u) ∧ w.frozen? ⟨b, 0 + 3, none⟩ = false ∧ ∀ w', w' = w.setCell ⟨b, 0 + 3, none⟩ (.int .u32 v) → φ w' :=
  H.st 0 rfl (by rw [ref_size h32]; decide) fun w' H => hq w' (by
    have H : St W0 M w' (blk b ((refC cp cc S).setIfInBounds 3 (.int .u32 v)) 77 :: L) := H
    rw [ref_setpc] at H
    exact H)
theorem rx_st (H : St W0 M w (refA b cp cc S :: L)) (h32 : S.x.length = 32) (i : Int) (h0 : 0 ≤ i) (h1 : i < 32) (v : Int) {φ : World → Prop} (hq : ∀ w', St W0 M w' (refA b cp cc { S with x := S.x.set i.toNat v } :: L) → φ w') :
    (∃ u, w.cell? ⟨b, 0 + 4 + i.toNat * 1, none⟩ = some u) ∧ w.frozen? ⟨b, 0 + 4 + i.toNat * 1, none⟩ = false ∧ ∀ w', w' = w.setCell ⟨b, 0 + 4 + i.toNat * 1, none⟩ (.int .u32 v) → φ w' := by
  rw [Nat.mul_one, Nat.zero_add]
  exact H.st 0 rfl (by rw [ref_size h32]; omega) fun w' H => hq w' (by
    have H : St W0 M w' (blk b ((refC cp cc S).setIfInBounds (4 + i.toNat) (.int .u32 v)) 77 :: L) := H
    rw [ref_setx h32 (by omega)] at H
    exact H)
/-! ### the contracts of the layers below -/
theorem qclass_q (op : Int) (h1 : 1 ≤ op) (h2 : op ≤ 67) (w : World) : Calls Tryz.prog 40 #[.int .i64 op] w fun e w' => e = .returned (.int .i64 (classP op)) ∧ Hush w w' := by
  have h := rng_all tab1 h1 h2
  simp only [Bool.and_eq_true, decide_eq_true_eq] at h
  rw [show ((op.toNat - 1 + 1 : Nat) : Int) = op by omega] at h
  rw [← h.1]
  exact class_any op w
theorem qdecode_q (x : Int) (hx : U32 x) (w : World) : Calls Tryz.prog 80 #[.int .u32 x] w fun e w' => e = .returned (.tuple #[.agg (decF x).vs, .bool (decOk x)]) ∧ Hush w w' := by
  refine (rdecode_any x hx.1 hx.2 w).mono ?_
  rintro e w' ⟨hd, hg⟩
  refine ⟨?_, hg⟩
  rcases hd with ⟨op, h1, h2, hm, rfl⟩ | ⟨hn, rfl⟩
  · have e1 := opF_of h1 h2 hx.1 hx.2 hm
    unfold decF decOk
    rw [e1]
    dsimp only
    rw [← fields_eq op h1 h2 x hx.1 hx.2 hm]
    rfl
  · have e1 := opF_none hn
    unfold decF decOk
    rw [e1]
    rfl
theorem qsize_q (op : Int) (w : World) : Calls Tryz.prog 37 #[.int .i64 op] w fun e w' => e = .returned (.int .i64 (alu.sizeF op)) ∧ Hush w w' := alu.rsize_any op w
theorem qexec_q (op : Int) {a b : Int} (ha : U32 a) (hb : U32 b) (w : World) : Calls Tryz.prog 87 #[.int .i64 op, .int .u32 a, .int .u32 b] w fun e w' => e = .returned (.int .u32 (alu.execF op a b)) ∧ Hush w w' := alu.rexec_any op a b ha.1 ha.2 hb.1 hb.2 w
theorem qtaken_q (op : Int) {a b : Int} (ha : U32 a) (hb : U32 b) (w : World) : Calls Tryz.prog 55 #[.int .i64 op, .int .u32 a, .int .u32 b] w fun e w' => e = .returned (.bool (alu.takenF op a b)) ∧ Hush w w' := alu.rtaken_any op a b ha.1 ha.2 hb.1 hb.2 w
theorem qwiden_q (op : Int) {a : Int} (ha : U32 a) (w : World) : Calls Tryz.prog 90 #[.int .i64 op, .int .u32 a] w fun e w' => e = .returned (.int .u32 (alu.widenF op a)) ∧ Hush w w' := alu.rwiden_any op a ha.1 ha.2 w
/-- the rows of the document, in a block of their own -/
theorem qrows_q (w : World) : Calls Tryz.prog 57 #[] w fun e w' => ∃ k, e = .returned (.slice (some ⟨k, 0, none⟩) 67 67) ∧ RowsAt w' k ∧ Hush w w' := rows_made w
theorem toL (l : List UInt8) (a : Array UInt8) (h : (ByteArray.mk a).toList = l) (s : ByteArray) : (s.toList == (ByteArray.mk a).toList) = (s.toList == l) := by rw [h]
theorem nm_row {op : Int} (h1 : 1 ≤ op) (h2 : op ≤ 67) : (rowAt op).1 = nm op := by unfold nm; rw [if_neg (by omega)]
theorem nmI (a : Array UInt8) (k : Int) (h : ((List.range 67).all fun i => ((nm (i + 1 : Nat)).toList == (ByteArray.mk a).toList) == decide (((i + 1 : Nat) : Int) = k)) = true) {op : Int} (h1 : 1 ≤ op) (h2 : op ≤ 67) : ((rowAt op).1.toList == (ByteArray.mk a).toList) = decide (op = k) := by
  have := rng_all h h1 h2
  simp only [beq_iff_eq] at this
  rw [show ((op.toNat - 1 + 1 : Nat) : Int) = op by omega] at this
  rw [nm_row h1 h2, this]
theorem is_ecall {op : Int} (h1 : 1 ≤ op) (h2 : op ≤ 67) : ((rowAt op).1.toList == (ByteArray.mk #[101, 99, 97, 108, 108]).toList) = decide (op = 58) := nmI _ _ (by decide +kernel) h1 h2
theorem is_ebreak {op : Int} (h1 : 1 ≤ op) (h2 : op ≤ 67) : ((rowAt op).1.toList == (ByteArray.mk #[101, 98, 114, 101, 97, 107]).toList) = decide (op = 59) := nmI _ _ (by decide +kernel) h1 h2
theorem is_mret {op : Int} (h1 : 1 ≤ op) (h2 : op ≤ 67) : ((rowAt op).1.toList == (ByteArray.mk #[109, 114, 101, 116]).toList) = decide (op = 60) := nmI _ _ (by decide +kernel) h1 h2
theorem is_fence {op : Int} (h1 : 1 ≤ op) (h2 : op ≤ 67) : ((rowAt op).1.toList == (ByteArray.mk #[102, 101, 110, 99, 101]).toList) = decide (op = 57) := nmI _ _ (by decide +kernel) h1 h2
theorem is_wfi {op : Int} (h1 : 1 ≤ op) (h2 : op ≤ 67) : ((rowAt op).1.toList == (ByteArray.mk #[119, 102, 105]).toList) = decide (op = 61) := nmI _ _ (by decide +kernel) h1 h2
theorem is_jalr {op : Int} (h1 : 1 ≤ op) (h2 : op ≤ 67) : ((rowAt op).1.toList == (ByteArray.mk #[106, 97, 108, 114]).toList) = decide (op = 4) := nmI _ _ (by decide +kernel) h1 h2
theorem is_lrw {op : Int} (h1 : 1 ≤ op) (h2 : op ≤ 67) : ((rowAt op).1.toList == (ByteArray.mk #[108, 114, 46, 119]).toList) = decide (op = 46) := nmI _ _ (by decide +kernel) h1 h2
theorem is_scw {op : Int} (h1 : 1 ≤ op) (h2 : op ≤ 67) : ((rowAt op).1.toList == (ByteArray.mk #[115, 99, 46, 119]).toList) = decide (op = 47) := nmI _ _ (by decide +kernel) h1 h2
/-! ### New -/
theorem rimage_any (p : Option Addr) (n c : Nat) (data : Int) (W : World) : Calls Tryz.prog 28 #[.slice p n c, .int .i64 data] W fun e w => e = .returned (.bool (imageOk n data)) ∧ w = W := by
  have no : ¬ ((1 ≤ n ∧ n ≤ 4096) ∧ 0 ≤ data ∧ data ≤ 4096 ∧ data % 16 = 0) → false = imageOk n data := fun h => (decide_eq_false h).symm
  refine vc28 p n c data (split_of (fun q => split_of (fun q2 => split_of (fun q3 => split_of (fun q4 => ⟨by decide, ?_⟩) (fun q4 => ?_)) (fun q3 => ?_)) (fun q2 => ?_)) (fun q => ?_))
  · have q := of_decide_eq_true q; have q2 := of_decide_eq_true q2; have q3 := of_decide_eq_true q3; have q4 := of_decide_eq_true q4
    rintro z rfl
    rw [Int.tmod_eq_emod_of_nonneg (by omega)]
    refine ⟨?_, rfl⟩
    congr 2
    unfold imageOk
    by_cases h : data % 16 = 0
    · rw [decide_eq_true (by omega)]; exact beq_iff_eq.2 h
    · rw [decide_eq_false (by omega)]; exact beq_eq_false_iff_ne.2 h
  · have q4 := of_decide_eq_false q4
    exact ⟨by rw [← no (by omega)], rfl⟩
  · have q3 := of_decide_eq_false q3
    exact ⟨by rw [← no (by omega)], rfl⟩
  · have q2 := of_decide_eq_false q2
    exact ⟨by rw [← no (by omega)], rfl⟩
  · have q := of_decide_eq_false q
    exact ⟨by rw [← no (by omega)], rfl⟩
def RNewIs (cp : Option Addr) (cc : Nat) (code : List Int) (data number : Int) (W : World) (e : Ending) (w : World) : Prop :=
  if imageOk code.length data = false then e = .returned (.tuple #[.pointer none, .int .i64 1]) ∧ w = W
  else if number < 0 ∨ 2 ≤ number then e = .returned (.tuple #[.pointer none, .int .i64 3]) ∧ w = W
  else ∃ b, e = .returned (.tuple #[.pointer (some ⟨b, 0, none⟩), .int .i64 0]) ∧ Sep.Post emp W (refA b cp cc (HS.new code data number)) w
theorem rnew_any (code : List Int) (data number : Int) (W : World) : Calls Tryz.prog 6 #[.slice cp code.length cc, .int .i64 data, .int .i64 number] W (RNewIs cp cc code data number W) := by
  refine vc6 cp code.length cc data number ((rimage_any cp code.length cc data W).mono ?_)
  rintro e w2 ⟨rfl, rfl⟩
  refine ⟨_, rfl, split_of (fun q => ?_) (fun q => split_of (fun q2 => ?_) (fun q2 => split_of (fun q3 => ?_) (fun q3 => ?_)))⟩
  · have q := not_t q
    unfold RNewIs
    rw [if_pos q]
    exact ⟨rfl, rfl⟩
  · have q := not_f q; have q2 := of_decide_eq_true q2
    unfold RNewIs
    rw [if_neg (by rw [q]; decide), if_pos (.inl q2)]
    exact ⟨rfl, rfl⟩
  · have q := not_f q; have q3 := of_decide_eq_true q3
    unfold RNewIs
    rw [if_neg (by rw [q]; decide), if_pos (.inr q3)]
    exact ⟨rfl, rfl⟩
  · have q := not_f q; have q2 := of_decide_eq_false q2; have q3 := of_decide_eq_false q3
    rintro vs rfl
    refine (St.nil w2).al fun k w3 H => ?_
    unfold RNewIs
    rw [if_neg (by rw [q]; decide), if_neg (by omega)]
    refine ⟨k, rfl, ?_⟩
    have hw : wr number = number := wr_id ⟨by omega, by omega⟩
    have e : refC cp cc (HS.new code data number) = (Value.agg #[.slice cp code.length cc, .int .i64 data, .int .i64 number, .int .u32 0, .int .u32 0, .int .u32 0, .int .u32 0, .int .u32 0, .int .u32 0, .int .u32 0, .int .u32 0, .int .u32 0, .int .u32 0, .int .u32 0, .int .u32 0, .int .u32 0, .int .u32 0, .int .u32 0, .int .u32 0, .int .u32 0, .int .u32 0, .int .u32 0, .int .u32 0, .int .u32 0, .int .u32 0, .int .u32 0, .int .u32 0, .int .u32 0, .int .u32 0, .int .u32 0, .int .u32 0, .int .u32 0, .int .u32 0, .int .u32 0, .int .u32 0, .int .u32 0, .bool false, .int .i64 0, .int .u32 0, .int .u32 0, .int .u32 0, .int .u32 0, .int .u32 0, .int .u32 0, .int .u32 0]).cells := by
      unfold HS.new refC refL
      simp only [hw]
      rfl
    have H := H.conv 0 (A' := refA k cp cc (HS.new code data number)) rfl (fun h => by unfold refA; rw [e]; exact h) (fun q h => h)
    exact H.new 0 rfl
end Go.Proofs.YtcpmgklhfpcaeaaGreatDoor
