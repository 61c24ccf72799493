import Derived.Test.YtcpmgklhfpcaeaaGreatDoorRefE
import Derived.Test.YtcpmgklhfpcaeaaGreatDoorStepVc
import Derived.Test.YtcpmgklhfpcaeaaGreatDoorAskA
/- The document's machine: bytes, the atomic operation. Plain facts ahead of it. -/
namespace Go.Proofs.YtcpmgklhfpcaeaaGreatDoor
open Go.RowKit Go.XHeap Go.Sx Go.Sep
set_option linter.unusedVariables false
set_option maxRecDepth 100000

/-! ### plainly -/
theorem tab6 : ((List.range 67).all fun i => decide (classP (i + 1 : Nat) = 6 → alu.sizeF (i + 1 : Nat) = 4)) = true := by kernel_rfl
theorem size6 {op : Int} (h1 : 1 ≤ op) (h67 : op ≤ 67) (h : classP op = 6) : alu.sizeF op = 4 := by
  have h0 := rng_all tab6 h1 h67
  rw [show ((op.toNat - 1 + 1 : Nat) : Int) = op by omega] at h0
  exact of_decide_eq_true h0 h
theorem class_size {op : Int} (h1 : 1 ≤ op) (h67 : op ≤ 67) (h : alu.sizeF op ≠ 0) : classP op = 4 ∨ classP op = 5 ∨ classP op = 6 := by
  have h0 := rng_all tab3 h1 h67
  simp only [Bool.and_eq_true, decide_eq_true_eq] at h0
  rw [show ((op.toNat - 1 + 1 : Nat) : Int) = op by omega] at h0
  exact h0.1.2 h
theorem ask_of {S : HS} (h : S.ask.op ≠ 0) : S.asks = true ∧ S.ask.op = S.ins.op ∧ S.ask.addr = S.addr ∧ S.ask.size = alu.sizeF S.ins.op ∧ 1 ≤ S.ins.op ∧ S.ins.op ≤ 67 ∧ (classP S.ask.op = 4 ∨ classP S.ask.op = 5 ∨ classP S.ask.op = 6) ∧ (S.there = true ∧ decOk S.word = true ∧ S.halted = false ∧ alu.sizeF S.ins.op ≠ 0 ∧ reachF S.ins.op S.addr S.data = -1) := by
  cases ha : S.asks with
  | false => exact absurd (by unfold HS.ask; rw [ha]; rfl) h
  | true =>
    have e : S.ask = ⟨S.ins.op, S.addr, alu.sizeF S.ins.op, if classP S.ins.op = 4 then 0 else cutF (alu.sizeF S.ins.op) (S.reg S.ins.rs2)⟩ := by unfold HS.ask; exact if_pos ha
    have ha' := ha
    unfold HS.asks at ha'
    simp only [Bool.and_eq_true, decide_eq_true_eq, Bool.not_eq_true'] at ha'
    obtain ⟨q1, q2, q3, q4, q5⟩ := ha'
    obtain ⟨h1, h67⟩ : 1 ≤ S.ins.op ∧ S.ins.op ≤ 67 := decF_low q2
    rw [e]
    exact ⟨rfl, rfl, rfl, rfl, h1, h67, class_size h1 h67 q4, q1, q2, q3, q4, q5⟩
theorem ask_low {S : HS} (ho : S.Ok) (h : S.ask.op ≠ 0) (h5 : classP S.ask.op ≠ 5) : S.ask.addr < 131072 := by
  obtain ⟨-, e1, e2, -, -, -, -, -, -, -, hn, hr⟩ := ask_of h
  rw [e1] at h5
  rw [e2]
  have haddr : U32 S.addr := whereF_u (ho.reg _)
  have hd := ho.data
  have hw : withinF S.addr (wr (alu.sizeF S.ins.op)) 65536 (wr S.data) = true := by
    unfold reachF at hr
    split at hr
    · split at hr <;> exact absurd hr (by decide)
    · split at hr
      · rename_i h1; exact h1
      · split at hr
        · rename_i h1; exact absurd h1.1 h5
        · split at hr <;> exact absurd hr (by decide)
  unfold withinF wr at hw
  simp only [w32m, Bool.and_eq_true, decide_eq_true_eq] at hw
  obtain ⟨u0, u1⟩ := haddr
  omega
/-- a store's answer does nothing -/
theorem store_done {S : HS} (ho : S.Ok) (h2 : S.Ok2) (h : S.ask.op ≠ 0) (h5 : classP S.ask.op = 5) (a b : Int) (x y : Bool) : S.done a x = S.done b y := by
  obtain ⟨-, e1, e2, -, h1, h67, -, hth, hdk, hh, hn, hr⟩ := ask_of h
  rw [e1] at h5
  have key : ∀ (a : Int) (x : Bool), S.done a x = S.rdone S.word 0 0 S.p4 := by
    intro a x
    have hdone := done_mid (S := S) (loaded := a) (held := x) (by rw [hh]; decide) (by rw [hth]; decide) (by rw [hdk]; decide)
    have hm := mid_mem (S := S) (loaded := a) (held := x) (by omega) (by omega) (by omega) (by omega)
    have hr' : reachF S.ins.op (whereF S.ins.op S.ins.imm (S.reg S.ins.rs1)) S.data = -1 := hr
    rw [hr', if_neg (fun h => h rfl)] at hm
    rw [hm] at hdone
    have hw : writesP S.ins.op = false := by rw [writes_of h1 h67, h5]; rfl
    generalize (if S.ins.op = 47 then (if x then 0 else 1) else alu.widenF S.ins.op a) = v at hdone
    have e : S.fin v S.p4 S.R = S.rdone S.word 0 v S.p4 := fin_rdone ho (v := v) (R := S.R) (wr_u _) (p4_4 h2 ho) (rd := 0) (by rw [hw]; rfl)
    have hd2 : S.done a x = S.rdone S.word 0 v S.p4 := hdone.trans e
    rw [hd2]
    unfold HS.rdone
    rw [if_pos rfl, if_pos rfl]
  rw [key a x, key b y]
theorem or_low {v c : Nat} (hv : v < 16777216) (hc : c < 256) : IntKind.wrap .u32 ((BitVec.ofInt (IntKind.bits .u32) (IntKind.wrap .u32 ((v : Int) * 2 ^ min 8 (IntKind.bits .u32))) ||| BitVec.ofInt (IntKind.bits .u32) (IntKind.wrap .u32 (c : Int))).toNat : Int) = ((c + 256 * v : Nat) : Int) := by
  have e1 : IntKind.wrap .u32 ((v : Int) * 2 ^ min 8 (IntKind.bits .u32)) = ((256 * v : Nat) : Int) := by
    rw [show ((v : Int) * 2 ^ min 8 (IntKind.bits .u32)) = ((256 * v : Nat) : Int) by show (v : Int) * 256 = _; omega]
    exact Bits.n32 (by omega)
  rw [e1, Bits.n32 (x := c) (by omega), Bits.lor32 (by omega) (by omega)]
  congr 1
  have e2 : 256 * v + c = 256 * v ||| c := Nat.two_pow_add_eq_or_of_lt (i := 8) (b := c) hc v
  rw [← e2]; omega
variable {W w : World} {M : MS} {L : List Asn} {B : Nat} {W0 : World} {Mo : Nat → Prop}
/-! ### Read, Write -/
theorem mem_open {p : Option Addr} {c : Nat} {l : List Nat} (hA : (memA p c l).at_ w) (h : 0 < l.length) : ∃ g off, p = some ⟨g, off, none⟩ ∧ ∀ i (hi : i < l.length), w.cell? ⟨g, off + i, none⟩ = some (.int .u8 (l[i] : Nat)) := by
  have hs : Sl w 5 1 (.slice p l.length c) l.length (u8n l) := hA
  obtain ⟨ao, cap, hv, hl, -, h2, -, hc⟩ := hs.open1
  cases hv
  obtain ⟨g, off, e, -, hc⟩ := hc h
  exact ⟨g, off, e, fun i hi => (hc i hi).1.trans (u8n_get (List.getElem?_eq_getElem hi))⟩
theorem rread_any {p : Option Addr} {c n at_ : Nat} {l : List Nat} {addr : Int} (hA : (memA p c l).at_ W) (hb : ∀ x ∈ l, x < 256) (ha : addr = 65536 + at_) (hn1 : 1 ≤ n) (hn : n ≤ 4) (hk : at_ + n ≤ l.length) (hl : l.length ≤ 65536) :
    Calls Tryz.prog 67 #[.slice p l.length c, .int .u32 addr, .int .i64 (n : Nat)] W fun e w => e = .returned (.int .u32 ((le ((l.drop at_).take n) : Nat) : Int)) ∧ w = W := by
  obtain ⟨g, off, rfl, hc⟩ := mem_open hA (by omega)
  have hlen : ((l.drop at_).take n).length = n := by rw [List.length_take, List.length_drop]; omega
  have hb2 : ∀ x ∈ (l.drop at_).take n, x < 256 := fun x hx => hb x (List.mem_of_mem_drop (List.mem_of_mem_take hx))
  refine vc67 (some ⟨g, off, none⟩) l.length c addr (n : Nat) ?_
  rintro z rfl
  rw [w64 (by omega) (by omega)]
  refine ⟨fun z v w => ∃ m : Nat, z = (m : Int) - 1 ∧ m ≤ n ∧ v = ((le (((l.drop at_).take n).drop m) : Nat) : Int) ∧ w = W, fun z _ _ => (z + 1).toNat, ⟨n, rfl, Nat.le_refl _, ?_, rfl⟩, fun _ => ?_⟩
  · rw [List.drop_eq_nil_of_le (by omega)]; rfl
  rintro k v w2 ⟨m, rfl, hm, rfl, rfl⟩
  refine split_of (fun q => ?_) (fun q => ?_)
  · have q := of_decide_eq_true q
    obtain ⟨j, rfl⟩ : ∃ j, m = j + 1 := ⟨m - 1, by omega⟩
    have hj : ((l.drop at_).take n)[j]'(by omega) = l[at_ + j]'(by omega) := by rw [List.getElem_take, List.getElem_drop]
    have hx : l[at_ + j]'(by omega) < 256 := hb _ (List.getElem_mem _)
    have hle : le (((l.drop at_).take n).drop j) = l[at_ + j]'(by omega) + 256 * le (((l.drop at_).take n).drop (j + 1)) := by
      rw [List.drop_eq_getElem_cons (i := j) (by omega), hj]; rfl
    have hlt : le (((l.drop at_).take n).drop (j + 1)) < 16777216 := by
      have h1 := le_lt (l := ((l.drop at_).take n).drop (j + 1)) (fun y hy => hb2 y (List.mem_of_mem_drop hy))
      rw [List.length_drop, hlen] at h1
      exact Nat.lt_of_lt_of_le h1 (show 256 ^ (n - (j + 1)) ≤ 256 ^ 3 from Nat.pow_le_pow_right (by decide) (by omega))
    refine ⟨by decide, ?_⟩
    rintro z2 rfl z3 rfl z4 rfl z5 rfl
    rw [show IntKind.wrap .i64 addr = addr from w64 (by omega) (by omega), show IntKind.wrap .i64 (addr - 65536) = (at_ : Int) by rw [w64 (by omega) (by omega)]; omega,
      show IntKind.wrap .i64 ((at_ : Int) + (((j + 1 : Nat) : Int) - 1)) = ((at_ + j : Nat) : Int) by rw [w64 (by omega) (by omega)]; omega]
    refine ⟨by omega, adr_some ⟨((l[at_ + j]'(by omega) : Nat) : Int), ?_, ?_⟩⟩
    · rw [ix1]; exact hc (at_ + j) (by omega)
    rintro z7 rfl z8 rfl z9 rfl
    rw [or_low hlt hx, ← hle, w64 (by omega) (by omega)]
    exact ⟨⟨j, by omega, by omega, rfl, rfl⟩, by show (((j + 1 : Nat) : Int) - 1 - 1 + 1).toNat < (((j + 1 : Nat) : Int) - 1 + 1).toNat; omega⟩
  · have q := of_decide_eq_false q
    obtain rfl : m = 0 := by omega
    exact ⟨rfl, rfl⟩
theorem rwrite_any {p : Option Addr} {c n at_ d : Nat} {l : List Nat} {addr : Int} (hA : (memA p c l).at_ W) (ha : addr = 65536 + at_) (hn1 : 1 ≤ n) (hn : n ≤ 4) (hk : at_ + n ≤ l.length) (hl : l.length ≤ 65536) (hd : d < 4294967296) :
    Calls Tryz.prog 68 #[.slice p l.length c, .int .u32 addr, .int .i64 (n : Nat), .int .u32 (d : Nat)] W fun e w => e = .returned (.tuple #[]) ∧ Sep.Post (memA p c l) W (memA p c (wrN l at_ d n)) w := by
  obtain ⟨g, off, rfl, -⟩ := mem_open hA (by omega)
  refine vc68 (some ⟨g, off, none⟩) l.length c addr (n : Nat) (d : Nat) ⟨fun x w => ∃ m : Nat, x = m ∧ m ≤ n ∧ Sep.Post (memA (some ⟨g, off, none⟩) c l) W (memA (some ⟨g, off, none⟩) c (wrN l at_ d m)) w, fun x _ => n - x.toNat, ⟨0, rfl, by omega, hA, XTouch.refl _ _, fun q h => .inl h⟩, fun _ => ?_⟩
  rintro x w3 ⟨m, rfl, hm, hP⟩
  refine split_of (fun q => ?_) (fun q => ?_)
  · have q := of_decide_eq_true q
    rintro z rfl z2 rfl z3 rfl z4 rfl
    rw [show IntKind.wrap .i64 addr = addr from w64 (by omega) (by omega), show IntKind.wrap .i64 (addr - 65536) = (at_ : Int) by rw [w64 (by omega) (by omega)]; omega,
      show IntKind.wrap .i64 ((at_ : Int) + (m : Int)) = ((at_ + m : Nat) : Int) by rw [w64 (by omega) (by omega)]; omega, show (8 * (m : Int)) = ((8 * m : Nat) : Int) by omega, Bits.n64 (by omega)]
    refine ⟨by omega, ?_⟩
    rintro z5 rfl z6 rfl
    rw [Int.toNat_natCast (8 * m), Nat.min_eq_left (by show 8 * m ≤ 32; omega), Bits.shr, Bits.m8]
    refine ⟨by omega, adr_some ?_⟩
    rw [ix1]
    have hs : Sl w3 5 1 (.slice (some ⟨g, off, none⟩) (wrN l at_ d m).length c) (wrN l at_ d m).length (u8n (wrN l at_ d m)) := hP.1
    obtain ⟨ao, cap, hv, hl2, -, -, -, hc⟩ := hs.open1
    cases hv
    obtain ⟨g', off', hpp, -, hc⟩ := hc (by rw [wrN_len]; omega)
    cases hpp
    have hc1 := hc (at_ + m) (by rw [wrN_len]; omega)
    refine ⟨⟨_, hc1.1.trans (List.getElem?_eq_getElem (by rw [u8n_length, wrN_len]; omega))⟩, hc1.2, ?_⟩
    rintro w4 rfl z7 rfl
    rw [w64 (by omega) (by omega)]
    refine ⟨⟨m + 1, by omega, by omega, ?_⟩, by show n - ((m : Int) + 1).toNat < n - (m : Int).toNat; omega⟩
    have hs2 := hs.set1 (at_ + m) (by rw [wrN_len]; omega) (.int .u8 ((d / 2 ^ (8 * m) % 256 : Nat) : Int))
    refine ⟨?_, hP.2.1.trans ((XTouch.refl (fun q => q = g) w3).setCell (p := ⟨g, off + (at_ + m), none⟩) (.inl rfl) _) (fun q _ e => ?_), fun q e => .inl ?_⟩
    · show Sl _ 5 1 (.slice (some ⟨g, off, none⟩) (wrN l at_ d (m + 1)).length c) (wrN l at_ d (m + 1)).length (u8n (wrN l at_ d (m + 1)))
      have e1 : wrN l at_ d (m + 1) = (wrN l at_ d m).set (at_ + m) (d / 2 ^ (8 * m) % 256) := rfl
      rw [e1, List.length_set]
      have e2 : u8n ((wrN l at_ d m).set (at_ + m) (d / 2 ^ (8 * m) % 256)) = (u8n (wrN l at_ d m)).set (at_ + m) (.int .u8 ((d / 2 ^ (8 * m) % 256 : Nat) : Int)) := by unfold u8n; rw [List.map_set]
      rw [e2]
      exact hs2
    · show (Value.slice (some ⟨g, off, none⟩) l.length c).ownBlock = some q
      rw [e]; rfl
    · exact e
  · have q := of_decide_eq_false q
    obtain rfl : m = n := by omega
    exact ⟨rfl, hP⟩
/-! ### the atomic operation -/
theorem qswap_q (op : Int) {a b : Int} (ha : U32 a) (hb : U32 b) (w : World) : Calls Tryz.prog 91 #[.int .i64 op, .int .u32 a, .int .u32 b] w fun e w' => e = .returned (.int .u32 (alu.swapF op a b)) ∧ Hush w w' := alu.rswap_any op a b ha.1 ha.2 hb.1 hb.2 w
theorem ratomic_any {p : Option Addr} {c at_ : Nat} {q : Rq} (hA : (memA p c M.data).at_ W) (hbt : ∀ x ∈ M.data, x < 256) (hl : M.data.length ≤ 65536) (h1 : 1 ≤ q.op) (h67 : q.op ≤ 67) (h6 : classP q.op = 6) (ha : q.addr = 65536 + at_) (hk : at_ + 4 ≤ M.data.length) (h4 : q.size = 4) (hd : U32 q.data) :
    Calls Tryz.prog 69 #[.slice p M.data.length c, .agg q.vs, .int .u32 M.res] W fun e w => e = .returned (.tuple #[.int .u32 (M.rd q), .bool (M.acc q).held, .int .u32 (M.acc q).res]) ∧
      Sep.Post (memA p c M.data) W (memA p c (if (M.acc q).write then wrN M.data (MS.at q) (M.acc q).v.toNat q.size.toNat else M.data)) w := by
  have hat : MS.at q = at_ := by unfold MS.at; omega
  have hrd : M.rd q = ((le ((M.data.drop at_).take 4) : Nat) : Int) := by unfold MS.rd; rw [hat, h4]; rfl
  have hru : U32 (M.rd q) := by
    rw [hrd]
    have h := le_lt (l := (M.data.drop at_).take 4) (fun x hx => hbt x (List.mem_of_mem_drop (List.mem_of_mem_take hx)))
    rw [List.length_take, List.length_drop, Nat.min_eq_left (by omega)] at h
    exact ⟨by omega, by omega⟩
  obtain ⟨r1, r2, r3⟩ := row_ix h1 h67
  refine vc69 p M.data.length c q.vs M.res ((St.begin hA).al fun k w2 H => H.calln (qrows_n w2) fun kr w3 H => ⟨_, _, _, rfl, _, H.ld 1 rfl rfl, H.callp (rread_any (n := 4) (H.nth 0 rfl) hbt ha (by decide) (by decide) hk hl) ⟨_, rfl, _, H.ld 1 rfl rfl, ?_⟩⟩)
  rw [r1, ← hrd]
  rintro z rfl
  refine ⟨r2, adr_some ⟨(rowAt q.op).1, ?_, ?_⟩⟩
  · rw [r3, Nat.zero_add]; exact (rowsAt_blk (H.blk 2 rfl) q.op h1 h67).1
  rw [is_lrw h1 h67, is_scw h1 h67]
  have hn4 : classP q.op ≠ 4 := by omega
  refine split_of (fun t => ?_) (fun t => ?_)
  · have t := of_decide_eq_true t
    have e : M.acc q = ⟨false, alu.swapF q.op (M.rd q) q.data, false, q.addr⟩ := by unfold MS.acc; rw [if_neg hn4, if_pos h6, if_pos t]
    rw [e]
    refine ⟨_, H.ld 1 rfl rfl, H.drN fun w5 H => ⟨rfl, H.post 0 rfl⟩⟩
  have t := of_decide_eq_false t
  refine split_of (fun t2 => ?_) (fun t2 => ?_)
  · have t2 := of_decide_eq_true t2
    have e : M.acc q = ⟨decide (M.res = q.addr), alu.swapF q.op (M.rd q) q.data, decide (M.res = q.addr), 0⟩ := by unfold MS.acc; rw [if_neg hn4, if_pos h6, if_neg t, if_pos t2]
    have e2 : alu.swapF q.op (M.rd q) q.data = q.data := by rw [t2]; rfl
    rw [e, e2]
    refine ⟨_, H.ld 1 rfl rfl, split_of (fun t3 => ?_) (fun t3 => ?_)⟩
    · have t3 := beq_i t3
      obtain ⟨d, hdd⟩ : ∃ d : Nat, q.data = d := ⟨q.data.toNat, by have := hd.1; omega⟩
      rw [decide_eq_true t3, t3]
      refine ⟨_, H.ld 1 rfl rfl, _, H.ld 1 rfl rfl, ?_⟩
      show Calls Tryz.prog 68 #[.slice p M.data.length c, .int .u32 q.addr, .int .i64 4, .int .u32 q.data] _ _
      rw [hdd]
      refine H.call 0 rfl (rwrite_any (n := 4) (H.nth 0 rfl) ha (by decide) (by decide) hk hl (by have := hd.2; omega)) fun w6 H => ⟨rfl, by rw [beq_self_eq_true], ?_⟩
      rw [hat, h4]
      exact H.post 0 rfl
    · have t3 := bne_i t3
      rw [decide_eq_false t3]
      exact ⟨by rw [beq_eq_false_iff_ne.2 t3], H.post 0 rfl⟩
  have t2 := of_decide_eq_false t2
  have e : M.acc q = ⟨true, alu.swapF q.op (M.rd q) q.data, false, M.res⟩ := by unfold MS.acc; rw [if_neg hn4, if_pos h6, if_neg t, if_neg t2]
  have hsu := swapF_u (op := q.op) hru hd
  obtain ⟨d, hdd⟩ : ∃ d : Nat, alu.swapF q.op (M.rd q) q.data = d := ⟨(alu.swapF q.op (M.rd q) q.data).toNat, by have := hsu.1; omega⟩
  rw [e, hdd]
  refine ⟨_, H.ld 1 rfl rfl, _, H.ld 1 rfl rfl, H.callq (qswap_q q.op hru hd _) fun w6 H => ⟨_, rfl, _, H.ld 1 rfl rfl, ?_⟩⟩
  rw [hdd]
  refine H.call 0 rfl (rwrite_any (n := 4) (H.nth 0 rfl) ha (by decide) (by decide) hk hl (by have := hsu.2; omega)) fun w7 H => ⟨rfl, rfl, ?_⟩
  rw [hat, h4]
  exact H.post 0 rfl
end Go.Proofs.YtcpmgklhfpcaeaaGreatDoor
/- The document's machine: a step. Conditions: the code it reads. -/
namespace Go.Proofs.YtcpmgklhfpcaeaaGreatDoor
open Go.RowKit Go.XHeap Go.Sx Go.Sep
set_option linter.unusedVariables false
set_option maxRecDepth 100000

/-! ### bytes as a string -/
def strN (l : List Nat) : ByteArray := bstr (l.map fun x => ((x : Nat) : Int))
theorem push_eq (a : ByteArray) (b : UInt8) : a.push b = a ++ ByteArray.empty.push b := by
  apply ByteArray.ext
  simp [ByteArray.data_append, ByteArray.data_push]
theorem strN_snoc (l : List Nat) (x : Nat) : strN (l ++ [x]) = strN l ++ strN [x] := by
  unfold strN bstr
  rw [List.map_append, List.foldl_append]
  exact push_eq _ _
theorem foldl_size : ∀ (l : List Int) (r : ByteArray), (l.foldl (fun r n => r.push (UInt8.ofNat n.toNat)) r).size = r.size + l.length
  | [], r => rfl
  | x :: l, r => by
    rw [List.foldl_cons, foldl_size l, ByteArray.size_push, List.length_cons]
    omega
theorem strN_size (l : List Nat) : (strN l).size = l.length := by
  unfold strN bstr
  rw [foldl_size, List.length_map]
  show 0 + l.length = l.length
  omega
variable {W w : World} {M : MS} {L : List Asn} {B : Nat} {W0 : World} {Mo : Nat → Prop}
theorem bts_of {p : Option Addr} {c : Nat} {l : List Nat} (hA : (memA p c l).at_ w) : Bts w p l.length (l.map fun x => ((x : Nat) : Int)) := by
  refine ⟨List.length_map _, fun h => ?_⟩
  obtain ⟨g, off, rfl, hc⟩ := mem_open hA h
  refine ⟨g, off, rfl, fun i x hx => ?_⟩
  rw [List.getElem?_map] at hx
  cases hi : l[i]? with
  | none => rw [hi] at hx; cases hx
  | some y =>
    rw [hi] at hx
    cases hx
    obtain ⟨hlt, rfl⟩ := List.getElem?_eq_some_iff.1 hi
    exact hc i hlt
/-! ### the document's machine, by the program's state -/
structure RP where
  b : Nat
  hb : Nat
  cp : Option Addr
  cc : Nat
  dp : Option Addr
  dc : Nat
def RP.root (P : RP) (M : MS) : Array Value := #[.pointer (some ⟨P.hb, 0, none⟩), .slice P.dp M.data.length P.dc, .string (strN M.out), .bool M.line, .int .u32 M.res]
def rmachL (P : RP) (M : MS) : List Asn := [blk P.b (P.root M) 62, refA P.hb P.cp P.cc M.h, memA P.dp P.dc M.data]
def rmachA (P : RP) (M : MS) : Asn := all (rmachL P M)
variable {P : RP} {M' : MS}
theorem rmach_open (h : (rmachA P M).at_ W) : St W (rmachA P M).own W (rmachL P M ++ []) := (St.begin h).open_
theorem rmach_shut (H : St W (rmachA P M).own w (rmachL P M' ++ L)) : Sep.Post (rmachA P M) W (rmachA P M') w := (St.shut H).post 0 rfl
theorem rroot_ld (H : St W0 Mo w (rmachA P M :: L)) {i : Nat} {v : Value} (h : (P.root M)[i]? = some v) : w.cell? ⟨P.b, i, none⟩ = some v := (rmach_open (H.nth 0 rfl)).ld 0 rfl h
theorem rmach_h {h' : HS} (hA : (rmachA P M).at_ W) (hp : Sep.Post (refA P.hb P.cp P.cc M.h) W (refA P.hb P.cp P.cc h') w) : Sep.Post (rmachA P M) W (rmachA P { M with h := h' }) w :=
  rmach_shut (M' := { M with h := h' }) (L := []) ((rmach_open hA).upd 1 rfl hp)
theorem rmach_d {d : List Nat} (hA : (rmachA P M).at_ W) (hl : d.length = M.data.length) (hp : Sep.Post (memA P.dp P.dc M.data) W (memA P.dp P.dc d) w) : Sep.Post (rmachA P M) W (rmachA P { M with data := d }) w := by
  refine rmach_shut (M' := { M with data := d }) (L := []) ?_
  have H := (rmach_open hA).upd 2 rfl hp
  refine H.conv 0 (A' := blk P.b (P.root { M with data := d }) 62) rfl (fun h => ?_) (fun q h => h)
  unfold RP.root
  rw [hl]
  exact h
theorem rmach_hi (hA : (rmachA P M).at_ W) (hi : ∀ k, (rmachA P M).own k → B ≤ k) : ∀ k, (refA P.hb P.cp P.cc M.h).own k → B ≤ k := fun k h => hi k (owns.nth (L := rmachL P M) 1 rfl h)
/-- a cell of the machine is written -/
theorem rroot_st (H : St W0 Mo w (rmachA P M :: L)) (i : Nat) (hi : i < 5) (v : Value) (M' : MS) (hh : M'.h = M.h) (hd : M'.data = M.data) (hr : (P.root M).setIfInBounds i v = P.root M') {φ : World → Prop} (hq : ∀ w', St W0 Mo w' (rmachA P M' :: L) → φ w') :
    (∃ u, w.cell? ⟨P.b, i, none⟩ = some u) ∧ w.frozen? ⟨P.b, i, none⟩ = false ∧ ∀ w', w' = w.setCell ⟨P.b, i, none⟩ v → φ w' := by
  have H1 : St W0 Mo w (rmachL P M ++ L) := H.open_
  refine H1.st 0 rfl hi fun w' H => hq w' ?_
  have H2 : St W0 Mo w' (rmachL P M' ++ L) := by
    unfold rmachL at H ⊢
    rw [hh, hd, ← hr]
    exact H
  exact H2.shut
structure RIn (B : Nat) (w : World) (P : RP) (M : MS) : Prop where
  ok : M.Ok
  ok2 : M.h.Ok2
  src : Src B w P.cp M.h.code
  own : ∀ k, (rmachA P M).own k → B ≤ k
  ret : M.h.R.ret < 4294967295
  out : M.out.length < 2000
theorem rstep_any (hA : (rmachA P M).at_ W) (hI : RIn B W P M) : Calls Tryz.prog 20 #[.pointer (some ⟨P.b, 0, none⟩)] W fun e w => e = .returned (.tuple #[.agg M.step.1.1.vs, .bool M.step.1.2]) ∧ Sep.Post (rmachA P M) W (rmachA P M.step.2) w := by
  obtain ⟨ho, h2, hs, hi, hr, hout⟩ := hI
  have h32 := ho.h.x32
  have h0 : U32 0 := u32_lit (by decide) (by decide)
  have hi' := rmach_hi hA hi
  refine vc20 P.b 0 ((St.begin hA).al fun k w2 H => ⟨_, rroot_ld H rfl, ptr_some ⟨M.h.halted, ?_, split_of (fun q => ?_) (fun q => ?_)⟩⟩)
  · rw [add_none]
    exact rt_ld (L := [memA P.dp P.dc M.data]) ((rmach_open (H.nth 0 rfl)).tail) h32 0 rfl
  · rintro vs rfl
    refine H.sts0 1 rfl rfl rfl (rt_one noRt) fun w3 H => ⟨_, rfl, H.cells 1 rfl, ?_⟩
    have e : M.step = ((noRt, false), M) := by unfold MS.step; exact if_pos q
    exact ⟨by rw [e]; rfl, by rw [e]; exact H.post 0 rfl⟩
  have q : ¬ M.h.halted = true := by rw [q]; decide
  refine ⟨fun w => (M.line && M.h.intr.1.2) = false ∧ St W (rmachA P M).own w [rmachA P M, blk k noRt.vs 46], ⟨_, rroot_ld H rfl, split_of (fun q1 => ?_) (fun q1 => ⟨by rw [q1]; rfl, H⟩)⟩, fun _ => ?_⟩
  · refine ⟨_, rroot_ld H rfl, (rinterrupt_any ((rmach_open (H.nth 0 rfl)).nth 1 rfl) ho.h h2).mono ?_⟩
    rintro e w4 ⟨rfl, hp⟩
    have H := H.upd 0 rfl (rmach_h (H.nth 0 rfl) hp)
    refine ⟨_, _, rfl, H.al fun k3 w5 H => H.sts0 2 rfl rfl rfl (rt_one _) fun w6 H => split_of (fun q2 => ?_) (fun q2 => ?_)⟩
    · refine ⟨_, rfl, H.cells 2 rfl, H.sts0 1 rfl rfl rfl (rt_one _) fun w7 H => ⟨_, rfl, H.cells 1 rfl, ?_⟩⟩
      have e : M.step = ((M.h.intr.1.1, true), { M with h := M.h.intr.2 }) := by
        unfold MS.step
        exact (if_neg q).trans (if_pos (by rw [q1, q2]; rfl))
      exact ⟨by rw [e], by rw [e]; exact H.post 0 rfl⟩
    · have e : M.h.intr.2 = M.h := by
        revert q2
        unfold HS.intr
        split
        · intro h; cases h
        · intro; rfl
      rw [e] at H
      exact ⟨by rw [q2, Bool.and_false], H.pick [0, 1]⟩
  rintro w8 ⟨q1, H⟩
  have q1' : ¬ (M.line && M.h.intr.1.2) = true := by rw [q1]; decide
  refine ⟨_, rroot_ld H rfl, (rask_any ((rmach_open (H.nth 0 rfl)).nth 1 rfl) ho.h (hs.st H hi) hi').mono ?_⟩
  rintro e w9 ⟨rfl, hp⟩
  have H := H.upd 0 rfl (rmach_h (H.nth 0 rfl) hp)
  have H : St W (rmachA P M).own w9 [rmachA P M, blk k noRt.vs 46] := H
  refine ⟨_, rfl, H.al fun k6 w10 H => H.sts0 2 rfl rfl rfl (rq_one _) fun w11 H => ⟨_, H.ld 2 rfl rfl, H.callq (class_any M.h.ask.op _) fun w12 H => ⟨_, rfl, ?_⟩⟩⟩
  have H : St W (rmachA P M).own w12 [rmachA P M, blk k noRt.vs 46, blk k6 M.h.ask.vs 40] := H
  refine ⟨fun v held w => ∃ M2 : MS, M2.h = M.h ∧ U32 v ∧ M.step = (((M.h.done v held).1, true), { M2 with h := (M.h.done v held).2 }) ∧ St W (rmachA P M).own w [rmachA P M2, blk k noRt.vs 46, blk k6 M.h.ask.vs 40], ?_, fun _ => ?_⟩
  · refine ⟨_, H.ld 2 rfl rfl, split_of (fun q2 => ?_) (fun q2 => ?_)⟩
    · have q2 := beq_i q2
      refine ⟨M, rfl, h0, ?_, H⟩
      unfold MS.step
      exact ((if_neg q).trans (if_neg q1')).trans (if_pos q2)
    have q2 := bne_i q2
    obtain ⟨hasks, eop, -, esz, h1, h67, hcl, -⟩ := ask_of q2
    have ec : classR M.h.ask.op = classP M.h.ask.op := by
      have h := rng_all tab1 (op := M.h.ask.op) (by omega) (by omega)
      simp only [Bool.and_eq_true, decide_eq_true_eq] at h
      rw [show ((M.h.ask.op.toNat - 1 + 1 : Nat) : Int) = M.h.ask.op by omega] at h
      exact h.1
    rw [ec]
    have hda := ho.h.data
    have hlen := ho.len
    have hdat := ho.h.ask_data
    -- an access below the device
    have low : M.h.ask.addr < 131072 → ∃ at_ n : Nat, M.h.ask.addr = 65536 + at_ ∧ M.h.ask.size = n ∧ MS.at M.h.ask = at_ ∧ 1 ≤ n ∧ n ≤ 4 ∧ at_ + n ≤ M.data.length ∧ U32 (M.rd M.h.ask) ∧ U32 M.h.ask.data ∧
        M.step = (((M.h.done (M.rd M.h.ask) (M.acc M.h.ask).held).1, true), { M with h := (M.h.done (M.rd M.h.ask) (M.acc M.h.ask).held).2, res := (M.acc M.h.ask).res, data := if (M.acc M.h.ask).write then wrN M.data (MS.at M.h.ask) (M.acc M.h.ask).v.toNat M.h.ask.size.toNat else M.data }) := by
      intro hlt
      obtain ⟨i0, i1, hsz, hd⟩ := ask_in ho.h q2 hlt
      refine ⟨(M.h.ask.addr - 65536).toNat, M.h.ask.size.toNat, by omega, by omega, rfl, by omega, by omega, by omega, ho.rd M.h.ask hsz, hd, ?_⟩
      unfold MS.step
      exact (((if_neg q).trans (if_neg q1')).trans (if_neg q2)).trans (if_neg (by omega))
    refine split_of (fun q3 => ?_) (fun q3 => ?_)
    · -- a load
      have q3 := beq_i q3
      obtain ⟨at_, n, ha, hn, hat, n1, n4, hk, hru, hdu, e⟩ := low (ask_low ho.h q2 (by omega))
      have hac : M.acc M.h.ask = ⟨false, M.h.ask.data, false, M.res⟩ := by unfold MS.acc; exact if_pos q3
      have hrd : M.rd M.h.ask = ((le ((M.data.drop at_).take n) : Nat) : Int) := by unfold MS.rd; rw [hat, hn]; rfl
      refine ⟨_, _, _, rroot_ld H rfl, _, H.ld 2 rfl rfl, _, H.ld 2 rfl rfl, M.rd M.h.ask, fun m => ?_, ?_⟩
      · rw [hn, hrd]
        refine (rread_any ((rmach_open ((H.drewN m).nth 0 rfl)).nth 2 rfl) ho.byte ha n1 n4 hk (by omega)).mono ?_
        rintro e w ⟨rfl, rfl⟩
        exact ⟨rfl, m, rfl⟩
      · refine H.drN fun w14 H => ?_
        refine ⟨M, rfl, hru, ?_, H⟩
        rw [e, hac]
        rfl
    have q3 := bne_i q3
    refine split_of (fun q4 => ?_) (fun q4 => ?_)
    · -- a store
      have q4 := beq_i q4
      refine ⟨_, H.ld 2 rfl rfl, split_of (fun q5 => ?_) (fun q5 => split_of (fun _ => ?_) (fun q6 => absurd q4 (bne_i q6)))⟩
      · -- to the device
        have q5 := of_decide_eq_true q5
        have hn : (strN [(M.h.ask.data % 256).toNat]).size = 1 := strN_size _
        have hz : IntKind.wrap .u8 M.h.ask.data = (((M.h.ask.data % 256).toNat : Nat) : Int) := by rw [Go.Sx.w8]; omega
        have fin : ∀ w, St W (rmachA P M).own w [rmachA P M, blk k noRt.vs 46, blk k6 M.h.ask.vs 40] → ((∃ u, w.cell? ⟨P.b, 0 + 2, none⟩ = some u) ∧ w.frozen? ⟨P.b, 0 + 2, none⟩ = false ∧ ∀ w', w' = w.setCell ⟨P.b, 0 + 2, none⟩ (.string (strN M.out ++ strN [(M.h.ask.data % 256).toNat])) →
            ∃ M2 : MS, M2.h = M.h ∧ U32 0 ∧ M.step = (((M.h.done 0 false).1, true), { M2 with h := (M.h.done 0 false).2 }) ∧ St W (rmachA P M).own w' [rmachA P M2, blk k noRt.vs 46, blk k6 M.h.ask.vs 40]) := by
          intro w H
          refine rroot_st H 2 (by decide) _ { M with out := M.out ++ [(M.h.ask.data % 256).toNat] } rfl rfl ?_ fun w' H => ⟨{ M with out := M.out ++ [(M.h.ask.data % 256).toNat] }, rfl, h0, ?_, H⟩
          · unfold RP.root
            rw [strN_snoc]
            rfl
          · unfold MS.step
            exact (((if_neg q).trans (if_neg q1')).trans (if_neg q2)).trans (if_pos q5)
        have one : ∀ {w : World} {k8 : Nat} {L : List Asn}, St W (rmachA P M).own w (rmachA P M :: blk k noRt.vs 46 :: blk k6 M.h.ask.vs 40 :: blk k8 #[.int .u8 (IntKind.wrap .u8 M.h.ask.data)] 5 :: L) → Bts w (some ⟨k8, 0, none⟩) 1 ([(M.h.ask.data % 256).toNat].map fun x => ((x : Nat) : Int)) := by
          intro w k8 L H
          refine ⟨rfl, fun _ => ⟨k8, 0, rfl, fun i x hx => ?_⟩⟩
          match i, hx with
          | 0, hx =>
            cases hx
            show w.cell? ⟨k8, 0, none⟩ = some (.int .u8 (((M.h.ask.data % 256).toNat : Nat) : Int))
            rw [← hz]
            exact H.ld 3 rfl rfl
        have hsz : ((((strN M.out).size + (strN [(M.h.ask.data % 256).toNat]).size : Nat)) : Int) ≤ 9223372036854775807 := by rw [strN_size, hn]; omega
        refine H.dr fun w15 H => ⟨_, H.ld 2 rfl rfl, ?_⟩
        rintro z rfl
        refine ⟨⟨_, rroot_ld H rfl, Below.refl _ _, H.al fun k8 w16 H => ⟨_, one H, hsz, ?_⟩⟩, H.al fun k8 w16 H => ⟨⟨_, rroot_ld H rfl, _, one H, hsz, ?_⟩, _, one H, _, rroot_ld H rfl, hsz, ?_⟩⟩
        all_goals
          rintro s rfl
          exact fin _ (H.pick [0, 1, 2])
      · -- to memory
        have q5 := of_decide_eq_false q5
        obtain ⟨at_, n, ha, hn, hat, n1, n4, hk, hru, hdu, e⟩ := low (by omega)
        have hac : M.acc M.h.ask = ⟨true, M.h.ask.data, false, M.res⟩ := by
          have c4 : ¬ classP M.h.ask.op = 4 := q3
          have c6 : ¬ classP M.h.ask.op = 6 := by rw [q4]; decide
          unfold MS.acc; exact (if_neg c4).trans (if_neg c6)
        obtain ⟨d, hd⟩ : ∃ d : Nat, M.h.ask.data = d := ⟨M.h.ask.data.toNat, by have := hdu.1; omega⟩
        refine H.dr fun w15 H => ⟨_, _, _, rroot_ld H rfl, _, H.ld 2 rfl rfl, _, H.ld 2 rfl rfl, _, H.ld 2 rfl rfl, ?_⟩
        rw [hn, hd]
        refine (rwrite_any (p := P.dp) (c := P.dc) (l := M.data) ((rmach_open (H.nth 0 rfl)).nth 2 rfl) ha n1 n4 hk (by omega) (by have := hdu.2; omega)).mono ?_
        rintro e' w16 ⟨rfl, hp⟩
        have H := H.upd 0 rfl (rmach_d (H.nth 0 rfl) (wrN_len _ _ _ _) hp)
        refine ⟨rfl, { M with data := wrN M.data at_ d n }, rfl, h0, ?_, H⟩
        rw [e, hac, store_done ho.h h2 q2 q4 (M.rd M.h.ask) 0 false false, hat, hn, hd]
        rfl
    · -- an atomic operation
      have q4 := bne_i q4
      have h6 : classP M.h.ask.op = 6 := (hcl.resolve_left q3).resolve_left q4
      refine split_of (fun q6 => absurd (beq_i q6) q4) (fun _ => ?_)
      obtain ⟨at_, n, ha, hn, hat, n1, n4, hk, hru, hdu, e⟩ := low (ask_low ho.h q2 q4)
      have hs4 : M.h.ask.size = 4 := by rw [esz]; exact size6 h1 h67 (by rw [← eop]; exact h6)
      refine H.dr fun w15 H => ⟨_, _, _, rroot_ld H rfl, _, rfl, H.cells 2 rfl, _, rroot_ld H rfl, ?_⟩
      refine (ratomic_any (M := M) ((rmach_open (H.nth 0 rfl)).nth 2 rfl) ho.byte (by omega) (by omega) (by omega) h6 ha (by omega) hs4 hdu).mono ?_
      rintro e' w16 ⟨rfl, hp⟩
      have H := H.upd 0 rfl (rmach_d (H.nth 0 rfl) (by split; exact wrN_len _ _ _ _; rfl) hp)
      refine ⟨_, _, _, rfl, rroot_st H 4 (by decide) _ { M with data := (if (M.acc M.h.ask).write then wrN M.data (MS.at M.h.ask) (M.acc M.h.ask).v.toNat M.h.ask.size.toNat else M.data), res := (M.acc M.h.ask).res } rfl rfl rfl fun w17 H => ?_⟩
      exact ⟨{ M with data := (if (M.acc M.h.ask).write then wrN M.data (MS.at M.h.ask) (M.acc M.h.ask).v.toNat M.h.ask.size.toNat else M.data), res := (M.acc M.h.ask).res }, rfl, hru, e, H⟩
  rintro v held w20 ⟨M2, hh, hv, e, H⟩
  have hA2 := (rmach_open (H.nth 0 rfl)).nth 1 rfl
  rw [hh] at hA2
  refine ⟨_, rroot_ld H rfl, (rdo_any hA2 ho.h h2 (hs.st H hi) hi' hr hv held).mono ?_⟩
  rintro e' w21 ⟨rfl, hp⟩
  rw [← hh] at hp
  have H := H.upd 0 rfl (rmach_h (H.nth 0 rfl) hp)
  refine ⟨_, rfl, H.al fun k8 w22 H => H.sts0 3 rfl rfl rfl (rt_one _) fun w23 H => ⟨_, rfl, H.cells 3 rfl, H.sts0 1 rfl rfl rfl (rt_one _) fun w24 H => ⟨_, rfl, H.cells 1 rfl, ?_⟩⟩⟩
  refine ⟨by rw [e], ?_⟩
  rw [e]
  have H2 := H.post 0 rfl
  rw [hh] at H2
  exact H2
end Go.Proofs.YtcpmgklhfpcaeaaGreatDoor
/- The law's small functions, the machine's small methods, the document's NewMachine. Conditions: the parameters as they are. -/
namespace Go.Proofs.YtcpmgklhfpcaeaaGreatDoor
open Go.RowKit Go.XHeap Go.Sx Go.Sep
set_option linter.unusedVariables false
set_option maxRecDepth 100000

variable {W w : World} {g : HP} {b cc : Nat} {cp : Option Addr} {S : HS} {M : MS} {P : MP} {L : List Asn} {Mo : Nat → Prop} {W0 : World}
theorem hcsr_any (hA : (hartA g S).at_ W) (n : Int) : Calls Tryz.prog 70 #[.pointer (some ⟨g.b, 0, none⟩), .int .i64 n] W fun e w => e = .returned (.tuple #[.int .u32 (S.R.get n), .bool (RS.has n)]) ∧ w = W := by
  have H := hart_open hA
  refine vc70 g.b 0 n ⟨_, H.ld 0 rfl ((root_at 0).trans rfl), (get_any (H.nth 1 rfl) n).mono ?_⟩
  rintro e w ⟨rfl, rfl⟩
  exact ⟨_, _, rfl, rfl, rfl⟩
theorem csrs_any (H : St W0 Mo W (hartA g S :: refA b cp cc S :: L)) (ho : S.Ok) : Calls Tryz.prog 25 #[.pointer (some ⟨g.b, 0, none⟩), .pointer (some ⟨b, 0, none⟩)] W fun e w => e = .returned (.bool true) ∧ w = W := by
  have both : ∀ (n : Int) (Q : Prop) (R : World → Prop), R W → Calls Tryz.prog 70 #[.pointer (some ⟨g.b, 0, none⟩), .int .i64 n] W fun e w3 => ∃ (z4 : Int) (t : Bool), e = .returned (.tuple #[.int .u32 z4, .bool t]) ∧
      Calls Tryz.prog 71 #[.pointer (some ⟨b, 0, none⟩), .int .i64 n] w3 fun e2 w4 => ∃ (z5 : Int) (t2 : Bool), e2 = .returned (.tuple #[.int .u32 z5, .bool t2]) ∧
        Sx.split (z4 != z5) (Ending.returned (.bool false) = .returned (.bool true) ∧ w4 = W) (Sx.split (!t == t2) (Ending.returned (.bool false) = .returned (.bool true) ∧ w4 = W) (R w4)) := by
    intro n Q R hR
    refine (hcsr_any (H.nth 0 rfl) n).mono ?_
    rintro e w3 ⟨rfl, rfl⟩
    refine ⟨_, _, rfl, (rcsr_any (H.nth 1 rfl) ho n).mono ?_⟩
    rintro e w4 ⟨rfl, rfl⟩
    exact ⟨_, _, rfl, split_of (fun t => absurd rfl (bne_t t)) fun _ => split_of (fun t => by cases h : RS.has n <;> rw [h] at t <;> cases t) fun _ => hR⟩
  refine vc25 g.b 0 b 0 ⟨fun x w => ∃ j : Nat, x = j ∧ j ≤ 4096 ∧ w = W, fun x _ => 4096 - x.toNat, ⟨0, rfl, by decide, rfl⟩, fun _ => ?_⟩
  rintro x w2 ⟨j, rfl, hj, rfl⟩
  refine split_of (fun q => ?_) (fun q => ⟨rfl, rfl⟩)
  have q := of_decide_eq_true q
  have next : ∀ w3, w3 = w2 → ∀ z : Int, z = IntKind.wrap .i64 ((j : Int) + 1) → (∃ j : Nat, z = j ∧ j ≤ 4096 ∧ w3 = w2) ∧ 4096 - z.toNat < 4096 - (j : Int).toNat := by
    rintro w3 rfl z rfl
    rw [w64 (by omega) (by omega)]
    exact ⟨⟨j + 1, by omega, by omega, rfl⟩, by omega⟩
  refine ⟨by decide, ?_⟩
  rintro z rfl
  refine split_of (fun _ => ⟨by decide, ?_⟩) (fun _ => both j True (fun w => ∀ z : Int, z = IntKind.wrap .i64 ((j : Int) + 1) → (∃ j : Nat, z = j ∧ j ≤ 4096 ∧ w = w2) ∧ 4096 - z.toNat < 4096 - (j : Int).toNat) (next _ rfl))
  rintro z2 rfl
  exact split_of (fun _ => next _ rfl) (fun _ => both j True (fun w => ∀ z : Int, z = IntKind.wrap .i64 ((j : Int) + 1) → (∃ j : Nat, z = j ∧ j ≤ 4096 ∧ w = w2) ∧ 4096 - z.toNat < 4096 - (j : Int).toNat) (next _ rfl))
/-! ### bytes in memory -/
theorem mem_set {g0 off c i : Nat} {l : List Nat} (hA : (memA (some ⟨g0, off, none⟩) c l).at_ w) (hi : i < l.length) (y : Nat) : Sep.Post (memA (some ⟨g0, off, none⟩) c l) w (memA (some ⟨g0, off, none⟩) c (l.set i y)) (w.setCell ⟨g0, off + i, none⟩ (.int .u8 (y : Nat))) := by
  have hs : Sl w 5 1 (.slice (some ⟨g0, off, none⟩) l.length c) l.length (u8n l) := hA
  have hs2 := hs.set1 i hi (.int .u8 (y : Nat))
  refine ⟨?_, ((XTouch.refl (fun q => q = g0) w).setCell (p := ⟨g0, off + i, none⟩) (.inl rfl) _).mono (fun q _ e => by rw [e]; rfl), fun q e => .inl ?_⟩
  · show Sl _ 5 1 (.slice (some ⟨g0, off, none⟩) (l.set i y).length c) (l.set i y).length (u8n (l.set i y))
    rw [List.length_set, show u8n (l.set i y) = (u8n l).set i (.int .u8 (y : Nat)) by unfold u8n; rw [List.map_set]]
    exact hs2
  · exact e
theorem mem_bytes {p : Option Addr} {c : Nat} {l : List Nat} (hA : (memA p c l).at_ w) : BytesAt w p l ∧ (p = none ∨ ∃ g off, p = some ⟨g, off, none⟩) := by
  refine ⟨fun i x hx => ?_, ?_⟩
  · obtain ⟨hlt, rfl⟩ := List.getElem?_eq_some_iff.1 hx
    obtain ⟨g, off, rfl, hc⟩ := mem_open hA (by omega)
    exact ⟨g, off, rfl, World.block_lt_of_cell? _ _ (hc i hlt), hc i hlt⟩
  · have hs : Sl w 5 1 (.slice p l.length c) l.length (u8n l) := hA
    rcases hs.2 with ⟨e, -⟩ | ⟨g, off, cap, cur, e, -⟩
    · simp only [Value.slice.injEq] at e; exact .inl e.1
    · simp only [Value.slice.injEq] at e; exact .inr ⟨_, _, e.1⟩
theorem mem_nth {p p2 : Option Addr} {c c2 : Nat} {l : List Nat} {L0 : List Asn} {k : Nat} (H : St W0 Mo W (memA p c l :: L0)) (hk : L0[k]? = some (memA p2 c2 l)) : (memA p2 c2 l).at_ W := H.tail.nth k hk
theorem apart_any {p p2 : Option Addr} {c c2 k : Nat} {l : List Nat} {L0 : List Asn} (hl : l.length ≤ 65536) (H : St W0 Mo W (memA p c l :: L0)) (hk : L0[k]? = some (memA p2 c2 l)) :
    Calls Tryz.prog 22 #[.slice p l.length c, .slice p2 l.length c2] W fun e w => e = .returned (.bool true) ∧ St W0 Mo w L0 := by
  refine vc22 p l.length c p2 l.length c2 (split_of (fun t => absurd rfl (bne_t t)) fun _ => ?_)
  refine ⟨fun x w => ∃ (j : Nat) (l' : List Nat), x = j ∧ j ≤ l.length ∧ l'.length = l.length ∧ (∀ i, j ≤ i → l'[i]? = l[i]?) ∧ St W0 Mo w (memA p c l' :: L0), fun x _ => l.length - x.toNat, ⟨0, l, rfl, Nat.zero_le _, rfl, fun _ _ => rfl, H⟩, fun _ => ?_⟩
  clear H
  rintro x w2 ⟨j, l', rfl, hj, hlen, hsame, H⟩
  refine split_of (fun q => ?_) (fun q => ?_)
  · have q := of_decide_eq_true q
    have hj' : j < l.length := by omega
    obtain ⟨g, off, rfl, hc⟩ := mem_open (H.nth 0 rfl) (by omega)
    obtain ⟨g2, off2, rfl, hc2⟩ := mem_open (H.tail.nth k hk) (by omega)
    have e0 : l'[j]'(by omega) = l[j] := by
      have := hsame j (Nat.le_refl _)
      rw [List.getElem?_eq_getElem (by omega), List.getElem?_eq_getElem hj'] at this
      exact Option.some.inj this
    refine ⟨⟨by omega, q⟩, adr_some ⟨((l'[j]'(by omega) : Nat) : Int), by rw [ix1]; exact hc j (by omega), ⟨by omega, q⟩, adr_some ⟨((l[j]'hj' : Nat) : Int), by rw [ix1]; exact hc2 j hj', H.drN fun w3 H => split_of (fun t => absurd (by rw [e0]) (bne_t t)) fun _ => ?_⟩⟩⟩
    obtain ⟨g', off', e', hc⟩ := mem_open (H.nth 0 rfl) (by omega)
    cases e'
    refine ⟨⟨by omega, q⟩, adr_some ⟨((l'[j]'(by omega) : Nat) : Int), by rw [ix1]; exact hc j (by omega), ?_⟩⟩
    rintro z rfl
    have hz : IntKind.wrap .u8 (((l'[j]'(by omega) : Nat) : Int) + 101) = (((l'[j]'(by omega) + 101) % 256 : Nat) : Int) := by rw [Go.Sx.w8]; omega
    rw [hz]
    have hs : Sl w3 5 1 (.slice (some ⟨g, off, none⟩) l'.length c) l'.length (u8n l') := H.nth 0 rfl
    obtain ⟨ao, cap, hv, -, -, -, -, hcf⟩ := hs.open1
    cases hv
    obtain ⟨g'', off'', e'', -, hcf⟩ := hcf (by omega)
    cases e''
    refine ⟨⟨by omega, q⟩, adr_some ?_⟩
    rw [ix1]
    refine ⟨⟨_, hc j (by omega)⟩, (hcf j (by omega)).2, ?_⟩
    rintro w4 rfl z5 rfl
    rw [w64 (by omega) (by omega)]
    refine ⟨⟨j + 1, l'.set j ((l'[j]'(by omega) + 101) % 256), by omega, by omega, by rw [List.length_set]; exact hlen, fun i hi => ?_, H.upd 0 rfl (mem_set (H.nth 0 rfl) (by omega) _)⟩, by show l.length - ((j : Int) + 1).toNat < l.length - (j : Int).toNat; omega⟩
    rw [List.getElem?_set_ne (by omega)]
    exact hsame i (by omega)
  refine ⟨fun x g n c w => ∃ (m : Nat) (l' : List Nat), x = m ∧ m ≤ 70 ∧ n = l.length + m ∧ l'.length = n ∧ St W0 Mo w (memA g c l' :: L0), fun x _ _ _ _ => 70 - x.toNat, ⟨0, l', rfl, by decide, rfl, hlen, H⟩, fun _ => ?_⟩
  clear H hsame hlen hj q
  rintro x p' n' c' w5 ⟨m, l'', rfl, hm, rfl, hlen, H⟩
  refine split_of (fun q => ?_) (fun q => ?_)
  · have q := of_decide_eq_true q
    refine H.al fun k12 w6 H => ?_
    have hk12 : (memA p' c' l'' :: L0 ++ [blk k12 #[.int .u8 238] 5])[L0.length + 1]? = some (blk k12 #[.int .u8 238] 5) := by simp
    have hm0 : memA p' c' l'' = sl 5 1 (.slice p' (l.length + m) c') (l.length + m) (u8n l'') := by unfold memA; rw [hlen]
    have H0 := H
    rw [hm0] at H0
    refine H0.app 0 (m := 1) (bytes := 1) rfl [.int .u8 238] (.inr ⟨⟨k12, 0, none⟩, rfl, fun j u hj => ?_⟩) rfl (by intro u hu; simp only [List.mem_cons, List.not_mem_nil, or_false] at hu; subst hu; rfl) (by have : maxLen = 2 ^ 63 - 1 := rfl; omega) (by omega) fun p3 c3 w7 H => ?_
    · match j, hj with
      | 0, hj =>
        cases hj
        rw [add_none]
        exact H.ld _ hk12 rfl
    rintro z rfl
    rw [w64 (by omega) (by omega)]
    refine ⟨⟨m + 1, l'' ++ [238], by omega, by omega, by omega, by rw [List.length_append, hlen]; rfl, ?_⟩, by show 70 - ((m : Int) + 1).toNat < 70 - (m : Int).toNat; omega⟩
    have H1 := St.sub (L := sl 5 1 (.slice p3 (l.length + m + 1) c3) (l.length + m + 1) (u8n l'' ++ [.int .u8 238]) :: L0) (L' := [blk k12 #[.int .u8 238] 5]) H
    have e : memA p3 c3 (l'' ++ [238]) = sl 5 1 (.slice p3 (l.length + m + 1) c3) (l.length + m + 1) (u8n l'' ++ [.int .u8 238]) := by
      unfold memA u8n
      rw [List.length_append, hlen, List.map_append]
      rfl
    rw [e]
    exact H1
  · have q := of_decide_eq_false q
    rintro z rfl
    rw [w64 (by omega) (by omega)]
    refine ⟨?_, H.tail⟩
    rw [show (((l.length + m : Nat) : Int) == (l.length : Int) + 70) = true from beq_iff_eq.2 (by omega)]
/-! ### the machine's small methods -/
theorem mline_any (hA : (machA P M).at_ W) (on : Bool) : Calls Tryz.prog 18 #[.pointer (some ⟨P.b, 0, none⟩), .bool on] W fun e w => e = .returned (.tuple #[]) ∧ Sep.Post (machA P M) W (machA P { M with line := on }) w := by
  have H := mach_open hA
  exact vc18 P.b 0 on (H.st 0 rfl (show 3 < 5 by decide) fun w' H => ⟨rfl, mach_shut (M' := { M with line := on }) (L := []) H⟩)
theorem mdata_any (hA : (machA P M).at_ W) (hl : M.data.length ≤ 4096) : Calls Tryz.prog 21 #[.pointer (some ⟨P.b, 0, none⟩)] W fun e w => ∃ z : Option Addr × Nat, e = .returned (.slice z.1 M.data.length z.2) ∧ Sep.Post emp W (memA z.1 z.2 M.data) w := by
  have H := mach_open hA
  obtain ⟨h1, h2⟩ := mem_bytes (H.nth 2 rfl)
  refine vc21 P.b 0 ⟨_, _, _, H.ld 0 rfl rfl, (clone_any h1 h2 hl).mono ?_⟩
  rintro e w ⟨z, rfl, hp⟩
  exact ⟨_, _, _, rfl, z, rfl, hp⟩
theorem mout_any (hA : (machA P M).at_ W) : Calls Tryz.prog 24 #[.pointer (some ⟨P.b, 0, none⟩)] W fun e w => e = .returned (.string (strN M.out)) ∧ w = W := by
  have H := mach_open hA
  exact vc24 P.b 0 ⟨_, _, _, H.ld 0 rfl rfl, _, bts_of (H.nth 3 rfl), rfl, rfl⟩
/-! ### NewMachine -/
theorem u8n_toArray (n : Nat) : madeCells #[.int .u8 0] n = (u8n (List.replicate n 0)).toArray := by
  rw [ints_made]
  unfold ints u8n
  simp
def RNewMIs (cp : Option Addr) (cc : Nat) (code : List Int) (data : List Nat) (W : World) (e : Ending) (w : World) : Prop :=
  if imageOk code.length data.length = false then e = .returned (.tuple #[.pointer none, .int .i64 1]) ∧ w = W
  else ∃ P : RP, P.cp = cp ∧ e = .returned (.tuple #[.pointer (some ⟨P.b, 0, none⟩), .int .i64 0]) ∧ Sep.Post emp W (rmachA P (MS.new code data)) w
theorem rnewm_any {code : List Int} {data : List Nat} {dp : Option Addr} {dc : Nat} (hd : BytesAt W dp data) (hs : dp = none ∨ ∃ g off, dp = some ⟨g, off, none⟩) :
    Calls Tryz.prog 17 #[.slice cp code.length cc, .slice dp data.length dc] W (RNewMIs cp cc code data W) := by
  refine vc17 cp code.length cc dp data.length dc ((rnew_any (cp := cp) (cc := cc) code data.length 0 W).mono ?_)
  intro e w2 hn
  by_cases hi : imageOk code.length data.length = false
  · unfold RNewIs at hn
    rw [if_pos hi] at hn
    obtain ⟨rfl, rfl⟩ := hn
    refine ⟨_, _, rfl, split_of (fun _ => ?_) (fun t => by cases t)⟩
    unfold RNewMIs
    rw [if_pos hi]
    exact ⟨rfl, rfl⟩
  have hi1 : imageOk code.length data.length = true := by simpa using hi
  have hi2 := of_decide_eq_true hi1
  unfold RNewIs at hn
  rw [if_neg hi, if_neg (by decide)] at hn
  obtain ⟨hb, rfl, hp⟩ := hn
  have H := (St.nil W).add hp
  refine ⟨_, _, rfl, split_of (fun t => by cases t) (fun _ => ⟨by omega, H.al fun k w3 H => ?_⟩)⟩
  rw [Int.toNat_natCast, Nat.mul_one, u8n_toArray] at H
  refine ⟨u8n data, by rw [u8n_length, Int.toNat_natCast]; show data.length = min data.length data.length * 1; omega, u8n_one data, ?_, ?_⟩
  · by_cases h0 : data = []
    · left; rw [h0]; rfl
    · right
      rcases hs with rfl | ⟨g0, off0, rfl⟩
      · obtain ⟨x, r, rfl⟩ := List.exists_cons_of_ne_nil h0
        obtain ⟨g, off, e, -⟩ := hd 0 x rfl; cases e
      · refine ⟨⟨_, rfl, fun i u hu => ?_⟩, _, _, rfl, fun j hj => ⟨⟨_, (H.blk 1 rfl).cell' (i := 0 + j) (Array.getElem?_eq_getElem (by simp [u8n_length] at hj ⊢; omega))⟩, (H.blk 1 rfl).frozen _⟩⟩
        unfold u8n at hu
        rw [List.getElem?_map, Option.map_eq_some_iff] at hu
        obtain ⟨x, hx, rfl⟩ := hu
        obtain ⟨g, off, e, hg, hc⟩ := (hd.keep H.touch) i x hx
        cases e
        rw [add_none]
        exact hc
  rintro w4 rfl
  have H := H.wrs 1 rfl 0 (u8n data) (by simp [u8n_length])
  have es : splice (u8n (List.replicate data.length 0)).toArray 0 (u8n data) = (u8n data).toArray := by
    unfold splice u8n
    simp
  rw [es] at H
  have H : St W No (setRow (some ⟨k, 0, none⟩) w3 (u8n data)) [refA hb cp cc (HS.new code data.length 0), blk k (u8n data).toArray 5] := H
  generalize setRow (some ⟨k, 0, none⟩) w3 (u8n data) = w5 at H
  rintro vs rfl
  refine H.al fun k6 w6 H => ?_
  unfold RNewMIs
  rw [if_neg hi]
  rw [Int.toNat_natCast] at H
  refine ⟨⟨k6, hb, cp, cc, some ⟨k, 0, none⟩, data.length⟩, rfl, rfl, ?_⟩
  have H := H.conv 1 (A' := memA (some ⟨k, 0, none⟩) data.length data) rfl (fun h => by
    refine ⟨by rw [u8n_length, Nat.mul_one], .inr ⟨k, 0, data.length, (u8n data).toArray, rfl, h, Nat.le_refl _, ?_, by simp [u8n_length], by rw [Nat.mul_one, List.drop_zero, ← u8n_length data]; exact List.take_length⟩⟩
    have : maxLen = 2 ^ 63 - 1 := rfl
    omega) (fun q h => by
      have h : (Value.slice (some ⟨k, 0, none⟩) data.length data.length).ownBlock = some q := h
      cases h; rfl)
  have H := H.pick [2, 0, 1]
  exact (St.shut (L := rmachL ⟨k6, hb, cp, cc, some ⟨k, 0, none⟩, data.length⟩ (MS.new code data)) (L' := []) H).new 0 rfl
end Go.Proofs.YtcpmgklhfpcaeaaGreatDoor
/- The law ArchSteps, walked. Conditions: the tables and the handle as they are laid, and the parameters as they are. -/
namespace Go.Proofs.YtcpmgklhfpcaeaaGreatDoor
open Go.RowKit Go.XHeap Go.Sx Go.Sep
set_option linter.unusedVariables false
set_option maxRecDepth 100000

variable {W w : World} {M : MS} {P : MP} {R : RP} {L : List Asn} {Mo : Nat → Prop} {W0 : World}
/-! ### what a step keeps -/
theorem step_false (h : M.step.1.2 = false) : M.step.1.1 = noRt := by
  unfold MS.step at h ⊢
  split at h
  · rename_i q; rw [if_pos q]
  split at h
  · cases h
  split at h
  · cases h
  split at h <;> cases h
theorem step_keep {n : Nat} (ho : M.Ok) (h2 : M.h.Ok2) (hr : M.h.R.ret ≤ n) (hn : n < 4294967295) : M.step.2.h.Ok2 ∧ M.step.2.h.R.ret ≤ (n + 1 : Nat) ∧ M.step.2.h.code = M.h.code := by
  have h0 : U32 0 := u32_lit (by decide) (by decide)
  have hret : ∀ (a : Int) (b : Bool), (M.h.done a b).2.R.ret ≤ (n + 1 : Nat) := by
    intro a b
    rcases ret_done (S := M.h) (loaded := a) (held := b) with h | h
    · rw [h]; omega
    · rw [h, wr_id ⟨by have := ho.h.R.ret.1; omega, by omega⟩]; omega
  unfold MS.step
  split
  · exact ⟨h2, by show M.h.R.ret ≤ _; omega, rfl⟩
  split
  · exact ⟨h2.intr ho.h, by show M.h.intr.2.R.ret ≤ _; rw [ret_intr]; omega, intr_code.1⟩
  split
  · exact ⟨h2.done ho.h h0, hret _ _, done_code.1⟩
  split
  · exact ⟨h2.done ho.h h0, hret _ _, done_code.1⟩
  · rename_i hop hlt
    obtain ⟨-, -, hs, hd⟩ := ask_in ho.h hop (by omega)
    exact ⟨h2.done ho.h (ho.rd M.h.ask hs), hret _ _, done_code.1⟩
theorem rt_same1 (ox oy : Operand) (r : Rt) (w : World) : (do eqGuard .neq 43 ox oy (.agg r.vs) (.agg r.vs); binOp .neq 43 (.agg r.vs) (.agg r.vs) : Sem Value).run Tryz.prog w = .ok (.bool false) w := by
  obtain ⟨z, h1, h2⟩ := SEq.struct_run (P := Tryz.prog) (t := 43) (S := [(false, 35, 0), (false, 35, 1), (false, 3, 2), (false, 35, 3), (false, 3, 4), (false, 35, 5), (false, 35, 6)]) (xs := r.vs) (ys := r.vs) (by kernel_rfl) (by kernel_rfl) (by kernel_rfl) (by kernel_rfl) (by
    intro s hs
    simp only [List.mem_cons, List.not_mem_nil, or_false] at hs
    rcases hs with rfl | rfl | rfl | rfl | rfl | rfl | rfl
    · exact ⟨rfl, _, _, rfl, rfl, .inl ⟨.u32, _, Tryz.underlying35, rfl⟩, .inl ⟨.u32, _, Tryz.underlying35, rfl⟩⟩
    · exact ⟨rfl, _, _, rfl, rfl, .inl ⟨.u32, _, Tryz.underlying35, rfl⟩, .inl ⟨.u32, _, Tryz.underlying35, rfl⟩⟩
    · exact ⟨rfl, _, _, rfl, rfl, .inl ⟨.i64, _, Tryz.underlying3, rfl⟩, .inl ⟨.i64, _, Tryz.underlying3, rfl⟩⟩
    · exact ⟨rfl, _, _, rfl, rfl, .inl ⟨.u32, _, Tryz.underlying35, rfl⟩, .inl ⟨.u32, _, Tryz.underlying35, rfl⟩⟩
    · exact ⟨rfl, _, _, rfl, rfl, .inl ⟨.i64, _, Tryz.underlying3, rfl⟩, .inl ⟨.i64, _, Tryz.underlying3, rfl⟩⟩
    · exact ⟨rfl, _, _, rfl, rfl, .inl ⟨.u32, _, Tryz.underlying35, rfl⟩, .inl ⟨.u32, _, Tryz.underlying35, rfl⟩⟩
    · exact ⟨rfl, _, _, rfl, rfl, .inl ⟨.u32, _, Tryz.underlying35, rfl⟩, .inl ⟨.u32, _, Tryz.underlying35, rfl⟩⟩)
  obtain rfl : z = true := h2.2 (fun _ _ => rfl)
  exact SEq.neq_run (by kernel_rfl) h1 ox oy w
/-- both machines, as they stand -/
def Both (W : World) (w : World) (P : MP) (R : RP) (M : MS) : Prop := St W No w [machA P M, rmachA R M]
def XS (M0 : MS) : Option (MP × RP) → List Asn
  | none => []
  | some (P, R) => [machA P M0, rmachA R M0]
/-- Data of the program's machine, held against the document's -/
theorem data_apart {p : Option Addr} {c : Nat} (H : St W0 Mo w (machA P M :: rmachA R M :: memA p c M.data :: L)) (hl : M.data.length ≤ 65536) :
    (∃ (p4 : Option Addr) (n4 c4 : Nat), w.cell? ⟨R.b, 0 + 1, none⟩ = some (.slice p4 n4 c4) ∧ Calls Tryz.prog 22 #[.slice p M.data.length c, .slice p4 n4 c4] w fun e w' => e = .returned (.bool true) ∧ St W0 Mo w' (machA P M :: rmachA R M :: L)) := by
  refine ⟨_, _, _, rroot_ld (H.front 1 rfl) rfl, ?_⟩
  have H1 : St W0 Mo w (rmachA R M :: machA P M :: memA p c M.data :: L) := H.front 1 rfl
  have H2 : St W0 Mo w (rmachL R M ++ machA P M :: memA p c M.data :: L) := H1.open_
  have H3 : St W0 Mo w (memA p c M.data :: (rmachL R M ++ machA P M :: L)) := H2.front 4 rfl
  refine (apart_any (k := 2) hl H3 rfl).mono ?_
  rintro e w' ⟨rfl, H⟩
  exact ⟨rfl, H.shut.front 1 rfl⟩
theorem both_harts (H : St W0 Mo w (machA P M :: rmachA R M :: L)) : St W0 Mo w [hartA P.g M.h, refA R.hb R.cp R.cc M.h] := by
  have H1 : St W0 Mo w (machL P M ++ rmachA R M :: L) := H.open_
  have H2 : St W0 Mo w (rmachA R M :: machL P M) := by
    have := H1.pick [4, 0, 1, 2, 3]
    exact this
  have H3 : St W0 Mo w (rmachL R M ++ machL P M) := H2.open_
  exact H3.pick [4, 1]
set_option maxHeartbeats 1000000 in
theorem steps_ok {cp dp lp : Option Addr} {code lines : List Int} {data : List Nat} {cc dc lc : Nat} (hT : Tabs W.heap.size W) (hE : HErr W) (hsz : 1 ≤ W.heap.size) (hsrc : Src W.heap.size W cp code) (hcu : ∀ v ∈ code, U32 v)
    (hD : BytesAt W dp data) (hdp : dp = none ∨ ∃ g off, dp = some ⟨g, off, none⟩) (hdu : ∀ x ∈ data, x < 256) (hL : IntsAt W lp lines) (hc1 : code.length ≤ 1048576) (hc2 : data.length ≤ 1048576) (hc3 : lines.length ≤ 1048576) (steps : Int) :
    Calls Tryz.prog 4 #[.slice cp code.length cc, .slice dp data.length dc, .slice lp lines.length lc, .int .i64 steps] W fun e w => e = .returned (.bool true) ∧ Hush W w := by
  have tolds : ∀ (n : Int) (w : World), XTouch No W w → Calls Tryz.prog 7 #[errV n] w fun e w' => e = .returned (.int .i64 n) ∧ Hush w w' := fun n w ht => told.told_err n w ((ht.cell (p := ⟨0, 0, none⟩) hsz (fun e => e)).trans hE)
  refine vc4 cp code.length cc dp data.length dc lp lines.length lc steps ?_
  rintro z rfl
  rw [show IntKind.wrap .i64 ((code.length : Int) + 70) = ((code.length + 70 : Nat) : Int) by rw [w64 (by omega) (by omega)]; omega, Int.toNat_natCast, Nat.mul_one]
  refine ⟨by omega, (St.nil W).al fun k w2 H => ?_⟩
  rw [ints_made] at H
  have H : St W No w2 [blk k (ints .u32 (List.replicate (code.length + 70) 0)) 35] := H
  have ul : (u32s code).length = code.length := by unfold u32s; simp
  refine ⟨u32s code, by rw [ul]; show code.length = min code.length (code.length + 70) * 1; omega, u32s_one code, ?_, ?_⟩
  · by_cases h0 : code = []
    · left; rw [h0]; rfl
    · right
      obtain ⟨x0, r0, e0⟩ := List.exists_cons_of_ne_nil h0
      obtain ⟨g0, off0, ecp, -, -⟩ := hsrc.at_ 0 x0 (by rw [e0]; rfl)
      refine ⟨⟨_, ecp, fun i u hu => ?_⟩, _, _, rfl, fun j hj => ⟨⟨_, (H.blk 0 rfl).cell' (i := 0 + j) (Array.getElem?_eq_getElem (by rw [ints_size, List.length_replicate]; omega))⟩, (H.blk 0 rfl).frozen _⟩⟩
      unfold u32s at hu
      rw [List.getElem?_map, Option.map_eq_some_iff] at hu
      obtain ⟨x, hx, rfl⟩ := hu
      obtain ⟨g, off, e, hg, hc⟩ := hsrc.at_ i x hx
      rw [ecp] at e
      cases e
      rw [add_none]
      exact (H.touch.cell (p := ⟨g0, off0 + i, none⟩) hg (fun e => e)).trans hc
  rintro w3 rfl
  have H := H.wrs 0 rfl 0 (u32s code) (by rw [ul, ints_size, List.length_replicate]; omega)
  have es : splice (ints .u32 (List.replicate (code.length + 70) 0)) 0 (u32s code) = ints .u32 (code ++ List.replicate 70 0) := by
    unfold splice ints u32s
    simp
  rw [es] at H
  have H : St W No (setRow (some ⟨k, 0, none⟩) w2 (u32s code)) [blk k (ints .u32 (code ++ List.replicate 70 0)) 35] := H
  generalize setRow (some ⟨k, 0, none⟩) w2 (u32s code) = w3 at H
  rintro z2 rfl
  rw [show IntKind.wrap .i64 ((data.length : Int) + 70) = ((data.length + 70 : Nat) : Int) by rw [w64 (by omega) (by omega)]; omega, Int.toNat_natCast, Nat.mul_one]
  refine ⟨by omega, H.al fun k6 w4 H => ?_⟩
  rw [u8n_toArray] at H
  have H : St W No w4 [blk k (ints .u32 (code ++ List.replicate 70 0)) 35, blk k6 (u8n (List.replicate (data.length + 70) 0)).toArray 5] := H
  refine ⟨u8n data, by rw [u8n_length]; show data.length = min data.length (data.length + 70) * 1; omega, u8n_one data, ?_, ?_⟩
  · by_cases h0 : data = []
    · left; rw [h0]; rfl
    · right
      obtain ⟨x0, r0, e0⟩ := List.exists_cons_of_ne_nil h0
      obtain ⟨g0, off0, edp, -, -⟩ := hD 0 x0 (by rw [e0]; rfl)
      refine ⟨⟨_, edp, fun i u hu => ?_⟩, _, _, rfl, fun j hj => ⟨⟨_, (H.blk 1 rfl).cell' (i := 0 + j) (Array.getElem?_eq_getElem (by simp [u8n_length] at hj ⊢; omega))⟩, (H.blk 1 rfl).frozen _⟩⟩
      unfold u8n at hu
      rw [List.getElem?_map, Option.map_eq_some_iff] at hu
      obtain ⟨x, hx, rfl⟩ := hu
      obtain ⟨g, off, e, hg, hc⟩ := hD i x hx
      rw [edp] at e
      cases e
      rw [add_none]
      exact (H.touch.cell (p := ⟨g0, off0 + i, none⟩) hg (fun e => e)).trans hc
  rintro w5 rfl
  have H := H.wrs 1 rfl 0 (u8n data) (by simp [u8n_length])
  have es : splice (u8n (List.replicate (data.length + 70) 0)).toArray 0 (u8n data) = (u8n (data ++ List.replicate 70 0)).toArray := by
    unfold splice u8n
    simp
  rw [es] at H
  have H : St W No (setRow (some ⟨k6, 0, none⟩) w4 (u8n data)) [blk k (ints .u32 (code ++ List.replicate 70 0)) 35, blk k6 (u8n (data ++ List.replicate 70 0)).toArray 5] := H
  generalize setRow (some ⟨k6, 0, none⟩) w4 (u8n data) = w5 at H
  -- both machines are made
  let M0 := MS.new code data
  refine ⟨fun v p w => (imageOk code.length data.length = false ∧ v = errV 1 ∧ p = none ∧ St W No w [blk k (ints .u32 (code ++ List.replicate 70 0)) 35, blk k6 (u8n (data ++ List.replicate 70 0)).toArray 5]) ∨
    (imageOk code.length data.length = true ∧ ∃ P : MP, v = .nilIface ∧ p = some ⟨P.b, 0, none⟩ ∧ St W No w [blk k (ints .u32 (code ++ List.replicate 70 0)) 35, blk k6 (u8n (data ++ List.replicate 70 0)).toArray 5, machA P (MS.new code data)]), H.dr fun w6 H => ⟨⟨by omega, by omega⟩, ⟨by omega, by omega⟩, ?_⟩, fun _ => ?_⟩
  · rw [Int.toNat_natCast, Int.toNat_natCast]
    have hW : WordsAt w6 (some ⟨k, 0, none⟩) code := by
      intro i x hx
      have hi := (List.getElem?_eq_some_iff.1 hx).1
      have hc : w6.cell? ⟨k, 0 + i, none⟩ = some (.int .u32 x) := (H.blk 0 rfl).cell' (by rw [Nat.zero_add]; exact ints_ok (by rw [List.getElem?_append_left hi]; exact hx))
      exact ⟨k, 0, rfl, World.block_lt_of_cell? _ _ hc, hc⟩
    have hB : BytesAt w6 (some ⟨k6, 0, none⟩) data := by
      intro i x hx
      have hi := (List.getElem?_eq_some_iff.1 hx).1
      have hc : w6.cell? ⟨k6, 0 + i, none⟩ = some (.int .u8 (x : Nat)) := (H.blk 1 rfl).cell' (by rw [Nat.zero_add, List.getElem?_toArray]; exact u8n_get (by rw [List.getElem?_append_left hi]; exact hx))
      exact ⟨k6, 0, rfl, World.block_lt_of_cell? _ _ hc, hc⟩
    refine (new_any (cc := code.length + 70) (dc := data.length + 70) hW hB (.inr ⟨_, _, rfl⟩)).mono ?_
    intro e w7 hn
    unfold NewIs at hn
    by_cases hi : imageOk code.length data.length = false
    · rw [if_pos hi] at hn
      obtain ⟨rfl, rfl⟩ := hn
      exact ⟨_, _, rfl, .inl ⟨hi, rfl, rfl, H⟩⟩
    · rw [if_neg hi] at hn
      obtain ⟨P, rfl, hp⟩ := hn
      exact ⟨_, _, rfl, .inr ⟨by simpa using hi, P, rfl, rfl, H.add hp⟩⟩
  clear H
  intro v x2 w8 hv
  have ht8 : XTouch No W w8 := by rcases hv with ⟨-, -, -, H⟩ | ⟨-, P, -, -, H⟩ <;> exact H.touch
  refine (rnewm_any (cp := cp) (cc := cc) (code := code) (dc := dc) (hD.keep ht8) hdp).mono ?_
  intro e w9 hn
  have key : ∃ (o : Option (MP × RP)) (z3 : Int), x2 = o.map (fun r => (⟨r.1.b, 0, none⟩ : Addr)) ∧ e = .returned (.tuple #[.pointer (o.map fun r => (⟨r.2.b, 0, none⟩ : Addr)), .int .i64 z3]) ∧
      (∀ w, XTouch No W w → Calls Tryz.prog 7 #[v] w fun e w' => e = .returned (.int .i64 z3) ∧ Hush w w') ∧ (∀ r, o = some r → imageOk code.length data.length = true ∧ r.2.cp = cp) ∧
      St W No w9 ([blk k (ints .u32 (code ++ List.replicate 70 0)) 35, blk k6 (u8n (data ++ List.replicate 70 0)).toArray 5] ++ XS (MS.new code data) o) := by
    unfold RNewMIs at hn
    rcases hv with ⟨hi, rfl, rfl, H⟩ | ⟨hi, P, rfl, rfl, H⟩
    · rw [if_pos hi] at hn
      obtain ⟨rfl, rfl⟩ := hn
      exact ⟨none, 1, rfl, rfl, tolds 1, fun r h => (by cases h), H⟩
    · rw [if_neg (by rw [hi]; decide)] at hn
      obtain ⟨R, hcp, rfl, hp⟩ := hn
      exact ⟨some (P, R), 0, rfl, rfl, fun w _ => (told.told_nil w).mono fun e w' h => ⟨h.1, by rw [h.2]; exact XTouch.refl _ _⟩, fun r h => (by cases h; exact ⟨hi, hcp⟩), H.add hp⟩
  clear hv hn
  obtain ⟨o, z3, rfl, rfl, htold, hor, H⟩ := key
  -- what was handed in is written over
  refine ⟨_, _, rfl, fun x w => ∃ (j : Nat) (l : List Int), x = j ∧ j ≤ code.length + 70 ∧ l.length = code.length + 70 ∧ (∀ i, j ≤ i → l[i]? = (code ++ List.replicate 70 0)[i]?) ∧ St W No w ([blk k (ints .u32 l) 35, blk k6 (u8n (data ++ List.replicate 70 0)).toArray 5] ++ XS (MS.new code data) o), fun x _ => code.length + 70 - x.toNat,
    ⟨0, _, rfl, Nat.zero_le _, by simp, fun _ _ => rfl, H⟩, fun _ => ?_⟩
  clear H
  rintro x w10 ⟨j, l, rfl, hj, hlen, hsame, H⟩
  refine split_of (fun q => ?_) (fun q => ?_)
  · have q := of_decide_eq_true q
    have hj' : j < code.length + 70 := by omega
    have hld : ∀ {w : World}, St W No w ([blk k (ints .u32 l) 35, blk k6 (u8n (data ++ List.replicate 70 0)).toArray 5] ++ XS (MS.new code data) o) → w.cell? ⟨k, 0 + (j : Int).toNat * 1, none⟩ = some (.int .u32 (l[j]'(by omega))) := fun H => by
      rw [ix1, Nat.zero_add]
      exact H.ld 0 rfl (ints_ok (List.getElem?_eq_getElem (by omega)))
    have hx := hsame j (Nat.le_refl _)
    rw [List.getElem?_eq_getElem (by omega)] at hx
    refine ⟨fun t w => t = false ∧ St W No w ([blk k (ints .u32 l) 35, blk k6 (u8n (data ++ List.replicate 70 0)).toArray 5] ++ XS (MS.new code data) o), split_of (fun q1 => ?_) (fun q1 => split_of (fun q2 => ?_) (fun q2 => ?_)), fun _ => ?_⟩
    · have q1 := of_decide_eq_true q1
      have hjc : j < code.length := by omega
      rw [List.getElem?_append_left hjc, List.getElem?_eq_getElem hjc] at hx
      obtain ⟨g, off, e, hg, hc⟩ := hsrc.at_ j _ (List.getElem?_eq_getElem hjc)
      refine ⟨⟨by omega, by omega⟩, _, hld H, ⟨by omega, q1⟩, ?_⟩
      rw [e]
      refine adr_some ⟨code[j], ?_, split_of (fun t => absurd (Option.some.inj hx) (bne_t t)) fun _ => split_of (fun t => absurd (of_decide_eq_true t) (by omega)) fun _ => H.drN fun w11 H => ⟨rfl, H⟩⟩
      rw [ix1]
      exact (H.touch.cell (p := ⟨g, off + j, none⟩) hg (fun e => e)).trans hc
    · have q2 := of_decide_eq_true q2
      rw [List.getElem?_append_right (by omega), List.getElem?_replicate, if_pos (by omega)] at hx
      refine ⟨⟨by omega, by omega⟩, _, hld H, H.drN fun w11 H => ⟨?_, H⟩⟩
      rw [Option.some.inj hx]; rfl
    · exact H.drN fun w11 H => ⟨rfl, H⟩
    rintro t w16 ⟨rfl, H⟩
    refine split_of (fun t => by cases t) (fun _ => ⟨⟨by omega, by omega⟩, ?_⟩)
    rw [ix1, Nat.zero_add]
    refine H.st 0 rfl (by rw [ints_size]; omega) fun w17 H => ?_
    rintro z rfl
    rw [w64 (by omega) (by omega)]
    refine ⟨⟨j + 1, l.set j 19, by omega, by omega, by rw [List.length_set]; exact hlen, fun i hi => ?_, ?_⟩, by show code.length + 70 - ((j : Int) + 1).toNat < code.length + 70 - (j : Int).toNat; omega⟩
    · rw [List.getElem?_set_ne (by omega)]; exact hsame i (by omega)
    · rw [← ints_set]; exact H
  clear hsame hj q
  refine ⟨fun x w => ∃ (j : Nat) (l2 : List Nat), x = j ∧ j ≤ data.length + 70 ∧ l2.length = data.length + 70 ∧ (∀ i, j ≤ i → l2[i]? = (data ++ List.replicate 70 0)[i]?) ∧ St W No w ([blk k (ints .u32 l) 35, blk k6 (u8n l2).toArray 5] ++ XS (MS.new code data) o), fun x _ => data.length + 70 - x.toNat,
    ⟨0, _, rfl, Nat.zero_le _, by simp, fun _ _ => rfl, H⟩, fun _ => ?_⟩
  clear H
  rintro x w18 ⟨j, l2, rfl, hj, hlen2, hsame, H⟩
  refine split_of (fun q => ?_) (fun q => ?_)
  · have q := of_decide_eq_true q
    have hj' : j < data.length + 70 := by omega
    have hld : ∀ {w : World}, St W No w ([blk k (ints .u32 l) 35, blk k6 (u8n l2).toArray 5] ++ XS (MS.new code data) o) → w.cell? ⟨k6, 0 + (j : Int).toNat * 1, none⟩ = some (.int .u8 ((l2[j]'(by omega) : Nat) : Int)) := fun H => by
      rw [ix1, Nat.zero_add]
      exact H.ld 1 rfl (by rw [List.getElem?_toArray]; exact u8n_get (List.getElem?_eq_getElem (by omega)))
    have hx := hsame j (Nat.le_refl _)
    rw [List.getElem?_eq_getElem (by omega)] at hx
    refine ⟨fun t w => t = false ∧ St W No w ([blk k (ints .u32 l) 35, blk k6 (u8n l2).toArray 5] ++ XS (MS.new code data) o), split_of (fun q1 => ?_) (fun q1 => split_of (fun q2 => ?_) (fun q2 => ?_)), fun _ => ?_⟩
    · have q1 := of_decide_eq_true q1
      have hjc : j < data.length := by omega
      rw [List.getElem?_append_left hjc, List.getElem?_eq_getElem hjc] at hx
      obtain ⟨g, off, e, hg, hc⟩ := hD j _ (List.getElem?_eq_getElem hjc)
      refine ⟨⟨by omega, by omega⟩, _, hld H, ⟨by omega, q1⟩, ?_⟩
      rw [e]
      refine adr_some ⟨((data[j] : Nat) : Int), ?_, split_of (fun t => absurd (by rw [Option.some.inj hx]) (bne_t t)) fun _ => split_of (fun t => absurd (of_decide_eq_true t) (by omega)) fun _ => H.drN fun w11 H => ⟨rfl, H⟩⟩
      rw [ix1]
      exact (H.touch.cell (p := ⟨g, off + j, none⟩) hg (fun e => e)).trans hc
    · have q2 := of_decide_eq_true q2
      rw [List.getElem?_append_right (by omega), List.getElem?_replicate, if_pos (by omega)] at hx
      refine ⟨⟨by omega, by omega⟩, _, hld H, H.drN fun w11 H => ⟨?_, H⟩⟩
      rw [Option.some.inj hx]; rfl
    · exact H.drN fun w11 H => ⟨rfl, H⟩
    rintro t w24 ⟨rfl, H⟩
    refine split_of (fun t => by cases t) (fun _ => ⟨⟨by omega, by omega⟩, ?_⟩)
    rw [ix1, Nat.zero_add]
    refine H.st 1 rfl (by simp [u8n_length]; omega) fun w25 H => ?_
    rintro z rfl
    rw [w64 (by omega) (by omega)]
    refine ⟨⟨j + 1, l2.set j 119, by omega, by omega, by rw [List.length_set]; exact hlen2, fun i hi => ?_, ?_⟩, by show data.length + 70 - ((j : Int) + 1).toNat < data.length + 70 - (j : Int).toNat; omega⟩
    · rw [List.getElem?_set_ne (by omega)]; exact hsame i (by omega)
    · have e : (u8n l2).toArray.setIfInBounds j (.int .u8 119) = (u8n (l2.set j 119)).toArray := by
        rw [List.setIfInBounds_toArray]; unfold u8n; rw [List.map_set]; rfl
      rw [← e]; exact H
  have H : St W No w18 (XS (MS.new code data) o) := by
    have H' : St W No w18 (blk k (ints .u32 l) 35 :: blk k6 (u8n l2).toArray 5 :: XS (MS.new code data) o) := H
    exact H'.tail.tail
  clear hsame hj q hlen hlen2
  refine (htold w18 H.touch).mono ?_
  rintro e w26 ⟨rfl, hh⟩
  have H := H.quiet hh
  refine ⟨_, rfl, fun t w => t = false ∧ St W No w (XS (MS.new code data) o), split_of (fun t => absurd rfl (bne_t t)) (fun _ => ⟨?_, H⟩), fun _ => ?_⟩
  · cases o <;> rfl
  rintro t w27 ⟨rfl, H⟩
  refine split_of (fun t => by cases t) (fun _ => ?_)
  rcases o with _ | ⟨P, R⟩
  · exact split_of (fun _ => ⟨rfl, H.quiet'⟩) (fun t => by cases t)
  simp only [Option.map_some]
  refine split_of (fun t => by cases t) (fun _ => ?_)
  obtain ⟨hi, hcp⟩ := hor _ rfl
  have hcp : R.cp = cp := hcp
  have hi2 := of_decide_eq_true hi
  have H : St W No w27 [machA P (MS.new code data), rmachA R (MS.new code data)] := H
  refine ⟨fun x w => ∃ (n : Nat) (Q : MP) (M : MS), x = n ∧ n ≤ 2000 ∧ Q.b = P.b ∧ M.Ok ∧ M.h.Ok2 ∧ M.h.R.ret ≤ n ∧ M.out.length ≤ n ∧ M.h.code = code ∧ St W No w [machA Q M, rmachA R M], fun x _ => 2000 - x.toNat,
    ⟨0, P, MS.new code data, rfl, by decide, rfl, new_ok hi hcu hdu, new_ok2 _ _ _, Int.le_refl _, Nat.le_refl _, rfl, H⟩, fun _ => ?_⟩
  clear H
  rintro x w28 ⟨n, Q, M, rfl, hn, hQ, ho, h2, hret, hout, hcode, H⟩
  have hdl : M.data.length ≤ 4096 := by have h1 := ho.len; have h3 := ho.h.data; omega
  rw [← hQ]
  refine ⟨fun t w => (t = true → n < 2000) ∧ St W No w [machA Q M, rmachA R M], split_of (fun q => ⟨fun t => (by have := of_decide_eq_true t; omega), H⟩) (fun q => ⟨fun t => (by cases t), H⟩), fun _ => ?_⟩
  clear H
  rintro t w29 ⟨hlt, H⟩
  refine split_of (fun q => ?_) (fun q => ?_)
  · have hlt := hlt q
    refine ⟨fun w => ∃ (Q2 : MP) (M2 : MS), Q2.b = Q.b ∧ M2.Ok ∧ M2.h.Ok2 ∧ M2.h.R.ret ≤ (n + 1 : Nat) ∧ M2.out.length ≤ n + 1 ∧ M2.h.code = code ∧ St W No w [machA Q2 M2, rmachA R M2], ?_, fun _ => ?_⟩
    · refine ⟨fun x w => ∃ (j : Nat) (t : Bool), x = j ∧ j ≤ lines.length ∧ St W No w [machA Q { M with line := t }, rmachA R { M with line := t }], fun x _ => lines.length - x.toNat, ⟨0, M.line, rfl, Nat.zero_le _, H⟩, fun _ => ?_⟩
      clear H
      rintro x w30 ⟨j, t, rfl, hj, H⟩
      refine split_of (fun q => ?_) (fun q => ?_)
      · have q := of_decide_eq_true q
        have hj' : j < lines.length := by omega
        refine ⟨fun w => ∃ t : Bool, St W No w [machA Q { M with line := t }, rmachA R { M with line := t }], ⟨⟨by omega, q⟩, ?_⟩, fun _ => ?_⟩
        · obtain ⟨g, off, e, hg, hc⟩ := hL _ _ (List.getElem?_eq_getElem hj')
          rw [e]
          refine adr_some ⟨lines[j], ?_, split_of (fun _ => ?_) (fun _ => ⟨t, H⟩)⟩
          · rw [ix1]
            exact (H.touch.cell (p := ⟨g, off + j, none⟩) hg (fun e => e)).trans hc
          have H := H.front 1 rfl
          refine ptr_some ⟨t, ?_, ptr_some ?_⟩
          · rw [add_none]; exact rroot_ld H rfl
          rw [add_none]
          refine rroot_st H 3 (by decide) _ { M with line := !t } rfl rfl rfl fun w31 H => ?_
          refine ptr_some ⟨!t, ?_, ?_⟩
          · rw [add_none]; exact rroot_ld H rfl
          exact H.call 1 rfl (mline_any (H.nth 1 rfl) (!t)) fun w32 H => ⟨rfl, !t, H.front 1 rfl⟩
        · rintro w33 ⟨t, H⟩ z rfl
          rw [w64 (by omega) (by omega)]
          exact ⟨⟨j + 1, t, by omega, by omega, H⟩, by show lines.length - ((j : Int) + 1).toNat < lines.length - (j : Int).toNat; omega⟩
      have ho1 : ({ M with line := t } : MS).Ok := ⟨ho.h, ho.len, ho.byte, ho.res⟩
      generalize hM1 : ({ M with line := t } : MS) = M1 at H ho1
      have e1 : M1.h = M.h := by rw [← hM1]
      have e2 : M1.out = M.out := by rw [← hM1]
      have h21 : M1.h.Ok2 := by rw [e1]; exact h2
      have hr1 : M1.h.R.ret ≤ n := by rw [e1]; exact hret
      obtain ⟨k1, k2, k3⟩ := step_keep ho1 h21 hr1 (by omega)
      have ho2 := ho1.step
      have hdl2 : M1.step.2.data.length ≤ 4096 := by have h1 := ho2.len; have h3 := ho2.h.data; omega
      refine (step_any (H.nth 0 rfl) ho1 (by rw [e2]; omega) (hT.st H (fun _ e => e.elim)) (hi_of H 0 rfl)).mono ?_
      rintro e w34 ⟨Q2, hb, hg, rfl, hp⟩
      have H := H.upd 0 rfl hp
      refine ⟨_, _, rfl, H.al fun k27 w35 H => H.sts0 2 rfl rfl rfl (rt_one _) fun w36 H => H.call 1 rfl (rstep_any (H.nth 1 rfl) ⟨ho1, h21, ?_, hi_of H 1 rfl, by omega, by rw [e2]; omega⟩) fun w37 H => ⟨_, _, rfl, H.al fun k29 w38 H => H.sts0 3 rfl rfl rfl (rt_one _) fun w39 H => ?_⟩⟩
      · rw [e1, hcode, hcp]; exact hsrc.st H (fun _ e => e.elim)
      have fin : ∀ {w : World} {L : List Asn}, St W No w (machA Q2 M1.step.2 :: rmachA R M1.step.2 :: L) → false = false ∧ St W No w [machA Q2 M1.step.2, rmachA R M1.step.2] := fun H => ⟨rfl, H.pick [0, 1]⟩
      refine ⟨fun t w => t = false ∧ St W No w [machA Q2 M1.step.2, rmachA R M1.step.2], H.dr fun w40 H => split_of (fun t => absurd t (by cases M1.step.1.2 <;> decide)) (fun _ => split_of (fun q3 => ?_) (fun q3 => ?_)), fun _ => ?_⟩
      · rw [q3]
        refine ⟨_, rfl, H.cells 2 rfl, ?_, ?_⟩
        · exact H.callq (retired_any M1.step.1.1 _) fun w23 H => ⟨_, rfl, _, rfl, H.cells 3 rfl, false, fun w => rt_same _ _ _ w, split_of (fun t => by cases t) (fun _ => split_of (fun t => by cases t) (fun _ => fin H))⟩
        · exact ⟨_, rfl, H.cells 3 rfl, Below.refl _ _, H.callq (retired_any M1.step.1.1 _) fun w23 H => ⟨_, rfl, false, fun w => rt_same _ _ _ w, split_of (fun t => by cases t) (fun _ => split_of (fun t => by cases t) (fun _ => fin H))⟩⟩
      · have er := step_false q3
        have H0 := H
        rw [er] at H
        have one : ∀ vs : Array Value, vs = noRt.vs → ∃ vs13 : Array Value, vs13.size = 7 ∧ cellsAt w40 ⟨k27, 0, none⟩ vs13 ∧ ∃ t9 : Bool, (∀ W47 : World, (do eqGuard .neq 43 (.tmp 215) (.tmp 216) (.agg vs13) (.agg vs); binOp .neq 43 (.agg vs13) (.agg vs) : Sem Value).run Tryz.prog W47 = .ok (.bool t9) W47) ∧ (t9 = false ∧ St W No w40 [machA Q2 M1.step.2, rmachA R M1.step.2]) := by
          rintro vs rfl
          exact ⟨_, rfl, H.cells 2 rfl, false, fun w => rt_same1 _ _ _ w, fin H⟩
        rw [q3]
        exact ⟨split_of (fun _ => one) (fun _ => fin H), Below.refl _ _, split_of (fun _ => one) (fun _ => fin H)⟩
      rintro t2 w49 ⟨rfl, H⟩
      have done : ∀ {w : World}, St W No w [machA Q2 M1.step.2, rmachA R M1.step.2] → ∃ (Q2 : MP) (M2 : MS), Q2.b = Q.b ∧ M2.Ok ∧ M2.h.Ok2 ∧ M2.h.R.ret ≤ (n + 1 : Nat) ∧ M2.out.length ≤ n + 1 ∧ M2.h.code = code ∧ St W No w [machA Q2 M2, rmachA R M2] :=
        fun H => ⟨Q2, M1.step.2, hb, ho2, k1, k2, Nat.le_trans step_out (by rw [e2]; omega), by rw [k3, e1]; exact hcode, H⟩
      refine split_of (fun t => by cases t) (fun _ => ⟨by decide, ?_⟩)
      rintro z17 rfl
      refine split_of (fun _ => ?_) (fun _ => done H)
      have hmd := mdata_any (H.nth 0 rfl) hdl2
      rw [hb] at hmd
      refine H.calln hmd fun z w50 H => ⟨_, _, _, rfl, ptr_some ?_⟩
      obtain ⟨p4, n4, c4, hc4, hcall⟩ := data_apart (p := z.1) (c := z.2) (L := []) H (by omega)
      refine ⟨p4, n4, c4, by rw [add_none]; exact hc4, hcall.mono ?_⟩
      rintro e w51 ⟨rfl, H⟩
      exact ⟨_, rfl, split_of (fun t => by cases t) (fun _ => done H)⟩
    · rintro w52 ⟨Q2, M2, hb, ho2, k1, k2, k3, k4, H⟩ z rfl
      rw [w64 (by omega) (by omega)]
      exact ⟨⟨n + 1, Q2, M2, by omega, by omega, hb, ho2, k1, k2, k3, k4, H⟩, by show 2000 - ((n : Int) + 1).toNat < 2000 - (n : Int).toNat; omega⟩
  -- the end
  refine H.callp (mhart_any (H.nth 0 rfl)) ⟨_, rfl, H.calln (mdata_any (H.nth 0 rfl) hdl) fun z1 w54 H => ⟨_, _, _, rfl, H.calln (mdata_any (H.nth 0 rfl) hdl) fun z2 w55 H => ⟨_, _, _, rfl, H.callp (mout_any (H.nth 0 rfl)) ⟨_, rfl, ptr_some ?_⟩⟩⟩⟩
  obtain ⟨p4, n4, c4, hc4, hcall⟩ := data_apart (p := z1.1) (c := z1.2) (L := [memA z2.1 z2.2 M.data]) H (by omega)
  refine ⟨p4, n4, c4, by rw [add_none]; exact hc4, hcall.mono ?_⟩
  rintro e w57 ⟨rfl, H⟩
  refine ⟨_, rfl, ptr_some ?_⟩
  obtain ⟨p4, n4, c4, hc4, hcall⟩ := data_apart (p := z2.1) (c := z2.2) (L := []) H (by omega)
  refine ⟨p4, n4, c4, by rw [add_none]; exact hc4, hcall.mono ?_⟩
  rintro e w58 ⟨rfl, H⟩
  refine ⟨_, rfl, fun t w => t = false ∧ St W No w [machA Q M, rmachA R M], split_of (fun t => by cases t) (fun _ => ptr_some ⟨_, ?_, split_of (fun t => absurd t (by rw [beq_self_eq_true]; decide)) (fun _ => split_of (fun t => by cases t) (fun _ => ⟨rfl, H⟩))⟩), fun _ => ?_⟩
  · rw [add_none]; exact rroot_ld (H.front 1 rfl) rfl
  clear H
  rintro t w59 ⟨rfl, H⟩
  refine split_of (fun t => by cases t) (fun _ => ptr_some ⟨_, ?_, (regs_any (both_harts H) ho.h.x32).mono ?_⟩)
  · rw [add_none]; exact rroot_ld (H.front 1 rfl) rfl
  rintro e w60 ⟨rfl, rfl⟩
  refine ⟨_, rfl, ptr_some ⟨_, ?_, (csrs_any (both_harts H) ho.h).mono ?_⟩⟩
  · rw [add_none]; exact rroot_ld (H.front 1 rfl) rfl
  rintro e w61 ⟨rfl, rfl⟩
  exact ⟨_, rfl, split_of (fun _ => ⟨rfl, H.quiet'⟩) (fun t => by cases t)⟩
end Go.Proofs.YtcpmgklhfpcaeaaGreatDoor
