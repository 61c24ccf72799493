/- Part Q of the proofs over 'predict': the reference's predictor: index, goes, whole, Restore. No condition. -/
import Derived.Test.YtgcakilmmeopaaaDoorO
import Derived.Test.YtgcakilmmeopaaaDoorVcG
namespace Go.Proofs.YtgcakilmmeopaaaDoor
open Go.RowKit Go.XHeap Go.Sx Go.Sep
set_option linter.unusedVariables false
set_option maxRecDepth 100000

structure RS where
  κ : Nat
  B : Nat
  h : Nat
  t : Nat
  r : Nat
  cb : Nat
  tb : Nat
  sb : Nat
  hist : Nat
  C : List Int
  T : List Tgt
  stack : List Int
  top : Nat
structure RS.Ok (R : RS) : Prop where
  hB : R.B ≤ 10
  hh : R.h ≤ R.B
  hc : R.C.length = 2 ^ R.B
  ht : R.T.length = 2 ^ R.t
  htt : R.t ≤ 8
  hs : R.stack.length = R.r
  hr : 1 ≤ R.r
  hr2 : R.r ≤ 16
  htop : R.top < R.r
  hhist : R.hist < 2 ^ R.h
  h3 : ∀ x ∈ R.C, 0 ≤ x ∧ x ≤ 3
def tgtR (x : Tgt) : List Value := [.bool x.2.2, .int .u32 x.1, .int .u32 x.2.1]
theorem tgtR_len (T : List Tgt) : ∀ x ∈ T, (tgtR x).length = 3 := fun _ _ => rfl
def rsl (b n : Nat) : Value := .slice (some ⟨b, 0, none⟩) n n
def RS.root (R : RS) : Array Value := #[.int .i64 R.κ, .int .i64 R.B, .int .i64 R.h, .int .i64 R.t, .int .i64 R.r, .int .i64 R.hist, rsl R.cb (2 ^ R.B), rsl R.tb (2 ^ R.t), rsl R.sb R.r, .int .i64 R.top]
def RS.pieces (b : Nat) (R : RS) : List Asn := [blk b R.root 94, blk R.cb (ints .i64 R.C) 3, blk R.tb (rows tgtR R.T) 99, blk R.sb (ints .u32 R.stack) 35]
def refA (b : Nat) (R : RS) : Asn := all (R.pieces b)
structure JIn where
  what : Int
  rd : Int
  rs1 : Int
  imm : Int
def JIn.cells (J : JIn) : Array Value := #[.int .i64 J.what, .int .i64 J.rd, .int .i64 J.rs1, .int .i64 J.imm]
theorem pow_le {a : Nat} (h : a ≤ 10) : 1 ≤ 2 ^ a ∧ 2 ^ a ≤ 1024 := ⟨Nat.one_le_two_pow, Nat.pow_le_pow_right (n := 2) (by decide) h⟩
/-- where a branch's counter is -/
def RS.ix (R : RS) (pc h : Nat) : Nat := (if R.κ = 3 then pc / 4 ^^^ h else pc / 4) % 2 ^ R.B
theorem ix_lt (R : RS) (pc h : Nat) : R.ix pc h < 2 ^ R.B := Nat.mod_lt _ (Nat.two_pow_pos _)
theorem index_any {W : World} {b : Nat} {R : RS} (ho : R.Ok) (hb : Blk W b R.root 94) (pc h : Nat) (hp : pc < 4294967296) (hh : h < 4294967296) :
    Calls Tryd.prog 28 #[.pointer (some ⟨b, 0, none⟩), .int .u32 pc, .int .i64 h] W fun e w => e = .returned (.int .i64 (R.ix pc h)) ∧ w = W := by
  have hP := pow_le ho.hB
  have e1 : IntKind.wrap .i64 (IntKind.wrap .u32 (Int.tdiv (pc : Int) 4)) = ((pc / 4 : Nat) : Int) := by
    rw [show Int.tdiv (pc : Int) 4 = ((pc / 4 : Nat) : Int) from rfl, Bits.n32 (by omega), Bits.n64 (by omega)]
  refine vc28 _ _ _ _ ⟨by decide, ?_⟩
  rintro z rfl z2 rfl
  rw [e1]
  refine ⟨R.κ, hb.cell' rfl, split_of (fun q => ?_) (fun q => ?_)⟩
  · have q : R.κ = 3 := by have : (R.κ : Int) = 3 := by simpa using q
                           omega
    rintro z4 rfl
    refine ⟨_, _, _, hb.cell' rfl, by omega, ?_⟩
    rintro z5 rfl
    rw [Bits.lxor64 (by omega) (by omega), Bits.tmod]
    refine ⟨?_, rfl⟩
    unfold RS.ix
    rw [if_pos q]
  · have q : ¬ (R.κ : Int) = 3 := by simpa using q
    refine ⟨_, _, _, hb.cell' rfl, by omega, ?_⟩
    rintro z6 rfl
    rw [Bits.tmod]
    refine ⟨?_, rfl⟩
    unfold RS.ix
    rw [if_neg (by omega)]
def RS.whole (R : RS) (mh mt : Int) : Bool := if decide (mh ≥ 0) then if decide (mh < ((2 ^ R.h : Nat) : Int)) then if decide (mt ≥ 0) then decide (mt < (R.r : Int)) else false else false else false
theorem rwhole_any {W : World} {b : Nat} {R : RS} (ho : R.Ok) (hb : Blk W b R.root 94) (mh mt mv : Int) :
    Calls Tryd.prog 30 #[.pointer (some ⟨b, 0, none⟩), .agg (markW mh mt mv)] W fun e w => e = .returned (.bool (R.whole mh mt)) ∧ Hush W w := by
  refine vc30 b 0 _ ((St.nil W).al fun k w2 H => ?_)
  have hb2 := hb.keep H.touch (fun e => e)
  unfold RS.whole
  refine ⟨mh, H.ld 0 rfl rfl, split_of (fun q => ?_) (fun q => ?_)⟩
  · rw [q, if_pos rfl]
    refine ⟨mh, H.ld 0 rfl rfl, R.h, hb2.cell' rfl, by omega, ?_⟩
    rintro z4 rfl
    rw [Bits.one_shl (by have := ho.hh; have := ho.hB; omega)]
    refine split_of (fun q => ?_) (fun q => ?_)
    · rw [q, if_pos rfl]
      refine ⟨mt, H.ld 0 rfl rfl, split_of (fun q => ?_) (fun q => ?_)⟩
      · rw [q, if_pos rfl]
        exact ⟨mt, H.ld 0 rfl rfl, R.r, hb2.cell' rfl, H.drN fun w' H => ⟨rfl, H.touch⟩⟩
      · rw [q, if_neg (by decide)]
        exact H.drN fun w' H => ⟨rfl, H.touch⟩
    · rw [q, if_neg (by decide)]
      exact H.drN fun w' H => ⟨rfl, H.touch⟩
  · rw [q, if_neg (by decide)]
    exact H.drN fun w' H => ⟨rfl, H.touch⟩
theorem rwhole_iff {R : RS} {mh mt : Int} (h : R.whole mh mt = true) : 0 ≤ mh ∧ mh.toNat < 2 ^ R.h ∧ 0 ≤ mt ∧ mt.toNat < R.r := by
  unfold RS.whole at h
  split at h <;> rename_i e1
  · split at h <;> rename_i e2
    · split at h <;> rename_i e3
      · simp at e1 e2 e3 h
        have : ((2 ^ R.h : Nat) : Int) = 2 ^ R.h := by simp
        omega
      · cases h
    · cases h
  · cases h
/-- what an instruction does to the history and the stack -/
def RS.on (R : RS) (pc : Nat) (J : JIn) (t : Bool) : RS :=
  if J.what = 1 then { R with hist := (2 * R.hist + t.toNat) % 2 ^ R.h }
  else if J.what = 3 ∧ J.rs1 = 1 ∧ J.rd = 0 then { R with top := (R.top + R.r - 1) % R.r }
  else if J.what ≠ 0 ∧ J.rd = 1 then { R with top := (R.top + 1) % R.r, stack := R.stack.set ((R.top + 1) % R.r) (IntKind.wrap .u32 (pc + 4)) }
  else R
theorem on_ok {R : RS} (h : R.Ok) (pc : Nat) (J : JIn) (t : Bool) : (R.on pc J t).Ok := by
  have hr := h.hr
  unfold RS.on
  split
  · exact ⟨h.hB, h.hh, h.hc, h.ht, h.htt, h.hs, h.hr, h.hr2, h.htop, Nat.mod_lt _ (Nat.two_pow_pos _), h.h3⟩
  · split
    · exact ⟨h.hB, h.hh, h.hc, h.ht, h.htt, h.hs, h.hr, h.hr2, Nat.mod_lt _ hr, h.hhist, h.h3⟩
    · split
      · exact ⟨h.hB, h.hh, h.hc, h.ht, h.htt, by show (R.stack.set _ _).length = _; rw [List.length_set]; exact h.hs, h.hr, h.hr2, Nat.mod_lt _ hr, h.hhist, h.h3⟩
      · exact h
theorem ref_fin {W w : World} {b : Nat} {R R' : RS} {L : List Asn} (H : St W (refA b R).own w (R'.pieces b ++ L)) : Sep.Post (refA b R) W (refA b R') w := (St.shut H).post 0 rfl
theorem goes_any {W : World} {b : Nat} {R : RS} (ho : R.Ok) (h : (refA b R).at_ W) (pc : Nat) (J : JIn) (t : Bool) :
    Calls Tryd.prog 29 #[.pointer (some ⟨b, 0, none⟩), .int .u32 pc, .agg J.cells, .bool t] W fun e w => e = .returned (.tuple #[]) ∧ Sep.Post (refA b R) W (refA b (R.on pc J t)) w := by
  have hPh := pow_le (Nat.le_trans ho.hh ho.hB)
  have hr := ho.hr
  have hr2 := ho.hr2
  have htop := ho.htop
  have hhist := ho.hhist
  have H : St W (refA b R).own W [blk b R.root 94, blk R.cb (ints .i64 R.C) 3, blk R.tb (rows tgtR R.T) 99, blk R.sb (ints .u32 R.stack) 35] := (St.begin h).open_
  refine vc29 b 0 pc J.cells t (H.al fun k w2 H => ⟨J.what, H.ld 4 rfl rfl, split_of (fun q => ?_) (fun q => ?_)⟩)
  · have q : J.what = 1 := by simpa using q
    refine ⟨R.hist, H.ld 0 rfl rfl, ?_⟩
    rintro z3 rfl
    rw [show (2 * (R.hist : Int)) = ((2 * R.hist : Nat) : Int) by omega, Bits.n64 (by omega)]
    refine ⟨fun x w => x = ((2 * R.hist + t.toNat : Nat) : Int) ∧ w = w2, split_of (fun q => ?_) (fun q => ?_), fun _ => ?_⟩
    · rintro z4 rfl
      subst q
      rw [show ((2 * R.hist : Nat) : Int) + 1 = ((2 * R.hist + true.toNat : Nat) : Int) by simp, Bits.n64 (by simp; omega)]
      exact ⟨rfl, rfl⟩
    · subst q
      exact ⟨rfl, rfl⟩
    · rintro x w3 ⟨rfl, rfl⟩
      refine ⟨R.h, H.ld 0 rfl rfl, by omega, ?_⟩
      rintro z6 rfl
      rw [Bits.one_shl (by have := ho.hh; have := ho.hB; omega)]
      refine ⟨by omega, ?_⟩
      rintro z7 rfl
      rw [Bits.tmod]
      refine H.st 0 rfl (by show 5 < 10; omega) fun w4 H => ⟨rfl, ?_⟩
      have e : R.on pc J t = { R with hist := (2 * R.hist + t.toNat) % 2 ^ R.h } := by unfold RS.on; rw [if_pos q]
      rw [e]
      exact ref_fin H
  · have q : ¬ J.what = 1 := by simpa using q
    refine ⟨fun x w => x = (decide (J.what = 3 ∧ J.rs1 = 1 ∧ J.rd = 0)) ∧ w = w2, ⟨J.what, H.ld 4 rfl rfl, split_of (fun q2 => ?_) (fun q2 => ?_)⟩, fun _ => ?_⟩
    · have q2 : J.what = 3 := by simpa using q2
      refine ⟨J.rs1, H.ld 4 rfl rfl, split_of (fun q3 => ?_) (fun q3 => ?_)⟩
      · have q3 : J.rs1 = 1 := by simpa using q3
        refine ⟨J.rd, H.ld 4 rfl rfl, ?_, rfl⟩
        rw [Bool.eq_iff_iff]; simp [q2, q3]
      · have q3 : ¬ J.rs1 = 1 := by simpa using q3
        exact ⟨by simp [q3], rfl⟩
    · have q2 : ¬ J.what = 3 := by simpa using q2
      exact ⟨by simp [q2], rfl⟩
    rintro x w5 ⟨rfl, rfl⟩
    refine split_of (fun q2 => ?_) (fun q2 => ?_)
    · have q2 := of_decide_eq_true q2
      refine H.dr fun w6 H => ⟨R.top, H.ld 0 rfl rfl, R.r, H.ld 0 rfl rfl, ?_⟩
      rintro z13 rfl z14 rfl
      refine ⟨R.r, H.ld 0 rfl rfl, by omega, ?_⟩
      rintro z16 rfl
      rw [w64 (e := (R.top : Int) + R.r) (by omega) (by omega), w64 (by omega) (by omega), show ((R.top : Int) + R.r - 1) = ((R.top + R.r - 1 : Nat) : Int) by omega, Bits.tmod]
      refine H.st 0 rfl (by show 9 < 10; omega) fun w7 H => ⟨rfl, ?_⟩
      have e : R.on pc J t = { R with top := (R.top + R.r - 1) % R.r } := by unfold RS.on; rw [if_neg q, if_pos q2]
      rw [e]
      exact ref_fin H
    · have q2 := of_decide_eq_false q2
      refine ⟨fun x w => x = (decide (J.what ≠ 0 ∧ J.rd = 1)) ∧ w = w5, ⟨J.what, H.ld 4 rfl rfl, split_of (fun q3 => ?_) (fun q3 => ?_)⟩, fun _ => ?_⟩
      · have q3 : J.what ≠ 0 := by simpa using q3
        refine ⟨J.rd, H.ld 4 rfl rfl, ?_, rfl⟩
        rw [Bool.eq_iff_iff]; simp [q3]
      · have q3 : J.what = 0 := by simpa using q3
        exact ⟨by simp [q3], rfl⟩
      rintro x w8 ⟨rfl, rfl⟩
      refine split_of (fun q3 => ?_) (fun q3 => ?_)
      · have q3 := of_decide_eq_true q3
        refine H.dr fun w9 H => ⟨R.top, H.ld 0 rfl rfl, ?_⟩
        rintro z20 rfl
        refine ⟨R.r, H.ld 0 rfl rfl, by omega, ?_⟩
        rintro z22 rfl
        rw [w64 (e := (R.top : Int) + 1) (by omega) (by omega), show ((R.top : Int) + 1) = ((R.top + 1 : Nat) : Int) by omega, Bits.tmod]
        have hlt : (R.top + 1) % R.r < R.r := Nat.mod_lt _ hr
        refine H.st 0 rfl (by show 9 < 10; omega) fun w10 H => H.dr fun w11 H => ⟨_, _, _, H.ld 0 rfl rfl, _, H.ld 0 rfl rfl, ?_⟩
        rintro z24 rfl
        refine ⟨⟨by omega, by omega⟩, adr_some ?_⟩
        rw [ix1, Nat.zero_add]
        refine H.st 3 rfl (by rw [ints_size, ho.hs]; exact hlt) fun w12 H => ⟨rfl, ?_⟩
        have e : R.on pc J t = { R with top := (R.top + 1) % R.r, stack := R.stack.set ((R.top + 1) % R.r) (IntKind.wrap .u32 (pc + 4)) } := by unfold RS.on; rw [if_neg q, if_neg q2, if_pos q3]
        rw [e]
        rw [ints_set] at H
        exact ref_fin H
      · have q3 := of_decide_eq_false q3
        have e : R.on pc J t = R := by unfold RS.on; rw [if_neg q, if_neg q2, if_neg q3]
        rw [e]
        exact ⟨rfl, ref_fin H⟩
/-! ### Restore -/
def RS.restored (R : RS) (mh mt mv : Int) (pc : Nat) (J : JIn) (t : Bool) : RS := if R.whole mh mt then ({ R with hist := mh.toNat, top := mt.toNat, stack := R.stack.set mt.toNat mv } : RS).on pc J t else R
theorem back_ok {R : RS} (h : R.Ok) {mh mt : Int} (hw : R.whole mh mt = true) (mv : Int) : ({ R with hist := mh.toNat, top := mt.toNat, stack := R.stack.set mt.toNat mv } : RS).Ok := by
  obtain ⟨_, h2, _, h4⟩ := rwhole_iff hw
  exact ⟨h.hB, h.hh, h.hc, h.ht, h.htt, by show (R.stack.set _ _).length = _; rw [List.length_set]; exact h.hs, h.hr, h.hr2, h4, h2, h.h3⟩
theorem rrestore_any {W : World} {b : Nat} {R : RS} (ho : R.Ok) (h : (refA b R).at_ W) (mh mt mv : Int) (pc : Nat) (J : JIn) (t : Bool) :
    Calls Tryd.prog 18 #[.pointer (some ⟨b, 0, none⟩), .agg (markW mh mt mv), .int .u32 pc, .agg J.cells, .bool t] W fun e w => e = .returned (.tuple #[]) ∧ Sep.Post (refA b R) W (refA b (R.restored mh mt mv pc J t)) w := by
  have H : St W (refA b R).own W [blk b R.root 94, blk R.cb (ints .i64 R.C) 3, blk R.tb (rows tgtR R.T) 99, blk R.sb (ints .u32 R.stack) 35] := (St.begin h).open_
  refine vc18 b 0 _ pc J.cells t (H.al fun k w2 H => H.al fun k2 w3 H => ⟨_, rfl, H.cells 4 rfl, ?_⟩)
  refine H.callq (rwhole_any ho (H.blk 0 rfl) mh mt mv) fun w4 H => ⟨_, rfl, split_of (fun q => ⟨rfl, ?_⟩) (fun q => ?_)⟩
  · have q : R.whole mh mt = false := by simpa using q
    unfold RS.restored
    rw [if_neg (by rw [q]; decide)]
    exact ref_fin H
  · have q : R.whole mh mt = true := by simpa using q
    obtain ⟨g0, g1, g2, g3⟩ := rwhole_iff q
    have hb := back_ok ho q mv
    have e : R.restored mh mt mv pc J t = ({ R with hist := mh.toNat, top := mt.toNat, stack := R.stack.set mt.toNat mv } : RS).on pc J t := by unfold RS.restored; rw [if_pos q]
    rw [e]
    obtain ⟨m, rfl⟩ : ∃ m : Nat, mh = m := ⟨mh.toNat, by omega⟩
    obtain ⟨n, rfl⟩ : ∃ m : Nat, mt = m := ⟨mt.toNat, by omega⟩
    rw [Int.toNat_natCast, Int.toNat_natCast] at *
    refine ⟨m, H.ld 4 rfl rfl, H.st 0 rfl (by show 5 < 10; omega) fun w5 H => ⟨n, H.ld 4 rfl rfl, H.st 0 rfl (by show 9 < 10; omega) fun w6 H => H.dr fun w7 H => ?_⟩⟩
    refine ⟨_, _, _, H.ld 0 rfl rfl, n, H.ld 4 rfl rfl, mv, H.ld 4 rfl rfl, ⟨by omega, by omega⟩, adr_some ?_⟩
    rw [ix1, Nat.zero_add]
    refine H.st 3 rfl (by rw [ints_size, ho.hs]; exact g3) fun w8 H => ⟨J.cells, rfl, H.cells 5 rfl, ?_⟩
    rw [ints_set] at H
    have H2 : St W (refA b R).own w8 (refA b { R with hist := m, top := n, stack := R.stack.set n mv } :: [blk k (markW m n mv) 60, blk k2 J.cells 57]) := St.shut H
    exact H2.call 0 rfl (goes_any hb (H2.nth 0 rfl) pc J t) fun w9 H => ⟨rfl, rfl, H.post 0 rfl⟩
end Go.Proofs.YtgcakilmmeopaaaDoor
