/- Part R of the proofs over 'predict': the reference's Guess, Learn, New; what the law makes of an instruction. No condition. -/
import Derived.Test.YtgcakilmmeopaaaDoorQ
import Derived.Test.YtgcakilmmeopaaaDoorP
namespace Go.Proofs.YtgcakilmmeopaaaDoor
open Go.RowKit Go.XHeap Go.Sx Go.Sep
set_option linter.unusedVariables false
set_option maxRecDepth 100000

def RS.takes (R : RS) (pc : Nat) (J : JIn) : Bool := if J.what = 1 then if R.κ = 1 then decide (J.imm < 0) else if R.κ = 2 ∨ R.κ = 3 then decide (R.C.getD (R.ix pc R.hist) 0 > 1) else false else false
def RS.next (R : RS) (pc : Nat) (J : JIn) : Int :=
  if J.what = 1 then if R.takes pc J then IntKind.wrap .u32 (pc + IntKind.wrap .u32 J.imm) else IntKind.wrap .u32 (pc + 4)
  else if J.what = 2 then IntKind.wrap .u32 (pc + IntKind.wrap .u32 J.imm)
  else if J.what = 3 then if J.rs1 = 1 ∧ J.rd = 0 then R.stack.getD R.top 0
    else if (tgtAt R.T pc).2.2 then if (tgtAt R.T pc).1 = pc then (tgtAt R.T pc).2.1 else IntKind.wrap .u32 (pc + 4) else IntKind.wrap .u32 (pc + 4)
  else IntKind.wrap .u32 (pc + 4)
def RS.mark (R : RS) : Array Value := markW R.hist R.top (R.stack.getD R.top 0)
theorem markW_one (a b c : Int) : ∀ v ∈ (markW a b c).toList, v.oneCell' = true := by
  intro v hv
  simp only [markW, List.mem_cons, List.not_mem_nil, or_false] at hv
  rcases hv with rfl | rfl | rfl <;> rfl
theorem tgtR_one (x : Tgt) : ∀ v ∈ (tgtR x).toArray.toList, v.oneCell' = true := by
  intro v hv
  simp only [tgtR, List.mem_cons, List.not_mem_nil, or_false] at hv
  rcases hv with rfl | rfl | rfl <;> rfl
theorem ofn (a : Nat) : (a : Int) = ((a : Nat) : Int) := rfl
theorem rguess_any {W : World} {b : Nat} {R : RS} (ho : R.Ok) (h : (refA b R).at_ W) (pc : Nat) (hp : pc < 4294967296) (J : JIn) :
    Calls Tryd.prog 16 #[.pointer (some ⟨b, 0, none⟩), .int .u32 pc, .agg J.cells] W fun e w => e = .returned (.tuple #[.int .u32 (R.next pc J), .agg R.mark]) ∧ Sep.Post (refA b R) W (refA b (R.on pc J (R.takes pc J))) w := by
  have hP := pow_le ho.hB
  have hPh := pow_le (Nat.le_trans ho.hh ho.hB)
  have hPt := pow_le (Nat.le_trans ho.htt (by decide : 8 ≤ 10))
  have hr := ho.hr
  have hr2 := ho.hr2
  have htop := ho.htop
  have hhist := ho.hhist
  have H : St W (refA b R).own W [blk b R.root 94, blk R.cb (ints .i64 R.C) 3, blk R.tb (rows tgtR R.T) 99, blk R.sb (ints .u32 R.stack) 35] := (St.begin h).open_
  refine vc16 b 0 pc J.cells (H.al fun k w2 H => H.al fun k2 w3 H => H.dr fun w4 H => ?_)
  refine ⟨R.hist, H.ld 0 rfl rfl, R.top, H.ld 0 rfl rfl, _, _, _, H.ld 0 rfl rfl, R.top, H.ld 0 rfl rfl, ⟨by omega, by omega⟩, adr_some ?_⟩
  rw [ix1, Nat.zero_add]
  refine ⟨R.stack.getD R.top 0, H.ld 3 rfl (ints_ok (getD_at (by rw [ho.hs]; exact htop))), ?_⟩
  rintro vs rfl
  refine H.alb fun k7 w5 H _ hB => ⟨hB, H.sts0 6 rfl rfl rfl (markW_one _ _ _) fun w6 H => ?_⟩
  rintro z5 rfl
  have H : St W (refA b R).own w6 (R.pieces b ++ [blk k J.cells 57, blk k2 zeroM 60, blk k7 R.mark 60]) := H
  refine ⟨fun x z w => x = R.takes pc J ∧ z = R.next pc J ∧ ∃ L, St W (refA b R).own w (R.pieces b ++ (blk k J.cells 57 :: blk k2 zeroM 60 :: blk k7 R.mark 60 :: L)), ⟨J.what, H.ld 4 rfl rfl, split_of (fun q => ?_) (fun q => ?_)⟩, fun _ => ?_⟩
  · have q : J.what = 1 := by simpa using q
    have et : R.takes pc J = if R.κ = 1 then decide (J.imm < 0) else if R.κ = 2 ∨ R.κ = 3 then decide (R.C.getD (R.ix pc R.hist) 0 > 1) else false := by unfold RS.takes; rw [if_pos q]
    refine ⟨fun x w => x = R.takes pc J ∧ St W (refA b R).own w (R.pieces b ++ [blk k J.cells 57, blk k2 zeroM 60, blk k7 R.mark 60]), ⟨R.κ, H.ld 0 rfl rfl, split_of (fun q2 => ?_) (fun q2 => ?_)⟩, fun _ => ?_⟩
    · have q2 : R.κ = 1 := by have : (R.κ : Int) = 1 := by simpa using q2
                              omega
      exact ⟨J.imm, H.ld 4 rfl rfl, by rw [et, if_pos q2], H⟩
    · have q2 : ¬ (R.κ : Int) = 1 := by simpa using q2
      rw [if_neg (by omega)] at et
      refine ⟨fun x w => x = decide (R.κ = 2 ∨ R.κ = 3) ∧ w = w6, split_of (fun q3 => ?_) (fun q3 => ?_), fun _ => ?_⟩
      · have q3 : R.κ = 2 := by have : (R.κ : Int) = 2 := by simpa using q3
                                omega
        exact ⟨by simp [q3], rfl⟩
      · have q3 : ¬ (R.κ : Int) = 2 := by simpa using q3
        refine ⟨?_, rfl⟩
        rw [Bool.eq_iff_iff]; simp; omega
      rintro x w7 ⟨rfl, rfl⟩
      refine split_of (fun q3 => ?_) (fun q3 => ?_)
      · have q3 := of_decide_eq_true q3
        have hlt := ix_lt R pc R.hist
        refine ⟨R.hist, H.ld 0 rfl rfl, H.callp (index_any ho (H.blk 0 rfl) pc R.hist hp (by omega)) ⟨_, rfl, _, _, _, H.ld 0 rfl rfl, ⟨by omega, by omega⟩, adr_some ?_⟩⟩
        rw [ix1, Nat.zero_add]
        refine ⟨_, H.ld 1 rfl (ints_ok (getD_at (by rw [ho.hc]; exact hlt))), ?_, H⟩
        rw [et, if_pos q3]
      · have q3 := of_decide_eq_false q3
        exact ⟨by rw [et, if_neg q3], H⟩
    · rintro x w9 ⟨rfl, H⟩
      refine split_of (fun q2 => ?_) (fun q2 => ?_)
      · refine ⟨J.imm, H.ld 4 rfl rfl, ?_⟩
        rintro z13 rfl z14 rfl
        refine ⟨rfl, ?_, [], H⟩
        unfold RS.next
        rw [if_pos q, if_pos q2]
      · refine ⟨rfl, ?_, [], H⟩
        unfold RS.next
        rw [if_pos q, if_neg (by rw [q2]; decide)]
  · have q : ¬ J.what = 1 := by simpa using q
    have et : R.takes pc J = false := by unfold RS.takes; rw [if_neg q]
    rw [et]
    refine split_of (fun q2 => ?_) (fun q2 => split_of (fun q3 => ?_) (fun q3 => ?_))
    · have q2 : J.what = 2 := by simpa using q2
      refine ⟨J.imm, H.ld 4 rfl rfl, ?_⟩
      rintro z16 rfl z17 rfl
      refine ⟨rfl, ?_, [], H⟩
      unfold RS.next
      rw [if_neg q, if_pos q2]
    · have q2 : ¬ J.what = 2 := by simpa using q2
      have q3 : J.what = 3 := by simpa using q3
      have en : R.next pc J = if J.rs1 = 1 ∧ J.rd = 0 then R.stack.getD R.top 0 else if (tgtAt R.T pc).2.2 then if (tgtAt R.T pc).1 = pc then (tgtAt R.T pc).2.1 else IntKind.wrap .u32 (pc + 4) else IntKind.wrap .u32 (pc + 4) := by
        unfold RS.next; rw [if_neg q, if_neg q2, if_pos q3]
      refine H.dr fun w10 H => ⟨by decide, ?_⟩
      rintro z18 rfl z19 rfl
      rw [show Int.tdiv (pc : Int) 4 = ((pc / 4 : Nat) : Int) from rfl, Bits.n32 (x := pc / 4) (by omega), Bits.n64 (by omega)]
      refine ⟨_, _, _, H.ld 0 rfl rfl, _, _, _, H.ld 0 rfl rfl, by omega, ?_⟩
      rintro z20 rfl
      rw [Bits.tmod]
      have hlt : pc / 4 % 2 ^ R.t < 2 ^ R.t := Nat.mod_lt _ (by omega)
      have hj : R.T[pc / 4 % 2 ^ R.t]? = some (tgtAt R.T pc) := by
        unfold tgtAt
        rw [ho.ht, List.getD_eq_getElem?_getD, List.getElem?_eq_getElem (by rw [ho.ht]; exact hlt)]
        rfl
      refine ⟨⟨by omega, by omega⟩, adr_some ?_⟩
      rw [show 0 + ((pc / 4 % 2 ^ R.t : Nat) : Int).toNat * 3 = pc / 4 % 2 ^ R.t * 3 by omega]
      refine ⟨(tgtR (tgtAt R.T pc)).toArray, rfl, H.lds 2 rfl (rows_part (tgtR_len R.T) hj), H.alb fun k19 w11 H _ hB => ⟨hB, H.sts0 7 rfl rfl rfl (tgtR_one _) fun w12 H => ?_⟩⟩
      refine ⟨fun z w => z = (if (tgtAt R.T pc).2.2 then if (tgtAt R.T pc).1 = pc then (tgtAt R.T pc).2.1 else IntKind.wrap .u32 (pc + 4) else IntKind.wrap .u32 (pc + 4)) ∧ w = w12, ⟨(tgtAt R.T pc).2.2, H.ld 7 rfl rfl, split_of (fun q4 => ?_) (fun q4 => ?_)⟩, fun _ => ?_⟩
      · rw [if_pos q4]
        refine ⟨(tgtAt R.T pc).1, H.ld 7 rfl rfl, split_of (fun q5 => ?_) (fun q5 => ?_)⟩
        · rw [if_pos (by simpa using q5)]
          exact ⟨(tgtAt R.T pc).2.1, H.ld 7 rfl rfl, rfl, rfl⟩
        · rw [if_neg (by simpa using q5)]
          exact ⟨rfl, rfl⟩
      · rw [if_neg (by rw [q4]; decide)]
        exact ⟨rfl, rfl⟩
      rintro x3 w13 ⟨rfl, rfl⟩
      rw [en]
      refine ⟨J.rs1, H.ld 4 rfl rfl, split_of (fun q4 => ?_) (fun q4 => ?_)⟩
      · have q4 : J.rs1 = 1 := by simpa using q4
        refine ⟨J.rd, H.ld 4 rfl rfl, split_of (fun q5 => ?_) (fun q5 => ?_)⟩
        · have q5 : J.rd = 0 := by simpa using q5
          exact ⟨_, H.ld 6 rfl rfl, rfl, by rw [if_pos ⟨q4, q5⟩], _, H⟩
        · have q5 : ¬ J.rd = 0 := by simpa using q5
          exact ⟨rfl, by rw [if_neg (show ¬ (J.rs1 = 1 ∧ J.rd = 0) from fun e => q5 e.2)], _, H⟩
      · have q4 : ¬ J.rs1 = 1 := by simpa using q4
        exact ⟨rfl, by rw [if_neg (show ¬ (J.rs1 = 1 ∧ J.rd = 0) from fun e => q4 e.1)], _, H⟩
    · have q2 : ¬ J.what = 2 := by simpa using q2
      have q3 : ¬ J.what = 3 := by simpa using q3
      refine ⟨rfl, ?_, [], H⟩
      unfold RS.next
      rw [if_neg q, if_neg q2, if_neg q3]
  · rintro x z w14 ⟨rfl, rfl, L, H⟩
    have H : St W (refA b R).own w14 (refA b R :: (blk k J.cells 57 :: blk k2 zeroM 60 :: blk k7 R.mark 60 :: L)) := St.shut H
    refine ⟨J.cells, rfl, H.cells 1 rfl, H.call 0 rfl (goes_any ho (H.nth 0 rfl) pc J _) fun w15 H => ⟨rfl, H.dr fun w16 H => ?_⟩⟩
    exact ⟨R.mark, rfl, H.cells 3 rfl, H.sts0 2 rfl rfl rfl (markW_one _ _ _) fun w17 H => ⟨R.mark, rfl, H.cells 2 rfl, rfl, H.post 0 rfl⟩⟩
/-! ### what is learned -/
def RS.learned (R : RS) (mh mt : Int) (pc : Nat) (J : JIn) (t : Bool) (to : Int) : RS := if R.whole mh mt then
    if J.what = 1 then { R with C := R.C.set (R.ix pc mh.toNat) (bump (R.C.getD (R.ix pc mh.toNat) 0) t) }
    else if J.what = 3 then if J.rs1 = 1 ∧ J.rd = 0 then R else { R with T := R.T.set (pc / 4 % R.T.length) ((pc : Int), to, true) } else R
  else R
theorem learned_ok {R : RS} (h : R.Ok) (mh mt : Int) (pc : Nat) (J : JIn) (t : Bool) (to : Int) : (R.learned mh mt pc J t to).Ok := by
  unfold RS.learned
  split
  · split
    · refine ⟨h.hB, h.hh, by show (R.C.set _ _).length = _; rw [List.length_set]; exact h.hc, h.ht, h.htt, h.hs, h.hr, h.hr2, h.htop, h.hhist, fun x hx => ?_⟩
      rcases List.mem_or_eq_of_mem_set hx with e | e
      · exact h.h3 x e
      · subst e
        exact bump_ok (h.h3 _ (List.mem_of_getElem? (getD_at (by rw [h.hc]; exact ix_lt R _ _))))
    · split
      · split
        · exact h
        · exact ⟨h.hB, h.hh, h.hc, by show (R.T.set _ _).length = _; rw [List.length_set]; exact h.ht, h.htt, h.hs, h.hr, h.hr2, h.htop, h.hhist, h.h3⟩
      · exact h
  · exact h
theorem rlearn_any {W : World} {b : Nat} {R : RS} (ho : R.Ok) (h : (refA b R).at_ W) (mh mt mv : Int) (pc : Nat) (hp : pc < 4294967296) (J : JIn) (t : Bool) (to : Int) :
    Calls Tryd.prog 19 #[.pointer (some ⟨b, 0, none⟩), .agg (markW mh mt mv), .int .u32 pc, .agg J.cells, .bool t, .int .u32 to] W fun e w => e = .returned (.tuple #[]) ∧ Sep.Post (refA b R) W (refA b (R.learned mh mt pc J t to)) w := by
  have hP := pow_le ho.hB
  have hPh := pow_le (Nat.le_trans ho.hh ho.hB)
  have hPt := pow_le (Nat.le_trans ho.htt (by decide : 8 ≤ 10))
  have H : St W (refA b R).own W [blk b R.root 94, blk R.cb (ints .i64 R.C) 3, blk R.tb (rows tgtR R.T) 99, blk R.sb (ints .u32 R.stack) 35] := (St.begin h).open_
  refine vc19 b 0 _ pc J.cells t to (H.al fun k w2 H => H.al fun k2 w3 H => ⟨_, rfl, H.cells 4 rfl, ?_⟩)
  refine H.callq (rwhole_any ho (H.blk 0 rfl) mh mt mv) fun w4 H => ⟨_, rfl, split_of (fun q => ⟨rfl, ?_⟩) (fun q => ?_)⟩
  · have q : R.whole mh mt = false := by simpa using q
    unfold RS.learned
    rw [if_neg (by rw [q]; decide)]
    exact ref_fin H
  have q : R.whole mh mt = true := by simpa using q
  obtain ⟨g0, g1, g2, g3⟩ := rwhole_iff q
  have e : R.learned mh mt pc J t to = if J.what = 1 then { R with C := R.C.set (R.ix pc mh.toNat) (bump (R.C.getD (R.ix pc mh.toNat) 0) t) }
    else if J.what = 3 then if J.rs1 = 1 ∧ J.rd = 0 then R else { R with T := R.T.set (pc / 4 % R.T.length) ((pc : Int), to, true) } else R := by unfold RS.learned; rw [if_pos q]
  rw [e]
  refine ⟨J.what, H.ld 5 rfl rfl, split_of (fun q2 => ?_) (fun q2 => split_of (fun q3 => ?_) (fun q3 => ?_))⟩
  · have q2 : J.what = 1 := by simpa using q2
    rw [if_pos q2]
    obtain ⟨m, rfl⟩ : ∃ m : Nat, mh = m := ⟨mh.toNat, by omega⟩
    rw [Int.toNat_natCast] at g1 ⊢
    have hlt := ix_lt R pc m
    have hlt' : R.ix pc m < R.C.length := by rw [ho.hc]; exact hlt
    have hx := ho.h3 _ (List.mem_of_getElem? (getD_at hlt'))
    refine ⟨m, H.ld 4 rfl rfl, H.callp (index_any ho (H.blk 0 rfl) pc m hp (by omega)) ⟨_, rfl, _, _, _, H.ld 0 rfl rfl, ⟨by omega, by omega⟩, adr_some ?_⟩⟩
    rw [ix1, Nat.zero_add]
    refine ⟨_, H.ld 1 rfl (ints_ok (getD_at hlt')), ?_⟩
    generalize hn : R.C.getD (R.ix pc m) 0 = n at hx
    refine ⟨fun z w => z = (if t && decide (n < 3) then n + 1 else n) ∧ w = w4, split_of (fun q4 => ?_) (fun q4 => ?_), fun _ => ?_⟩
    · refine split_of (fun q5 => ?_) (fun q5 => ?_)
      · rintro z5 rfl
        rw [w64 (by omega) (by omega)]
        exact ⟨by simp [q4, q5], rfl⟩
      · exact ⟨by simp [q4, q5], rfl⟩
    · exact ⟨by simp [q4], rfl⟩
    rintro x w6 ⟨hx1, rfl⟩
    refine ⟨fun z w => z = bump n t ∧ w = w6, split_of (fun q4 => ?_) (fun q4 => ?_), fun _ => ?_⟩
    · have q4 : t = false := by simpa using q4
      subst q4
      simp only [Bool.false_and] at hx1
      rw [if_neg (by decide)] at hx1
      subst hx1
      refine split_of (fun q5 => ?_) (fun q5 => ?_)
      · rintro z6 rfl
        have := of_decide_eq_true q5
        rw [w64 (by omega) (by omega)]
        exact ⟨by unfold bump; simp [q5], rfl⟩
      · exact ⟨by unfold bump; simp [q5], rfl⟩
    · have q4 : t = true := by simpa using q4
      subst q4
      refine ⟨?_, rfl⟩
      rw [hx1]
      unfold bump
      simp
    rintro x2 w7 ⟨rfl, rfl⟩
    refine ⟨_, _, _, H.ld 0 rfl rfl, ⟨by omega, by omega⟩, adr_some ?_⟩
    rw [ix1, Nat.zero_add]
    refine H.st 1 rfl (by rw [ints_size]; exact hlt') fun w8 H => ⟨rfl, ?_⟩
    rw [ints_set] at H
    exact ref_fin H
  · have q2 : ¬ J.what = 1 := by simpa using q2
    have q3 : J.what = 3 := by simpa using q3
    rw [if_neg q2, if_pos q3]
    refine ⟨fun x w => x = !decide (J.rs1 = 1 ∧ J.rd = 0) ∧ w = w4, ⟨J.rs1, H.ld 5 rfl rfl, split_of (fun q4 => ?_) (fun q4 => ?_)⟩, fun _ => ?_⟩
    · have q4 : J.rs1 ≠ 1 := by simpa using q4
      exact ⟨by simp [q4], rfl⟩
    · have q4 : J.rs1 = 1 := by simpa using q4
      refine ⟨J.rd, H.ld 5 rfl rfl, ?_, rfl⟩
      rw [Bool.eq_iff_iff]; simp [q4]
    rintro x w9 ⟨rfl, rfl⟩
    refine split_of (fun q4 => ?_) (fun q4 => ?_)
    · have q4 : ¬ (J.rs1 = 1 ∧ J.rd = 0) := fun e => by rw [decide_eq_true e] at q4; cases q4
      rw [if_neg q4]
      refine H.dr fun w10 H => ⟨_, _, _, H.ld 0 rfl rfl, by decide, ?_⟩
      rintro z9 rfl z10 rfl
      rw [show Int.tdiv (pc : Int) 4 = ((pc / 4 : Nat) : Int) from rfl, Bits.n32 (x := pc / 4) (by omega), Bits.n64 (by omega)]
      refine ⟨_, _, _, H.ld 0 rfl rfl, by omega, ?_⟩
      rintro z11 rfl vs2 rfl
      rw [Bits.tmod]
      have hlt : pc / 4 % 2 ^ R.t < 2 ^ R.t := Nat.mod_lt _ (by omega)
      have hlt' : pc / 4 % 2 ^ R.t < R.T.length := by rw [ho.ht]; exact hlt
      refine ⟨⟨by omega, by omega⟩, adr_some ?_⟩
      rw [show 0 + ((pc / 4 % 2 ^ R.t : Nat) : Int).toNat * 3 = pc / 4 % 2 ^ R.t * 3 by omega, ho.ht]
      refine H.sts 2 rfl rfl (by rw [rows_size (tgtR_len R.T)]; omega) (tgtR_one ((pc : Int), to, true)) fun w11 H => ⟨rfl, ?_⟩
      have es : splice (rows tgtR R.T) (pc / 4 % 2 ^ R.t * 3) (tgtR ((pc : Int), to, true)) = rows tgtR (R.T.set (pc / 4 % 2 ^ R.t) ((pc : Int), to, true)) := rows_splice (tgtR_len R.T) _ _ hlt' rfl
      have H : St W (refA b R).own w11 (RS.pieces b { R with T := R.T.set (pc / 4 % 2 ^ R.t) ((pc : Int), to, true) } ++ [blk k (markW mh mt mv) 60, blk k2 J.cells 57]) := by
        show St W (refA b R).own w11 [blk b R.root 94, blk R.cb (ints .i64 R.C) 3, blk R.tb (rows tgtR (R.T.set (pc / 4 % 2 ^ R.t) ((pc : Int), to, true))) 99, blk R.sb (ints .u32 R.stack) 35, blk k (markW mh mt mv) 60, blk k2 J.cells 57]
        rw [← es]
        exact H
      exact ref_fin H
    · have q4 : J.rs1 = 1 ∧ J.rd = 0 := by simpa using q4
      rw [if_pos q4]
      exact ⟨rfl, ref_fin H⟩
  · have q2 : ¬ J.what = 1 := by simpa using q2
    have q3 : ¬ J.what = 3 := by simpa using q3
    rw [if_neg q2, if_neg q3]
    exact ⟨rfl, ref_fin H⟩
/-! ### small ones -/
theorem guessing_any (W : World) (κ B h t r : Int) : Calls Tryd.prog 12 #[.agg (cfgC κ B h t r)] W fun e w => e = .returned (.agg (cfgC κ B h t r)) ∧ Hush W w := by
  refine vc12 _ ((St.nil W).al fun k w2 H => H.al fun k2 w3 H => ⟨κ, H.ld 0 rfl rfl, B, H.ld 0 rfl rfl, h, H.ld 0 rfl rfl, t, H.ld 0 rfl rfl, r, H.ld 0 rfl rfl, ?_⟩)
  rintro vs rfl
  refine H.sts0 1 rfl rfl rfl (by intro v hv; simp at hv; rcases hv with rfl | rfl | rfl | rfl | rfl <;> rfl) fun w4 H => ⟨_, rfl, H.cells 1 rfl, rfl, H.touch⟩
theorem mark_any (W : World) (a b c : Int) : Calls Tryd.prog 17 #[.agg (markW a b c)] W fun e w => e = .returned (.agg (markW a b c)) ∧ Hush W w := by
  refine vc17 _ ((St.nil W).al fun k w2 H => H.al fun k2 w3 H => ⟨a, H.ld 0 rfl rfl, b, H.ld 0 rfl rfl, c, H.ld 0 rfl rfl, ?_⟩)
  rintro vs rfl
  exact H.sts0 1 rfl rfl rfl (markW_one a b c) fun w4 H => ⟨_, rfl, H.cells 1 rfl, rfl, H.touch⟩
structure OpS where
  kind : Int
  a : Int
  pc : Nat
  what : Int
  rd : Int
  rs1 : Int
  imm : Int
  taken : Bool
  to : Nat
def OpS.cells (o : OpS) : List Value := [.int .i64 o.kind, .int .i64 o.a, .int .u32 o.pc, .int .i64 o.what, .int .i64 o.rd, .int .i64 o.rs1, .int .i64 o.imm, .bool o.taken, .int .u32 o.to]
def OpS.op (o : OpS) : Nat := if o.what = 1 then 8 else if o.what = 2 then 3 else if o.what = 3 then 4 else 28
def OpS.wh (o : OpS) : Int := if o.what = 1 then 1 else if o.what = 2 then 2 else if o.what = 3 then 3 else 0
def OpS.I (o : OpS) : In := ⟨o.op, o.rd, o.rs1, 0, o.imm⟩
def OpS.J (o : OpS) : JIn := ⟨o.wh, o.rd, o.rs1, o.imm⟩
theorem j_one (J : JIn) : ∀ v ∈ J.cells.toList, v.oneCell' = true := by
  intro v hv
  simp only [JIn.cells, List.mem_cons, List.not_mem_nil, or_false] at hv
  rcases hv with rfl | rfl | rfl | rfl <;> rfl
theorem instr_any (W : World) (o : OpS) : Calls Tryd.prog 15 #[.agg o.cells.toArray] W fun e w => e = .returned (.tuple #[.agg o.I.cells, .agg o.J.cells]) ∧ Hush W w := by
  refine vc15 _ ((St.nil W).al fun k w2 H => H.al fun k2 w3 H => H.al fun k3 w4 H => ⟨o.rd, H.ld 0 rfl rfl, o.rs1, H.ld 0 rfl rfl, o.imm, H.ld 0 rfl rfl, ?_⟩)
  rintro vs rfl
  refine H.al fun k4 w5 H => H.sts0 3 rfl rfl rfl (in_one ⟨28, o.rd, o.rs1, 0, o.imm⟩) fun w6 H => ⟨o.rd, H.ld 0 rfl rfl, o.rs1, H.ld 0 rfl rfl, o.imm, H.ld 0 rfl rfl, ?_⟩
  rintro vs2 rfl
  refine H.al fun k6 w7 H => H.sts0 4 rfl rfl rfl (j_one ⟨0, o.rd, o.rs1, o.imm⟩) fun w8 H => ?_
  refine ⟨fun w => ∃ c2 c3, c2.size = 5 ∧ c3.size = 4 ∧ St W No w [blk k o.cells.toArray 55, blk k2 c2 33, blk k3 c3 57, blk k4 o.I.cells 33, blk k6 o.J.cells 57], ⟨o.what, H.ld 0 rfl rfl, split_of (fun q => ?_) (fun q => split_of (fun q2 => ?_) (fun q2 => split_of (fun q3 => ?_) (fun q3 => ?_)))⟩, fun _ => ?_⟩
  · have q : o.what = 1 := by simpa using q
    have e1 : o.I = ⟨8, o.rd, o.rs1, 0, o.imm⟩ := by unfold OpS.I OpS.op; rw [if_pos q]
    have e2 : o.J = ⟨1, o.rd, o.rs1, o.imm⟩ := by unfold OpS.J OpS.wh; rw [if_pos q]
    rw [e1, e2]
    exact H.st 3 rfl (by show 0 < 5; omega) fun w9 H => H.st 4 rfl (by show 0 < 4; omega) fun w10 H => ⟨_, _, rfl, rfl, H⟩
  · have q : ¬ o.what = 1 := by simpa using q
    have q2 : o.what = 2 := by simpa using q2
    have e1 : o.I = ⟨3, o.rd, o.rs1, 0, o.imm⟩ := by unfold OpS.I OpS.op; rw [if_neg q, if_pos q2]
    have e2 : o.J = ⟨2, o.rd, o.rs1, o.imm⟩ := by unfold OpS.J OpS.wh; rw [if_neg q, if_pos q2]
    rw [e1, e2]
    exact H.st 3 rfl (by show 0 < 5; omega) fun w9 H => H.st 4 rfl (by show 0 < 4; omega) fun w10 H => ⟨_, _, rfl, rfl, H⟩
  · have q : ¬ o.what = 1 := by simpa using q
    have q2 : ¬ o.what = 2 := by simpa using q2
    have q3 : o.what = 3 := by simpa using q3
    have e1 : o.I = ⟨4, o.rd, o.rs1, 0, o.imm⟩ := by unfold OpS.I OpS.op; rw [if_neg q, if_neg q2, if_pos q3]
    have e2 : o.J = ⟨3, o.rd, o.rs1, o.imm⟩ := by unfold OpS.J OpS.wh; rw [if_neg q, if_neg q2, if_pos q3]
    rw [e1, e2]
    exact H.st 3 rfl (by show 0 < 5; omega) fun w9 H => H.st 4 rfl (by show 0 < 4; omega) fun w10 H => ⟨_, _, rfl, rfl, H⟩
  · have q : ¬ o.what = 1 := by simpa using q
    have q2 : ¬ o.what = 2 := by simpa using q2
    have q3 : ¬ o.what = 3 := by simpa using q3
    have e1 : o.I = ⟨28, o.rd, o.rs1, 0, o.imm⟩ := by unfold OpS.I OpS.op; rw [if_neg q, if_neg q2, if_neg q3]
    have e2 : o.J = ⟨0, o.rd, o.rs1, o.imm⟩ := by unfold OpS.J OpS.wh; rw [if_neg q, if_neg q2, if_neg q3]
    rw [e1, e2]
    exact ⟨_, _, rfl, rfl, H⟩
  rintro w15 ⟨c2, c3, s2, s3, H⟩
  refine H.dr fun w16 H => ⟨o.I.cells, rfl, H.cells 3 rfl, ⟨o.J.cells, rfl, H.cells 4 rfl, Below.refl _ _, ?_⟩, ?_⟩
  · exact H.sts0 1 rfl rfl s2 (in_one o.I) fun w17 H => H.sts0 2 rfl rfl s3 (j_one o.J) fun w18 H => ⟨_, rfl, H.cells 1 rfl, _, rfl, H.cells 2 rfl, rfl, H.touch⟩
  · exact H.sts0 1 rfl rfl s2 (in_one o.I) fun w17 H => ⟨_, rfl, H.cells 4 rfl, H.sts0 2 rfl rfl s3 (j_one o.J) fun w18 H => ⟨_, rfl, H.cells 1 rfl, _, rfl, H.cells 2 rfl, rfl, H.touch⟩⟩
end Go.Proofs.YtgcakilmmeopaaaDoor
