/- The document's cache, part C: Fill, Lower, New. No condition. -/
import Derived.Test.YtbiogceijdcoiaaDoorCacheS
namespace Go.Proofs.YtbiogceijdcoiaaDoor
open Go.RowKit Go.XHeap Go.Sx Go.Sep
set_option linter.unusedVariables false
set_option maxRecDepth 100000
variable {W w : World} {b : Nat} {R R' : RC} {L : List Asn}

def zeroR : RLine := ⟨0, 0, zero16⟩
theorem zeroR_ok : zeroR.Ok := ⟨by decide, by decide, rfl, by decide⟩
theorem zeroR_size : zeroR.cells.toArray.size = 18 := rfl
def RC.same (R : RC) (a : Nat) (x : RLine) : Bool := x.addr / 16 % R.S == a / 16 % R.S
def RC.cnt (R : RC) (a : Nat) : Nat := R.L.countP (R.same a)
def RC.old (R : RC) (a : Nat) : Option Nat := R.L.findIdx? (R.same a)
def RC.full (R : RC) (a : Nat) : Option Nat := if R.cnt a = R.N then R.old a else none
/-- the lines that stay -/
def RC.kept (R : RC) (a : Nat) : List RLine := match R.full a with
  | some i => R.L.eraseIdx i
  | none => R.L
def RC.gone (R : RC) (a : Nat) : RLine := match R.full a with
  | some i => R.lineAt i
  | none => zeroR
def RC.filled (R : RC) (a : Nat) (bs : List Nat) (s : Nat) (p : Option Addr) (c : Nat) : RC := { R with p := p, c := c, L := R.kept a ++ [⟨a, s, bs⟩] }
def RFillPost (W : World) (b : Nat) (R : RC) (a : Nat) (bs : List Nat) (s : Int) (e : Ending) (w : World) : Prop :=
  if a % 16 ≠ 0 ∨ s < 1 ∨ s > 3 then e = .returned (.tuple #[.agg zeroR.cells.toArray, .int .i64 3]) ∧ Sep.Post (refcA b R) W (refcA b R) w
  else if (R.find a).isSome then e = .returned (.tuple #[.agg zeroR.cells.toArray, .int .i64 7]) ∧ Sep.Post (refcA b R) W (refcA b R) w
  else e = .returned (.tuple #[.agg (R.gone a).cells.toArray, .int .i64 0]) ∧ ∃ z : Option Addr × Nat, Sep.Post (refcA b R) W (refcA b (R.filled a bs s.toNat z.1 z.2)) w
theorem fill3 {bs : List Nat} {a : Nat} {s : Int} (q : a % 16 ≠ 0 ∨ s < 1 ∨ s > 3) (h : Sep.Post (refcA b R) W (refcA b R) w) : RFillPost W b R a bs s (.returned (.tuple #[.agg zeroR.cells.toArray, .int .i64 3])) w := by
  unfold RFillPost; rw [if_pos q]; exact ⟨rfl, h⟩
theorem fill7 {bs : List Nat} {a : Nat} {s : Int} (q : ¬ (a % 16 ≠ 0 ∨ s < 1 ∨ s > 3)) {i : Nat} (q2 : R.find a = some i) (h : Sep.Post (refcA b R) W (refcA b R) w) : RFillPost W b R a bs s (.returned (.tuple #[.agg zeroR.cells.toArray, .int .i64 7])) w := by
  unfold RFillPost; rw [if_neg q, if_pos (by rw [q2]; rfl)]; exact ⟨rfl, h⟩
theorem fill0 {bs : List Nat} {a : Nat} {s : Int} (q : ¬ (a % 16 ≠ 0 ∨ s < 1 ∨ s > 3)) (q2 : R.find a = none) (p : Option Addr) (c : Nat) (h : Sep.Post (refcA b R) W (refcA b (R.filled a bs s.toNat p c)) w) : RFillPost W b R a bs s (.returned (.tuple #[.agg (R.gone a).cells.toArray, .int .i64 0])) w := by
  unfold RFillPost; rw [if_neg q, if_neg (by rw [q2]; decide)]; exact ⟨rfl, (p, c), h⟩
theorem take_succ' {α : Type} {l : List α} {m : Nat} {x : α} (h : l[m]? = some x) : l.take (m + 1) = l.take m ++ [x] := by
  rw [List.take_add_one, h]; rfl
theorem old_of_cnt {R : RC} (ho : R.Ok) {a : Nat} (h : R.cnt a = R.N) : ∃ i, R.old a = some i ∧ i < R.L.length := by
  have h1 : 0 < R.L.countP (R.same a) := by have := ho.n0; unfold RC.cnt at h; omega
  obtain ⟨x, hx, hs⟩ := List.countP_pos_iff.1 h1
  cases hf : R.old a with
  | none => 
    unfold RC.old at hf
    rw [List.findIdx?_eq_none_iff] at hf
    rw [hf x hx] at hs; cases hs
  | some i =>
    unfold RC.old at hf
    rw [List.findIdx?_eq_some_iff_getElem] at hf
    exact ⟨i, rfl, hf.1⟩
theorem rfill_any {W : World} {b : Nat} {R : RC} (ho : R.Ok) (h : (refcA b R).at_ W) (a : Nat) (ha : a < 4294967296) (bs : List Nat) (hb : bs.length = 16) (s : Int) :
    Calls Tryd.prog 47 #[.pointer (some ⟨b, 0, none⟩), .int .i64 a, .agg (u8n bs).toArray, .int .i64 s] W (RFillPost W b R a bs s) := by
  have hlen := ho.len
  have hs0 := ho.s0
  have hs1 := ho.s1
  have h16 : (u8n bs).toArray.size = 16 := by simp [u8n, hb]
  refine vc47 b 0 a (u8n bs).toArray s ((St.begin h).al fun k w2 H => H.al fun k2 w3 H => ?_)
  have H : St W (refcA b R).own w3 [refcA b R, blk k (u8n bs).toArray 96, blk k2 zeroR.cells.toArray 104] := H
  refine ⟨fun x w => x = decide (a % 16 ≠ 0 ∨ s < 1 ∨ s > 3) ∧ w = w3, ⟨by decide, ?_⟩, fun _ => ?_⟩
  · rintro z rfl
    have e4 : Int.tmod (a : Int) 16 = ((a % 16 : Nat) : Int) := rfl
    rw [e4]
    refine split_of (fun q => ⟨?_, rfl⟩) (fun q => split_of (fun q2 => ⟨?_, rfl⟩) (fun q2 => ⟨?_, rfl⟩))
    · have q : ¬ ((a % 16 : Nat) : Int) = 0 := by simpa using q
      exact (decide_eq_true (.inl (by omega))).symm
    · exact (decide_eq_true (.inr (.inl (of_decide_eq_true q2)))).symm
    · have q : ((a % 16 : Nat) : Int) = 0 := by simpa using q
      have q2 := of_decide_eq_false q2
      exact decide_eq_decide.2 ⟨fun h => .inr (.inr h), fun h => by omega⟩
  · rintro x w4 ⟨rfl, rfl⟩
    refine split_of (fun q => ?_) (fun q => ?_)
    · rintro vs rfl
      exact H.sts0 2 rfl rfl rfl (rline_one zeroR) fun w5 H => ⟨_, rfl, H.cells 2 rfl, fill3 (of_decide_eq_true q) (H.post 0 rfl)⟩
    · refine H.callp (rfind_any ho (H.nth 0 rfl) a ha) ⟨_, rfl, split_of (fun q2 => ?_) (fun q2 => ?_)⟩
      · have q2 := of_decide_eq_true q2
        cases hf : R.find a with
        | none => rw [hf] at q2; exact absurd q2 (by decide)
        | some i =>
          rintro vs rfl
          exact H.sts0 2 rfl rfl rfl (rline_one zeroR) fun w5 H => ⟨_, rfl, H.cells 2 rfl, fill7 (of_decide_eq_false q) hf (H.post 0 rfl)⟩
      · have q2 := of_decide_eq_false q2
        cases hf : R.find a with
        | some i => rw [hf] at q2; exact absurd (show ixI (some i) ≥ 0 by show (i : Int) ≥ 0; omega) q2
        | none =>
          have H0 : St W (refcA b R).own w4 (R.pieces b ++ [blk k (u8n bs).toArray 96, blk k2 zeroR.cells.toArray 104]) := H.open_
          refine ⟨fun x y z w => ∃ m : Nat, x = m ∧ m ≤ R.L.length ∧ y = ((R.L.take m).countP (R.same a) : Nat) ∧ z = ixI ((R.L.take m).findIdx? (R.same a)) ∧ St W (refcA b R).own w (R.pieces b ++ [blk k (u8n bs).toArray 96, blk k2 zeroR.cells.toArray 104]), fun x _ _ _ => R.L.length - x.toNat, ⟨0, rfl, by omega, rfl, rfl, H0⟩, fun _ => ?_⟩
          clear H H0
          rintro x y z w5 ⟨m, rfl, hm, rfl, rfl, H⟩
          refine ⟨_, _, _, H.ld 0 rfl rfl, split_of (fun q3 => ?_) (fun q3 => ?_)⟩
          · have q3 := of_decide_eq_true q3
            have hml : m < R.L.length := by omega
            obtain ⟨x, hx⟩ : ∃ x, R.L[m]? = some x := ⟨_, List.getElem?_eq_getElem hml⟩
            have hxo := ho.line x (List.mem_of_getElem? hx)
            have hxa := hxo.addr
            obtain ⟨g, o, hp, hc⟩ := rline_at ho.line (H.nth 1 rfl) hx
            have hcnt : (R.L.take m).countP (R.same a) ≤ m := Nat.le_trans List.countP_le_length (by rw [List.length_take]; omega)
            have hfl : ∀ j, (R.L.take m).findIdx? (R.same a) = some j → j < m := by
              intro j hj
              rw [List.findIdx?_eq_some_iff_getElem] at hj
              have := hj.1
              rw [List.length_take] at this; omega
            refine ⟨fun y z w => y = ((R.L.take (m + 1)).countP (R.same a) : Nat) ∧ z = ixI ((R.L.take (m + 1)).findIdx? (R.same a)) ∧ St W (refcA b R).own w (R.pieces b ++ [blk k (u8n bs).toArray 96, blk k2 zeroR.cells.toArray 104]), ⟨fun t w => t = R.same a x ∧ St W (refcA b R).own w (R.pieces b ++ [blk k (u8n bs).toArray 96, blk k2 zeroR.cells.toArray 104]), ?_, fun _ => ?_⟩, fun _ => ?_⟩
            · refine ⟨_, _, _, H.ld 0 rfl rfl, ⟨by omega, by omega⟩, adr_eq hp ⟨x.addr, ?_, by decide, ?_⟩⟩
              · rw [Int.toNat_natCast]; exact cells_at (i := 0) hc rfl
              rintro z4 rfl
              have e5 : Int.tdiv (x.addr : Int) 16 = ((x.addr / 16 : Nat) : Int) := rfl
              have e6 : Int.tdiv (a : Int) 16 = ((a / 16 : Nat) : Int) := rfl
              rw [e5, e6, Bits.n64 (by omega), Bits.n64 (by omega)]
              refine ⟨R.S, H.ld 0 rfl rfl, by omega, ?_⟩
              rintro z6 rfl
              refine ⟨by decide, ?_⟩
              rintro z7 rfl
              refine ⟨R.S, H.ld 0 rfl rfl, by omega, ?_⟩
              rintro z9 rfl w6 n rfl
              refine ⟨?_, H.drewN n⟩
              rw [Bits.tmod, Bits.tmod]
              unfold RC.same
              rw [Bool.eq_iff_iff, beq_iff_eq, beq_iff_eq]
              exact Int.ofNat_inj
            · rintro t w6 ⟨rfl, H⟩
              rw [take_succ' hx, List.countP_append, List.findIdx?_append]
              refine split_of (fun q4 => ?_) (fun q4 => ?_)
              · rintro z10 rfl
                rw [w64 (by omega) (by omega)]
                have e7 : (((R.L.take m).countP (R.same a) + [x].countP (R.same a) : Nat) : Int) = ((R.L.take m).countP (R.same a) : Nat) + 1 := by simp [q4]
                refine split_of (fun q5 => ⟨e7.symm, ?_, H⟩) (fun q5 => ⟨e7.symm, ?_, H⟩)
                · have q5 := of_decide_eq_true q5
                  cases hi : (R.L.take m).findIdx? (R.same a) with
                  | some j => rw [hi] at q5; exact absurd q5 (by show ¬ (j : Int) < 0; omega)
                  | none => simp [q4, ixI]; omega
                · have q5 := of_decide_eq_false q5
                  cases hi : (R.L.take m).findIdx? (R.same a) with
                  | some j => rfl
                  | none => rw [hi] at q5; exact absurd (show ixI none < 0 by decide) q5
              · refine ⟨by simp [q4], ?_, H⟩
                cases hi : (R.L.take m).findIdx? (R.same a) with
                | some j => rfl
                | none => simp [q4, ixI]
            · rintro y z w6 ⟨rfl, rfl, H⟩
              rintro z11 rfl
              rw [w64 (by omega) (by omega)]
              exact ⟨⟨m + 1, by omega, by omega, rfl, rfl, H⟩, by show R.L.length - ((m : Int) + 1).toNat < R.L.length - (m : Int).toNat; omega⟩
          · have q3 := of_decide_eq_false q3
            obtain rfl : m = R.L.length := by omega
            rw [List.take_length]
            refine H.al fun k3 w6 H => ?_
            have H : St W (refcA b R).own w6 (R.pieces b ++ [blk k (u8n bs).toArray 96, blk k2 zeroR.cells.toArray 104, blk k3 zeroR.cells.toArray 104]) := H
            -- what stays
            refine ⟨fun w => ∃ p c, St W (refcA b R).own w [refcA b { R with p := p, c := c, L := R.kept a }, blk k (u8n bs).toArray 96, blk k2 zeroR.cells.toArray 104, blk k3 (R.gone a).cells.toArray 104], ⟨R.N, H.ld 0 rfl rfl, split_of (fun q4 => ?_) (fun q4 => ?_)⟩, fun _ => ?_⟩
            · have q4 : R.cnt a = R.N := by
                have : ((R.L.countP (R.same a) : Nat) : Int) = (R.N : Int) := by simpa using q4
                unfold RC.cnt; omega
              obtain ⟨i, hi, hil⟩ := old_of_cnt ho q4
              have hx : R.L[i]? = some (R.lineAt i) := by unfold RC.lineAt; rw [List.getD_eq_getElem?_getD, List.getElem?_eq_getElem hil]; rfl
              have ef : R.full a = some i := by unfold RC.full; rw [if_pos q4]; exact hi
              have ei : R.L.findIdx? (R.same a) = some i := hi
              have ek : R.kept a = R.L.eraseIdx i := by unfold RC.kept; rw [ef]
              have eg : R.gone a = R.lineAt i := by unfold RC.gone; rw [ef]
              rw [ei, ek, eg]
              have hs18 : (R.lineAt i).cells.toArray.size = 18 := by
                have := lines18 ho.line _ (List.mem_of_getElem? hx)
                simpa using this
              have H := H.shut
              have H : St W (refcA b R).own w6 [refcA b R, blk k (u8n bs).toArray 96, blk k2 zeroR.cells.toArray 104, blk k3 zeroR.cells.toArray 104] := H
              exact H.callx 0 rfl (rout_any ho (H.nth 0 rfl) hx) fun z w7 H => ⟨_, rfl, H.sts0 3 rfl hs18 rfl (rline_one _) fun w8 H => ⟨z.1, z.2, H⟩⟩
            · have q4 : ¬ R.cnt a = R.N := by
                have : ¬ ((R.L.countP (R.same a) : Nat) : Int) = (R.N : Int) := by simpa using q4
                unfold RC.cnt; omega
              have ef : R.full a = none := by unfold RC.full; rw [if_neg q4]
              have ek : R.kept a = R.L := by unfold RC.kept; rw [ef]
              have eg : R.gone a = zeroR := by unfold RC.gone; rw [ef]
              rw [ek, eg]
              exact ⟨R.p, R.c, H.shut⟩
            · clear H
              rintro w7 ⟨p, c, H⟩
              refine H.dr fun w8 H => ?_
              have hgl : R.kept a ++ [] = R.kept a := List.append_nil _
              have hkl : (R.kept a).length < 65536 := by
                unfold RC.kept
                split
                · exact Nat.lt_of_le_of_lt (List.length_eraseIdx_le _ _) ho.len
                · exact ho.len
              have hgs : (R.gone a).cells.toArray.size = 18 := by
                have : (R.gone a).Ok := by
                  unfold RC.gone
                  split
                  · rename_i i hi
                    unfold RC.full at hi
                    split at hi
                    · have := List.findIdx?_eq_some_iff_getElem.1 hi
                      unfold RC.lineAt
                      rw [List.getD_eq_getElem?_getD, List.getElem?_eq_getElem this.1]
                      exact ho.line _ (List.getElem_mem _)
                    · cases hi
                  · exact zeroR_ok
                simp [RLine.cells, u8n, this.len]
              have H : St W (refcA b R).own w8 (RC.pieces b { R with p := p, c := c, L := R.kept a } ++ [blk k (u8n bs).toArray 96, blk k2 zeroR.cells.toArray 104, blk k3 (R.gone a).cells.toArray 104]) := H.open_
              refine ⟨_, _, _, H.ld 0 rfl rfl, _, h16, H.cells 2 rfl, h16, ?_⟩
              have hs : 0 ≤ s := by have := of_decide_eq_false q; omega
              obtain ⟨s, rfl⟩ : ∃ n : Nat, s = n := ⟨s.toNat, by omega⟩
              have ey : List.toArray (Value.int .i64 (a : Int) :: Value.int .i64 (s : Int) :: ((u8n bs).toArray.toList ++ [])) = (RLine.mk a s bs).cells.toArray := by simp [RLine.cells]
              rintro vs rfl
              rw [ey]
              have hyc : (RLine.mk a s bs).cells.length = 18 := by simp [RLine.cells, u8n, hb]
              have hys : (RLine.mk a s bs).cells.toArray.size = 18 := by simpa using hyc
              refine ⟨hys, H.alb fun k5 w11 H _ b11 => ⟨b11, ?_⟩⟩
              refine H.app 1 rfl (RLine.mk a s bs).cells (.inr ⟨_, rfl, fun j u hj => H.cells 5 rfl j u (by simpa using hj)⟩) (by rw [hyc]) (rline_one _) (by have : maxLen = 2 ^ 63 - 1 := rfl; show (R.kept a).length + 1 ≤ _; omega) (by show ((R.kept a).length + 1) * 32 ≤ _; omega) fun p2 c2 w12 H => H.st 0 rfl (by show 2 < 3; omega) fun w13 H => ?_
              refine ⟨_, hgs, H.cells 4 rfl, H.sts0 3 rfl hgs rfl (rline_one _) fun w14 H => ⟨_, hgs, H.cells 3 rfl, ?_⟩⟩
              refine fill0 (of_decide_eq_false q) hf p2 c2 ?_
              rw [Int.toNat_natCast]
              refine refc_shut (L := []) ?_
              have H := H.pick [0, 1]
              have e1 : (R.kept a).length + 1 = (R.kept a ++ [RLine.mk a s bs]).length := by simp
              have e2 : (R.kept a).flatMap RLine.cells ++ (RLine.mk a s bs).cells = (R.kept a ++ [RLine.mk a s bs]).flatMap RLine.cells := by simp
              have H : St W (refcA b R).own w14 [blk b #[.int .i64 R.S, .int .i64 R.N, .slice p2 ((R.kept a).length + 1) c2] 102, sl 104 18 (.slice p2 ((R.kept a).length + 1) c2) ((R.kept a).length + 1) ((R.kept a).flatMap RLine.cells ++ (RLine.mk a s bs).cells)] := H
              rw [e1, e2] at H
              exact H
end Go.Proofs.YtbiogceijdcoiaaDoor
