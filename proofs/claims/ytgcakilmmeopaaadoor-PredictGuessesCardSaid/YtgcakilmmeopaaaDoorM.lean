/- Part M of the proofs over 'predict': entry, whole, Guess, Restore, Learn of a predictor of any make. No condition. -/
import Derived.Test.YtgcakilmmeopaaaDoorL
import Derived.Test.YtgcakilmmeopaaaDoorH
namespace Go.Proofs.YtgcakilmmeopaaaDoor
open Go.RowKit Go.XHeap Go.Sx Go.Sep
set_option linter.unusedVariables false
set_option maxRecDepth 100000

def predA (b : Nat) (S : PS) : Asn := ⟨S.own b, fun w => PredAt w b S, fun h ht hn => h.keep ht hn, fun h => h.lt⟩
abbrev Tgt := Int × Int × Bool
def tgtC (x : Tgt) : List Value := [.int .u32 x.1, .int .u32 x.2.1, .bool x.2.2]
def pgA (b : Nat) (S : PS) (D : Dir) : Asn := all [predA b S, dirA D]
structure Pg (S : PS) (D : Dir) (T : List Tgt) (tb : Nat) : Prop where
  dir : S.dir = D.val
  dok : D.ok
  tc : S.tc = rows tgtC T
  tn : S.tn = 2 ^ tb
  tl : T.length = 2 ^ tb
  tb : tb ≤ 62
  h0 : 0 ≤ S.hist
  h1 : S.hist < 4294967296
theorem tgtC_len (T : List Tgt) : ∀ x ∈ T, (tgtC x).length = 3 := fun _ _ => rfl
theorem entry_any {W : World} {b : Nat} {S : PS} (h : PredAt W b S) (t : Nat) (htn : S.tn = 2 ^ t) (ht : t ≤ 62) (pc : Nat) (hp : pc < 4294967296) :
    Calls Tryd.prog 24 #[.pointer (some ⟨b, 0, none⟩), .int .u32 pc] W fun e w => e = .returned (.pointer (some ⟨S.tb, pc / 4 % 2 ^ t * 3, none⟩)) ∧ Hush W w := by
  refine vc24 _ _ _ ⟨_, _, _, h.root.cell' rfl, by decide, ?_⟩
  rintro z rfl z2 rfl
  refine ⟨_, _, _, h.root.cell' rfl, ?_⟩
  rintro z3 rfl z4 rfl
  have e1 : Int.fdiv (pc : Int) (2 ^ min 2 (IntKind.bits .u32)) = ((pc / 4 : Nat) : Int) := Bits.shr pc 2
  have hpow : 2 ^ t ≤ 2 ^ 62 := Nat.pow_le_pow_right (by decide) ht
  have hpos := Nat.two_pow_pos t
  rw [htn, e1, Bits.n64 (x := pc / 4) (by omega), w64 (e := ((2 ^ t : Nat) : Int) - 1) (by omega) (by omega), Bits.mask64 (by omega) ht]
  have hlt := Nat.mod_lt (pc / 4) hpos
  refine ⟨⟨by omega, by omega⟩, adr_some ?_⟩
  rw [show 0 + ((pc / 4 % 2 ^ t : Nat) : Int).toNat * 3 = pc / 4 % 2 ^ t * 3 by omega]
  rintro w2 k rfl
  exact ⟨rfl, (XTouch.refl _ _).drewN k⟩
def PS.whole (S : PS) (mh mt : Int) : Bool := if decide (mh ≥ 0) && decide (mh ≤ S.mask) then decide (mt ≥ 0) && decide (mt ≤ (S.stack.length : Int) - 1) else false
def markW (mh mt mv : Int) : Array Value := #[.int .i64 mh, .int .i64 mt, .int .u32 mv]
theorem whole_any {W : World} {b : Nat} {S : PS} (h : PredAt W b S) (mh mt mv : Int) :
    Calls Tryd.prog 26 #[.pointer (some ⟨b, 0, none⟩), .agg (markW mh mt mv)] W fun e w => e = .returned (.bool (S.whole mh mt)) ∧ Hush W w := by
  have hlen := h.slen
  refine vc26 b 0 _ ((St.nil W).al fun k w2 H => ?_)
  have hp := h.keep H.touch (fun _ _ e => e)
  refine ⟨mh, H.ld 0 rfl rfl, S.mask, hp.root.cell' rfl, _, fun k2 => (within_any _ mh 0 S.mask).mono (fun e w h => ⟨h.1, k2, h.2⟩), ?_⟩
  refine split_of (fun q => ?_) (fun q => ?_)
  · refine ⟨mt, H.ld 0 rfl rfl, _, _, _, hp.root.cell' rfl, ?_⟩
    rintro z4 rfl
    rw [w64 (by omega) (by omega)]
    refine ⟨_, fun k2 => (within_any _ mt 0 _).mono (fun e w h => ⟨h.1, k2, h.2⟩), H.drN fun w' H => ⟨?_, H.touch⟩⟩
    unfold PS.whole
    rw [if_pos q]
  · refine H.drN fun w' H => ⟨?_, H.touch⟩
    unfold PS.whole
    rw [if_neg (by rw [q]; decide)]
/-! ### guesses -/
def PS.takes (S : PS) (D : Dir) (pc : Nat) (i : In) : Bool := (classP i.op == 2) && D.guess pc S.hist.toNat i.imm
def tgtAt (T : List Tgt) (pc : Nat) : Tgt := T.getD (pc / 4 % T.length) (0, 0, false)
def PS.nextG (S : PS) (D : Dir) (T : List Tgt) (pc : Nat) (i : In) : Int :=
  if classP i.op = 2 then if D.guess pc S.hist.toNat i.imm then IntKind.wrap .u32 (pc + IntKind.wrap .u32 i.imm) else IntKind.wrap .u32 (pc + 4)
  else if i.op = 3 then IntKind.wrap .u32 (pc + IntKind.wrap .u32 i.imm)
  else if i.rets then S.stack.getD S.top 0
  else if i.op = 4 then if (tgtAt T pc).2.2 then if (tgtAt T pc).1 = pc then (tgtAt T pc).2.1 else IntKind.wrap .u32 (pc + 4) else IntKind.wrap .u32 (pc + 4)
  else IntKind.wrap .u32 (pc + 4)
theorem in_size (i : In) : i.cells.size = 5 := rfl
theorem pgA_on (b : Nat) (S : PS) (D : Dir) (pc : Int) (i : In) (t : Bool) (q : Nat) : (pgA b (S.on pc i t) D).own q ↔ (pgA b S D).own q := by
  show ((S.on pc i t).own b q ∨ _) ↔ (S.own b q ∨ _)
  rw [own_on]
theorem goOn_post {w : World} {b : Nat} {S : PS} (h : PredAt w b S) (hT : Tab w) (hlo : ∀ k, S.own b k → 3 ≤ k) (pc : Int) (i : In) (h0 : 0 < i.op) (h1 : i.op < 68) (t : Bool) :
    Calls Tryd.prog 25 #[.pointer (some ⟨b, 0, none⟩), .int .u32 pc, .agg i.cells, .bool t] w fun e w' => e = .returned (.tuple #[]) ∧ Sep.Post (predA b S) w (predA b (S.on pc i t)) w' :=
  (goOn_any h hT hlo pc i h0 h1 t).mono fun e w' h => ⟨h.1, h.2.1, h.2.2, fun q hq => .inl ((own_on S pc i t b q).1 hq)⟩
theorem guessG {W : World} {b : Nat} {S : PS} {D : Dir} {T : List Tgt} {t : Nat} (h : (pgA b S D).at_ W) (hg : Pg S D T t) (hT : Tab W) (hlo : ∀ k, (pgA b S D).own k → 3 ≤ k) (pc : Nat) (hp : pc < 4294967296) (i : In) (h0 : 0 < i.op) (h1 : i.op < 68) :
    Calls Tryd.prog 9 #[.pointer (some ⟨b, 0, none⟩), .int .u32 pc, .agg i.cells] W fun e w => e = .returned (.tuple #[.int .u32 (S.nextG D T pc i), .agg S.mark]) ∧ Sep.Post (pgA b S D) W (pgA b (S.on pc i (S.takes D pc i)) D) w := by
  have hlo' : ∀ k, S.own b k → 3 ≤ k := fun k hk => hlo k (.inl hk)
  have P : ∀ {w : World} {L : List Asn}, St W (pgA b S D).own w (predA b S :: L) → PredAt w b S := fun H => H.nth 0 rfl
  have TT : ∀ {w : World} {L : List Asn}, St W (pgA b S D).own w L → Tab w := fun H => hT.keep H.touch (fun e => by have := hlo _ e; omega) (fun e => by have := hlo _ e; omega)
  have H : St W (pgA b S D).own W [predA b S, dirA D] := (St.begin h).open_
  obtain ⟨hN, eN⟩ : ∃ n : Nat, S.hist = n := ⟨S.hist.toNat, by have := hg.h0; omega⟩
  have hN1 : hN < 4294967296 := by have := hg.h1; omega
  refine vc9 b 0 pc i.cells (H.al fun k w2 H => H.al fun k2 w3 H => H.dr fun w4 H => ?_)
  have hlen := (P H).slen
  have htl := (P H).tlt
  refine ⟨S.hist, (P H).root.cell' rfl, S.top, (P H).root.cell' rfl, _, _, _, (P H).root.cell' rfl, S.top, (P H).root.cell' rfl, ⟨by omega, by omega⟩, adr_some ?_⟩
  rw [ix1, Nat.zero_add]
  refine ⟨S.stack.getD S.top 0, (P H).stk.cell' (ints_ok (κ := .u32) (getD_at htl)), ?_⟩
  rintro vs rfl
  refine H.alb fun k7 w5 H _ hB => ⟨hB, H.sts0 4 rfl rfl rfl (mark_one S) fun w6 H => ?_⟩
  rintro z5 rfl
  refine ⟨fun x z w => x = S.takes D pc i ∧ z = S.nextG D T pc i ∧ St W (pgA b S D).own w [predA b S, dirA D, blk k i.cells 33, blk k2 zeroM 37, blk k7 S.mark 37], ?_, fun _ => ?_⟩
  · refine ⟨i.op, H.ld 2 rfl rfl, H.callq (class_any (TT H) i.op h0 h1) fun w7 H => ⟨_, rfl, split_of (fun q => ?_) (fun q => ?_)⟩⟩
    · have q' : classP i.op = 2 := by simpa using q
      have et : S.takes D pc i = D.guess pc S.hist.toNat i.imm := by unfold PS.takes; rw [q', show ((2 : Int) == 2) = true from rfl, Bool.true_and]
      have eh : S.hist.toNat = hN := by omega
      refine H.dr fun w8 H => ⟨S.dir, (P H).root.cell' rfl, i.cells, rfl, H.cells 2 rfl, S.hist, (P H).root.cell' rfl, ?_⟩
      obtain ⟨f, all, hm, hc⟩ := dguess hg.dok (H.nth 1 rfl) pc hN hp hN1 i.cells rfl i.imm rfl
      rw [hg.dir, eN]
      have nn : ∀ {φ : Value → Prop}, φ D.val → Sx.notNil D.val φ := fun {φ} h => by
        cases D with
        | fixed b => exact h
        | tab mix cb b l => cases mix <;> exact h
      refine nn ⟨f, all, hm, H.callq hc fun w9 H => ⟨_, rfl, split_of (fun q2 => ?_) (fun q2 => ?_)⟩⟩
      · refine ⟨i.imm, H.ld 2 rfl rfl, ?_⟩
        rintro z10 rfl z11 rfl
        refine ⟨by rw [et, eh], ?_, H⟩
        unfold PS.nextG
        rw [if_pos q', eh, if_pos q2]
      · refine ⟨by rw [et, eh], ?_, H⟩
        unfold PS.nextG
        rw [if_pos q', eh, if_neg (by rw [q2]; decide)]
    · have q' : ¬ classP i.op = 2 := by simpa using q
      have et : S.takes D pc i = false := by unfold PS.takes; rw [q, Bool.false_and]
      rw [et]
      refine ⟨i.op, H.ld 2 rfl rfl, split_of (fun q2 => ?_) (fun q2 => ?_)⟩
      · have q2 : (i.op : Int) = 3 := by simpa using q2
        refine ⟨i.imm, H.ld 2 rfl rfl, ?_⟩
        rintro z14 rfl z15 rfl
        refine ⟨rfl, ?_, H⟩
        unfold PS.nextG
        rw [if_neg q', if_pos (by omega)]
      · have q2 : ¬ (i.op : Int) = 3 := by simpa using q2
        refine ⟨i.cells, rfl, H.cells 2 rfl, H.callq (returns_any _ i) fun w10 H => ⟨_, rfl, split_of (fun q3 => ?_) (fun q3 => ?_)⟩⟩
        · refine ⟨_, H.ld 4 rfl rfl, rfl, ?_, H⟩
          unfold PS.nextG
          rw [if_neg q', if_neg (by omega), if_pos q3]
        · refine ⟨i.op, H.ld 2 rfl rfl, split_of (fun q4 => ?_) (fun q4 => ?_)⟩
          · have q4 : (i.op : Int) = 4 := by simpa using q4
            refine H.callq (entry_any (P H) t hg.tn hg.tb pc hp) fun w11 H => ⟨_, rfl, ptr_some ?_⟩
            have hj : T[pc / 4 % 2 ^ t]? = some (tgtAt T pc) := by
              unfold tgtAt
              rw [hg.tl, List.getD_eq_getElem?_getD, List.getElem?_eq_getElem (by rw [hg.tl]; exact Nat.mod_lt _ (Nat.two_pow_pos t))]
              rfl
            have eN' : S.nextG D T pc i = if (tgtAt T pc).2.2 then if (tgtAt T pc).1 = pc then (tgtAt T pc).2.1 else IntKind.wrap .u32 (pc + 4) else IntKind.wrap .u32 (pc + 4) := by
              unfold PS.nextG
              rw [if_neg q', if_neg (by omega), if_neg (by rw [q3]; decide), if_pos (by omega)]
            have cell : ∀ {w : World} {L : List Asn}, St W (pgA b S D).own w (predA b S :: L) → ∀ (r : Nat) (v : Value), r < 3 → (tgtC (tgtAt T pc))[r]? = some v → w.cell? ⟨S.tb, pc / 4 % 2 ^ t * 3 + r, none⟩ = some v := fun H r v hr hv => by
              refine (P H).tgt.cell' ?_
              rw [hg.tc]
              exact rows_get (tgtC_len T) hj hr hv
            rw [eN']
            refine ⟨_, cell H 2 _ (by omega) rfl, split_of (fun q5 => ?_) (fun q5 => ?_)⟩
            · rw [if_pos q5]
              refine ptr_some ⟨_, cell H 0 _ (by omega) rfl, split_of (fun q6 => ?_) (fun q6 => ?_)⟩
              · rw [if_pos (by simpa using q6)]
                exact ptr_some ⟨_, cell H 1 _ (by omega) rfl, rfl, rfl, H⟩
              · rw [if_neg (by simpa using q6)]
                exact ⟨rfl, rfl, H⟩
            · rw [if_neg (by rw [q5]; decide)]
              exact ⟨rfl, rfl, H⟩
          · have q4 : ¬ (i.op : Int) = 4 := by simpa using q4
            refine ⟨rfl, ?_, H⟩
            unfold PS.nextG
            rw [if_neg q', if_neg (by omega), if_neg (by rw [q3]; decide), if_neg (by omega)]
  · rintro x z w12 ⟨rfl, rfl, H⟩
    refine ⟨i.cells, rfl, H.cells 2 rfl, H.call 0 rfl (goOn_post (P H) (TT H) hlo' pc i h0 h1 _) fun w13 H => ⟨rfl, H.dr fun w14 H => ?_⟩⟩
    refine ⟨S.mark, rfl, H.cells 4 rfl, H.sts0 3 rfl rfl rfl (mark_one S) fun w15 H => ⟨S.mark, rfl, H.cells 3 rfl, rfl, ?_⟩⟩
    have H : St W (pgA b S D).own w15 (all [predA b (S.on pc i (S.takes D pc i)), dirA D] :: [blk k i.cells 33, blk k2 S.mark 37, blk k7 S.mark 37]) := St.shut H
    exact H.post 0 rfl
end Go.Proofs.YtgcakilmmeopaaaDoor
