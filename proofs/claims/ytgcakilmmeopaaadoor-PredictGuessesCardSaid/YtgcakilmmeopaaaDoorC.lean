/- Part C of the proofs over 'predict': what an instruction does to the history and the stack (goOn). No condition. -/
import Derived.Test.YtgcakilmmeopaaaDoorB
namespace Go.Proofs.YtgcakilmmeopaaaDoor
open Go.RowKit Go.XHeap Go.Sx
set_option linter.unusedVariables false
set_option maxRecDepth 100000

/-- the history behind a branch -/
def nh1 (h : Int) : Int := IntKind.wrap .i64 (h * 2 ^ min 1 (IntKind.bits .i64))
def nh2 (h : Int) : Int := IntKind.wrap .i64 ((BitVec.ofInt (IntKind.bits .i64) h ||| BitVec.ofInt (IntKind.bits .i64) 1).toNat : Int)
def nh3 (h m : Int) : Int := IntKind.wrap .i64 ((BitVec.ofInt (IntKind.bits .i64) h &&& BitVec.ofInt (IntKind.bits .i64) m).toNat : Int)
def nh (h m : Int) (taken : Bool) : Int := nh3 (if taken then nh2 (nh1 h) else nh1 h) m
def PS.on (S : PS) (pc : Int) (i : In) (taken : Bool) : PS :=
  if classP i.op = 2 then { S with hist := nh S.hist S.mask taken }
  else if i.rets then { S with top := (S.top + S.stack.length - 1) % S.stack.length }
  else if i.calls then { S with top := (S.top + 1) % S.stack.length, stack := S.stack.set ((S.top + 1) % S.stack.length) (IntKind.wrap .u32 (pc + 4)) }
  else S
theorem goOn_any {W : World} {b : Nat} {S : PS} (h : PredAt W b S) (hT : Tab W) (hlo : ∀ k, S.own b k → 3 ≤ k) (pc : Int) (i : In) (h0 : 0 < i.op) (h1 : i.op < 68) (taken : Bool) :
    Calls Tryd.prog 25 #[.pointer (some ⟨b, 0, none⟩), .int .u32 pc, .agg i.cells, .bool taken] W fun e w => e = .returned (.tuple #[]) ∧ PredAt w b (S.on pc i taken) ∧ XTouch (S.own b) W w := by
  have hn1 : ¬ S.own b 1 := fun e => by have := hlo _ e; omega
  have hn2 : ¬ S.own b 2 := fun e => by have := hlo _ e; omega
  have hlen := h.slen
  have htl := h.tlt
  refine vc25 b 0 pc i.cells taken ?_
  rintro k w2 rfl rfl
  have hb : Blk (W.alloc (.cells i.cells 33)) W.heap.size i.cells 33 := Blk.new W _ _
  have ht : XTouch (fun _ => False) W (W.alloc (.cells i.cells 33)) := (XTouch.refl _ W).alloc _
  have hp := h.keep ht (fun _ _ e => e)
  have hT2 := hT.keep ht (fun e => e) (fun e => e)
  refine ⟨_, _, _, hp.root.cell' rfl, i.op, hb.cell' rfl, (class_any hT2 i.op h0 h1).mono ?_⟩
  rintro e w3 ⟨rfl, ht3⟩
  have hp3 := hp.keep ht3 (fun _ _ e => e)
  have hT3 := hT2.keep ht3 (fun e => e) (fun e => e)
  have hb3 := hb.keep ht3 (fun e => e)
  have hX3 : XTouch (S.own b) W w3 := (ht.trans ht3 (fun _ _ e => e)).mono (fun _ _ e => e.elim)
  refine ⟨_, rfl, split_of (fun q => ?_) (fun q => ?_)⟩
  · have q : classP i.op = 2 := by simpa using q
    have eon : S.on pc i taken = { S with hist := nh S.hist S.mask taken } := by unfold PS.on; rw [if_pos q]
    rw [eon]
    refine ⟨S.hist, hp3.root.cell' rfl, by decide, ?_⟩
    rintro z4 rfl
    refine ⟨⟨_, hp3.root.cell' rfl⟩, hp3.root.frozen _, ?_⟩
    rintro w4 rfl
    have hp4 := hp3.setHist (nh1 S.hist)
    have hX4 := hX3.setCell (p := ⟨b, 1, none⟩) (.inl (.inl rfl)) (.int .i64 (nh1 S.hist))
    refine split_of (fun q => ?_) (fun q => ?_)
    · subst q
      refine ⟨nh1 S.hist, hp4.root.cell' rfl, ?_⟩
      rintro z6 rfl
      refine ⟨⟨_, hp4.root.cell' rfl⟩, hp4.root.frozen _, ?_⟩
      rintro w5 rfl w6 rfl
      have hp5 := (hp4.setHist (nh2 (nh1 S.hist))).drew
      have hX5 := (hX4.setCell (p := ⟨b, 1, none⟩) (.inl (.inl rfl)) (.int .i64 (nh2 (nh1 S.hist)))).drew
      refine ⟨nh2 (nh1 S.hist), hp5.root.cell' rfl, S.mask, hp5.root.cell' rfl, ?_⟩
      rintro z9 rfl
      refine ⟨⟨_, hp5.root.cell' rfl⟩, hp5.root.frozen _, ?_⟩
      rintro w7 rfl
      exact ⟨rfl, hp5.setHist _, hX5.setCell (p := ⟨b, 1, none⟩) (.inl (.inl rfl)) _⟩
    · subst q
      rintro w8 rfl
      have hp5 := hp4.drew
      have hX5 := hX4.drew
      refine ⟨nh1 S.hist, hp5.root.cell' rfl, S.mask, hp5.root.cell' rfl, ?_⟩
      rintro z9 rfl
      refine ⟨⟨_, hp5.root.cell' rfl⟩, hp5.root.frozen _, ?_⟩
      rintro w7 rfl
      exact ⟨rfl, hp5.setHist _, hX5.setCell (p := ⟨b, 1, none⟩) (.inl (.inl rfl)) _⟩
  · have q : ¬ classP i.op = 2 := by simpa using q
    refine ⟨i.cells, rfl, cellsAt_self hb3, (returns_any w3 i).mono ?_⟩
    rintro e w10 ⟨rfl, ht10⟩
    have hp10 := hp3.keep ht10 (fun _ _ e => e)
    have hT10 := hT3.keep ht10 (fun e => e) (fun e => e)
    have hb10 := hb3.keep ht10 (fun e => e)
    have hX10 : XTouch (S.own b) W w10 := hX3.trans ht10 (fun _ _ e => e.elim)
    refine ⟨_, rfl, split_of (fun q2 => ?_) (fun q2 => ?_)⟩
    · have eon : S.on pc i taken = { S with top := (S.top + S.stack.length - 1) % S.stack.length } := by unfold PS.on; rw [if_neg q, if_pos q2]
      rw [eon]
      refine ⟨S.top, hp10.root.cell' rfl, ?_⟩
      rintro z14 rfl z15 rfl
      rw [w64 (e := (S.top : Int) + S.stack.length) (by omega) (by omega), w64 (by omega) (by omega)]
      refine ⟨by omega, ?_⟩
      rintro z16 hz16
      have ez : z16 = (((S.top + S.stack.length - 1) % S.stack.length : Nat) : Int) := by
        rw [hz16, show (S.top : Int) + S.stack.length - 1 = ((S.top + S.stack.length - 1 : Nat) : Int) by omega]
        rw [Int.tmod_eq_emod_of_nonneg (by omega)]
        rfl
      subst ez
      refine ⟨⟨_, hp10.root.cell' rfl⟩, hp10.root.frozen _, ?_⟩
      rintro w11 rfl
      exact ⟨rfl, hp10.setTop _ (Nat.mod_lt _ (by omega)), hX10.setCell (p := ⟨b, 5, none⟩) (.inl (.inl rfl)) _⟩
    · refine ⟨i.cells, rfl, cellsAt_self hb10, (calls_any hT10 i h0 h1).mono ?_⟩
      rintro e w12 ⟨rfl, ht12⟩
      have hp12 := hp10.keep ht12 (fun _ _ e => e)
      have hX12 : XTouch (S.own b) W w12 := hX10.trans ht12 (fun _ _ e => e.elim)
      refine ⟨_, rfl, split_of (fun q3 => ?_) (fun q3 => ?_)⟩
      · have eon : S.on pc i taken = { S with top := (S.top + 1) % S.stack.length, stack := S.stack.set ((S.top + 1) % S.stack.length) (IntKind.wrap .u32 (pc + 4)) } := by unfold PS.on; rw [if_neg q, if_neg (by rw [q2]; decide), if_pos q3]
        rw [eon]
        refine ⟨S.top, hp12.root.cell' rfl, ?_⟩
        rintro z18 rfl
        rw [w64 (by omega) (by omega)]
        refine ⟨by omega, ?_⟩
        rintro z19 hz19
        have ez : z19 = (((S.top + 1) % S.stack.length : Nat) : Int) := by
          rw [hz19, show (S.top : Int) + 1 = ((S.top + 1 : Nat) : Int) by omega]
          rw [Int.tmod_eq_emod_of_nonneg (by omega)]
          rfl
        subst ez
        have hm := Nat.mod_lt (S.top + 1) (show 0 < S.stack.length by omega)
        refine ⟨⟨_, hp12.root.cell' rfl⟩, hp12.root.frozen _, ?_⟩
        rintro w13 rfl w14 rfl
        have hp14 := (hp12.setTop _ hm).drew
        have hX14 := (hX12.setCell (p := ⟨b, 5, none⟩) (.inl (.inl rfl)) (.int .i64 (((S.top + 1) % S.stack.length : Nat) : Int))).drew
        refine ⟨_, _, _, hp14.root.cell' rfl, _, hp14.root.cell' rfl, ?_⟩
        rintro z21 rfl
        refine ⟨⟨Int.natCast_nonneg _, Int.ofNat_lt.2 hm⟩, ?_⟩
        generalize (S.top + 1) % S.stack.length = m at hm hp14 hX14
        show (∃ v, World.cell? _ ⟨S.sb, 0 + ((m : Nat) : Int).toNat * 1, none⟩ = some v) ∧ World.frozen? _ ⟨S.sb, 0 + ((m : Nat) : Int).toNat * 1, none⟩ = false ∧ _
        rw [show 0 + ((m : Nat) : Int).toNat * 1 = m by omega]
        refine ⟨?_, hp14.stk.frozen _, ?_⟩
        · rw [hp14.stk.cell]
          exact ⟨_, Array.getElem?_eq_getElem (by simp [u32s_len]; exact hm)⟩
        rintro w15 rfl
        exact ⟨rfl, hp14.setStack m _, hX14.setCell (p := ⟨S.sb, m, none⟩) (.inl (.inr (.inr rfl))) _⟩
      · have eon : S.on pc i taken = S := by unfold PS.on; rw [if_neg q, if_neg (by rw [q2]; decide), if_neg (by rw [q3]; decide)]
        rw [eon]
        exact ⟨rfl, hp12, hX12⟩
end Go.Proofs.YtgcakilmmeopaaaDoor
