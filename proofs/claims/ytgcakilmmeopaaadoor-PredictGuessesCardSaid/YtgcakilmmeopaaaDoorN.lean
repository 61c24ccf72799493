/- Part N of the proofs over 'predict': Restore, Learn, New of any make. No condition. -/
import Derived.Test.YtgcakilmmeopaaaDoorM
namespace Go.Proofs.YtgcakilmmeopaaaDoor
open Go.RowKit Go.XHeap Go.Sx Go.Sep
set_option linter.unusedVariables false
set_option maxRecDepth 100000

/-- the predictor behind a Restore -/
def PS.restored (S : PS) (mh mt mv : Int) (pc : Int) (i : In) (t : Bool) : PS := if S.whole mh mt then (S.back mh mt.toNat mv).on pc i t else S
theorem whole_iff {S : PS} {mh mt : Int} (h : S.whole mh mt = true) : 0 ≤ mh ∧ mh ≤ S.mask ∧ 0 ≤ mt ∧ mt.toNat < S.stack.length := by
  unfold PS.whole at h
  split at h
  · rename_i e
    simp at e h
    omega
  · cases h
theorem restored_own (b : Nat) (S : PS) (mh mt mv pc : Int) (i : In) (t : Bool) (q : Nat) : (S.restored mh mt mv pc i t).own b q ↔ S.own b q := by
  unfold PS.restored
  split
  · exact own_on (S.back mh mt.toNat mv) pc i t b q
  · exact Iff.rfl
theorem restoreG {W : World} {b : Nat} {S : PS} (h : PredAt W b S) (hT : Tab W) (hlo : ∀ k, S.own b k → 3 ≤ k) (mh mt mv pc : Int) (i : In) (h0 : 0 < i.op) (h1 : i.op < 68) (t : Bool) :
    Calls Tryd.prog 10 #[.pointer (some ⟨b, 0, none⟩), .agg (markW mh mt mv), .int .u32 pc, .agg i.cells, .bool t] W fun e w => e = .returned (.tuple #[]) ∧ Sep.Post (predA b S) W (predA b (S.restored mh mt mv pc i t)) w := by
  by_cases hw : S.whole mh mt = true
  · obtain ⟨g0, g1, g2, g3⟩ := whole_iff hw
    have em : markW mh mt mv = markV mh mt.toNat mv := by unfold markW markV; rw [show ((mt.toNat : Nat) : Int) = mt by omega]
    rw [em]
    refine (restore_any h hT hlo mh mt.toNat mv g0 g1 g3 pc i h0 h1 t).mono fun e w hh => ⟨hh.1, ?_, hh.2.2, fun q hq => .inl ((restored_own b S mh mt mv pc i t q).1 hq)⟩
    show PredAt w b (S.restored mh mt mv pc i t)
    unfold PS.restored
    rw [if_pos hw]
    exact hh.2.1
  · have H := St.begin (A := predA b S) h
    refine vc10 b 0 _ pc i.cells t (H.al fun k w2 H => H.al fun k2 w3 H => ⟨_, rfl, H.cells 1 rfl, ?_⟩)
    refine H.callq (whole_any (H.nth 0 rfl : PredAt _ b S) mh mt mv) fun w4 H => ⟨_, rfl, split_of (fun _ => ⟨rfl, ?_⟩) (fun q => absurd (by simpa using q) hw)⟩
    have : S.restored mh mt mv pc i t = S := by unfold PS.restored; rw [if_neg hw]
    rw [this]
    exact H.post 0 rfl
/-! ### what is learned -/
def PS.learnD (S : PS) (D : Dir) (mh mt : Int) (pc : Nat) (i : In) (t : Bool) : Dir := if S.whole mh mt then if classP i.op = 2 then D.learn pc mh.toNat t else D else D
def PS.learnT (S : PS) (T : List Tgt) (mh mt : Int) (pc : Nat) (i : In) (to : Int) : List Tgt := if S.whole mh mt then if classP i.op = 2 then T else if i.op = 4 then if i.rets then T else T.set (pc / 4 % T.length) ((pc : Int), to, true) else T else T
def PS.tgts (S : PS) (T : List Tgt) : PS := { S with tc := rows tgtC T }
theorem tgts_self {S : PS} {T : List Tgt} (h : S.tc = rows tgtC T) : S.tgts T = S := by unfold PS.tgts; rw [← h]
theorem tgts_put {w : World} {b : Nat} {S : PS} {T T' : List Tgt} (h : PredAt w b (S.tgts T)) {o : Nat} {vs : List Value} (he : splice (rows tgtC T) o vs = rows tgtC T') (hl : o + vs.length ≤ (rows tgtC T).size) : Sep.Post (predA b (S.tgts T)) w (predA b (S.tgts T')) (w.setCells S.tb o vs) := by
  have ht := touch_setCells (b := S.tb) vs w o
  have hb : Blk (w.setCells S.tb o vs) S.tb (rows tgtC T') 87 := he ▸ blk_setCells vs w (rows tgtC T) o h.tgt hl
  refine ⟨⟨h.root.keep ht h.d1, hb, h.stk.keep ht (fun e => h.d3 e.symm), h.d1, h.d2, h.d3, h.tlt, h.slen⟩, ht.mono (fun q _ e => .inr (.inl e)), fun q hq => .inl hq⟩
theorem learnG {W : World} {b : Nat} {S : PS} {D : Dir} {T : List Tgt} {tb : Nat} (h : (pgA b S D).at_ W) (hg : Pg S D T tb) (hT : Tab W) (hlo : ∀ k, (pgA b S D).own k → 3 ≤ k) (mh mt mv : Int) (hm : S.mask < 4294967296) (pc : Nat) (hp : pc < 4294967296) (i : In) (h0 : 0 < i.op) (h1 : i.op < 68) (t : Bool) (to : Int) :
    Calls Tryd.prog 11 #[.pointer (some ⟨b, 0, none⟩), .agg (markW mh mt mv), .int .u32 pc, .agg i.cells, .bool t, .int .u32 to] W fun e w => e = .returned (.tuple #[]) ∧ Sep.Post (pgA b S D) W (pgA b (S.tgts (S.learnT T mh mt pc i to)) (S.learnD D mh mt pc i t)) w := by
  have P : ∀ {w : World} {L : List Asn}, St W (pgA b S D).own w (predA b S :: L) → PredAt w b S := fun H => H.nth 0 rfl
  have TT : ∀ {w : World} {L : List Asn}, St W (pgA b S D).own w L → Tab w := fun H => hT.keep H.touch (fun e => by have := hlo _ e; omega) (fun e => by have := hlo _ e; omega)
  have H : St W (pgA b S D).own W [predA b S, dirA D] := (St.begin h).open_
  have fin : ∀ {w : World} {S' : PS} {D' : Dir} {L : List Asn}, St W (pgA b S D).own w (predA b S' :: dirA D' :: L) → Sep.Post (pgA b S D) W (pgA b S' D') w := fun {w S' D' L} H => by
    have H : St W (pgA b S D).own w (all [predA b S', dirA D'] :: L) := St.shut H
    exact H.post 0 rfl
  refine vc11 b 0 _ pc i.cells t to (H.al fun k w2 H => H.al fun k2 w3 H => ⟨_, rfl, H.cells 2 rfl, ?_⟩)
  refine H.callq (whole_any (P H) mh mt mv) fun w4 H => ⟨_, rfl, split_of (fun q => ⟨rfl, ?_⟩) (fun q => ?_)⟩
  · have q : S.whole mh mt = false := by simpa using q
    unfold PS.learnT PS.learnD
    rw [if_neg (by rw [q]; decide), if_neg (by rw [q]; decide), tgts_self hg.tc]
    exact fin H
  have q : S.whole mh mt = true := by simpa using q
  obtain ⟨g0, g1, g2, g3⟩ := whole_iff q
  have eT : S.learnT T mh mt pc i to = if classP i.op = 2 then T else if i.op = 4 then if i.rets then T else T.set (pc / 4 % T.length) ((pc : Int), to, true) else T := by unfold PS.learnT; rw [if_pos q]
  have eD : S.learnD D mh mt pc i t = if classP i.op = 2 then D.learn pc mh.toNat t else D := by unfold PS.learnD; rw [if_pos q]
  rw [eT, eD]
  refine ⟨i.op, H.ld 3 rfl rfl, H.callq (class_any (TT H) i.op h0 h1) fun w5 H => ⟨_, rfl, split_of (fun q2 => ?_) (fun q2 => ?_)⟩⟩
  · have q2 : classP i.op = 2 := by simpa using q2
    rw [if_pos q2, if_pos q2, tgts_self hg.tc]
    refine H.dr fun w6 H => ⟨S.dir, (P H).root.cell' rfl, mh, H.ld 2 rfl rfl, ?_⟩
    obtain ⟨n, en⟩ : ∃ n : Nat, mh = n := ⟨mh.toNat, by omega⟩
    obtain ⟨f, all, hme, hc⟩ := dlearn hg.dok (H.nth 1 rfl) pc n hp (by omega) t
    rw [hg.dir, en, Int.toNat_natCast]
    refine ⟨f, all, hme, H.call 1 rfl hc fun w7 H => ⟨_, rfl, rfl, ?_⟩⟩
    exact fin H
  · have q2 : ¬ classP i.op = 2 := by simpa using q2
    rw [if_neg q2, if_neg q2]
    refine ⟨i.op, H.ld 3 rfl rfl, split_of (fun q3 => ?_) (fun q3 => ?_)⟩
    · have q3 : (i.op : Int) = 4 := by simpa using q3
      rw [if_pos (by omega)]
      refine ⟨i.cells, rfl, H.cells 3 rfl, H.callq (returns_any _ i) fun w8 H => ⟨_, rfl, split_of (fun q4 => ?_) (fun q4 => ⟨rfl, ?_⟩)⟩⟩
      · have q4 : i.rets = false := by simpa using q4
        rw [if_neg (by rw [q4]; decide)]
        refine H.callq (entry_any (P H) tb hg.tn hg.tb pc hp) fun w9 H => ⟨_, rfl, ?_⟩
        rintro vs rfl
        have hlt : pc / 4 % 2 ^ tb < T.length := by rw [hg.tl]; exact Nat.mod_lt _ (Nat.two_pow_pos tb)
        have hsz : pc / 4 % 2 ^ tb * 3 + 3 ≤ (rows tgtC T).size := by rw [rows_size (tgtC_len T)]; omega
        refine ptr_some (adr_some ⟨rfl, fun j hj => ⟨⟨_, (P H).tgt.cell' (Array.getElem?_eq_getElem (by rw [hg.tc]; omega))⟩, (P H).tgt.frozen _⟩, ?_, ?_⟩)
        · intro v hv
          simp only [List.mem_cons, List.not_mem_nil, or_false] at hv
          rcases hv with rfl | rfl | rfl <;> rfl
        · rintro w10 rfl
          have hP : PredAt w9 b (S.tgts T) := by rw [tgts_self hg.tc]; exact P H
          have := tgts_put hP (rows_splice (tgtC_len T) (pc / 4 % 2 ^ tb) ((pc : Int), to, true) hlt rfl) (by show _ + 3 ≤ _; omega)
          rw [tgts_self hg.tc] at this
          rw [hg.tl]
          have H := H.upd 0 rfl this
          exact ⟨rfl, fin H⟩
      · rw [if_pos (by simpa using q4), tgts_self hg.tc]
        exact fin H
    · have q3 : ¬ (i.op : Int) = 4 := by simpa using q3
      rw [if_neg (by omega), tgts_self hg.tc]
      exact ⟨rfl, fin H⟩
end Go.Proofs.YtgcakilmmeopaaaDoor
