/- The cache, part C: Fill, Lower. No condition. -/
import Derived.Test.YthacioiefgabbaaGreatDoorCacheB
namespace Go.Proofs.YthacioiefgabbaaGreatDoor.cbus
open Go.RowKit Go.XHeap Go.Sx Go.Sep
set_option linter.unusedVariables false
set_option maxRecDepth 100000

def zero16 : List Nat := List.replicate 16 0
def zeroLine : List Value := lineC 0 0 zero16
def zeroWay : Way := ⟨0, 0, 0, zero16⟩
def errN (n : Int) : Value := .iface 33 (.int .i64 n)
theorem line_len {y : Way} (h : y.Ok) : y.lineC.length = 18 := by simp [Way.lineC, lineC, u8n_len, h.len]
theorem zero_ok : zeroWay.Ok := ⟨by decide, by decide, rfl, by decide⟩
/-- a whole way is written -/
theorem way_all {w : World} {C : CS} (h : C.Ok) (hs : here (setsA C.gs C.sets) w) {i j : Nat} {y : Way} (hi : i < C.S) (hj : j < (C.set_ i).length) (hy : y.bytes.length = 16) :
    Sep.Post (all (setsA C.gs C.sets)) w (all (setsA C.gs (C.put i j y).sets)) (w.setCells (C.g i) (j * 19) y.cells) := by
  have hl : y.cells.length = 19 := by simp [Way.cells, u8n_len, hy]
  have hsz := rows_size (f := Way.cells) (ways_len h (CS.set_mem h hi))
  have hle : j * 19 + 19 ≤ (C.set_ i).length * 19 := by
    have := Nat.mul_le_mul_right 19 (show j + 1 ≤ (C.set_ i).length from hj)
    rw [Nat.add_mul] at this; omega
  refine put_post h hs hi ?_
  have := post_sets (set_blk h hs hi) (j * 19) y.cells (by rw [hl, hsz]; exact hle)
  rw [rows_splice (ways_len h (CS.set_mem h hi)) j y hj hl] at this
  exact this
theorem way_allThere {w : World} {C : CS} (h : C.Ok) (hs : here (setsA C.gs C.sets) w) {i j : Nat} (hi : i < C.S) (hj : j < (C.set_ i).length) : ∀ q : Nat, q < 19 → (∃ v, w.cell? ⟨C.g i, j * 19 + q, none⟩ = some v) ∧ w.frozen? ⟨C.g i, j * 19 + q, none⟩ = false :=
  fun q hq => way_there h hs hi (List.getElem?_eq_getElem hj) hq
theorem way_one (y : Way) : ∀ v ∈ y.cells.toArray.toList, v.oneCell' = true := by
  intro v hv
  have hv : v ∈ y.cells := hv
  simp only [Way.cells, List.mem_cons] at hv
  rcases hv with rfl | rfl | rfl | hv
  · rfl
  · rfl
  · rfl
  · exact u8n_one _ v hv
/-! ### Fill -/
/-- the way that was used least, of the first m -/
def vic (l : List Way) : Nat → Nat
  | 0 => 0
  | m + 1 => if (l.getD m default).used < (l.getD (vic l m) default).used then m else vic l m
theorem vic_lt {l : List Way} (h : 0 < l.length) : ∀ m, m ≤ l.length → vic l m < l.length
  | 0, _ => h
  | m + 1, hm => by
    unfold vic
    split
    · omega
    · exact vic_lt h m (by omega)
def CS.vict (C : CS) (a : Nat) : Nat := vic (C.set_ (C.ix a)) C.N
def CS.vway (C : CS) (a : Nat) : Way := (C.set_ (C.ix a)).getD (C.vict a) default
def CS.filled (C : CS) (a : Nat) (bs : List Nat) (s : Nat) : CS := C.tick.put (C.ix a) (C.vict a) ⟨a, s, C.clock + 1, bs⟩
def FillPost (W : World) (b : Nat) (C : CS) (a : Nat) (bs : List Nat) (s : Int) (e : Ending) (w : World) : Prop :=
  if a % 16 ≠ 0 ∨ s < 1 ∨ s > 3 then e = .returned (.tuple #[.agg zeroLine.toArray, .bool false, errN 3]) ∧ Sep.Post (cacheA b C) W (cacheA b C) w
  else if (C.look a).isSome then e = .returned (.tuple #[.agg zeroLine.toArray, .bool false, errN 7]) ∧ Sep.Post (cacheA b C) W (cacheA b C) w
  else e = .returned (.tuple #[.agg (if (C.vway a).state ≠ 0 then (C.vway a).lineC else zeroLine).toArray, .bool (decide ((C.vway a).state ≠ 0)), .nilIface]) ∧ Sep.Post (cacheA b C) W (cacheA b (C.filled a bs s.toNat)) w
theorem low15' {a : Nat} (ha : a < 4294967296) : IntKind.wrap .u32 ((BitVec.ofInt (IntKind.bits .u32) (a : Int) &&& BitVec.ofInt (IntKind.bits .u32) 15).toNat : Int) = ((a % 16 : Nat) : Int) := by
  have := Bits.land32 ha (show 15 < 4294967296 by decide)
  rw [show ((15 : Nat) : Int) = 15 from rfl] at this
  rw [this, show a &&& 15 = a % 2 ^ 4 from Bits.mask a 4]
theorem fill_any {W : World} {b : Nat} {C : CS} (ho : C.Ok) (hc : C.clock + 1 < 4611686018427387904) (h : (cacheA b C).at_ W) (a : Nat) (ha : a < 4294967296) (bs : List Nat) (hb : bs.length = 16) (hb2 : ∀ x ∈ bs, x < 256) (s : Int) :
    Calls Tryz.prog 101 #[.pointer (some ⟨b, 0, none⟩), .int .u32 a, .agg (u8n bs).toArray, .int .i64 s] W (FillPost W b C a bs s) := by
  have hi := ho.ix_lt a
  have hN : (C.set_ (C.ix a)).length = C.N := ho.len _ (CS.set_mem ho hi)
  have hn0 := ho.n0
  have hn1 := ho.n1
  have zl : ∀ {w : World} {k2 : Nat} {L : List Asn} {Φ : Array Value → World → Prop}, St W (cacheA b C).own w (cacheA b C :: blk k2 zeroLine.toArray 248 :: L) → (∀ w', St W (cacheA b C).own w' (cacheA b C :: blk k2 zeroLine.toArray 248 :: L) → Φ zeroLine.toArray w') →
      ∃ vs : Array Value, vs.size = 18 ∧ cellsAt w ⟨k2, 0, none⟩ vs ∧ vs.size = 18 ∧ (∀ j : Nat, j < 18 → (∃ v, w.cell? ⟨k2, 0 + j, none⟩ = some v) ∧ w.frozen? ⟨k2, 0 + j, none⟩ = false) ∧ (∀ v : Value, v ∈ vs.toList → v.oneCell' = true) ∧ ∀ w' : World, w' = w.setCells k2 0 vs.toList → ∃ vs2 : Array Value, vs2.size = 18 ∧ cellsAt w' ⟨k2, 0, none⟩ vs2 ∧ Φ vs2 w' :=
    fun H hq => ⟨_, rfl, H.cells 1 rfl, H.sts0 1 rfl rfl rfl (line_one 0 0 zero16) fun w' H => ⟨_, rfl, H.cells 1 rfl, hq w' H⟩⟩
  have H := St.begin (A := cacheA b C) h
  refine vc101 b 0 a _ s (H.al fun k w2 H => H.al fun k2 w3 H => ?_)
  have H : St W (cacheA b C).own w3 [cacheA b C, blk k2 zeroLine.toArray 248, blk k (u8n bs).toArray 246] := H.pick [0, 2, 1]
  have bad : a % 16 ≠ 0 ∨ s < 1 ∨ s > 3 → ∀ w', St W (cacheA b C).own w' [cacheA b C, blk k2 zeroLine.toArray 248, blk k (u8n bs).toArray 246] → FillPost W b C a bs s (.returned (.tuple #[.agg zeroLine.toArray, .bool false, errN 3])) w' := fun e w' H => by
    unfold FillPost; rw [if_pos e]; exact ⟨rfl, H.post 0 rfl⟩
  refine ⟨fun w => w = w3 ∧ ¬ (a % 16 ≠ 0 ∨ s < 1 ∨ s > 3), ?_, fun _ => ?_⟩
  · rintro z rfl
    rw [low15' ha]
    refine split_of (fun q => zl H (bad (.inl ?_))) (fun q => split_of (fun q2 => zl H (bad (.inr (.inl (of_decide_eq_true q2))))) (fun q2 => split_of (fun q3 => zl H (bad (.inr (.inr (of_decide_eq_true q3))))) (fun q3 => ⟨rfl, ?_⟩)))
    · have : ((a % 16 : Nat) : Int) ≠ 0 := by simpa using q
      omega
    · have q : ((a % 16 : Nat) : Int) = 0 := by simpa using q
      have q2 := of_decide_eq_false q2
      have q3 := of_decide_eq_false q3
      omega
  rintro w7 ⟨rfl, hgood⟩
  have hFP : ∀ e w, FillPost W b C a bs s e w = if (C.look a).isSome then e = .returned (.tuple #[.agg zeroLine.toArray, .bool false, errN 7]) ∧ Sep.Post (cacheA b C) W (cacheA b C) w
      else e = .returned (.tuple #[.agg (if (C.vway a).state ≠ 0 then (C.vway a).lineC else zeroLine).toArray, .bool (decide ((C.vway a).state ≠ 0)), .nilIface]) ∧ Sep.Post (cacheA b C) W (cacheA b (C.filled a bs s.toNat)) w := fun e w => by
    unfold FillPost; rw [if_neg hgood]
  refine ⟨fun w => C.look a = none ∧ St W (cacheA b C).own w [cacheA b C, blk k2 zeroLine.toArray 248, blk k (u8n bs).toArray 246], H.callq (find_any ho (H.nth 0 rfl) a ha) fun w8 H => ⟨_, rfl, split_of (fun q => zl H fun w' H => ?_) (fun q => ⟨?_, H⟩)⟩, fun _ => ?_⟩
  · rw [hFP, if_pos (by cases hl : C.look a with
      | none => rw [hl] at q; cases q
      | some j => rfl)]
    exact ⟨rfl, H.post 0 rfl⟩
  · cases hl : C.look a with
    | none => rfl
    | some j => rw [hl] at q; cases q
  rintro w10 ⟨hl, H⟩
  simp only [hFP, hl]
  clear hFP
  refine H.callq (set_any ho (H.nth 0 rfl) a ha) fun w11 H => ⟨_, _, _, rfl, ⟨by omega, by omega⟩, adr_some ?_⟩
  have H : St W (cacheA b C).own w11 [blk b C.root 196, sl 197 1 (.slice (some ⟨C.bs, C.bo, none⟩) C.S C.cap) C.S C.rowL, all (setsA C.gs C.sets), blk k2 zeroLine.toArray 248, blk k (u8n bs).toArray 246] := H.open_
  have hv := vic_lt (l := C.set_ (C.ix a)) (by omega) C.N (by omega)
  refine ⟨fun p w => p = some ⟨C.g (C.ix a), C.vict a * 19, none⟩ ∧ St W (cacheA b C).own w [blk b C.root 196, sl 197 1 (.slice (some ⟨C.bs, C.bo, none⟩) C.S C.cap) C.S C.rowL, all (setsA C.gs C.sets), blk k2 zeroLine.toArray 248, blk k (u8n bs).toArray 246], ⟨fun x p w => ∃ m : Nat, x = m ∧ m ≤ C.N ∧ p = some ⟨C.g (C.ix a), vic (C.set_ (C.ix a)) m * 19, none⟩ ∧ St W (cacheA b C).own w [blk b C.root 196, sl 197 1 (.slice (some ⟨C.bs, C.bo, none⟩) C.S C.cap) C.S C.rowL, all (setsA C.gs C.sets), blk k2 zeroLine.toArray 248, blk k (u8n bs).toArray 246], fun x _ _ => C.N - x.toNat, ⟨0, rfl, by omega, rfl, H⟩, fun _ => ?_⟩, fun _ => ?_⟩
  · clear H
    rintro x x2 w12 ⟨m, rfl, hm, rfl, H⟩
    refine split_of (fun q => ?_) (fun q => ?_)
    · have q := of_decide_eq_true q
      have hS : here (setsA C.gs C.sets) w12 := H.nth 2 rfl
      have e19 : 0 + ((m : Nat) : Int).toNat * 19 = m * 19 := by omega
      have hvm := vic_lt (l := C.set_ (C.ix a)) (by omega) m (by omega)
      have hg1 : (C.set_ (C.ix a))[m]? = some ((C.set_ (C.ix a)).getD m default) := by rw [List.getD_eq_getElem?_getD, List.getElem?_eq_getElem (by omega)]; rfl
      have hg2 : (C.set_ (C.ix a))[vic (C.set_ (C.ix a)) m]? = some ((C.set_ (C.ix a)).getD (vic (C.set_ (C.ix a)) m) default) := by rw [List.getD_eq_getElem?_getD, List.getElem?_eq_getElem hvm]; rfl
      refine ⟨fun x w => x = decide (((C.set_ (C.ix a)).getD m default).used < ((C.set_ (C.ix a)).getD (vic (C.set_ (C.ix a)) m) default).used) ∧ St W (cacheA b C).own w [blk b C.root 196, sl 197 1 (.slice (some ⟨C.bs, C.bo, none⟩) C.S C.cap) C.S C.rowL, all (setsA C.gs C.sets), blk k2 zeroLine.toArray 248, blk k (u8n bs).toArray 246], ⟨⟨by omega, q⟩, adr_some ?_⟩, fun _ => ?_⟩
      · rw [e19]
        refine ⟨_, way_cell ho hS hi hg1 (q := 2) (by omega) rfl, ptr_some ⟨(((C.set_ (C.ix a)).getD (vic (C.set_ (C.ix a)) m) default).used : Nat), ?_, H.drN fun w13 H => ⟨?_, H⟩⟩⟩
        · rw [add_none]; exact way_cell ho hS hi hg2 (q := 2) (by omega) rfl
        · rw [Bool.eq_iff_iff]; simp
      · rintro x3 w14 ⟨rfl, H⟩
        refine split_of (fun q2 => ⟨⟨by omega, q⟩, adr_some ?_⟩) (fun q2 => ?_)
        · have q2 := of_decide_eq_true q2
          rw [e19]
          rintro z4 rfl
          rw [w64 (by omega) (by omega)]
          exact ⟨⟨m + 1, by omega, by omega, by unfold vic; rw [if_pos q2], H⟩, by show C.N - ((m : Int) + 1).toNat < C.N - (m : Int).toNat; omega⟩
        · have q2 := of_decide_eq_false q2
          rintro z4 rfl
          rw [w64 (by omega) (by omega)]
          exact ⟨⟨m + 1, by omega, by omega, by rw [show vic (C.set_ (C.ix a)) (m + 1) = vic (C.set_ (C.ix a)) m from by rw [vic, if_neg q2]], H⟩, by show C.N - ((m : Int) + 1).toNat < C.N - (m : Int).toNat; omega⟩
    · have q := of_decide_eq_false q
      obtain rfl : m = C.N := by omega
      exact ⟨rfl, H⟩
  clear H
  rintro x4 w15 ⟨rfl, H⟩
  have hvy : (C.set_ (C.ix a))[C.vict a]? = some (C.vway a) := by unfold CS.vway; rw [List.getD_eq_getElem?_getD, List.getElem?_eq_getElem (show C.vict a < _ from hv)]; rfl
  have hyo := ho.way _ (CS.set_mem ho hi) _ (List.mem_of_getElem? hvy)
  have hS : here (setsA C.gs C.sets) w15 := H.nth 2 rfl
  refine ⟨fun x w => x = decide ((C.vway a).state ≠ 0) ∧ St W (cacheA b C).own w [blk b C.root 196, sl 197 1 (.slice (some ⟨C.bs, C.bo, none⟩) C.S C.cap) C.S C.rowL, all (setsA C.gs C.sets), blk k2 (if (C.vway a).state ≠ 0 then (C.vway a).lineC else zeroLine).toArray 248, blk k (u8n bs).toArray 246], ptr_some ⟨(C.vway a).state, ?_, split_of (fun q => ?_) (fun q => ?_)⟩, fun _ => ?_⟩
  · rw [add_none]; exact way_cell ho hS hi hvy (q := 1) (by omega) rfl
  · have q' : (C.vway a).state ≠ 0 := by have : ((C.vway a).state : Int) ≠ 0 := by simpa using q
                                         omega
    have H2 : St W (cacheA b C).own w15 (cacheA b C :: [blk k2 zeroLine.toArray 248, blk k (u8n bs).toArray 246]) := St.shut H
    refine H2.callq (as_any ho (H2.nth 0 rfl) hi hvy) fun w16 H => ⟨_, rfl, H.sts0 1 rfl (by simp [line_len hyo]) rfl (line_one _ _ _) fun w17 H => ⟨?_, ?_⟩⟩
    · rw [q, decide_eq_true q']
    · rw [if_pos q']
      exact H.open_
  · have q' : (C.vway a).state = 0 := by have : ((C.vway a).state : Int) = 0 := by simpa using q
                                         omega
    refine ⟨?_, ?_⟩
    · rw [q, decide_eq_false (by simp [q'])]
    · rw [if_neg (by simp [q'])]
      exact H
  clear H hS
  rintro x5 w18 ⟨rfl, H⟩
  have hS : here (setsA C.gs C.sets) w18 := H.nth 2 rfl
  refine ⟨(u8n bs).toArray, by simp [u8n_len, hb], H.cells 4 rfl, by simp [u8n_len, hb], ?_⟩
  rintro vs11 rfl
  refine ptr_some (adr_some ?_)
  have e : List.toArray (Value.int .u32 a :: Value.int .i64 s :: Value.int .i64 0 :: ((u8n bs).toArray.toList ++ [])) = (Way.cells ⟨a, s.toNat, 0, bs⟩).toArray := by
    rw [show s = ((s.toNat : Nat) : Int) by omega]
    simp [Way.cells]
  rw [e]
  refine ⟨by simp [Way.cells, u8n_len, hb], way_allThere ho hS hi hv, way_one _, ?_⟩
  rintro w19 rfl
  have H := H.upd 2 rfl (way_all ho hS hi hv (y := ⟨a, s.toNat, 0, bs⟩) hb)
  have hoC : (C.put (C.ix a) (C.vict a) ⟨a, s.toNat, 0, bs⟩).Ok := put_ok ho hi ⟨ha, by show s.toNat ≤ 3; omega, hb, hb2⟩
  have H : St W (cacheA b C).own _ (cacheA b (C.put (C.ix a) (C.vict a) ⟨a, s.toNat, 0, bs⟩) :: [blk k2 (if (C.vway a).state ≠ 0 then (C.vway a).lineC else zeroLine).toArray 248, blk k (u8n bs).toArray 246]) := St.shut H
  have hjp : ((C.put (C.ix a) (C.vict a) ⟨a, s.toNat, 0, bs⟩).set_ (C.ix a))[C.vict a]? = some ⟨a, s.toNat, 0, bs⟩ := by rw [put_set ho hi]; exact List.getElem?_set_self hv
  refine H.call 0 rfl (touch_any hoC (H.nth 0 rfl) hi hjp) fun w20 H => ⟨rfl, ?_⟩
  have et : (C.put (C.ix a) (C.vict a) ⟨a, s.toNat, 0, bs⟩).touched (C.ix a) (C.vict a) = C.filled a bs s.toNat := by
    rw [touched_eq hjp]
    exact put_put (C := C.tick) (tick_ok ho hc) hi _ _ _
  rw [et] at H
  have hsz : (if (C.vway a).state ≠ 0 then (C.vway a).lineC else zeroLine).toArray.size = 18 := by
    split
    · simp [line_len hyo]
    · rfl
  refine ⟨_, hsz, H.cells 1 rfl, H.sts0 1 rfl hsz hsz ?_ fun w21 H => ⟨_, hsz, H.cells 1 rfl, ?_⟩⟩
  · split
    · exact line_one _ _ _
    · exact line_one 0 0 zero16
  · rw [if_neg (by decide)]
    exact ⟨rfl, H.post 0 rfl⟩
/-! ### Lower -/
def CS.lowered (C : CS) (a j : Nat) (s : Nat) : CS := C.put (C.ix a) j (if s = 0 then zeroWay else { (C.set_ (C.ix a)).getD j default with state := s })
def LowerPost (W : World) (b : Nat) (C : CS) (a : Nat) (s : Int) (e : Ending) (w : World) : Prop :=
  if a % 16 ≠ 0 ∨ s < 0 ∨ s > 2 then e = .returned (.tuple #[.agg zeroLine.toArray, errN 3]) ∧ Sep.Post (cacheA b C) W (cacheA b C) w
  else match C.look a with
    | some j => if (C.stateAt a : Int) ≤ s then e = .returned (.tuple #[.agg zeroLine.toArray, errN 7]) ∧ Sep.Post (cacheA b C) W (cacheA b C) w
      else e = .returned (.tuple #[.agg ((C.set_ (C.ix a)).getD j default).lineC.toArray, .nilIface]) ∧ Sep.Post (cacheA b C) W (cacheA b (C.lowered a j s.toNat)) w
    | none => e = .returned (.tuple #[.agg zeroLine.toArray, errN 7]) ∧ Sep.Post (cacheA b C) W (cacheA b C) w
theorem lower_any {W : World} {b : Nat} {C : CS} (ho : C.Ok) (h : (cacheA b C).at_ W) (a : Nat) (ha : a < 4294967296) (s : Int) :
    Calls Tryz.prog 100 #[.pointer (some ⟨b, 0, none⟩), .int .u32 a, .int .i64 s] W (LowerPost W b C a s) := by
  have hi := ho.ix_lt a
  have zl : ∀ {w : World} {k2 : Nat} {L : List Asn} {Φ : Array Value → World → Prop}, St W (cacheA b C).own w (cacheA b C :: blk k2 zeroLine.toArray 248 :: L) → (∀ w', St W (cacheA b C).own w' (cacheA b C :: blk k2 zeroLine.toArray 248 :: L) → Φ zeroLine.toArray w') →
      ∀ vs : Array Value, vs = zeroLine.toArray → vs.size = 18 ∧ (∀ j : Nat, j < 18 → (∃ v, w.cell? ⟨k2, 0 + j, none⟩ = some v) ∧ w.frozen? ⟨k2, 0 + j, none⟩ = false) ∧ (∀ v : Value, v ∈ vs.toList → v.oneCell' = true) ∧ ∀ w' : World, w' = w.setCells k2 0 vs.toList → ∃ vs2 : Array Value, vs2.size = 18 ∧ cellsAt w' ⟨k2, 0, none⟩ vs2 ∧ Φ vs2 w' :=
    fun H hq vs e => by subst e; exact H.sts0 1 rfl rfl rfl (line_one 0 0 zero16) fun w' H => ⟨_, rfl, H.cells 1 rfl, hq w' H⟩
  refine vc100 b 0 a s ((St.begin (A := cacheA b C) h).al fun k w2 H => ?_)
  have H : St W (cacheA b C).own w2 [cacheA b C, blk k zeroLine.toArray 248] := H
  have bad : a % 16 ≠ 0 ∨ s < 0 ∨ s > 2 → ∀ w', St W (cacheA b C).own w' [cacheA b C, blk k zeroLine.toArray 248] → LowerPost W b C a s (.returned (.tuple #[.agg zeroLine.toArray, errN 3])) w' := fun e w' H => by
    unfold LowerPost; rw [if_pos e]; exact ⟨rfl, H.post 0 rfl⟩
  refine ⟨fun w => w = w2 ∧ ¬ (a % 16 ≠ 0 ∨ s < 0 ∨ s > 2), ?_, fun _ => ?_⟩
  · rintro z rfl
    rw [low15' ha]
    refine split_of (fun q => zl H (bad (.inl ?_))) (fun q => split_of (fun q2 => zl H (bad (.inr (.inl (of_decide_eq_true q2))))) (fun q2 => split_of (fun q3 => zl H (bad (.inr (.inr (of_decide_eq_true q3))))) (fun q3 => ⟨rfl, ?_⟩)))
    · have : ((a % 16 : Nat) : Int) ≠ 0 := by simpa using q
      omega
    · have q : ((a % 16 : Nat) : Int) = 0 := by simpa using q
      have q2 := of_decide_eq_false q2
      have q3 := of_decide_eq_false q3
      omega
  rintro w6 ⟨rfl, hgood⟩
  have hLP : ∀ e w, LowerPost W b C a s e w = match C.look a with
    | some j => if (C.stateAt a : Int) ≤ s then e = .returned (.tuple #[.agg zeroLine.toArray, errN 7]) ∧ Sep.Post (cacheA b C) W (cacheA b C) w
      else e = .returned (.tuple #[.agg ((C.set_ (C.ix a)).getD j default).lineC.toArray, .nilIface]) ∧ Sep.Post (cacheA b C) W (cacheA b (C.lowered a j s.toNat)) w
    | none => e = .returned (.tuple #[.agg zeroLine.toArray, errN 7]) ∧ Sep.Post (cacheA b C) W (cacheA b C) w := fun e w => by unfold LowerPost; rw [if_neg hgood]
  refine H.callq (find_any ho (H.nth 0 rfl) a ha) fun w7 H => ⟨_, rfl, ?_⟩
  cases hl : C.look a with
  | none =>
    refine ⟨fun w => False, split_of (fun _ => zl H fun w' H => ?_) (fun q => by cases q), fun _ => fun w hw => hw.elim⟩
    rw [hLP, hl]
    exact ⟨rfl, H.post 0 rfl⟩
  | some j =>
    obtain ⟨y, hy, hy1, hy2⟩ := look_some hl
    have hst : C.stateAt a = y.state := by
      unfold CS.stateAt; rw [hl]; simp only; rw [List.getD_eq_getElem?_getD, hy]; rfl
    have ey : (C.set_ (C.ix a)).getD j default = y := by rw [List.getD_eq_getElem?_getD, hy]; rfl
    have hyo := ho.way _ (CS.set_mem ho hi) y (List.mem_of_getElem? hy)
    have hjl := (List.getElem?_eq_some_iff.1 hy).1
    simp only [hLP, hl, hst, ey]
    have hS7 : here (setsA C.gs C.sets) w7 := (show here (C.pieces b) w7 from H.nth 0 rfl).nth 2 rfl
    refine ⟨fun w => w = w7 ∧ ¬ (y.state : Int) ≤ s, split_of (fun q => by cases q) (fun _ => ptr_some ⟨y.state, ?_, split_of (fun q => zl H fun w' H => ?_) (fun q => ⟨rfl, of_decide_eq_false q⟩)⟩), fun _ => ?_⟩
    · rw [add_none]; exact way_cell ho hS7 hi hy (q := 1) (by omega) rfl
    · rw [if_pos (of_decide_eq_true q)]
      exact ⟨rfl, H.post 0 rfl⟩
    rintro w10 ⟨rfl, hlt⟩
    refine H.callq (as_any ho (H.nth 0 rfl) hi hy) fun w11 H => ⟨_, rfl, H.al fun k7 w12 H => H.sts0 2 rfl (by simp [line_len hyo]) rfl (line_one _ _ _) fun w13 H => ?_⟩
    have H : St W (cacheA b C).own w13 (C.pieces b ++ [blk k zeroLine.toArray 248, blk k7 y.lineC.toArray 248]) := St.open_ H
    have hS : here (setsA C.gs C.sets) w13 := H.nth 2 rfl
    have hth := way_there ho hS hi hy (q := 1) (by omega)
    refine ⟨fun w => St W (cacheA b C).own w ((C.lowered a j s.toNat).pieces b ++ [blk k zeroLine.toArray 248, blk k7 y.lineC.toArray 248]), ptr_some ⟨?_, ?_, ?_⟩, fun _ => ?_⟩
    · rw [add_none]; exact hth.1
    · rw [add_none]; exact hth.2
    · rintro w14 rfl
      rw [add_none]
      have hpw := way_post ho hS hi hy (q := 1) (by omega) (y' := { y with state := s.toNat }) (v := .int .i64 s) (by
        unfold Way.cells
        rw [show ((s.toNat : Nat) : Int) = s by omega]; rfl)
      have H := H.upd 2 rfl hpw
      have hoC : (C.put (C.ix a) j { y with state := s.toNat }).Ok := put_ok ho hi ⟨hyo.line, by show s.toNat ≤ 3; omega, hyo.len, hyo.byte⟩
      refine split_of (fun q => ?_) (fun q => ?_)
      · have q : s = 0 := by simpa using q
        rintro vs12 rfl
        have hS2 : here (setsA (C.put (C.ix a) j { y with state := s.toNat }).gs (C.put (C.ix a) j { y with state := s.toNat }).sets) _ := H.nth 2 rfl
        have hjl2 : j < ((C.put (C.ix a) j { y with state := s.toNat }).set_ (C.ix a)).length := by rw [put_set ho hi, List.length_set]; exact hjl
        refine ptr_some (adr_some ⟨rfl, way_allThere hoC hS2 hi hjl2, way_one zeroWay, ?_⟩)
        rintro w15 rfl
        have H := H.upd 2 rfl (way_all hoC hS2 hi hjl2 (y := zeroWay) rfl)
        have e : C.lowered a j s.toNat = (C.put (C.ix a) j { y with state := s.toNat }).put (C.ix a) j zeroWay := by
          rw [put_put ho hi]
          unfold CS.lowered; rw [if_pos (by omega)]
        rw [e]
        exact H
      · have q : ¬ s = 0 := by simpa using q
        have e : C.lowered a j s.toNat = C.put (C.ix a) j { y with state := s.toNat } := by unfold CS.lowered; rw [if_neg (by omega), ey]
        rw [e]
        exact H
    · rintro w16 H
      have hsz : y.lineC.toArray.size = 18 := by simp [line_len hyo]
      have H : St W (cacheA b C).own w16 (cacheA b (C.lowered a j s.toNat) :: [blk k zeroLine.toArray 248, blk k7 y.lineC.toArray 248]) := St.shut H
      exact ⟨_, hsz, H.cells 2 rfl, H.sts0 1 rfl hsz rfl (line_one _ _ _) fun w17 H => ⟨_, hsz, H.cells 1 rfl, by rw [if_neg hlt]; exact ⟨rfl, H.post 0 rfl⟩⟩⟩
end Go.Proofs.YthacioiefgabbaaGreatDoor.cbus
