/- The document's window, part A: what stands in memory, beside the program's; register, able, find, Turn, Wake. No condition. -/
import Derived.Test.YtdliholhfiihcaaDoorWinF
import Derived.Test.YtdliholhfiihcaaDoorWinRVc
namespace Go.Proofs.YtdliholhfiihcaaDoor
open Go.RowKit Go.XHeap Go.Sx Go.Sep
set_option linter.unusedVariables false
set_option maxRecDepth 100000
variable {W w' : World} {b : Nat} {w v : WS}

theorem slr_cells {w : World} {e : TypeId} {size : Nat} {p : Option Addr} {m c : Nat} {xs : List Value} (h : Sl w e size (.slice p m c) m xs) (hm : 0 < m) : m ≤ c ∧ c ≤ maxLen ∧ ∃ g o, p = some ⟨g, o, none⟩ ∧ ∀ j v, xs[j]? = some v → w.cell? ⟨g, o + j, none⟩ = some v := by
  obtain ⟨hl, h⟩ := h
  rcases h with ⟨-, rfl⟩ | ⟨g, off, cap, cur, hv, hb, h1, h2, h3, h4⟩
  · omega
  · cases hv
    refine ⟨h1, h2, g, off, rfl, fun j v hj => hb.cell' ?_⟩
    have hjl := (List.getElem?_eq_some_iff.1 hj).1
    rw [← h4] at hj
    rw [← Array.getElem?_toList, ← hj, List.getElem?_take_of_lt (by omega), List.getElem?_drop]
/-- one cell of a slice of many cells is written -/
theorem slr_set {w : World} {e : TypeId} {size : Nat} {g o m c : Nat} {xs : List Value} (h : Sl w e size (.slice (some ⟨g, o, none⟩) m c) m xs) {j : Nat} (hj : j < xs.length) (x : Value) :
    (∃ v, w.cell? ⟨g, o + j, none⟩ = some v) ∧ w.frozen? ⟨g, o + j, none⟩ = false ∧ Sep.Post (sl e size (.slice (some ⟨g, o, none⟩) m c) m xs) w (sl e size (.slice (some ⟨g, o, none⟩) m c) m (xs.set j x)) (w.setCell ⟨g, o + j, none⟩ x) := by
  have h0 : Sl w e size (.slice (some ⟨g, o, none⟩) m c) m xs := h
  obtain ⟨hl, h⟩ := h
  rcases h with ⟨h, -⟩ | ⟨g', off', cap', cur, hv, hb, h1, h2, h3, h4⟩
  · simp at h
  · simp at hv
    obtain ⟨⟨rfl, rfl⟩, rfl⟩ := hv
    have hm := Nat.mul_le_mul_right size h1
    refine ⟨⟨cur[o + j], hb.cell' (Array.getElem?_eq_getElem (by omega))⟩, hb.frozen _, ⟨by simpa using hl, .inr ⟨g, o, c, _, rfl, hb.set (o + j) x, h1, h2, by simpa using h3, ?_⟩⟩, (XTouch.refl (fun k => (Value.slice (some ⟨g, o, none⟩) m c).ownBlock = some k) w).setCell (p := ⟨g, o + j, none⟩) (.inl rfl) x, fun q e => .inl e⟩
    rw [Array.toList_setIfInBounds, List.drop_set, if_neg (by omega), Nat.add_sub_cancel_left, List.take_set, h4]
/-- its last element is left out -/
theorem Sl.init {w : World} {e size n c : Nat} {p : Option Addr} {xs : List Value} (h : Sl w e size (.slice p (n + 1) c) (n + 1) xs) : Sl w e size (.slice p n c) n (xs.take (n * size)) := by
  obtain ⟨hl, h⟩ := h
  have hm : n * size ≤ (n + 1) * size := Nat.mul_le_mul_right _ (by omega)
  refine ⟨by rw [List.length_take]; omega, ?_⟩
  rcases h with ⟨-, h⟩ | ⟨g, off, cap, cur, hv, hb, h1, h2, h3, h4⟩
  · omega
  · cases hv
    refine .inr ⟨g, off, c, cur, rfl, hb, by omega, h2, h3, ?_⟩
    rw [← h4, List.take_take, Nat.min_eq_left hm]
theorem adr_eq {p : Option Addr} {g o : Nat} {f : Nat → Nat → Prop} (e : p = some ⟨g, o, none⟩) (h : f g o) : Sx.adr p f := by subst e; exact h

def Slot.ent (s : Slot) : List Value := [.int .i64 s.seq, .int .i64 s.cls, .int .i64 s.s1, .int .i64 s.s2, .int .i64 s.st]
theorem ent_len (l : List Slot) : ∀ s ∈ l, s.ent.length = 5 := fun _ _ => rfl
def WS.slots (w : WS) : List Slot := (List.range w.n).map w.slot
theorem slots_len (w : WS) : w.slots.length = w.n := by simp [WS.slots]
theorem slots_at (w : WS) {k : Nat} (hk : k < w.n) : w.slots[k]? = some (w.slot k) := by simp [WS.slots, hk]
def WS.ents (w : WS) : List Value := w.slots.flatMap Slot.ent
structure RA where
  p : Option Addr
  cap : Nat
  g : Nat
def RA.root (x : RA) (w : WS) : Array Value := #[.int .i64 w.S, .int .i64 w.next, .slice x.p w.n x.cap, .slice (some ⟨x.g, 0, none⟩) w.R w.R]
def RA.pieces (b : Nat) (x : RA) (w : WS) : List Asn := [blk b (x.root w) 52, sl 67 5 (.slice x.p w.n x.cap) w.n w.ents, blk x.g (bools w.ready) 4]
def refA (b : Nat) (x : RA) (w : WS) : Asn := all (x.pieces b w)
variable {x y : RA}
theorem ref_open (h : (refA b x w).at_ W) : St W (refA b x w).own W (x.pieces b w ++ []) := (St.begin h).open_
theorem ref_shut {L : List Asn} (H : St W (refA b x w).own w' (y.pieces b v ++ L)) : Sep.Post (refA b x w) W (refA b y v) w' := (St.shut H).post 0 rfl
theorem ref_same (h : (refA b x w).at_ W) (hh : Hush W w') : Sep.Post (refA b x w) W (refA b x w) w' := ⟨(refA b x w).keep h hh (fun _ _ e => e), hh.mono (fun _ _ e => e.elim), fun q hq => .inl hq⟩
/-- the cells of the k-th oldest -/
theorem ent_at {B : World} (h : Sl B 67 5 (.slice x.p w.n x.cap) w.n w.ents) {k : Nat} (hk : k < w.n) : ∃ g off, x.p = some ⟨g, off, none⟩ ∧ cellsAt B ⟨g, off + k * 5, none⟩ (w.slot k).ent.toArray ∧ ∀ q v, (w.slot k).ent[q]? = some v → B.cell? ⟨g, off + k * 5 + q, none⟩ = some v := by
  obtain ⟨-, g, off, hp, hc⟩ := sl_elem h (ent_len _) (slots_at w hk) (by decide)
  refine ⟨g, off, hp, hc, fun q v hq => ?_⟩
  have := hc q v (by simpa using hq)
  rwa [add_none] at this
theorem rreg_any (h : (refA b x w).at_ W) (p : Int) : Calls Tryd.prog 35 #[.pointer (some ⟨b, 0, none⟩), .int .i64 p] W fun e w2 => e = .returned (.bool (w.regOk p)) ∧ w2 = W := by
  have H := ref_open h
  refine vc35 b 0 p (split_of (fun q => ⟨_, _, _, H.ld 0 rfl rfl, ?_, rfl⟩) (fun q => ⟨?_, rfl⟩))
  · have q := of_decide_eq_true q
    unfold WS.regOk
    rw [show decide (-1 ≤ p) = true from decide_eq_true (by omega), Bool.true_and]
  · have q := of_decide_eq_false q
    unfold WS.regOk
    rw [show decide (-1 ≤ p) = false from decide_eq_false (by omega), Bool.false_and]
theorem rdy_cell (ho : w.Ok) {B : World} {g : Nat} (h : Blk B g (bools w.ready) 4) {s : Int} (h0 : 0 ≤ s) (h1 : s < w.R) : B.cell? ⟨g, 0 + s.toNat * 1, none⟩ = some (.bool (w.ready.getD s.toNat false)) := by
  have hl := ho.ready
  refine h.cell' ?_
  rw [show 0 + s.toNat * 1 = s.toNat by omega]
  refine bools_get ?_
  rw [List.getD_eq_getElem?_getD, List.getElem?_eq_getElem (by omega)]; rfl
theorem rable_any (ho : w.Ok) (h : (refA b x w).at_ W) (s : Slot) (hr : s.regs w.R) : Calls Tryd.prog 36 #[.pointer (some ⟨b, 0, none⟩), .agg s.ent.toArray] W fun e w2 => e = .returned (.bool (w.able s)) ∧ Hush W w2 := by
  refine vc36 b 0 s.ent.toArray ((St.nil W).al fun k w2 H => ?_)
  have h2 : (refA b x w).at_ w2 := (refA b x w).keep h H.touch (fun _ _ e => e)
  have H : St W No w2 [blk k s.ent.toArray 67] := H
  have R := ref_open h2
  have hrd : Blk w2 x.g (bools w.ready) 4 := R.nth 2 rfl
  have fin : ∀ (n : Nat) (t : Bool), t = w.able s → Ending.returned (.bool t) = .returned (.bool (w.able s)) ∧ Hush W (w2.drewN n) := fun n t e => ⟨by rw [e], (H.drewN n).touch⟩
  refine ⟨s.st, H.ld 0 rfl rfl, split_of (fun q => ?_) (fun q w8 n hw => ?_)⟩
  · have q : s.st = 0 := by have : ((s.st : Nat) : Int) = 0 := by simpa using q
                            omega
    have hst : decide (s.st = 0) = true := decide_eq_true q
    refine ⟨s.s1, H.ld 0 rfl rfl, split_of (fun q1 => ?_) (fun q1 => ?_)⟩
    · have q1 := of_decide_eq_true q1
      have e1 : w.has s.s1 = true := by unfold WS.has; rw [decide_eq_true q1]; rfl
      refine ⟨s.s2, H.ld 0 rfl rfl, split_of (fun q2 => ?_) (fun q2 => ?_)⟩
      · have q2 := of_decide_eq_true q2
        rintro w3 n rfl
        exact fin n _ (by unfold WS.able WS.has; rw [hst, decide_eq_true q1, decide_eq_true q2]; rfl)
      · have q2 := of_decide_eq_false q2
        refine ⟨_, _, _, R.ld 0 rfl rfl, s.s2, H.ld 0 rfl rfl, ⟨by omega, hr.2⟩, adr_some ⟨_, rdy_cell ho hrd (by omega) hr.2, ?_⟩⟩
        rintro w3 n rfl
        exact fin n _ (by unfold WS.able WS.has; rw [hst, decide_eq_true q1, decide_eq_false q2]; rfl)
    · have q1 := of_decide_eq_false q1
      refine ⟨_, _, _, R.ld 0 rfl rfl, s.s1, H.ld 0 rfl rfl, ⟨by omega, hr.1⟩, adr_some ⟨_, rdy_cell ho hrd (by omega) hr.1, split_of (fun q3 => ?_) (fun q3 => ?_)⟩⟩
      · refine ⟨s.s2, H.ld 0 rfl rfl, split_of (fun q2 => ?_) (fun q2 => ?_)⟩
        · have q2 := of_decide_eq_true q2
          rintro w3 n rfl
          exact fin n _ (by unfold WS.able WS.has; rw [hst, q3, decide_eq_false q1, decide_eq_true q2]; rfl)
        · have q2 := of_decide_eq_false q2
          refine ⟨_, _, _, R.ld 0 rfl rfl, s.s2, H.ld 0 rfl rfl, ⟨by omega, hr.2⟩, adr_some ⟨_, rdy_cell ho hrd (by omega) hr.2, ?_⟩⟩
          rintro w3 n rfl
          exact fin n _ (by unfold WS.able WS.has; rw [hst, q3, decide_eq_false q1, decide_eq_false q2]; rfl)
      · rintro w3 n rfl
        exact fin n _ (by unfold WS.able WS.has; rw [hst, q3, decide_eq_false q1]; rfl)
  · have q : ¬ s.st = 0 := fun e => by rw [e] at q; simp at q
    subst hw
    exact fin n _ (by unfold WS.able; rw [decide_eq_false q]; rfl)
theorem rwake_any (ho : w.Ok) (h : (refA b x w).at_ W) (p : Int) :
    Calls Tryd.prog 18 #[.pointer (some ⟨b, 0, none⟩), .int .i64 p] W fun e w2 => if p < 0 ∨ (w.R : Int) ≤ p then e = .returned (.int .i64 3) ∧ Sep.Post (refA b x w) W (refA b x w) w2 else e = .returned (.int .i64 0) ∧ Sep.Post (refA b x w) W (refA b x (w.woken p.toNat)) w2 := by
  have H := ref_open h
  have bad : (p < 0 ∨ (w.R : Int) ≤ p) → ∀ w2, w2 = W → (if p < 0 ∨ (w.R : Int) ≤ p then Ending.returned (.int .i64 3) = .returned (.int .i64 3) ∧ Sep.Post (refA b x w) W (refA b x w) w2 else Ending.returned (.int .i64 3) = .returned (.int .i64 0) ∧ Sep.Post (refA b x w) W (refA b x (w.woken p.toNat)) w2) := fun e w2 e2 => by
    subst e2; rw [if_pos e]; exact ⟨rfl, ref_same h (XTouch.refl _ _)⟩
  refine vc18 b 0 p (split_of (fun q => bad (.inl (of_decide_eq_true q)) _ rfl) (fun q => ⟨_, _, _, H.ld 0 rfl rfl, split_of (fun q1 => bad (.inr (of_decide_eq_true q1)) _ rfl) (fun q1 => ?_)⟩))
  have q := of_decide_eq_false q
  have q1 := of_decide_eq_false q1
  have hp : p.toNat < w.R := by omega
  refine ⟨_, _, _, H.ld 0 rfl rfl, ⟨by omega, by omega⟩, adr_some ?_⟩
  rw [show 0 + p.toNat * 1 = p.toNat by omega]
  refine H.st 2 rfl (by rw [bools_size, ho.ready]; exact hp) fun w3 H => ?_
  rw [if_neg (by omega)]
  rw [bools_set] at H
  exact ⟨rfl, ref_shut (v := w.woken p.toNat) (L := []) H⟩
theorem rfind_any (h : (refA b x w).at_ W) (hn : w.n ≤ 64) (seq : Int) : Calls Tryd.prog 37 #[.pointer (some ⟨b, 0, none⟩), .int .i64 seq] W fun e w2 => e = .returned (.int .i64 (match w.find seq with | some k => (k : Nat) | none => -1)) ∧ w2 = W := by
  have H := ref_open h
  refine vc37 b 0 seq ⟨fun i A => A = W ∧ ∃ j : Nat, i = j ∧ j ≤ w.n ∧ ∀ k, k < j → (w.slot k).seq ≠ seq, fun i _ => w.n - i.toNat, ⟨rfl, 0, rfl, Nat.zero_le _, fun k hk => by omega⟩, fun _ => ?_⟩
  rintro i A ⟨rfl, j, rfl, hj, hnot⟩
  refine ⟨_, _, _, H.ld 0 rfl rfl, split_of (fun q => ?_) (fun q => ?_)⟩
  · have q := of_decide_eq_true q
    have hjn : j < w.n := by omega
    obtain ⟨g, off, hp, -, hc⟩ := ent_at (H.nth 1 rfl) hjn
    refine ⟨_, _, _, H.ld 0 rfl rfl, ⟨by omega, q⟩, adr_eq hp ⟨_, hc 0 _ rfl, split_of (fun q1 => ?_) (fun q1 => ?_)⟩⟩
    · rw [find_of hjn (by simpa using q1) hnot]
      exact ⟨rfl, rfl⟩
    · rintro z rfl
      rw [w64 (by omega) (by omega)]
      refine ⟨⟨rfl, j + 1, by omega, by omega, fun k hk => ?_⟩, by show w.n - ((j : Int) + 1).toNat < w.n - (j : Int).toNat; omega⟩
      by_cases e : k = j
      · subst e; simpa using q1
      · exact hnot k (by omega)
  · have q := of_decide_eq_false q
    obtain rfl : j = w.n := by omega
    rw [find_none hnot]
    exact ⟨rfl, rfl⟩
theorem turned_n (w : WS) (k to : Nat) : (w.turned k to).n = w.n := rfl
theorem slot_ne {w : WS} (ho : w.Ok) {j k : Nat} (hj : j < w.n) (hk : k < w.n) (h : j ≠ k) : w.ix j ≠ w.ix k := by
  have hn := ho.n
  have hh := ho.head
  have key : ∀ i, i < w.S → w.ix i = if w.head + i < w.S then w.head + i else w.head + i - w.S := fun i hi => by
    unfold WS.ix
    split
    · rename_i e; exact Nat.mod_eq_of_lt e
    · rename_i e; rw [Nat.mod_eq_sub_mod (by omega), Nat.mod_eq_of_lt (by omega)]
  rw [key j (by omega), key k (by omega)]
  split <;> split <;> omega
theorem turned_slot (ho : w.Ok) {k to : Nat} (hk : k < w.n) {j : Nat} (hj : j < w.n) : (w.turned k to).slot j = if j = k then { w.slot k with st := to } else w.slot j := by
  have e1 : (w.turned k to).ix j = w.ix j := rfl
  unfold WS.slot
  rw [e1]
  show (w.ring.set (w.ix k) _).getD (w.ix j) default = _
  have hi := ho.ix_lt k
  by_cases e : j = k
  · subst e
    rw [if_pos rfl, List.getD_eq_getElem?_getD, List.getElem?_set_self hi]; rfl
  · rw [if_neg e, List.getD_eq_getElem?_getD, List.getElem?_set_ne (Ne.symm (slot_ne ho hj hk e)), ← List.getD_eq_getElem?_getD]
theorem turned_slots (ho : w.Ok) {k to : Nat} (hk : k < w.n) : (w.turned k to).slots = w.slots.set k { w.slot k with st := to } := by
  apply List.ext_getElem?
  intro j
  by_cases hj : j < w.n
  · rw [slots_at _ (by exact hj), turned_slot ho hk hj]
    by_cases e : j = k
    · subst e
      rw [if_pos rfl, List.getElem?_set_self (by rw [slots_len]; exact hj)]
    · rw [if_neg e, List.getElem?_set_ne (Ne.symm e), slots_at w hj]
  · rw [List.getElem?_eq_none (by rw [slots_len]; exact Nat.le_of_not_lt hj), List.getElem?_eq_none (by rw [List.length_set, slots_len]; omega)]
theorem flat_set : ∀ {l : List Slot} {k : Nat} {s s' : Slot}, l[k]? = some s → s'.ent = s.ent.set 4 (.int .i64 s'.st) → (l.flatMap Slot.ent).set (k * 5 + 4) (.int .i64 s'.st) = (l.set k s').flatMap Slot.ent
  | [], k, s, s', h, _ => by simp at h
  | a :: l, 0, s, s', h, he => by
    simp at h; subst h
    rw [List.set_cons_zero, List.flatMap_cons, List.flatMap_cons, he, List.set_append_left _ _ (by show 0 * 5 + 4 < 5; omega)]
  | a :: l, k + 1, s, s', h, he => by
    rw [List.set_cons_succ, List.flatMap_cons, List.flatMap_cons, List.set_append_right _ _ (by show 5 ≤ (k + 1) * 5 + 4; omega)]
    have : (k + 1) * 5 + 4 - a.ent.length = k * 5 + 4 := by show (k + 1) * 5 + 4 - 5 = _; omega
    rw [this, flat_set (by simpa using h) he]
theorem find_lt {seq : Int} {k : Nat} (hf : w.find seq = some k) : k < w.n := by
  unfold WS.find at hf
  exact List.mem_range.1 (List.mem_of_find?_eq_some hf)
def rTurnPost (W : World) (b : Nat) (x : RA) (w : WS) (seq : Int) (a to : Nat) (e : Ending) (w2 : World) : Prop := match w.turn seq a to with
  | some k => e = .returned (.int .i64 0) ∧ Sep.Post (refA b x w) W (refA b x (w.turned k to)) w2
  | none => e = .returned (.int .i64 7) ∧ Sep.Post (refA b x w) W (refA b x w) w2
theorem rturn_any (ho : w.Ok) (h : (refA b x w).at_ W) (hr : ∀ k, k < w.n → (w.slot k).regs w.R) (seq : Int) (a to : Nat) :
    Calls Tryd.prog 22 #[.pointer (some ⟨b, 0, none⟩), .int .i64 seq, .int .i64 a, .int .i64 to] W (rTurnPost W b x w seq a to) := by
  have hn64 : w.n ≤ 64 := Nat.le_trans ho.n ho.s1
  refine vc22 b 0 seq a to ((rfind_any h hn64 seq).mono ?_)
  rintro e w2 ⟨rfl, rfl⟩
  have bad : ∀ {w3 : World}, Hush w2 w3 → w.turn seq a to = none → rTurnPost w2 b x w seq a to (.returned (.int .i64 7)) w3 := fun hh e => by unfold rTurnPost; rw [e]; exact ⟨rfl, ref_same h hh⟩
  have H := ref_open h
  cases hf : w.find seq with
  | none => exact ⟨_, rfl, split_of (fun _ => bad (XTouch.refl _ _) (by unfold WS.turn; rw [hf])) (fun q => by simp at q)⟩
  | some k =>
    have hk := find_lt hf
    obtain ⟨g, off, hp, hcs, hc⟩ := ent_at (H.nth 1 rfl) hk
    refine ⟨((k : Nat) : Int), rfl, split_of (fun q => ?_) (fun _ => ?_)⟩
    · have q := of_decide_eq_true q
      omega
    refine ⟨_, _, _, H.ld 0 rfl rfl, ⟨by omega, by omega⟩, adr_eq hp ?_⟩
    rw [Int.toNat_natCast]
    refine ⟨_, hc 4 _ rfl, split_of (fun q => ?_) (fun q => ?_)⟩
    · have q : ¬ (w.slot k).st = a := fun e => by rw [e] at q; simp at q
      exact bad (XTouch.refl _ _) (by unfold WS.turn; rw [hf]; exact if_neg (fun e => q e.1))
    have q : (w.slot k).st = a := by have : ((w.slot k).st : Int) = (a : Int) := by simpa using q
                                     omega
    refine ⟨_, _, _, H.ld 0 rfl rfl, ⟨by omega, by omega⟩, adr_eq hp ?_⟩
    refine ⟨(w.slot k).ent.toArray, rfl, hcs, (rable_any ho h (w.slot k) (hr k hk)).mono ?_⟩
    rintro e w3 ⟨rfl, hh⟩
    have H : St w2 (refA b x w).own w3 (x.pieces b w ++ []) := H.quiet hh
    have good : (to = 1 → w.able (w.slot k) = true) → (∃ p3 k9 k10, w3.cell? ⟨b, 0 + 2, none⟩ = some (.slice p3 k9 k10) ∧ ((0 : Int) ≤ (k : Nat) ∧ ((k : Nat) : Int) < (k9 : Nat)) ∧ Sx.adr p3 fun k11 k12 => (∃ v, w3.cell? ⟨k11, k12 + k * 5 + 4, none⟩ = some v) ∧ w3.frozen? ⟨k11, k12 + k * 5 + 4, none⟩ = false ∧ ∀ w4, w4 = w3.setCell ⟨k11, k12 + k * 5 + 4, none⟩ (.int .i64 (to : Nat)) → rTurnPost w2 b x w seq a to (.returned (.int .i64 0)) w4) := by
      intro hab
      refine ⟨_, _, _, H.ld 0 rfl rfl, ⟨by omega, by omega⟩, adr_eq hp ?_⟩
      have hs := H.nth 1 rfl
      have hs' : Sl w3 67 5 (.slice (some ⟨g, off, none⟩) w.n x.cap) w.n w.ents := by rw [← hp]; exact hs
      have hel : w.ents.length = w.n * 5 := hs.1
      have hset := slr_set hs' (j := k * 5 + 4) (by rw [hel]; omega) (.int .i64 (to : Nat))
      rw [← Nat.add_assoc] at hset
      refine ⟨hset.1, hset.2.1, ?_⟩
      rintro w4 rfl
      have et : w.turn seq a to = some k := by unfold WS.turn; rw [hf]; exact if_pos ⟨q, hab⟩
      unfold rTurnPost
      rw [et]
      refine ⟨rfl, ?_⟩
      have hP := hset.2.2
      rw [← hp] at hP
      have H := H.upd 1 rfl hP
      have ee : w.ents.set (k * 5 + 4) (.int .i64 (to : Nat)) = (w.turned k to).ents := by
        unfold WS.ents
        rw [turned_slots ho hk]
        exact flat_set (s' := { w.slot k with st := to }) (slots_at w hk) rfl
      rw [ee] at H
      exact ref_shut (v := w.turned k to) (L := []) H
    refine ⟨_, rfl, split_of (fun q1 => split_of (fun q2 => ?_) (fun q2 => ?_)) (fun q1 => ?_)⟩
    · have q1 : to = 1 := by have : ((to : Nat) : Int) = 1 := by simpa using q1
                             omega
      have q2 : ¬ w.able (w.slot k) = true := by simpa using q2
      exact bad hh (by unfold WS.turn; rw [hf]; exact if_neg (fun e => q2 (e.2 q1)))
    · exact good (fun _ => by simpa using q2)
    · exact good (fun e => by rw [e] at q1; simp at q1)
end Go.Proofs.YtdliholhfiihcaaDoor
