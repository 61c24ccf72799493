/- A core: making one. No condition. -/
import Derived.Test.YthacioiefgabbaaGreatDoorCoreK
import Derived.Test.YthacioiefgabbaaGreatDoorCoreVe
namespace Go.Proofs.YthacioiefgabbaaGreatDoor
open Go.RowKit Go.XHeap Go.Sx Go.Sep
set_option linter.unusedVariables false
set_option maxRecDepth 100000
variable {W w : World} {x : Nat} {C : KC} {K K' : KS} {L : List Asn} {b j : Nat} {F F' : Fl} {M : Nat → Prop}

/-- all that newCore asks -/
def Cf.ok (c : Cf) : Prop := c.chk ∧ c.winB = true ∧ c.namB = true ∧ c.queB = true ∧ c.preB = true
def nilS : Value := .slice none 0 0
def trail0 : Array Value := #[.slice none 0 0, .slice none 0 0, .slice none 0 0]
/-- what newCore is handed -/
def preL (B : World) (tb cb : Nat) : List Asn := [tabsA B, blk tb trail0 83, blk cb #[.int .u32 ebreakW] 43]
def preA (B : World) (tb cb : Nat) : Asn := all (preL B tb cb)
structure Made (c : Cf) (B : World) (tb cb bb : Nat) (y : Nat × KC × KS) : Prop where
  good : Good y.2.1
  fr : Fr y.2.1 y.2.2
  c : y.2.1.c = c
  B : y.2.1.B = B
  tb : y.2.1.tb = tb
  cb : y.2.1.cb = cb
  bb : y.2.1.bb = bb
def NewIs (c : Cf) (B : World) (tb cb bb : Nat) (W : World) (e : Ending) (w : World) : Prop :=
  (c.ok ∧ ∃ y : { y : Nat × KC × KS // Made c B tb cb bb y }, e = .returned (.tuple #[.pointer (some ⟨y.1.1, 0, none⟩), .nilIface]) ∧ Sep.Post (preA B tb cb) W (coreA y.1.1 y.1.2.1 y.1.2.2) w) ∨
  (¬ c.ok ∧ e = .returned (.tuple #[.pointer none, err2]) ∧ Sep.Post (preA B tb cb) W (preA B tb cb) w)
def errsC (a b c d : Value) : Array Value := #[a, b, c, d]
theorem err2_nil {φ : Bool → Prop} (h : φ false) : Sx.isNil err2 φ := h
def root0 (c : Cf) (cb bb tb rb : Nat) (pw pn pq pp : Option Addr) (vs : Value) : Array Value := #[.pointer pw, .pointer pn, .pointer pq, .pointer pp, .pointer (some ⟨rb, 0, none⟩), .pointer (some ⟨bb, 0, none⟩), .pointer (some ⟨tb, 0, none⟩), vs,
  .int .i64 c.width, .int .i64 c.window, .int .i64 c.queue, .int .i64 c.regs, .int .i64 c.units, .int .i64 c.mul, .bool c.bold, .int .i64 c.kind, .int .i64 c.bits, .int .i64 c.hist, .int .i64 c.tgts, .int .i64 c.rets, .int .i64 c.sets, .int .i64 c.ways, .int .i64 c.bus,
  .int .i64 0, .slice (some ⟨cb, 0, none⟩) 1 1, .int .i64 0, .int .u32 0, .int .u32 0, .slice none 0 0, .int .i64 0, .bool false, .bool false, .int .u32 0, .bool false]
theorem newcore_any {B : World} {tb cb : Nat} (h : (preA B tb cb).at_ W) (c : Cf) (bb : Nat) :
    Calls Tryz.prog 24 #[.int .i64 0, .slice (some ⟨cb, 0, none⟩) 1 1, .int .i64 0, .agg c.cells, .pointer (some ⟨bb, 0, none⟩), .pointer (some ⟨tb, 0, none⟩)] W (NewIs c B tb cb bb W) := by
  have H : St W (preA B tb cb).own W (preL B tb cb ++ []) := (St.begin h).open_
  have fin : ∀ {A : World} {L : List Asn}, ¬ c.ok → St W (preA B tb cb).own A (preL B tb cb ++ L) → NewIs c B tb cb bb W (.returned (.tuple #[.pointer none, err2])) A := fun hn H => .inr ⟨hn, rfl, (St.shut H).post 0 rfl⟩
  refine vc24 0 _ 1 1 0 c.cells bb 0 tb 0 (H.al fun k w2 H => ⟨c.cells, rfl, H.cells 3 rfl, ?_⟩)
  have H : St W (preA B tb cb).own w2 (preL B tb cb ++ [blk k c.cells 29]) := H
  refine (check_any c w2).mono ?_
  rintro e w3 ⟨he, hh⟩
  have H := H.quiet hh
  rcases he with ⟨hchk, rfl⟩ | ⟨hchk, rfl⟩
  rotate_left
  · exact ⟨err2, rfl, err2_nil (split_of (fun _ => fin (fun h => hchk h.1) H) (fun q => by cases q))⟩
  refine ⟨_, rfl, nil_true (split_of (fun q => by cases q) (fun _ => ⟨c.cells, rfl, H.cells 3 rfl, rfl, ?_⟩))⟩
  rintro vs3 rfl
  refine H.al fun k2 w4 H => H.st 4 rfl (by show 5 < 34; omega) fun w5 H => H.st 4 rfl (by show 6 < 34; omega) fun w6 H => ?_
  refine H.calln (csr.newregs_any 0 w6) fun rx w7 H => ⟨_, rfl, H.st 4 rfl (by show 4 < 34; omega) fun w8 H => H.al fun k3 w9 H => ?_⟩
  have H : St W (preA B tb cb).own w9 (preL B tb cb ++ [blk k c.cells 29, blk k2 (root0 c cb bb tb rx.1 none none none none nilS) 147, csr.regsA rx.1 rx.2 ⟨csr.wr 0, 0, fun _ => none⟩, blk k3 (errsC .nilIface .nilIface .nilIface .nilIface) 149]) := H
  refine ⟨c.window, H.ld 3 rfl rfl, c.regs, H.ld 3 rfl rfl, H.calln (wnew_b c w9) fun wx w10 H => ⟨_, _, rfl, H.st 4 rfl (by show 0 < 34; omega) fun w11 H => ⟨⟨by decide, by decide⟩, eO_one (H.st 6 rfl (by show 0 < 4; omega) fun w12 H => ?_)⟩⟩⟩
  refine ⟨c.regs, H.ld 3 rfl rfl, H.calln (rnew_b c w12) fun nx w13 H => ⟨_, _, rfl, H.st 4 rfl (by show 1 < 34; omega) fun w14 H => ⟨⟨by decide, by decide⟩, eO_one (H.st 6 rfl (by show 1 < 4; omega) fun w15 H => ?_)⟩⟩⟩
  refine ⟨c.queue, H.ld 3 rfl rfl, H.calln (qnew_b c w15) fun qx w16 H => ⟨_, _, rfl, H.st 4 rfl (by show 2 < 34; omega) fun w17 H => ⟨⟨by decide, by decide⟩, eO_one (H.st 6 rfl (by show 2 < 4; omega) fun w18 H => ?_)⟩⟩⟩
  refine ⟨gsC c.kind c.bits c.hist c.tgts c.rets, rfl, H.lds 3 rfl (fun i u hu => ?_), H.calln (pnew_b c w18) fun px w19 H => ⟨_, _, rfl, H.st 4 rfl (by show 3 < 34; omega) fun w20 H => ⟨⟨by decide, by decide⟩, eO_one (H.st 6 rfl (by show 3 < 4; omega) fun w21 H => ?_)⟩⟩⟩
  · rcases i with _ | _ | _ | _ | _ | i
    · exact hu
    · exact hu
    · exact hu
    · exact hu
    · exact hu
    · cases hu
  have H : St W (preA B tb cb).own w21 (preL B tb cb ++ [blk k c.cells 29, blk k2 (root0 c cb bb tb rx.1 (pO c.winB wx.1.1) (pO c.namB nx.1) (pO c.queB qx) (pO c.preB px.1.1) nilS) 147, csr.regsA rx.1 rx.2 ⟨csr.wr 0, 0, fun _ => none⟩, blk k3 (errsC (eO c.winB) (eO c.namB) (eO c.queB) (eO c.preB)) 149, aO c.winB (win.winA wx.1.1 wx.1.2), aO c.namB (nmA nx.1 nx.2), aO c.queB (lsq.qA qx ⟨c.queue.toNat, none, 0, []⟩), aO c.preB (predA px.1.1 px.1.2)]) := H
  obtain ⟨oks, hoks⟩ : ∃ oks, oks = [c.winB, c.namB, c.queB, c.preB] := ⟨_, rfl⟩
  refine ⟨errsC (eO c.winB) (eO c.namB) (eO c.queB) (eO c.preB), rfl, H.cells 6 rfl, fun i A => ∃ m : Nat, i = m ∧ m ≤ 4 ∧ (∀ j, j < m → oks[j]? = some true) ∧ A = w21, fun i _ => 4 - i.toNat, ⟨0, rfl, by decide, fun j hj => absurd hj (Nat.not_lt_zero _), rfl⟩, fun _ => ?_⟩
  rintro i w22 ⟨m, rfl, hm, hall, rfl⟩
  refine split_of (fun q => ?_) (fun q => ?_)
  · have q := of_decide_eq_true q
    have hm4 : m < 4 := by omega
    obtain ⟨o, ho⟩ : ∃ o, oks[m]? = some o := ⟨_, List.getElem?_eq_getElem (by rw [hoks]; exact hm4)⟩
    have hv : (errsC (eO c.winB) (eO c.namB) (eO c.queB) (eO c.preB))[((m : Nat) : Int).toNat * 1]? = some (eO o) := by
      rw [Nat.mul_one, Int.toNat_natCast]
      rw [hoks] at ho
      rcases (by omega : m = 0 ∨ m = 1 ∨ m = 2 ∨ m = 3) with rfl | rfl | rfl | rfl <;> (cases ho; rfl)
    refine ⟨⟨by omega, q⟩, _, hv, eO_isNil (split_of (fun q2 => ?_) (fun q2 => ?_))⟩
    · have ho0 : o = false := by simpa using q2
      subst ho0
      refine fin (fun hk => ?_) H
      rw [hoks, hk.2.1, hk.2.2.1, hk.2.2.2.1, hk.2.2.2.2] at ho
      rcases (by omega : m = 0 ∨ m = 1 ∨ m = 2 ∨ m = 3) with rfl | rfl | rfl | rfl <;> cases ho
    · have ho1 : o = true := by simpa using q2
      subst ho1
      rintro z5 rfl
      rw [w64 (by omega) (by omega)]
      refine ⟨⟨m + 1, by omega, by omega, fun j hj => ?_, rfl⟩, by show 4 - ((m : Int) + 1).toNat < 4 - (m : Int).toNat; omega⟩
      by_cases e : j = m
      · subst e; exact ho
      · exact hall j (by omega)
  · have q := of_decide_eq_false q
    obtain rfl : m = 4 := by omega
    have h1 : c.winB = true := by have := hall 0 (by decide); rw [hoks] at this; exact Option.some.inj this
    have h2 : c.namB = true := by have := hall 1 (by decide); rw [hoks] at this; exact Option.some.inj this
    have h3 : c.queB = true := by have := hall 2 (by decide); rw [hoks] at this; exact Option.some.inj this
    have h4 : c.preB = true := by have := hall 3 (by decide); rw [hoks] at this; exact Option.some.inj this
    have hR : 34 ≤ c.regs ∧ c.regs ≤ 128 := of_decide_eq_true h2
    rw [pO_t h1, pO_t h2, pO_t h3, pO_t h4, aO_t h1, aO_t h2, aO_t h3, aO_t h4] at H
    refine ⟨c.regs, H.ld 3 rfl rfl, ⟨by omega, by omega, by omega, by omega⟩, H.al fun k4 w23 H => H.st 4 rfl (by show 7 < 34; omega) fun w24 H => ?_⟩
    rw [Nat.mul_one, ints_made] at H
    have H := H.add (A := sl 71 12 (.slice none 0 0) 0 []) ⟨Sl.nil _ _ _, XTouch.refl _ _, fun q e => by cases e⟩
    have H := H.add (A := sl 236 1 (.slice none 0 0) 0 []) ⟨Sl.nil _ _ _, XTouch.refl _ _, fun q e => by cases e⟩
    have H := H.add (A := flsA []) ⟨trivial, XTouch.refl _ _, fun q e => e.elim⟩
    have hw := wx.2 h1
    refine .inl ⟨⟨hchk, h1, h2, h3, h4⟩, ⟨(k2, ⟨B, c, cb, wx.1.1, nx.1, qx, px.1.1, rx.1, rx.2, bb, tb, k4, nx.2, c.queue.toNat, px.1.2, ⟨csr.wr 0, 0, fun _ => none⟩, .slice none 0 0⟩, ⟨wx.1.2, 0, 0, none, 0, 0, 0, [], 0, false, false, none, 0, 0, []⟩), ⟨⟨px.2, rfl⟩, ⟨rfl, rfl, rfl, rfl, hw.w, rfl, rfl, rfl, hw.S⟩, rfl, rfl, rfl, rfl, rfl⟩⟩, rfl, ?_⟩
    have H := H.pick [4, 0, 7, 8, 9, 10, 5, 11, 1, 12, 13, 14, 2]
    exact (St.shut (L' := []) H).post 0 rfl
end Go.Proofs.YthacioiefgabbaaGreatDoor
