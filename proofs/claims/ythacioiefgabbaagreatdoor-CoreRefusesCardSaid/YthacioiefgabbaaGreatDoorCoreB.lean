import Derived.Test.YthacioiefgabbaaGreatDoorCoreVc
import Derived.Test.YthacioiefgabbaaGreatDoorTabA
import Derived.Test.YthacioiefgabbaaGreatDoorCsrA
import Derived.Test.YthacioiefgabbaaGreatDoorRnA
import Derived.Test.YthacioiefgabbaaGreatDoorWinQ
import Derived.Test.YthacioiefgabbaaGreatDoorLsqD
import Derived.Test.YthacioiefgabbaaGreatDoorBits
/- A core as it lies in memory. No condition. -/
namespace Go.Proofs.YthacioiefgabbaaGreatDoor
open Go.RowKit Go.XHeap Go.Sx Go.Sep
set_option linter.unusedVariables false
set_option maxRecDepth 100000

/-- an instruction on its way -/
structure Fl where
  seq : Int
  pc : Int
  word : Int
  i : Ins
  cls : Int
  mh : Int
  mt : Int
  mv : Int
  guess : Int
  a : Int
  b : Int
  fresh : Int
  old : Int
  value : Int
  next : Int
  taken : Bool
  cause : Int
  tval : Int
  issued : Bool
  done : Bool
  ready : Int
  placed : Bool
  addr : Int
  spoils : Bool
def Fl.cells (f : Fl) : Array Value := #[.int .i64 f.seq, .int .u32 f.pc, .int .u32 f.word, .int .i64 f.i.op, .int .i64 f.i.rd, .int .i64 f.i.rs1, .int .i64 f.i.rs2, .int .i64 f.i.imm, .int .i64 f.cls, .int .i64 f.mh, .int .i64 f.mt, .int .u32 f.mv, .int .u32 f.guess, .int .i64 f.a, .int .i64 f.b, .int .i64 f.fresh, .int .i64 f.old, .int .u32 f.value, .int .u32 f.next, .bool f.taken, .int .i64 f.cause, .int .u32 f.tval, .bool f.issued, .bool f.done, .int .i64 f.ready, .bool f.placed, .int .u32 f.addr, .bool f.spoils]
abbrev Fls := List (Nat × Fl)
def flptrs (l : Fls) : List Value := l.map fun x => .pointer (some ⟨x.1, 0, none⟩)
def flA (x : Nat × Fl) : Asn := blk x.1 x.2.cells 243
def flsA (l : Fls) : Asn := all (l.map flA)
/-- a configuration -/
structure Cf where
  width : Int
  window : Int
  queue : Int
  regs : Int
  units : Int
  mul : Int
  bold : Bool
  kind : Int
  bits : Int
  hist : Int
  tgts : Int
  rets : Int
  sets : Int
  ways : Int
  bus : Int
def Cf.cells (c : Cf) : Array Value := #[.int .i64 c.width, .int .i64 c.window, .int .i64 c.queue, .int .i64 c.regs, .int .i64 c.units, .int .i64 c.mul, .bool c.bold, .int .i64 c.kind, .int .i64 c.bits, .int .i64 c.hist, .int .i64 c.tgts, .int .i64 c.rets, .int .i64 c.sets, .int .i64 c.ways, .int .i64 c.bus]
/-- what of a core does not change -/
structure KC where
  B : World
  c : Cf
  cb : Nat
  wb : Nat
  nb : Nat
  qb : Nat
  gb : Nat
  rb : Nat
  mb : Nat
  bb : Nat
  tb : Nat
  vb : Nat
  N : Nm
  Q : Nat
  P : Pr
  R : csr.RS
  cs : Value
/-- what does; fl: all instructions that were ever on their way, of which n from number d on are -/
structure KS where
  w : win.WS
  pc : Int
  at_ : Int
  fp : Option Addr
  fc : Nat
  d : Nat
  n : Nat
  fl : Fls
  cycle : Int
  halted : Bool
  idle : Bool
  ep : Option Addr
  en : Nat
  ec : Nat
  es : List Value
def KS.root (C : KC) (K : KS) : Array Value := #[.pointer (some ⟨C.wb, 0, none⟩), .pointer (some ⟨C.nb, 0, none⟩), .pointer (some ⟨C.qb, 0, none⟩), .pointer (some ⟨C.gb, 0, none⟩), .pointer (some ⟨C.rb, 0, none⟩), .pointer (some ⟨C.bb, 0, none⟩), .pointer (some ⟨C.tb, 0, none⟩), .slice (some ⟨C.vb, 0, none⟩) C.c.regs.toNat C.c.regs.toNat,
  .int .i64 C.c.width, .int .i64 C.c.window, .int .i64 C.c.queue, .int .i64 C.c.regs, .int .i64 C.c.units, .int .i64 C.c.mul, .bool C.c.bold, .int .i64 C.c.kind, .int .i64 C.c.bits, .int .i64 C.c.hist, .int .i64 C.c.tgts, .int .i64 C.c.rets, .int .i64 C.c.sets, .int .i64 C.c.ways, .int .i64 C.c.bus,
  .int .i64 0, .slice (some ⟨C.cb, 0, none⟩) 1 1, .int .i64 0, .int .u32 K.pc, .int .u32 K.at_, .slice K.fp K.n K.fc, .int .i64 K.cycle, .bool false, .bool K.halted, .int .u32 0, .bool K.idle]
def KS.pieces (x : Nat) (C : KC) (K : KS) : List Asn := [blk x (K.root C) 147, tabsA C.B, win.winA C.wb K.w, nmA C.nb C.N, lsq.qA C.qb ⟨C.Q, none, 0, []⟩, predA C.gb C.P, csr.regsA C.rb C.mb C.R, blk C.vb (ints .u32 (List.replicate C.c.regs.toNat 0)) 43, blk C.tb #[.slice K.ep K.en K.ec, .slice none 0 0, C.cs] 83, sl 71 12 (.slice K.ep K.en K.ec) K.en K.es, sl 236 1 (.slice K.fp K.n K.fc) K.n (((flptrs K.fl).drop K.d).take K.n), flsA K.fl, blk C.cb #[.int .u32 ebreakW] 43]
def coreA (x : Nat) (C : KC) (K : KS) : Asn := all (K.pieces x C)
variable {W w : World} {x : Nat} {C : KC} {K K' : KS} {L : List Asn}
theorem core_open (h : (coreA x C K).at_ W) : St W (coreA x C K).own W (K.pieces x C ++ []) := (St.begin h).open_
theorem core_shut (H : St W (coreA x C K).own w (K'.pieces x C ++ L)) : Sep.Post (coreA x C K) W (coreA x C K') w := (St.shut H).post 0 rfl
/-- what was told -/
def KS.tells (K : KS) (y : Option Addr × Nat × List Value) : KS := { K with ep := y.1, en := K.en + 1, ec := y.2.1, es := y.2.2 }
theorem fl_blk {l : Fls} (h : (flsA l).at_ W) {k : Nat} {y : Nat × Fl} (hk : l[k]? = some y) : Blk W y.1 y.2.cells 243 := by
  have : (l.map flA)[k]? = some (flA y) := by simp [hk]
  exact here.nth k h this
end Go.Proofs.YthacioiefgabbaaGreatDoor
/- Sorting no numbers; a copy of a list of instructions. No condition. -/
namespace Go.Proofs.YthacioiefgabbaaGreatDoor
open Go.RowKit Go.XHeap Go.Sx Go.Sep
set_option linter.unusedVariables false
set_option maxRecDepth 100000

theorem len0 (W : World) : Calls Tryz.prog 213 #[.int .u64 0] W fun e w => e = .returned (.int .i64 0) ∧ w = W := by
  refine vc213 0 (split_of (fun q => absurd (of_decide_eq_true q) (by decide)) (fun _ => split_of (fun q => absurd (of_decide_eq_true q) (by decide)) (fun _ => split_of (fun q => absurd (of_decide_eq_true q) (by decide)) (fun _ => ?_))))
  rintro z rfl
  refine ⟨0, by decide, rfl, ?_⟩
  rintro z2 rfl z3 rfl
  exact ⟨rfl, rfl⟩
theorem len_0 (W : World) : Calls Tryz.prog 157 #[.int .u64 0] W fun e w => e = .returned (.int .i64 0) ∧ w = W :=
  vc157 0 ((len0 W).mono fun e w h => ⟨0, h.1, rfl, h.2⟩)
theorem insertion_0 (W : World) (p : Option Addr) (c : Nat) : Calls Tryz.prog 203 #[.slice p 0 c, .int .i64 0, .int .i64 0] W fun e w => e = .returned (.tuple #[]) ∧ w = W := by
  refine vc203 p 0 c 0 0 ?_
  rintro z rfl
  refine ⟨fun x w => x = 1 ∧ w = W, fun _ _ => 0, ⟨rfl, rfl⟩, fun _ => ?_⟩
  rintro x w ⟨rfl, rfl⟩
  exact split_of (fun q => absurd (of_decide_eq_true q) (by decide)) (fun _ => ⟨rfl, rfl⟩)
theorem pdq_0 (W : World) (p : Option Addr) (c : Nat) : Calls Tryz.prog 156 #[.slice p 0 c, .int .i64 0, .int .i64 0, .int .i64 0] W fun e w => e = .returned (.tuple #[]) ∧ w = W := by
  refine vc156 p 0 c 0 0 0 ⟨fun x x2 x3 x4 x5 w => x = 0 ∧ x2 = 0 ∧ w = W, fun _ _ _ _ _ _ => 0, ⟨rfl, rfl, rfl⟩, fun _ => ?_⟩
  rintro x x2 x3 x4 x5 w ⟨rfl, rfl, rfl⟩
  rintro z rfl
  exact split_of (fun _ => (insertion_0 w p c).mono fun e w h => ⟨h.1, h.1.symm ▸ rfl, h.2⟩) (fun q => absurd (of_decide_eq_false q) (by decide))
theorem sort_0 (W : World) (p : Option Addr) (c : Nat) : Calls Tryz.prog 114 #[.slice p 0 c] W fun e w => e = .returned (.tuple #[]) ∧ w = W := by
  refine vc114 p 0 c ?_
  rintro z rfl
  refine (len_0 W).mono ?_
  rintro e w ⟨rfl, rfl⟩
  exact ⟨0, rfl, (pdq_0 w p c).mono fun e w h => ⟨h.1, rfl, h.2⟩⟩
theorem clone_fl {W : World} {p : Option Addr} {n c : Nat} {xs : List Value} (h : Sl W 236 1 (.slice p n c) n xs) (hn : n ≤ 100) (h1 : ∀ u ∈ xs, u.oneCell' = true) :
    Calls Tryz.prog 106 #[.slice p n c] W fun e w => ∃ z : Option Addr × Nat, e = .returned (.slice z.1 n z.2) ∧ Sep.Post emp W (sl 236 1 (.slice z.1 n z.2) n xs) w := by
  obtain ⟨ao, cap, hv, hl, -, -, -, hc⟩ := h.open1
  cases hv
  refine vc106 p n c (split_of (fun q => ?_) (fun q => ?_))
  · have q : p = none := by simpa using q
    have h0 : n = 0 := by
      refine Nat.eq_zero_of_not_pos fun h => ?_
      obtain ⟨g, off, e, -⟩ := hc h
      rw [q] at e; cases e
    subst h0
    obtain rfl := List.length_eq_zero_iff.1 hl
    exact ⟨(none, 0), rfl, Sl.nil _ _ _, XTouch.refl _ _, fun q e => by cases e⟩
  · refine (St.nil W).al fun k w2 H => ?_
    have H := H.conv 0 (A' := sl 236 1 (.slice (some ⟨k, 0, none⟩) 0 0) 0 []) rfl (fun hb => ⟨rfl, .inr ⟨k, 0, 0, #[], rfl, hb, Nat.le_refl _, Nat.zero_le _, Nat.zero_le _, rfl⟩⟩) (fun q e => by
      have e : some k = some q := e
      exact (Option.some.inj e).symm)
    have hp : ∃ a, p = some a := by
      cases p with
      | none => cases q
      | some a => exact ⟨a, rfl⟩
    obtain ⟨a, rfl⟩ := hp
    have h2 : Sl w2 236 1 (.slice (some a) n c) n xs := h.keep H.touch (fun _ _ e => e)
    obtain ⟨ao, cap, hv, -, -, -, -, hc2⟩ := h2.open1
    cases hv
    refine H.app 0 (m := n) (bytes := 8) rfl xs ?_ (by rw [Nat.mul_one]; exact hl) h1 (by have : maxLen = 2 ^ 63 - 1 := rfl; omega) (by omega) fun p' c' w3 H => ⟨(p', c'), by rw [Nat.zero_add], ?_⟩
    · by_cases h0 : n = 0
      · subst h0
        obtain rfl := List.length_eq_zero_iff.1 hl
        exact .inr ⟨a, rfl, fun j u hj => by cases hj⟩
      · obtain ⟨g, off, e, -, hcc⟩ := hc2 (by omega)
        refine .inr ⟨a, rfl, fun j u hj => ?_⟩
        cases e
        rw [add_none]
        have hj2 : j < n := by rw [← hl]; exact (List.getElem?_eq_some_iff.1 hj).1
        rw [(hcc j hj2).1]; exact hj
    · have e : sl 236 1 (.slice p' n c') n xs = sl 236 1 (.slice p' (0 + n) c') (0 + n) ([] ++ xs) := by rw [Nat.zero_add]; rfl
      show Sep.Post emp W (sl 236 1 (.slice p' n c') n xs) w3
      rw [e]
      exact H.new 0 rfl
end Go.Proofs.YthacioiefgabbaaGreatDoor
/- A core: telling, finding, beginning, finishing. No condition. -/
namespace Go.Proofs.YthacioiefgabbaaGreatDoor
open Go.RowKit Go.XHeap Go.Sx Go.Sep
set_option linter.unusedVariables false
set_option maxRecDepth 100000
variable {W w : World} {x : Nat} {C : KC} {K K' : KS} {L : List Asn}

/-- what is told of a retirement -/
structure Rt where
  pc : Int
  word : Int
  rd : Int
  value : Int
  cause : Int
  tval : Int
  next : Int
def Rt.vs (r : Rt) : Array Value := #[.int .u32 r.pc, .int .u32 r.word, .int .i64 r.rd, .int .u32 r.value, .int .i64 r.cause, .int .u32 r.tval, .int .u32 r.next]
def ev0 : Array Value := #[.int .i64 0, .int .i64 0, .int .i64 0, .int .i64 0, .int .u32 0, .int .u32 0, .int .u32 0, .int .i64 0, .int .u32 0, .int .i64 0, .int .u32 0, .int .u32 0]
def evC (cycle kind seq pc : Int) (r : Rt) : Array Value := #[.int .i64 0, .int .i64 cycle, .int .i64 kind, .int .i64 seq, .int .u32 pc, .int .u32 r.pc, .int .u32 r.word, .int .i64 r.rd, .int .u32 r.value, .int .i64 r.cause, .int .u32 r.tval, .int .u32 r.next]
theorem evC_one (cycle kind seq pc : Int) (r : Rt) : ∀ v ∈ (evC cycle kind seq pc r).toList, v.oneCell' = true := by
  intro v hv
  simp only [evC, List.mem_cons, List.not_mem_nil, or_false] at hv
  rcases hv with rfl | rfl | rfl | rfl | rfl | rfl | rfl | rfl | rfl | rfl | rfl | rfl <;> rfl
abbrev Tl := Option Addr × Nat × List Value
theorem tell_any (h : (coreA x C K).at_ W) {j : Nat} {y : Nat × Fl} (hy : K.fl[j]? = some y) (hn : K.en < 1000) (kind : Int) (r : Rt) :
    Calls Tryz.prog 124 #[.pointer (some ⟨x, 0, none⟩), .int .i64 kind, .pointer (some ⟨y.1, 0, none⟩), .agg r.vs] W fun e w => ∃ z : Tl, e = .returned (.tuple #[]) ∧ Sep.Post (coreA x C K) W (coreA x C (K.tells z)) w := by
  have fl : ∀ {A : World} {M : Nat → Prop} {L : List Asn}, St W M A (K.pieces x C ++ L) → Blk A y.1 y.2.cells 243 := fun H => fl_blk (H.nth 11 rfl) hy
  refine vc124 x 0 kind y.1 0 r.vs ((core_open h).al fun k w2 H => H.dr fun w3 H => ?_)
  have H : St W (coreA x C K).own w3 (K.pieces x C ++ [blk k r.vs 69]) := H
  refine ⟨0, H.ld 0 rfl rfl, K.cycle, H.ld 0 rfl rfl, r.vs, rfl, H.cells 13 rfl, rfl, ?_⟩
  rintro vs2 rfl
  refine H.alb fun k2 w4 H _ b4 => ⟨b4, ?_⟩
  have H : St W (coreA x C K).own w4 (K.pieces x C ++ [blk k r.vs 69, blk k2 ev0 71]) := H
  refine H.sts0 14 (vs := evC K.cycle kind 0 0 r) rfl rfl rfl (evC_one _ _ _ _ _) fun w5 H => ?_
  have H : St W (coreA x C K).own w5 (K.pieces x C ++ [blk k r.vs 69, blk k2 (evC K.cycle kind 0 0 r) 71]) := H
  refine ⟨fun A => St W (coreA x C K).own A (K.pieces x C ++ [blk k r.vs 69, blk k2 (evC K.cycle kind y.2.seq y.2.pc r) 71]), H.dr fun w6 H => ?_, fun _ => ?_⟩
  · refine ⟨y.2.seq, (fl H).cell' rfl, ⟨y.2.pc, (fl H).cell' rfl, Below.refl _ _, H.st 14 rfl (by show 3 < 12; omega) fun w7 H => H.st 14 rfl (by show 4 < 12; omega) fun w8 H => H⟩, H.st 14 rfl (by show 3 < 12; omega) fun w7 H => ⟨y.2.pc, (fl H).cell' rfl, H.st 14 rfl (by show 4 < 12; omega) fun w8 H => H⟩⟩
  clear H
  intro w11 H
  have hn1 : K.en + 1 ≤ maxLen := by have : maxLen = 2 ^ 63 - 1 := rfl; omega
  have hn2 : (K.en + 1) * 80 ≤ 140737488355328 := by omega
  have one := evC_one K.cycle kind y.2.seq y.2.pc r
  have H := H.drew
  intro w12 hw12
  subst hw12
  generalize w11.drew = w12 at H
  refine ⟨_, H.ld 0 rfl rfl, ptr_some ⟨_, _, _, by rw [add_none]; exact H.ld 8 rfl rfl, evC K.cycle kind y.2.seq y.2.pc r, rfl, H.cells 14 rfl, ⟨_, H.ld 0 rfl rfl, Below.refl _ _, rfl, H.alb fun k6 w13 H _ b13 => ⟨b13, ?_⟩⟩, rfl, H.alb fun k6 w13 H _ b13 => ⟨b13, ⟨_, H.ld 0 rfl rfl, b13, ?_⟩, ?_⟩⟩⟩
  · refine H.app 9 rfl (evC K.cycle kind y.2.seq y.2.pc r).toList (.inr ⟨_, rfl, fun j u hj => ?_⟩) rfl one hn1 hn2 fun p' c' w14 H => ptr_some ?_
    · rw [add_none]; exact H.ld 15 (i := 0 + j) rfl (by simpa using hj)
    rw [add_none]
    exact H.st 8 rfl (by show 0 < 3; omega) fun w15 H => ⟨(p', c', _), rfl, core_shut (K' := K.tells (p', c', _)) H⟩
  · refine H.app 9 rfl (evC K.cycle kind y.2.seq y.2.pc r).toList (.inr ⟨_, rfl, fun j u hj => ?_⟩) rfl one hn1 hn2 fun p' c' w14 H => ptr_some ?_
    · rw [add_none]; exact H.ld 15 (i := 0 + j) rfl (by simpa using hj)
    rw [add_none]
    exact H.st 8 rfl (by show 0 < 3; omega) fun w15 H => ⟨(p', c', _), rfl, core_shut (K' := K.tells (p', c', _)) H⟩
  · refine H.app 9 rfl (evC K.cycle kind y.2.seq y.2.pc r).toList (.inr ⟨_, rfl, fun j u hj => ?_⟩) rfl one hn1 hn2 fun p' c' w14 H => ⟨_, H.ld 0 rfl rfl, ptr_some ?_⟩
    · rw [add_none]; exact H.ld 15 (i := 0 + j) rfl (by simpa using hj)
    rw [add_none]
    exact H.st 8 rfl (by show 0 < 3; omega) fun w15 H => ⟨(p', c', _), rfl, core_shut (K' := K.tells (p', c', _)) H⟩
end Go.Proofs.YthacioiefgabbaaGreatDoor
