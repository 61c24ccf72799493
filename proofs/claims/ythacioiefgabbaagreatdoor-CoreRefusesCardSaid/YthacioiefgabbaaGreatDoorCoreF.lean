import Derived.Test.YthacioiefgabbaaGreatDoorCoreD
import Derived.Test.YthacioiefgabbaaGreatDoorCoreVd
/- A core: squashing, trapping, the environment's break. No condition. -/
namespace Go.Proofs.YthacioiefgabbaaGreatDoor
open Go.RowKit Go.XHeap Go.Sx Go.Sep
set_option linter.unusedVariables false
set_option maxRecDepth 100000
variable {W w : World} {x : Nat} {C : KC} {K K' : KS} {L : List Asn} {b j : Nat} {F F' : Fl} {M : Nat → Prop}

def KS.evs (K : KS) (k : Nat) (y : Tl) : KS := { K with ep := y.1, en := K.en + k, ec := y.2.1, es := y.2.2 }
/-- every number that the window throws away is one's that is on its way -/
def Known (K : KS) : Prop := ∀ s ∈ K.w.sqL (-1) K.w.n, ∃ j b F, K.fl[j]? = some (b, F) ∧ K.d ≤ j ∧ j < K.d + K.n ∧ F.seq = s ∧ F.fresh = -1 ∧ Alone K.fl K.d j F.seq
def KS.squashed (K : KS) (pc : Int) (y : Tl) : KS := { K with w := K.w.cut (K.w.sqN (-1) K.w.n), n := 0, pc := pc, idle := false, ep := y.1, en := K.en + (K.w.sqL (-1) K.w.n).length, ec := y.2.1, es := y.2.2 }
theorem own_len {p : Option Addr} {n m c q : Nat} : (Value.slice p n c).ownBlock = some q → (Value.slice p m c).ownBlock = some q := by
  intro h
  cases p with
  | none => simp [Value.ownBlock] at h
  | some a => simpa [Value.ownBlock] using h
theorem squash_all (h : (coreA x C K).at_ W) (ho : K.w.Ok) (hkn : Known K) (hl : K.n ≤ 100) (hn : K.en + K.w.n < 900) (h0 : ∀ y, 0 < K.n → K.fl[K.d]? = some y → -1 < y.2.seq) (hfl : K.d + K.n ≤ K.fl.length) (pc : Int) :
    Calls Tryz.prog 109 #[.pointer (some ⟨x, 0, none⟩), .int .i64 (-1), .int .u32 pc] W fun e w => ∃ y : Tl, e = .returned (.tuple #[]) ∧ Sep.Post (coreA x C K) W (coreA x C (K.squashed pc y)) w := by
  have H := core_open h
  have hsl := win.sqL_le K.w (-1) K.w.n
  refine vc109 x 0 (-1) pc ⟨_, H.ld 0 rfl rfl, H.call 4 rfl (lsq.squash_any (H.nth 4 rfl) (Nat.zero_le _) (-1)) fun w2 H => ⟨rfl, _, H.ld 0 rfl rfl, H.callx 2 rfl (win.squash_any ho (H.nth 2 rfl) (-1)) fun z w3 H => ⟨_, _, _, rfl, ?_⟩⟩⟩
  have H := (H.pick [2, 0, 1, 3, 4, 5, 6, 7, 8, 9, 10, 11, 12]).open_
  have H := H.pick [2, 3, 0, 4, 5, 6, 7, 8, 9, 10, 11, 12, 13, 1]
  obtain ⟨l, hl0⟩ : ∃ l, K.w.sqL (-1) K.w.n = l := ⟨_, rfl⟩
  unfold KS.squashed
  rw [hl0] at H hsl ⊢
  have H : St W (coreA x C K).own w3 (((K.win (K.w.cut (K.w.sqN (-1) K.w.n))).evs 0 (K.ep, K.ec, K.es)).pieces x C ++ [sl 3 1 (.slice z.1 l.length z.2) l.length (win.intsV l)]) := H
  refine ⟨fun i A => ∃ (m : Nat) (y : Tl), i = m ∧ m ≤ l.length ∧ St W (coreA x C K).own A (((K.win (K.w.cut (K.w.sqN (-1) K.w.n))).evs m y).pieces x C ++ [sl 3 1 (.slice z.1 l.length z.2) l.length (win.intsV l)]), fun i _ => l.length - i.toNat, ⟨0, _, rfl, Nat.zero_le _, H⟩, fun _ => ?_⟩
  clear H
  rintro i w4 ⟨m, y, rfl, hm, H⟩
  refine split_of (fun q => ?_) (fun q => ?_)
  · have q := of_decide_eq_true q
    have hml : m < l.length := by omega
    obtain ⟨s, hs⟩ : ∃ s, l[m]? = some s := ⟨_, List.getElem?_eq_getElem hml⟩
    obtain ⟨ao, cap, hv, hlen, -, -, -, hc⟩ := (H.nth 13 rfl : Sl w4 3 1 (.slice z.1 l.length z.2) l.length (win.intsV l)).open1
    cases hv
    obtain ⟨g, off, hp, -, hcc⟩ := hc (by omega)
    have hcell : w4.cell? ⟨g, off + m, none⟩ = some (.int .i64 s) := by
      rw [(hcc m hml).1]
      unfold win.intsV
      rw [List.getElem?_map, hs]; rfl
    rw [hp]
    obtain ⟨j, b, F, hy, hj1, hj2, rfl, hfr, hal⟩ := hkn s (by rw [hl0]; exact List.mem_of_getElem? hs)
    refine ⟨⟨by omega, q⟩, adr_some ⟨F.seq, by rw [ix1]; exact hcell, ?_⟩⟩
    have H : St W (coreA x C K).own w4 [coreA x C ((K.win (K.w.cut (K.w.sqN (-1) K.w.n))).evs m y), sl 3 1 (.slice (some ⟨g, off, none⟩) l.length z.2) l.length (win.intsV l)] := by rw [hp] at H; exact H.shut
    have hb : Blk w4 b F.cells 243 := fl_blk ((core_open (H.nth 0 rfl)).nth 11 rfl) hy
    refine H.callp (find_any (K := (K.win (K.w.cut (K.w.sqN (-1) K.w.n))).evs m y) (H.nth 0 rfl) hy hj1 hj2 hal hl) ⟨_, rfl, ptr_some ⟨F.fresh, by rw [add_none]; exact hb.cell' rfl, split_of (fun q2 => absurd (of_decide_eq_true q2) (by omega)) (fun _ => ?_)⟩⟩
    rintro vs rfl
    refine H.callx 0 rfl (tell_any (K := (K.win (K.w.cut (K.w.sqN (-1) K.w.n))).evs m y) (H.nth 0 rfl) (y := (b, F)) hy (by show K.en + m < 1000; omega) 5 Rt.zero) fun y2 w5 H => ⟨rfl, ?_⟩
    have H : St W (coreA x C K).own w5 [coreA x C ((K.win (K.w.cut (K.w.sqN (-1) K.w.n))).evs (m + 1) y2), sl 3 1 (.slice (some ⟨g, off, none⟩) l.length z.2) l.length (win.intsV l)] := H
    rintro z8 rfl
    rw [w64 (by omega) (by omega)]
    refine ⟨⟨m + 1, y2, by omega, by omega, ?_⟩, by show l.length - ((m : Int) + 1).toNat < l.length - (m : Int).toNat; omega⟩
    exact H.open_
  · have q := of_decide_eq_false q
    obtain rfl : m = l.length := by omega
    refine ⟨_, _, _, H.ld 0 rfl rfl, fun i A => i = 0 ∧ A = w4, fun _ _ => 0, ⟨rfl, rfl⟩, fun _ => ?_⟩
    rintro i w5 ⟨rfl, rfl⟩
    have fin : ∀ {A : World} {B : KS}, St W (coreA x C K).own A (B.pieces x C ++ [sl 3 1 (.slice z.1 l.length z.2) l.length (win.intsV l)]) → B.n = 0 → B.d = K.d → B.w = K.w.cut (K.w.sqN (-1) K.w.n) → B.en = K.en + l.length → B.fl = K.fl → B.fp = K.fp → B.fc = K.fc → B.at_ = K.at_ → B.cycle = K.cycle → B.halted = K.halted → B.pc = pc → B.idle = false →
        ∃ y : Tl, Ending.returned (.tuple #[]) = .returned (.tuple #[]) ∧ Sep.Post (coreA x C K) W (coreA x C { K with w := K.w.cut (K.w.sqN (-1) K.w.n), n := 0, pc := pc, idle := false, ep := y.1, en := K.en + l.length, ec := y.2.1, es := y.2.2 }) A := by
      intro A B HB e1 e2 e3 e4 e5 e6 e7 e8 e9 e10 e11 e12
      refine ⟨(B.ep, B.ec, B.es), rfl, ?_⟩
      have e : B = { K with w := K.w.cut (K.w.sqN (-1) K.w.n), n := 0, pc := pc, idle := false, ep := B.ep, en := K.en + l.length, ec := B.ec, es := B.es } := by
        cases B
        simp only at e1 e2 e3 e4 e5 e6 e7 e8 e9 e10 e11 e12
        subst e1 e2 e3 e4 e5 e6 e7 e8 e9 e10 e11 e12
        rfl
      rw [e] at HB
      exact core_shut HB
    refine split_of (fun q2 => ?_) (fun q2 => ?_)
    · have q2 := of_decide_eq_true q2
      have hn0 : 0 < K.n := by have : (0 : Int) < (K.n : Int) := q2; omega
      obtain ⟨y0, hy0⟩ : ∃ y, K.fl[K.d]? = some y := ⟨_, List.getElem?_eq_getElem (by omega)⟩
      obtain ⟨g, o, hp, hc⟩ := fl_ptr (l := K.fl) (d := K.d) (H.nth 10 rfl) (k := 0) hy0 hn0
      have hb : Blk w5 y0.1 y0.2.cells 243 := fl_blk (H.nth 11 rfl) hy0
      have hp : K.fp = some ⟨g, o, none⟩ := hp
      rw [show ((K.win (K.w.cut (K.w.sqN (-1) K.w.n))).evs l.length y).fp = some ⟨g, o, none⟩ from hp]
      refine ⟨⟨by omega, q2⟩, adr_some ⟨_, by rw [show o + Int.toNat 0 * 1 = o + 0 from rfl]; exact hc, ptr_some ⟨y0.2.seq, by rw [add_none]; exact hb.cell' rfl, split_of (fun _ => ?_) (fun q3 => absurd (of_decide_eq_false q3) (by have := h0 y0 hn0 hy0; omega))⟩⟩⟩
      refine ⟨_, _, _, H.ld 0 rfl rfl, ⟨by omega, by omega⟩, H.st 0 rfl (by show 28 < 34; omega) fun w6 H => H.st 0 rfl (by show 26 < 34; omega) fun w7 H => H.st 0 rfl (by show 33 < 34; omega) fun w8 H => ?_⟩
      have H := H.conv 10 (A' := sl 236 1 (.slice K.fp 0 K.fc) 0 (((flptrs K.fl).drop K.d).take 0)) rfl (fun hs => sl_none (r := ((flptrs K.fl).drop K.d).take K.n) (n := K.n) hs) (fun q hq => own_len hq)
      exact fin (B := { K with w := K.w.cut (K.w.sqN (-1) K.w.n), n := 0, pc := pc, idle := false, ep := y.1, en := K.en + l.length, ec := y.2.1, es := y.2.2 }) H rfl rfl rfl rfl rfl rfl rfl rfl rfl rfl rfl rfl
    · have q2 := of_decide_eq_false q2
      have hn0 : K.n = 0 := by have : ¬ (0 : Int) < (K.n : Int) := q2; omega
      refine H.st 0 rfl (by show 26 < 34; omega) fun w7 H => H.st 0 rfl (by show 33 < 34; omega) fun w8 H => ?_
      exact fin (B := { K with w := K.w.cut (K.w.sqN (-1) K.w.n), pc := pc, idle := false, ep := y.1, en := K.en + l.length, ec := y.2.1, es := y.2.2 }) H hn0 rfl rfl rfl rfl rfl rfl rfl rfl rfl rfl rfl
end Go.Proofs.YthacioiefgabbaaGreatDoor
/- A core: trapping, the environment's break, retiring it. No condition. -/
namespace Go.Proofs.YthacioiefgabbaaGreatDoor
open Go.RowKit Go.XHeap Go.Sx Go.Sep
set_option linter.unusedVariables false
set_option maxRecDepth 100000
variable {W w : World} {x : Nat} {C : KC} {K K' : KS} {L : List Asn} {b j : Nat} {F F' : Fl} {M : Nat → Prop}

def KS.trapped (K : KS) (pc : Int) (y : Tl) : KS := { K with w := K.w.cut (K.w.sqN (-1) K.w.n), n := 0, pc := pc, at_ := pc, idle := false, halted := true, ep := y.1, en := K.en + 1 + (K.w.sqL (-1) K.w.n).length, ec := y.2.1, es := y.2.2 }
theorem rt_one (r : Rt) : ∀ v ∈ r.vs.toList, v.oneCell' = true := by
  intro v hv
  simp only [Rt.vs, List.mem_cons, List.not_mem_nil, or_false] at hv
  rcases hv with rfl | rfl | rfl | rfl | rfl | rfl | rfl <;> rfl
theorem trap_halt (h : (coreA x C K).at_ W) (hy : K.fl[j]? = some (b, F)) (hR : C.R.at 773 = 0) (ho : K.w.Ok) (hkn : Known K) (hl : K.n ≤ 100) (hn : K.en + 1 + K.w.n < 900) (h0 : ∀ y, 0 < K.n → K.fl[K.d]? = some y → -1 < y.2.seq) (hfl : K.d + K.n ≤ K.fl.length) (cause tval : Int) :
    Calls Tryz.prog 111 #[.pointer (some ⟨x, 0, none⟩), .pointer (some ⟨b, 0, none⟩), .int .i64 cause, .int .u32 tval] W fun e w => ∃ y : Tl, e = .returned (.tuple #[]) ∧ Sep.Post (coreA x C K) W (coreA x C (K.trapped F.pc y)) w := by
  have H := core_open h
  have eT : C.R.trap F.pc cause tval = (F.pc, false, C.R) := by unfold csr.RS.trap; rw [if_pos hR]
  have fl : ∀ {A : World} {M : Nat → Prop} {L : List Asn}, St W M A (K.pieces x C ++ L) → Blk A b F.cells 243 := fun H => fl_blk (H.nth 11 rfl) hy
  refine vc111 x 0 b 0 cause tval (H.dr fun w2 H => ⟨F.pc, (fl H).cell' rfl, F.word, (fl H).cell' rfl, ?_⟩)
  rintro vs rfl
  refine H.alb fun k w3 H _ b3 => ⟨b3, ?_⟩
  have H : St W (coreA x C K).own w3 (K.pieces x C ++ [blk k Rt.zero.vs 69]) := H
  refine H.sts0 13 (vs := (Rt.mk F.pc F.word 0 0 cause tval 0).vs) rfl rfl rfl (rt_one _) fun w4 H => H.dr fun w5 H => ?_
  have H : St W (coreA x C K).own w5 (K.pieces x C ++ [blk k (Rt.mk F.pc F.word 0 0 cause tval 0).vs 69]) := H
  refine ⟨_, H.ld 0 rfl rfl, F.pc, (fl H).cell' rfl, ?_⟩
  have hc := csr.trap_any (H.nth 6 rfl : (csr.regsA C.rb C.mb C.R).at_ w5) F.pc cause tval
  rw [eT] at hc
  refine H.call 6 rfl hc fun w6 H => ⟨_, _, rfl, H.st 13 rfl (by show 6 < 7; omega) fun w7 H => ?_⟩
  have H : St W (coreA x C K).own w7 (K.pieces x C ++ [blk k (Rt.mk F.pc F.word 0 0 cause tval F.pc).vs 69]) := H
  refine ⟨(Rt.mk F.pc F.word 0 0 cause tval F.pc).vs, rfl, H.cells 13 rfl, ?_⟩
  have H := H.shut
  refine H.callx 0 rfl (tell_any (H.nth 0 rfl) (y := (b, F)) hy (by omega) 4 (Rt.mk F.pc F.word 0 0 cause tval F.pc)) fun z w8 H => ⟨rfl, ?_⟩
  have H := H.open_
  refine H.st 0 rfl (by show 31 < 34; omega) fun w9 H => ?_
  have H : St W (coreA x C K).own w9 (({ K.tells z with halted := true } : KS).pieces x C ++ [blk k (Rt.mk F.pc F.word 0 0 cause tval F.pc).vs 69]) := H
  have H := H.shut
  refine H.callx 0 rfl (squash_all (K := { K.tells z with halted := true }) (H.nth 0 rfl) ho hkn hl (by show K.en + 1 + K.w.n < 900; omega) h0 hfl F.pc) fun y w10 H => ⟨rfl, ?_⟩
  have H := H.open_
  exact H.st 0 rfl (by show 27 < 34; omega) fun w11 H => ⟨y, rfl, core_shut (K' := K.trapped F.pc y) (L := [blk k (Rt.mk F.pc F.word 0 0 cause tval F.pc).vs 69]) H⟩
/-! ### the environment's break -/
def Fl.broke (F : Fl) : Fl := { F with next := IntKind.wrap .u32 (F.pc + 4), cause := 3, tval := F.pc }
theorem system_break (h : (coreA x C K).at_ W) (hy : K.fl[j]? = some (b, F)) (hop : F.i.op = 59) :
    Calls Tryz.prog 197 #[.pointer (some ⟨x, 0, none⟩), .pointer (some ⟨b, 0, none⟩)] W fun e w => e = .returned (.bool true) ∧ Sep.Post (coreA x C K) W (coreA x C (K.setF j b { F with cause := 3, tval := F.pc })) w := by
  have H := core_open h
  have hb : Blk W b F.cells 243 := fl_blk (H.nth 11 rfl) hy
  refine vc197 x 0 b 0 ⟨F.i.op, hb.cell' rfl, ?_⟩
  rw [hop]
  refine split_of (fun q => by cases q) (fun _ => split_of (fun q => by cases q) (fun _ => split_of (fun _ => ?_) (fun q => by cases q)))
  refine ⟨F.pc, hb.cell' rfl, st_fl H hy { F with cause := 3 } rfl (by decide) fun w2 H => st_fl H (setF_at hy) { F with cause := 3, tval := F.pc } rfl (by decide) fun w3 H => ⟨rfl, ?_⟩⟩
  have e : ((K.setF j b { F with cause := 3 }).setF j b { F with cause := 3, tval := F.pc }) = K.setF j b { F with cause := 3, tval := F.pc } := by
    unfold KS.setF; rw [List.set_set]
  rw [e] at H
  exact core_shut H
theorem late_break (h : (coreA x C K).at_ W) (hy : K.fl[j]? = some (b, F)) (hop : F.i.op = 59) (hi : F.issued = false) (hc : F.cause = -1) (hcl : F.cls = 7) :
    Calls Tryz.prog 148 #[.pointer (some ⟨x, 0, none⟩), .pointer (some ⟨b, 0, none⟩)] W fun e w => e = .returned (.bool true) ∧ Sep.Post (coreA x C K) W (coreA x C (K.setF j b F.broke)) w := by
  have H := core_open h
  have hb : Blk W b F.cells 243 := fl_blk (H.nth 11 rfl) hy
  refine vc148 x 0 b 0 ⟨F.issued, hb.cell' rfl, ?_⟩
  rw [hi]
  refine split_of (fun q => by cases q) (fun _ => ⟨F.pc, hb.cell' rfl, ?_⟩)
  rintro z2 rfl
  refine st_fl H hy { F with next := IntKind.wrap .u32 (F.pc + 4) } rfl (by decide) fun w2 H => ?_
  have hy2 := setF_at (F' := { F with next := IntKind.wrap .u32 (F.pc + 4) }) hy
  have hb : Blk w2 b _ 243 := fl_blk (H.nth 11 rfl) hy2
  refine ⟨F.cause, hb.cell' rfl, ?_⟩
  rw [hc]
  refine split_of (fun q => by cases q) (fun _ => ⟨F.cls, hb.cell' rfl, ?_⟩)
  rw [hcl]
  refine split_of (fun q => by cases q) (fun _ => split_of (fun q => by cases q) (fun _ => split_of (fun _ => ?_) (fun q => by cases q)))
  have H := St.shut (L' := []) H
  refine H.call 0 rfl (system_break (H.nth 0 rfl) hy2 hop) fun w3 H => ⟨_, rfl, rfl, ?_⟩
  have e : ((K.setF j b { F with next := IntKind.wrap .u32 (F.pc + 4) }).setF j b { F with next := IntKind.wrap .u32 (F.pc + 4), cause := 3, tval := F.pc }) = K.setF j b F.broke := by
    unfold KS.setF; rw [List.set_set]; rfl
  have H : St W (coreA x C K).own w3 [coreA x C ((K.setF j b { F with next := IntKind.wrap .u32 (F.pc + 4) }).setF j b { F with next := IntKind.wrap .u32 (F.pc + 4), cause := 3, tval := F.pc })] := H
  rw [e] at H
  exact H.post 0 rfl
end Go.Proofs.YthacioiefgabbaaGreatDoor
