/- A core: taking instructions in. No condition. -/
import Derived.Test.YthacioiefgabbaaGreatDoorCoreH
namespace Go.Proofs.YthacioiefgabbaaGreatDoor
open Go.RowKit Go.XHeap Go.Sx Go.Sep
set_option linter.unusedVariables false
set_option maxRecDepth 100000
variable {W w : World} {x : Nat} {C : KC} {K K' : KS} {L : List Asn} {b j : Nat} {F F' : Fl} {M : Nat → Prop}

def breakI : Ins := ⟨59, 0, 0, 0, 0⟩
theorem calm59 : Calm breakI := ⟨by kernel_rfl, by decide, by decide⟩
/-- as it is made: no instruction yet -/
def fl0 (pc : Int) : Fl := ⟨0, pc, 0, zeroI, 7, 0, 0, 0, 0, -1, -1, -1, 0, 0, 0, false, -1, 0, false, false, 0, false, 0, false⟩
/-- the break, as it is decoded -/
def flA0 : Fl := { fl0 0 with word := ebreakW, i := breakI }
/-- behind the code -/
def flB0 : Fl := { fl0 4 with cause := 1, tval := 4 }
theorem word_0 (hb : Blk W b #[.int .u32 ebreakW] 43) : Calls Tryz.prog 223 #[.slice (some ⟨b, 0, none⟩) 1 1, .int .u32 0] W fun e w => e = .returned (.tuple #[.int .u32 ebreakW, .bool true]) ∧ w = W := by
  refine vc223 _ 1 1 0 ⟨by decide, ?_⟩
  rintro z rfl
  rw [show Int.fdiv 0 (2 ^ min 2 (IntKind.bits .u32)) = 0 by decide]
  rintro z2 rfl
  rw [show IntKind.wrap .i64 0 = 0 by decide]
  exact split_of (fun _ => ⟨⟨by decide, by decide⟩, adr_some ⟨ebreakW, hb.cell' rfl, rfl, rfl⟩⟩) (fun q => absurd (of_decide_eq_false q) (by decide))
theorem word_4 (W : World) (b : Nat) : Calls Tryz.prog 223 #[.slice (some ⟨b, 0, none⟩) 1 1, .int .u32 4] W fun e w => e = .returned (.tuple #[.int .u32 0, .bool false]) ∧ w = W := by
  refine vc223 _ 1 1 4 ⟨by decide, ?_⟩
  rintro z rfl
  rw [show Int.fdiv 4 (2 ^ min 2 (IntKind.bits .u32)) = 1 by decide]
  rintro z2 rfl
  rw [show IntKind.wrap .i64 1 = 1 by decide]
  exact split_of (fun q => absurd (of_decide_eq_true q) (by decide)) (fun _ => ⟨rfl, rfl⟩)
def DecIs2 (x : Nat) (C : KC) (K K' : KS) (F : Fl) (W : World) (e : Ending) (w : World) : Prop := ∃ k : Nat, e = .returned (.pointer (some ⟨k, 0, none⟩)) ∧ St W (coreA x C K).own w (K'.pieces x C ++ [flA (k, F)])
theorem ins_one (i : Ins) : ∀ v ∈ i.vs.toList, v.oneCell' = true := by
  intro v hv
  simp only [Ins.vs, List.mem_cons, List.not_mem_nil, or_false] at hv
  rcases hv with rfl | rfl | rfl | rfl | rfl <;> rfl
theorem class59 {B : World} (hT : (tabsA B).at_ W) : Calls Tryz.prog 188 #[.int .i64 59] W fun e w => e = .returned (.int .i64 7) ∧ Hush W w := by
  have := class_q hT.1 59
  rw [show classP 59 = 7 by kernel_rfl] at this
  exact this
theorem decoded_0 (h : (coreA x C K).at_ W) (hpc : K.pc = 0) : Calls Tryz.prog 169 #[.pointer (some ⟨x, 0, none⟩)] W (DecIs2 x C K K flA0 W) := by
  have H := core_open h
  refine vc169 x 0 ⟨K.pc, H.ld 0 rfl rfl, ?_⟩
  rintro vs rfl
  rw [hpc]
  refine H.al fun k w2 H => ?_
  have H : St W (coreA x C K).own w2 (K.pieces x C ++ [blk k (fl0 0).cells 243]) := H
  refine ⟨_, _, _, H.ld 0 rfl rfl, K.pc, H.ld 0 rfl rfl, ebreakW, true, fun k4 => ?_, H.drN fun w4 H => split_of (fun q => by cases q) (fun _ => ?_)⟩
  · rw [hpc]
    exact (word_0 ((H.drewN k4).nth 12 rfl)).mono fun e w h => ⟨h.1, k4, h.2⟩
  refine H.st 13 rfl (by show 2 < 28; omega) fun w8 H => ?_
  have H : St W (coreA x C K).own w8 (K.pieces x C ++ [blk k ({ fl0 0 with word := ebreakW } : Fl).cells 243]) := H
  have hdec := decode_q (H.nth 1 rfl : (tabsA C.B).at_ w8).1 ebreakW (by constructor <;> decide)
  rw [dec_ebreak.1, dec_ebreak.2] at hdec
  refine H.callq hdec fun w9 H => ⟨_, _, rfl, H.al fun k7 w10 H => ?_⟩
  refine H.sts0 14 (vs := breakI.vs) rfl rfl rfl (ins_one _) fun w11 H => split_of (fun q => by cases q) (fun _ => H.dr fun w14 H => ?_)
  have H : St W (coreA x C K).own w14 (K.pieces x C ++ [blk k ({ fl0 0 with word := ebreakW } : Fl).cells 243, blk k7 breakI.vs 238]) := H
  refine ⟨59, H.ld 14 rfl rfl, ⟨breakI.vs, rfl, H.cells 14 rfl, Below.refl _ _, H.callq (class59 (H.nth 1 rfl)) fun w15 H => ⟨_, rfl, H.sts 13 rfl rfl (by show 3 + 5 ≤ 28; omega) (ins_one _) fun w16 H => H.st 13 rfl (by show 8 < 28; omega) fun w17 H => ⟨k, rfl, H.take 14⟩⟩⟩, H.callq (class59 (H.nth 1 rfl)) fun w15 H => ⟨_, rfl, breakI.vs, rfl, H.cells 14 rfl, H.sts 13 rfl rfl (by show 3 + 5 ≤ 28; omega) (ins_one _) fun w16 H => H.st 13 rfl (by show 8 < 28; omega) fun w17 H => ⟨k, rfl, H.take 14⟩⟩⟩
def KS.idled (K : KS) : KS := { K with idle := true }
theorem decoded_4 (h : (coreA x C K).at_ W) (hpc : K.pc = 4) : Calls Tryz.prog 169 #[.pointer (some ⟨x, 0, none⟩)] W (DecIs2 x C K K.idled flB0 W) := by
  have H := core_open h
  refine vc169 x 0 ⟨K.pc, H.ld 0 rfl rfl, ?_⟩
  rintro vs rfl
  rw [hpc]
  refine H.al fun k w2 H => ?_
  have H : St W (coreA x C K).own w2 (K.pieces x C ++ [blk k (fl0 4).cells 243]) := H
  refine ⟨_, _, _, H.ld 0 rfl rfl, K.pc, H.ld 0 rfl rfl, 0, false, fun k4 => ?_, H.drN fun w4 H => split_of (fun _ => ?_) (fun q => by cases q)⟩
  · rw [hpc]
    exact (word_4 _ C.cb).mono fun e w h => ⟨h.1, k4, h.2⟩
  refine ⟨K.pc, H.ld 0 rfl rfl, H.st 13 rfl (by show 20 < 28; omega) fun w5 H => H.st 13 rfl (by show 21 < 28; omega) fun w6 H => H.st 0 rfl (by show 33 < 34; omega) fun w7 H => ⟨k, rfl, ?_⟩⟩
  rw [hpc] at H
  exact H
/-! ### one is taken in -/
def KS.took (K : KS) (k : Nat) (F : Fl) (p : Option Addr) (c : Nat) (y : Tl) : KS := { K with w := K.w.entered 7 (-1) (-1) (-1), pc := F.guess, fp := p, fc := c, n := K.n + 1, fl := K.fl ++ [(k, F)], ep := y.1, en := K.en + 1, ec := y.2.1, es := y.2.2 }
/-- .. with its number, its guess and the predictor's mark -/
def Fl.numbered (F : Fl) (m : Nat) (P : Pr) : Fl := { F with seq := m, mh := P.hist, mt := P.top, mv := P.val, guess := IntKind.wrap .u32 (F.pc + 4) }
structure Raw (F : Fl) : Prop where
  cls : F.cls = 7
  a : F.a = -1
  b : F.b = -1
  fresh : F.fresh = -1
  calm : Calm F.i
  w : writesP F.i.op = false
  r : readsP F.i.op = (false, false)
theorem rawA : Raw flA0 := ⟨rfl, rfl, rfl, rfl, calm59, by kernel_rfl, by kernel_rfl⟩
theorem rawB : Raw flB0 := ⟨rfl, rfl, rfl, rfl, calm0, by kernel_rfl, by kernel_rfl⟩
theorem enter_ok {v : win.WS} {wb m : Nat} {e : Ending} (hf : Flw v m) (hm : m < v.S) (h : win.EnterPost W wb v 7 (-1) (-1) (-1) e w) : e = .returned (.tuple #[.int .i64 m, .nilIface]) ∧ Sep.Post (win.winA wb v) W (win.winA wb (v.entered 7 (-1) (-1) (-1))) w := by
  unfold win.EnterPost at h
  rw [if_pos hf.enterOk, if_neg (by rw [hf.n]; omega), hf.next] at h
  exact h
theorem take_any (h : (coreA x C K).at_ W) (hP : C.P.Ok) {K1 : KS} (hdec : Calls Tryz.prog 169 #[.pointer (some ⟨x, 0, none⟩)] W (DecIs2 x C K K1 F W)) (hF : Raw F) {m : Nat} (hf : Flw K1.w m) (hm : m < K1.w.S) (hw : C.c.window = K1.w.S) (hd : K1.d = 0) (hn : K1.n = K1.fl.length) (hnm : K1.n ≤ 100) (hen : K1.en < 900) :
    Calls Tryz.prog 119 #[.pointer (some ⟨x, 0, none⟩)] W fun e w => ∃ y : Nat × Option Addr × Nat × Tl, e = .returned (.bool true) ∧ Sep.Post (coreA x C K) W (coreA x C (K1.took y.1 (F.numbered m C.P) y.2.1 y.2.2.1 y.2.2.2)) w := by
  have hS := hf.ok.s1
  refine vc119 x 0 (hdec.mono ?_)
  rintro e w2 ⟨k, rfl, H⟩
  have hb : ∀ {A : World} {M : Nat → Prop}, St W M A (K1.pieces x C ++ [flA (k, F)]) → Blk A k F.cells 243 := fun H => H.nth 13 rfl
  refine ⟨_, rfl, fun t A => t = false ∧ A = w2, ptr_some ⟨F.cls, by rw [add_none]; exact (hb H).cell' rfl, ?_⟩, fun _ => ?_⟩
  · rw [hF.cls]
    exact split_of (fun q => by cases q) (fun _ => ptr_some ⟨F.cls, by rw [add_none]; exact (hb H).cell' rfl, by rw [hF.cls]; exact ⟨rfl, rfl⟩⟩)
  rintro t w3 ⟨rfl, rfl⟩
  refine ⟨fun t A => t = false ∧ St W (coreA x C K).own A (K1.pieces x C ++ [flA (k, F)]), ptr_some ⟨F.i.op, (hb H).cell' rfl, ?_⟩, fun _ => ?_⟩
  · have := writes_q (H.nth 1 rfl : (tabsA C.B).at_ w3).1 F.i.op
    rw [hF.w] at this
    exact H.callq this fun w4 H => ⟨_, rfl, split_of (fun q => by cases q) (fun _ => ⟨rfl, H⟩)⟩
  clear H
  rintro t w5 ⟨rfl, H⟩
  refine ⟨fun A => St W (coreA x C K).own A (K1.pieces x C ++ [flA (k, F)]), ⟨fun t A => t = false ∧ St W (coreA x C K).own A (K1.pieces x C ++ [flA (k, F)]), ⟨_, H.ld 0 rfl rfl, K1.w.n, fun k2 => (win.wlen_any ((H.drewN k2).nth 2 rfl)).mono fun e w h => ⟨h.1, k2, h.2⟩, C.c.window, H.ld 0 rfl rfl, split_of (fun q => ?_) (fun _ => split_of (fun q => by cases q) (fun _ => split_of (fun q => by cases q) (fun _ => H.drN fun w6 H => ⟨rfl, H⟩)))⟩, fun _ => ?_⟩, fun _ => ?_⟩
  · have : (K1.w.n : Int) = C.c.window := by simpa using q
    rw [hw, hf.n] at this
    omega
  · rintro t w6 ⟨rfl, H⟩
    exact split_of (fun q => by cases q) (fun _ => H)
  clear H
  rintro w7 H
  have hr := reads_q (H.nth 1 rfl : (tabsA C.B).at_ w7).1 F.i.op
  rw [hF.r] at hr
  refine ptr_some ⟨F.i.op, (hb H).cell' rfl, H.callq hr fun w8 H => ⟨_, _, rfl, fun A => St W (coreA x C K).own A (K1.pieces x C ++ [flA (k, F)]), split_of (fun q => by cases q) (fun _ => H), fun _ => ?_⟩⟩
  clear H
  rintro w9 H
  refine ⟨fun A => St W (coreA x C K).own A (K1.pieces x C ++ [flA (k, F)]), split_of (fun q => by cases q) (fun _ => H), fun _ => ?_⟩
  clear H
  rintro w10 H
  refine ⟨fun A => St W (coreA x C K).own A (K1.pieces x C ++ [flA (k, F)]), split_of (fun q => by cases q) (fun _ => H), fun _ => ?_⟩
  clear H
  rintro w11 H
  refine H.dr fun w12 H => ptr_some (ptr_some (ptr_some (ptr_some ⟨_, H.ld 0 rfl rfl, F.cls, by rw [add_none]; exact (hb H).cell' rfl, F.a, by rw [add_none]; exact (hb H).cell' rfl, F.b, by rw [add_none]; exact (hb H).cell' rfl, F.fresh, by rw [add_none]; exact (hb H).cell' rfl, ?_⟩)))
  rintro vs rfl
  rw [hF.cls, hF.a, hF.b, hF.fresh]
  refine H.call 2 rfl ((win.enter_any hf.ok (H.nth 2 rfl) (by rw [hf.next]; omega) 7 (-1) (-1) (-1)).mono fun e w hp => enter_ok hf hm hp) fun w13 H => ⟨_, _, rfl, ptr_some ?_⟩
  rw [add_none]
  have H : St W (coreA x C K).own w13 ((K1.win (K1.w.entered 7 (-1) (-1) (-1))).pieces x C ++ [blk k F.cells 243]) := H
  refine H.st 13 rfl (by show 0 < 28; omega) fun w14 H => ⟨fun A => St W (coreA x C K).own A ((K1.win (K1.w.entered 7 (-1) (-1) (-1))).pieces x C ++ [flA (k, { F with seq := (m : Int) })]), split_of (fun q => by cases q) (fun _ => H), fun _ => ?_⟩
  clear H
  rintro w15 H
  have H : St W (coreA x C K).own w15 ((K1.win (K1.w.entered 7 (-1) (-1) (-1))).pieces x C ++ [blk k ({ F with seq := (m : Int) } : Fl).cells 243]) := H
  refine H.dr fun w16 H => ptr_some (ptr_some ⟨_, H.ld 0 rfl rfl, F.pc, by rw [add_none]; exact H.ld 13 rfl rfl, F.i.vs, rfl, ?_, ?_⟩)
  · rw [add_none]
    refine blk_cells (H.blk 13 rfl) fun i u hu => ?_
    rcases i with _ | _ | _ | _ | _ | i
    · exact hu
    · exact hu
    · exact hu
    · exact hu
    · exact hu
    · cases hu
  refine H.callq (guess_calm (H.nth 5 rfl) hP F.i hF.calm (H.nth 1 rfl) F.pc) fun w17 H => ⟨_, _, rfl, ptr_some ?_⟩
  rw [add_none]
  refine H.st 13 rfl (by show 12 < 28; omega) fun w18 H => ptr_some ?_
  refine H.sts 13 (o := 9) rfl rfl (by show 9 + 3 ≤ 28; omega) (mark_one _) fun w19 H => ptr_some ?_
  have H : St W (coreA x C K).own w19 ((K1.win (K1.w.entered 7 (-1) (-1) (-1))).pieces x C ++ [blk k (F.numbered m C.P).cells 243]) := H
  refine ⟨IntKind.wrap .u32 (F.pc + 4), by rw [add_none]; exact H.ld 13 rfl rfl, H.st 0 rfl (by show 26 < 34; omega) fun w20 H => ⟨_, _, _, H.ld 0 rfl rfl, H.al fun k21 w21 H => ?_⟩⟩
  refine H.app 10 rfl [.pointer (some ⟨k, 0, none⟩)] (.inr ⟨_, rfl, fun j u hj => H.cells 14 rfl j u (by simpa using hj)⟩) rfl (by intro u hu; simp at hu; subst hu; rfl) (by have : maxLen = 2 ^ 63 - 1 := rfl; show K1.n + 1 ≤ maxLen; omega) (by show (K1.n + 1) * 8 ≤ _; omega) fun p' c' w22 H => H.st 0 rfl (by show 28 < 34; omega) fun w23 H => ?_
  rintro vs rfl
  have el : ((flptrs K1.fl).drop K1.d).take K1.n ++ [.pointer (some ⟨k, 0, none⟩)] = ((flptrs (K1.fl ++ [(k, F.numbered m C.P)])).drop K1.d).take (K1.n + 1) := by
    have e1 : (flptrs K1.fl).length = K1.n := by unfold flptrs; rw [List.length_map, hn]
    have e2 : flptrs (K1.fl ++ [(k, F.numbered m C.P)]) = flptrs K1.fl ++ [.pointer (some ⟨k, 0, none⟩)] := by unfold flptrs; rw [List.map_append]; rfl
    rw [hd, e2, List.drop_zero, List.drop_zero, List.take_of_length_le (by omega), List.take_of_length_le (by rw [List.length_append, e1]; exact Nat.le_refl _)]
  have H : St W (coreA x C K).own w23 [blk x (({ K1.took k (F.numbered m C.P) p' c' (K1.ep, K1.ec, K1.es) with en := K1.en } : KS).root C) 147, tabsA C.B, win.winA C.wb (K1.w.entered 7 (-1) (-1) (-1)), nmA C.nb C.N, lsq.qA C.qb ⟨C.Q, none, 0, []⟩, predA C.gb C.P, csr.regsA C.rb C.mb C.R, blk C.vb (ints .u32 (List.replicate C.c.regs.toNat 0)) 43, blk C.tb #[.slice K1.ep K1.en K1.ec, .slice none 0 0, C.cs] 83, sl 71 12 (.slice K1.ep K1.en K1.ec) K1.en K1.es, sl 236 1 (.slice p' (K1.n + 1) c') (K1.n + 1) (((flptrs K1.fl).drop K1.d).take K1.n ++ [.pointer (some ⟨k, 0, none⟩)]), flsA K1.fl, blk C.cb #[.int .u32 ebreakW] 43, flA (k, F.numbered m C.P), blk k21 #[.pointer (some ⟨k, 0, none⟩)] 236] := H
  rw [el] at H
  have H := (H.pick [11, 13, 0, 1, 2, 3, 4, 5, 6, 7, 8, 9, 10, 12]).push
  have em : K1.fl.map flA ++ [flA (k, F.numbered m C.P)] = (K1.fl ++ [(k, F.numbered m C.P)]).map flA := by rw [List.map_append]; rfl
  have H : St W (coreA x C K).own w23 (all (K1.fl.map flA ++ [flA (k, F.numbered m C.P)]) :: _) := H
  rw [em] at H
  have H := H.pick [1, 2, 3, 4, 5, 6, 7, 8, 9, 10, 11, 0, 12]
  have H : St W (coreA x C K).own w23 (({ K1.took k (F.numbered m C.P) p' c' (K1.ep, K1.ec, K1.es) with en := K1.en } : KS).pieces x C ++ []) := H
  have H := H.shut
  have hy : (K1.fl ++ [(k, F.numbered m C.P)])[K1.fl.length]? = some (k, F.numbered m C.P) := by rw [List.getElem?_append_right (Nat.le_refl _), Nat.sub_self]; rfl
  exact H.callx 0 rfl (tell_any (K := { K1.took k (F.numbered m C.P) p' c' (K1.ep, K1.ec, K1.es) with en := K1.en }) (H.nth 0 rfl) (y := (k, F.numbered m C.P)) hy (by show K1.en < 1000; omega) 1 Rt.zero) fun z w24 H => ⟨rfl, (k, p', c', z), rfl, H.post 0 rfl⟩
end Go.Proofs.YthacioiefgabbaaGreatDoor
