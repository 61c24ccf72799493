/- A core: what stands behind the first cycle, and how the second one ends. No condition. -/
import Derived.Test.YthacioiefgabbaaGreatDoorCoreF
namespace Go.Proofs.YthacioiefgabbaaGreatDoor
open Go.RowKit Go.XHeap Go.Sx Go.Sep
set_option linter.unusedVariables false
set_option maxRecDepth 100000
variable {W w : World} {x : Nat} {C : KC} {K K' : KS} {L : List Asn} {b j : Nat} {F F' : Fl} {M : Nat → Prop}

/-! ### windows with one or two entries -/
theorem ix_ne {v : win.WS} (ho : v.Ok) {j k : Nat} (hj : j < v.S) (hk : k < v.S) (h : j ≠ k) : v.ix j ≠ v.ix k := by
  have hh := ho.head
  have key : ∀ i, i < v.S → v.ix i = if v.head + i < v.S then v.head + i else v.head + i - v.S := fun i hi => by
    unfold win.WS.ix
    split
    · rename_i e; exact Nat.mod_eq_of_lt e
    · rename_i e; rw [Nat.mod_eq_sub_mod (by omega), Nat.mod_eq_of_lt (by omega)]
  rw [key j hj, key k hk]
  split <;> split <;> omega
theorem entered_slot {v : win.WS} (ho : v.Ok) (hn : v.n < v.S) (cls s1 s2 dst : Int) {j : Nat} (hj : j ≤ v.n) : (v.entered cls s1 s2 dst).slot j = if j = v.n then ⟨cls, s1, s2, dst, 0, v.next⟩ else v.slot j := by
  have e1 : (v.entered cls s1 s2 dst).ix j = v.ix j := rfl
  unfold win.WS.slot
  rw [e1]
  show (v.ring.set (v.ix v.n) _).getD (v.ix j) default = _
  have hi := ho.ix_lt v.n
  by_cases e : j = v.n
  · subst e
    rw [if_pos rfl, List.getD_eq_getElem?_getD, List.getElem?_set_self hi]; rfl
  · rw [if_neg e, List.getD_eq_getElem?_getD, List.getElem?_set_ne (Ne.symm (ix_ne ho (by omega) hn e)), ← List.getD_eq_getElem?_getD]
/-- m entries of the class System, numbered from 0 on, that wait for nothing and have not begun -/
structure Flw (v : win.WS) (m : Nat) : Prop where
  ok : v.Ok
  n : v.n = m
  next : v.next = m
  sl : ∀ i, i < m → (v.slot i).cls = 7 ∧ (v.slot i).s1 = -1 ∧ (v.slot i).s2 = -1 ∧ (v.slot i).seq = i ∧ (v.slot i).st = 0
theorem Flw.wok {v : win.WS} {m : Nat} (h : Flw v m) : Wok v := ⟨h.ok, fun k hk => by
  obtain ⟨-, e1, e2, -, -⟩ := h.sl k (by have := h.n; omega)
  unfold win.Slot.regs
  rw [e1, e2]
  constructor <;> omega⟩
theorem Flw.enter {v : win.WS} {m : Nat} (h : Flw v m) (hm : m < v.S) (h2 : m ≤ 100) : Flw (v.entered 7 (-1) (-1) (-1)) (m + 1) := by
  have hn := h.n
  refine ⟨win.entered_ok h.ok (by omega) (by rw [h.next]; omega) _ _ _ _, by show v.n + 1 = m + 1; omega, by show v.next + 1 = m + 1; rw [h.next], fun i hi => ?_⟩
  rw [entered_slot h.ok (by omega) _ _ _ _ (by omega)]
  by_cases e : i = v.n
  · rw [if_pos e]
    exact ⟨rfl, rfl, rfl, by rw [e, hn, ← h.next], rfl⟩
  · rw [if_neg e]
    exact h.sl i (by omega)
theorem Flw.enterOk {v : win.WS} {m : Nat} (h : Flw v m) : v.enterOk 7 (-1) (-1) (-1) := by
  refine ⟨by decide, by decide, ?_⟩
  have : v.regOk (-1) = true := by
    unfold win.WS.regOk
    rw [decide_eq_true (by decide), decide_eq_true (by omega)]; rfl
  simp [this]
theorem Flw.find {v : win.WS} {m : Nat} (h : Flw v m) (hm : 0 < m) : v.find 0 = some 0 := by
  unfold win.WS.find
  rw [h.n]
  obtain ⟨k, rfl⟩ : ∃ k, m = k + 1 := ⟨m - 1, by omega⟩
  rw [List.range_succ_eq_map, List.find?_cons]
  have e : ((v.slot 0).seq == 0) = true := by rw [(h.sl 0 hm).2.2.2.1]; rfl
  rw [e]
theorem Flw.turn1 {v : win.WS} {m : Nat} (h : Flw v m) (hm : 0 < m) : v.turn 0 0 1 = some 0 := by
  unfold win.WS.turn
  rw [h.find hm]
  obtain ⟨-, e1, e2, -, e4⟩ := h.sl 0 hm
  refine if_pos ⟨e4, fun _ => ?_⟩
  unfold win.WS.able win.WS.has
  rw [e1, e2, e4]; rfl
theorem Flw.find2 {v : win.WS} {m : Nat} (h : Flw v m) (hm : 0 < m) : (v.turned 0 1).find 0 = some 0 := by
  unfold win.WS.find
  rw [show (v.turned 0 1).n = m from h.n]
  obtain ⟨k, rfl⟩ : ∃ k, m = k + 1 := ⟨m - 1, by omega⟩
  rw [List.range_succ_eq_map, List.find?_cons]
  have e : (((v.turned 0 1).slot 0).seq == 0) = true := by rw [(turned_slot h.ok 0 1 0).2.2.1, (h.sl 0 hm).2.2.2.1]; rfl
  rw [e]
theorem Flw.turn2 {v : win.WS} {m : Nat} (h : Flw v m) (hm : 0 < m) : (v.turned 0 1).turn 0 1 2 = some 0 := by
  unfold win.WS.turn
  rw [h.find2 hm]
  refine if_pos ⟨?_, fun e => by cases e⟩
  rw [(turned_slot h.ok 0 1 0).2.2.2, if_pos rfl]
theorem Flw.ret {v : win.WS} {m : Nat} (h : Flw v m) (hm : 0 < m) : ((v.turned 0 1).turned 0 2).n ≠ 0 ∧ (((v.turned 0 1).turned 0 2).slot 0).st = 2 := by
  refine ⟨by show v.n ≠ 0; have := h.n; omega, ?_⟩
  rw [(turned_slot (win.turned_ok h.ok 0 (by decide)) 0 2 0).2.2.2, if_pos rfl]
/-- the window behind the retirement of the first one -/
def outW (v : win.WS) : win.WS := ((v.turned 0 1).turned 0 2).retired
theorem Flw.out {v : win.WS} {m : Nat} (h : Flw v m) (hm : 0 < m) (h2 : m ≤ 2) : (outW v).Ok ∧ (outW v).n = m - 1 ∧ ∀ s ∈ (outW v).sqL (-1) (outW v).n, s = 1 ∧ m = 2 := by
  have ho := win.turned_ok (win.turned_ok h.ok 0 (show 1 < 256 by decide)) 0 (show 2 < 256 by decide)
  refine ⟨win.retired_ok ho, by show v.n - 1 = m - 1; rw [h.n], ?_⟩
  rw [show (outW v).n = m - 1 by show v.n - 1 = m - 1; rw [h.n]]
  intro s hs
  rcases (by omega : m = 1 ∨ m = 2) with rfl | rfl
  · cases hs
  · have e : ((outW v).slot 0) = ((v.turned 0 1).turned 0 2).slot 1 := by
      show (((v.turned 0 1).turned 0 2).ring).getD _ default = (((v.turned 0 1).turned 0 2).ring).getD _ default
      have : (outW v).ix 0 = ((v.turned 0 1).turned 0 2).ix 1 := by
        show ((v.head + 1) % v.S + 0) % v.S = (v.head + 1) % v.S
        rw [Nat.add_zero, Nat.mod_mod]
      rw [this]
    have es : ((outW v).slot 0).seq = 1 := by
      rw [e, (turned_slot (win.turned_ok h.ok 0 (by decide)) 0 2 1).2.2.1, (turned_slot h.ok 0 1 1).2.2.1, (h.sl 1 (by decide)).2.2.2.1]; rfl
    have hs : s ∈ (outW v).sqL (-1) 1 := hs
    unfold win.WS.sqL at hs
    rw [es] at hs
    rw [if_pos (by decide)] at hs
    unfold win.WS.sqL at hs
    exact ⟨by simpa using hs, rfl⟩
/-! ### what stands behind the first cycle -/
structure Good (C : KC) : Prop where
  P : C.P.Ok
  R : C.R.at 773 = 0
/-- an instruction as it was taken in -/
structure Taken (C : KC) (j : Nat) (F : Fl) : Prop where
  seq : F.seq = j
  fresh : F.fresh = -1
  issued : F.issued = false
  done : F.done = false
structure Ent (C : KC) (K : KS) (m : Nat) : Prop where
  m1 : 1 ≤ m
  m2 : m ≤ 2
  d : K.d = 0
  n : K.n = m
  len : K.fl.length = m
  w : Flw K.w m
  en : K.en ≤ 10
  halted : K.halted = false
  all : ∀ j y, K.fl[j]? = some y → Taken C j y.2
  one : ∀ y, K.fl[0]? = some y → y.2.cause = -1 ∧ y.2.cls = 7 ∧ y.2.i.op = 59 ∧ y.2.mh = C.P.hist ∧ y.2.mt = (C.P.top : Int) ∧ y.2.mv = C.P.val
theorem blk_cells {cs vs : Array Value} {t : TypeId} {o : Nat} (h : Blk w b cs t) (hv : ∀ j u, vs[j]? = some u → cs[o + j]? = some u) : Sx.cellsAt w ⟨b, o, none⟩ vs :=
  (St.begin (A := blk b cs t) h).lds 0 rfl hv
def zeroI : Ins := ⟨0, 0, 0, 0, 0⟩
theorem calm0 : Calm zeroI := ⟨by kernel_rfl, by decide, by decide⟩
theorem one_break (h : (coreA x C K).at_ W) (hG : Good C) {m : Nat} (hE : Ent C K m) (hy : K.fl[0]? = some (b, F)) :
    Calls Tryz.prog 112 #[.pointer (some ⟨x, 0, none⟩), .pointer (some ⟨b, 0, none⟩)] W fun e w => ∃ K' : { K' : KS // K'.halted = true ∧ K'.n = 0 }, e = .returned (.bool false) ∧ Sep.Post (coreA x C K) W (coreA x C K'.1) w := by
  have hT := hE.all 0 (b, F) hy
  obtain ⟨hc, hcl, hop, hmh, hmt, hmv⟩ := hE.one (b, F) hy
  have hm1 := hE.m1
  have hm2 := hE.m2
  have hd := hE.d
  have hen := hE.en
  have H := core_open h
  have hb : Blk W b F.cells 243 := fl_blk (H.nth 11 rfl) hy
  refine vc112 x 0 b 0 ⟨F.done, hb.cell' rfl, ?_⟩
  rw [hT.done]
  refine split_of (fun _ => ?_) (fun q => by cases q)
  have H := St.begin h
  refine H.call 0 rfl (late_break (H.nth 0 rfl) hy hop hT.issued hc hcl) fun w2 H => ⟨_, rfl, split_of (fun q => by cases q) (fun _ => ⟨fun _ => False, ?_, fun _ _ e => e.elim⟩)⟩
  have hy2 := setF_at (F' := F.broke) hy
  have hb : Blk w2 b _ 243 := fl_blk ((core_open (H.nth 0 rfl)).nth 11 rfl) hy2
  refine ⟨F.broke.cause, hb.cell' rfl, split_of (fun _ => ?_) (fun q => by cases q)⟩
  have hy2d : (K.setF 0 b F.broke).fl[(K.setF 0 b F.broke).d]? = some (b, F.broke) := by rw [show (K.setF 0 b F.broke).d = 0 from hd]; exact hy2
  have hs0 : F.broke.seq = 0 := hT.seq
  refine H.callx 0 rfl (gone_any (K := K.setF 0 b F.broke) (H.nth 0 rfl) hy2d (by show 1 ≤ K.n; rw [hE.n]; exact hm1) hT.fresh hT.issued hT.done (by show K.en < 900; omega) hE.w.wok (k1 := 0) (k2 := 0) (by rw [hs0]; exact hE.w.turn1 hm1) (by rw [hs0]; exact hE.w.turn2 hm1) (hE.w.ret hm1)) fun y1 w3 H => ⟨rfl, H.dr fun w4 H => ?_⟩
  obtain ⟨K3, hK3⟩ : ∃ K3, (K.setF 0 b F.broke).gone b F.broke (((K.setF 0 b F.broke).w.turned 0 1).turned 0 2).retired y1 = K3 := ⟨_, rfl⟩
  have hw3 : K3.w = outW K.w := by rw [← hK3]; rfl
  have hn3 : K3.n = m - 1 := by rw [← hK3]; show K.n - 1 = m - 1; rw [hE.n]
  have hd3 : K3.d = 1 := by rw [← hK3]; show K.d + 1 = 1; rw [hd]
  have hen3 : K3.en = K.en + 2 := by rw [← hK3]; rfl
  have hlen3 : K3.fl.length = m := by rw [← hK3]; show ((K.fl.set 0 _).set _ _).length = m; rw [List.length_set, List.length_set, hE.len]
  have hfl3 : ∃ F3 : Fl, K3.fl[0]? = some (b, F3) ∧ F3.cause = 3 ∧ F3.tval = F.pc ∧ F3.fresh = -1 ∧ F3.mh = F.mh ∧ F3.mt = F.mt ∧ F3.mv = F.mv ∧ F3.pc = F.pc := by
    refine ⟨{ F.broke with issued := true, ready := IntKind.wrap .i64 ((K.setF 0 b F.broke).cycle + 0), done := true }, ?_, rfl, rfl, hT.fresh, rfl, rfl, rfl, rfl⟩
    rw [← hK3]
    show ((K.fl.set 0 (b, F.broke)).set (K.setF 0 b F.broke).d _)[0]? = _
    rw [show (K.setF 0 b F.broke).d = 0 from hd, List.set_set, List.getElem?_set_self (by rw [hE.len]; exact hm1)]
  have hfl3' : ∀ j y, 1 ≤ j → K3.fl[j]? = some y → Taken C j y.2 := by
    intro j y hj hyj
    rw [← hK3] at hyj
    have hyj : ((K.fl.set 0 (b, F.broke)).set (K.setF 0 b F.broke).d _)[j]? = some y := hyj
    rw [show (K.setF 0 b F.broke).d = 0 from hd, List.set_set, List.getElem?_set_ne (by omega)] at hyj
    exact hE.all j y hyj
  have H : St W (coreA x C K).own w4 [coreA x C K3] := by rw [← hK3]; exact H
  clear hK3
  obtain ⟨F3, hy3, c3, t3, f3, m3, m4, m5, p3⟩ := hfl3
  rintro vs rfl
  have Ho := core_open (H.nth 0 rfl)
  have hb : Blk w4 b _ 243 := fl_blk (Ho.nth 11 rfl) hy3
  have hpred : (predA C.gb C.P).at_ w4 := Ho.nth 5 rfl
  have htab : (tabsA C.B).at_ w4 := Ho.nth 1 rfl
  have hdis : ∀ q, (predA C.gb C.P).own q → C.B.heap.size ≤ q := fun q hq => Nat.le_of_not_lt (St.disj Ho.here 5 1 (by decide) rfl rfl q hq)
  refine ⟨_, Ho.ld 0 rfl rfl, C.P.mark, rfl, blk_cells hb (fun i u hu => ?_), ?_⟩
  · have : C.P.mark = #[.int .i64 F3.mh, .int .i64 F3.mt, .int .u32 F3.mv] := by unfold Pr.mark; rw [m3, m4, m5, hmh, hmt, hmv]
    rw [this] at hu
    rcases i with _ | _ | _ | i
    · exact hu
    · exact hu
    · exact hu
    · cases hu
  have H := H.open_
  refine H.call 5 rfl (restore_calm hpred hG.P zeroI calm0 htab hdis 0 false) fun w5 H => ⟨rfl, H.dr fun w6 H => ?_⟩
  have H : St W (coreA x C K).own w6 (K3.pieces x C ++ []) := H
  have hb : Blk w6 b _ 243 := fl_blk (H.nth 11 rfl) hy3
  refine ⟨F3.cause, hb.cell' rfl, F3.tval, hb.cell' rfl, ?_⟩
  have H := St.shut (L' := []) H
  obtain ⟨o1, o2, o3⟩ := hE.w.out hm1 hm2
  have hkn : Known K3 := by
    intro s hs
    rw [hw3] at hs
    obtain ⟨rfl, hm⟩ := o3 s hs
    obtain ⟨y, hyy⟩ : ∃ y, K3.fl[1]? = some y := ⟨_, List.getElem?_eq_getElem (by omega)⟩
    have t := hfl3' 1 y (by decide) hyy
    exact ⟨1, y.1, y.2, hyy, by omega, by omega, t.seq, t.fresh, fun i z h1 h2 _ => absurd h2 (by omega)⟩
  refine H.callx 0 rfl (trap_halt (K := K3) (H.nth 0 rfl) hy3 hG.R (by rw [hw3]; exact o1) hkn (by omega) (by rw [hw3, o2]; omega) (fun y h1 hyy => by rw [hd3] at hyy; rw [(hfl3' 1 y (by decide) hyy).seq]; decide) (by omega) F3.cause F3.tval) fun y w7 H => ⟨rfl, ?_⟩
  have hb : Blk w7 b _ 243 := fl_blk ((core_open (H.nth 0 rfl)).nth 11 rfl) (k := 0) (y := (b, F3)) hy3
  exact ⟨F3.fresh, hb.cell' rfl, split_of (fun q => absurd (of_decide_eq_true q) (by omega)) (fun _ => ⟨⟨K3.trapped F3.pc y, rfl, rfl⟩, rfl, H.post 0 rfl⟩)⟩
theorem retire_break (h : (coreA x C K).at_ W) (hG : Good C) {m : Nat} (hE : Ent C K m) (hw : 1 ≤ C.c.width) :
    Calls Tryz.prog 75 #[.pointer (some ⟨x, 0, none⟩)] W fun e w => ∃ K' : { K' : KS // K'.halted = true ∧ K'.n = 0 }, e = .returned (.tuple #[]) ∧ Sep.Post (coreA x C K) W (coreA x C K'.1) w := by
  have H := core_open h
  have hm1 := hE.m1
  obtain ⟨y, hy⟩ : ∃ y, K.fl[0]? = some y := ⟨_, List.getElem?_eq_getElem (by rw [hE.len]; exact hm1)⟩
  refine vc75 x 0 ⟨false, H.ld 0 rfl rfl, split_of (fun q => by cases q) (fun _ => ⟨C.c.width, H.ld 0 rfl rfl, fun i A => i = 0 ∧ A = W, fun _ _ => 0, ⟨rfl, rfl⟩, fun _ => ?_⟩)⟩
  rintro i w2 ⟨rfl, rfl⟩
  refine split_of (fun _ => ⟨_, _, _, H.ld 0 rfl rfl, split_of (fun q => ?_) (fun _ => ?_)⟩) (fun q => absurd (of_decide_eq_false q) (by omega))
  · have : (K.n : Int) = 0 := by simpa using q
    have := hE.n
    omega
  obtain ⟨g, o, hp, hc⟩ := fl_ptr (l := K.fl) (d := K.d) (H.nth 10 rfl) (k := 0) (y := y) (by rw [hE.d]; exact hy) (by rw [hE.n]; exact hm1)
  refine ⟨_, _, _, H.ld 0 rfl rfl, ⟨by omega, by have := hE.n; omega⟩, ?_⟩
  rw [hp]
  refine adr_some ⟨_, hc, ?_⟩
  refine (one_break h hG hE (b := y.1) (F := y.2) hy).mono ?_
  rintro e w3 ⟨K', rfl, hp⟩
  exact ⟨_, rfl, split_of (fun _ => ⟨K', rfl, hp⟩) (fun q => by cases q)⟩
theorem retire_none (h : (coreA x C K).at_ W) (hn : K.n = 0) (hw : 1 ≤ C.c.width) :
    Calls Tryz.prog 75 #[.pointer (some ⟨x, 0, none⟩)] W fun e w => e = .returned (.tuple #[]) ∧ w = W := by
  have H := core_open h
  refine vc75 x 0 ⟨false, H.ld 0 rfl rfl, split_of (fun q => by cases q) (fun _ => ⟨C.c.width, H.ld 0 rfl rfl, fun i A => i = 0 ∧ A = W, fun _ _ => 0, ⟨rfl, rfl⟩, fun _ => ?_⟩)⟩
  rintro i w2 ⟨rfl, rfl⟩
  refine split_of (fun _ => ⟨_, _, _, H.ld 0 rfl rfl, split_of (fun _ => ⟨rfl, rfl⟩) (fun q => ?_)⟩) (fun q => absurd (of_decide_eq_false q) (by omega))
  rw [hn] at q
  cases q
end Go.Proofs.YthacioiefgabbaaGreatDoor
