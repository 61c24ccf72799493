import Derived.Test.YthacioiefgabbaaGreatDoorBusE
import Derived.Test.YthacioiefgabbaaGreatDoorCoreN
import Derived.Test.YthacioiefgabbaaGreatDoorCoreVe
/- A bus as it is made is one. No condition. -/
namespace Go.Proofs.YthacioiefgabbaaGreatDoor.cbus
open Go.RowKit Go.XHeap Go.Sx Go.Sep
set_option linter.unusedVariables false
set_option maxRecDepth 100000
variable {W w : World} {b m : Nat} {B : BP} {S S' : PB} {L : List Asn}

theorem fresh_ok {l : List (Int × Int)} {cyc : Int} {data : List Nat} (h : S.Fresh l cyc data) (hg : ¬ cfgBad l cyc) (hd : ¬ (data.length % 16 ≠ 0 ∨ data.length > 4096)) (hb : ∀ x ∈ data, x < 256) : S.Ok 0 := by
  have hn1 : ¬ l.length < 1 := fun e => hg (.inl e)
  have hn2 : ¬ l.length > 2 := fun e => hg (.inr (.inl e))
  have hc1 : ¬ cyc < 0 := fun e => hg (.inr (.inr (.inl e)))
  have hc2 : ¬ cyc > 10 := fun e => hg (.inr (.inr (.inr (.inl e))))
  have hcy := h.cyc
  have hlen : S.len = data.length := by unfold PB.len; rw [h.mem]
  refine ⟨by rw [h.n]; omega, fun k hk => ?_, by rw [hlen]; omega, by rw [hlen]; omega, by rw [h.mem]; exact hb, by omega, fun k a w e => ?_, by rw [h.last, h.n]; omega, fun k e => ?_, by rw [h.left]; omega⟩
  · rw [h.n] at hk
    have hf := h.cs k l[k] (List.getElem?_eq_getElem hk)
    refine ⟨hf.ok, by rw [hf.clock]; omega, fun s hs y hy hv => ?_⟩
    rw [hf.sets] at hs
    have := List.eq_of_mem_replicate hs
    subst this
    have := List.eq_of_mem_replicate hy
    subst this
    exact absurd rfl hv
  · rw [h.asks] at e; cases e
  · rw [h.now] at e; cases e
end Go.Proofs.YthacioiefgabbaaGreatDoor.cbus
/- Cores and Run, of one core whose code is one break. No condition. -/
namespace Go.Proofs.YthacioiefgabbaaGreatDoor
open Go.RowKit Go.XHeap Go.Sx Go.Sep
set_option linter.unusedVariables false
set_option maxRecDepth 100000
variable {W w : World} {x : Nat} {C : KC} {K K' : KS} {L : List Asn} {b j : Nat} {F F' : Fl} {M : Nat → Prop}

def repZ : Array Value := repC false 0 nilS emptyS nilS nilS
theorem repZ_one : ∀ v ∈ repZ.toList, v.oneCell' = true := rep_one _ _ rfl rfl rfl rfl
def err3 : Value := .iface 33 (.int .i64 3)
/-- all that is asked of a configuration -/
def Cf.all (c : Cf) : Prop := cbus.shapeOk c.sets c.ways ∧ c.ok
def CoresIs (c : Cf) (n : Int) (e : Ending) : Prop :=
  (¬ (0 ≤ n ∧ n ≤ 1000000) ∧ e = .returned (.tuple #[.agg repZ, err3])) ∨
  ((0 ≤ n ∧ n ≤ 1000000) ∧ ¬ c.all ∧ e = .returned (.tuple #[.agg repZ, err2])) ∨
  ((0 ≤ n ∧ n ≤ 1000000) ∧ c.all ∧ ∃ vs, RunIs n (.returned (.agg vs)) ∧ e = .returned (.tuple #[.agg vs, .nilIface]))
theorem run_one {n : Int} {vs : Array Value} (h : RunIs n (.returned (.agg vs))) : vs.size = 6 ∧ ∀ v ∈ vs.toList, v.oneCell' = true := by
  obtain ⟨en, cy, p, p2, p3, m, c, c2, c3, s, e, -⟩ := h
  cases e
  exact ⟨rfl, rep_one en cy rfl rfl rfl rfl⟩
def corL (B : World) (cb ab sb lb : Nat) (c : Cf) : List Asn := [tabsA B, blk cb #[.int .u32 ebreakW] 43, blk ab #[.slice (some ⟨cb, 0, none⟩) 1 1] 44, blk sb c.cells 29, blk lb #[.slice none 0 0] 57]
set_option maxHeartbeats 1000000 in
theorem cores_any {B : World} {cb ab sb lb : Nat} {c : Cf} (hD : Sep.here (corL B cb ab sb lb c) W) (n : Int) :
    Calls Tryz.prog 14 #[.slice (some ⟨ab, 0, none⟩) 1 1, .slice none 0 0, .slice (some ⟨sb, 0, none⟩) 1 1, .slice (some ⟨lb, 0, none⟩) 1 1, .int .i64 n] W fun e w => CoresIs c n e ∧ (tabsA B).at_ w ∧ XTouch (owns (corL B cb ab sb lb c)) W w := by
  have H := St.all_ hD
  refine vc14 _ 1 1 none 0 0 _ 1 1 _ 1 1 n (H.al fun k w2 H => split_of (fun q => absurd (of_decide_eq_true q) (by decide)) (fun _ => split_of (fun q => absurd (of_decide_eq_true q) (by decide)) (fun _ => split_of (fun q => by cases q) (fun _ => split_of (fun q => by cases q) (fun _ => ?_)))))
  have H : St W (owns (corL B cb ab sb lb c)) w2 (corL B cb ab sb lb c ++ [blk k repZ 38]) := H
  refine H.callp (fits_any n 0 1000000 _) ⟨_, rfl, split_of (fun q => ?_) (fun q => ?_)⟩
  · rintro vs rfl
    exact H.sts0 5 rfl rfl rfl repZ_one fun w3 H => ⟨repZ, rfl, H.cells 5 rfl, .inl ⟨within_no q, rfl⟩, H.nth 0 rfl, H.touch⟩
  have hn := within_yes q
  refine ⟨fun p m cc A => m = 1 ∧ St W (owns (corL B cb ab sb lb c)) A (corL B cb ab sb lb c ++ [blk k repZ 38, sl 27 2 (.slice p 1 cc) 1 (cbus.shapeC c.sets c.ways).toList]), ⟨fun i p m cc A => (i = 0 ∧ p = none ∧ m = 0 ∧ cc = 0 ∧ A = w2) ∨ (i = 1 ∧ m = 1 ∧ St W (owns (corL B cb ab sb lb c)) A (corL B cb ab sb lb c ++ [blk k repZ 38, sl 27 2 (.slice p 1 cc) 1 (cbus.shapeC c.sets c.ways).toList])), fun i _ _ _ _ => 1 - i.toNat, .inl ⟨rfl, rfl, rfl, rfl, rfl⟩, fun _ => ?_⟩, fun _ => ?_⟩
  · rintro i p m cc w9 (⟨rfl, rfl, rfl, rfl, rfl⟩ | ⟨rfl, rfl, H2⟩)
    rotate_left
    · exact split_of (fun q => absurd (of_decide_eq_true q) (by decide)) (fun _ => ⟨rfl, H2⟩)
    refine split_of (fun _ => ⟨⟨by decide, by decide⟩, adr_some ⟨_, _, _, H.ld 2 rfl rfl, H.callp (csr.image_any _ 1 1 ((0 : Nat) : Int) _) ⟨_, rfl, ?_⟩⟩⟩) (fun q => absurd (of_decide_eq_false q) (by decide))
    rw [if_pos (show csr.imageOk 1 ((0 : Nat) : Int) = true by decide)]
    refine nil_true (split_of (fun q => by cases q) (fun _ => ⟨⟨by decide, by decide⟩, adr_some ⟨cbus.shapeC c.sets c.ways, rfl, H.lds 3 rfl (o := 12) (fun i u hu => ?_), rfl, H.al fun k16 w12 H => ?_⟩⟩))
    · rcases i with _ | _ | i
      · exact hu
      · exact hu
      · cases hu
    have H := H.add (A := sl 27 2 (.slice none 0 0) 0 []) ⟨Sl.nil _ _ _, XTouch.refl _ _, fun q e => by cases e⟩
    refine H.app 7 (m := 1) rfl (cbus.shapeC c.sets c.ways).toList (.inr ⟨_, rfl, fun j u hj => by rw [add_none]; exact H.ld 6 (i := 0 + j) rfl (by simpa using hj)⟩) rfl (cbus.shape_one _ _) (by decide) (by decide) fun p' c' w13 H => ?_
    rintro z rfl
    exact ⟨.inr ⟨by decide, rfl, H.pick [0, 1, 2, 3, 4, 5, 7]⟩, by show 1 - (IntKind.wrap .i64 (0 + 1)).toNat < 1 - (0 : Int).toNat; decide⟩
  clear H
  rintro p m cc w14 ⟨rfl, H⟩
  refine ⟨⟨by decide, by decide⟩, adr_some ⟨c.bus, H.ld 3 rfl rfl, ?_⟩⟩
  have hSh : cbus.ShapesAt w14 p [(c.sets, c.ways)] := by
    intro i y hi
    cases i with
    | succ i => cases hi
    | zero =>
      cases hi
      have hs : Sl w14 27 2 (.slice p 1 cc) 1 (cbus.shapeC c.sets c.ways).toList := H.nth 6 rfl
      obtain ⟨hl, hc⟩ := hs
      rcases hc with ⟨-, h0⟩ | ⟨g, off, cap, cur, hv, hb, h1, h2, h3, h4⟩
      · cases h0
      · cases hv
        refine ⟨g, off, rfl, hb.lt, blk_cells hb fun i u hu => ?_⟩
        have hu : (cbus.shapeC c.sets c.ways).toList[i]? = some u := by simpa using hu
        rw [← h4] at hu
        have hi2 : i < 2 := by
          have := (List.getElem?_eq_some_iff.1 hu).1
          rw [List.length_take] at this
          omega
        rw [List.getElem?_take_of_lt (by omega), List.getElem?_drop] at hu
        simpa using hu
  refine (cbus.bnew_any (l := [(c.sets, c.ways)]) (data := []) (dc := 0) (pc := cc) (cyc := c.bus) hSh (fun i y hi => by cases hi) (.inl rfl)).mono ?_
  have cfg : cbus.cfgBad [(c.sets, c.ways)] c.bus → ¬ c.all := by
    rintro hb ⟨h1, h2⟩
    rcases hb with hb | hb | hb | hb | ⟨y, hy, hb⟩
    · exact absurd hb (by simp)
    · exact absurd hb (by simp)
    · have := h2.1.2.2.2; omega
    · have := h2.1.2.2.2; omega
    · obtain rfl : y = (c.sets, c.ways) := by simpa using hy
      exact hb h1
  rintro e w15 (⟨hb, rfl, hh⟩ | ⟨hb, hd, rfl, hh⟩ | ⟨hb, hd, bb, BP, SB, hFr, hgs, rfl, hp⟩)
  · have H := H.quiet hh
    refine ⟨_, _, rfl, err2_nil (split_of (fun _ => ?_) (fun q => by cases q))⟩
    rintro vs rfl
    exact H.sts0 5 rfl rfl rfl repZ_one fun w3 H => ⟨repZ, rfl, H.cells 5 rfl, .inr (.inl ⟨hn, cfg hb, rfl⟩), H.nth 0 rfl, H.touch⟩
  · exact absurd hd (by decide)
  have H := H.add hp
  have hQB : QB 0 BP SB := ⟨cbus.fresh_ok hFr hb hd (fun y hy => by cases hy), fun k => by rw [hFr.asks], hFr.now, hFr.mem, hgs⟩
  have hsh : cbus.shapeOk c.sets c.ways := by
    refine Classical.byContradiction fun hno => hb ?_
    exact .inr (.inr (.inr (.inr ⟨(c.sets, c.ways), by simp, hno⟩)))
  refine ⟨_, _, rfl, nil_true (split_of (fun q => by cases q) (fun _ => ?_))⟩
  rintro vs rfl
  refine H.al fun tb w17 H => ?_
  have H : St W (owns (corL B cb ab sb lb c)) w17 (corL B cb ab sb lb c ++ [blk k repZ 38, sl 27 2 (.slice p 1 cc) 1 (cbus.shapeC c.sets c.ways).toList, cbus.busA bb BP SB, blk tb trail0 83]) := H
  refine ⟨fun p m cc A => m = 1 ∧ c.ok ∧ ∃ y : { y : Nat × KC × KS // Made c B tb cb bb y }, St W (owns (corL B cb ab sb lb c)) A [coreA y.1.1 y.1.2.1 y.1.2.2, blk lb #[.slice none 0 0] 57, blk k repZ 38, cbus.busA bb BP SB, sl 84 1 (.slice p 1 cc) 1 [.pointer (some ⟨y.1.1, 0, none⟩)]],
    ⟨fun i p m cc A => (i = 0 ∧ p = none ∧ m = 0 ∧ cc = 0 ∧ A = w17) ∨ (i = 1 ∧ m = 1 ∧ c.ok ∧ ∃ y : { y : Nat × KC × KS // Made c B tb cb bb y }, St W (owns (corL B cb ab sb lb c)) A [coreA y.1.1 y.1.2.1 y.1.2.2, blk lb #[.slice none 0 0] 57, blk k repZ 38, cbus.busA bb BP SB, sl 84 1 (.slice p 1 cc) 1 [.pointer (some ⟨y.1.1, 0, none⟩)]]), fun i _ _ _ _ => 1 - i.toNat, .inl ⟨rfl, rfl, rfl, rfl, rfl⟩, fun _ => ?_⟩, fun _ => ?_⟩
  · rintro i p5 m cc5 w18 (⟨rfl, rfl, rfl, rfl, rfl⟩ | ⟨rfl, rfl, hok, y, H2⟩)
    rotate_left
    · exact split_of (fun q => absurd (of_decide_eq_true q) (by decide)) (fun _ => ⟨rfl, hok, y, H2⟩)
    refine split_of (fun _ => ⟨⟨by decide, by decide⟩, adr_some ⟨_, _, _, H.ld 2 rfl rfl, ⟨by decide, by decide⟩, adr_some ⟨c.cells, rfl, H.cells 3 rfl, ?_⟩⟩⟩) (fun q => absurd (of_decide_eq_false q) (by decide))
    have H := (H.pick [0, 8, 1, 2, 3, 4, 5, 6, 7]).shut (L := preL B tb cb)
    refine (newcore_any (H.nth 0 rfl) c bb).mono ?_
    rintro e w19 (⟨hok, y, rfl, hp⟩ | ⟨hok, rfl, hp⟩)
    · have H := H.upd 0 rfl hp
      refine ⟨_, _, rfl, nil_true (split_of (fun q => by cases q) (fun _ => H.al fun k36 w21 H => ?_))⟩
      have H := H.add (A := sl 84 1 (.slice none 0 0) 0 []) ⟨Sl.nil _ _ _, XTouch.refl _ _, fun q e => by cases e⟩
      refine H.app 8 (m := 1) rfl [.pointer (some ⟨y.1.1, 0, none⟩)] (.inr ⟨_, rfl, fun j u hj => H.cells 7 rfl j u (by simpa using hj)⟩) rfl (by intro u hu; simp at hu; subst hu; rfl) (by decide) (by decide) fun p' c' w22 H => ?_
      rintro z rfl
      exact ⟨.inr ⟨by decide, rfl, hok, y, H.pick [0, 3, 4, 6, 8]⟩, by show 1 - (IntKind.wrap .i64 (0 + 1)).toNat < 1 - (0 : Int).toNat; decide⟩
    · have H := H.upd 0 rfl hp
      refine ⟨_, _, rfl, err2_nil (split_of (fun _ => ?_) (fun q => by cases q))⟩
      rintro vs rfl
      exact H.sts0 4 rfl rfl rfl repZ_one fun w3 H => ⟨repZ, rfl, H.cells 4 rfl, .inr (.inl ⟨hn, fun h => hok h.2, rfl⟩), H.open_.nth 0 rfl, H.touch⟩
  clear H
  rintro p6 m cc6 w23 ⟨rfl, hok, y, H⟩
  obtain ⟨⟨x, C, K⟩, hG, hF, hc, hB, htb, hcb, hbb⟩ := y
  simp only at hG hF hc hB htb hcb hbb
  subst hB htb hbb hc
  have H := H.open_
  refine H.st 8 rfl (by show 2 < 3; omega) fun w24 H => ?_
  have H : St W (owns (corL C.B cb ab sb lb C.c)) w24 (K.pieces x { C with cs := .slice p6 1 cc6 } ++ [blk lb #[.slice none 0 0] 57, blk k repZ 38, cbus.busA C.bb BP SB, sl 84 1 (.slice p6 1 cc6) 1 [.pointer (some ⟨x, 0, none⟩)]]) := H
  have H := H.shut
  have H : St W (owns (corL C.B cb ab sb lb C.c)) w24 (drvL x { C with cs := .slice p6 1 cc6 } K BP SB p6 cc6 lb ++ [blk k repZ 38]) := H.pick [0, 3, 4, 1, 2]
  obtain ⟨hd1, hd2, hd3⟩ := here_append.1 H.here
  have hw := hok.1.1
  have hu := hok.1.2.1
  have hR : 34 ≤ C.c.regs ∧ C.c.regs ≤ 128 := of_decide_eq_true hok.2.2.1
  refine (drive_any (C := { C with cs := .slice p6 1 cc6 }) hd1 ⟨hG.P, hG.R⟩ hw.1 hu.1 hR.1 ⟨hF.pc, hF.d, hF.n, hF.fl, hF.w, hF.en, hF.halted, hF.idle, hF.S⟩ hQB n).mono ?_
  rintro e w25 ⟨hrun, htab, htch⟩
  obtain ⟨en, cy, p1, p2, p3, m1, c1, c2, c3, s, rfl, hcond⟩ := hrun
  have hrun : RunIs n (.returned (.agg (repC en cy (.slice p1 m1 c1) (.string s) (.slice p2 1 c2) (.slice p3 0 c3)))) := ⟨en, cy, p1, p2, p3, m1, c1, c2, c3, s, rfl, hcond⟩
  have hk : Blk w25 k repZ 38 := (hd2.1 : Blk w24 k repZ 38).keep htch (fun e => hd3 k e (.inl rfl))
  have ht25 : XTouch (owns (corL C.B cb ab sb lb C.c)) W w25 := H.touch.trans htch (fun q hq e => by
    rcases H.mine q (owns_append.2 (.inl e)) with h1 | h1
    · exact h1
    · omega)
  obtain ⟨hs1, hs2⟩ := run_one hrun
  refine ⟨_, rfl, (St.begin (A := blk k repZ 38) hk).sts0 0 rfl hs1 rfl hs2 fun w26 H2 => ⟨_, hs1, H2.cells 0 rfl, .inr (.inr ⟨hn, ⟨hsh, hok⟩, _, hrun, rfl⟩), ?_, ?_⟩⟩
  · exact (tabsA C.B).keep htab H2.touch (fun q hq e => by
      have e : q = k := e
      subst e
      have : q < w24.heap.size := (hd2.1 : Blk w24 q repZ 38).lt
      have hq : q < C.B.heap.size := hq
      exact hd3 q (.inl (.inr (.inl hq))) (.inl rfl))
  · exact ht25.trans H2.touch (fun q hq e => by
      have e : q = k := e
      subst e
      rcases H.mine q (owns_append.2 (.inr (.inl rfl))) with h1 | h1
      · exact h1
      · omega)
end Go.Proofs.YthacioiefgabbaaGreatDoor
