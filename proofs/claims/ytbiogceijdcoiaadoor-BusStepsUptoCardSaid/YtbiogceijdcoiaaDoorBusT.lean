/- The document's bus, part T: done. No condition. -/
import Derived.Test.YtbiogceijdcoiaaDoorBusS
namespace Go.Proofs.YtbiogceijdcoiaaDoor
open Go.RowKit Go.XHeap Go.Sx Go.Sep
set_option linter.unusedVariables false
set_option maxRecDepth 100000
variable {W w : World} {b m : Nat} {P P' : RP} {S S' : PB} {L : List Asn}
theorem lowE_eq (C : CS) (a s : Nat) : (((C.lowE a s : Nat) : Int) != 0) = decide (¬ s < C.stateAt a) := by
  unfold CS.lowE
  by_cases h : s < C.stateAt a
  · rw [if_pos h, decide_eq_false (fun e => e h)]; rfl
  · rw [if_neg h, decide_eq_true h]; rfl
theorem move_pok {k : Nat} {C : CS} {y : Way} (hP : P.Ok (S.setC k C)) : P.Ok (S.move k C y) := ⟨hP.g, hP.r, hP.rel, hP.left, hP.le⟩
theorem rdone_any (hA : (rbusA b P S).at_ W) (ho : S.Ok m) (hm : m + 1 < 4611686018427387904) (hP : P.Ok S) {core a : Nat} (hk : core < S.Cs.length) (hl : LineOk S.len a) (wr : Bool) :
    Calls Tryd.prog 29 #[.pointer (some ⟨b, 0, none⟩), .int .i64 core, .int .i64 a, .bool wr] W fun e w => ∃ z : (Option Addr × Nat) × RP, e = .returned (.slice z.1.1 (S.done core a wr).out.length z.1.2) ∧ z.2.Ok (S.done core a wr).S ∧ Sep.Post (rbusA b P S) W (all [rbusA b z.2 (S.done core a wr).S, routA z.1.1 z.1.2 (S.done core a wr).out]) w := by
  have hn := ho.n
  have hlen := ho.len
  have hl2 := hl
  unfold LineOk at hl2
  have ha : a < 4294967296 := by omega
  have ha16 : a % 16 = 0 := hl2.1
  have H := St.begin hA
  refine vc29 b 0 core a wr ?_
  refine ⟨fun x2 x3 k4 k5 x4 w => ∃ (k : Nat) (P1 : RP), x2 = k ∧ k ≤ S.Cs.length ∧ x4 = ((LS.run core a wr S k).mine : Nat) ∧ k4 = (LS.run core a wr S k).out.length ∧ P1.Ok (LS.run core a wr S k).S ∧ St W (rbusA b P S).own w [rbusA b P1 (LS.run core a wr S k).S, routA x3 k5 (LS.run core a wr S k).out],
      fun x2 _ _ _ _ _ => S.Cs.length - x2.toNat, ⟨0, P, rfl, Nat.zero_le _, rfl, rfl, hP, ?_⟩, fun _ => ?_⟩
  · exact H.add (A := routA none 0 []) ⟨Sl.nil _ _ _, XTouch.refl _ _, fun q e => by cases e⟩
  clear H
  rintro x2 x3 k4 k5 x4 w4 ⟨k, P1, rfl, hkn, rfl, rfl, hP1, H⟩
  have hr := run_ok ho core a wr k hkn
  have hlx := run_line ho core a wr hkn hl
  have hout := hr.out
  have hd0 := (rbus_open (H.nth 0 rfl)).ld 0 (i := 0) rfl rfl
  refine ⟨_, _, _, hd0, split_of (fun q => ?_) (fun q => ?_)⟩
  · rw [hr.same.n] at q
    have q := of_decide_eq_true q
    have hkl : k < S.Cs.length := by omega
    have hkx : k < (LS.run core a wr S k).S.Cs.length := by rw [hr.same.n]; exact hkl
    have erun : LS.run core a wr S (k + 1) = (LS.run core a wr S k).step core a wr k := rfl
    refine ⟨fun p n c mine w => ∃ P2 : RP, mine = ((LS.run core a wr S (k + 1)).mine : Nat) ∧ n = (LS.run core a wr S (k + 1)).out.length ∧ P2.Ok (LS.run core a wr S (k + 1)).S ∧ St W (rbusA b P S).own w [rbusA b P2 (LS.run core a wr S (k + 1)).S, routA p c (LS.run core a wr S (k + 1)).out], ?_, fun _ => ?_⟩
    rotate_left
    · rintro x6 k15 k16 x7 w13 ⟨P2, rfl, rfl, hP2, H⟩ z5 rfl
      rw [w64 (by omega) (by omega)]
      exact ⟨⟨k + 1, P2, by omega, by omega, rfl, rfl, hP2, H⟩, by show S.Cs.length - ((k : Int) + 1).toNat < S.Cs.length - (k : Int).toNat; omega⟩
    rw [erun]
    have hxn := hr.same.n
    generalize LS.run core a wr S k = X at *
    obtain ⟨g, off, hp, hcell⟩ := rptr_cell ((rbus_open (H.nth 0 rfl)).nth 1 rfl) hP1 hkx
    obtain ⟨U, hU⟩ := hP1.rel k hkx
    have hg := hr.ok.cs k hkx
    refine ⟨_, _, _, hd0, ⟨by omega, by omega⟩, adr_eq hp ⟨_, by rw [ix1]; exact hcell, ?_⟩⟩
    refine H.callp (rstate_any (hU.ok hg.ok) (rstate_of (H.nth 0 rfl) hP1 hkx) a ha) ⟨_, rfl, ?_⟩
    rw [← hU.state hg.ok, step_def]
    refine ⟨fun w => w = w4 ∧ k ≠ core ∧ (X.S.C k).stateAt a ≠ 0, split_of (fun q1 => ?_) (fun q1 => split_of (fun q2 => ?_) (fun q2 => ?_)), fun _ => ?_⟩
    · have q1 : (k : Int) = (core : Int) := by simpa using q1
      rw [if_pos (.inl (by omega))]
      exact ⟨P1, rfl, rfl, hP1, H⟩
    · have q2 : ((X.S.C k).stateAt a : Int) = 0 := by simpa using q2
      rw [if_pos (.inr (by omega))]
      exact ⟨P1, rfl, rfl, hP1, H⟩
    · have q1 : ¬ (k : Int) = (core : Int) := by simpa using q1
      have q2 : ¬ ((X.S.C k).stateAt a : Int) = 0 := by simpa using q2
      exact ⟨rfl, by omega, by omega⟩
    rintro w5 ⟨rfl, q1, q2⟩
    rw [if_neg (fun e => e.elim q1 q2)]
    refine ⟨fun lo mine w => w = w5 ∧ lo = (othS wr : Nat) ∧ mine = ((if wr then X.mine else 1 : Nat) : Int), split_of (fun q => ?_) (fun q => ?_), fun _ => ?_⟩
    · simp at q; rw [q]; exact ⟨rfl, rfl, rfl⟩
    · simp at q; rw [q]; exact ⟨rfl, rfl, rfl⟩
    rintro lo mine w6 ⟨rfl, rfl, rfl⟩
    refine ⟨_, _, _, hd0, ⟨by omega, by omega⟩, adr_eq hp ⟨_, by rw [ix1]; exact hcell, ?_⟩⟩
    refine (rlower_f hU hg.ok (rstate_of (H.nth 0 rfl) hP1 hkx) a ha ha16 (othS wr) (by have := oth_le wr; omega)).mono ?_
    rintro e w7 ⟨rfl, R', U', hR', hpost⟩
    have hP2 := setR_ok hP1 hkx hR'
    have H := H.upd 0 rfl (setR_post (C := (X.S.C k).lowN a (othS wr)) (H.nth 0 rfl) hP1 hkx hpost)
    obtain ⟨hy1, hy2⟩ := lowY_ok hg a (othS wr)
    have h18 : ((X.S.C k).lowY a (othS wr)).toR.cells.toArray.size = 18 := by simpa using rline_cells_len hy1
    refine ⟨_, _, rfl, H.al fun k8 w8 H => H.sts0 2 rfl h18 rfl (rline_one _) fun w9 H => ?_⟩
    have H : St W (rbusA b P S).own w9 [rbusA b (P1.setR k R') (X.S.setC k ((X.S.C k).lowN a (othS wr))), routA x3 k5 X.out, blk k8 ((X.S.C k).lowY a (othS wr)).toR.cells.toArray 104] := H
    rw [lowE_eq]
    refine split_of (fun q3 => ?_) (fun q3 => ?_)
    · have q3 := of_decide_eq_true q3
      rw [if_neg q3]
      rw [lowN_no q3, setC_self hkx] at H hP2
      exact ⟨P1.setR k R', rfl, rfl, hP2, H.take 2⟩
    · have q3 : othS wr < (X.S.C k).stateAt a := Classical.byContradiction (fun e => by rw [decide_eq_true e] at q3; cases q3)
      rw [if_pos q3]
      refine ⟨_, h18, H.cells 2 rfl, ?_⟩
      refine H.call 0 rfl (rbkeep_any (H.nth 0 rfl) (by exact hr.ok.len) hy1 hy2) fun w10 H => ⟨rfl, ?_⟩
      exact rsnoop_app H 1 rfl ⟨k, a, (X.S.C k).stateAt a, othS wr⟩ (by omega) fun p' c' w' H => ⟨P1.setR k R', rfl, by simp, move_pok hP2, H.take 2⟩
  · rw [hr.same.n] at q
    have q := of_decide_eq_false q
    obtain rfl : k = S.Cs.length := by omega
    unfold PB.done
    generalize LS.run core a wr S S.Cs.length = X at *
    dsimp only
    have hkx : core < X.S.Cs.length := by rw [hr.same.n]; exact hk
    have hg := hr.ok.cs core hkx
    have hmine := hr.mine
    have hC1 := lowN_good hg a 0 (by omega)
    obtain ⟨g, off, hp, hcell⟩ := rptr_cell ((rbus_open (H.nth 0 rfl)).nth 1 rfl) hP1 hkx
    obtain ⟨U, hU⟩ := hP1.rel core hkx
    refine ⟨_, _, _, hd0, ⟨by omega, by omega⟩, adr_eq hp ⟨_, by rw [ix1]; exact hcell, ?_⟩⟩
    refine H.callp (rstate_any (hU.ok hg.ok) (rstate_of (H.nth 0 rfl) hP1 hkx) a ha) ⟨_, rfl, ?_⟩
    rw [← hU.state hg.ok]
    refine ⟨fun w => ∃ P2 : RP, P2.Ok (X.S.setC core ((X.S.C core).lowN a 0)) ∧ St W (rbusA b P S).own w [rbusA b P2 (X.S.setC core ((X.S.C core).lowN a 0)), routA x3 k5 X.out], split_of (fun q => ?_) (fun q => ?_), fun _ => ?_⟩
    · refine ⟨_, _, _, hd0, ⟨by omega, by omega⟩, adr_eq hp ⟨_, by rw [ix1]; exact hcell, ?_⟩⟩
      refine (rlower_f hU hg.ok (rstate_of (H.nth 0 rfl) hP1 hkx) a ha ha16 0 (by omega)).mono ?_
      rintro e w16 ⟨rfl, R', U', hR', hpost⟩
      exact ⟨_, _, rfl, P1.setR core R', setR_ok hP1 hkx hR', H.upd 0 rfl (setR_post (C := (X.S.C core).lowN a 0) (H.nth 0 rfl) hP1 hkx hpost)⟩
    · have q : ((X.S.C core).stateAt a : Int) = 0 := by simpa using q
      rw [lowN_no (by omega), setC_self hkx]
      exact ⟨P1, hP1, H⟩
    clear H hd0 hcell hp hU
    rintro w15 ⟨P2, hP2, H⟩
    have hxl : (X.S.setC core ((X.S.C core).lowN a 0)).Cs.length = X.S.Cs.length := List.length_set
    have hkx' : core < (X.S.setC core ((X.S.C core).lowN a 0)).Cs.length := by rw [hxl]; exact hkx
    have eC : (X.S.setC core ((X.S.C core).lowN a 0)).C core = (X.S.C core).lowN a 0 := by rw [setC_C hkx, if_pos rfl]
    have ell : ∀ C : CS, (X.S.setC core ((X.S.C core).lowN a 0)).setC core C = X.S.setC core C := by
      intro C
      unfold PB.setC
      simp
    have hl3 := hlx
    unfold LineOk PB.len at hl3
    have hlen2 := hr.ok.len
    unfold PB.len at hlen2
    obtain ⟨d, hd⟩ : ∃ d, d = a - 65536 := ⟨_, rfl⟩
    rw [← hd]
    have hd16 : d + 16 ≤ X.S.mem.length := by omega
    have hb16 : ((X.S.mem.drop d).take 16).length = 16 := by simp; omega
    have hb2 : ∀ x ∈ (X.S.mem.drop d).take 16, x < 256 := fun x hx => hr.ok.byte x (List.mem_of_mem_drop (List.mem_of_mem_take hx))
    obtain ⟨hy1, hy2⟩ := goneOf_ok hC1 a
    have h18 : (((X.S.C core).lowN a 0).goneOf a).toR.cells.toArray.size = 18 := by simpa using rline_cells_len hy1
    generalize hbs : (X.S.mem.drop d).take 16 = bs at *
    refine H.al fun kb w16 H => ?_
    have H : St W (rbusA b P S).own w16 [rbusA b P2 (X.S.setC core ((X.S.C core).lowN a 0)), routA x3 k5 X.out, blk kb (u8n (bs.take 0 ++ List.replicate (16 - 0) 0)).toArray 96] := H
    have u16 : (u8n bs).toArray.size = 16 := by simpa [u8n_length] using hb16
    refine ⟨fun w => St W (rbusA b P S).own w [rbusA b P2 (X.S.setC core ((X.S.C core).lowN a 0)), routA x3 k5 X.out, blk kb (u8n bs).toArray 96], ?_, fun _ => ?_⟩
    · refine ⟨fun x w => ∃ j : Nat, x = j ∧ j ≤ 16 ∧ St W (rbusA b P S).own w [rbusA b P2 (X.S.setC core ((X.S.C core).lowN a 0)), routA x3 k5 X.out, blk kb (u8n (bs.take j ++ List.replicate (16 - j) 0)).toArray 96], fun x _ => 16 - x.toNat, ⟨0, rfl, by omega, H⟩, fun _ => ?_⟩
      clear H
      rintro x w17 ⟨j, rfl, hj, H⟩
      refine split_of (fun q => ?_) (fun q => ?_)
      · have q := of_decide_eq_true q
        refine ⟨_, _, _, (rbus_open (H.nth 0 rfl)).ld 0 rfl rfl, ?_⟩
        rintro z6 rfl z7 rfl
        rw [show (a : Int) - 65536 = (d : Int) by omega, Bits.n64 (by omega), show (d : Int) + (j : Int) = ((d + j : Nat) : Int) by omega, Bits.n64 (by omega)]
        obtain ⟨-, hm2⟩ := mem_at ((rbus_open (H.nth 0 rfl)).nth 4 rfl)
        obtain ⟨g2, off2, hdp, h4⟩ := hm2 (by show 0 < X.S.mem.length; omega)
        have h5 := h4 (d + j) (by show d + j < X.S.mem.length; omega)
        refine ⟨⟨by omega, by show ((d + j : Nat) : Int) < (X.S.mem.length : Int); omega⟩, adr_eq hdp ⟨_, by rw [ix1]; exact h5.1, ⟨by omega, by omega⟩, ?_⟩⟩
        refine H.st 2 rfl (i := 0 + ((j : Nat) : Int).toNat * 1) (by simp [u8n_length]; omega) fun w18 H => ?_
        rintro z9 rfl
        rw [w64 (by omega) (by omega)]
        refine ⟨⟨j + 1, by omega, by omega, ?_⟩, by show 16 - ((j : Int) + 1).toNat < 16 - (j : Int).toNat; omega⟩
        have eb : X.S.mem.getD (d + j) 0 = bs.getD j 0 := by
          rw [← hbs, List.getD_eq_getElem?_getD, List.getD_eq_getElem?_getD, List.getElem?_take_of_lt (by omega), List.getElem?_drop]
        have ea : (u8n (bs.take j ++ List.replicate (16 - j) 0)).toArray.setIfInBounds (0 + ((j : Nat) : Int).toNat * 1) (.int .u8 ((X.S.mem.getD (d + j) 0 : Nat) : Int)) = (u8n (bs.take (j + 1) ++ List.replicate (16 - (j + 1)) 0)).toArray := by
          rw [eb, show 0 + ((j : Nat) : Int).toNat * 1 = j by omega, List.setIfInBounds_toArray]
          congr 1
          apply List.ext_getElem?
          intro i
          unfold u8n
          rw [List.getElem?_set, List.getElem?_map, List.getElem?_map, List.length_map]
          have hlj : (bs.take j).length = j := by simp; omega
          have hlj1 : (bs.take (j + 1)).length = j + 1 := by simp; omega
          by_cases e1 : i < j
          · rw [if_neg (by omega), List.getElem?_append_left (by omega), List.getElem?_append_left (by omega), List.getElem?_take_of_lt e1, List.getElem?_take_of_lt (by omega)]
          · by_cases e2 : i = j
            · subst e2
              rw [if_pos rfl, if_pos (by simp; omega), List.getElem?_append_left (by omega), List.getElem?_take_of_lt (by omega), List.getD_eq_getElem?_getD, List.getElem?_eq_getElem (by omega)]
              rfl
            · rw [if_neg (by omega), List.getElem?_append_right (by omega), List.getElem?_append_right (by omega), List.getElem?_replicate, List.getElem?_replicate, hlj, hlj1]
              by_cases e3 : i < 16
              · rw [if_pos (by omega), if_pos (by omega)]
              · rw [if_neg (by omega), if_neg (by omega)]
        have H : St W (rbusA b P S).own w18 [rbusA b P2 (X.S.setC core ((X.S.C core).lowN a 0)), routA x3 k5 X.out, blk kb ((u8n (bs.take j ++ List.replicate (16 - j) 0)).toArray.setIfInBounds (0 + ((j : Nat) : Int).toNat * 1) (.int .u8 ((X.S.mem.getD (d + j) 0 : Nat) : Int))) 96] := H
        rw [ea] at H
        exact H
      · have q := of_decide_eq_false q
        obtain rfl : j = 16 := by omega
        have e : bs.take 16 ++ List.replicate (16 - 16) 0 = bs := by rw [List.take_of_length_le (by omega)]; simp
        rw [e] at H
        exact H
    clear H
    intro w19 H
    have hC2 : ∀ {w : World} {L : List Asn}, St W (rbusA b P S).own w (rbusA b P2 (X.S.setC core ((X.S.C core).lowN a 0)) :: L) → ∀ {g : Nat}, g = P2.gs.getD core 0 → Calls Tryd.prog 47 #[.pointer (some ⟨g, 0, none⟩), .int .i64 a, .agg (u8n bs).toArray, .int .i64 X.mine] w fun e w' =>
        e = .returned (.tuple #[.agg (((X.S.C core).lowN a 0).goneOf a).toR.cells.toArray, .int .i64 (((X.S.C core).lowN a 0).fillE a)]) ∧ ∃ P3 : RP, P3.Ok (X.S.setC core (((X.S.C core).lowN a 0).fillN a bs X.mine)) ∧ St W (rbusA b P S).own w' (rbusA b P3 (X.S.setC core (((X.S.C core).lowN a 0).fillN a bs X.mine)) :: L) := by
      rintro w L H g rfl
      obtain ⟨U2, hU2⟩ := hP2.rel core hkx'
      rw [eC] at hU2
      refine (rfill_f hU2 hC1.ok (rstate_of (H.nth 0 rfl) hP2 hkx') a ha ha16 bs hb16 X.mine (by omega) (by omega)).mono ?_
      rintro e w' ⟨rfl, R', U', hR', hpost⟩
      have hp2 := setR_post (C := ((X.S.C core).lowN a 0).fillN a bs X.mine) (H.nth 0 rfl) hP2 hkx' hpost
      have hok := setR_ok hP2 hkx' hR'
      rw [ell] at hp2 hok
      exact ⟨rfl, P2.setR core R', hok, H.upd 0 rfl hp2⟩
    have hd0 := (rbus_open (H.nth 0 rfl)).ld 0 (i := 0) rfl rfl
    obtain ⟨g, off, hp, -⟩ := rptr_cell ((rbus_open (H.nth 0 rfl)).nth 1 rfl) hP2 hkx'
    refine ⟨fun q w => ∃ (kg : Nat) (P3 : RP), q = some ⟨kg, 0, none⟩ ∧ P3.Ok (X.S.setC core (((X.S.C core).lowN a 0).fillN a bs X.mine)) ∧ St W (rbusA b P S).own w [rbusA b P3 (X.S.setC core (((X.S.C core).lowN a 0).fillN a bs X.mine)), routA x3 k5 X.out, blk kb (u8n bs).toArray 96, blk kg (((X.S.C core).lowN a 0).goneOf a).toR.cells.toArray 104], H.dr fun w20 H => ?_, fun _ => ?_⟩
    · obtain ⟨g', off', hp', hcell⟩ := rptr_cell ((rbus_open (H.nth 0 rfl)).nth 1 rfl) hP2 hkx'
      rw [hp] at hp'
      cases hp'
      refine ⟨_, _, _, (rbus_open (H.nth 0 rfl)).ld 0 rfl rfl, ⟨by omega, by omega⟩, adr_eq hp ⟨_, by rw [ix1]; exact hcell, _, u16, H.cells 2 rfl, ?_, ?_⟩⟩
      · refine (hC2 H rfl).mono ?_
        rintro e w21 ⟨rfl, P3, hP3, H⟩
        exact ⟨_, _, rfl, H.al fun kg w22 H => H.sts0 3 rfl h18 rfl (rline_one _) fun w23 H => ⟨kg, P3, rfl, hP3, H⟩⟩
      · refine H.alb fun kg w24 H _ hb => ⟨hb, (hC2 H rfl).mono ?_⟩
        rintro e w25 ⟨rfl, P3, hP3, H⟩
        exact ⟨_, _, rfl, H.sts0 3 rfl h18 rfl (rline_one _) fun w23 H => ⟨kg, P3, rfl, hP3, H⟩⟩
    clear H
    rintro x10 w27 ⟨kg, P3, rfl, hP3, H⟩
    have hout2 : (if (((X.S.C core).lowN a 0).goneOf a).state ≠ 0 then X.out ++ [⟨core, (((X.S.C core).lowN a 0).goneOf a).line, (((X.S.C core).lowN a 0).goneOf a).state, 0⟩] else X.out).length ≤ 100 := by
      split
      · simp; omega
      · omega
    refine ⟨fun p n c w => n = (if (((X.S.C core).lowN a 0).goneOf a).state ≠ 0 then X.out ++ [⟨core, (((X.S.C core).lowN a 0).goneOf a).line, (((X.S.C core).lowN a 0).goneOf a).state, 0⟩] else X.out).length ∧
      St W (rbusA b P S).own w [rbusA b P3 (X.S.move core (((X.S.C core).lowN a 0).fillN a bs X.mine) (((X.S.C core).lowN a 0).goneOf a)), routA p c (if (((X.S.C core).lowN a 0).goneOf a).state ≠ 0 then X.out ++ [⟨core, (((X.S.C core).lowN a 0).goneOf a).line, (((X.S.C core).lowN a 0).goneOf a).state, 0⟩] else X.out)], ptr_some ⟨_, by rw [add_none]; exact H.ld 3 rfl rfl, split_of (fun q => ?_) (fun q => ?_)⟩, fun _ => ?_⟩
    · have q : (((X.S.C core).lowN a 0).goneOf a).state ≠ 0 := by
        intro e
        have : ((((X.S.C core).lowN a 0).goneOf a).toR.state : Int) = 0 := by show ((((X.S.C core).lowN a 0).goneOf a).state : Int) = 0; omega
        rw [this] at q; cases q
      rw [if_pos q]
      refine ptr_some ⟨_, h18, H.cells 3 rfl, ?_⟩
      refine H.call 0 rfl (rbkeep_any (H.nth 0 rfl) (by exact hr.ok.len) hy1 hy2) fun w31 H => ⟨rfl, ptr_some ⟨_, by rw [add_none]; exact H.ld 3 rfl rfl, ptr_some ⟨_, by rw [add_none]; exact H.ld 3 rfl rfl, ?_⟩⟩⟩
      exact rsnoop_app H 1 rfl ⟨core, (((X.S.C core).lowN a 0).goneOf a).line, (((X.S.C core).lowN a 0).goneOf a).state, 0⟩ (by omega) fun p' c' w' H => ⟨by simp, H.take 2⟩
    · have q : (((X.S.C core).lowN a 0).goneOf a).state = 0 := by
        have : ((((X.S.C core).lowN a 0).goneOf a).state : Int) = 0 := by simpa [Way.toR] using q
        omega
      rw [if_neg (by omega)]
      have e : X.S.move core (((X.S.C core).lowN a 0).fillN a bs X.mine) (((X.S.C core).lowN a 0).goneOf a) = X.S.setC core (((X.S.C core).lowN a 0).fillN a bs X.mine) := by
        unfold PB.move keepM
        rw [if_neg (by omega)]
        rfl
      rw [e]
      exact ⟨rfl, H.take 2⟩
    · clear H
      rintro x12 k38 k39 w34 ⟨rfl, H⟩
      refine rsnoop_app H 1 rfl ⟨core, a, (X.S.C core).stateAt a, X.mine⟩ hout2 fun p' c' w' H => ⟨((p', c'), P3), by simp, move_pok hP3, ?_⟩
      exact (St.fold (Ls := [_, _]) (L := []) (A := all [_, _]) (H.pick [0, 1]) id (fun q h => h)).post 0 rfl
end Go.Proofs.YtbiogceijdcoiaaDoor
