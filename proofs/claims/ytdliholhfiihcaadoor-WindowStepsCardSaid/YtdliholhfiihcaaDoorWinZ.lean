/- The law 'WindowSteps', walked. Condition: the handle of the type 'error'. -/
import Derived.Test.YtdliholhfiihcaaDoorWinZa
namespace Go.Proofs.YtdliholhfiihcaaDoor
open Go.RowKit Go.XHeap Go.Sx Go.Sep
set_option linter.unusedVariables false
set_option maxRecDepth 100000
set_option maxHeartbeats 4000000 in
theorem steps_ok {W : World} (h1 : 1 ≤ W.heap.size) (hE : HErr W) (a0 a1 : Int) (p : Option Addr) (n c : Nat) (hS : Scr W p n) :
    Calls Tryd.prog 4 #[.int .i64 a0, .int .i64 a1, .slice p n c] W fun e w => e = .returned (.bool true) ∧ Hush W w := by
  have EE : ∀ {w : World} {L : List Asn}, St W No w L → HErr w := fun H => (H.touch.cell (p := ⟨0, 0, none⟩) (by show 0 < W.heap.size; omega) (fun e => e)).trans hE
  refine vc4 a0 a1 p n c ?_
  by_cases hw : winOk a0 a1
  · obtain ⟨S, hSn⟩ : ∃ S : Nat, a0 = S := ⟨a0.toNat, by have := hw.1; omega⟩
    obtain ⟨R, hRn⟩ : ∃ R : Nat, a1 = R := ⟨a1.toNat, by have := hw.2.2.1; omega⟩
    subst hSn hRn
    have H := St.nil W
    refine H.calln (wnew_good W S R hw) fun y W2 H => ⟨_, _, rfl, ?_⟩
    obtain ⟨⟨b, w0⟩, hfr⟩ := y
    have H : St W No W2 [winA b w0] := H
    refine H.calln (rnew_good W2 hfr) fun y W3 H => ⟨_, _, rfl, ?_⟩
    obtain ⟨rb, x0⟩ := y
    have H : St W No W3 [winA b w0, refA rb x0 w0] := H
    refine H.callq (told_nil_any W3) fun W4 H => ⟨_, rfl, split_of (fun q => by cases q) (fun _ => split_of (fun q => by cases q) (fun _ => ?_))⟩
    have hnone : Sep.Post emp W4 (hsA [] (none, 0)) W4 := ⟨⟨Sl.nil _ _ _, fun k hk e => by simp [Sep.sl, Value.ownBlock] at hk, fun e he => by simp at he, fun k hk e => e, trivial⟩, XTouch.refl _ _, fun q hq => by
      rcases hq with hq | hq | hq
      · simp [Sep.sl, Value.ownBlock] at hq
      · obtain ⟨e, he, -⟩ := hq; simp at he
      · exact hq.elim⟩
    have H := H.add hnone
    have hF0 : Fine w0 0 := ⟨hfr.ok, fun k hk => by rw [hfr.n] at hk; omega, by rw [hfr.next]; exact Nat.le_refl _⟩
    refine ⟨fun i hs hn hc ok A => ∃ N : Nat, i = N ∧ ok = true ∧ N ≤ 4096 ∧ Inv W b rb N hs hn hc A, fun i _ _ _ _ _ => 4096 - i.toNat, ⟨0, rfl, rfl, by omega, w0, x0, [], hF0, Nat.zero_le _, rfl, H⟩, fun _ => ?_⟩
    clear H hnone hF0
    rintro i hs hn hc ok A ⟨N, rfl, rfl, hN, w, x, es, hF, hes, rfl, H⟩
    refine split_of (fun q => split_of (fun q1 => split_of (fun _ => ?_) (fun q => by cases q)) (fun q1 => ⟨rfl, H.touch⟩)) (fun q => ⟨rfl, H.touch⟩)
    have q := of_decide_eq_true q
    have q1 := of_decide_eq_true q1
    obtain ⟨g, off, hp, hg, o0, o1, o2, o3, o4, hop⟩ := hS N (by omega)
    refine ⟨⟨by omega, q⟩, adr_eq hp ⟨#[.int .i64 o0, .int .i64 o1, .int .i64 o2, .int .i64 o3, .int .i64 o4], rfl, fun j v hj => ?_, ?_⟩⟩
    · rw [add_none, Int.toNat_natCast]
      exact (H.touch.cell (p := ⟨g, off + N * 5 + j, none⟩) hg (fun e => e)).trans (hop j v hj)
    refine H.al fun k B H => H.sts0 3 rfl rfl rfl (by intro v hv; simp at hv; rcases hv with rfl | rfl | rfl | rfl | rfl <;> rfl) fun B2 H => ?_
    have H : St W No B2 [winA b w, refA rb x w, hsA es (hs, hc), blk k #[.int .i64 o0, .int .i64 o1, .int .i64 o2, .int .i64 o3, .int .i64 o4] 49] := H
    refine ptr_some ⟨(w.next : Nat), by rw [add_none]; exact (ref_open (H.nth 1 rfl)).ld 0 rfl rfl, ?_⟩
    rintro z3 -
    refine ⟨o1, H.ld 3 rfl rfl, ?_⟩
    rintro z5 -
    refine H.drN fun C H => ⟨fun t p' n' c' D => t = true ∧ Inv W b rb (N + 1) p' n' c' D, ?_, fun _ => ?_⟩
    · have good : ∀ (w' : WS) (y : RA) (D : World), Fine w' (N + 1) → St W No D [winA b w', refA rb y w', hsA es (hs, hc)] → true = true ∧ Inv W b rb (N + 1) hs es.length hc D := fun w' y D hF' H' => ⟨rfl, w', y, es, hF', by omega, rfl, H'⟩
      have turn1 : ∀ (f : FuncId) (a to : Nat), to < 256 → (∀ D, (winA b w).at_ D → Calls Tryd.prog f #[.pointer (some ⟨b, 0, none⟩), .int .i64 z5] D (TurnPost D b w z5 a to)) → Calls Tryd.prog f #[.pointer (some ⟨b, 0, none⟩), .int .i64 z5] C (fun e B => ∃ v, e = .returned v ∧ Calls Tryd.prog 22 #[.pointer (some ⟨rb, 0, none⟩), .int .i64 z5, .int .i64 (a : Nat), .int .i64 (to : Nat)] B (fun e C => ∃ m, e = .returned (.int .i64 m) ∧ Calls Tryd.prog 16 #[v, .int .i64 m] C (fun e D => ∃ t, e = .returned (.bool t) ∧ t = true ∧ Inv W b rb (N + 1) hs es.length hc D))) :=
        fun f a to ht hc' => turn_case hF EE (H.take 3) ht (hc' C (H.nth 0 rfl)) (fun w' D hF' H' => good w' x D (hF'.le (Nat.le_succ N)) H')
      refine ⟨o0, H.ld 3 rfl rfl, split_of (fun _ => ?_) (fun _ => split_of (fun _ => ?_) (fun _ => split_of (fun _ => ?_) (fun _ => split_of (fun _ => ?_) (fun _ => split_of (fun _ => ?_) (fun _ => split_of (fun _ => ?_) (fun _ => split_of (fun _ => ?_) (fun _ => split_of (fun _ => ?_) (fun _ => good w x C (hF.le (Nat.le_succ N)) (H.take 3)))))))))⟩
      · clear turn1
        refine ⟨o1, H.ld 3 rfl rfl, o2, H.ld 3 rfl rfl, o3, H.ld 3 rfl rfl, o4, H.ld 3 rfl rfl, ?_⟩
        rintro vs rfl
        have hnx := hF.next
        refine (enter_any hF.ok (H.nth 0 rfl) (by omega) o1 o2 o3 o4).mono ?_
        intro e D hpp
        have two : ∀ {E : World}, (refA rb x w).at_ E → Calls Tryd.prog 17 #[.pointer (some ⟨rb, 0, none⟩), .int .i64 o1, .int .i64 o2, .int .i64 o3, .int .i64 o4] E (rEnterPost E rb x w o1 o2 o3 o4) := fun h => renter_any hF.ok h o1 o2 o3 o4
        unfold EnterPost at hpp
        by_cases hok : w.enterOk o1 o2 o3 o4
        · rw [if_pos hok] at hpp
          by_cases hfull : w.n = w.S
          · rw [if_pos hfull] at hpp
            obtain ⟨rfl, hP⟩ := hpp
            have H := H.upd 0 rfl hP
            refine ⟨_, _, rfl, o1, H.ld 3 rfl rfl, o2, H.ld 3 rfl rfl, o3, H.ld 3 rfl rfl, o4, H.ld 3 rfl rfl, (two (H.nth 1 rfl)).mono ?_⟩
            intro e E hpp
            unfold rEnterPost at hpp
            rw [if_pos hok, if_pos hfull] at hpp
            obtain ⟨rfl, hP⟩ := hpp
            have H := H.upd 1 rfl hP
            exact ⟨_, _, rfl, H.callq (told_err_any E (EE H) 4) fun F H => ⟨_, rfl, split_of (fun _ => good w x F (hF.le (Nat.le_succ N)) (H.take 3)) (fun q => by cases q)⟩⟩
          · rw [if_neg hfull] at hpp
            obtain ⟨rfl, hP⟩ := hpp
            have H := H.upd 0 rfl hP
            refine ⟨_, _, rfl, o1, H.ld 3 rfl rfl, o2, H.ld 3 rfl rfl, o3, H.ld 3 rfl rfl, o4, H.ld 3 rfl rfl, (two (H.nth 1 rfl)).mono ?_⟩
            intro e E hpp
            unfold rEnterPost at hpp
            rw [if_pos hok, if_neg hfull] at hpp
            obtain ⟨rfl, y, hP⟩ := hpp
            have H := H.upd 1 rfl hP
            refine ⟨_, _, rfl, H.callq (told_nil_any E) fun F H => ⟨_, rfl, split_of (fun _ => ?_) (fun q => by cases q)⟩⟩
            have := good _ y F (fine_entered hF (by omega) hok hfull) (H.take 3)
            rw [beq_self_eq_true]
            exact this
        · rw [if_neg hok] at hpp
          obtain ⟨rfl, hP⟩ := hpp
          have H := H.upd 0 rfl hP
          refine ⟨_, _, rfl, o1, H.ld 3 rfl rfl, o2, H.ld 3 rfl rfl, o3, H.ld 3 rfl rfl, o4, H.ld 3 rfl rfl, (two (H.nth 1 rfl)).mono ?_⟩
          intro e E hpp
          unfold rEnterPost at hpp
          rw [if_neg hok] at hpp
          obtain ⟨rfl, hP⟩ := hpp
          have H := H.upd 1 rfl hP
          exact ⟨_, _, rfl, H.callq (told_err_any E (EE H) 3) fun F H => ⟨_, rfl, split_of (fun _ => good w x F (hF.le (Nat.le_succ N)) (H.take 3)) (fun q => by cases q)⟩⟩
      · clear turn1
        refine ⟨o1, H.ld 3 rfl rfl, ?_⟩
        by_cases hb : o1 < 0 ∨ (w.R : Int) ≤ o1
        · refine H.callq (wake_bad hF.ok (H.nth 0 rfl) o1 hb) fun D H => ⟨_, rfl, o1, H.ld 3 rfl rfl, (rwake_any hF.ok (H.nth 1 rfl) o1).mono ?_⟩
          intro e E hpp
          rw [if_pos hb] at hpp
          obtain ⟨rfl, hP⟩ := hpp
          have H := H.upd 1 rfl hP
          exact ⟨_, rfl, H.callq (told_err_any E (EE H) 3) fun F H => ⟨_, rfl, good w x F (hF.le (Nat.le_succ N)) (H.take 3)⟩⟩
        · obtain ⟨m, rfl⟩ : ∃ m : Nat, o1 = m := ⟨o1.toNat, by omega⟩
          refine H.call 0 rfl (wake_good hF.ok (H.nth 0 rfl) m (by omega)) fun D H => ⟨_, rfl, _, H.ld 3 rfl rfl, (rwake_any hF.ok (H.nth 1 rfl) m).mono ?_⟩
          intro e E hpp
          rw [if_neg hb, Int.toNat_natCast] at hpp
          obtain ⟨rfl, hP⟩ := hpp
          have H := H.upd 1 rfl hP
          exact ⟨_, rfl, H.callq (told_nil_any E) fun F H => ⟨_, rfl, good _ x F (fine_woken (hF.le (Nat.le_succ N))) (H.take 3)⟩⟩
      · exact ready_case (es := es) (z := (hs, hc)) (I := fun t p' n' c' D => t = true ∧ Inv W b rb (N + 1) p' n' c' D) hF (by omega) H (fun es' z' F hes' H' => ⟨rfl, w, x, es', hF.le (Nat.le_succ N), by omega, hes'.symm, H'⟩)
      · exact turn1 10 0 1 (by decide) (fun D hD => issue_any hF.ok hD hF.regs z5)
      · exact turn1 23 1 0 (by decide) (fun D hD => again_any hF.ok hD hF.regs z5)
      · exact turn1 11 1 2 (by decide) (fun D hD => done_any hF.ok hD hF.regs z5)
      · clear turn1
        refine (retire_any hF.ok (H.nth 0 rfl)).mono ?_
        intro e D hpp
        unfold RetirePost at hpp
        by_cases hc2 : w.n ≠ 0 ∧ (w.slot 0).st = 2
        · rw [if_pos hc2] at hpp
          obtain ⟨rfl, hP⟩ := hpp
          have H := H.upd 0 rfl hP
          refine ⟨_, _, rfl, (rretire_any hF.ok (H.nth 1 rfl)).mono ?_⟩
          intro e E hpp
          unfold rRetirePost at hpp
          rw [if_pos hc2] at hpp
          obtain ⟨rfl, y, hP⟩ := hpp
          have H := H.upd 1 rfl hP
          refine ⟨_, _, rfl, H.callq (told_nil_any E) fun F H => ⟨_, rfl, split_of (fun _ => ?_) (fun q => by cases q)⟩⟩
          have := good _ y F (fine_retired (hF.le (Nat.le_succ N))) (H.take 3)
          rw [beq_self_eq_true]
          exact this
        · rw [if_neg hc2] at hpp
          obtain ⟨rfl, hP⟩ := hpp
          have H := H.upd 0 rfl hP
          refine ⟨_, _, rfl, (rretire_any hF.ok (H.nth 1 rfl)).mono ?_⟩
          intro e E hpp
          unfold rRetirePost at hpp
          rw [if_neg hc2] at hpp
          obtain ⟨rfl, hP⟩ := hpp
          have H := H.upd 1 rfl hP
          exact ⟨_, _, rfl, H.callq (told_err_any E (EE H) 7) fun F H => ⟨_, rfl, split_of (fun _ => good w x F (hF.le (Nat.le_succ N)) (H.take 3)) (fun q => by cases q)⟩⟩
      · exact squash_case (es := es) (z := (hs, hc)) (I := fun t p' n' c' D => t = true ∧ Inv W b rb (N + 1) p' n' c' D) hF (by omega) H (fun w' y es' z' F hF' hes' H' => ⟨rfl, w', y, es', hF'.le (Nat.le_succ N), by omega, hes'.symm, H'⟩)
    · clear H hes hF
      rintro t p' n' c' D ⟨rfl, w, x, es, hF, hes, rfl, H⟩
      refine H.callp (wlen_any (H.nth 0 rfl)) ⟨_, rfl, ?_⟩
      refine (whead_any hF.ok (H.nth 0 rfl)).mono ?_
      rintro e E ⟨rfl, hh⟩
      have H := H.quiet hh
      have R := ref_open (H.nth 1 rfl)
      have I5ok : ∀ {z : Int} {t1 t2 : Bool}, w.headR = .tuple #[.int .i64 z, .bool t1, .bool t2] → (w.n = 0 → z = 0 ∧ t1 = false ∧ t2 = false) → (w.n ≠ 0 → z = (w.slot 0).seq ∧ t1 = decide ((w.slot 0).st = 2) ∧ t2 = true) → True := fun _ _ _ => trivial
      have rest : ∀ (F : World), St W No F [winA b w, refA rb x w, hsA es (p', c')] → ∃ I6 : Int → World → Prop, ∃ I7 : Int → World → Nat, I6 0 F ∧ ∀ (J : Nat → Value), ∀ x7 W40, I6 x7 W40 → Sx.split (decide (x7 < (es.length : Nat))) ((0 ≤ x7 ∧ x7 < ((es.length : Nat) : Int)) ∧ Sx.adr p' fun k32 k33 => ∃ vs5 : Array Value, vs5.size = 2 ∧ cellsAt W40 ⟨k32, k33 + x7.toNat * 2, none⟩ vs5 ∧ Calls Tryd.prog 20 #[.agg vs5] W40 fun e32 W41 => ∃ t12, e32 = .returned (.bool t12) ∧ Sx.split (!t12) (Ending.returned (Value.bool false) = .returned (.bool true) ∧ Hush W W41) (∀ z35 : Int, z35 = IntKind.wrap .i64 (x7 + 1) → I6 z35 W41 ∧ I7 z35 W41 < I7 x7 W40)) (∀ z36 : Int, z36 = IntKind.wrap .i64 ((N : Nat) + 1 : Int) → (∃ M : Nat, z36 = M ∧ true = true ∧ M ≤ 4096 ∧ Inv W b rb M p' es.length c' W40) ∧ 4096 - z36.toNat < 4096 - ((N : Nat) : Int).toNat) := by
        intro F H
        refine ⟨fun i A => ∃ j : Nat, i = j ∧ j ≤ es.length ∧ St W No A [winA b w, refA rb x w, hsA es (p', c')], fun i _ => es.length - i.toNat, ⟨0, rfl, Nat.zero_le _, H⟩, fun _ => ?_⟩
        clear H
        rintro i A ⟨j, rfl, hj, H⟩
        refine split_of (fun q => ?_) (fun q => ?_)
        · have q := of_decide_eq_true q
          have hjl : j < es.length := by omega
          have hT := (St.begin (H.nth 2 rfl)).open_
          obtain ⟨-, g, off, hp2, hcs⟩ := sl_elem (hT.nth 0 rfl) (he_len _) (List.getElem?_eq_getElem hjl) (by decide)
          have hAt : (es[j]).At A := (hT.nth 1 rfl) es[j] (List.getElem_mem hjl)
          refine ⟨⟨by omega, q⟩, adr_eq hp2 ⟨(es[j]).cells.toArray, rfl, by rw [Int.toNat_natCast]; exact hcs, ?_⟩⟩
          have hs := same_any A es[j].p es[j].q es[j].l es[j].l es[j].c es[j].d hAt.short hAt.rp hAt.rq
          rw [decide_eq_true rfl] at hs
          refine H.callq hs fun B H => ⟨_, rfl, split_of (fun q => by cases q) (fun _ => ?_)⟩
          rintro z rfl
          rw [w64 (by omega) (by omega)]
          exact ⟨⟨j + 1, by omega, by omega, H⟩, by show es.length - ((j : Int) + 1).toNat < es.length - (j : Int).toNat; omega⟩
        · rintro z rfl
          rw [w64 (by omega) (by omega)]
          exact ⟨⟨N + 1, by omega, rfl, by omega, w, x, es, hF, hes, rfl, H⟩, by omega⟩
      by_cases hn0 : w.n = 0
      · have hh : w.headR = .tuple #[.int .i64 0, .bool false, .bool false] := if_pos hn0
        rw [hh]
        refine ⟨_, _, _, rfl, fun F => St W No F [winA b w, refA rb x w, hsA es (p', c')], ⟨fun t F => t = false ∧ St W No F [winA b w, refA rb x w, hsA es (p', c')], ?_, fun _ => ?_⟩, fun _ F HF => rest F HF⟩
        · refine split_of (fun q => by cases q) (fun _ => ptr_some ⟨_, _, _, by rw [add_none]; exact R.ld 0 rfl rfl, split_of (fun q => by simp at q) (fun _ => split_of (fun q => by rw [hn0] at q; simp at q) (fun _ => split_of (fun q => by cases q) (fun _ => split_of (fun _ => split_of (fun q => by simp at q) (fun _ => ⟨rfl, H⟩)) (fun q => by cases q))))⟩)
        · rintro t F ⟨rfl, HF⟩
          exact split_of (fun q => by cases q) (fun _ => HF)
      · have hh : w.headR = .tuple #[.int .i64 (w.slot 0).seq, .bool (decide ((w.slot 0).st = 2)), .bool true] := if_neg hn0
        rw [hh]
        obtain ⟨g, off, hp2, -, hc2⟩ := ent_at (R.nth 1 rfl) (k := 0) (by omega)
        refine ⟨_, _, _, rfl, fun F => St W No F [winA b w, refA rb x w, hsA es (p', c')], ⟨fun t F => t = false ∧ St W No F [winA b w, refA rb x w, hsA es (p', c')], ?_, fun _ => ?_⟩, fun _ F HF => rest F HF⟩
        · refine split_of (fun q => by cases q) (fun _ => ptr_some ⟨_, _, _, by rw [add_none]; exact R.ld 0 rfl rfl, split_of (fun q => by simp at q) (fun _ => split_of (fun q => ?_) (fun _ => split_of (fun _ => ?_) (fun q => by cases q)))⟩)
          · exfalso
            have : 0 < w.n := by omega
            simp [this] at q
          · refine ptr_some ⟨_, _, _, by rw [add_none]; exact R.ld 0 rfl rfl, ⟨by omega, by omega⟩, adr_eq hp2 ⟨_, by have := hc2 0 _ rfl; rwa [Nat.zero_mul] at this, split_of (fun q => by simp at q) (fun _ => ?_)⟩⟩
            refine ptr_some ⟨_, _, _, by rw [add_none]; exact R.ld 0 rfl rfl, ⟨by omega, by omega⟩, adr_eq hp2 ⟨_, by have := hc2 4 _ rfl; rwa [Nat.zero_mul] at this, split_of (fun q => ?_) (fun _ => split_of (fun q => by cases q) (fun _ => ⟨rfl, H⟩))⟩⟩
            exfalso
            have e : (((w.slot 0).st : Nat) : Int) = 2 ↔ (w.slot 0).st = 2 := by omega
            by_cases e2 : (w.slot 0).st = 2
            · simp [e2] at q
            · have e3 : ¬ (((w.slot 0).st : Nat) : Int) = 2 := fun h => e2 (e.1 h)
              simp [e2, e3] at q
        · rintro t F ⟨rfl, HF⟩
          exact split_of (fun q => by cases q) (fun _ => HF)
  · refine (wnew_bad W a0 a1 hw).mono ?_
    rintro e W2 ⟨rfl, hh2⟩
    refine ⟨_, _, rfl, (rnew_bad W2 a0 a1 hw).mono ?_⟩
    rintro e W3 ⟨rfl, hh3⟩
    have H : St W No W3 [] := ((St.nil W).quiet hh2).quiet hh3
    refine ⟨_, _, rfl, H.callq (told_err_any W3 (EE H) 2) fun W4 H => ⟨_, rfl, split_of (fun q => by cases q) (fun _ => split_of (fun q => by cases q) (fun _ => ?_))⟩⟩
    refine ⟨fun _ _ _ _ _ A => St W No A [], fun _ _ _ _ _ _ => 0, H, fun _ => ?_⟩
    rintro i hs hn hc ok A H
    exact split_of (fun q => split_of (fun q1 => split_of (fun q => by cases q) (fun _ => ⟨rfl, H.touch⟩)) (fun q1 => ⟨rfl, H.touch⟩)) (fun q => ⟨rfl, H.touch⟩)
end Go.Proofs.YtdliholhfiihcaaDoor
