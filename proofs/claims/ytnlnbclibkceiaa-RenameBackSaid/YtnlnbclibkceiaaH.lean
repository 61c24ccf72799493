/- Part H of the proofs over 'rename': the law of undoing, walked. -/
import Derived.Test.YtnlnbclibkceiaaG
import Derived.Test.YtnlnbclibkceiaaD
import Derived.Deep.DeepCutAuto
import Derived.Deep.CutBlock
import Derived.StillTailTactics
import Derived.Deep.AppendLies
namespace Go.Proofs.Ytnlnbclibkceiaa
open Go.RowKit Go.XHeap
set_option linter.unusedVariables false

def tk (T : Tb) (r : Nat) (f : Int) (fs : List Int) : Tb := ⟨T.names.set r f, (T.uses.set f.toNat 1).set (T.names.getD r 0).toNat 2, fs⟩
def rl (T : Tb) (o : Int) : Tb := ⟨T.names, T.uses.set o.toNat 0, T.free ++ [o]⟩
def ud (T : Tb) (r : Nat) (f o : Int) : Tb := ⟨T.names.set r o, (T.uses.set f.toNat 0).set o.toNat 1, f :: T.free⟩
theorem takeJ {size : Nat} {T : Tb} {L : List Int} {w : World} {O : Nat → Prop} {bt : Nat} (h : TabIs w O bt T) (p : PInv size T L) {f : Int} {fs : List Int} (hf : T.free = f :: fs) (r : Nat) (hr : r < 31) {o : Int} (ho : T.names.getD (1 + r) 0 = o) :
    Calls Try.prog 7 #[.pointer (some ⟨bt, 0, none⟩), .int .i64 (1 + (r : Int))] w fun e w' => e = .returned (.tuple #[.int .i64 f, .int .i64 o, .nilIface]) ∧ TabNow w O bt (tk T (1 + r) f fs) w' := by
  subst ho
  obtain ⟨rf, ro, hfo, -, -⟩ := p.fresh hf (1 + r) (by omega) (by omega)
  have hul := p.ulen
  have etn : (1 + (r : Int)).toNat = 1 + r := by omega
  have := take_ok h (1 + r) f fs (by omega) (by omega) hf (by omega) (by rw [hul]; exact rf.2) (by rw [etn]; omega) (by rw [etn, hul]; exact ro.2) (by rw [etn]; exact hfo)
  rw [etn] at this
  exact this
theorem releaseJ {size : Nat} {T : Tb} {L : List Int} {w : World} {O : Nat → Prop} {bt : Nat} {o : Int} (h : TabIs w O bt T) (p : PInv size T (L ++ [o])) :
    Calls Try.prog 9 #[.pointer (some ⟨bt, 0, none⟩), .int .i64 o] w fun e w' => e = .returned .nilIface ∧ TabNow w O bt (rl T o) w' := by
  obtain ⟨r1, r2, -⟩ := PInv.release (A := L) (C := []) p
  have hcnt := p.count
  have hs := p.s1
  exact release_ok h o r1.1 (by rw [p.ulen]; exact r1.2) r2 (by simp at hcnt; omega)
theorem undoJ {size : Nat} {T : Tb} {L : List Int} {w : World} {O : Nat → Prop} {bt : Nat} {o f : Int} (h : TabIs w O bt T) (p : PInv size T (L ++ [o])) (r : Int) (h1 : 1 ≤ r) (h2 : r < 32) (hf : T.names.getD r.toNat 0 = f) :
    Calls Try.prog 11 #[.pointer (some ⟨bt, 0, none⟩), .int .i64 r, .int .i64 f, .int .i64 o] w fun e w' => e = .returned .nilIface ∧ TabNow w O bt (ud T r.toNat f o) w' := by
  obtain ⟨rf, ro, hfo, hu, hfl, -⟩ := p.undo r.toNat (by omega) (by omega) hf
  exact undo_ok h r f o h1 h2 hf (by omega) (by rw [p.ulen]; exact rf.2) ro.1 (by rw [p.ulen]; exact ro.2) hu hfo hfl
theorem HJ.start {w w1 w2 : World} {bt bu : Nat} {T U : Tb} (h1 : TabNow w (fun _ => False) bt T w1) (h2 : TabNow w1 (fun _ => False) bu U w2) :
    HJ w w2 bt bu T U (Gain (fun _ => False) w w1) (Gain (fun _ => False) w1 w2) (fun _ => False) := by
  have s1 := h1.2.size
  have s2 := h2.2.size
  refine ⟨h1.1.keep h2.2 (fun _ _ e => e), h2.1, ?_, ?_, fun _ h => h.elim, ?_, fun _ _ h => h, fun _ _ h => h, h1.2.trans h2.2 (fun _ _ h => h)⟩
  · rintro k (e | e)
    · exact e.elim
    · omega
  · rintro k (e | e)
    · exact e.elim
    · omega
  · rintro k (e | e) (e2 | e2)
    · exact e.elim
    · exact e.elim
    · exact e2.elim
    · omega
theorem HJ.dr {w0 wr : World} {bt bu : Nat} {T U : Tb} {O1 O2 O3 : Nat → Prop} (h : HJ w0 wr bt bu T U O1 O2 O3) (n : Nat) : HJ w0 (wr.drewN n) bt bu T U O1 O2 O3 :=
  h.onL ((XTouch.refl O3 wr).drewN n) (fun k hk => ⟨.inl hk, (h.g3 k hk).2⟩)
theorem HJ.dr1 {w0 wr : World} {bt bu : Nat} {T U : Tb} {O1 O2 O3 : Nat → Prop} (h : HJ w0 wr bt bu T U O1 O2 O3) : HJ w0 wr.drew bt bu T U O1 O2 O3 :=
  h.onL ((XTouch.refl O3 wr).drew) (fun k hk => ⟨.inl hk, (h.g3 k hk).2⟩)
theorem HJ.lift3 {w0 wr : World} {bt bu : Nat} {T U : Tb} {O1 O2 O3 : Nat → Prop} (h : HJ w0 wr bt bu T U O1 O2 O3) (h3 : ∀ k, ¬ O3 k) {O3' : Nat → Prop} (h4 : ∀ k, ¬ O3' k) : HJ w0 wr bt bu T U O1 O2 O3' :=
  ⟨h.t, h.u, h.g1, h.g2, fun k hk => absurd hk (h4 k), h.d12, fun k _ hk => absurd hk (h4 k), fun k _ hk => absurd hk (h4 k), h.touch⟩
theorem HJ.ends {w0 wr : World} {bt bu : Nat} {T U : Tb} {O1 O2 O3 : Nat → Prop} (h : HJ w0 wr bt bu T U O1 O2 O3) : Below w0.heap.size w0 wr := h.touch.below (Nat.le_refl _) (fun _ h => h.elim)
theorem PInv.tk {size : Nat} {T : Tb} {L : List Int} (h : PInv size T L) {f : Int} {fs : List Int} (hf : T.free = f :: fs) (r : Nat) (hr : r < 31) {o : Int} (ho : T.names.getD (1 + r) 0 = o) : PInv size (tk T (1 + r) f fs) (L ++ [o]) := ho ▸
  (h.fresh hf (1 + r) (by omega) (by omega)).2.2.2.2
theorem PInv.rl {size : Nat} {T : Tb} {L : List Int} {o : Int} (h : PInv size T (L ++ [o])) : PInv size (rl T o) L := by
  have := (PInv.release (A := L) (C := []) h).2.2
  rwa [List.append_nil] at this
theorem free_cases (T : Tb) (h : ¬ T.free = []) : ∃ f fs, T.free = f :: fs := by
  cases hfe : T.free with
  | nil => exact absurd hfe h
  | cons f fs => exact ⟨f, fs, rfl⟩
theorem info38 : (Try.prog.info? 38).map (fun i => (i.zero, i.size, i.bytes)) = some (some (.agg #[.int .i64 0, .int .i64 0, .int .i64 0]), 3, 24) := by kernel_rfl
/-- T is U with the names of l taken -/
structure M2 (size : Nat) (T U : Tb) (l : List (Int × Int × Int)) (L0 : List Int) : Prop where
  pt : PInv size T (L0 ++ l.map (·.2.2))
  pu : PInv size U L0
  back : Back l.reverse T.names T.free U.names U.free
theorem M2.take {size : Nat} {T U : Tb} {l : List (Int × Int × Int)} {L0 : List Int} (h : M2 size T U l L0) {f : Int} {fs : List Int} (hf : T.free = f :: fs) (r : Nat) (hr : r < 31) {o : Int} (ho : T.names.getD (1 + r) 0 = o) : M2 size (tk T (1 + r) f fs) U (l ++ [(1 + (r : Int), f, o)]) L0 := by
  refine ⟨?_, h.pu, ?_⟩
  · have := h.pt.tk hf r hr ho
    simpa using this
  · have hb := h.back
    rw [hf] at hb
    have := Back.take hb (1 + r) (by omega) (by omega) h.pt.nlen
    rw [ho] at this
    rw [List.reverse_append]
    simpa [tk] using this
theorem M2.undo {size : Nat} {T U : Tb} {l : List (Int × Int × Int)} {L0 : List Int} {r f o : Int} (h : M2 size T U (l ++ [(r, f, o)]) L0) : 1 ≤ r ∧ r < 32 ∧ T.names.getD r.toNat 0 = f ∧ PInv size T ((L0 ++ l.map (·.2.2)) ++ [o]) ∧ M2 size (ud T r.toNat f o) U l L0 := by
  have hb := h.back
  rw [List.reverse_append] at hb
  simp only [List.reverse_cons, List.reverse_nil, List.nil_append, List.singleton_append] at hb
  obtain ⟨h1, h2, h3, h4⟩ := hb
  have hp : PInv size T ((L0 ++ l.map (·.2.2)) ++ [o]) := by simpa using h.pt
  exact ⟨h1, h2, h3, hp, ⟨(hp.undo r.toNat (by omega) (by omega) h3).2.2.2.2.2, h.pu, h4⟩⟩
theorem sl_now {w0 wr w' : World} {bt bu : Nat} {T U T' : Tb} {O1 O2 : Nat → Prop} {vl : Value} {n : Nat} {xs : List Value} (h : HJ w0 wr bt bu T U O1 O2 (fun b => vl.ownBlock = some b)) (hn : TabNow wr O1 bt T' w') (hs : Sl wr 38 3 vl n xs) : Sl w' 38 3 vl n xs :=
  hs.keep hn.2 (fun k hk e => h.d13 k e hk)
theorem look_eq {w : World} {O : Nat → Prop} {bt : Nat} {T : Tb} (h : TabIs w O bt T) (j : Nat) (hj : j < 32) {y : Int} (hy : T.names.getD j 0 = y) : Calls Try.prog 10 #[.pointer (some ⟨bt, 0, none⟩), .int .i64 (j : Int)] w fun e w' => e = .returned (.int .i64 y) ∧ w = w' := by
  have := look_any h (j : Int) (by omega) (by omega)
  rw [Int.toNat_natCast, hy] at this
  exact this
def AllSame (w : World) (e : Ending) (w' : World) : Prop := e = .returned (.bool true) ∧ Below w.heap.size w w'
set_option maxRecDepth 100000 in
set_option maxHeartbeats 4000000 in
theorem back_walk (n : Int) (h0 : -9223372036854775808 ≤ n) (h1 : n ≤ 9223372036854775807) (R S : List Int) (hRr : ∀ x ∈ R, -9223372036854775808 ≤ x ∧ x ≤ 9223372036854775807) (hSr : ∀ x ∈ S, -9223372036854775808 ≤ x ∧ x ≤ 9223372036854775807) (w : World) (vr vs : Value)
    (hr : Rd w.heap.size w vr (ints R)) (hs : Rd w.heap.size w vs (ints S)) :
    Calls Try.prog 4 #[.int .i64 n, vr, vs] w (AllSame w) := by
  obtain ⟨ar, cr, rfl, rm, hrc⟩ := hr
  obtain ⟨av, cs, rfl, sm, hsc⟩ := hs
  have lr : (ints R).length = R.length := by simp [ints]
  have ls : (ints S).length = S.length := by simp [ints]
  rw [lr] at rm hrc ⊢
  rw [ls] at sm hsc ⊢
  have HR := Lib.hid hrc; have HS := Lib.hid hsc
  have HRr := Lib.hid hRr; have HSr := Lib.hid hSr
  have pb := pickF_bd n 95 (by omega)
  clear hrc hsc lr ls hRr hSr
  unfold maxLen at rm sm
  go_enter Try.func4, Try.ntmps4
  go_wp2_with fail
  refine (pick_any n 95 h0 h1 (by omega) (by omega) _).mono ?_
  rintro e w1 ⟨rfl, rfl⟩
  obtain ⟨m, hm⟩ : ∃ m : Nat, pickF n 95 = m := ⟨(pickF n 95).toNat, by omega⟩
  rw [hm] at pb ⊢
  clear hm
  have hm1 : m < 95 := by omega
  clear pb
  go_wp2_with fail
  refine (new_any _ (by omega) (by omega) _).mono ?_
  rintro e w1 ⟨rfl, hN⟩
  rw [show (34 + (m : Int)).toNat = 34 + m by omega] at hN
  have HN := Lib.hid hN
  clear hN
  generalize w.heap.size + 1 = bt at *
  go_wp2_with fail
  refine (new_any _ (by omega) (by omega) _).mono ?_
  rintro e w2 ⟨rfl, hN⟩
  rw [show (34 + (m : Int)).toNat = 34 + m by omega] at hN
  have HJ0 := Lib.hid (HJ.start HN.out hN)
  clear hN HN
  generalize w1.heap.size + 1 = bu at *
  have HP0 := Lib.hid (PInv.start (34 + m) (by omega) (by omega))
  go_upto_block 0 with (fail)
  go_cut [12] (fun s wr => ∃ (T : Tb) (L : List Int) (O1 O2 : Nat → Prop), HJ w wr bt bu T T O1 O2 (fun _ => False) ∧ PInv (34 + m) T L)
  case first =>
    go_wp2_with fail
    go_loopw [12] (fun i wr => ∃ (k : Nat) (T : Tb) (L : List Int) (O1 O2 : Nat → Prop), k ≤ R.length ∧ k ≤ 200 ∧ i = .int .i64 k ∧ HJ w wr bt bu T T O1 O2 (fun _ => False) ∧ PInv (34 + m) T L) (fun i _ => 200 - (intOf i).toNat)
    case atStart => exact ⟨0, _, _, _, _, by omega, by omega, rfl, HJ0.out, HP0.out⟩
    case round =>
      obtain ⟨k, T, L, O1, O2, hk1, hk2, rfl, hj, hp⟩ := hrel
      have HJ1 := Lib.hid hj; have HP := Lib.hid hp
      clear hj hp HJ0 HP0
      by_cases hlt : k < R.length ∧ k < 200
      · obtain ⟨hlt1, hlt2⟩ := hlt
        obtain ⟨g, off, rfl, hg, hcells⟩ := HR.out (by omega)
        have cR : wr.cell? ⟨g, off + k, none⟩ = some (.int .i64 (R.getD k 0)) := by
          rw [HJ1.out.touch.cell (p := ⟨g, off + k, none⟩) hg (fun h => h), hcells k hlt1]
          simp [ints, List.getD_eq_getElem?_getD, List.getElem?_eq_getElem hlt1]
        have bx := HRr.out (R.getD k 0) (by simp [List.getD_eq_getElem?_getD, List.getElem?_eq_getElem hlt1])
        generalize R.getD k 0 = x at cR bx
        obtain ⟨bx1, bx2⟩ := bx
        have pb := pickF_bd x 31 (by omega)
        clear hcells hg
        go_wp2_with fail
        refine (pick_any x 31 bx1 bx2 (by omega) (by omega) _).mono ?_
        rintro e w2 ⟨rfl, rfl⟩
        obtain ⟨r, hr⟩ : ∃ r : Nat, pickF x 31 = r := ⟨(pickF x 31).toNat, by omega⟩
        rw [hr] at pb ⊢
        clear hr
        have hr1 : r < 31 := by omega
        clear pb cR
        by_cases hf : T.free = []
        · have HF := Lib.hid hf
          clear hf
          go_wp2_with fail
          refine (take_full HJ1.out.t (1 + (r : Int)) (by omega) (by omega) HF.out).mono ?_
          rintro e w2 ⟨rfl, rfl⟩
          go_wp2_with fail
          refine (take_full HJ1.out.u (1 + (r : Int)) (by omega) (by omega) HF.out).mono ?_
          rintro e w2 ⟨rfl, rfl⟩
          go_wp2_with fail
          go_quiet (fail)
          go_wp2_with fail
          go_roundw
          case rel => exact ⟨k + 1, _, _, _, _, by omega, by omega, by go_num, HJ1.out.dr _, HP.out⟩
          case measure => simp [intOf]; omega
        · obtain ⟨f, fs, hf⟩ := free_cases T hf
          obtain ⟨o, ho⟩ : ∃ o, T.names.getD (1 + r) 0 = o := ⟨_, rfl⟩
          have HF := Lib.hid hf; have HO := Lib.hid ho
          clear hf ho
          go_wp2_with fail
          refine (takeJ HJ1.out.t HP.out HF.out r hr1 HO.out).mono ?_
          rintro e w2 ⟨rfl, hn⟩
          have HJ2 := Lib.hid (HJ1.out.onT hn)
          clear hn
          go_wp2_with fail
          refine (takeJ HJ2.out.u HP.out HF.out r hr1 HO.out).mono ?_
          rintro e w3 ⟨rfl, hn⟩
          have HJ3 := Lib.hid (HJ2.out.onU hn)
          have HP3 := Lib.hid (HP.out.tk HF.out r hr1 HO.out)
          clear hn HJ2 HO
          generalize tk T (1 + r) f fs = T1 at *
          go_wp2_with fail
          go_quiet (fail)
          have HJ4 := Lib.hid (HJ3.out.dr nq)
          generalize w3.drewN nq = w4 at *
          by_cases h3 : k % 3 = 0
          · have hd : (k : Int) % 3 ≤ 0 := by omega
            clear h3
            go_wp2_with fail
            go_roundw
            case rel => exact ⟨k + 1, _, _, _, _, by omega, by omega, by go_num, HJ4.out, HP3.out⟩
            case measure => simp [intOf]; omega
          · have hd : 0 < (k : Int) % 3 := by omega
            go_wp2_with fail
            refine (releaseJ HJ4.out.t HP3.out).mono ?_
            rintro e w5 ⟨rfl, hn⟩
            have HJ5 := Lib.hid (HJ4.out.onT hn)
            clear hn
            go_wp2_with fail
            refine (releaseJ HJ5.out.u HP3.out).mono ?_
            rintro e w6 ⟨rfl, hn⟩
            have HJ6 := Lib.hid (HJ5.out.onU hn)
            have HP6 := Lib.hid (HP3.out.rl)
            clear hn HJ5
            go_wp2_with fail
            go_roundw
            case rel => exact ⟨k + 1, _, _, _, _, by omega, by omega, by go_num, HJ6.out, HP6.out⟩
            case measure => simp [intOf]; omega
      · by_cases hlt1 : k < R.length
        · obtain rfl : k = 200 := by omega
          go_wp2_with fail
          go_meet
          exact ⟨_, _, _, _, HJ1.out, HP.out⟩
        · go_wp2_with fail
          go_meet
          exact ⟨_, _, _, _, HJ1.out, HP.out⟩
  case rest =>
    obtain ⟨TU, L, O1, O2, hj, hp⟩ := hcut
    have HJ1 := Lib.hid hj; have HP := Lib.hid hp
    clear hj hp HJ0 HP0
    go_upto_block 2 with (fail)
    go_cut [20] (fun vl wr => ∃ (T U : Tb) (l : List (Int × Int × Int)) (L0 : List Int) (O1 O2 : Nat → Prop), l.length ≤ 200 ∧ HJ w wr bt bu T U O1 O2 (fun b => vl.ownBlock = some b) ∧ Sl wr 38 3 vl l.length (trip l) ∧ M2 (34 + m) T U l L0)
    case first =>
      go_wp2_with fail
      go_loopw [20, 21] (fun vl i wr => ∃ (k : Nat) (T : Tb) (l : List (Int × Int × Int)) (O1 : Nat → Prop), k ≤ S.length ∧ k ≤ 200 ∧ l.length ≤ k ∧ i = .int .i64 k ∧ HJ w wr bt bu T TU O1 O2 (fun b => vl.ownBlock = some b) ∧ Sl wr 38 3 vl l.length (trip l) ∧ M2 (34 + m) T TU l L) (fun _ i _ => 200 - (intOf i).toNat)
      case atStart => exact ⟨0, _, [], _, by omega, by omega, by simp, rfl, HJ1.out.lift3 (fun _ h => h) (fun b hb => by simp [Value.ownBlock] at hb), Sl.nil _ _ _, ⟨by simpa using HP.out, HP.out, ⟨rfl, rfl⟩⟩⟩
      case round =>
        obtain ⟨k, T, l, O1, hk1, hk2, hkl, rfl, hj, hsl, hm2⟩ := hrel
        have HJ1 := Lib.hid hj; have HM := Lib.hid hm2; have HL := Lib.hid hsl
        clear hj hm2
        obtain ⟨ao, cap, rfl, hl1, hl2, hl3, -⟩ := trip_cells hsl
        unfold maxLen at hl1 hl3
        clear hsl
        by_cases hlt : k < S.length ∧ k < 200
        · obtain ⟨hlt1, hlt2⟩ := hlt
          obtain ⟨g, off, rfl, hg, hcells⟩ := HS.out (by omega)
          have cR : wr.cell? ⟨g, off + k, none⟩ = some (.int .i64 (S.getD k 0)) := by
            rw [HJ1.out.touch.cell (p := ⟨g, off + k, none⟩) hg (fun h => h), hcells k hlt1]
            simp [ints, List.getD_eq_getElem?_getD, List.getElem?_eq_getElem hlt1]
          have bx := HSr.out (S.getD k 0) (by simp [List.getD_eq_getElem?_getD, List.getElem?_eq_getElem hlt1])
          generalize S.getD k 0 = x at cR bx
          obtain ⟨bx1, bx2⟩ := bx
          have pb := pickF_bd x 31 (by omega)
          clear hcells hg
          go_wp2_with fail
          refine (pick_any x 31 bx1 bx2 (by omega) (by omega) _).mono ?_
          rintro e w2 ⟨rfl, rfl⟩
          obtain ⟨r, hr⟩ : ∃ r : Nat, pickF x 31 = r := ⟨(pickF x 31).toNat, by omega⟩
          rw [hr] at pb ⊢
          clear hr
          have hr1 : r < 31 := by omega
          clear pb cR
          by_cases hf : T.free = []
          · have HF := Lib.hid hf
            clear hf
            go_wp2_with fail
            refine (take_full HJ1.out.t (1 + (r : Int)) (by omega) (by omega) HF.out).mono ?_
            rintro e w2 ⟨rfl, rfl⟩
            go_wp2_with fail
            go_roundw
            case rel => exact ⟨k + 1, _, _, _, by omega, by omega, by omega, by go_num, HJ1.out, HL.out, HM.out⟩
            case measure => simp [intOf]; omega
          · obtain ⟨f, fs, hf⟩ := free_cases T hf
            obtain ⟨o, ho⟩ : ∃ o, T.names.getD (1 + r) 0 = o := ⟨_, rfl⟩
            have HF := Lib.hid hf; have HO := Lib.hid ho
            clear hf ho
            go_wp2_with fail
            refine (takeJ HJ1.out.t HM.out.pt HF.out r hr1 HO.out).mono ?_
            rintro e w2 ⟨rfl, hn⟩
            have HL2 := Lib.hid (sl_now HJ1.out hn HL.out)
            have HJ2 := Lib.hid (HJ1.out.onT hn)
            have HM2 := Lib.hid (HM.out.take HF.out r hr1 HO.out)
            obtain ⟨i0, hi, hz0, hz1, hz2⟩ := info_parts info38
            have HNI := Lib.hid hi; have HZ0 := Lib.hid hz0; have HZ1 := Lib.hid hz1; have HZ2 := Lib.hid hz2
            have hT := (XTouch.refl (fun _ => False) w2).alloc (.cells #[.int .i64 (1 + (r : Int)), .int .i64 f, .int .i64 o] 38)
            have HS2 := Lib.hid (HL2.out.keep hT (fun _ _ h => h))
            have HNB := Lib.hid (Blk.new w2 #[.int .i64 (1 + (r : Int)), .int .i64 f, .int .i64 o] 38)
            clear hn hi hz0 hz1 hz2 hT HO HF
            go_wp2_with (at_builtin; refine wpList_append_sl rfl (.tmp 143) (.tmp 148) 36 rfl 38 i0 (.agg #[.int .i64 0, .int .i64 0, .int .i64 0]) 3 24 Try.underlying36 HNI.out HZ0.out HZ1.out HZ2.out rfl (by decide) _ _ _ rfl HS2.out ⟨w2.heap.size, 0, none⟩ 1 1 [.int .i64 (1 + (r : Int)), .int .i64 f, .int .i64 o] rfl rfl ?c1 ?c2 ?c3 ?c4 ?c5)
            case c1 =>
              exact World.news_of_block (cs := #[.int .i64 (1 + (r : Int)), .int .i64 f, .int .i64 o]) (t := 38) (fr := (0, 0)) HNB.out
            case c2 => simp [Value.oneCell']
            case c3 => unfold maxLen; omega
            case c4 => omega
            case c5 =>
              intro v' w3 hs1 ht1 hob1
              have hT2 : XTouch (fun b => (Value.slice ao l.length cap).ownBlock = some b) w2 w3 := ((XTouch.refl _ w2).alloc _).trans ht1 (fun k _ h => h)
              have HJ3 := Lib.hid (HJ2.out.onL (O3' := fun b => v'.ownBlock = some b) hT2 (fun b hb => ⟨(hob1 b hb).imp_right (fun h => by first | omega | (simp at h; omega)), hs1.lt b hb⟩))
              have HL3 : Hid (Sl w3 38 3 v' (l ++ [(1 + (r : Int), f, o)]).length (trip (l ++ [(1 + (r : Int), f, o)]))) := Lib.hid (by rw [trip_snoc]; simpa using hs1)
              obtain ⟨ao', cap', rfl, -⟩ := trip_cells HL3.out
              clear hs1 ht1 hob1 hT2
              go_wp2_with fail
              go_roundw
              case rel => exact ⟨k + 1, _, _, _, by omega, by omega, by simp; omega, by go_num, HJ3.out, HL3.out, HM2.out⟩
              case measure => simp [intOf]; omega
        · by_cases hlt1 : k < S.length
          · obtain rfl : k = 200 := by omega
            go_wp2_with fail
            go_meet
            exact ⟨_, _, _, _, _, _, hkl, HJ1.out, HL.out, HM.out⟩
          · go_wp2_with fail
            go_meet
            exact ⟨_, _, _, _, _, _, by omega, HJ1.out, HL.out, HM.out⟩
    case rest =>
      obtain ⟨T, U, l, L0, O1, O2, hl200, hj, hsl, hm2⟩ := hcut
      have HJ1 := Lib.hid hj; have HM := Lib.hid hm2; have HL := Lib.hid hsl
      clear hj hm2
      obtain ⟨ao, cap, rfl, hl1, hl2, hl3, -⟩ := trip_cells hsl
      unfold maxLen at hl1 hl3
      clear hsl
      go_wp2_with fail
      go_loopw [26] (fun i wr => ∃ (k : Nat) (T : Tb) (O1 : Nat → Prop), k ≤ l.length ∧ ((k = 0 ∧ i = .int .i64 (-1)) ∨ ∃ j : Nat, k = j + 1 ∧ i = .int .i64 (j : Int)) ∧ HJ w wr bt bu T U O1 O2 (fun b => (Value.slice ao l.length cap).ownBlock = some b) ∧ Sl wr 38 3 (.slice ao l.length cap) l.length (trip l) ∧ M2 (34 + m) T U (l.take k) L0) (fun i _ => (intOf i + 1).toNat)
      case atStart =>
        refine ⟨l.length, _, _, Nat.le_refl _, ?_, HJ1.out, HL.out, by rw [List.take_length]; exact HM.out⟩
        generalize l.length = n
        cases n with
        | zero => exact .inl ⟨rfl, rfl⟩
        | succ j => exact .inr ⟨j, rfl, by go_num⟩
      case round =>
        obtain ⟨k, T, O1, hk1, hki, hj, hsl, hm2⟩ := hrel
        have HJ1 := Lib.hid hj; have HM := Lib.hid hm2; have HL := Lib.hid hsl
        clear hj hm2
        rcases hki with ⟨rfl, rfl⟩ | ⟨j, rfl, rfl⟩
        · have hM := HM.out
          rw [List.take_zero] at hM
          obtain ⟨hnm, hfr⟩ := hM.back
          have hpt : PInv (34 + m) T L0 := by simpa using hM.pt
          have HQ := Lib.hid (And.intro hnm (And.intro hfr (And.intro hpt hM.pu)))
          clear hM hnm hfr hpt hsl HM
          go_wp2_with fail
          go_loop [28] (fun i => ∃ j : Nat, j ≤ 32 ∧ i = .int .i64 j) (fun i => 32 - (intOf i).toNat)
          case atStart => exact ⟨0, by omega, rfl⟩
          case round =>
            obtain ⟨j, hj, rfl⟩ := hrel
            by_cases hjl : j < 32
            · obtain ⟨y, hy⟩ : ∃ y, T.names.getD j 0 = y := ⟨_, rfl⟩
              have hy2 : U.names.getD j 0 = y := by rw [← HQ.out.1]; exact hy
              have K1 := Lib.hid (look_eq HJ1.out.t j hjl hy); have K2 := Lib.hid (look_eq HJ1.out.u j hjl hy2)
              clear hy hy2
              go_wp2_with fail
              refine (K1.out).mono ?_
              rintro e w3 ⟨rfl, rfl⟩
              go_wp2_with fail
              refine (K2.out).mono ?_
              rintro e w3 ⟨rfl, rfl⟩
              go_wp2_with fail
              go_round
              case rel => exact ⟨j + 1, by omega, by go_num⟩
              case measure => simp [intOf]; omega
            · go_wp2_with fail
              go_loopw [31] (fun i wr => ∃ (k : Nat) (T U : Tb) (L : List Int) (O1 O2 : Nat → Prop), k ≤ 40 ∧ i = .int .i64 k ∧ HJ w wr bt bu T U O1 O2 (fun b => (Value.slice ao l.length cap).ownBlock = some b) ∧ (T.names = U.names ∧ T.free = U.free ∧ PInv (34 + m) T L ∧ PInv (34 + m) U L)) (fun i _ => 40 - (intOf i).toNat)
              case atStart => exact ⟨0, _, _, _, _, _, by omega, rfl, HJ1.out, HQ.out⟩
              case round =>
                obtain ⟨k, T, U, L, O1, O2, hk, rfl, hj, hq⟩ := hrel
                have HJ1 := Lib.hid hj; have HQ := Lib.hid hq
                clear hj hq
                by_cases hkl : k < 40
                · obtain ⟨r, hr⟩ : ∃ r : Nat, (k : Int) % 31 = r := ⟨k % 31, by omega⟩
                  have hr1 : r < 31 := by omega
                  have HR1 := Lib.hid hr
                  clear hr
                  by_cases hf : T.free = []
                  · have C1 := Lib.hid (take_full HJ1.out.t (1 + (r : Int)) (by omega) (by omega) hf)
                    have C2 := Lib.hid (take_full HJ1.out.u (1 + (r : Int)) (by omega) (by omega) (by rw [← HQ.out.2.1]; exact hf))
                    clear hf
                    go_wp2_with fail
                    rw [HR1.out]
                    refine (C1.out).mono ?_
                    rintro e w3 ⟨rfl, rfl⟩
                    go_wp2_with fail
                    rw [HR1.out]
                    refine (C2.out).mono ?_
                    rintro e w3 ⟨rfl, rfl⟩
                    go_wp2_with fail
                    go_quiet (fail)
                    go_wp2_with fail
                    go_roundw
                    case rel => exact ⟨k + 1, _, _, _, _, _, by omega, by go_num, HJ1.out.dr _, HQ.out⟩
                    case measure => simp [intOf]; omega
                  · obtain ⟨f, fs, hf⟩ := free_cases T hf
                    obtain ⟨o, ho⟩ : ∃ o, T.names.getD (1 + r) 0 = o := ⟨_, rfl⟩
                    have ho2 : U.names.getD (1 + r) 0 = o := by rw [← HQ.out.1]; exact ho
                    have hf2 : U.free = f :: fs := by rw [← HQ.out.2.1]; exact hf
                    have C1 := Lib.hid (takeJ HJ1.out.t HQ.out.2.2.1 hf r hr1 ho)
                    have C2 := Lib.hid (fun W (hW : TabIs W O2 bu U) => takeJ hW HQ.out.2.2.2 hf2 r hr1 ho2)
                    have HQ2 : Hid ((tk T (1 + r) f fs).names = (tk U (1 + r) f fs).names ∧ (tk T (1 + r) f fs).free = (tk U (1 + r) f fs).free ∧ PInv (34 + m) (tk T (1 + r) f fs) (L ++ [o]) ∧ PInv (34 + m) (tk U (1 + r) f fs) (L ++ [o])) :=
                      Lib.hid ⟨by unfold tk; rw [HQ.out.1], rfl, HQ.out.2.2.1.tk hf r hr1 ho, HQ.out.2.2.2.tk hf2 r hr1 ho2⟩
                    clear ho ho2 hf hf2
                    go_wp2_with fail
                    rw [HR1.out]
                    refine (C1.out).mono ?_
                    rintro e w3 ⟨rfl, hn⟩
                    have HJ2 := Lib.hid (HJ1.out.onT hn)
                    clear hn
                    go_wp2_with fail
                    rw [HR1.out]
                    refine (C2.out _ HJ2.out.u).mono ?_
                    rintro e w4 ⟨rfl, hn⟩
                    have HJ3 := Lib.hid (HJ2.out.onU hn)
                    clear hn
                    go_wp2_with fail
                    go_quiet (fail)
                    go_wp2_with fail
                    go_roundw
                    case rel => exact ⟨k + 1, _, _, _, _, _, by omega, by go_num, HJ3.out.dr _, HQ2.out⟩
                    case measure => simp [intOf]; omega
                · go_wp2_with fail
                  go_ret
                  exact ⟨rfl, HJ1.out.ends⟩
        · obtain ⟨x, hx⟩ : ∃ x, l[j]? = some x := ⟨_, List.getElem?_eq_getElem (by omega)⟩
          obtain ⟨ao', cap', hv, -, -, -, hcell⟩ := trip_cells hsl
          simp at hv
          obtain ⟨rfl, rfl⟩ := hv
          obtain ⟨g, off, rfl, c0, c1, c2⟩ := hcell j x hx
          have htk : l.take (j + 1) = l.take j ++ [x] := by rw [List.take_succ_eq_append_getElem (by omega)]; congr 2; exact (Option.some.inj ((List.getElem?_eq_getElem (by omega)).symm.trans hx))
          have hm := HM.out
          rw [htk] at hm
          obtain ⟨xr, xf, xo⟩ := x
          obtain ⟨b1, b2, b3, hp, hm3⟩ := hm.undo
          have HU := Lib.hid (fun W hW => undoJ (w := W) (O := O1) (bt := bt) hW hp xr b1 b2 b3)
          have HM3 := Lib.hid hm3
          clear hsl hcell hx htk hm hp hm3 b3
          have q1 : (0 : Int) ≤ (j : Int) := by omega
          have q2 : (j : Int) < (l.length : Int) := by omega
          go_wp2_with fail
          go_still_tail 16, (by kernel_rfl)
          have HJ2 := Lib.hid HJ1.out.dr1
          have HL2 := Lib.hid (HL.out.keep ((XTouch.refl (fun _ => False) wr).drew) (fun _ _ h => h))
          change wpList _ _ _ _ _ wr.drew
          generalize wr.drew = w2 at *
          clear c0 c1 c2 q1 q2
          go_wp2_with fail
          refine (HU.out _ HJ2.out.t).mono ?_
          rintro e w3 ⟨rfl, hn⟩
          have HL3 := Lib.hid (sl_now HJ2.out hn HL2.out)
          have HJ3 := Lib.hid (HJ2.out.onT hn)
          clear hn
          go_wp2_with fail
          go_roundw
          case rel =>
            refine ⟨j, _, _, by omega, ?_, HJ3.out, HL3.out, HM3.out⟩
            cases j with
            | zero => exact .inl ⟨rfl, rfl⟩
            | succ j => exact .inr ⟨j, rfl, by go_num⟩
          case measure => first | (simp [intOf]; done) | (simp [intOf]; omega)
end Go.Proofs.Ytnlnbclibkceiaa
