/- Part W of the proofs over 'rename': the law of the steps, walked. -/
import Derived.Test.YtnlnbclibkceiaaDoorWo
import Derived.Deep.DeepCutAuto
import Derived.Deep.CutBlock
import Derived.StillTailTactics
import Derived.Deep.AppendLies
namespace Go.Proofs.YtnlnbclibkceiaaDoor
open Go.RowKit Go.XHeap
set_option linter.unusedVariables false

set_option maxRecDepth 100000 in
set_option maxHeartbeats 4000000 in
theorem steps_walk (n : Int) (vs : Value) (ns : Nat) (w : World) (hs : Scr w vs ns) (hE : w.cell? ⟨0, 0, none⟩ = some (.iface 77 (.agg #[.pointer (some ⟨1, 25, none⟩)]))) :
    Calls Tryd.prog 3 #[.int .i64 n, vs] w (AllSame w) := by
  obtain ⟨ar, cr, rfl, rm, hrc⟩ := hs
  have HS := Lib.hid hrc; have HE := Lib.hid hE
  clear hrc hE
  unfold maxLen at rm
  by_cases hin : 34 ≤ n ∧ n ≤ 128
  · obtain ⟨h0, h1⟩ := hin
    obtain ⟨m, rfl⟩ := Int.eq_ofNat_of_zero_le (show 0 ≤ n by omega)
    go_enter Tryd.func3, Tryd.ntmps3
    go_wp2_with fail
    refine (new_any _ (by omega) (by omega) _).mono ?_
    rintro e w1 ⟨rfl, hN⟩
    rw [Int.toNat_natCast] at hN
    have HN := Lib.hid hN
    clear hN
    generalize w.heap.size + 1 = bt at *
    go_wp2_with fail
    refine (rnew_any _ (by omega) (by omega) _).mono ?_
    rintro e w2 ⟨rfl, hN⟩
    rw [Int.toNat_natCast] at hN
    have HJ0 := Lib.hid (HJ.start HN.out hN)
    clear hN HN
    generalize w1.heap.size = b at *
    have HA0 : Hid (Agree m (newTab m m) (newRb m m)) := Lib.hid ⟨rfl, rfl, rfl, Good.start m (by omega) (by omega)⟩
    go_wp2_with fail
    refine (told_nil _).mono ?_
    rintro e w2 ⟨rfl, rfl⟩
    go_wp2_with fail
    go_loopw [10, 11] (fun vl i wr => ∃ (k : Nat) (T : Tb) (R : Rb) (l : List (Int × Int × Int)) (O1 O2 : Nat → Prop), k ≤ ns ∧ k ≤ 4096 ∧ l.length ≤ k ∧ i = .int .i64 k ∧ HJ w wr bt b T R O1 O2 (fun j => vl.ownBlock = some j) ∧ Sl wr 37 3 vl l.length (trip l) ∧ Agree m T R) (fun _ i _ => 4096 - (intOf i).toNat)
    case atStart => exact ⟨0, _, _, [], _, _, by omega, by omega, by simp, rfl, ⟨HJ0.out.t, HJ0.out.u, HJ0.out.g1, HJ0.out.g2, fun k hk => by simp [Value.ownBlock] at hk, HJ0.out.d12, fun k _ hk => by simp [Value.ownBlock] at hk, fun k _ hk => by simp [Value.ownBlock] at hk, HJ0.out.touch⟩, Sl.nil _ _ _, HA0.out⟩
    case round =>
      obtain ⟨k, T, R, l, O1, O2, hk1, hk2, hkl, rfl, hj, hsl, ha⟩ := hrel
      have HJ1 := Lib.hid hj; have HA := Lib.hid ha; have HL := Lib.hid hsl
      clear hj ha HJ0 HA0
      obtain ⟨ao, cap, rfl, hl1, hl2, hl3, -⟩ := trip_cells hsl
      unfold maxLen at hl1 hl3
      clear hsl
      by_cases hlt : k < ns ∧ k < 4096
      · obtain ⟨hlt1, hlt2⟩ := hlt
        obtain ⟨g, off, rfl, hg, hcells⟩ := HS.out (by omega)
        obtain ⟨ok, ox, oy, oz, c0, c1, c2, c3⟩ := hcells k hlt1
        have ht0 := HJ1.out.touch
        rw [← ht0.cell (p := ⟨g, off + k * 4, none⟩) hg (fun h => h)] at c0
        rw [← ht0.cell (p := ⟨g, off + k * 4 + 1, none⟩) hg (fun h => h)] at c1
        rw [← ht0.cell (p := ⟨g, off + k * 4 + 2, none⟩) hg (fun h => h)] at c2
        rw [← ht0.cell (p := ⟨g, off + k * 4 + 3, none⟩) hg (fun h => h)] at c3
        clear hcells ht0
        have HM := Lib.hid (Mid.start HJ1.out HL.out ok ox oy oz)
        go_upto_region 11 with (fail)
        have hbo := HJ1.out.touch.size
        change Code.wp _ _ _ _ (wr.alloc (.cells (quad ok ox oy oz) 35))
        generalize wr.alloc (.cells (quad ok ox oy oz) 35) = w3 at HM ⊢
        generalize wr.heap.size = bo at *
        clear HJ1 HL c0 c1 c2 c3
        obtain ⟨p0, p1, p2, p3, pz⟩ := HM.out.cells
        go_cut [10, 12, 77] (fun vl vo q wx => vl = .slice ao l.length cap ∧ vo = .pointer (some ⟨bo, 0, none⟩) ∧ q = .bool (decide (ok = 4 ∧ 0 < l.length)) ∧ wx = w3)
        case first =>
          as_aux_lemma =>
            by_cases h4 : ok = 4
            · have hq : (ok == 4) = true := by simp [h4]
              go_wp2_with fail
              go_meet
              exact ⟨rfl, rfl, by simp [h4], rfl⟩
            · have hq : (ok == 4) = false := by simp [h4]
              go_wp2_with fail
              go_meet
              exact ⟨rfl, rfl, by simp [h4], rfl⟩
        case rest =>
          as_aux_lemma =>
            obtain ⟨rfl, rfl, rfl, rfl⟩ := hcut
            go_upto_if 77 with (fail)
            go_cut [10, 12] (fun vl vo wx => vo = .pointer (some ⟨bo, 0, none⟩) ∧ ∃ (l' : List (Int × Int × Int)) (k' x y z : Int), l'.length ≤ l.length ∧ Mid w bt b bo T R O1 O2 vl l' k' x y z wx)
            case first =>
              as_aux_lemma =>
                by_cases h4 : ok = 4 ∧ 0 < l.length
                · rw [decide_eq_true h4]
                  rcases List.eq_nil_or_concat l with rfl | ⟨l0, ⟨xr, xf, xo⟩, e⟩
                  · simp at h4
                  rw [List.concat_eq_append] at e
                  subst e
                  obtain ⟨ao', cap', hv, -, -, -, hcell⟩ := trip_cells HM.out.2.1
                  simp only [Value.slice.injEq, true_and] at hv
                  obtain ⟨rfl, rfl⟩ := hv
                  obtain ⟨g2, off2, rfl, t0, t1, t2⟩ := hcell l0.length (xr, xf, xo) (by simp)
                  have hlen : (l0 ++ [(xr, xf, xo)]).length = l0.length + 1 := by simp
                  have HM2 := HM
                  rw [hlen] at HM2 hl1 hl2 ⊢
                  dsimp only at t0 t1 t2
                  clear h4 hcell
                  have hbl := HM.out.2.2.1.lt
                  go_wp2_with fail
                  go_meet
                  exact ⟨rfl, l0, 2, xr, xf, xo, by omega, (HM.out.short).quad4 2 xr xf xo _⟩
                · rw [decide_eq_false h4]
                  go_wp2_with fail
                  go_meet
                  exact ⟨rfl, l, ok, ox, oy, oz, Nat.le_refl _, HM.out⟩
            case rest =>
              as_aux_lemma =>
                obtain ⟨rfl, l2, k2, x2, y2, z2, hll, hm⟩ := hcut
                have HM2 := Lib.hid hm
                clear p0 p1 p2 p3 pz
                obtain ⟨ao2, cap2, hv2, hm1, hm2, hm3, -⟩ := trip_cells hm.2.1
                subst hv2
                obtain ⟨p0, p1, p2, p3, pz⟩ := hm.cells
                unfold maxLen at hm1 hm3
                clear hm
                go_upto_region 15 with (fail)
                go_cut [10, 12, 108] (fun vl vo q wx => vl = .slice ao2 l2.length cap2 ∧ vo = .pointer (some ⟨bo, 0, none⟩) ∧ q = .bool (decide (k2 = 5 ∧ 0 < l2.length ∧ 0 ≤ x2)) ∧ Mid w bt b bo T R O1 O2 (.slice ao2 l2.length cap2) l2 k2 x2 y2 z2 wx)
                case first =>
                  as_aux_lemma =>
                    by_cases h5 : k2 = 5
                    · have hq : (k2 == 5) = true := by simp [h5]
                      by_cases hp : 0 < l2.length
                      · go_wp2_with fail
                        go_meet
                        exact ⟨rfl, rfl, by simp [h5, hp], HM2.out⟩
                      · have hp0 : l2.length = 0 := by omega
                        go_wp2_with fail
                        go_meet
                        exact ⟨rfl, rfl, by simp [h5, hp], HM2.out⟩
                    · have hq : (k2 == 5) = false := by simp [h5]
                      go_wp2_with fail
                      go_meet
                      exact ⟨rfl, rfl, by simp [h5], HM2.out⟩
                case rest =>
                  as_aux_lemma =>
                    obtain ⟨rfl, rfl, rfl, hm⟩ := hcut
                    have HM3 := Lib.hid hm
                    clear p0 p1 p2 p3 pz
                    obtain ⟨p0, p1, p2, p3, pz⟩ := hm.cells
                    clear hm HM2
                    go_upto_if 108 with (fail)
                    go_cut [10, 12] (fun vl vo wx => vl = .slice ao2 l2.length cap2 ∧ vo = .pointer (some ⟨bo, 0, none⟩) ∧ ∃ k' x y z : Int, Mid w bt b bo T R O1 O2 (.slice ao2 l2.length cap2) l2 k' x y z wx)
                    case first =>
                      as_aux_lemma =>
                        by_cases h5 : k2 = 5 ∧ 0 < l2.length ∧ 0 ≤ x2
                        · rw [decide_eq_true h5]
                          obtain ⟨xn, hxn⟩ := Int.eq_ofNat_of_zero_le h5.2.2
                          subst hxn
                          obtain ⟨q, hq⟩ : ∃ q, l2[xn % l2.length]? = some q := ⟨_, List.getElem?_eq_getElem (Nat.mod_lt _ h5.2.1)⟩
                          obtain ⟨ao', cap', hv, -, -, -, hcell⟩ := trip_cells HM3.out.2.1
                          simp only [Value.slice.injEq, true_and] at hv
                          obtain ⟨rfl, rfl⟩ := hv
                          obtain ⟨g2, off2, rfl, t0, t1, t2⟩ := hcell _ q hq
                          have hpos := h5.2.1
                          clear h5 hcell
                          have i0 : (0 : Int) ≤ (xn : Int) % (l2.length : Int) := Int.emod_nonneg _ (by omega)
                          have i1 : (xn : Int) % (l2.length : Int) < (l2.length : Int) := Int.emod_lt_of_pos _ (by omega)
                          go_wp2_with fail
                          go_meet
                          exact ⟨rfl, rfl, 3, q.2.2, 0, 0, HM3.out.quad4' 3 q.2.2 0 0⟩
                        · rw [decide_eq_false h5]
                          go_wp2_with fail
                          go_meet
                          exact ⟨rfl, rfl, k2, x2, y2, z2, HM3.out⟩
                    case rest =>
                      as_aux_lemma =>
                        obtain ⟨rfl, rfl, k3, x3, y3, z3, hm⟩ := hcut
                        have HM4 := Lib.hid hm
                        clear p0 p1 p2 p3 pz
                        obtain ⟨p0, p1, p2, p3, pz⟩ := hm.cells
                        clear hm HM3
                        by_cases hk : k3 = 0
                        · as_aux_lemma =>
                            have e0 : (k3 == 0) = true := by simp [hk]
                            by_cases hx : 0 ≤ x3 ∧ x3 < 32
                            · obtain ⟨hx0, hx1⟩ := hx
                              have k1 := look_any HM4.out.1.t x3 hx0 hx1
                              have k2 := rlook_any HM4.out.1.u x3 hx0 hx1
                              rw [HA.out.nm] at k1
                              generalize R.names.getD x3.toNat 0 = yy at k1 k2
                              have C1 := Lib.hid (k1)
                              have C2 := Lib.hid (k2)
                              clear k1 k2
                              go_wp2_with fail
                              refine C1.out.mono ?_
                              rintro e w9 ⟨rfl, rfl⟩
                              go_wp2_with fail
                              refine C2.out.mono ?_
                              rintro e w9 ⟨rfl, rfl⟩
                              go_wp2_with fail
                              refine (same_any HM4.out.1.t HM4.out.1.u HA.out).mono ?_
                              rintro e w9 ⟨rfl, rfl⟩
                              go_wp2_with fail
                              go_roundw
                              case rel => exact ⟨k + 1, _, _, _, _, _, by omega, by omega, by omega, by go_num, HM4.out.1, HM4.out.2.1, HA.out⟩
                              case measure => simp [intOf]; omega
                            · have hx' : x3 < 0 ∨ 32 ≤ x3 := by omega
                              have C1 := Lib.hid (look_out (w := wc) ⟨bt, 0, none⟩ x3 hx')
                              have C2 := Lib.hid (rlook_out (w := wc) ⟨b, 0, none⟩ x3 hx')
                              go_wp2_with fail
                              refine C1.out.mono ?_
                              rintro e w9 ⟨rfl, rfl⟩
                              go_wp2_with fail
                              refine C2.out.mono ?_
                              rintro e w9 ⟨rfl, rfl⟩
                              go_wp2_with fail
                              refine (same_any HM4.out.1.t HM4.out.1.u HA.out).mono ?_
                              rintro e w9 ⟨rfl, rfl⟩
                              go_wp2_with fail
                              go_roundw
                              case rel => exact ⟨k + 1, _, _, _, _, _, by omega, by omega, by omega, by go_num, HM4.out.1, HM4.out.2.1, HA.out⟩
                              case measure => simp [intOf]; omega
                        · have hk0 := hk
                          clear hk
                          by_cases hk : k3 = 1
                          · as_aux_lemma =>
                              have e0 : (k3 == 0) = false := by simp [hk]
                              have e1 : (k3 == 1) = true := by simp [hk]
                              by_cases hx : 1 ≤ x3 ∧ x3 < 32
                              · obtain ⟨r, hr⟩ := Int.eq_ofNat_of_zero_le (show 0 ≤ x3 by omega)
                                subst hr
                                obtain ⟨hx0, hx1⟩ := hx
                                by_cases hf : T.free = []
                                · have hf2 : R.free = [] := by rw [← HA.out.fr]; exact hf
                                  have HF := Lib.hid hf; have HF2 := Lib.hid hf2
                                  clear hf hf2
                                  have C1 := Lib.hid (take_full HM4.out.1.t (r : Int) (by omega) (by omega) HF.out)
                                  have C2 := Lib.hid (rtake_full HM4.out.1.u (r : Int) (by omega) (by omega) HF2.out)
                                  have HE2 := Lib.hid (HM4.out.hE HE.out)
                                  go_wp2_with fail
                                  refine C1.out.mono ?_
                                  rintro e w9 ⟨rfl, rfl⟩
                                  go_wp2_with fail
                                  refine C2.out.mono ?_
                                  rintro e w9 ⟨rfl, rfl⟩
                                  go_wp2_with fail
                                  refine (told_err 4 _ HE2.out).mono ?_
                                  rintro e w5 ⟨rfl, ht5⟩
                                  have HM5 := Lib.hid (HM4.out.on0 ht5)
                                  clear ht5 p0 p1 p2 p3 pz
                                  obtain ⟨p0, p1, p2, p3, pz⟩ := HM5.out.cells
                                  go_wp2_with fail
                                  refine (same_any HM5.out.1.t HM5.out.1.u HA.out).mono ?_
                                  rintro e w9 ⟨rfl, rfl⟩
                                  go_wp2_with fail
                                  go_roundw
                                  case rel => exact ⟨k + 1, _, _, _, _, _, by omega, by omega, by omega, by go_num, HM5.out.1, HM5.out.2.1, HA.out⟩
                                  case measure => simp [intOf]; omega
                                · obtain ⟨f, fs, hf2⟩ : ∃ f fs, T.free = f :: fs := by
                                    cases hfe : T.free with
                                    | nil => exact absurd hfe hf
                                    | cons f fs => exact ⟨f, fs, rfl⟩
                                  obtain ⟨o, ho⟩ : ∃ o, T.names.getD r 0 = o := ⟨_, rfl⟩
                                  have HF := Lib.hid hf2; have HO := Lib.hid ho
                                  clear hf hf2 ho
                                  have HA5 := Lib.hid (HA.out.take HF.out r (by omega) HO.out)
                                  have C1 := Lib.hid (takeA HM4.out.1.t HA.out HF.out r (by omega) (by omega) HO.out)
                                  have C2 := Lib.hid (fun W hW => rtakeA (w := W) (O2 := O2) (b := b) hW HA.out HF.out r (by omega) (by omega) HO.out)
                                  go_wp2_with fail
                                  refine C1.out.mono ?_
                                  rintro e w5 ⟨rfl, hn⟩
                                  have HM5 := Lib.hid (HM4.out.onT hn)
                                  clear hn p0 p1 p2 p3 pz
                                  obtain ⟨p0, p1, p2, p3, pz⟩ := HM5.out.cells
                                  go_wp2_with fail
                                  refine (C2.out _ HM5.out.1.u).mono ?_
                                  rintro e w6 ⟨rfl, hn⟩
                                  have HM6 := Lib.hid (HM5.out.onR hn)
                                  clear hn p0 p1 p2 p3 pz
                                  obtain ⟨p0, p1, p2, p3, pz⟩ := HM6.out.cells
                                  go_wp2_with fail
                                  refine (told_nil _).mono ?_
                                  rintro e w7 ⟨rfl, rfl⟩
                                  obtain ⟨i0, hi, hz0, hz1, hz2⟩ := info_parts info37
                                  have HNI := Lib.hid hi; have HZ0 := Lib.hid hz0; have HZ1 := Lib.hid hz1; have HZ2 := Lib.hid hz2
                                  have hT := (XTouch.refl (fun _ => False) w6).alloc (.cells #[.int .i64 (r : Int), .int .i64 f, .int .i64 o] 37)
                                  have HS2 := Lib.hid ((HM6.out.on0 hT).2.1)
                                  have HNB := Lib.hid (Blk.new w6 #[.int .i64 (r : Int), .int .i64 f, .int .i64 o] 37)
                                  clear hi hz0 hz1 hz2 hT
                                  go_wp2_with (at_builtin; refine wpList_append_sl rfl (.tmp 169) (.tmp 175) 33 rfl 37 i0 (.agg #[.int .i64 0, .int .i64 0, .int .i64 0]) 3 24 Tryd.underlying33 HNI.out HZ0.out HZ1.out HZ2.out rfl (by decide) _ _ _ rfl HS2.out ⟨w6.heap.size, 0, none⟩ 1 1 [.int .i64 (r : Int), .int .i64 f, .int .i64 o] rfl rfl ?c1 ?c2 ?c3 ?c4 ?c5)
                                  case c1 => exact World.news_of_block (cs := #[.int .i64 (r : Int), .int .i64 f, .int .i64 o]) (t := 37) (fr := (0, 0)) HNB.out
                                  case c2 => simp [Value.oneCell']
                                  case c3 => unfold maxLen; omega
                                  case c4 => omega
                                  case c5 =>
                                    intro v' w8 hs1 ht1 hob1
                                    have HM8 := Lib.hid (HM6.out.grow (.cells #[.int .i64 (r : Int), .int .i64 f, .int .i64 o] 37) (r : Int) f o hs1 ht1 hob1)
                                    obtain ⟨ao', cap', rfl, -⟩ := trip_cells HM8.out.2.1
                                    clear hs1 ht1 hob1
                                    have hl9 : (l2 ++ [((r : Int), f, o)]).length = l2.length + 1 := by simp
                                    rw [hl9] at HM8 ⊢
                                    go_wp2_with fail
                                    refine (same_any HM8.out.1.t HM8.out.1.u HA5.out).mono ?_
                                    rintro e w9 ⟨rfl, rfl⟩
                                    go_wp2_with fail
                                    go_roundw
                                    case rel => exact ⟨k + 1, _, _, l2 ++ [((r : Int), f, o)], _, _, by omega, by omega, by rw [hl9]; omega, by go_num, HM8.out.1, HM8.out.2.1, HA5.out⟩
                                    case measure => simp [intOf]; omega
                              · have hx' : x3 ≤ 0 ∨ 32 ≤ x3 := by omega
                                have C1 := Lib.hid (take_out (w := wc) ⟨bt, 0, none⟩ x3 hx')
                                have C2 := Lib.hid (rtake_out (w := wc) ⟨b, 0, none⟩ x3 hx')
                                have HE2 := Lib.hid (HM4.out.hE HE.out)
                                go_wp2_with fail
                                refine C1.out.mono ?_
                                rintro e w9 ⟨rfl, rfl⟩
                                go_wp2_with fail
                                refine C2.out.mono ?_
                                rintro e w9 ⟨rfl, rfl⟩
                                go_wp2_with fail
                                refine (told_err 3 _ HE2.out).mono ?_
                                rintro e w5 ⟨rfl, ht5⟩
                                have HM5 := Lib.hid (HM4.out.on0 ht5)
                                clear ht5 p0 p1 p2 p3 pz
                                obtain ⟨p0, p1, p2, p3, pz⟩ := HM5.out.cells
                                go_wp2_with fail
                                refine (same_any HM5.out.1.t HM5.out.1.u HA.out).mono ?_
                                rintro e w9 ⟨rfl, rfl⟩
                                go_wp2_with fail
                                go_roundw
                                case rel => exact ⟨k + 1, _, _, _, _, _, by omega, by omega, by omega, by go_num, HM5.out.1, HM5.out.2.1, HA.out⟩
                                case measure => simp [intOf]; omega
                          · have hk1 := hk
                            clear hk
                            by_cases hk : k3 = 2
                            · as_aux_lemma =>
                                have e0 : (k3 == 0) = false := by simp [hk]
                                have e1 : (k3 == 1) = false := by simp [hk]
                                have e2 : (k3 == 2) = true := by simp [hk]
                                have hul := HA.out.g.ul
                                have hsz := HA.out.sz
                                by_cases hx : (1 ≤ x3 ∧ x3 < 32) ∧ (1 ≤ z3 ∧ z3 < (m : Int))
                                · obtain ⟨r, hr⟩ := Int.eq_ofNat_of_zero_le (show 0 ≤ x3 by omega)
                                  subst hr
                                  obtain ⟨⟨hx0, hx1⟩, hz0, hz1⟩ := hx
                                  have er : ((r : Int)).toNat = r := by omega
                                  by_cases hb : T.names.getD r 0 = y3 ∧ z3 ∉ T.free ∧ z3 ∉ T.names
                                  · have HB := Lib.hid hb
                                    clear hb hul hsz er
                                    have HA5 := Lib.hid (HA.out.undo r (by omega) HB.out.1 hz0 hz1 HB.out.2.1 HB.out.2.2)
                                    have C1 := Lib.hid (undoA HM4.out.1.t HA.out r (by omega) (by omega) HB.out.1 hz0 hz1 HB.out.2.1 HB.out.2.2)
                                    have C2 := Lib.hid (fun W hW => rundoA (w := W) (O2 := O2) (b := b) hW HA.out r (by omega) (by omega) HB.out.1 hz0 hz1 HB.out.2.1 HB.out.2.2)
                                    go_wp2_with fail
                                    refine C1.out.mono ?_
                                    rintro e w5 ⟨rfl, hn⟩
                                    have HM5 := Lib.hid (HM4.out.onT hn)
                                    clear hn p0 p1 p2 p3 pz
                                    obtain ⟨p0, p1, p2, p3, pz⟩ := HM5.out.cells
                                    go_wp2_with fail
                                    refine (C2.out _ HM5.out.1.u).mono ?_
                                    rintro e w6 ⟨rfl, hn⟩
                                    have HM6 := Lib.hid (HM5.out.onR hn)
                                    clear hn p0 p1 p2 p3 pz
                                    obtain ⟨p0, p1, p2, p3, pz⟩ := HM6.out.cells
                                    go_wp2_with fail
                                    refine (told_nil _).mono ?_
                                    rintro e w7 ⟨rfl, rfl⟩
                                    go_wp2_with fail
                                    refine (same_any HM6.out.1.t HM6.out.1.u HA5.out).mono ?_
                                    rintro e w9 ⟨rfl, rfl⟩
                                    go_wp2_with fail
                                    go_roundw
                                    case rel => exact ⟨k + 1, _, _, _, _, _, by omega, by omega, by omega, by go_num, HM6.out.1, HM6.out.2.1, HA5.out⟩
                                    case measure => simp [intOf]; omega
                                  · have hb1 : T.names.getD (r : Int).toNat 0 ≠ y3 ∨ T.uses.getD z3.toNat 0 ≠ 2 := by
                                      rw [er, ← Classical.not_and_iff_not_or_not, HA.out.g.two (by omega) hz1]; exact hb
                                    have hb2 : R.names.getD (r : Int).toNat 0 ≠ y3 ∨ z3 ∈ R.free ∨ z3 ∈ R.names := by
                                      rw [er, ← HA.out.nm, ← HA.out.fr]
                                      by_cases q1 : T.names.getD r 0 = y3
                                      · by_cases q2 : z3 ∈ T.free
                                        · exact .inr (.inl q2)
                                        · by_cases q3 : z3 ∈ T.names
                                          · exact .inr (.inr q3)
                                          · exact absurd ⟨q1, q2, q3⟩ hb
                                      · exact .inl q1
                                    have HB1 := Lib.hid hb1; have HB2 := Lib.hid hb2
                                    clear hb hb1 hb2 er
                                    have c1 := undo_order HM4.out.1.t (r : Int) y3 z3 (by omega) (by omega) hz0 (by rw [hul]; exact hz1) HB1.out
                                    have c2 := rundo_order HM4.out.1.u (r : Int) y3 z3 (by omega) (by omega) hz0 (by rw [hsz]; exact hz1) HB2.out
                                    clear hul hsz
                                    have C1 := Lib.hid (c1)
                                    have C2 := Lib.hid (c2)
                                    have HE2 := Lib.hid (HM4.out.hE HE.out)
                                    clear c1 c2
                                    go_wp2_with fail
                                    refine C1.out.mono ?_
                                    rintro e w9 ⟨rfl, rfl⟩
                                    go_wp2_with fail
                                    refine C2.out.mono ?_
                                    rintro e w9 ⟨rfl, rfl⟩
                                    go_wp2_with fail
                                    refine (told_err 5 _ HE2.out).mono ?_
                                    rintro e w5 ⟨rfl, ht5⟩
                                    have HM5 := Lib.hid (HM4.out.on0 ht5)
                                    clear ht5 p0 p1 p2 p3 pz
                                    obtain ⟨p0, p1, p2, p3, pz⟩ := HM5.out.cells
                                    go_wp2_with fail
                                    refine (same_any HM5.out.1.t HM5.out.1.u HA.out).mono ?_
                                    rintro e w9 ⟨rfl, rfl⟩
                                    go_wp2_with fail
                                    go_roundw
                                    case rel => exact ⟨k + 1, _, _, _, _, _, by omega, by omega, by omega, by go_num, HM5.out.1, HM5.out.2.1, HA.out⟩
                                    case measure => simp [intOf]; omega
                                · have c1 := undo_range HM4.out.1.t x3 y3 z3 (by rw [hul]; omega)
                                  have c2 := rundo_range HM4.out.1.u x3 y3 z3 (by rw [hsz]; omega)
                                  clear hul hsz
                                  have C1 := Lib.hid (c1)
                                  have C2 := Lib.hid (c2)
                                  have HE2 := Lib.hid (HM4.out.hE HE.out)
                                  clear c1 c2
                                  go_wp2_with fail
                                  refine C1.out.mono ?_
                                  rintro e w9 ⟨rfl, rfl⟩
                                  go_wp2_with fail
                                  refine C2.out.mono ?_
                                  rintro e w9 ⟨rfl, rfl⟩
                                  go_wp2_with fail
                                  refine (told_err 3 _ HE2.out).mono ?_
                                  rintro e w5 ⟨rfl, ht5⟩
                                  have HM5 := Lib.hid (HM4.out.on0 ht5)
                                  clear ht5 p0 p1 p2 p3 pz
                                  obtain ⟨p0, p1, p2, p3, pz⟩ := HM5.out.cells
                                  go_wp2_with fail
                                  refine (same_any HM5.out.1.t HM5.out.1.u HA.out).mono ?_
                                  rintro e w9 ⟨rfl, rfl⟩
                                  go_wp2_with fail
                                  go_roundw
                                  case rel => exact ⟨k + 1, _, _, _, _, _, by omega, by omega, by omega, by go_num, HM5.out.1, HM5.out.2.1, HA.out⟩
                                  case measure => simp [intOf]; omega
                            · have hk2 := hk
                              clear hk
                              by_cases hk : k3 = 3
                              · as_aux_lemma =>
                                  have e0 : (k3 == 0) = false := by simp [hk]
                                  have e1 : (k3 == 1) = false := by simp [hk]
                                  have e2 : (k3 == 2) = false := by simp [hk]
                                  have e3 : (k3 == 3) = true := by simp [hk]
                                  have hul := HA.out.g.ul
                                  have hsz := HA.out.sz
                                  by_cases hx : 1 ≤ x3 ∧ x3 < (m : Int)
                                  · obtain ⟨hx0, hx1⟩ := hx
                                    by_cases hb : x3 ∉ T.free ∧ x3 ∉ T.names
                                    · have HB := Lib.hid hb
                                      clear hb hul hsz
                                      have HA5 := Lib.hid (HA.out.release hx0 hx1 HB.out.1 HB.out.2)
                                      have C1 := Lib.hid (releaseA HM4.out.1.t HA.out hx0 hx1 HB.out.1 HB.out.2)
                                      have C2 := Lib.hid (fun W hW => rreleaseA (w := W) (O2 := O2) (b := b) hW HA.out hx0 hx1 HB.out.1 HB.out.2)
                                      go_wp2_with fail
                                      refine C1.out.mono ?_
                                      rintro e w5 ⟨rfl, hn⟩
                                      have HM5 := Lib.hid (HM4.out.onT hn)
                                      clear hn p0 p1 p2 p3 pz
                                      obtain ⟨p0, p1, p2, p3, pz⟩ := HM5.out.cells
                                      go_wp2_with fail
                                      refine (C2.out _ HM5.out.1.u).mono ?_
                                      rintro e w6 ⟨rfl, hn⟩
                                      have HM6 := Lib.hid (HM5.out.onR hn)
                                      clear hn p0 p1 p2 p3 pz
                                      obtain ⟨p0, p1, p2, p3, pz⟩ := HM6.out.cells
                                      go_wp2_with fail
                                      refine (told_nil _).mono ?_
                                      rintro e w7 ⟨rfl, rfl⟩
                                      go_wp2_with fail
                                      refine (same_any HM6.out.1.t HM6.out.1.u HA5.out).mono ?_
                                      rintro e w9 ⟨rfl, rfl⟩
                                      go_wp2_with fail
                                      go_roundw
                                      case rel => exact ⟨k + 1, _, _, _, _, _, by omega, by omega, by omega, by go_num, HM6.out.1, HM6.out.2.1, HA5.out⟩
                                      case measure => simp [intOf]; omega
                                    · have hb1 : T.uses.getD x3.toNat 0 ≠ 2 := fun e => hb ((HA.out.g.two (by omega) hx1).1 e)
                                      have hb2 : x3 ∈ R.free ∨ x3 ∈ R.names := by
                                        rw [← HA.out.nm, ← HA.out.fr]
                                        by_cases q2 : x3 ∈ T.free
                                        · exact .inl q2
                                        · by_cases q3 : x3 ∈ T.names
                                          · exact .inr q3
                                          · exact absurd ⟨q2, q3⟩ hb
                                      have c1 := release_free HM4.out.1.t x3 hx0 (by rw [hul]; exact hx1) hb1
                                      have c2 := rrelease_free HM4.out.1.u x3 hx0 (by rw [hsz]; exact hx1) hb2
                                      clear hul hsz hb hb1 hb2
                                      have C1 := Lib.hid (c1)
                                      have C2 := Lib.hid (c2)
                                      have HE2 := Lib.hid (HM4.out.hE HE.out)
                                      clear c1 c2
                                      go_wp2_with fail
                                      refine C1.out.mono ?_
                                      rintro e w9 ⟨rfl, rfl⟩
                                      go_wp2_with fail
                                      refine C2.out.mono ?_
                                      rintro e w9 ⟨rfl, rfl⟩
                                      go_wp2_with fail
                                      refine (told_err 6 _ HE2.out).mono ?_
                                      rintro e w5 ⟨rfl, ht5⟩
                                      have HM5 := Lib.hid (HM4.out.on0 ht5)
                                      clear ht5 p0 p1 p2 p3 pz
                                      obtain ⟨p0, p1, p2, p3, pz⟩ := HM5.out.cells
                                      go_wp2_with fail
                                      refine (same_any HM5.out.1.t HM5.out.1.u HA.out).mono ?_
                                      rintro e w9 ⟨rfl, rfl⟩
                                      go_wp2_with fail
                                      go_roundw
                                      case rel => exact ⟨k + 1, _, _, _, _, _, by omega, by omega, by omega, by go_num, HM5.out.1, HM5.out.2.1, HA.out⟩
                                      case measure => simp [intOf]; omega
                                  · have c1 := release_range HM4.out.1.t x3 (by rw [hul]; omega)
                                    have c2 := rrelease_range HM4.out.1.u x3 (by rw [hsz]; omega)
                                    clear hul hsz
                                    have C1 := Lib.hid (c1)
                                    have C2 := Lib.hid (c2)
                                    have HE2 := Lib.hid (HM4.out.hE HE.out)
                                    clear c1 c2
                                    go_wp2_with fail
                                    refine C1.out.mono ?_
                                    rintro e w9 ⟨rfl, rfl⟩
                                    go_wp2_with fail
                                    refine C2.out.mono ?_
                                    rintro e w9 ⟨rfl, rfl⟩
                                    go_wp2_with fail
                                    refine (told_err 3 _ HE2.out).mono ?_
                                    rintro e w5 ⟨rfl, ht5⟩
                                    have HM5 := Lib.hid (HM4.out.on0 ht5)
                                    clear ht5 p0 p1 p2 p3 pz
                                    obtain ⟨p0, p1, p2, p3, pz⟩ := HM5.out.cells
                                    go_wp2_with fail
                                    refine (same_any HM5.out.1.t HM5.out.1.u HA.out).mono ?_
                                    rintro e w9 ⟨rfl, rfl⟩
                                    go_wp2_with fail
                                    go_roundw
                                    case rel => exact ⟨k + 1, _, _, _, _, _, by omega, by omega, by omega, by go_num, HM5.out.1, HM5.out.2.1, HA.out⟩
                                    case measure => simp [intOf]; omega
                              · have hk3 := hk
                                clear hk
                                have e0 : (k3 == 0) = false := by simp [hk0]
                                have e1 : (k3 == 1) = false := by simp [hk1]
                                have e2 : (k3 == 2) = false := by simp [hk2]
                                have e3 : (k3 == 3) = false := by simp [hk3]
                                go_wp2_with fail
                                refine (same_any HM4.out.1.t HM4.out.1.u HA.out).mono ?_
                                rintro e w9 ⟨rfl, rfl⟩
                                go_wp2_with fail
                                go_roundw
                                case rel => exact ⟨k + 1, _, _, _, _, _, by omega, by omega, by omega, by go_num, HM4.out.1, HM4.out.2.1, HA.out⟩
                                case measure => simp [intOf]; omega
      · by_cases hlt1 : k < ns
        · obtain rfl : k = 4096 := by omega
          go_wp2_with fail
          go_ret
          exact ⟨rfl, HJ1.out.ends⟩
        · go_wp2_with fail
          go_ret
          exact ⟨rfl, HJ1.out.ends⟩
  · exact steps_out n (by omega) (.slice ar ns cr) ns w ⟨ar, cr, rfl, rm, HS.out⟩ HE.out
end Go.Proofs.YtnlnbclibkceiaaDoor
