/- Part D of the proofs over 'rename': the law of names, walked. -/
import Derived.Test.YtnlnbclibkceiaaP
namespace Go.Proofs.Ytnlnbclibkceiaa
open Go.RowKit Go.XHeap
set_option linter.unusedVariables false

def pickF (c n : Int) : Int := if c < 0 then (-(c + 1)).tmod n else c.tmod n
theorem pickF_bd (c n : Int) (hn : 0 < n) : 0 ≤ pickF c n ∧ pickF c n < n := by
  unfold pickF
  split
  · rw [Int.tmod_eq_emod_of_nonneg (by omega)]; exact ⟨Int.emod_nonneg _ (by omega), Int.emod_lt_of_pos _ hn⟩
  · rw [Int.tmod_eq_emod_of_nonneg (by omega)]; exact ⟨Int.emod_nonneg _ (by omega), Int.emod_lt_of_pos _ hn⟩
theorem pick_any (c n : Int) (h0 : -9223372036854775808 ≤ c) (h1 : c ≤ 9223372036854775807) (hn : 0 < n) (hn' : n < 1000) (w : World) :
    Calls Try.prog 5 #[.int .i64 c, .int .i64 n] w fun e w' => e = .returned (.int .i64 (pickF c n)) ∧ w = w' := by
  have hb := pickF_bd c n hn
  have hn2 : ¬ n = 0 := by omega
  have hn3 : (n == 0) = false := by simp; omega
  by_cases hc : c < 0
  · have e : pickF c n = (-(c + 1)) % n := by unfold pickF; rw [if_pos hc, Int.tmod_eq_emod_of_nonneg (by omega)]
    rw [e] at hb ⊢
    clear e
    go_enter Try.func5, Try.ntmps5
    go_wp2
    go_ret
    exact ⟨congrArg (fun x => Ending.returned (.int .i64 x)) (by rw [← Int.neg_tmod, Int.tmod_eq_emod_of_nonneg (by omega)]), rfl⟩
  · have e : pickF c n = c % n := by unfold pickF; rw [if_neg hc, Int.tmod_eq_emod_of_nonneg (by omega)]
    rw [e] at hb ⊢
    clear e
    have hc' : 0 ≤ c := by omega
    go_enter Try.func5, Try.ntmps5
    go_wp2
    go_ret
    exact ⟨rfl, rfl⟩

/-- a slice that came in, of elements of one cell each: it reads as xs; nothing below B is ever written -/
def Rd (B : Nat) (w : World) (v : Value) (xs : List Value) : Prop := ∃ ao cap, v = .slice ao xs.length cap ∧ xs.length ≤ maxLen ∧
  (0 < xs.length → ∃ g off, ao = some ⟨g, off, none⟩ ∧ g < B ∧ ∀ i, i < xs.length → w.cell? ⟨g, off + i, none⟩ = xs[i]?)
def bools (l : List Bool) : List Value := l.map .bool
/-- the state of the law behind k rounds -/
structure Inv (w0 : World) (size : Nat) (bt : Nat) (vl : Value) (wr : World) (T : Tb) (L : List Int) (O : Nat → Prop) : Prop where
  tab : TabIs wr O bt T
  live : Sl wr 3 1 vl L.length (ints L)
  apart : ∀ k, vl.ownBlock = some k → ¬ O k ∧ w0.heap.size ≤ k
  new : ∀ k, O k → w0.heap.size ≤ k
  lt : ∀ k, O k → k < wr.heap.size
  touch : XTouch (fun _ => False) w0 wr
  inv : PInv size T L
theorem Inv.mk' {w0 wr w' : World} {size bt : Nat} {vl vl' : Value} {T T' : Tb} {L L' : List Int} {O : Nat → Prop} (h : Inv w0 size bt vl wr T L O) (hn : TabNow wr O bt T' w') (hp : PInv size T' L') (hs : Sl w' 3 1 vl' L'.length (ints L'))
    (hob : ∀ k, vl'.ownBlock = some k → vl.ownBlock = some k) : Inv w0 size bt vl' w' T' L' (Gain O wr w') :=
  ⟨hn.1, hs, fun k hk => ⟨fun e => by
      rcases e with e | e
      · exact (h.apart k (hob k hk)).1 e
      · have := h.live.lt k (hob k hk); omega, (h.apart k (hob k hk)).2⟩,
   fun k hk => by
      rcases hk with e | e
      · exact h.new k e
      · have := h.touch.size; omega,
   fun k hk => by
      rcases hk with e | e
      · have := h.lt k e; have := hn.2.size; omega
      · exact e.2,
   h.touch.trans hn.2 (fun k hk e => by have := h.new k e; omega), hp⟩
theorem Inv.live' {w0 wr w' : World} {size bt : Nat} {vl : Value} {T T' : Tb} {L : List Int} {O : Nat → Prop} (h : Inv w0 size bt vl wr T L O) (hn : TabNow wr O bt T' w') : Sl w' 3 1 vl L.length (ints L) :=
  h.live.keep hn.2 (fun k hk => (h.apart k hk).1)
theorem look_apart {size : Nat} {T : Tb} {L : List Int} {f old : Int} {r : Nat} (h : PInv size T (L ++ [old])) (h1 : 1 ≤ r) (h2 : r < 32) (hf : T.names.getD r 0 = f) (j : Nat) (hj : j < 32) :
    (j ≠ r → T.names.getD j 0 ≠ f) ∧ T.names.getD j 0 ≠ old := by
  have hnd := h.nodup
  have ro := h.range (x := old) (.inr (.inr (by simp)))
  have hm := getD_tail T.names r h1 (by rw [h.nlen]; exact h2)
  have rf := h.range (x := f) (.inr (.inl (hf ▸ hm)))
  by_cases h0 : j = 0
  · subst h0; rw [h.n0]; exact ⟨fun _ => by omega, by omega⟩
  · have hmj := getD_tail T.names j (by omega) (by rw [h.nlen]; exact hj)
    refine ⟨fun hjr e => ?_, fun e => ?_⟩
    · have ht : T.names.tail.Nodup := (List.nodup_append.1 (List.nodup_append.1 hnd).1).2.1
      have hl : T.names.tail.length = 31 := by simp [h.nlen]
      have g : ∀ i, 1 ≤ i → i < 32 → T.names.tail[i - 1]? = some (T.names.getD i 0) := by
        intro i hi1 hi2
        rw [List.getElem?_tail, show i - 1 + 1 = i by omega, List.getD_eq_getElem?_getD, List.getElem?_eq_getElem (by rw [h.nlen]; exact hi2)]; rfl
      have g1 := g j (by omega) hj
      have g2 := g r h1 h2
      rw [e, ← hf, ← g2] at g1
      rw [List.getElem?_eq_getElem (by omega), List.getElem?_eq_getElem (by omega)] at g1
      have g3 := Option.some.inj g1
      have g4 := List.pairwise_iff_getElem.1 ht
      rcases Nat.lt_trichotomy (j - 1) (r - 1) with h5 | h5 | h5
      · exact g4 _ _ (by omega) (by omega) h5 g3
      · omega
      · exact g4 _ _ (by omega) (by omega) h5 g3.symm
    · exact (List.nodup_append.1 hnd).2.2 _ (List.mem_append.2 (.inr hmj)) old (by simp) e
theorem live_at {w : World} {ao : Option Addr} {n cap : Nat} {L : List Int} (h : Sl w 3 1 (.slice ao n cap) n (ints L)) (j : Nat) (hj : j < L.length) :
    ∃ g off, ao = some ⟨g, off, none⟩ ∧ w.cell? ⟨g, off + j, none⟩ = some (.int .i64 (L.getD j 0)) := by
  obtain ⟨ao', cap', hv, hl, -, -, -, hc⟩ := h.open1
  simp at hv
  obtain ⟨rfl, rfl⟩ := hv
  simp [ints] at hl
  obtain ⟨g, off, rfl, -, hc⟩ := hc (by omega)
  refine ⟨g, off, rfl, ?_⟩
  rw [(hc j (by omega)).1]
  simp [ints, List.getD_eq_getElem?_getD, List.getElem?_eq_getElem hj]
theorem Inv.push {w0 wr w2 w1 : World} {size bt : Nat} {vl v' : Value} {T T1 : Tb} {L : List Int} {old : Int} {O : Nat → Prop} {c : Obj} (h : Inv w0 size bt vl wr T L O) (hn : TabNow wr O bt T1 w2) (hp : PInv size T1 (L ++ [old]))
    (hs1 : Sl w1 3 1 v' (L.length + 1) (ints L ++ [.int .i64 old])) (ht1 : XTouch (fun k => vl.ownBlock = some k) (w2.alloc c) w1)
    (hob1 : ∀ k, v'.ownBlock = some k → vl.ownBlock = some k ∨ (w2.alloc c).heap.size ≤ k) : Inv w0 size bt v' w1 T1 (L ++ [old]) (Gain O wr w2) := by
  have hT : XTouch (fun k => vl.ownBlock = some k) w2 w1 := ((XTouch.refl (fun k => vl.ownBlock = some k) w2).alloc c).trans ht1 (fun k _ h => h)
  have hsz : (w2.alloc c).heap.size = w2.heap.size + 1 := by simp
  have s1 := h.touch.size
  have s2 := hn.2.size
  have hG : ∀ k, vl.ownBlock = some k → ¬ Gain O wr w2 k := by
    intro k hk e
    rcases e with e | e
    · exact (h.apart k hk).1 e
    · have := h.live.lt k hk; omega
  refine ⟨hn.1.keep hT (fun k hk e => hG k e hk), ?_, fun k hk => ?_, fun k hk => ?_, fun k hk => ?_, (h.touch.trans hn.2 (fun k hk e => by have := h.new k e; omega)).trans hT (fun k hk e => by have := (h.apart k e).2; omega), hp⟩
  · rw [ints_append] at hs1
    simpa using hs1
  · rcases hob1 k hk with e | e
    · exact ⟨hG k e, (h.apart k e).2⟩
    · refine ⟨fun e2 => ?_, by omega⟩
      rcases e2 with e2 | e2
      · have := h.lt k e2; omega
      · omega
  · rcases hk with e | e
    · exact h.new k e
    · omega
  · have := hT.size
    rcases hk with e | e
    · have := h.lt k e; omega
    · omega
def Good (w0 : World) (e : Ending) (w' : World) : Prop := e = .returned (.bool true) ∧ Below w0.heap.size w0 w'
set_option maxRecDepth 100000 in
set_option maxHeartbeats 4000000 in
theorem apart_walk (n : Int) (h0 : -9223372036854775808 ≤ n) (h1 : n ≤ 9223372036854775807) (R : List Int) (hRr : ∀ x ∈ R, -9223372036854775808 ≤ x ∧ x ≤ 9223372036854775807) (K : List Bool) (w : World) (vr vk : Value)
    (hr : Rd w.heap.size w vr (ints R)) (hk : Rd w.heap.size w vk (bools K)) :
    Calls Try.prog 3 #[.int .i64 n, vr, vk] w (Good w) := by
  obtain ⟨ar, cr, rfl, rm, hrc⟩ := hr
  obtain ⟨ak, ck, rfl, km, hkc⟩ := hk
  have lr : (ints R).length = R.length := by simp [ints]
  have lk : (bools K).length = K.length := by simp [bools]
  rw [lr] at rm hrc ⊢
  rw [lk] at km hkc ⊢
  have HR := Lib.hid hrc; have HK := Lib.hid hkc
  have pb := pickF_bd n 95 (by omega)
  clear hrc hkc lr lk
  unfold maxLen at rm km
  go_enter Try.func3, Try.ntmps3
  go_wp2_with fail
  refine (pick_any n 95 h0 h1 (by omega) (by omega) _).mono ?_
  rintro e w1 ⟨rfl, rfl⟩
  obtain ⟨m, hm⟩ : ∃ m : Nat, pickF n 95 = m := ⟨(pickF n 95).toNat, by omega⟩
  rw [hm] at pb ⊢
  clear hm
  have hm1 : m < 95 := by omega
  clear pb
  go_wp2_with fail
  refine (new_any _ (by omega) (by omega) _).mono ?_
  rintro e w1 ⟨rfl, hN⟩
  rw [show (34 + (m : Int)).toNat = 34 + m by omega] at hN
  have hI : Inv w (34 + m) (w.heap.size + 1) (.slice none 0 0) w1 (newTab (34 + m) (34 + m)) [] (Gain (fun _ => False) w w1) := by
    refine ⟨hN.1, Sl.nil _ _ _, fun k hk => ?_, fun k hk => ?_, fun k hk => ?_, hN.2, PInv.start _ (by omega) (by omega)⟩
    · simp [Value.ownBlock] at hk
    · rcases hk with e | e
      · exact e.elim
      · exact e.1
    · rcases hk with e | e
      · exact e.elim
      · exact e.2
  have HI := Lib.hid hI
  clear hN hI
  go_wp2
  go_loopw [10, 11] (fun vl i wr => ∃ (k : Nat) (T : Tb) (L : List Int) (O : Nat → Prop), k ≤ R.length ∧ k ≤ 300 ∧ i = .int .i64 k ∧ Inv w (34 + m) (w.heap.size + 1) vl wr T L O) (fun _ i _ => 300 - (intOf i).toNat)
  case atStart => exact ⟨0, _, _, _, by omega, by omega, rfl, HI.out⟩
  case round =>
    obtain ⟨k, T, L, O, hk1, hk2, rfl, hi⟩ := hrel
    have HI := Lib.hid hi
    clear hi
    by_cases hlt : k < R.length ∧ k < 300
    · obtain ⟨hlt1, hlt2⟩ := hlt
      obtain ⟨g, off, rfl, hg, hcells⟩ := HR.out (by omega)
      have cR : wr.cell? ⟨g, off + k, none⟩ = some (.int .i64 (R.getD k 0)) := by
        rw [HI.out.touch.cell (p := ⟨g, off + k, none⟩) hg (fun h => h), hcells k hlt1]
        simp [ints, List.getD_eq_getElem?_getD, List.getElem?_eq_getElem hlt1]
      have bx := hRr (R.getD k 0) (by simp [List.getD_eq_getElem?_getD, List.getElem?_eq_getElem hlt1])
      generalize R.getD k 0 = x at cR bx
      obtain ⟨bx1, bx2⟩ := bx
      have pb := pickF_bd x 31 (by omega)
      clear hcells hg
      obtain ⟨ao, cap, hvl, hll, hl1, hl2, hl3, hlc⟩ := HI.out.live.open1
      subst hvl
      by_cases hf : T.free = []
      · have hcnt := HI.out.inv.count
        rw [hf] at hcnt
        obtain ⟨p, L', rfl⟩ : ∃ p L', L = p :: L' := by
          cases L with
          | nil => simp at hcnt; omega
          | cons p L' => exact ⟨p, L', rfl⟩
        obtain ⟨gl, offl, rfl, hob, hlc⟩ := hlc (by simp)
        have cL := (hlc 0 (by simp)).1
        simp only [ints, List.map_cons, List.getElem?_cons_zero, Nat.add_zero] at cL
        obtain ⟨rp, ru, rI⟩ := PInv.release (A := []) HI.out.inv
        have hL2 : 2 ≤ (p :: L').length := by simp at hcnt ⊢; omega
        have HF := Lib.hid hf; have RU := Lib.hid ru; have RI := Lib.hid rI
        have hcap2 : 2 ≤ cap := by omega
        have hfr := free_any HI.out.tab
        rw [hf] at hfr
        have HFR := Lib.hid hfr
        have HCN := Lib.hid hcnt
        clear hf ru rI hlc hob hll hfr hcnt
        unfold maxLen at hl1 hl3
        simp only [List.length_cons] at *
        go_wp2_with fail
        refine (pick_any x 31 bx1 bx2 (by omega) (by omega) _).mono ?_
        rintro e w2 ⟨rfl, rfl⟩
        generalize pickF x 31 = rr at pb ⊢
        obtain ⟨pb1, pb2⟩ := pb
        go_wp2_with fail
        refine (take_full HI.out.tab (1 + rr) (by omega) (by omega) HF.out).mono ?_
        rintro e w2 ⟨rfl, rfl⟩
        go_wp2_with fail
        refine (HFR.out).mono ?_
        rintro e w2 ⟨rfl, rfl⟩
        go_wp2_with fail
        refine (release_ok HI.out.tab p rp.1 (by rw [HI.out.inv.ulen]; exact rp.2) RU.out (by rw [HF.out]; simp)).mono ?_
        rintro e w2 ⟨rfl, hn⟩
        have hsl := Sl.tail1 (n := L'.length) (xs := ints L') (x := .int .i64 p) (HI.out.live' hn)
        rw [if_neg (by omega)] at hsl
        have HI2 := Lib.hid (HI.out.mk' hn RI.out hsl (fun k hk => hk))
        clear hn hsl cR cL
        go_wp2
        go_roundw
        case rel => exact ⟨k + 1, _, _, _, by omega, by omega, by go_num, HI2.out⟩
        case measure => simp [intOf]; omega
      · obtain ⟨f, fs, hf⟩ : ∃ f fs, T.free = f :: fs := by
          cases hfe : T.free with
          | nil => exact absurd hfe hf
          | cons f fs => exact ⟨f, fs, rfl⟩
        go_wp2_with fail
        refine (pick_any x 31 bx1 bx2 (by omega) (by omega) _).mono ?_
        rintro e w2 ⟨rfl, rfl⟩
        generalize pickF x 31 = rr at pb ⊢
        obtain ⟨pb1, pb2⟩ := pb
        obtain ⟨r, hr⟩ : ∃ r : Nat, rr = r := ⟨rr.toNat, by omega⟩
        subst hr
        obtain ⟨rf, ro, hfo, hfL, hP⟩ := HI.out.inv.fresh hf (1 + r) (by omega) (by omega)
        have hul := HI.out.inv.ulen
        have etn : (1 + (r : Int)).toNat = 1 + r := by omega
        go_wp2_with fail
        refine (take_ok HI.out.tab (1 + r) f fs (by omega) (by omega) hf (by omega) (by rw [hul]; exact rf.2) (by rw [etn]; omega) (by rw [etn, hul]; exact ro.2) (by rw [etn]; exact hfo)).mono ?_
        rintro e w2 ⟨rfl, hn⟩
        rw [etn] at hn ⊢
        have hlen : T.names.length = 32 := HI.out.inv.nlen
        have hset : (T.names.set (1 + r) f).getD (1 + r) 0 = f := by
          rw [List.getD_eq_getElem?_getD, List.getElem?_set, if_pos rfl, if_pos (by rw [hlen]; omega)]; rfl
        have LA := Lib.hid (look_apart (r := 1 + r) hP (by omega) (by omega) hset)
        generalize T.names.getD (1 + r) 0 = old at *
        generalize hT1 : (⟨T.names.set (1 + r) f, (T.uses.set f.toNat 1).set old.toNat 2, fs⟩ : Tb) = T1 at *
        have hset1 : T1.names.getD (1 + r) 0 = f := by rw [← hT1]; exact hset
        have HN := Lib.hid hn; have HP := Lib.hid hP
        have lk1 := look_any hn.1 (1 + r) (by omega) (by omega)
        rw [etn, hset1] at lk1
        have LK1 := Lib.hid lk1
        have LKJ := Lib.hid (fun (j : Nat) (hj : j < 32) => look_any hn.1 j (by omega) (by omega))
        have hliv := HI.out.live' hn
        have HL := Lib.hid hliv
        clear hP hn hset hset1 lk1 hT1 hul hlen hlc hll
        obtain ⟨ro1, ro2⟩ := ro
        obtain ⟨rf1, rf2⟩ := rf
        have HFL := Lib.hid hfL
        have hfo1 : (f == old) = false := by simpa using hfo
        unfold maxLen at hl1 hl3
        clear hfL etn hliv
        go_wp2_with fail
        refine (LK1.out).mono ?_
        rintro e w3 ⟨rfl, rfl⟩
        go_wp2_with fail
        go_loop [18] (fun i => ∃ j : Nat, j ≤ L.length ∧ i = .int .i64 j) (fun i => L.length - (intOf i).toNat)
        case atStart => exact ⟨0, by omega, rfl⟩
        case round =>
          obtain ⟨j, hj, rfl⟩ := hrel
          by_cases hjl : j < L.length
          · obtain ⟨gl, offl, rfl, cL⟩ := live_at HL.out j hjl
            have hne : (L.getD j 0 == f) = false := by
              have : L.getD j 0 ∈ L := by simp [List.getD_eq_getElem?_getD, List.getElem?_eq_getElem hjl]
              have h2 : L.getD j 0 ≠ f := fun e => HFL.out (e ▸ this)
              simpa using h2
            generalize L.getD j 0 = y at cL hne
            go_wp2
            go_round
            case rel => exact ⟨j + 1, by omega, by go_num⟩
            case measure => simp [intOf]; omega
          · go_wp2_with fail
            go_loop [19, 20] (fun i _ => ∃ j : Nat, j ≤ 32 ∧ i = .int .i64 j) (fun i _ => 32 - (intOf i).toNat)
            case atStart => exact ⟨0, by omega, rfl⟩
            case round =>
              obtain ⟨j2, hj2, rfl⟩ := hrel
              by_cases hjl2 : j2 < 32
              · have lkj := LKJ.out j2 hjl2
                rw [show ((j2 : Nat) : Int).toNat = j2 by omega] at lkj
                obtain ⟨la1, la2⟩ := LA.out j2 hjl2
                have LJ := Lib.hid lkj
                generalize T1.names.getD j2 0 = y at LJ la1 la2
                have hyo : (y == old) = false := by simpa using la2
                by_cases hjr : j2 = 1 + r
                · have hjr2 : ((j2 : Int) != 1 + (r : Int)) = false := by rw [bne_eq_false_iff_eq]; omega
                  clear lkj la1 la2 hjr
                  go_wp2_with (go_at_call 10; refine LJ.out.mono ?_; rintro e w3 ⟨rfl, rfl⟩)
                  go_round
                  case rel => exact ⟨j2 + 1, by omega, by go_num⟩
                  case measure => simp [intOf]; omega
                · have hyf : (y == f) = false := by simpa using la1 hjr
                  have hjr2 : ((j2 : Int) != 1 + (r : Int)) = true := by rw [bne_iff_ne]; omega
                  clear lkj la1 la2 hjr
                  go_wp2_with (go_at_call 10; refine LJ.out.mono ?_; rintro e w3 ⟨rfl, rfl⟩)
                  go_round
                  case rel => exact ⟨j2 + 1, by omega, by go_num⟩
                  case measure => simp [intOf]; omega
              · have hw2 := HI.out.touch.trans HN.out.2 (fun k hk e => by have := HI.out.new k e; omega)
                have hREL := PInv.release (A := L) (C := []) HP.out
                have hcnt := HP.out.count
                have hul := HP.out.ulen
                have hnl := HP.out.nlen
                obtain ⟨hre1, hre2, hre3⟩ := hREL
                have hrok := release_ok HN.out.1 old hre1.1 (by rw [hul]; exact hre1.2) hre2 (by have := HP.out.s1; simp at hcnt; omega)
                have HROK := Lib.hid hrok
                rw [List.append_nil] at hre3
                have HRE := Lib.hid hre3
                clear hrok hre3 hre2 hcnt hul hnl
                by_cases hkl : k < K.length
                · obtain ⟨gk, offk, rfl, hgk, hkc⟩ := HK.out (by omega)
                  have cK := hw2.cell (p := ⟨gk, offk + k, none⟩) hgk (fun h => h)
                  rw [hkc k hkl] at cK
                  have hgd : (bools K)[k]? = some (.bool (K.getD k false)) := by
                    simp [bools, List.getD_eq_getElem?_getD, List.getElem?_eq_getElem hkl]
                  rw [hgd] at cK
                  clear hkc hgk hw2 hgd
                  cases hb : K.getD k false with
                  | true =>
                    rw [hb] at cK
                    clear hb
                    obtain ⟨i0, hi, hz0, hz1, hz2⟩ := info_parts info3
                    have HNI := Lib.hid hi; have HZ0 := Lib.hid hz0; have HZ1 := Lib.hid hz1; have HZ2 := Lib.hid hz2
                    have hT := (XTouch.refl (fun _ => False) w2).alloc (.cells #[.int .i64 old] 3)
                    have hS := HL.out.keep hT (fun _ _ h => h)
                    have hNC : (w2.alloc (.cells #[.int .i64 old] 3)).cell? ⟨w2.heap.size, 0, none⟩ = some (.int .i64 old) := World.cell?_alloc_new w2 #[.int .i64 old] 3 0
                    have HS := Lib.hid hS; have HNC := Lib.hid hNC
                    clear hi hz0 hz1 hz2 hT hS hNC
                    go_wp2_with (at_builtin; refine wpList_append_sl rfl (.tmp 141) (.tmp 143) 22 rfl 3 i0 (.int .i64 0) 1 8 Try.underlying22 HNI.out HZ0.out HZ1.out HZ2.out rfl (by decide) _ _ _ rfl HS.out ⟨w2.heap.size, 0, none⟩ 1 1 [.int .i64 old] rfl rfl ?c1 ?c2 ?c3 ?c4 ?c5)
                    case c2 => simp [Value.oneCell']
                    case c3 => unfold maxLen; have h8 := HP.out.count; have h9 := HP.out.s1; simp at h8; omega
                    case c4 => have h8 := HP.out.count; have h9 := HP.out.s1; simp at h8; omega
                    case c5 =>
                      intro v' w1 hs1 ht1 hob1
                      obtain ⟨ao', cap', rfl, -⟩ := hs1.open1
                      have HI2 := Lib.hid (HI.out.push HN.out HP.out hs1 ht1 (fun k hk => (hob1 k hk).imp_right (fun e => by simpa using e)))
                      clear hs1 ht1 hob1
                      go_wp2
                      go_roundw
                      case rel => exact ⟨k + 1, _, _, _, by omega, by omega, by go_num, HI2.out⟩
                      case measure => simp [intOf]; omega
                  | false =>
                    rw [hb] at cK
                    clear hb
                    go_wp2_with fail
                    refine (HROK.out).mono ?_
                    rintro e w4 ⟨rfl, hn4⟩
                    have HI2 := Lib.hid (HI.out.mk' (HN.out.trans hn4) HRE.out (HI.out.live' (HN.out.trans hn4)) (fun k hk => hk))
                    clear hn4
                    go_wp2
                    go_roundw
                    case rel => exact ⟨k + 1, _, _, _, by omega, by omega, by go_num, HI2.out⟩
                    case measure => simp [intOf]; omega
                · clear hw2
                  go_wp2_with fail
                  refine (HROK.out).mono ?_
                  rintro e w4 ⟨rfl, hn4⟩
                  have HI2 := Lib.hid (HI.out.mk' (HN.out.trans hn4) HRE.out (HI.out.live' (HN.out.trans hn4)) (fun k hk => hk))
                  clear hn4
                  go_wp2
                  go_roundw
                  case rel => exact ⟨k + 1, _, _, _, by omega, by omega, by go_num, HI2.out⟩
                  case measure => simp [intOf]; omega
    · have hfr := free_any HI.out.tab
      have HFR := Lib.hid hfr
      have hcnt := HI.out.inv.count
      have HG := Lib.hid (HI.out.touch.below (Nat.le_refl _) (fun _ h => h.elim))
      obtain ⟨ao, cap, hvl, hll, hl1, hl2, hl3, hlc⟩ := HI.out.live.open1
      subst hvl
      have hEq : ((T.free.length : Int) == 34 + (m : Int) - 32 - (L.length : Int)) = true := by rw [beq_iff_eq]; omega
      generalize T.free.length = nf at *
      have HEQ := Lib.hid hEq
      clear hEq hcnt
      clear hfr hlc hll
      unfold maxLen at hl1 hl3
      by_cases hlt1 : k < R.length
      · have hk3 : k = 300 := by omega
        subst hk3
        go_wp2_with fail
        refine (HFR.out).mono ?_
        rintro e w4 ⟨rfl, rfl⟩
        go_wp2_with fail
        go_ret
        exact ⟨congrArg (fun b => Ending.returned (Value.bool b)) HEQ.out, HG.out⟩
      · go_wp2_with fail
        refine (HFR.out).mono ?_
        rintro e w4 ⟨rfl, rfl⟩
        go_wp2_with fail
        go_ret
        exact ⟨congrArg (fun b => Ending.returned (Value.bool b)) HEQ.out, HG.out⟩
end Go.Proofs.Ytnlnbclibkceiaa
