/- Part F of the proofs over 'rename': Undo. -/
import Derived.Test.YtnlnbclibkceiaaDoorE
namespace Go.Proofs.YtnlnbclibkceiaaDoor
open Go.RowKit Go.XHeap
set_option linter.unusedVariables false

theorem undo_state {w W2 w1 : World} {O : Nat → Prop} {bt bu : Nat} {vf v' : Value} {T : Tb} (h : TabAt w O bt bu vf T) (f o : Int) (r : Nat) (hr : r < 32) (hfl : T.free.length < 128)
    (T1 : XTouch (fun k => k = bt ∨ k = bu) w W2) (hs1 : Sl w1 3 1 v' (T.free.length + 1) (ints (f :: T.free))) (ht1 : XTouch (fun k => vf.ownBlock = some k) W2 w1) (hob1 : ∀ k, v'.ownBlock = some k → vf.ownBlock = some k ∨ W2.heap.size ≤ k)
    (b1 : Blk w1 bt ((tcells T.names (.slice (some ⟨bu, 0, none⟩) T.uses.length T.uses.length) vf).setIfInBounds r (.int .i64 o)) 52) (u1 : Blk w1 bu (((bytesV T.uses).toArray.setIfInBounds f.toNat (.int .u8 0)).setIfInBounds o.toNat (.int .u8 1)) 53) :
    TabNow w O bt ⟨T.names.set r o, (T.uses.set f.toNat 0).set o.toNat 1, f :: T.free⟩ (w1.setCell ⟨bt, 33, none⟩ v') := by
  have lt1 := h.tab.lt
  have lu1 := h.use.lt
  have s1 := T1.size
  have s2 := ht1.size
  have hv : ∀ k, v'.ownBlock = some k → k ≠ bt ∧ k ≠ bu := by
    intro k hk
    rcases hob1 k hk with e | e
    · exact h.fne k e
    · omega
  have hT : XTouch O w (w1.setCell ⟨bt, 33, none⟩ v') := by
    refine ((T1.mono (S' := O) ?_).trans ht1 ?_).setCell (p := ⟨bt, 33, none⟩) (.inl h.ot) v'
    · rintro k - (rfl | rfl)
      · exact h.ot
      · exact h.ou
    · intro k hk e; exact h.ofree k e
  have t1 := b1.set 33 v'
  rw [tcells_set_name h.len _ _ _ hr, tcells_set_free (by simpa using h.len)] at t1
  have uu := u1.set_ne ⟨bt, 33, none⟩ v' h.ne.symm
  rw [bytes_set, bytes_set] at uu
  refine ⟨⟨bu, v', ⟨by simpa using h.len, by simpa using h.ulen, by simp; omega, by simpa using t1, uu, ?_, h.ne, hv, .inl h.ot, .inl h.ou, ?_⟩⟩, hT⟩
  · exact hs1.keep ((XTouch.refl (fun k => k = bt) w1).setCell (p := ⟨bt, 33, none⟩) (.inl rfl) v') (fun k hk e => (hv k hk).1 e)
  · intro k hk
    rcases hob1 k hk with e | e
    · exact .inl (h.ofree k e)
    · refine .inr ⟨by omega, ?_⟩
      have := hs1.lt k hk
      simpa using this
set_option maxRecDepth 100000 in
set_option maxHeartbeats 1000000 in
theorem undo_ok {w : World} {O : Nat → Prop} {bt : Nat} {T : Tb} (h : TabIs w O bt T) (r f o : Int) (h0 : 1 ≤ r) (h1 : r < 32) (hf : T.names.getD r.toNat 0 = f)
    (f0 : 0 ≤ f) (f1 : f < T.uses.length) (o0 : 1 ≤ o) (o1 : o < T.uses.length) (ho : T.uses.getD o.toNat 0 = 2) (fo : f ≠ o) (hfl : T.free.length < 128) :
    Calls Tryd.prog 11 #[.pointer (some ⟨bt, 0, none⟩), .int .i64 r, .int .i64 f, .int .i64 o] w fun e w' => e = .returned .nilIface ∧
      TabNow w O bt ⟨T.names.set r.toNat o, (T.uses.set f.toNat 0).set o.toNat 1, f :: T.free⟩ w' := by
  obtain ⟨bu, vf, h⟩ := h
  have c := h.tab.cell' (tcells_free h.len _ _)
  have cu := h.tab.cell' (tcells_uses h.len _ _)
  have cr := h.tab.cell' (tcells_name h.len _ _ r.toNat (by omega))
  rw [hf] at cr
  have zt := h.tab.frozen
  have zu := h.use.frozen
  have cf := h.use.cell' (bytes_at T.uses f.toNat (by omega))
  have co := h.use.cell' (bytes_at T.uses o.toNat (by omega))
  rw [ho] at co
  have H := Lib.hid h
  have hne := h.ne
  have hul := h.ulen
  have fo' : ¬ f.toNat = o.toNat := by omega
  clear h hf ho
  generalize hU : T.uses.length = nu at *
  generalize T.uses.getD f.toNat 0 = uf at *
  have HU := Lib.hid hU
  clear hU
  go_enter Tryd.func11, Tryd.ntmps11
  go_wp2
  go_region
  all_goals go_wp2_with fail
  have h := H.out
  have T1 : XTouch (fun k => k = bt ∨ k = bu) w (((((w.setCell ⟨bt, r.toNat, none⟩ (.int .i64 o)).setCell ⟨bu, f.toNat, none⟩ (.int .u8 0)).setCell ⟨bu, o.toNat, none⟩ (.int .u8 1)).alloc (.cells #[.int .i64 f] 3)).drew) :=
    (((((XTouch.refl _ w).setCell (p := ⟨bt, r.toNat, none⟩) (.inl (.inl rfl)) _).setCell (p := ⟨bu, f.toNat, none⟩) (.inl (.inr rfl)) _).setCell (p := ⟨bu, o.toNat, none⟩) (.inl (.inr rfl)) _).alloc _).drew
  have N1 : Blk (((((w.setCell ⟨bt, r.toNat, none⟩ (.int .i64 o)).setCell ⟨bu, f.toNat, none⟩ (.int .u8 0)).setCell ⟨bu, o.toNat, none⟩ (.int .u8 1)).alloc (.cells #[.int .i64 f] 3)).drew) w.heap.size #[.int .i64 f] 3 := by
    have := (Blk.new (((w.setCell ⟨bt, r.toNat, none⟩ (.int .i64 o)).setCell ⟨bu, f.toNat, none⟩ (.int .u8 0)).setCell ⟨bu, o.toNat, none⟩ (.int .u8 1)) #[.int .i64 f] 3).drew
    simpa using this
  have B2 : Blk (((((w.setCell ⟨bt, r.toNat, none⟩ (.int .i64 o)).setCell ⟨bu, f.toNat, none⟩ (.int .u8 0)).setCell ⟨bu, o.toNat, none⟩ (.int .u8 1)).alloc (.cells #[.int .i64 f] 3)).drew) bt ((tcells T.names (.slice (some ⟨bu, 0, none⟩) T.uses.length T.uses.length) vf).setIfInBounds r.toNat (.int .i64 o)) 52 :=
    ((((h.tab.set _ _).set_ne ⟨bu, f.toNat, none⟩ _ h.ne).set_ne ⟨bu, o.toNat, none⟩ _ h.ne).alloc _).drew
  have U2 : Blk (((((w.setCell ⟨bt, r.toNat, none⟩ (.int .i64 o)).setCell ⟨bu, f.toNat, none⟩ (.int .u8 0)).setCell ⟨bu, o.toNat, none⟩ (.int .u8 1)).alloc (.cells #[.int .i64 f] 3)).drew) bu (((bytesV T.uses).toArray.setIfInBounds f.toNat (.int .u8 0)).setIfInBounds o.toNat (.int .u8 1)) 53 :=
    ((((h.use.set_ne ⟨bt, r.toNat, none⟩ _ h.ne.symm).set _ _).set _ _).alloc _).drew
  refine (insert_head f (h.free.keep T1 (fun k hk => by have := h.fne k hk; omega)) _ N1 (fun e => by have := h.free.lt _ e; omega) h.flen).mono ?_
  rintro e w1 ⟨v', rfl, hs1, ht1, hob1⟩
  obtain ⟨ao', cap', rfl, -⟩ := hs1.open1
  have b1 := B2.keep ht1 (fun hk => (h.fne bt hk).1 rfl)
  have u1 := U2.keep ht1 (fun hk => (h.fne bu hk).2 rfl)
  have hfin := Lib.hid (undo_state h f o r.toNat (by omega) hfl T1 hs1 ht1 hob1 b1 u1)
  have k33 : w1.cell? ⟨bt, 33, none⟩ = some vf := by
    rw [b1.cell]
    have := tcells_free (names := T.names.set r.toNat o) (by simpa using h.len) (.slice (some ⟨bu, 0, none⟩) T.uses.length T.uses.length) vf
    rw [← tcells_set_name h.len _ _ _ (by omega)] at this
    exact this
  have z33 := b1.frozen 33
  clear b1 u1 hs1 ht1 hob1 T1 N1 B2 U2 h
  go_wp2
  go_ret
  exact ⟨rfl, hfin.out⟩
end Go.Proofs.YtnlnbclibkceiaaDoor
