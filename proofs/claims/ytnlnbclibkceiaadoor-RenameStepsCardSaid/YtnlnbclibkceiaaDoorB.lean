/- Part B of the proofs over 'rename': names that are released; a new table. -/
import Derived.Test.YtnlnbclibkceiaaDoorA
import Derived.OwnWalk
namespace Go.Proofs.YtnlnbclibkceiaaDoor
open Go.RowKit Go.XHeap
set_option linter.unusedVariables false

theorem info3 : (Tryd.prog.info? 3).map (fun i => (i.zero, i.size, i.bytes)) = some (some (.int .i64 0), 1, 8) := by kernel_rfl
theorem ints_append (l : List Int) (p : Int) : ints l ++ [.int .i64 p] = ints (l ++ [p]) := by simp [ints]
/-- a name goes to the end of the free ones -/
theorem append_state {w W w1 : World} {O : Nat → Prop} {bt bu : Nat} {vf v' : Value} {T : Tb} {us : List Int} (h : TabAt w O bt bu vf T) (p : Int) (hul : us.length = T.uses.length) (hfl : T.free.length < 128)
    (hT : XTouch (fun k => k = bu) w W) (hs1 : Sl w1 3 1 v' (T.free.length + 1) (ints T.free ++ [.int .i64 p])) (ht1 : XTouch (fun k => vf.ownBlock = some k) W w1)
    (hob1 : ∀ k, v'.ownBlock = some k → vf.ownBlock = some k ∨ w.heap.size ≤ k) (b1 : Blk w1 bt (tcells T.names (.slice (some ⟨bu, 0, none⟩) T.uses.length T.uses.length) vf) 52) (u1 : Blk w1 bu (bytesV us).toArray 53) :
    TabNow w O bt ⟨T.names, us, T.free ++ [p]⟩ (w1.setCell ⟨bt, 33, none⟩ v') := by
  have hsz : w.heap.size ≤ w1.heap.size := Nat.le_trans hT.size ht1.size
  have hbt : bt < w.heap.size := h.tab.lt
  have hbu : bu < w.heap.size := h.use.lt
  have hO : XTouch O w w1 := (hT.mono (S' := O) (fun k _ e => by subst e; exact h.ou)).trans (S := O) (ht1.mono (S' := O) (fun k _ e => h.ofree k e)) (fun _ _ e => e)
  have hTT := hO.setCell (p := ⟨bt, 33, none⟩) (.inl h.ot) v'
  have hne : ∀ k, v'.ownBlock = some k → k ≠ bt ∧ k ≠ bu := by
    intro k hk
    rcases hob1 k hk with e | e
    · exact h.fne k e
    · omega
  have t1 := b1.set 33 v'
  rw [tcells_set_free h.len] at t1
  refine ⟨⟨bu, v', ⟨h.len, by rw [hul]; exact h.ulen, by simp; omega, by rw [hul]; exact t1, u1.set_ne _ _ h.ne.symm, ?_, h.ne, hne, .inl h.ot, .inl h.ou, ?_⟩⟩, hTT⟩
  · rw [ints_append] at hs1
    have := hs1.keep ((XTouch.refl (fun k => k = bt) w1).setCell (p := ⟨bt, 33, none⟩) (.inl rfl) v') (fun k hk => (hne k hk).1)
    simpa using this
  · intro k hk
    rcases hob1 k hk with e | e
    · exact .inl (h.ofree k e)
    · exact .inr ⟨e, by simpa using hs1.lt k hk⟩
set_option maxRecDepth 100000 in
theorem release_ok {w : World} {O : Nat → Prop} {bt : Nat} {T : Tb} (h : TabIs w O bt T) (p : Int) (h0 : 1 ≤ p) (h1 : p < T.uses.length) (hu : T.uses.getD p.toNat 0 = 2) (hfl : T.free.length < 128) :
    Calls Tryd.prog 13 #[.pointer (some ⟨bt, 0, none⟩), .int .i64 p] w fun e w' => e = .returned .nilIface ∧ TabNow w O bt ⟨T.names, T.uses.set p.toNat 0, T.free ++ [p]⟩ w' := by
  obtain ⟨bu, vf, h⟩ := h
  have c := h.tab.cell' (tcells_free h.len _ _)
  have cu := h.tab.cell' (tcells_uses h.len _ _)
  have zt := h.tab.frozen
  have zu := h.use.frozen
  have cp := h.use.cell' (bytes_at T.uses p.toNat (by omega))
  rw [hu] at cp
  have H := Lib.hid h
  have hne := h.ne
  have hul := h.ulen
  obtain ⟨i0, hi, hz0, hz1, hz2⟩ := info_parts info3
  have HI := Lib.hid hi; have HZ0 := Lib.hid hz0; have HZ1 := Lib.hid hz1; have HZ2 := Lib.hid hz2
  have hB : Blk ((w.setCell ⟨bu, p.toNat, none⟩ (.int .u8 0)).alloc (.cells #[.int .i64 p] 3)) bt (tcells T.names (.slice (some ⟨bu, 0, none⟩) T.uses.length T.uses.length) vf) 52 := (h.tab.set_ne ⟨bu, p.toNat, none⟩ (.int .u8 0) h.ne).alloc _
  have hBu := (h.use.set p.toNat (.int .u8 0)).alloc (.cells #[.int .i64 p] 3)
  rw [bytes_set] at hBu
  have hT : XTouch (fun k => k = bu) w ((w.setCell ⟨bu, p.toNat, none⟩ (.int .u8 0)).alloc (.cells #[.int .i64 p] 3)) := ((XTouch.refl (fun k => k = bu) w).setCell (p := ⟨bu, p.toNat, none⟩) (.inl rfl) _).alloc _
  have hS : Sl ((w.setCell ⟨bu, p.toNat, none⟩ (.int .u8 0)).alloc (.cells #[.int .i64 p] 3)) 3 1 vf T.free.length (ints T.free) := h.free.keep hT (fun k hk => by have := h.fne k hk; omega)
  have hN : ((w.setCell ⟨bu, p.toNat, none⟩ (.int .u8 0)).alloc (.cells #[.int .i64 p] 3)).cell? ⟨w.heap.size, 0, none⟩ = some (.int .i64 p) := by
    rw [World.cell?_alloc_at _ _ _ _ (by simp)]; rfl
  have HB := Lib.hid hB; have HBu := Lib.hid hBu; have HT := Lib.hid hT; have HS := Lib.hid hS; have HN := Lib.hid hN
  clear h hi hz0 hz1 hz2 hu hB hBu hT hS hN
  generalize hU : T.uses.length = nu at *
  have HU := Lib.hid hU
  clear hU
  go_enter Tryd.func13, Tryd.ntmps13
  go_wp2_with (at_builtin; refine wpList_append_sl rfl (.tmp 38) (.tmp 40) 50 rfl 3 i0 (.int .i64 0) 1 8 Tryd.underlying50 HI.out HZ0.out HZ1.out HZ2.out rfl (by decide) vf _ _ rfl HS.out ⟨w.heap.size, 0, none⟩ 1 1 [.int .i64 p] rfl rfl ?c1 ?c2 ?c3 ?c4 ?c5)
  case c1 => 
    intro j u hj
    match j, hj with
    | 0, hj => simp at hj; subst hj; rw [Addr.add_zero']; exact HN.out
    | j + 1, hj => simp at hj
  case c2 => simp [Value.oneCell']
  case c3 => unfold maxLen; omega
  case c4 => omega
  case c5 =>
    intro v' w1 hs1 ht1 hob1
    obtain ⟨ao', cap', rfl, -⟩ := hs1.open1
    have h := H.out
    have b1 := HB.out.keep ht1 (fun hk => (h.fne bt hk).1 rfl)
    have u1 := HBu.out.keep ht1 (fun hk => (h.fne bu hk).2 rfl)
    have c1 := b1.cell' (tcells_free h.len _ _)
    have z1 := b1.frozen 33
    have F1 := Lib.hid (And.intro hs1 (And.intro ht1 (And.intro hob1 (And.intro b1 u1))))
    clear hs1 ht1 hob1 b1 u1 h zt zu c cu cp
    go_wp2
    go_ret
    refine ⟨rfl, ?_⟩
    obtain ⟨hs1, ht1, hob1, b1, u1⟩ := F1.out
    rw [← HU.out] at b1
    have h := H.out
    exact append_state h p (by simp) hfl HT.out hs1 ht1 (fun k hk => (hob1 k hk).imp_right (fun e => by omega)) b1 u1

end Go.Proofs.YtnlnbclibkceiaaDoor
