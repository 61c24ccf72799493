/- Part V of the proofs over 'rename': the document's table, a mapping undone. -/
import Derived.Test.YtnlnbclibkceiaaDoorU
namespace Go.Proofs.YtnlnbclibkceiaaDoor
open Go.RowKit Go.XHeap
set_option linter.unusedVariables false

theorem sl_one {w : World} {g : Nat} {x : Int} (h : Blk w g #[.int .i64 x] 3) : Sl w 3 1 (.slice (some ⟨g, 0, none⟩) 1 1) 1 [.int .i64 x] :=
  ⟨rfl, .inr ⟨g, 0, 1, _, rfl, h, Nat.le_refl _, by unfold maxLen; omega, by simp, rfl⟩⟩
set_option maxRecDepth 100000 in
set_option maxHeartbeats 1000000 in
theorem rundo_ok {w : World} {O : Nat → Prop} {b : Nat} {R : Rb} (h : RefIs w O b R) (r : Nat) (h0 : 1 ≤ r) (h1 : r < 32) (f o : Int) (hf : R.names.getD r 0 = f) (o1 : 1 ≤ o) (o2 : o < R.size) (hb1 : o ∉ R.free) (hb2 : o ∉ R.names) (hfl : R.free.length < 128) :
    Calls Tryd.prog 12 #[.pointer (some ⟨b, 0, none⟩), .int .i64 (r : Int), .int .i64 f, .int .i64 o] w fun e w' => e = .returned (.int .i64 0) ∧ RefNow w O b ⟨R.size, R.names.set r o, f :: R.free⟩ w' := by
  have k1 := rfree_any h o; have k2 := rmapped_any h o
  rw [decide_eq_false hb1] at k1
  rw [decide_eq_false hb2] at k2
  have K1 := Lib.hid k1; have K2 := Lib.hid k2
  obtain ⟨vf, h⟩ := h
  have cN := h.tab.cell' (rcells_N _ _ _)
  have c := h.tab.cell' (rcells_free h.len _)
  have cr := h.tab.cell' (rcells_name h.len _ r h1)
  rw [hf] at cr
  have zt := h.tab.frozen
  have H := Lib.hid h
  have hlt := h.tab.lt
  obtain ⟨i0, hi, hz0, hz1, hz2⟩ := info_parts info3
  have HI := Lib.hid hi; have HZ0 := Lib.hid hz0; have HZ1 := Lib.hid hz1; have HZ2 := Lib.hid hz2
  have hT0 : XTouch (fun k => k = b) w ((w.setCell ⟨b, 1 + r, none⟩ (.int .i64 o)).alloc (.cells #[.int .i64 f] 3)) :=
    ((XTouch.refl (fun k => k = b) w).setCell (p := ⟨b, 1 + r, none⟩) (.inl rfl) _).alloc _
  have hB := (h.tab.set (1 + r) (.int .i64 o)).alloc (.cells #[.int .i64 f] 3)
  rw [rcells_set_name h.len _ _ h1] at hB
  have hG : Blk ((w.setCell ⟨b, 1 + r, none⟩ (.int .i64 o)).alloc (.cells #[.int .i64 f] 3)) w.heap.size #[.int .i64 f] 3 := by
    have := Blk.new (w.setCell ⟨b, 1 + r, none⟩ (.int .i64 o)) #[.int .i64 f] 3
    simpa using this
  have hS := h.free.keep hT0 (fun k hk e => h.fne k hk e)
  have fin : ∀ (v' : Value) (w1 : World), Sl w1 3 1 v' (R.free.length + 1) (ints (f :: R.free)) → XTouch (fun k => k = w.heap.size) ((w.setCell ⟨b, 1 + r, none⟩ (.int .i64 o)).alloc (.cells #[.int .i64 f] 3)) w1 → (∀ k, v'.ownBlock = some k → w.heap.size ≤ k) →
      Blk w1 b (rcells R.size (R.names.set r o) vf) 55 ∧ RefNow w O b ⟨R.size, R.names.set r o, f :: R.free⟩ (w1.setCell ⟨b, 33, none⟩ v') := by
    intro v' w1 hs1 ht1 hv
    have b1 := hB.keep ht1 (by have := h.tab.lt; omega)
    refine ⟨b1, ?_⟩
    have hT : XTouch O w (w1.setCell ⟨b, 33, none⟩ v') := by
      have t1 : XTouch O w ((w.setCell ⟨b, 1 + r, none⟩ (.int .i64 o)).alloc (.cells #[.int .i64 f] 3)) := hT0.mono (fun k _ e => by subst e; exact h.ot)
      exact (t1.trans ht1 (fun k hk e => by omega)).setCell (p := ⟨b, 33, none⟩) (.inl h.ot) _
    refine ref_mk h hT ?_ (by simpa using h.len) (by simp; omega) ?_ (fun k hk => .inr (hv k hk))
    · have := b1.set 33 v'
      rw [rcells_set_free (by simpa using h.len)] at this
      exact this
    · have := hs1.keep ((XTouch.refl (fun k => k = b) w1).setCell (p := ⟨b, 33, none⟩) (.inl rfl) v') (fun k hk e => by have := hv k hk; have := h.tab.lt; omega)
      simpa using this
  have FIN := Lib.hid fin; have HB := Lib.hid hB; have HG := Lib.hid hG; 
  have hsl := hS.2
  have hsll := hS.1
  clear hS
  clear fin hB hG hT0 h hi hz0 hz1 hz2 k1 k2 hb1 hb2 hf
  have r0 : (0 : Int) < r := by omega
  have r1 : (r : Int) < 32 := by omega
  have HE : Hid (((r : Int)).toNat = r) := Lib.hid (by omega)
  rcases hsl with ⟨hv, hn⟩ | ⟨g2, off, cap, cur, hv, hb, q1, q2, q3, q4⟩
  · subst hv
    have he : R.free = [] := List.eq_nil_of_length_eq_zero hn
    rw [he] at FIN
    go_enter Tryd.func12, Tryd.ntmps12
    go_wp2_with fail
    refine K1.out.mono ?_
    rintro e w' ⟨rfl, rfl⟩
    go_wp2_with fail
    refine K2.out.mono ?_
    rintro e w' ⟨rfl, rfl⟩
    go_wp2_with (at_builtin; refine wpList_append_own_none rfl (.tmp 58) (.tmp 62) 50 rfl 0 3 i0 1 Tryd.underlying50 HI.out (.slice (some ⟨w.heap.size, 0, none⟩) 1 1) 1 [.int .i64 f] rfl (by exact ⟨rfl, .inr ⟨w.heap.size, 1, _, rfl, Nat.zero_le _, HG.out, Nat.le_refl _, by unfold maxLen; omega, by simp, rfl⟩⟩) rfl ?n2)
    obtain ⟨b1, hn⟩ := FIN.out (.slice (some ⟨w.heap.size, 0, none⟩) 1 1) _ (by simpa [ints] using sl_one HG.out) (XTouch.refl _ _) (fun k hk => by simp [Value.ownBlock] at hk; omega)
    have HN := Lib.hid hn
    clear hn b1
    go_ret
    exact ⟨rfl, by rw [he]; have := HN.out; rwa [World.setCell_alloc_past _ _ _ _ (by simpa using hlt)] at this⟩
  · subst hv
    have HX := Lib.hid (And.intro hb (And.intro q1 (And.intro q2 (And.intro q3 q4))))
    clear hb q1 q2 q3 q4
    go_enter Tryd.func12, Tryd.ntmps12
    go_wp2_with fail
    refine K1.out.mono ?_
    rintro e w' ⟨rfl, rfl⟩
    go_wp2_with fail
    refine K2.out.mono ?_
    rintro e w' ⟨rfl, rfl⟩
    go_wp2_with (at_builtin; refine wpList_append_sl rfl (.tmp 58) (.tmp 62) 50 rfl 3 i0 (.int .i64 0) 1 8 Tryd.underlying50 HI.out HZ0.out HZ1.out HZ2.out rfl (by decide) (.slice (some ⟨w.heap.size, 0, none⟩) 1 1) 1 [.int .i64 f] rfl (sl_one HG.out) ⟨g2, off, none⟩ R.free.length cap (ints R.free) ?d1 ?d2 ?c1 ?c2 ?c3 ?c4 ?c5)
    case d1 => rfl
    case d2 => simp [ints]
    case c1 =>
      obtain ⟨hb, q1, q2, q3, q4⟩ := HX.out
      intro j u hj
      have hjl : j < R.free.length := by have := (List.getElem?_eq_some_iff.1 hj).1; simpa [ints] using this
      rw [Go.WideShapes.add_plain, hb.cell, ← hj, ← q4, List.getElem?_take_of_lt (by omega), List.getElem?_drop]
      simp
    case c2 => exact ints_one R.free
    case c3 => unfold maxLen; omega
    case c4 => omega
    case c5 =>
      intro v' w1 hs1 ht1 hob1
      obtain ⟨ao', cap', rfl, -⟩ := hs1.open1
      obtain ⟨b1, hn⟩ := FIN.out (.slice ao' (1 + R.free.length) cap') w1 (by simpa [ints, Nat.add_comm] using hs1) (ht1.mono (fun k _ e => by simp [Value.ownBlock] at e; exact e.symm)) (fun k hk => by
        rcases hob1 k hk with e | e
        · simp [Value.ownBlock] at e; omega
        · (try simp at e); omega)
      have HN := Lib.hid hn
      have k33 := b1.cell' (rcells_free (by simpa using H.out.len) _)
      have z33 := b1.frozen
      clear hs1 ht1 hob1 b1 hn cr c zt
      go_wp2
      go_ret
      exact ⟨rfl, HN.out⟩
end Go.Proofs.YtnlnbclibkceiaaDoor
