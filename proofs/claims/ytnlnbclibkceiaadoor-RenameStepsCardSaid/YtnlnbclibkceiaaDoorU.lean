/- Part U of the proofs over 'rename': what the document's table becomes. -/
import Derived.Test.YtnlnbclibkceiaaDoorS
import Derived.Laws.AppendOwnNone
import Derived.Deep.AppendLies
import Derived.WideShapes
namespace Go.Proofs.YtnlnbclibkceiaaDoor
open Go.RowKit Go.XHeap
set_option linter.unusedVariables false

set_option maxRecDepth 100000 in
theorem rrelease_ok {w : World} {O : Nat → Prop} {b : Nat} {R : Rb} (h : RefIs w O b R) (p : Int) (o1 : 1 ≤ p) (o2 : p < R.size) (hb1 : p ∉ R.free) (hb2 : p ∉ R.names) (hfl : R.free.length < 128) :
    Calls Tryd.prog 14 #[.pointer (some ⟨b, 0, none⟩), .int .i64 p] w fun e w' => e = .returned (.int .i64 0) ∧ RefNow w O b ⟨R.size, R.names, R.free ++ [p]⟩ w' := by
  have k1 := rfree_any h p; have k2 := rmapped_any h p
  rw [decide_eq_false hb1] at k1
  rw [decide_eq_false hb2] at k2
  have K1 := Lib.hid k1; have K2 := Lib.hid k2
  obtain ⟨vf, h⟩ := h
  have cN := h.tab.cell' (rcells_N _ _ _)
  have c := h.tab.cell' (rcells_free h.len _)
  have zt := h.tab.frozen
  have H := Lib.hid h
  have hlt := h.tab.lt
  obtain ⟨i0, hi, hz0, hz1, hz2⟩ := info_parts info3
  have HI := Lib.hid hi; have HZ0 := Lib.hid hz0; have HZ1 := Lib.hid hz1; have HZ2 := Lib.hid hz2
  have hT := (XTouch.refl (fun _ => False) w).alloc (.cells #[.int .i64 p] 3)
  have HS := Lib.hid (h.free.keep hT (fun _ _ h => h))
  have HB := Lib.hid (h.tab.alloc (.cells #[.int .i64 p] 3))
  have HNB := Lib.hid (Blk.new w #[.int .i64 p] 3)
  clear h hi hz0 hz1 hz2 hT k1 k2 hb1 hb2
  go_enter Tryd.func14, Tryd.ntmps14
  go_wp2_with fail
  refine K1.out.mono ?_
  rintro e w' ⟨rfl, rfl⟩
  go_wp2_with fail
  refine K2.out.mono ?_
  rintro e w' ⟨rfl, rfl⟩
  go_wp2_with (at_builtin; refine wpList_append_sl rfl (.tmp 31) (.tmp 33) 50 rfl 3 i0 (.int .i64 0) 1 8 Tryd.underlying50 HI.out HZ0.out HZ1.out HZ2.out rfl (by decide) vf _ _ rfl HS.out ⟨w.heap.size, 0, none⟩ 1 1 [.int .i64 p] rfl rfl ?c1 ?c2 ?c3 ?c4 ?c5)
  case c1 => exact World.news_of_block (cs := #[.int .i64 p]) (t := 3) (fr := (0, 0)) HNB.out
  case c2 => simp [Value.oneCell']
  case c3 => unfold maxLen; omega
  case c4 => omega
  case c5 =>
    intro v' w1 hs1 ht1 hob1
    obtain ⟨ao', cap', rfl, -⟩ := hs1.open1
    have h := H.out
    have b1 := HB.out.keep ht1 (fun hk => (h.fne b hk) rfl)
    have hv : ∀ k, (Value.slice ao' (R.free.length + 1) cap').ownBlock = some k → vf.ownBlock = some k ∨ w.heap.size ≤ k := fun k hk => (hob1 k hk).imp_right (fun e => by first | omega | (simp at e; omega))
    have hT : XTouch O w (w1.setCell ⟨b, 33, none⟩ (.slice ao' (R.free.length + 1) cap')) :=
      (((XTouch.refl O w).alloc _).trans ht1 (fun k _ e => h.ofree k e)).setCell (p := ⟨b, 33, none⟩) (.inl h.ot) _
    have HFIN : Hid (RefNow w O b ⟨R.size, R.names, R.free ++ [p]⟩ (w1.setCell ⟨b, 33, none⟩ (.slice ao' (R.free.length + 1) cap'))) := Lib.hid (by
      refine ref_mk h hT ?_ h.len (by simp; omega) ?_ hv
      · have := b1.set 33 (.slice ao' (R.free.length + 1) cap')
        rw [rcells_set_free h.len] at this
        exact this
      · have := hs1.keep ((XTouch.refl (fun k => k = b) w1).setCell (p := ⟨b, 33, none⟩) (.inl rfl) (.slice ao' (R.free.length + 1) cap')) (fun k hk e => by
          rcases hv k hk with e2 | e2
          · exact h.fne k e2 e
          · have := h.tab.lt; omega)
        rw [ints_append] at this
        simpa using this)
    have k33 := b1.cell' (rcells_free h.len _)
    have z33 := b1.frozen 33
    clear hs1 ht1 hob1 b1 hv hT h c cN zt
    go_wp2
    go_ret
    exact ⟨rfl, HFIN.out⟩
set_option maxRecDepth 100000 in
set_option maxHeartbeats 1000000 in
theorem rtake_ok {w : World} {O : Nat → Prop} {b : Nat} {R : Rb} (h : RefIs w O b R) (r : Nat) (h0 : 1 ≤ r) (h1 : r < 32) {f : Int} {fs : List Int} (hf : R.free = f :: fs) {o : Int} (ho : R.names.getD r 0 = o) :
    Calls Tryd.prog 10 #[.pointer (some ⟨b, 0, none⟩), .int .i64 (r : Int)] w fun e w' => e = .returned (.tuple #[.int .i64 f, .int .i64 o, .int .i64 0]) ∧ RefNow w O b ⟨R.size, R.names.set r f, fs⟩ w' := by
  obtain ⟨vf, h⟩ := h
  have hflen := h.flen
  have c := h.tab.cell' (rcells_free h.len _)
  have cr := h.tab.cell' (rcells_name h.len _ r h1)
  rw [ho] at cr
  have zt := h.tab.frozen
  have H := Lib.hid h
  have hlt := h.tab.lt
  have hs := h.free
  rw [hf] at hs hflen
  obtain ⟨ao, cap, hv, hxl, q1, q2, q3, hcell⟩ := hs.open1
  obtain ⟨g, off, rfl, hob, hc2⟩ := hcell (by simp)
  subst hv
  have c0 : w.cell? ⟨g, off, none⟩ = some (.int .i64 f) := by have := (hc2 0 (by simp)).1; simpa [ints] using this
  have HC := Lib.hid (fun j (hj : j < fs.length) => (hc2 (j + 1) (by simp; omega)).1)
  obtain ⟨i0, hi, hz0, hz1, hz2⟩ := info_parts info3
  have HI := Lib.hid hi; have HZ0 := Lib.hid hz0; have HZ1 := Lib.hid hz1; have HZ2 := Lib.hid hz2
  have HF := Lib.hid hf
  clear h hs hf ho hi hz0 hz1 hz2 hxl hob hcell hc2
  simp only [List.length_cons] at c q1 q2 hflen
  unfold maxLen at *
  have fin : ∀ (v' : Value) (w1 : World), Sl w1 3 1 v' fs.length (ints fs) → XTouch (fun k => (Value.slice none 0 0).ownBlock = some k) w w1 → (∀ k, v'.ownBlock = some k → (Value.slice none 0 0).ownBlock = some k ∨ w.heap.size ≤ k) →
      Blk w1 b (rcells R.size R.names (.slice (some ⟨g, off, none⟩) (fs.length + 1) cap)) 55 ∧ RefNow w O b ⟨R.size, R.names.set r f, fs⟩ ((w1.setCell ⟨b, 33, none⟩ v').setCell ⟨b, 1 + r, none⟩ (.int .i64 f)) := by
    intro v' w1 hs1 ht1 hob1
    have h := H.out
    have hT0 : XTouch (fun _ => False) w w1 := ht1.mono (fun k _ e => by simp [Value.ownBlock] at e)
    have b1 := h.tab.keep hT0 (fun h => h)
    have hb := h.tab.lt
    have hs0 := hT0.size
    have hv : ∀ k, v'.ownBlock = some k → w.heap.size ≤ k := fun k hk => by
      rcases hob1 k hk with e | e
      · simp [Value.ownBlock] at e
      · exact e
    refine ⟨b1, ?_⟩
    have hT : XTouch O w ((w1.setCell ⟨b, 33, none⟩ v').setCell ⟨b, 1 + r, none⟩ (.int .i64 f)) :=
      ((hT0.mono (fun _ _ e => e.elim)).setCell (p := ⟨b, 33, none⟩) (.inl h.ot) _).setCell (p := ⟨b, 1 + r, none⟩) (.inl h.ot) _
    refine ref_mk h hT ?_ (by simpa using h.len) (by simp; omega) ?_ (fun k hk => .inr (hv k hk))
    · have := (b1.set 33 v').set (1 + r) (.int .i64 f)
      rw [rcells_set_free h.len, rcells_set_name h.len _ _ h1] at this
      exact this
    · have := hs1.keep (((XTouch.refl (fun k => k = b) w1).setCell (p := ⟨b, 33, none⟩) (.inl rfl) v').setCell (p := ⟨b, 1 + r, none⟩) (.inl rfl) (.int .i64 f)) (fun k hk e => by have := hv k hk; omega)
      simpa using this
  have FIN := Lib.hid fin
  have HE : Hid (((r : Int)).toNat = r) := Lib.hid (by omega)
  clear fin
  have r0 : (0 : Int) < r := by omega
  by_cases hcap : cap = 1
  · subst hcap
    have hfs : fs = [] := List.eq_nil_of_length_eq_zero (by omega)
    subst hfs
    go_enter Tryd.func10, Tryd.ntmps10
    go_wp2_with (at_builtin; refine wpList_append_sl rfl (.tmp 34) (.tmp 39) 50 rfl 3 i0 (.int .i64 0) 1 8 Tryd.underlying50 HI.out HZ0.out HZ1.out HZ2.out rfl (by decide) (.slice none 0 0) 0 [] rfl (Sl.nil _ _ _) ⟨g, off, none⟩ 0 0 [] rfl rfl ?c1 ?c2 ?c3 ?c4 ?c5)
    case c1 => intro j u hj; simp at hj
    case c2 => simp
    case c3 => unfold maxLen; omega
    case c4 => omega
    case c5 =>
      intro v' w1 hs1 ht1 hob1
      obtain ⟨ao', cap', rfl, -⟩ := hs1.open1
      obtain ⟨b1, hn⟩ := FIN.out _ _ (by simpa [ints] using hs1) ht1 hob1
      have HN := Lib.hid hn
      have k33 := b1.cell' (rcells_free H.out.len _)
      have kr := b1.cell' (rcells_name H.out.len _ r h1)
      have z33 := b1.frozen
      clear hs1 ht1 hob1 b1 hn c cr zt c0
      go_wp2
      go_ret3
      exact ⟨rfl, HN.out⟩
  · have hcap2 : 2 ≤ cap := by omega
    go_enter Tryd.func10, Tryd.ntmps10
    go_wp2_with (at_builtin; refine wpList_append_sl rfl (.tmp 34) (.tmp 39) 50 rfl 3 i0 (.int .i64 0) 1 8 Tryd.underlying50 HI.out HZ0.out HZ1.out HZ2.out rfl (by decide) (.slice none 0 0) 0 [] rfl (Sl.nil _ _ _) ⟨g, off + 1, none⟩ fs.length (cap - 1) (ints fs) ?d1 ?d2 ?c1 ?c2 ?c3 ?c4 ?c5)
    case d1 => rfl
    case d2 => simp [ints]
    case c1 =>
      intro j u hj
      have hjl : j < fs.length := by have := (List.getElem?_eq_some_iff.1 hj).1; simpa [ints] using this
      have := HC.out j hjl
      simp only [ints, List.map_cons, List.getElem?_cons_succ] at this
      rw [Go.WideShapes.add_plain, show off + 1 + j = off + (j + 1) by omega]
      rw [this]; exact hj
    case c2 => exact ints_one fs
    case c3 => unfold maxLen; omega
    case c4 => omega
    case c5 =>
      intro v' w1 hs1 ht1 hob1
      obtain ⟨ao', cap', rfl, -⟩ := hs1.open1
      obtain ⟨b1, hn⟩ := FIN.out _ _ (by simpa using hs1) ht1 hob1
      have HN := Lib.hid hn
      have k33 := b1.cell' (rcells_free H.out.len _)
      have kr := b1.cell' (rcells_name H.out.len _ r h1)
      have z33 := b1.frozen
      clear hs1 ht1 hob1 b1 hn c cr zt c0
      go_wp2
      go_ret3
      exact ⟨rfl, HN.out⟩
end Go.Proofs.YtnlnbclibkceiaaDoor
