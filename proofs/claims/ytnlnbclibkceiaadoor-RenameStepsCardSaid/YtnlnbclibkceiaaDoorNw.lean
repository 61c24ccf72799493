/- Part Nw of the proofs over 'rename': new tables, the document's and the refusals. -/
import Derived.Test.YtnlnbclibkceiaaDoorV
namespace Go.Proofs.YtnlnbclibkceiaaDoor
open Go.RowKit Go.XHeap
set_option linter.unusedVariables false

def newRb (m k : Nat) : Rb := ⟨m, (newTab m k).names, (newTab m k).free⟩
theorem zero_cellsR (u : Value) : (#[u, .int .i64 0, .int .i64 0, .int .i64 0, .int .i64 0, .int .i64 0, .int .i64 0, .int .i64 0, .int .i64 0, .int .i64 0, .int .i64 0, .int .i64 0, .int .i64 0, .int .i64 0, .int .i64 0, .int .i64 0, .int .i64 0, .int .i64 0, .int .i64 0, .int .i64 0, .int .i64 0, .int .i64 0, .int .i64 0, .int .i64 0, .int .i64 0, .int .i64 0, .int .i64 0, .int .i64 0, .int .i64 0, .int .i64 0, .int .i64 0, .int .i64 0, .int .i64 0, .slice none 0 0] : Array Value) = (u :: (ints (List.replicate 32 0) ++ [.slice none 0 0])).toArray := by
  simp [ints, List.replicate]
theorem RefIs.mono {w : World} {O O' : Nat → Prop} {b : Nat} {R : Rb} (h : RefIs w O b R) (ho : ∀ k, O k → O' k) : RefIs w O' b R :=
  let ⟨vf, h⟩ := h
  ⟨vf, ⟨h.len, h.flen, h.tab, h.free, h.fne, ho _ h.ot, fun k hk => ho _ (h.ofree k hk)⟩⟩
theorem RefNow.trans {w wr w' : World} {O : Nat → Prop} {b : Nat} {R R' : Rb} (h : RefNow w O b R wr) (h' : RefNow wr (Gain O w wr) b R' w') : RefNow w O b R' w' := by
  refine ⟨h'.1.mono ?_, h.2.trans h'.2 ?_⟩
  · rintro k ((hk | hk) | hk)
    · exact .inl hk
    · exact .inr ⟨hk.1, Nat.lt_of_lt_of_le hk.2 h'.2.size⟩
    · exact .inr ⟨Nat.le_trans h.2.size hk.1, hk.2⟩
  · rintro k hk (h1 | h1)
    · exact h1
    · omega
theorem rnew_small {w : World} {O : Nat → Prop} {b : Nat} {vf : Value} {m k : Nat} (h : RefAt w O b vf (newRb m k)) (h1 : k < 32) (h2 : k < m) :
    RefNow w O b (newRb m (k + 1)) (w.setCell ⟨b, 1 + k, none⟩ (.int .i64 k)) := by
  have hT : XTouch (fun x => x = b) w (w.setCell ⟨b, 1 + k, none⟩ (.int .i64 k)) := (XTouch.refl (fun x => x = b) w).setCell (p := ⟨b, 1 + k, none⟩) (.inl rfl) _
  have t1 := h.tab.set (1 + k) (.int .i64 k)
  rw [rcells_set_name h.len _ _ h1] at t1
  have e1 : (newRb m k).names.set k (k : Int) = (newRb m (k + 1)).names := by
    unfold newRb newTab
    apply List.ext_getElem?
    intro i
    simp only [List.getElem?_set, List.length_map, List.length_range, List.getElem?_map]
    by_cases hi : i < 32
    · rw [List.getElem?_range hi]
      by_cases hik : k = i
      · subst hik; simp [hi]
      · simp [hik]; congr 1; simp; omega
    · rw [List.getElem?_eq_none (by simp; omega)]; simp; omega
  have e3 : (newRb m k).free = (newRb m (k + 1)).free := by
    unfold newRb newTab; simp [show k - 32 = 0 by omega, show k + 1 - 32 = 0 by omega]
  rw [e1] at t1
  refine ref_mk h (hT.mono (fun k _ e => by subst e; exact h.ot)) t1 (by simp [newRb, newTab]) (by rw [← e3]; exact h.flen) ?_ (fun k hk => .inl hk)
  rw [← e3]
  exact h.free.keep hT (fun k hk => h.fne k hk)
theorem rnew_big (m k : Nat) (h1 : 32 ≤ k) : (⟨(newRb m k).size, (newRb m k).names, (newRb m k).free ++ [(k : Int)]⟩ : Rb) = newRb m (k + 1) := by
  have := new_big m k h1
  unfold newRb
  simp only [← this]
theorem rnew_start (w : World) (m : Nat) (h1 : m ≤ 128) :
    RefNow w (fun _ => False) w.heap.size (newRb m 0) (w.alloc (.cells (rcells m (List.replicate 32 0) (.slice none 0 0)) 55)) := by
  have e : newRb m 0 = ⟨m, List.replicate 32 0, []⟩ := by
    unfold newRb newTab
    simp only [Nat.not_lt_zero, if_false]
    congr 1
  rw [e]
  refine ⟨⟨.slice none 0 0, ⟨by simp, by simp, Blk.new w _ 55, Sl.nil _ _ _, ?_, .inr (by simp), ?_⟩⟩, (XTouch.refl _ w).alloc _⟩
  · intro k hk; simp [Value.ownBlock] at hk
  · intro k hk; simp [Value.ownBlock] at hk
theorem new_out (n : Int) (h : n < 34 ∨ 128 < n) (w : World) :
    Calls Tryd.prog 4 #[.int .i64 n] w fun e w' => e = .returned (.tuple #[.pointer none, .iface 31 (.int .i64 2)]) ∧ w = w' := by
  rcases Int.lt_or_le n 34 with h0 | h0
  · go_enter Tryd.func4, Tryd.ntmps4
    go_wp2
    go_ret2
    exact ⟨rfl, rfl⟩
  · have h1 : 128 < n := by omega
    go_enter Tryd.func4, Tryd.ntmps4
    go_wp2
    go_ret2
    exact ⟨rfl, rfl⟩
theorem rnew_out (n : Int) (h : n < 34 ∨ 128 < n) (w : World) :
    Calls Tryd.prog 5 #[.int .i64 n] w fun e w' => e = .returned (.tuple #[.pointer none, .int .i64 2]) ∧ w = w' := by
  rcases Int.lt_or_le n 34 with h0 | h0
  · go_enter Tryd.func5, Tryd.ntmps5
    go_wp2
    go_ret2
    exact ⟨rfl, rfl⟩
  · have h1 : 128 < n := by omega
    go_enter Tryd.func5, Tryd.ntmps5
    go_wp2
    go_ret2
    exact ⟨rfl, rfl⟩
set_option maxRecDepth 100000 in
set_option maxHeartbeats 800000 in
theorem rnew_any (n : Int) (h0 : 34 ≤ n) (h1 : n ≤ 128) (w : World) :
    Calls Tryd.prog 5 #[.int .i64 n] w fun e w' => e = .returned (.tuple #[.pointer (some ⟨w.heap.size, 0, none⟩), .int .i64 0]) ∧ RefNow w (fun _ => False) w.heap.size (newRb n.toNat n.toNat) w' := by
  obtain ⟨m, rfl⟩ := Int.eq_ofNat_of_zero_le (show 0 ≤ n by omega)
  have HS := Lib.hid (rnew_start w m (by omega))
  go_enter Tryd.func5, Tryd.ntmps5
  go_wp2
  rw [zero_cellsR]
  change Code.wp _ _ _ _ (w.alloc (.cells (rcells m (List.replicate 32 0) (.slice none 0 0)) 55))
  generalize w.alloc (.cells (rcells m (List.replicate 32 0) (.slice none 0 0)) 55) = W at HS ⊢
  go_loopw [5] (fun i wr => ∃ k : Nat, k ≤ m ∧ i = .int .i64 k ∧ RefNow w (fun _ => False) w.heap.size (newRb m k) wr) (fun i _ => m - (intOf i).toNat)
  case atStart => exact ⟨0, by omega, rfl, HS.out⟩
  case round =>
    obtain ⟨k, hk, rfl, hN⟩ := hrel
    have HN := Lib.hid hN
    clear HS hN
    by_cases hlt : k < m
    · obtain ⟨vf, h⟩ := HN.out.1
      have H := Lib.hid h
      by_cases hs : k < 32
      · have c := h.tab.cell' (rcells_name h.len _ k hs)
        have zt := h.tab.frozen
        clear h
        go_wp2
        go_roundw
        case rel => exact ⟨k + 1, by omega, by go_num, HN.out.trans (rnew_small H.out hs hlt)⟩
        case measure => simp [intOf]; omega
      · have c := h.tab.cell' (rcells_free h.len _)
        have hB := h.tab.alloc (.cells #[.int .i64 (k : Int)] 3)
        have hT : XTouch (fun x => False) wr (wr.alloc (.cells #[.int .i64 (k : Int)] 3)) := (XTouch.refl (fun x => False) wr).alloc _
        have hS := h.free.keep hT (fun x hx => fun e => e)
        have hlt2 := h.tab.lt
        have HB := Lib.hid hB; have HT := Lib.hid hT; have HSL := Lib.hid hS; have HNC := Lib.hid (Blk.new wr #[.int .i64 (k : Int)] 3)
        obtain ⟨i0, hi, hz0, hz1, hz2⟩ := info_parts info3
        have HI := Lib.hid hi; have HZ0 := Lib.hid hz0; have HZ1 := Lib.hid hz1; have HZ2 := Lib.hid hz2
        have lf : (newRb m k).free.length = k - 32 := by simp [newRb, newTab]
        have LF := Lib.hid lf
        clear h hi hz0 hz1 hz2 hB hT hS lf
        have hk32 : 32 ≤ k := by omega
        go_wp2_with (at_builtin; refine wpList_append_sl rfl (.tmp 32) (.tmp 34) 50 rfl 3 i0 (.int .i64 0) 1 8 Tryd.underlying50 HI.out HZ0.out HZ1.out HZ2.out rfl (by decide) vf _ _ rfl HSL.out ⟨wr.heap.size, 0, none⟩ 1 1 [.int .i64 (k : Int)] rfl rfl ?c1 ?c2 ?c3 ?c4 ?c5)
        case c1 => exact World.news_of_block (cs := #[.int .i64 (k : Int)]) (t := 3) (fr := (0, 0)) HNC.out
        case c2 => simp [Value.oneCell']
        case c3 => rw [LF.out]; unfold maxLen; omega
        case c4 => rw [LF.out]; omega
        case c5 =>
          intro v' w1 hs1 ht1 hob1
          obtain ⟨ao', cap', rfl, -⟩ := hs1.open1
          have h := H.out
          have b1 := HB.out.keep ht1 (fun hk => (h.fne _ hk) rfl)
          have hv : ∀ j, (Value.slice ao' ((newRb m k).free.length + 1) cap').ownBlock = some j → vf.ownBlock = some j ∨ wr.heap.size ≤ j := fun j hk => (hob1 j hk).imp_right (fun e => by first | omega | (simp at e; omega))
          have hT2 : XTouch (Gain (fun _ => False) w wr) wr (w1.setCell ⟨w.heap.size, 33, none⟩ (.slice ao' ((newRb m k).free.length + 1) cap')) :=
            (((XTouch.refl _ wr).alloc _).trans ht1 (fun k _ e => h.ofree k e)).setCell (p := ⟨w.heap.size, 33, none⟩) (.inl h.ot) _
          have HFIN : Hid (RefNow wr (Gain (fun _ => False) w wr) w.heap.size (newRb m (k + 1)) (w1.setCell ⟨w.heap.size, 33, none⟩ (.slice ao' ((newRb m k).free.length + 1) cap'))) := Lib.hid (by
            rw [← rnew_big m k hk32]
            refine ref_mk h hT2 ?_ h.len (by have := LF.out; simp; omega) ?_ hv
            · have := b1.set 33 (.slice ao' ((newRb m k).free.length + 1) cap')
              rw [rcells_set_free h.len] at this
              exact this
            · have := hs1.keep ((XTouch.refl (fun k => k = w.heap.size) w1).setCell (p := ⟨w.heap.size, 33, none⟩) (.inl rfl) (.slice ao' ((newRb m k).free.length + 1) cap')) (fun j hk e => by
                rcases hv j hk with e2 | e2
                · exact h.fne j e2 e
                · have := h.tab.lt; omega)
              rw [ints_append] at this
              simpa using this)
          have c1 := b1.cell' (rcells_free h.len _)
          have z1 := b1.frozen 33
          clear hs1 ht1 hob1 b1 hv hT2 h c
          go_wp2
          go_roundw
          case rel =>
            first
              | exact ⟨k + 1, by omega, by go_num, HN.out.trans HFIN.out⟩
              | ((repeat apply Exists.intro); exact ⟨⟨k + 1, by omega, by go_num, HN.out.trans HFIN.out⟩, rfl⟩)
          case measure => simp [intOf]; omega
    · have : k = m := by omega
      subst this
      go_wp2
      go_ret2
      exact ⟨rfl, HN.out⟩
end Go.Proofs.YtnlnbclibkceiaaDoor
