/- Part C of the proofs over 'rename': a new table. -/
import Derived.Test.YtnlnbclibkceiaaDoorB
import Derived.Deep.OwnRows
namespace Go.Proofs.YtnlnbclibkceiaaDoor
open Go.RowKit Go.XHeap
set_option linter.unusedVariables false

/-- the fields of a new table, as far as its loop has come -/
def newTab (n k : Nat) : Tb := ⟨(List.range 32).map (fun i : Nat => if i < k then (i : Int) else 0), (List.range n).map (fun i : Nat => if i < k ∧ i < 32 then (1 : Int) else 0), (List.range (k - 32)).map (fun i : Nat => (32 : Int) + (i : Int))⟩
theorem made_bytes (m : Nat) : madeCells #[.int .u8 0] m = (bytesV (List.replicate m 0)).toArray := by
  unfold madeCells bytesV
  apply Array.ext
  · simp
  · intro i h1 h2
    simp [Nat.mod_one]
theorem zero_cells (u : Value) : (#[.int .i64 0, .int .i64 0, .int .i64 0, .int .i64 0, .int .i64 0, .int .i64 0, .int .i64 0, .int .i64 0, .int .i64 0, .int .i64 0, .int .i64 0, .int .i64 0, .int .i64 0, .int .i64 0, .int .i64 0, .int .i64 0, .int .i64 0, .int .i64 0, .int .i64 0, .int .i64 0, .int .i64 0, .int .i64 0, .int .i64 0, .int .i64 0, .int .i64 0, .int .i64 0, .int .i64 0, .int .i64 0, .int .i64 0, .int .i64 0, .int .i64 0, .int .i64 0, u, .slice none 0 0] : Array Value) = tcells (List.replicate 32 0) u (.slice none 0 0) := rfl
theorem TabNow.trans {w wr w' : World} {O : Nat → Prop} {bt : Nat} {T T' : Tb} (h : TabNow w O bt T wr) (h' : TabNow wr (Gain O w wr) bt T' w') : TabNow w O bt T' w' := by
  refine ⟨h'.1.mono ?_, h.2.trans h'.2 ?_⟩
  · rintro k ((hk | hk) | hk)
    · exact .inl hk
    · exact .inr ⟨hk.1, Nat.lt_of_lt_of_le hk.2 h'.2.size⟩
    · exact .inr ⟨Nat.le_trans h.2.size hk.1, hk.2⟩
  · rintro k hk (h1 | h1)
    · exact h1
    · omega
theorem new_small {w : World} {O : Nat → Prop} {bt bu : Nat} {vf : Value} {m k : Nat} (h : TabAt w O bt bu vf (newTab m k)) (h1 : k < 32) (h2 : k < m) :
    TabNow w O bt (newTab m (k + 1)) ((w.setCell ⟨bt, k, none⟩ (.int .i64 k)).setCell ⟨bu, k, none⟩ (.int .u8 1)).drew := by
  have hT : XTouch (fun x => x = bt ∨ x = bu) w ((w.setCell ⟨bt, k, none⟩ (.int .i64 k)).setCell ⟨bu, k, none⟩ (.int .u8 1)).drew :=
    (((XTouch.refl _ w).setCell (p := ⟨bt, k, none⟩) (.inl (.inl rfl)) _).setCell (p := ⟨bu, k, none⟩) (.inl (.inr rfl)) _).drew
  have t1 := ((h.tab.set k (.int .i64 k)).set_ne ⟨bu, k, none⟩ (.int .u8 1) h.ne).drew
  rw [tcells_set_name h.len _ _ _ h1] at t1
  have u1 := ((h.use.set_ne ⟨bt, k, none⟩ (.int .i64 k) h.ne.symm).set k (.int .u8 1)).drew
  rw [bytes_set] at u1
  have e1 : (newTab m k).names.set k (k : Int) = (newTab m (k + 1)).names := by
    unfold newTab
    apply List.ext_getElem?
    intro i
    simp only [List.getElem?_set, List.length_map, List.length_range, List.getElem?_map]
    by_cases hi : i < 32
    · rw [List.getElem?_range hi]
      by_cases hik : k = i
      · subst hik; simp [hi]
      · simp [hik]; congr 1; simp; omega
    · rw [List.getElem?_eq_none (by simp; omega)]; simp; omega
  have e2 : (newTab m k).uses.set k 1 = (newTab m (k + 1)).uses := by
    unfold newTab
    apply List.ext_getElem?
    intro i
    simp only [List.getElem?_set, List.length_map, List.length_range, List.getElem?_map]
    by_cases hi : i < m
    · rw [List.getElem?_range hi]
      by_cases hik : k = i
      · subst hik; simp [hi, h1]
      · simp [hik]; congr 1; simp; omega
    · rw [List.getElem?_eq_none (by simp; omega)]; simp; omega
  have e3 : (newTab m k).free = (newTab m (k + 1)).free := by
    unfold newTab; simp [show k - 32 = 0 by omega, show k + 1 - 32 = 0 by omega]
  rw [e1] at t1
  rw [e2] at u1
  have l2 : (newTab m k).uses.length = (newTab m (k + 1)).uses.length := by simp [newTab]
  rw [l2] at t1
  refine ⟨TabIs.mono (O := O) ⟨bu, vf, ⟨by simp [newTab], by rw [← l2]; exact h.ulen, by rw [← e3]; exact h.flen, t1, u1, ?_, h.ne, h.fne, h.ot, h.ou, h.ofree⟩⟩ (fun k hk => .inl hk), hT.mono ?_⟩
  · rw [← e3]
    exact h.free.keep hT (fun k hk => by have := h.fne k hk; omega)
  · rintro k - (rfl | rfl)
    · exact h.ot
    · exact h.ou
theorem new_big (m k : Nat) (h1 : 32 ≤ k) : (⟨(newTab m k).names, (newTab m k).uses, (newTab m k).free ++ [(k : Int)]⟩ : Tb) = newTab m (k + 1) := by
  unfold newTab
  congr 1
  · apply List.map_congr_left
    intro i hi
    have hi := List.mem_range.1 hi
    rw [if_pos (by omega), if_pos (by omega)]
  · apply List.map_congr_left
    intro i hi
    by_cases hi2 : i < 32
    · rw [if_pos (by omega), if_pos (by omega)]
    · rw [if_neg (by omega), if_neg (by omega)]
  · have r : List.range (k + 1 - 32) = List.range (k - 32) ++ [k - 32] := by
      rw [show k + 1 - 32 = (k - 32) + 1 by omega]; exact List.range_succ
    have e : (32 : Int) + ((k - 32 : Nat) : Int) = (k : Int) := by omega
    rw [r, List.map_append, List.map_cons, List.map_nil, e]
theorem new_start (w : World) (m : Nat) (h1 : m ≤ 128) :
    TabNow w (fun _ => False) (w.heap.size + 1) (newTab m 0) ((w.alloc (.cells (bytesV (List.replicate m 0)).toArray 53)).alloc (.cells (tcells (List.replicate 32 0) (.slice (some ⟨w.heap.size, 0, none⟩) m m) (.slice none 0 0)) 52)) := by
  have e : newTab m 0 = ⟨List.replicate 32 0, List.replicate m 0, []⟩ := by
    unfold newTab
    congr 1
    simp only [Nat.not_lt_zero, false_and, if_false]
    exact List.eq_replicate_iff.2 ⟨by simp, by simp⟩
  rw [e]
  refine ⟨⟨w.heap.size, .slice none 0 0, ⟨by simp, by simpa using h1, by simp, ?_, (Blk.new w _ 53).alloc _, Sl.nil _ _ _, by omega, ?_, .inr (by simp), .inr ⟨Nat.le_refl _, by simp; omega⟩, ?_⟩⟩, ((XTouch.refl _ w).alloc _).alloc _⟩
  · have := Blk.new (w.alloc (.cells (bytesV (List.replicate m 0)).toArray 53)) (tcells (List.replicate 32 0) (.slice (some ⟨w.heap.size, 0, none⟩) m m) (.slice none 0 0)) 52
    simpa using this
  · intro k hk; simp [Value.ownBlock] at hk
  · intro k hk; simp [Value.ownBlock] at hk
set_option maxRecDepth 100000 in
set_option maxHeartbeats 800000 in
theorem new_any (n : Int) (h0 : 34 ≤ n) (h1 : n ≤ 128) (w : World) :
    Calls Tryd.prog 4 #[.int .i64 n] w fun e w' => e = .returned (.tuple #[.pointer (some ⟨w.heap.size + 1, 0, none⟩), .nilIface]) ∧ TabNow w (fun _ => False) (w.heap.size + 1) (newTab n.toNat n.toNat) w' := by
  obtain ⟨m, rfl⟩ := Int.eq_ofNat_of_zero_le (show 0 ≤ n by omega)
  have hmk := fun w => run_make_row' (P := Tryd.prog) 48 53 (.int .u8 0) 1 Tryd.underlying48 (by kernel_rfl) rfl .i64 .i64 m (by omega) (by omega) w
  rw [made_bytes] at hmk
  have HS := Lib.hid (new_start w m (by omega))
  go_enter Tryd.func4, Tryd.ntmps4
  go_wp2
  clear hmk
  rw [zero_cells]
  generalize (w.alloc (.cells (bytesV (List.replicate m 0)).toArray 53)).alloc (.cells (tcells (List.replicate 32 0) (.slice (some ⟨w.heap.size, 0, none⟩) m m) (.slice none 0 0)) 52) = W at HS ⊢
  go_loopw [18] (fun i wr => ∃ k : Nat, k ≤ m ∧ i = .int .i64 k ∧ TabNow w (fun _ => False) (w.heap.size + 1) (newTab m k) wr) (fun i _ => m - (intOf i).toNat)
  case atStart => exact ⟨0, by omega, rfl, HS.out⟩
  case round =>
    obtain ⟨k, hk, rfl, hN⟩ := hrel
    have HN := Lib.hid hN
    clear HS hN
    by_cases hlt : k < m
    · obtain ⟨bu, vf, h⟩ := HN.out.1
      have H := Lib.hid h
      by_cases hs : k < 32
      · have c := h.tab.cell' (tcells_name h.len _ _ k hs)
        have cu := h.tab.cell' (tcells_uses h.len _ _)
        have zt := h.tab.frozen
        have zu := h.use.frozen
        have lu : (newTab m k).uses.length = m := by simp [newTab]
        have cp := h.use.cell' (bytes_at (newTab m k).uses k (by omega))
        have hne := h.ne
        rw [lu] at cu
        clear h lu
        go_wp2
        go_region
        all_goals go_wp2
        go_roundw
        case rel => exact ⟨k + 1, by omega, by go_num, HN.out.trans (new_small H.out hs hlt)⟩
        case measure => simp [intOf]; omega
      · have c := h.tab.cell' (tcells_free h.len _ _)
        have hB : Blk (wr.alloc (.cells #[.int .i64 (k : Int)] 3)) (w.heap.size + 1) (tcells (newTab m k).names (.slice (some ⟨bu, 0, none⟩) (newTab m k).uses.length (newTab m k).uses.length) vf) 52 := h.tab.alloc _
        have hBu := h.use.alloc (.cells #[.int .i64 (k : Int)] 3)
        have hT : XTouch (fun x => x = bu) wr (wr.alloc (.cells #[.int .i64 (k : Int)] 3)) := (XTouch.refl (fun x => x = bu) wr).alloc _
        have hS : Sl (wr.alloc (.cells #[.int .i64 (k : Int)] 3)) 3 1 vf (newTab m k).free.length (ints (newTab m k).free) := h.free.keep hT (fun x hx => (h.fne x hx).2)
        have hN : (wr.alloc (.cells #[.int .i64 (k : Int)] 3)).cell? ⟨wr.heap.size, 0, none⟩ = some (.int .i64 (k : Int)) := World.cell?_alloc_new wr #[.int .i64 (k : Int)] 3 0
        have HB := Lib.hid hB; have HBu := Lib.hid hBu; have HT := Lib.hid hT; have HS := Lib.hid hS; have HNC := Lib.hid hN
        obtain ⟨i0, hi, hz0, hz1, hz2⟩ := info_parts info3
        have HI := Lib.hid hi; have HZ0 := Lib.hid hz0; have HZ1 := Lib.hid hz1; have HZ2 := Lib.hid hz2
        have lf : (newTab m k).free.length = k - 32 := by simp [newTab]
        have LF := Lib.hid lf
        clear h hi hz0 hz1 hz2 hB hBu hT hS hN lf
        have hk32 : 32 ≤ k := by omega
        go_wp2_with (at_builtin; refine wpList_append_sl rfl (.tmp 39) (.tmp 41) 50 rfl 3 i0 (.int .i64 0) 1 8 Tryd.underlying50 HI.out HZ0.out HZ1.out HZ2.out rfl (by decide) vf _ _ rfl HS.out ⟨wr.heap.size, 0, none⟩ 1 1 [.int .i64 (k : Int)] rfl rfl ?c1 ?c2 ?c3 ?c4 ?c5)
        case c1 =>
          intro j u hj
          match j, hj with
          | 0, hj => simp at hj; subst hj; rw [Addr.add_zero']; exact HNC.out
          | j + 1, hj => simp at hj
        case c2 => simp [Value.oneCell']
        case c3 => rw [LF.out]; unfold maxLen; omega
        case c4 => rw [LF.out]; omega
        case c5 =>
          intro v' w1 hs1 ht1 hob1
          obtain ⟨ao', cap', rfl, -⟩ := hs1.open1
          have h := H.out
          have b1 := HB.out.keep ht1 (fun hk => (h.fne _ hk).1 rfl)
          have u1 := HBu.out.keep ht1 (fun hk => (h.fne bu hk).2 rfl)
          have c1 := b1.cell' (tcells_free h.len _ _)
          have z1 := b1.frozen 33
          have F1 := Lib.hid (And.intro hs1 (And.intro ht1 (And.intro hob1 (And.intro b1 u1))))
          clear hs1 ht1 hob1 b1 u1 h c
          go_wp2
          go_roundw
          case rel =>
            obtain ⟨hs1, ht1, hob1, b1, u1⟩ := F1.out
            have hfin : TabNow w (fun _ => False) (w.heap.size + 1) (newTab m (k + 1)) (w1.setCell ⟨w.heap.size + 1, 33, none⟩ (.slice ao' ((newTab m k).free.length + 1) cap')) := by
              refine HN.out.trans ?_
              rw [← new_big m k hk32]
              exact append_state H.out k rfl (by rw [LF.out]; omega) HT.out hs1 ht1 (fun k hk => (hob1 k hk).imp_right (fun e => by omega)) b1 u1
            first
              | exact ⟨k + 1, by omega, by go_num, hfin⟩
              | ((repeat apply Exists.intro); exact ⟨⟨k + 1, by omega, by go_num, hfin⟩, rfl⟩)
          case measure => simp [intOf]; omega
    · have : k = m := by omega
      subst this
      go_wp2
      go_ret2
      exact ⟨rfl, HN.out⟩
end Go.Proofs.YtnlnbclibkceiaaDoor
