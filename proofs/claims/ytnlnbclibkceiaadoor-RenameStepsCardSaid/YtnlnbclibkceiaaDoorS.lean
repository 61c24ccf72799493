/- Part S of the proofs over 'rename': what is refused, by the program and by the document. -/
import Derived.Test.YtnlnbclibkceiaaDoorR
namespace Go.Proofs.YtnlnbclibkceiaaDoor
open Go.RowKit Go.XHeap
set_option linter.unusedVariables false

theorem take_out {w : World} (p : Addr) (r : Int) (h : r ≤ 0 ∨ 32 ≤ r) :
    Calls Tryd.prog 9 #[.pointer (some p), .int .i64 r] w fun e w' => e = .returned (.tuple #[.int .i64 0, .int .i64 0, .iface 31 (.int .i64 3)]) ∧ w = w' := by
  rcases h with h | h
  · go_enter Tryd.func9, Tryd.ntmps9
    go_wp2
    go_ret3
    exact ⟨rfl, rfl⟩
  · have h0 : 0 < r := by omega
    have hd : decide (r < 32) = false := by simp; omega
    go_enter Tryd.func9, Tryd.ntmps9
    go_wp2
    go_ret3
    exact ⟨rfl, rfl⟩
theorem undo_range {w : World} {O : Nat → Prop} {bt : Nat} {T : Tb} (h : TabIs w O bt T) (r f o : Int) (hb : (r ≤ 0 ∨ 32 ≤ r) ∨ (o < 1 ∨ T.uses.length ≤ o)) :
    Calls Tryd.prog 11 #[.pointer (some ⟨bt, 0, none⟩), .int .i64 r, .int .i64 f, .int .i64 o] w fun e w' => e = .returned (.iface 31 (.int .i64 3)) ∧ w = w' := by
  obtain ⟨bu, vf, h⟩ := h
  have cu := h.tab.cell' (tcells_uses h.len _ _)
  have hul := h.ulen
  clear h
  generalize T.uses.length = nu at *
  by_cases hr : r ≤ 0 ∨ 32 ≤ r
  · rcases hr with hr | hr
    · clear hb
      go_enter Tryd.func11, Tryd.ntmps11
      go_wp2
      go_ret
      exact ⟨rfl, rfl⟩
    · have h0 : 0 < r := by omega
      have hd : decide (r < 32) = false := by simp; omega
      clear hb
      go_enter Tryd.func11, Tryd.ntmps11
      go_wp2
      go_ret
      exact ⟨rfl, rfl⟩
  · have h0 : 0 < r := by omega
    have h1 : r < 32 := by omega
    by_cases ho : o < 1
    · clear hb hr
      go_enter Tryd.func11, Tryd.ntmps11
      go_wp2
      go_ret
      exact ⟨rfl, rfl⟩
    · have ho1 : 1 ≤ o := by omega
      have ho2 : (nu : Int) ≤ o := by omega
      clear hb hr ho
      go_enter Tryd.func11, Tryd.ntmps11
      go_wp2
      go_ret
      exact ⟨rfl, rfl⟩
theorem undo_order {w : World} {O : Nat → Prop} {bt : Nat} {T : Tb} (h : TabIs w O bt T) (r f o : Int) (h0 : 0 < r) (h1 : r < 32) (o1 : 1 ≤ o) (o2 : o < T.uses.length) (hb : T.names.getD r.toNat 0 ≠ f ∨ T.uses.getD o.toNat 0 ≠ 2) :
    Calls Tryd.prog 11 #[.pointer (some ⟨bt, 0, none⟩), .int .i64 r, .int .i64 f, .int .i64 o] w fun e w' => e = .returned (.iface 31 (.int .i64 5)) ∧ w = w' := by
  obtain ⟨bu, vf, h⟩ := h
  have cu := h.tab.cell' (tcells_uses h.len _ _)
  have cr := h.tab.cell' (tcells_name h.len _ _ r.toNat (by omega))
  have co := h.use.cell' (bytes_at T.uses o.toNat (by omega))
  have hul := h.ulen
  clear h
  generalize T.uses.length = nu at *
  generalize T.names.getD r.toNat 0 = x at *
  generalize T.uses.getD o.toNat 0 = y at *
  by_cases hx : x = f
  · subst hx
    have hy : (y != 2) = true := by rw [bne_iff_ne]; rcases hb with hb | hb; exact absurd rfl hb; exact hb
    have hx2 : (x != x) = false := by simp
    clear hb
    go_enter Tryd.func11, Tryd.ntmps11
    go_wp2
    go_ret
    exact ⟨rfl, rfl⟩
  · have hx2 : (x != f) = true := by rw [bne_iff_ne]; exact hx
    clear hb hx
    go_enter Tryd.func11, Tryd.ntmps11
    go_wp2
    go_ret
    exact ⟨rfl, rfl⟩
theorem release_range {w : World} {O : Nat → Prop} {bt : Nat} {T : Tb} (h : TabIs w O bt T) (p : Int) (hb : p < 1 ∨ T.uses.length ≤ p) :
    Calls Tryd.prog 13 #[.pointer (some ⟨bt, 0, none⟩), .int .i64 p] w fun e w' => e = .returned (.iface 31 (.int .i64 3)) ∧ w = w' := by
  obtain ⟨bu, vf, h⟩ := h
  have cu := h.tab.cell' (tcells_uses h.len _ _)
  have hul := h.ulen
  clear h
  generalize T.uses.length = nu at *
  by_cases hp : p < 1
  · clear hb
    go_enter Tryd.func13, Tryd.ntmps13
    go_wp2
    go_ret
    exact ⟨rfl, rfl⟩
  · have hp1 : 1 ≤ p := by omega
    have hp2 : (nu : Int) ≤ p := by omega
    clear hb hp
    go_enter Tryd.func13, Tryd.ntmps13
    go_wp2
    go_ret
    exact ⟨rfl, rfl⟩
theorem release_free {w : World} {O : Nat → Prop} {bt : Nat} {T : Tb} (h : TabIs w O bt T) (p : Int) (o1 : 1 ≤ p) (o2 : p < T.uses.length) (hb : T.uses.getD p.toNat 0 ≠ 2) :
    Calls Tryd.prog 13 #[.pointer (some ⟨bt, 0, none⟩), .int .i64 p] w fun e w' => e = .returned (.iface 31 (.int .i64 6)) ∧ w = w' := by
  obtain ⟨bu, vf, h⟩ := h
  have cu := h.tab.cell' (tcells_uses h.len _ _)
  have co := h.use.cell' (bytes_at T.uses p.toNat (by omega))
  have hul := h.ulen
  clear h
  generalize T.uses.length = nu at *
  generalize T.uses.getD p.toNat 0 = y at *
  have hy : (y != 2) = true := by rw [bne_iff_ne]; exact hb
  clear hb
  go_enter Tryd.func13, Tryd.ntmps13
  go_wp2
  go_ret
  exact ⟨rfl, rfl⟩
theorem rtake_out {w : World} (p : Addr) (r : Int) (h : r ≤ 0 ∨ 32 ≤ r) :
    Calls Tryd.prog 10 #[.pointer (some p), .int .i64 r] w fun e w' => e = .returned (.tuple #[.int .i64 0, .int .i64 0, .int .i64 3]) ∧ w = w' := by
  rcases h with h | h
  · have h' : r < 1 := by omega
    go_enter Tryd.func10, Tryd.ntmps10
    go_wp2
    go_ret3
    exact ⟨rfl, rfl⟩
  · have h0 : 1 ≤ r := by omega
    have h1 : 31 < r := by omega
    go_enter Tryd.func10, Tryd.ntmps10
    go_wp2
    go_ret3
    exact ⟨rfl, rfl⟩
theorem rtake_full {w : World} {O : Nat → Prop} {b : Nat} {R : Rb} (h : RefIs w O b R) (r : Int) (h0 : 0 < r) (h1 : r < 32) (hf : R.free = []) :
    Calls Tryd.prog 10 #[.pointer (some ⟨b, 0, none⟩), .int .i64 r] w fun e w' => e = .returned (.tuple #[.int .i64 0, .int .i64 0, .int .i64 4]) ∧ w = w' := by
  obtain ⟨vf, h⟩ := h
  have c := h.tab.cell' (rcells_free h.len _)
  have hs := h.free
  rw [hf] at hs
  obtain ⟨ao, cap, rfl, -⟩ := hs.open1
  clear h hs hf
  go_enter Tryd.func10, Tryd.ntmps10
  go_wp2
  go_ret3
  exact ⟨rfl, rfl⟩
theorem rundo_range {w : World} {O : Nat → Prop} {b : Nat} {R : Rb} (h : RefIs w O b R) (r f o : Int) (hb : (r ≤ 0 ∨ 32 ≤ r) ∨ (o < 1 ∨ R.size ≤ o)) :
    Calls Tryd.prog 12 #[.pointer (some ⟨b, 0, none⟩), .int .i64 r, .int .i64 f, .int .i64 o] w fun e w' => e = .returned (.int .i64 3) ∧ w = w' := by
  obtain ⟨vf, h⟩ := h
  have cN := h.tab.cell' (rcells_N _ _ _)
  clear h
  generalize R.size = nu at *
  by_cases hr : r ≤ 0 ∨ 32 ≤ r
  · rcases hr with hr | hr
    · have h' : r < 1 := by omega
      clear hb hr
      go_enter Tryd.func12, Tryd.ntmps12
      go_wp2
      go_ret
      exact ⟨rfl, rfl⟩
    · have h0 : 1 ≤ r := by omega
      have h1 : 31 < r := by omega
      clear hb hr
      go_enter Tryd.func12, Tryd.ntmps12
      go_wp2
      go_ret
      exact ⟨rfl, rfl⟩
  · have h0 : 1 ≤ r := by omega
    have h1 : r ≤ 31 := by omega
    by_cases ho : o < 1
    · clear hb hr
      go_enter Tryd.func12, Tryd.ntmps12
      go_wp2
      go_ret
      exact ⟨rfl, rfl⟩
    · have ho1 : 1 ≤ o := by omega
      have ho2 : nu ≤ o := by omega
      clear hb hr ho
      go_enter Tryd.func12, Tryd.ntmps12
      go_wp2
      go_ret
      exact ⟨rfl, rfl⟩
theorem rundo_order {w : World} {O : Nat → Prop} {b : Nat} {R : Rb} (h : RefIs w O b R) (r f o : Int) (h0 : 1 ≤ r) (h1 : r ≤ 31) (o1 : 1 ≤ o) (o2 : o < R.size) (hb : R.names.getD r.toNat 0 ≠ f ∨ o ∈ R.free ∨ o ∈ R.names) :
    Calls Tryd.prog 12 #[.pointer (some ⟨b, 0, none⟩), .int .i64 r, .int .i64 f, .int .i64 o] w fun e w' => e = .returned (.int .i64 5) ∧ w = w' := by
  have K1 := Lib.hid (rfree_any h o); have K2 := Lib.hid (rmapped_any h o)
  obtain ⟨vf, h⟩ := h
  have cN := h.tab.cell' (rcells_N _ _ _)
  have cr := h.tab.cell' (rcells_name h.len _ r.toNat (by omega))
  clear h
  have HB : Hid ((R.names.getD r.toNat 0 != f) = true ∨ decide (o ∈ R.free) = true ∨ decide (o ∈ R.names) = true) := Lib.hid (by simpa using hb)
  clear hb
  generalize R.size = nu at *
  generalize R.names.getD r.toNat 0 = x at *
  generalize decide (o ∈ R.free) = d1 at *
  generalize decide (o ∈ R.names) = d2 at *
  go_enter Tryd.func12, Tryd.ntmps12
  go_wp2_with fail
  refine K1.out.mono ?_
  rintro e w' ⟨rfl, rfl⟩
  go_wp2_with fail
  refine K2.out.mono ?_
  rintro e w' ⟨rfl, rfl⟩
  cases hx : (x != f)
  · have HX := hx
    cases d1
    · cases d2
      · exact absurd HB.out (by simp [hx])
      · go_wp2
        go_ret
        exact ⟨rfl, rfl⟩
    · go_wp2
      go_ret
      exact ⟨rfl, rfl⟩
  · go_wp2
    go_ret
    exact ⟨rfl, rfl⟩
theorem rrelease_range {w : World} {O : Nat → Prop} {b : Nat} {R : Rb} (h : RefIs w O b R) (p : Int) (hb : p < 1 ∨ R.size ≤ p) :
    Calls Tryd.prog 14 #[.pointer (some ⟨b, 0, none⟩), .int .i64 p] w fun e w' => e = .returned (.int .i64 3) ∧ w = w' := by
  obtain ⟨vf, h⟩ := h
  have cN := h.tab.cell' (rcells_N _ _ _)
  clear h
  generalize R.size = nu at *
  by_cases hp : p < 1
  · clear hb
    go_enter Tryd.func14, Tryd.ntmps14
    go_wp2
    go_ret
    exact ⟨rfl, rfl⟩
  · have hp1 : 1 ≤ p := by omega
    have hp2 : nu ≤ p := by omega
    clear hb hp
    go_enter Tryd.func14, Tryd.ntmps14
    go_wp2
    go_ret
    exact ⟨rfl, rfl⟩
theorem rrelease_free {w : World} {O : Nat → Prop} {b : Nat} {R : Rb} (h : RefIs w O b R) (p : Int) (o1 : 1 ≤ p) (o2 : p < R.size) (hb : p ∈ R.free ∨ p ∈ R.names) :
    Calls Tryd.prog 14 #[.pointer (some ⟨b, 0, none⟩), .int .i64 p] w fun e w' => e = .returned (.int .i64 6) ∧ w = w' := by
  have K1 := Lib.hid (rfree_any h p); have K2 := Lib.hid (rmapped_any h p)
  obtain ⟨vf, h⟩ := h
  have cN := h.tab.cell' (rcells_N _ _ _)
  clear h
  have HB : Hid (decide (p ∈ R.free) = true ∨ decide (p ∈ R.names) = true) := Lib.hid (by simpa using hb)
  clear hb
  generalize R.size = nu at *
  generalize decide (p ∈ R.free) = d1 at *
  generalize decide (p ∈ R.names) = d2 at *
  go_enter Tryd.func14, Tryd.ntmps14
  go_wp2_with fail
  refine K1.out.mono ?_
  rintro e w' ⟨rfl, rfl⟩
  go_wp2_with fail
  refine K2.out.mono ?_
  rintro e w' ⟨rfl, rfl⟩
  cases d1
  · cases d2
    · exact absurd HB.out (by simp)
    · go_wp2
      go_ret
      exact ⟨rfl, rfl⟩
  · go_wp2
    go_ret
    exact ⟨rfl, rfl⟩
end Go.Proofs.YtnlnbclibkceiaaDoor
