/- Part A of the proofs over 'rename': what each function does to a table of names. -/
import Derived.Test.YtnlnbclibkceiaaDoorRows
import Derived.Test.YtnlnbclibkceiaaDoorXHeap
import Derived.WalkLawsBesides
import Derived.RegionTactic
import Derived.BigRegion
import Derived.Outline
namespace Go.Proofs.YtnlnbclibkceiaaDoor
open Go.RowKit Go.XHeap
set_option linter.unusedVariables false

def ints (l : List Int) : List Value := l.map (.int .i64)
def bytesV (l : List Int) : List Value := l.map (.int .u8)
/-- the cells of a table -/
def tcells (names : List Int) (u f : Value) : Array Value := (ints names ++ [u, f]).toArray
structure Tb where
  names : List Int
  uses : List Int
  free : List Int
structure TabAt (w : World) (O : Nat → Prop) (bt bu : Nat) (vf : Value) (T : Tb) : Prop where
  len : T.names.length = 32
  ulen : T.uses.length ≤ 128
  flen : T.free.length ≤ 128
  tab : Blk w bt (tcells T.names (.slice (some ⟨bu, 0, none⟩) T.uses.length T.uses.length) vf) 52
  use : Blk w bu (bytesV T.uses).toArray 53
  free : Sl w 3 1 vf T.free.length (ints T.free)
  ne : bt ≠ bu
  fne : ∀ k, vf.ownBlock = some k → k ≠ bt ∧ k ≠ bu
  ot : O bt
  ou : O bu
  ofree : Within vf O
/-- where a table is -/
def TabIs (w : World) (O : Nat → Prop) (bt : Nat) (T : Tb) : Prop := ∃ bu vf, TabAt w O bt bu vf T

theorem tcells_name {names : List Int} (h : names.length = 32) (u f : Value) (r : Nat) (hr : r < 32) : (tcells names u f)[r]? = some (.int .i64 (names.getD r 0)) := by
  unfold tcells ints
  rw [List.getElem?_toArray, List.getElem?_append_left (by simpa [h] using hr)]
  simp [List.getD_eq_getElem?_getD, List.getElem?_eq_getElem (show r < names.length by omega)]
theorem tcells_uses {names : List Int} (h : names.length = 32) (u f : Value) : (tcells names u f)[32]? = some u := by
  unfold tcells ints
  rw [List.getElem?_toArray, List.getElem?_append_right (by simp [h])]; simp [h]
theorem tcells_free {names : List Int} (h : names.length = 32) (u f : Value) : (tcells names u f)[33]? = some f := by
  unfold tcells ints
  rw [List.getElem?_toArray, List.getElem?_append_right (by simp [h])]; simp [h]
theorem tcells_set_name {names : List Int} (h : names.length = 32) (u f : Value) (r : Nat) (hr : r < 32) (x : Int) : (tcells names u f).setIfInBounds r (.int .i64 x) = tcells (names.set r x) u f := by
  unfold tcells ints
  apply Array.toList_inj.1
  simp only [Array.toList_setIfInBounds]
  rw [List.set_append_left _ _ (by simpa [h] using hr), List.map_set]
theorem tcells_set_free {names : List Int} (h : names.length = 32) (u f g : Value) : (tcells names u f).setIfInBounds 33 g = tcells names u g := by
  unfold tcells ints
  apply Array.toList_inj.1
  simp only [Array.toList_setIfInBounds]
  rw [List.set_append_right _ _ (by simp [h])]
  simp [h]
theorem bytes_at (l : List Int) (i : Nat) (h : i < l.length) : (bytesV l).toArray[i]? = some (.int .u8 (l.getD i 0)) := by
  unfold bytesV; simp [List.getD_eq_getElem?_getD, List.getElem?_eq_getElem h]
theorem bytes_set (l : List Int) (i : Nat) (x : Int) : (bytesV l).toArray.setIfInBounds i (.int .u8 x) = (bytesV (l.set i x)).toArray := by
  unfold bytesV; apply Array.toList_inj.1; simp [List.map_set]

theorem look_any {w : World} {O : Nat → Prop} {bt : Nat} {T : Tb} (h : TabIs w O bt T) (r : Int) (h0 : 0 ≤ r) (h1 : r < 32) :
    Calls Tryd.prog 7 #[.pointer (some ⟨bt, 0, none⟩), .int .i64 r] w fun e w' => e = .returned (.int .i64 (T.names.getD r.toNat 0)) ∧ w = w' := by
  obtain ⟨bu, vf, h⟩ := h
  have c := h.tab.cell' (tcells_name h.len _ _ r.toNat (by omega))
  clear h
  by_cases hr : r = 0
  · subst hr
    have c' : w.cell? ⟨bt, 0, none⟩ = some (.int .i64 (T.names.getD (0 : Int).toNat 0)) := c
    clear c
    go_enter Tryd.func7, Tryd.ntmps7
    go_wp2
    go_ret
    exact ⟨rfl, rfl⟩
  · have hr' : 1 ≤ r := by omega
    have hr2 : ¬ r = 0 := hr
    clear hr
    go_enter Tryd.func7, Tryd.ntmps7
    go_wp2
    go_ret
    exact ⟨rfl, rfl⟩
theorem free_any {w : World} {O : Nat → Prop} {bt : Nat} {T : Tb} (h : TabIs w O bt T) :
    Calls Tryd.prog 21 #[.pointer (some ⟨bt, 0, none⟩)] w fun e w' => e = .returned (.int .i64 T.free.length) ∧ w = w' := by
  obtain ⟨bu, vf, h⟩ := h
  have c := h.tab.cell' (tcells_free h.len _ _)
  obtain ⟨ao, cap, rfl, -⟩ := h.free.open1
  clear h
  go_enter Tryd.func21, Tryd.ntmps21
  go_wp2
  go_ret
  exact ⟨rfl, rfl⟩
theorem take_full {w : World} {O : Nat → Prop} {bt : Nat} {T : Tb} (h : TabIs w O bt T) (r : Int) (h0 : 1 ≤ r) (h1 : r < 32) (hf : T.free = []) :
    Calls Tryd.prog 9 #[.pointer (some ⟨bt, 0, none⟩), .int .i64 r] w fun e w' => e = .returned (.tuple #[.int .i64 0, .int .i64 0, .iface 31 (.int .i64 4)]) ∧ w = w' := by
  obtain ⟨bu, vf, h⟩ := h
  have c := h.tab.cell' (tcells_free h.len _ _)
  have hs := h.free
  rw [hf] at hs
  obtain ⟨ao, cap, rfl, -⟩ := hs.open1
  clear h hs hf
  go_enter Tryd.func9, Tryd.ntmps9
  go_wp2
  go_ret3
  exact ⟨rfl, rfl⟩

/-- the blocks of O, and those that have come since -/
def Gain (O : Nat → Prop) (w w' : World) : Nat → Prop := fun k => O k ∨ (w.heap.size ≤ k ∧ k < w'.heap.size)
theorem TabIs.mono {w : World} {O O' : Nat → Prop} {bt : Nat} {T : Tb} (h : TabIs w O bt T) (ho : ∀ k, O k → O' k) : TabIs w O' bt T :=
  let ⟨bu, vf, h⟩ := h
  ⟨bu, vf, ⟨h.len, h.ulen, h.flen, h.tab, h.use, h.free, h.ne, h.fne, ho _ h.ot, ho _ h.ou, fun k hk => ho _ (h.ofree k hk)⟩⟩
theorem TabIs.keep {w w' : World} {O S : Nat → Prop} {bt : Nat} {T : Tb} (h : TabIs w O bt T) (ht : XTouch S w w') (ho : ∀ k, O k → ¬ S k) : TabIs w' O bt T :=
  let ⟨bu, vf, h⟩ := h
  ⟨bu, vf, ⟨h.len, h.ulen, h.flen, h.tab.keep ht (ho _ h.ot), h.use.keep ht (ho _ h.ou), h.free.keep ht (fun k hk => ho _ (h.ofree k hk)), h.ne, h.fne, h.ot, h.ou, h.ofree⟩⟩
/-- what an operation on a table leaves: the table at T', its own blocks and new ones touched -/
def TabNow (w : World) (O : Nat → Prop) (bt : Nat) (T : Tb) (w' : World) : Prop := TabIs w' (Gain O w w') bt T ∧ XTouch O w w'
theorem take_state {w : World} {O : Nat → Prop} {bt bu : Nat} {vf v' : Value} {T : Tb} (h : TabAt w O bt bu vf T) (r old : Nat) (f : Int) (fs : List Int) (nq : Nat) (hr : r < 32) (hfl : fs.length ≤ 128)
    (hs : Sl w 3 1 v' fs.length (ints fs)) (hb : v'.ownBlock = vf.ownBlock) :
    TabNow w O bt ⟨T.names.set r f, (T.uses.set f.toNat 1).set old 2, fs⟩
      (((((w.drewN nq).setCell ⟨bt, 33, none⟩ v').setCell ⟨bt, r, none⟩ (.int .i64 f)).setCell ⟨bu, f.toNat, none⟩ (.int .u8 1)).setCell ⟨bu, old, none⟩ (.int .u8 2)).drew := by
  have hT : XTouch (fun k => k = bt ∨ k = bu) w (((((w.drewN nq).setCell ⟨bt, 33, none⟩ v').setCell ⟨bt, r, none⟩ (.int .i64 f)).setCell ⟨bu, f.toNat, none⟩ (.int .u8 1)).setCell ⟨bu, old, none⟩ (.int .u8 2)).drew :=
    ((((((XTouch.refl _ w).drewN nq).setCell (p := ⟨bt, 33, none⟩) (.inl (.inl rfl)) _).setCell (p := ⟨bt, r, none⟩) (.inl (.inl rfl)) _).setCell (p := ⟨bu, f.toNat, none⟩) (.inl (.inr rfl)) _).setCell (p := ⟨bu, old, none⟩) (.inl (.inr rfl)) _).drew
  have t1 := (((((h.tab.drewN nq).set 33 v').set r (.int .i64 f)).set_ne ⟨bu, f.toNat, none⟩ (.int .u8 1) h.ne).set_ne ⟨bu, old, none⟩ (.int .u8 2) h.ne).drew
  rw [tcells_set_free h.len, tcells_set_name h.len _ _ _ hr] at t1
  have u1 := (((((h.use.drewN nq).set_ne ⟨bt, 33, none⟩ v' h.ne.symm).set_ne ⟨bt, r, none⟩ (.int .i64 f) h.ne.symm).set f.toNat (.int .u8 1)).set old (.int .u8 2)).drew
  rw [bytes_set, bytes_set] at u1
  refine ⟨TabIs.mono (O := O) ⟨bu, v', ⟨by simpa using h.len, by simpa using h.ulen, hfl, by simpa using t1, u1, ?_, h.ne, ?_, h.ot, h.ou, ?_⟩⟩ (fun k hk => .inl hk), hT.mono ?_⟩
  · refine hs.keep hT (fun k hk => ?_)
    have := h.fne k (hb ▸ hk)
    omega
  · intro k hk; exact h.fne k (hb ▸ hk)
  · intro k hk; exact h.ofree k (hb ▸ hk)
  · rintro k - (rfl | rfl)
    · exact h.ot
    · exact h.ou
set_option maxHeartbeats 400000 in
theorem take_ok {w : World} {O : Nat → Prop} {bt : Nat} {T : Tb} (h : TabIs w O bt T) (r f : Int) (fs : List Int) (h0 : 1 ≤ r) (h1 : r < 32) (hf : T.free = f :: fs)
    (f0 : 0 ≤ f) (f1 : f < T.uses.length) (o0 : 0 ≤ T.names.getD r.toNat 0) (o1 : T.names.getD r.toNat 0 < T.uses.length) (fo : f ≠ T.names.getD r.toNat 0) :
    Calls Tryd.prog 9 #[.pointer (some ⟨bt, 0, none⟩), .int .i64 r] w fun e w' => e = .returned (.tuple #[.int .i64 f, .int .i64 (T.names.getD r.toNat 0), .nilIface]) ∧
      TabNow w O bt ⟨T.names.set r.toNat f, (T.uses.set f.toNat 1).set (T.names.getD r.toNat 0).toNat 2, fs⟩ w' := by
  obtain ⟨bu, vf, h⟩ := h
  have c := h.tab.cell' (tcells_free h.len _ _)
  have cu := h.tab.cell' (tcells_uses h.len _ _)
  have cr := h.tab.cell' (tcells_name h.len _ _ r.toNat (by omega))
  have zt := h.tab.frozen
  have zu := h.use.frozen
  have hs := h.free
  have hul := h.ulen
  rw [hf] at hs
  obtain ⟨ao, cap, hv, hxl, q1, q2, q3, hcell⟩ := hs.open1
  obtain ⟨g, off, rfl, hob, hcell⟩ := hcell (by simp)
  have c0 := (hcell 0 (by simp)).1
  have c0' : w.cell? ⟨g, off, none⟩ = some (.int .i64 f) := by simpa [ints] using c0
  subst hv
  have cf := h.use.cell' (bytes_at T.uses f.toNat (by omega))
  have co := h.use.cell' (bytes_at T.uses (T.names.getD r.toNat 0).toNat (by omega))
  have H := Lib.hid h
  have hne := h.ne
  clear h hcell c0 hs hob hxl
  generalize hO : T.names.getD r.toNat 0 = old at *
  generalize hU : T.uses.length = nu at *
  generalize T.uses.getD f.toNat 0 = uf at *
  generalize T.uses.getD old.toNat 0 = uo at *
  have fo' : ¬ f.toNat = old.toNat := by omega
  have HU := Lib.hid hU
  have HO := Lib.hid hO
  have HF := Lib.hid hf
  clear hU hO hf
  simp only [List.length_cons] at c q1 q2
  unfold maxLen at *
  by_cases hcap : cap = 1
  · subst hcap
    go_enter Tryd.func9, Tryd.ntmps9
    go_wp2
    go_quiet (fail)
    go_wp2
    go_region
    all_goals
      go_wp2
    go_ret3
    refine ⟨rfl, ?_⟩
    have h := H.out
    have hfs : fs = [] := List.eq_nil_of_length_eq_zero (by omega)
    have hsl := h.free
    rw [HF.out, hfs] at hsl
    have h2 := Sl.tail1 hsl
    rw [if_pos rfl] at h2
    subst hfs
    rw [← HU.out] at *
    exact take_state h r.toNat old.toNat f [] nq (by omega) (by simp) h2 rfl
  · have hcap2 : 2 ≤ cap := by omega
    go_enter Tryd.func9, Tryd.ntmps9
    go_wp2
    go_quiet (fail)
    go_wp2
    go_region
    all_goals
      go_wp2
    go_ret3
    refine ⟨rfl, ?_⟩
    have h := H.out
    have hsl := h.free
    rw [HF.out] at hsl
    have h2 := Sl.tail1 (n := fs.length) hsl
    rw [if_neg hcap] at h2
    have hfl := h.flen
    rw [HF.out] at hfl
    exact take_state h r.toNat old.toNat f fs nq (by omega) (by simp at hfl; omega) h2 rfl
end Go.Proofs.YtnlnbclibkceiaaDoor
