/- Part K of the proofs over 'rename': a step's state, and what each step makes of it. -/
import Derived.Test.YtnlnbclibkceiaaDoorJ
namespace Go.Proofs.YtnlnbclibkceiaaDoor
open Go.RowKit Go.XHeap
set_option linter.unusedVariables false

def quad (k x y z : Int) : Array Value := #[.int .i64 k, .int .i64 x, .int .i64 y, .int .i64 z]
/-- a script of steps that came in -/
def Scr (w : World) (v : Value) (n : Nat) : Prop :=
  ∃ ao cap, v = .slice ao n cap ∧ n ≤ maxLen ∧ (0 < n → ∃ g off, ao = some ⟨g, off, none⟩ ∧ g < w.heap.size ∧ ∀ i, i < n → ∃ k x y z : Int, w.cell? ⟨g, off + i * 4, none⟩ = some (.int .i64 k) ∧ w.cell? ⟨g, off + i * 4 + 1, none⟩ = some (.int .i64 x) ∧ w.cell? ⟨g, off + i * 4 + 2, none⟩ = some (.int .i64 y) ∧ w.cell? ⟨g, off + i * 4 + 3, none⟩ = some (.int .i64 z))
def Mid (w0 : World) (bt b bo : Nat) (T : Tb) (R : Rb) (O1 O2 : Nat → Prop) (vl : Value) (l : List (Int × Int × Int)) (k x y z : Int) (w : World) : Prop :=
  HJ w0 w bt b T R O1 O2 (fun j => vl.ownBlock = some j) ∧ Sl w 37 3 vl l.length (trip l) ∧ Blk w bo (quad k x y z) 35 ∧ (∀ j, O1 j ∨ O2 j ∨ vl.ownBlock = some j → j ≠ bo) ∧ w0.heap.size ≤ bo
theorem Mid.start {w0 wr : World} {bt b : Nat} {T : Tb} {R : Rb} {O1 O2 : Nat → Prop} {vl : Value} {l : List (Int × Int × Int)} (h : HJ w0 wr bt b T R O1 O2 (fun j => vl.ownBlock = some j)) (hl : Sl wr 37 3 vl l.length (trip l)) (k x y z : Int) :
    Mid w0 bt b wr.heap.size T R O1 O2 vl l k x y z (wr.alloc (.cells (quad k x y z) 35)) := by
  have ht := (XTouch.refl (fun _ => False) wr).alloc (.cells (quad k x y z) 35)
  refine ⟨h.on0 ht, hl.keep ht (fun _ _ e => e), Blk.new wr _ 35, ?_, h.touch.size⟩
  rintro j (e | e | e)
  · have := (h.g1 j e).2; omega
  · have := (h.g2 j e).2; omega
  · have := (h.g3 j e).2; omega
theorem Mid.cells {w0 w : World} {bt b bo : Nat} {T : Tb} {R : Rb} {O1 O2 : Nat → Prop} {vl : Value} {l : List (Int × Int × Int)} {k x y z : Int} (h : Mid w0 bt b bo T R O1 O2 vl l k x y z w) :
    w.cell? ⟨bo, 0, none⟩ = some (.int .i64 k) ∧ w.cell? ⟨bo, 1, none⟩ = some (.int .i64 x) ∧ w.cell? ⟨bo, 2, none⟩ = some (.int .i64 y) ∧ w.cell? ⟨bo, 3, none⟩ = some (.int .i64 z) ∧ ∀ i, w.frozen? ⟨bo, i, none⟩ = false :=
  ⟨h.2.2.1.cell' rfl, h.2.2.1.cell' rfl, h.2.2.1.cell' rfl, h.2.2.1.cell' rfl, h.2.2.1.frozen⟩
def AllSame (w : World) (e : Ending) (w' : World) : Prop := e = .returned (.bool true) ∧ Below w.heap.size w w'
variable {w0 w w' : World} {bt b bo : Nat} {T T' : Tb} {R R' : Rb} {O1 O2 : Nat → Prop} {vl : Value} {l : List (Int × Int × Int)} {k x y z : Int}
theorem Mid.keep (h : Mid w0 bt b bo T R O1 O2 vl l k x y z w) (ht : XTouch (fun j => j = bo) w w') {k' x' y' z' : Int} (hb : Blk w' bo (quad k' x' y' z') 35) : Mid w0 bt b bo T R O1 O2 vl l k' x' y' z' w' := by
  obtain ⟨hj, hl, hq, hd, h0⟩ := h
  refine ⟨⟨hj.t.keep ht (fun j e => hd j (.inl e)), hj.u.keep ht (fun j e => hd j (.inr (.inl e))), ?_, ?_, ?_, hj.d12, hj.d13, hj.d23, hj.touch.trans ht (fun j hj e => by omega)⟩, hl.keep ht (fun j e => hd j (.inr (.inr e))), hb, hd, h0⟩
  · intro j e; have := hj.g1 j e; have := ht.size; omega
  · intro j e; have := hj.g2 j e; have := ht.size; omega
  · intro j e; have := hj.g3 j e; have := ht.size; omega
theorem Mid.on0 (h : Mid w0 bt b bo T R O1 O2 vl l k x y z w) (ht : XTouch (fun _ => False) w w') : Mid w0 bt b bo T R O1 O2 vl l k x y z w' :=
  h.keep (ht.mono (fun _ _ e => e.elim)) (h.2.2.1.keep ht (fun e => e))
theorem Mid.quad4 (h : Mid w0 bt b bo T R O1 O2 vl l k x y z w) (k' x' y' z' : Int) (o : Obj) :
    Mid w0 bt b bo T R O1 O2 vl l k' x' y' z' (((((w.setCell ⟨bo, 0, none⟩ (.int .i64 k')).setCell ⟨bo, 1, none⟩ (.int .i64 x')).setCell ⟨bo, 2, none⟩ (.int .i64 y')).setCell ⟨bo, 3, none⟩ (.int .i64 z')).alloc o) := by
  refine h.keep ((((((XTouch.refl (fun j => j = bo) w).setCell (p := ⟨bo, 0, none⟩) (.inl rfl) _).setCell (p := ⟨bo, 1, none⟩) (.inl rfl) _).setCell (p := ⟨bo, 2, none⟩) (.inl rfl) _).setCell (p := ⟨bo, 3, none⟩) (.inl rfl) _).alloc _) ?_
  have := ((((h.2.2.1.set 0 (.int .i64 k')).set 1 (.int .i64 x')).set 2 (.int .i64 y')).set 3 (.int .i64 z')).alloc o
  simpa [quad] using this
theorem Mid.quad4' (h : Mid w0 bt b bo T R O1 O2 vl l k x y z w) (k' x' y' z' : Int) :
    Mid w0 bt b bo T R O1 O2 vl l k' x' y' z' ((((w.setCell ⟨bo, 0, none⟩ (.int .i64 k')).setCell ⟨bo, 1, none⟩ (.int .i64 x')).setCell ⟨bo, 2, none⟩ (.int .i64 y')).setCell ⟨bo, 3, none⟩ (.int .i64 z')) := by
  refine h.keep (((((XTouch.refl (fun j => j = bo) w).setCell (p := ⟨bo, 0, none⟩) (.inl rfl) _).setCell (p := ⟨bo, 1, none⟩) (.inl rfl) _).setCell (p := ⟨bo, 2, none⟩) (.inl rfl) _).setCell (p := ⟨bo, 3, none⟩) (.inl rfl) _) ?_
  have := (((h.2.2.1.set 0 (.int .i64 k')).set 1 (.int .i64 x')).set 2 (.int .i64 y')).set 3 (.int .i64 z')
  simpa [quad] using this
theorem Mid.short {q : Int × Int × Int} {a : Addr} {cap : Nat} (h : Mid w0 bt b bo T R O1 O2 (.slice (some a) (l ++ [q]).length cap) (l ++ [q]) k x y z w) : Mid w0 bt b bo T R O1 O2 (.slice (some a) l.length cap) l k x y z w :=
  ⟨h.1, trip_short h.2.1, h.2.2.1, h.2.2.2.1, h.2.2.2.2⟩
theorem Mid.onT (h : Mid w0 bt b bo T R O1 O2 vl l k x y z w) (hn : TabNow w O1 bt T' w') : Mid w0 bt b bo T' R (Gain O1 w w') O2 vl l k x y z w' := by
  obtain ⟨hj, hl, hq, hd, h0⟩ := h
  have hb := hq.lt
  refine ⟨hj.onT hn, hl.keep hn.2 (fun j e e2 => hj.d13 j e2 e), hq.keep hn.2 (fun e => hd bo (.inl e) rfl), ?_, h0⟩
  rintro j ((e | e) | e | e)
  · exact hd j (.inl e)
  · omega
  · exact hd j (.inr (.inl e))
  · exact hd j (.inr (.inr e))
theorem Mid.onR (h : Mid w0 bt b bo T R O1 O2 vl l k x y z w) (hn : RefNow w O2 b R' w') : Mid w0 bt b bo T R' O1 (Gain O2 w w') vl l k x y z w' := by
  obtain ⟨hj, hl, hq, hd, h0⟩ := h
  have hb := hq.lt
  refine ⟨hj.onU hn, hl.keep hn.2 (fun j e e2 => hj.d23 j e2 e), hq.keep hn.2 (fun e => hd bo (.inr (.inl e)) rfl), ?_, h0⟩
  rintro j (e | (e | e) | e)
  · exact hd j (.inl e)
  · exact hd j (.inr (.inl e))
  · omega
  · exact hd j (.inr (.inr e))
theorem Mid.hE (h : Mid w0 bt b bo T R O1 O2 vl l k x y z w) (hE : w0.cell? ⟨0, 0, none⟩ = some (.iface 77 (.agg #[.pointer (some ⟨1, 25, none⟩)]))) : w.cell? ⟨0, 0, none⟩ = some (.iface 77 (.agg #[.pointer (some ⟨1, 25, none⟩)])) := by
  rw [h.1.touch.cell (p := ⟨0, 0, none⟩) (World.block_lt_of_cell? _ _ hE) (fun h => h)]; exact hE
theorem Mid.grow (h : Mid w0 bt b bo T R O1 O2 vl l k x y z w) (o : Obj) (q1 q2 q3 : Int) {v' : Value} {w' : World} (hs : Sl w' 37 3 v' (l.length + 1) (trip l ++ [.int .i64 q1, .int .i64 q2, .int .i64 q3])) (ht : XTouch (fun j => vl.ownBlock = some j) (w.alloc o) w')
    (hob : ∀ j, v'.ownBlock = some j → vl.ownBlock = some j ∨ w.heap.size + 1 ≤ j) : Mid w0 bt b bo T R O1 O2 v' (l ++ [(q1, q2, q3)]) k x y z w' := by
  obtain ⟨hj, hl, hq, hd, h0⟩ := h
  have hb := hq.lt
  have ht2 : XTouch (fun j => vl.ownBlock = some j) w w' := ((XTouch.refl _ w).alloc o).trans ht (fun j _ e => e)
  refine ⟨hj.onL ht2 (fun j e => ⟨(hob j e).imp_right (fun e => by omega), hs.lt j e⟩), ?_, hq.keep ht2 (fun e => hd bo (.inr (.inr e)) rfl), ?_, h0⟩
  · rw [trip_snoc]; simpa using hs
  · rintro j (e | e | e)
    · exact hd j (.inl e)
    · exact hd j (.inr (.inl e))
    · rcases hob j e with e | e
      · exact hd j (.inr (.inr e))
      · omega
theorem info37 : (Tryd.prog.info? 37).map (fun i => (i.zero, i.size, i.bytes)) = some (some (.agg #[.int .i64 0, .int .i64 0, .int .i64 0]), 3, 24) := by kernel_rfl
variable {n : Nat}
theorem Agree.take (h : Agree n T R) {f : Int} {fs : List Int} (hf : T.free = f :: fs) (r : Nat) (hr : r < 32) {o : Int} (ho : T.names.getD r 0 = o) :
    Agree n ⟨T.names.set r f, (T.uses.set f.toNat 1).set o.toNat 2, fs⟩ ⟨R.size, R.names.set r f, fs⟩ := by
  have hg := h.g
  rw [hf] at hg
  have := (hg.take r hr).2.2.2
  rw [ho] at this
  exact ⟨by rw [h.nm], rfl, h.sz, this⟩
theorem takeA (hT : TabIs w O1 bt T) (h : Agree n T R) {f : Int} {fs : List Int} (hf : T.free = f :: fs) (r : Nat) (h1 : 1 ≤ r) (hr : r < 32) {o : Int} (ho : T.names.getD r 0 = o) :
    Calls Tryd.prog 9 #[.pointer (some ⟨bt, 0, none⟩), .int .i64 (r : Int)] w fun e w' => e = .returned (.tuple #[.int .i64 f, .int .i64 o, .nilIface]) ∧ TabNow w O1 bt ⟨T.names.set r f, (T.uses.set f.toNat 1).set o.toNat 2, fs⟩ w' := by
  have hg := h.g
  rw [hf] at hg
  obtain ⟨a1, a2, a3, -⟩ := hg.take r hr
  have hul := hg.ul
  have e : ((r : Int)).toNat = r := by omega
  have := take_ok hT (r : Int) f fs (by omega) (by omega) hf a1.1 (by rw [hul]; exact a1.2) (by rw [e]; exact a2.1) (by rw [e, hul]; exact a2.2) (by rw [e]; exact a3)
  rw [e, ho] at this
  exact this
theorem rtakeA (hR : RefIs w O2 b R) (h : Agree n T R) {f : Int} {fs : List Int} (hf : T.free = f :: fs) (r : Nat) (h1 : 1 ≤ r) (hr : r < 32) {o : Int} (ho : T.names.getD r 0 = o) :
    Calls Tryd.prog 10 #[.pointer (some ⟨b, 0, none⟩), .int .i64 (r : Int)] w fun e w' => e = .returned (.tuple #[.int .i64 f, .int .i64 o, .int .i64 0]) ∧ RefNow w O2 b ⟨R.size, R.names.set r f, fs⟩ w' :=
  rtake_ok hR r h1 hr (by rw [← h.fr]; exact hf) (by rw [← h.nm]; exact ho)
theorem Agree.undo (h : Agree n T R) (r : Nat) (hr : r < 32) {f o : Int} (hf : T.names.getD r 0 = f) (o1 : 1 ≤ o) (o2 : o < n) (hoF : o ∉ T.free) (hoN : o ∉ T.names) :
    Agree n ⟨T.names.set r o, (T.uses.set f.toNat 0).set o.toNat 1, f :: T.free⟩ ⟨R.size, R.names.set r o, f :: R.free⟩ :=
  ⟨by rw [h.nm], by rw [h.fr], h.sz, (h.g.undo r hr hf (by omega) o2 hoF hoN).2.2⟩
theorem undoA (hT : TabIs w O1 bt T) (h : Agree n T R) (r : Nat) (h1 : 1 ≤ r) (hr : r < 32) {f o : Int} (hf : T.names.getD r 0 = f) (o1 : 1 ≤ o) (o2 : o < n) (hoF : o ∉ T.free) (hoN : o ∉ T.names) :
    Calls Tryd.prog 11 #[.pointer (some ⟨bt, 0, none⟩), .int .i64 (r : Int), .int .i64 f, .int .i64 o] w fun e w' => e = .returned .nilIface ∧ TabNow w O1 bt ⟨T.names.set r o, (T.uses.set f.toNat 0).set o.toNat 1, f :: T.free⟩ w' := by
  obtain ⟨a1, a2, -⟩ := h.g.undo r hr hf (by omega) o2 hoF hoN
  have e : ((r : Int)).toNat = r := by omega
  have hul := h.g.ul
  have := undo_ok hT (r : Int) f o (by omega) (by omega) (by rw [e]; exact hf) a1.1 (by rw [hul]; exact a1.2) o1 (by rw [hul]; exact o2) ((h.g.two (by omega) o2).2 ⟨hoF, hoN⟩) a2 (h.g.room (by omega) o2 hoF)
  rw [e] at this
  exact this
theorem rundoA (hR : RefIs w O2 b R) (h : Agree n T R) (r : Nat) (h1 : 1 ≤ r) (hr : r < 32) {f o : Int} (hf : T.names.getD r 0 = f) (o1 : 1 ≤ o) (o2 : o < n) (hoF : o ∉ T.free) (hoN : o ∉ T.names) :
    Calls Tryd.prog 12 #[.pointer (some ⟨b, 0, none⟩), .int .i64 (r : Int), .int .i64 f, .int .i64 o] w fun e w' => e = .returned (.int .i64 0) ∧ RefNow w O2 b ⟨R.size, R.names.set r o, f :: R.free⟩ w' :=
  rundo_ok hR r h1 hr f o (by rw [← h.nm]; exact hf) o1 (by rw [h.sz]; exact o2) (by rw [← h.fr]; exact hoF) (by rw [← h.nm]; exact hoN) (by rw [← h.fr]; exact h.g.room (by omega) o2 hoF)
theorem Agree.release (h : Agree n T R) {p : Int} (o1 : 1 ≤ p) (o2 : p < n) (hoF : p ∉ T.free) (hoN : p ∉ T.names) :
    Agree n ⟨T.names, T.uses.set p.toNat 0, T.free ++ [p]⟩ ⟨R.size, R.names, R.free ++ [p]⟩ :=
  ⟨h.nm, by rw [h.fr], h.sz, h.g.release (by omega) o2 hoF hoN⟩
theorem releaseA (hT : TabIs w O1 bt T) (h : Agree n T R) {p : Int} (o1 : 1 ≤ p) (o2 : p < n) (hoF : p ∉ T.free) (hoN : p ∉ T.names) :
    Calls Tryd.prog 13 #[.pointer (some ⟨bt, 0, none⟩), .int .i64 p] w fun e w' => e = .returned .nilIface ∧ TabNow w O1 bt ⟨T.names, T.uses.set p.toNat 0, T.free ++ [p]⟩ w' :=
  release_ok hT p o1 (by rw [h.g.ul]; exact o2) ((h.g.two (by omega) o2).2 ⟨hoF, hoN⟩) (h.g.room (by omega) o2 hoF)
theorem rreleaseA (hR : RefIs w O2 b R) (h : Agree n T R) {p : Int} (o1 : 1 ≤ p) (o2 : p < n) (hoF : p ∉ T.free) (hoN : p ∉ T.names) :
    Calls Tryd.prog 14 #[.pointer (some ⟨b, 0, none⟩), .int .i64 p] w fun e w' => e = .returned (.int .i64 0) ∧ RefNow w O2 b ⟨R.size, R.names, R.free ++ [p]⟩ w' :=
  rrelease_ok hR p o1 (by rw [h.sz]; exact o2) (by rw [← h.fr]; exact hoF) (by rw [← h.nm]; exact hoN) (by rw [← h.fr]; exact h.g.room (by omega) o2 hoF)
end Go.Proofs.YtnlnbclibkceiaaDoor
