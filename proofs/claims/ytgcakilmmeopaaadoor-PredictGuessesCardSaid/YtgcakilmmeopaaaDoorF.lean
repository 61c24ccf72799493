/- Part F of the proofs over 'predict': whole, Restore. No condition. -/
import Derived.Test.YtgcakilmmeopaaaDoorE
namespace Go.Proofs.YtgcakilmmeopaaaDoor
open Go.RowKit Go.XHeap Go.Sx
set_option linter.unusedVariables false
set_option maxRecDepth 100000

def markV (mh : Int) (mt : Nat) (mv : Int) : Array Value := #[.int .i64 mh, .int .i64 mt, .int .u32 mv]
theorem whole_yes {W : World} {b : Nat} {S : PS} (h : PredAt W b S) (mh : Int) (mt : Nat) (mv : Int) (h1 : 0 ≤ mh) (h2 : mh ≤ S.mask) (h3 : mt < S.stack.length) :
    Calls Tryd.prog 26 #[.pointer (some ⟨b, 0, none⟩), .agg (markV mh mt mv)] W fun e w => e = .returned (.bool true) ∧ XTouch (fun _ => False) W w := by
  have hlen := h.slen
  refine vc26 b 0 _ ?_
  rintro k w2 rfl rfl
  have hb : Blk (W.alloc (.cells (markV mh mt mv) 37)) W.heap.size (markV mh mt mv) 37 := Blk.new W _ _
  have ht : XTouch (fun _ => False) W (W.alloc (.cells (markV mh mt mv) 37)) := (XTouch.refl _ W).alloc _
  have hp := h.keep ht (fun _ _ e => e)
  refine ⟨mh, hb.cell' rfl, S.mask, hp.root.cell' rfl, true, fun k2 => (within_any _ mh 0 S.mask).mono ?_, ?_⟩
  · rintro e w ⟨rfl, rfl⟩
    exact ⟨by rw [within_yes h1 h2], k2, rfl⟩
  refine split_of (fun _ => ?_) (fun q => by cases q)
  refine ⟨mt, hb.cell' rfl, _, _, _, hp.root.cell' rfl, ?_⟩
  rintro z4 hz4
  rw [w64 (by omega) (by omega)] at hz4
  subst hz4
  refine ⟨true, fun k6 => (within_any _ mt 0 _).mono ?_, ?_⟩
  · rintro e w ⟨rfl, rfl⟩
    exact ⟨by rw [within_yes (by omega) (by omega)], k6, rfl⟩
  rintro w5 k8 rfl
  exact ⟨rfl, ht.drewN k8⟩
def PS.back (S : PS) (mh : Int) (mt : Nat) (mv : Int) : PS := { S with hist := mh, top := mt, stack := S.stack.set mt mv }
theorem restore_any {W : World} {b : Nat} {S : PS} (h : PredAt W b S) (hT : Tab W) (hlo : ∀ k, S.own b k → 3 ≤ k) (mh : Int) (mt : Nat) (mv : Int) (h1 : 0 ≤ mh) (h2 : mh ≤ S.mask) (h3 : mt < S.stack.length) (pc : Int) (i : In) (h4 : 0 < i.op) (h5 : i.op < 68) (taken : Bool) :
    Calls Tryd.prog 10 #[.pointer (some ⟨b, 0, none⟩), .agg (markV mh mt mv), .int .u32 pc, .agg i.cells, .bool taken] W fun e w => e = .returned (.tuple #[]) ∧ PredAt w b ((S.back mh mt mv).on pc i taken) ∧ XTouch (S.own b) W w := by
  have hlen := h.slen
  have hown := h.lt
  have hn1 : ¬ S.own b 1 := fun e => by have := hlo _ e; omega
  have hn2 : ¬ S.own b 2 := fun e => by have := hlo _ e; omega
  refine vc10 b 0 _ pc i.cells taken ?_
  rintro k w2 rfl rfl k2 w3 rfl rfl
  have hm : Blk ((W.alloc (.cells (markV mh mt mv) 37)).alloc (.cells i.cells 33)) W.heap.size (markV mh mt mv) 37 := (Blk.new W _ _).alloc _
  have hs : (W.alloc (.cells (markV mh mt mv) 37)).heap.size = W.heap.size + 1 := by simp
  have hi : Blk ((W.alloc (.cells (markV mh mt mv) 37)).alloc (.cells i.cells 33)) (W.heap.size + 1) i.cells 33 := by
    have := Blk.new (W.alloc (.cells (markV mh mt mv) 37)) i.cells 33
    rw [hs] at this; exact this
  have ht : XTouch (fun _ => False) W ((W.alloc (.cells (markV mh mt mv) 37)).alloc (.cells i.cells 33)) := ((XTouch.refl _ W).alloc _).alloc _
  have es : (W.alloc (.cells (Value.agg (markV mh mt mv)).cells 37)).heap.size = W.heap.size + 1 := hs
  have ew : (W.alloc (.cells (Value.agg (markV mh mt mv)).cells 37)).alloc (.cells (Value.agg i.cells).cells 33) = (W.alloc (.cells (markV mh mt mv) 37)).alloc (.cells i.cells 33) := rfl
  rw [es, ew]
  generalize (W.alloc (.cells (markV mh mt mv) 37)).alloc (.cells i.cells 33) = w3 at hm hi ht
  clear es ew hs
  have hp3 := h.keep ht (fun _ _ e => e)
  refine ⟨markV mh mt mv, rfl, cellsAt_self hm, (whole_yes hp3 mh mt mv h1 h2 h3).mono ?_⟩
  rintro e w4 ⟨rfl, ht4⟩
  refine ⟨true, rfl, split_of (fun q => by cases q) (fun _ => ?_)⟩
  rintro w5 rfl
  have hX : XTouch (fun _ => False) W w4.drew := (ht.trans ht4 (fun _ _ e => e)).drew
  have hm5 := (hm.keep ht4 (fun e => e)).drew
  have hi5 := (hi.keep ht4 (fun e => e)).drew
  have hp5 := h.keep hX (fun _ _ e => e)
  have hT5 := hT.keep hX (fun e => e) (fun e => e)
  generalize w4.drew = w5 at hX hm5 hi5 hp5 hT5
  refine ⟨mh, hm5.cell' rfl, ?_⟩
  have nn : ∀ q, W.heap.size ≤ q → ¬ S.own b q := fun q hq e => by have := hown _ e; omega
  have hp6 := hp5.setHist mh
  have hX6 := (XTouch.refl (S.own b) w5).setCell (p := ⟨b, 1, none⟩) (.inl (.inl rfl)) (.int .i64 mh)
  have hp7 := (hp6.setTop mt h3)
  have hX7 := (hX6.setCell (p := ⟨b, 5, none⟩) (.inl (.inl rfl)) (.int .i64 mt)).drew
  have hm6 := hm5.keep hX6 (nn _ (by omega))
  have hp8 := hp7.drew
  have hm8 := hm5.keep hX7 (nn _ (by omega))
  have hi8 := hi5.keep hX7 (nn _ (by omega))
  have hp9 := hp8.setStack mt mv
  have hX9 := hX7.setCell (p := ⟨S.sb, mt, none⟩) (.inl (.inr (.inr rfl))) (.int .u32 mv)
  have hi9 := hi5.keep hX9 (nn _ (by omega))
  have hT9 := hT5.keep hX9 hn1 hn2
  have last := goOn_any hp9 hT9 hlo pc i h4 h5 taken
  refine ⟨⟨mt, hm5.cell' rfl, Below.refl _ _, ⟨_, hp5.root.cell' rfl⟩, hp5.root.frozen _, ?_⟩, ⟨_, hp5.root.cell' rfl⟩, hp5.root.frozen _, ?_⟩
  · rintro w6 rfl
    refine ⟨⟨_, hp6.root.cell' rfl⟩, hp6.root.frozen _, ?_⟩
    rintro w7 rfl w8 rfl
    refine ⟨_, _, _, hp8.root.cell' rfl, mt, hp8.root.cell' rfl, mv, hm8.cell' rfl, ⟨by omega, Int.ofNat_lt.2 h3⟩, ?_⟩
    show (∃ v, World.cell? _ ⟨S.sb, 0 + ((mt : Nat) : Int).toNat * 1, none⟩ = some v) ∧ World.frozen? _ ⟨S.sb, 0 + ((mt : Nat) : Int).toNat * 1, none⟩ = false ∧ _
    rw [show 0 + ((mt : Nat) : Int).toNat * 1 = mt by omega]
    refine ⟨?_, hp8.stk.frozen _, ?_⟩
    · rw [hp8.stk.cell]
      exact ⟨_, Array.getElem?_eq_getElem (by simp [u32s_len]; exact h3)⟩
    rintro w9 rfl
    refine ⟨i.cells, rfl, cellsAt_self hi9, last.mono ?_⟩
    rintro e w10 ⟨rfl, hp10, ht10⟩
    exact ⟨rfl, rfl, hp10, (hX.mono (fun _ _ e => e.elim)).trans (hX9.trans ht10 (fun _ _ e => e)) (fun _ _ e => e)⟩
  · rintro w6 rfl
    refine ⟨mt, hm6.cell' rfl, ⟨_, hp6.root.cell' rfl⟩, hp6.root.frozen _, ?_⟩
    rintro w7 rfl w8 rfl
    refine ⟨_, _, _, hp8.root.cell' rfl, mt, hp8.root.cell' rfl, mv, hm8.cell' rfl, ⟨by omega, Int.ofNat_lt.2 h3⟩, ?_⟩
    show (∃ v, World.cell? _ ⟨S.sb, 0 + ((mt : Nat) : Int).toNat * 1, none⟩ = some v) ∧ World.frozen? _ ⟨S.sb, 0 + ((mt : Nat) : Int).toNat * 1, none⟩ = false ∧ _
    rw [show 0 + ((mt : Nat) : Int).toNat * 1 = mt by omega]
    refine ⟨?_, hp8.stk.frozen _, ?_⟩
    · rw [hp8.stk.cell]
      exact ⟨_, Array.getElem?_eq_getElem (by simp [u32s_len]; exact h3)⟩
    rintro w9 rfl
    refine ⟨i.cells, rfl, cellsAt_self hi9, last.mono ?_⟩
    rintro e w10 ⟨rfl, hp10, ht10⟩
    exact ⟨rfl, rfl, hp10, (hX.mono (fun _ _ e => e.elim)).trans (hX9.trans ht10 (fun _ _ e => e)) (fun _ _ e => e)⟩
end Go.Proofs.YtgcakilmmeopaaaDoor
