/- Part E of the proofs over 'cache': a line laid in. -/
import Derived.Test.YthjabcklmhaeoaaD
namespace Go.Proofs.Ythjabcklmhaeoaa
open Go.RowKit Go.XHeap Go.Sx
set_option linter.unusedVariables false

def zero18 : List Value := [.int .u32 0, .int .i64 0, .int .u8 0, .int .u8 0, .int .u8 0, .int .u8 0, .int .u8 0, .int .u8 0, .int .u8 0, .int .u8 0, .int .u8 0, .int .u8 0, .int .u8 0, .int .u8 0, .int .u8 0, .int .u8 0, .int .u8 0, .int .u8 0]
def goneCells (y : Way) : List Value := if y.state != 0 then lineCells y else zero18
theorem zero18_one : ∀ v ∈ zero18, v.oneCell' = true := by
  intro v hv
  simp only [zero18, List.mem_cons, List.not_mem_nil, or_false] at hv
  rcases hv with rfl | rfl | rfl | rfl | rfl | rfl | rfl | rfl | rfl | rfl | rfl | rfl | rfl | rfl | rfl | rfl | rfl | rfl <;> rfl
theorem fill_ok {W : World} {b : Nat} {C : CS} (h : CacheAt W b C) (a : Nat) (ha : a < 1024) (hal : a % 16 = 0) (bs : List Int) (hbs : bs.length = 16) (st : Int) (h1 : 1 ≤ st) (h3 : st ≤ 3) (hf : find? (C.sets (C.ix a)) (a / 16 * 16) = none) :
    Calls Try.prog 7 #[.pointer (some ⟨b, 0, none⟩), .int .u32 a, .agg (u8s bs).toArray, .int .i64 st] W fun e w => ∃ j y u, (C.sets (C.ix a))[j]? = some y ∧ e = .returned (.tuple #[.agg (goneCells y).toArray, .bool (y.state != 0), .nilIface]) ∧ CacheAt w b ((C.tick u).setWay (C.ix a) j { line := a, state := st, used := u, bytes := bs }) ∧ XTouch (C.own b) W w := by
  have hlt := CS.ix_lt h a
  refine vc7 b 0 a (u8s bs).toArray st ?_
  rintro k w2 rfl rfl k2 w3 rfl rfl
  have hT3 : XTouch (fun _ => False) W ((W.alloc (.cells (u8s bs).toArray 38)).alloc (.cells zero18.toArray 40)) := ((XTouch.refl _ W).alloc _).alloc _
  have hB1 : Blk ((W.alloc (.cells (u8s bs).toArray 38)).alloc (.cells zero18.toArray 40)) W.heap.size (u8s bs).toArray 38 := (Blk.new W _ 38).alloc _
  have hB2 : Blk ((W.alloc (.cells (u8s bs).toArray 38)).alloc (.cells zero18.toArray 40)) (W.heap.size + 1) zero18.toArray 40 := by
    have := Blk.new (W.alloc (.cells (u8s bs).toArray 38)) zero18.toArray 40
    simpa using this
  have hk2 : (W.alloc (.cells (u8s bs).toArray 38)).heap.size = W.heap.size + 1 := by simp
  have hown : ∀ q, C.own b q → q < W.heap.size := h.lt
  show ∀ z : Int, z = _ → _
  generalize hW3 : (W.alloc (.cells (u8s bs).toArray 38)).alloc (.cells zero18.toArray 40) = W3 at hT3 hB1 hB2
  have eW3 : (W.alloc (Obj.cells (Value.agg (u8s bs).toArray).cells 38)).alloc (Obj.cells #[Value.int IntKind.u32 0, Value.int IntKind.i64 0, Value.int IntKind.u8 0, Value.int IntKind.u8 0, Value.int IntKind.u8 0, Value.int IntKind.u8 0, Value.int IntKind.u8 0, Value.int IntKind.u8 0, Value.int IntKind.u8 0, Value.int IntKind.u8 0, Value.int IntKind.u8 0, Value.int IntKind.u8 0, Value.int IntKind.u8 0, Value.int IntKind.u8 0, Value.int IntKind.u8 0, Value.int IntKind.u8 0, Value.int IntKind.u8 0, Value.int IntKind.u8 0] 40) = W3 := hW3
  have ek2 : (W.alloc (Obj.cells (Value.agg (u8s bs).toArray).cells 38)).heap.size = W.heap.size + 1 := hk2
  rw [eW3, ek2]
  clear eW3 ek2 hW3 hk2
  rintro z hz
  rw [and15 a ha, hal] at hz
  subst hz
  refine split_of (fun q => by cases q) (fun _ => ?_)
  refine split_of (fun q => absurd (of_decide_eq_true q) (by omega)) (fun _ => ?_)
  refine split_of (fun q => absurd (of_decide_eq_true q) (by omega)) (fun _ => ?_)
  have hc3 : CacheAt W3 b C := h.keep hT3 (fun _ _ e => e)
  refine (find_any hc3 a ha).mono ?_
  rintro e w7 ⟨rfl, n7, rfl⟩
  rw [hf]
  refine ⟨none, rfl, split_of (fun q => by cases q) (fun _ => ?_)⟩
  refine (set_any (hc3.drewN n7) a ha).mono ?_
  rintro e w9 ⟨rfl, n9, rfl⟩
  have hN := h.npos
  refine ⟨_, _, _, rfl, ⟨by omega, by omega⟩, ?_⟩
  refine ⟨fun x p w => ∃ n j : Nat, x = n ∧ n ≤ C.N ∧ j < C.N ∧ p = some ⟨C.g (C.ix a), j * 19, none⟩ ∧ XTouch (fun _ => False) W3 w, fun x _ _ => C.N - x.toNat, ⟨0, 0, rfl, by omega, by omega, by simp, ((XTouch.refl _ W3).drewN n7).drewN n9⟩, fun _ => ?_⟩
  rintro x p w10 ⟨n, j, rfl, hn, hj, rfl, hT10⟩
  have hc10 : CacheAt w10 b C := hc3.keep hT10 (fun _ _ e => e)
  obtain ⟨hb10, hlen, hok⟩ := hc10.set _ hlt
  obtain ⟨y, hy⟩ : ∃ y, (C.sets (C.ix a))[j]? = some y := ⟨_, List.getElem?_eq_getElem (by omega)⟩
  have hy16 := hc10.ok16 hlt hy
  refine split_of (fun hx => ?_) (fun hx => ?_)
  · have hx := of_decide_eq_true hx
    obtain ⟨y2, hy2⟩ : ∃ y, (C.sets (C.ix a))[n]? = some y := ⟨_, List.getElem?_eq_getElem (by omega)⟩
    refine ⟨⟨by omega, by omega⟩, ?_⟩
    have c2 := hc10.way hlt hy2 2 (by omega)
    refine ⟨y2.used, by rw [show 0 + ((n : Nat) : Int).toNat * 19 + 2 = n * 19 + 2 by omega]; exact c2, ?_⟩
    show ∃ z3 : Int, w10.cell? ((⟨C.g (C.ix a), j * 19, none⟩ : Addr).add 2) = some (.int .i64 z3) ∧ _
    rw [add_none]
    refine ⟨y.used, hc10.way hlt hy 2 (by omega), ?_⟩
    rintro w11 m rfl
    refine split_of (fun _ => ?_) (fun _ => ?_)
    · refine ⟨⟨by omega, by omega⟩, ?_⟩
      rintro z4 rfl
      rw [w64 (by omega) (by omega)]
      exact ⟨⟨n + 1, n, by omega, by omega, by omega, by rw [show 0 + ((n : Nat) : Int).toNat * 19 = n * 19 by omega], hT10.drewN m⟩, by show C.N - ((n : Int) + 1).toNat < C.N - (n : Int).toNat; omega⟩
    · rintro z5 rfl
      rw [w64 (by omega) (by omega)]
      exact ⟨⟨n + 1, j, by omega, by omega, by omega, rfl, hT10.drewN m⟩, by show C.N - ((n : Int) + 1).toNat < C.N - (n : Int).toNat; omega⟩
  · have hB1' := hB1.keep hT10 (fun e => e)
    have hB2' := hB2.keep hT10 (fun e => e)
    have hs10 : W.heap.size + 2 ≤ w10.heap.size := by have := hB2'.lt; omega
    refine ⟨fun t w => t = (y.state != 0) ∧ CacheAt w b C ∧ Blk w W.heap.size (u8s bs).toArray 38 ∧ Blk w (W.heap.size + 1) (goneCells y).toArray 40 ∧ XTouch (C.own b) W w, ?_, ?_⟩
    · show ∃ z6 : Int, w10.cell? ((⟨C.g (C.ix a), j * 19, none⟩ : Addr).add 1) = some (.int .i64 z6) ∧ _
      rw [add_none]
      refine ⟨y.state, hc10.way hlt hy 1 (by omega), ?_⟩
      have hTW : XTouch (C.own b) W w10 := (hT3.trans hT10 (fun _ _ h => h)).mono (fun _ _ e => e.elim)
      refine split_of (fun q => ?_) (fun q => ?_)
      · refine (as_any hc10 hlt hy).mono ?_
        rintro e w12 ⟨rfl, hT12⟩
        have hgone : goneCells y = lineCells y := by unfold goneCells; rw [q]; rfl
        refine ⟨_, rfl, ?_⟩
        refine out_cell (lineCells y).toArray (hB2'.keep hT12 (fun e => e)) rfl (by simp [lineCells_len hy16, zero18]) (by simpa using lineCells_one y) ?_
        intro w13 hb13 hT13
        have hT13' : XTouch (fun k => k = W.heap.size + 1) w10 w13 := (hT12.mono (fun _ _ e => e.elim)).trans hT13 (fun _ _ h => h)
        refine ⟨rfl, hc10.keep hT13' (fun q hq e => by have := hown q hq; omega), hB1'.keep hT13' (by omega), by rw [hgone]; exact hb13, ?_⟩
        refine (XTouch.mono (S := fun k => k = W.heap.size + 1 ∨ False) ?_ ?_)
        · exact ((hT3.trans hT10 (fun _ _ h => h)).mono (fun _ _ e => e.elim)).trans hT13' (fun _ _ e => .inl e)
        · intro q hq e
          rcases e with e | e
          · omega
          · exact e.elim
      · have hgone : goneCells y = zero18 := by unfold goneCells; rw [q]; rfl
        exact ⟨rfl, hc10, hB1', by rw [hgone]; exact hB2', hTW⟩
    · rintro _ t w14 ⟨rfl, hc14, hb1, hb2, hT14⟩
      refine ⟨(u8s bs).toArray, by simp [u8s_len, hbs], cellsAt_self hb1, by simp [u8s_len, hbs], ?_⟩
      rintro vs11 rfl
      have ev : (Value.int IntKind.u32 (a : Int) :: Value.int IntKind.i64 st :: Value.int IntKind.i64 0 :: ((u8s bs).toArray.toList ++ [])) = (⟨(a : Int), st, 0, bs⟩ : Way).cells := by simp [Way.cells]
      rw [ev]
      have hcl : (⟨(a : Int), st, 0, bs⟩ : Way).cells.length = 19 := Way.cells_len hbs
      obtain ⟨hbg, hleng, hokg⟩ := hc14.set _ hlt
      show (_ = 19) ∧ _
      refine ⟨by simpa using hcl, ?_, ?_, ?_⟩
      · intro q hq
        refine ⟨?_, hbg.frozen _⟩
        rw [hc14.way hlt hy q hq]
        exact ⟨_, List.getElem?_eq_getElem (by rw [Way.cells_len hy16]; exact hq)⟩
      · intro v hv
        simp only [Way.cells, List.mem_cons] at hv
        rcases hv with rfl | rfl | rfl | hv
        · rfl
        · rfl
        · rfl
        · exact u8s_one _ v hv
      rintro w15 rfl
      have hfl := flatW_len hokg
      have hb15 := blk_setCells (⟨(a : Int), st, 0, bs⟩ : Way).cells w14 (flatW (C.sets (C.ix a))).toArray (j * 19) hbg (by rw [hcl]; simp [hfl]; omega)
      rw [flatW_set hokg j _ (by omega) hbs] at hb15
      have hT15 := touch_setCells (b := C.g (C.ix a)) (⟨(a : Int), st, 0, bs⟩ : Way).cells w14 (j * 19)
      have hc15 := hc14.setWay hlt (y := ⟨(a : Int), st, 0, bs⟩) hbs hb15 hT15
      have hj15 : ((C.setWay (C.ix a) j ⟨(a : Int), st, 0, bs⟩).sets (C.ix a))[j]? = some ⟨(a : Int), st, 0, bs⟩ := setWay_get (y := y) (by omega) _
      refine (touch_any hc15 (i := C.ix a) hlt hj15).mono ?_
      rintro e w16 ⟨rfl, u, hc16, hT16⟩
      refine ⟨rfl, ?_⟩
      have hgk : C.g (C.ix a) < W.heap.size := hown _ (.inr (.inr ⟨_, hlt, rfl⟩))
      have hb2' : Blk w16 (W.heap.size + 1) (goneCells y).toArray 40 := (hb2.keep hT15 (by omega)).keep hT16 (fun e => by
        have : W.heap.size + 1 < W.heap.size := hown _ e
        omega)
      have hgl : (goneCells y).toArray.size = 18 := by
        unfold goneCells
        split
        · simp [lineCells_len hy16]
        · rfl
      refine back_cell hb2' hgl (by
        intro v hv
        unfold goneCells at hv
        split at hv
        · exact lineCells_one y v (by simpa using hv)
        · exact zero18_one v (by simpa using hv)) ?_
      intro w17 hb17 hT17
      have hc17 := hc16.keep hT17 (fun q hq e => by
        have : q < W.heap.size := hown q hq
        omega)
      refine ⟨j, y, u, hy, rfl, ?_, ?_⟩
      · have e1 : ((C.setWay (C.ix a) j ⟨(a : Int), st, 0, bs⟩).tick u).setWay (C.ix a) j ⟨(a : Int), st, u, bs⟩ = (C.tick u).setWay (C.ix a) j ⟨(a : Int), st, u, bs⟩ := setWay_setWay (C.tick u) _ _ _ _
        rw [← e1]
        exact hc17
      · refine XTouch.mono (S := fun k => C.own b k ∨ k = W.heap.size + 1) ?_ ?_
        · exact ((((hT14.mono (fun _ _ e => .inl e)).trans hT15 (fun q _ e => .inl (.inr (.inr ⟨_, hlt, e⟩)))).trans hT16 (fun _ _ e => .inl e)).trans hT17 (fun _ _ e => .inr e))
        · intro q hq e
          rcases e with e | e
          · exact e
          · omega
end Go.Proofs.Ythjabcklmhaeoaa
