/- The bus, part H: Data. No condition. -/
import Derived.Test.YthacioiefgabbaaGreatDoorBusBody
namespace Go.Proofs.YthacioiefgabbaaGreatDoor.cbus
open Go.RowKit Go.XHeap Go.Sx Go.Sep Go.RangeC Go.Shelf
attribute [local go_sem] Oper.semAt_some
set_option linter.unusedVariables false
set_option maxRecDepth 100000
variable {W w : World} {b m : Nat} {B : BP} {S S' : PB} {L : List Asn} {p : Option Addr} {c : Nat} {l : List Nat}
def No : Nat → Prop := fun _ => False
/-- what was said abides other blocks' turns -/
theorem St.rec_ {M T : Nat → Prop} {A B : World} {L : List Asn} (H : St W M A L) (ht : XTouch T A B) (hn : ∀ q, owns L q → ¬ T q) (hT : ∀ q, T q → W.heap.size ≤ q) : St W M B L :=
  ⟨H.touch.trans ht (fun q hq e => by have := hT q e; omega), fun q hq => (H.mine q hq), H.here.keep ht hn⟩
/-- memory with the first j modified lines of cache k -/
def PB.upto (S : PB) (k : Nat) : List Nat := (List.range k).foldl (fun l j => (S.C j).ways.foldl keepM l) S.mem
def PB.data (S : PB) : List Nat := S.upto S.Cs.length
def dataRoot (p : Option Addr) (n c : Nat) : Array Value := #[.slice none 0 0, .int .i64 0, .slice p n c, .map none, .int .i64 0, .int .i64 0, .int .i64 0]
theorem ways_ok {C : CS} {len m : Nat} (h : C.Good len m) : ∀ y ∈ C.ways, y.Ok ∧ LineOk len y.line ∧ y.state ≠ 0 := by
  intro y hy
  unfold CS.ways at hy
  rw [List.mem_filter, List.mem_flatten] at hy
  obtain ⟨⟨s, hs, hy⟩, hv⟩ := hy
  have hv : y.state ≠ 0 := by unfold Way.valid at hv; simpa using hv
  exact ⟨h.ok.way s hs y hy, h.line s hs y hy hv, hv⟩
theorem fold_len : ∀ {ys : List Way} {l : List Nat}, (∀ y ∈ ys, y.Ok ∧ LineOk l.length y.line ∧ y.state ≠ 0) → (ys.foldl keepM l).length = l.length
  | [], l, _ => rfl
  | y :: ys, l, h => by
    have h1 := h y (by simp)
    have e := keepM_len h1.1 (l := l) (fun _ => h1.2.1)
    show (ys.foldl keepM (keepM l y)).length = _
    rw [fold_len (fun z hz => by rw [e]; exact h z (by simp [hz])), e]
theorem upto_len (ho : S.Ok m) : ∀ k, k ≤ S.Cs.length → (S.upto k).length = S.len
  | 0, _ => rfl
  | k + 1, hk => by
    have ih := upto_len ho k (by omega)
    unfold PB.upto at ih ⊢
    rw [List.range_succ, List.foldl_append]
    show ((S.C k).ways.foldl keepM _).length = _
    rw [fold_len (fun y hy => by rw [ih]; exact ways_ok (ho.cs k (by omega)) y hy), ih]
theorem upto_succ (k : Nat) : S.upto (k + 1) = (S.C k).ways.foldl keepM (S.upto k) := by
  unfold PB.upto
  rw [List.range_succ, List.foldl_append]; rfl
theorem bytes_of (hm : (memA p c l).at_ W) : BytesAt W p l := by
  intro i x hx
  have hi := (List.getElem?_eq_some_iff.1 hx).1
  obtain ⟨-, hm2⟩ := mem_at hm
  obtain ⟨g, off, e, h4⟩ := hm2 (by omega)
  have := (h4 i hi).1
  rw [List.getD_eq_getElem?_getD, hx] at this
  exact ⟨g, off, e, World.block_lt_of_cell? _ _ this, this⟩
theorem memA_ptr (hm : (memA p c l).at_ W) : p = none ∨ ∃ g off, p = some ⟨g, off, none⟩ := by
  obtain ⟨ao, cap, hv, hl, h1, h2, h3, hc⟩ := Sl.open1 hm
  rcases hm.2 with ⟨h, -⟩ | ⟨g, off, cap, cur, h, -⟩
  · simp only [Value.slice.injEq] at h; exact .inl h.1
  · simp only [Value.slice.injEq] at h; exact .inr ⟨g, off, h.1⟩
def toExit : Ex → Exit
  | .normal => .normal
  | .exit i => .exit i
  | .ret => .ret
theorem round_post {W0 A : World} {I : Nat → World → Prop} {Ix : Code → World → Prop} {k n : Nat} {c : Code} {a a0 : Act} : ∀ (e : Exit) (a' : Act) (w : World), Sx.Post n c (fun e _ w => roundEnd W0 I Ix k A (toExit e) a0 w) a e a' w → roundEnd W0 I Ix k A e a' w
  | .normal, _, _, h => by obtain ⟨⟨F, -, h⟩, -⟩ := h; exact h
  | .exit _, _, _, h => by obtain ⟨⟨F, -, h⟩, -⟩ := h; exact h
  | .ret, _, _, h => by obtain ⟨⟨F, -, h⟩, -⟩ := h; exact h
  | .goto _, _, _, h => h.elim
  | .panic _, _, _, h => h.elim
  | .outgrown, _, _, h => h.elim
/-! ### marks of ranges that have ended -/
def mark (D : Nat) : Asn := ⟨fun k => k = D, fun w => w.heap[D]? = some (.deferred (some [])), fun h ht hn => (ht.block _ (Array.getElem?_eq_some_iff.1 h).1 (hn _ rfl)).trans h, fun h k e => by subst e; exact (Array.getElem?_eq_some_iff.1 h).1⟩
def dM (D : Nat) : Deferred := { target := .collected D, args := #[] }
def natOf : Value → Nat
  | .int _ x => x.toNat
  | _ => 0
theorem marks_here {w : World} : ∀ {Ds : List Nat}, Sep.here (Ds.map mark) w → (∀ D ∈ Ds, w.heap[D]? = some (.deferred (some []))) ∧ Ds.Nodup
  | [], _ => ⟨fun D h => (List.not_mem_nil h).elim, List.nodup_nil⟩
  | D :: Ds, h => by
    obtain ⟨h1, h2, h3⟩ := h
    obtain ⟨i1, i2⟩ := marks_here h3
    refine ⟨fun E hE => ?_, List.nodup_cons.2 ⟨fun hD => ?_, i2⟩⟩
    · rcases List.mem_cons.1 hE with rfl | hE
      · exact h1
      · exact i1 E hE
    · exact h2 D rfl (owns_iff.2 ⟨_, _, (List.getElem?_of_mem (List.mem_map_of_mem (f := mark) hD)).choose_spec, rfl⟩)
theorem leaves_marks {F : Fence} {n : Nat} {P : Program} {fn : Func} {tmps : Array Value} {R : Ending → World → Prop} : ∀ (E : List Nat) (A : World), (∀ D ∈ E, A.heap[D]? = some (.deferred (some []))) → E.Nodup →
    (∀ A', XTouch (fun q => q ∈ E) A A' → LeavesIn F n P fn tmps R [] .returning A') → LeavesInM F n P fn tmps R (E.map dM) .returning A
  | [], A, _, _, h => h A (XTouch.refl _ _)
  | D :: E, A, h1, h2, h => by
    have hD := h1 D (by simp)
    have hne : ∀ D' ∈ E, D' ≠ D := fun D' hD' e => (List.nodup_cons.1 h2).1 (e ▸ hD')
    have ht : XTouch (fun q => q = D) A (A.putObj D (.deferred none)) := touch_putObj A D _
    refine ⟨by simp, .inl ⟨D, _, rfl, run_takeDeferred hD, leaves_marks E _ (fun D' hD' => ?_) (List.nodup_cons.1 h2).2 fun A' hA' => ?_⟩⟩
    · rw [World.putObj_heap_other (hne D' hD')]
      exact h1 D' (by simp [hD'])
    · exact h A' ((ht.mono fun q _ e => by rw [e]; simp).trans hA' fun q _ e => by simp [e])
theorem marks_own {q : Nat} : ∀ {Ds : List Nat}, (all (Ds.map mark)).own q ↔ q ∈ Ds
  | [] => ⟨fun h => h.elim, fun h => (List.not_mem_nil h).elim⟩
  | D :: Ds => by
    have ih := marks_own (q := q) (Ds := Ds)
    rw [List.mem_cons]
    exact ⟨fun h => h.imp id ih.1, fun h => h.imp id ih.2⟩
theorem memA_own {p : Option Addr} {c c' : Nat} {l l' : List Nat} {q : Nat} : (memA p c l).own q ↔ (memA p c' l').own q := by
  cases p <;> exact Iff.rfl
theorem bstate_at (hA : (busA b B S).at_ W) {k gk : Nat} (hgk : B.gs.getD k 0 = gk) (hk : k < S.Cs.length) (hB : B.gs.length = S.Cs.length) : (cacheA gk (S.C k)).at_ W := by
  have := bstate_of hA hB hk
  rw [hgk] at this
  exact this
theorem lines_any (W : World) (c : Nat) : Calls Tryz.prog 81 #[.pointer (some ⟨c, 0, none⟩)] W fun e w => e = .returned (.func (.func 126) #[] #[.pointer (some ⟨W.heap.size, 0, none⟩)]) ∧ w = W.alloc (.cells #[.pointer (some ⟨c, 0, none⟩)] 133) := by
  refine vc81 c 0 ?_
  rintro k w2 rfl rfl
  exact ⟨rfl, rfl⟩
set_option maxHeartbeats 4000000 in
theorem data_any (hA : (busA b B S).at_ W) (ho : S.Ok m) (hB : B.gs.length = S.Cs.length) :
    Calls Tryz.prog 53 #[.pointer (some ⟨b, 0, none⟩)] W fun e w => ∃ z : Option Addr × Nat, e = .returned (.slice z.1 S.len z.2) ∧ Sep.Post emp W (memA z.1 z.2 S.data) w := by
  have H0 := bus_open hA
  have hmem := H0.nth 4 rfl
  have c2 : W.cell? ⟨b, 2, none⟩ = some (.slice B.dp S.len B.dc) := H0.ld 0 rfl rfl
  have hcl := clone_any (W := W) (c := B.dc) (bytes_of hmem) (memA_ptr hmem) (by exact ho.len)
  refine (callsIn_wide (n := 3)).1 ?_
  refine callsIn_of_wp_marks Tryz.func53 rfl trivial ?_ rfl
  simp only [Tryz.ntmps53, List.size_toArray, List.length_cons, List.length_nil, Nat.reduceAdd, Nat.reduceSub, Array.replicate_succ, Array.replicate_zero, List.push_toArray, List.append_toArray, List.nil_append, List.cons_append]
  have keep : ∀ {A : World} {L : List Asn}, St W No A L → (busA b B S).at_ A := fun H => (busA b B S).keep hA H.touch (fun _ _ e => e)
  have start : ∀ {w2 : World} {z : Option Addr × Nat}, Sep.Post emp W (memA z.1 z.2 S.mem) w2 → St W No ((w2.alloc (.cells (dataRoot z.1 S.mem.length z.2) 132)).alloc (.cells #[.pointer (some ⟨w2.heap.size, 0, none⟩)] 77)) [memA z.1 z.2 S.mem, blk w2.heap.size (dataRoot z.1 S.mem.length z.2) 132, blk (w2.heap.size + 1) #[.pointer (some ⟨w2.heap.size, 0, none⟩)] 77] := by
    intro w2 z hz
    have H := ((St.nil W).add hz).alloc (dataRoot z.1 S.mem.length z.2) 132
    have H := H.alloc #[.pointer (some ⟨w2.heap.size, 0, none⟩)] 77
    rw [World.size_alloc] at H
    exact H
  have start2 : ∀ {w2 : World} {z : Option Addr × Nat}, Sep.Post emp W (memA z.1 z.2 S.mem) w2 → ((w2.alloc (.cells (dataRoot z.1 S.mem.length z.2) 132)).alloc (.cells #[.pointer (some ⟨w2.heap.size, 0, none⟩)] 77)).cell? ⟨b, 0, none⟩ = some (.slice B.p S.Cs.length B.c) :=
    fun hz => (bus_open (keep (start hz))).ld 0 (i := 0) rfl rfl
  unfold dataRoot at start start2
  gi_wp2_with (refine ⟨trivial, ?_⟩; gi_at_call 41; refine (callsIn_wide.2 hcl).mono ?_; rintro e w2 ⟨z, rfl, hz⟩; have H := start hz; have c0 := start2 hz)
  obtain ⟨W0, hW0⟩ : ∃ W0, (w2.alloc (.cells #[.slice none 0 0, .int .i64 0, .slice z.1 S.mem.length z.2, .map none, .int .i64 0, .int .i64 0, .int .i64 0] 132)).alloc (.cells #[.pointer (some ⟨w2.heap.size, 0, none⟩)] 77) = W0 := ⟨_, rfl⟩
  rw [hW0] at H c0 ⊢
  clear hW0 start start2
  generalize hkd : w2.heap.size = kd at *
  generalize hkp : kd + 1 = kp at *
  have hn := ho.n
  obtain ⟨g, off, hp, -⟩ := ptr_cell (H0.nth 1 rfl) hB (k := 0) (by omega)
  rw [hp] at c0 ⊢
  have H : St W No W0 [memA z.1 z.2 (S.upto 0), blk kd #[.slice none 0 0, .int .i64 0, .slice z.1 S.mem.length z.2, .map none, .int .i64 0, .int .i64 0, .int .i64 0] 132, blk kp #[.pointer (some ⟨kd, 0, none⟩)] 77, all (([] : List Nat).map mark)] := H.add (A := all []) ⟨trivial, XTouch.refl _ _, fun q e => e.elim⟩
  refine wpIn_loop (fun a wr => ∃ (k : Nat) (Ds : List Nat) (v5 v20 v21 v22 v23 v24 v29 : Value), a = { tmps := #[.pointer (some ⟨b, 0, none⟩), undef, .slice none 0 0, .pointer (some ⟨kp, 0, none⟩), undef, v5, undef, .pointer (some ⟨b, 0, none⟩), .pointer (some ⟨b, 0, none⟩), .pointer (some ⟨b, 2, none⟩), .slice B.dp S.len B.dc, .slice z.1 S.mem.length z.2, .agg #[.slice none 0 0, .int .i64 0, .slice z.1 S.mem.length z.2, .map none, .int .i64 0, .int .i64 0, .int .i64 0], .pointer (some ⟨kd, 0, none⟩), .pointer (some ⟨b, 0, none⟩), .pointer (some ⟨b, 0, none⟩), .pointer (some ⟨b, 0, none⟩), .slice (some ⟨g, off, none⟩) S.Cs.length B.c, .int .i64 S.Cs.length, .int .i64 k, v20, v21, v22, v23, v24, undef, undef, undef, undef, v29, undef, undef, undef, undef], defers := Ds.reverse.map dM } ∧ k ≤ S.Cs.length ∧
      St W No wr [memA z.1 z.2 (S.upto k), blk kd #[.slice none 0 0, .int .i64 0, .slice z.1 S.mem.length z.2, .map none, .int .i64 0, .int .i64 0, .int .i64 0] 132, blk kp #[.pointer (some ⟨kd, 0, none⟩)] 77, all (Ds.map mark)])
    (fun a _ => S.Cs.length - natOf (a.tmps.getD 19 undef)) ⟨0, [], undef, undef, undef, undef, undef, undef, undef, rfl, Nat.zero_le _, H⟩ ?_
  clear H
  rintro a wr ⟨k, Ds, v5, v20, v21, v22, v23, v24, v29, rfl, hk, H⟩
  by_cases hlt : k < S.Cs.length
  · have hd : decide ((k : Int) < (S.Cs.length : Int)) = true := decide_eq_true (by omega)
    obtain ⟨g', off', hp', hcell⟩ := ptr_cell ((bus_open (keep H)).nth 1 rfl) hB hlt
    rw [hp] at hp'
    cases hp'
    obtain ⟨gk, hgk⟩ : ∃ gk, B.gs.getD k 0 = gk := ⟨_, rfl⟩
    rw [hgk] at hcell
    gi_wp2_with (refine ⟨trivial, ?_⟩; gi_at_call 81; refine (callsIn_wide.2 (lines_any _ _)).mono ?_; rintro e w2 ⟨rfl, rfl⟩)
    obtain ⟨w3, hw3⟩ : ∃ w3, wr.alloc (.cells #[.pointer (some ⟨gk, 0, none⟩)] 133) = w3 := ⟨_, rfl⟩
    have H1 := H.alloc #[.pointer (some ⟨gk, 0, none⟩)] 133
    rw [hw3] at H1 ⊢
    have hg := ho.cs k hlt
    have hlen := upto_len ho k (by omega)
    have hown : ∀ {j : Nat} {q : Nat}, owns [memA z.1 z.2 (((S.C k).ways.take j).foldl keepM (S.upto k)), blk kd #[.slice none 0 0, .int .i64 0, .slice z.1 S.mem.length z.2, .map none, .int .i64 0, .int .i64 0, .int .i64 0] 132, blk kp #[.pointer (some ⟨kd, 0, none⟩)] 77, all (Ds.map mark), blk wr.heap.size #[.pointer (some ⟨gk, 0, none⟩)] 133] q → q < w3.heap.size := by
      intro j q hq
      refine H1.here.lt q ?_
      rcases hq with e | e
      · exact .inl (memA_own.1 e)
      · exact .inr e
    refine range_m (n := 3) (N := (S.C k).ways.length) (enc := (S.C k).encLine) (Inv := linesInv wr.heap.size gk (S.C k)) rfl (enters_of Tryz.func126 (by kernel_rfl) rfl) (lines_gives hg.ok 3 wr.heap.size gk)
      (fun j A => St W No A [memA z.1 z.2 (((S.C k).ways.take j).foldl keepM (S.upto k)), blk kd #[.slice none 0 0, .int .i64 0, .slice z.1 S.mem.length z.2, .map none, .int .i64 0, .int .i64 0, .int .i64 0] 132, blk kp #[.pointer (some ⟨kd, 0, none⟩)] 77, all (Ds.map mark), blk wr.heap.size #[.pointer (some ⟨gk, 0, none⟩)] 133]) (fun _ _ => False)
      (fun j a A => ∃ kl : Nat, w3.heap.size + 2 ≤ kl ∧ a.tmps.size = 34 ∧ a.defers = [] ∧ a.tmps.getD 3 undef = .pointer (some ⟨kp, 0, none⟩) ∧ a.tmps.getD 6 undef = .pointer (some ⟨kl, 0, none⟩) ∧ St W No A [memA z.1 z.2 (((S.C k).ways.take j).foldl keepM (S.upto k)), blk kd #[.slice none 0 0, .int .i64 0, .slice z.1 S.mem.length z.2, .map none, .int .i64 0, .int .i64 0, .int .i64 0] 132, blk kp #[.pointer (some ⟨kd, 0, none⟩)] 77, all (Ds.map mark), blk wr.heap.size #[.pointer (some ⟨gk, 0, none⟩)] 133, blk kl ((S.C k).ways.getD j zeroWay).lineC.toArray 248])
      (fun j A B' hi ht => St.rec_ hi ht (fun q hq hr => by have := hown hq; rcases hr with hr | hr <;> omega) (fun q hr => by have := H1.size; rcases hr with hr | hr <;> omega)) (fun c A B' h _ => h) ?asg
      (fun j A hi => ⟨hi.nth 4 rfl, bstate_at (keep hi) hgk hlt hB⟩) (by exact H1) ?assign ?body ?done (fun c A h _ => h.elim)
    case asg =>
      rintro j a A B' ⟨kl, hkl, h1, h2, h3, h4, hi⟩ ht
      refine ⟨kl, hkl, h1, h2, h3, h4, St.rec_ hi ht (fun q hq hr => ?_) (fun q hr => by have := H1.size; rcases hr with hr | hr <;> omega)⟩
      rcases owns_append.1 (show owns ([memA z.1 z.2 (((S.C k).ways.take j).foldl keepM (S.upto k)), blk kd #[.slice none 0 0, .int .i64 0, .slice z.1 S.mem.length z.2, .map none, .int .i64 0, .int .i64 0, .int .i64 0] 132, blk kp #[.pointer (some ⟨kd, 0, none⟩)] 77, all (Ds.map mark), blk wr.heap.size #[.pointer (some ⟨gk, 0, none⟩)] 133] ++ [blk kl ((S.C k).ways.getD j zeroWay).lineC.toArray 248]) q from hq) with hq | hq
      · have := hown hq; rcases hr with hr | hr <;> omega
      · rcases hq with hq | hq
        · have hq : q = kl := hq
          rcases hr with hr | hr <;> omega
        · exact hq
    case assign =>
      intro l j A K hj hi hsz hK
      have hHl := hi.alloc zeroLine.toArray 248
      have hyo := ways_ok hg ((S.C k).ways.getD j zeroWay) (by rw [List.getD_eq_getElem?_getD, List.getElem?_eq_getElem hj]; exact List.getElem_mem hj)
      have henc : (S.C k).encLine j = .agg ((S.C k).ways.getD j zeroWay).lineC.toArray := rfl
      rw [henc]
      generalize (S.C k).ways.getD j zeroWay = y at *
      have h18 : y.lineC.toArray.size = 18 := by simpa using line_len hyo.1
      have hst : (storeCells ⟨A.heap.size, 0, none⟩ y.lineC).run Tryz.prog (A.alloc (.cells zeroLine.toArray 248)) = .ok () ((A.alloc (.cells zeroLine.toArray 248)).setCells A.heap.size 0 y.lineC) := by
        have hq18 : ∀ j, j < y.lineC.length → j < 18 := fun j hj => by
          have : y.lineC.length = 18 := by simpa using h18
          omega
        have := run_storeCells_cells (P := Tryz.prog) A.heap.size 0 y.lineC 0 (A.alloc (.cells zeroLine.toArray 248)) (fun j hj => by
          rw [show 0 + 0 + j = j by omega, (hHl.blk 5 rfl).cell' (i := j) (Array.getElem?_eq_getElem (by show j < 18; exact hq18 j hj))]
          rfl) (fun j hj => (hHl.blk 5 rfl).frozen _) (line_one _ _ _)
        simpa using this
      have hz : zeroLine.toArray = #[.int .u32 0, .int .i64 0, .int .u8 0, .int .u8 0, .int .u8 0, .int .u8 0, .int .u8 0, .int .u8 0, .int .u8 0, .int .u8 0, .int .u8 0, .int .u8 0, .int .u8 0, .int .u8 0, .int .u8 0, .int .u8 0, .int .u8 0, .int .u8 0] := rfl
      rw [hz] at hst hHl
      gi_wp2
      have hsz18 : 0 + y.lineC.length ≤ (zeroLine.toArray).size := by
        have : y.lineC.length = 18 := by simpa using h18
        show 0 + y.lineC.length ≤ 18
        omega
      have h7 := hHl.wrs 5 rfl 0 y.lineC hsz18
      rw [splice_all _ _ (by
        have : y.lineC.length = 18 := by simpa using h18
        exact this)] at h7
      have ht : XTouch (fun q => q = A.heap.size) A ((A.alloc (.cells zeroLine.toArray 248)).setCells A.heap.size 0 y.lineC) := ((XTouch.refl (fun q => q = A.heap.size) A).alloc _).trans (touch_setCells _ _ _) (fun q _ e => e)
      refine hK _ _ ⟨A.heap.size, by omega, rfl, rfl, rfl, rfl, h7⟩ (fun q hq => ht.block q (by rcases hq with hq | hq <;> omega) (fun e => by rcases hq with hq | hq <;> omega)) ht.size
    case body =>
      rintro l j a A hj ⟨kl, hkl, h1, h2, h3, h4, hi⟩ hsz
      refine wpIn_mono (vcB53 (W := A) (Q := fun e B' => roundEnd w3 (fun j A => St W No A [memA z.1 z.2 (((S.C k).ways.take j).foldl keepM (S.upto k)), blk kd #[.slice none 0 0, .int .i64 0, .slice z.1 S.mem.length z.2, .map none, .int .i64 0, .int .i64 0, .int .i64 0] 132, blk kp #[.pointer (some ⟨kd, 0, none⟩)] 77, all (Ds.map mark), blk wr.heap.size #[.pointer (some ⟨gk, 0, none⟩)] 133]) (fun _ _ => False) j A (toExit e) a B') kp 0 kl 0 (fun J => ?_) h1 h2 h3 h4) round_post
      have hy := ways_ok hg ((S.C k).ways.getD j zeroWay) (by rw [List.getD_eq_getElem?_getD, List.getElem?_eq_getElem hj]; exact List.getElem_mem hj)
      have h18 : ((S.C k).ways.getD j zeroWay).lineC.toArray.size = 18 := by simpa using line_len hy.1
      refine ⟨_, hi.ld 2 rfl rfl, _, h18, hi.cells 5 rfl, ?_⟩
      have hfl : (((S.C k).ways.take j).foldl keepM (S.upto k)).length = S.mem.length := by
        rw [fold_len (fun y hy => by rw [hlen]; exact ways_ok hg y (List.mem_of_mem_take hy))]
        exact hlen
      have hnb : ¬ (memA z.1 z.2 (((S.C k).ways.take j).foldl keepM (S.upto k))).own kd := Sep.St.disj hi.here 1 0 (by decide) rfl rfl kd rfl
      refine (keep_any (l := ((S.C k).ways.take j).foldl keepM (S.upto k)) (hi.blk 1 rfl) (by rw [hfl]; rfl) (hi.nth 0 rfl) hnb (by rw [hfl]; exact ho.len) hy.1 (fun _ => by rw [hfl]; exact hy.2.1)).mono ?_
      rintro e A2 ⟨rfl, hpost⟩
      refine ⟨rfl, ?_, ?_⟩
      · intro q hq
        refine hpost.2.1.block q (by rcases hq with hq | hq <;> omega) (fun e => ?_)
        have := hown (j := j) (q := q) (.inl e)
        rcases hq with hq | hq <;> omega
      · have H5 := hi.upd 0 rfl hpost
        have e : keepM (((S.C k).ways.take j).foldl keepM (S.upto k)) ((S.C k).ways.getD j zeroWay) = ((S.C k).ways.take (j + 1)).foldl keepM (S.upto k) := by
          rw [List.take_add_one, List.foldl_append, List.getD_eq_getElem?_getD, List.getElem?_eq_getElem hj]
          rfl
        rw [e] at H5
        exact H5.take 5
    case done =>
      intro A hi hD
      have hw1 : IntKind.wrap .i64 ((k : Int) + 1) = ((k + 1 : Nat) : Int) := by rw [w64 (by omega) (by omega)]; omega
      rw [List.take_length, ← upto_succ] at hi
      have hlow : ∀ q, owns [memA z.1 z.2 (S.upto (k + 1)), blk kd #[.slice none 0 0, .int .i64 0, .slice z.1 S.mem.length z.2, .map none, .int .i64 0, .int .i64 0, .int .i64 0] 132, blk kp #[.pointer (some ⟨kd, 0, none⟩)] 77, all (Ds.map mark), blk wr.heap.size #[.pointer (some ⟨gk, 0, none⟩)] 133] q → q < w3.heap.size := fun q hq => hown (j := 0) (by
        rcases hq with e | e
        · exact .inl (memA_own.1 e)
        · exact .inr e)
      have hadd : St W No A ([memA z.1 z.2 (S.upto (k + 1)), blk kd #[.slice none 0 0, .int .i64 0, .slice z.1 S.mem.length z.2, .map none, .int .i64 0, .int .i64 0, .int .i64 0] 132, blk kp #[.pointer (some ⟨kd, 0, none⟩)] 77, all (Ds.map mark), blk wr.heap.size #[.pointer (some ⟨gk, 0, none⟩)] 133] ++ [mark w3.heap.size]) := by
        refine ⟨hi.touch, fun q hq => ?_, here_append.2 ⟨hi.here, ⟨hD, fun _ _ e => e, trivial⟩, fun q hq hq2 => ?_⟩⟩
        · rcases owns_append.1 hq with e | e
          · exact hi.mine q e
          · rcases e with e | e
            · have e : q = w3.heap.size := e
              have := H1.size
              exact .inr (by omega)
            · exact e.elim
        · have := hlow q hq
          rcases hq2 with e | e
          · have e : q = w3.heap.size := e
            omega
          · exact e
      have hfin : St W No A [memA z.1 z.2 (S.upto (k + 1)), blk kd #[.slice none 0 0, .int .i64 0, .slice z.1 S.mem.length z.2, .map none, .int .i64 0, .int .i64 0, .int .i64 0] 132, blk kp #[.pointer (some ⟨kd, 0, none⟩)] 77, all ((Ds ++ [w3.heap.size]).map mark)] := by
        have h6 := (hadd.pick [3, 5, 0, 1, 2]).push
        rw [List.map_append]
        exact h6.pick [1, 2, 3, 0]
      have hds : (⟨.collected w3.heap.size, #[]⟩ : Deferred) :: (List.map dM Ds).reverse = (Ds ++ [w3.heap.size]).reverse.map dM := by
        simp [dM]
      gi_wp2
      all_goals exact ⟨⟨k + 1, Ds ++ [w3.heap.size], _, _, _, _, _, _, _, by rw [← hds]; rfl, by omega, hfin⟩, by show S.Cs.length - ((k : Int) + 1).toNat < S.Cs.length - (k : Int).toNat; omega⟩
  · have hd : decide ((k : Int) < (S.Cs.length : Int)) = false := decide_eq_false (by omega)
    obtain rfl : k = S.Cs.length := by omega
    have cp := H.ld 2 (i := 0) rfl rfl
    have cd := H.ld 1 (i := 2) rfl rfl
    gi_wp2
    obtain ⟨m1, m2⟩ := marks_here (show Sep.here (Ds.map mark) wr from H.nth 3 rfl)
    show LeavesInM _ _ _ _ _ _ (Ds.map dM).reverse .returning wr
    rw [← List.map_reverse]
    refine leaves_marks Ds.reverse wr (fun D hD => m1 D (List.mem_reverse.1 hD)) ((List.reverse_perm Ds).nodup_iff.2 m2) fun A' hA' => ?_
    have H2 : St W No A' [memA z.1 z.2 (S.upto S.Cs.length)] := by
      have H1 := H.pick [0, 3]
      have H3 : St W No wr [memA z.1 z.2 (S.upto S.Cs.length), all (Ds.map mark)] := H1
      refine St.rec_ (St.take H3 1) hA' (fun q hq hr => ?_) (fun q hr => ?_)
      · have := Sep.St.disj H3.here 0 1 (by decide) rfl rfl q (by rcases hq with hq | hq; exact hq; exact hq.elim)
        exact this (marks_own.2 (List.mem_reverse.1 hr))
      · rcases H3.mine q (.inr (.inl (marks_own.2 (List.mem_reverse.1 hr)))) with e | e
        · exact e.elim
        · exact e
    have hlen := upto_len ho S.Cs.length (Nat.le_refl _)
    refine ⟨.slice z.1 S.len z.2, ?_, z, rfl, ?_⟩
    · simp [results, Tryz.f53, go_sem, PB.len]
    · exact H2.new 0 rfl
end Go.Proofs.YthacioiefgabbaaGreatDoor.cbus
