/- The queue, part H: Search, Loaded. No condition. -/
import Derived.Test.YtngfaiahlblkkaaDoorLsqG
namespace Go.Proofs.YtngfaiahlblkkaaDoor
open Go.RowKit Go.XHeap Go.Sx Go.Sep
set_option linter.unusedVariables false
set_option maxRecDepth 100000
variable {W w' : World} {b : Nat} {q v : PQ}

theorem load_some {s : Int} {es : Ens} {k : Nat} (h : loadP s es = some k) : ∃ x, es[k]? = some x ∧ x.2.store = false ∧ x.2.placed = true := by
  unfold loadP at h
  cases hp : posOf (findP s) es with
  | none => rw [hp] at h; cases h
  | some k2 =>
    rw [hp] at h
    obtain ⟨x, hx, -, -⟩ := pos_some hp
    have h : (match es[k2]? with | some x => if x.2.store || !x.2.placed then none else some k2 | none => none) = some k := h
    rw [hx] at h
    have h : (if x.2.store || !x.2.placed then none else some k2) = some k := h
    split at h
    · cases h
    · rename_i hn
      cases h
      refine ⟨x, hx, ?_, ?_⟩
      · cases hs : x.2.store <;> simp [hs] at hn ⊢
      · cases hs : x.2.placed <;> simp [hs] at hn ⊢
def unplaced (e : En) : Bool := e.store && !e.placed
theorem searchC_any {A : World} {x : Nat × En} (hb : Blk A x.1 x.2.cells 90) : Calls Tryd.prog 47 #[.pointer (some ⟨x.1, 0, none⟩)] A fun e w => e = .returned (.bool (unplaced x.2)) ∧ Hush A w :=
  vc47 x.1 0 ⟨x.2.store, hb.cell' rfl, split_of (fun q => ⟨x.2.placed, hb.cell' rfl, by unfold unplaced; rw [q]; rfl, XTouch.refl _ _⟩) (fun q => ⟨by unfold unplaced; rw [q]; rfl, XTouch.refl _ _⟩)⟩
/-- what Search tells of the load number k -/
def searchV (bold : Bool) (es : Ens) (k : Nat) (x : En) : Array Value :=
  if (!bold && (es.take k).any fun y => unplaced y.2) = true then waitV else if waitF (srcs ((es.map (·.2)).take k) x.addr x.size) = true then waitV else foundV x.addr (srcs ((es.map (·.2)).take k) x.addr x.size)
def SearchPost (s : Int) (bold : Bool) (es : Ens) (e : Ending) : Prop := match loadP s es with
  | none => e = .returned (.tuple #[.agg #[.bool false, .int .i64 0, .int .u32 0], errN 7])
  | some k => ∃ x, es[k]? = some x ∧ e = .returned (.tuple #[.agg (searchV bold es k x.2), .nilIface])
theorem zero_one : ∀ v ∈ (#[Value.bool false, .int .i64 0, .int .u32 0] : Array Value).toList, v.oneCell' = true := by
  intro v hv; simp at hv; rcases hv with rfl | rfl | rfl <;> rfl
theorem four_one (a b c d : Int) : ∀ v ∈ (#[Value.int .i64 a, .int .i64 b, .int .i64 c, .int .i64 d] : Array Value).toList, v.oneCell' = true := by
  intro v hv; simp at hv; rcases hv with rfl | rfl | rfl | rfl <;> rfl
/-- what gather gives, told -/
theorem gather_two {A : Nat} {F : Src} {e : Ending} (h : GatherR A F e) : ∃ v1 v2 : Array Value, e = .returned (.tuple #[.agg v1, .agg v2]) ∧ v1.size = 3 ∧ v2.size = 4 ∧ (∀ v ∈ v1.toList, v.oneCell' = true) ∧ (∀ v ∈ v2.toList, v.oneCell' = true) ∧ v1 = (if waitF F = true then waitV else foundV A F) ∧ v1[0]? = some (.bool (waitF F)) ∧ (waitF F = false → v2 = frV F) := by
  unfold GatherR at h
  split at h
  · rename_i hw
    obtain ⟨g0, g1, g2, g3, rfl⟩ := h
    exact ⟨_, _, rfl, rfl, rfl, wait_one, four_one _ _ _ _, (if_pos hw).symm, by rw [hw]; rfl, fun e => by rw [hw] at e; cases e⟩
  · rename_i hw
    subst h
    have hw : waitF F = false := Bool.eq_false_iff.2 hw
    exact ⟨_, _, rfl, rfl, rfl, found_one _ _, fr_one _, (if_neg (by rw [hw]; decide)).symm, by rw [hw]; rfl, fun _ => rfl⟩
theorem search_any (h : (qA b q).at_ W) (ho : AllOk q.es) (hn : q.es.length ≤ 32) (s : Int) (bold : Bool) : Calls Tryd.prog 22 #[.pointer (some ⟨b, 0, none⟩), .int .i64 s, .bool bold] W fun e w => SearchPost s bold q.es e ∧ Hush W w := by
  have keep : ∀ {A : World} {L : List Asn}, St W No A L → (qA b q).at_ A := fun H => (qA b q).keep h H.touch (fun _ _ e => e)
  refine vc22 b 0 s bold ((St.nil W).al fun k A H => ?_)
  have H : St W No A [blk k #[.bool false, .int .i64 0, .int .u32 0] 63] := H
  refine (load_any (keep H) hn s).mono ?_
  rintro e B ⟨rfl, hh⟩
  have H := H.quiet hh
  cases hp : loadP s q.es with
  | none =>
    refine ⟨-1, rfl, split_of (fun _ => ?_) (fun q => by simp at q)⟩
    rintro vs rfl
    refine H.sts0 0 rfl rfl rfl zero_one fun C H => ⟨_, rfl, H.cells 0 rfl, ?_, H.touch⟩
    unfold SearchPost; rw [hp]; rfl
  | some i =>
    obtain ⟨x, hx, hst, hpl⟩ := load_some hp
    have hil := (List.getElem?_eq_some_iff.1 hx).1
    refine ⟨((i : Nat) : Int), rfl, split_of (fun q => by have := of_decide_eq_true q; omega) (fun _ => ?_)⟩
    have give : ∀ {C : World} {vs2 : Array Value}, vs2 = searchV bold q.es i x.2 → Hush W C → SearchPost s bold q.es (.returned (.tuple #[.agg vs2, .nilIface])) ∧ Hush W C := fun e hh => ⟨by unfold SearchPost; rw [hp]; exact ⟨x, hx, by rw [e]⟩, hh⟩
    have gat : ∀ {C : World}, St W No C [blk k #[.bool false, .int .i64 0, .int .u32 0] 63] → (!bold && (q.es.take i).any fun y => unplaced y.2) = false → Calls Tryd.prog 48 #[.pointer (some ⟨b, 0, none⟩), .int .i64 (i : Nat)] C fun e3 W7 => ∃ vs5 vs6 : Array Value, e3 = .returned (.tuple #[.agg vs5, .agg vs6]) ∧
        ∀ (k6 : Nat) (W8 : World), k6 = W7.heap.size → W8 = W7.alloc (.cells #[.bool false, .int .i64 0, .int .u32 0] 63) → ∀ (k7 : Nat) (W9 : World), k7 = W8.heap.size → W9 = W8.alloc (.cells #[.int .i64 0, .int .i64 0, .int .i64 0, .int .i64 0] 88) →
          (vs5.size = 3 ∧ (∀ j : Nat, j < 3 → (∃ v, W9.cell? ⟨k6, 0 + j, none⟩ = some v) ∧ W9.frozen? ⟨k6, 0 + j, none⟩ = false) ∧ (∀ v : Value, v ∈ vs5.toList → v.oneCell' = true) ∧ ∀ W10 : World, W10 = W9.setCells k6 0 vs5.toList →
            (vs6.size = 4 ∧ (∀ j : Nat, j < 4 → (∃ v, W10.cell? ⟨k7, 0 + j, none⟩ = some v) ∧ W10.frozen? ⟨k7, 0 + j, none⟩ = false) ∧ (∀ v : Value, v ∈ vs6.toList → v.oneCell' = true) ∧ ∀ W11 : World, W11 = W10.setCells k7 0 vs6.toList →
              ∃ vs7 : Array Value, vs7.size = 3 ∧ cellsAt W11 ⟨k6, 0, none⟩ vs7 ∧ (vs7.size = 3 ∧ (∀ j : Nat, j < 3 → (∃ v, W11.cell? ⟨k, 0 + j, none⟩ = some v) ∧ W11.frozen? ⟨k, 0 + j, none⟩ = false) ∧ (∀ v : Value, v ∈ vs7.toList → v.oneCell' = true) ∧ ∀ W12 : World, W12 = W11.setCells k 0 vs7.toList →
                ∃ vs8 : Array Value, vs8.size = 3 ∧ cellsAt W12 ⟨k, 0, none⟩ vs8 ∧ (SearchPost s bold q.es (.returned (.tuple #[.agg vs8, .nilIface])) ∧ Hush W W12)))) := by
      intro C H hno
      refine (gather_any (keep H) ho hn i x hx).mono ?_
      rintro e3 D ⟨hg, hh⟩
      obtain ⟨v1, v2, rfl, s1, s2, o1, o2, e1, -, -⟩ := gather_two hg
      have H := H.quiet hh
      refine ⟨v1, v2, rfl, H.al fun k6 E H => H.al fun k7 F H => H.sts0 1 rfl s1 rfl o1 fun G H => H.sts0 2 rfl s2 rfl o2 fun I H => ⟨v1, s1, H.cells 1 rfl, H.sts0 0 rfl s1 rfl o1 fun J H => ⟨v1, s1, H.cells 0 rfl, give ?_ H.touch⟩⟩⟩
      rw [e1, show searchV bold q.es i x.2 = if waitF (srcs ((ens q).take i) x.2.addr x.2.size) = true then waitV else foundV x.2.addr (srcs ((ens q).take i) x.2.addr x.2.size) by unfold searchV; rw [if_neg (by rw [hno]; decide)]; rfl]
    refine split_of (fun q1 => ?_) (fun q1 => ?_)
    · have q1 : bold = false := by simpa using q1
      have R := q_open (keep H)
      refine ⟨_, _, _, R.ld 0 rfl rfl, ⟨by omega, by have := slr_le (R.nth 1 rfl : Sl _ _ _ _ _ _); omega⟩, ?_⟩
      rw [Int.toNat_natCast]
      have hpre := Sl.pre (R.nth 1 rfl : Sl _ _ _ _ _ _) (Nat.le_of_lt hil)
      rw [Nat.mul_one, show (ptrs q.es).take i = ptrs (q.es.take i) by unfold ptrs; rw [List.map_take]] at hpre
      refine vc46 _ _ _ ((idx_s hpre (by omega) unplaced fun j y C hy hh2 => ?_).mono ?_)
      · have hy2 : q.es[j]? = some y := by
          have hjl := (List.getElem?_eq_some_iff.1 hy).1
          rw [List.length_take] at hjl
          rw [List.getElem?_take_of_lt (by omega)] at hy
          exact hy
        exact searchC_any ((ent_blk (R.nth 2 rfl) hy2).keep hh2 (fun e => e))
      · rintro e C ⟨rfl, hh2⟩
        have H := H.quiet hh2
        have hany : decide (posI (posOf unplaced (q.es.take i)) ≥ 0) = (q.es.take i).any fun y => unplaced y.2 := by
          cases hq : posOf unplaced (q.es.take i) with
          | none =>
            unfold posOf at hq
            rw [List.findIdx?_eq_none_iff] at hq
            rw [show ((q.es.take i).any fun y => unplaced y.2) = false from Bool.eq_false_iff.2 fun h => by
              obtain ⟨y, hy, e⟩ := List.any_eq_true.1 h
              rw [hq y hy] at e; cases e]
            rfl
          | some j =>
            obtain ⟨y, hy, e, -⟩ := pos_some hq
            rw [show ((q.es.take i).any fun y => unplaced y.2) = true from List.any_eq_true.2 ⟨y, List.mem_of_getElem? hy, e⟩]
            exact decide_eq_true (by show (0 : Int) ≤ (j : Nat); omega)
        refine ⟨_, rfl, ?_⟩
        rw [hany]
        refine ⟨_, rfl, split_of (fun q2 => ?_) (fun q2 => gat H (by rw [q1, q2]; rfl))⟩
        rintro vs rfl
        refine H.sts0 0 rfl rfl rfl wait_one fun D H => ⟨waitV, rfl, H.cells 0 rfl, give ?_ H.touch⟩
        unfold searchV
        rw [if_pos (by rw [q1, q2]; rfl)]
    · have q1 : bold = true := by simpa using q1
      exact gat H (by rw [q1]; rfl)
/-! ### Loaded -/
def En.withFr (e : En) (F : Src) : En := { e with loaded := true, f0 := frI (F 0), f1 := frI (F 1), f2 := frI (F 2), f3 := frI (F 3) }
def loadedK (s : Int) (es : Ens) : Option Nat := match loadP s es with
  | none => none
  | some k => match es[k]? with
    | none => none
    | some x => if x.2.loaded = true ∨ waitF (srcs ((es.map (·.2)).take k) x.2.addr x.2.size) = true then none else some k
def LoadedPost (W : World) (b : Nat) (q : PQ) (s : Int) (e : Ending) (w : World) : Prop := match loadedK s q.es with
  | none => e = .returned (errN 7) ∧ Sep.Post (qA b q) W (qA b q) w
  | some k => e = .returned .nilIface ∧ ∃ x, q.es[k]? = some x ∧ Sep.Post (qA b q) W (qA b { q with es := q.es.set k (x.1, x.2.withFr (srcs ((ens q).take k) x.2.addr x.2.size)) }) w
theorem _root_.Go.Sep.St.ents {w0 w : World} {M : Nat → Prop} {L : List Asn} (H : St w0 M w L) (j : Nat) {es : Ens} (hj : L[j]? = some (entsA es)) {k : Nat} {x : Nat × En} (hk : es[k]? = some x) {o n : Nat} {vs : Array Value} (e' : En) (hv : vs.size = n) (hi : o + n ≤ 13) (h1 : ∀ v ∈ vs.toList, v.oneCell' = true) (he : e'.cells = splice x.2.cells o vs.toList) {φ : World → Prop}
    (hq : ∀ w', St w0 M w' (L.set j (entsA (es.set k (x.1, e')))) → φ w') : vs.size = n ∧ (∀ i : Nat, i < n → (∃ v, w.cell? ⟨x.1, o + i, none⟩ = some v) ∧ w.frozen? ⟨x.1, o + i, none⟩ = false) ∧ (∀ v : Value, v ∈ vs.toList → v.oneCell' = true) ∧ ∀ w' : World, w' = w.setCells x.1 o vs.toList → φ w' := by
  have hl : vs.toList.length = n := by rw [Array.length_toList]; exact hv
  obtain ⟨h2, h3⟩ := ent_sets (H.nth j hj) hk (o := o) (vs := vs.toList) (by rw [hl]; exact hi) he
  refine ⟨hv, fun i hi => h2 i (by rw [hl]; exact hi), h1, ?_⟩
  rintro w' rfl
  exact hq _ (H.upd j hj h3)
theorem loaded_any (h : (qA b q).at_ W) (ho : AllOk q.es) (hn : q.es.length ≤ 32) (s : Int) : Calls Tryd.prog 25 #[.pointer (some ⟨b, 0, none⟩), .int .i64 s] W (LoadedPost W b q s) := by
  refine vc25 b 0 s ((load_any h hn s).mono ?_)
  rintro e A ⟨rfl, hh⟩
  have H : St W (qA b q).own A (q.pieces b ++ []) := (q_open h).quiet hh
  cases hp : loadP s q.es with
  | none =>
    refine ⟨-1, rfl, split_of (fun _ => ?_) (fun q => by simp at q)⟩
    unfold LoadedPost
    rw [show loadedK s q.es = none by unfold loadedK; rw [hp]]
    exact ⟨rfl, q_same h hh⟩
  | some i =>
    obtain ⟨x, hx, hst, hpl⟩ := load_some hp
    have hil := (List.getElem?_eq_some_iff.1 hx).1
    have hr : loadedK s q.es = if x.2.loaded = true ∨ waitF (srcs ((q.es.map (·.2)).take i) x.2.addr x.2.size) = true then none else some i := by unfold loadedK; rw [hp]; show (match q.es[i]? with | none => none | some x => _) = _; rw [hx]
    have bad : (x.2.loaded = true ∨ waitF (srcs ((q.es.map (·.2)).take i) x.2.addr x.2.size) = true) → ∀ {B : World}, St W (qA b q).own B (q.pieces b ++ []) → LoadedPost W b q s (.returned (errN 7)) B := fun e B H => by
      unfold LoadedPost
      rw [hr, if_pos e]
      exact ⟨rfl, q_shut H⟩
    obtain ⟨g, o, hpp, hc⟩ := ptr_at (H.nth 1 rfl) hx
    have hB := ent_blk (H.nth 2 rfl) hx
    refine ⟨((i : Nat) : Int), rfl, split_of (fun q => by have := of_decide_eq_true q; omega) (fun _ => ?_)⟩
    refine ⟨_, _, _, H.ld 0 rfl rfl, ⟨by omega, by omega⟩, adr_eq hpp ⟨_, hc, ptr_some ⟨x.2.loaded, by rw [add_none]; exact hB.cell' rfl, split_of (fun q1 => bad (.inl q1) H) (fun q1 => ?_)⟩⟩⟩
    have hcur : (qA b q).at_ A := (here_append.1 H.here).1
    refine (gather_any hcur ho hn i x hx).mono ?_
    rintro e3 B ⟨hg, hh2⟩
    obtain ⟨v1, v2, rfl, s1, s2, o1, o2, -, e0, e2⟩ := gather_two hg
    have H := H.quiet hh2
    refine ⟨v1, v2, rfl, H.al fun k5 C H => H.al fun k6 D H => H.sts0 3 rfl s1 rfl o1 fun E H => H.sts0 4 rfl s2 rfl o2 fun F H => ⟨_, H.ld 3 rfl e0, split_of (fun q2 => bad (.inr q2) (H.take 3)) (fun q2 => ?_)⟩⟩
    have e2 := e2 q2
    subst e2
    have fin : ∀ {I : World} {L : List Asn}, St W (qA b q).own I ([blk b q.root 81, sl 87 1 (.slice q.p q.es.length q.cap) q.es.length (ptrs q.es), entsA (q.es.set i (x.1, x.2.withFr (srcs ((ens q).take i) x.2.addr x.2.size)))] ++ L) → LoadedPost W b q s (.returned .nilIface) I := fun {I} {L} H => by
      unfold LoadedPost
      rw [hr, if_neg (by rintro (e | e); rw [q1] at e; cases e; exact absurd (e.symm.trans q2) (by decide))]
      exact ⟨rfl, x, hx, q_turned hx H⟩
    refine H.dr fun G H => ?_
    obtain ⟨g, o, hpp, hc⟩ := ptr_at (H.nth 1 rfl) hx
    have hx2 : (q.es.set i (x.1, { x.2 with loaded := true }))[i]? = some (x.1, { x.2 with loaded := true }) := by rw [List.getElem?_set_self hil]
    refine ⟨_, _, _, H.ld 0 rfl rfl, ⟨by omega, by omega⟩, adr_eq hpp ⟨_, hc, _, _, _, H.ld 0 rfl rfl, ⟨by omega, by omega⟩, adr_eq hpp ⟨_, hc, ptr_some ⟨⟨_, s2, H.cells 4 rfl, Below.refl _ _, ?_⟩, ?_⟩⟩⟩⟩
    · rw [add_none]
      refine H.ent 2 rfl hx { x.2 with loaded := true } (by omega) rfl fun I H => ptr_some ?_
      exact H.ents (o := 8) 2 rfl hx2 (x.2.withFr (srcs ((ens q).take i) x.2.addr x.2.size)) s2 (by omega) o2 rfl fun J H => fin (L := [_, _]) (by
        rw [List.set_set, List.set_set] at H
        exact H)
    · rw [add_none]
      refine H.ent 2 rfl hx { x.2 with loaded := true } (by omega) rfl fun I H => ⟨_, s2, H.cells 4 rfl, ptr_some ?_⟩
      exact H.ents (o := 8) 2 rfl hx2 (x.2.withFr (srcs ((ens q).take i) x.2.addr x.2.size)) s2 (by omega) o2 rfl fun J H => fin (L := [_, _]) (by
        rw [List.set_set, List.set_set] at H
        exact H)
end Go.Proofs.YtngfaiahlblkkaaDoor
