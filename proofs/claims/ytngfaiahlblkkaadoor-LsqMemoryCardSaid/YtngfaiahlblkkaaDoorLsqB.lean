/- The queue, part B: Enter, Value, Retire, Squash, Oldest. No condition. -/
import Derived.Test.YtngfaiahlblkkaaDoorLsqA
namespace Go.Proofs.YtngfaiahlblkkaaDoor
open Go.RowKit Go.XHeap Go.Sx Go.Sep
set_option linter.unusedVariables false
set_option maxRecDepth 100000
variable {W w' : World} {b : Nat} {q v : PQ}

/-- a cell of an entry, as the code's conditions ask for it -/
theorem _root_.Go.Sep.St.ent {w0 w : World} {M : Nat → Prop} {L : List Asn} (H : St w0 M w L) (j : Nat) {es : Ens} (hj : L[j]? = some (entsA es)) {k : Nat} {x : Nat × En} (hk : es[k]? = some x) {i : Nat} {v : Value} (e' : En) (hi : i < 13) (he : e'.cells = x.2.cells.setIfInBounds i v) {φ : World → Prop}
    (hq : ∀ w', St w0 M w' (L.set j (entsA (es.set k (x.1, e')))) → φ w') : (∃ u, w.cell? ⟨x.1, i, none⟩ = some u) ∧ w.frozen? ⟨x.1, i, none⟩ = false ∧ ∀ w', w' = w.setCell ⟨x.1, i, none⟩ v → φ w' := by
  obtain ⟨h1, h2, h3⟩ := ent_set (H.nth j hj) hk (i := i) (v := v) (by show i < 13; exact hi) he
  refine ⟨h1, h2, ?_⟩
  rintro w' rfl
  exact hq _ (H.upd j hj h3)
theorem ptrs_set (es : Ens) {k : Nat} {x : Nat × En} (hk : es[k]? = some x) (e' : En) : ptrs (es.set k (x.1, e')) = ptrs es := by
  unfold ptrs
  rw [List.map_set]
  apply List.ext_getElem?
  intro i
  rw [List.getElem?_set]
  split
  · rename_i e
    subst e
    have hkl := (List.getElem?_eq_some_iff.1 hk).1
    rw [if_pos (by simpa using hkl)]
    simp [hk]
  · rfl
/-- after an entry has turned -/
theorem q_turned {w : World} {k : Nat} {x : Nat × En} {e' : En} {L : List Asn} (hk : q.es[k]? = some x)
    (H : St W (qA b q).own w ([blk b q.root 81, sl 87 1 (.slice q.p q.es.length q.cap) q.es.length (ptrs q.es), entsA (q.es.set k (x.1, e'))] ++ L)) : Sep.Post (qA b q) W (qA b { q with es := q.es.set k (x.1, e') }) w := by
  refine q_shut (v := { q with es := q.es.set k (x.1, e') }) (L := L) ?_
  unfold PQ.pieces PQ.root
  show St W (qA b q).own w ([blk b #[.int .i64 q.size, .slice q.p (q.es.set k (x.1, e')).length q.cap] 81, sl 87 1 (.slice q.p (q.es.set k (x.1, e')).length q.cap) (q.es.set k (x.1, e')).length (ptrs (q.es.set k (x.1, e'))), entsA (q.es.set k (x.1, e'))] ++ L)
  rw [ptrs_set _ hk, List.length_set]
  exact H
/-! ### Enter -/
def newEn (s : Int) (st : Bool) : En := ⟨s, st, false, false, 0, 0, 0, false, 0, 0, 0, 0, false⟩
def lateE (L : List En) (s : Int) : Bool := match L.getLast? with
  | some e => decide (s ≤ e.seq)
  | none => false
def enterE (S : Nat) (L : List En) (s : Int) : Option Int := if s < 0 ∨ lateE L s = true then some 5 else if L.length = S then some 4 else none
def ens (q : PQ) : List En := q.es.map (·.2)
def EnterPost (W : World) (b : Nat) (q : PQ) (s : Int) (st : Bool) (e : Ending) (w : World) : Prop := match enterE q.size (ens q) s with
  | some n => e = .returned (errN n) ∧ Sep.Post (qA b q) W (qA b q) w
  | none => e = .returned .nilIface ∧ ∃ (k : Nat) (p : Option Addr) (c : Nat), Sep.Post (qA b q) W (qA b { q with p := p, cap := c, es := q.es ++ [(k, newEn s st)] }) w
theorem enter_any (h : (qA b q).at_ W) (hn : q.es.length ≤ 32) (s : Int) (st : Bool) : Calls Tryd.prog 16 #[.pointer (some ⟨b, 0, none⟩), .int .i64 s, .bool st] W (EnterPost W b q s st) := by
  have H := q_open h
  have hlen : (ens q).length = q.es.length := by simp [ens]
  have bad : ∀ n, enterE q.size (ens q) s = some n → EnterPost W b q s st (.returned (errN n)) W := fun n e => by unfold EnterPost; rw [e]; exact ⟨rfl, q_same h (XTouch.refl _ _)⟩
  have fin : ¬ (s < 0 ∨ lateE (ens q) s = true) → ∃ z3 : Int, W.cell? ⟨b, 0, none⟩ = some (.int .i64 z3) ∧ Sx.split ((q.es.length : Int) == z3) (EnterPost W b q s st (.returned (errN 4)) W)
      (∃ p4 k7 k8, W.cell? ⟨b, 0 + 1, none⟩ = some (.slice p4 k7 k8) ∧ ∀ vs : Array Value, vs = #[.int .i64 s, .bool st, .bool false, .bool false, .int .u32 0, .int .i64 0, .int .u32 0, .bool false, .int .i64 0, .int .i64 0, .int .i64 0, .int .i64 0, .bool false] →
        ∀ (k9 : Nat) (W2 : World), k9 = W.heap.size → W2 = W.alloc (.cells (Value.agg vs).cells 90) → ∀ (k10 : Nat) (W3 : World), k10 = W2.heap.size → W3 = W2.alloc (.cells #[.pointer (some ⟨k9, 0, none⟩)] 87) →
          ∃ l l2, Sl W3 87 1 (.slice p4 k7 k8) k7 l ∧ ((1 = 0 ∧ (some ⟨k10, 0, none⟩ : Option Addr) = none) ∨ ∃ a : Addr, some ⟨k10, 0, none⟩ = some a ∧ ∀ (j : Nat) (u : Value), l2[j]? = some u → W3.cell? (a.add j) = some u) ∧ l2.length = 1 ∧ (∀ u ∈ l2, u.oneCell' = true) ∧ k7 + 1 ≤ maxLen ∧ (k7 + 1) * 8 ≤ 140737488355328 ∧
            ∀ (p5 : Option Addr) (k12 : Nat) (W4 : World), Sl W4 87 1 (.slice p5 (k7 + 1) k12) (k7 + 1) (l ++ l2) → XTouch (fun b => (Value.slice p4 k7 k8).ownBlock = some b) W3 W4 → (∀ b, (Value.slice p5 (k7 + 1) k12).ownBlock = some b → (Value.slice p4 k7 k8).ownBlock = some b ∨ W3.heap.size ≤ b) → Sl W4 87 1 (.slice p4 k7 k8) k7 l → ((p5 = p4 ∧ k12 = k8) ∨ ((NilP p4 ∨ k8 < k7 + 1) ∧ ∀ b, (Value.slice p5 (k7 + 1) k12).ownBlock = some b → W3.heap.size ≤ b)) →
              (∃ u, W4.cell? ⟨b, 0 + 1, none⟩ = some u) ∧ W4.frozen? ⟨b, 0 + 1, none⟩ = false ∧ ∀ W5 : World, W5 = W4.setCell ⟨b, 0 + 1, none⟩ (.slice p5 (k7 + 1) k12) → EnterPost W b q s st (.returned .nilIface) W5) := by
    intro hno
    refine ⟨_, H.ld 0 rfl rfl, split_of (fun q1 => ?_) (fun q1 => ?_)⟩
    · have q1 : q.es.length = q.size := by have : ((q.es.length : Nat) : Int) = (q.size : Nat) := by simpa using q1
                                           omega
      exact bad 4 (by unfold enterE; rw [if_neg hno, if_pos (by rw [hlen]; exact q1)])
    · have q1 : ¬ q.es.length = q.size := fun e => by rw [e] at q1; simp at q1
      refine ⟨_, _, _, H.ld 0 rfl rfl, ?_⟩
      rintro vs rfl
      refine H.al fun k9 A H => H.al fun k10 B H => H.app 1 rfl [.pointer (some ⟨k9, 0, none⟩)] (.inr ⟨_, rfl, fun j u hj => H.cells 4 rfl j u (by simpa using hj)⟩) rfl (by intro u hu; simp at hu; subst hu; rfl) (by have : maxLen = 2 ^ 63 - 1 := rfl; omega) (by omega) fun p2 c2 C H => ?_
      refine H.st 0 rfl (by show 1 < 2; omega) fun D H => ?_
      have H := H.pick [2, 3, 0, 1]
      have H : St W (qA b q).own D (all (q.es.map entA) :: entA (k9, newEn s st) :: [blk b #[.int .i64 q.size, .slice p2 (q.es.length + 1) c2] 81, sl 87 1 (.slice p2 (q.es.length + 1) c2) (q.es.length + 1) (ptrs q.es ++ [.pointer (some ⟨k9, 0, none⟩)])]) := H
      have H := (St.push H).pick [1, 2, 0]
      unfold EnterPost
      rw [show enterE q.size (ens q) s = none by unfold enterE; rw [if_neg hno, if_neg (by rw [hlen]; exact q1)]]
      refine ⟨rfl, k9, p2, c2, q_shut (L := []) ?_⟩
      unfold PQ.pieces PQ.root
      show St W (qA b q).own D ([blk b #[.int .i64 q.size, .slice p2 (q.es ++ [(k9, newEn s st)]).length c2] 81, sl 87 1 (.slice p2 (q.es ++ [(k9, newEn s st)]).length c2) (q.es ++ [(k9, newEn s st)]).length (ptrs (q.es ++ [(k9, newEn s st)])), all ((q.es ++ [(k9, newEn s st)]).map entA)] ++ [])
      rw [List.length_append, List.map_append, show ptrs (q.es ++ [(k9, newEn s st)]) = ptrs q.es ++ [.pointer (some ⟨k9, 0, none⟩)] by unfold ptrs; rw [List.map_append]; rfl]
      exact H
  refine vc16 b 0 s st ⟨_, _, _, H.ld 0 rfl rfl, split_of (fun q0 => bad 5 (by unfold enterE; rw [if_pos (.inl (of_decide_eq_true q0))])) (fun q0 => split_of (fun q1 => ?_) (fun q1 => ?_))⟩
  · have q0 := of_decide_eq_false q0
    have q1 := of_decide_eq_true q1
    have hpos : 0 < q.es.length := by omega
    refine ⟨_, _, _, H.ld 0 rfl rfl, ?_⟩
    rintro z rfl
    rw [w64 (by omega) (by omega), show ((q.es.length : Nat) : Int) - 1 = ((q.es.length - 1 : Nat) : Int) by omega]
    have hx := List.getElem?_eq_getElem (show q.es.length - 1 < q.es.length by omega)
    obtain ⟨g, o, hp, hc⟩ := ptr_at (H.nth 1 rfl) hx
    have hB := ent_blk (H.nth 2 rfl) hx
    have hlast : (ens q).getLast? = some (q.es[q.es.length - 1]).2 := by
      rw [List.getLast?_eq_getElem?, hlen]
      simp [ens, hx]
    refine ⟨⟨by omega, by omega⟩, adr_eq hp ⟨_, hc, ptr_some ⟨_, by rw [add_none]; exact hB.cell' rfl, split_of (fun q2 => ?_) (fun q2 => ?_)⟩⟩⟩
    · exact bad 5 (by unfold enterE; rw [if_pos (.inr (by unfold lateE; rw [hlast]; exact q2))])
    · have q2 := of_decide_eq_false q2
      exact fin (by unfold lateE; rw [hlast]; rintro (h | h); exact q0 h; exact q2 (of_decide_eq_true h))
  · have q0 := of_decide_eq_false q0
    have q1 := of_decide_eq_false q1
    have : ens q = [] := List.eq_nil_of_length_eq_zero (by rw [hlen]; omega)
    exact fin (by unfold lateE; rw [this]; rintro (h | h); exact q0 h; cases h)
/-! ### Value -/
def valueK (s : Int) (es : Ens) : Option Nat := match posOf (findP s) es with
  | some k => match es[k]? with
    | some x => if !x.2.store || x.2.valued then none else some k
    | none => none
  | none => none
def ValuePost (W : World) (b : Nat) (q : PQ) (s : Int) (d : Nat) (e : Ending) (w : World) : Prop := match valueK s q.es with
  | none => e = .returned (errN 7) ∧ Sep.Post (qA b q) W (qA b q) w
  | some k => e = .returned .nilIface ∧ ∃ x, q.es[k]? = some x ∧ Sep.Post (qA b q) W (qA b { q with es := q.es.set k (x.1, { x.2 with valued := true, data := d }) }) w
theorem value_any (h : (qA b q).at_ W) (hn : q.es.length ≤ 32) (s : Int) (d : Nat) : Calls Tryd.prog 20 #[.pointer (some ⟨b, 0, none⟩), .int .i64 s, .int .u32 d] W (ValuePost W b q s d) := by
  refine vc20 b 0 s d ((find_any h hn s).mono ?_)
  rintro e A ⟨rfl, hh⟩
  have bad : valueK s q.es = none → ValuePost W b q s d (.returned (errN 7)) A := fun e => by unfold ValuePost; rw [e]; exact ⟨rfl, q_same h hh⟩
  have H : St W (qA b q).own A (q.pieces b ++ []) := (q_open h).quiet hh
  cases hp : posOf (findP s) q.es with
  | none => exact ⟨-1, rfl, split_of (fun _ => bad (by unfold valueK; rw [hp])) (fun q => by simp at q)⟩
  | some k =>
    obtain ⟨x, hx, -, -⟩ := pos_some hp
    have hkl := (List.getElem?_eq_some_iff.1 hx).1
    obtain ⟨g, o, hpp, hc⟩ := ptr_at (H.nth 1 rfl) hx
    have hB := ent_blk (H.nth 2 rfl) hx
    have hl : valueK s q.es = if !x.2.store || x.2.valued then none else some k := by unfold valueK; rw [hp]; show (match q.es[k]? with | some x => _ | none => _) = _; rw [hx]
    refine ⟨((k : Nat) : Int), rfl, split_of (fun q => ?_) (fun _ => ?_)⟩
    · have := of_decide_eq_true q; omega
    refine ⟨_, _, _, H.ld 0 rfl rfl, ⟨by omega, by omega⟩, adr_eq hpp ⟨_, hc, ptr_some ⟨x.2.store, by rw [add_none]; exact hB.cell' rfl, split_of (fun q1 => bad (by rw [hl, q1]; rfl)) (fun q1 => ?_)⟩⟩⟩
    refine ⟨_, _, _, H.ld 0 rfl rfl, ⟨by omega, by omega⟩, adr_eq hpp ⟨_, hc, ptr_some ⟨x.2.valued, by rw [add_none]; exact hB.cell' rfl, split_of (fun q2 => bad (by rw [hl, q2, Bool.or_true]; rfl)) (fun q2 => ?_)⟩⟩⟩
    refine H.dr fun B H => ?_
    obtain ⟨g, o, hpp, hc⟩ := ptr_at (H.nth 1 rfl) hx
    refine ⟨_, _, _, H.ld 0 rfl rfl, ⟨by omega, by omega⟩, adr_eq hpp ⟨_, hc, _, _, _, H.ld 0 rfl rfl, ⟨by omega, by omega⟩, adr_eq hpp ⟨_, hc, ptr_some ?_⟩⟩⟩
    rw [add_none]
    refine H.ent 2 rfl hx { x.2 with valued := true } (by omega) rfl fun C H => ptr_some ?_
    rw [add_none]
    have hx2 : (q.es.set k (x.1, { x.2 with valued := true }))[k]? = some (x.1, { x.2 with valued := true }) := by rw [List.getElem?_set_self hkl]
    refine H.ent 2 rfl hx2 { x.2 with valued := true, data := d } (by omega) rfl fun D H => ?_
    unfold ValuePost
    rw [hl, q1, q2]
    refine ⟨rfl, x, hx, q_turned hx (L := []) ?_⟩
    rw [List.set_set, List.set_set] at H
    exact H
end Go.Proofs.YtngfaiahlblkkaaDoor
