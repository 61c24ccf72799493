/- The program's queue and the document's do the same, step by step. Condition: the handle of the type 'error', where it is named. -/
import Derived.Test.YtngfaiahlblkkaaDoorLsqW
import Derived.Test.YtngfaiahlblkkaaDoorTold
import Derived.Test.YtngfaiahlblkkaaDoorSEq
namespace Go.Proofs.YtngfaiahlblkkaaDoor
open Go.RowKit Go.XHeap Go.Sx Go.Sep Go.Bits
set_option linter.unusedVariables false
set_option maxRecDepth 100000
variable {W A : World} {b rb : Nat} {q : PQ} {r : RQ} {L : List Asn}

structure R2 (q : PQ) (r : RQ) : Prop where
  good : Good (ens q)
  len : q.es.length ≤ q.size
  s32 : q.size ≤ 32
  size : r.size = q.size
  sim : Sim (ens q) r.L
theorem R2.n32 (h : R2 q r) : q.es.length ≤ 32 := Nat.le_trans h.len h.s32
theorem R2.rlen (h : R2 q r) : r.L.length = q.es.length := by rw [← h.sim.len]; simp [ens]
theorem R2.r32 (h : R2 q r) : r.L.length ≤ 32 := by rw [h.rlen]; exact h.n32
theorem R2.oks (h : R2 q r) : AllOk q.es := fun x hx => h.good.ok x.2 (List.mem_map.2 ⟨x, hx, rfl⟩)
theorem R2.roks (h : R2 q r) : ∀ e ∈ r.L, e.Ok := h.sim.oks h.good.ok
theorem R2.get (h : R2 q r) {k : Nat} {x : Nat × En} (hx : q.es[k]? = some x) : ∃ e, r.L[k]? = some e ∧ SimE x.2 e := h.sim.get (by simp [ens, hx])
theorem ens_set (es : Ens) (k : Nat) (y : Nat × En) : (es.set k y).map (·.2) = (es.map (·.2)).set k y.2 := List.map_set
/-- an entry turns -/
theorem R2.set (h : R2 q r) {k : Nat} {x : Nat × En} {e e' e2 : En} (hx : q.es[k]? = some x) (hr : r.L[k]? = some e) (h2 : SimE e' e2) (ho : e'.Ok) (hk : key e' = key x.2) : R2 { q with es := q.es.set k (x.1, e') } { r with L := r.L.set k e2 } := by
  refine ⟨?_, by show (q.es.set k _).length ≤ q.size; rw [List.length_set]; exact h.len, h.s32, h.size, ?_⟩
  · show Good ((q.es.set k (x.1, e')).map (·.2))
    rw [ens_set]
    exact h.good.set (by show (q.es.map (·.2))[k]? = some x.2; simp [hx]) ho hk
  · show Sim ((q.es.set k (x.1, e')).map (·.2)) (r.L.set k e2)
    rw [ens_set]
    exact h.sim.set k h2
def HErr (w : World) : Prop := w.cell? ⟨0, 0, none⟩ = some (.iface 121 (.agg #[.pointer (some ⟨1, 26, none⟩)]))
theorem told_nil_any (W : World) : Calls Tryd.prog 15 #[.nilIface, .int .i64 0] W fun e w2 => e = .returned (.bool true) ∧ Hush W w2 :=
  vc15 _ 0 ((told_nil W).mono fun e w2 ⟨h1, h2⟩ => ⟨0, h1, rfl, by rw [h2]; exact XTouch.refl _ _⟩)
theorem told_err_any (W : World) (hE : HErr W) (n : Int) : Calls Tryd.prog 15 #[errN n, .int .i64 n] W fun e w2 => e = .returned (.bool true) ∧ Hush W w2 :=
  vc15 _ n ((told_err n W hE).mono fun e w2 ⟨h1, h2⟩ => ⟨n, h1, by simp, h2⟩)
theorem found_any (W : World) (t : Bool) (m d : Int) : Calls Tryd.prog 24 #[.agg #[.bool t, .int .i64 m, .int .u32 d], .agg #[.bool t, .int .i64 m, .int .u32 d]] W fun e w => e = .returned (.bool true) ∧ Hush W w := by
  refine vc24 _ _ ((St.nil W).al fun k A H => H.al fun k2 B H => ?_)
  have H : St W No B [blk k #[.bool t, .int .i64 m, .int .u32 d] 63, blk k2 #[.bool t, .int .i64 m, .int .u32 d] 66] := H
  refine ⟨t, H.ld 0 rfl rfl, t, H.ld 1 rfl rfl, split_of (fun _ => ⟨m, H.ld 0 rfl rfl, m, H.ld 1 rfl rfl, split_of (fun _ => ⟨d, H.ld 0 rfl rfl, d, H.ld 1 rfl rfl, by simp, H.touch⟩) (fun q => by simp at q)⟩) (fun q => by simp at q)⟩
/-! ### the decisions are the same -/
theorem enter_agree (h : R2 q r) (s : Int) : enterE r.size r.L s = enterE q.size (ens q) s := by
  unfold enterE
  rw [h.sim.last s, h.size, h.rlen, show (ens q).length = q.es.length by simp [ens]]
theorem pos_agree (h : R2 q r) (s : Int) : posOf (findP s) q.es = match rpos s r.L with
    | some k => match r.L[k]? with
      | some e => if e.retired then none else some k
      | none => none
    | none => none := find_agree h.good h.sim s
theorem R2.back (h : R2 q r) {k : Nat} {e : En} (he : r.L[k]? = some e) : ∃ x, q.es[k]? = some x ∧ SimE x.2 e := by
  have hk := (List.getElem?_eq_some_iff.1 he).1
  rw [h.rlen] at hk
  obtain ⟨e', h1, h2⟩ := h.get (List.getElem?_eq_getElem hk)
  rw [he] at h1
  cases h1
  exact ⟨_, List.getElem?_eq_getElem hk, h2⟩
theorem addr_agree (h : R2 q r) (s : Int) (a : Nat) (sz : Int) : raddrR s a sz r.L = addrR s a sz q.es := by
  unfold raddrR addrR
  rw [pos_agree h]
  cases hp : rpos s r.L with
  | none => rfl
  | some k =>
    obtain ⟨e, he, -, -⟩ := rpos_some hp
    obtain ⟨x, hx, hs⟩ := h.back he
    have hxo := h.oks x (List.mem_of_getElem? hx)
    dsimp only
    rw [he]
    dsimp only
    cases hr : e.retired with
    | true =>
      have : x.2.placed = true := (hxo.ret (by rw [hs.retired, hr])).2.1
      rw [if_pos (by rw [Bool.or_true]), if_pos rfl]
    | false =>
      rw [Bool.or_false, if_neg (show ¬ false = true by decide)]
      dsimp only
      rw [hx]
      dsimp only
      rw [hs.placed]
theorem value_agree (h : R2 q r) (s : Int) : rvalueK s r.L = valueK s q.es := by
  unfold rvalueK valueK
  rw [pos_agree h]
  cases hp : rpos s r.L with
  | none => rfl
  | some k =>
    obtain ⟨e, he, -, -⟩ := rpos_some hp
    obtain ⟨x, hx, hs⟩ := h.back he
    dsimp only
    rw [he]
    dsimp only
    cases hr : e.retired with
    | true => rw [Bool.or_true, Bool.or_true, if_pos rfl]
    | false =>
      rw [Bool.or_false, if_neg (show ¬ false = true by decide)]
      dsimp only
      rw [hx]
      dsimp only
      rw [hs.store, hs.valued]
theorem load_agree (h : R2 q r) (s : Int) : rloadK s r.L = loadP s q.es := by
  unfold rloadK loadP
  rw [pos_agree h]
  cases hp : rpos s r.L with
  | none => rfl
  | some k =>
    obtain ⟨e, he, -, -⟩ := rpos_some hp
    obtain ⟨x, hx, hs⟩ := h.back he
    have hxo := h.oks x (List.mem_of_getElem? hx)
    dsimp only
    rw [he]
    dsimp only
    cases hr : e.retired with
    | true =>
      have : x.2.store = true := (hxo.ret (by rw [hs.retired, hr])).1
      rw [if_pos rfl, ← hs.store, this, Bool.true_or, if_pos rfl]
    | false =>
      rw [if_neg (show ¬ false = true by decide)]
      dsimp only
      rw [hx]
      dsimp only
      rw [hs.store, hs.placed]
theorem take_sim (h : R2 q r) (k : Nat) : Sim ((ens q).take k) (r.L.take k) := h.sim.take k
theorem unplaced_sim : ∀ e r, SimE e r → unplaced e = unplaced r := fun e r h => by unfold unplaced; rw [h.store, h.placed]
theorem search_agree (h : R2 q r) (bold : Bool) {k : Nat} {x : Nat × En} {e : En} (hs : SimE x.2 e) : searchV bold q.es k x.2 = searchE bold r.L k e := by
  unfold searchV searchE
  have h1 : (q.es.take k).any (fun y => unplaced y.2) = (r.L.take k).any unplaced := by
    rw [← (take_sim h k).any unplaced_sim]
    show _ = ((q.es.map (·.2)).take k).any unplaced
    rw [← List.map_take, List.any_map]; rfl
  have h2 : ∀ c, (srcs ((q.es.map (·.2)).take k) x.2.addr x.2.size c).map core = (srcs (r.L.take k) e.addr e.size c).map core := fun c => by
    rw [hs.addr, hs.size]
    exact (take_sim h k).srcs _ _ c
  rw [h1, wait_of h2, found_of _ h2, hs.addr]
theorem retire_agree (h : R2 q r) (s : Int) : rretireR s r.L = retireR s q.es := by
  unfold rretireR retireR
  rw [posOf_ens, ← h.sim.idx (p := fun e => !e.retired) (fun e r hs => by show (!e.retired) = (!r.retired); rw [hs.retired])]
  cases hp : (ens q).findIdx? fun e => !e.retired with
  | none =>
    rw [show (q.es.map (·.2)).findIdx? (fun e => !e.retired) = none from hp]
  | some k =>
    rw [show (q.es.map (·.2)).findIdx? (fun e => !e.retired) = some k from hp]
    dsimp only
    obtain ⟨y, hy, -, -⟩ := rpos_some hp
    obtain ⟨e, he, hs⟩ := h.sim.get hy
    obtain ⟨x, hx, hs⟩ := h.back he
    have hxo := h.oks x (List.mem_of_getElem? hx)
    rw [he, hx]
    dsimp only
    unfold rretE retE
    rw [hs.seq, hs.store, hs.placed, hs.valued, hs.loaded]
    congr 1
    congr 1
    cases hl : e.loaded with
    | false => rw [Bool.and_false]
    | true =>
      have : x.2.store = false := (hxo.load (by rw [hs.loaded, hl])).2
      rw [← hs.store, this]; rfl
theorem ahead_sim (s : Int) (a sz : Nat) : ∀ e r, SimE e r → aheadP s a sz e = aheadP s a sz r := fun e r h => by
  unfold aheadP
  rw [← h.loaded, ← h.addr, ← h.size]
  congr 1
  rw [Bool.eq_iff_iff, List.any_eq_true, List.any_eq_true]
  refine exists_congr fun c => and_congr_right fun hc => ?_
  rw [h.2.1 c (List.mem_range.1 hc)]
theorem spoil_sim (l : Nat) : ∀ e r, SimE e r → spoilP l e = spoilP l r := fun e r h => by
  unfold spoilP
  rw [← h.loaded, ← h.addr, ← h.size]
  congr 2
  rw [Bool.eq_iff_iff, List.any_eq_true, List.any_eq_true]
  refine exists_congr fun c => and_congr_right fun hc => ?_
  rw [h.2.1 c (List.mem_range.1 hc)]
theorem find_ens {p : En → Bool} : ∀ (es : Ens), seqOf (es.find? fun x => p x.2) = seqE ((es.map (·.2)).find? p)
  | [] => rfl
  | x :: es => by
    rw [List.find?_cons, List.map_cons, List.find?_cons]
    cases p x.2 with
    | true => rfl
    | false => exact find_ens es
theorem ahead_agree (h : R2 q r) (s : Int) (a sz : Nat) (k : Nat) {x : Nat × En} {e : En} (hs : SimE x.2 e) : aheadR s a sz k q.es x.2 = raheadR s a sz k r.L e := by
  unfold aheadR raheadR
  have hf := (h.sim.drop (k + 1)).find (ahead_sim s a sz)
  unfold ens at hf
  rw [hs.store, find_ens, List.map_drop, hf]
theorem spoil_agree (h : R2 q r) (l : Nat) : seqOf (q.es.find? fun x => spoilP l x.2) = seqE (r.L.find? (spoilP l)) := by
  rw [find_ens]
  exact h.sim.find (spoil_sim l)
theorem fr_sim (h : R2 q r) {k : Nat} {x : Nat × En} {e : En} (hx : q.es[k]? = some x) (hs : SimE x.2 e) : SimE (x.2.withFr (srcs ((ens q).take k) x.2.addr x.2.size)) (e.withFr (all4 r.L k e.addr)) := by
  have hxo := h.oks x (List.mem_of_getElem? hx)
  have h4 : x.2.size ≤ 4 := by rcases hxo.size with e | e | e | e <;> omega
  refine ⟨?_, fun c hc => ?_, fun e => by cases e⟩
  · show ({ core x.2 with loaded := true } : En) = { core e with loaded := true }
    rw [hs.1]
  · have hc : c < x.2.size := hc
    have key : ∀ (y : En) (F : Src) (c : Nat), c < 4 → (y.withFr F).fr c = frI (F c) := fun y F c h => by
      match c, h with
      | 0, _ => rfl
      | 1, _ => rfl
      | 2, _ => rfl
      | 3, _ => rfl
    rw [key _ _ c (by omega), key _ _ c (by omega)]
    have e1 : srcs ((ens q).take k) x.2.addr x.2.size c = srcOf ((ens q).take k) (x.2.addr + c) := if_pos hc
    rw [e1]
    show _ = frI (srcOf (r.L.take k) (e.addr + c))
    rw [← frI_core, (take_sim h k).src, frI_core, hs.addr]
theorem old_agree (h : R2 q r) : (oldestOf q.es).isSome = (rOld r.L).isSome ∧ ∀ o, oldestOf q.es = some o → ∃ e, rOld r.L = some e ∧ SimE o e := by
  have hs := h.sim
  unfold ens at hs
  cases hq : q.es with
  | nil =>
    rw [hq] at hs
    cases hr : r.L with
    | nil => exact ⟨rfl, fun o ho => by cases ho⟩
    | cons e l => rw [hr] at hs; exact hs.elim
  | cons x es =>
    rw [hq] at hs
    cases hr : r.L with
    | nil => rw [hr] at hs; exact hs.elim
    | cons e l =>
      rw [hr] at hs
      have h1 : SimE x.2 e := hs.1
      have e2 : rOld (e :: l) = if e.retired then some e else none := rfl
      rw [oldest_cons, e2, h1.retired]
      cases e.retired with
      | true => exact ⟨rfl, fun o ho => by cases ho; exact ⟨e, rfl, h1⟩⟩
      | false => exact ⟨rfl, fun o ho => by cases ho⟩
end Go.Proofs.YtngfaiahlblkkaaDoor
