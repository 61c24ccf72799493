/- The plain law, part D: Ask, Tick, Data, a fresh bus. No condition. -/
import Derived.Test.YtbiogceijdcoiaaCohC
namespace Go.Proofs.Ytbiogceijdcoiaa
open Go.RowKit Go.XHeap Go.Sx Go.Sep
set_option linter.unusedVariables false
set_option maxRecDepth 100000
variable {S S' : PB} {F : List Nat} {m : Nat}
def onlyAsk (c L : Nat) (wr : Bool) : Nat → Option (Nat × Bool) := fun k => if k = c then some (L, wr) else none
/-- may core c go on? -/
def enough (st : Nat) (wr : Bool) : Prop := 2 ≤ st ∨ (wr = false ∧ st = 1)
theorem own_one (h : Coh S F) (ho : S.Ok m) {c a : Nat} {wr : Bool} (hc : c < 2) (hne : ¬ enough ((S.C c).stateAt (65536 + a)) wr) : ∀ s b, Has (S.C c) ((65536 + a) / 16 * 16) s b → s = 1 := by
  intro s b hh
  obtain ⟨j, -, e, -⟩ := has_look (h.ok ho hc) (h.tidy c hc) hh
  have := hh.pos
  unfold enough at hne
  rw [e] at hne
  omega
theorem line_ok {a : Nat} (ha : a < 256) : LineOk 256 ((65536 + a) / 16 * 16) := by unfold LineOk; omega
theorem stateAt_low {C : CS} (a : Nat) : C.stateAt (a / 16 * 16) = C.stateAt a := by
  have e : C.look (a / 16 * 16) = C.look a := by unfold CS.look; rw [ix_low, Nat.mul_div_cancel _ (by decide)]
  unfold CS.stateAt
  rw [e, ix_low]
theorem coh_ask (h : Coh S F) (ho : S.Ok m) {c a : Nat} {wr : Bool} (hc : c < 2) (ha : a < 256) (hi : ∀ k, S.asks k = none) (hne : ¬ enough ((S.C c).stateAt (65536 + a)) wr) :
    S.askE c (65536 + a) wr = 0 ∧ Coh (S.askN c (65536 + a) wr) F ∧ (S.askN c (65536 + a) wr).asks = onlyAsk c ((65536 + a) / 16 * 16) wr ∧ (S.askN c (65536 + a) wr).now = S.now ∧ (S.askN c (65536 + a) wr).cyc = S.cyc ∧ (S.askN c (65536 + a) wr).Cs = S.Cs := by
  have e0 : S.askE c (65536 + a) wr = 0 := by
    unfold PB.askE
    rw [within_of h hc ha, if_pos rfl, state_of h hc ha, if_neg]
    rintro (e | e)
    · unfold PB.busy at e
      rw [askF_nat, hi] at e
      cases e
    · have h2 : ¬ 2 ≤ (S.C c).stateAt (65536 + a) := fun q => hne (.inl q)
      cases wr
      · have h3 : ¬ (S.C c).stateAt (65536 + a) = 1 := fun q => hne (.inr ⟨rfl, q⟩)
        have e : 1 ≤ (S.C c).stateAt (65536 + a) := e
        omega
      · exact h2 e
  have e1 : S.askN c (65536 + a) wr = S.asked c (65536 + a) wr := by unfold PB.askN; rw [if_pos e0]
  rw [e1]
  refine ⟨e0, h.of rfl rfl, ?_, rfl, rfl, rfl⟩
  funext k
  show (if k = (c : Int).toNat then _ else S.asks k) = _
  rw [Int.toNat_natCast, hi]
  rfl
theorem next_only (ho : S.Ok m) (hn : S.Cs.length = 2) {c L : Nat} {wr : Bool} (hc : c < 2) (ha : S.asks = onlyAsk c L wr) : S.next = some c := by
  have hlast := ho.last
  have one : ∀ k, (S.asks k).isSome = decide (k = c) := fun k => by
    rw [ha]; unfold onlyAsk
    split
    · rename_i e; rw [decide_eq_true e]; rfl
    · rename_i e; rw [decide_eq_false e]; rfl
  have t : ∀ k, S.turnAt k = (S.last + 1 + k) % 2 := fun k => by unfold PB.turnAt; rw [hn]
  by_cases e : S.turnAt 0 = c
  · rw [← e]
    exact next_of (by omega) (by rw [one]; exact decide_eq_true e) (fun j hj => by omega)
  · have e1 : S.turnAt 1 = c := by
      rw [t] at e ⊢
      omega
    rw [← e1]
    refine next_of (by omega) (by rw [one]; exact decide_eq_true e1) (fun j hj => ?_)
    obtain rfl : j = 0 := by omega
    rw [one]
    exact decide_eq_false e
/-- how many Ticks yet -/
def PB.wait (S : PB) : Nat := if S.now = none then S.cyc else S.left
theorem coh_tick (h : Coh S F) (ho : S.Ok m) (hm : m + 1 < 4611686018427387904) {c a : Nat} {wr : Bool} (hc : c < 2) (ha : a < 256) (hask : S.asks = onlyAsk c ((65536 + a) / 16 * 16) wr) (hnow : S.now = none ∨ S.now = some c) (hne : ¬ enough ((S.C c).stateAt (65536 + a)) wr) :
    Coh S.tick.S F ∧ S.tick.S.cyc = S.cyc ∧ ((0 < S.wait ∧ S.tick.S.asks = S.asks ∧ S.tick.S.now = some c ∧ S.tick.S.left = S.wait - 1 ∧ S.tick.S.Cs = S.Cs) ∨
      (S.wait = 0 ∧ (∀ k, S.tick.S.asks k = none) ∧ S.tick.S.now = none ∧ enough ((S.tick.S.C c).stateAt (65536 + a)) wr)) := by
  have ht : S.turn.now = some c ∧ S.turn.left = S.wait ∧ S.turn.asks = S.asks ∧ S.turn.Cs = S.Cs ∧ S.turn.mem = S.mem ∧ S.turn.cyc = S.cyc := by
    unfold PB.turn PB.wait
    split
    · exact ⟨next_only ho h.n hc hask, rfl, rfl, rfl, rfl, rfl⟩
    · rename_i e
      rcases hnow with e2 | e2
      · exact absurd e2 e
      · exact ⟨e2, rfl, rfl, rfl, rfl, rfl⟩
  obtain ⟨t1, t2, t3, t4, t5, t6⟩ := ht
  have h1 := turn_ok ho
  unfold PB.tick
  rw [t1]
  dsimp only
  by_cases q : 0 < S.turn.left
  · rw [if_pos q]
    exact ⟨h.of t4 t5, t6, .inl ⟨by omega, t3, t1, by show S.turn.left - 1 = _; rw [t2], t4⟩⟩
  · rw [if_neg q]
    have ea : S.turn.asks c = some ((65536 + a) / 16 * 16, wr) := by rw [t3, hask]; unfold onlyAsk; rw [if_pos rfl]
    rw [ea]
    dsimp only
    have hc2 : c < S.turn.Cs.length := by rw [t4, h.n]; exact hc
    have hT : Coh (S.turn.taken c) F := h.of t4 t5
    have oT := taken_ok h1 hc2
    have hown : ∀ s b, Has ((S.turn.taken c).C c) ((65536 + a) / 16 * 16) s b → s = 1 := by
      have e : (S.turn.taken c).C c = S.C c := by show S.turn.Cs.getD c noCS = _; rw [t4]; rfl
      rw [e]
      exact own_one h ho hc hne
    obtain ⟨d1, mine, d2, d3, d4⟩ := coh_done hT oT hm hc (line_ok ha) wr hown
    have hd := done_ok oT hm (core := c) (a := (65536 + a) / 16 * 16) hc2 (by have := line_ok ha; show LineOk S.turn.mem.length _; rw [t5, h.len]; exact this) wr
    refine ⟨d1, hd.same.cyc.trans t6, .inr ⟨by omega, fun k => ?_, hd.same.now, ?_⟩⟩
    · rw [hd.same.asks]
      show (if k = c then none else S.turn.asks k) = none
      rw [t3, hask]
      unfold onlyAsk
      split
      · rfl
      · rfl
    · rw [stateAt_low] at d4
      rw [d4]
      unfold enough
      cases wr
      · rcases d2 with e | e
        · exact .inr ⟨rfl, e⟩
        · exact .inl (by omega)
      · have := d3 rfl
        exact .inl (by omega)
/-! ### Data -/
theorem ways_has {C : CS} (ho : C.Ok) {y : Way} (hy : y ∈ C.ways) : Has C y.line y.state y.bytes := by
  unfold CS.ways at hy
  rw [List.mem_filter, List.mem_flatten] at hy
  obtain ⟨⟨s, hs, hy⟩, hv⟩ := hy
  have hv : y.state ≠ 0 := by unfold Way.valid at hv; simpa using hv
  obtain ⟨i, hi⟩ := List.getElem?_of_mem hs
  obtain ⟨j, hj⟩ := List.getElem?_of_mem hy
  have hil := (List.getElem?_eq_some_iff.1 hi).1
  refine ⟨i, j, y, ⟨by rw [← ho.sl]; exact hil, ?_, hv⟩, rfl, rfl, rfl⟩
  unfold CS.set_
  rw [List.getD_eq_getElem?_getD, hi]
  exact hj
theorem has_ways {C : CS} (ho : C.Ok) {L s : Nat} {b : List Nat} (h : Has C L s b) : ∃ y ∈ C.ways, y.line = L ∧ y.state = s ∧ y.bytes = b := by
  obtain ⟨i, j, y, h1, h2, h3, h4⟩ := h
  refine ⟨y, ?_, h2, h3, h4⟩
  unfold CS.ways
  rw [List.mem_filter, List.mem_flatten]
  refine ⟨⟨_, CS.set_mem ho h1.1, List.mem_of_getElem? h1.2.1⟩, ?_⟩
  unfold Way.valid
  simpa using h1.2.2
theorem fold_seg {L : Nat} {v : List Nat} (hL : LineOk 256 L) : ∀ (ys : List Way) (l : List Nat), l.length = 256 → (∀ y ∈ ys, y.Ok ∧ LineOk 256 y.line ∧ y.state ≠ 0) → (∀ y ∈ ys, y.state = 3 → y.line = L → y.bytes = v) →
    ((seg l L = v ∨ ∃ y ∈ ys, y.state = 3 ∧ y.line = L) → seg (ys.foldl keepM l) L = v) ∧ (ys.foldl keepM l).length = 256
  | [], l, hl, _, _ => ⟨fun h => by
      rcases h with h | ⟨y, hy, -⟩
      · exact h
      · exact absurd hy List.not_mem_nil, hl⟩
  | y :: ys, l, hl, h1, h2 => by
    obtain ⟨y1, y2, y3⟩ := h1 y (by simp)
    have e := keepM_len y1 (l := l) (fun _ => by rw [hl]; exact y2)
    obtain ⟨i1, i2⟩ := fold_seg (v := v) hL ys (keepM l y) (e.trans hl) (fun z hz => h1 z (by simp [hz])) (fun z hz => h2 z (by simp [hz]))
    refine ⟨fun h => i1 ?_, i2⟩
    rw [seg_keep hl y1 (fun _ => y2) hL]
    by_cases q : y.state = 3 ∧ y.line = L
    · rw [if_pos q]
      exact .inl (h2 y (by simp) q.1 q.2)
    · rw [if_neg q]
      rcases h with h | ⟨z, hz, hz2⟩
      · exact .inl h
      · rcases List.mem_cons.1 hz with rfl | hz
        · exact absurd hz2 q
        · exact .inr ⟨z, hz, hz2⟩
theorem coh_data (h : Coh S F) (ho : S.Ok m) : S.data = F := by
  have e : S.data = (S.C 1).ways.foldl keepM ((S.C 0).ways.foldl keepM S.mem) := by
    unfold PB.data
    rw [h.n, upto_succ, upto_succ]; rfl
  rw [e]
  have wk : ∀ k, k < 2 → ∀ y ∈ (S.C k).ways, y.Ok ∧ LineOk 256 y.line ∧ y.state ≠ 0 := fun k hk y hy => by
    have := ways_ok (ho.cs k (by rw [h.n]; exact hk)) y hy
    unfold PB.len at this
    rw [h.len] at this
    exact this
  have wb : ∀ k, k < 2 → ∀ L, ∀ y ∈ (S.C k).ways, y.state = 3 → y.line = L → y.bytes = seg F L := fun k hk L y hy _ e => by
    subst e
    exact h.cur k _ _ _ hk (ways_has (h.ok ho hk) hy)
  have l0 := (fold_seg (L := 65536) (v := seg F 65536) (by unfold LineOk; decide) (S.C 0).ways S.mem h.len (wk 0 (by decide)) (wb 0 (by decide) _)).2
  have l1 := (fold_seg (L := 65536) (v := seg F 65536) (by unfold LineOk; decide) (S.C 1).ways _ l0 (wk 1 (by decide)) (wb 1 (by decide) _)).2
  refine all_ext l1 h.fl fun L hL => ?_
  have f0 := (fold_seg hL (S.C 0).ways S.mem h.len (wk 0 (by decide)) (wb 0 (by decide) L)).1
  refine (fold_seg hL (S.C 1).ways _ l0 (wk 1 (by decide)) (wb 1 (by decide) L)).1 ?_
  by_cases q1 : ∃ b, Has (S.C 1) L 3 b
  · obtain ⟨b, hb⟩ := q1
    obtain ⟨y, hy, e1, e2, -⟩ := has_ways (h.ok ho (by decide)) hb
    exact .inr ⟨y, hy, e2, e1⟩
  · left
    apply f0
    by_cases q0 : ∃ b, Has (S.C 0) L 3 b
    · obtain ⟨b, hb⟩ := q0
      obtain ⟨y, hy, e1, e2, -⟩ := has_ways (h.ok ho (by decide)) hb
      exact .inr ⟨y, hy, e2, e1⟩
    · refine .inl (h.mem L hL fun k b hk hh => ?_)
      obtain rfl | rfl : k = 0 ∨ k = 1 := by omega
      · exact q0 ⟨b, hh⟩
      · exact q1 ⟨b, hh⟩
/-! ### at the start -/
theorem coh_fresh {x y : Int × Int} {cyc : Int} (hF : S.Fresh [x, y] cyc (List.replicate 256 0)) : Coh S (List.replicate 256 0) := by
  have no : ∀ k, k < 2 → (S.C k).Tidy ∧ ∀ L st bs, ¬ Has (S.C k) L st bs := fun k hk => by
    obtain ⟨z, hz⟩ : ∃ z, [x, y][k]? = some z := ⟨_, List.getElem?_eq_getElem (by simpa using hk)⟩
    have := hF.cs k z hz
    refine fresh_tidy fun s hs y hy => ?_
    rw [this.sets] at hs
    rw [(List.mem_replicate.1 hs).2] at hy
    rw [(List.mem_replicate.1 hy).2]; rfl
  refine ⟨hF.n, by rw [hF.mem]; exact List.length_replicate, List.length_replicate, fun k hk => (no k hk).1, fun k k' L s b s' b' h1 _ _ h => absurd h ((no k h1).2 _ _ _), fun k L s b h1 h => absurd h ((no k h1).2 _ _ _), fun L hL _ => by rw [hF.mem]⟩
/-- what the law asks of two cores' states -/
theorem coh_excl (h : Coh S F) (ho : S.Ok m) {a : Nat} (ha : a < 256) {k k' : Nat} (hk : k < 2) (hk' : k' < 2) (hn : k ≠ k') (h2 : 2 ≤ S.state k (65536 + a)) : S.state k' (65536 + a) = 0 := by
  rw [state_of h hk ha] at h2
  rw [state_of h hk' ha]
  obtain ⟨b, hb⟩ := state_has (h.ok ho hk) (a := 65536 + a) (by omega)
  by_cases e : (S.C k').stateAt (65536 + a) = 0
  · exact e
  · obtain ⟨b', hb'⟩ := state_has (h.ok ho hk') e
    have := (h.excl k k' _ _ _ _ _ hk hk' hn hb hb').1
    omega
end Go.Proofs.Ytbiogceijdcoiaa
