import Derived.Test.YthacioiefgabbaaGreatDoorCoreB
/- A core: finding, beginning, finishing, leaving. No condition. -/
namespace Go.Proofs.YthacioiefgabbaaGreatDoor
open Go.RowKit Go.XHeap Go.Sx Go.Sep
set_option linter.unusedVariables false
set_option maxRecDepth 100000
variable {W w : World} {x : Nat} {C : KC} {K K' : KS} {L : List Asn} {b j : Nat} {F F' : Fl} {M : Nat → Prop}

/-! ### a flight's cells -/
def KS.setF (K : KS) (j b : Nat) (F : Fl) : KS := { K with fl := K.fl.set j (b, F) }
theorem setF_ptrs {l : Fls} (hy : l[j]? = some (b, F)) : flptrs (l.set j (b, F')) = flptrs l := by
  apply List.ext_getElem?
  intro i
  unfold flptrs
  rw [List.getElem?_map, List.getElem?_map, List.getElem?_set]
  by_cases e : j = i
  · subst e
    rw [if_pos rfl, if_pos (List.getElem?_eq_some_iff.1 hy).1, hy]; rfl
  · rw [if_neg e]
theorem setF_pieces (hy : K.fl[j]? = some (b, F)) : (K.setF j b F').pieces x C = (K.pieces x C).set 11 (flsA (K.fl.set j (b, F'))) := by
  unfold KS.pieces
  rw [show flptrs (K.setF j b F').fl = flptrs K.fl from setF_ptrs hy]
  rfl
theorem setF_at (hy : K.fl[j]? = some (b, F)) : (K.setF j b F').fl[j]? = some (b, F') := by
  show (K.fl.set j (b, F'))[j]? = _
  rw [List.getElem?_set_self (List.getElem?_eq_some_iff.1 hy).1]
theorem st_fl (H : St W M w (K.pieces x C ++ L)) (hy : K.fl[j]? = some (b, F)) {i : Nat} {v : Value} (F' : Fl) (hc : F.cells.setIfInBounds i v = F'.cells) (hi : i < 28) {φ : World → Prop} (hq : ∀ w', St W M w' ((K.setF j b F').pieces x C ++ L) → φ w') :
    (∃ u, w.cell? ⟨b, i, none⟩ = some u) ∧ w.frozen? ⟨b, i, none⟩ = false ∧ ∀ w', w' = w.setCell ⟨b, i, none⟩ v → φ w' := by
  have hb : Blk w b F.cells 243 := fl_blk (H.nth 11 rfl) hy
  have hs : i < F.cells.size := hi
  refine ⟨⟨_, hb.cell' (Array.getElem?_eq_getElem hs)⟩, hb.frozen i, ?_⟩
  rintro w' rfl
  have hk : (K.fl.map flA)[j]? = some (blk b F.cells 243) := by rw [List.getElem?_map, hy]; rfl
  have hp := all_upd (H.nth 11 rfl : Sep.here (K.fl.map flA) w) hk (post_set hb i v)
  rw [hc] at hp
  have e : (K.fl.map flA).set j (blk b F'.cells 243) = (K.fl.set j (b, F')).map flA := by rw [List.map_set]; rfl
  rw [e] at hp
  have H2 := H.upd 11 rfl hp
  apply hq
  rw [setF_pieces hy]
  exact H2
theorem fl_ptr {l : Fls} {p : Option Addr} {d n c : Nat} (h : Sl w 236 1 (.slice p n c) n (((flptrs l).drop d).take n)) {k : Nat} {y : Nat × Fl} (hk : l[d + k]? = some y) (hn : k < n) :
    ∃ g o, p = some ⟨g, o, none⟩ ∧ w.cell? ⟨g, o + k, none⟩ = some (.pointer (some ⟨y.1, 0, none⟩)) := by
  obtain ⟨ao, cap, hv, hl, -, -, -, hc⟩ := h.open1
  cases hv
  obtain ⟨g, off, e, -, hcc⟩ := hc (by omega)
  refine ⟨g, off, e, ?_⟩
  rw [(hcc k hn).1]
  unfold flptrs
  rw [List.getElem?_take_of_lt hn, List.getElem?_drop, List.getElem?_map, hk]; rfl
/-- no other one ahead of it has its number -/
def Alone (l : Fls) (d j : Nat) (s : Int) : Prop := ∀ i y, d ≤ i → i < j → l[i]? = some y → y.2.seq ≠ s
theorem find_any (h : (coreA x C K).at_ W) (hy : K.fl[j]? = some (b, F)) (hd : K.d ≤ j) (hj : j < K.d + K.n) (hu : Alone K.fl K.d j F.seq) (hl : K.n ≤ 100) :
    Calls Tryz.prog 105 #[.pointer (some ⟨x, 0, none⟩), .int .i64 F.seq] W fun e w => e = .returned (.pointer (some ⟨b, 0, none⟩)) ∧ w = W := by
  have H := core_open h
  have hjl := (List.getElem?_eq_some_iff.1 hy).1
  refine vc105 x 0 F.seq ⟨_, _, _, H.ld 0 rfl rfl, fun z w => ∃ m : Nat, z = m ∧ K.d + m ≤ j ∧ w = W, fun z _ => 1000 - z.toNat, ⟨0, rfl, by omega, rfl⟩, fun _ => ?_⟩
  rintro z w ⟨m, rfl, hm, rfl⟩
  refine split_of (fun q => ?_) (fun q => absurd (of_decide_eq_false q) (by omega))
  obtain ⟨y, hy2⟩ : ∃ y, K.fl[K.d + m]? = some y := ⟨_, List.getElem?_eq_getElem (by omega)⟩
  obtain ⟨g, o, hp, hc⟩ := fl_ptr (H.nth 10 rfl) hy2 (by omega)
  rw [hp]
  have hb : Blk w y.1 y.2.cells 243 := fl_blk (H.nth 11 rfl) hy2
  refine ⟨⟨by omega, of_decide_eq_true q⟩, adr_some ⟨_, by rw [ix1]; exact hc, ptr_some ⟨y.2.seq, by rw [add_none]; exact hb.cell' rfl, split_of (fun q2 => ?_) (fun q2 => ?_)⟩⟩⟩
  · have q2 : y.2.seq = F.seq := by simpa using q2
    by_cases e : K.d + m = j
    · rw [e, hy] at hy2
      cases hy2
      exact ⟨rfl, rfl⟩
    · exact absurd q2 (hu (K.d + m) y (by omega) (by omega) hy2)
  · have q2 : ¬ y.2.seq = F.seq := by simpa using q2
    have e : K.d + m ≠ j := by
      intro e
      rw [e, hy] at hy2
      cases hy2
      exact q2 rfl
    rintro z2 rfl
    rw [w64 (by omega) (by omega)]
    exact ⟨⟨m + 1, by omega, by omega, rfl⟩, by show 1000 - ((m : Int) + 1).toNat < 1000 - (m : Int).toNat; omega⟩
/-! ### beginning, finishing -/
def Rt.zero : Rt := ⟨0, 0, 0, 0, 0, 0, 0⟩
def KS.win (K : KS) (v : win.WS) : KS := { K with w := v }
theorem turn_ok {v : win.WS} {s : Int} {a to k : Nat} {e : Ending} {wb : Nat} (hk : v.turn s a to = some k) (h : win.TurnPost W wb v s a to e w) : e = .returned .nilIface ∧ Sep.Post (win.winA wb v) W (win.winA wb (v.turned k to)) w := by
  unfold win.TurnPost at h
  rw [hk] at h
  exact h
theorem begin_any (h : (coreA x C K).at_ W) (hy : K.fl[j]? = some (b, F)) (hn : K.en < 1000) (ho : K.w.Ok) (hr : ∀ k, k < K.w.n → (K.w.slot k).regs K.w.R) {k : Nat} (hk : K.w.turn F.seq 0 1 = some k) (cy : Int) :
    Calls Tryz.prog 116 #[.pointer (some ⟨x, 0, none⟩), .pointer (some ⟨b, 0, none⟩), .int .i64 cy] W fun e w => ∃ z : Tl, e = .returned (.tuple #[]) ∧ Sep.Post (coreA x C K) W (coreA x C (((K.setF j b { F with issued := true, ready := IntKind.wrap .i64 (K.cycle + cy) }).win (K.w.turned k 1)).tells z)) w := by
  have H := core_open h
  refine vc116 x 0 b 0 cy ⟨K.cycle, H.ld 0 rfl rfl, ?_⟩
  rintro z2 rfl
  refine st_fl H hy { F with issued := true } rfl (by decide) fun w2 H => st_fl H (setF_at hy) { F with issued := true, ready := IntKind.wrap .i64 (K.cycle + cy) } rfl (by decide) fun w3 H => H.dr fun w4 H => ?_
  have hy3 := setF_at (F' := { F with issued := true, ready := IntKind.wrap .i64 (K.cycle + cy) }) (setF_at (F' := { F with issued := true }) hy)
  have e : ((K.setF j b { F with issued := true }).setF j b { F with issued := true, ready := IntKind.wrap .i64 (K.cycle + cy) }) = K.setF j b { F with issued := true, ready := IntKind.wrap .i64 (K.cycle + cy) } := by
    unfold KS.setF; rw [List.set_set]
  rw [e] at H hy3
  have hb : Blk w4 b _ 243 := fl_blk (H.nth 11 rfl) hy3
  refine ⟨_, H.ld 0 rfl rfl, F.seq, hb.cell' rfl, H.call 2 rfl ((win.issue_any ho (H.nth 2 rfl) hr F.seq).mono fun e w hp => turn_ok hk hp) fun w5 H => ⟨_, rfl, ?_⟩⟩
  rintro vs rfl
  have H : St W (coreA x C K).own w5 (((K.setF j b { F with issued := true, ready := IntKind.wrap .i64 (K.cycle + cy) }).win (K.w.turned k 1)).pieces x C ++ []) := H
  have H : St W (coreA x C K).own w5 [coreA x C ((K.setF j b { F with issued := true, ready := IntKind.wrap .i64 (K.cycle + cy) }).win (K.w.turned k 1))] := St.shut (L' := []) H
  exact H.callx 0 rfl (tell_any (H.nth 0 rfl) (y := (b, _)) hy3 hn 2 Rt.zero) fun z w6 H => ⟨rfl, z, rfl, H.post 0 rfl⟩
theorem finish_any (h : (coreA x C K).at_ W) (hy : K.fl[j]? = some (b, F)) (hf : F.fresh = -1) (hn : K.en < 1000) (ho : K.w.Ok) (hr : ∀ k, k < K.w.n → (K.w.slot k).regs K.w.R) {k : Nat} (hk : K.w.turn F.seq 1 2 = some k) :
    Calls Tryz.prog 107 #[.pointer (some ⟨x, 0, none⟩), .pointer (some ⟨b, 0, none⟩)] W fun e w => ∃ z : Tl, e = .returned (.tuple #[]) ∧ Sep.Post (coreA x C K) W (coreA x C (((K.setF j b { F with done := true }).win (K.w.turned k 2)).tells z)) w := by
  have H := core_open h
  refine vc107 x 0 b 0 (st_fl H hy { F with done := true } rfl (by decide) fun w2 H => H.dr fun w4 H => ?_)
  have hy3 := setF_at (F' := { F with done := true }) hy
  have hb : Blk w4 b _ 243 := fl_blk (H.nth 11 rfl) hy3
  refine ⟨_, H.ld 0 rfl rfl, F.seq, hb.cell' rfl, H.call 2 rfl ((win.done_any ho (H.nth 2 rfl) hr F.seq).mono fun e w hp => turn_ok hk hp) fun w5 H => ⟨_, rfl, ?_⟩⟩
  have hb : Blk w5 b _ 243 := fl_blk (H.nth 11 rfl) hy3
  refine ⟨F.fresh, hb.cell' rfl, split_of (fun q => absurd (of_decide_eq_true q) (by omega)) (fun _ => ⟨F.fresh, hb.cell' rfl, split_of (fun q => absurd (of_decide_eq_true q) (by omega)) (fun _ => ?_)⟩)⟩
  rintro vs rfl
  have H : St W (coreA x C K).own w5 (((K.setF j b { F with done := true }).win (K.w.turned k 2)).pieces x C ++ []) := H
  have H : St W (coreA x C K).own w5 [coreA x C ((K.setF j b { F with done := true }).win (K.w.turned k 2))] := St.shut (L' := []) H
  exact H.callx 0 rfl (tell_any (H.nth 0 rfl) (y := (b, _)) hy3 hn 3 Rt.zero) fun z w6 H => ⟨rfl, z, rfl, H.post 0 rfl⟩
end Go.Proofs.YthacioiefgabbaaGreatDoor
/- A core: leaving, squashing, trapping. No condition. -/
namespace Go.Proofs.YthacioiefgabbaaGreatDoor
open Go.RowKit Go.XHeap Go.Sx Go.Sep
set_option linter.unusedVariables false
set_option maxRecDepth 100000
variable {W w : World} {x : Nat} {C : KC} {K K' : KS} {L : List Asn} {b j : Nat} {F F' : Fl} {M : Nat → Prop}

/-! ### windows -/
structure Wok (v : win.WS) : Prop where
  ok : v.Ok
  regs : ∀ k, k < v.n → (v.slot k).regs v.R
theorem turned_slot {v : win.WS} (ho : v.Ok) (k to i : Nat) : ((v.turned k to).slot i).s1 = (v.slot i).s1 ∧ ((v.turned k to).slot i).s2 = (v.slot i).s2 ∧ ((v.turned k to).slot i).seq = (v.slot i).seq ∧ ((v.turned k to).slot i).st = if v.ix i = v.ix k then to else (v.slot i).st := by
  have e : (v.turned k to).slot i = if v.ix i = v.ix k then { v.slot k with st := to } else v.slot i := by
    show (v.ring.set (v.ix k) { v.slot k with st := to }).getD (v.ix i) default = _
    rw [List.getD_eq_getElem?_getD, List.getElem?_set]
    by_cases h : v.ix k = v.ix i
    · rw [if_pos h, if_pos (ho.ix_lt k), if_pos h.symm]; rfl
    · rw [if_neg h, if_neg (fun e => h e.symm)]
      unfold win.WS.slot
      rw [List.getD_eq_getElem?_getD]
  rw [e]
  by_cases h : v.ix i = v.ix k
  · rw [if_pos h, if_pos h]
    have : v.slot i = v.slot k := by unfold win.WS.slot; rw [h]
    rw [this]
    exact ⟨rfl, rfl, rfl, rfl⟩
  · rw [if_neg h, if_neg h]
    exact ⟨rfl, rfl, rfl, rfl⟩
theorem Wok.turned {v : win.WS} (h : Wok v) (k : Nat) {to : Nat} (ht : to < 256) : Wok (v.turned k to) :=
  ⟨win.turned_ok h.ok k ht, fun i hi => by
    obtain ⟨e1, e2, -, -⟩ := turned_slot h.ok k to i
    have := h.regs i hi
    unfold win.Slot.regs at this ⊢
    rw [e1, e2]
    exact this⟩
/-! ### leaving -/
theorem sl_tail {p : Option Addr} {m c : Nat} {y : Value} {r : List Value} (h : Sl w 236 1 (.slice p (m + 1) c) (m + 1) (y :: r)) : Sl w 236 1 (.slice (Sx.sub p c 1 1) m (c - 1)) m r := by
  obtain ⟨ao, cap, hv, -, -, -, -, hc⟩ := h.open1
  cases hv
  obtain ⟨g, off, rfl, -, -⟩ := hc (by omega)
  have := h.tail1
  have e : Sx.sub (some ⟨g, off, none⟩) c 1 1 = some ⟨g, if c = 1 then off else off + 1, none⟩ := by
    unfold Sx.sub
    by_cases h1 : c = 1
    · rw [if_pos h1, if_pos (by omega)]
    · rw [if_neg h1, if_neg (by omega), Option.map_some, add_none, Nat.mul_one]
  rw [e]
  exact this
theorem sl_none {p : Option Addr} {n c : Nat} {r : List Value} {e size : Nat} (h : Sl w e size (.slice p n c) n r) : Sl w e size (.slice p 0 c) 0 [] := by
  refine ⟨by simp, ?_⟩
  rcases h.2 with ⟨hv, -⟩ | ⟨g, off, cap, cur, hv, hb, h1, h2, h3, h4⟩
  · cases hv; exact .inl ⟨rfl, rfl⟩
  · cases hv; exact .inr ⟨g, off, _, cur, rfl, hb, Nat.zero_le _, h2, h3, by simp⟩
theorem own_tail {p : Option Addr} {n m c c' k q : Nat} : (Value.slice (Sx.sub p c k 1) m c').ownBlock = some q → (Value.slice p n c).ownBlock = some q := by
  intro h
  cases p with
  | none => unfold Sx.sub at h; split at h <;> simp [Value.ownBlock] at h
  | some a =>
    unfold Sx.sub at h
    split at h
    · simpa [Value.ownBlock] using h
    · simp [Value.ownBlock, Addr.add] at h
      have e : (if k = 0 then a else { block := a.block, off := a.off + k }).block = a.block := by split <;> rfl
      rw [e] at h
      simpa [Value.ownBlock] using h
def KS.gone (K : KS) (b : Nat) (F : Fl) (v : win.WS) (y : (Option Addr × Nat) × Tl) : KS := { K with w := v, fl := K.fl.set K.d (b, { F with issued := true, ready := IntKind.wrap .i64 (K.cycle + 0), done := true }), d := K.d + 1, n := K.n - 1, fp := y.1.1, fc := y.1.2, ep := y.2.1, en := K.en + 2, ec := y.2.2.1, es := y.2.2.2 }
theorem retire_ok {v : win.WS} {wb : Nat} {e : Ending} (hn : v.n ≠ 0 ∧ (v.slot 0).st = 2) (h : win.RetirePost W wb v e w) : e = .returned (.tuple #[.int .i64 (v.slot 0).seq, .nilIface]) ∧ Sep.Post (win.winA wb v) W (win.winA wb v.retired) w := by
  unfold win.RetirePost at h
  rw [if_pos hn] at h
  exact h
theorem gone_any (h : (coreA x C K).at_ W) (hy : K.fl[K.d]? = some (b, F)) (hn1 : 1 ≤ K.n) (hf : F.fresh = -1) (hi : F.issued = false) (hdn : F.done = false) (hn : K.en < 900) (ho : Wok K.w)
    {k1 k2 : Nat} (hk1 : K.w.turn F.seq 0 1 = some k1) (hk2 : (K.w.turned k1 1).turn F.seq 1 2 = some k2) (hk3 : ((K.w.turned k1 1).turned k2 2).n ≠ 0 ∧ (((K.w.turned k1 1).turned k2 2).slot 0).st = 2) :
    Calls Tryz.prog 149 #[.pointer (some ⟨x, 0, none⟩), .pointer (some ⟨b, 0, none⟩)] W fun e w => ∃ y : (Option Addr × Nat) × Tl, e = .returned (.tuple #[]) ∧ Sep.Post (coreA x C K) W (coreA x C (K.gone b F ((K.w.turned k1 1).turned k2 2).retired y)) w := by
  have H := core_open h
  have hb : Blk W b _ 243 := fl_blk (H.nth 11 rfl) hy
  refine vc149 x 0 b 0 ⟨F.done, hb.cell' rfl, ?_⟩
  rw [hdn]
  refine split_of (fun _ => ⟨F.issued, hb.cell' rfl, ?_⟩) (fun q => by cases q)
  rw [hi]
  refine split_of (fun _ => ?_) (fun q => by cases q)
  have H := St.begin h
  refine H.callx 0 rfl (begin_any (H.nth 0 rfl) hy (by omega) ho.ok ho.regs hk1 0) fun z1 w2 H => ⟨rfl, ?_⟩
  have hy1 := setF_at (F' := { F with issued := true, ready := IntKind.wrap .i64 (K.cycle + 0) }) hy
  refine H.callx 0 rfl (finish_any (H.nth 0 rfl) (b := b) (j := K.d) (F := { F with issued := true, ready := IntKind.wrap .i64 (K.cycle + 0) }) hy1 hf (by show K.en + 1 < 1000; omega) (ho.turned k1 (by decide)).ok (ho.turned k1 (by decide)).regs hk2) fun z2 w3 H => ⟨rfl, ?_⟩
  have H := H.open_
  refine ⟨_, H.ld 0 rfl rfl, H.call 2 rfl ((win.retire_any ((ho.turned k1 (by decide)).turned k2 (by decide)).ok (H.nth 2 rfl)).mono fun e w hp => retire_ok hk3 hp) fun w4 H => ⟨_, _, rfl, _, _, _, H.ld 0 rfl rfl, ⟨by omega, by show (1 : Int) ≤ (K.n : Int); omega⟩, ?_⟩⟩
  refine H.st 0 rfl (by show 28 < 34; omega) fun w5 H => ?_
  have hl : ((flptrs (((K.setF K.d b { F with issued := true, ready := IntKind.wrap .i64 (K.cycle + 0) }).setF K.d b { F with issued := true, ready := IntKind.wrap .i64 (K.cycle + 0), done := true }).fl)).drop K.d).take K.n = .pointer (some ⟨b, 0, none⟩) :: ((flptrs (((K.setF K.d b { F with issued := true, ready := IntKind.wrap .i64 (K.cycle + 0) }).setF K.d b { F with issued := true, ready := IntKind.wrap .i64 (K.cycle + 0), done := true }).fl)).drop (K.d + 1)).take (K.n - 1) := by
    have e : flptrs (((K.setF K.d b { F with issued := true, ready := IntKind.wrap .i64 (K.cycle + 0) }).setF K.d b { F with issued := true, ready := IntKind.wrap .i64 (K.cycle + 0), done := true }).fl) = flptrs K.fl := (setF_ptrs hy1).trans (setF_ptrs hy)
    rw [e]
    have hlt : K.d < (flptrs K.fl).length := by unfold flptrs; rw [List.length_map]; exact (List.getElem?_eq_some_iff.1 hy).1
    rw [List.drop_eq_getElem_cons hlt]
    have eg : (flptrs K.fl)[K.d] = .pointer (some ⟨b, 0, none⟩) := by
      have : (flptrs K.fl)[K.d]? = some (.pointer (some ⟨b, 0, none⟩)) := by unfold flptrs; rw [List.getElem?_map, hy]; rfl
      exact (List.getElem?_eq_some_iff.1 this).2
    rw [eg]
    obtain ⟨m, hm⟩ : ∃ m, K.n = m + 1 := ⟨K.n - 1, by omega⟩
    rw [hm, List.take_succ_cons]; rfl
  have H := H.conv 10 (A' := sl 236 1 (.slice (Sx.sub K.fp K.fc 1 1) (K.n - 1) (K.fc - 1)) (K.n - 1) (((flptrs (((K.setF K.d b { F with issued := true, ready := IntKind.wrap .i64 (K.cycle + 0) }).setF K.d b { F with issued := true, ready := IntKind.wrap .i64 (K.cycle + 0), done := true }).fl)).drop (K.d + 1)).take (K.n - 1))) rfl (fun hs => by
    have hs : Sl w5 236 1 (.slice K.fp K.n K.fc) K.n (((flptrs (((K.setF K.d b { F with issued := true, ready := IntKind.wrap .i64 (K.cycle + 0) }).setF K.d b { F with issued := true, ready := IntKind.wrap .i64 (K.cycle + 0), done := true }).fl)).drop K.d).take K.n) := hs
    rw [hl] at hs
    obtain ⟨m, hm⟩ : ∃ m, K.n = m + 1 := ⟨K.n - 1, by omega⟩
    rw [hm] at hs ⊢
    exact sl_tail hs) (fun q hq => own_tail hq)
  refine ⟨((Sx.sub K.fp K.fc 1 1, K.fc - 1), z2), rfl, core_shut (K' := K.gone b F ((K.w.turned k1 1).turned k2 2).retired ((Sx.sub K.fp K.fc 1 1, K.fc - 1), z2)) (L := []) ?_⟩
  have e : K.gone b F ((K.w.turned k1 1).turned k2 2).retired ((Sx.sub K.fp K.fc 1 1, K.fc - 1), z2) = { K with w := ((K.w.turned k1 1).turned k2 2).retired, fl := (K.fl.set K.d (b, { F with issued := true, ready := IntKind.wrap .i64 (K.cycle + 0) })).set K.d (b, { F with issued := true, ready := IntKind.wrap .i64 (K.cycle + 0), done := true }), d := K.d + 1, n := K.n - 1, fp := Sx.sub K.fp K.fc 1 1, fc := K.fc - 1, ep := z2.1, en := K.en + 2, ec := z2.2.1, es := z2.2.2 } := by
    unfold KS.gone; rw [List.set_set]
  rw [e]
  exact H
end Go.Proofs.YthacioiefgabbaaGreatDoor
