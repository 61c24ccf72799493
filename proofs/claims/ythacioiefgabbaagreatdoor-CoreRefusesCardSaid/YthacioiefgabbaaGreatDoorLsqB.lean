import Derived.Test.YthacioiefgabbaaGreatDoorLsqVc
import Derived.Test.YthacioiefgabbaaGreatDoorBits
/- The queue of loads and stores, part A: what stands in memory; find, load, Len, New. No condition. -/
namespace Go.Proofs.YthacioiefgabbaaGreatDoor.lsq
open Go.RowKit Go.XHeap Go.Sx Go.Sep
set_option linter.unusedVariables false
set_option maxRecDepth 100000

abbrev No : Nat → Prop := fun _ => False
theorem slr_cells {w : World} {e : TypeId} {size : Nat} {p : Option Addr} {m c : Nat} {xs : List Value} (h : Sl w e size (.slice p m c) m xs) (hm : 0 < m) : m ≤ c ∧ c ≤ maxLen ∧ ∃ g o, p = some ⟨g, o, none⟩ ∧ ∀ j v, xs[j]? = some v → w.cell? ⟨g, o + j, none⟩ = some v := by
  obtain ⟨hl, h⟩ := h
  rcases h with ⟨-, rfl⟩ | ⟨g, off, cap, cur, hv, hb, h1, h2, h3, h4⟩
  · omega
  · cases hv
    refine ⟨h1, h2, g, off, rfl, fun j v hj => hb.cell' ?_⟩
    have hjl := (List.getElem?_eq_some_iff.1 hj).1
    rw [← h4] at hj
    rw [← Array.getElem?_toList, ← hj, List.getElem?_take_of_lt (by omega), List.getElem?_drop]
theorem slr_le {w : World} {e : TypeId} {size : Nat} {p : Option Addr} {m c : Nat} {xs : List Value} (h : Sl w e size (.slice p m c) m xs) : m ≤ c := by
  rcases h.2 with ⟨h, rfl⟩ | ⟨g, off, cap, cur, hv, hb, h1, h2, h3, h4⟩
  · exact Nat.zero_le _
  · cases hv; exact h1
/-- one cell of a slice of many cells is written -/
theorem slr_set {w : World} {e : TypeId} {size : Nat} {g o m c : Nat} {xs : List Value} (h : Sl w e size (.slice (some ⟨g, o, none⟩) m c) m xs) {j : Nat} (hj : j < xs.length) (x : Value) :
    (∃ v, w.cell? ⟨g, o + j, none⟩ = some v) ∧ w.frozen? ⟨g, o + j, none⟩ = false ∧ Sep.Post (sl e size (.slice (some ⟨g, o, none⟩) m c) m xs) w (sl e size (.slice (some ⟨g, o, none⟩) m c) m (xs.set j x)) (w.setCell ⟨g, o + j, none⟩ x) := by
  have h0 : Sl w e size (.slice (some ⟨g, o, none⟩) m c) m xs := h
  obtain ⟨hl, h⟩ := h
  rcases h with ⟨h, -⟩ | ⟨g', off', cap', cur, hv, hb, h1, h2, h3, h4⟩
  · simp at h
  · simp at hv
    obtain ⟨⟨rfl, rfl⟩, rfl⟩ := hv
    have hm := Nat.mul_le_mul_right size h1
    refine ⟨⟨cur[o + j], hb.cell' (Array.getElem?_eq_getElem (by omega))⟩, hb.frozen _, ⟨by simpa using hl, .inr ⟨g, o, c, _, rfl, hb.set (o + j) x, h1, h2, by simpa using h3, ?_⟩⟩, (XTouch.refl (fun k => (Value.slice (some ⟨g, o, none⟩) m c).ownBlock = some k) w).setCell (p := ⟨g, o + j, none⟩) (.inl rfl) x, fun q e => .inl e⟩
    rw [Array.toList_setIfInBounds, List.drop_set, if_neg (by omega), Nat.add_sub_cancel_left, List.take_set, h4]
/-- its first elements -/
theorem Sl.pre {w : World} {e size n c i : Nat} {p : Option Addr} {xs : List Value} (h : Sl w e size (.slice p n c) n xs) (hi : i ≤ n) : Sl w e size (.slice p i c) i (xs.take (i * size)) := by
  obtain ⟨hl, h⟩ := h
  have hm : i * size ≤ n * size := Nat.mul_le_mul_right _ hi
  refine ⟨by rw [List.length_take]; omega, ?_⟩
  rcases h with ⟨h0, h⟩ | ⟨g, off, cap, cur, hv, hb, h1, h2, h3, h4⟩
  · cases h0
    exact .inl ⟨by rw [show i = 0 by omega], by omega⟩
  · cases hv
    refine .inr ⟨g, off, c, cur, rfl, hb, by omega, h2, h3, ?_⟩
    rw [← h4, List.take_take, Nat.min_eq_left hm]
theorem adr_eq {p : Option Addr} {g o : Nat} {f : Nat → Nat → Prop} (e : p = some ⟨g, o, none⟩) (h : f g o) : Sx.adr p f := by subst e; exact h
def blkOf (p : Option Addr) (k : Nat) : Prop := ∃ a, p = some a ∧ a.block = k
theorem own_blk {p : Option Addr} {n c k : Nat} : (Value.slice p n c).ownBlock = some k ↔ blkOf p k := by
  cases p with
  | none => exact ⟨fun h => by (simp [Value.ownBlock] at h), fun ⟨a, h, _⟩ => by cases h⟩
  | some a => exact ⟨fun h => ⟨a, rfl, by simpa [Value.ownBlock] using h⟩, fun ⟨a', h, e⟩ => by cases h; simpa [Value.ownBlock] using e⟩
theorem here_sub {w : World} : ∀ {L L' : List Asn}, L'.Sublist L → (∀ q, owns L' q → owns L q) ∧ (Sep.here L w → Sep.here L' w)
  | _, _, .slnil => ⟨fun _ h => h, id⟩
  | _, _, .cons a h => ⟨fun q hq => .inr ((here_sub (w := w) h).1 q hq), fun hh => (here_sub h).2 hh.2.2⟩
  | _, _, .cons_cons a h => ⟨fun q hq => hq.imp id ((here_sub (w := w) h).1 q), fun hh => ⟨hh.1, fun q hq e => hh.2.1 q hq ((here_sub (w := w) h).1 q e), (here_sub h).2 hh.2.2⟩⟩

structure En where
  seq : Int
  store : Bool
  placed : Bool
  valued : Bool
  addr : Nat
  size : Nat
  data : Nat
  loaded : Bool
  f0 : Int
  f1 : Int
  f2 : Int
  f3 : Int
  retired : Bool
deriving Inhabited
def En.cells (e : En) : Array Value := #[.int .i64 e.seq, .bool e.store, .bool e.placed, .bool e.valued, .int .u32 e.addr, .int .i64 e.size, .int .u32 e.data, .bool e.loaded, .int .i64 e.f0, .int .i64 e.f1, .int .i64 e.f2, .int .i64 e.f3, .bool e.retired]
def En.fr (e : En) : Nat → Int
  | 0 => e.f0
  | 1 => e.f1
  | 2 => e.f2
  | _ => e.f3
structure En.Ok (e : En) : Prop where
  addr : e.addr < 4294967296
  data : e.data < 4294967296
  size : e.size = 0 ∨ e.size = 1 ∨ e.size = 2 ∨ e.size = 4
  fits : e.addr + e.size ≤ 4294967296
  siz : e.placed = true → e.size ≠ 0
  free : e.placed = false → e.addr = 0 ∧ e.size = 0
  load : e.loaded = true → e.placed = true ∧ e.store = false
  ret : e.retired = true → e.store = true ∧ e.placed = true ∧ e.valued = true
  pos : 0 ≤ e.seq
abbrev Ens := List (Nat × En)
def ptrs (es : Ens) : List Value := es.map fun x => .pointer (some ⟨x.1, 0, none⟩)
def entA (x : Nat × En) : Asn := blk x.1 x.2.cells 287
def entsA (es : Ens) : Asn := all (es.map entA)
structure PQ where
  size : Nat
  p : Option Addr
  cap : Nat
  es : Ens
def PQ.root (q : PQ) : Array Value := #[.int .i64 q.size, .slice q.p q.es.length q.cap]
def PQ.pieces (b : Nat) (q : PQ) : List Asn := [blk b q.root 212, sl 288 1 (.slice q.p q.es.length q.cap) q.es.length (ptrs q.es), entsA q.es]
def qA (b : Nat) (q : PQ) : Asn := all (q.pieces b)
variable {W w' : World} {b : Nat} {q v : PQ}
theorem q_open (h : (qA b q).at_ W) : St W (qA b q).own W (q.pieces b ++ []) := (St.begin h).open_
theorem q_shut {L : List Asn} (H : St W (qA b q).own w' (v.pieces b ++ L)) : Sep.Post (qA b q) W (qA b v) w' := (St.shut H).post 0 rfl
theorem q_same (h : (qA b q).at_ W) (hh : Hush W w') : Sep.Post (qA b q) W (qA b q) w' := ⟨(qA b q).keep h hh (fun _ _ e => e), hh.mono (fun _ _ e => e.elim), fun q hq => .inl hq⟩
theorem ptrs_len (es : Ens) : (ptrs es).length = es.length := by simp [ptrs]
theorem ent_blk {es : Ens} (h : (entsA es).at_ W) {k : Nat} {x : Nat × En} (hk : es[k]? = some x) : Blk W x.1 x.2.cells 287 := by
  have : (es.map entA)[k]? = some (entA x) := by simp [hk]
  exact here.nth k h this
theorem ptr_at {es : Ens} {p : Option Addr} {c n : Nat} (h : Sl W 288 1 (.slice p n c) n (ptrs es)) {k : Nat} {x : Nat × En} (hk : es[k]? = some x) : ∃ g o, p = some ⟨g, o, none⟩ ∧ W.cell? ⟨g, o + ((k : Nat) : Int).toNat * 1, none⟩ = some (.pointer (some ⟨x.1, 0, none⟩)) := by
  have hl := h.1
  rw [ptrs_len] at hl
  have hkl := (List.getElem?_eq_some_iff.1 hk).1
  obtain ⟨-, -, g, o, hp, hc⟩ := slr_cells h (by omega)
  refine ⟨g, o, hp, ?_⟩
  rw [ix1]
  exact hc k _ (by simp [ptrs, hk])
/-- a cell of an entry is written -/
theorem ent_set {es : Ens} (h : (entsA es).at_ W) {k : Nat} {x : Nat × En} (hk : es[k]? = some x) {i : Nat} (hi : i < x.2.cells.size) {v : Value} {e' : En} (he : e'.cells = x.2.cells.setIfInBounds i v) :
    (∃ u, W.cell? ⟨x.1, i, none⟩ = some u) ∧ W.frozen? ⟨x.1, i, none⟩ = false ∧ Sep.Post (entsA es) W (entsA (es.set k (x.1, e'))) (W.setCell ⟨x.1, i, none⟩ v) := by
  have hb := ent_blk h hk
  have hkm : (es.map entA)[k]? = some (entA x) := by simp [hk]
  have hm : (es.map entA).set k (entA (x.1, e')) = (es.set k (x.1, e')).map entA := by rw [List.map_set]
  have ht : XTouch (entA x).own W (W.setCell ⟨x.1, i, none⟩ v) := (XTouch.refl (fun k => k = x.1) W).setCell (p := ⟨x.1, i, none⟩) (.inl rfl) v
  refine ⟨⟨_, hb.cell' (Array.getElem?_eq_getElem hi)⟩, hb.frozen _, ?_, ht.mono (fun q _ e => owns.nth k hkm e), ?_⟩
  · show Sep.here ((es.set k (x.1, e')).map entA) _
    rw [← hm]
    refine here.upd (A' := entA (x.1, e')) ht ?_ (fun q e => .inl e) k h hkm
    show Blk _ x.1 e'.cells 287
    rw [he]
    exact hb.set i v
  · intro q hq
    have hq : owns ((es.set k (x.1, e')).map entA) q := hq
    rw [← hm] at hq
    exact .inl ((owns_set k hq).elim (fun e => owns.nth k hkm e) id)
theorem ents_sub {es es' : Ens} (h : es'.Sublist es) : (∀ q, (entsA es').own q → (entsA es).own q) ∧ ((entsA es).at_ W → (entsA es').at_ W) := here_sub (h.map entA)

/-! ### find -/
/-- where the first one is that ..; -1: nowhere -/
def posOf (p : En → Bool) (es : Ens) : Option Nat := es.findIdx? fun x => p x.2
def posI : Option Nat → Int
  | some k => (k : Nat)
  | none => -1
theorem pos_hit {p : En → Bool} {es : Ens} {j : Nat} {x : Nat × En} (hx : es[j]? = some x) (hp : p x.2 = true) (hnot : ∀ (i : Nat) (y : Nat × En), i < j → es[i]? = some y → p y.2 = false) : posOf p es = some j := by
  unfold posOf
  obtain ⟨hj, hjx⟩ := List.getElem?_eq_some_iff.1 hx
  rw [List.findIdx?_eq_some_iff_getElem]
  refine ⟨hj, by rw [hjx]; exact hp, fun i hi => ?_⟩
  rw [hnot i _ hi (List.getElem?_eq_getElem (by omega))]; decide
theorem pos_none {p : En → Bool} {es : Ens} (hnot : ∀ (i : Nat) (y : Nat × En), es[i]? = some y → p y.2 = false) : posOf p es = none := by
  unfold posOf
  rw [List.findIdx?_eq_none_iff]
  intro x hx
  obtain ⟨i, hi, rfl⟩ := List.getElem_of_mem hx
  exact hnot i _ (List.getElem?_eq_getElem hi)
theorem pos_some {p : En → Bool} {es : Ens} {k : Nat} (h : posOf p es = some k) : ∃ x, es[k]? = some x ∧ p x.2 = true ∧ ∀ (i : Nat) (y : Nat × En), i < k → es[i]? = some y → p y.2 = false := by
  unfold posOf at h
  rw [List.findIdx?_eq_some_iff_getElem] at h
  obtain ⟨hk, hp, hn⟩ := h
  refine ⟨_, List.getElem?_eq_getElem hk, hp, fun i y hi hy => ?_⟩
  have := hn i hi
  obtain ⟨hil, rfl⟩ := List.getElem?_eq_some_iff.1 hy
  simpa using this
theorem idx_r {A : World} {es : Ens} {p : Option Addr} {n c : Nat} (hs : Sl A 288 1 (.slice p n c) n (ptrs es)) (hn : n ≤ 32) (f : En → Bool)  (hcl : ∀ (i : Nat) (x : Nat × En) (B : World), es[i]? = some x → Hush A B → Calls Tryz.prog 200 #[.pointer (some ⟨x.1, 0, none⟩)] B fun e w => e = .returned (.bool (f x.2)) ∧ Hush B w) :
    Calls Tryz.prog 199 #[.slice p n c, .func (.func 200) #[] #[]] A fun e w => e = .returned (.int .i64 (posI (posOf f es))) ∧ Hush A w := by
  have hl : es.length = n := by have := hs.1; rw [ptrs_len] at this; omega
  refine vc199r p n c  ⟨fun i B => ∃ j : Nat, i = j ∧ j ≤ n ∧ Hush A B ∧ ∀ (i : Nat) (y : Nat × En), i < j → es[i]? = some y → f y.2 = false, fun i _ => n - i.toNat, ⟨0, rfl, Nat.zero_le _, XTouch.refl _ _, fun i y hi => by omega⟩, fun _ => ?_⟩
  rintro i B ⟨j, rfl, hj, hh, hnot⟩
  refine split_of (fun q => ?_) (fun q => ?_)
  · have q := of_decide_eq_true q
    have hjl : j < es.length := by omega
    have hx := List.getElem?_eq_getElem hjl
    obtain ⟨g, o, hp, hc⟩ := ptr_at (hs.keep hh (fun _ _ e => e)) hx
    refine ⟨⟨by omega, q⟩, adr_eq hp ⟨_, hc, (hcl j _ B hx hh).mono ?_⟩⟩
    rintro e C ⟨rfl, hh2⟩
    have hh3 : Hush A C := hh.trans hh2 (fun _ _ e => e)
    refine ⟨_, rfl, split_of (fun q1 => ?_) (fun q1 => ?_)⟩
    · rw [pos_hit hx q1 hnot]
      exact ⟨rfl, hh3⟩
    · rintro z rfl
      rw [w64 (by omega) (by omega)]
      refine ⟨⟨j + 1, by omega, by omega, hh3, fun i y hi hy => ?_⟩, by show n - ((j : Int) + 1).toNat < n - (j : Int).toNat; omega⟩
      by_cases e : i = j
      · subst e
        rw [hx] at hy
        cases hy
        exact q1
      · exact hnot i y (by omega) hy
  · have q := of_decide_eq_false q
    rw [pos_none (fun i y hy => hnot i y (by have := (List.getElem?_eq_some_iff.1 hy).1; omega) hy)]
    exact ⟨rfl, hh⟩
theorem idx_f {A : World} {es : Ens} {p : Option Addr} {n c : Nat} (hs : Sl A 288 1 (.slice p n c) n (ptrs es)) (hn : n ≤ 32) (f : En → Bool) (kb : Nat) (hcl : ∀ (i : Nat) (x : Nat × En) (B : World), es[i]? = some x → Hush A B → Calls Tryz.prog 264 #[.pointer (some ⟨x.1, 0, none⟩), .pointer (some ⟨kb, 0, none⟩)] B fun e w => e = .returned (.bool (f x.2)) ∧ Hush B w) :
    Calls Tryz.prog 199 #[.slice p n c, .func (.func 264) #[] #[.pointer (some ⟨kb, 0, none⟩)]] A fun e w => e = .returned (.int .i64 (posI (posOf f es))) ∧ Hush A w := by
  have hl : es.length = n := by have := hs.1; rw [ptrs_len] at this; omega
  refine vc199f p n c kb ⟨fun i B => ∃ j : Nat, i = j ∧ j ≤ n ∧ Hush A B ∧ ∀ (i : Nat) (y : Nat × En), i < j → es[i]? = some y → f y.2 = false, fun i _ => n - i.toNat, ⟨0, rfl, Nat.zero_le _, XTouch.refl _ _, fun i y hi => by omega⟩, fun _ => ?_⟩
  rintro i B ⟨j, rfl, hj, hh, hnot⟩
  refine split_of (fun q => ?_) (fun q => ?_)
  · have q := of_decide_eq_true q
    have hjl : j < es.length := by omega
    have hx := List.getElem?_eq_getElem hjl
    obtain ⟨g, o, hp, hc⟩ := ptr_at (hs.keep hh (fun _ _ e => e)) hx
    refine ⟨⟨by omega, q⟩, adr_eq hp ⟨_, hc, (hcl j _ B hx hh).mono ?_⟩⟩
    rintro e C ⟨rfl, hh2⟩
    have hh3 : Hush A C := hh.trans hh2 (fun _ _ e => e)
    refine ⟨_, rfl, split_of (fun q1 => ?_) (fun q1 => ?_)⟩
    · rw [pos_hit hx q1 hnot]
      exact ⟨rfl, hh3⟩
    · rintro z rfl
      rw [w64 (by omega) (by omega)]
      refine ⟨⟨j + 1, by omega, by omega, hh3, fun i y hi hy => ?_⟩, by show n - ((j : Int) + 1).toNat < n - (j : Int).toNat; omega⟩
      by_cases e : i = j
      · subst e
        rw [hx] at hy
        cases hy
        exact q1
      · exact hnot i y (by omega) hy
  · have q := of_decide_eq_false q
    rw [pos_none (fun i y hy => hnot i y (by have := (List.getElem?_eq_some_iff.1 hy).1; omega) hy)]
    exact ⟨rfl, hh⟩
theorem idx_q {A : World} {es : Ens} {p : Option Addr} {n c : Nat} (hs : Sl A 288 1 (.slice p n c) n (ptrs es)) (hn : n ≤ 32) (f : En → Bool) (kb : Nat) (hcl : ∀ (i : Nat) (x : Nat × En) (B : World), es[i]? = some x → Hush A B → Calls Tryz.prog 192 #[.pointer (some ⟨x.1, 0, none⟩), .pointer (some ⟨kb, 0, none⟩)] B fun e w => e = .returned (.bool (f x.2)) ∧ Hush B w) :
    Calls Tryz.prog 199 #[.slice p n c, .func (.func 192) #[] #[.pointer (some ⟨kb, 0, none⟩)]] A fun e w => e = .returned (.int .i64 (posI (posOf f es))) ∧ Hush A w := by
  have hl : es.length = n := by have := hs.1; rw [ptrs_len] at this; omega
  refine vc199q p n c kb ⟨fun i B => ∃ j : Nat, i = j ∧ j ≤ n ∧ Hush A B ∧ ∀ (i : Nat) (y : Nat × En), i < j → es[i]? = some y → f y.2 = false, fun i _ => n - i.toNat, ⟨0, rfl, Nat.zero_le _, XTouch.refl _ _, fun i y hi => by omega⟩, fun _ => ?_⟩
  rintro i B ⟨j, rfl, hj, hh, hnot⟩
  refine split_of (fun q => ?_) (fun q => ?_)
  · have q := of_decide_eq_true q
    have hjl : j < es.length := by omega
    have hx := List.getElem?_eq_getElem hjl
    obtain ⟨g, o, hp, hc⟩ := ptr_at (hs.keep hh (fun _ _ e => e)) hx
    refine ⟨⟨by omega, q⟩, adr_eq hp ⟨_, hc, (hcl j _ B hx hh).mono ?_⟩⟩
    rintro e C ⟨rfl, hh2⟩
    have hh3 : Hush A C := hh.trans hh2 (fun _ _ e => e)
    refine ⟨_, rfl, split_of (fun q1 => ?_) (fun q1 => ?_)⟩
    · rw [pos_hit hx q1 hnot]
      exact ⟨rfl, hh3⟩
    · rintro z rfl
      rw [w64 (by omega) (by omega)]
      refine ⟨⟨j + 1, by omega, by omega, hh3, fun i y hi hy => ?_⟩, by show n - ((j : Int) + 1).toNat < n - (j : Int).toNat; omega⟩
      by_cases e : i = j
      · subst e
        rw [hx] at hy
        cases hy
        exact q1
      · exact hnot i y (by omega) hy
  · have q := of_decide_eq_false q
    rw [pos_none (fun i y hy => hnot i y (by have := (List.getElem?_eq_some_iff.1 hy).1; omega) hy)]
    exact ⟨rfl, hh⟩
def findP (s : Int) (e : En) : Bool := e.seq == s && !e.retired
theorem findC_any {A : World} {x : Nat × En} {kb : Nat} {s : Int} {t : TypeId} (hb : Blk A x.1 x.2.cells 287) (hs : Blk A kb #[.int .i64 s] t) :
    Calls Tryz.prog 264 #[.pointer (some ⟨x.1, 0, none⟩), .pointer (some ⟨kb, 0, none⟩)] A fun e w => e = .returned (.bool (findP s x.2)) ∧ Hush A w := by
  refine vc264 x.1 0 kb 0 ⟨x.2.seq, hb.cell' rfl, s, hs.cell' rfl, split_of (fun q => ⟨x.2.retired, hb.cell' rfl, fun w n hw => ?_⟩) (fun q w n hw => ?_)⟩
  · subst hw
    refine ⟨?_, (XTouch.refl _ _).drewN n⟩
    unfold findP; rw [q, Bool.true_and]
  · subst hw
    refine ⟨?_, (XTouch.refl _ _).drewN n⟩
    unfold findP; rw [q, Bool.false_and]
theorem find_any (h : (qA b q).at_ W) (hn : q.es.length ≤ 32) (s : Int) : Calls Tryz.prog 217 #[.pointer (some ⟨b, 0, none⟩), .int .i64 s] W fun e w => e = .returned (.int .i64 (posI (posOf (findP s) q.es))) ∧ Hush W w := by
  refine vc217 b 0 s ((St.nil W).al fun k A H => ?_)
  have H : St W No A [blk k #[.int .i64 s] 3] := H
  have R := q_open ((qA b q).keep h H.touch (fun _ _ e => e))
  refine ⟨_, _, _, R.ld 0 rfl rfl, (idx_f (R.nth 1 rfl) hn (findP s) k fun i x B hx hh => ?_).mono ?_⟩
  · have hB := (ent_blk (R.nth 2 rfl) hx).keep hh (fun e => e)
    exact findC_any hB ((H.blk 0 rfl).keep hh (fun e => e))
  · rintro e w ⟨rfl, hh⟩
    exact ⟨_, rfl, rfl, (H.quiet hh).touch⟩
def errN (n : Int) : Value := .iface 33 (.int .i64 n)
theorem qnew_bad (W : World) (S : Int) (h : ¬ (1 ≤ S ∧ S ≤ 32)) : Calls Tryz.prog 46 #[.int .i64 S] W fun e w => e = .returned (.tuple #[.pointer none, errN 2]) ∧ Hush W w := by
  refine vc46 S (split_of (fun _ => ⟨rfl, XTouch.refl _ _⟩) (fun q1 => split_of (fun _ => ⟨rfl, XTouch.refl _ _⟩) (fun q2 => ?_)))
  have q1 := of_decide_eq_false q1
  have q2 := of_decide_eq_false q2
  exact absurd ⟨by omega, by omega⟩ h
theorem qnew_good (W : World) (S : Nat) (h : 1 ≤ S ∧ S ≤ 32) : Calls Tryz.prog 46 #[.int .i64 S] W fun e w => ∃ k : Nat, e = .returned (.tuple #[.pointer (some ⟨k, 0, none⟩), .nilIface]) ∧ Sep.Post emp W (qA k ⟨S, none, 0, []⟩) w := by
  refine vc46 S (split_of (fun q => absurd (of_decide_eq_true q) (by omega)) (fun _ => split_of (fun q => absurd (of_decide_eq_true q) (by omega)) (fun _ => ?_)))
  rintro vs rfl
  refine (St.nil W).al fun k A H => ⟨k, rfl, ?_⟩
  have H := H.add (A := sl 288 1 (.slice none 0 0) 0 []) ⟨Sl.nil _ _ _, XTouch.refl _ _, fun q hq => by cases hq⟩
  have H := H.add (A := entsA []) ⟨trivial, XTouch.refl _ _, fun q hq => hq.elim⟩
  have H : St W No A ((PQ.mk S none 0 []).pieces k ++ []) := H
  exact (St.shut H).new 0 rfl
end Go.Proofs.YthacioiefgabbaaGreatDoor.lsq
/- The queue, part B: Enter, Value, Retire, Squash, Oldest. No condition. -/
namespace Go.Proofs.YthacioiefgabbaaGreatDoor.lsq
open Go.RowKit Go.XHeap Go.Sx Go.Sep
set_option linter.unusedVariables false
set_option maxRecDepth 100000
variable {W w' : World} {b : Nat} {q v : PQ}

/-- a cell of an entry, as the code's conditions ask for it -/
theorem _root_.Go.Sep.St.ent {w0 w : World} {M : Nat → Prop} {L : List Asn} (H : St w0 M w L) (j : Nat) {es : Ens} (hj : L[j]? = some (entsA es)) {k : Nat} {x : Nat × En} (hk : es[k]? = some x) {i : Nat} {v : Value} (e' : En) (hi : i < 13) (he : e'.cells = x.2.cells.setIfInBounds i v) {φ : World → Prop}
    (hq : ∀ w', St w0 M w' (L.set j (entsA (es.set k (x.1, e')))) → φ w') : (∃ u, w.cell? ⟨x.1, i, none⟩ = some u) ∧ w.frozen? ⟨x.1, i, none⟩ = false ∧ ∀ w', w' = w.setCell ⟨x.1, i, none⟩ v → φ w' := by
  obtain ⟨h1, h2, h3⟩ := ent_set (H.nth j hj) hk (i := i) (v := v) (by show i < 13; exact hi) he
  refine ⟨h1, h2, ?_⟩
  rintro w' rfl
  exact hq _ (H.upd j hj h3)
theorem ptrs_set (es : Ens) {k : Nat} {x : Nat × En} (hk : es[k]? = some x) (e' : En) : ptrs (es.set k (x.1, e')) = ptrs es := by
  unfold ptrs
  rw [List.map_set]
  apply List.ext_getElem?
  intro i
  rw [List.getElem?_set]
  split
  · rename_i e
    subst e
    have hkl := (List.getElem?_eq_some_iff.1 hk).1
    rw [if_pos (by simpa using hkl)]
    simp [hk]
  · rfl
/-- after an entry has turned -/
theorem q_turned {w : World} {k : Nat} {x : Nat × En} {e' : En} {L : List Asn} (hk : q.es[k]? = some x)
    (H : St W (qA b q).own w ([blk b q.root 212, sl 288 1 (.slice q.p q.es.length q.cap) q.es.length (ptrs q.es), entsA (q.es.set k (x.1, e'))] ++ L)) : Sep.Post (qA b q) W (qA b { q with es := q.es.set k (x.1, e') }) w := by
  refine q_shut (v := { q with es := q.es.set k (x.1, e') }) (L := L) ?_
  unfold PQ.pieces PQ.root
  show St W (qA b q).own w ([blk b #[.int .i64 q.size, .slice q.p (q.es.set k (x.1, e')).length q.cap] 212, sl 288 1 (.slice q.p (q.es.set k (x.1, e')).length q.cap) (q.es.set k (x.1, e')).length (ptrs (q.es.set k (x.1, e'))), entsA (q.es.set k (x.1, e'))] ++ L)
  rw [ptrs_set _ hk, List.length_set]
  exact H
/-! ### Enter -/
def newEn (s : Int) (st : Bool) : En := ⟨s, st, false, false, 0, 0, 0, false, 0, 0, 0, 0, false⟩
def lateE (L : List En) (s : Int) : Bool := match L.getLast? with
  | some e => decide (s ≤ e.seq)
  | none => false
def enterE (S : Nat) (L : List En) (s : Int) : Option Int := if s < 0 ∨ lateE L s = true then some 5 else if L.length = S then some 4 else none
def ens (q : PQ) : List En := q.es.map (·.2)
def EnterPost (W : World) (b : Nat) (q : PQ) (s : Int) (st : Bool) (e : Ending) (w : World) : Prop := match enterE q.size (ens q) s with
  | some n => e = .returned (errN n) ∧ Sep.Post (qA b q) W (qA b q) w
  | none => e = .returned .nilIface ∧ ∃ (k : Nat) (p : Option Addr) (c : Nat), Sep.Post (qA b q) W (qA b { q with p := p, cap := c, es := q.es ++ [(k, newEn s st)] }) w
theorem enter_any (h : (qA b q).at_ W) (hn : q.es.length ≤ 32) (s : Int) (st : Bool) : Calls Tryz.prog 177 #[.pointer (some ⟨b, 0, none⟩), .int .i64 s, .bool st] W (EnterPost W b q s st) := by
  have H := q_open h
  have hlen : (ens q).length = q.es.length := by simp [ens]
  have bad : ∀ n, enterE q.size (ens q) s = some n → EnterPost W b q s st (.returned (errN n)) W := fun n e => by unfold EnterPost; rw [e]; exact ⟨rfl, q_same h (XTouch.refl _ _)⟩
  have fin : ¬ (s < 0 ∨ lateE (ens q) s = true) → ∃ z3 : Int, W.cell? ⟨b, 0, none⟩ = some (.int .i64 z3) ∧ Sx.split ((q.es.length : Int) == z3) (EnterPost W b q s st (.returned (errN 4)) W)
      (∃ p4 k7 k8, W.cell? ⟨b, 0 + 1, none⟩ = some (.slice p4 k7 k8) ∧ ∀ vs : Array Value, vs = #[.int .i64 s, .bool st, .bool false, .bool false, .int .u32 0, .int .i64 0, .int .u32 0, .bool false, .int .i64 0, .int .i64 0, .int .i64 0, .int .i64 0, .bool false] →
        ∀ (k9 : Nat) (W2 : World), k9 = W.heap.size → W2 = W.alloc (.cells (Value.agg vs).cells 287) → ∀ (k10 : Nat) (W3 : World), k10 = W2.heap.size → W3 = W2.alloc (.cells #[.pointer (some ⟨k9, 0, none⟩)] 288) →
          ∃ l l2, Sl W3 288 1 (.slice p4 k7 k8) k7 l ∧ ((1 = 0 ∧ (some ⟨k10, 0, none⟩ : Option Addr) = none) ∨ ∃ a : Addr, some ⟨k10, 0, none⟩ = some a ∧ ∀ (j : Nat) (u : Value), l2[j]? = some u → W3.cell? (a.add j) = some u) ∧ l2.length = 1 ∧ (∀ u ∈ l2, u.oneCell' = true) ∧ k7 + 1 ≤ maxLen ∧ (k7 + 1) * 8 ≤ 140737488355328 ∧
            ∀ (p5 : Option Addr) (k12 : Nat) (W4 : World), Sl W4 288 1 (.slice p5 (k7 + 1) k12) (k7 + 1) (l ++ l2) → XTouch (fun b => (Value.slice p4 k7 k8).ownBlock = some b) W3 W4 → (∀ b, (Value.slice p5 (k7 + 1) k12).ownBlock = some b → (Value.slice p4 k7 k8).ownBlock = some b ∨ W3.heap.size ≤ b) → Sl W4 288 1 (.slice p4 k7 k8) k7 l → ((p5 = p4 ∧ k12 = k8) ∨ ((NilP p4 ∨ k8 < k7 + 1) ∧ ∀ b, (Value.slice p5 (k7 + 1) k12).ownBlock = some b → W3.heap.size ≤ b)) →
              (∃ u, W4.cell? ⟨b, 0 + 1, none⟩ = some u) ∧ W4.frozen? ⟨b, 0 + 1, none⟩ = false ∧ ∀ W5 : World, W5 = W4.setCell ⟨b, 0 + 1, none⟩ (.slice p5 (k7 + 1) k12) → EnterPost W b q s st (.returned .nilIface) W5) := by
    intro hno
    refine ⟨_, H.ld 0 rfl rfl, split_of (fun q1 => ?_) (fun q1 => ?_)⟩
    · have q1 : q.es.length = q.size := by have : ((q.es.length : Nat) : Int) = (q.size : Nat) := by simpa using q1
                                           omega
      exact bad 4 (by unfold enterE; rw [if_neg hno, if_pos (by rw [hlen]; exact q1)])
    · have q1 : ¬ q.es.length = q.size := fun e => by rw [e] at q1; simp at q1
      refine ⟨_, _, _, H.ld 0 rfl rfl, ?_⟩
      rintro vs rfl
      refine H.al fun k9 A H => H.al fun k10 B H => H.app 1 rfl [.pointer (some ⟨k9, 0, none⟩)] (.inr ⟨_, rfl, fun j u hj => H.cells 4 rfl j u (by simpa using hj)⟩) rfl (by intro u hu; simp at hu; subst hu; rfl) (by have : maxLen = 2 ^ 63 - 1 := rfl; omega) (by omega) fun p2 c2 C H => ?_
      refine H.st 0 rfl (by show 1 < 2; omega) fun D H => ?_
      have H := H.pick [2, 3, 0, 1]
      have H : St W (qA b q).own D (all (q.es.map entA) :: entA (k9, newEn s st) :: [blk b #[.int .i64 q.size, .slice p2 (q.es.length + 1) c2] 212, sl 288 1 (.slice p2 (q.es.length + 1) c2) (q.es.length + 1) (ptrs q.es ++ [.pointer (some ⟨k9, 0, none⟩)])]) := H
      have H := (St.push H).pick [1, 2, 0]
      unfold EnterPost
      rw [show enterE q.size (ens q) s = none by unfold enterE; rw [if_neg hno, if_neg (by rw [hlen]; exact q1)]]
      refine ⟨rfl, k9, p2, c2, q_shut (L := []) ?_⟩
      unfold PQ.pieces PQ.root
      show St W (qA b q).own D ([blk b #[.int .i64 q.size, .slice p2 (q.es ++ [(k9, newEn s st)]).length c2] 212, sl 288 1 (.slice p2 (q.es ++ [(k9, newEn s st)]).length c2) (q.es ++ [(k9, newEn s st)]).length (ptrs (q.es ++ [(k9, newEn s st)])), all ((q.es ++ [(k9, newEn s st)]).map entA)] ++ [])
      rw [List.length_append, List.map_append, show ptrs (q.es ++ [(k9, newEn s st)]) = ptrs q.es ++ [.pointer (some ⟨k9, 0, none⟩)] by unfold ptrs; rw [List.map_append]; rfl]
      exact H
  refine vc177 b 0 s st ⟨_, _, _, H.ld 0 rfl rfl, split_of (fun q0 => bad 5 (by unfold enterE; rw [if_pos (.inl (of_decide_eq_true q0))])) (fun q0 => split_of (fun q1 => ?_) (fun q1 => ?_))⟩
  · have q0 := of_decide_eq_false q0
    have q1 := of_decide_eq_true q1
    have hpos : 0 < q.es.length := by omega
    refine ⟨_, _, _, H.ld 0 rfl rfl, ?_⟩
    rintro z rfl
    rw [w64 (by omega) (by omega), show ((q.es.length : Nat) : Int) - 1 = ((q.es.length - 1 : Nat) : Int) by omega]
    have hx := List.getElem?_eq_getElem (show q.es.length - 1 < q.es.length by omega)
    obtain ⟨g, o, hp, hc⟩ := ptr_at (H.nth 1 rfl) hx
    have hB := ent_blk (H.nth 2 rfl) hx
    have hlast : (ens q).getLast? = some (q.es[q.es.length - 1]).2 := by
      rw [List.getLast?_eq_getElem?, hlen]
      simp [ens, hx]
    refine ⟨⟨by omega, by omega⟩, adr_eq hp ⟨_, hc, ptr_some ⟨_, by rw [add_none]; exact hB.cell' rfl, split_of (fun q2 => ?_) (fun q2 => ?_)⟩⟩⟩
    · exact bad 5 (by unfold enterE; rw [if_pos (.inr (by unfold lateE; rw [hlast]; exact q2))])
    · have q2 := of_decide_eq_false q2
      exact fin (by unfold lateE; rw [hlast]; rintro (h | h); exact q0 h; exact q2 (of_decide_eq_true h))
  · have q0 := of_decide_eq_false q0
    have q1 := of_decide_eq_false q1
    have : ens q = [] := List.eq_nil_of_length_eq_zero (by rw [hlen]; omega)
    exact fin (by unfold lateE; rw [this]; rintro (h | h); exact q0 h; cases h)
/-! ### Value -/
end Go.Proofs.YthacioiefgabbaaGreatDoor.lsq
