/- The document's bus, part R: what stands in memory; within, Busy, State, Ask, Read, Write, keep. No condition. -/
import Derived.Test.YtbiogceijdcoiaaDoorBusD
import Derived.Test.YtbiogceijdcoiaaDoorBusRVc
namespace Go.Proofs.YtbiogceijdcoiaaDoor
open Go.RowKit Go.XHeap Go.Sx Go.Sep
set_option linter.unusedVariables false
set_option maxRecDepth 100000
/-- where the document's bus lies -/
structure RP where
  p : Option Addr
  c : Nat
  gs : List Nat
  Rs : List RC
  ab : Nat
  dp : Option Addr
  dc : Nat
  left : Nat
def noRC : RC := ⟨1, 1, none, 0, []⟩
def RP.R (P : RP) (k : Nat) : RC := P.Rs.getD k noRC
structure RP.Ok (P : RP) (S : PB) : Prop where
  g : P.gs.length = S.Cs.length
  r : P.Rs.length = S.Cs.length
  rel : ∀ k, k < S.Cs.length → ∃ U, Rel (S.C k) (P.R k) U
  left : S.now ≠ none → P.left = S.left
  le : P.left ≤ 10
def askC : Option (Nat × Bool) → List Value
  | none => [.bool false, .int .i64 0, .bool false]
  | some x => [.bool true, .int .i64 (x.1 : Nat), .bool x.2]
theorem askC_len (x : Option (Nat × Bool)) : (askC x).length = 3 := by cases x <;> rfl
def PB.asksL (S : PB) : List (Option (Nat × Bool)) := (List.range S.Cs.length).map S.asks
def RP.root (P : RP) (S : PB) : Array Value := #[.slice P.p S.Cs.length P.c, .int .i64 S.cyc, .slice P.dp S.len P.dc, .slice (some ⟨P.ab, 0, none⟩) S.Cs.length S.Cs.length, .int .i64 S.last, .int .i64 (nowI S.now), .int .i64 P.left]
def RP.ptrs (P : RP) : List Value := P.gs.map fun g => .pointer (some ⟨g, 0, none⟩)
def RP.pieces (b : Nat) (P : RP) (S : PB) : List Asn := [blk b (P.root S) 75, sl 86 1 (.slice P.p S.Cs.length P.c) S.Cs.length P.ptrs, all (List.zipWith refcA P.gs P.Rs), blk P.ab (rows askC S.asksL) 71, memA P.dp P.dc S.mem]
def rbusA (b : Nat) (P : RP) (S : PB) : Asn := all (P.pieces b S)
variable {W w : World} {b m : Nat} {P P' : RP} {S S' : PB} {L : List Asn}
theorem rbus_open (h : (rbusA b P S).at_ W) : St W (rbusA b P S).own W (P.pieces b S ++ []) := (St.begin h).open_
theorem rbus_shut (H : St W (rbusA b P S).own w (P'.pieces b S' ++ L)) : Sep.Post (rbusA b P S) W (rbusA b P' S') w := (St.shut H).post 0 rfl
theorem rbus_same (h : (rbusA b P S).at_ W) (hh : Hush W w) : Sep.Post (rbusA b P S) W (rbusA b P S) w := ⟨(rbusA b P S).keep h hh (fun _ _ e => e), hh.mono (fun _ _ e => e.elim), fun q hq => .inl hq⟩
theorem rbus_at (h : (rbusA b P S).at_ W) : here (P.pieces b S) W := h
theorem rcaches_at (hP : P.Ok S) {k : Nat} (hk : k < S.Cs.length) : (List.zipWith refcA P.gs P.Rs)[k]? = some (refcA (P.gs.getD k 0) (P.R k)) := by
  have h1 := hP.g
  have h2 := hP.r
  unfold RP.R
  rw [List.getElem?_zipWith, List.getD_eq_getElem?_getD, List.getD_eq_getElem?_getD, List.getElem?_eq_getElem (by omega), List.getElem?_eq_getElem (by omega)]
  rfl
theorem rcaches_set {gs : List Nat} {Rs : List RC} (k : Nat) (hk : k < gs.length) (R : RC) : (List.zipWith refcA gs Rs).set k (refcA (gs.getD k 0) R) = List.zipWith refcA gs (Rs.set k R) := by
  have hg : gs[k]? = some (gs.getD k 0) := by rw [List.getD_eq_getElem?_getD, List.getElem?_eq_getElem hk]; rfl
  apply List.ext_getElem?
  intro j
  rw [List.getElem?_set, List.getElem?_zipWith, List.getElem?_zipWith, List.getElem?_set]
  by_cases e : k = j
  · subst e
    rw [if_pos rfl, if_pos rfl, hg]
    by_cases hl : k < Rs.length
    · rw [if_pos hl, if_pos (by simp; omega)]
    · rw [if_neg hl, if_neg (by simp; omega)]
  · rw [if_neg e, if_neg e]
theorem rptr_cell (hs : Sl w 86 1 (.slice P.p S.Cs.length P.c) S.Cs.length P.ptrs) (hP : P.Ok S) {k : Nat} (hk : k < S.Cs.length) :
    ∃ g off, P.p = some ⟨g, off, none⟩ ∧ w.cell? ⟨g, off + k, none⟩ = some (.pointer (some ⟨P.gs.getD k 0, 0, none⟩)) := by
  have h1 := hP.g
  obtain ⟨ao, cap, hv, hl, -, -, -, hc⟩ := hs.open1
  obtain ⟨g, off, rfl, -, hc⟩ := hc (by omega)
  simp only [Value.slice.injEq] at hv
  refine ⟨g, off, hv.1, ?_⟩
  rw [(hc k hk).1]
  unfold RP.ptrs
  rw [List.getElem?_map, List.getElem?_eq_getElem (by omega), List.getD_eq_getElem?_getD, List.getElem?_eq_getElem (by omega)]
  rfl
theorem asksL_at {k : Nat} (hk : k < S.Cs.length) : S.asksL[k]? = some (S.asks k) := by
  unfold PB.asksL
  rw [List.getElem?_map, List.getElem?_range hk]; rfl
theorem ask_cell (h : Blk w P.ab (rows askC S.asksL) 71) {k q : Nat} (hk : k < S.Cs.length) (hq : q < 3) {v : Value} (hv : (askC (S.asks k))[q]? = some v) : w.cell? ⟨P.ab, k * 3 + q, none⟩ = some v :=
  h.cell' (rows_get (fun x _ => askC_len x) (asksL_at hk) hq hv)
theorem rstate_of (h : (rbusA b P S).at_ W) (hP : P.Ok S) {k : Nat} (hk : k < S.Cs.length) : (refcA (P.gs.getD k 0) (P.R k)).at_ W := ((rbus_open h).nth 2 rfl).nth k (rcaches_at hP hk)
/-! ### within, Busy, State -/
theorem rwithin_any (hA : (rbusA b P S).at_ W) (ho : S.Ok m) (core : Int) (a : Nat) (ha : a < 4294967296) :
    Calls Tryd.prog 25 #[.pointer (some ⟨b, 0, none⟩), .int .i64 core, .int .i64 a] W fun e w => e = .returned (.bool (S.within core a)) ∧ w = W := by
  have H := rbus_open hA
  have hlen := ho.len
  refine vc25 b 0 core a (split_of (fun q => ⟨_, _, _, H.ld 0 rfl rfl, split_of (fun q2 => split_of (fun q3 => ?_) (fun q3 => ?_)) (fun q2 => ?_)⟩) (fun q => ?_))
  · have q := of_decide_eq_true q
    have q2 := of_decide_eq_true q2
    have q3 := of_decide_eq_true q3
    refine ⟨_, _, _, H.ld 0 rfl rfl, ?_⟩
    rintro z rfl
    refine ⟨?_, rfl⟩
    rw [w64 (by omega) (by omega)]
    congr 2
    unfold PB.within
    rw [decide_eq_decide]
    omega
  · have q3 := of_decide_eq_false q3
    refine ⟨?_, rfl⟩
    unfold PB.within
    rw [decide_eq_false (by omega)]
  · have q2 := of_decide_eq_false q2
    refine ⟨?_, rfl⟩
    unfold PB.within
    rw [decide_eq_false (by omega)]
  · have q := of_decide_eq_false q
    refine ⟨?_, rfl⟩
    unfold PB.within
    rw [decide_eq_false (by omega)]
theorem busy_out (ho : S.Ok m) {core : Int} (h : core < 0 ∨ (S.Cs.length : Int) ≤ core) : S.busy core = false := by
  unfold PB.busy askF
  split
  · unfold askV
    cases ha : S.asks core.toNat with
    | none => rfl
    | some x => have := (ho.asks _ x.1 x.2 ha).1; omega
  · rfl
theorem busy_nat (k : Nat) : S.busy k = (S.asks k).isSome := by
  unfold PB.busy; rw [askF_nat]; unfold askV; cases S.asks k <;> rfl
theorem askC0 (x : Option (Nat × Bool)) : (askC x)[0]? = some (.bool x.isSome) := by cases x <;> rfl
theorem rbusy_any (hA : (rbusA b P S).at_ W) (ho : S.Ok m) (core : Int) :
    Calls Tryd.prog 18 #[.pointer (some ⟨b, 0, none⟩), .int .i64 core] W fun e w => e = .returned (.bool (S.busy core)) ∧ w = W := by
  have H := rbus_open hA
  refine vc18 b 0 core (split_of (fun q => ⟨_, _, _, H.ld 0 rfl rfl, split_of (fun q2 => ?_) (fun q2 => ?_)⟩) (fun q => ?_))
  · have q := of_decide_eq_true q
    have q2 := of_decide_eq_true q2
    obtain ⟨k, rfl⟩ : ∃ k : Nat, core = k := ⟨core.toNat, by omega⟩
    refine ⟨_, _, _, H.ld 0 rfl rfl, ⟨q, q2⟩, adr_some ⟨_, ?_, by rw [busy_nat], rfl⟩⟩
    rw [Int.toNat_natCast, Nat.zero_add]
    exact ask_cell (H.blk 3 rfl) (by omega) (by omega) (askC0 _)
  · have q2 := of_decide_eq_false q2
    rw [busy_out ho (.inr (by omega))]
    exact ⟨rfl, rfl⟩
  · have q := of_decide_eq_false q
    rw [busy_out ho (.inl (by omega))]
    exact ⟨rfl, rfl⟩
theorem rbstate_any (hA : (rbusA b P S).at_ W) (ho : S.Ok m) (hP : P.Ok S) (core : Int) (a : Nat) (ha : a < 4294967296) :
    Calls Tryd.prog 16 #[.pointer (some ⟨b, 0, none⟩), .int .i64 core, .int .i64 a] W fun e w => e = .returned (.int .i64 (S.state core a)) ∧ w = W := by
  have H := rbus_open hA
  refine vc16 b 0 core a ((rwithin_any hA ho core a ha).mono ?_)
  rintro e w2 ⟨rfl, rfl⟩
  refine ⟨_, rfl, split_of (fun q => ?_) (fun q => ?_)⟩
  · have q : S.within core a = false := by simpa using q
    refine ⟨?_, rfl⟩
    unfold PB.state; rw [q]; rfl
  · have q : S.within core a = true := by simpa using q
    obtain ⟨q1, q2, -⟩ := within_true q
    obtain ⟨k, rfl⟩ : ∃ k : Nat, core = k := ⟨core.toNat, by omega⟩
    have hk : k < S.Cs.length := by omega
    obtain ⟨U, hU⟩ := hP.rel k hk
    obtain ⟨g, off, hp, hc⟩ := rptr_cell (H.nth 1 rfl) hP hk
    refine ⟨_, _, _, H.ld 0 rfl rfl, ⟨q1, q2⟩, ?_⟩
    refine adr_eq hp ⟨_, by rw [ix1]; exact hc, (rstate_any (hU.ok (ho.cs k hk).ok) (rstate_of hA hP hk) a ha).mono ?_⟩
    rintro e w ⟨rfl, rfl⟩
    refine ⟨_, rfl, ?_, rfl⟩
    unfold PB.state; rw [q, Int.toNat_natCast, ← hU.state (ho.cs k hk).ok]; rfl
/-! ### Read, Write -/
def RP.setR (P : RP) (k : Nat) (R : RC) : RP := { P with Rs := P.Rs.set k R }
theorem setR_R {k j : Nat} (hk : k < P.Rs.length) (R : RC) : (P.setR k R).R j = if k = j then R else P.R j := by
  unfold RP.R RP.setR
  dsimp only
  rw [List.getD_eq_getElem?_getD, List.getElem?_set]
  by_cases e : k = j
  · rw [if_pos e, if_pos e, if_pos hk]; rfl
  · rw [if_neg e, if_neg e, List.getD_eq_getElem?_getD]
theorem setR_ok (hP : P.Ok S) {k : Nat} (hk : k < S.Cs.length) {C : CS} {R : RC} {U : List Way} (h : Rel C R U) : (P.setR k R).Ok (S.setC k C) := by
  have e : (S.setC k C).Cs.length = S.Cs.length := List.length_set
  have hr := hP.r
  refine ⟨by rw [e]; exact hP.g, by rw [e]; show (P.Rs.set k R).length = _; rw [List.length_set]; exact hr, fun j hj => ?_, hP.left, hP.le⟩
  rw [setC_C hk, setR_R (by omega)]
  split
  · exact ⟨U, h⟩
  · exact hP.rel j (by omega)
theorem setR_post (hA : (rbusA b P S).at_ W) (hP : P.Ok S) {k : Nat} (hk : k < S.Cs.length) {C : CS} {R : RC} (hp : Sep.Post (refcA (P.gs.getD k 0) (P.R k)) W (refcA (P.gs.getD k 0) R) w) : Sep.Post (rbusA b P S) W (rbusA b (P.setR k R) (S.setC k C)) w := by
  have H := rbus_open hA
  have H := H.upd 2 rfl (all_upd (H.nth 2 rfl) (rcaches_at hP hk) hp)
  rw [rcaches_set k (by have := hP.g; omega)] at H
  refine rbus_shut (L := []) ?_
  have e : (S.setC k C).Cs.length = S.Cs.length := List.length_set
  have e2 : (S.setC k C).asksL = S.asksL := by unfold PB.asksL; rw [e]; rfl
  unfold RP.pieces RP.root
  rw [e, e2]
  exact H
theorem rbread_any (hA : (rbusA b P S).at_ W) (ho : S.Ok m) (hP : P.Ok S) (core : Int) (a : Nat) (ha : a < 4294967296) (sz : Int) :
    Calls Tryd.prog 12 #[.pointer (some ⟨b, 0, none⟩), .int .i64 core, .int .i64 a, .int .i64 sz] W fun e w => e = .returned (.tuple #[.int .u32 (S.readV core a sz), .bool (S.readT core a sz)]) ∧ ∃ P', P'.Ok (S.readN core a sz) ∧ Sep.Post (rbusA b P S) W (rbusA b P' (S.readN core a sz)) w := by
  have H := rbus_open hA
  refine vc12 b 0 core a sz ((rwithin_any hA ho core a ha).mono ?_)
  rintro e w2 ⟨rfl, rfl⟩
  refine ⟨_, rfl, split_of (fun q => ?_) (fun q => ?_)⟩
  · have q : S.within core a = false := by simpa using q
    unfold PB.readT PB.readV PB.readN
    rw [q]
    exact ⟨rfl, P, hP, rbus_same hA (XTouch.refl _ _)⟩
  · have q : S.within core a = true := by simpa using q
    obtain ⟨q1, q2, -⟩ := within_true q
    obtain ⟨k, rfl⟩ : ∃ k : Nat, core = k := ⟨core.toNat, by omega⟩
    have hk : k < S.Cs.length := by omega
    obtain ⟨U, hU⟩ := hP.rel k hk
    obtain ⟨g, off, hp, hc⟩ := rptr_cell (H.nth 1 rfl) hP hk
    refine ⟨_, _, _, H.ld 0 rfl rfl, ⟨q1, q2⟩, ?_⟩
    refine adr_eq hp ⟨_, by rw [ix1]; exact hc, (rread_f hU (ho.cs k hk).ok (rstate_of hA hP hk) a ha sz).mono ?_⟩
    rintro e w ⟨rfl, R', U', hR', hp⟩
    unfold PB.readT PB.readV PB.readN
    rw [q, Int.toNat_natCast]
    exact ⟨_, _, rfl, rfl, P.setR k R', setR_ok hP hk hR', setR_post hA hP hk hp⟩
theorem rbwrite_any (hA : (rbusA b P S).at_ W) (ho : S.Ok m) (hP : P.Ok S) (core : Int) (a : Nat) (ha : a < 4294967296) (sz : Int) (d : Nat) (hd : d < 4294967296) :
    Calls Tryd.prog 14 #[.pointer (some ⟨b, 0, none⟩), .int .i64 core, .int .i64 a, .int .i64 sz, .int .u32 d] W fun e w => e = .returned (.bool (S.writeT core a sz)) ∧ ∃ P', P'.Ok (S.writeN core a sz d) ∧ Sep.Post (rbusA b P S) W (rbusA b P' (S.writeN core a sz d)) w := by
  have H := rbus_open hA
  refine vc14 b 0 core a sz d ((rwithin_any hA ho core a ha).mono ?_)
  rintro e w2 ⟨rfl, rfl⟩
  refine ⟨_, rfl, split_of (fun q => ?_) (fun q => ?_)⟩
  · have q : S.within core a = false := by simpa using q
    unfold PB.writeT PB.writeN
    rw [q]
    exact ⟨rfl, P, hP, rbus_same hA (XTouch.refl _ _)⟩
  · have q : S.within core a = true := by simpa using q
    obtain ⟨q1, q2, -⟩ := within_true q
    obtain ⟨k, rfl⟩ : ∃ k : Nat, core = k := ⟨core.toNat, by omega⟩
    have hk : k < S.Cs.length := by omega
    obtain ⟨U, hU⟩ := hP.rel k hk
    obtain ⟨g, off, hp, hc⟩ := rptr_cell (H.nth 1 rfl) hP hk
    refine ⟨_, _, _, H.ld 0 rfl rfl, ⟨q1, q2⟩, ?_⟩
    refine adr_eq hp ⟨_, by rw [ix1]; exact hc, (rwrite_f hU (ho.cs k hk).ok (rstate_of hA hP hk) a ha sz d hd).mono ?_⟩
    rintro e w ⟨rfl, R', U', hR', hp⟩
    unfold PB.writeT PB.writeN
    rw [q, Int.toNat_natCast]
    exact ⟨_, rfl, rfl, P.setR k R', setR_ok hP hk hR', setR_post hA hP hk hp⟩
/-! ### Ask -/
theorem asks_put {k : Nat} (hk : k < S.Cs.length) (x : Option (Nat × Bool)) : splice (rows askC S.asksL) (k * 3) (askC x) = rows askC ((List.range S.Cs.length).map fun j => if j = k then x else S.asks j) := by
  rw [rows_splice (fun x _ => askC_len x) k x (by simp [PB.asksL]; exact hk) (askC_len x)]
  congr 1
  unfold PB.asksL
  apply List.ext_getElem?
  intro j
  rw [List.getElem?_set, List.getElem?_map, List.getElem?_map]
  by_cases hj : j < S.Cs.length
  · rw [List.getElem?_range hj]
    by_cases e : k = j
    · subst e; simp [hj]
    · rw [if_neg e, Option.map_some, Option.map_some]
      show some (S.asks j) = some (if j = k then x else S.asks j)
      rw [if_neg (fun h => e h.symm)]
  · rw [List.getElem?_eq_none (by simpa using hj)]
    by_cases e : k = j
    · subst e; exact absurd hk hj
    · rw [if_neg e]; rfl
theorem askC_one (x : Option (Nat × Bool)) : ∀ v ∈ (askC x).toArray.toList, v.oneCell' = true := by
  intro v hv
  cases x <;> (simp only [askC, List.mem_cons, List.not_mem_nil, or_false] at hv; rcases hv with rfl | rfl | rfl <;> rfl)
/-- one core's ask is another one -/
theorem ask_sts {M : Nat → Prop} (H : St W M w L) (i : Nat) (hi : L[i]? = some (blk P.ab (rows askC S.asksL) 71)) {k : Nat} (hk : k < S.Cs.length) (x : Option (Nat × Bool)) {φ : World → Prop} (hq : ∀ w', St W M w' (L.set i (blk P.ab (rows askC ((List.range S.Cs.length).map fun j => if j = k then x else S.asks j)) 71)) → φ w')
    {vs : Array Value} (hvs : vs = (askC x).toArray) : vs.size = 3 ∧ (∀ j : Nat, j < 3 → (∃ v, w.cell? ⟨P.ab, 0 + ((k : Nat) : Int).toNat * 3 + j, none⟩ = some v) ∧ w.frozen? ⟨P.ab, 0 + ((k : Nat) : Int).toNat * 3 + j, none⟩ = false) ∧ (∀ v : Value, v ∈ vs.toList → v.oneCell' = true) ∧ ∀ w' : World, w' = w.setCells P.ab (0 + ((k : Nat) : Int).toNat * 3) vs.toList → φ w' := by
  subst hvs
  have hb := H.blk i hi
  rw [Int.toNat_natCast, Nat.zero_add]
  refine ⟨by simpa using askC_len x, fun j hj => ⟨⟨_, ask_cell hb hk hj (List.getElem?_eq_getElem (by rw [askC_len]; exact hj))⟩, hb.frozen _⟩, askC_one x, ?_⟩
  rintro w' rfl
  have hl : k * 3 + (askC x).length ≤ (rows askC S.asksL).size := by
    rw [rows_size (fun x _ => askC_len x), askC_len]
    simp [PB.asksL]; omega
  have H := H.wrs i hi (k * 3) (askC x) hl
  rw [asks_put hk] at H
  exact hq _ H
theorem rask_any (hA : (rbusA b P S).at_ W) (ho : S.Ok m) (hP : P.Ok S) (core : Int) (a : Nat) (ha : a < 4294967296) (wr : Bool) :
    Calls Tryd.prog 6 #[.pointer (some ⟨b, 0, none⟩), .int .i64 core, .int .i64 a, .bool wr] W fun e w => e = .returned (.int .i64 (S.askE core a wr)) ∧ Sep.Post (rbusA b P S) W (rbusA b P (S.askN core a wr)) w := by
  have no : ∀ {n : Nat} {w : World}, S.askE core a wr = n → n ≠ 0 → Hush W w → Ending.returned (.int .i64 (n : Nat)) = Ending.returned (.int .i64 (S.askE core a wr)) ∧ Sep.Post (rbusA b P S) W (rbusA b P (S.askN core a wr)) w := by
    intro n w h1 h2 h3
    unfold PB.askN
    rw [h1, if_neg h2]
    exact ⟨rfl, rbus_same hA h3⟩
  have H := rbus_open hA
  refine vc6 b 0 core a wr ((rwithin_any hA ho core a ha).mono ?_)
  rintro e w2 ⟨rfl, rfl⟩
  refine ⟨_, rfl, split_of (fun q => ?_) (fun q => ?_)⟩
  · have q : S.within core a = false := by simpa using q
    exact no (n := 3) (by unfold PB.askE; rw [q]; rfl) (by decide) (XTouch.refl _ _)
  · have q : S.within core a = true := by simpa using q
    obtain ⟨q1, q2, -⟩ := within_true q
    obtain ⟨k, rfl⟩ : ∃ k : Nat, core = k := ⟨core.toNat, by omega⟩
    have hk : k < S.Cs.length := by omega
    refine (rbstate_any hA ho hP k a ha).mono ?_
    rintro e w3 ⟨rfl, rfl⟩
    have yes : S.askE k a wr = 0 → ∃ (p : Option Addr) (k5 k6 : Nat), w3.cell? ⟨b, 0 + 3, none⟩ = some (.slice p k5 k6) ∧ (16 : Int) ≠ 0 ∧ ∀ z2 : Int, z2 = Int.tmod (a : Int) 16 → ∀ z3 : Int, z3 = IntKind.wrap .i64 ((a : Int) - z2) → ∀ vs : Array Value, vs = #[.bool true, .int .i64 z3, .bool wr] → ((0 : Int) ≤ (k : Int) ∧ (k : Int) < (k5 : Int)) ∧ adr p fun k7 k8 =>
        vs.size = 3 ∧ (∀ j : Nat, j < 3 → (∃ v, w3.cell? ⟨k7, k8 + ((k : Nat) : Int).toNat * 3 + j, none⟩ = some v) ∧ w3.frozen? ⟨k7, k8 + ((k : Nat) : Int).toNat * 3 + j, none⟩ = false) ∧ (∀ v : Value, v ∈ vs.toList → v.oneCell' = true) ∧ ∀ w' : World, w' = w3.setCells k7 (k8 + ((k : Nat) : Int).toNat * 3) vs.toList →
          (Ending.returned (.int .i64 0) = Ending.returned (.int .i64 (S.askE k a wr)) ∧ Sep.Post (rbusA b P S) w3 (rbusA b P (S.askN k a wr)) w') := by
      intro e0
      refine ⟨_, _, _, H.ld 0 rfl rfl, by decide, ?_⟩
      rintro z2 rfl z3 rfl vs rfl
      refine ⟨⟨q1, q2⟩, adr_some ?_⟩
      refine ask_sts H 3 rfl hk (some (a / 16 * 16, wr)) (fun w' H => ?_) ?_
      · unfold PB.askN
        rw [e0, if_pos rfl]
        exact ⟨rfl, rbus_shut (L := []) H⟩
      · have em : Int.tmod (a : Int) 16 = ((a % 16 : Nat) : Int) := rfl
        rw [em, show (a : Int) - ((a % 16 : Nat) : Int) = ((a / 16 * 16 : Nat) : Int) by omega, Bits.n64 (by omega)]
        rfl
    refine ⟨_, rfl, _, _, _, H.ld 0 rfl rfl, ⟨q1, q2⟩, adr_some ⟨(S.asks k).isSome, ?_, split_of (fun q3 => ?_) (fun q3 => ?_)⟩⟩
    · rw [Int.toNat_natCast, Nat.zero_add]
      exact ask_cell (H.blk 3 rfl) hk (by omega) (askC0 _)
    · exact no (n := 7) (by unfold PB.askE; rw [if_pos q, if_pos (.inl (by rw [busy_nat]; exact q3))]) (by decide) (XTouch.refl _ _)
    · have nb : ¬ S.busy k = true := by rw [busy_nat, q3]; decide
      refine split_of (fun qw => split_of (fun q4 => ?_) (fun q4 => split_of (fun qn => by rw [qw] at qn; cases qn) (fun _ => yes ?_))) (fun qw => split_of (fun _ => split_of (fun q4 => ?_) (fun q4 => yes ?_)) (fun qn => by rw [qw] at qn; cases qn))
      · have q4 := of_decide_eq_true q4
        exact no (n := 7) (by unfold PB.askE; rw [if_pos q, if_pos (.inr (by rw [if_pos qw]; omega))]) (by decide) (XTouch.refl _ _)
      · have q4 := of_decide_eq_false q4
        unfold PB.askE
        rw [if_pos q, if_neg]
        rintro (e | e)
        · exact nb e
        · rw [if_pos qw] at e; omega
      · have q4 := of_decide_eq_true q4
        exact no (n := 7) (by unfold PB.askE; rw [if_pos q, if_pos (.inr (by rw [qw]; simp; omega))]) (by decide) (XTouch.refl _ _)
      · have q4 := of_decide_eq_false q4
        unfold PB.askE
        rw [if_pos q, if_neg]
        rintro (e | e)
        · exact nb e
        · rw [qw] at e; simp at e; omega
theorem askN_pok (hP : P.Ok S) (core : Int) (a : Nat) (wr : Bool) : P.Ok (S.askN core a wr) := by
  unfold PB.askN
  split
  · exact ⟨hP.g, hP.r, hP.rel, hP.left, hP.le⟩
  · exact hP
end Go.Proofs.YtbiogceijdcoiaaDoor
