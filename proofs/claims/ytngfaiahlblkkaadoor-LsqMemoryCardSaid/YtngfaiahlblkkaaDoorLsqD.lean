/- The queue, part D: Retire, Oldest, Drain. No condition. -/
import Derived.Test.YtngfaiahlblkkaaDoorLsqC
namespace Go.Proofs.YtngfaiahlblkkaaDoor
open Go.RowKit Go.XHeap Go.Sx Go.Sep
set_option linter.unusedVariables false
set_option maxRecDepth 100000
variable {W w' : World} {b : Nat} {q v : PQ}

/-! ### Retire -/
inductive RetR where
  | err (n : Int)
  | ret (k : Nat)
  | del (k : Nat)
def retE (s : Int) (k : Nat) (e : En) : RetR := if e.seq ≠ s then .err 5 else if (e.store && e.placed && e.valued) = true then .ret k else if e.loaded = true then .del k else .err 7
def retireR (s : Int) (es : Ens) : RetR := match posOf (fun e => !e.retired) es with
  | none => .err 5
  | some k => match es[k]? with
    | none => .err 5
    | some x => retE s k x.2
def RetirePost (W : World) (b : Nat) (q : PQ) (s : Int) (e : Ending) (w : World) : Prop := match retireR s q.es with
  | .err n => e = .returned (errN n) ∧ Sep.Post (qA b q) W (qA b q) w
  | .ret k => e = .returned .nilIface ∧ ∃ x, q.es[k]? = some x ∧ Sep.Post (qA b q) W (qA b { q with es := q.es.set k (x.1, { x.2 with retired := true }) }) w
  | .del k => e = .returned .nilIface ∧ ∃ (p : Option Addr) (c : Nat), Sep.Post (qA b q) W (qA b { q with p := p, cap := c, es := q.es.eraseIdx k }) w
theorem retC_any {A : World} {x : Nat × En} (hb : Blk A x.1 x.2.cells 90) : Calls Tryd.prog 40 #[.pointer (some ⟨x.1, 0, none⟩)] A fun e w => e = .returned (.bool (!x.2.retired)) ∧ Hush A w :=
  vc40 x.1 0 ⟨x.2.retired, hb.cell' rfl, rfl, XTouch.refl _ _⟩
/-- one is deleted -/
theorem q_del {A : World} {k : Nat} (hn : q.es.length ≤ 32) (hk : k < q.es.length) (H : St W (qA b q).own A (q.pieces b ++ [])) {φ : World → Prop}
    (hq : ∀ p c w, Sep.Post (qA b q) W (qA b { q with p := p, cap := c, es := q.es.eraseIdx k }) w → φ w) :
    ∃ p6 k11 k12, A.cell? ⟨b, 0 + 1, none⟩ = some (.slice p6 k11 k12) ∧ ∀ z3 : Int, z3 = IntKind.wrap .i64 ((k : Int) + 1) → Calls Tryd.prog 41 #[.slice p6 k11 k12, .int .i64 (k : Nat), .int .i64 z3] A fun e2 W4 => ∃ p7 k13 k14, e2 = .returned (.slice p7 k13 k14) ∧
      (∃ u, W4.cell? ⟨b, 0 + 1, none⟩ = some u) ∧ W4.frozen? ⟨b, 0 + 1, none⟩ = false ∧ ∀ W5 : World, W5 = W4.setCell ⟨b, 0 + 1, none⟩ (.slice p7 k13 k14) → φ W5 := by
  refine ⟨_, _, _, H.ld 0 rfl rfl, ?_⟩
  rintro z3 rfl
  rw [w64 (by omega) (by omega)]
  refine H.callx (E := fun z : Option Addr × Nat => .returned (.slice z.1 (q.es.length - 1) z.2)) 1 rfl (del_any (H.nth 1 rfl) hn hk) fun z B H => ⟨_, _, _, rfl, ?_⟩
  refine H.st 0 rfl (by show 1 < 2; omega) fun C H => hq z.1 z.2 C ?_
  have hl : (q.es.eraseIdx k).length = q.es.length - 1 := by rw [List.length_eraseIdx, if_pos hk]
  refine q_cut (L := []) (List.eraseIdx_sublist _ _) ?_
  rw [hl]
  exact H
theorem retire_any (h : (qA b q).at_ W) (hn : q.es.length ≤ 32) (s : Int) : Calls Tryd.prog 11 #[.pointer (some ⟨b, 0, none⟩), .int .i64 s] W (RetirePost W b q s) := by
  have H := q_open h
  refine vc11 b 0 s ⟨_, _, _, H.ld 0 rfl rfl, (idx_r (H.nth 1 rfl) hn (fun e => !e.retired) fun i x B hx hh => retC_any ((ent_blk (H.nth 2 rfl) hx).keep hh (fun e => e))).mono ?_⟩
  rintro e A ⟨rfl, hh⟩
  have bad : ∀ n, retireR s q.es = .err n → RetirePost W b q s (.returned (errN n)) A := fun n e => by unfold RetirePost; rw [e]; exact ⟨rfl, q_same h hh⟩
  have H : St W (qA b q).own A (q.pieces b ++ []) := H.quiet hh
  cases hp : posOf (fun e => !e.retired) q.es with
  | none => exact ⟨-1, rfl, split_of (fun _ => bad 5 (by unfold retireR; rw [hp])) (fun q => by simp at q)⟩
  | some k =>
    obtain ⟨x, hx, -, -⟩ := pos_some hp
    have hkl := (List.getElem?_eq_some_iff.1 hx).1
    obtain ⟨g, o, hpp, hc⟩ := ptr_at (H.nth 1 rfl) hx
    have hB := ent_blk (H.nth 2 rfl) hx
    have hr : retireR s q.es = retE s k x.2 := by unfold retireR; rw [hp]; show (match q.es[k]? with | none => _ | some x => _) = _; rw [hx]
    refine ⟨((k : Nat) : Int), rfl, split_of (fun q => ?_) (fun _ => ?_)⟩
    · have := of_decide_eq_true q; omega
    refine ⟨_, _, _, H.ld 0 rfl rfl, ⟨by omega, by omega⟩, adr_eq hpp ⟨_, hc, ptr_some ⟨x.2.seq, by rw [add_none]; exact hB.cell' rfl, split_of (fun q1 => bad 5 (by rw [hr]; unfold retE; rw [if_pos (by simpa using q1)])) (fun q1 => ?_)⟩⟩⟩
    have q1 : ¬ x.2.seq ≠ s := by simpa using q1
    have tail : (x.2.store && x.2.placed && x.2.valued) = false → Sx.ptr (some ⟨x.1, 0, none⟩) fun a => ∃ t : Bool, A.cell? (a.add 7) = some (.bool t) ∧ Sx.split t (∃ p6 k11 k12, A.cell? ⟨b, 0 + 1, none⟩ = some (.slice p6 k11 k12) ∧ ∀ z3 : Int, z3 = IntKind.wrap .i64 ((k : Int) + 1) → Calls Tryd.prog 41 #[.slice p6 k11 k12, .int .i64 (k : Nat), .int .i64 z3] A fun e2 W4 => ∃ p7 k13 k14, e2 = .returned (.slice p7 k13 k14) ∧
      (∃ u, W4.cell? ⟨b, 0 + 1, none⟩ = some u) ∧ W4.frozen? ⟨b, 0 + 1, none⟩ = false ∧ ∀ W5 : World, W5 = W4.setCell ⟨b, 0 + 1, none⟩ (.slice p7 k13 k14) → RetirePost W b q s (.returned .nilIface) W5) (RetirePost W b q s (.returned (errN 7)) A) := by
      intro hno
      refine ptr_some ⟨x.2.loaded, by rw [add_none]; exact hB.cell' rfl, split_of (fun q2 => ?_) (fun q2 => ?_)⟩
      · refine q_del hn hkl H fun p c w hP => ?_
        unfold RetirePost
        rw [hr]
        unfold retE
        rw [if_neg q1, if_neg (by rw [hno]; decide), if_pos q2]
        exact ⟨rfl, p, c, hP⟩
      · exact bad 7 (by rw [hr]; unfold retE; rw [if_neg q1, if_neg (by rw [hno]; decide), if_neg (by rw [q2]; decide)])
    refine ⟨_, _, _, H.ld 0 rfl rfl, ⟨by omega, by omega⟩, adr_eq hpp ⟨_, hc, ptr_some ⟨x.2.store, by rw [add_none]; exact hB.cell' rfl, split_of (fun q2 => ?_) (fun q2 => tail (by rw [q2]; rfl))⟩⟩⟩
    refine ptr_some ⟨x.2.placed, by rw [add_none]; exact hB.cell' rfl, split_of (fun q3 => ?_) (fun q3 => tail (by rw [q2, q3]; rfl))⟩
    refine ptr_some ⟨x.2.valued, by rw [add_none]; exact hB.cell' rfl, split_of (fun q4 => ?_) (fun q4 => tail (by rw [q2, q3, q4]; rfl))⟩
    refine ptr_some ?_
    rw [add_none]
    refine H.ent 2 rfl hx { x.2 with retired := true } (by omega) rfl fun C H => ?_
    unfold RetirePost
    rw [hr]
    unfold retE
    rw [if_neg q1, if_pos (by rw [q2, q3, q4]; rfl)]
    exact ⟨rfl, x, hx, q_turned hx (L := []) H⟩
/-! ### Oldest -/
def oldestOf (es : Ens) : Option En := match es with
  | x :: _ => if x.2.retired then some x.2 else none
  | [] => none
theorem oldest_cons (x : Nat × En) (r : Ens) : oldestOf (x :: r) = if x.2.retired then some x.2 else none := rfl
def wrV : Option En → Array Value
  | some e => #[.int .u32 e.addr, .int .i64 e.size, .int .u32 ((e.data % 2 ^ (8 * e.size) : Nat) : Int)]
  | none => #[.int .u32 0, .int .i64 0, .int .u32 0]
def AllOk (es : Ens) : Prop := ∀ x ∈ es, x.2.Ok
theorem oldest_any (h : (qA b q).at_ W) (ho : AllOk q.es) : Calls Tryd.prog 38 #[.pointer (some ⟨b, 0, none⟩)] W fun e w => e = .returned (.tuple #[.agg (wrV (oldestOf q.es)), .bool (oldestOf q.es).isSome]) ∧ Hush W w := by
  refine vc38 b 0 ((St.nil W).al fun k A H => ?_)
  have H : St W No A [blk k #[.int .u32 0, .int .i64 0, .int .u32 0] 83] := H
  have R := q_open ((qA b q).keep h H.touch (fun _ _ e => e))
  have out : ∀ {B : World} (vs : Array Value) (t : Bool), vs.size = 3 → (∀ v ∈ vs.toList, v.oneCell' = true) → St W No B [blk k #[.int .u32 0, .int .i64 0, .int .u32 0] 83] → vs = wrV (oldestOf q.es) → t = (oldestOf q.es).isSome →
      vs.size = 3 ∧ (∀ j : Nat, j < 3 → (∃ v, B.cell? ⟨k, 0 + j, none⟩ = some v) ∧ B.frozen? ⟨k, 0 + j, none⟩ = false) ∧ (∀ v : Value, v ∈ vs.toList → v.oneCell' = true) ∧ ∀ w' : World, w' = B.setCells k 0 vs.toList → ∃ vs2 : Array Value, vs2.size = 3 ∧ cellsAt w' ⟨k, 0, none⟩ vs2 ∧ (Ending.returned (.tuple #[.agg vs2, .bool t]) = .returned (.tuple #[.agg (wrV (oldestOf q.es)), .bool (oldestOf q.es).isSome]) ∧ Hush W w') := by
    intro B vs t hs h1 H e1 e2
    refine H.sts0 0 rfl hs rfl h1 fun C H => ⟨vs, hs, H.cells 0 rfl, ?_, H.touch⟩
    rw [e1, e2]
  have one0 : ∀ v ∈ (#[Value.int .u32 0, .int .i64 0, .int .u32 0] : Array Value).toList, v.oneCell' = true := by intro v hv; simp at hv; rcases hv with rfl | rfl | rfl <;> rfl
  refine ⟨_, _, _, R.ld 0 rfl rfl, split_of (fun q0 => ?_) (fun q0 => ?_)⟩
  · have q0 : q.es = [] := List.eq_nil_of_length_eq_zero (by have : ((q.es.length : Nat) : Int) = 0 := by simpa using q0
                                                             omega)
    rintro vs rfl
    exact out _ false rfl one0 H (by rw [q0]; rfl) (by rw [q0]; rfl)
  have q0 : q.es.length ≠ 0 := fun e => by rw [e] at q0; simp at q0
  obtain ⟨x, r, hes⟩ : ∃ x r, q.es = x :: r := by
    match hq : q.es with
    | [] => rw [hq] at q0; exact absurd rfl q0
    | x :: r => exact ⟨x, r, rfl⟩
  have hx : q.es[0]? = some x := by rw [hes]; rfl
  have hxo := ho x (List.mem_of_getElem? hx)
  obtain ⟨g, o, hpp, hc⟩ := ptr_at (R.nth 1 rfl) hx
  have hc : A.cell? ⟨g, o + 0, none⟩ = some (.pointer (some ⟨x.1, 0, none⟩)) := hc
  have hB := ent_blk (R.nth 2 rfl) hx
  refine ⟨_, _, _, R.ld 0 rfl rfl, ⟨by omega, by omega⟩, adr_eq hpp ⟨_, hc, ptr_some ⟨x.2.retired, by rw [add_none]; exact hB.cell' rfl, split_of (fun q1 => ?_) (fun q1 => ?_)⟩⟩⟩
  · have q1 : x.2.retired = false := by simpa using q1
    have e : oldestOf q.es = none := by rw [hes, oldest_cons, q1]; rfl
    rintro vs rfl
    exact out _ false rfl one0 H (by rw [e]; rfl) (by rw [e]; rfl)
  · have q1 : x.2.retired = true := by simpa using q1
    have e : oldestOf q.es = some x.2 := by rw [hes, oldest_cons, q1]; rfl
    refine ⟨_, _, _, R.ld 0 rfl rfl, ⟨by omega, by omega⟩, adr_eq hpp ⟨_, hc, ?_⟩⟩
    refine H.dr fun B H => ?_
    have R := q_open ((qA b q).keep h H.touch (fun _ _ e => e))
    have hB := ent_blk (R.nth 2 rfl) hx
    refine ptr_some ⟨x.2.addr, by rw [add_none]; exact hB.cell' rfl, ptr_some ⟨x.2.size, by rw [add_none]; exact hB.cell' rfl, ptr_some ⟨x.2.data, by rw [add_none]; exact hB.cell' rfl, ptr_some ⟨x.2.size, by rw [add_none]; exact hB.cell' rfl, ?_⟩⟩⟩⟩
    have hsz : x.2.size = 1 ∨ x.2.size = 2 ∨ x.2.size = 4 := by
      have h1 := hxo.siz (hxo.ret q1).2.1
      rcases hxo.size with h2 | h2
      · exact absurd h2 h1
      · exact h2
    have hd := hxo.data
    rintro z5 rfl
    rw [w64 (e := 8 * (x.2.size : Int)) (by omega) (by omega)]
    rintro z6 rfl
    rw [w64 (e := 32 - 8 * (x.2.size : Int)) (by omega) (by omega)]
    refine ⟨by omega, ?_⟩
    rintro z7 rfl
    refine ptr_some ⟨x.2.size, by rw [add_none]; exact hB.cell' rfl, ?_⟩
    rintro z9 rfl
    rw [w64 (e := 8 * (x.2.size : Int)) (by omega) (by omega)]
    rintro z10 rfl
    rw [w64 (e := 32 - 8 * (x.2.size : Int)) (by omega) (by omega)]
    refine ⟨by omega, ?_⟩
    rintro z11 rfl
    rintro vs rfl
    refine out _ true rfl (by intro v hv; simp at hv; rcases hv with rfl | rfl | rfl <;> rfl) H ?_ (by rw [e]; rfl)
    rw [e]
    unfold wrV
    have key : (IntKind.wrap .u32 ((x.2.data : Int) * 2 ^ min (32 - 8 * (x.2.size : Int)).toNat (IntKind.bits .u32))).fdiv (2 ^ min (32 - 8 * (x.2.size : Int)).toNat (IntKind.bits .u32)) = ((x.2.data % 2 ^ (8 * x.2.size) : Nat) : Int) := by
      rw [w32m]
      have hbits : IntKind.bits .u32 = 32 := rfl
      rw [hbits]
      rcases hsz with e | e | e
      · rw [e]
        show (((x.2.data : Int) * 16777216) % 4294967296).fdiv 16777216 = ((x.2.data % 256 : Nat) : Int)
        rw [Int.fdiv_eq_ediv_of_nonneg _ (by decide)]
        omega
      · rw [e]
        show (((x.2.data : Int) * 65536) % 4294967296).fdiv 65536 = ((x.2.data % 65536 : Nat) : Int)
        rw [Int.fdiv_eq_ediv_of_nonneg _ (by decide)]
        omega
      · rw [e]
        show (((x.2.data : Int) * 1) % 4294967296).fdiv 1 = ((x.2.data % 4294967296 : Nat) : Int)
        rw [Int.fdiv_eq_ediv_of_nonneg _ (by decide)]
        omega
    rw [key]
/-! ### Drain -/
def En.setFr (e : En) (b : Nat) (x : Int) : En := match b with
  | 0 => { e with f0 := x }
  | 1 => { e with f1 := x }
  | 2 => { e with f2 := x }
  | _ => { e with f3 := x }
theorem cells_fr (e : En) {b : Nat} (h : b < 4) : e.cells[8 + b]? = some (.int .i64 (e.fr b)) := by
  match b, h with
  | 0, _ => rfl
  | 1, _ => rfl
  | 2, _ => rfl
  | 3, _ => rfl
theorem cells_setFr (e : En) {b : Nat} (h : b < 4) (x : Int) : (e.setFr b x).cells = e.cells.setIfInBounds (8 + b) (.int .i64 x) := by
  match b, h with
  | 0, _ => rfl
  | 1, _ => rfl
  | 2, _ => rfl
  | 3, _ => rfl
def drainB (s : Int) (e : En) : Nat → En
  | 0 => e
  | b + 1 => let e' := drainB s e b
    if e'.loaded = true ∧ e'.fr b = s then e'.setFr b (-1) else e'
theorem mid_get {α : Type} {l1 l2 : List α} {y : α} {j : Nat} (h : l1.length = j) : (l1 ++ y :: l2)[j]? = some y := by
  rw [List.getElem?_append_right (by omega), h, Nat.sub_self]; rfl
theorem mid_set {α : Type} {l1 l2 : List α} {y z : α} {j : Nat} (h : l1.length = j) : (l1 ++ y :: l2).set j z = l1 ++ z :: l2 := by
  rw [List.set_append_right _ _ (by omega), h, Nat.sub_self]; rfl
def drained (s : Int) (l : Ens) : Ens := l.map fun x => (x.1, drainB s x.2 4)
def DrainPost (W : World) (b : Nat) (q : PQ) (e : Ending) (w : World) : Prop := match oldestOf q.es with
  | none => e = .returned (errN 7) ∧ Sep.Post (qA b q) W (qA b q) w
  | some o => e = .returned .nilIface ∧ ∃ (p : Option Addr) (c : Nat), Sep.Post (qA b q) W (qA b { q with p := p, cap := c, es := drained o.seq (q.es.drop 1) }) w
theorem ptrs_same {es es' : Ens} (h : es.map (·.1) = es'.map (·.1)) : ptrs es = ptrs es' := by
  have : ∀ l : Ens, ptrs l = (l.map (·.1)).map fun k => Value.pointer (some ⟨k, 0, none⟩) := fun l => by simp [ptrs]
  rw [this, this, h]
theorem drain_any (h : (qA b q).at_ W) (ho : AllOk q.es) (hn : q.es.length ≤ 32) : Calls Tryd.prog 29 #[.pointer (some ⟨b, 0, none⟩)] W (DrainPost W b q) := by
  refine vc29 b 0 ((oldest_any h ho).mono ?_)
  rintro e A ⟨rfl, hh⟩
  have H : St W (qA b q).own A (q.pieces b ++ []) := (q_open h).quiet hh
  refine ⟨_, _, rfl, ?_⟩
  refine H.al fun k B H => ?_
  have hsz : (wrV (oldestOf q.es)).size = 3 := by cases oldestOf q.es <;> rfl
  refine H.sts0 3 rfl hsz rfl ?_ fun C H => ?_
  · intro v hv
    cases hq : oldestOf q.es with
    | none => rw [hq] at hv; simp [wrV] at hv; rcases hv with rfl | rfl | rfl <;> rfl
    | some e => rw [hq] at hv; simp [wrV] at hv; rcases hv with rfl | rfl | rfl <;> rfl
  cases hq : oldestOf q.es with
  | none =>
    refine split_of (fun _ => ?_) (fun q => by cases q)
    unfold DrainPost
    rw [hq]
    exact ⟨rfl, q_shut H⟩
  | some o =>
    refine split_of (fun q => by cases q) (fun _ => ?_)
    obtain ⟨x, r, hes, hxr, rfl⟩ : ∃ x r, q.es = x :: r ∧ x.2.retired = true ∧ o = x.2 := by
      match he : q.es with
      | [] => rw [he] at hq; cases hq
      | x :: r =>
        rw [he] at hq
        rw [oldest_cons] at hq
        cases hr : x.2.retired with
        | true =>
          rw [hr] at hq
          have hq : some x.2 = some o := hq
          exact ⟨x, r, rfl, hr, by simpa using hq.symm⟩
        | false => rw [hr] at hq; cases hq
    have hx : q.es[0]? = some x := by rw [hes]; rfl
    have hpos : 0 < q.es.length := by rw [hes]; exact Nat.succ_pos _
    obtain ⟨g, oo, hpp, hc⟩ := ptr_at (H.nth 1 rfl) hx
    have hc : C.cell? ⟨g, oo + 0, none⟩ = some (.pointer (some ⟨x.1, 0, none⟩)) := hc
    have hB := ent_blk (H.nth 2 rfl) hx
    refine ⟨_, _, _, H.ld 0 rfl rfl, ⟨by omega, by omega⟩, adr_eq hpp ⟨_, hc, ptr_some ⟨x.2.seq, by rw [add_none]; exact hB.cell' rfl, ?_⟩⟩⟩
    refine ⟨_, _, _, H.ld 0 rfl rfl, ?_⟩
    refine H.callx (E := fun z : Option Addr × Nat => .returned (.slice z.1 (q.es.length - 1) z.2)) 1 rfl (del_any (i := 0) (H.nth 1 rfl) hn hpos) fun z D H => ⟨_, _, _, rfl, ?_⟩
    refine H.st 0 rfl (by show 1 < 2; omega) fun E H => ⟨_, _, _, H.ld 0 rfl rfl, ?_⟩
    have her : q.es.eraseIdx 0 = r := by rw [hes]; rfl
    have hrl : q.es.length - 1 = r.length := by rw [hes]; rfl
    have hsub : r.Sublist q.es := by rw [hes]; exact List.sublist_cons_self _ _
    have hs := ents_sub (W := E) hsub
    have H := H.conv 2 rfl (A' := entsA r) hs.2 hs.1
    rw [her, hrl] at H
    rw [hrl]
    have H := H.take 3
    have H : St W (qA b q).own E [blk b #[.int .i64 q.size, .slice z.1 r.length z.2] 81, sl 87 1 (.slice z.1 r.length z.2) r.length (ptrs r), entsA r] := H
    have hr32 : r.length ≤ 32 := by omega
    refine ⟨fun i A => ∃ j : Nat, i = j ∧ j ≤ r.length ∧ St W (qA b q).own A [blk b #[.int .i64 q.size, .slice z.1 r.length z.2] 81, sl 87 1 (.slice z.1 r.length z.2) r.length (ptrs r), entsA (drained x.2.seq (r.take j) ++ r.drop j)], fun i _ => r.length - i.toNat, ⟨0, rfl, Nat.zero_le _, by rw [List.take_zero, List.drop_zero]; exact H⟩, fun _ => ?_⟩
    clear H
    rintro i F ⟨j, rfl, hj, H⟩
    refine split_of (fun q1 => ?_) (fun q1 => ?_)
    · have q1 := of_decide_eq_true q1
      have hjl : j < r.length := by omega
      have hy := List.getElem?_eq_getElem hjl
      obtain ⟨g, oo, hpp, hc⟩ := ptr_at (H.nth 1 rfl) hy
      obtain ⟨y, hyy⟩ : ∃ y, y = r[j] := ⟨_, rfl⟩
      rw [← hyy] at hc hy
      have hdr : r.drop j = y :: r.drop (j + 1) := by rw [hyy]; exact List.drop_eq_getElem_cons hjl
      have hdl : (drained x.2.seq (r.take j)).length = j := by unfold drained; rw [List.length_map, List.length_take]; omega
      rw [hdr] at H
      refine ⟨⟨by omega, q1⟩, adr_eq hpp ⟨_, hc, ?_⟩⟩
      refine ⟨fun i A => ∃ c : Nat, i = c ∧ c ≤ 4 ∧ St W (qA b q).own A [blk b #[.int .i64 q.size, .slice z.1 r.length z.2] 81, sl 87 1 (.slice z.1 r.length z.2) r.length (ptrs r), entsA (drained x.2.seq (r.take j) ++ (y.1, drainB x.2.seq y.2 c) :: r.drop (j + 1))], fun i _ => 4 - i.toNat, ⟨0, rfl, by omega, H⟩, fun _ => ?_⟩
      clear H
      rintro i G ⟨c, rfl, hc4, H⟩
      refine split_of (fun q2 => ?_) (fun q2 => ?_)
      · have q2 := of_decide_eq_true q2
        have hc4 : c < 4 := by omega
        have hm := mid_get (l2 := r.drop (j + 1)) (y := (y.1, drainB x.2.seq y.2 c)) hdl
        have hB := ent_blk (H.nth 2 rfl) hm
        have next : ∀ {A : World}, St W (qA b q).own A [blk b #[.int .i64 q.size, .slice z.1 r.length z.2] 81, sl 87 1 (.slice z.1 r.length z.2) r.length (ptrs r), entsA (drained x.2.seq (r.take j) ++ (y.1, drainB x.2.seq y.2 (c + 1)) :: r.drop (j + 1))] → ∀ z3 : Int, z3 = IntKind.wrap .i64 ((c : Int) + 1) → (∃ c : Nat, z3 = c ∧ c ≤ 4 ∧ St W (qA b q).own A [blk b #[.int .i64 q.size, .slice z.1 r.length z.2] 81, sl 87 1 (.slice z.1 r.length z.2) r.length (ptrs r), entsA (drained x.2.seq (r.take j) ++ (y.1, drainB x.2.seq y.2 c) :: r.drop (j + 1))]) ∧ 4 - z3.toNat < 4 - (c : Int).toNat := by
          rintro A H z3 rfl
          rw [w64 (by omega) (by omega)]
          exact ⟨⟨c + 1, by omega, by omega, H⟩, by omega⟩
        have e8 : ∀ o : Nat, o = 0 → (o + 8 + (c : Int).toNat * 1) = 8 + c := fun o e => by omega
        refine ptr_some ⟨(drainB x.2.seq y.2 c).loaded, by rw [add_none]; exact hB.cell' rfl, split_of (fun q3 => ?_) (fun q3 => ?_)⟩
        · refine ptr_some ⟨⟨by omega, by omega⟩, (drainB x.2.seq y.2 c).fr c, by rw [e8 _ rfl]; exact hB.cell' (cells_fr _ hc4), split_of (fun q4 => ?_) (fun q4 => ?_)⟩
          · have q4 : (drainB x.2.seq y.2 c).fr c = x.2.seq := by simpa using q4
            refine ptr_some ⟨⟨by omega, by omega⟩, ?_⟩
            rw [e8 _ rfl]
            refine H.ent 2 rfl hm ((drainB x.2.seq y.2 c).setFr c (-1)) (by omega) (cells_setFr _ hc4 _) fun A H => next ?_
            rw [mid_set hdl] at H
            have : drainB x.2.seq y.2 (c + 1) = (drainB x.2.seq y.2 c).setFr c (-1) := by
              show (if _ then _ else _) = _
              rw [if_pos ⟨q3, q4⟩]
            rw [this]
            exact H
          · have q4 : ¬ (drainB x.2.seq y.2 c).fr c = x.2.seq := by simpa using q4
            refine next ?_
            have : drainB x.2.seq y.2 (c + 1) = drainB x.2.seq y.2 c := by
              show (if _ then _ else _) = _
              rw [if_neg (fun e => q4 e.2)]
            rw [this]
            exact H
        · refine next ?_
          have : drainB x.2.seq y.2 (c + 1) = drainB x.2.seq y.2 c := by
            show (if _ then _ else _) = _
            rw [if_neg (fun e => by rw [q3] at e; cases e.1)]
          rw [this]
          exact H
      · have q2 := of_decide_eq_false q2
        obtain rfl : c = 4 := by omega
        rintro z6 rfl
        rw [w64 (by omega) (by omega)]
        refine ⟨⟨j + 1, by omega, by omega, ?_⟩, by show r.length - ((j : Int) + 1).toNat < r.length - (j : Int).toNat; omega⟩
        have : drained x.2.seq (r.take (j + 1)) = drained x.2.seq (r.take j) ++ [(y.1, drainB x.2.seq y.2 4)] := by
          unfold drained
          rw [List.take_add_one, hy, List.map_append]; rfl
        rw [this, List.append_assoc]
        exact H
    · have q1 := of_decide_eq_false q1
      obtain rfl : j = r.length := by omega
      rw [List.take_length, List.drop_length, List.append_nil] at H
      unfold DrainPost
      rw [hq]
      refine ⟨rfl, z.1, z.2, q_shut (L := []) ?_⟩
      have hd1 : q.es.drop 1 = r := by rw [hes]; rfl
      show St W (qA b q).own F ([blk b #[.int .i64 q.size, .slice z.1 (drained x.2.seq (q.es.drop 1)).length z.2] 81, sl 87 1 (.slice z.1 (drained x.2.seq (q.es.drop 1)).length z.2) (drained x.2.seq (q.es.drop 1)).length (ptrs (drained x.2.seq (q.es.drop 1))), entsA (drained x.2.seq (q.es.drop 1))] ++ [])
      rw [hd1]
      have e1 : (drained x.2.seq r).length = r.length := by unfold drained; rw [List.length_map]
      have e2 : ptrs (drained x.2.seq r) = ptrs r := ptrs_same (by unfold drained; rw [List.map_map]; rfl)
      rw [e1, e2]
      exact H
end Go.Proofs.YtngfaiahlblkkaaDoor
