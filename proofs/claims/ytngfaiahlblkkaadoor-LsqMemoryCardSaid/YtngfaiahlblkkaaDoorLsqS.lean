/- The document's queue, part B: Retire, Squash, Drain, Spoil. No condition. -/
import Derived.Test.YtngfaiahlblkkaaDoorLsqR
namespace Go.Proofs.YtngfaiahlblkkaaDoor
open Go.RowKit Go.XHeap Go.Sx Go.Sep Go.Bits
set_option linter.unusedVariables false
set_option maxRecDepth 100000
variable {W w' : World} {b : Nat} {q v : RQ}

/-! ### Retire -/
def rretE (s : Int) (k : Nat) (e : En) : RetR := if e.seq ≠ s then .err 5 else if (e.store && e.placed && e.valued) = true then .ret k else if (!e.store && e.loaded) = true then .del k else .err 7
def rretireR (s : Int) (L : List En) : RetR := match L.findIdx? fun e => !e.retired with
  | none => .err 5
  | some k => match L[k]? with
    | none => .err 5
    | some x => rretE s k x
def rRetirePost (W : World) (b : Nat) (q : RQ) (s : Int) (e : Ending) (w : World) : Prop := match rretireR s q.L with
  | .err n => e = .returned (.int .i64 n) ∧ Sep.Post (rA b q) W (rA b q) w
  | .ret k => e = .returned (.int .i64 0) ∧ ∃ x, q.L[k]? = some x ∧ Sep.Post (rA b q) W (rA b { q with L := q.L.set k { x with retired := true } }) w
  | .del k => e = .returned (.int .i64 0) ∧ ∃ (p : Option Addr) (c : Nat), Sep.Post (rA b q) W (rA b { q with p := p, cap := c, L := q.L.eraseIdx k }) w
theorem rretire_any (h : (rA b q).at_ W) (hn : q.L.length ≤ 32) (s : Int) : Calls Tryd.prog 28 #[.pointer (some ⟨b, 0, none⟩), .int .i64 s] W (rRetirePost W b q s) := by
  refine vc28 b 0 s ((rfirst_any h hn).mono ?_)
  rintro e A ⟨rfl, rfl⟩
  have H := r_open h
  have bad : ∀ n, rretireR s q.L = .err n → ∀ {B : World}, St A (rA b q).own B [rA b q] → rRetirePost A b q s (.returned (.int .i64 n)) B := fun n e B H => by unfold rRetirePost; rw [e]; exact ⟨rfl, H.post 0 rfl⟩
  have bad0 : ∀ n, rretireR s q.L = .err n → rRetirePost A b q s (.returned (.int .i64 n)) A := fun n e => bad n e (St.begin h)
  cases hp : q.L.findIdx? (fun e => !e.retired) with
  | none => exact ⟨-1, rfl, split_of (fun _ => bad0 5 (by unfold rretireR; rw [hp])) (fun q => by simp at q)⟩
  | some k =>
    obtain ⟨x, hx, -, -⟩ := rpos_some hp
    have hkl := (List.getElem?_eq_some_iff.1 hx).1
    obtain ⟨g, off, hpp, hcs, hc⟩ := re_at (H.nth 1 rfl) hx
    have hr : rretireR s q.L = rretE s k x := by unfold rretireR; rw [hp]; show (match q.L[k]? with | none => _ | some x => _) = _; rw [hx]
    refine ⟨((k : Nat) : Int), rfl, split_of (fun q => ?_) (fun _ => ?_)⟩
    · have := of_decide_eq_true q; omega
    refine ⟨_, _, _, H.ld 0 rfl rfl, ⟨by omega, by omega⟩, adr_eq hpp ⟨_, hc 0 _ rfl, split_of (fun q1 => bad0 5 (by rw [hr]; unfold rretE; rw [if_pos (by simpa using q1)])) (fun q1 => ?_)⟩⟩
    have q1 : ¬ x.seq ≠ s := by simpa using q1
    refine ⟨_, _, _, H.ld 0 rfl rfl, ⟨by omega, by omega⟩, adr_eq hpp ⟨x.rc.toArray, rfl, hcs, ?_⟩⟩
    refine (St.begin h).al fun k9 B H => H.sts0 1 rfl rfl rfl (rc_one x) fun C H => ?_
    have H : St A (rA b q).own C [rA b q, blk k9 x.rc.toArray 98] := H
    have tail : (x.store && x.placed && x.valued) = false → ∃ t4 : Bool, C.cell? ⟨k9, 0 + 1, none⟩ = some (.bool t4) ∧ Sx.split (!t4) (∃ t5 : Bool, C.cell? ⟨k9, 0 + 7, none⟩ = some (.bool t5) ∧ Sx.split t5 (Calls Tryd.prog 51 #[.pointer (some ⟨b, 0, none⟩), .int .i64 (k : Nat)] C fun e2 W6 => e2 = .returned (.tuple #[]) ∧ rRetirePost A b q s (.returned (.int .i64 0)) W6) (rRetirePost A b q s (.returned (.int .i64 7)) C)) (rRetirePost A b q s (.returned (.int .i64 7)) C) := by
      intro hno
      have no7 : (!x.store && x.loaded) = false → rRetirePost A b q s (.returned (.int .i64 7)) C := fun e => bad 7 (by rw [hr]; unfold rretE; rw [if_neg q1, if_neg (by rw [hno]; decide), if_neg (by rw [e]; decide)]) (H.take 1)
      refine ⟨x.store, H.ld 1 rfl rfl, split_of (fun q2 => ⟨x.loaded, H.ld 1 rfl rfl, split_of (fun q3 => ?_) (fun q3 => no7 (by rw [q3, Bool.and_false]))⟩) (fun q2 => no7 (by rw [q2]; rfl))⟩
      refine (without_any (H.nth 0 rfl) hn k hkl).mono ?_
      rintro e D ⟨rfl, p, c, hP⟩
      refine ⟨rfl, ?_⟩
      unfold rRetirePost
      rw [hr]
      unfold rretE
      rw [if_neg q1, if_neg (by rw [hno]; decide), if_pos (by rw [q2, q3]; rfl)]
      exact ⟨rfl, p, c, (H.upd 0 rfl hP).post 0 rfl⟩
    refine ⟨x.store, H.ld 1 rfl rfl, split_of (fun q2 => ?_) (fun q2 => tail (by rw [q2]; rfl))⟩
    refine ⟨x.placed, H.ld 1 rfl rfl, split_of (fun q3 => ?_) (fun q3 => tail (by rw [q2, q3]; rfl))⟩
    refine ⟨x.valued, H.ld 1 rfl rfl, split_of (fun q4 => ?_) (fun q4 => tail (by rw [q2, q3, q4]; rfl))⟩
    have H : St A (rA b q).own C (q.pieces b ++ [blk k9 x.rc.toArray 98]) := H.open_
    refine ⟨_, _, _, H.ld 0 rfl rfl, ⟨by omega, by omega⟩, adr_eq hpp ?_⟩
    refine H.rent 1 rfl hx hpp { x with retired := true } (by omega) rfl fun D H => ?_
    unfold rRetirePost
    rw [hr]
    unfold rretE
    rw [if_neg q1, if_pos (by rw [q2, q3, q4]; rfl)]
    exact ⟨rfl, x, hx, r_turned (L := [_]) H⟩
/-! ### Squash -/
def goneP (s : Int) (e : En) : Bool := decide (e.seq > s) && !e.retired
def cutN (s : Int) (L : List En) : Nat → Nat
  | 0 => 0
  | n + 1 => match L[n]? with
    | some e => if goneP s e then cutN s L n else n + 1
    | none => n + 1
theorem cutN_le (s : Int) (L : List En) : ∀ n, cutN s L n ≤ n
  | 0 => Nat.le_refl _
  | n + 1 => by
    unfold cutN
    split
    · split
      · exact Nat.le_succ_of_le (cutN_le s L n)
      · exact Nat.le_refl _
    · exact Nat.le_refl _
theorem rsquash_any (h : (rA b q).at_ W) (hn : q.L.length ≤ 32) (s : Int) : Calls Tryd.prog 35 #[.pointer (some ⟨b, 0, none⟩), .int .i64 s] W fun e w => e = .returned (.tuple #[]) ∧ Sep.Post (rA b q) W (rA b { q with L := q.L.take (cutN s q.L q.L.length) }) w := by
  obtain ⟨S, hSt⟩ : ∃ S : Nat → World → Prop, S = fun m A => m ≤ q.L.length ∧ cutN s q.L q.L.length = cutN s q.L m ∧ St W (rA b q).own A ([blk b #[.int .i64 q.size, .slice q.p m q.cap] 96, sl 98 13 (.slice q.p m q.cap) m (rents (q.L.take m))] ++ []) := ⟨_, rfl⟩
  have fin : ∀ (m : Nat) (B : World), S m B → cutN s q.L m = m → Ending.returned (.tuple #[]) = .returned (.tuple #[]) ∧ Sep.Post (rA b q) W (rA b { q with L := q.L.take (cutN s q.L q.L.length) }) B := by
    intro m B hS hm
    rw [hSt] at hS
    obtain ⟨h1, h2, H⟩ := hS
    refine ⟨rfl, r_shut (v := { q with L := q.L.take (cutN s q.L q.L.length) }) (L := []) ?_⟩
    show St W (rA b q).own B ([blk b #[.int .i64 q.size, .slice q.p (q.L.take (cutN s q.L q.L.length)).length q.cap] 96, sl 98 13 (.slice q.p (q.L.take (cutN s q.L q.L.length)).length q.cap) (q.L.take (cutN s q.L q.L.length)).length (rents (q.L.take (cutN s q.L q.L.length)))] ++ [])
    rw [h2, hm, List.length_take, Nat.min_eq_left h1]
    exact H
  refine vc35 b 0 s ⟨fun A => ∃ m, S m A, fun A => match A.cell? ⟨b, 1, none⟩ with
    | some (.slice _ n _) => n
    | _ => 0, ⟨q.L.length, by rw [hSt]; exact ⟨Nat.le_refl _, rfl, by rw [List.take_length]; exact r_open h⟩⟩, fun _ => ?_⟩
  rintro A ⟨m, hS⟩
  have hS0 := hS
  rw [hSt] at hS
  obtain ⟨h1, h2, H⟩ := hS
  refine ⟨_, _, _, H.ld 0 rfl rfl, split_of (fun q1 => ?_) (fun q1 => H.drN fun B H => fin m B (by rw [hSt]; exact ⟨h1, h2, H⟩) (by have q1 := of_decide_eq_false q1; rw [show m = 0 by omega]; rfl))⟩
  have q1 := of_decide_eq_true q1
  obtain ⟨j, rfl⟩ : ∃ j, m = j + 1 := ⟨m - 1, by omega⟩
  have ez : IntKind.wrap .i64 (((j + 1 : Nat) : Int) - 1) = (j : Nat) := by rw [w64 (by omega) (by omega)]; omega
  have hx0 := List.getElem?_eq_getElem (show j < q.L.length by omega)
  obtain ⟨x, hxe⟩ : ∃ x, x = q.L[j] := ⟨_, rfl⟩
  rw [← hxe] at hx0
  have hx : (q.L.take (j + 1))[j]? = some x := by rw [List.getElem?_take_of_lt (by omega)]; exact hx0
  have hstep : cutN s q.L (j + 1) = if goneP s x then cutN s q.L j else j + 1 := by
    show (match q.L[j]? with | some e => if goneP s e then cutN s q.L j else j + 1 | none => j + 1) = _
    rw [hx0]
  obtain ⟨g, off, hp, -, hc⟩ := re_at (H.nth 1 rfl) hx
  refine ⟨_, _, _, H.ld 0 rfl rfl, _, _, _, H.ld 0 rfl rfl, ?_⟩
  rintro z rfl
  rw [ez]
  refine ⟨⟨by omega, by omega⟩, adr_eq hp ⟨_, hc 0 _ rfl, split_of (fun q2 => ?_) (fun q2 => H.drN fun B H => fin (j + 1) B (by rw [hSt]; exact ⟨h1, h2, H⟩) (by rw [hstep]; unfold goneP; rw [q2]; rfl))⟩⟩
  refine ⟨_, _, _, H.ld 0 rfl rfl, _, _, _, H.ld 0 rfl rfl, ?_⟩
  rintro z3 rfl
  rw [ez]
  refine ⟨⟨by omega, by omega⟩, adr_eq hp ⟨_, hc 12 _ rfl, H.drN fun B H => split_of (fun q3 => ?_) (fun q3 => fin (j + 1) B (by rw [hSt]; exact ⟨h1, h2, H⟩) (by rw [hstep]; unfold goneP; rw [q3, Bool.and_false]; rfl))⟩⟩
  refine H.dr fun C H => ⟨_, _, _, H.ld 0 rfl rfl, _, _, _, H.ld 0 rfl rfl, ?_⟩
  rintro z4 rfl
  rw [ez, Int.toNat_natCast]
  have hcap := slr_le (H.nth 1 rfl : Sl _ _ _ _ _ _)
  refine ⟨⟨by omega, by omega⟩, H.st 0 rfl (by show 1 < 2; omega) fun D H => ?_⟩
  have H := H.conv 1 rfl (A' := sl 98 13 (.slice q.p j q.cap) j (rents (q.L.take j))) (fun hs => by
    have := Sl.pre hs (Nat.le_succ j)
    rw [rents_take, List.take_take, Nat.min_eq_left (Nat.le_succ j)] at this
    exact this) (fun q e => own_blk.2 (own_blk.1 e))
  have H : St W (rA b q).own D ([blk b #[.int .i64 q.size, .slice q.p j q.cap] 96, sl 98 13 (.slice q.p j q.cap) j (rents (q.L.take j))] ++ []) := H
  refine ⟨⟨j, by rw [hSt]; exact ⟨by omega, by rw [h2, hstep]; unfold goneP; rw [q2, q3]; rfl, H⟩⟩, ?_⟩
  have hA : A.cell? ⟨b, 1, none⟩ = some (.slice q.p (j + 1) q.cap) := by
    rw [hSt] at hS0
    exact hS0.2.2.ld 0 rfl rfl
  have hD : D.cell? ⟨b, 1, none⟩ = some (.slice q.p j q.cap) := H.ld 0 rfl rfl
  show (match D.cell? ⟨b, 1, none⟩ with | some (.slice _ n _) => n | _ => 0) < (match A.cell? ⟨b, 1, none⟩ with | some (.slice _ n _) => n | _ => 0)
  rw [hA, hD]
  exact Nat.lt_succ_self j
/-! ### Drain -/
def rOld (L : List En) : Option En := match L with
  | e :: _ => if e.retired then some e else none
  | [] => none
theorem rc_setFr (e : En) {c : Nat} (h : c < 4) (x : Int) : (e.setFr c x).rc = e.rc.set (8 + c) (.int .i64 x) := by
  match c, h with
  | 0, _ => rfl
  | 1, _ => rfl
  | 2, _ => rfl
  | 3, _ => rfl
theorem rc_fr (e : En) {c : Nat} (h : c < 4) : e.rc[8 + c]? = some (.int .i64 (e.fr c)) := by
  match c, h with
  | 0, _ => rfl
  | 1, _ => rfl
  | 2, _ => rfl
  | 3, _ => rfl
theorem rdrain_any (h : (rA b q).at_ W) (hn : q.L.length ≤ 32) : Calls Tryd.prog 30 #[.pointer (some ⟨b, 0, none⟩)] W fun e w => match rOld q.L with
  | none => e = .returned (.bool false) ∧ Sep.Post (rA b q) W (rA b q) w
  | some o => e = .returned (.bool true) ∧ ∃ (p : Option Addr) (c : Nat), Sep.Post (rA b q) W (rA b { q with p := p, cap := c, L := (q.L.drop 1).map fun e => drainB o.seq e 4 }) w := by
  have H := r_open h
  refine vc30 b 0 ⟨_, _, _, H.ld 0 rfl rfl, split_of (fun q0 => ?_) (fun q0 => ?_)⟩
  · have q0 : q.L = [] := List.eq_nil_of_length_eq_zero (by have : ((q.L.length : Nat) : Int) = 0 := by simpa using q0
                                                            omega)
    rw [q0]
    exact ⟨rfl, r_same h (XTouch.refl _ _)⟩
  have q0 : q.L.length ≠ 0 := fun e => by rw [e] at q0; simp at q0
  obtain ⟨x, r, hes⟩ : ∃ x r, q.L = x :: r := by
    match hq : q.L with
    | [] => rw [hq] at q0; exact absurd rfl q0
    | x :: r => exact ⟨x, r, rfl⟩
  have hx : q.L[0]? = some x := by rw [hes]; rfl
  have hpos : 0 < q.L.length := by omega
  obtain ⟨g, off, hp, -, hc⟩ := re_at (H.nth 1 rfl) hx
  have hold : rOld q.L = if x.retired then some x else none := by rw [hes]; rfl
  rw [hold]
  refine ⟨_, _, _, H.ld 0 rfl rfl, ⟨by omega, by omega⟩, adr_eq hp ⟨_, hc 12 _ rfl, split_of (fun q1 => ?_) (fun q1 => ?_)⟩⟩
  · have q1 : x.retired = false := by simpa using q1
    rw [q1]
    exact ⟨rfl, r_same h (XTouch.refl _ _)⟩
  have q1 : x.retired = true := by simpa using q1
  rw [q1]
  refine ⟨_, _, _, H.ld 0 rfl rfl, ⟨by omega, by omega⟩, adr_eq hp ⟨_, hc 0 _ rfl, ?_⟩⟩
  refine (without_any h hn 0 hpos).mono ?_
  rintro e A ⟨rfl, p1, c1, hP⟩
  have her : q.L.eraseIdx 0 = r := by rw [hes]; rfl
  rw [her] at hP
  have hrn : r.length ≤ 32 := by have : q.L.length = r.length + 1 := by rw [hes]; rfl
                                 omega
  have H : St W (rA b q).own A ((RQ.mk q.size p1 c1 r).pieces b ++ []) := ((St.begin h).upd 0 rfl hP).open_
  refine ⟨rfl, fun i A => ∃ j : Nat, i = j ∧ j ≤ r.length ∧ St W (rA b q).own A ([blk b #[.int .i64 q.size, .slice p1 r.length c1] 96, sl 98 13 (.slice p1 r.length c1) r.length (rents ((r.take j).map (fun e => drainB x.seq e 4) ++ r.drop j))] ++ []), fun i _ => r.length - i.toNat, ⟨0, rfl, Nat.zero_le _, by rw [List.take_zero, List.drop_zero]; exact H⟩, fun _ => ?_⟩
  clear H
  rintro i F ⟨j, rfl, hj, H⟩
  refine ⟨_, _, _, H.ld 0 rfl rfl, split_of (fun q2 => ?_) (fun q2 => ?_)⟩
  · have q2 := of_decide_eq_true q2
    have hjl : j < r.length := by omega
    have hy := List.getElem?_eq_getElem hjl
    obtain ⟨y, hyy⟩ : ∃ y, y = r[j] := ⟨_, rfl⟩
    rw [← hyy] at hy
    have hdr : r.drop j = y :: r.drop (j + 1) := by rw [hyy]; exact List.drop_eq_getElem_cons hjl
    have hdl : ((r.take j).map (fun e => drainB x.seq e 4)).length = j := by rw [List.length_map, List.length_take]; omega
    rw [hdr] at H
    refine ⟨fun i A => ∃ c : Nat, i = c ∧ c ≤ 4 ∧ St W (rA b q).own A ([blk b #[.int .i64 q.size, .slice p1 r.length c1] 96, sl 98 13 (.slice p1 r.length c1) r.length (rents ((r.take j).map (fun e => drainB x.seq e 4) ++ drainB x.seq y c :: r.drop (j + 1)))] ++ []), fun i _ => 4 - i.toNat, ⟨0, rfl, by omega, H⟩, fun _ => ?_⟩
    clear H
    rintro i G ⟨c, rfl, hc4, H⟩
    refine split_of (fun q3 => ?_) (fun q3 => ?_)
    · have q3 := of_decide_eq_true q3
      have hc4 : c < 4 := by omega
      have hm := mid_get (l2 := r.drop (j + 1)) (y := drainB x.seq y c) hdl
      obtain ⟨g, off, hpp, -, hcc⟩ := re_at (H.nth 1 rfl) hm
      have e8 : ∀ o : Nat, o + 8 + (c : Int).toNat * 1 = o + (8 + c) := fun o => by omega
      have next : ∀ {A : World}, St W (rA b q).own A ([blk b #[.int .i64 q.size, .slice p1 r.length c1] 96, sl 98 13 (.slice p1 r.length c1) r.length (rents ((r.take j).map (fun e => drainB x.seq e 4) ++ drainB x.seq y (c + 1) :: r.drop (j + 1)))] ++ []) → ∀ z3 : Int, z3 = IntKind.wrap .i64 ((c : Int) + 1) → (∃ c : Nat, z3 = c ∧ c ≤ 4 ∧ St W (rA b q).own A ([blk b #[.int .i64 q.size, .slice p1 r.length c1] 96, sl 98 13 (.slice p1 r.length c1) r.length (rents ((r.take j).map (fun e => drainB x.seq e 4) ++ drainB x.seq y c :: r.drop (j + 1)))] ++ [])) ∧ 4 - z3.toNat < 4 - (c : Int).toNat := by
        rintro A H z3 rfl
        rw [w64 (by omega) (by omega)]
        exact ⟨⟨c + 1, by omega, by omega, H⟩, by omega⟩
      refine ⟨_, _, _, H.ld 0 rfl rfl, ⟨by omega, by omega⟩, adr_eq hpp ⟨⟨by omega, by omega⟩, (drainB x.seq y c).fr c, by rw [e8]; exact hcc _ _ (rc_fr _ hc4), split_of (fun q4 => ?_) (fun q4 => ?_)⟩⟩
      · have q4 : (drainB x.seq y c).fr c = x.seq := by simpa using q4
        refine ⟨_, _, _, H.ld 0 rfl rfl, ⟨by omega, by omega⟩, adr_eq hpp ⟨_, hcc 7 _ rfl, split_of (fun q5 => ?_) (fun q5 => ?_)⟩⟩
        · refine ⟨_, _, _, H.ld 0 rfl rfl, ⟨by omega, by omega⟩, adr_eq hpp ⟨⟨by omega, by omega⟩, ?_⟩⟩
          rw [e8]
          refine H.rent 1 rfl hm hpp ((drainB x.seq y c).setFr c (-1)) (by omega) (rc_setFr _ hc4 _) fun A H => next ?_
          rw [mid_set hdl] at H
          have : drainB x.seq y (c + 1) = (drainB x.seq y c).setFr c (-1) := by
            show (if _ then _ else _) = _
            rw [if_pos ⟨q5, q4⟩]
          rw [this]
          exact H
        · refine next ?_
          have : drainB x.seq y (c + 1) = drainB x.seq y c := by
            show (if _ then _ else _) = _
            rw [if_neg (fun e => by rw [q5] at e; cases e.1)]
          rw [this]
          exact H
      · have q4 : ¬ (drainB x.seq y c).fr c = x.seq := by simpa using q4
        refine next ?_
        have : drainB x.seq y (c + 1) = drainB x.seq y c := by
          show (if _ then _ else _) = _
          rw [if_neg (fun e => q4 e.2)]
        rw [this]
        exact H
    · have q3 := of_decide_eq_false q3
      obtain rfl : c = 4 := by omega
      rintro z6 rfl
      rw [w64 (by omega) (by omega)]
      refine ⟨⟨j + 1, by omega, by omega, ?_⟩, by show r.length - ((j : Int) + 1).toNat < r.length - (j : Int).toNat; omega⟩
      have : (r.take (j + 1)).map (fun e => drainB x.seq e 4) = (r.take j).map (fun e => drainB x.seq e 4) ++ [drainB x.seq y 4] := by
        rw [List.take_add_one, hy, List.map_append]; rfl
      rw [this, List.append_assoc]
      exact H
  · have q2 := of_decide_eq_false q2
    obtain rfl : j = r.length := by omega
    rw [List.take_length, List.drop_length, List.append_nil, List.append_nil] at H
    have hd1 : q.L.drop 1 = r := by rw [hes]; rfl
    rw [hd1]
    refine ⟨rfl, p1, c1, r_shut (L := []) ?_⟩
    show St W (rA b q).own F ([blk b #[.int .i64 q.size, .slice p1 (r.map (fun e => drainB x.seq e 4)).length c1] 96, sl 98 13 (.slice p1 (r.map (fun e => drainB x.seq e 4)).length c1) (r.map (fun e => drainB x.seq e 4)).length (rents (r.map (fun e => drainB x.seq e 4)))] ++ [])
    rw [List.length_map]
    exact H
/-! ### Spoil -/
def seqE : Option En → Int
  | some e => e.seq
  | none => -1
theorem rspoil_any (h : (rA b q).at_ W) (ho : ∀ e ∈ q.L, e.Ok) (hn : q.L.length ≤ 32) (l : Nat) (hl : l < 4294967296) : Calls Tryd.prog 33 #[.pointer (some ⟨b, 0, none⟩), .int .i64 l] W fun e w => e = .returned (.int .i64 (seqE (q.L.find? (spoilP l)))) ∧ Hush W w := by
  refine vc33 b 0 l ⟨by decide, ?_⟩
  rintro z rfl z2 rfl
  rw [Int.tmod_eq_emod_of_nonneg (by omega), w64 (by omega) (by omega)]
  refine ⟨fun i A => ∃ j : Nat, i = j ∧ j ≤ q.L.length ∧ Hush W A ∧ (∀ (i : Nat) (y : En), i < j → q.L[i]? = some y → spoilP l y = false), fun i _ => q.L.length - i.toNat, ⟨0, rfl, Nat.zero_le _, XTouch.refl _ _, fun i y hi => by omega⟩, fun _ => ?_⟩
  rintro i A ⟨j, rfl, hj, hh, hnot⟩
  have R := r_open ((rA b q).keep h hh (fun _ _ e => e))
  refine ⟨_, _, _, R.ld 0 rfl rfl, split_of (fun q1 => ?_) (fun q1 => ?_)⟩
  · have q1 := of_decide_eq_true q1
    have hjl : j < q.L.length := by omega
    have hx := List.getElem?_eq_getElem hjl
    obtain ⟨x, hxe⟩ : ∃ x, x = q.L[j] := ⟨_, rfl⟩
    rw [← hxe] at hx
    have hxo := ho x (List.mem_of_getElem? hx)
    have hsz : x.size ≤ 4 := by rcases hxo.size with e | e | e | e <;> omega
    have hxa := hxo.addr
    obtain ⟨g, off, hp, hcs, -⟩ := re_at (R.nth 1 rfl) hx
    refine ⟨_, _, _, R.ld 0 rfl rfl, ⟨by omega, by omega⟩, adr_eq hp ⟨x.rc.toArray, rfl, hcs, ?_⟩⟩
    refine (St.nil A).al fun k7 B H => H.sts0 0 rfl rfl rfl (rc_one x) fun C H => ?_
    have H : St A No C [blk k7 x.rc.toArray 98] := H
    refine ⟨fun i D => ∃ c : Nat, i = c ∧ c ≤ x.size ∧ (x.loaded = true → ∀ c2, c2 < c → ¬ (x.fr c2 = -1 ∧ x.addr / 16 = l / 16)) ∧ St A No D [blk k7 x.rc.toArray 98], fun i _ => 10 - i.toNat, ⟨0, rfl, Nat.zero_le _, fun _ c2 hc2 => by omega, H⟩, fun _ => ?_⟩
    clear H
    rintro i D ⟨c, rfl, hc, hcn, H⟩
    have miss : spoilP l x = false → ∀ z12 : Int, z12 = IntKind.wrap .i64 ((j : Int) + 1) → (∃ j : Nat, z12 = j ∧ j ≤ q.L.length ∧ Hush W D ∧ (∀ (i : Nat) (y : En), i < j → q.L[i]? = some y → spoilP l y = false)) ∧ q.L.length - z12.toNat < q.L.length - (j : Int).toNat := by
      rintro hm z12 rfl
      rw [w64 (by omega) (by omega)]
      refine ⟨⟨j + 1, by omega, by omega, hh.trans H.touch (fun _ _ e => e), fun i y hi hy => ?_⟩, by omega⟩
      by_cases e : i = j
      · subst e
        rw [hx] at hy
        cases hy
        exact hm
      · exact hnot i y (by omega) hy
    refine ⟨x.size, H.ld 0 rfl rfl, split_of (fun q2 => ?_) (fun q2 => ?_)⟩
    · have q2 := of_decide_eq_true q2
      have hc4 : c < 4 := by omega
      refine ⟨x.loaded, H.ld 0 rfl rfl, split_of (fun q3 => ?_) (fun q3 => miss (by unfold spoilP; rw [q3, Bool.false_and]))⟩
      have next : ¬ (x.fr c = -1 ∧ x.addr / 16 = l / 16) → ∀ z10 : Int, z10 = IntKind.wrap .i64 ((c : Int) + 1) → (∃ c : Nat, z10 = c ∧ c ≤ x.size ∧ (x.loaded = true → ∀ c2, c2 < c → ¬ (x.fr c2 = -1 ∧ x.addr / 16 = l / 16)) ∧ St A No D [blk k7 x.rc.toArray 98]) ∧ 10 - z10.toNat < 10 - (c : Int).toNat := by
        rintro hm z10 rfl
        rw [w64 (by omega) (by omega)]
        refine ⟨⟨c + 1, by omega, by omega, fun hl c2 h2 => ?_, H⟩, by omega⟩
        by_cases e : c2 = c
        · subst e; exact hm
        · exact hcn hl c2 (by omega)
      refine ⟨⟨by omega, by omega⟩, x.fr c, ?_, split_of (fun q4 => ?_) (fun q4 => next (fun e => by rw [e.1] at q4; cases q4))⟩
      · rw [show 0 + 8 + (c : Int).toNat * 1 = 8 + c by omega]
        exact (H.blk 0 rfl).cell' (by have := rc_fr x hc4; simpa using this)
      · have q4 : x.fr c = -1 := by simpa using q4
        refine ⟨x.addr, H.ld 0 rfl rfl, x.addr, H.ld 0 rfl rfl, by decide, ?_⟩
        rintro z7 rfl z8 rfl
        rw [Int.tmod_eq_emod_of_nonneg (by omega), w64 (by omega) (by omega)]
        refine split_of (fun q5 => ?_) (fun q5 => next (fun e => ?_))
        · have q5 : (x.addr : Int) - x.addr % 16 = (l : Int) - l % 16 := by simpa using q5
          refine ⟨x.seq, H.ld 0 rfl rfl, ?_, hh.trans H.touch (fun _ _ e => e)⟩
          have : q.L.find? (spoilP l) = some x := by
            rw [List.find?_eq_some_iff_getElem]
            refine ⟨?_, j, hjl, hxe.symm, fun i hi => ?_⟩
            · unfold spoilP
              rw [q3, decide_eq_true (show x.addr / 16 = l / 16 by omega), Bool.true_and, Bool.true_and]
              exact List.any_eq_true.2 ⟨c, List.mem_range.2 (by omega), by rw [q4]; rfl⟩
            · rw [hnot i _ hi (List.getElem?_eq_getElem (by omega))]; rfl
          rw [this]; rfl
        · have q5 : ¬ (x.addr : Int) - x.addr % 16 = (l : Int) - l % 16 := by simpa using q5
          omega
    · have q2 := of_decide_eq_false q2
      refine miss ?_
      unfold spoilP
      cases hld : x.loaded with
      | false => rfl
      | true =>
        rw [Bool.true_and]
        refine Bool.eq_false_iff.2 fun e => ?_
        rw [Bool.and_eq_true, decide_eq_true_iff] at e
        obtain ⟨c2, h1, h2⟩ := List.any_eq_true.1 e.2
        have h2 : -1 = x.fr c2 := by simpa using h2
        exact hcn hld c2 (by have := List.mem_range.1 h1; omega) ⟨h2.symm, e.1⟩
  · have q1 := of_decide_eq_false q1
    refine ⟨?_, hh⟩
    have : q.L.find? (spoilP l) = none := by
      rw [List.find?_eq_none]
      intro x hx
      obtain ⟨i, hi, rfl⟩ := List.getElem_of_mem hx
      rw [hnot i _ (by omega) (List.getElem?_eq_getElem hi)]; decide
    rw [this]; rfl
end Go.Proofs.YtngfaiahlblkkaaDoor
