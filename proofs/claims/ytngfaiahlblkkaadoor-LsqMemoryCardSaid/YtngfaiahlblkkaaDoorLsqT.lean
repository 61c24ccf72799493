/- The document's queue, part C: Address, Search, Take. No condition. -/
import Derived.Test.YtngfaiahlblkkaaDoorLsqS
import Derived.Test.YtngfaiahlblkkaaDoorLsqH
namespace Go.Proofs.YtngfaiahlblkkaaDoor
open Go.RowKit Go.XHeap Go.Sx Go.Sep Go.Bits
set_option linter.unusedVariables false
set_option maxRecDepth 100000
variable {W w' : World} {b : Nat} {q v : RQ}

/-! ### Address -/
def raddrR (s : Int) (a : Nat) (sz : Int) (L : List En) : AddR := match rpos s L with
  | none => .err 7
  | some k => match L[k]? with
    | none => .err 7
    | some x => if (x.placed || x.retired) = true then .err 7 else if (sz = 1 ∨ sz = 2 ∨ sz = 4) ∧ (a : Int) % sz = 0 then .ok k else .err 3
def raheadR (s : Int) (a sz : Nat) (k : Nat) (L : List En) (e : En) : Int := if e.store = true then seqE ((L.drop (k + 1)).find? (aheadP s a sz)) else -1
def rAddrPost (W : World) (b : Nat) (q : RQ) (s : Int) (a : Nat) (sz : Int) (e : Ending) (w : World) : Prop := match raddrR s a sz q.L with
  | .err n => e = .returned (.tuple #[.int .i64 (-1), .int .i64 n]) ∧ Sep.Post (rA b q) W (rA b q) w
  | .ok k => ∃ x, q.L[k]? = some x ∧ e = .returned (.tuple #[.int .i64 (raheadR s a sz.toNat k q.L x), .int .i64 0]) ∧ Sep.Post (rA b q) W (rA b { q with L := q.L.set k { x with placed := true, addr := a, size := sz.toNat } }) w
theorem raddr_any (h : (rA b q).at_ W) (ho : ∀ e ∈ q.L, e.Ok) (hn : q.L.length ≤ 32) (s : Int) (a : Nat) (ha : a < 4294967296) (sz : Int) :
    Calls Tryd.prog 19 #[.pointer (some ⟨b, 0, none⟩), .int .i64 s, .int .i64 a, .int .i64 sz] W (rAddrPost W b q s a sz) := by
  refine vc19 b 0 s a sz ((rfind_any h hn s).mono ?_)
  rintro e A ⟨rfl, rfl⟩
  have bad : ∀ n, raddrR s a sz q.L = .err n → rAddrPost A b q s a sz (.returned (.tuple #[.int .i64 (-1), .int .i64 n])) A := fun n e => by unfold rAddrPost; rw [e]; exact ⟨rfl, r_same h (XTouch.refl _ _)⟩
  have H := r_open h
  cases hp : rpos s q.L with
  | none => exact ⟨-1, rfl, fun _ => False, split_of (fun _ => bad 7 (by unfold raddrR; rw [hp])) (fun q => by simp at q), fun _ B hB => hB.elim⟩
  | some k =>
    obtain ⟨x, hx, -, -⟩ := rpos_some hp
    have hkl := (List.getElem?_eq_some_iff.1 hx).1
    obtain ⟨g, off, hpp, -, hc⟩ := re_at (H.nth 1 rfl) hx
    have hr : raddrR s a sz q.L = if (x.placed || x.retired) = true then .err 7 else if (sz = 1 ∨ sz = 2 ∨ sz = 4) ∧ (a : Int) % sz = 0 then .ok k else .err 3 := by unfold raddrR; rw [hp]; show (match q.L[k]? with | none => _ | some x => _) = _; rw [hx]
    refine ⟨((k : Nat) : Int), rfl, fun B => B = A ∧ (x.placed || x.retired) = false, split_of (fun q => ?_) (fun _ => ?_), fun _ => ?_⟩
    · have := of_decide_eq_true q; omega
    · refine ⟨_, _, _, H.ld 0 rfl rfl, ⟨by omega, by omega⟩, adr_eq hpp ⟨_, hc 2 _ rfl, split_of (fun q1 => bad 7 (by rw [hr, if_pos (by rw [q1]; rfl)])) (fun q1 => ?_)⟩⟩
      exact ⟨_, _, _, H.ld 0 rfl rfl, ⟨by omega, by omega⟩, adr_eq hpp ⟨_, hc 12 _ rfl, split_of (fun q2 => bad 7 (by rw [hr, if_pos (by rw [q2, Bool.or_true])])) (fun q2 => ⟨rfl, by rw [q1, q2]; rfl⟩)⟩⟩
    · rintro B ⟨rfl, hpr⟩
      have hsize : ∀ z : Nat, sz = z → (z = 1 ∨ z = 2 ∨ z = 4) → sz ≠ 0 ∧ ∀ z3 : Int, z3 = Int.tmod a sz → Sx.split (z3 != 0) (rAddrPost B b q s a sz (.returned (.tuple #[.int .i64 (-1), .int .i64 3])) B) ((sz = 1 ∨ sz = 2 ∨ sz = 4) ∧ (a : Int) % sz = 0 ∧ B = B) := by
        rintro z rfl hz
        refine ⟨by omega, ?_⟩
        rintro z3 rfl
        rw [Int.tmod_eq_emod_of_nonneg (by omega)]
        refine split_of (fun q2 => ?_) (fun q2 => ?_)
        · have q2 : ¬ (a : Int) % (z : Nat) = 0 := by simpa using q2
          exact bad 3 (by rw [hr, if_neg (by rw [hpr]; decide), if_neg (fun e => q2 e.2)])
        · have q2 : (a : Int) % (z : Nat) = 0 := by simpa using q2
          exact ⟨by omega, q2, rfl⟩
      refine ⟨fun C => (sz = 1 ∨ sz = 2 ∨ sz = 4) ∧ (a : Int) % sz = 0 ∧ C = B, ?_, fun _ => ?_⟩
      · refine split_of (fun q2 => split_of (fun q3 => split_of (fun q4 => ?_) (fun q4 => ?_)) (fun q3 => ?_)) (fun q2 => ?_)
        · have q2 : ¬ sz = 1 := by simpa using q2
          have q3 : ¬ sz = 2 := by simpa using q3
          have q4 : ¬ sz = 4 := by simpa using q4
          exact bad 3 (by rw [hr, if_neg (by rw [hpr]; decide), if_neg (by rintro ⟨e | e | e, -⟩; exact q2 e; exact q3 e; exact q4 e)])
        · exact hsize 4 (by simpa using q4) (by omega)
        · exact hsize 2 (by simpa using q3) (by omega)
        · exact hsize 1 (by simpa using q2) (by omega)
      · rintro C ⟨hsz, hal, rfl⟩
        obtain ⟨z, rfl⟩ : ∃ z : Nat, sz = z := ⟨sz.toNat, by omega⟩
        have hx2 : ∀ e2 : En, (q.L.set k e2)[k]? = some e2 := fun e2 => by rw [List.getElem?_set_self hkl]
        refine ⟨_, _, _, H.ld 0 rfl rfl, ⟨by omega, by omega⟩, adr_eq hpp ?_⟩
        refine H.rent 1 rfl hx hpp { x with placed := true } (by omega) rfl fun D H => ?_
        refine ⟨_, _, _, H.ld 0 rfl rfl, ⟨by omega, by omega⟩, adr_eq hpp ?_⟩
        refine H.rent 1 rfl (hx2 _) hpp { x with placed := true, addr := a } (by omega) rfl fun E H => ?_
        rw [List.set_set, List.set_set] at H
        refine ⟨_, _, _, H.ld 0 rfl rfl, ⟨by omega, by omega⟩, adr_eq hpp ?_⟩
        refine H.rent 1 rfl (hx2 _) hpp { x with placed := true, addr := a, size := z } (by omega) rfl fun F H => ?_
        rw [List.set_set, List.set_set] at H
        obtain ⟨x', hx'⟩ : ∃ x' : En, x' = { x with placed := true, addr := a, size := z } := ⟨_, rfl⟩
        have H : St C (rA b q).own F ([blk b q.root 96, sl 98 13 (.slice q.p q.L.length q.cap) q.L.length (rents (q.L.set k x'))] ++ []) := by rw [hx']; exact H
        obtain ⟨g2, off2, hpp2, -, hc2⟩ := re_at (H.nth 1 rfl) (hx2 x')
        have fin : ∀ {F : World} {L : List Asn}, St C (rA b q).own F ([blk b q.root 96, sl 98 13 (.slice q.p q.L.length q.cap) q.L.length (rents (q.L.set k x'))] ++ L) → ∀ r : Int, r = raheadR s a z k q.L x → rAddrPost C b q s a ((z : Nat) : Int) (.returned (.tuple #[.int .i64 r, .int .i64 0])) F := by
          intro F L H r hr2
          unfold rAddrPost
          rw [hr, if_neg (by rw [hpr]; decide), if_pos ⟨hsz, hal⟩]
          refine ⟨x, hx, by rw [hr2, Int.toNat_natCast], ?_⟩
          rw [Int.toNat_natCast, ← hx']
          exact r_turned (L := L) H
        refine ⟨_, _, _, H.ld 0 rfl rfl, ⟨by omega, by omega⟩, adr_eq hpp2 ⟨x.store, by have := hc2 1 _ rfl; rw [hx'] at this; exact this, split_of (fun q2 => ?_) (fun q2 => ?_)⟩⟩
        · have q2 : x.store = false := by simpa using q2
          exact fin H (-1) (by unfold raheadR; rw [q2]; rfl)
        have q2 : x.store = true := by simpa using q2
        rintro z5 rfl
        rw [w64 (by omega) (by omega), show ((k : Nat) : Int) + 1 = ((k + 1 : Nat) : Int) by omega]
        refine ⟨fun i G => ∃ j : Nat, i = j ∧ k + 1 ≤ j ∧ j ≤ q.L.length ∧ (∀ (i : Nat) (y : En), k + 1 ≤ i → i < j → q.L[i]? = some y → aheadP s a z y = false) ∧ St C (rA b q).own G ([blk b q.root 96, sl 98 13 (.slice q.p q.L.length q.cap) q.L.length (rents (q.L.set k x'))] ++ []), fun i _ => q.L.length - i.toNat, ⟨k + 1, rfl, Nat.le_refl _, hkl, fun i y h1 h2 => by omega, H⟩, fun _ => ?_⟩
        clear H hc2 hpp2
        rintro i G ⟨j, rfl, hj1, hj, hnot, H⟩
        refine ⟨_, _, _, H.ld 0 rfl rfl, split_of (fun q3 => ?_) (fun q3 => ?_)⟩
        · have q3 := of_decide_eq_true q3
          have hjl : j < q.L.length := by omega
          have hy := List.getElem?_eq_getElem hjl
          obtain ⟨y, hye⟩ : ∃ y, y = q.L[j] := ⟨_, rfl⟩
          rw [← hye] at hy
          have hyo := ho y (List.mem_of_getElem? hy)
          have hysz : y.size ≤ 4 := by rcases hyo.size with e | e | e | e <;> omega
          have hya := hyo.addr
          have hy2 : (q.L.set k x')[j]? = some y := by rw [List.getElem?_set_ne (by omega)]; exact hy
          obtain ⟨g2, off2, hpp2, hcs2, -⟩ := re_at (H.nth 1 rfl) hy2
          refine ⟨_, _, _, H.ld 0 rfl rfl, ⟨by omega, by omega⟩, adr_eq hpp2 ⟨y.rc.toArray, rfl, hcs2, ?_⟩⟩
          refine H.al fun k31 I H => H.sts0 2 rfl rfl rfl (rc_one y) fun J H => ?_
          have H : St C (rA b q).own J [blk b q.root 96, sl 98 13 (.slice q.p q.L.length q.cap) q.L.length (rents (q.L.set k x')), blk k31 y.rc.toArray 98] := H
          refine ⟨fun i F => ∃ c : Nat, i = c ∧ c ≤ y.size ∧ (y.loaded = true → ∀ c2 : Nat, c2 < c → ¬ ((a ≤ y.addr + c2 ∧ y.addr + c2 < a + z) ∧ y.fr c2 < s)) ∧ St C (rA b q).own F [blk b q.root 96, sl 98 13 (.slice q.p q.L.length q.cap) q.L.length (rents (q.L.set k x')), blk k31 y.rc.toArray 98], fun i _ => 100 - i.toNat, ⟨0, rfl, Nat.zero_le _, fun _ c2 h => by omega, H⟩, fun _ => ?_⟩
          clear H hcs2
          rintro i F ⟨c, rfl, hc, hcn, H⟩
          have miss : aheadP s a z y = false → ∀ z16 : Int, z16 = IntKind.wrap .i64 ((j : Int) + 1) → (∃ j : Nat, z16 = j ∧ k + 1 ≤ j ∧ j ≤ q.L.length ∧ (∀ (i : Nat) (y : En), k + 1 ≤ i → i < j → q.L[i]? = some y → aheadP s a z y = false) ∧ St C (rA b q).own F ([blk b q.root 96, sl 98 13 (.slice q.p q.L.length q.cap) q.L.length (rents (q.L.set k x'))] ++ [])) ∧ q.L.length - z16.toNat < q.L.length - (j : Int).toNat := by
            rintro hm z16 rfl
            rw [w64 (by omega) (by omega)]
            refine ⟨⟨j + 1, by omega, by omega, by omega, fun i y' h1 hi hy' => ?_, H.take 2⟩, by omega⟩
            by_cases e : i = j
            · subst e
              rw [hy] at hy'
              cases hy'
              exact hm
            · exact hnot i y' h1 (by omega) hy'
          refine ⟨y.size, H.ld 2 rfl rfl, split_of (fun q4 => ?_) (fun q4 => ?_)⟩
          · have q4 := of_decide_eq_true q4
            have hc4 : c < 4 := by omega
            refine ⟨y.loaded, H.ld 2 rfl rfl, split_of (fun q5 => ?_) (fun q5 => miss (by unfold aheadP; rw [q5, Bool.false_and]))⟩
            have next : ¬ ((a ≤ y.addr + c ∧ y.addr + c < a + z) ∧ y.fr c < s) → ∀ z12 : Int, z12 = IntKind.wrap .i64 ((c : Int) + 1) → (∃ c : Nat, z12 = c ∧ c ≤ y.size ∧ (y.loaded = true → ∀ c2 : Nat, c2 < c → ¬ ((a ≤ y.addr + c2 ∧ y.addr + c2 < a + z) ∧ y.fr c2 < s)) ∧ St C (rA b q).own F [blk b q.root 96, sl 98 13 (.slice q.p q.L.length q.cap) q.L.length (rents (q.L.set k x')), blk k31 y.rc.toArray 98]) ∧ 100 - z12.toNat < 100 - (c : Int).toNat := by
              rintro hm z12 rfl
              rw [w64 (by omega) (by omega)]
              refine ⟨⟨c + 1, by omega, by omega, fun hl c2 h2 => ?_, H⟩, by omega⟩
              by_cases e : c2 = c
              · subst e; exact hm
              · exact hcn hl c2 (by omega)
            refine ⟨y.addr, H.ld 2 rfl rfl, ?_⟩
            rintro z8 rfl
            rw [w64 (by omega) (by omega)]
            refine split_of (fun q6 => ?_) (fun q6 => next (fun e => by have := of_decide_eq_false q6; omega))
            have q6 := of_decide_eq_true q6
            rintro z9 rfl
            rw [w64 (by omega) (by omega)]
            refine split_of (fun q7 => ?_) (fun q7 => next (fun e => by have := of_decide_eq_false q7; omega))
            have q7 := of_decide_eq_true q7
            refine ⟨⟨by omega, by omega⟩, y.fr c, ?_, split_of (fun q8 => ?_) (fun q8 => next (fun e => by have := of_decide_eq_false q8; omega))⟩
            · rw [show 0 + 8 + (c : Int).toNat * 1 = 8 + c by omega]
              exact (H.blk 2 rfl).cell' (by have := rc_fr y hc4; simpa using this)
            · have q8 := of_decide_eq_true q8
              refine ⟨y.seq, H.ld 2 rfl rfl, fin (L := [_]) H _ ?_⟩
              unfold raheadR
              rw [if_pos q2]
              have : (q.L.drop (k + 1)).find? (aheadP s a z) = some y := by
                rw [List.find?_eq_some_iff_getElem]
                refine ⟨?_, j - (k + 1), by rw [List.length_drop]; omega, ?_, fun i hi => ?_⟩
                · unfold aheadP
                  rw [q5, Bool.true_and]
                  refine List.any_eq_true.2 ⟨c, List.mem_range.2 (by omega), ?_⟩
                  rw [decide_eq_true (show a ≤ y.addr + c ∧ y.addr + c < a + z by omega), decide_eq_true q8]; rfl
                · rw [List.getElem_drop, hye]
                  congr 1; omega
                · rw [List.getElem_drop, hnot _ _ (by omega) (by omega) (List.getElem?_eq_getElem (by omega))]; rfl
              rw [this]; rfl
          · have q4 := of_decide_eq_false q4
            refine miss ?_
            unfold aheadP
            cases hld : y.loaded with
            | false => rfl
            | true =>
              rw [Bool.true_and]
              refine Bool.eq_false_iff.2 fun h => ?_
              obtain ⟨c2, h1, h2⟩ := List.any_eq_true.1 h
              rw [Bool.and_eq_true, decide_eq_true_iff, decide_eq_true_iff] at h2
              exact hcn hld c2 (by have := List.mem_range.1 h1; omega) h2
        · have q3 := of_decide_eq_false q3
          refine fin H (-1) ?_
          unfold raheadR
          rw [if_pos q2]
          have : (q.L.drop (k + 1)).find? (aheadP s a z) = none := by
            rw [List.find?_eq_none]
            intro y hy
            obtain ⟨i, hi, rfl⟩ := List.getElem_of_mem hy
            rw [List.length_drop] at hi
            rw [List.getElem_drop, hnot _ _ (by omega) (by omega) (List.getElem?_eq_getElem (by omega))]; decide
          rw [this]; rfl
/-! ### Search -/
theorem srcK_spec (L : List En) (i a : Nat) (hi : i ≤ L.length) : match srcK L i a with
    | some k => k < i ∧ ∃ e, L[k]? = some e ∧ srcOf (L.take i) a = some e
    | none => srcOf (L.take i) a = none := by
  induction i with
  | zero => rw [List.take_zero]; rfl
  | succ i ih =>
    have hx := List.getElem?_eq_getElem (show i < L.length by omega)
    have ht : L.take (i + 1) = L.take i ++ [L[i]] := by rw [List.take_add_one, hx]; rfl
    have hs : srcOf (L.take (i + 1)) a = if coverP a L[i] then some L[i] else srcOf (L.take i) a := by
      rw [ht, src_app]
      unfold srcOf
      cases h : coverP a L[i] <;> simp [h]
    have hk : srcK L (i + 1) a = if coverP a L[i] then some i else srcK L i a := by
      unfold srcK
      rw [List.range_succ, List.reverse_append, List.reverse_singleton, List.singleton_append, List.find?_cons, hx]
      dsimp only
      cases coverP a L[i] <;> rfl
    rw [hk, hs]
    cases hc : coverP a L[i] with
    | true => exact ⟨Nat.lt_succ_self i, _, hx, rfl⟩
    | false =>
      have ih := ih (by omega)
      rw [if_neg (by decide), if_neg (by decide)]
      cases hq : srcK L i a with
      | none => rw [hq] at ih; exact ih
      | some k => rw [hq] at ih; exact ⟨by have := ih.1; omega, ih.2⟩
def rloadK (s : Int) (L : List En) : Option Nat := match rpos s L with
  | none => none
  | some k => match L[k]? with
    | none => none
    | some x => if x.store || !x.placed then none else some k
def searchE (bold : Bool) (L : List En) (k : Nat) (x : En) : Array Value :=
  if (!bold && (L.take k).any unplaced) = true then waitV else if waitF (srcs (L.take k) x.addr x.size) = true then waitV else foundV x.addr (srcs (L.take k) x.addr x.size)
def rSearchPost (s : Int) (bold : Bool) (L : List En) (e : Ending) : Prop := match rloadK s L with
  | none => e = .returned (.tuple #[.agg #[.bool false, .int .i64 0, .int .u32 0], .int .i64 7])
  | some k => ∃ x, L[k]? = some x ∧ e = .returned (.tuple #[.agg (searchE bold L k x), .int .i64 0])
theorem rsearch_any (h : (rA b q).at_ W) (ho : ∀ e ∈ q.L, e.Ok) (hn : q.L.length ≤ 32) (s : Int) (bold : Bool) : Calls Tryd.prog 23 #[.pointer (some ⟨b, 0, none⟩), .int .i64 s, .bool bold] W fun e w => rSearchPost s bold q.L e ∧ Hush W w := by
  have keep : ∀ {A : World} {L : List Asn}, St W No A L → (rA b q).at_ A := fun H => (rA b q).keep h H.touch (fun _ _ e => e)
  refine vc23 b 0 s bold ((St.nil W).al fun k A H => ?_)
  have H : St W No A [blk k #[.bool false, .int .i64 0, .int .u32 0] 66] := H
  refine (rfind_any (keep H) hn s).mono ?_
  rintro e B ⟨rfl, rfl⟩
  have out : ∀ {C : World} (vs : Array Value) (n : Int) {L : List Asn}, vs.size = 3 → (∀ v ∈ vs.toList, v.oneCell' = true) → St W No C (blk k #[.bool false, .int .i64 0, .int .u32 0] 66 :: L) → rSearchPost s bold q.L (.returned (.tuple #[.agg vs, .int .i64 n])) →
      vs.size = 3 ∧ (∀ j : Nat, j < 3 → (∃ v, C.cell? ⟨k, 0 + j, none⟩ = some v) ∧ C.frozen? ⟨k, 0 + j, none⟩ = false) ∧ (∀ v : Value, v ∈ vs.toList → v.oneCell' = true) ∧ ∀ w' : World, w' = C.setCells k 0 vs.toList → ∃ vs2 : Array Value, vs2.size = 3 ∧ cellsAt w' ⟨k, 0, none⟩ vs2 ∧ (rSearchPost s bold q.L (.returned (.tuple #[.agg vs2, .int .i64 n])) ∧ Hush W w') := by
    intro C vs n L hs h1 H hp
    exact H.sts0 0 rfl hs rfl h1 fun D H => ⟨vs, hs, H.cells 0 rfl, hp, H.touch⟩
  cases hp : rpos s q.L with
  | none =>
    refine ⟨-1, rfl, fun _ => False, split_of (fun _ => ?_) (fun q => by simp at q), fun _ B hB => hB.elim⟩
    rintro vs rfl
    exact out _ 7 rfl zero_one H (by unfold rSearchPost; rw [show rloadK s q.L = none by unfold rloadK; rw [hp]])
  | some i =>
    obtain ⟨x, hx, -, -⟩ := rpos_some hp
    have hil := (List.getElem?_eq_some_iff.1 hx).1
    have hxo := ho x (List.mem_of_getElem? hx)
    have hsz : x.size ≤ 4 := by rcases hxo.size with e | e | e | e <;> omega
    have hfit := hxo.fits
    have hrl : rloadK s q.L = if x.store || !x.placed then none else some i := by unfold rloadK; rw [hp]; show (match q.L[i]? with | none => none | some x => _) = _; rw [hx]
    refine ⟨((i : Nat) : Int), rfl, fun C => x.store = false ∧ x.placed = true ∧ St W No C [blk k #[.bool false, .int .i64 0, .int .u32 0] 66], split_of (fun q => by have := of_decide_eq_true q; omega) (fun _ => ?_), fun _ => ?_⟩
    · have R := r_open (keep H)
      obtain ⟨g, off, hpp, -, hc⟩ := re_at (R.nth 1 rfl) hx
      refine ⟨_, _, _, R.ld 0 rfl rfl, ⟨by omega, by omega⟩, adr_eq hpp ⟨_, hc 1 _ rfl, split_of (fun q1 => ?_) (fun q1 => ?_)⟩⟩
      · rintro vs rfl
        exact out _ 7 rfl zero_one H (by unfold rSearchPost; rw [hrl, q1]; rfl)
      · refine ⟨_, _, _, R.ld 0 rfl rfl, ⟨by omega, by omega⟩, adr_eq hpp ⟨_, hc 2 _ rfl, split_of (fun q2 => ?_) (fun q2 => ⟨q1, by simpa using q2, H⟩)⟩⟩
        have q2 : x.placed = false := by simpa using q2
        rintro vs rfl
        exact out _ 7 rfl zero_one H (by unfold rSearchPost; rw [hrl, q1, q2]; rfl)
    · clear H
      rintro C ⟨q1, q2, H⟩
      have hsome : rloadK s q.L = some i := by rw [hrl, q1, q2]; rfl
      have give : ∀ vs, vs = searchE bold q.L i x → rSearchPost s bold q.L (.returned (.tuple #[.agg vs, .int .i64 0])) := fun vs e => by unfold rSearchPost; rw [hsome]; exact ⟨x, hx, by rw [e]⟩
      refine H.al fun k13 D H => ?_
      have H : St W No D [blk k #[.bool false, .int .i64 0, .int .u32 0] 66, blk k13 #[.bool false, .int .i64 0, .int .u32 0] 66] := H
      refine ⟨fun z E => ∃ j : Nat, z = j ∧ j ≤ i ∧ (bold = false → ∀ (i2 : Nat) (y : En), i2 < j → q.L[i2]? = some y → unplaced y = false) ∧ St W No E [blk k #[.bool false, .int .i64 0, .int .u32 0] 66, blk k13 #[.bool false, .int .i64 0, .int .u32 0] 66], fun z _ => i - z.toNat, ⟨0, rfl, Nat.zero_le _, fun _ i2 y h => by omega, H⟩, fun _ => ?_⟩
      clear H
      rintro z E ⟨j, rfl, hj, hno, H⟩
      refine split_of (fun q3 => ?_) (fun q3 => ?_)
      · have q3 := of_decide_eq_true q3
        have hjl : j < q.L.length := by omega
        have hy := List.getElem?_eq_getElem hjl
        obtain ⟨y, hye⟩ : ∃ y, y = q.L[j] := ⟨_, rfl⟩
        rw [← hye] at hy
        refine ⟨fun F => (bold = false → unplaced y = false) ∧ St W No F [blk k #[.bool false, .int .i64 0, .int .u32 0] 66, blk k13 #[.bool false, .int .i64 0, .int .u32 0] 66], ?_, fun _ => ?_⟩
        · have R := r_open (keep H)
          obtain ⟨g, off, hpp, -, hc⟩ := re_at (R.nth 1 rfl) hy
          refine ⟨_, _, _, R.ld 0 rfl rfl, ⟨by omega, by omega⟩, adr_eq hpp ⟨_, hc 1 _ rfl, split_of (fun q4 => ?_) (fun q4 => ⟨fun _ => by unfold unplaced; rw [q4]; rfl, H⟩)⟩⟩
          refine ⟨_, _, _, R.ld 0 rfl rfl, ⟨by omega, by omega⟩, adr_eq hpp ⟨_, hc 2 _ rfl, split_of (fun q5 => split_of (fun q6 => ?_) (fun q6 => ⟨fun e => (by rw [e] at q6; cases q6), H⟩)) (fun q5 => ⟨fun _ => by unfold unplaced; rw [q5, Bool.and_false], H⟩)⟩⟩
          have q6 : bold = false := by simpa using q6
          rintro vs rfl
          refine out _ 0 rfl wait_one H (give _ ?_)
          have hany : (!bold && (q.L.take i).any unplaced) = true := by
            rw [q6]
            show (true && _) = true
            rw [Bool.true_and]
            exact List.any_eq_true.2 ⟨y, List.mem_of_getElem? (i := j) (by rw [List.getElem?_take_of_lt (by omega)]; exact hy), by unfold unplaced; rw [q4, q5]; rfl⟩
          unfold searchE
          exact (if_pos hany).symm
        · rintro F ⟨hu, H⟩ z2 rfl
          rw [w64 (by omega) (by omega)]
          refine ⟨⟨j + 1, by omega, by omega, fun hb i2 y2 h2 hy2 => ?_, H⟩, by show i - ((j : Int) + 1).toNat < i - (j : Int).toNat; omega⟩
          by_cases e : i2 = j
          · subst e
            rw [hy] at hy2
            cases hy2
            exact hu hb
          · exact hno hb i2 y2 (by omega) hy2
      · have q3 := of_decide_eq_false q3
        obtain rfl : j = i := by omega
        have hnoany : (!bold && (q.L.take j).any unplaced) = false := by
          cases hb : bold with
          | true => rfl
          | false =>
            show (true && _) = false
            rw [Bool.true_and]
            refine Bool.eq_false_iff.2 fun e => ?_
            obtain ⟨y, hy, e⟩ := List.any_eq_true.1 e
            obtain ⟨i2, hi2, rfl⟩ := List.getElem_of_mem hy
            rw [List.length_take] at hi2
            have := hno hb i2 (q.L.take j)[i2] (by omega) (by rw [List.getElem_take]; exact List.getElem?_eq_getElem (by omega))
            rw [this] at e; cases e
        obtain ⟨F, hF⟩ : ∃ F, F = srcs (q.L.take j) x.addr x.size := ⟨_, rfl⟩
        have hFb : ∀ c, F c = if c < x.size then srcOf (q.L.take j) (x.addr + c) else none := fun c => by rw [hF]; rfl
        have hE : searchE bold q.L j x = if waitF F = true then waitV else foundV x.addr F := by
          unfold searchE
          rw [if_neg (by rw [hnoany]; decide), hF]
        obtain ⟨mix, hmix⟩ : ∃ mix : Nat → Src, mix = fun c c2 => if c2 < c then F c2 else none := ⟨_, rfl⟩
        have hmx : ∀ c c2, mix c c2 = if c2 < c then F c2 else none := fun c c2 => by rw [hmix]
        have hm0 : mix 0 = fun _ => none := by funext c2; rw [hmx, if_neg (by omega)]
        have hmS : mix x.size = F := by
          funext c2
          rw [hmx, hFb]
          split <;> rfl
        refine ⟨fun z G => ∃ c : Nat, z = c ∧ c ≤ x.size ∧ (∀ c2, waitO (mix c c2) = false) ∧ St W No G [blk k #[.bool false, .int .i64 0, .int .u32 0] 66, blk k13 (foundV x.addr (mix c)) 66], fun z _ => 100 - z.toNat, ⟨0, rfl, Nat.zero_le _, fun c2 => by rw [hm0]; rfl, by rw [hm0]; exact H⟩, fun _ => ?_⟩
        clear H
        rintro z G ⟨c, rfl, hc, hnw, H⟩
        have R := r_open (keep H)
        obtain ⟨g, off, hpp, -, hcc⟩ := re_at (R.nth 1 rfl) hx
        refine ⟨_, _, _, R.ld 0 rfl rfl, ⟨by omega, by omega⟩, adr_eq hpp ⟨_, hcc 4 _ rfl, split_of (fun q4 => ?_) (fun q4 => ?_)⟩⟩
        · have q4 := of_decide_eq_true q4
          have hc4 : c < 4 := by omega
          have hmc : mix c c = none := by rw [hmx, if_neg (by omega)]
          refine ⟨_, _, _, R.ld 0 rfl rfl, ⟨by omega, by omega⟩, adr_eq hpp ⟨_, hcc 3 _ rfl, ?_⟩⟩
          rintro z5 rfl
          rw [w64 (by omega) (by omega), show ((x.addr : Nat) : Int) + (c : Nat) = ((x.addr + c : Nat) : Int) by omega]
          refine (source_any (keep H) ho hn j (by omega) (x.addr + c) (by omega)).mono ?_
          rintro e I ⟨rfl, hh⟩
          have H := H.quiet hh
          have hspec := srcK_spec q.L j (x.addr + c) (by omega)
          cases hk : srcK q.L j (x.addr + c) with
          | none =>
            rw [hk] at hspec
            have hFc : F c = none := by rw [hFb, if_pos (by omega)]; exact hspec
            have hsame : mix (c + 1) = mix c := by
              funext c2
              rw [hmx, hmx]
              by_cases e : c2 = c
              · subst e
                rw [if_pos (Nat.lt_succ_self _), if_neg (by omega), hFc]
              · by_cases e2 : c2 < c
                · rw [if_pos (by omega), if_pos e2]
                · rw [if_neg (by omega), if_neg e2]
            refine ⟨-1, rfl, split_of (fun _ => ?_) (fun q => by simp at q)⟩
            rintro z7 rfl
            rw [w64 (by omega) (by omega)]
            exact ⟨⟨c + 1, by omega, by omega, by rw [hsame]; exact hnw, by rw [hsame]; exact H⟩, by show 100 - ((c : Int) + 1).toNat < 100 - (c : Int).toNat; omega⟩
          | some m =>
            rw [hk] at hspec
            obtain ⟨hmj, y, hy, hsy⟩ := hspec
            have hyo := ho y (List.mem_of_getElem? hy)
            have hFc : F c = some y := by rw [hFb, if_pos (by omega)]; exact hsy
            have hcv := (src_mem hsy).2
            have hupd : mix (c + 1) = updF (mix c) c y := by
              funext c2
              rw [hmx]
              unfold updF
              by_cases e : c2 = c
              · subst e
                rw [if_pos (Nat.lt_succ_self _), if_pos rfl, hFc]
              · rw [if_neg e, hmx]
                by_cases e2 : c2 < c
                · rw [if_pos (by omega), if_pos e2]
                · rw [if_neg (by omega), if_neg e2]
            refine ⟨((m : Nat) : Int), rfl, split_of (fun q => by have := of_decide_eq_true q; omega) (fun _ => ?_)⟩
            have R := r_open (keep H)
            obtain ⟨g2, off2, hpp2, hcs2, -⟩ := re_at (R.nth 1 rfl) hy
            refine ⟨_, _, _, R.ld 0 rfl rfl, ⟨by omega, by omega⟩, adr_eq hpp2 ⟨y.rc.toArray, rfl, hcs2, ?_⟩⟩
            refine H.al fun k35 J H => H.sts0 2 rfl rfl rfl (rc_one y) fun K H => ?_
            have H : St W No K [blk k #[.bool false, .int .i64 0, .int .u32 0] 66, blk k13 (foundV x.addr (mix c)) 66, blk k35 y.rc.toArray 98] := H
            refine ⟨y.valued, H.ld 2 rfl rfl, split_of (fun q5 => ?_) (fun q5 => ?_)⟩
            · have q5 : y.valued = false := by simpa using q5
              rintro vs rfl
              refine out _ 0 rfl wait_one H (give _ ?_)
              have hw : waitF F = true := by
                unfold waitF
                refine List.any_eq_true.2 ⟨c, List.mem_range.2 hc4, ?_⟩
                rw [hFc]
                show (!y.valued) = true
                rw [q5]; rfl
              rw [hE]
              exact (if_pos hw).symm
            · have q5 : y.valued = true := by simpa using q5
              have hml := mask_lt (mix c)
              have hvl := val_lt x.addr (mix c)
              refine H.dr fun M H => ⟨_, H.ld 1 rfl rfl, by omega, ?_⟩
              rintro z9 rfl
              rw [one_shl (by omega)]
              rintro z10 rfl
              rw [lor64 (by omega) (Nat.lt_of_le_of_lt (Nat.pow_le_pow_right (by decide) (show c ≤ 3 by omega)) (by decide)), mask_upd _ hc4 y hmc, ← hupd]
              refine H.st 1 rfl (by show 1 < 3; omega) fun N H => H.dr fun O H => ⟨_, H.ld 1 rfl rfl, y.data, H.ld 2 rfl rfl, y.addr, H.ld 2 rfl rfl, ?_⟩
              have hcv2 : y.addr ≤ x.addr + c ∧ x.addr + c < y.addr + y.size := by
                unfold coverP at hcv
                rw [Bool.and_eq_true, Bool.and_eq_true, decide_eq_true_iff] at hcv
                exact hcv.2.2
              have hy4 : y.size ≤ 4 := by rcases hyo.size with e | e | e | e <;> omega
              have hyd := hyo.data
              rintro z14 rfl
              rw [show ((x.addr + c : Nat) : Int) - (y.addr : Nat) = ((x.addr + c - y.addr : Nat) : Int) by omega, n64 (by omega)]
              rintro z15 rfl
              rw [show 8 * ((x.addr + c - y.addr : Nat) : Int) = ((8 * (x.addr + c - y.addr) : Nat) : Int) by omega, n64 (by omega)]
              refine ⟨by omega, ?_⟩
              have hbits : IntKind.bits .u32 = 32 := rfl
              rintro z16 rfl
              rw [Int.toNat_natCast, show min (8 * (x.addr + c - y.addr)) (IntKind.bits .u32) = 8 * (x.addr + c - y.addr) by rw [hbits]; omega, shr]
              rintro z17 rfl
              rw [shr_and hyd]
              rintro z18 rfl
              rw [show 8 * ((c : Nat) : Int) = ((8 * c : Nat) : Int) by omega, n64 (by omega)]
              refine ⟨by omega, ?_⟩
              rintro z19 rfl
              have hby := byte_lt (x.addr + c) (some y)
              have hpow : 2 ^ (8 * c) ≤ 2 ^ 24 := Nat.pow_le_pow_right (by decide) (by omega)
              have hprod : byteOf (x.addr + c) (some y) * 2 ^ (8 * c) < 4294967296 := by
                have := Nat.mul_le_mul (Nat.le_of_lt_succ (show byteOf (x.addr + c) (some y) < 255 + 1 from hby)) hpow
                omega
              have e25 : IntKind.wrap .u32 (((y.data / 2 ^ (8 * (x.addr + c - y.addr)) % 256 : Nat) : Int) * 2 ^ min ((8 * c : Nat) : Int).toNat (IntKind.bits .u32)) = ((byteOf (x.addr + c) (some y) * 2 ^ (8 * c) : Nat) : Int) := by
                rw [Int.toNat_natCast, show min (8 * c) (IntKind.bits .u32) = 8 * c by rw [hbits]; omega]
                have : ((y.data / 2 ^ (8 * (x.addr + c - y.addr)) % 256 : Nat) : Int) * 2 ^ (8 * c) = ((byteOf (x.addr + c) (some y) * 2 ^ (8 * c) : Nat) : Int) := by
                  rw [Int.natCast_mul, Int.natCast_pow]; rfl
                rw [this, n32 hprod]
              rw [e25]
              rintro z20 rfl
              rw [lor32 hvl hprod, val_upd _ _ hc4 y hmc, ← hupd]
              refine H.st 1 rfl (by show 2 < 3; omega) fun P H => ?_
              rintro z21 rfl
              rw [w64 (by omega) (by omega)]
              refine ⟨⟨c + 1, by omega, by omega, fun c2 => ?_, H.take 2⟩, by show 100 - ((c : Int) + 1).toNat < 100 - (c : Int).toNat; omega⟩
              rw [hupd]
              unfold updF
              split
              · show (!y.valued) = false
                rw [q5]; rfl
              · exact hnw c2
        · have q4 := of_decide_eq_false q4
          obtain rfl : c = x.size := by omega
          rw [hmS] at H hnw
          have hw : waitF F = false := by
            refine Bool.eq_false_iff.2 fun e => ?_
            obtain ⟨c, -, e⟩ := List.any_eq_true.1 e
            rw [hnw c] at e
            cases e
          refine ⟨foundV x.addr F, rfl, H.cells 1 rfl, out _ 0 rfl (found_one _ _) H (give _ ?_)⟩
          rw [hE, if_neg (by rw [hw]; decide)]
end Go.Proofs.YtngfaiahlblkkaaDoor
