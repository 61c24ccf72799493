/- The law 'LsqMemory': one turn of one access, walked. No condition. -/
import Derived.Test.YtngfaiahlblkkaaDoorLsqMT
namespace Go.Proofs.YtngfaiahlblkkaaDoor
open Go.RowKit Go.XHeap Go.Sx Go.Sep Go.Bits
set_option linter.unusedVariables false
set_option maxRecDepth 100000
variable {a : Nat → Ac} {X : RX} {W0 W : World}

structure RelT (a : Nat → Ac) (X : RX) (k : Nat) (X' : RX) : Prop where
  n : X'.n = X.n
  out : X'.out = X.out
  psi : X'.psi = X.psi
  inn : k < X'.inn
  given : X'.given k = true
  keep : X.given X.out = true → X'.given X.out = true
  rdy : X.given k = true → k = X.out → ((a k).store = true → X'.known k = true) ∧ ((a k).store = false → X'.done k = true)
theorem cell_acs {A : World} {L : List Asn} {p : Option Addr} {n : Nat} (hA : AcsAt W0 p n a) (H : St W0 No A L) {i : Nat} (hi : i < n) : ∃ g off, p = some ⟨g, off, none⟩ ∧ ∀ j v, (a i).cells[j]? = some v → A.cell? ⟨g, off + i * 4 + j, none⟩ = some v := by
  obtain ⟨g, off, hp, hg, hc⟩ := hA i hi
  exact ⟨g, off, hp, fun j v hj => (H.touch.cell (p := ⟨g, off + i * 4 + j, none⟩) hg (fun e => e)).trans (hc j v hj)⟩
theorem acs_one (c : Ac) : ∀ v ∈ c.cells.toList, v.oneCell' = true := by
  intro v hv
  simp [Ac.cells] at hv
  rcases hv with rfl | rfl | rfl | rfl <;> rfl
set_option maxHeartbeats 4000000 in
theorem xturn_any {I : Ids} (hI : Inv a X) (hA : AcsAt W0 I.lp X.n a) (h : Q1 a W0 I X W) {k : Nat} (h1 : X.out ≤ k) (h2 : k < X.inn) (bold : Bool) :
    Calls Tryd.prog 9 #[.pointer (some ⟨I.kx, 0, none⟩), .int .i64 k, .bool bold] W fun e w => e = .returned (.bool true) ∧ ∃ X', Inv a X' ∧ Q1 a W0 I X' w ∧ RelT a X k X' := by
  obtain ⟨q, hq, H⟩ := h
  have hin := hI.inn
  have h60 := hI.n60
  have hd := hI.dro
  obtain ⟨i, hk⟩ := hI.pos h1 h2
  obtain ⟨x, hx, hxe⟩ := hq.get hk
  have hS := (a k).S_is
  have hf := (a k).fits
  have hfind : posOf (findP k) q.es = some i := by
    rw [posOf_ens, show q.es.map (·.2) = X.J.map (entR a X) from hq.eq, find_pos hI hk h1]
  refine vc9 I.kx 0 k bold ⟨_, _, _, H.ld 1 rfl rfl, ⟨by omega, by omega⟩, ?_⟩
  obtain ⟨g, off, hp, hc⟩ := cell_acs hA H (i := k) (by omega)
  refine adr_eq hp ⟨(a k).cells, rfl, fun j v hj => ?_, ?_⟩
  · rw [Int.toNat_natCast, add_none]
    exact hc j v hj
  refine H.al fun k5 A H => H.sts0 7 rfl rfl rfl (acs_one _) fun B H => ⟨_, rfl, H.cells 7 rfl, ?_⟩
  have H : St W0 No B (pcs I q X ++ [blk k5 (a k).cells 41]) := H
  refine H.callq (where_any B (a k)) fun C H => ⟨_, _, rfl, ?_⟩
  refine ⟨_, _, _, H.ld 1 rfl rfl, ⟨by omega, by omega⟩, adr_some ⟨X.given k, by rw [ix0]; exact H.ld 3 rfl (bools_get _ (by omega)), split_of (fun q1 => ?_) (fun q1 => ?_)⟩⟩
  · have q1 : X.given k = false := by simpa using q1
    refine ⟨_, H.ld 1 rfl rfl, (addr_any (H.nth 0 rfl) (hq.oks hI) hq.n32 k (64 + (a k).B) (by omega) (a k).S).mono ?_⟩
    intro e D hpp
    have hal : (((a k).S : Int) = 1 ∨ ((a k).S : Int) = 2 ∨ ((a k).S : Int) = 4) ∧ ((64 + (a k).B : Nat) : Int) % ((a k).S : Int) = 0 := by
      have h3 := hf.2
      refine ⟨by omega, ?_⟩
      rcases hS with e | e | e <;> rw [e] at h3 ⊢ <;> omega
    have hdec : addrR (k : Nat) (64 + (a k).B) ((a k).S : Nat) q.es = .ok i := by
      unfold addrR
      rw [hfind]
      dsimp only
      rw [hx]
      dsimp only
      rw [hxe, if_neg (show ¬ (entR a X k).placed = true by show ¬ X.given k = true; rw [q1]; decide), if_pos hal]
    unfold AddrPost at hpp
    rw [hdec] at hpp
    obtain ⟨x', hx', rfl, hP⟩ := hpp
    rw [hx] at hx'
    cases hx'
    have H := H.upd 0 rfl hP
    have hans := addr_ans hI hk h1 (es := q.es) hq.eq
    rw [hxe, Int.toNat_natCast]
    refine ⟨_, _, rfl, _, _, _, H.ld 1 rfl rfl, ⟨by omega, by omega⟩, adr_some ?_⟩
    rw [ix0]
    refine H.st 3 rfl (by rw [boolsV, fn_size]; omega) fun E H => nil_true (split_of (fun q => by cases q) (fun _ => ?_))
    obtain ⟨q', hq'⟩ : ∃ q', ({ q with es := q.es.set i (x.1, { x.2 with placed := true, addr := 64 + (a k).B, size := ((a k).S : Int).toNat }) } : PQ) = q' := ⟨_, rfl⟩
    have hq2 : QOk a (X.give k) q' := by
      subst hq'
      refine ⟨?_, by show (q.es.set i _).length ≤ q.size; rw [List.length_set]; exact hq.len, hq.s1, hq.s32⟩
      rw [← give_list hI hk, ← hq.eq]
      show (q.es.set i (x.1, _)).map (·.2) = _
      rw [List.map_set, Int.toNat_natCast, hxe]; rfl
    have H : St W0 No E [qA I.b { q with es := q.es.set i (x.1, { x.2 with placed := true, addr := 64 + (a k).B, size := ((a k).S : Int).toNat }) }, blk I.kx (rootV I X) 35, blk I.kg (natsV .u32 X.n X.got) 39, blk I.kv ((boolsV X.n X.given).setIfInBounds k (.bool true)) 4, blk I.kk (boolsV X.n X.known) 4, blk I.kd (boolsV X.n X.done) 4, blk I.km (natsV .u8 16 X.mem) 5] := H.take 7
    rw [hq', bools_set] at H
    have H : St W0 No E (pcs I q' (X.give k)) := H
    have gk : (X.give k).given k = true := upd_same _ _ _
    have keep : X.given X.out = true → (X.give k).given X.out = true := fun e => by
      show upd X.given k true X.out = true
      unfold upd
      split
      · rfl
      · exact e
    rcases hans with ⟨hz, hb⟩ | ⟨m, hz, hkm, hmi, hdm, hsm, hb⟩
    · rw [hz]
      refine split_of (fun q => absurd (of_decide_eq_true q) (by decide)) (fun _ => ⟨rfl, X.give k, ?_, ⟨q', hq2, H⟩, rfl, rfl, rfl, h2, gk, keep, fun e => by rw [q1] at e; cases e⟩)
      have hinv := give_inv hI h1 h2 (Nat.le_refl _) q1 hb
      rw [show (X.give k).back X.inn = X.give k from back_self (X := X.give k) (fun j hj => ?_) (fun j hj => ((hI.live j).1 hj).1)] at hinv
      · exact hinv
      · have hj : X.inn ≤ j := hj
        have h5 := hI.late j hj
        exact ⟨by show upd X.given k true j = false; rw [upd_other _ _ (by omega)]; exact h5.1, h5.2⟩
    · rw [hz]
      refine split_of (fun _ => ?_) (fun q => absurd (of_decide_eq_false q) (by omega))
      refine split_of (fun q => absurd (of_decide_eq_true q) (by omega)) (fun _ => ?_)
      refine ⟨_, _, _, H.ld 1 rfl rfl, split_of (fun q => absurd (of_decide_eq_true q) (by show ¬ (m : Int) ≥ ((X.n : Nat) : Int); omega)) (fun _ => ?_)⟩
      obtain ⟨g2, off2, hp2, hc2⟩ := cell_acs hA H (i := m) (by omega)
      refine ⟨_, _, _, H.ld 1 rfl rfl, ⟨by omega, by show (m : Int) < ((X.n : Nat) : Int); omega⟩, adr_eq hp2 ⟨(a m).store, by rw [Int.toNat_natCast]; exact hc2 0 _ rfl, ?_⟩⟩
      rw [hsm]
      refine split_of (fun q => by cases q) (fun _ => ?_)
      refine ⟨_, _, _, H.ld 1 rfl rfl, ⟨by omega, by show (m : Int) < ((X.n : Nat) : Int); omega⟩, adr_some ⟨X.done m, by rw [ix0]; exact H.ld 5 rfl (bools_get _ (by show m < X.n; omega)), ?_⟩⟩
      rw [hdm]
      refine split_of (fun q => by cases q) (fun _ => ?_)
      refine (xback_any (X := X.give k) (m := m) (by show X.out ≤ m; omega) (by show m ≤ X.n; omega) h60 ⟨q', hq2, H⟩).mono ?_
      rintro e F ⟨rfl, hQ⟩
      refine ⟨rfl, rfl, _, give_inv hI h1 hkm (by omega) q1 hb, hQ, rfl, rfl, psi_back hI (by omega) (by omega), hkm, ?_, fun e => ?_, fun e => by rw [q1] at e; cases e⟩
      · exact (cut_lt hkm).trans gk
      · exact (cut_lt (by omega)).trans (keep e)
  · have q1 : X.given k = true := by simpa using q1
    refine ⟨fun t D => t = ((a k).store && !X.known k) ∧ St W0 No D (pcs I q X ++ [blk k5 (a k).cells 41]), ⟨(a k).store, H.ld 7 rfl rfl, split_of (fun q2 => ?_) (fun q2 => ?_)⟩, fun _ => ?_⟩
    · refine ⟨_, _, _, H.ld 1 rfl rfl, ⟨by omega, by omega⟩, adr_some ⟨X.known k, by rw [ix0]; exact H.ld 4 rfl (bools_get _ (by omega)), ?_, H⟩⟩
      rw [q2]; rfl
    · exact ⟨by rw [q2]; rfl, H⟩
    clear H
    rintro t D ⟨rfl, H⟩
    refine split_of (fun q2 => ?_) (fun q2 => ?_)
    · obtain ⟨hst, hkn⟩ : (a k).store = true ∧ X.known k = false := by simpa using q2
      refine H.dr fun E H => ⟨_, H.ld 1 rfl rfl, _, H.ld 7 rfl rfl, (value_any (H.nth 0 rfl) hq.n32 k (a k).data).mono ?_⟩
      intro e F hpp
      have hdec : valueK (k : Nat) q.es = some i := by
        unfold valueK
        rw [hfind]
        dsimp only
        rw [hx]
        dsimp only
        rw [hxe]
        show (if !(a k).store || X.known k then none else some i) = some i
        rw [hst, hkn]; rfl
      unfold ValuePost at hpp
      rw [hdec] at hpp
      obtain ⟨rfl, x', hx', hP⟩ := hpp
      rw [hx] at hx'
      cases hx'
      have H := H.upd 0 rfl hP
      refine ⟨_, rfl, _, _, _, H.ld 1 rfl rfl, ⟨by omega, by omega⟩, adr_some ?_⟩
      rw [ix0]
      refine H.st 4 rfl (by rw [boolsV, fn_size]; omega) fun G H => nil_true ?_
      obtain ⟨q', hq'⟩ : ∃ q', ({ q with es := q.es.set i (x.1, { x.2 with valued := true, data := (a k).data }) } : PQ) = q' := ⟨_, rfl⟩
      have hq2 : QOk a (X.value k) q' := by
        subst hq'
        refine ⟨?_, by show (q.es.set i _).length ≤ q.size; rw [List.length_set]; exact hq.len, hq.s1, hq.s32⟩
        rw [← value_list hI hk, ← hq.eq]
        show (q.es.set i (x.1, _)).map (·.2) = _
        rw [List.map_set, hxe]; rfl
      have H : St W0 No G [qA I.b { q with es := q.es.set i (x.1, { x.2 with valued := true, data := (a k).data }) }, blk I.kx (rootV I X) 35, blk I.kg (natsV .u32 X.n X.got) 39, blk I.kv (boolsV X.n X.given) 4, blk I.kk ((boolsV X.n X.known).setIfInBounds k (.bool true)) 4, blk I.kd (boolsV X.n X.done) 4, blk I.km (natsV .u8 16 X.mem) 5] := H.take 7
      rw [hq', bools_set] at H
      exact ⟨rfl, X.value k, value_inv hI h1 h2, ⟨q', hq2, H⟩, rfl, rfl, rfl, h2, q1, id, fun _ _ => ⟨fun _ => upd_same _ _ _, fun e => (by rw [hst] at e; cases e)⟩⟩
    · refine ⟨(a k).store, H.ld 7 rfl rfl, split_of (fun q3 => ?_) (fun q3 => ?_)⟩
      · have hst : (a k).store = false := by simpa using q3
        refine ⟨_, _, _, H.ld 1 rfl rfl, ⟨by omega, by omega⟩, adr_some ⟨X.done k, by rw [ix0]; exact H.ld 5 rfl (bools_get _ (by omega)), split_of (fun q4 => ?_) (fun q4 => ?_)⟩⟩
        · have q4 : X.done k = false := by simpa using q4
          refine ⟨_, H.ld 1 rfl rfl, (search_any (H.nth 0 rfl) (hq.oks hI) hq.n32 k bold).mono ?_⟩
          rintro e E ⟨hpp, hh⟩
          have H := H.quiet hh
          have hload : loadP (k : Nat) q.es = some i := by
            unfold loadP
            rw [hfind]
            dsimp only
            rw [hx]
            dsimp only
            rw [hxe]
            show (if (a k).store || !X.given k then none else some i) = some i
            rw [hst, q1]; rfl
          unfold SearchPost at hpp
          rw [hload] at hpp
          obtain ⟨x', hx', rfl⟩ := hpp
          rw [hx] at hx'
          cases hx'
          have ea : (entR a X k).addr = 64 + (a k).B := by show (if X.given k then 64 + (a k).B else 0) = _; rw [q1]; rfl
          have es : (entR a X k).size = (a k).S := by show (if X.given k then (a k).S else 0) = _; rw [q1]; rfl
          have eq : q.es.map (·.2) = X.J.map (entR a X) := hq.eq
          obtain ⟨F, hF⟩ : ∃ F : Src, F = srcs ((X.J.map (entR a X)).take i) (64 + (a k).B) (a k).S := ⟨_, rfl⟩
          have hcase : (searchV bold q.es i x.2 = waitV ∧ (k = X.out → False)) ∨ (searchV bold q.es i x.2 = foundV (64 + (a k).B) F ∧ waitF F = false) := by
            unfold searchV
            rw [hxe, ea, es, eq, ← hF]
            have hany : ((q.es.take i).any fun y => unplaced y.2) = ((X.J.map (entR a X)).take i).any unplaced := by
              rw [← eq, ← List.map_take, List.any_map]; rfl
            rw [hany]
            have hnw : k = X.out → waitF F = false ∧ ((X.J.map (entR a X)).take i).any unplaced = false := fun e => by
              subst e
              rw [hF]; exact no_wait hI hk
            by_cases e1 : (!bold && ((X.J.map (entR a X)).take i).any unplaced) = true
            · rw [if_pos e1]
              refine .inl ⟨rfl, fun e => ?_⟩
              rw [(hnw e).2, Bool.and_false] at e1
              cases e1
            · rw [if_neg e1]
              by_cases e2 : waitF F = true
              · rw [if_pos e2]
                refine .inl ⟨rfl, fun e => ?_⟩
                rw [(hnw e).1] at e2
                cases e2
              · rw [if_neg e2]
                exact .inr ⟨rfl, Bool.eq_false_iff.2 e2⟩
          rcases hcase with ⟨hs, hno⟩ | ⟨hs, hw⟩
          · rw [hs]
            exact ⟨_, _, rfl, H.al fun k7 G H => H.sts0 8 rfl rfl rfl wait_one fun K H => nil_true (split_of (fun q => by cases q) (fun _ => ⟨true, H.ld 8 rfl rfl, split_of (fun _ => nil_true ⟨rfl, X, hI, ⟨q, hq, H.take 7⟩, rfl, rfl, rfl, h2, q1, id, fun _ e => (hno e).elim⟩) (fun q => by cases q)⟩))⟩
          · rw [hs]
            refine ⟨_, _, rfl, H.al fun k7 G H => H.sts0 8 rfl rfl rfl (found_one _ _) fun K H => nil_true (split_of (fun q => by cases q) (fun _ => ⟨false, H.ld 8 rfl rfl, split_of (fun q => by cases q) (fun _ => ?_)⟩))⟩
            refine ⟨_, _, _, H.ld 1 rfl rfl, (bytes_any (H.blk 6 rfl) hI.mem_lt (a k).B (a k).S hf.1 (by omega)).mono ?_⟩
            rintro e M ⟨rfl, rfl⟩
            have H : St W0 No M (pcs I q X ++ [blk k5 (a k).cells 41, blk k7 (foundV (64 + (a k).B) F) 63]) := H
            refine ⟨_, rfl, fun x2 x3 A => ∃ c : Nat, x2 = c ∧ c ≤ (a k).S ∧ x3 = ((hiB (gB X F (a k).B c) (a k).S (a k).B : Nat) : Int) ∧ St W0 No A (pcs I q X ++ [blk k5 (a k).cells 41, blk k7 (foundV (64 + (a k).B) F) 63]), fun x2 _ _ => (a k).S - x2.toNat, ⟨0, rfl, Nat.zero_le _, by rw [gB_zero], H⟩, fun _ => ?_⟩
            clear H
            rintro x2 x3 A ⟨c, rfl, hc, rfl, H⟩
            have hlt : hiB (gB X F (a k).B c) (a k).S (a k).B < 4294967296 := Nat.lt_of_lt_of_le (hiB_lt (gB_lt hI F _ _) _ _) (show 256 ^ (a k).S ≤ 256 ^ 4 from Nat.pow_le_pow_right (by decide) (by omega))
            refine split_of (fun q5 => ?_) (fun q5 => ?_)
            · have q5 : c < (a k).S := by have := of_decide_eq_true q5; omega
              have hc4 : c < 4 := by omega
              have hml := mask_lt F
              have hvl := val_lt (64 + (a k).B) F
              refine ⟨_, H.ld 8 rfl rfl, by omega, ?_⟩
              rintro z7 rfl
              rw [Int.toNat_natCast, show IntKind.bits .i64 = 64 from rfl, Nat.min_eq_left (show c ≤ 64 by omega), shr]
              have e8 : IntKind.wrap .i64 (((BitVec.ofInt 64 ((maskF F / 2 ^ c : Nat) : Int) &&& BitVec.ofInt 64 1).toNat : Nat) : Int) = ((maskF F / 2 ^ c % 2 : Nat) : Int) := by
                have := land64 (x := maskF F / 2 ^ c) (y := 1) (by have := Nat.div_le_self (maskF F) (2 ^ c); omega) (by decide)
                rw [Nat.and_one_is_mod] at this
                exact this
              rintro z8 rfl
              rw [e8, mask_bit F hc4]
              by_cases hsome : (F c).isSome = true
              · rw [if_pos hsome]
                refine split_of (fun _ => ?_) (fun q => by cases q)
                have e9 : IntKind.wrap .i64 ((8 : Int) * (c : Int)) = ((8 * c : Nat) : Int) := by rw [show (8 : Int) * (c : Int) = ((8 * c : Nat) : Int) by omega, n64 (by omega)]
                have hp : 255 * 2 ^ (8 * c) < 4294967296 := by
                  have : 2 ^ (8 * c) ≤ 2 ^ 24 := Nat.pow_le_pow_right (by decide) (by omega)
                  omega
                have e10 : IntKind.wrap .u32 ((255 : Int) * 2 ^ min ((8 * c : Nat) : Int).toNat (IntKind.bits .u32)) = ((255 * 2 ^ (8 * c) : Nat) : Int) := by
                  rw [Int.toNat_natCast, show IntKind.bits .u32 = 32 from rfl, Nat.min_eq_left (show 8 * c ≤ 32 by omega), show (255 : Int) * 2 ^ (8 * c) = ((255 * 2 ^ (8 * c) : Nat) : Int) by rw [Int.natCast_mul, Int.natCast_pow]; rfl, n32 hp]
                rintro z9 rfl
                rw [e9]
                refine ⟨by omega, ?_⟩
                rintro z10 rfl
                rw [e10]
                rintro z11 rfl
                rw [andNot32 hlt hp]
                refine ⟨_, H.ld 8 rfl rfl, ?_⟩
                rintro z13 rfl
                refine ⟨by omega, ?_⟩
                rintro z14 rfl
                rw [e10]
                rintro z15 rfl
                rw [land32 hvl hp]
                rintro z16 rfl
                rw [lor32 (Nat.lt_of_le_of_lt Nat.and_le_left hlt) (Nat.lt_of_le_of_lt Nat.and_le_left hvl), set_byte (by omega) hlt hvl, val_byte _ F hc4, hiB_set (gB_lt hI F _ _) (byte_lt _ _) _ _ _ q5, Nat.add_assoc, gB_some F hsome]
                refine H.drN fun B H => ?_
                rintro z17 rfl
                rw [w64 (e := (c : Int) + 1) (by omega) (by omega)]
                exact ⟨⟨c + 1, by omega, by omega, rfl, H⟩, by show (a k).S - ((c : Int) + 1).toNat < (a k).S - (c : Int).toNat; omega⟩
              · rw [if_neg hsome]
                refine split_of (fun q => by cases q) (fun _ => ?_)
                rintro z18 rfl
                rw [w64 (e := (c : Int) + 1) (by omega) (by omega)]
                exact ⟨⟨c + 1, by omega, by omega, by rw [gB_none F (Bool.eq_false_iff.2 hsome)], H⟩, by show (a k).S - ((c : Int) + 1).toNat < (a k).S - (c : Int).toNat; omega⟩
            · have q5 : ¬ c < (a k).S := by have := of_decide_eq_false q5; omega
              obtain rfl : c = (a k).S := by omega
              obtain ⟨v, hv⟩ : ∃ v, v = hiB (gB X F (a k).B (a k).S) (a k).S (a k).B := ⟨_, rfl⟩
              rw [← hv]
              refine ⟨_, _, _, H.ld 1 rfl rfl, ⟨by omega, by omega⟩, adr_some ?_⟩
              rw [ix0]
              refine H.st 2 rfl (by rw [natsV, fn_size]; omega) fun B H => ?_
              refine ⟨_, _, _, H.ld 1 rfl rfl, ⟨by omega, by omega⟩, adr_some ?_⟩
              rw [ix0]
              refine H.st 5 rfl (by rw [boolsV, fn_size]; omega) fun D H => ?_
              refine ⟨_, H.ld 1 rfl rfl, (loaded_any (H.nth 0 rfl) (hq.oks hI) hq.n32 k).mono ?_⟩
              intro e N hpp
              have hld : loadedK (k : Nat) q.es = some i := by
                unfold loadedK
                rw [hload]
                dsimp only
                rw [hx]
                dsimp only
                rw [hxe, ea, es, eq, ← hF, if_neg]
                rintro (e | e)
                · have e : X.done k = true := e
                  rw [q4] at e; cases e
                · rw [hw] at e; cases e
              unfold LoadedPost at hpp
              rw [hld] at hpp
              obtain ⟨rfl, x', hx', hP⟩ := hpp
              rw [hx] at hx'
              cases hx'
              have H := H.upd 0 rfl hP
              obtain ⟨r, hr⟩ : ∃ r : Nat → Int, ∀ c, r c = frI (F c) := ⟨fun c => frI (F c), fun _ => rfl⟩
              obtain ⟨q', hq'⟩ : ∃ q', ({ q with es := q.es.set i (x.1, x.2.withFr (srcs ((ens q).take i) x.2.addr x.2.size)) } : PQ) = q' := ⟨_, rfl⟩
              have hq2 : QOk a (X.load k v r) q' := by
                subst hq'
                refine ⟨?_, by show (q.es.set i _).length ≤ q.size; rw [List.length_set]; exact hq.len, hq.s1, hq.s32⟩
                rw [← load_list hI hk r, ← hq.eq]
                show (q.es.set i (x.1, _)).map (·.2) = _
                rw [List.map_set, hxe, ea, es, hq.eq, ← hF, hr, hr, hr, hr]
                show ((q.es.map (·.2)).set i _) = _
                rw [eq]; rfl
              have H : St W0 No N [qA I.b { q with es := q.es.set i (x.1, x.2.withFr (srcs ((ens q).take i) x.2.addr x.2.size)) }, blk I.kx (rootV I X) 35, blk I.kg ((natsV .u32 X.n X.got).setIfInBounds k (.int .u32 (v : Nat))) 39, blk I.kv (boolsV X.n X.given) 4, blk I.kk (boolsV X.n X.known) 4, blk I.kd ((boolsV X.n X.done).setIfInBounds k (.bool true)) 4, blk I.km (natsV .u8 16 X.mem) 5] := H.take 7
              rw [hq', bools_set, nats_set] at H
              refine ⟨_, rfl, nil_true ⟨rfl, X.load k v r, load_inv hI h1 h2 q1 hst (load_src hI hk hF hr) ?_, ⟨q', hq2, H⟩, rfl, rfl, rfl, h2, q1, id, fun _ _ => ⟨fun e => (by rw [hst] at e; cases e), fun _ => upd_same _ _ _⟩⟩⟩
              rw [hv]
              exact load_val hI hk hF hw hr
        · have q4 : X.done k = true := by simpa using q4
          exact ⟨rfl, X, hI, ⟨q, hq, H.take 7⟩, rfl, rfl, rfl, h2, q1, id, fun _ _ => ⟨fun e => (by rw [hst] at e; cases e), fun _ => q4⟩⟩
      · have hst : (a k).store = true := by simpa using q3
        have hkn : X.known k = true := by rw [hst] at q2; simpa using q2
        exact ⟨rfl, X, hI, ⟨q, hq, H.take 7⟩, rfl, rfl, rfl, h2, q1, id, fun _ _ => ⟨fun _ => hkn, fun e => (by rw [hst] at e; cases e)⟩⟩
end Go.Proofs.YtngfaiahlblkkaaDoor
