/- The queue, part G: gather. No condition. -/
import Derived.Test.YtngfaiahlblkkaaDoorLsqF
namespace Go.Proofs.YtngfaiahlblkkaaDoor
open Go.RowKit Go.XHeap Go.Sx Go.Sep Go.Bits
set_option linter.unusedVariables false
set_option maxRecDepth 100000
variable {W w' : World} {b : Nat} {q v : PQ}

def GatherR (A : Nat) (F : Src) (e : Ending) : Prop := if waitF F = true then ∃ g0 g1 g2 g3 : Int, e = .returned (.tuple #[.agg waitV, .agg #[.int .i64 g0, .int .i64 g1, .int .i64 g2, .int .i64 g3]]) else e = .returned (.tuple #[.agg (foundV A F), .agg (frV F)])
theorem fr_one (F : Src) : ∀ v ∈ (frV F).toList, v.oneCell' = true := by
  intro v hv; simp [frV] at hv; rcases hv with rfl | rfl | rfl | rfl <;> rfl
theorem found_one (A : Nat) (F : Src) : ∀ v ∈ (foundV A F).toList, v.oneCell' = true := by
  intro v hv; simp [foundV] at hv; rcases hv with rfl | rfl | rfl <;> rfl
theorem wait_one : ∀ v ∈ waitV.toList, v.oneCell' = true := by
  intro v hv; simp [waitV] at hv; rcases hv with rfl | rfl | rfl <;> rfl
theorem cover_span {a s : Nat} {e : En} (ho : e.Ok) (ha : a + s ≤ 4294967296) (hs : s ≤ 4) (he : e.store = true) (hp : e.placed = true) (c : Nat) (hc : c < s) : coverP (a + c) e = true ↔ spanLo e.addr a ≤ c ∧ (c : Int) < spanHi e.addr e.size a s := by
  have h4 : e.size ≤ 4 := by rcases ho.size with e | e | e | e <;> omega
  rw [span_in ho.fits ha hs h4]
  unfold coverP
  rw [he, hp, Bool.true_and, Bool.true_and, decide_eq_true_iff]
  omega
theorem shr_and {d n : Nat} (hd : d < 4294967296) : IntKind.wrap .u32 (((BitVec.ofInt (IntKind.bits .u32) ((d / 2 ^ n : Nat) : Int) &&& BitVec.ofInt (IntKind.bits .u32) 255).toNat : Nat) : Int) = ((d / 2 ^ n % 256 : Nat) : Int) := by
  have h := land32 (x := d / 2 ^ n) (y := 255) (Nat.lt_of_le_of_lt (Nat.div_le_self _ _) hd) (by decide)
  have e : d / 2 ^ n &&& 255 = d / 2 ^ n % 256 := Nat.and_two_pow_sub_one_eq_mod _ 8
  rw [e] at h
  exact h
set_option maxHeartbeats 1000000 in
theorem gather_any (h : (qA b q).at_ W) (ho : AllOk q.es) (hn : q.es.length ≤ 32) (i : Nat) (x : Nat × En) (hx : q.es[i]? = some x) :
    Calls Tryd.prog 48 #[.pointer (some ⟨b, 0, none⟩), .int .i64 i] W fun e w => GatherR x.2.addr (srcs ((ens q).take i) x.2.addr x.2.size) e ∧ Hush W w := by
  have hil := (List.getElem?_eq_some_iff.1 hx).1
  have hxo := ho x (List.mem_of_getElem? hx)
  have hsz : x.2.size ≤ 4 := by rcases hxo.size with e | e | e | e <;> omega
  have hfit := hxo.fits
  have keep : ∀ {A : World} {L : List Asn}, St W No A L → (qA b q).at_ A := fun H => (qA b q).keep h H.touch (fun _ _ e => e)
  refine vc48 b 0 i ((St.nil W).al fun k A H => H.al fun k2 B H => ?_)
  have H : St W No B [blk k #[.bool false, .int .i64 0, .int .u32 0] 63, blk k2 #[.int .i64 0, .int .i64 0, .int .i64 0, .int .i64 0] 88] := H
  have R := q_open (keep H)
  obtain ⟨g, o, hpp, hc⟩ := ptr_at (R.nth 1 rfl) hx
  refine ⟨_, _, _, R.ld 0 rfl rfl, ⟨by omega, by omega⟩, adr_eq hpp ⟨_, hc, ?_⟩⟩
  rintro vs rfl
  refine H.sts0 1 rfl rfl rfl (by intro v hv; simp at hv; rcases hv with rfl | rfl | rfl | rfl <;> rfl) fun C H => ?_
  rintro z rfl
  rw [w64 (by omega) (by omega)]
  clear R hc hpp
  obtain ⟨old, hold⟩ : ∃ old, old = (ens q).take i := ⟨_, rfl⟩
  have holl : old.length = i := by rw [hold, List.length_take]; simp [ens]; omega
  rw [← hold]
  obtain ⟨Fm, hFm⟩ : ∃ Fm : Nat → Src, Fm = fun m => srcs (old.drop m) x.2.addr x.2.size := ⟨_, rfl⟩
  have hFmb : ∀ m c, Fm m c = if c < x.2.size then srcOf (old.drop m) (x.2.addr + c) else none := fun m c => by rw [hFm]; rfl
  have hF0 : Fm 0 = srcs old x.2.addr x.2.size := by rw [hFm]; rfl
  rw [← hF0]
  have hFi : Fm i = fun _ => none := by
    funext c
    rw [hFmb, List.drop_of_length_le (by omega)]
    split <;> rfl
  have H : St W No C [blk k (foundV x.2.addr (Fm i)) 63, blk k2 (frV (Fm i)) 88] := by rw [hFi]; exact H
  have oldmem : ∀ e, e ∈ old → ∃ y ∈ q.es, y.2 = e := fun e he => by
    rw [hold] at he
    have := List.mem_of_mem_take he
    unfold ens at this
    obtain ⟨y, hy, rfl⟩ := List.mem_map.1 this
    exact ⟨y, hy, rfl⟩
  have seqpos : ∀ m c e, Fm m c = some e → 0 ≤ e.seq := fun m c e he => by
    rw [hFmb] at he
    split at he
    · obtain ⟨h1, -⟩ := src_mem he
      obtain ⟨y, hy, rfl⟩ := oldmem e (List.mem_of_mem_drop h1)
      exact (ho y hy).pos
    · cases he
  -- what is found among the younger ones stays
  have mono : ∀ m c e, Fm m c = some e → Fm 0 c = some e := fun m c e he => by
    rw [hFmb] at he ⊢
    split at he
    · rename_i hc
      rw [if_pos hc, List.drop_zero, ← List.take_append_drop m old, src_app, he]; rfl
    · cases he
  have waits : ∀ m c e, c < 4 → Fm m c = some e → e.valued = false → waitF (Fm 0) = true := fun m c e hc he hv => by
    unfold waitF
    refine List.any_eq_true.2 ⟨c, List.mem_range.2 hc, ?_⟩
    rw [mono m c e he]
    show (!e.valued) = true
    rw [hv]; rfl
  refine ⟨fun z D => ∃ m : Nat, z = (m : Int) - 1 ∧ m ≤ i ∧ (∀ c, c < 4 → waitO (Fm m c) = false) ∧ St W No D [blk k (foundV x.2.addr (Fm m)) 63, blk k2 (frV (Fm m)) 88], fun z _ => (z + 1).toNat, ⟨i, rfl, Nat.le_refl _, fun c _ => by rw [hFi]; rfl, H⟩, fun _ => ?_⟩
  clear H
  rintro z D ⟨m, rfl, hm, hnw, H⟩
  refine split_of (fun q1 => ?_) (fun q1 => ?_)
  · have q1 := of_decide_eq_true q1
    obtain ⟨j, rfl⟩ : ∃ j, m = j + 1 := ⟨m - 1, by omega⟩
    have ej : ((j + 1 : Nat) : Int) - 1 = (j : Nat) := by omega
    rw [ej]
    have hjl : j < q.es.length := by omega
    have hy := List.getElem?_eq_getElem hjl
    obtain ⟨y, hye⟩ : ∃ y, y = q.es[j] := ⟨_, rfl⟩
    rw [← hye] at hy
    have hyo := ho y (List.mem_of_getElem? hy)
    have hdr : old.drop j = y.2 :: old.drop (j + 1) := by
      have : old[j]? = some y.2 := by rw [hold, List.getElem?_take_of_lt (by omega)]; simp [ens, hy]
      obtain ⟨hjo, e⟩ := List.getElem?_eq_some_iff.1 this
      rw [List.drop_eq_getElem_cons hjo, e]
    have hFj : ∀ c, Fm j c = if c < x.2.size then (Fm (j + 1) c).or (if coverP (x.2.addr + c) y.2 then some y.2 else none) else none := fun c => by
      rw [hFmb, hFmb]
      split
      · rename_i hc
        rw [hdr, src_cons]
      · rfl
    have R := q_open (keep H)
    obtain ⟨g, o, hpp, hc⟩ := ptr_at (R.nth 1 rfl) hy
    have hB := ent_blk (R.nth 2 rfl) hy
    have hBx := ent_blk (R.nth 2 rfl) hx
    have miss : (∀ c, Fm j c = Fm (j + 1) c) → ∀ z2 : Int, z2 = IntKind.wrap .i64 ((j : Int) - 1) → (∃ m : Nat, z2 = (m : Int) - 1 ∧ m ≤ i ∧ (∀ c, c < 4 → waitO (Fm m c) = false) ∧ St W No D [blk k (foundV x.2.addr (Fm m)) 63, blk k2 (frV (Fm m)) 88]) ∧ (z2 + 1).toNat < ((j : Int) + 1).toNat := by
      rintro hs z2 rfl
      have : Fm j = Fm (j + 1) := funext hs
      rw [w64 (by omega) (by omega)]
      exact ⟨⟨j, rfl, by omega, by rw [this]; exact hnw, by rw [this]; exact H⟩, by omega⟩
    have nocover : (∀ a, coverP a y.2 = false) → ∀ c, Fm j c = Fm (j + 1) c := fun hno c => by
      rw [hFj, hno]
      split
      · cases Fm (j + 1) c <;> rfl
      · rename_i hc
        rw [hFmb, if_neg hc]
    refine ⟨_, _, _, R.ld 0 rfl rfl, ⟨by omega, by omega⟩, adr_eq hpp ⟨_, hc, ptr_some ⟨y.2.store, by rw [add_none]; exact hB.cell' rfl, split_of (fun q2 => ?_) (fun q2 => ptr_some ⟨y.2.placed, by rw [add_none]; exact hB.cell' rfl, split_of (fun q3 => ?_) (fun q3 => ?_)⟩)⟩⟩⟩
    · have q2 : y.2.store = false := by simpa using q2
      exact miss (nocover fun a => by unfold coverP; rw [q2]; rfl)
    · have q3 : y.2.placed = false := by simpa using q3
      exact miss (nocover fun a => by unfold coverP; rw [q3, Bool.false_and, Bool.and_false])
    have q2 : y.2.store = true := by simpa using q2
    have q3 : y.2.placed = true := by simpa using q3
    refine ptr_some ⟨x.2.addr, by rw [add_none]; exact hBx.cell' rfl, ptr_some ⟨x.2.size, by rw [add_none]; exact hBx.cell' rfl, _, _, fun k12 => span_drew hB hyo x.2.addr x.2.size hxo.addr hsz k12, ?_⟩⟩
    rintro E n rfl
    have H := H.drewN n
    have hcov := fun c hc => cover_span hyo hfit hsz q2 q3 c hc
    have hlo := span_lo y.2.addr x.2.addr
    have hhi := span_hi y.2.addr y.2.size x.2.addr x.2.size
    obtain ⟨lo, hlo2⟩ : ∃ lo : Nat, spanLo y.2.addr x.2.addr = lo := ⟨(spanLo y.2.addr x.2.addr).toNat, by omega⟩
    obtain ⟨hi, hhi2⟩ : ∃ hi : Int, spanHi y.2.addr y.2.size x.2.addr x.2.size = hi := ⟨_, rfl⟩
    rw [hlo2] at hlo
    rw [hhi2] at hhi
    rw [hlo2, hhi2] at hcov
    rw [hlo2, hhi2]
    obtain ⟨mix, hmix⟩ : ∃ mix : Nat → Src, mix = fun c c2 => if lo ≤ c2 ∧ c2 < c then Fm j c2 else Fm (j + 1) c2 := ⟨_, rfl⟩
    have hmx : ∀ c c2, mix c c2 = if lo ≤ c2 ∧ c2 < c then Fm j c2 else Fm (j + 1) c2 := fun c c2 => by rw [hmix]
    have hm0 : mix lo = Fm (j + 1) := by
      funext c2
      rw [hmx, if_neg (by omega)]
    refine ⟨fun z F => ∃ c : Nat, z = c ∧ lo ≤ c ∧ (c : Int) ≤ max (lo : Int) hi ∧ (∀ c2, c2 < 4 → waitO (mix c c2) = false) ∧ St W No F [blk k (foundV x.2.addr (mix c)) 63, blk k2 (frV (mix c)) 88], fun z _ => 100 - z.toNat, ⟨lo, rfl, Nat.le_refl _, by omega, by rw [hm0]; exact hnw, by rw [hm0]; exact H⟩, fun _ => ?_⟩
    clear H R hpp hc hB hBx miss hnw
    rintro z F ⟨c, rfl, hc1, hc2, hnw, H⟩
    refine split_of (fun q4 => ?_) (fun q4 => ?_)
    · have q4 := of_decide_eq_true q4
      have hcs : c < x.2.size := by omega
      have hc4 : c < 4 := by omega
      have hcv : coverP (x.2.addr + c) y.2 = true := (hcov c hcs).2 ⟨by omega, q4⟩
      have hFjc : Fm j c = (Fm (j + 1) c).or (some y.2) := by rw [hFj, if_pos hcs, hcv]; rfl
      have hmc : mix c c = Fm (j + 1) c := by rw [hmx, if_neg (by omega)]
      have next : ∀ {G : World}, mix (c + 1) = mix c → St W No G [blk k (foundV x.2.addr (mix c)) 63, blk k2 (frV (mix c)) 88] → ∀ z9 : Int, z9 = IntKind.wrap .i64 ((c : Int) + 1) → (∃ c : Nat, z9 = c ∧ lo ≤ c ∧ (c : Int) ≤ max (lo : Int) hi ∧ (∀ c2, c2 < 4 → waitO (mix c c2) = false) ∧ St W No G [blk k (foundV x.2.addr (mix c)) 63, blk k2 (frV (mix c)) 88]) ∧ 100 - z9.toNat < 100 - (c : Int).toNat := by
        rintro G hs H z9 rfl
        rw [w64 (by omega) (by omega)]
        exact ⟨⟨c + 1, by omega, by omega, by omega, by rw [hs]; exact hnw, by rw [hs]; exact H⟩, by omega⟩
      have e0 : 0 + (c : Int).toNat * 1 = c := by omega
      rw [e0]
      refine ⟨⟨by omega, by omega⟩, frI (mix c c), (H.blk 1 rfl).cell' (fr_get _ hc4), split_of (fun q5 => ?_) (fun q5 => ?_)⟩
      · have q5 : ¬ frI (mix c c) = -1 := by simpa using q5
        refine next ?_ H
        funext c2
        rw [hmx, hmx]
        by_cases e : c2 = c
        · subst e
          rw [if_pos ⟨hc1, Nat.lt_succ_self _⟩, if_neg (by omega), hFjc]
          cases hq : Fm (j + 1) c2 with
          | none => exact absurd (by rw [hmc, hq]; rfl) q5
          | some e => rfl
        · by_cases e2 : lo ≤ c2 ∧ c2 < c
          · rw [if_pos ⟨e2.1, by omega⟩, if_pos e2]
          · rw [if_neg (by omega), if_neg e2]
      · have q5 : frI (mix c c) = -1 := by simpa using q5
        have hnone : mix c c = none := by
          cases hq : mix c c with
          | none => rfl
          | some e =>
            rw [hmc] at hq
            have := seqpos _ _ _ hq
            rw [hmc, hq] at q5
            have q5 : e.seq = -1 := q5
            omega
        have hFjs : Fm j c = some y.2 := by rw [hFjc, ← hmc, hnone]; rfl
        have hupd : mix (c + 1) = updF (mix c) c y.2 := by
          funext c2
          rw [hmx]
          unfold updF
          by_cases e : c2 = c
          · subst e
            rw [if_pos ⟨hc1, Nat.lt_succ_self _⟩, if_pos rfl, hFjs]
          · rw [if_neg e, hmx]
            by_cases e2 : lo ≤ c2 ∧ c2 < c
            · rw [if_pos ⟨e2.1, by omega⟩, if_pos e2]
            · rw [if_neg (by omega), if_neg e2]
        have hB := ent_blk ((q_open (keep H)).nth 2 rfl) hy
        refine ptr_some ⟨y.2.seq, by rw [add_none]; exact hB.cell' rfl, ⟨by omega, by omega⟩, H.st 1 rfl (by show c < 4; omega) fun G H => ?_⟩
        rw [fr_upd _ hc4, ← hupd] at H
        have H : St W No G [blk k (foundV x.2.addr (mix c)) 63, blk k2 (frV (mix (c + 1))) 88] := H
        have hB := ent_blk ((q_open (keep H)).nth 2 rfl) hy
        refine ⟨fun G => St W No G [blk k #[.bool (!y.2.valued), .int .i64 (maskF (mix c) : Nat), .int .u32 (valF x.2.addr (mix c) : Nat)] 63, blk k2 (frV (mix (c + 1))) 88], ⟨false, H.ld 0 rfl rfl, split_of (fun q => by cases q) (fun _ => ptr_some ⟨y.2.valued, by rw [add_none]; exact hB.cell' rfl, H.st 0 rfl (by show 0 < 3; omega) fun I H => H⟩)⟩, fun _ => ?_⟩
        clear H hB
        rintro G H
        refine ⟨!y.2.valued, H.ld 0 rfl rfl, split_of (fun q6 => ?_) (fun q6 => ?_)⟩
        · have q6 : y.2.valued = false := by simpa using q6
          refine H.dr fun I H => ?_
          rintro vs rfl
          have fin : ∀ {G : World}, Hush W G → GatherR x.2.addr (Fm 0) (.returned (.tuple #[.agg waitV, .agg (frV (mix (c + 1)))])) ∧ Hush W G := fun hh => ⟨by
            unfold GatherR
            rw [if_pos (waits j c y.2 hc4 hFjs q6)]
            exact ⟨_, _, _, _, rfl⟩, hh⟩
          exact ⟨⟨_, rfl, H.cells 1 rfl, Below.refl _ _, H.sts0 0 rfl rfl rfl wait_one fun J H => H.sts0 1 rfl rfl rfl (fr_one _) fun K H => ⟨waitV, rfl, H.cells 0 rfl, _, rfl, H.cells 1 rfl, fin H.touch⟩⟩,
            H.sts0 0 rfl rfl rfl wait_one fun J H => ⟨_, rfl, H.cells 1 rfl, H.sts0 1 rfl rfl rfl (fr_one _) fun K H => ⟨waitV, rfl, H.cells 0 rfl, _, rfl, H.cells 1 rfl, fin H.touch⟩⟩⟩
        · have q6 : y.2.valued = true := by simpa using q6
          rw [q6] at H
          have hml := mask_lt (mix c)
          have hvl := val_lt x.2.addr (mix c)
          refine H.dr fun I H => ⟨_, H.ld 0 rfl rfl, by omega, ?_⟩
          rintro z12 rfl
          rw [one_shl (by omega)]
          rintro z13 rfl
          rw [lor64 (by omega) (Nat.lt_of_le_of_lt (Nat.pow_le_pow_right (by decide) (show c ≤ 3 by omega)) (by decide)), mask_upd _ hc4 y.2 hnone, ← hupd]
          refine H.st 0 rfl (by show 1 < 3; omega) fun J H => H.dr fun K H => ⟨_, H.ld 0 rfl rfl, ?_⟩
          have R := q_open (keep H)
          have hB := ent_blk (R.nth 2 rfl) hy
          have hBx := ent_blk (R.nth 2 rfl) hx
          have hcv2 : y.2.addr ≤ x.2.addr + c ∧ x.2.addr + c < y.2.addr + y.2.size := by
            unfold coverP at hcv
            rw [q2, q3, Bool.true_and, Bool.true_and, decide_eq_true_iff] at hcv
            exact hcv
          have hy4 : y.2.size ≤ 4 := by rcases hyo.size with e | e | e | e <;> omega
          have hyd := hyo.data
          have hya := hyo.addr
          refine ptr_some ⟨y.2.data, by rw [add_none]; exact hB.cell' rfl, ptr_some ⟨x.2.addr, by rw [add_none]; exact hBx.cell' rfl, ?_⟩⟩
          rintro z17 rfl
          rw [n32 (by omega)]
          rintro z18 rfl
          rw [show ((x.2.addr : Nat) : Int) + (c : Nat) = ((x.2.addr + c : Nat) : Int) by omega, n32 (by omega)]
          refine ptr_some ⟨y.2.addr, by rw [add_none]; exact hB.cell' rfl, ?_⟩
          rintro z20 rfl
          rw [show ((x.2.addr + c : Nat) : Int) - (y.2.addr : Nat) = ((x.2.addr + c - y.2.addr : Nat) : Int) by omega, n32 (by omega)]
          rintro z21 rfl
          rw [show 8 * ((x.2.addr + c - y.2.addr : Nat) : Int) = ((8 * (x.2.addr + c - y.2.addr) : Nat) : Int) by omega, n32 (by omega)]
          refine ⟨by omega, ?_⟩
          have hbits : IntKind.bits .u32 = 32 := rfl
          rintro z22 rfl
          rw [Int.toNat_natCast, show min (8 * (x.2.addr + c - y.2.addr)) (IntKind.bits .u32) = 8 * (x.2.addr + c - y.2.addr) by rw [hbits]; omega, shr]
          rintro z23 rfl
          rw [shr_and hyd]
          rintro z24 rfl
          rw [show 8 * ((c : Nat) : Int) = ((8 * c : Nat) : Int) by omega, n64 (by omega)]
          refine ⟨by omega, ?_⟩
          rintro z25 rfl
          have hby := byte_lt (x.2.addr + c) (some y.2)
          have hpow : 2 ^ (8 * c) ≤ 2 ^ 24 := Nat.pow_le_pow_right (by decide) (by omega)
          have hprod : byteOf (x.2.addr + c) (some y.2) * 2 ^ (8 * c) < 4294967296 := by
            have := Nat.mul_le_mul (Nat.le_of_lt_succ (show byteOf (x.2.addr + c) (some y.2) < 255 + 1 from hby)) hpow
            omega
          have e25 : IntKind.wrap .u32 (((y.2.data / 2 ^ (8 * (x.2.addr + c - y.2.addr)) % 256 : Nat) : Int) * 2 ^ min ((8 * c : Nat) : Int).toNat (IntKind.bits .u32)) = ((byteOf (x.2.addr + c) (some y.2) * 2 ^ (8 * c) : Nat) : Int) := by
            rw [Int.toNat_natCast, show min (8 * c) (IntKind.bits .u32) = 8 * c by rw [hbits]; omega]
            have : ((y.2.data / 2 ^ (8 * (x.2.addr + c - y.2.addr)) % 256 : Nat) : Int) * 2 ^ (8 * c) = ((byteOf (x.2.addr + c) (some y.2) * 2 ^ (8 * c) : Nat) : Int) := by
              rw [Int.natCast_mul, Int.natCast_pow]; rfl
            rw [this, n32 hprod]
          rw [e25]
          rintro z26 rfl
          rw [lor32 hvl hprod, val_upd _ _ hc4 y.2 hnone, ← hupd]
          refine H.st 0 rfl (by show 2 < 3; omega) fun L H => ?_
          rintro z27 rfl
          rw [w64 (by omega) (by omega)]
          refine ⟨⟨c + 1, by omega, by omega, by omega, fun c2 hc2 => ?_, H⟩, by show 100 - ((c : Int) + 1).toNat < 100 - (c : Int).toNat; omega⟩
          rw [hupd]
          unfold updF
          split
          · show (!y.2.valued) = false
            rw [q6]; rfl
          · exact hnw c2 hc2
    · have q4 := of_decide_eq_false q4
      have hall : mix c = Fm j := by
        funext c2
        rw [hmx]
        split
        · rfl
        · rename_i hne
          rw [hFj]
          split
          · rename_i hcs
            have : ¬ coverP (x.2.addr + c2) y.2 = true := fun e => by
              have := (hcov c2 hcs).1 e
              omega
            rw [Bool.eq_false_iff.2 this]
            cases Fm (j + 1) c2 <;> rfl
          · rename_i hcs
            rw [hFmb, if_neg hcs]
      rw [hall] at H hnw
      rintro z28 rfl
      rw [w64 (by omega) (by omega)]
      exact ⟨⟨j, rfl, by omega, hnw, H⟩, by show ((j : Int) - 1 + 1).toNat < ((j : Int) + 1).toNat; omega⟩
  · have q1 := of_decide_eq_false q1
    obtain rfl : m = 0 := by omega
    have hw : waitF (Fm 0) = false := by
      refine Bool.eq_false_iff.2 fun e => ?_
      obtain ⟨c, hc, e⟩ := List.any_eq_true.1 e
      rw [hnw c (List.mem_range.1 hc)] at e
      cases e
    refine H.dr fun I H => ⟨_, rfl, H.cells 0 rfl, ?_⟩
    have fin : ∀ {G : World}, Hush W G → GatherR x.2.addr (Fm 0) (.returned (.tuple #[.agg (foundV x.2.addr (Fm 0)), .agg (frV (Fm 0))])) ∧ Hush W G := fun hh => ⟨by
      unfold GatherR
      rw [if_neg (by rw [hw]; decide)], hh⟩
    exact ⟨⟨_, rfl, H.cells 1 rfl, Below.refl _ _, H.sts0 0 rfl rfl rfl (found_one _ _) fun J H => H.sts0 1 rfl rfl rfl (fr_one _) fun K H => ⟨_, rfl, H.cells 0 rfl, _, rfl, H.cells 1 rfl, fin H.touch⟩⟩,
      H.sts0 0 rfl rfl rfl (found_one _ _) fun J H => ⟨_, rfl, H.cells 1 rfl, H.sts0 1 rfl rfl rfl (fr_one _) fun K H => ⟨_, rfl, H.cells 0 rfl, _, rfl, H.cells 1 rfl, fin H.touch⟩⟩⟩
end Go.Proofs.YtngfaiahlblkkaaDoor
