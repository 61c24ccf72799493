/- The law ArchOnly, walked. No condition but the tables as they are laid, and the parameters as they are. -/
import Derived.Test.YtcpmgklhfpcaeaaDoorArchJ
import Derived.Test.YtcpmgklhfpcaeaaDoorOnlyVc
namespace Go.Proofs.YtcpmgklhfpcaeaaDoor
open Go.RowKit Go.XHeap Go.Sx Go.Sep
set_option linter.unusedVariables false
set_option maxRecDepth 100000

abbrev No : Nat → Prop := fun _ => False
def first : List Int := [5243027, 3178771]
theorem first_eight : (MS.new first []).step.2.step.2.h.reg 2 = 8 := by kernel_rfl
theorem first_ok : imageOk first.length ([] : List Nat).length = true := by decide
theorem first_u : ∀ v ∈ first, U32 v := by
  intro v hv
  simp only [first, List.mem_cons, List.not_mem_nil, or_false] at hv
  rcases hv with rfl | rfl <;> exact u32_lit (by decide) (by decide)
variable {W w : World} {P : MP} {M M' : MS} {L : List Asn}
theorem hi_of (H : St W No w L) (k : Nat) {A : Asn} (hk : L[k]? = some A) : ∀ q, A.own q → W.heap.size ≤ q := fun q hq => (H.mine q (owns.nth k hk hq)).elim (fun e => e.elim) id
theorem reg_m (H : St W No w (machA P M :: L)) (ho : M.Ok) (i : Int) (h0 : 0 ≤ i) (h1 : i < 32) : Calls Tryd.prog 7 #[.pointer (some ⟨P.g.b, 0, none⟩), .int .i64 i] w fun e w' => e = .returned (.int .u32 (M.h.reg i)) ∧ w' = w :=
  hreg_any ((mach_open (H.nth 0 rfl)).nth 1 rfl) ho.h.x32 i h0 h1
theorem pc_m (H : St W No w (machA P M :: L)) : Calls Tryd.prog 8 #[.pointer (some ⟨P.g.b, 0, none⟩)] w fun e w' => e = .returned (.int .u32 M.h.pc) ∧ w' = w :=
  hpc_any ((mach_open (H.nth 0 rfl)).nth 1 rfl)
theorem step_m {pb gb : Nat} {Q : Ending → World → Prop} (hT : Tabs W.heap.size W) (H : St W No w (machA P M :: L)) (ho : M.Ok) (hout : M.out.length < 2000) (hb : P.b = pb) (hg : P.g.b = gb)
    (hq : ∀ (P' : MP) w', P'.b = pb → P'.g.b = gb → M.step.2.Ok → St W No w' (machA P' M.step.2 :: L) → Q (.returned (.tuple #[.agg M.step.1.1.vs, .bool M.step.1.2])) w') :
    Calls Tryd.prog 5 #[.pointer (some ⟨pb, 0, none⟩)] w Q := by
  subst hb
  refine (step_any (H.nth 0 rfl) ho hout (hT.st H (fun _ e => e.elim)) (hi_of H 0 rfl)).mono ?_
  rintro e w' ⟨P', h1, h2, rfl, hp⟩
  exact hq P' w' h1 (by rw [h2]; exact hg) ho.step (H.upd 0 rfl hp)
/-- the words of an array, i of them read -/
theorem only_ok {cp dp : Option Addr} {code : List Int} {data : List Nat} {cc dc : Nat} (hT : Tabs W.heap.size W) (hc : WordsAt W cp code) (hd : BytesAt W dp data) (hs : dp = none ∨ ∃ g off, dp = some ⟨g, off, none⟩) (hcu : ∀ v ∈ code, U32 v) (hdb : ∀ x ∈ data, x < 256) (steps : Int) :
    Calls Tryd.prog 3 #[.slice cp code.length cc, .slice dp data.length dc, .int .i64 steps] W fun e w => e = .returned (.bool true) ∧ Hush W w := by
  refine vc3 cp code.length cc dp data.length dc steps ((St.nil W).al fun k w2 H => ?_)
  have hwf : WordsAt w2 (some ⟨k, 0, none⟩) first := fun i x hx => by
    refine ⟨k, 0, rfl, (H.blk 0 rfl).lt, ?_⟩
    rw [Nat.zero_add]
    exact H.ld 0 rfl (by
      match i, hx with
      | 0, hx => cases hx; rfl
      | 1, hx => cases hx; rfl)
  refine (new_any (code := first) (data := []) (cc := 2) (dc := 0) hwf (fun i x hx => by cases hx) (.inl rfl)).mono ?_
  intro e w3 hn
  unfold NewIs at hn
  rw [if_neg (by rw [first_ok]; decide)] at hn
  obtain ⟨P, rfl, hp⟩ := hn
  have H := (H.add hp).pick [1, 0]
  refine ⟨_, _, rfl, nil_true (split_of (fun q => by cases q) fun _ => split_of (fun q => by cases q) fun _ => ?_)⟩
  have ho0 := new_ok first_ok first_u (fun x hx => by cases hx)
  refine step_m hT H ho0 (by decide) rfl rfl fun P1 w4 hb1 hg1 ho1 H => ⟨_, _, rfl, ?_⟩
  refine step_m hT H ho1 (Nat.lt_of_le_of_lt step_out (by decide)) hb1 hg1 fun P2 w5 hb2 hg2 ho2 H => ⟨_, _, rfl, ?_⟩
  rw [← hb2]
  refine (mhart_any (H.nth 0 rfl)).mono ?_
  rintro e w6 ⟨rfl, rfl⟩
  refine ⟨_, rfl, split_of (fun q => by cases q) fun _ => ?_⟩
  refine (reg_m H ho2 2 (by decide) (by decide)).mono ?_
  rintro e w7 ⟨rfl, rfl⟩
  refine ⟨_, rfl, ?_⟩
  rw [first_eight]
  refine (new_any (cc := cc) (dc := dc) (hc.keep H.touch) (hd.keep H.touch) hs).mono ?_
  intro e w8 hn
  by_cases hi : imageOk code.length data.length = false
  · unfold NewIs at hn
    rw [if_pos hi] at hn
    obtain ⟨rfl, rfl⟩ := hn
    refine ⟨_, _, rfl, nil_false (split_of (fun _ => ?_) (fun q => by cases q))⟩
    exact split_of (fun _ => split_of (fun _ => nil_false ⟨rfl, H.quiet'⟩) (fun q => by cases q)) (fun q => by cases q)
  have hi : imageOk code.length data.length = true := by simpa using hi
  unfold NewIs at hn
  rw [if_neg (by rw [hi]; decide)] at hn
  obtain ⟨P, rfl, hp⟩ := hn
  have H := (H.add hp).pick [2]
  refine ⟨_, _, rfl, nil_true (split_of (fun q => by cases q) fun _ => split_of (fun q => by cases q) fun _ => ?_)⟩
  refine (mhart_any (H.nth 0 rfl)).mono ?_
  rintro e w9 ⟨rfl, rfl⟩
  refine ⟨_, rfl, split_of (fun q => by cases q) fun _ => ?_⟩
  refine ⟨fun x w => ∃ (n : Nat) (P' : MP) (M : MS), x = n ∧ n ≤ 2000 ∧ P'.b = P.b ∧ P'.g.b = P.g.b ∧ M.Ok ∧ M.out.length ≤ n ∧ St W No w [machA P' M], fun x _ => 2000 - x.toNat,
    ⟨0, P, _, rfl, by decide, rfl, rfl, new_ok hi hcu hdb, Nat.le_refl _, H⟩, fun _ => ?_⟩
  rintro x w10 ⟨n, P1, M, rfl, hn, hb, hg, ho, hout, H⟩
  refine split_of (fun q => split_of (fun q2 => ?_) (fun q2 => ⟨rfl, H.quiet'⟩)) (fun q => ⟨rfl, H.quiet'⟩)
  have q2 := of_decide_eq_true q2
  refine H.al fun k2 w11 H => ?_
  refine ⟨fun w => ∃ cs : Array Value, cs.size = 32 ∧ (∀ i : Nat, i < 32 → cs[i]? = some (.int .u32 (M.h.reg i))) ∧ St W No w [machA P1 M, blk k2 cs 37], ?_, fun _ => ?_⟩
  · refine ⟨fun x w => ∃ (j : Nat) (cs : Array Value), x = j ∧ j ≤ 32 ∧ cs.size = 32 ∧ (∀ i : Nat, i < j → cs[i]? = some (.int .u32 (M.h.reg i))) ∧ St W No w [machA P1 M, blk k2 cs 37], fun x _ => 32 - x.toNat,
      ⟨0, _, rfl, by decide, rfl, fun i h => absurd h (Nat.not_lt_zero i), H⟩, fun _ => ?_⟩
    rintro x w12 ⟨j, cs, rfl, hj, hsz, hcs, H⟩
    refine split_of (fun q => ?_) (fun q => ?_)
    · have q := of_decide_eq_true q
      rw [← hg]
      refine (reg_m H ho j (by omega) q).mono ?_
      rintro e w13 ⟨rfl, rfl⟩
      refine ⟨_, rfl, ⟨by omega, q⟩, ?_⟩
      rw [ix1, Nat.zero_add]
      refine H.st 1 rfl (by rw [hsz]; omega) fun w14 H => ?_
      rintro z rfl
      rw [w64 (by omega) (by omega)]
      refine ⟨⟨j + 1, _, by omega, by omega, by rw [Array.size_setIfInBounds]; exact hsz, fun i hi => ?_, H⟩, by show 32 - ((j : Int) + 1).toNat < 32 - (j : Int).toNat; omega⟩
      rw [Array.getElem?_setIfInBounds]
      by_cases e : j = i
      · subst e
        rw [if_pos rfl, if_pos (by rw [hsz]; omega)]
      · rw [if_neg e]
        exact hcs i (by omega)
    · have q := of_decide_eq_false q
      exact ⟨cs, hsz, fun i hi => hcs i (by omega), H⟩
  rintro w15 ⟨cs, hsz, hcs, H⟩
  rw [← hg]
  refine (pc_m H).mono ?_
  rintro e w16 ⟨rfl, rfl⟩
  refine ⟨_, rfl, ?_⟩
  refine step_m hT H ho (by omega) hb hg fun P2 w17 hb2 hg2 ho2 H => ⟨_, _, rfl, H.al fun k3 w18 H => H.sts0 2 rfl rfl rfl (rt_one _) fun w19 H => ?_⟩
  rw [hg, ← hg2]
  refine (pc_m H).mono ?_
  rintro e w20 ⟨rfl, rfl⟩
  refine ⟨_, rfl, ?_⟩
  have hst := step_is ho
  have hou := step_out (M := M)
  refine ⟨fun w => M.step.1.2 = true ∧ St W No w [machA P2 M.step.2, blk k2 cs 37, blk k3 M.step.1.1.vs 31], split_of (fun t => split_of (fun _ => ?_) (fun q => by cases q)) (fun t => ⟨not_f t, H⟩), fun _ => ?_⟩
  · refine ⟨?_, H.quiet'⟩
    rw [hst.1 (not_t t)]
    congr 2
    exact beq_self_eq_true _
  rintro w21 ⟨ht, H⟩
  have hr := hst.2 ht
  refine ⟨fun w => St W No w [machA P2 M.step.2, blk k2 cs 37, blk k3 M.step.1.1.vs 31], ?_, fun _ => ?_⟩
  · have hrd : ∀ t, (M.step.1.1.cause != -1) = t → Sx.split t (∃ z12 : Int, w21.cell? ⟨k3, 0 + 2, none⟩ = some (.int .i64 z12) ∧ Sx.split (z12 != 0) (Ending.returned (.bool false) = .returned (.bool true) ∧ Hush W w21) (St W No w21 [machA P2 M.step.2, blk k2 cs 37, blk k3 M.step.1.1.vs 31])) (St W No w21 [machA P2 M.step.2, blk k2 cs 37, blk k3 M.step.1.1.vs 31]) := by
      rintro t rfl
      refine split_of (fun t => ⟨_, H.ld 2 rfl rfl, split_of (fun t2 => absurd (hr.cause (bne_t t)) (bne_t t2)) (fun _ => H)⟩) (fun _ => H)
    refine ⟨_, H.ld 2 rfl rfl, split_of (fun t => absurd hr.pc (bne_t t)) fun _ => ⟨_, H.ld 2 rfl rfl, split_of (fun t => absurd hr.next (bne_t t)) fun _ => ⟨⟨by decide, by decide⟩, _, H.ld 1 rfl (hcs 0 (by decide)), split_of (fun t => absurd ho.h.x0 (bne_t t)) fun _ => ⟨_, H.ld 2 rfl rfl, split_of (fun t => ?_) (fun t => ?_)⟩⟩⟩⟩
    · exact ⟨_, H.ld 2 rfl rfl, split_of (fun t2 => absurd (hr.val (beq_i t)) (bne_t t2)) fun _ => ⟨_, H.ld 2 rfl rfl, hrd _ rfl⟩⟩
    · exact ⟨_, H.ld 2 rfl rfl, hrd _ rfl⟩
  intro w22 H
  refine ⟨fun w => St W No w [machA P2 M.step.2, blk k2 cs 37, blk k3 M.step.1.1.vs 31], ?_, fun _ => ?_⟩
  · refine ⟨fun x w => ∃ j : Nat, x = j ∧ j ≤ 32 ∧ St W No w [machA P2 M.step.2, blk k2 cs 37, blk k3 M.step.1.1.vs 31], fun x _ => 32 - x.toNat, ⟨0, rfl, by decide, H⟩, fun _ => ?_⟩
    rintro x w23 ⟨j, rfl, hj, H⟩
    refine split_of (fun q => ?_) (fun q => H)
    have q := of_decide_eq_true q
    refine ⟨fun w => St W No w [machA P2 M.step.2, blk k2 cs 37, blk k3 M.step.1.1.vs 31], ?_, fun _ => ?_⟩
    · refine (reg_m H ho2 j (by omega) q).mono ?_
      rintro e w24 ⟨rfl, rfl⟩
      have hsame := hr.same j (by omega) q
      have hcell : w24.cell? ⟨k2, 0 + (j : Int).toNat * 1, none⟩ = some (.int .u32 (M.h.reg j)) := by
        rw [ix1, Nat.zero_add]
        exact H.ld 1 rfl (hcs j (by omega))
      refine ⟨_, rfl, _, H.ld 2 rfl rfl, split_of (fun t => ?_) (fun t => ?_)⟩
      · have t := beq_i t
        rw [if_pos t] at hsame
        refine ⟨_, H.ld 2 rfl rfl, split_of (fun t2 => absurd hsame (bne_t t2)) fun _ => ⟨_, H.ld 2 rfl rfl, split_of (fun t2 => absurd t (bne_t t2)) (fun _ => H)⟩⟩
      · have t := bne_i t
        rw [if_neg t] at hsame
        exact ⟨_, H.ld 2 rfl rfl, split_of (fun _ => ⟨⟨by omega, q⟩, _, hcell, split_of (fun t2 => absurd hsame (bne_t t2)) (fun _ => H)⟩) (fun _ => H)⟩
    · intro w25 H
      rintro z rfl
      rw [w64 (by omega) (by omega)]
      exact ⟨⟨j + 1, by omega, by omega, H⟩, by show 32 - ((j : Int) + 1).toNat < 32 - (j : Int).toNat; omega⟩
  intro w26 H
  have fin : ∀ z : Int, z = IntKind.wrap .i64 ((n : Int) + 1) → (∃ (n : Nat) (P' : MP) (M : MS), z = n ∧ n ≤ 2000 ∧ P'.b = P.b ∧ P'.g.b = P2.g.b ∧ M.Ok ∧ M.out.length ≤ n ∧ St W No w26 [machA P' M]) ∧ 2000 - z.toNat < 2000 - (n : Int).toNat := by
    rintro z rfl
    rw [w64 (by omega) (by omega)]
    exact ⟨⟨n + 1, P2, M.step.2, by omega, by omega, hb2, rfl, ho2, by omega, H.pick [0]⟩, by omega⟩
  refine ⟨_, H.ld 2 rfl rfl, ?_⟩
  rintro z rfl
  refine ⟨_, H.ld 2 rfl rfl, split_of (fun t => ?_) (fun _ => fin)⟩
  refine split_of (fun t1 => split_of (fun t2 => split_of (fun t3 => split_of (fun t4 => ?_) (fun _ => fin)) (fun _ => fin)) (fun _ => fin)) (fun _ => fin)
  rintro z rfl
  have := hr.far (beq_i t) (bne_t t1) (bne_t t2) (bne_t t3) (bne_t t4)
  exact split_of (fun t5 => absurd (hr.next.symm.trans this) (bne_t t5)) (fun _ => fin)
end Go.Proofs.YtcpmgklhfpcaeaaDoor
