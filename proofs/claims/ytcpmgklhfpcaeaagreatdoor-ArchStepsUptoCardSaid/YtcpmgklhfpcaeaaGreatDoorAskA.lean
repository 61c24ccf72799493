/- The law ArchAsks, walked. Conditions: the tables and the handle as they are laid, and the parameters as they are. -/
import Derived.Test.YtcpmgklhfpcaeaaGreatDoorRefE
import Derived.Test.YtcpmgklhfpcaeaaGreatDoorTold
import Derived.Test.YtcpmgklhfpcaeaaGreatDoorAskVc
import Derived.Test.YtcpmgklhfpcaeaaGreatDoorSEq
namespace Go.Proofs.YtcpmgklhfpcaeaaGreatDoor
open Go.RowKit Go.XHeap Go.Sx Go.Sep
set_option linter.unusedVariables false
set_option maxRecDepth 100000

abbrev No : Nat → Prop := fun _ => False
abbrev HErr (w : World) : Prop := w.cell? ⟨0, 0, none⟩ = some (.iface 169 (.agg #[.pointer (some ⟨4, 26, none⟩)]))
variable {W w : World} {g : HP} {b cc : Nat} {cp : Option Addr} {S S' : HS} {L : List Asn} {M : Nat → Prop} {W0 : World}
theorem hi_of (H : St W No w L) (k : Nat) {A : Asn} (hk : L[k]? = some A) : ∀ q, A.own q → W.heap.size ≤ q := fun q hq => (H.mine q (owns.nth k hk hq)).elim (fun e => e.elim) id
theorem rt_same (ox oy : Operand) (r : Rt) (w : World) : (do eqGuard .neq 46 ox oy (.agg r.vs) (.agg r.vs); binOp .neq 46 (.agg r.vs) (.agg r.vs) : Sem Value).run Tryz.prog w = .ok (.bool false) w := by
  obtain ⟨z, h1, h2⟩ := SEq.struct_run (P := Tryz.prog) (t := 46) (S := [(false, 35, 0), (false, 35, 1), (false, 3, 2), (false, 35, 3), (false, 3, 4), (false, 35, 5), (false, 35, 6)]) (xs := r.vs) (ys := r.vs) (by kernel_rfl) (by kernel_rfl) (by kernel_rfl) (by kernel_rfl) (by
    intro s hs
    simp only [List.mem_cons, List.not_mem_nil, or_false] at hs
    rcases hs with rfl | rfl | rfl | rfl | rfl | rfl | rfl
    · exact ⟨rfl, _, _, rfl, rfl, .inl ⟨.u32, _, Tryz.underlying35, rfl⟩, .inl ⟨.u32, _, Tryz.underlying35, rfl⟩⟩
    · exact ⟨rfl, _, _, rfl, rfl, .inl ⟨.u32, _, Tryz.underlying35, rfl⟩, .inl ⟨.u32, _, Tryz.underlying35, rfl⟩⟩
    · exact ⟨rfl, _, _, rfl, rfl, .inl ⟨.i64, _, Tryz.underlying3, rfl⟩, .inl ⟨.i64, _, Tryz.underlying3, rfl⟩⟩
    · exact ⟨rfl, _, _, rfl, rfl, .inl ⟨.u32, _, Tryz.underlying35, rfl⟩, .inl ⟨.u32, _, Tryz.underlying35, rfl⟩⟩
    · exact ⟨rfl, _, _, rfl, rfl, .inl ⟨.i64, _, Tryz.underlying3, rfl⟩, .inl ⟨.i64, _, Tryz.underlying3, rfl⟩⟩
    · exact ⟨rfl, _, _, rfl, rfl, .inl ⟨.u32, _, Tryz.underlying35, rfl⟩, .inl ⟨.u32, _, Tryz.underlying35, rfl⟩⟩
    · exact ⟨rfl, _, _, rfl, rfl, .inl ⟨.u32, _, Tryz.underlying35, rfl⟩, .inl ⟨.u32, _, Tryz.underlying35, rfl⟩⟩)
  obtain rfl : z = true := h2.2 (fun _ _ => rfl)
  exact SEq.neq_run (by kernel_rfl) h1 ox oy w
theorem retired_any (r : Rt) (W : World) : Calls Tryz.prog 12 #[.agg r.vs] W fun e w => e = .returned (.agg r.vs) ∧ Hush W w := by
  refine vc12 r.vs ((St.nil W).al fun k w2 H => H.al fun k2 w3 H => ⟨_, H.ld 0 rfl rfl, _, H.ld 0 rfl rfl, _, H.ld 0 rfl rfl, _, H.ld 0 rfl rfl, _, H.ld 0 rfl rfl, _, H.ld 0 rfl rfl, _, H.ld 0 rfl rfl, ?_⟩)
  rintro vs rfl
  exact H.sts0 1 rfl rfl rfl (rt_one r) fun w4 H => ⟨_, rfl, H.cells 1 rfl, rfl, H.quiet'⟩
theorem halted_any (hA : (hartA g S).at_ W) (h32 : S.x.length = 32) : Calls Tryz.prog 62 #[.pointer (some ⟨g.b, 0, none⟩)] W fun e w => e = .returned (.bool S.halted) ∧ w = W :=
  vc62 g.b 0 ⟨_, (hart_open hA).ld 0 rfl (root_h h32), rfl, rfl⟩
theorem regs_any (H : St W0 M W (hartA g S :: refA b cp cc S :: L)) (h32 : S.x.length = 32) : Calls Tryz.prog 15 #[.pointer (some ⟨g.b, 0, none⟩), .pointer (some ⟨b, 0, none⟩)] W fun e w => e = .returned (.bool true) ∧ w = W := by
  have H2 : St W0 M W [refA b cp cc S] := H.pick [1]
  refine vc15 g.b 0 b 0 ⟨fun x w => ∃ j : Nat, x = j ∧ j ≤ 32 ∧ w = W, fun x _ => 32 - x.toNat, ⟨0, rfl, by decide, rfl⟩, fun _ => ?_⟩
  rintro x w2 ⟨j, rfl, hj, rfl⟩
  refine split_of (fun q => ?_) (fun q => ?_)
  · have q := of_decide_eq_true q
    refine (hreg_any (H.nth 0 rfl) h32 j (by omega) q).mono ?_
    rintro e w3 ⟨rfl, rfl⟩
    refine ⟨_, rfl, ⟨by omega, q⟩, _, rx_ld H2 h32 j (by omega) q, split_of (fun t => absurd rfl (bne_t t)) (fun _ => ?_)⟩
    rintro z rfl
    rw [w64 (by omega) (by omega)]
    exact ⟨⟨j + 1, by omega, by omega, rfl⟩, by show 32 - ((j : Int) + 1).toNat < 32 - (j : Int).toNat; omega⟩
  · refine (hpc_any (H.nth 0 rfl)).mono ?_
    rintro e w3 ⟨rfl, rfl⟩
    refine ⟨_, rfl, (halted_any (H.nth 0 rfl) h32).mono ?_⟩
    rintro e w4 ⟨rfl, rfl⟩
    refine ⟨_, rfl, _, rpc_ld H2, split_of (fun _ => ⟨_, rt_ld H2 h32 0 rfl, ?_, rfl⟩) (fun t => absurd rfl (bne_i t))⟩
    rw [beq_self_eq_true]
/-- a slice of numbers in the world reads as l -/
def IntsAt (w : World) (p : Option Addr) (l : List Int) : Prop := ∀ i x, l[i]? = some x → ∃ g off, p = some ⟨g, off, none⟩ ∧ g < w.heap.size ∧ w.cell? ⟨g, off + i, none⟩ = some (.int .i64 x)
theorem IntsAt.keep {p : Option Addr} {l : List Int} (h : IntsAt W p l) (ht : XTouch (fun _ => False) W w) : IntsAt w p l := fun i x hx => by
  obtain ⟨g, off, e, hg, hc⟩ := h i x hx
  exact ⟨g, off, e, Nat.lt_of_lt_of_le hg ht.size, (ht.cell (p := ⟨g, off + i, none⟩) hg (fun e => e)).trans hc⟩
theorem asks_ok {ap hp : Option Addr} {code ans held : List Int} {ac hc : Nat} (hT : Tabs W.heap.size W) (hE : HErr W) (hsz : 1 ≤ W.heap.size) (hsrc : Src W.heap.size W cp code) (hcu : ∀ v ∈ code, U32 v) (hA : WordsAt W ap ans) (hau : ∀ v ∈ ans, U32 v) (hH : IntsAt W hp held) (hHl : held.length ≤ 9223372036854775807) (size number steps : Int) :
    Calls Tryz.prog 3 #[.slice cp code.length cc, .int .i64 size, .int .i64 number, .slice ap ans.length ac, .slice hp held.length hc, .int .i64 steps] W fun e w => e = .returned (.bool true) ∧ Hush W w := by
  have hwc : WordsAt W cp code := hsrc.at_
  refine vc3 cp code.length cc size number ap ans.length ac hp held.length hc steps ((newhart_any (cc := cc) hwc size number).mono ?_)
  intro e w2 hn
  have tolds : ∀ (n : Int) (w : World), XTouch No W w → Calls Tryz.prog 7 #[errV n] w fun e w' => e = .returned (.int .i64 n) ∧ Hush w w' := fun n w ht => told.told_err n w ((ht.cell (p := ⟨0, 0, none⟩) hsz (fun e => e)).trans hE)
  by_cases hi : imageOk code.length size = false
  · unfold NewHartIs at hn
    rw [if_pos hi] at hn
    obtain ⟨rfl, rfl⟩ := hn
    refine ⟨_, _, rfl, (rnew_any (cp := cp) (cc := cc) code size number w2).mono ?_⟩
    intro e w3 hn
    unfold RNewIs at hn
    rw [if_pos hi] at hn
    obtain ⟨rfl, rfl⟩ := hn
    refine ⟨_, _, rfl, (tolds 1 w3 (XTouch.refl _ _)).mono ?_⟩
    rintro e w4 ⟨rfl, hh⟩
    refine ⟨_, rfl, split_of (fun t => absurd rfl (bne_t t)) fun _ => split_of (fun t => by cases t) fun _ => ⟨fun _ w => Hush w3 w, fun _ _ => 0, hh, fun _ => ?_⟩⟩
    intro x w5 hh
    exact split_of (fun t => by cases t) (fun _ => split_of (fun _ => ⟨rfl, hh⟩) (fun t => by cases t))
  by_cases hnum : number < 0 ∨ 2 ≤ number
  · unfold NewHartIs at hn
    rw [if_neg hi, if_pos hnum] at hn
    obtain ⟨rfl, rfl⟩ := hn
    refine ⟨_, _, rfl, (rnew_any (cp := cp) (cc := cc) code size number w2).mono ?_⟩
    intro e w3 hn
    unfold RNewIs at hn
    rw [if_neg hi, if_pos hnum] at hn
    obtain ⟨rfl, rfl⟩ := hn
    refine ⟨_, _, rfl, (tolds 3 w3 (XTouch.refl _ _)).mono ?_⟩
    rintro e w4 ⟨rfl, hh⟩
    refine ⟨_, rfl, split_of (fun t => absurd rfl (bne_t t)) fun _ => split_of (fun t => by cases t) fun _ => ⟨fun _ w => Hush w3 w, fun _ _ => 0, hh, fun _ => ?_⟩⟩
    intro x w5 hh
    exact split_of (fun t => by cases t) (fun _ => split_of (fun _ => ⟨rfl, hh⟩) (fun t => by cases t))
  unfold NewHartIs at hn
  rw [if_neg hi, if_neg hnum] at hn
  obtain ⟨g, rfl, hp0⟩ := hn
  have H := (St.nil W).add hp0
  refine ⟨_, _, rfl, (rnew_any (cp := cp) (cc := cc) code size number w2).mono ?_⟩
  intro e w3 hn
  unfold RNewIs at hn
  rw [if_neg hi, if_neg hnum] at hn
  obtain ⟨b, rfl, hp1⟩ := hn
  have H := H.add hp1
  refine ⟨_, _, rfl, (told.told_nil w3).mono ?_⟩
  rintro e w4 ⟨rfl, rfl⟩
  have hi1 : imageOk code.length size = true := by simpa using hi
  have hi2 := of_decide_eq_true hi1
  have h0 : U32 0 := u32_lit (by decide) (by decide)
  have ho : (HS.new code size number).Ok := ⟨hi2.1, hcu, hi2.2, h0, rfl, fun v hv => by rw [(List.mem_replicate.1 hv).2]; exact h0, rfl, ⟨wr_u _, h0, fun n v h => (by cases h), fun n v h => (by cases h)⟩⟩
  refine ⟨_, rfl, split_of (fun t => absurd rfl (bne_t t)) fun _ => split_of (fun t => by cases t) fun _ => ?_⟩
  refine ⟨fun x w => ∃ (n : Nat) (S : HS), x = n ∧ n ≤ 2000 ∧ S.Ok ∧ S.Ok2 ∧ S.R.ret ≤ n ∧ S.code = code ∧ St W No w [hartA g S, refA b cp cc S], fun x _ => 2000 - x.toNat, ⟨0, _, rfl, by decide, ho, new_ok2 _ _ _, Int.le_refl _, rfl, H⟩, fun _ => ?_⟩
  rintro x w5 ⟨n, S, rfl, hn, ho, ho2, hret, hcode, H⟩
  have stop : Sx.split (Option.isNone (some (⟨g.b, 0, none⟩ : Addr))) (Ending.returned (.bool true) = .returned (.bool true) ∧ Hush W w5) (Calls Tryz.prog 15 #[.pointer (some ⟨g.b, 0, none⟩), .pointer (some ⟨b, 0, none⟩)] w5 fun e w => ∃ t : Bool, e = .returned (.bool t) ∧ (Ending.returned (.bool t) = .returned (.bool true) ∧ Hush W w)) := by
    refine split_of (fun t => by cases t) (fun _ => (regs_any H ho.x32).mono ?_)
    rintro e w ⟨rfl, rfl⟩
    exact ⟨_, rfl, rfl, H.quiet'⟩
  refine split_of (fun _ => split_of (fun q => split_of (fun q2 => ?_) (fun _ => stop)) (fun _ => stop)) (fun _ => stop)
  have q2 := of_decide_eq_true q2
  have srcS : ∀ {w : World} {L : List Asn}, St W No w L → Src W.heap.size w cp S.code := fun H => by rw [hcode]; exact hsrc.st H (fun _ e => e.elim)
  refine H.call 0 rfl (ask_any (H.nth 0 rfl) ho (hT.st H (fun _ e => e.elim)) (hi_of H 0 rfl)) fun w6 H => ⟨_, rfl, H.al fun k w7 H => H.sts0 2 rfl rfl rfl (rq_one _) fun w8 H => H.call 1 rfl (rask_any (H.nth 1 rfl) ho (srcS H) (hi_of H 1 rfl)) fun w9 H => ⟨_, rfl, H.al fun k3 w10 H => H.sts0 3 rfl rfl rfl (rq_one _) fun w11 H => ?_⟩⟩
  refine ⟨fun w => St W No w [hartA g S, refA b cp cc S], ?_, fun _ => ?_⟩
  · exact ⟨_, H.ld 2 rfl rfl, _, H.ld 3 rfl rfl, split_of (fun t => absurd rfl (bne_t t)) fun _ => ⟨_, H.ld 2 rfl rfl, _, H.ld 3 rfl rfl, split_of (fun t => absurd rfl (bne_t t)) fun _ => ⟨_, H.ld 2 rfl rfl, _, H.ld 3 rfl rfl, split_of (fun t => absurd rfl (bne_t t)) fun _ => ⟨_, H.ld 2 rfl rfl, _, H.ld 3 rfl rfl, split_of (fun t => absurd rfl (bne_t t)) fun _ => H.pick [0, 1]⟩⟩⟩⟩
  intro w12 H
  refine ⟨fun v w => U32 v ∧ St W No w [hartA g S, refA b cp cc S], split_of (fun t => ?_) (fun t => ⟨h0, H⟩), fun _ => ?_⟩
  · have t := of_decide_eq_true t
    have e1 : Int.tmod (n : Int) (ans.length : Int) = ((n % ans.length : Nat) : Int) := rfl
    refine ⟨by omega, ?_⟩
    rw [e1]
    rintro z rfl
    have hlt : n % ans.length < ans.length := Nat.mod_lt _ (by omega)
    obtain ⟨g2, off, e, hg, hc⟩ := hA _ _ (List.getElem?_eq_getElem hlt)
    refine ⟨⟨by omega, by omega⟩, ?_⟩
    rw [e]
    refine adr_some ⟨_, ?_, hau _ (List.getElem_mem hlt), H⟩
    rw [ix1]
    exact (H.touch.cell (p := ⟨g2, off + n % ans.length, none⟩) hg (fun e => e)).trans hc
  rintro v w13 ⟨hv, H⟩
  refine ⟨fun _ w => St W No w [hartA g S, refA b cp cc S], ?_, fun _ => ?_⟩
  · refine ⟨fun x _ w => ∃ j : Nat, x = j ∧ j ≤ held.length ∧ St W No w [hartA g S, refA b cp cc S], fun x _ _ => held.length - x.toNat, ⟨0, rfl, Nat.zero_le _, H⟩, fun _ => ?_⟩
    rintro x t w14 ⟨j, rfl, hj, H⟩
    refine split_of (fun q => ?_) (fun _ => H)
    have q := of_decide_eq_true q
    have hj' : j < held.length := by omega
    have step : ∀ z : Int, z = IntKind.wrap .i64 ((j : Int) + 1) → (∃ j : Nat, z = j ∧ j ≤ held.length ∧ St W No w14 [hartA g S, refA b cp cc S]) ∧ held.length - z.toNat < held.length - (j : Int).toNat := by
      rintro z rfl
      rw [w64 (by omega) (by omega)]
      exact ⟨⟨j + 1, by omega, by omega, H⟩, by omega⟩
    refine split_of (fun _ => step) (fun _ => ?_)
    obtain ⟨g2, off, e, hg, hc⟩ := hH _ _ (List.getElem?_eq_getElem hj')
    refine ⟨⟨by omega, q⟩, ?_⟩
    rw [e]
    refine adr_some ⟨held[j], ?_, step⟩
    · rw [ix1]
      exact (H.touch.cell (p := ⟨g2, off + j, none⟩) hg (fun e => e)).trans hc
  intro hold w15 H
  refine ⟨fun w => ∃ S : HS, S.Ok ∧ S.Ok2 ∧ S.R.ret ≤ n ∧ S.code = code ∧ St W No w [hartA g S, refA b cp cc S], ⟨by decide, ?_⟩, fun _ => ?_⟩
  · rintro z -
    refine split_of (fun _ => ?_) (fun _ => ⟨S, ho, ho2, hret, hcode, H⟩)
    have keep : ∀ {w : World} {L : List Asn}, St W No w (hartA g S.intr.2 :: refA b cp cc S.intr.2 :: L) → ∃ S : HS, S.Ok ∧ S.Ok2 ∧ S.R.ret ≤ n ∧ S.code = code ∧ St W No w [hartA g S, refA b cp cc S] := fun H => ⟨S.intr.2, ho.intr, ho2.intr ho, by rw [ret_intr]; exact hret, by rw [intr_code.1]; exact hcode, H.pick [0, 1]⟩
    refine H.call 0 rfl (interrupt_any (H.nth 0 rfl) ho.x32) fun w16 H => ⟨_, _, rfl, H.al fun k9 w17 H => H.sts0 2 rfl rfl rfl (rt_one _) fun w18 H => H.call 1 rfl (rinterrupt_any (H.nth 1 rfl) ho ho2) fun w19 H => ⟨_, _, rfl, H.al fun k11 w20 H => H.sts0 3 rfl rfl rfl (rt_one _) fun w21 H => H.dr fun w22 H => ?_⟩⟩
    refine split_of (fun t => absurd t (by rw [beq_self_eq_true]; decide)) (fun _ => ⟨split_of (fun _ => ?_) (fun _ => ⟨keep H, keep H⟩), split_of (fun _ => ?_) (fun _ => keep H)⟩)
    · refine ⟨_, rfl, H.cells 2 rfl, ?_, ?_⟩
      · exact H.callq (retired_any S.intr.1.1 _) fun w23 H => ⟨_, rfl, _, rfl, H.cells 3 rfl, false, fun w => rt_same _ _ _ w, split_of (fun t => by cases t) (fun _ => keep H)⟩
      · exact ⟨_, rfl, H.cells 3 rfl, H.callq (retired_any S.intr.1.1 _) fun w23 H => ⟨_, rfl, false, fun w => rt_same _ _ _ w, split_of (fun t => by cases t) (fun _ => keep H)⟩⟩
    · exact ⟨_, rfl, H.cells 3 rfl, _, rfl, H.cells 2 rfl, H.callq (retired_any S.intr.1.1 _) fun w23 H => ⟨_, rfl, false, fun w => rt_same _ _ _ w, split_of (fun t => by cases t) (fun _ => keep H)⟩⟩
  rintro w29 ⟨S, ho, ho2, hret, hcode, H⟩
  have srcS : ∀ {w : World} {L : List Asn}, St W No w L → Src W.heap.size w cp S.code := fun H => by rw [hcode]; exact hsrc.st H (fun _ e => e.elim)
  have hr1 : S.R.ret < 4294967295 := by omega
  have fin : ∀ {w : World} {L : List Asn}, St W No w (hartA g (S.done v hold).2 :: refA b cp cc (S.done v hold).2 :: L) → ∀ z : Int, z = IntKind.wrap .i64 ((n : Int) + 1) → (∃ (m : Nat) (S : HS), z = m ∧ m ≤ 2000 ∧ S.Ok ∧ S.Ok2 ∧ S.R.ret ≤ m ∧ S.code = code ∧ St W No w [hartA g S, refA b cp cc S]) ∧ 2000 - z.toNat < 2000 - (n : Int).toNat := by
    intro w L H
    rintro z rfl
    rw [w64 (by omega) (by omega)]
    refine ⟨⟨n + 1, (S.done v hold).2, by omega, by omega, ho.done hv, ho2.done ho hv, ?_, by rw [done_code.1]; exact hcode, H.pick [0, 1]⟩, by omega⟩
    rcases ret_done (S := S) (loaded := v) (held := hold) with h | h
    · rw [h]; omega
    · rw [h, wr_id ⟨by have := ho.R.ret.1; omega, by omega⟩]; omega
  refine H.call 0 rfl (do_any (H.nth 0 rfl) ho (hT.st H (fun _ e => e.elim)) (hi_of H 0 rfl) hv hold) fun w30 H => ⟨_, rfl, H.al fun k13 w31 H => H.sts0 2 rfl rfl rfl (rt_one _) fun w32 H => H.call 1 rfl (rdo_any (H.nth 1 rfl) ho ho2 (srcS H) (hi_of H 1 rfl) hr1 hv hold) fun w33 H => ⟨_, rfl, H.al fun k15 w34 H => H.sts0 3 rfl rfl rfl (rt_one _) fun w35 H => H.dr fun w36 H => ⟨_, rfl, H.cells 2 rfl, ?_, ?_⟩⟩⟩
  · exact H.callq (retired_any (S.done v hold).1 _) fun w37 H => ⟨_, rfl, _, rfl, H.cells 3 rfl, false, fun w => rt_same _ _ _ w, split_of (fun t => by cases t) (fun _ => fin H)⟩
  · exact ⟨_, rfl, H.cells 3 rfl, Below.refl _ _, H.callq (retired_any (S.done v hold).1 _) fun w37 H => ⟨_, rfl, false, fun w => rt_same _ _ _ w, split_of (fun t => by cases t) (fun _ => fin H)⟩⟩
end Go.Proofs.YtcpmgklhfpcaeaaGreatDoor
