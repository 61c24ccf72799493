/- The law BusCoheres, walked. No condition but what the parameter reads as. -/
import Derived.Test.YtbiogceijdcoiaaCohE
namespace Go.Proofs.Ytbiogceijdcoiaa
open Go.RowKit Go.XHeap Go.Sx Go.Sep
set_option linter.unusedVariables false
set_option maxRecDepth 100000
variable {W w : World} {b m : Nat} {S S' : PB} {L : List Asn}
theorem fresh_ok {l : List (Int × Int)} {cyc : Int} {data : List Nat} (h : S.Fresh l cyc data) (hg : ¬ cfgBad l cyc) (hd : ¬ (data.length % 16 ≠ 0 ∨ data.length > 4096)) (hb : ∀ x ∈ data, x < 256) : S.Ok 0 := by
  have hn1 : ¬ l.length < 1 := fun e => hg (.inl e)
  have hn2 : ¬ l.length > 2 := fun e => hg (.inr (.inl e))
  have hc1 : ¬ cyc < 0 := fun e => hg (.inr (.inr (.inl e)))
  have hc2 : ¬ cyc > 10 := fun e => hg (.inr (.inr (.inr (.inl e))))
  have hcy := h.cyc
  have hlen : S.len = data.length := by unfold PB.len; rw [h.mem]
  refine ⟨by rw [h.n]; omega, fun k hk => ?_, by rw [hlen]; omega, by rw [hlen]; omega, by rw [h.mem]; exact hb, by omega, fun k a w e => ?_, by rw [h.last, h.n]; omega, fun k e => ?_, by rw [h.left]; omega⟩
  · rw [h.n] at hk
    have hf := h.cs k l[k] (List.getElem?_eq_getElem hk)
    refine ⟨hf.ok, by rw [hf.clock]; omega, fun s hs y hy hv => ?_⟩
    rw [hf.sets] at hs
    have := List.eq_of_mem_replicate hs
    subst this
    have := List.eq_of_mem_replicate hy
    subst this
    exact absurd rfl hv
  · rw [h.asks] at e; cases e
  · rw [h.now] at e; cases e
theorem nil_true {f : Bool → Prop} (h : f true) : Sx.isNil .nilIface f := h
def accC (core addr size : Int) (store : Bool) (data : Nat) : Array Value := #[.int .i64 core, .int .i64 addr, .int .i64 size, .bool store, .int .u32 (data : Nat)]
def AccAt (W : World) (p : Option Addr) (n : Nat) : Prop := ∀ i, i < n → ∃ g off core addr size store data, p = some ⟨g, off, none⟩ ∧ g < W.heap.size ∧ (-9223372036854775808 ≤ core ∧ core ≤ 9223372036854775807) ∧ (-9223372036854775808 ≤ addr ∧ addr ≤ 9223372036854775807) ∧ (-9223372036854775808 ≤ size ∧ size ≤ 9223372036854775807) ∧ data < 4294967296 ∧
  ∀ j v, (accC core addr size store data)[j]? = some v → W.cell? ⟨g, off + i * 5 + j, none⟩ = some v
/-- between two accesses -/
def GI (W : World) (b kf n : Nat) (w : World) : Prop := ∃ (B : BP) (S : PB) (F : List Nat), S.Ok (n * 20) ∧ B.gs.length = S.Cs.length ∧ Coh S F ∧ (∀ k, S.asks k = none) ∧ S.now = none ∧ (∀ x ∈ F, x < 256) ∧ St W No w [busA b B S, blk kf (u8n F).toArray 5]
def Phase (S : PB) (c a t : Nat) (wr : Bool) : Prop := ((∀ k, S.asks k = none) ∧ S.now = none ∧ (t = 0 ∨ enough ((S.C c).stateAt (65536 + a)) wr)) ∨ (S.asks = onlyAsk c ((65536 + a) / 16 * 16) wr ∧ S.now = some c ∧ t + S.left = S.cyc ∧ ¬ enough ((S.C c).stateAt (65536 + a)) wr)
theorem readN_rest (c : Int) (a : Nat) (sz : Int) : (S.readN c a sz).asks = S.asks ∧ (S.readN c a sz).now = S.now := by unfold PB.readN; split <;> exact ⟨rfl, rfl⟩
theorem writeN_rest (c : Int) (a : Nat) (sz : Int) (d : Nat) : (S.writeN c a sz d).asks = S.asks ∧ (S.writeN c a sz d).now = S.now := by unfold PB.writeN; split <;> exact ⟨rfl, rfl⟩
theorem at_pos {ai s : Nat} (hs : s = 1 ∨ s = 2 ∨ s = 4) (h : (ai : Int) < ((256 / s : Nat) : Int)) : ∃ a : Nat, IntKind.wrap .i64 ((ai : Int) * (s : Int)) = (a : Nat) ∧ a + s ≤ 256 ∧ a % s = 0 := by
  refine ⟨ai * s, ?_, ?_, ?_⟩
  · rw [w64 (by rcases hs with rfl | rfl | rfl <;> omega) (by rcases hs with rfl | rfl | rfl <;> omega)]
    rfl
  · rcases hs with rfl | rfl | rfl <;> omega
  · exact Nat.mul_mod_left _ _
theorem end_ok {kf n : Nat} (h : GI W b kf n w) (he : n ≤ 400) : Calls Try.prog 12 #[.pointer (some ⟨b, 0, none⟩)] w fun e w2 => ∃ (p : Option Addr) (l c : Nat), e = .returned (.slice p l c) ∧ Calls Try.prog 13 #[.slice p l c, .slice (some ⟨kf, 0, none⟩) 256 256] w2 fun e w3 => ∃ t : Bool, e = .returned (.bool t) ∧ (Ending.returned (.bool t) = .returned (.bool true) ∧ Hush W w3) := by
  obtain ⟨B, S, F, ho, hB, hC, -, -, -, H⟩ := h
  refine H.calln (data_any (H.nth 0 rfl) ho hB) fun z w2 H => ⟨_, _, _, rfl, ?_⟩
  rw [coh_data hC ho] at H
  have H : St W No w2 [blk kf (u8n F).toArray 5, memA z.1 z.2 F] := H.pick [1, 2]
  have H := H.conv 0 (A' := memA (some ⟨kf, 0, none⟩) 256 F) rfl (fun hb => flat_mem hb hC.fl) (fun q e => by
    have e : some kf = some q := e
    exact (Option.some.inj e).symm)
  have H : St W No w2 [memA z.1 z.2 F, memA (some ⟨kf, 0, none⟩) 256 F] := H.pick [1, 0]
  have hby := bytes_any H.here (by rw [hC.fl]; decide)
  rw [hC.fl] at hby
  rw [show S.len = 256 from hC.len]
  refine hby.mono ?_
  rintro e w3 ⟨rfl, ht⟩
  refine ⟨true, rfl, rfl, ?_⟩
  refine (St.rec_ (H.take 0) ht (fun q hq hq2 => hq.elim) (fun q hq => ?_)).touch
  exact (H.mine q (owns.nth 0 rfl hq)).elim (fun e => e.elim) id
theorem coheres_ok {p : Option Addr} {n c : Nat} {s0 w0 cy : Int} (b1 : -9223372036854775808 ≤ s0 ∧ s0 ≤ 9223372036854775807) (b2 : -9223372036854775808 ≤ w0 ∧ w0 ≤ 9223372036854775807) (b3 : -9223372036854775808 ≤ cy ∧ cy ≤ 9223372036854775807) (hs : AccAt W p n) :
    Calls Try.prog 3 #[.int .i64 s0, .int .i64 w0, .int .i64 cy, .slice p n c] W fun e w => e = .returned (.bool true) ∧ Hush W w := by
  obtain ⟨P1, hP1, k1⟩ := pick_nat s0 3 b1.1 (by decide)
  obtain ⟨Q1, hQ1, k2⟩ := pick_nat w0 2 b2.1 (by decide)
  have t8 : -9223372036854775808 ≤ Int.tdiv s0 8 ∧ Int.tdiv s0 8 ≤ 9223372036854775807 := by
    have := Int.mul_tdiv_add_tmod s0 8
    have h1 := Int.tmod_lt_of_pos s0 (show (0 : Int) < 8 by decide)
    have h2 := Int.lt_tmod_of_pos s0 (show (0 : Int) < 8 by decide)
    omega
  have t4 : -9223372036854775808 ≤ Int.tdiv w0 4 ∧ Int.tdiv w0 4 ≤ 9223372036854775807 := by
    have := Int.mul_tdiv_add_tmod w0 4
    have h1 := Int.tmod_lt_of_pos w0 (show (0 : Int) < 4 by decide)
    have h2 := Int.lt_tmod_of_pos w0 (show (0 : Int) < 4 by decide)
    omega
  obtain ⟨P2, hP2, k3⟩ := pick_nat (Int.tdiv s0 8) 3 t8.1 (by decide)
  obtain ⟨Q2, hQ2, k4⟩ := pick_nat (Int.tdiv w0 4) 2 t4.1 (by decide)
  obtain ⟨cyc, hcyc, k5⟩ := pick_nat cy 11 b3.1 (by decide)
  refine vc3 s0 w0 cy p n c ((St.nil W).dr fun w2 H => ?_)
  refine ⟨P1, k1 _, by omega, ?_⟩
  rintro z2 rfl
  refine ⟨Q1, k2 _, ?_⟩
  rintro z4 rfl vs rfl
  refine ⟨by decide, ?_⟩
  rintro z5 rfl
  rw [w64 t8.1 t8.2]
  refine ⟨P2, k3 _, by omega, ?_⟩
  rintro z7 rfl
  refine ⟨by decide, ?_⟩
  rintro z8 rfl
  rw [w64 t4.1 t4.2]
  refine ⟨Q2, k4 _, ?_⟩
  rintro z10 rfl vs2 rfl
  rw [Bits.one_shl (by omega), Bits.one_shl (by omega), w64 (e := 1 + (Q1 : Int)) (by omega) (by omega), w64 (e := 1 + (Q2 : Int)) (by omega) (by omega)]
  refine ⟨rfl, rfl, H.al fun k w7 H => ?_⟩
  obtain ⟨sh, hsh⟩ : ∃ sh : List (Int × Int), sh = [(((2 ^ P1 : Nat) : Int), 1 + (Q1 : Int)), (((2 ^ P2 : Nat) : Int), 1 + (Q2 : Int))] := ⟨_, rfl⟩
  have hshl : sh.length = 2 := by rw [hsh]; rfl
  have hS : ∀ {w : World} {L : List Asn}, St W No w L → L[0]? = some (blk k (List.toArray (Array.toList #[Value.int .i64 ((2 ^ P1 : Nat) : Int), .int .i64 (1 + (Q1 : Int))] ++ (Array.toList #[Value.int .i64 ((2 ^ P2 : Nat) : Int), .int .i64 (1 + (Q2 : Int))] ++ []))) 25) → ShapesAt w (some ⟨k, 0, none⟩) sh := by
    intro w L H h0 i x hi
    have hb := H.blk 0 h0
    rw [hsh] at hi
    have c0 := hb.cell' (i := 0) rfl
    refine ⟨k, 0, rfl, World.block_lt_of_cell? _ _ c0, fun j v hj => ?_⟩
    rw [add_none, Nat.zero_add]
    match i, hi with
    | 0, hi =>
      cases hi
      match j, hj with
      | 0, hj => cases hj; exact hb.cell' (i := 0) rfl
      | 1, hj => cases hj; exact hb.cell' (i := 1) rfl
    | 1, hi =>
      cases hi
      match j, hj with
      | 0, hj => cases hj; exact hb.cell' (i := 2) rfl
      | 1, hj => cases hj; exact hb.cell' (i := 3) rfl
  have em : madeCells #[.int .u8 0] 256 = (u8n (List.replicate 256 0)).toArray := by
    rw [ints_made]
    unfold ints u8n
    simp
  have good : ¬ cfgBad sh cyc := by
    have pw : ∀ P : Nat, (P : Int) < 3 → (((2 ^ P : Nat) : Int) = 1 ∨ ((2 ^ P : Nat) : Int) = 2 ∨ ((2 ^ P : Nat) : Int) = 4 ∨ ((2 ^ P : Nat) : Int) = 8 ∨ ((2 ^ P : Nat) : Int) = 16) := by
      intro P hP
      obtain rfl | rfl | rfl : P = 0 ∨ P = 1 ∨ P = 2 := by omega
      · exact .inl rfl
      · exact .inr (.inl rfl)
      · exact .inr (.inr (.inl rfl))
    rintro (h | h | h | h | ⟨x, hx, h⟩)
    · omega
    · omega
    · omega
    · omega
    · rw [hsh] at hx
      simp only [List.mem_cons, List.not_mem_nil, or_false] at hx
      rcases hx with rfl | rfl
      · exact h ⟨pw P1 hP1, by show (1 : Int) ≤ 1 + (Q1 : Int); omega, by show 1 + (Q1 : Int) ≤ 4; omega⟩
      · exact h ⟨pw P2 hP2, by show (1 : Int) ≤ 1 + (Q2 : Int); omega, by show 1 + (Q2 : Int) ≤ 4; omega⟩
  obtain ⟨zs, hzs⟩ : ∃ zs, zs = List.replicate 256 (0 : Nat) := ⟨_, rfl⟩
  have hzl : zs.length = 256 := by rw [hzs]; exact List.length_replicate
  have new_ok : ∀ {w : World} {L : List Asn} {k2 : Nat}, (H : St W No w L) → ShapesAt w (some ⟨k, 0, none⟩) sh → Blk w k2 (u8n zs).toArray 5 →
      Calls Try.prog 5 #[.slice (some ⟨k, 0, none⟩) 2 2, .int .i64 cyc, .slice (some ⟨k2, 0, none⟩) 256 256] w fun e w => ∃ (p : Option Addr) (v : Value), e = .returned (.tuple #[.pointer p, v]) ∧ (v = .nilIface ∧ ∃ (b : Nat) (B : BP) (S : PB), p = some ⟨b, 0, none⟩ ∧ S.Fresh sh cyc zs ∧ B.gs.length = S.Cs.length ∧ St W No w [busA b B S]) := by
    intro w L k2 H hS hb
    have hD : BytesAt w (some ⟨k2, 0, none⟩) zs := bytes_of (flat_mem hb hzl)
    have := bnew_any (W := w) (l := sh) (pc := 2) (cyc := cyc) (dc := 256) hS hD (.inr ⟨_, _, rfl⟩)
    rw [hzl, hshl] at this
    refine this.mono ?_
    rintro e w3 (⟨h, -⟩ | ⟨-, h, -⟩ | ⟨-, -, b, B, S, hF, hB, rfl, hp⟩)
    · exact absurd h good
    · omega
    · exact ⟨_, _, rfl, rfl, b, B, S, rfl, hF, hB, ((H.take 0).add hp)⟩
  refine ⟨fun v q w => v = .nilIface ∧ ∃ (b : Nat) (B : BP) (S : PB), q = some ⟨b, 0, none⟩ ∧ S.Fresh sh cyc zs ∧ B.gs.length = S.Cs.length ∧ St W No w [busA b B S], H.dr fun w8 H => ⟨(k5 w8).mono ?_, ⟨by decide, by decide, by decide, by decide⟩, H.alb fun k3 w12 H _ hbl => ⟨hbl, (k5 w12).mono ?_⟩⟩, fun _ => ?_⟩
  · rintro e w9 ⟨rfl, rfl⟩
    refine ⟨cyc, rfl, ⟨by decide, by decide, by decide, by decide⟩, H.al fun k2 w10 H => ?_⟩
    exact new_ok H (hS H rfl) (by have := H.blk 1 rfl; rw [em, ← hzs] at this; exact this)
  · rintro e w13 ⟨rfl, rfl⟩
    exact ⟨cyc, rfl, new_ok H (hS H rfl) (by have := H.blk 1 rfl; rw [em, ← hzs] at this; exact this)⟩
  clear H
  rintro v q w15 ⟨rfl, b, B, S, rfl, hF, hB, H⟩
  refine ⟨fun t w => t = false ∧ St W No w [busA b B S], ?_, fun _ => ?_⟩
  · exact nil_true (split_of (fun q => by cases q) (fun _ => ⟨rfl, H⟩))
  clear H
  rintro x w16 ⟨rfl, H⟩
  refine split_of (fun q => by cases q) (fun _ => ⟨⟨by decide, by decide, by decide, by decide⟩, H.al fun kf w17 H => ?_⟩)
  rw [em] at H
  rw [hsh, hzs] at hF
  have hG : GI W b kf 0 w17 := ⟨B, S, List.replicate 256 0, fresh_ok hF (by rw [← hsh]; exact good) (by rw [List.length_replicate]; decide) (fun x hx => by rw [(List.mem_replicate.1 hx).2]; decide), hB, coh_fresh hF, fun k => by rw [hF.asks], hF.now, fun x hx => by rw [(List.mem_replicate.1 hx).2]; decide, H⟩
  clear H hF hB
  refine ⟨fun x w => ∃ k : Nat, x = k ∧ k ≤ 400 ∧ GI W b kf k w, fun x _ => 400 - x.toNat, ⟨0, rfl, by omega, hG⟩, fun _ => ?_⟩
  clear hG
  rintro x w18 ⟨k0, rfl, hk0, hG⟩
  refine split_of (fun q1 => split_of (fun q2 => ?_) (fun _ => end_ok hG hk0)) (fun _ => end_ok hG hk0)
  have q1 := of_decide_eq_true q1
  have q2 := of_decide_eq_true q2
  obtain ⟨B, S, F, ho, hB, hC, hi, hnow, hF, H⟩ := hG
  obtain ⟨g, off, core, addr, size, store, data, hp, hg, bc, ba, bs, hd, hcells⟩ := hs k0 (by omega)
  have ac : ∀ {w : World} {L : List Asn}, St W No w L → ∀ {i : Nat} {v : Value}, (accC core addr size store data)[i]? = some v → w.cell? ⟨g, off + ((k0 : Nat) : Int).toNat * 5 + i, none⟩ = some v := fun H i v hv => by
    rw [Int.toNat_natCast]
    exact (H.touch.cell (p := ⟨g, off + k0 * 5 + i, none⟩) hg (fun e => e)).trans (hcells i v hv)
  obtain ⟨cc, hcc, kc⟩ := pick_nat core 2 bc.1 (by decide)
  obtain ⟨si, hsi, ks⟩ := pick_nat size 3 bs.1 (by decide)
  refine ⟨fun w => GI W b kf (k0 + 1) w, ?_, fun _ => ?_⟩
  rotate_left
  · rintro w37 hG z rfl
    rw [w64 (by omega) (by omega)]
    exact ⟨⟨k0 + 1, by omega, by omega, hG⟩, by show 400 - ((k0 : Int) + 1).toNat < 400 - (k0 : Int).toNat; omega⟩
  have bnd : (0 : Int) ≤ ((k0 : Nat) : Int) ∧ ((k0 : Nat) : Int) < ((n : Nat) : Int) := ⟨by omega, q1⟩
  refine ⟨bnd, adr_eq hp ⟨core, ac H (i := 0) rfl, (kc _).mono ?_⟩⟩
  rintro e w19 ⟨rfl, rfl⟩
  refine ⟨cc, rfl, H.al fun ka w20 H => ⟨bnd, adr_eq hp ⟨size, ac H (i := 2) rfl, (ks _).mono ?_⟩⟩⟩
  rintro e w21 ⟨rfl, rfl⟩
  obtain ⟨s, hs3, hsc⟩ : ∃ s : Nat, (s = 1 ∨ s = 2 ∨ s = 4) ∧ (#[.int .i64 1, .int .i64 2, .int .i64 4] : Array Value)[si]? = some (.int .i64 (s : Nat)) := by
    obtain rfl | rfl | rfl : si = 0 ∨ si = 1 ∨ si = 2 := by omega
    · exact ⟨1, .inl rfl, rfl⟩
    · exact ⟨2, .inr (.inl rfl), rfl⟩
    · exact ⟨4, .inr (.inr rfl), rfl⟩
  refine ⟨si, rfl, ⟨by omega, hsi⟩, s, by rw [ix1, Nat.zero_add]; exact (H.blk 2 rfl).cell' hsc, bnd, adr_eq hp ⟨addr, ac H (i := 1) rfl, by rcases hs3 with rfl | rfl | rfl <;> decide, ?_⟩⟩
  rintro z19 rfl
  have ed : IntKind.wrap .i64 (Int.tdiv 256 (s : Int)) = ((256 / s : Nat) : Int) := by rcases hs3 with rfl | rfl | rfl <;> rfl
  rw [ed]
  obtain ⟨ai, hai, kai⟩ := pick_nat addr ((256 / s : Nat) : Int) ba.1 (by rcases hs3 with rfl | rfl | rfl <;> decide)
  refine ⟨ai, fun k12 => (kai _).mono fun e w h => ⟨h.1, k12, h.2⟩, ?_⟩
  rintro z21 rfl
  obtain ⟨a, ea, ha, hal⟩ := at_pos hs3 hai
  rw [ea]
  refine H.drN fun w23 H => ?_
  rintro z22 rfl z23 rfl
  have hs1 : 1 ≤ s := by rcases hs3 with rfl | rfl | rfl <;> decide
  have ha2 : a < 256 := by omega
  have e23 : IntKind.wrap .u32 (IntKind.wrap .i64 (65536 + (a : Int))) = ((65536 + a : Nat) : Int) := by
    rw [w64 (by omega) (by omega), show 65536 + (a : Int) = ((65536 + a : Nat) : Int) by omega, Bits.n32 (by omega)]
  rw [e23]
  have hcn : cc < 2 := by omega
  have H : St W No w23 [busA b B S, blk kf (u8n F).toArray 5] := H.take 2
  refine ⟨fun x w => ∃ (t : Nat) (S : PB), x = t ∧ t ≤ 11 ∧ S.Ok (k0 * 20 + t) ∧ B.gs.length = S.Cs.length ∧ Coh S F ∧ Phase S cc a t store ∧ St W No w [busA b B S, blk kf (u8n F).toArray 5], fun x _ => 100 - x.toNat, ⟨0, S, rfl, by omega, ho, hB, hC, .inl ⟨hi, hnow, .inl rfl⟩, H⟩, fun _ => ?_⟩
  clear H hi hnow hC hB ho
  rintro x w24 ⟨t, S, rfl, ht, ho, hB, hC, hph, H⟩
  refine split_of (fun q => absurd (of_decide_eq_true q) (by omega)) (fun _ => ?_)
  have hm : k0 * 20 + t + 1 < 4611686018427387904 := by omega
  refine H.callq (bstate_any (H.nth 0 rfl) ho hB (cc : Nat) (65536 + a) (by omega)) fun w25 H => ⟨_, rfl, ?_⟩
  rw [state_of hC hcn ha2]
  refine ⟨fun x w => (x = true ↔ enough ((S.C cc).stateAt (65536 + a)) store) ∧ St W No w [busA b B S, blk kf (u8n F).toArray 5], ?_, fun _ => ?_⟩
  · refine split_of (fun q => ?_) (fun q => ?_)
    · have q := of_decide_eq_true q
      exact ⟨⟨fun _ => .inl (by omega), fun _ => rfl⟩, H⟩
    · have q := of_decide_eq_false q
      refine ⟨bnd, adr_eq hp ⟨store, ac H (i := 3) rfl, split_of (fun q2 => ?_) (fun q2 => ?_)⟩⟩
      · have q2 : store = false := by simpa using q2
        refine ⟨⟨fun e => .inr ⟨q2, ?_⟩, fun e => ?_⟩, H⟩
        · have e : (((S.C cc).stateAt (65536 + a) : Nat) : Int) = 1 := by simpa using e
          omega
        · rcases e with e | e
          · omega
          · rw [e.2]; rfl
      · have q2 : store = true := by simpa using q2
        refine ⟨⟨fun e => (by cases e), fun e => ?_⟩, H⟩
        rcases e with e | e
        · omega
        · rw [q2] at e; cases e.1
  clear H
  rintro x w26 ⟨hx, H⟩
  refine split_of (fun q => ?_) (fun q => ?_)
  · -- it may go on
    have hen := hx.1 q
    obtain ⟨hi, hnow⟩ : (∀ k, S.asks k = none) ∧ S.now = none := by
      rcases hph with h | h
      · exact ⟨h.1, h.2.1⟩
      · exact absurd hen h.2.2.2
    refine ⟨bnd, adr_eq hp ⟨store, ac H (i := 3) rfl, split_of (fun qs => ?_) (fun qs => ?_)⟩⟩
    · have hst : 2 ≤ S.state (cc : Nat) (65536 + a) := by
        rw [state_of hC hcn ha2]
        rcases hen with e | e
        · exact e
        · rw [qs] at e; cases e.1
      obtain ⟨c1, c2⟩ := coh_write (d := data) hC ho hcn ha2 hs3 hal hst
      obtain ⟨o1, o2⟩ := bwriteN_ok ho hm (cc : Nat) (65536 + a) (s : Nat) data
      obtain ⟨r1, r2⟩ := writeN_rest (S := S) (cc : Nat) (65536 + a) (s : Nat) data
      refine ⟨bnd, adr_eq hp ⟨(data : Nat), ac H (i := 4) rfl, H.call 0 rfl (bwrite_any (H.nth 0 rfl) ho hm hB (cc : Nat) (65536 + a) (by omega) (s : Nat) data hd) fun w27 H => ⟨_, rfl, split_of (fun q => by rw [c1] at q; cases q) (fun _ => ?_)⟩⟩⟩
      have H : St W No w27 [busA b B (S.writeN (cc : Nat) (65536 + a) (s : Nat) data), blk kf (u8n (wrN F a data 0)).toArray 5] := H
      refine ⟨fun x w => ∃ j : Nat, x = j ∧ j ≤ s ∧ St W No w [busA b B (S.writeN (cc : Nat) (65536 + a) (s : Nat) data), blk kf (u8n (wrN F a data j)).toArray 5], fun x _ => s - x.toNat, ⟨0, rfl, by omega, H⟩, fun _ => ?_⟩
      clear H
      rintro x w28 ⟨j, rfl, hj, H⟩
      refine split_of (fun q => ?_) (fun q => ?_)
      · have q := of_decide_eq_true q
        rintro z26 rfl
        refine ⟨bnd, adr_eq hp ⟨(data : Nat), ac H (i := 4) rfl, ?_⟩⟩
        have hj4 : j < 4 := by rcases hs3 with rfl | rfl | rfl <;> omega
        rintro z28 rfl
        rw [show 8 * (j : Int) = ((8 * j : Nat) : Int) by omega, Bits.n64 (by omega), show (a : Int) + (j : Int) = ((a + j : Nat) : Int) by omega, Bits.n64 (by omega)]
        refine ⟨by omega, ?_⟩
        rintro z29 rfl z30 rfl
        simp only [Int.toNat_natCast, Nat.mul_one, Nat.zero_add]
        rw [show min (8 * j) (IntKind.bits .u32) = 8 * j from Nat.min_eq_left (by show 8 * j ≤ 32; omega), Bits.shr, Bits.m8]
        refine ⟨⟨by omega, by omega⟩, H.st 1 rfl (by simp [u8n_length, wrN_len, hC.fl]; omega) fun w29 H => ?_⟩
        rintro z31 rfl
        rw [w64 (by omega) (by omega)]
        refine ⟨⟨j + 1, by omega, by omega, ?_⟩, by show s - ((j : Int) + 1).toNat < s - (j : Int).toNat; omega⟩
        have e : (u8n (wrN F a data (j + 1))).toArray = (u8n (wrN F a data j)).toArray.setIfInBounds (a + j) (.int .u8 ((data / 2 ^ (8 * j) % 256 : Nat) : Int)) := by
          rw [List.setIfInBounds_toArray]
          congr 1
          show u8n ((wrN F a data j).set (a + j) (byteN data j)) = _
          simp [u8n, List.map_set, byteN]
        rw [e]
        exact H
      · have q := of_decide_eq_false q
        obtain rfl : j = s := by omega
        exact ⟨B, _, _, Ok.mono o1 (by omega), by rw [o2]; exact hB, c2, fun k => by rw [r1]; exact hi k, by rw [r2]; exact hnow, wrN_byte hF _ _ _, H⟩
    · have hst : 1 ≤ S.state (cc : Nat) (65536 + a) := by
        rw [state_of hC hcn ha2]
        rcases hen with e | e <;> omega
      obtain ⟨c1, c2, c3⟩ := coh_read hC ho hcn ha2 hs3 hal hst
      obtain ⟨o1, o2⟩ := breadN_ok ho hm (cc : Nat) (65536 + a) (s : Nat)
      obtain ⟨r1, r2⟩ := readN_rest (S := S) (cc : Nat) (65536 + a) (s : Nat)
      refine H.call 0 rfl (bread_any (H.nth 0 rfl) ho hm hB (cc : Nat) (65536 + a) (by omega) (s : Nat)) fun w30 H => ⟨_, _, rfl, ?_⟩
      have H : St W No w30 [busA b B (S.readN (cc : Nat) (65536 + a) (s : Nat)), blk kf (u8n F).toArray 5] := H
      rintro z33 rfl
      rw [w64 (e := (s : Int) - 1) (by omega) (by omega)]
      refine ⟨fun x y w => ∃ j : Nat, j ≤ s ∧ x = (j : Int) - 1 ∧ y = (le ((F.drop (a + j)).take (s - j)) : Nat) ∧ St W No w [busA b B (S.readN (cc : Nat) (65536 + a) (s : Nat)), blk kf (u8n F).toArray 5], fun x _ _ => (x + 1).toNat, ⟨s, Nat.le_refl _, rfl, by rw [Nat.sub_self, List.take_zero]; rfl, H⟩, fun _ => ?_⟩
      clear H
      rintro x y w31 ⟨j, hj, rfl, rfl, H⟩
      refine split_of (fun q => ?_) (fun q => ?_)
      · have q := of_decide_eq_true q
        obtain ⟨i, rfl⟩ : ∃ i, j = i + 1 := ⟨j - 1, by omega⟩
        have hil : a + i < F.length := by rw [hC.fl]; omega
        refine ⟨by decide, ?_⟩
        rintro z34 rfl z35 rfl
        rw [show (a : Int) + (((i + 1 : Nat) : Int) - 1) = ((a + i : Nat) : Int) by omega, Bits.n64 (by omega), ix1, Nat.zero_add]
        refine ⟨⟨by omega, by omega⟩, (F[a + i] : Nat), (H.blk 1 rfl).cell' (by simpa using u8n_get (List.getElem?_eq_getElem hil)), ?_⟩
        rintro z37 rfl z38 rfl z39 rfl
        have hlt : le ((F.drop (a + (i + 1))).take (s - (i + 1))) < 16777216 := by
          have h1 := le_lt (l := (F.drop (a + (i + 1))).take (s - (i + 1))) (fun x hx => hF x (List.mem_of_mem_drop (List.mem_of_mem_take hx)))
          have h2 : ((F.drop (a + (i + 1))).take (s - (i + 1))).length ≤ 3 := by
            rw [List.length_take]
            rcases hs3 with rfl | rfl | rfl <;> omega
          have h3 : 256 ^ ((F.drop (a + (i + 1))).take (s - (i + 1))).length ≤ 256 ^ 3 := Nat.pow_le_pow_right (by decide) h2
          omega
        rw [or_low _ _ hlt (hF _ (List.getElem_mem hil)), w64 (by omega) (by omega)]
        refine ⟨⟨i, by omega, by omega, ?_, H⟩, by show (((i + 1 : Nat) : Int) - 1 - 1 + 1).toNat < (((i + 1 : Nat) : Int) - 1 + 1).toNat; omega⟩
        rw [List.drop_eq_getElem_cons hil, show s - i = (s - (i + 1)) + 1 by omega, List.take_succ_cons]
        show _ = ((F[a + i] + 256 * le _ : Nat) : Int)
        rw [show a + i + 1 = a + (i + 1) by omega]
        omega
      · have q := of_decide_eq_false q
        obtain rfl : j = 0 := by omega
        refine ⟨fun t w => t = false ∧ St W No w [busA b B (S.readN (cc : Nat) (65536 + a) (s : Nat)), blk kf (u8n F).toArray 5], split_of (fun q => by rw [c1] at q; cases q) (fun _ => ⟨?_, H⟩), fun _ => ?_⟩
        · rw [c2]; simp
        · clear H
          rintro t w32 ⟨rfl, H⟩
          refine split_of (fun q => by cases q) (fun _ => ?_)
          exact ⟨B, _, F, Ok.mono o1 (by omega), by rw [o2]; exact hB, c3, fun k => by rw [r1]; exact hi k, by rw [r2]; exact hnow, hF, H⟩
  · -- it asks, or waits
    have hne : ¬ enough ((S.C cc).stateAt (65536 + a)) store := fun e => by have := hx.2 e; rw [q] at this; cases this
    refine H.callq (busy_any (H.nth 0 rfl) (cc : Nat)) fun w33 H => ⟨_, rfl, ?_⟩
    refine ⟨fun w => ∃ S2 : PB, S2.Ok (k0 * 20 + t) ∧ B.gs.length = S2.Cs.length ∧ Coh S2 F ∧ S2.asks = onlyAsk cc ((65536 + a) / 16 * 16) store ∧ (S2.now = none ∨ S2.now = some cc) ∧ t + S2.wait = S2.cyc ∧ ¬ enough ((S2.C cc).stateAt (65536 + a)) store ∧ St W No w [busA b B S2, blk kf (u8n F).toArray 5], split_of (fun q => ?_) (fun q => ?_), fun _ => ?_⟩
    · rcases hph with ⟨hi, hnow, h0⟩ | ⟨h1, -⟩
      · have h0 : t = 0 := by
          rcases h0 with h0 | h0
          · exact h0
          · exact absurd h0 hne
        obtain ⟨a1, a2, a3, a4, a5, a6⟩ := coh_ask hC ho hcn ha2 hi hne
        obtain ⟨o1, o2⟩ := askN_ok ho (cc : Nat) (65536 + a) (by omega) store
        refine ⟨bnd, adr_eq hp ⟨store, ac H (i := 3) rfl, H.call 0 rfl (ask_any (H.nth 0 rfl) ho hB (cc : Nat) (65536 + a) (by omega) store) fun w34 H => ⟨_, rfl, ?_⟩⟩⟩
        rw [a1]
        refine nil_true (split_of (fun q => by cases q) (fun _ => ⟨S.askN (cc : Nat) (65536 + a) store, o1, by rw [o2]; exact hB, a2, a3, .inl (a4.trans hnow), ?_, ?_, H⟩))
        · unfold PB.wait
          rw [a4, hnow, if_pos rfl]
          omega
        · unfold PB.C
          rw [a6]
          exact hne
      · exfalso
        have : S.busy (cc : Nat) = true := by
          unfold PB.busy
          rw [askF_nat, h1]
          unfold onlyAsk
          rw [if_pos rfl]
          rfl
        rw [this] at q
        cases q
    · rcases hph with ⟨hi, -⟩ | ⟨h1, h2, h3, h4⟩
      · exfalso
        have : S.busy (cc : Nat) = false := by
          unfold PB.busy
          rw [askF_nat, hi]
          rfl
        rw [this] at q
        cases q
      · refine ⟨S, ho, hB, hC, h1, .inr h2, ?_, h4, H⟩
        unfold PB.wait
        rw [h2, if_neg (by simp)]
        exact h3
    clear H
    rintro w35 ⟨S2, ho2, hB2, hC2, e1, e2, e3, hne2, H⟩
    obtain ⟨t1, t2, t3, t4⟩ := tick_ok' ho2 hm
    obtain ⟨g1, g2, g3⟩ := coh_tick hC2 ho2 hm hcn ha2 e1 e2 hne2
    have hcy := ho2.cyc
    have hph3 : Phase S2.tick.S cc a (t + 1) store := by
      rcases g3 with ⟨f1, f2, f3, f4, f5⟩ | ⟨f1, f2, f3, f4⟩
      · refine .inr ⟨f2.trans e1, f3, by rw [f4, g2]; omega, ?_⟩
        unfold PB.C
        rw [f5]
        exact hne2
      · exact .inl ⟨f2, f3, .inr f4⟩
    have ht2 : t + 1 ≤ 11 := by omega
    refine H.callx 0 rfl (tick_any (H.nth 0 rfl) ho2 hm hB2) fun z w36 H => ⟨_, _, _, rfl, ?_⟩
    have hB3 : B.gs.length = S2.tick.S.Cs.length := by rw [t2]; exact hB2
    have H : St W No w36 ([busA b B S2.tick.S, outA z.1 z.2 S2.tick.out] ++ [blk kf (u8n F).toArray 5]) := H.open_
    have H : St W No w36 [busA b B S2.tick.S, blk kf (u8n F).toArray 5] := H.pick [0, 2]
    generalize S2.tick.S = S3 at *
    refine ⟨fun x w => ∃ j : Nat, x = ((16 * j : Nat) : Int) ∧ j ≤ 16 ∧ St W No w [busA b B S3, blk kf (u8n F).toArray 5], fun x _ => 256 - x.toNat, ⟨0, rfl, by omega, H⟩, fun _ => ?_⟩
    clear H
    rintro x w37 ⟨j, rfl, hj, H⟩
    refine split_of (fun q => ?_) (fun q => ?_)
    · have q := of_decide_eq_true q
      have e40 : IntKind.wrap .u32 (IntKind.wrap .i64 (65536 + ((16 * j : Nat) : Int))) = ((65536 + 16 * j : Nat) : Int) := by
        rw [w64 (by omega) (by omega), show 65536 + ((16 * j : Nat) : Int) = ((65536 + 16 * j : Nat) : Int) by omega, Bits.n32 (by omega)]
      have x0 : 2 ≤ S3.state 0 (65536 + 16 * j) → S3.state 1 (65536 + 16 * j) = 0 := coh_excl (k := 0) (k' := 1) g1 t1 (by omega) (by decide) (by decide) (by decide)
      have x1 : 2 ≤ S3.state 1 (65536 + 16 * j) → S3.state 0 (65536 + 16 * j) = 0 := coh_excl (k := 1) (k' := 0) g1 t1 (by omega) (by decide) (by decide) (by decide)
      rintro z40 rfl z41 rfl
      rw [e40]
      refine H.callq (bstate_any (H.nth 0 rfl) t1 hB3 0 (65536 + 16 * j) (by omega)) fun w38 H => ⟨_, rfl, ?_⟩
      rintro z43 rfl z44 rfl
      rw [e40]
      refine H.callq (bstate_any (H.nth 0 rfl) t1 hB3 1 (65536 + 16 * j) (by omega)) fun w39 H => ⟨_, rfl, ?_⟩
      generalize S3.state 0 (65536 + 16 * j) = u at *
      generalize S3.state 1 (65536 + 16 * j) = v at *
      refine ⟨fun t w => t = false ∧ St W No w [busA b B S3, blk kf (u8n F).toArray 5], ?_, fun _ => ?_⟩
      · refine split_of (fun y1 => ?_) (fun y1 => ?_)
        · have y1 := of_decide_eq_true y1
          have hv := x0 (by omega)
          refine split_of (fun y2 => ?_) (fun _ => split_of (fun y2 => ?_) (fun _ => ⟨rfl, H⟩))
          · rw [hv] at y2; cases y2
          · have y2 := of_decide_eq_true y2
            omega
        · refine split_of (fun y2 => ?_) (fun _ => ⟨rfl, H⟩)
          have y2 := of_decide_eq_true y2
          have hu := x1 (by omega)
          exact ⟨by rw [hu]; rfl, H⟩
      clear H
      rintro tt w40 ⟨rfl, H⟩
      refine split_of (fun q => by cases q) (fun _ => ?_)
      rintro z46 rfl
      rw [show ((16 * j : Nat) : Int) + 16 = ((16 * (j + 1) : Nat) : Int) by omega, Bits.n64 (by omega)]
      exact ⟨⟨j + 1, rfl, by omega, H⟩, by show 256 - ((16 * (j + 1) : Nat) : Int).toNat < 256 - ((16 * j : Nat) : Int).toNat; omega⟩
    · rintro z47 rfl
      rw [w64 (by omega) (by omega)]
      exact ⟨⟨t + 1, S3, by omega, ht2, Ok.mono t1 (by omega), hB3, g1, hph3, H⟩, by show 100 - ((t : Int) + 1).toNat < 100 - (t : Int).toNat; omega⟩
end Go.Proofs.Ytbiogceijdcoiaa
