/- The law 'BusSteps', walked. No condition but the handle of the type 'error', and bounds of lengths. -/
import Derived.Test.YtbiogceijdcoiaaDoorBusZa
namespace Go.Proofs.YtbiogceijdcoiaaDoor
open Go.RowKit Go.XHeap Go.Sx Go.Sep
set_option linter.unusedVariables false
set_option maxRecDepth 100000
variable {W w : World} {b m : Nat} {P P' : RP} {S S' : PB} {L : List Asn}
theorem run_addr (core a : Nat) (wr : Bool) (ha : a < 4294967296) : ∀ k, ∀ x ∈ (LS.run core a wr S k).out, x.addr < 4294967296
  | 0, x, hx => (List.not_mem_nil hx).elim
  | k + 1, x, hx => by
    have ih := run_addr core a wr ha k
    have e : LS.run core a wr S (k + 1) = (LS.run core a wr S k).step core a wr k := rfl
    rw [e, step_def] at hx
    split at hx
    · exact ih x hx
    · split at hx
      · rcases List.mem_append.1 hx with hx | hx
        · exact ih x hx
        · rw [List.mem_singleton.1 hx]; exact ha
      · exact ih x hx
theorem done_addr (ho : S.Ok m) {core a : Nat} (hk : core < S.Cs.length) (hl : LineOk S.len a) (wr : Bool) : ∀ x ∈ (S.done core a wr).out, x.addr < 4294967296 := by
  have hr := run_ok ho core a wr S.Cs.length (Nat.le_refl _)
  have hlen := ho.len
  unfold LineOk at hl
  have ha : a < 4294967296 := by omega
  have h1 := run_addr (S := S) core a wr ha S.Cs.length
  have hkx : core < (LS.run core a wr S S.Cs.length).S.Cs.length := by rw [hr.same.n]; exact hk
  have hg := lowN_good (hr.ok.cs core hkx) a 0 (by omega)
  have hy := (goneOf_ok hg a).1.line
  unfold PB.done
  dsimp only
  intro x hx
  rcases List.mem_append.1 hx with hx | hx
  · split at hx
    · rcases List.mem_append.1 hx with hx | hx
      · exact h1 x hx
      · rw [List.mem_singleton.1 hx]; exact hy
    · exact h1 x hx
  · rw [List.mem_singleton.1 hx]; exact ha
theorem tick_addr (ho : S.Ok m) : ∀ x ∈ S.tick.out, x.addr < 4294967296 := by
  have h1 := turn_ok ho
  unfold PB.tick
  cases hnow : S.turn.now with
  | none => intro x hx; exact (List.not_mem_nil hx).elim
  | some c =>
    dsimp only
    obtain ⟨hc, hs⟩ := h1.now c hnow
    split
    · intro x hx; exact (List.not_mem_nil hx).elim
    · cases ha : S.turn.asks c with
      | none => rw [ha] at hs; cases hs
      | some x => exact done_addr (taken_ok h1 hc) hc (h1.asks c x.1 x.2 ha).2 x.2
def opC (k a b c d : Int) : Array Value := #[.int .i64 k, .int .i64 a, .int .i64 b, .int .i64 c, .int .i64 d]
def Scr (W : World) (p : Option Addr) (n : Nat) : Prop := ∀ i, i < n → ∃ g off k a b c d, p = some ⟨g, off, none⟩ ∧ g < W.heap.size ∧ cellsAt W ⟨g, off + i * 5, none⟩ (opC k a b c d)
theorem op_one (k a b c d : Int) : ∀ v ∈ (opC k a b c d).toList, v.oneCell' = true := by
  intro v hv
  simp only [opC, List.mem_cons, List.not_mem_nil, or_false] at hv
  rcases hv with rfl | rfl | rfl | rfl | rfl <;> rfl
theorem u32n (z : Int) : ∃ a : Nat, IntKind.wrap .u32 z = a ∧ a < 4294967296 := by
  rw [w32m]
  exact ⟨(z % 4294967296).toNat, by omega, by omega⟩
/-- what stands in the loop: two buses of one state -/
def GI (W : World) (b b2 m : Nat) (w : World) : Prop := ∃ (B : BP) (S : PB) (P : RP), S.Ok m ∧ B.gs.length = S.Cs.length ∧ P.Ok S ∧ St W No w [busA b B S, rbusA b2 P S]
theorem steps_ok (hE : HErr W) (h1s : 1 ≤ W.heap.size) {p1 p2 dp : Option Addr} {xs ws : List Int} {c1 c2 dc : Nat} {cyc : Int} {data : List Nat} (h1 : IntsAt W p1 xs) (h2 : IntsAt W p2 ws) (hc1 : xs.length ≤ c1) (hc2 : ws.length ≤ c2) (hD : BytesAt W dp data) (hdp : dp = none ∨ ∃ g off, dp = some ⟨g, off, none⟩)
    (hb : ∀ x ∈ data, x < 256) (hx : xs.length ≤ 1048576) (hw : ws.length ≤ 1048576) (hd : data.length ≤ 1048576) (p : Option Addr) (n c : Nat) (hs : Scr W p n) :
    Calls Tryd.prog 3 #[.slice p1 xs.length c1, .slice p2 ws.length c2, .int .i64 cyc, .slice dp data.length dc, .slice p n c] W fun e w => e = .returned (.bool true) ∧ Hush W w := by
  have EE : ∀ {w : World} {L : List Asn}, St W No w L → HErr w := fun H => (H.touch.cell (p := ⟨0, 0, none⟩) (by show 0 < W.heap.size; omega) (fun e => e)).trans hE
  refine vc3 p1 xs.length c1 p2 ws.length c2 cyc dp data.length dc p n c ?_
  refine ⟨fun t q1 q2 w => t = true ∧ ((q1 = none ∧ Hush W w) ∨ ∃ b b2 : Nat, q1 = some ⟨b, 0, none⟩ ∧ q2 = some ⟨b2, 0, none⟩ ∧ GI W b b2 0 w), (made_any hE h1s h1 h2 hc1 hc2 hD hdp hb hx hw hd).mono ?_, fun _ => ?_⟩
  · rintro e w ⟨r, r2, en, rfl, hK, hM, H⟩
    refine ⟨_, _, _, rfl, rfl, ?_⟩
    rcases hK with ⟨-, -, rfl⟩ | ⟨-, hg, hdl, b, B, S, rfl, hF, hB⟩
    · exact .inl ⟨rfl, H.touch⟩
    · cases r2 with
      | none => exact hM.elim
      | some x =>
        obtain ⟨b2, P⟩ := x
        exact .inr ⟨b, b2, rfl, rfl, B, S, P, fresh_ok hF hg hdl hb, hB, hM, H⟩
  rintro t q1 q2 w3 ⟨rfl, hcase⟩
  rcases hcase with ⟨rfl, hh⟩ | ⟨b, b2, rfl, rfl, hG⟩
  · refine ⟨fun x x2 w => x2 = true ∧ Hush W w, fun _ _ _ => 0, ⟨rfl, hh⟩, fun _ => ?_⟩
    rintro x x2 w4 ⟨rfl, hw4⟩
    exact split_of (fun _ => split_of (fun _ => split_of (fun _ => split_of (fun q => by cases q) (fun _ => ⟨rfl, hw4⟩)) (fun q => by cases q)) (fun _ => ⟨rfl, hw4⟩)) (fun _ => ⟨rfl, hw4⟩)
  refine ⟨fun x x2 w => ∃ k : Nat, x = k ∧ x2 = true ∧ k ≤ 4096 ∧ GI W b b2 k w, fun x _ _ => 4096 - x.toNat, ⟨0, rfl, rfl, by omega, hG⟩, fun _ => ?_⟩
  clear hG
  rintro x x2 w5 ⟨k, rfl, rfl, hk, B, S, P, ho, hB, hP, H⟩
  refine split_of (fun q1 => split_of (fun q2 => split_of (fun _ => split_of (fun _ => ?_) (fun q => by cases q)) (fun q => by cases q)) (fun _ => ⟨rfl, H.touch⟩)) (fun _ => ⟨rfl, H.touch⟩)
  have q1 := of_decide_eq_true q1
  have q2 := of_decide_eq_true q2
  have hm : k + 1 < 4611686018427387904 := by omega
  obtain ⟨g, off, zk, za, zb, zc, zd, hp, hg, hcells⟩ := hs k (by omega)
  have hcells5 : cellsAt w5 ⟨g, off + k * 5, none⟩ (opC zk za zb zc zd) := fun i v hi => by
    have := hcells i v hi
    rw [add_none] at this ⊢
    exact (H.touch.cell (p := ⟨g, off + k * 5 + i, none⟩) hg (fun e => e)).trans this
  refine ⟨fun t w => t = true ∧ GI W b b2 (k + 1) w, ?_, fun _ => ?_⟩
  rotate_left
  · rintro t w8 ⟨rfl, hG⟩
    rintro z rfl
    rw [w64 (by omega) (by omega)]
    exact ⟨⟨k + 1, by omega, rfl, by omega, hG⟩, by show 4096 - ((k : Int) + 1).toNat < 4096 - (k : Int).toNat; omega⟩
  refine ⟨⟨by omega, q1⟩, adr_eq hp ⟨opC zk za zb zc zd, rfl, ?_, H.al fun ko w6 H => H.sts0 2 rfl rfl rfl (op_one _ _ _ _ _) fun w7 H => ⟨zb, H.ld 2 rfl rfl, ?_⟩⟩⟩
  · rw [Int.toNat_natCast]; exact hcells5
  have H : St W No w7 [busA b B S, rbusA b2 P S, blk ko (opC zk za zb zc zd) 30] := H
  clear hcells5
  obtain ⟨a, ea, ha⟩ := u32n zb
  rintro z2 rfl z3 rfl
  rw [ea, Bits.n64 (by omega)]
  refine ⟨zk, H.ld 2 rfl rfl, ?_⟩
  have ho1 : S.Ok (k + 1) := Ok.mono ho (by omega)
  refine split_of (fun _ => ?_) (fun _ => split_of (fun _ => ?_) (fun _ => split_of (fun _ => ?_) (fun _ => split_of (fun _ => ?_) (fun _ => split_of (fun _ => ?_) (fun _ => split_of (fun _ => ?_) (fun _ => ?_))))))
  · -- Ask
    have hok := askN_ok ho1 za a ha (zc == 1)
    refine ⟨za, H.ld 2 rfl rfl, zc, H.ld 2 rfl rfl, H.call 0 rfl (ask_any (H.nth 0 rfl) ho hB za a ha (zc == 1)) fun w8 H => ⟨_, rfl, za, H.ld 2 rfl rfl, zc, H.ld 2 rfl rfl, ?_⟩⟩
    refine H.call 1 rfl (rask_any (H.nth 1 rfl) ho hP za a ha (zc == 1)) fun w9 H => ⟨_, rfl, H.callq (ltold w9 (EE H) _) fun w10 H => ⟨true, rfl, rfl, B, S.askN za a (zc == 1), P, hok.1, by rw [hok.2]; exact hB, askN_pok hP _ _ _, H.take 2⟩⟩
  · -- Tick
    obtain ⟨t1, t2, t3, t4⟩ := tick_ok' ho hm
    refine H.callx 0 rfl (tick_any (H.nth 0 rfl) ho hm hB) fun z w8 H => ⟨_, _, _, rfl, (rtick_any (H.nth 1 rfl) ho hm hP).mono ?_⟩
    rintro e w9 ⟨z2, rfl, hP2, hpost⟩
    have H := H.upd 1 rfl hpost
    have H : St W No w9 ([busA b B S.tick.S, outA z.1 z.2 S.tick.out] ++ [all [rbusA b2 z2.2 S.tick.S, routA z2.1.1 z2.1.2 S.tick.out], blk ko (opC zk za zb zc zd) 30]) := H.open_
    have H : St W No w9 [all [rbusA b2 z2.2 S.tick.S, routA z2.1.1 z2.1.2 S.tick.out], busA b B S.tick.S, outA z.1 z.2 S.tick.out] := H.pick [2, 0, 1]
    have H : St W No w9 [rbusA b2 z2.2 S.tick.S, routA z2.1.1 z2.1.2 S.tick.out, busA b B S.tick.S, outA z.1 z.2 S.tick.out] := H.open_
    have H : St W No w9 [busA b B S.tick.S, rbusA b2 z2.2 S.tick.S, outA z.1 z.2 S.tick.out, routA z2.1.1 z2.1.2 S.tick.out] := H.pick [2, 0, 3, 1]
    refine ⟨_, _, _, rfl, (snoops_any (H.tail.tail).here (by omega) (tick_addr ho)).mono ?_⟩
    rintro e w10 ⟨rfl, ht⟩
    refine ⟨true, rfl, rfl, B, S.tick.S, z2.2, t1, by rw [t2]; exact hB, hP2, ?_⟩
    refine St.rec_ (H.take 2) ht (fun q hq hq2 => ?_) (fun q hq => ?_)
    · rcases hq with hq | hq | hq
      · exact Sep.St.disj H.here 0 2 (by decide) rfl rfl q hq hq2
      · exact Sep.St.disj H.here 1 2 (by decide) rfl rfl q hq hq2
      · exact hq
    · exact (H.mine q (owns.nth 2 rfl hq)).elim (fun e => e.elim) id
  · -- Read
    have hok := breadN_ok ho hm za a zc
    refine ⟨za, H.ld 2 rfl rfl, zc, H.ld 2 rfl rfl, H.call 0 rfl (bread_any (H.nth 0 rfl) ho hm hB za a ha zc) fun w8 H => ⟨_, _, rfl, za, H.ld 2 rfl rfl, zc, H.ld 2 rfl rfl, (rbread_any (H.nth 1 rfl) ho hP za a ha zc).mono ?_⟩⟩
    rintro e w9 ⟨rfl, P', hP', hpost⟩
    have H := H.upd 1 rfl hpost
    exact ⟨_, _, rfl, split_of (fun _ => ⟨by simp, B, _, P', hok.1, by rw [hok.2]; exact hB, hP', H.take 2⟩) (fun q => by simp at q)⟩
  · -- Write
    obtain ⟨d, ed, hd⟩ := u32n zd
    have hok := bwriteN_ok ho hm za a zc d
    refine ⟨za, H.ld 2 rfl rfl, zc, H.ld 2 rfl rfl, zd, H.ld 2 rfl rfl, ?_⟩
    rintro z19 rfl
    rw [ed]
    refine H.call 0 rfl (bwrite_any (H.nth 0 rfl) ho hm hB za a ha zc d hd) fun w8 H => ⟨_, rfl, za, H.ld 2 rfl rfl, zc, H.ld 2 rfl rfl, zd, H.ld 2 rfl rfl, ?_⟩
    rintro z23 rfl
    rw [ed]
    refine (rbwrite_any (H.nth 1 rfl) ho hP za a ha zc d hd).mono ?_
    rintro e w9 ⟨rfl, P', hP', hpost⟩
    have H := H.upd 1 rfl hpost
    exact ⟨_, rfl, by simp, B, _, P', hok.1, by rw [hok.2]; exact hB, hP', H.take 2⟩
  · -- State, Busy
    refine ⟨za, H.ld 2 rfl rfl, H.callq (bstate_any (H.nth 0 rfl) ho hB za a ha) fun w8 H => ⟨_, rfl, za, H.ld 2 rfl rfl, H.callp (rbstate_any (H.nth 1 rfl) ho hP za a ha) ⟨_, rfl, za, H.ld 2 rfl rfl, H.callq (busy_any (H.nth 0 rfl) za) fun w9 H => ⟨_, rfl, za, H.ld 2 rfl rfl, H.callp (rbusy_any (H.nth 1 rfl) ho za) ⟨_, rfl, ?_⟩⟩⟩⟩⟩
    exact split_of (fun _ => ⟨by simp, B, S, P, ho1, hB, hP, H.take 2⟩) (fun q => by simp at q)
  · -- Data
    have hdl := data_len ho
    have hlen := ho.len
    refine H.calln (data_any (H.nth 0 rfl) ho hB) fun z w8 H => ⟨_, _, _, rfl, H.calln (rdata_any (H.nth 1 rfl) ho hP) fun z2 w9 H => ⟨_, _, _, rfl, ?_⟩⟩
    have H : St W No w9 [busA b B S, rbusA b2 P S, memA z.1 z.2 S.data, memA z2.1 z2.2 S.data] := H.pick [0, 1, 3, 4]
    have hby := bytes_any (H.tail.tail).here (by omega)
    rw [hdl] at hby
    refine hby.mono ?_
    rintro e w10 ⟨rfl, ht⟩
    refine ⟨true, rfl, rfl, B, S, P, ho1, hB, hP, ?_⟩
    refine St.rec_ (H.take 2) ht (fun q hq hq2 => ?_) (fun q hq => ?_)
    · rcases hq with hq | hq | hq
      · exact Sep.St.disj H.here 0 2 (by decide) rfl rfl q hq hq2
      · exact Sep.St.disj H.here 1 2 (by decide) rfl rfl q hq hq2
      · exact hq
    · exact (H.mine q (owns.nth 2 rfl hq)).elim (fun e => e.elim) id
  · exact ⟨rfl, B, S, P, ho1, hB, hP, H.take 2⟩
end Go.Proofs.YtbiogceijdcoiaaDoor
