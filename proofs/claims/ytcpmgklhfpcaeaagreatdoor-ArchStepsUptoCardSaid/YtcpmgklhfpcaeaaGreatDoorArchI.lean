/- The machine: New, Step. No condition but the tables as they are laid. -/
import Derived.Test.YtcpmgklhfpcaeaaGreatDoorArchH
namespace Go.Proofs.YtcpmgklhfpcaeaaGreatDoor
open Go.RowKit Go.XHeap Go.Sx Go.Sep
set_option linter.unusedVariables false
set_option maxRecDepth 100000

variable {W w : World} {P : MP} {M M' : MS} {L : List Asn} {B : Nat} {Mo : Nat → Prop} {W0 : World}
theorem swap_q (op : Int) {a b : Int} (ha : U32 a) (hb : U32 b) (w : World) : Calls Tryz.prog 65 #[.int .i64 op, .int .u32 a, .int .u32 b] w fun e w' => e = .returned (.int .u32 (alu.swapF op a b)) ∧ w' = w := (alu.swap_any op a b ha.1 ha.2 hb.1 hb.2 w).mono fun e w' h => ⟨h.1, h.2.symm⟩
theorem mach_h {h' : HS} (hA : (machA P M).at_ W) (hp : Sep.Post (hartA P.g M.h) W (hartA P.g h') w) : Sep.Post (machA P M) W (machA P { M with h := h' }) w :=
  mach_shut (M' := { M with h := h' }) (L := []) ((mach_open hA).upd 1 rfl hp)
theorem mach_hi (hA : (machA P M).at_ W) (hi : ∀ k, (machA P M).own k → B ≤ k) : ∀ k, (hartA P.g M.h).own k → B ≤ k := fun k h => hi k (owns.nth (L := machL P M) 1 rfl h)
/-- Do, and its result in the cell of the caller's result -/
theorem step_tail {k : Nat} {cs : Array Value} {loaded : Int} {held : Bool} {Φ : Array Value → World → Prop} (H : St W0 Mo w (machA P M :: blk k cs 43 :: L)) (ho : M.h.Ok) (hT : Tabs B w) (hi : ∀ k, (machA P M).own k → B ≤ k) (hl : U32 loaded) (hs : cs.size = 7)
    (hq : ∀ w', St W0 Mo w' (machA P { M with h := (M.h.done loaded held).2 } :: blk k (M.h.done loaded held).1.vs 43 :: L) → Φ (M.h.done loaded held).1.vs w') :
    Calls Tryz.prog 13 #[.pointer (some ⟨P.g.b, 0, none⟩), .int .u32 loaded, .bool held] w fun e w' => ∃ vs : Array Value, e = .returned (.agg vs) ∧ vs.size = 7 ∧ (∀ j : Nat, j < 7 → (∃ v, w'.cell? ⟨k, 0 + j, none⟩ = some v) ∧ w'.frozen? ⟨k, 0 + j, none⟩ = false) ∧ (∀ v : Value, v ∈ vs.toList → v.oneCell' = true) ∧
      ∀ w8 : World, w8 = w'.setCells k 0 vs.toList → ∃ vs4 : Array Value, vs4.size = 7 ∧ cellsAt w8 ⟨k, 0, none⟩ vs4 ∧ Φ vs4 w8 := by
  have hA := H.nth 0 rfl
  refine (do_any ((mach_open hA).nth 1 rfl) ho hT (mach_hi hA hi) hl held).mono ?_
  rintro e w' ⟨rfl, hp⟩
  have H := H.upd 0 rfl (mach_h hA hp)
  exact ⟨_, rfl, H.sts0 1 rfl rfl hs (rt_one _) fun w8 H => ⟨_, rfl, H.cells 1 rfl, hq _ H⟩⟩
theorem mroot_ld (H : St W0 Mo w (machA P M :: L)) {i : Nat} {v : Value} (h : (P.root M)[i]? = some v) : w.cell? ⟨P.b, i, none⟩ = some v := (mach_open (H.nth 0 rfl)).ld 0 rfl h
theorem ask_m (hA : (machA P M).at_ W) (ho : M.h.Ok) (hT : Tabs B W) (hi : ∀ k, (machA P M).own k → B ≤ k) :
    Calls Tryz.prog 8 #[.pointer (some ⟨P.g.b, 0, none⟩)] W fun e w => e = .returned (.agg M.h.ask.vs) ∧ Sep.Post (machA P M) W (machA P M) w :=
  (ask_any ((mach_open hA).nth 1 rfl) ho hT (mach_hi hA hi)).mono fun e w h => ⟨h.1, mach_h hA h.2⟩
def StepIs (P : MP) (M : MS) (W : World) (e : Ending) (w : World) : Prop := ∃ P' : MP, P'.b = P.b ∧ P'.g = P.g ∧ e = .returned (.tuple #[.agg M.step.1.1.vs, .bool M.step.1.2]) ∧ Sep.Post (machA P M) W (machA P' M.step.2) w
theorem data_at (hA : (machA P M).at_ W) : ∃ ao cap, Value.slice P.dp M.data.length P.dc = .slice ao M.data.length cap ∧ M.data.length ≤ cap ∧ (0 < M.data.length → ∃ g off, ao = some ⟨g, off, none⟩ ∧ ∀ i, i < M.data.length → W.cell? ⟨g, off + i, none⟩ = (u8n M.data)[i]?) := by
  have hs : Sl W 5 1 (.slice P.dp M.data.length P.dc) M.data.length (u8n M.data) := (mach_open hA).nth 2 rfl
  obtain ⟨ao, cap, hv, hl, -, h2, -, hc⟩ := hs.open1
  refine ⟨ao, cap, hv, h2, fun h0 => ?_⟩
  obtain ⟨g, off, e, -, hc⟩ := hc h0
  exact ⟨g, off, e, fun i hi => (hc i hi).1⟩
theorem step_any (hA : (machA P M).at_ W) (ho : M.Ok) (hout : M.out.length < 2000) (hT : Tabs B W) (hi : ∀ k, (machA P M).own k → B ≤ k) : Calls Tryz.prog 19 #[.pointer (some ⟨P.b, 0, none⟩)] W (StepIs P M W) := by
  have h32 := ho.h.x32
  have h0 : U32 0 := u32_lit (by decide) (by decide)
  refine vc19 P.b 0 ((St.begin hA).al fun k w2 H => ⟨_, mroot_ld H rfl, ptr_some ⟨M.h.halted, ?_, split_of (fun q => ?_) (fun q => ?_)⟩⟩)
  · rw [add_none]
    exact (hart_open ((mach_open (H.nth 0 rfl)).nth 1 rfl)).ld 0 rfl (root_h h32)
  · rintro vs rfl
    refine H.sts0 1 rfl rfl rfl (rt_one noRt) fun w3 H => ⟨_, rfl, H.cells 1 rfl, ?_⟩
    have e : M.step = ((noRt, false), M) := by unfold MS.step; exact if_pos q
    exact ⟨P, rfl, rfl, by rw [e]; rfl, by rw [e]; exact H.post 0 rfl⟩
  have q : ¬ M.h.halted = true := by rw [q]; decide
  refine ⟨fun w => (M.line && M.h.intr.1.2) = false ∧ St W (machA P M).own w [machA P M, blk k noRt.vs 43], ⟨_, mroot_ld H rfl, split_of (fun q1 => ?_) (fun q1 => ⟨by rw [q1]; rfl, H⟩)⟩, ?_⟩
  · refine ⟨_, mroot_ld H rfl, (interrupt_any ((mach_open (H.nth 0 rfl)).nth 1 rfl) h32).mono ?_⟩
    rintro e w4 ⟨rfl, hp⟩
    have H := H.upd 0 rfl (mach_h (H.nth 0 rfl) hp)
    refine ⟨_, _, rfl, H.al fun k3 w5 H => H.sts0 2 rfl rfl rfl (rt_one _) fun w6 H => split_of (fun q2 => ?_) (fun q2 => ?_)⟩
    · refine ⟨_, rfl, H.cells 2 rfl, H.sts0 1 rfl rfl rfl (rt_one _) fun w7 H => ⟨_, rfl, H.cells 1 rfl, ?_⟩⟩
      have e : M.step = ((M.h.intr.1.1, true), { M with h := M.h.intr.2 }) := by
        unfold MS.step
        exact (if_neg q).trans (if_pos (by rw [q1, q2]; rfl))
      exact ⟨P, rfl, rfl, by rw [e], by rw [e]; exact H.post 0 rfl⟩
    · have e : M.h.intr.2 = M.h := by
        revert q2
        unfold HS.intr
        split
        · intro h; cases h
        · intro; rfl
      rw [e] at H
      exact ⟨by rw [q2, Bool.and_false], H.pick [0, 1]⟩
  rintro J w8 ⟨q1, H⟩
  have q1' : ¬ (M.line && M.h.intr.1.2) = true := by rw [q1]; decide
  refine ⟨_, mroot_ld H rfl, H.call 0 rfl (ask_m (H.nth 0 rfl) ho.h (hT.st H hi) hi) fun w9 H => ⟨_, rfl, H.al fun k6 w10 H => H.sts0 2 rfl rfl rfl (rq_one _) fun w11 H => ⟨_, H.ld 2 rfl rfl, split_of (fun q2 => ?_) (fun q2 => ⟨_, H.ld 2 rfl rfl, split_of (fun q3 => ?_) (fun q3 => ?_)⟩)⟩⟩⟩
  · refine ⟨_, mroot_ld H rfl, step_tail (L := [_]) H ho.h (hT.st H hi) hi h0 rfl fun w12 H => ?_⟩
    have e : M.step = (((M.h.done 0 false).1, true), { M with h := (M.h.done 0 false).2 }) := by
      unfold MS.step
      exact ((if_neg q).trans (if_neg q1')).trans (if_pos (beq_i q2))
    exact ⟨P, rfl, rfl, by rw [e], by rw [e]; exact H.post 0 rfl⟩
  · have q3 := of_decide_eq_true q3
    have e : M.step = (((M.h.done 0 false).1, true), { M with h := (M.h.done 0 false).2, out := M.out ++ [(M.h.ask.data % 256).toNat] }) := by
      unfold MS.step
      exact (((if_neg q).trans (if_neg q1')).trans (if_neg (bne_i q2))).trans (if_pos q3)
    refine H.dr fun w14 H => ⟨_, _, _, mroot_ld H rfl, _, H.ld 2 rfl rfl, ?_⟩
    rintro z rfl
    refine H.alb fun k11 w15 H _ hb => ⟨hb, ?_⟩
    have H := H.open_
    have hd := ho.h.ask_data
    have hz : IntKind.wrap .u8 M.h.ask.data = ((M.h.ask.data % 256).toNat : Nat) := by rw [Go.Sx.w8]; omega
    refine H.app 3 (m := 1) (bytes := 1) rfl [.int .u8 ((M.h.ask.data % 256).toNat : Nat)] (.inr ⟨⟨k11, 0, none⟩, rfl, fun j u hj => ?_⟩) rfl (by intro u hu; simp only [List.mem_cons, List.not_mem_nil, or_false] at hu; subst hu; rfl) (by have : maxLen = 2 ^ 63 - 1 := rfl; omega) (by omega) fun p' c' w16 H => ?_
    · match j, hj with
      | 0, hj =>
        cases hj
        rw [add_none, ← hz]
        exact H.ld 6 rfl rfl
    have H := H.conv 3 (A' := memA p' c' (M.out ++ [(M.h.ask.data % 256).toNat])) rfl (fun h => by
      show Sl w16 5 1 (.slice p' (M.out ++ [(M.h.ask.data % 256).toNat]).length c') (M.out ++ [(M.h.ask.data % 256).toNat]).length (u8n (M.out ++ [(M.h.ask.data % 256).toNat]))
      have e1 : u8n (M.out ++ [(M.h.ask.data % 256).toNat]) = u8n M.out ++ [.int .u8 ((M.h.ask.data % 256).toNat : Nat)] := by unfold u8n; rw [List.map_append]; rfl
      rw [e1, List.length_append]
      exact h) (fun q h => by
        have h : (Value.slice p' (M.out ++ [(M.h.ask.data % 256).toNat]).length c').ownBlock = some q := h
        show (Value.slice p' (M.out.length + 1) c').ownBlock = some q
        rw [List.length_append] at h
        exact h)
    refine H.st 0 rfl (show 2 < 5 by decide) fun w17 H => ?_
    have H2 : St W (machA P M).own w17 (machL { P with op := p', oc := c' } { M with out := M.out ++ [(M.h.ask.data % 256).toNat] } ++ [blk k noRt.vs 43, blk k6 M.h.ask.vs 37, blk k11 #[.int .u8 (IntKind.wrap .u8 M.h.ask.data)] 5]) := by
      refine H.conv 0 (A' := blk P.b (({ P with op := p', oc := c' } : MP).root { M with out := M.out ++ [(M.h.ask.data % 256).toNat] }) 123) rfl (fun h => ?_) (fun q h => h)
      unfold MP.root
      rw [List.length_append]
      exact h
    have H := H2.shut
    have hi2 : ∀ q, (machA { P with op := p', oc := c' } { M with out := M.out ++ [(M.h.ask.data % 256).toNat] }).own q → B ≤ q := fun q hq => by
      rcases H.mine q (.inl hq) with h | h
      · exact hi q h
      · obtain ⟨W1, hB, -, -, ht⟩ := hT
        have := ht.size
        omega
    refine ⟨_, mroot_ld H rfl, step_tail (M := { M with out := M.out ++ [(M.h.ask.data % 256).toNat] }) (P := { P with op := p', oc := c' }) (L := [_, _]) H ho.h (hT.st H hi) hi2 h0 rfl fun w18 H => ?_⟩
    exact ⟨{ P with op := p', oc := c' }, rfl, rfl, by rw [e], by rw [e]; exact H.post 0 rfl⟩
  · have q3 := of_decide_eq_false q3
    obtain ⟨i0, i1, hs, hd⟩ := ask_in ho.h (bne_i q2) (by omega)
    have hlen := ho.len
    have h4 := ho.h.data
    have hr := ho.rd M.h.ask hs
    have hac := ho.acc M.h.ask hs hd ho.h.ask_addr
    have ez : IntKind.wrap .u32 (M.h.ask.addr - 65536) = M.h.ask.addr - 65536 := w32 (by omega) (by omega)
    have e : M.step = (((M.h.done (M.rd M.h.ask) (M.acc M.h.ask).held).1, true), { M with h := (M.h.done (M.rd M.h.ask) (M.acc M.h.ask).held).2, res := (M.acc M.h.ask).res, data := if (M.acc M.h.ask).write then wrN M.data (MS.at M.h.ask) (M.acc M.h.ask).v.toNat M.h.ask.size.toNat else M.data }) := by
      unfold MS.step
      exact (((if_neg q).trans (if_neg q1')).trans (if_neg (bne_i q2))).trans (if_neg (by omega))
    obtain ⟨ao, cap, hv, hcap, hce⟩ := data_at (H.nth 0 rfl)
    simp only [Value.slice.injEq, true_and] at hv
    obtain ⟨hv1, hv2⟩ := hv
    obtain ⟨gd, off, hp, -⟩ := hce (by omega)
    have hdp : P.dp = some ⟨gd, off, none⟩ := hv1.trans hp
    have hsub : sub P.dp P.dc (M.h.ask.addr - 65536).toNat 1 = some ⟨gd, off + MS.at M.h.ask, none⟩ := by
      unfold sub
      rw [if_neg (by omega), hdp]
      show some (Addr.add ⟨gd, off, none⟩ _) = _
      rw [add_none, Nat.mul_one]
      rfl
    refine ⟨_, _, _, mroot_ld H rfl, _, H.ld 2 rfl rfl, ?_⟩
    rintro z rfl
    rw [ez]
    refine ⟨⟨by omega, by omega⟩, _, H.ld 2 rfl rfl, ⟨by omega, by omega⟩, H.drN fun w20 H => ?_⟩
    rw [hsub]
    have hb : ∀ i x, ((M.data.drop (MS.at M.h.ask)).take M.h.ask.size.toNat)[i]? = some x → w20.cell? ⟨gd, off + MS.at M.h.ask + i, none⟩ = some (.int .u8 (x : Nat)) := by
      intro i x hx
      obtain ⟨ao2, cap2, hv, -, hce⟩ := data_at (H.nth 0 rfl)
      simp only [Value.slice.injEq, true_and] at hv
      obtain ⟨g2, off2, hp2, hce⟩ := hce (by omega)
      rw [← hv.1, hdp] at hp2
      cases hp2
      have hil : i < M.h.ask.size.toNat := by
        have := (List.getElem?_eq_some_iff.1 hx).1
        rw [List.length_take] at this
        omega
      rw [List.getElem?_take_of_lt hil, List.getElem?_drop] at hx
      have hlt := (List.getElem?_eq_some_iff.1 hx).1
      rw [Nat.add_assoc, hce _ hlt]
      exact u8n_get hx
    have hl2 : ((M.data.drop (MS.at M.h.ask)).take M.h.ask.size.toNat).length = M.h.ask.size.toNat := by
      have : MS.at M.h.ask = (M.h.ask.addr - 65536).toNat := rfl
      rw [List.length_take, List.length_drop]
      omega
    refine H.callp (get_bytes (by omega) (fun x hx => ho.byte x (List.mem_of_mem_drop (List.mem_of_mem_take hx))) hl2 hb) ⟨_, rfl, _, H.ld 2 rfl rfl, ?_⟩
    refine ⟨fun x x2 x3 w => (⟨x, x2, x3, (M.acc M.h.ask).res⟩ : Acc) = M.acc M.h.ask ∧ St W (machA P M).own w [machA P { M with res := (M.acc M.h.ask).res }, blk k noRt.vs 43, blk k6 M.h.ask.vs 37], ⟨_, H.ld 2 rfl rfl, H.callq (class_q (hT.st H hi) _) fun w22 H => ⟨_, rfl, split_of (fun c4 => ?_) (fun c4 => split_of (fun c6 => ?_) (fun c6 => ?_))⟩⟩, ?_⟩
    · have ea : M.acc M.h.ask = ⟨false, M.h.ask.data, false, M.res⟩ := by unfold MS.acc; exact if_pos (beq_i c4)
      rw [ea]
      exact ⟨rfl, H⟩
    · refine ⟨_, H.ld 2 rfl rfl, _, H.ld 2 rfl rfl, H.callp (swap_q _ hr hd _) ⟨_, rfl, _, H.ld 2 rfl rfl, split_of (fun c => ?_) (fun c => split_of (fun c2 => ?_) (fun c2 => ?_))⟩⟩
      · have ea : M.acc M.h.ask = ⟨false, alu.swapF M.h.ask.op (M.rd M.h.ask) M.h.ask.data, false, M.h.ask.addr⟩ := by
          unfold MS.acc; exact ((if_neg (bne_i c4)).trans (if_pos (beq_i c6))).trans (if_pos (beq_i c))
        rw [ea]
        refine ⟨_, H.ld 2 rfl rfl, ?_⟩
        have H := H.open_
        exact H.st 0 rfl (show 4 < 5 by decide) fun w24 H => ⟨rfl, St.shut (L := machL P { M with res := M.h.ask.addr }) (L' := [_, _]) H⟩
      · have ea : M.acc M.h.ask = ⟨decide (M.res = M.h.ask.addr), alu.swapF M.h.ask.op (M.rd M.h.ask) M.h.ask.data, decide (M.res = M.h.ask.addr), 0⟩ := by
          unfold MS.acc; exact (((if_neg (bne_i c4)).trans (if_pos (beq_i c6))).trans (if_neg (bne_i c))).trans (if_pos (beq_i c2))
        rw [ea]
        refine ⟨_, mroot_ld H rfl, _, H.ld 2 rfl rfl, H.drN fun w25 H => ?_⟩
        have H := H.open_
        exact H.st 0 rfl (show 4 < 5 by decide) fun w24 H => ⟨by rw [show (M.res == M.h.ask.addr) = decide (M.res = M.h.ask.addr) from rfl], St.shut (L := machL P { M with res := 0 }) (L' := [_, _]) H⟩
      · have ea : M.acc M.h.ask = ⟨true, alu.swapF M.h.ask.op (M.rd M.h.ask) M.h.ask.data, false, M.res⟩ := by
          unfold MS.acc; exact (((if_neg (bne_i c4)).trans (if_pos (beq_i c6))).trans (if_neg (bne_i c))).trans (if_neg (bne_i c2))
        rw [ea]
        exact ⟨rfl, H⟩
    · have ea : M.acc M.h.ask = ⟨true, M.h.ask.data, false, M.res⟩ := by
        unfold MS.acc; exact (if_neg (bne_i c4)).trans (if_neg (bne_i c6))
      rw [ea]
      exact ⟨rfl, H⟩
    · rintro J2 x x2 x3 w27 ⟨hx, H⟩
      generalize hag : M.acc M.h.ask = A at hx e hac H
      obtain ⟨aw, av, ah, ar⟩ := A
      simp only [Acc.mk.injEq] at hx
      obtain ⟨rfl, rfl, rfl, -⟩ := hx
      refine ⟨fun w => St W (machA P M).own w [machA P { M with res := (M.acc M.h.ask).res, data := if x then wrN M.data (MS.at M.h.ask) x2.toNat M.h.ask.size.toNat else M.data }, blk k noRt.vs 43, blk k6 M.h.ask.vs 37], split_of (fun c => ?_) (fun c => ?_), ?_⟩
      · subst c
        obtain ⟨d, rfl⟩ : ∃ d : Nat, x2 = d := ⟨x2.toNat, by have : 0 ≤ x2 := hac.1.1; omega⟩
        have hx2 := hac.1.2
        have hm : (memA (some ⟨gd, off, none⟩) P.dc M.data).at_ w27 := by
          rw [← hdp]
          exact (mach_open (H.nth 0 rfl)).nth 2 rfl
        refine (put_bytes (k := MS.at M.h.ask) hm (by show (M.h.ask.addr - 65536).toNat + _ ≤ _; omega) (by omega) (by show d < 4294967296; have : (d : Int) < 4294967296 := hx2; omega)).mono ?_
        rintro e2 w28 ⟨rfl, hp⟩
        refine ⟨rfl, ?_⟩
        rw [← hdp] at hp
        have H3 := (mach_open (H.nth 0 rfl)).upd 2 rfl hp
        have hl3 : (wrN M.data (MS.at M.h.ask) d M.h.ask.size.toNat).length = M.data.length := wrN_len _ _ _ _
        have hp2 : Sep.Post (machA P { M with res := (M.acc M.h.ask).res }) w27 (machA P { M with res := (M.acc M.h.ask).res, data := wrN M.data (MS.at M.h.ask) d M.h.ask.size.toNat }) w28 := by
          refine mach_shut (L := []) ?_
          unfold machL MP.root
          rw [hl3]
          rw [hag]
          exact H3
        rw [hag] at hp2 ⊢
        rw [if_pos rfl, Int.toNat_natCast]
        exact H.upd 0 rfl hp2
      · subst c
        rw [hag]
        exact H
      · intro J3 w29 H
        rw [hag] at H
        refine ⟨_, mroot_ld H rfl, step_tail (L := [_]) H ho.h (hT.st H hi) (fun q hq => ?_) hr rfl fun w30 H => ?_⟩
        · rcases H.mine q (.inl hq) with h | h
          · exact hi q h
          · obtain ⟨W1, hB, -, -, ht⟩ := hT
            have := ht.size
            omega
        · exact ⟨P, rfl, rfl, by rw [e]; rfl, by rw [e]; exact H.post 0 rfl⟩
end Go.Proofs.YtcpmgklhfpcaeaaGreatDoor
