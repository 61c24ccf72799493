/- The law 'WindowFlows', walked (OPEN). -/
import Derived.Test.YtdliholhfiihcaaDoorWinT
namespace Go.Proofs.YtdliholhfiihcaaDoor
open Go.RowKit Go.XHeap Go.Sx Go.Sep
set_option linter.unusedVariables false
set_option maxRecDepth 100000

theorem adr_eq {p : Option Addr} {g o : Nat} {f : Nat → Nat → Prop} (e : p = some ⟨g, o, none⟩) (h : f g o) : Sx.adr p f := by subst e; exact h
theorem nat_cell {A : World} {p : Option Addr} {c : Nat} {l : List Nat} (h : Sl A 3 1 (.slice p l.length c) l.length (natV l)) {j : Nat} (hj : j < l.length) : ∃ g off, p = some ⟨g, off, none⟩ ∧ A.cell? ⟨g, off + j, none⟩ = some (.int .i64 (l[j] : Nat)) := by
  obtain ⟨ao, cap, hv, -, -, -, -, hc⟩ := h.open1
  cases hv
  obtain ⟨g, off, rfl, -, hcell⟩ := hc (by omega)
  refine ⟨g, off, rfl, (hcell j hj).1.trans ?_⟩
  simp [natV, hj]
theorem int_cell {A : World} {p : Option Addr} {c : Nat} {l : List Int} (h : Sl A 3 1 (.slice p l.length c) l.length (intsV l)) {j : Nat} (hj : j < l.length) : ∃ g off, p = some ⟨g, off, none⟩ ∧ A.cell? ⟨g, off + j, none⟩ = some (.int .i64 l[j]) := by
  obtain ⟨ao, cap, hv, -, -, -, -, hc⟩ := h.open1
  cases hv
  obtain ⟨g, off, rfl, -, hcell⟩ := hc (by omega)
  refine ⟨g, off, rfl, (hcell j hj).1.trans ?_⟩
  simp [intsV, hj]
theorem flows_ok {W : World} (h1 : 1 ≤ W.heap.size) (hE : HErr W) (a0 : Int) (ha0 : -9223372036854775808 ≤ a0 ∧ a0 ≤ 9223372036854775807) (a1 : Option Addr) (a1n a1c : Nat) (hw : Which W a1 a1n) :
    Calls Tryd.prog 3 #[.int .i64 a0, .slice a1 a1n a1c] W fun e w => e = .returned (.bool true) ∧ Hush W w := by
  have EE : ∀ {w : World} {L : List Asn}, St W No w L → HErr w := fun H => (H.touch.cell (p := ⟨0, 0, none⟩) (by show 0 < W.heap.size; omega) (fun e => e)).trans hE
  obtain ⟨bl, hbl⟩ := hw
  obtain ⟨inb, hinb⟩ : ∃ inb : Nat → Bool, inb = fun k => decide (k < a1n) && bl k := ⟨_, rfl⟩
  refine vc3 a0 a1 a1n a1c ((pick_any W a0 63 (by decide) ha0).mono ?_)
  rintro e w2 ⟨z, rfl, hz0, hz1, rfl⟩
  refine ⟨z, rfl, ?_⟩
  rintro z2 rfl
  rw [w64 (by omega) (by omega)]
  obtain ⟨S, hS⟩ : ∃ S : Nat, 2 + z = (S : Nat) := ⟨(2 + z).toNat, by omega⟩
  rw [hS]
  have H := St.nil w2
  refine H.calln (wnew_good w2 S 128 ⟨by omega, by omega, by omega, by omega⟩) fun x w3 H => ⟨some ⟨x.1.1, 0, none⟩, _, rfl, nil_true (split_of (fun q => by cases q) (fun _ => split_of (fun q => by cases q) (fun _ => ?_)))⟩
  obtain ⟨⟨b, w0⟩, hfr⟩ := x
  have hF := flow_fresh hfr inb
  have H : St w2 No w3 [winA b w0] := H
  have H := (H.add (A := sl 3 1 (.slice none 0 0) 0 []) ⟨Sl.nil _ _ _, XTouch.refl _ _, fun q hq => by cases hq⟩).add (A := sl 3 1 (.slice none 0 0) 0 []) ⟨Sl.nil _ _ _, XTouch.refl _ _, fun q hq => by cases hq⟩
  have hWI : WI w2 b w0 none 0 (chainL inb 0) none 0 (freeL inb 0) w3 := H
  refine ⟨fun fp fn fc cp cn cc A => ∃ w, Flow w S inb S (fun _ => 0) (fun _ => false) ∧ cn = (chainL inb S).length ∧ fn = (freeL inb S).length ∧ WI w2 b w cp cc (chainL inb S) fp fc (freeL inb S) A,
    ⟨fun x last cp cn cc fp fn fc A => ∃ (m : Nat) (w : WS), x = m ∧ m ≤ S ∧ last = (lastReg inb m : Nat) ∧ Flow w S inb m (fun _ => 0) (fun _ => false) ∧ cn = (chainL inb m).length ∧ fn = (freeL inb m).length ∧ WI w2 b w cp cc (chainL inb m) fp fc (freeL inb m) A, fun x _ _ _ _ _ _ _ _ => S - x.toNat, ⟨0, w0, rfl, Nat.zero_le _, rfl, hF, rfl, rfl, hWI⟩, fun _ => ?_⟩, fun _ => ?_⟩
  · clear H hWI
    rintro x last cp cn cc fp fn fc A ⟨m, w, rfl, hm, rfl, hFl, rfl, rfl, HW⟩
    refine split_of (fun q => ?_) (fun q => ?_)
    · have q := of_decide_eq_true q
      have H : St w2 No A [winA b w, sl 3 1 (.slice cp (chainL inb m).length cc) (chainL inb m).length (natV (chainL inb m)), sl 3 1 (.slice fp (freeL inb m).length fc) (freeL inb m).length (natV (freeL inb m))] := HW
      refine ⟨fun last' cp' cn' cc' fp' fn' fc' B => ∃ w', last' = (lastReg inb (m + 1) : Nat) ∧ Flow w' S inb (m + 1) (fun _ => 0) (fun _ => false) ∧ cn' = (chainL inb (m + 1)).length ∧ fn' = (freeL inb (m + 1)).length ∧ WI w2 b w' cp' cc' (chainL inb (m + 1)) fp' fc' (freeL inb (m + 1)) B, ?_, fun _ => ?_⟩
      · rintro vs rfl
        refine H.al fun k B H => H.sts0 3 rfl rfl rfl (by intro v hv; simp at hv; rcases hv with rfl | rfl | rfl | rfl <;> rfl) fun B2 H => ?_
        have H : St w2 No B2 [winA b w, sl 3 1 (.slice cp (chainL inb m).length cc) (chainL inb m).length (natV (chainL inb m)), sl 3 1 (.slice fp (freeL inb m).length fc) (freeL inb m).length (natV (freeL inb m)), blk k (entryC 0 (-1) (-1) (-1)) 32] := H
        refine ⟨fun t C => t = inb m ∧ St w2 No C [winA b w, sl 3 1 (.slice cp (chainL inb m).length cc) (chainL inb m).length (natV (chainL inb m)), sl 3 1 (.slice fp (freeL inb m).length fc) (freeL inb m).length (natV (freeL inb m)), blk k (entryC 0 (-1) (-1) (-1)) 32], split_of (fun q1 => ?_) (fun q1 => ?_), fun _ => ?_⟩
        · have q1 := of_decide_eq_true q1
          obtain ⟨g, off, hp, hg, hcell⟩ := hbl m (by omega)
          refine ⟨⟨by omega, q1⟩, adr_eq hp ⟨bl m, ?_, ?_, H⟩⟩
          · rw [ix1]
            exact (H.touch.cell (p := ⟨g, off + m, none⟩) hg (fun e => e)).trans hcell
          · rw [hinb]
            show bl m = (decide (m < a1n) && bl m)
            rw [decide_eq_true (by omega), Bool.true_and]
        · have q1 := of_decide_eq_false q1
          refine ⟨?_, H⟩
          rw [hinb]
          show false = (decide (m < a1n) && bl m)
          rw [decide_eq_false (by omega), Bool.false_and]
        · rintro t C ⟨rfl, H⟩
          refine ⟨fun last' D => last' = (lastReg inb (m + 1) : Nat) ∧ St w2 No D [winA b w, sl 3 1 (.slice cp (chainL inb m).length cc) (chainL inb m).length (natV (chainL inb m)), sl 3 1 (.slice fp (freeL inb m).length fc) (freeL inb m).length (natV (freeL inb m)), blk k (entryC 0 (srcI inb m) (-1) (dstI inb m)) 32], split_of (fun q1 => ?_) (fun q1 => ?_), fun _ => ?_⟩
          · rintro z3 rfl vs2 rfl
            rw [w64 (e := 40 + (m : Int)) (by omega) (by omega)]
            refine H.sts0 3 rfl rfl rfl (by intro v hv; simp at hv; rcases hv with rfl | rfl | rfl | rfl <;> rfl) fun D H => ?_
            rintro z4 rfl
            have e1 : srcI inb m = (lastReg inb m : Nat) := by unfold srcI; rw [if_pos q1]
            have e2 : dstI inb m = 40 + (m : Int) := by unfold dstI; rw [if_pos q1]; omega
            refine ⟨by unfold lastReg; rw [if_pos q1]; omega, ?_⟩
            rw [e1, e2]
            exact H
          · have e1 : srcI inb m = -1 := by unfold srcI; rw [if_neg (by rw [q1]; decide)]
            have e2 : dstI inb m = -1 := by unfold dstI; rw [if_neg (by rw [q1]; decide)]
            refine ⟨by rw [lastReg, if_neg (by rw [q1]; decide)], ?_⟩
            rw [e1, e2]
            exact H
          · rintro last' D ⟨rfl, H⟩
            refine ⟨entryC 0 (srcI inb m) (-1) (dstI inb m), rfl, H.cells 3 rfl, H.call 0 rfl (enter_step hFl (by omega) (by omega) (H.nth 0 rfl)) fun E H => ⟨_, _, rfl, nil_true (split_of (fun q => by cases q) (fun _ => split_of (fun q => by simp at q) (fun _ => ?_)))⟩⟩
            have hF2 := (flow_enter hFl (by omega) (by omega)).2
            have hcl := chain_len inb m
            have hfl := free_len inb m
            refine split_of (fun q1 => ?_) (fun q1 => ?_)
            · refine H.al fun k2 G H => H.app 1 rfl [.int .i64 (m : Nat)] (.inr ⟨_, rfl, fun j u hj => H.cells 4 rfl j u (by simpa using hj)⟩) rfl (by intro u hu; simp at hu; subst hu; rfl) (by have : maxLen = 2 ^ 63 - 1 := rfl; omega) (by omega) fun p2 c2 G H => ?_
              have e1 : (chainL inb m).length + 1 = (chainL inb (m + 1)).length := by rw [chain_succ, if_pos q1]; simp
              have e2 : natV (chainL inb m) ++ [Value.int .i64 (m : Nat)] = natV (chainL inb (m + 1)) := by rw [chain_succ, if_pos q1]; simp [natV]
              have e3 : freeL inb (m + 1) = freeL inb m := by rw [free_succ, if_pos q1]
              refine ⟨_, rfl, hF2, e1, by rw [e3], ?_⟩
              rw [e1, e2] at H
              rw [e3]
              exact H.take 3
            · have q1' : ¬ inb m = true := by rw [q1]; decide
              refine H.al fun k2 G H => H.app 2 rfl [.int .i64 (m : Nat)] (.inr ⟨_, rfl, fun j u hj => H.cells 4 rfl j u (by simpa using hj)⟩) rfl (by intro u hu; simp at hu; subst hu; rfl) (by have : maxLen = 2 ^ 63 - 1 := rfl; omega) (by omega) fun p2 c2 G H => ?_
              have e1 : (freeL inb m).length + 1 = (freeL inb (m + 1)).length := by rw [free_succ, if_neg q1']; simp
              have e2 : natV (freeL inb m) ++ [Value.int .i64 (m : Nat)] = natV (freeL inb (m + 1)) := by rw [free_succ, if_neg q1']; simp [natV]
              have e3 : chainL inb (m + 1) = chainL inb m := by rw [chain_succ, if_neg q1']
              refine ⟨_, rfl, hF2, by rw [e3], e1, ?_⟩
              rw [e1, e2] at H
              rw [e3]
              exact H.take 3
      · rintro last' cp' cn' cc' fp' fn' fc' B ⟨w', rfl, hF', rfl, rfl, HW'⟩
        rintro z6 rfl
        rw [w64 (by omega) (by omega)]
        exact ⟨⟨m + 1, w', by omega, by omega, rfl, hF', rfl, rfl, HW'⟩, by show S - ((m : Int) + 1).toNat < S - (m : Int).toNat; omega⟩
    · have q := of_decide_eq_false q
      obtain rfl : m = S := by omega
      exact ⟨w, hFl, rfl, rfl, HW⟩
  · clear H hWI
    rintro fp fn fc cp cn cc A ⟨w, hFl, rfl, rfl, HW⟩
    have H : St w2 No A [winA b w, sl 3 1 (.slice cp (chainL inb S).length cc) (chainL inb S).length (natV (chainL inb S)), sl 3 1 (.slice fp (freeL inb S).length fc) (freeL inb S).length (natV (freeL inb S))] := HW
    clear HW
    rintro vs rfl
    refine H.call 0 rfl (enter_full hFl (by omega) (H.nth 0 rfl)) fun B H => ⟨_, _, rfl, H.callq (told_err 4 B (EE H)) fun C H => ⟨_, rfl, ?_⟩⟩
    have hcl := chain_len inb S
    have hfl := free_len inb S
    refine H.calln (ready_any hFl.ok (H.nth 0 rfl) (flow_regs hFl (by omega)) 0 100) fun z D H => ⟨_, _, _, rfl, ?_⟩
    have hlen : (w.readyL 0 100).length = (freeL inb S).length + (if chainL inb S = [] then 0 else 1) := by
      rw [flow_ready hFl (by omega), List.length_map, ← first_ready]
      congr 1
    refine ⟨fun x E => x = ((w.readyL 0 100).length : Nat) ∧ St w2 No E [winA b w, sl 3 1 (.slice cp (chainL inb S).length cc) (chainL inb S).length (natV (chainL inb S)), sl 3 1 (.slice fp (freeL inb S).length fc) (freeL inb S).length (natV (freeL inb S))], split_of (fun q => ?_) (fun q => ⟨?_, H.take 3⟩), fun _ => ?_⟩
    · rintro z9 rfl
      have q := of_decide_eq_true q
      rw [w64 (by omega) (by omega)]
      refine ⟨?_, H.take 3⟩
      rw [hlen, if_neg (fun e => by rw [e] at q; simp at q)]
      omega
    · have q := of_decide_eq_false q
      rw [hlen, if_pos (List.length_eq_zero_iff.1 (by omega))]
      omega
    · rintro x E ⟨rfl, H⟩
      refine split_of (fun q => by simp at q) (fun _ => split_of (fun q => by simp at q) (fun _ => ?_))
      refine ⟨fun A => ∃ w, Flow w S inb S (stC inb []) (fun _ => false) ∧ St w2 No A [winA b w, sl 3 1 (.slice cp (chainL inb S).length cc) (chainL inb S).length (natV (chainL inb S)), sl 3 1 (.slice fp (freeL inb S).length fc) (freeL inb S).length (natV (freeL inb S))],
        ⟨fun x A => ∃ (j : Nat) (w : WS), x = j ∧ j ≤ (freeL inb S).length ∧ Flow w S inb S (fun k => if k ∈ (freeL inb S).take j then 1 else 0) (fun _ => false) ∧ St w2 No A [winA b w, sl 3 1 (.slice cp (chainL inb S).length cc) (chainL inb S).length (natV (chainL inb S)), sl 3 1 (.slice fp (freeL inb S).length fc) (freeL inb S).length (natV (freeL inb S))], fun x _ => (freeL inb S).length - x.toNat, ⟨0, w, rfl, Nat.zero_le _, flow_congr hFl (fun k _ => by simp), H⟩, fun _ => ?_⟩, fun _ => ?_⟩
      · clear H hlen
        rintro x A ⟨j, w, rfl, hj, hFl, H⟩
        refine split_of (fun q => ?_) (fun q => ?_)
        · have q := of_decide_eq_true q
          have hjl : j < (freeL inb S).length := by omega
          obtain ⟨g, off, hp, hcell⟩ := nat_cell (H.nth 2 rfl) hjl
          have hmem : (freeL inb S)[j] ∈ freeL inb S := List.getElem_mem _
          obtain ⟨hkS, hki⟩ := mem_free.1 hmem
          refine ⟨⟨by omega, q⟩, adr_eq hp ⟨_, by rw [ix1]; exact hcell, (issue_any hFl.ok (H.nth 0 rfl) (flow_regs hFl (by omega)) _).mono ?_⟩⟩
          intro e B hpp
          have hnd : (freeL inb S).Nodup := List.Nodup.sublist List.filter_sublist List.nodup_range
          have hnot : (freeL inb S)[j] ∉ (freeL inb S).take j := by
            intro hm
            obtain ⟨i, hi, e⟩ := List.getElem_of_mem hm
            rw [List.getElem_take] at e
            rw [List.length_take] at hi
            exact List.pairwise_iff_getElem.1 hnd i j (by omega) hjl (by omega) e
          have hst : (fun k => if k ∈ (freeL inb S).take j then 1 else 0) (freeL inb S)[j] = 0 := if_neg hnot
          obtain ⟨rfl, hP⟩ := turn_step hFl hkS (by omega) hst (fun _ => ⟨hst, by unfold fed; rw [hki]; rfl⟩) hpp
          have H := H.upd 0 rfl hP
          refine ⟨_, rfl, nil_true (split_of (fun q => by cases q) (fun _ => ?_))⟩
          rintro z11 rfl
          have hfl := free_len inb S
          rw [w64 (by omega) (by omega)]
          refine ⟨⟨j + 1, _, by omega, by omega, flow_congr (flow_turned hFl hkS (Nat.le_refl _) (to := 1) (by decide)) (fun k _ => ?_), H⟩, by show (freeL inb S).length - ((j : Int) + 1).toNat < (freeL inb S).length - (j : Int).toNat; omega⟩
          rw [List.take_add_one, List.getElem?_eq_getElem hjl]
          show (if k = (freeL inb S)[j] then 1 else if k ∈ (freeL inb S).take j then 1 else 0) = if k ∈ (freeL inb S).take j ++ [(freeL inb S)[j]] then 1 else 0
          by_cases ek : k = (freeL inb S)[j]
          · rw [if_pos ek, if_pos (List.mem_append.2 (.inr (List.mem_singleton.2 ek)))]
          · rw [if_neg ek]
            by_cases em : k ∈ (freeL inb S).take j
            · rw [if_pos em, if_pos (List.mem_append.2 (.inl em))]
            · rw [if_neg em, if_neg (fun e => (List.mem_append.1 e).elim em (fun e => ek (List.mem_singleton.1 e)))]
        · have q := of_decide_eq_false q
          obtain rfl : j = (freeL inb S).length := by omega
          refine ⟨w, flow_congr hFl (fun k hk => ?_), H⟩
          rw [List.take_length]
          unfold stC
          cases hi : inb k <;> simp [mem_free, hi, hk]
      · clear H hlen
        rintro A ⟨w, hFl, H⟩
        refine ⟨fun A => ∃ w, Flow w S inb S (stC inb (chainL inb S)) (fun k => decide (k ∈ chainL inb S)) ∧ St w2 No A [winA b w, sl 3 1 (.slice cp (chainL inb S).length cc) (chainL inb S).length (natV (chainL inb S)), sl 3 1 (.slice fp (freeL inb S).length fc) (freeL inb S).length (natV (freeL inb S))],
          ⟨fun x A => ∃ (j : Nat) (w : WS), x = j ∧ j ≤ (chainL inb S).length ∧ Flow w S inb S (stC inb ((chainL inb S).take j)) (fun k => decide (k ∈ (chainL inb S).take j)) ∧ St w2 No A [winA b w, sl 3 1 (.slice cp (chainL inb S).length cc) (chainL inb S).length (natV (chainL inb S)), sl 3 1 (.slice fp (freeL inb S).length fc) (freeL inb S).length (natV (freeL inb S))], fun x _ => (chainL inb S).length - x.toNat, ⟨0, w, rfl, Nat.zero_le _, flow_wk hFl (fun k => by simp), H⟩, fun _ => ?_⟩, fun _ => ?_⟩
        · clear H
          rintro x A ⟨j, w, rfl, hj, hFl, H⟩
          refine split_of (fun q => ?_) (fun q => ?_)
          · have q := of_decide_eq_true q
            have hjl : j < (chainL inb S).length := by omega
            have hS64 : S ≤ 64 := by omega
            obtain ⟨hcS, hci, hrd, hst0, hfed⟩ := chain_go hS64 hjl hFl
            have hwent := chain_went hS64 hjl hFl
            obtain ⟨c, hc⟩ : ∃ c, c = (chainL inb S)[j] := ⟨_, rfl⟩
            rw [← hc] at hcS hci hrd hst0 hfed hwent
            refine H.calln (ready_any hFl.ok (H.nth 0 rfl) (flow_regs hFl hS64) 0 100) fun z B H => ⟨_, _, _, rfl, ?_⟩
            rw [hrd] at H ⊢
            refine split_of (fun q2 => by simp at q2) (fun _ => ⟨by simp, ?_⟩)
            obtain ⟨g1, o1, hp1, hcell1⟩ := int_cell (H.nth 3 rfl) (j := 0) (by simp)
            have hcl : ∀ (C : World), St w2 No C [winA b w, sl 3 1 (.slice cp (chainL inb S).length cc) (chainL inb S).length (natV (chainL inb S)), sl 3 1 (.slice fp (freeL inb S).length fc) (freeL inb S).length (natV (freeL inb S))] → ∀ {f : Nat → Nat → Prop}, (∀ g off, C.cell? ⟨g, off + (j : Int).toNat * 1, none⟩ = some (.int .i64 (c : Nat)) → f g off) → Sx.adr cp f := by
              intro C HC f hf
              obtain ⟨g, off, hp, hcell⟩ := nat_cell (HC.nth 1 rfl) hjl
              exact adr_eq hp (hf g off (by rw [ix1, hc]; exact hcell))
            refine adr_eq hp1 ⟨_, hcell1, ⟨by omega, q⟩, ?_⟩
            have H := H.take 3
            refine hcl B H fun g off hcell => ⟨_, hcell, ?_⟩
            refine H.drN fun C H => ?_
            refine split_of (fun q2 => by simp at q2) (fun _ => ⟨⟨by omega, q⟩, ?_⟩)
            refine hcl C H fun g off hcell => ⟨_, hcell, ?_⟩
            refine (issue_any hFl.ok (H.nth 0 rfl) (flow_regs hFl hS64) _).mono ?_
            intro e D hpp
            obtain ⟨rfl, hP⟩ := turn_step hFl hcS hS64 hst0 (fun _ => ⟨hst0, hfed⟩) hpp
            have H := H.upd 0 rfl hP
            have hF1 := flow_turned hFl hcS (Nat.le_refl _) (to := 1) (by decide)
            refine ⟨_, rfl, ⟨by omega, q⟩, ?_⟩
            have hcl1 : ∀ (C : World) (w : WS), St w2 No C [winA b w, sl 3 1 (.slice cp (chainL inb S).length cc) (chainL inb S).length (natV (chainL inb S)), sl 3 1 (.slice fp (freeL inb S).length fc) (freeL inb S).length (natV (freeL inb S))] → ∀ {f : Nat → Nat → Prop}, (∀ g off, C.cell? ⟨g, off + (j : Int).toNat * 1, none⟩ = some (.int .i64 (c : Nat)) → f g off) → Sx.adr cp f := by
              intro C w HC f hf
              obtain ⟨g, off, hp, hcell⟩ := nat_cell (HC.nth 1 rfl) hjl
              exact adr_eq hp (hf g off (by rw [ix1, hc]; exact hcell))
            refine hcl1 D _ H fun g off hcell => ⟨_, hcell, ?_⟩
            refine (done_any hF1.ok (H.nth 0 rfl) (flow_regs hF1 hS64) _).mono ?_
            intro e E hpp
            obtain ⟨rfl, hP⟩ := turn_step hF1 hcS hS64 (a := 1) (by show (if c = c then 1 else _) = 1; rw [if_pos rfl]) (fun e => absurd e (by decide)) hpp
            have H := H.upd 0 rfl hP
            have hF2 := flow_turned hF1 hcS (Nat.le_refl _) (to := 2) (by decide)
            refine ⟨_, rfl, ⟨by omega, q⟩, ?_⟩
            refine hcl1 E _ H fun g off hcell => ⟨_, hcell, ?_⟩
            rintro z17 rfl
            rw [w64 (e := 40 + ((c : Nat) : Int)) (by omega) (by omega), show 40 + ((c : Nat) : Int) = ((40 + c : Nat) : Int) by omega]
            refine H.call 0 rfl (wake_good hF2.ok (H.nth 0 rfl) (40 + c) (by have := hF2.r; omega)) fun F H => ⟨_, rfl, nil_true (split_of (fun q => by cases q) (fun _ => nil_true (split_of (fun q => by cases q) (fun _ => nil_true (split_of (fun q => by cases q) (fun _ => ?_))))))⟩
            rintro z18 rfl
            have hcn := chain_len inb S
            rw [w64 (by omega) (by omega)]
            exact ⟨⟨j + 1, _, by omega, by omega, hwent, H⟩, by show (chainL inb S).length - ((j : Int) + 1).toNat < (chainL inb S).length - (j : Int).toNat; omega⟩
          · have q := of_decide_eq_false q
            obtain rfl : j = (chainL inb S).length := by omega
            rw [List.take_length] at hFl
            exact ⟨w, hFl, H⟩
        · clear H
          rintro A ⟨w, hFl, H⟩
          have hfn := free_len inb S
          refine ⟨fun A => ∃ w, Ret w S 0 ∧ St w2 No A [winA b w], ?_, fun _ => ?_⟩
          · rintro z19 rfl
            rw [w64 (by omega) (by omega)]
            refine ⟨fun x A => ∃ (j : Nat) (w : WS), x = (j : Int) - 1 ∧ j ≤ (freeL inb S).length ∧ Flow w S inb S (stD inb S j) (fun k => decide (k ∈ chainL inb S)) ∧ St w2 No A [winA b w, sl 3 1 (.slice cp (chainL inb S).length cc) (chainL inb S).length (natV (chainL inb S)), sl 3 1 (.slice fp (freeL inb S).length fc) (freeL inb S).length (natV (freeL inb S))], fun x _ => (x + 1).toNat, ⟨_, w, rfl, Nat.le_refl _, done_start hFl, H⟩, fun _ => ?_⟩
            clear H
            rintro x A ⟨j, w, rfl, hj, hFl, H⟩
            refine split_of (fun q => ?_) (fun q => ?_)
            · have q := of_decide_eq_true q
              obtain ⟨i, rfl⟩ : ∃ i, j = i + 1 := ⟨j - 1, by omega⟩
              have hil : i < (freeL inb S).length := by omega
              obtain ⟨h1, h2, h3⟩ := done_step hil hFl
              obtain ⟨g, off, hp, hcell⟩ := nat_cell (H.nth 2 rfl) hil
              have ei : ((i + 1 : Nat) : Int) - 1 = (i : Nat) := by omega
              rw [ei]
              refine ⟨⟨by omega, by omega⟩, adr_eq hp ⟨_, by rw [ix1]; exact hcell, (done_any hFl.ok (H.nth 0 rfl) (flow_regs hFl (by omega)) _).mono ?_⟩⟩
              intro e B hpp
              obtain ⟨rfl, hP⟩ := turn_step hFl h1 (by omega) h2 (fun e => absurd e (by decide)) hpp
              have H := H.upd 0 rfl hP
              refine ⟨_, rfl, nil_true (split_of (fun q => by cases q) (fun _ => ?_))⟩
              rintro z21 rfl
              rw [w64 (by omega) (by omega)]
              exact ⟨⟨i, _, rfl, by omega, h3, H⟩, by show ((i : Int) - 1 + 1).toNat < ((i : Int) + 1).toNat; omega⟩
            · have q := of_decide_eq_false q
              obtain rfl : j = 0 := by omega
              exact ⟨w, done_end hFl, H.take 1⟩
          · clear H
            rintro A ⟨w, hR, H⟩
            refine ⟨fun A => ∃ w, Ret w S S ∧ St w2 No A [winA b w],
              ⟨fun x A => ∃ (j : Nat) (w : WS), x = j ∧ j ≤ S ∧ Ret w S j ∧ St w2 No A [winA b w], fun x _ => S - x.toNat, ⟨0, w, rfl, Nat.zero_le _, hR, H⟩, fun _ => ?_⟩, fun _ => ?_⟩
            · clear H
              rintro x A ⟨j, w, rfl, hj, hR, H⟩
              refine split_of (fun q => ?_) (fun q => ?_)
              · have q := of_decide_eq_true q
                obtain ⟨h1, h2, h3⟩ := ret_step hR (by omega)
                refine (retire_any hR.ok (H.nth 0 rfl)).mono ?_
                intro e B hpp
                unfold RetirePost at hpp
                rw [if_pos h1, h2] at hpp
                obtain ⟨rfl, hP⟩ := hpp
                have H := H.upd 0 rfl hP
                refine ⟨_, _, rfl, nil_true (split_of (fun q => by cases q) (fun _ => split_of (fun q => by simp at q) (fun _ => ?_)))⟩
                rintro z23 rfl
                rw [w64 (by omega) (by omega)]
                exact ⟨⟨j + 1, _, by omega, by omega, h3, H⟩, by show S - ((j : Int) + 1).toNat < S - (j : Int).toNat; omega⟩
              · have q := of_decide_eq_false q
                rw [show j = S by omega] at hR
                exact ⟨w, hR, H⟩
            · clear H
              rintro A ⟨w, hR, H⟩
              refine (wlen_any (H.nth 0 rfl)).mono ?_
              rintro e B ⟨rfl, rfl⟩
              refine ⟨_, rfl, ?_, H.touch⟩
              rw [hR.n, Nat.sub_self]; rfl
end Go.Proofs.YtdliholhfiihcaaDoor
