/- Part T of the proofs over 'predict': the law 'PredictGuesses'. No condition but the tables and the handle of the type 'error'. -/
import Derived.Test.YtgcakilmmeopaaaDoorS
import Derived.Test.YtgcakilmmeopaaaDoorVcH
import Derived.Test.YtgcakilmmeopaaaDoorTold
namespace Go.Proofs.YtgcakilmmeopaaaDoor
open Go.RowKit Go.XHeap Go.Sx Go.Sep
set_option linter.unusedVariables false
set_option maxRecDepth 100000

theorem restoreP {W : World} {b : Nat} {S : PS} {D : Dir} (h : (pgA b S D).at_ W) (hT : Tab W) (hlo : ∀ k, (pgA b S D).own k → 3 ≤ k) (mh mt mv pc : Int) (i : In) (h0 : 0 < i.op) (h1 : i.op < 68) (t : Bool) :
    Calls Tryd.prog 10 #[.pointer (some ⟨b, 0, none⟩), .agg (markW mh mt mv), .int .u32 pc, .agg i.cells, .bool t] W fun e w => e = .returned (.tuple #[]) ∧ Sep.Post (pgA b S D) W (pgA b (S.restored mh mt mv pc i t) D) w := by
  have H : St W (pgA b S D).own W [predA b S, dirA D] := (St.begin h).open_
  refine H.call 0 rfl (restoreG (H.nth 0 rfl) hT (fun k hk => hlo k (.inl hk)) mh mt mv pc i h0 h1 t) fun w' H => ⟨rfl, ?_⟩
  have H : St W (pgA b S D).own w' (all [predA b (S.restored mh mt mv pc i t), dirA D] :: []) := St.shut (L' := []) H
  exact H.post 0 rfl
/-- the caller's script can be read -/
def Ops (W : World) (p : Option Addr) (n : Nat) : Prop := ∀ i, i < n → ∃ g off o, p = some ⟨g, off, none⟩ ∧ g < W.heap.size ∧ o.pc < 4294967296 ∧ cellsAt W ⟨g, off + i * 9, none⟩ (OpS.cells o).toArray
abbrev Mk := Int × Int × Int
def mkC (m : Mk) : List Value := [.int .i64 m.1, .int .i64 m.2.1, .int .u32 m.2.2]
theorem mkC_len (l : List Mk) : ∀ x ∈ l, (mkC x).length = 3 := fun _ _ => rfl
def mslice (p : Option Addr) (n c : Nat) (ms : List Mk) : Asn := sl 37 3 (.slice p n c) n (ms.flatMap mkC)
theorem op_one (o : OpS) : ∀ v ∈ o.cells.toArray.toList, v.oneCell' = true := by
  intro v hv
  simp only [OpS.cells, List.mem_cons, List.not_mem_nil, or_false] at hv
  rcases hv with rfl | rfl | rfl | rfl | rfl | rfl | rfl | rfl | rfl <;> rfl
/-- what stands in the loop: two predictors that do the same, and marks -/
def GI (W : World) (b b2 : Nat) (p : Option Addr) (n c : Nat) (w : World) : Prop := ∃ S D T R ms, Rel S D T R ∧ List.length ms = n ∧ St W No w [pgA b S D, refA b2 R, mslice p n c ms]
theorem guesses_ok {W : World} (hT : Tab W) (h3 : 3 ≤ W.heap.size) (hE : W.cell? ⟨0, 0, none⟩ = some (.iface 122 (.agg #[.pointer (some ⟨3, 26, none⟩)]))) (a0 a1 a2 a3 a4 : Int) (a5 : Option Addr) (a5n a5c : Nat) (hs : Ops W a5 a5n) :
    Calls Tryd.prog 5 #[.int .i64 a0, .int .i64 a1, .int .i64 a2, .int .i64 a3, .int .i64 a4, .slice a5 a5n a5c] W fun e w => e = .returned (.bool true) ∧ Hush W w := by
  have TT : ∀ {w : World} {L : List Asn}, St W No w L → Tab w := fun H => hT.keep H.touch (fun e => e) (fun e => e)
  have EE : ∀ {w : World} {L : List Asn}, St W No w L → w.cell? ⟨0, 0, none⟩ = some (.iface 122 (.agg #[.pointer (some ⟨3, 26, none⟩)])) := fun H => (H.touch.cell (p := ⟨0, 0, none⟩) (by show 0 < W.heap.size; omega) (fun e => e)).trans hE
  have lo : ∀ {w : World} {A : Asn} {L : List Asn}, St W No w (A :: L) → ∀ k, A.own k → 3 ≤ k := fun H k hk => by
    rcases H.mine k (.inl hk) with e | e
    · exact e.elim
    · omega
  refine vc5 a0 a1 a2 a3 a4 a5 a5n a5c ?_
  rintro vs rfl
  refine (St.nil W).al fun k w2 H => H.sts0 0 rfl rfl rfl (by intro v hv; simp at hv; rcases hv with rfl | rfl | rfl | rfl | rfl <;> rfl) fun w3 H => ?_
  have H : St W No w3 [blk k (cfgC a0 a1 a2 a3 a4) 46] := H
  refine ⟨cfgC a0 a1 a2 a3 a4, rfl, H.cells 0 rfl, H.callq (guessing_any _ a0 a1 a2 a3 a4) fun w4 H => ⟨_, rfl, ?_⟩⟩
  by_cases hf : fits a0 a1 a2 a3 a4
  rotate_left
  · -- a make that is refused
    refine H.callq (new_bad _ a0 a1 a2 a3 a4 hf) fun w5 H => ⟨_, _, rfl, cfgC a0 a1 a2 a3 a4, rfl, H.cells 0 rfl, H.callq (rnew_bad _ a0 a1 a2 a3 a4 hf) fun w6 H => ⟨_, _, rfl, ?_⟩⟩
    refine H.callq (told_err 2 w6 (EE H)) fun w7 H => ⟨_, rfl, split_of (fun q => by simp at q) (fun _ => split_of (fun q => by simp at q) (fun _ => ?_))⟩
    refine ⟨fun w => Hush W w, ⟨fun x _ _ _ w => Hush W w, fun _ _ _ _ _ => 0, H.touch, fun _ => ?_⟩, fun _ => ?_⟩
    · intro x x2 k3 k4 w8 hw
      exact split_of (fun _ => split_of (fun _ => split_of (fun q => by simp at q) (fun _ => hw)) (fun _ => hw)) (fun _ => hw)
    · intro w43 hw
      exact ⟨rfl, hw⟩
  obtain ⟨⟨f1, f2⟩, ⟨f3, f4⟩, ⟨f5, -, f6⟩, ⟨f7, f8⟩, f9, f10⟩ := hf
  obtain ⟨κ, rfl⟩ : ∃ n : Nat, a0 = n := ⟨a0.toNat, by omega⟩
  obtain ⟨B, rfl⟩ : ∃ n : Nat, a1 = n := ⟨a1.toNat, by omega⟩
  obtain ⟨h, rfl⟩ : ∃ n : Nat, a2 = n := ⟨a2.toNat, by omega⟩
  obtain ⟨t, rfl⟩ : ∃ n : Nat, a3 = n := ⟨a3.toNat, by omega⟩
  obtain ⟨r, rfl⟩ : ∃ n : Nat, a4 = n := ⟨a4.toNat, by omega⟩
  refine (new_good w4 κ B h t r (by omega) (by omega) (by omega) (by omega) (by omega) (by omega) (by omega)).mono ?_
  rintro e w5 ⟨b, cb, tb, sb, rfl, hP⟩
  have H := H.add hP
  refine ⟨_, _, rfl, cfgC κ B h t r, rfl, H.cells 0 rfl, H.calln (rnew_good w5 κ B h t r (by omega) (by omega) (by omega) (by omega) (by omega) (by omega) (by omega)) fun x w6 H => ⟨_, _, rfl, ?_⟩⟩
  obtain ⟨b2, cb2, tb2, sb2⟩ := x
  refine (told_nil w6).mono ?_
  rintro e w7 ⟨rfl, rfl⟩
  refine ⟨_, rfl, split_of (fun q => by simp at q) (fun _ => split_of (fun q => by simp at q) (fun _ => ?_))⟩
  have hPw := pow_le (show h ≤ 10 by omega)
  have hR : Rel (S0 (D0 κ B cb) h t r tb sb) (D0 κ B cb) (List.replicate (2 ^ t) (0, 0, false)) (R0 κ B h t r cb2 tb2 sb2 (List.replicate (2 ^ B) 1)) := by
    refine ⟨⟨rfl, ?_, rfl, rfl, by simp [R0], by show t ≤ 62; omega, by show (0 : Int) ≤ 0; decide, by show (0 : Int) < 4294967296; decide⟩, ⟨by show B ≤ 10; omega, by show h ≤ B; omega, by simp [R0], by simp [R0], by show t ≤ 8; omega, by simp [R0], by show 1 ≤ r; omega, by show r ≤ 16; omega, by show 0 < r; omega, by show 0 < 2 ^ h; omega, fun x hx => by rw [(List.mem_replicate.1 hx).2]; decide⟩, rfl, rfl, rfl, rfl, rfl, ?_⟩
    · unfold D0
      split
      · exact ⟨by omega, by simp, fun x hx => by rw [(List.mem_replicate.1 hx).2]; decide⟩
      · split
        · exact ⟨by omega, by simp, fun x hx => by rw [(List.mem_replicate.1 hx).2]; decide⟩
        · trivial
    · show (κ = 0 ∧ _) ∨ (κ = 1 ∧ _) ∨ (κ = 2 ∧ _) ∨ (κ = 3 ∧ _)
      have hk : κ = 0 ∨ κ = 1 ∨ κ = 2 ∨ κ = 3 := by omega
      rcases hk with rfl | rfl | rfl | rfl
      · exact .inl ⟨rfl, rfl⟩
      · exact .inr (.inl ⟨rfl, rfl⟩)
      · exact .inr (.inr (.inl ⟨rfl, cb, rfl⟩))
      · exact .inr (.inr (.inr ⟨rfl, cb, rfl⟩))
  have H : St W No w6 [pgA b (S0 (D0 κ B cb) h t r tb sb) (D0 κ B cb), refA b2 (R0 κ B h t r cb2 tb2 sb2 (List.replicate (2 ^ B) 1))] := H.pick [1, 2]
  have H : St W No w6 [pgA b (S0 (D0 κ B cb) h t r tb sb) (D0 κ B cb), refA b2 (R0 κ B h t r cb2 tb2 sb2 (List.replicate (2 ^ B) 1)), mslice none 0 0 []] := H.add ⟨Sl.nil _ _ _, XTouch.refl _ _, fun q hq => by cases hq⟩
  have G0 : GI W b b2 none 0 0 w6 := ⟨_, _, _, _, [], hR, rfl, H⟩
  clear H hR hP
  refine ⟨fun w => Hush W w, ⟨fun x p n c w => ∃ m : Nat, x = m ∧ n ≤ m ∧ m ≤ 4096 ∧ GI W b b2 p n c w, fun x _ _ _ _ => a5n - x.toNat, ⟨0, rfl, by omega, by omega, G0⟩, fun _ => ?_⟩, fun _ => ?_⟩
  rotate_left
  · intro w43 hw
    exact ⟨rfl, hw⟩
  rintro x x2 k3 k4 w8 ⟨m, rfl, hn, hm, S, D, T, R, ms, hR, hms, H⟩
  refine split_of (fun q => split_of (fun q2 => split_of (fun _ => ?_) (fun q => by simp at q)) (fun _ => H.touch)) (fun _ => H.touch)
  have q := of_decide_eq_true q
  have q2 := of_decide_eq_true q2
  obtain ⟨g, off, o, rfl, hg, hpc, hoc⟩ := hs m (by omega)
  have hop := class_op o
  refine ⟨fun p n c w => n ≤ m + 1 ∧ GI W b b2 p n c w, ⟨⟨by omega, q⟩, adr_some ?_⟩, fun _ => ?_⟩
  rotate_left
  · rintro x6 k26 k27 w42 ⟨hn2, hG⟩
    rintro z26 rfl
    rw [w64 (by omega) (by omega)]
    exact ⟨⟨m + 1, by omega, hn2, by omega, hG⟩, by show a5n - ((m : Int) + 1).toNat < a5n - (m : Int).toNat; omega⟩
  rw [show off + ((m : Nat) : Int).toNat * 9 = off + m * 9 by omega]
  refine ⟨o.cells.toArray, rfl, fun i v hv => (H.touch.cell (p := Addr.add ⟨g, off + m * 9, none⟩ i) (by rw [add_none]; exact hg) (fun e => e)).trans (hoc i v hv), H.al fun k7 w9 H => H.sts0 3 rfl rfl rfl (op_one o) fun w10 H => ?_⟩
  refine ⟨o.cells.toArray, rfl, H.cells 3 rfl, H.callq (instr_any _ o) fun w11 H => ⟨_, _, rfl, H.al fun k9 w12 H => H.al fun k10 w13 H => H.sts0 4 rfl rfl rfl (in_one o.I) fun w14 H => H.sts0 5 rfl rfl rfl (j_one o.J) fun w15 H => ?_⟩⟩
  have H : St W No w15 [pgA b S D, refA b2 R, mslice x2 k3 k4 ms, blk k7 o.cells.toArray 55, blk k9 o.I.cells 33, blk k10 o.J.cells 57] := H
  refine ⟨o.kind, H.ld 3 rfl rfl, split_of (fun qk => ?_) (fun qk => ?_)⟩
  · -- a guess
    refine ⟨o.pc, H.ld 3 rfl rfl, o.I.cells, rfl, H.cells 4 rfl, H.call 0 rfl (guessG (H.nth 0 rfl) hR.pg (TT H) (lo H) o.pc hpc o.I hop.2.2.2.2.1 hop.2.2.2.2.2.1) fun w16 H => ⟨_, _, rfl, H.al fun k13 w17 H => H.sts0 6 rfl rfl rfl (mark_one S) fun w18 H => ?_⟩⟩
    refine ⟨o.pc, H.ld 3 rfl rfl, o.J.cells, rfl, H.cells 5 rfl, H.call 1 rfl (rguess_any hR.ok (H.nth 1 rfl) o.pc hpc o.J) fun w19 H => ⟨_, _, rfl, H.al fun k15 w20 H => H.sts0 7 rfl rfl rfl (markW_one _ _ _) fun w21 H => H.dr fun w22 H => ?_⟩⟩
    have hRn := hR.on o.pc o (S.takes D o.pc o.I)
    have ht := hR.takes o.pc o
    rw [← ht] at H
    have em : R.mark = markW S.hist S.top (S.stack.getD S.top 0) := by unfold RS.mark; rw [hR.hist, hR.top, hR.stack]
    rw [em] at H
    refine split_of (fun q => absurd q (by rw [hR.next o.pc o]; simp)) (fun _ => ?_)
    refine ⟨markW S.hist S.top (S.stack.getD S.top 0), rfl, H.cells 6 rfl, markW S.hist S.top (S.stack.getD S.top 0), rfl, H.cells 7 rfl, (mark_any w22 S.hist S.top (S.stack.getD S.top 0)).mono ?_⟩
    rintro e w23 ⟨rfl, hh⟩
    have H := H.quiet hh
    refine ⟨_, rfl, hh.below (Nat.le_refl _) (fun _ e => e.elim), false, fun w => mark_neq _ _ _ _ _ w, split_of (fun q => by cases q) (fun _ => ?_)⟩
    refine ⟨markW S.hist S.top (S.stack.getD S.top 0), rfl, H.cells 6 rfl, rfl, H.al fun k17 w25 H => ?_⟩
    refine H.app 2 rfl (mkC (S.hist, S.top, S.stack.getD S.top 0)) (.inr ⟨_, rfl, fun j u hj => H.cells 8 rfl j u (by simpa [mkC, markW] using hj)⟩) rfl (by
      intro u hu
      simp only [mkC, List.mem_cons, List.not_mem_nil, or_false] at hu
      rcases hu with rfl | rfl | rfl <;> rfl) (by have : maxLen = 2 ^ 63 - 1 := rfl; omega) (by omega) fun p3 k19 w26 H => ?_
    refine ⟨by omega, _, _, _, _, ms ++ [(S.hist, (S.top : Int), S.stack.getD S.top 0)], hRn, by simp [hms], ?_⟩
    have e : (ms ++ [(S.hist, (S.top : Int), S.stack.getD S.top 0)]).flatMap mkC = ms.flatMap mkC ++ mkC (S.hist, (S.top : Int), S.stack.getD S.top 0) := by simp
    unfold mslice
    rw [e]
    exact H.pick [0, 1, 2]
  · -- a mark that is there, or made
    have raw3 : (o.kind == 3) = true → true = decide (o.kind = 3 ∨ o.kind = 4) := fun q3 => by
      have : o.kind = 3 := by simpa using q3
      simp [this]
    have raw4 : (o.kind == 3) = false → (o.kind == 4) = decide (o.kind = 3 ∨ o.kind = 4) := fun q3 => by
      have : ¬ o.kind = 3 := by simpa using q3
      rw [Bool.eq_iff_iff]; simp [this]
    refine ⟨fun x w => w = w15 ∧ x = decide (o.kind = 3 ∨ o.kind = 4), ⟨o.kind, H.ld 3 rfl rfl, split_of (fun q3 => ⟨rfl, raw3 q3⟩) (fun q3 => ⟨o.kind, H.ld 3 rfl rfl, rfl, raw4 q3⟩)⟩, fun _ => ?_⟩
    rintro x3 w27 ⟨rfl, hx3⟩
    refine ⟨fun x w => w = w27 ∧ x = (!x3 && (decide (k3 = 0) || decide (o.a < 0))), split_of (fun q3 => split_of (fun q4 => ⟨rfl, ?_⟩) (fun q4 => ⟨o.a, H.ld 3 rfl rfl, rfl, ?_⟩)) (fun q3 => ⟨rfl, by rw [q3, Bool.false_and]⟩), fun _ => ?_⟩
    · have q4 : k3 = 0 := by have : (k3 : Int) = 0 := by simpa using q4
                             omega
      rw [q3, q4]; rfl
    · have q4 : ¬ k3 = 0 := by have : ¬ (k3 : Int) = 0 := by simpa using q4
                               omega
      rw [q3, decide_eq_false q4, Bool.false_or, Bool.true_and]
    rintro x4 w28 ⟨rfl, hx4⟩
    refine split_of (fun q4 => ⟨by omega, _, _, _, _, ms, hR, hms, H.pick [0, 1, 2]⟩) (fun q4 => ?_)
    rw [q4] at hx4
    refine ⟨o.a, H.ld 3 rfl rfl, o.imm, H.ld 3 rfl rfl, o.to, H.ld 3 rfl rfl, ?_⟩
    rintro vs17 rfl
    refine H.al fun k21 w29 H => H.sts0 6 rfl rfl rfl (markW_one o.a o.imm o.to) fun w30 H => ?_
    refine ⟨fun w => ∃ mk : Mk, St W No w [pgA b S D, refA b2 R, mslice x2 k3 k4 ms, blk k7 o.cells.toArray 55, blk k9 o.I.cells 33, blk k10 o.J.cells 57, blk k21 (markW mk.1 mk.2.1 mk.2.2) 37], split_of (fun q3 => ?_) (fun _ => ⟨(o.a, o.imm, (o.to : Int)), H⟩), fun _ => ?_⟩
    · rw [q3, Bool.true_and] at hx4
      have hk0 : k3 ≠ 0 := fun e => by rw [decide_eq_true e] at hx4; cases hx4
      have ha0 : 0 ≤ o.a := by
        rw [decide_eq_false hk0, Bool.false_or] at hx4
        have := of_decide_eq_false hx4.symm
        omega
      obtain ⟨a, ea⟩ : ∃ n : Nat, o.a = n := ⟨o.a.toNat, by omega⟩
      rintro z14 rfl
      refine ⟨o.a, H.ld 3 rfl rfl, by omega, ?_⟩
      rintro z16 rfl z17 rfl
      rw [ea, Bits.tmod, w64 (e := (k3 : Int) - 1) (by omega) (by omega)]
      have hlt := Nat.mod_lt a (show 0 < k3 by omega)
      have hj : k3 - 1 - a % k3 < ms.length := by omega
      rw [w64 (by omega) (by omega), show ((k3 : Int) - 1 - ((a % k3 : Nat) : Int)) = ((k3 - 1 - a % k3 : Nat) : Int) by omega]
      obtain ⟨g0, g, off, rfl, hc⟩ := sl_elem (H.nth 2 rfl) (mkC_len ms) (List.getElem?_eq_getElem hj) (by decide)
      refine ⟨⟨by omega, by omega⟩, adr_some ?_⟩
      rw [show off + ((k3 - 1 - a % k3 : Nat) : Int).toNat * 3 = off + (k3 - 1 - a % k3) * 3 by omega]
      exact ⟨_, rfl, hc, H.sts0 6 rfl rfl rfl (markW_one _ _ _) fun w31 H => ⟨ms[k3 - 1 - a % k3]'hj, H⟩⟩
    rintro w32 ⟨⟨mh, mt, mv⟩, H⟩
    refine ⟨fun x w => w = w32, ⟨o.kind, H.ld 3 rfl rfl, split_of (fun _ => rfl) (fun _ => ⟨o.kind, H.ld 3 rfl rfl, rfl⟩)⟩, fun _ => ?_⟩
    rintro x5 w33 rfl
    refine split_of (fun _ => ?_) (fun _ => ?_)
    · refine ⟨_, rfl, H.cells 6 rfl, o.pc, H.ld 3 rfl rfl, o.I.cells, rfl, H.cells 4 rfl, o.taken, H.ld 3 rfl rfl, ?_⟩
      refine H.call 0 rfl (restoreP (H.nth 0 rfl) (TT H) (lo H) mh mt mv o.pc o.I hop.2.2.2.2.1 hop.2.2.2.2.2.1 o.taken) fun w34 H => ⟨rfl, H.dr fun w35 H => ?_⟩
      refine ⟨_, rfl, H.cells 6 rfl, o.pc, H.ld 3 rfl rfl, o.J.cells, rfl, H.cells 5 rfl, o.taken, H.ld 3 rfl rfl, (mark_any w35 mh mt mv).mono ?_⟩
      rintro e w36 ⟨rfl, hh⟩
      have H := H.quiet hh
      refine ⟨_, rfl, hh.below (Nat.le_refl _) (fun _ e => e.elim), H.call 1 rfl (rrestore_any hR.ok (H.nth 1 rfl) mh mt mv o.pc o.J o.taken) fun w37 H => ⟨rfl, by omega, _, _, _, _, ms, hR.restored mh mt mv o.pc o o.taken, hms, H.pick [0, 1, 2]⟩⟩
    · refine ⟨_, rfl, H.cells 6 rfl, o.pc, H.ld 3 rfl rfl, o.I.cells, rfl, H.cells 4 rfl, o.taken, H.ld 3 rfl rfl, o.to, H.ld 3 rfl rfl, ?_⟩
      have hmk : S.mask < 4294967296 := by
        have := pow_le (Nat.le_trans hR.ok.hh hR.ok.hB)
        rw [hR.mask]; omega
      refine H.call 0 rfl (learnG (H.nth 0 rfl) hR.pg (TT H) (lo H) mh mt mv hmk o.pc hpc o.I hop.2.2.2.2.1 hop.2.2.2.2.2.1 o.taken o.to) fun w38 H => ⟨rfl, H.dr fun w39 H => ?_⟩
      refine ⟨_, rfl, H.cells 6 rfl, o.pc, H.ld 3 rfl rfl, o.J.cells, rfl, H.cells 5 rfl, o.taken, H.ld 3 rfl rfl, o.to, H.ld 3 rfl rfl, (mark_any w39 mh mt mv).mono ?_⟩
      rintro e w40 ⟨rfl, hh⟩
      have H := H.quiet hh
      refine ⟨_, rfl, hh.below (Nat.le_refl _) (fun _ e => e.elim), H.call 1 rfl (rlearn_any hR.ok (H.nth 1 rfl) mh mt mv o.pc hpc o.J o.taken o.to) fun w41 H => ⟨rfl, by omega, _, _, _, _, ms, hR.learned mh mt o.pc o o.taken o.to, hms, H.pick [0, 1, 2]⟩⟩
end Go.Proofs.YtgcakilmmeopaaaDoor
