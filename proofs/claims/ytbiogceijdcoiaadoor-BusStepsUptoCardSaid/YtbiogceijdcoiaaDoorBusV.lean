/- The document's bus, part V: New. No condition. -/
import Derived.Test.YtbiogceijdcoiaaDoorBusU
import Derived.Test.YtbiogceijdcoiaaDoorBusH
namespace Go.Proofs.YtbiogceijdcoiaaDoor
open Go.RowKit Go.XHeap Go.Sx Go.Sep
set_option linter.unusedVariables false
set_option maxRecDepth 100000
variable {W w : World} {b m : Nat} {P P' : RP} {S S' : PB} {L : List Asn}
def IntsAt (w : World) (p : Option Addr) (l : List Int) : Prop := ∀ i x, l[i]? = some x → ∃ g off, p = some ⟨g, off, none⟩ ∧ g < w.heap.size ∧ w.cell? ⟨g, off + i, none⟩ = some (.int .i64 x)
theorem IntsAt.keep {p : Option Addr} {l : List Int} (h : IntsAt W p l) (ht : Hush W w) : IntsAt w p l := fun i x hx => by
  obtain ⟨g, off, e, hg, hc⟩ := h i x hx
  exact ⟨g, off, e, Nat.lt_of_lt_of_le hg ht.size, (ht.cell (p := ⟨g, off + i, none⟩) hg (fun e => e)).trans hc⟩
theorem BytesAt.keep {p : Option Addr} {l : List Nat} (h : BytesAt W p l) (ht : Hush W w) : BytesAt w p l := fun i x hx => by
  obtain ⟨g, off, e, hg, hc⟩ := h i x hx
  exact ⟨g, off, e, Nat.lt_of_lt_of_le hg ht.size, (ht.cell (p := ⟨g, off + i, none⟩) hg (fun e => e)).trans hc⟩
def RP.root0 (p : Option Addr) (n c : Nat) (cyc : Int) (kb nl : Nat) : Array Value := #[.slice p n c, .int .i64 cyc, .slice none 0 0, .slice (some ⟨kb, 0, none⟩) nl nl, .int .i64 ((nl : Int) - 1), .int .i64 (-1), .int .i64 0]
theorem rbnew_any {p1 p2 dp : Option Addr} {l : List (Int × Int)} {c1 c2 dc : Nat} {cyc : Int} {data : List Nat} (h1 : IntsAt W p1 (l.map (·.1))) (h2 : IntsAt W p2 (l.map (·.2))) (hD : BytesAt W dp data) (hdp : dp = none ∨ ∃ g off, dp = some ⟨g, off, none⟩) :
    Calls Tryd.prog 23 #[.slice p1 l.length c1, .slice p2 l.length c2, .int .i64 cyc, .slice dp data.length dc] W fun e w =>
      (cfgBad l cyc ∧ e = .returned (.tuple #[.pointer none, .int .i64 2]) ∧ Hush W w) ∨ (¬ cfgBad l cyc ∧ (data.length % 16 ≠ 0 ∨ data.length > 4096) ∧ e = .returned (.tuple #[.pointer none, .int .i64 1]) ∧ Hush W w) ∨
      (¬ cfgBad l cyc ∧ ¬ (data.length % 16 ≠ 0 ∨ data.length > 4096) ∧ ∃ b : Nat, e = .returned (.tuple #[.pointer (some ⟨b, 0, none⟩), .int .i64 0]) ∧ ∀ S : PB, S.Fresh l cyc data → ∃ P : RP, P.Ok S ∧ Sep.Post emp W (rbusA b P S) w) := by
  have bad : ∀ {w : World} {R : Prop}, cfgBad l cyc → Hush W w → (cfgBad l cyc ∧ Ending.returned (.tuple #[.pointer none, .int .i64 2]) = .returned (.tuple #[.pointer none, .int .i64 2]) ∧ Hush W w) ∨ R := fun h1 h2 => .inl ⟨h1, rfl, h2⟩
  refine vc23 p1 l.length c1 p2 l.length c2 cyc dp data.length dc (split_of (fun q => bad (.inl (by have := of_decide_eq_true q; omega)) (XTouch.refl _ _)) (fun q1 => split_of (fun q => bad (.inr (.inl (by have := of_decide_eq_true q; omega))) (XTouch.refl _ _)) (fun q2 =>
    split_of (fun q => bad (.inr (.inr (.inl (of_decide_eq_true q)))) (XTouch.refl _ _)) (fun q3 => split_of (fun q => bad (.inr (.inr (.inr (.inl (of_decide_eq_true q))))) (XTouch.refl _ _)) (fun q4 => ?_)))))
  have q1 := of_decide_eq_false q1
  have q2 := of_decide_eq_false q2
  have q3 := of_decide_eq_false q3
  have q4 := of_decide_eq_false q4
  refine ⟨⟨by omega, by omega, by omega, by omega⟩, (St.nil W).al fun kb w2 H => ?_⟩
  rintro z rfl vs rfl
  rw [w64 (by omega) (by omega)]
  refine H.al fun k2 w3 H => ?_
  have em : madeCells #[.bool false, .int .i64 0, .bool false] (((l.length : Nat) : Int).toNat * 3) = rows askC (List.replicate l.length none) := by
    rw [Int.toNat_natCast]
    exact rows_made (f := askC) (x0 := none) (n := 3) rfl (by omega) l.length
  have H : St W (fun _ => False) w3 [blk kb (madeCells #[.bool false, .int .i64 0, .bool false] (((l.length : Nat) : Int).toNat * 3)) 71, blk k2 (RP.root0 none 0 0 cyc kb l.length) 75] := H
  rw [em] at H
  refine ⟨fun x w => ∃ (j : Nat) (gs : List Nat) (Rs : List RC) (p2 : Option Addr) (c2 : Nat), x = j ∧ j ≤ l.length ∧ gs.length = j ∧ Rs.length = j ∧ (∀ (k : Nat) (x : Int × Int), k < j → l[k]? = some x → shapeOk x.1 x.2 ∧ Rs.getD k noRC = freshR x.1.toNat x.2.toNat) ∧
      St W (fun _ => False) w [blk kb (rows askC (List.replicate l.length none)) 71, blk k2 (RP.root0 p2 j c2 cyc kb l.length) 75, sl 86 1 (.slice p2 j c2) j (gs.map fun g => .pointer (some ⟨g, 0, none⟩)), all (List.zipWith refcA gs Rs)],
    fun x _ => l.length - x.toNat, ⟨0, [], [], none, 0, rfl, Nat.zero_le _, rfl, rfl, fun k x hk => by omega, ?_⟩, fun _ => ?_⟩
  · have H := H.add (A := sl 86 1 (.slice none 0 0) 0 []) ⟨Sl.nil _ _ _, XTouch.refl _ _, fun q e => by cases e⟩
    exact H.add (A := all []) ⟨trivial, XTouch.refl _ _, fun q e => e.elim⟩
  clear H
  rintro x w4 ⟨j, gs, Rs, p3, c3, rfl, hj, hgs, hRs, hfr, H⟩
  refine split_of (fun q => ?_) (fun q => ?_)
  · have q := of_decide_eq_true q
    have hjl : j < l.length := by omega
    obtain ⟨x, hx⟩ : ∃ x, l[j]? = some x := ⟨_, List.getElem?_eq_getElem hjl⟩
    refine ⟨fun z p w => z = (if shapeOk x.1 x.2 then 0 else 2) ∧ (¬ shapeOk x.1 x.2 → Hush W w) ∧ (shapeOk x.1 x.2 → ∃ g : Nat, p = some ⟨g, 0, none⟩ ∧ St W (fun _ => False) w [blk kb (rows askC (List.replicate l.length none)) 71, blk k2 (RP.root0 p3 j c3 cyc kb l.length) 75, sl 86 1 (.slice p3 j c3) j (gs.map fun g => .pointer (some ⟨g, 0, none⟩)), all (List.zipWith refcA gs Rs), refcA g (freshR x.1.toNat x.2.toNat)]), H.dr fun w5 H => ?_, fun _ => ?_⟩
    · obtain ⟨g1, o1, e1, hg1, hc1⟩ := h1 j x.1 (by rw [List.getElem?_map, hx]; rfl)
      obtain ⟨g2, o2, e2, hg2, hc2⟩ := h2 j x.2 (by rw [List.getElem?_map, hx]; rfl)
      refine ⟨⟨by omega, q⟩, adr_eq e1 ⟨⟨by omega, q⟩, adr_eq e2 ⟨x.1, ?_, x.2, ?_, ?_⟩⟩⟩
      · rw [ix1]; exact (H.touch.cell (p := ⟨g1, o1 + j, none⟩) hg1 (fun e => e)).trans hc1
      · rw [ix1]; exact (H.touch.cell (p := ⟨g2, o2 + j, none⟩) hg2 (fun e => e)).trans hc2
      by_cases hsh : shapeOk x.1 x.2
      · have hsh0 := hsh
        obtain ⟨s1, s2, s3⟩ := hsh0
        obtain ⟨S1, hS1⟩ : ∃ k : Nat, x.1 = k := ⟨x.1.toNat, by omega⟩
        obtain ⟨N1, hN1⟩ : ∃ k : Nat, x.2 = k := ⟨x.2.toNat, by omega⟩
        have hcn := rnew_good w5 S1 N1 (by rw [← hS1, ← hN1]; exact hsh)
        rw [← hS1, ← hN1] at hcn
        refine H.calln hcn fun g w6 H => ⟨_, _, rfl, by rw [if_pos hsh], fun h => absurd hsh h, fun _ => ⟨g, rfl, ?_⟩⟩
        rw [hS1, hN1, Int.toNat_natCast, Int.toNat_natCast]
        exact H
      · refine (rnew_bad w5 x.1 x.2 hsh).mono ?_
        rintro e w6 ⟨rfl, hh⟩
        exact ⟨_, _, rfl, by rw [if_neg hsh], fun _ => (H.quiet hh).touch, fun h => absurd h hsh⟩
    clear H
    rintro z4 p w7 ⟨rfl, hbad, hgood⟩
    by_cases hsh : shapeOk x.1 x.2
    rotate_left
    · rw [if_neg hsh]
      exact split_of (fun _ => bad (.inr (.inr (.inr (.inr ⟨x, List.mem_of_getElem? hx, hsh⟩)))) (hbad hsh)) (fun q => by cases q)
    rw [if_pos hsh]
    obtain ⟨g, rfl, H⟩ := hgood hsh
    refine split_of (fun q => by cases q) (fun _ => ⟨_, _, _, H.ld 1 rfl rfl, H.al fun k9 w8 H => ?_⟩)
    refine H.app 2 (m := 1) (bytes := 8) rfl [.pointer (some ⟨g, 0, none⟩)] (.inr ⟨_, rfl, fun i u hi => H.cells 5 rfl i u (by simpa using hi)⟩) rfl (by intro u hu; simp at hu; subst hu; rfl) (by have : maxLen = 2 ^ 63 - 1 := rfl; omega) (by omega) fun p4 c4 w9 H => H.st 1 rfl (by show 0 < 7; decide) fun w10 H => ?_
    rintro z2 rfl
    rw [w64 (by omega) (by omega)]
    refine ⟨⟨j + 1, gs ++ [g], Rs ++ [freshR x.1.toNat x.2.toNat], p4, c4, by omega, by omega, by simp [hgs], by simp [hRs], fun k x2 hk hx2 => ?_, ?_⟩, by show l.length - ((j : Int) + 1).toNat < l.length - (j : Int).toNat; omega⟩
    · by_cases e : k = j
      · subst e
        rw [hx] at hx2
        cases hx2
        refine ⟨hsh, ?_⟩
        rw [List.getD_eq_getElem?_getD, List.getElem?_append_right (by omega), hRs, Nat.sub_self]
        rfl
      · have := hfr k x2 (by omega) hx2
        rw [List.getD_eq_getElem?_getD, List.getElem?_append_left (by omega), ← List.getD_eq_getElem?_getD]
        exact this
    · have H : St W (fun _ => False) w10 [blk kb (rows askC (List.replicate l.length none)) 71, blk k2 (RP.root0 p4 (j + 1) c4 cyc kb l.length) 75, sl 86 1 (.slice p4 (j + 1) c4) (j + 1) ((gs.map fun g => .pointer (some ⟨g, 0, none⟩)) ++ [.pointer (some ⟨g, 0, none⟩)]), all (List.zipWith refcA gs Rs), refcA g (freshR x.1.toNat x.2.toNat), blk k9 #[.pointer (some ⟨g, 0, none⟩)] 86] := H
      have H := (H.pick [3, 4, 0, 1, 2]).push
      have H := H.pick [1, 2, 3, 0]
      have e1 : List.zipWith refcA gs Rs ++ [refcA g (freshR x.1.toNat x.2.toNat)] = List.zipWith refcA (gs ++ [g]) (Rs ++ [freshR x.1.toNat x.2.toNat]) := by rw [List.zipWith_append (by omega)]; rfl
      have e2 : (gs.map fun g => Value.pointer (some ⟨g, 0, none⟩)) ++ [.pointer (some ⟨g, 0, none⟩)] = (gs ++ [g]).map fun g => Value.pointer (some ⟨g, 0, none⟩) := by simp
      have H : St W (fun _ => False) w10 [blk kb (rows askC (List.replicate l.length none)) 71, blk k2 (RP.root0 p4 (j + 1) c4 cyc kb l.length) 75, sl 86 1 (.slice p4 (j + 1) c4) (j + 1) ((gs.map fun g => .pointer (some ⟨g, 0, none⟩)) ++ [.pointer (some ⟨g, 0, none⟩)]), all (List.zipWith refcA gs Rs ++ [refcA g (freshR x.1.toNat x.2.toNat)])] := H
      rw [e1, e2] at H
      exact H
  · have q := of_decide_eq_false q
    obtain rfl : j = l.length := by omega
    have hgood : ¬ cfgBad l cyc := by
      rintro (h | h | h | h | ⟨x, hx, h⟩)
      · omega
      · omega
      · omega
      · omega
      · obtain ⟨k, hk, e⟩ := List.getElem_of_mem hx
        exact h (hfr k x hk (by rw [List.getElem?_eq_getElem hk, e])).1
    refine ⟨by decide, ?_⟩
    rintro z3 rfl
    have em : Int.tmod (data.length : Int) 16 = ((data.length % 16 : Nat) : Int) := rfl
    refine split_of (fun q5 => .inr (.inl ⟨hgood, .inl ?_, rfl, H.touch⟩)) (fun q5 => split_of (fun q6 => .inr (.inl ⟨hgood, .inr (by have := of_decide_eq_true q6; omega), rfl, H.touch⟩)) (fun q6 => ?_))
    · rw [em] at q5
      intro e
      rw [e] at q5
      cases q5
    · rw [em] at q5
      have q5 : data.length % 16 = 0 := by
        have : ((data.length % 16 : Nat) : Int) = 0 := by simpa using q5
        omega
      have q6 := of_decide_eq_false q6
      have hD4 : BytesAt w4 dp data := hD.keep H.touch
      have H := H.add (A := sl 5 1 (.slice none 0 0) 0 []) ⟨Sl.nil _ _ _, XTouch.refl _ _, fun q e => by cases e⟩
      refine ⟨_, _, _, H.ld 1 rfl rfl, H.app 4 (m := data.length) (bytes := 1) rfl (u8n data) ?_ (by rw [u8n_length, Nat.mul_one]) (u8n_one data) (by have : maxLen = 2 ^ 63 - 1 := rfl; omega) (by omega) fun p5 c5 w5 H => H.st 1 rfl (by show 2 < 7; decide) fun w12 H => ?_⟩
      · rcases hdp with rfl | ⟨g0, off0, rfl⟩
        · refine .inl ⟨?_, rfl⟩
          cases data with
          | nil => rfl
          | cons x r => obtain ⟨g, off, e, -⟩ := hD 0 x rfl; cases e
        · refine .inr ⟨_, rfl, fun i u hu => ?_⟩
          unfold u8n at hu
          rw [List.getElem?_map, Option.map_eq_some_iff] at hu
          obtain ⟨x, hx, rfl⟩ := hu
          obtain ⟨g, off, e, hg, hc⟩ := hD4 i x hx
          cases e
          rw [add_none]
          exact hc
      refine .inr (.inr ⟨hgood, by omega, k2, rfl, fun S hS => ⟨⟨p3, c3, gs, Rs, kb, p5, c5, 0⟩, ⟨by show gs.length = _; rw [hS.n]; exact hgs, by show Rs.length = _; rw [hS.n]; exact hRs, fun k hk => ?_, fun h => absurd hS.now h, by show 0 ≤ 10; omega⟩, ?_⟩⟩)
      · rw [hS.n] at hk
        obtain ⟨x, hx⟩ : ∃ x, l[k]? = some x := ⟨_, List.getElem?_eq_getElem hk⟩
        refine ⟨[], ?_⟩
        show Rel (S.C k) (Rs.getD k noRC) []
        rw [(hfr k x hk hx).2]
        exact rel_fresh (hS.cs k x hx)
      · have H : St W (fun _ => False) w12 [blk kb (rows askC (List.replicate l.length none)) 71, blk k2 #[.slice p3 l.length c3, .int .i64 cyc, .slice p5 (0 + data.length) c5, .slice (some ⟨kb, 0, none⟩) l.length l.length, .int .i64 ((l.length : Int) - 1), .int .i64 (-1), .int .i64 0] 75, sl 86 1 (.slice p3 l.length c3) l.length (gs.map fun g => .pointer (some ⟨g, 0, none⟩)), all (List.zipWith refcA gs Rs), sl 5 1 (.slice p5 (0 + data.length) c5) (0 + data.length) ([] ++ u8n data)] := H
        rw [Nat.zero_add] at H
        have H := H.pick [1, 2, 3, 0, 4]
        have hcy := hS.cyc
        have hln : 1 ≤ l.length := by omega
        have er : RP.root ⟨p3, c3, gs, Rs, kb, p5, c5, 0⟩ S = #[.slice p3 l.length c3, .int .i64 cyc, .slice p5 data.length c5, .slice (some ⟨kb, 0, none⟩) l.length l.length, .int .i64 ((l.length : Int) - 1), .int .i64 (-1), .int .i64 0] := by
          unfold RP.root PB.len nowI
          rw [hS.n, hS.mem, hS.last, hS.now, hcy, show ((l.length - 1 : Nat) : Int) = (l.length : Int) - 1 by omega]
          rfl
        have ea : S.asksL = List.replicate l.length none := by
          unfold PB.asksL
          rw [hS.asks, hS.n]
          apply List.ext_getElem?
          intro i
          rw [List.getElem?_map, List.getElem?_replicate]
          by_cases hi : i < l.length
          · rw [List.getElem?_range hi, if_pos hi]; rfl
          · rw [List.getElem?_eq_none (by simpa using hi), if_neg hi]; rfl
        have e : rbusA k2 ⟨p3, c3, gs, Rs, kb, p5, c5, 0⟩ S = all [blk k2 #[.slice p3 l.length c3, .int .i64 cyc, .slice p5 data.length c5, .slice (some ⟨kb, 0, none⟩) l.length l.length, .int .i64 ((l.length : Int) - 1), .int .i64 (-1), .int .i64 0] 75, sl 86 1 (.slice p3 l.length c3) l.length (gs.map fun g => .pointer (some ⟨g, 0, none⟩)), all (List.zipWith refcA gs Rs), blk kb (rows askC (List.replicate l.length none)) 71, memA p5 c5 data] := by
          unfold rbusA RP.pieces
          rw [er, ea, hS.n, hS.mem]
          rfl
        rw [e]
        have H : St W (fun _ => False) w12 ([blk k2 #[.slice p3 l.length c3, .int .i64 cyc, .slice p5 data.length c5, .slice (some ⟨kb, 0, none⟩) l.length l.length, .int .i64 ((l.length : Int) - 1), .int .i64 (-1), .int .i64 0] 75, sl 86 1 (.slice p3 l.length c3) l.length (gs.map fun g => .pointer (some ⟨g, 0, none⟩)), all (List.zipWith refcA gs Rs), blk kb (rows askC (List.replicate l.length none)) 71, memA p5 c5 data] ++ []) := H
        exact H.shut.new 0 rfl
end Go.Proofs.YtbiogceijdcoiaaDoor
