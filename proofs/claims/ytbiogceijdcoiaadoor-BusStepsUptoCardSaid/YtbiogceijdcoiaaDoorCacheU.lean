/- The document's cache, part D: Lower, New. No condition. -/
import Derived.Test.YtbiogceijdcoiaaDoorCacheT
namespace Go.Proofs.YtbiogceijdcoiaaDoor
open Go.RowKit Go.XHeap Go.Sx Go.Sep
set_option linter.unusedVariables false
set_option maxRecDepth 100000
variable {W w : World} {b : Nat} {R R' : RC} {L : List Asn}

def RC.lowered (R : RC) (i : Nat) (s : Nat) (p : Option Addr) (c : Nat) : RC := if s = 0 then { R with p := p, c := c, L := R.L.eraseIdx i } else { R with L := R.L.set i { R.lineAt i with state := s } }
def RLowerPost (W : World) (b : Nat) (R : RC) (a : Nat) (s : Int) (e : Ending) (w : World) : Prop :=
  if a % 16 ≠ 0 ∨ s < 0 ∨ s > 2 then e = .returned (.tuple #[.agg zeroR.cells.toArray, .int .i64 3]) ∧ Sep.Post (refcA b R) W (refcA b R) w
  else match R.find a with
    | some i => if ((R.lineAt i).state : Int) ≤ s then e = .returned (.tuple #[.agg zeroR.cells.toArray, .int .i64 7]) ∧ Sep.Post (refcA b R) W (refcA b R) w
      else e = .returned (.tuple #[.agg (R.lineAt i).cells.toArray, .int .i64 0]) ∧ ∃ z : Option Addr × Nat, Sep.Post (refcA b R) W (refcA b (R.lowered i s.toNat z.1 z.2)) w
    | none => e = .returned (.tuple #[.agg zeroR.cells.toArray, .int .i64 7]) ∧ Sep.Post (refcA b R) W (refcA b R) w
theorem low3 {a : Nat} {s : Int} (q : a % 16 ≠ 0 ∨ s < 0 ∨ s > 2) (h : Sep.Post (refcA b R) W (refcA b R) w) : RLowerPost W b R a s (.returned (.tuple #[.agg zeroR.cells.toArray, .int .i64 3])) w := by
  unfold RLowerPost; rw [if_pos q]; exact ⟨rfl, h⟩
theorem low7 {a : Nat} {s : Int} (q : ¬ (a % 16 ≠ 0 ∨ s < 0 ∨ s > 2)) (q2 : ∀ i, R.find a = some i → ((R.lineAt i).state : Int) ≤ s) (h : Sep.Post (refcA b R) W (refcA b R) w) : RLowerPost W b R a s (.returned (.tuple #[.agg zeroR.cells.toArray, .int .i64 7])) w := by
  unfold RLowerPost; rw [if_neg q]
  cases hf : R.find a with
  | none => exact ⟨rfl, h⟩
  | some i => show ite _ _ _; rw [if_pos (q2 i hf)]; exact ⟨rfl, h⟩
theorem low0 {a : Nat} {s : Int} (q : ¬ (a % 16 ≠ 0 ∨ s < 0 ∨ s > 2)) {i : Nat} (q2 : R.find a = some i) (q3 : ¬ ((R.lineAt i).state : Int) ≤ s) (p : Option Addr) (c : Nat) (h : Sep.Post (refcA b R) W (refcA b (R.lowered i s.toNat p c)) w) : RLowerPost W b R a s (.returned (.tuple #[.agg (R.lineAt i).cells.toArray, .int .i64 0])) w := by
  unfold RLowerPost; rw [if_neg q, q2]; show ite _ _ _; rw [if_neg q3]; exact ⟨rfl, (p, c), h⟩
theorem rcells_state (x : RLine) (s : Nat) : ({ x with state := s } : RLine).cells = x.cells.set 1 (.int .i64 s) := rfl
theorem lines_set {L : List RLine} (ho : ∀ x ∈ L, x.Ok) {i : Nat} {x : RLine} (hx : L[i]? = some x) (s : Nat) : (L.flatMap RLine.cells).set (i * 18 + 1) (.int .i64 s) = (L.set i { x with state := s }).flatMap RLine.cells := by
  have h := rows_set (f := RLine.cells) (n := 18) (l := L) (lines18 ho) hx (i := 1) (by decide) (y := { x with state := s }) (v := .int .i64 s) rfl
  have h2 := congrArg Array.toList h
  simpa [rows] using h2
theorem rlower_any {W : World} {b : Nat} {R : RC} (ho : R.Ok) (h : (refcA b R).at_ W) (a : Nat) (ha : a < 4294967296) (s : Int) :
    Calls Tryd.prog 45 #[.pointer (some ⟨b, 0, none⟩), .int .i64 a, .int .i64 s] W (RLowerPost W b R a s) := by
  have hlen := ho.len
  refine vc45 b 0 a s ((St.begin h).al fun k w2 H => ?_)
  have H : St W (refcA b R).own w2 [refcA b R, blk k zeroR.cells.toArray 104] := H
  refine ⟨fun x w => x = decide (a % 16 ≠ 0 ∨ s < 0 ∨ s > 2) ∧ w = w2, ⟨by decide, ?_⟩, fun _ => ?_⟩
  · rintro z rfl
    have e4 : Int.tmod (a : Int) 16 = ((a % 16 : Nat) : Int) := rfl
    rw [e4]
    refine split_of (fun q => ⟨?_, rfl⟩) (fun q => split_of (fun q2 => ⟨?_, rfl⟩) (fun q2 => ⟨?_, rfl⟩))
    · have q : ¬ ((a % 16 : Nat) : Int) = 0 := by simpa using q
      exact (decide_eq_true (.inl (by omega))).symm
    · exact (decide_eq_true (.inr (.inl (of_decide_eq_true q2)))).symm
    · have q : ((a % 16 : Nat) : Int) = 0 := by simpa using q
      have q2 := of_decide_eq_false q2
      exact decide_eq_decide.2 ⟨fun h => .inr (.inr h), fun h => by omega⟩
  rintro x w3 ⟨rfl, rfl⟩
  refine split_of (fun q => ?_) (fun q => ?_)
  · rintro vs rfl
    exact H.sts0 1 rfl rfl rfl (rline_one zeroR) fun w5 H => ⟨_, rfl, H.cells 1 rfl, low3 (of_decide_eq_true q) (H.post 0 rfl)⟩
  have q := of_decide_eq_false q
  refine H.callp (rfind_any ho (H.nth 0 rfl) a ha) ⟨_, rfl, ?_⟩
  have H1 : St W (refcA b R).own w3 (R.pieces b ++ [blk k zeroR.cells.toArray 104]) := H.open_
  refine ⟨fun x w => w = w3 ∧ (x = true → ∀ i, R.find a = some i → ((R.lineAt i).state : Int) ≤ s) ∧ (x = false → ∃ i, R.find a = some i ∧ R.L[i]? = some (R.lineAt i) ∧ ¬ ((R.lineAt i).state : Int) ≤ s), split_of (fun q2 => ?_) (fun q2 => ?_), fun _ => ?_⟩
  · have q2 := of_decide_eq_true q2
    refine ⟨rfl, fun _ i hi => ?_, fun e => by cases e⟩
    rw [hi] at q2
    exact absurd q2 (by show ¬ (i : Int) < 0; omega)
  · have q2 := of_decide_eq_false q2
    cases hf : R.find a with
    | none => rw [hf] at q2; exact absurd (show ixI none < 0 by decide) q2
    | some i =>
      obtain ⟨x, hx, -⟩ := rfind_some hf
      have hil := (List.getElem?_eq_some_iff.1 hx).1
      obtain ⟨g, o, hp, hc⟩ := rline_at ho.line (H1.nth 1 rfl) hx
      refine ⟨_, _, _, H1.ld 0 rfl rfl, ⟨by show (0 : Int) ≤ (i : Int); omega, by show (i : Int) < _; omega⟩, adr_eq hp ⟨x.state, ?_, rfl, fun e j hj => ?_, fun e => ⟨i, rfl, ?_, ?_⟩⟩⟩
      · show w3.cell? ⟨g, o + ((i : Nat) : Int).toNat * 18 + 1, none⟩ = _
        rw [Int.toNat_natCast]; exact cells_at (i := 1) hc rfl
      · cases hj; rw [lineAt_eq hx]; exact of_decide_eq_true e
      · rw [lineAt_eq hx]; exact hx
      · rw [lineAt_eq hx]; exact of_decide_eq_false e
  rintro x w4 ⟨rfl, h7, h0⟩
  refine split_of (fun q2 => ?_) (fun q2 => ?_)
  · rintro vs rfl
    exact H.sts0 1 rfl rfl rfl (rline_one zeroR) fun w5 H => ⟨_, rfl, H.cells 1 rfl, low7 q (h7 q2) (H.post 0 rfl)⟩
  · obtain ⟨i, hf, hx, hst⟩ := h0 q2
    have hil := (List.getElem?_eq_some_iff.1 hx).1
    have hs18 : (R.lineAt i).cells.toArray.size = 18 := by
      have := lines18 ho.line _ (List.mem_of_getElem? hx)
      simpa using this
    obtain ⟨g, o, hp, hc⟩ := rline_at ho.line (H1.nth 1 rfl) hx
    rw [hf]
    refine ⟨_, _, _, H1.ld 0 rfl rfl, ⟨by show (0 : Int) ≤ (i : Int); omega, by show (i : Int) < _; omega⟩, adr_eq hp ⟨_, hs18, ?_, H1.al fun k2 w5 H1 => H1.sts0 3 rfl hs18 rfl (rline_one _) fun w6 H1 => ?_⟩⟩
    · show cellsAt w4 ⟨g, o + ((i : Nat) : Int).toNat * 18, none⟩ _
      rw [Int.toNat_natCast]; exact hc
    refine split_of (fun q3 => ?_) (fun q3 => ?_)
    · have q3 : s = 0 := by simpa using q3
      subst q3
      have H : St W (refcA b R).own w6 [refcA b R, blk k zeroR.cells.toArray 104, blk k2 (R.lineAt i).cells.toArray 104] := H1.shut
      refine H.callx 0 rfl (rout_any ho (H.nth 0 rfl) hx) fun z w7 H => ⟨_, rfl, _, hs18, H.cells 2 rfl, H.sts0 1 rfl hs18 rfl (rline_one _) fun w8 H => ⟨_, hs18, H.cells 1 rfl, low0 q hf hst z.1 z.2 ?_⟩⟩
      exact H.post 0 rfl
    · have q3 : ¬ s = 0 := by simpa using q3
      obtain ⟨s, rfl⟩ : ∃ n : Nat, s = n := ⟨s.toNat, by omega⟩
      refine ⟨_, _, _, H1.ld 0 rfl rfl, ⟨by show (0 : Int) ≤ (i : Int); omega, by show (i : Int) < _; omega⟩, adr_eq hp ?_⟩
      have hsl : (sl 104 18 (.slice (some ⟨g, o, none⟩) R.L.length R.c) R.L.length (R.L.flatMap RLine.cells)).at_ w6 := by rw [← hp]; exact H1.nth 1 rfl
      have hll : i * 18 + 1 < (R.L.flatMap RLine.cells).length := by rw [rows_len (lines18 ho.line)]; omega
      obtain ⟨t1, t2, t3⟩ := sl_set hsl hll (.int .i64 s)
      rw [lines_set ho.line hx s, ← hp] at t3
      have e : o + (ixI (some i)).toNat * 18 + 1 = o + (i * 18 + 1) := by
        show o + ((i : Nat) : Int).toNat * 18 + 1 = _
        rw [Int.toNat_natCast]; omega
      rw [e]
      refine ⟨t1, t2, ?_⟩
      rintro w7 rfl
      have H := H1.upd 1 rfl t3
      refine ⟨_, hs18, H.cells 3 rfl, H.sts0 2 rfl hs18 rfl (rline_one _) fun w8 H => ⟨_, hs18, H.cells 2 rfl, low0 q hf hst R.p R.c ?_⟩⟩
      rw [Int.toNat_natCast]
      unfold RC.lowered
      rw [if_neg (by omega)]
      refine refc_shut (L := []) ?_
      have H := H.pick [0, 1]
      have e1 : R.L.length = (R.L.set i { R.lineAt i with state := s }).length := by simp
      have H : St W (refcA b R).own w8 [blk b #[.int .i64 R.S, .int .i64 R.N, .slice R.p R.L.length R.c] 102, sl 104 18 (.slice R.p R.L.length R.c) R.L.length ((R.L.set i { R.lineAt i with state := s }).flatMap RLine.cells)] := H
      rw [e1] at H
      exact H
/-! ### New -/
theorem rnew_bad (W : World) (S N : Int) (h : ¬ shapeOk S N) :
    Calls Tryd.prog 40 #[.int .i64 S, .int .i64 N] W fun e w => e = .returned (.tuple #[.pointer none, .int .i64 2]) ∧ Hush W w := by
  have fin : ∀ {X : Prop}, (decide (N < 1)) = false → (decide (N > 4)) = false → (S = 1 ∨ S = 2 ∨ S = 4 ∨ S = 8 ∨ S = 16) → X := fun h1 h2 h3 => absurd (show shapeOk S N from ⟨h3, by have := of_decide_eq_false h1; have := of_decide_eq_false h2; omega⟩) h
  have bad : ∀ {X : Prop}, (S = 1 ∨ S = 2 ∨ S = 4 ∨ S = 8 ∨ S = 16) → split (decide (N < 1)) ((Ending.returned (.tuple #[.pointer none, .int .i64 2]) = Ending.returned (.tuple #[.pointer none, .int .i64 2])) ∧ Hush W W) (split (decide (N > 4)) ((Ending.returned (.tuple #[.pointer none, .int .i64 2]) = Ending.returned (.tuple #[.pointer none, .int .i64 2])) ∧ Hush W W) X) := fun h3 =>
    split_of (fun _ => ⟨rfl, XTouch.refl _ _⟩) (fun h1 => split_of (fun _ => ⟨rfl, XTouch.refl _ _⟩) (fun h2 => fin h1 h2 h3))
  exact vc40 S N (split_of (fun q1 => split_of (fun q2 => split_of (fun q3 => split_of (fun q4 => split_of (fun q5 => ⟨rfl, XTouch.refl _ _⟩) (fun q => bad (by simp at q; omega))) (fun q => bad (by simp at q; omega))) (fun q => bad (by simp at q; omega))) (fun q => bad (by simp at q; omega))) (fun q => bad (by simp at q; omega)))
def freshR (S N : Nat) : RC := ⟨S, N, none, 0, []⟩
theorem freshR_ok {S N : Nat} (h : shapeOk S N) : (freshR S N).Ok := by
  obtain ⟨h1, h2, h3⟩ := h
  exact ⟨by show 1 ≤ S; omega, by show S ≤ 16; omega, by show 1 ≤ N; omega, by show N ≤ 4; omega, by show 0 < _; decide, fun x hx => by cases hx⟩
theorem rnew_good (W : World) (S N : Nat) (h : shapeOk S N) :
    Calls Tryd.prog 40 #[.int .i64 S, .int .i64 N] W fun e w => ∃ x : Nat, e = .returned (.tuple #[.pointer (some ⟨x, 0, none⟩), .int .i64 0]) ∧ Sep.Post emp W (refcA x (freshR S N)) w := by
  obtain ⟨hS, hN1, hN2⟩ := h
  have fin : ∀ vs : Array Value, vs = #[.int .i64 S, .int .i64 N, .slice none 0 0] → ∀ (k : Nat) (w2 : World), k = W.heap.size → w2 = W.alloc (.cells (Value.cells (.agg vs)) 102) → ∃ x : Nat, Ending.returned (.tuple #[.pointer (some ⟨k, 0, none⟩), .int .i64 0]) = .returned (.tuple #[.pointer (some ⟨x, 0, none⟩), .int .i64 0]) ∧ Sep.Post emp W (refcA x (freshR S N)) w2 := by
    rintro vs rfl
    refine (St.nil W).al fun k w2 H => ⟨k, rfl, ?_⟩
    have H : St W (fun _ => False) w2 [blk k (freshR S N).root 102] := H
    have H := H.add (A := linesA none 0 []) ⟨Sl.nil _ _ _, XTouch.refl _ _, fun q hq => by cases hq⟩
    have H : St W (fun _ => False) w2 ((freshR S N).pieces k ++ []) := H
    exact (St.shut H).new 0 rfl
  have good : ∀ {X : Prop}, split (decide ((N : Int) < 1)) X (split (decide ((N : Int) > 4)) X (∀ vs : Array Value, vs = #[.int .i64 S, .int .i64 N, .slice none 0 0] → ∀ (k : Nat) (w2 : World), k = W.heap.size → w2 = W.alloc (.cells (Value.cells (.agg vs)) 102) → ∃ x : Nat, Ending.returned (.tuple #[.pointer (some ⟨k, 0, none⟩), .int .i64 0]) = .returned (.tuple #[.pointer (some ⟨x, 0, none⟩), .int .i64 0]) ∧ Sep.Post emp W (refcA x (freshR S N)) w2)) := fun {X} =>
    split_of (fun q => absurd (of_decide_eq_true q) (by omega)) (fun _ => split_of (fun q => absurd (of_decide_eq_true q) (by omega)) (fun _ => fin))
  exact vc40 S N (split_of (fun q1 => split_of (fun q2 => split_of (fun q3 => split_of (fun q4 => split_of (fun q5 => by simp at q1 q2 q3 q4 q5; omega) (fun _ => good)) (fun _ => good)) (fun _ => good)) (fun _ => good)) (fun _ => good))
end Go.Proofs.YtbiogceijdcoiaaDoor
