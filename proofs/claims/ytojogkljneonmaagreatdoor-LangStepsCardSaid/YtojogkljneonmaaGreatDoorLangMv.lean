import Derived.Test.YtojogkljneonmaaGreatDoorLangMs
import Derived.Test.YtojogkljneonmaaGreatDoorSxB
import Derived.Test.YtojogkljneonmaaGreatDoorChecked
/- More steps and more stack change nothing, by names; a text that prints. No condition. -/
namespace Go.Lang
set_option linter.unusedVariables false
set_option linter.unusedSimpArgs false
variable {E : ByteArray → UInt32 → UInt32 → UInt32} {ds : List D}
def Rw.more (s : Rw) (a b : Nat) : Rw := { s with steps := s.steps + a, room := s.room + b }
theorem rstep_ok {s s' : Rw} {v : List UInt32} {k : Rw → Rs Rw} (h : s.step k = .ok v s') : s.steps ≠ 0 ∧ k { s with steps := s.steps - 1 } = .ok v s' := by
  unfold Rw.step at h
  split at h
  · cases h
  · exact ⟨by assumption, h⟩
theorem rmore_step {s : Rw} {a b : Nat} {k : Rw → Rs Rw} (h : s.steps ≠ 0) : (s.more a b).step k = k (Rw.more { s with steps := s.steps - 1 } a b) := by
  unfold Rw.step Rw.more
  try dsimp only
  rw [if_neg (by omega)]
  congr 2
  omega
theorem more_set {s : Rw} {a b : Nat} {nm : ByteArray} {v : UInt32} : (s.more a b).set ds nm v = (s.set ds nm v).more a b := by
  unfold Rw.set
  show (match idxN s.locals nm with | some i => _ | none => _) = _
  cases idxN s.locals nm <;> rfl
theorem rgo_more {a b : Nat} : ∀ (f : Nat) (q : Rr) (s s' : Rw) (v : List UInt32), rgo E ds f q s = .ok v s' → rgo E ds f q (s.more a b) = .ok v (s'.more a b) := by
  intro f
  induction f with
  | zero => intro q s s' v h; cases h
  | succ f ih =>
    intro q s s' v h
    cases q with
    | e x =>
      unfold rgo at h ⊢
      obtain ⟨hs, h⟩ := rstep_ok h
      rw [rmore_step hs]
      cases x with
      | num n l => cases h; rfl
      | name t sl w => cases h; rfl
      | index t w z p =>
        obtain ⟨v1, s1, h1, h⟩ := rbind_ok h
        try dsimp only
        rw [ih _ _ _ _ h1, rb_ok]
        try dsimp only at h ⊢
        split at h
        · cases h
        · rename_i hz; rw [if_neg hz]; cases h; rfl
      | call t fa xs =>
        obtain ⟨v1, s1, h1, h⟩ := rbind_ok h
        try dsimp only
        rw [ih _ _ _ _ h1, rb_ok]
        exact ih _ _ _ _ h
      | un t x =>
        obtain ⟨v1, s1, h1, h⟩ := rbind_ok h
        try dsimp only
        rw [ih _ _ _ _ h1, rb_ok]
        cases h; rfl
      | bin t x y =>
        obtain ⟨v1, s1, h1, h⟩ := rbind_ok h
        try dsimp only
        rw [ih _ _ _ _ h1, rb_ok]
        try dsimp only at h ⊢
        split at h
        · rename_i hz; rw [if_pos hz]; cases h; rfl
        rename_i hz; rw [if_neg hz]
        split at h
        · rename_i hz; rw [if_pos hz]; cases h; rfl
        rename_i hz; rw [if_neg hz]
        obtain ⟨v2, s2, h2, h⟩ := rbind_ok h
        rw [ih _ _ _ _ h2, rb_ok]
        cases h; rfl
      | _ => cases h
    | al xs =>
      unfold rgo at h ⊢
      cases xs with
      | cons x xs =>
        obtain ⟨v1, s1, h1, h⟩ := rbind_ok h
        obtain ⟨v2, s2, h2, h⟩ := rbind_ok h
        try dsimp only
        rw [ih _ _ _ _ h1, rb_ok, ih _ _ _ _ h2, rb_ok]
        cases h; rfl
      | nil => cases h; rfl
      | _ => cases h
    | en nm args =>
      unfold rgo at h ⊢
      cases hF : findD ds nm with
      | none => rw [hF] at h; cases h
      | some d =>
        rw [hF] at h
        cases d with
        | var => cases h
        | fn t nm2 ps s0 no bd =>
        try dsimp only at h ⊢
        split at h
        · cases h
        rename_i hr
        rw [if_neg (by simp only [Rw.more]; omega)]
        obtain ⟨v1, s1, h1, h⟩ := rbind_ok h
        have h2 := ih _ _ _ _ h1
        have e : ({ (s.more a b) with room := (s.more a b).room - (10 + (ps.length + lets bd)), locals := ps.zip args } : Rw) = Rw.more { s with room := s.room - (10 + (ps.length + lets bd)), locals := ps.zip args } a b := by
          unfold Rw.more
          try dsimp only
          congr 1
          omega
        rw [e, h2, rb_ok]
        cases h
        unfold Rw.more
        try dsimp only
        congr 2
        omega
    | s x =>
      unfold rgo at h ⊢
      obtain ⟨hs, h⟩ := rstep_ok h
      rw [rmore_step hs]
      cases x with
      | block l xs =>
        obtain ⟨v1, s1, h1, h⟩ := rbind_ok h
        try dsimp only
        rw [ih _ _ _ _ h1, rb_ok]
        cases h; rfl
      | whileS l c bb => exact ih _ _ _ _ h
      | letS t nm sl w x =>
        obtain ⟨v1, s1, h1, h⟩ := rbind_ok h
        try dsimp only
        rw [ih _ _ _ _ h1, rb_ok]
        cases h; rfl
      | setS t sl w x =>
        obtain ⟨v1, s1, h1, h⟩ := rbind_ok h
        try dsimp only
        rw [ih _ _ _ _ h1, rb_ok, more_set]
        cases h; rfl
      | putS t w z p x =>
        obtain ⟨v1, s1, h1, h⟩ := rbind_ok h
        obtain ⟨v2, s2, h2, h⟩ := rbind_ok h
        try dsimp only
        rw [ih _ _ _ _ h1, rb_ok, ih _ _ _ _ h2, rb_ok]
        try dsimp only at h ⊢
        split at h
        · cases h
        · rename_i hz; rw [if_neg hz]; cases h; rfl
      | ifS l c aa bb =>
        obtain ⟨v1, s1, h1, h⟩ := rbind_ok h
        try dsimp only
        rw [ih _ _ _ _ h1, rb_ok]
        try dsimp only at h ⊢
        split at h
        · rename_i hz; rw [if_pos hz]; exact ih _ _ _ _ h
        rename_i hz; rw [if_neg hz]
        split at h
        · rename_i hz; rw [if_pos hz]; cases h; rfl
        rename_i hz; rw [if_neg hz]; exact ih _ _ _ _ h
      | retS l x =>
        obtain ⟨v1, s1, h1, h⟩ := rbind_ok h
        try dsimp only
        rw [ih _ _ _ _ h1, rb_ok]
        cases h; rfl
      | prtS l x =>
        obtain ⟨v1, s1, h1, h⟩ := rbind_ok h
        try dsimp only
        rw [ih _ _ _ _ h1, rb_ok]
        cases h; rfl
      | doS l x =>
        obtain ⟨v1, s1, h1, h⟩ := rbind_ok h
        try dsimp only
        rw [ih _ _ _ _ h1, rb_ok]
        cases h; rfl
      | _ => cases h
    | ss xs =>
      unfold rgo at h ⊢
      cases xs with
      | cons x xs =>
        obtain ⟨v1, s1, h1, h⟩ := rbind_ok h
        try dsimp only
        rw [ih _ _ _ _ h1, rb_ok]
        try dsimp only at h ⊢
        split at h
        · rename_i hz; rw [if_pos hz]; exact ih _ _ _ _ h
        · rename_i hz; rw [if_neg hz]; cases h; rfl
      | nil => cases h; rfl
      | _ => cases h
    | w c bb =>
      unfold rgo at h ⊢
      obtain ⟨v1, s1, h1, h⟩ := rbind_ok h
      rw [ih _ _ _ _ h1, rb_ok]
      try dsimp only at h ⊢
      split at h
      · rename_i hz; rw [if_pos hz]; cases h; rfl
      rename_i hz; rw [if_neg hz]
      obtain ⟨v2, s2, h2, h⟩ := rbind_ok h
      rw [ih _ _ _ _ h2, rb_ok]
      try dsimp only at h ⊢
      split at h
      · rename_i hz; rw [if_pos hz]; exact ih _ _ _ _ h
      · rename_i hz; rw [if_neg hz]; cases h; rfl

/-- more steps, more stack: the same -/
theorem rgo_r0 {f stack steps a b : Nat} {v : List UInt32} {r : Rw} (h : rgo E ds f (.en cMain []) (r0 ds stack steps) = .ok v r) : rgo E ds f (.en cMain []) (r0 ds (stack + b) (steps + a)) = .ok v (r.more a b) := rgo_more f _ _ _ _ h
def mustL : List UInt8 := [102, 117, 110, 99, 32, 109, 97, 105, 110, 40, 41, 32, 123, 32, 112, 114, 105, 110, 116, 32, 54, 53, 59, 32, 114, 101, 116, 117, 114, 110, 32, 55, 59, 32, 125]
def mustD : List D := [.fn ⟨3, ofL [102, 117, 110, 99], 1⟩ (ofL [109, 97, 105, 110]) [] 0 0 (.block 1 (.cons (.prtS 1 (.num 65 1)) (.cons (.retS 1 (.num 7 1)) .nil)))]
theorem must_go (n : Nat) : rgo E mustD (n + 10) (.en cMain []) (r0 mustD 20 20) = .ok [7] ⟨[], [65], 15, 20, []⟩ := by kernel_rfl
end Go.Lang
namespace Go.Proofs.YtojogkljneonmaaGreatDoor
open Go Go.Proofs Go.Sep Go.XHeap Go.RowKit Go.Lang
theorem must_parse : parseP 64009 8002 mustL = .ok mustD := by kernel_rfl
theorem must_load : loadP 64009 8002 mustL = .ok mustD := by
  unfold loadP
  rw [must_parse]
  show (fcheck (toD mustD .nil)).bind _ = _
  rw [fcheck_eq (fun _ => 0) mustD (dok_of must_parse), show (check (fun _ => 0) mustD).er = .ok () by kernel_rfl]
  rfl
end Go.Proofs.YtojogkljneonmaaGreatDoor
/- What each function asks, reckoned out of its text; printed by a program of mine (wip/tpl/VcTool.lean). No condition. -/
namespace Go.Proofs.YtojogkljneonmaaGreatDoor
open Go Go.Proofs
set_option linter.unusedVariables false
set_option maxRecDepth 100000
theorem vc4 {W : World} {Q : Ending → World → Prop} (arg0 : ByteArray) (arg1 : Int) (arg2 : Int) (arg3 : Int)
 (hVC :
 Calls Tryz.prog 9 #[.string ⟨#[102, 117, 110, 99, 32, 109, 97, 105, 110, 40, 41, 32, 123, 32, 112, 114, 105, 110, 116, 32, 54, 53, 59, 32, 114, 101, 116, 117, 114, 110, 32, 55, 59, 32, 125]⟩, .int .i64 20, .int .i64 20] W (fun e =>
 fun W2 => ∃ vs : Array Value, ∃ v : Value, e = .returned (.tuple #[.agg vs, v]) ∧ ∀ k : Nat, ∀ W3 : World, k = W2.heap.size →
 W3 = W2.alloc (Obj.cells #[.bool false, .string ⟨#[]⟩, .int .u32 0, .int .i64 0, .slice none 0 0] 35) → vs.size = 5 ∧ (∀ k2 : Nat, k2 < 5 →
 (∃ v2 : Value, W3.cell? ⟨k, 0 + k2, none⟩ = some v2) ∧ W3.frozen? ⟨k, 0 + k2, none⟩ = false) ∧ ((∀ v3 : Value, v3 ∈ vs.toList → Value.oneCell' v3 = true) ∧
 ∀ W4 : World, W4 = W3.setCells k 0 vs.toList → ∃ I : Bool → World → Prop, Sx.isNil v (fun t => Sx.split t (∃ t2 : Bool, W4.cell? ⟨k, 0, none⟩ = some (.bool t2) ∧ Sx.split t2
 (∃ s : ByteArray, W4.cell? ⟨k, 0 + 1, none⟩ = some (.string s) ∧ Sx.split (ByteArray.toList s == ByteArray.toList ⟨#[65]⟩)
 (∃ z : Int, W4.cell? ⟨k, 0 + 2, none⟩ = some (.int .u32 z) ∧ Sx.split (z == 7) (∃ z2 : Int, W4.cell? ⟨k, 0 + 3, none⟩ = some (.int .i64 z2) ∧ I (z2 == 0) W4) (I false W4))
 (I false W4)) (I false W4)) (I false W4)) ∧ ((Nat → Value) → ∀ x : Bool, ∀ W5 : World, I x W5 → Sx.split (decide (arg1 < 0)) (Q (.returned (.bool x)) W5)
 (Sx.split (decide (arg1 > 400)) (Q (.returned (.bool x)) W5) (Sx.split (decide (arg2 < 0)) (Q (.returned (.bool x)) W5) (Sx.split (decide (arg2 > 5000)) (Q (.returned (.bool x)) W5)
 ((100 : Int) ≠ (0 : Int) ∧ ∀ z3 : Int, z3 = Int.tmod arg3 100 → ∃ I2 : Int → World → Prop, Sx.split (decide (z3 < 0)) (I2 (IntKind.wrap .i64 (0 - z3)) W5) (I2 z3 W5) ∧
 ((Nat → Value) → ∀ x2 : Int, ∀ W6 : World, I2 x2 W6 → Calls Tryz.prog 9 #[.string arg0, .int .i64 arg1, .int .i64 arg2] W6 (fun e2 => fun W7 =>
 ∃ vs2 : Array Value, ∃ v4 : Value, e2 = .returned (.tuple #[.agg vs2, v4]) ∧ ∀ k3 : Nat, ∀ W8 : World, k3 = W7.heap.size →
 W8 = W7.alloc (Obj.cells #[.bool false, .string ⟨#[]⟩, .int .u32 0, .int .i64 0, .slice none 0 0] 35) → vs2.size = 5 ∧ (∀ k4 : Nat, k4 < 5 →
 (∃ v5 : Value, W8.cell? ⟨k3, 0 + k4, none⟩ = some v5) ∧ W8.frozen? ⟨k3, 0 + k4, none⟩ = false) ∧ ((∀ v6 : Value, v6 ∈ vs2.toList → Value.oneCell' v6 = true) ∧
 ∀ W9 : World, W9 = W8.setCells k3 0 vs2.toList → ∀ z4 : Int, z4 = IntKind.wrap .i64 (arg1 + x2) → ∀ z5 : Int, z5 = IntKind.wrap .i64 (50 * x2) →
 ∀ z6 : Int, z6 = IntKind.wrap .i64 (arg2 + z5) → Calls Tryz.prog 9 #[.string arg0, .int .i64 z4, .int .i64 z6] W9 (fun e3 => fun W10 =>
 ∃ vs3 : Array Value, ∃ v7 : Value, e3 = .returned (.tuple #[.agg vs3, v7]) ∧ ∀ k5 : Nat, ∀ W11 : World, k5 = W10.heap.size →
 W11 = W10.alloc (Obj.cells #[.bool false, .string ⟨#[]⟩, .int .u32 0, .int .i64 0, .slice none 0 0] 35) → vs3.size = 5 ∧ (∀ k6 : Nat, k6 < 5 →
 (∃ v8 : Value, W11.cell? ⟨k5, 0 + k6, none⟩ = some v8) ∧ W11.frozen? ⟨k5, 0 + k6, none⟩ = false) ∧ ((∀ v9 : Value, v9 ∈ vs3.toList → Value.oneCell' v9 = true) ∧
 ∀ W12 : World, W12 = W11.setCells k5 0 vs3.toList → Sx.isNil v4 (fun t3 => Sx.split (!t3) (Sx.split x (Sx.isNil v4 (fun t4 => Sx.split (!t4) (Sx.isNil v7 (fun t5 =>
 Q (.returned (.bool !t5)) W12)) (Q (.returned (.bool false)) W12))) (Q (.returned (.bool false)) W12)) (Sx.isNil v7 (fun t6 => Sx.split (!t6) (Sx.split x (Sx.isNil v4 (fun t7 =>
 Sx.split (!t7) (Sx.isNil v7 (fun t8 => Q (.returned (.bool !t8)) W12)) (Q (.returned (.bool false)) W12))) (Q (.returned (.bool false)) W12))
 (∃ t9 : Bool, W12.cell? ⟨k3, 0, none⟩ = some (.bool t9) ∧ Sx.split (!t9) (Q (.returned (.bool x)) W12) (∃ z7 : Int, W12.cell? ⟨k3, 0 + 3, none⟩ = some (.int .i64 z7) ∧
 Sx.split (z7 != 0) (Q (.returned (.bool x)) W12) (∃ s2 : ByteArray, W12.cell? ⟨k3, 0 + 1, none⟩ = some (.string s2) ∧
 ∃ s3 : ByteArray, W12.cell? ⟨k5, 0 + 1, none⟩ = some (.string s3) ∧ Sx.split (!ByteArray.toList s2 == ByteArray.toList s3) (Q (.returned (.bool false)) W12)
 (∃ t10 : Bool, W12.cell? ⟨k5, 0, none⟩ = some (.bool t10) ∧ Sx.split (!t10) (Q (.returned (.bool false)) W12) (∃ z8 : Int, W12.cell? ⟨k3, 0 + 2, none⟩ = some (.int .u32 z8) ∧
 ∃ z9 : Int, W12.cell? ⟨k5, 0 + 2, none⟩ = some (.int .u32 z9) ∧ Sx.split (z8 != z9) (Q (.returned (.bool false)) W12)
 (∃ z10 : Int, W12.cell? ⟨k5, 0 + 3, none⟩ = some (.int .i64 z10) ∧ Sx.split (z10 != 0) (Q (.returned (.bool false)) W12)
 (∃ p : Option Addr, ∃ k7 : Nat, ∃ k8 : Nat, W12.cell? ⟨k3, 0 + 4, none⟩ = some (.slice p k7 k8) ∧
 ∃ p2 : Option Addr, ∃ k9 : Nat, ∃ k10 : Nat, W12.cell? ⟨k5, 0 + 4, none⟩ = some (.slice p2 k9 k10) ∧ Sx.split ((k7 : Int) != (k9 : Int)) (Q (.returned (.bool false)) W12)
 (∃ I3 : Int → World → Prop, ∃ I4 : Int → World → Nat, I3 0 W12 ∧ ((Nat → Value) → ∀ x3 : Int, ∀ W13 : World, I3 x3 W13 →
 ∃ p3 : Option Addr, ∃ k11 : Nat, ∃ k12 : Nat, W13.cell? ⟨k3, 0 + 4, none⟩ = some (.slice p3 k11 k12) ∧ Sx.split (decide (x3 < (k11 : Int)))
 (∃ p4 : Option Addr, ∃ k13 : Nat, ∃ k14 : Nat, W13.cell? ⟨k3, 0 + 4, none⟩ = some (.slice p4 k13 k14) ∧ ((0 : Int) ≤ x3 ∧ x3 < (k13 : Int)) ∧ Sx.adr p4 (fun k15 => fun k16 =>
 ∃ z11 : Int, W13.cell? ⟨k15, k16 + Int.toNat x3 * 1, none⟩ = some (.int .u32 z11) ∧
 ∃ p5 : Option Addr, ∃ k17 : Nat, ∃ k18 : Nat, W13.cell? ⟨k5, 0 + 4, none⟩ = some (.slice p5 k17 k18) ∧ ((0 : Int) ≤ x3 ∧ x3 < (k17 : Int)) ∧ Sx.adr p5 (fun k19 => fun k20 =>
 ∃ z12 : Int, W13.cell? ⟨k19, k20 + Int.toNat x3 * 1, none⟩ = some (.int .u32 z12) ∧ ∀ W14 : World, ∀ k21 : Nat, W14 = W13.drewN k21 → Sx.split (z11 != z12)
 (Q (.returned (.bool false)) W14) (∀ z13 : Int, z13 = IntKind.wrap .i64 (x3 + 1) → I3 z13 W14 ∧ I4 z13 W14 < I4 x3 W13)))) (Q (.returned (.bool x)) W13)))))))))))))))))))))))))) :
 Calls Tryz.prog 4 #[.string arg0, .int .i64 arg1, .int .i64 arg2, .int .i64 arg3] W Q :=
 Sx.sound (pk := [1000052]) Tryz.func4 (.node [] [] 0 .leaf (.node [] [] 0 .leaf (.node [(11, .bool)] [1, 2, 3, 0] 1 .leaf (.node [] [] 0 .leaf (.node [] [] 0 .leaf (.node [(12, .int .i64)] [0, 1, 2, 11] 1 .leaf (.node [] [] 0 .leaf (.node [] [] 0 .leaf (.node [] [] 0 .leaf (.node [] [] 0 .leaf (.node [] [] 0 .leaf (.node [] [] 0 (.node [] [] 0 .leaf (.node [] [] 0 (.node [(17, .int .i64)] [13, 15, 11] 0 .leaf .leaf) .leaf)) .leaf)))))))))))) [Value.string arg0, .int .i64 arg1, .int .i64 arg2, .int .i64 arg3] rfl (Eq.mp (by kernel_rfl) hVC)
end Go.Proofs.YtojogkljneonmaaGreatDoor
/- The law: more steps, and more stack, change nothing. No condition. -/
namespace Go.Proofs.YtojogkljneonmaaGreatDoor
open Go Go.Proofs Go.Sep Go.XHeap Go.RowKit Go.Lang
set_option linter.unusedVariables false
set_option linter.unusedSimpArgs false
variable {W : World}
/-- a world that has kept all old blocks but one, which holds what it held -/
theorem pin3' {w w' : World} {o : Obj} (h : XTouch (fun k => k = 3) w w') (h1 : w.heap[3]? = some o) (h2 : w'.heap[3]? = some o) : XTouch (fun _ => False) w w' := by
  refine ⟨h.os, h.tape, h.output, h.size, fun b hb _ => ?_⟩
  by_cases hb3 : b = 3
  · subst hb3; rw [h1, h2]
  · exact h.block b hb hb3
theorem evalK_cases [Inhabited G3o] {s : List UInt8} {fu : Nat} {stack steps : Int} {e : Ending} {w' : World} (hb : inB stack steps) (h : EvalK W s 64009 8002 fu stack steps e w') :
    (∃ l en t u, loadP 64009 8002 s = .err l en ∧ e = .returned (.tuple #[.agg ocZ, .iface t u]) ∧ Post globA W globA w') ∨
    ∃ ds R p c, loadP 64009 8002 s = .ok ds ∧ rgo opE ds fu (.en cMain []) (r0 ds stack.toNat steps.toNat) = R ∧ R ≠ .out ∧ e = .returned (.tuple #[.agg (ocC (ocOf R) p c), .nilIface]) ∧
      Post globA W (all [globA, sl 32 1 (.slice p (ocOf R).globals.length c) (ocOf R).globals.length ((ocOf R).globals.map vU)]) w' := by
  unfold EvalK at h
  cases hl : loadP 64009 8002 s with
  | err l en =>
    rw [hl] at h
    obtain ⟨v, rfl, h⟩ := h
    refine .inl ?_
    rcases h with ⟨rfl, hp⟩ | ⟨b, rfl, hp⟩
    · exact ⟨l, en, _, _, rfl, rfl, hp⟩
    · exact ⟨l, en, _, _, rfl, rfl, hp.1.1, hp.2.1, fun q hq => hp.2.2 q (.inl hq)⟩
  | ok ds =>
    rw [hl] at h
    rcases h with ⟨hn, -⟩ | ⟨-, R, p, c, h1, h2, h3, h4⟩
    · exact absurd hb hn
    · exact .inr ⟨ds, R, p, c, rfl, h1, h2, h3, h4⟩
theorem ret_true [Inhabited G3o] {w : World} {L : List Asn} {e : Ending} (h : globA.at_ W) (H : St W globA.own w (globA :: L)) (he : e = .returned (.bool true)) : e = .returned (.bool true) ∧ XTouch (fun _ => False) W w :=
  ⟨he, pin3' H.touch h.2 (show globA.at_ w from H.nth 0 rfl).2⟩
theorem els_get {w : World} {e n c : Nat} {p : Option Addr} {l : List UInt32} (h : Sl w e 1 (.slice p n c) n (l.map vU)) {i : Nat} (hi : i < l.length) {φ : Nat → Nat → Prop} (hφ : ∀ g o, w.cell? ⟨g, o + i, none⟩ = some (vU (l.getD i 0)) → φ g o) : Sx.adr p φ := by
  refine sl_get h (i := i) (v := vU (l.getD i 0)) ?_ hφ
  rw [List.getElem?_map, List.getD_eq_getElem?_getD, List.getElem?_eq_getElem hi]
  rfl
set_option maxHeartbeats 2000000 in
theorem steps_ok [Inhabited G3o] (s : List UInt8) (stack steps more : Int) (h : globA.at_ W) : Calls Tryz.prog 4 #[.string (ofL s), .int .i64 stack, .int .i64 steps, .int .i64 more] W fun e w' => e = .returned (.bool true) ∧ XTouch (fun _ => False) W w' := by
  obtain ⟨fu, hfu⟩ : ∃ n : Nat, 20001 * 1000002 + 1000002 < n + 10 := ⟨20001 * 1000002 + 1000002, by omega⟩
  refine vc4 (ofL s) stack steps more ?_
  refine (eval_any mustL 20 20 hfu h).mono ?_
  intro e w2 he
  rcases evalK_cases ⟨⟨by decide, by decide⟩, by decide, by decide⟩ he with ⟨l, en, t, u, h1, -⟩ | ⟨ds, R, p, c, h1, h2, -, rfl, hp⟩
  · rw [must_load] at h1; cases h1
  rw [must_load] at h1
  cases h1
  have h2 : rgo opE mustD (fu + 10) (.en cMain []) (r0 mustD 20 20) = R := h2
  rw [must_go] at h2
  subst h2
  have H2 := St.open_ (L := [globA, _]) (L' := []) ((St.begin h).upd 0 rfl hp)
  refine ⟨_, _, rfl, H2.al fun k w3 H3 => ?_⟩
  refine H3.sts0 2 (n := 5) (vs := ocC ⟨true, [65], 7, 0, []⟩ p c) rfl rfl rfl (oc_one _ _ _) fun w4 H4 => ?_
  refine ⟨fun x w => x = true ∧ St W globA.own w [globA], ?_, ?_⟩
  · refine nil_true (split_true ⟨_, H4.ld 2 rfl (i := 0) rfl, split_true ⟨_, H4.ld 2 rfl (i := 1) rfl, ?_⟩⟩)
    rw [toList_eq]
    refine Sx.split_of (fun _ => ?_) (fun h => absurd rfl (of_decide_eq_false h))
    refine ⟨_, H4.ld 2 rfl (i := 2) rfl, Sx.split_of (fun _ => ?_) (fun h => absurd h (by decide))⟩
    exact ⟨_, H4.ld 2 rfl (i := 3) rfl, rfl, H4.pick [0]⟩
  rintro - _ w5 ⟨rfl, H5⟩
  refine Sx.split_of (fun _ => ret_true h H5 rfl) (fun b1 => ?_)
  refine Sx.split_of (fun _ => ret_true h H5 rfl) (fun b2 => ?_)
  refine Sx.split_of (fun _ => ret_true h H5 rfl) (fun b3 => ?_)
  refine Sx.split_of (fun _ => ret_true h H5 rfl) (fun b4 => ?_)
  have b1 := of_decide_eq_false b1
  have b2 := of_decide_eq_false b2
  have b3 := of_decide_eq_false b3
  have b4 := of_decide_eq_false b4
  refine ⟨by decide, ?_⟩
  have t1 := Int.tmod_lt_of_pos more (show (0 : Int) < 100 by decide)
  have t2 := Int.lt_tmod_of_pos more (show (0 : Int) < 100 by decide)
  rintro z3 rfl
  refine ⟨fun x w => (∃ m : Nat, x = (m : Int) ∧ m ≤ 99) ∧ St W globA.own w [globA], ?_, ?_⟩
  · refine Sx.split_of (fun h => ?_) (fun h => ?_)
    · have h := of_decide_eq_true h
      refine ⟨⟨(- Int.tmod more 100).toNat, ?_, by omega⟩, H5⟩
      rw [show (0 : Int) - Int.tmod more 100 = (((- Int.tmod more 100).toNat : Nat) : Int) by omega, Go.Bits.n64 (by omega)]
    · have h := of_decide_eq_false h
      exact ⟨⟨(Int.tmod more 100).toNat, by omega, by omega⟩, H5⟩
  rintro - _ w6 ⟨⟨m, rfl, hm⟩, H6⟩
  obtain ⟨z1, rfl⟩ : ∃ z : Nat, stack = (z : Int) := ⟨stack.toNat, by omega⟩
  obtain ⟨z2, rfl⟩ : ∃ z : Nat, steps = (z : Int) := ⟨steps.toNat, by omega⟩
  have hw6 : globA.at_ w6 := H6.nth 0 rfl
  refine (eval_any s (z1 : Int) (z2 : Int) hfu hw6).mono ?_
  intro e w7 he
  have e1 : IntKind.wrap .i64 ((z1 : Int) + (m : Int)) = ((z1 + m : Nat) : Int) := by
    rw [show ((z1 : Int) + (m : Int)) = ((z1 + m : Nat) : Int) by omega, Go.Bits.n64 (by omega)]
  have e2 : IntKind.wrap .i64 (50 * (m : Int)) = ((50 * m : Nat) : Int) := by
    rw [show (50 * (m : Int)) = ((50 * m : Nat) : Int) by omega, Go.Bits.n64 (by omega)]
  have e3 : IntKind.wrap .i64 ((z2 : Int) + ((50 * m : Nat) : Int)) = ((z2 + 50 * m : Nat) : Int) := by
    rw [show ((z2 : Int) + ((50 * m : Nat) : Int)) = ((z2 + 50 * m : Nat) : Int) by omega, Go.Bits.n64 (by omega)]
  have hin : inB (z1 : Int) (z2 : Int) := ⟨⟨by omega, by omega⟩, by omega, by omega⟩
  have hin2 : inB ((z1 + m : Nat) : Int) ((z2 + 50 * m : Nat) : Int) := ⟨⟨by omega, by omega⟩, by omega, by omega⟩
  rcases evalK_cases hin he with ⟨l, en, t, u, g1, rfl, hp7⟩ | ⟨ds, R, p1, c1, g1, g2, g3, rfl, hp7⟩
  · have H7 := H6.upd 0 rfl hp7
    refine ⟨_, _, rfl, H7.al fun k3 w8 H8 => ?_⟩
    refine H8.sts0 1 (n := 5) (vs := ocZ) rfl rfl rfl ocz_one fun w9 H9 => ?_
    rintro z4 rfl z5 rfl z6 rfl
    rw [e1, e2, e3]
    refine (eval_any s _ _ hfu (H9.nth 0 rfl)).mono ?_
    intro e w10 he2
    rcases evalK_cases hin2 he2 with ⟨l', en', t', u', g1', rfl, hp10⟩ | ⟨ds, R, p1, c1, g1', -⟩
    · have H10 := H9.upd 0 rfl hp10
      refine ⟨_, _, rfl, H10.al fun k5 w11 H11 => ?_⟩
      refine H11.sts0 2 (n := 5) (vs := ocZ) rfl rfl rfl ocz_one fun w12 H12 => ?_
      refine nil_false (split_true (split_true (nil_false (split_true (nil_false ?_)))))
      exact ret_true h H12 rfl
    · rw [g1] at g1'; cases g1'
  · have H7 := St.open_ (L := [globA, _]) (L' := []) (H6.upd 0 rfl hp7)
    refine ⟨_, _, rfl, H7.al fun k3 w8 H8 => ?_⟩
    refine H8.sts0 2 (n := 5) (vs := ocC (ocOf R) p1 c1) rfl rfl rfl (oc_one _ _ _) fun w9 H9 => ?_
    rintro z4 rfl z5 rfl z6 rfl
    rw [e1, e2, e3]
    refine (eval_any s _ _ hfu (H9.nth 0 rfl)).mono ?_
    intro e w10 he2
    rcases evalK_cases hin2 he2 with ⟨l', en', t', u', g1', -⟩ | ⟨ds2, R2, p2, c2, g1', g2', g3', rfl, hp10⟩
    · rw [g1] at g1'; cases g1'
    rw [g1] at g1'
    cases g1'
    have H10 := St.open_ (L := [globA, _]) (L' := [_, _]) (H9.upd 0 rfl hp10)
    refine ⟨_, _, rfl, H10.al fun k5 w11 H11 => ?_⟩
    refine H11.sts0 4 (n := 5) (vs := ocC (ocOf R2) p2 c2) rfl rfl rfl (oc_one _ _ _) fun w12 H12 => ?_
    have H13 : St W globA.own w12 [globA, sl 32 1 (.slice p2 (ocOf R2).globals.length c2) (ocOf R2).globals.length ((ocOf R2).globals.map vU), sl 32 1 (.slice p1 (ocOf R).globals.length c1) (ocOf R).globals.length ((ocOf R).globals.map vU), blk k3 (ocC (ocOf R) p1 c1) 35, blk k5 (ocC (ocOf R2) p2 c2) 35] := H12
    refine nil_true (split_false (nil_true (split_false ?_)))
    have hE : (ocOf R).ended = true ∧ (ocOf R).fault = 0 → ocOf R2 = ocOf R := by
      rintro ⟨a, b⟩
      cases R with
      | ok v r =>
        have g4 := rgo_r0 (a := 50 * m) (b := m) g2
        rw [Int.toNat_natCast, Int.toNat_natCast] at g4 g2'
        rw [g4] at g2'
        subst g2'
        rfl
      | stop n r => cases n with
        | zero => cases a
        | succ n => cases b
      | out => exact absurd rfl g3
    refine ⟨_, H13.ld 3 rfl (i := 0) rfl, Sx.split_of (fun _ => ret_true h H13 rfl) (fun q1 => ?_)⟩
    refine ⟨_, H13.ld 3 rfl (i := 3) rfl, Sx.split_of (fun _ => ret_true h H13 rfl) (fun q2 => ?_)⟩
    have q1 : (ocOf R).ended = true := by simpa using q1
    have q2 : (ocOf R).fault = 0 := by have := bne_eq_false_iff_eq.1 q2; omega
    rw [hE ⟨q1, q2⟩] at H13
    refine ⟨_, H13.ld 3 rfl (i := 1) rfl, _, H13.ld 4 rfl (i := 1) rfl, Sx.split_of (fun q => by simp at q) (fun _ => ?_)⟩
    refine ⟨_, H13.ld 4 rfl (i := 0) rfl, Sx.split_of (fun q => by rw [q1] at q; cases q) (fun _ => ?_)⟩
    refine ⟨_, H13.ld 3 rfl (i := 2) rfl, _, H13.ld 4 rfl (i := 2) rfl, Sx.split_of (fun q => by simp at q) (fun _ => ?_)⟩
    refine ⟨_, H13.ld 4 rfl (i := 3) rfl, Sx.split_of (fun q => by rw [q2] at q; cases q) (fun _ => ?_)⟩
    refine ⟨_, _, _, H13.ld 3 rfl (i := 4) rfl, _, _, _, H13.ld 4 rfl (i := 4) rfl, Sx.split_of (fun q => by simp at q) (fun _ => ?_)⟩
    obtain ⟨O, hO⟩ : ∃ O, O = ocOf R := ⟨_, rfl⟩
    rw [← hO] at H13
    refine ⟨fun x w => (∃ j : Nat, x = (j : Int) ∧ j ≤ O.globals.length) ∧ St W globA.own w [globA, sl 32 1 (.slice p2 O.globals.length c2) O.globals.length (O.globals.map vU), sl 32 1 (.slice p1 O.globals.length c1) O.globals.length (O.globals.map vU), blk k3 (ocC O p1 c1) 35, blk k5 (ocC O p2 c2) 35], fun x _ => O.globals.length - x.toNat, ⟨⟨0, rfl, Nat.zero_le _⟩, H13⟩, ?_⟩
    rintro - _ w13 ⟨⟨j, rfl, hj⟩, H14⟩
    refine ⟨_, _, _, H14.ld 3 rfl (i := 4) rfl, Sx.split_of (fun q => ?_) (fun _ => ret_true h H14 rfl)⟩
    have q : j < O.globals.length := by have := of_decide_eq_true q; omega
    obtain ⟨_, _, -, -, hmax, -⟩ := Sl.open1 (show Sl w13 _ 1 _ _ _ from H14.nth 1 rfl)
    unfold maxLen at hmax
    refine ⟨_, _, _, H14.ld 3 rfl (i := 4) rfl, ⟨by omega, by omega⟩, els_get (H14.nth 2 rfl) q fun g o hc => ?_⟩
    rw [ix1]
    refine ⟨_, hc, _, _, _, H14.ld 4 rfl (i := 4) rfl, ⟨by omega, by omega⟩, els_get (H14.nth 1 rfl) q fun g' o' hc' => ?_⟩
    rw [ix1]
    refine ⟨_, hc', ?_⟩
    rintro w14 n rfl
    refine Sx.split_of (fun q => by simp at q) (fun _ => ?_)
    rintro z13 rfl
    rw [show ((j : Nat) : Int) + 1 = ((j + 1 : Nat) : Int) by omega, Go.Bits.n64 (by omega)]
    exact ⟨⟨⟨j + 1, rfl, q⟩, H14.drewN n⟩, by show _ - ((j + 1 : Nat) : Int).toNat < _ - ((j : Nat) : Int).toNat; omega⟩
end Go.Proofs.YtojogkljneonmaaGreatDoor
