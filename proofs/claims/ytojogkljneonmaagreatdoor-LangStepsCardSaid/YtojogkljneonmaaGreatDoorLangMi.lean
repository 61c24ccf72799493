import Derived.Test.YtojogkljneonmaaGreatDoorLangMe
/- The evaluator's operations. No condition. -/
namespace Go.Proofs.YtojogkljneonmaaGreatDoor
open Go Go.Proofs Go.Sep Go.XHeap Go.RowKit Go.Lang
set_option linter.unusedVariables false
set_option linter.unusedSimpArgs false
variable {W : World} {Q : Ending → World → Prop}

/-! ### what alu gives are numbers of 32 bits -/
def E32 (x : Int) : Prop := 0 ≤ x ∧ x < 4294967296
theorem e32_m (x : Int) : E32 (x % 4294967296) := ⟨by omega, by omega⟩
theorem e32_bits (f : BinOp) (a b : Int) : E32 (bits f .u32 a b) := by
  unfold bits E32
  rw [Go.Sx.w32m]; omega
theorem e32_lit {n : Int} (h0 : 0 ≤ n) (h1 : n < 4294967296) : E32 n := ⟨h0, h1⟩
theorem e32_one {c : Prop} [Decidable c] : E32 (if c then 1 else 0) := by split <;> exact e32_lit (by decide) (by decide)
theorem e32_mulhu {a b : Int} (ha : E32 a) (hb : E32 b) : E32 (a * b / 4294967296) := by
  obtain ⟨a0, a1⟩ := ha
  obtain ⟨b0, b1⟩ := hb
  have h1 : a * b ≤ 4294967295 * 4294967295 := Int.mul_le_mul (by omega) (by omega) b0 (by decide)
  have h0 : 0 ≤ a * b := Int.mul_nonneg a0 b0
  generalize a * b = c at h1 h0
  exact ⟨by omega, by omega⟩
theorem e32_div {a b : Int} (ha : E32 a) (hb : 0 ≤ b) : E32 (a / b) := by
  obtain ⟨a0, a1⟩ := ha
  refine ⟨Int.ediv_nonneg a0 hb, ?_⟩
  have := Int.ediv_le_self b a0
  omega
theorem e32_mod {a b : Int} (hb : E32 b) (hn : b ≠ 0) : E32 (a % b) := by
  obtain ⟨b0, b1⟩ := hb
  have := Int.emod_lt_of_pos a (show 0 < b by omega)
  exact ⟨Int.emod_nonneg _ hn, by omega⟩
theorem e32_exec {op a b : Int} (ha : E32 a) (hb : E32 b) : E32 (alu.execF op a b) := by
  have hp : ∀ n : Nat, (0 : Int) ≤ 2 ^ n := fun n => Int.pow_nonneg (by decide)
  unfold alu.execF
  split <;> first
    | exact e32_m _
    | exact e32_bits _ _ _
    | exact e32_one
    | exact e32_div ha (hp _)
    | exact e32_mulhu ha hb
    | (unfold alu.quoF; split; exact e32_lit (by decide) (by decide); exact e32_m _)
    | (unfold alu.remF; split; exact ha; exact e32_m _)
    | (unfold alu.divuF; split; exact e32_lit (by decide) (by decide); exact e32_div ha hb.1)
    | (unfold alu.remuF; split; exact ha; exact e32_mod hb (by assumption))
    | exact e32_lit (by decide) (by decide)
def uI (z : Int) : UInt32 := UInt32.ofNat z.toNat
theorem vU_uI {z : Int} (h : E32 z) : vU (uI z) = .int .u32 z := by
  obtain ⟨h0, h1⟩ := h
  unfold vU uI
  rw [UInt32.toNat_ofNat', Nat.mod_eq_of_lt (by omega)]
  congr 1
  omega
theorem e32_u (x : UInt32) : E32 (x.toNat : Int) := ⟨by omega, by have := x.toNat_lt; omega⟩
/-- what an operation of two values does -/
def opE (s : ByteArray) (x y : UInt32) : UInt32 :=
  if s = ofL [38, 38] then tr (y != 0) else if s = ofL [124, 124] then tr (y != 0) else if s = ofL [61, 61] then tr (x == y) else if s = ofL [33, 61] then tr (x != y)
  else if s = ofL [62] then uI (alu.execF 31 y.toNat x.toNat) else if s = ofL [60, 61] then uI (IntKind.wrap .u32 (1 - alu.execF 31 y.toNat x.toNat)) else if s = ofL [62, 61] then uI (IntKind.wrap .u32 (1 - alu.execF 31 x.toNat y.toNat))
  else uI (alu.execF (opOf s) x.toNat y.toNat)
theorem exec_q (op : Int) (a b : UInt32) (w : World) : Calls Tryz.prog 120 #[.int .i64 op, vU a, vU b] w fun e w' => e = .returned (vU (uI (alu.execF op a.toNat b.toNat))) ∧ Hush w w' :=
  (alu.exec_any op a.toNat b.toNat (e32_u a).1 (e32_u a).2 (e32_u b).1 (e32_u b).2 w).mono fun e w' h => ⟨by rw [vU_uI (e32_exec (e32_u a) (e32_u b))]; exact h.1, h.2⟩
theorem truth_q (b : Bool) (w : World) : Calls Tryz.prog 104 #[.bool b] w fun e w' => e = .returned (vU (tr b)) ∧ Hush w w' := by
  refine vc104 b (Sx.split_of (fun h => ?_) (fun h => ?_))
  · subst h; exact ⟨rfl, XTouch.refl _ _⟩
  · subst h; exact ⟨rfl, XTouch.refl _ _⟩
theorem s_split {s t : ByteArray} {A B : Prop} (h1 : s = t → A) (h2 : s ≠ t → B) : Sx.split (ByteArray.toList s == ByteArray.toList t) A B := by
  rw [toList_eq]
  exact Sx.split_of (fun h => h1 (of_decide_eq_true h)) (fun h => h2 (of_decide_eq_false h))
theorem does_q (s : ByteArray) (w : World) : Calls Tryz.prog 121 #[.string s] w fun e w' => e = .returned (.int .i64 (opOf s)) ∧ w' = w := by
  refine vc121 s ?_
  unfold opOf
  refine s_split (fun h => ⟨by rw [if_pos (show s = ofL [124] from h)], rfl⟩) (fun h => ?_)
  rw [if_neg (show ¬ s = ofL [124] from h)]
  refine s_split (fun h => ⟨by rw [if_pos (show s = ofL [94] from h)], rfl⟩) (fun h => ?_)
  rw [if_neg (show ¬ s = ofL [94] from h)]
  refine s_split (fun h => ⟨by rw [if_pos (show s = ofL [38] from h)], rfl⟩) (fun h => ?_)
  rw [if_neg (show ¬ s = ofL [38] from h)]
  refine s_split (fun h => ⟨by rw [if_pos (show s = ofL [60] from h)], rfl⟩) (fun h => ?_)
  rw [if_neg (show ¬ s = ofL [60] from h)]
  refine s_split (fun h => ⟨by rw [if_pos (show s = ofL [60, 60] from h)], rfl⟩) (fun h => ?_)
  rw [if_neg (show ¬ s = ofL [60, 60] from h)]
  refine s_split (fun h => ⟨by rw [if_pos (show s = ofL [62, 62] from h)], rfl⟩) (fun h => ?_)
  rw [if_neg (show ¬ s = ofL [62, 62] from h)]
  refine s_split (fun h => ⟨by rw [if_pos (show s = ofL [43] from h)], rfl⟩) (fun h => ?_)
  rw [if_neg (show ¬ s = ofL [43] from h)]
  refine s_split (fun h => ⟨by rw [if_pos (show s = ofL [45] from h)], rfl⟩) (fun h => ?_)
  rw [if_neg (show ¬ s = ofL [45] from h)]
  refine s_split (fun h => ⟨by rw [if_pos (show s = ofL [42] from h)], rfl⟩) (fun h => ?_)
  rw [if_neg (show ¬ s = ofL [42] from h)]
  refine s_split (fun h => ⟨by rw [if_pos (show s = ofL [47] from h)], rfl⟩) (fun h => ?_)
  rw [if_neg (show ¬ s = ofL [47] from h)]
  refine s_split (fun h => ⟨by rw [if_pos (show s = ofL [37] from h)], rfl⟩) (fun h => ?_)
  rw [if_neg (show ¬ s = ofL [37] from h)]
  exact ⟨rfl, rfl⟩
theorem u_eq (x y : UInt32) : (((x.toNat : Int) == (y.toNat : Int)) : Bool) = (x == y) := by
  rw [Bool.eq_iff_iff]
  simp only [beq_iff_eq]
  exact ⟨fun h => UInt32.toNat_inj.1 (by omega), fun h => by rw [h]⟩
theorem u_ne (x y : UInt32) : (((x.toNat : Int) != (y.toNat : Int)) : Bool) = (x != y) := by
  show (!((x.toNat : Int) == (y.toNat : Int))) = !(x == y)
  rw [u_eq]
theorem u_z (x : UInt32) : (((x.toNat : Int) == 0) : Bool) = (x == 0) := u_eq x 0
theorem u_nz (x : UInt32) : (((x.toNat : Int) != 0) : Bool) = (x != 0) := u_ne x 0
theorem e32_wrap (z : Int) : E32 (IntKind.wrap .u32 z) := by
  unfold E32
  rw [Go.Sx.w32m]; omega
/-- the end of an operation of two values -/
theorem bin_tail {kb : Nat} {sg : ByteArray} {x y : UInt32} {zx zy : Int} (hx : zx = (x.toNat : Int)) (hy : zy = (y.toNat : Int)) (hc : ∀ w, Hush W w → w.cell? ⟨kb, 3, none⟩ = some (.string sg)) (hQ : ∀ w', Hush W w' → Q (.returned (vU (opE sg x y))) w') :
    ∃ s3 : ByteArray, W.cell? ⟨kb, 0 + 3, none⟩ = some (.string s3) ∧ Sx.split (ByteArray.toList s3 == ByteArray.toList (ByteArray.mk #[38, 38]))
      (Calls Tryz.prog 104 #[.bool (zy != 0)] W fun e W4 => ∃ z : Int, e = .returned (.int .u32 z) ∧ Q (.returned (.int .u32 z)) W4)
      (Sx.split (ByteArray.toList s3 == ByteArray.toList (ByteArray.mk #[124, 124]))
      (Calls Tryz.prog 104 #[.bool (zy != 0)] W fun e W4 => ∃ z : Int, e = .returned (.int .u32 z) ∧ Q (.returned (.int .u32 z)) W4)
      (Sx.split (ByteArray.toList s3 == ByteArray.toList (ByteArray.mk #[61, 61]))
      (Calls Tryz.prog 104 #[.bool (zx == zy)] W fun e W4 => ∃ z : Int, e = .returned (.int .u32 z) ∧ Q (.returned (.int .u32 z)) W4)
      (Sx.split (ByteArray.toList s3 == ByteArray.toList (ByteArray.mk #[33, 61]))
      (Calls Tryz.prog 104 #[.bool (zx != zy)] W fun e W4 => ∃ z : Int, e = .returned (.int .u32 z) ∧ Q (.returned (.int .u32 z)) W4)
      (Sx.split (ByteArray.toList s3 == ByteArray.toList (ByteArray.mk #[62]))
      (Calls Tryz.prog 120 #[.int .i64 31, .int .u32 zy, .int .u32 zx] W fun e W4 => ∃ z : Int, e = .returned (.int .u32 z) ∧ Q (.returned (.int .u32 z)) W4)
      (Sx.split (ByteArray.toList s3 == ByteArray.toList (ByteArray.mk #[60, 61]))
      (Calls Tryz.prog 120 #[.int .i64 31, .int .u32 zy, .int .u32 zx] W fun e W4 => ∃ z : Int, e = .returned (.int .u32 z) ∧ ∀ z9 : Int, z9 = IntKind.wrap .u32 (1 - z) → Q (.returned (.int .u32 z9)) W4)
      (Sx.split (ByteArray.toList s3 == ByteArray.toList (ByteArray.mk #[62, 61]))
      (Calls Tryz.prog 120 #[.int .i64 31, .int .u32 zx, .int .u32 zy] W fun e W4 => ∃ z : Int, e = .returned (.int .u32 z) ∧ ∀ z9 : Int, z9 = IntKind.wrap .u32 (1 - z) → Q (.returned (.int .u32 z9)) W4)
      (∃ s4 : ByteArray, W.cell? ⟨kb, 0 + 3, none⟩ = some (.string s4) ∧ Calls Tryz.prog 121 #[.string s4] W fun e W4 => ∃ z : Int, e = .returned (.int .i64 z) ∧ Calls Tryz.prog 120 #[.int .i64 z, .int .u32 zx, .int .u32 zy] W4 fun e5 W5 => ∃ z5 : Int, e5 = .returned (.int .u32 z5) ∧ Q (.returned (.int .u32 z5)) W5))))))) := by
  subst hx; subst hy
  have hc0 := hc W (XTouch.refl _ _)
  have q1 : ∀ (b : Bool), opE sg x y = tr b → Calls Tryz.prog 104 #[.bool b] W fun e W4 => ∃ z : Int, e = .returned (.int .u32 z) ∧ Q (.returned (.int .u32 z)) W4 := fun b hb => (truth_q b W).mono fun e w h => ⟨_, h.1, by have := hQ w h.2; rw [hb] at this; exact this⟩
  have q2 : ∀ (op : Int) (a b : UInt32), opE sg x y = uI (alu.execF op a.toNat b.toNat) → ∀ w2, Hush W w2 → Calls Tryz.prog 120 #[.int .i64 op, .int .u32 a.toNat, .int .u32 b.toNat] w2 fun e W4 => ∃ z : Int, e = .returned (.int .u32 z) ∧ Q (.returned (.int .u32 z)) W4 := fun op a b hb w2 h2 => (exec_q op a b w2).mono fun e w h => ⟨_, h.1, by have := hQ w (hush_trans h2 h.2); rw [hb] at this; exact this⟩
  have q3 : ∀ (a b : UInt32), opE sg x y = uI (IntKind.wrap .u32 (1 - alu.execF 31 a.toNat b.toNat)) → Calls Tryz.prog 120 #[.int .i64 31, .int .u32 a.toNat, .int .u32 b.toNat] W fun e W4 => ∃ z : Int, e = .returned (.int .u32 z) ∧ ∀ z9 : Int, z9 = IntKind.wrap .u32 (1 - z) → Q (.returned (.int .u32 z9)) W4 := fun a b hb => (exec_q 31 a b W).mono fun e w h => by
    refine ⟨alu.execF 31 a.toNat b.toNat, by rw [h.1, vU_uI (e32_exec (e32_u a) (e32_u b))], ?_⟩
    intro z9 hz
    rw [hz]
    have := hQ w h.2
    rw [hb, vU_uI (e32_wrap _)] at this
    exact this
  unfold opE at q1 q2 q3
  refine ⟨sg, hc0, s_split (fun h => ?_) (fun h => ?_)⟩
  · rw [u_nz]; exact q1 _ (by rw [if_pos (show sg = ofL [38, 38] from h)])
  rw [if_neg (show ¬ sg = ofL [38, 38] from h)] at q1 q2 q3
  refine s_split (fun h => ?_) (fun h => ?_)
  · rw [u_nz]; exact q1 _ (by rw [if_pos (show sg = ofL [124, 124] from h)])
  rw [if_neg (show ¬ sg = ofL [124, 124] from h)] at q1 q2 q3
  refine s_split (fun h => ?_) (fun h => ?_)
  · rw [u_eq]; exact q1 _ (by rw [if_pos (show sg = ofL [61, 61] from h)])
  rw [if_neg (show ¬ sg = ofL [61, 61] from h)] at q1 q2 q3
  refine s_split (fun h => ?_) (fun h => ?_)
  · rw [u_ne]; exact q1 _ (by rw [if_pos (show sg = ofL [33, 61] from h)])
  rw [if_neg (show ¬ sg = ofL [33, 61] from h)] at q1 q2 q3
  refine s_split (fun h => ?_) (fun h => ?_)
  · exact q2 _ y x (by rw [if_pos (show sg = ofL [62] from h)]) W (XTouch.refl _ _)
  rw [if_neg (show ¬ sg = ofL [62] from h)] at q1 q2 q3
  refine s_split (fun h => ?_) (fun h => ?_)
  · exact q3 y x (by rw [if_pos (show sg = ofL [60, 61] from h)])
  rw [if_neg (show ¬ sg = ofL [60, 61] from h)] at q1 q2 q3
  refine s_split (fun h => ?_) (fun h => ?_)
  · exact q3 x y (by rw [if_pos (show sg = ofL [62, 61] from h)])
  rw [if_neg (show ¬ sg = ofL [62, 61] from h)] at q1 q2 q3
  refine ⟨sg, hc0, (does_q sg W).mono ?_⟩
  rintro _ w2 ⟨rfl, rfl⟩
  exact ⟨_, rfl, q2 _ x y rfl _ (XTouch.refl _ _)⟩
end Go.Proofs.YtojogkljneonmaaGreatDoor
/- The evaluator walked: expressions. No condition. -/
namespace Go.Proofs.YtojogkljneonmaaGreatDoor
open Go Go.Proofs Go.Sep Go.XHeap Go.RowKit Go.Lang
set_option linter.unusedVariables false
set_option linter.unusedSimpArgs false
variable {W0 W : World} {M : Nat → Prop} {L L1 : List Asn} {X : Ev} {h h0 : Eh} {s : Rn} {F : Ft} {nw : Nat} {f : Nat}

def evK (v : List UInt32) : Value := vU (hd v)
def stK (v : List UInt32) : Value := .tuple #[vU (hd v), .bool (decide (v ≠ []))]
/-- what a part of the program leaves -/
def CameS (X : Ev) (h : Eh) (W0 : World) (M : Nat → Prop) (L : List Asn) (K : List UInt32 → Value) (r : Rs Rn) (e : Ending) (w' : World) : Prop := match r with
  | .ok v s' => e = .returned (K v) ∧ ∃ po co, St W0 M w' (rnA X { h with po := po, co := co } s' :: L)
  | .stop k s' => e = .panicked (stopped k) ∧ ∃ (h' : Eh) (z1 z2 : Int) (v : Value), St W0 M w' (all (stL X h' z1 z2 v s') :: L)
  | .out => False
/-- what holds all the time -/
def Gd' (nw : Nat) (s : Rn) : Prop := s.words.length = nw ∧ s.steps ≤ 20000 ∧ s.room ≤ 512 ∧ s.out.length + s.steps ≤ 20000
/-- the functions in memory -/
structure Code (X : Ev) (F : Ft) (nw : Nat) : Prop where
  hdr : ∀ k n b, F k = some (n, b) → ∃ kb t nm ps no, tV X.DA b [.iface 113 (pt kb)] ∧ ∀ W, X.DA.at_ W → Blk W k (fnC t nm ps (pt kb) (n : Nat) no).toArray 115
  ok : ∀ k n b, F k = some (n, b) → wf F nw n b 2 ∧ n ≤ 24
  nw : nw ≤ 1000
structure Wk (X : Ev) (F : Ft) (nw : Nat) (f : Nat) : Prop where
  e : ∀ {W0 W : World} {M : Nat → Prop} {L : List Asn} {h : Eh} {s : Rn} {x : T} {v : Value}, St W0 M W (rnA X h s :: L) → wf F nw s.slots.length x 0 → tV X.DA x [v] → Gd' nw s → go opE F f (.e x) s ≠ .out →
    Calls Tryz.prog 71 #[pt X.k, v] W (CameS X h W0 M L evK (go opE F f (.e x) s))
  s : ∀ {W0 W : World} {M : Nat → Prop} {L : List Asn} {h : Eh} {s : Rn} {x : T} {v : Value}, St W0 M W (rnA X h s :: L) → wf F nw s.slots.length x 2 → tV X.DA x [v] → Gd' nw s → go opE F f (.s x) s ≠ .out →
    Calls Tryz.prog 40 #[pt X.k, v] W (CameS X h W0 M L stK (go opE F f (.s x) s))
  en : ∀ {W0 W : World} {M : Nat → Prop} {L : List Asn} {h : Eh} {s : Rn} {p : Option Addr} {c : Nat} {args : List UInt32} {k n : Nat} {b : T}, St W0 M W (rnA X h s :: sl 32 1 (.slice p args.length c) args.length (args.map vU) :: L) → F k = some (n, b) → args.length ≤ n → Gd' nw s → go opE F f (.en k args) s ≠ .out →
    Calls Tryz.prog 21 #[pt X.k, pt k, .slice p args.length c] W (CameS X h W0 M L evK (go opE F f (.en k args) s))
theorem rn_code (H : St W0 M W (rnA X h s :: L)) : X.DA.at_ W := (rn_open H).nth 4 rfl
theorem rn_stop (H : St W0 M W (rnA X h s :: L)) : ∃ (h' : Eh) (z1 z2 : Int) (v : Value), St W0 M W (all (stL X h' z1 z2 v s) :: L) := by
  have H1 : St W0 M W ([_, _, _, _, _] ++ L) := rn_open H
  have H2 := H1.perm (L' := [_, _, _, _] ++ (_ :: L)) (by
    refine (List.Perm.append_right L (List.Perm.cons _ (List.Perm.cons _ (List.Perm.cons _ (List.Perm.swap _ _ [])))))) 
  have H3 := St.shut (L := [_, _, _, _]) (L' := _ :: L) H2
  have H4 : St W0 M W (all (stL X h (s.steps : Nat) (s.room : Nat) (.slice h.ps s.slots.length h.cs) s) :: L) := (H3.swap).tail
  exact ⟨h, _, _, _, H4⟩
theorem bind_assoc {σ : Type} (r : Rs σ) (k k2 : List UInt32 → σ → Rs σ) : (r.bind k).bind k2 = r.bind fun v s => (k v s).bind k2 := by cases r <;> rfl
/-- a part of a part: an expression -/
theorem sub_e {fn : FuncId} {args : Array Value} {r1 : Rs Rn} {k : List UInt32 → Rn → Rs Rn} {K' : List UInt32 → Value} {φ : Int → World → Prop} {Ψ : Ending → World → Prop} (hL : ∀ {w : World} {A : Asn}, St W0 M w (A :: L1) → St W0 M w (A :: L))
    (hc : Calls Tryz.prog fn args W (CameS X h W0 M L1 evK r1)) (hok : ∀ v s' w' po co, r1 = .ok v s' → St W0 M w' (rnA X { h with po := po, co := co } s' :: L1) → φ ((hd v).toNat : Int) w')
    (hΨ : ∀ l w', CameS X h0 W0 M L K' (r1.bind k) (.panicked l) w' → Ψ (.panicked l) w') :
    Calls Tryz.prog fn args W fun e w' => (∃ z : Int, e = .returned (.int .u32 z) ∧ φ z w') ∨ ∃ l, e = .panicked l ∧ Ψ (.panicked l) w' := by
  refine hc.mono fun e w' he => ?_
  cases hr : r1 with
  | ok v s' =>
    rw [hr] at he
    obtain ⟨rfl, po, co, H⟩ := he
    exact .inl ⟨_, rfl, hok v s' w' po co hr H⟩
  | stop n s' =>
    rw [hr] at he
    obtain ⟨rfl, h', z1, z2, v, H⟩ := he
    refine .inr ⟨_, rfl, hΨ _ _ ?_⟩
    rw [hr]
    exact ⟨rfl, h', z1, z2, v, hL H⟩
  | out => rw [hr] at he; exact he.elim
theorem gd_step (hg : Gd' nw s) : Gd' nw { s with steps := s.steps - 1 } := ⟨hg.1, by have := hg.2.1; show s.steps - 1 ≤ 20000; omega, hg.2.2.1, by have := hg.2.2.2; show s.out.length + (s.steps - 1) ≤ 20000; omega⟩
theorem gd_ok {q : Rq} {s' : Rn} {v : List UInt32} (hg : Gd' nw s) (h : go opE F f q s = .ok v s') : Gd' nw s' ∧ s'.slots.length = s.slots.length ∧ s'.steps + q.cost ≤ s.steps ∧ s'.room = s.room ∧ q.len v := by
  obtain ⟨a, b, c, d, e, g⟩ := fine_ok h
  obtain ⟨h1, h2, h3, h4⟩ := hg
  exact ⟨⟨by omega, by omega, by omega, by omega⟩, b, a, d, g⟩
theorem u_neg (v : UInt32) : IntKind.wrap .u32 (0 - (v.toNat : Int)) = (((0 - v : UInt32)).toNat : Int) := by
  rw [Go.Sx.w32m]
  have := v.toNat_lt
  rw [UInt32.toNat_sub]
  simp
  omega
theorem u_not (v : UInt32) : IntKind.wrap .u32 (((BitVec.ofInt (IntKind.bits .u32) (if IntKind.signed .u32 = true then -1 else IntKind.max .u32) ^^^ BitVec.ofInt (IntKind.bits .u32) (v.toNat : Int)).toNat : Nat) : Int) = ((~~~ v : UInt32).toNat : Int) := by
  show IntKind.wrap .u32 (((BitVec.ofInt 32 (if IntKind.signed .u32 = true then -1 else IntKind.max .u32) ^^^ BitVec.ofInt 32 (v.toNat : Int)).toNat : Nat) : Int) = _
  have h1 : (BitVec.ofInt 32 (if IntKind.signed .u32 = true then -1 else IntKind.max .u32)) = BitVec.allOnes 32 := by decide
  have h2 : (BitVec.ofInt 32 (v.toNat : Int)) = (BitVec.ofNat 32 v.toNat) := by simp
  have := v.toNat_lt
  rw [h1, h2, BitVec.allOnes_xor, BitVec.toNat_not, BitVec.toNat_ofNat, Nat.mod_eq_of_lt (by omega), Go.Bits.n32 (by omega), UInt32.toNat_not]
theorem el_words {g o i : Nat} (H : St W0 M W (rnA X h s :: L)) (e : X.pw = some ⟨g, o, none⟩) (hi : i < s.words.length) : W.cell? ⟨g, o + i, none⟩ = some (vU (s.words.getD i 0)) := by
  obtain ⟨g', off, e', hc, -⟩ := els_at ((rn_open H).nth 1 rfl) hi
  rw [e] at e'; cases e'
  rw [hc, getD_map _ hi]
/-- an element is written -/
theorem el_st {g o i : Nat} {v : UInt32} {φ : World → Prop} (H : St W0 M W (rnA X h s :: L)) (e : X.pw = some ⟨g, o, none⟩) (hi : i < s.words.length) (hφ : ∀ w', St W0 M w' (rnA X h { s with words := s.words.set i v } :: L) → φ w') :
    (∃ u, W.cell? ⟨g, o + i, none⟩ = some u) ∧ W.frozen? ⟨g, o + i, none⟩ = false ∧ ∀ w', w' = W.setCell ⟨g, o + i, none⟩ (vU v) → φ w' := by
  have H1 := rn_open H
  have hS : Sl W 32 1 (.slice X.pw s.words.length X.cw) s.words.length (s.words.map vU) := H1.nth 1 rfl
  obtain ⟨g', off', e', hc, hf⟩ := els_at hS hi
  rw [e] at e'; cases e'
  refine ⟨⟨_, el_words H e hi⟩, hf, ?_⟩
  rintro w' rfl
  rw [e] at hS
  have hp := post_el hS hi (vU v)
  rw [← e, ← List.map_set] at hp
  have H2 := H1.upd 1 rfl hp
  refine hφ _ (rn_shut (s := { s with words := s.words.set i v }) ?_)
  unfold rnL
  simp only [List.length_set]
  exact H2
theorem tV_len {DA : Asn} : ∀ {xs : T} {vs : List Value} {ns : Nat}, tV DA xs vs → wf F nw ns xs 1 → vs.length = xs.len
  | .nil, vs, _, h, _ => by rw [show vs = [] from h]; rfl
  | .cons x xs, vs, ns, h, hw => by
    obtain ⟨v, us, -, h2, rfl⟩ := h
    rcases hw with ⟨-, -, hw⟩ | ⟨e, -⟩
    · show us.length + 1 = xs.len + 1
      rw [tV_len h2 hw]
    · cases e
  | .num .., _, _, _, h => by cases h.1
  | .name .., _, _, _, h => by cases h.1
  | .index .., _, _, _, h => by cases h.1
  | .call .., _, _, _, h => by cases h.1
  | .un .., _, _, _, h => by cases h.1
  | .bin .., _, _, _, h => by cases h.1
  | .letS .., _, _, _, h => by cases h.1
  | .setS .., _, _, _, h => by cases h.1
  | .putS .., _, _, _, h => by cases h.1
  | .ifS .., _, _, _, h => by cases h.1
  | .whileS .., _, _, _, h => by cases h.1
  | .retS .., _, _, _, h => by cases h.1
  | .prtS .., _, _, _, h => by cases h.1
  | .doS .., _, _, _, h => by cases h.1
  | .block .., _, _, _, h => by cases h.1
end Go.Proofs.YtojogkljneonmaaGreatDoor
/- The evaluator walked: an expression. No condition. -/
namespace Go.Proofs.YtojogkljneonmaaGreatDoor
open Go Go.Proofs Go.Sep Go.XHeap Go.RowKit Go.Lang
set_option linter.unusedVariables false
set_option linter.unusedSimpArgs false
variable {W0 W : World} {M : Nat → Prop} {L L1 : List Asn} {X : Ev} {h h0 : Eh} {s : Rn} {F : Ft} {nw : Nat} {f : Nat}

theorem bin_eval (C : Code X F nw) (I : Wk X F nw f) {t : Tok} {x y : T} {kb : Nat} {u v : Value} {K' : List UInt32 → Value} {R0 : Rs Rn} (hx : tV X.DA x [u]) (hy : tV X.DA y [v]) (hb : ∀ W, X.DA.at_ W → Blk W kb (binC t u v).toArray 230)
    (hwx : wf F nw s.slots.length x 0) (hwy : wf F nw s.slots.length y 0) (H : St W0 M W (rnA X h s :: L)) (hg : Gd' nw s)
    (hR : R0 = (go opE F f (.e x) s).bind fun v s => if t.s = cAndAnd ∧ hd v = 0 then .ok [0] s else if t.s = cOrOr ∧ hd v ≠ 0 then .ok [1] s else (go opE F f (.e y) s).bind fun u s => .ok [opE t.s (hd v) (hd u)] s) (hne : R0 ≠ .out) :
    Calls Tryz.prog 105 #[pt X.k, pt kb] W (CameS X h W0 M L evK R0) := by
  refine vc105 X.k 0 kb 0 ⟨_, (hb _ (rn_code H)).cell' (i := 4) rfl, ?_⟩
  rw [hR]
  have hne1 : go opE F f (.e x) s ≠ .out := fun e => by rw [e] at hR; exact hne hR
  refine sub_e id (I.e H hwx hx hg hne1) (fun xv s1 w1 po co h1 H1 => ?_) (fun _ _ h => h)
  obtain ⟨hg1, hs1, -, -, -⟩ := gd_ok hg h1
  have hR : R0 = if t.s = cAndAnd ∧ hd xv = 0 then .ok [0] s1 else if t.s = cOrOr ∧ hd xv ≠ 0 then .ok [1] s1 else (go opE F f (.e y) s1).bind fun u s => .ok [opE t.s (hd xv) (hd u)] s := by rw [hR, h1]; rfl
  rw [h1, rb_ok, ← hR]
  have hc : ∀ {w : World} {A : Asn} {L' : List Asn} {s' : Rn} {h' : Eh}, St W0 M w (rnA X h' s' :: L') → w.cell? ⟨kb, 3, none⟩ = some (.string t.s) := fun H => (hb _ (rn_code H)).cell' (i := 3) rfl
  have second : ¬ (t.s = cAndAnd ∧ hd xv = 0) → ¬ (t.s = cOrOr ∧ hd xv ≠ 0) → ∃ v0 : Value, w1.cell? ⟨kb, 0 + 5, none⟩ = some v0 ∧ Calls Tryz.prog 71 #[pt X.k, v0] w1 fun e w' => (∃ z : Int, e = .returned (.int .u32 z) ∧ ∃ s3 : ByteArray, w'.cell? ⟨kb, 0 + 3, none⟩ = some (.string s3) ∧ Sx.split (ByteArray.toList s3 == ByteArray.toList (ByteArray.mk #[38, 38]))
      (Calls Tryz.prog 104 #[.bool (z != 0)] w' fun e W4 => ∃ z : Int, e = .returned (.int .u32 z) ∧ CameS X h W0 M L evK R0 (.returned (.int .u32 z)) W4)
      (Sx.split (ByteArray.toList s3 == ByteArray.toList (ByteArray.mk #[124, 124]))
      (Calls Tryz.prog 104 #[.bool (z != 0)] w' fun e W4 => ∃ z : Int, e = .returned (.int .u32 z) ∧ CameS X h W0 M L evK R0 (.returned (.int .u32 z)) W4)
      (Sx.split (ByteArray.toList s3 == ByteArray.toList (ByteArray.mk #[61, 61]))
      (Calls Tryz.prog 104 #[.bool (((hd xv).toNat : Int) == z)] w' fun e W4 => ∃ z : Int, e = .returned (.int .u32 z) ∧ CameS X h W0 M L evK R0 (.returned (.int .u32 z)) W4)
      (Sx.split (ByteArray.toList s3 == ByteArray.toList (ByteArray.mk #[33, 61]))
      (Calls Tryz.prog 104 #[.bool (((hd xv).toNat : Int) != z)] w' fun e W4 => ∃ z : Int, e = .returned (.int .u32 z) ∧ CameS X h W0 M L evK R0 (.returned (.int .u32 z)) W4)
      (Sx.split (ByteArray.toList s3 == ByteArray.toList (ByteArray.mk #[62]))
      (Calls Tryz.prog 120 #[.int .i64 31, .int .u32 z, .int .u32 ((hd xv).toNat : Int)] w' fun e W4 => ∃ z : Int, e = .returned (.int .u32 z) ∧ CameS X h W0 M L evK R0 (.returned (.int .u32 z)) W4)
      (Sx.split (ByteArray.toList s3 == ByteArray.toList (ByteArray.mk #[60, 61]))
      (Calls Tryz.prog 120 #[.int .i64 31, .int .u32 z, .int .u32 ((hd xv).toNat : Int)] w' fun e W4 => ∃ z : Int, e = .returned (.int .u32 z) ∧ ∀ z9 : Int, z9 = IntKind.wrap .u32 (1 - z) → CameS X h W0 M L evK R0 (.returned (.int .u32 z9)) W4)
      (Sx.split (ByteArray.toList s3 == ByteArray.toList (ByteArray.mk #[62, 61]))
      (Calls Tryz.prog 120 #[.int .i64 31, .int .u32 ((hd xv).toNat : Int), .int .u32 z] w' fun e W4 => ∃ z : Int, e = .returned (.int .u32 z) ∧ ∀ z9 : Int, z9 = IntKind.wrap .u32 (1 - z) → CameS X h W0 M L evK R0 (.returned (.int .u32 z9)) W4)
      (∃ s4 : ByteArray, w'.cell? ⟨kb, 0 + 3, none⟩ = some (.string s4) ∧ Calls Tryz.prog 121 #[.string s4] w' fun e W4 => ∃ z1 : Int, e = .returned (.int .i64 z1) ∧ Calls Tryz.prog 120 #[.int .i64 z1, .int .u32 ((hd xv).toNat : Int), .int .u32 z] W4 fun e5 W5 => ∃ z5 : Int, e5 = .returned (.int .u32 z5) ∧ CameS X h W0 M L evK R0 (.returned (.int .u32 z5)) W5)))))))) ∨
        ∃ l, e = .panicked l ∧ CameS X h W0 M L evK R0 (.panicked l) w' := by
    intro n1 n2
    rw [if_neg n1, if_neg n2] at hR
    have hne2 : go opE F f (.e y) s1 ≠ .out := fun e => by rw [e] at hR; exact hne hR
    refine ⟨_, (hb _ (rn_code H1)).cell' (i := 5) rfl, ?_⟩
    refine sub_e (h0 := h) id (I.e H1 (by rw [hs1]; exact hwy) hy hg1 hne2) (fun yv s2 w2 po2 co2 h2 H2 => ?_) (fun l w' h => by rw [hR]; exact h)
    refine bin_tail (x := hd xv) (y := hd yv) rfl rfl (fun w hw => hc (A := emp) (H2.quiet hw)) fun w3 h3 => ?_
    rw [hR, h2, rb_ok]
    exact ⟨rfl, po2, co2, H2.quiet h3⟩
  refine ⟨_, hc (A := emp) H1, s_split (fun e1 => ?_) (fun e1 => ?_)⟩
  · refine Sx.split_of (fun hz => ?_) (fun hz => ?_)
    · rw [u_z] at hz
      have hz : hd xv = 0 := by simpa using hz
      rw [hR, if_pos ⟨e1, hz⟩]
      exact ⟨rfl, po, co, H1⟩
    · rw [u_z] at hz
      have hz : ¬ hd xv = 0 := by simpa using hz
      have e2 : ¬ t.s = cOrOr := fun e => by
        have : (cAndAnd : ByteArray) = cOrOr := (show t.s = cAndAnd from e1).symm.trans e
        exact absurd this (by decide)
      refine ⟨_, hc (A := emp) H1, s_split (fun e3 => absurd e3 e2) (fun _ => ?_)⟩
      exact second (fun h => hz h.2) (fun h => e2 h.1)
  · refine ⟨_, hc (A := emp) H1, s_split (fun e2 => ?_) (fun e2 => ?_)⟩
    · refine Sx.split_of (fun hz => ?_) (fun hz => ?_)
      · rw [u_nz] at hz
        have hz : ¬ hd xv = 0 := by simpa using hz
        rw [hR, if_neg (fun h => e1 h.1), if_pos ⟨e2, hz⟩]
        exact ⟨rfl, po, co, H1⟩
      · rw [u_nz] at hz
        have hz : hd xv = 0 := by simpa using hz
        exact second (fun h => e1 h.1) (fun h => h.2 hz)
    · exact second (fun h => e1 h.1) (fun h => e2 h.1)
end Go.Proofs.YtojogkljneonmaaGreatDoor
/- The evaluator walked: every expression, if the parts are. No condition. -/
namespace Go.Proofs.YtojogkljneonmaaGreatDoor
open Go Go.Proofs Go.Sep Go.XHeap Go.RowKit Go.Lang
set_option linter.unusedVariables false
set_option linter.unusedSimpArgs false
variable {W0 W : World} {M : Nat → Prop} {L L1 : List Asn} {X : Ev} {h h0 : Eh} {s : Rn} {F : Ft} {nw : Nat} {f : Nat}

theorem drop1 {w : World} {A B : Asn} (H : St W0 M w (A :: B :: L)) : St W0 M w (A :: L) := (H.swap).tail
set_option maxHeartbeats 1000000 in
theorem e_step (C : Code X F nw) (ih : ∀ f' ≤ f, Wk X F nw f') {x : T} {v : Value} (H : St W0 M W (rnA X h s :: L)) (hw : wf F nw s.slots.length x 0) (hv : tV X.DA x [v]) (hg : Gd' nw s) (hne : go opE F (f + 1) (.e x) s ≠ .out) :
    Calls Tryz.prog 71 #[pt X.k, v] W (CameS X h W0 M L evK (go opE F (f + 1) (.e x) s)) := by
  obtain ⟨R0, hR⟩ : ∃ R, R = go opE F (f + 1) (.e x) s := ⟨_, rfl⟩
  rw [← hR] at hne ⊢
  refine vc71 X.k 0 v ?_
  refine step_q hg.2.1 H (fun hz => .inr ⟨_, rfl, ?_⟩) (fun hz w2 H2 => .inl ⟨rfl, ?_⟩)
  · rw [hR, go_e_zero hz]
    exact ⟨rfl, rn_stop H⟩
  obtain ⟨s1, hs1⟩ : ∃ s1 : Rn, s1 = { s with steps := s.steps - 1 } := ⟨_, rfl⟩
  have hg1 : Gd' nw s1 := by rw [hs1]; exact gd_step hg
  have hsl : s1.slots.length = s.slots.length := by rw [hs1]
  have hst : ∀ k, s.step k = k s1 := fun k => by rw [hs1]; exact step_more hz
  rw [← hs1] at H2
  rw [← hsl] at hw
  clear hs1 hsl H hg
  have I := ih f (Nat.le_refl _)
  have nb : ∀ {r : Rs Rn} {k : List UInt32 → Rn → Rs Rn}, R0 = r.bind k → r ≠ .out := fun e h => by rw [h] at e; exact hne e
  cases x with
  | num n l =>
    replace hR := hR.trans (go_num.trans (hst _))
    cases hv
    obtain ⟨-, n0, n1⟩ := hw
    refine tag_eq ⟨_, rfl, ?_⟩
    rw [hR]
    refine ⟨?_, h.po, h.co, H2⟩
    show Ending.returned (.int .u32 n) = .returned (vU (uI n))
    rw [vU_uI ⟨n0, n1⟩]
  | name t sl wd =>
    replace hR := hR.trans (go_name.trans (hst _))
    obtain ⟨kn, e, hb⟩ := hv
    cases e
    obtain ⟨-, hin⟩ := hw
    rw [← hg1.1] at hin
    refine tag_ne (by decide) (tag_eq ⟨_, rfl, ?_⟩)
    refine word_q hb hin H2 fun a w3 ha H3 => ⟨_, rfl, ptr_some ⟨_, place_ld ha hin H3, ?_⟩⟩
    rw [hR]
    exact ⟨rfl, h.po, h.co, H3⟩
  | index t wd z p =>
    replace hR := hR.trans (go_index.trans (hst _))
    obtain ⟨kb, xv, hp, e, hb⟩ := hv
    cases e
    obtain ⟨-, hin, hwp⟩ := hw
    refine tag_ne (by decide) (tag_ne (by decide) (tag_eq ⟨_, rfl, ptr_some ⟨_, (hb _ (rn_code H2)).cell' (i := 5) rfl, ?_⟩⟩))
    rw [hR]
    refine sub_e id (I.e H2 hwp hp hg1 (nb hR)) (fun kv s2 w3 po co h1 H3 => ?_) (fun _ _ h => h)
    obtain ⟨hg2, -, -, -, -⟩ := gd_ok hg1 h1
    rw [h1, rb_ok]
    have hin2 : inA s2.words.length wd z := by rw [hg2.1]; exact hin
    refine elem_q hb hin2 (by have := C.nw; have := hg2.1; omega) H3 (fun hz => .inr ⟨_, rfl, ?_⟩) (fun hz g o w4 e4 H4 => .inl ⟨_, rfl, ptr_some ⟨_, el_words H4 e4 ?_, ?_⟩⟩)
    · rw [if_pos hz]; exact ⟨rfl, rn_stop H3⟩
    · obtain ⟨a1, a2, a3, a4⟩ := hin2; omega
    · rw [if_neg hz]; exact ⟨rfl, po, co, H4⟩
  | un t x =>
    replace hR := hR.trans (go_un.trans (hst _))
    obtain ⟨kb, xv, hx, e, hb⟩ := hv
    cases e
    obtain ⟨-, hwx⟩ := hw
    refine tag_ne (by decide) (tag_ne (by decide) (tag_ne (by decide) (tag_ne (by decide) (tag_eq ⟨_, rfl, ptr_some ⟨_, (hb _ (rn_code H2)).cell' (i := 4) rfl, ?_⟩⟩))))
    rw [hR]
    refine sub_e id (I.e H2 hwx hx hg1 (nb hR)) (fun kv s2 w3 po co h1 H3 => ?_) (fun _ _ h => h)
    rw [h1, rb_ok]
    refine ptr_some ⟨_, (hb _ (rn_code H3)).cell' (i := 3) rfl, s_split (fun e1 => ?_) (fun e1 => s_split (fun e2 => ?_) (fun e2 => ?_))⟩
    · refine ⟨?_, po, co, H3⟩
      show Ending.returned (.int .u32 (IntKind.wrap .u32 (0 - ((hd kv).toNat : Int)))) = .returned (vU (unV t.s (hd kv)))
      rw [u_neg]
      unfold unV
      rw [if_pos (show t.s = cMinus from e1)]
      rfl
    · refine (truth_q _ _).mono ?_
      rintro _ w4 ⟨rfl, h4⟩
      refine ⟨_, rfl, ?_, po, co, H3.quiet h4⟩
      show Ending.returned (vU (tr (((hd kv).toNat : Int) == 0))) = .returned (vU (unV t.s (hd kv)))
      unfold unV
      rw [if_neg (show ¬ t.s = cMinus from e1), if_pos (show t.s = cNot from e2), u_z]
    · refine ⟨?_, po, co, H3⟩
      show Ending.returned (.int .u32 (IntKind.wrap .u32 _)) = .returned (vU (unV t.s (hd kv)))
      rw [u_not]
      unfold unV
      rw [if_neg (show ¬ t.s = cMinus from e1), if_neg (show ¬ t.s = cNot from e2)]
      rfl
  | bin t x y =>
    replace hR := hR.trans (go_bin.trans (hst _))
    obtain ⟨kb, u, v, hx, hy, e, hb⟩ := hv
    cases e
    obtain ⟨-, hwx, hwy⟩ := hw
    refine tag_ne (by decide) (tag_ne (by decide) (tag_ne (by decide) (tag_ne (by decide) (tag_ne (by decide) (tag_eq ⟨_, rfl, ?_⟩)))))
    refine (bin_eval (K' := evK) C I hx hy hb hwx hwy H2 hg1 hR hne).mono fun e w3 he => ?_
    cases hr : R0 with
    | ok v s' => rw [hr] at he; obtain ⟨rfl, r⟩ := he; exact .inl ⟨_, rfl, rfl, r⟩
    | stop n s' => rw [hr] at he; obtain ⟨rfl, r⟩ := he; exact .inr ⟨_, rfl, rfl, r⟩
    | out => exact absurd hr hne
  | call t fa xs =>
    replace hR := hR.trans (go_call.trans (hst _))
    obtain ⟨kb, p, c, us, hxs, e, hb⟩ := hv
    cases e
    obtain ⟨-, ⟨kf, n, bd, rfl, hF, hln⟩, hwx⟩ := hw
    have hul := tV_len hxs hwx
    have hn24 := (C.ok kf n bd hF).2
    refine tag_ne (by decide) (tag_ne (by decide) (tag_ne (by decide) (tag_eq ⟨_, rfl, ptr_some ⟨_, _, _, (hb _ (rn_code H2)).1.cell' (i := 4) rfl, ?_⟩⟩)))
    obtain ⟨ns, hns⟩ : ∃ ns, ns = s1.slots.length := ⟨_, rfl⟩
    rw [← hns] at hwx
    refine ⟨fun x p' n' c' w => ∃ (done : List UInt32) (rest : T) (pre ws : List Value) (f' : Nat) (sc : Rn) (po : Option Addr) (co : Nat), x = (done.length : Nat) ∧ n' = done.length ∧ us = pre ++ ws ∧ pre.length = done.length ∧ tV X.DA rest ws ∧ wf F nw ns rest 1 ∧ f' ≤ f ∧ Gd' nw sc ∧ sc.slots.length = ns ∧
      St W0 M w (rnA X { h with po := po, co := co } sc :: sl 32 1 (.slice p' done.length c') done.length (done.map vU) :: L) ∧ R0 = (go opE F f' (.al rest) sc).bind fun vs s => go opE F f (.en kf (done ++ vs)) s,
      fun x _ _ _ _ => (us.length - x.toNat), ?_, fun _ x p' n' c' w hI => ?_⟩
    · refine ⟨[], xs, [], us, f, s1, h.po, h.co, rfl, rfl, rfl, rfl, hxs, hwx, Nat.le_refl _, hg1, hns.symm, ?_, hR⟩
      exact (H2.add (A := sl 32 1 (.slice none 0 0) 0 []) ⟨Sl.nil _ _ _, XTouch.refl _ _, fun q hq => by cases hq⟩).perm (by
        show (rnA X h s1 :: (L ++ [_])).Perm _
        exact List.Perm.cons _ (List.perm_append_singleton _ _))
    · obtain ⟨done, rest, pre, ws, f', sc, po, co, rfl, rfl, hus, hpre, hrest, hwr, hf', hgc, hsc, Hc, hRc⟩ := hI
      have hlen : us.length = done.length + ws.length := by rw [hus, List.length_append, hpre]
      have hwl := tV_len hrest hwr
      have hdl : done.length ≤ 24 := by omega
      refine Sx.split_of (fun hx => ?_) (fun hx => ?_)
      · have hx : done.length < us.length := by have := of_decide_eq_true hx; omega
        cases rest with
        | cons y ys =>
          obtain ⟨yv, us', hy, hys, rfl⟩ := hrest
          obtain ⟨-, hwy, hwys⟩ : 1 = 1 ∧ wf F nw ns y 0 ∧ wf F nw ns ys 1 := by
            rcases hwr with h | ⟨h, -⟩
            · exact h
            · cases h
          cases f' with
          | zero => exact absurd hRc hne
          | succ f'' =>
          have hRc : R0 = (go opE F f'' (.e y) sc).bind fun v s => ((go opE F f'' (.al ys) s).bind fun vs s => .ok (hd v :: vs) s).bind fun vs s => go opE F f (.en kf (done ++ vs)) s := by
            rw [hRc, go_al]; exact bind_assoc _ _ _
          have hS : Sl w 169 1 (.slice p us.length c) us.length us := (hb _ (rn_code Hc)).2
          refine ⟨⟨by omega, by omega⟩, ?_⟩
          obtain ⟨g, off, e, hc1, -⟩ := els_at hS hx
          rw [e]
          refine adr_some ⟨yv, ?_, ?_⟩
          · rw [ix1, hc1, hus, List.getElem?_append_right (by omega), hpre, Nat.sub_self]
            rfl
          rw [hRc]
          refine sub_e drop1 ((ih f'' (by omega)).e Hc (by rw [hsc]; exact hwy) hy hgc (nb hRc)) (fun kv s2 w3 po2 co2 h1 H3 => ?_) (fun _ _ h => h)
          obtain ⟨hg2, hs2, -, -, -⟩ := gd_ok hgc h1
          refine H3.al fun ka w4 H4 => ?_
          refine H4.app 1 rfl [vU (hd kv)] (.inr ⟨_, rfl, fun j u hj => ?_⟩) rfl (by simp [vU, Value.oneCell']) (by unfold maxLen; omega) (by omega) fun p2 c2 w5 H5 => ?_
          · match j, hj with
            | 0, hj =>
              cases hj
              have := H4.nth (A := blk ka #[vU (hd kv)] 32) (L.length + 2) (by simp [vU])
              exact Blk.cell' this (i := 0) rfl
          · rintro z6 rfl
            rw [inc64e (by omega)]
            have H6 : St W0 M w5 (rnA X { h with po := po2, co := co2 } s2 :: sl 32 1 (.slice p2 (done ++ [hd kv]).length c2) (done ++ [hd kv]).length ((done ++ [hd kv]).map vU) :: L) := by
              have h6 := H5.take (L.length + 2)
              simp only [List.length_append, List.length_cons, List.length_nil, List.map_append, List.map_cons, List.map_nil]
              simpa using h6
            refine ⟨⟨done ++ [hd kv], ys, pre ++ [yv], us', f'', s2, po2, co2, by simp, by simp, by simp [hus], by simp [hpre], hys, hwys, by omega, hg2, by omega, H6, ?_⟩, ?_⟩
            · rw [h1, rb_ok, bind_assoc]
              congr 1
              funext vs s
              show go opE F f (.en kf (done ++ (hd kv :: vs))) s = _
              rw [List.append_assoc]
              rfl
            · simp only [Int.toNat_natCast]
              omega
        | nil =>
          have : ws = [] := hrest
          subst this
          simp at hlen
          omega
        | _ => cases hwr.1
      · have hx : ¬ done.length < us.length := by have := of_decide_eq_false hx; omega
        have hws : ws = [] := List.eq_nil_of_length_eq_zero (by omega)
        subst hws
        cases rest with
        | nil =>
          cases f' with
          | zero => exact absurd hRc hne
          | succ f'' =>
          have hRc : R0 = go opE F f (.en kf done) sc := by
            rw [hRc, go_al0, rb_ok]
            rw [List.append_nil]
          refine ptr_some ⟨_, (hb _ (rn_code Hc)).1.cell' (i := 3) rfl, ?_⟩
          refine (I.en Hc hF (by simp at hlen; omega) hgc (by rw [← hRc]; exact hne)).mono fun e w3 he => ?_
          rw [← hRc] at he
          cases hr : R0 with
          | ok v s' => rw [hr] at he; obtain ⟨rfl, r⟩ := he; exact .inl ⟨_, rfl, rfl, r⟩
          | stop n s' => rw [hr] at he; obtain ⟨rfl, r⟩ := he; exact .inr ⟨_, rfl, rfl, r⟩
          | out => exact absurd hr hne
        | cons y ys => obtain ⟨v, us', -, -, e⟩ := hrest; cases e
        | _ => cases hwr.1
  | nil => rcases hw with e | e <;> cases e
  | cons x xs => rcases hw with ⟨e, -⟩ | ⟨e, -⟩ <;> cases e
  | _ => cases hw.1
end Go.Proofs.YtojogkljneonmaaGreatDoor
