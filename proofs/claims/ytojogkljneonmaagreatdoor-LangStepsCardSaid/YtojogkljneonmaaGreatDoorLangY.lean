import Derived.Test.YtojogkljneonmaaGreatDoorLangMb
import Derived.Test.YtojogkljneonmaaGreatDoorLangU
/- How a program runs: well-formed programs; there is enough fuel. No condition. -/
namespace Go.Lang
set_option linter.unusedVariables false
set_option linter.unusedSimpArgs false
variable {E : ByteArray → UInt32 → UInt32 → UInt32} {F : Ft}

def inW (nw ns : Nat) (sl w : Int) : Prop := (0 ≤ sl ∧ sl < ns) ∨ (sl < 0 ∧ 0 ≤ w ∧ w < nw)
def inA (nw : Nat) (w z : Int) : Prop := 0 ≤ w ∧ 0 ≤ z ∧ z ≤ 256 ∧ w + z ≤ nw
/-- trees that can run: 0 an expression, 1 a row of them, 2 a statement, 3 a row of them -/
def wf (F : Ft) (nw ns : Nat) : T → Nat → Prop
  | .num v _, k => k = 0 ∧ 0 ≤ v ∧ v < 4294967296
  | .name _ sl w, k => k = 0 ∧ inW nw ns sl w
  | .index _ w z p, k => k = 0 ∧ inA nw w z ∧ wf F nw ns p 0
  | .call _ a xs, k => k = 0 ∧ (∃ b n bd, a = some ⟨b, 0, none⟩ ∧ F b = some (n, bd) ∧ xs.len ≤ n) ∧ wf F nw ns xs 1
  | .un _ x, k => k = 0 ∧ wf F nw ns x 0
  | .bin _ x y, k => k = 0 ∧ wf F nw ns x 0 ∧ wf F nw ns y 0
  | .nil, k => k = 1 ∨ k = 3
  | .cons x xs, k => (k = 1 ∧ wf F nw ns x 0 ∧ wf F nw ns xs 1) ∨ (k = 3 ∧ wf F nw ns x 2 ∧ wf F nw ns xs 3)
  | .letS _ _ sl w x, k => k = 2 ∧ inW nw ns sl w ∧ wf F nw ns x 0
  | .setS _ sl w x, k => k = 2 ∧ inW nw ns sl w ∧ wf F nw ns x 0
  | .putS _ w z p x, k => k = 2 ∧ inA nw w z ∧ wf F nw ns p 0 ∧ wf F nw ns x 0
  | .ifS _ c a b, k => k = 2 ∧ wf F nw ns c 0 ∧ wf F nw ns a 2 ∧ (wf F nw ns b 2 ∨ b.isNil = true)
  | .whileS _ c b, k => k = 2 ∧ wf F nw ns c 0 ∧ wf F nw ns b 2
  | .retS _ x, k => k = 2 ∧ wf F nw ns x 0
  | .prtS _ x, k => k = 2 ∧ wf F nw ns x 0
  | .doS _ x, k => k = 2 ∧ wf F nw ns x 0
  | .block _ l, k => k = 2 ∧ wf F nw ns l 3
def Rq.wf (F : Ft) (nw ns : Nat) : Rq → Prop
  | .e x => Lang.wf F nw ns x 0
  | .al xs => Lang.wf F nw ns xs 1
  | .en k args => ∃ n b, F k = some (n, b) ∧ args.length ≤ n
  | .s x => Lang.wf F nw ns x 2
  | .ss xs => Lang.wf F nw ns xs 3
  | .w c b => Lang.wf F nw ns c 0 ∧ Lang.wf F nw ns b 2
/-- functions that can run -/
def FOk (F : Ft) (nw K : Nat) : Prop := ∀ k n b, F k = some (n, b) → wf F nw n b 2 ∧ b.sz ≤ K ∧ n ≤ 24
def mz (K : Nat) (q : Rq) (s : Rn) : Nat := s.steps * (K + 2) + match q with
  | .e x => x.sz
  | .al xs => xs.sz
  | .en _ _ => K + 1
  | .s x => x.sz
  | .ss xs => xs.sz
  | .w c b => c.sz + b.sz
theorem rbind_out {σ : Type} {r : Rs σ} {k : List UInt32 → σ → Rs σ} (h : r.bind k = .out) : r = .out ∨ ∃ v s, r = .ok v s ∧ k v s = .out := by
  cases r with
  | ok v s => exact .inr ⟨v, s, rfl, h⟩
  | stop n s => cases h
  | out => exact .inl rfl
theorem step_out {s : Rn} {k : Rn → Rs Rn} (h : s.step k = .out) : ∃ s1 : Rn, s1.steps + 1 = s.steps ∧ k s1 = .out := by
  unfold Rn.step at h
  split at h
  · cases h
  · exact ⟨_, by simp only; omega, h⟩
theorem sz_pos : ∀ x : T, 1 ≤ x.sz := by
  intro x
  cases x <;> simp only [T.sz] <;> omega
theorem fine_ok {f : Nat} {q : Rq} {s s' : Rn} {v : List UInt32} (h : go E F f q s = .ok v s') : s'.steps + q.cost ≤ s.steps ∧ s'.slots.length = s.slots.length ∧ s'.words.length = s.words.length ∧ s'.room = s.room ∧ s'.out.length + s'.steps ≤ s.out.length + s.steps ∧ q.len v := by
  have := go_fine (E := E) (F := F) f q s
  rw [h] at this
  exact this
theorem go_fuel {nw K : Nat} (hF : FOk F nw K) : ∀ (f : Nat) (ns : Nat) (q : Rq) (s : Rn), q.wf F nw ns → mz K q s < f → go E F f q s ≠ .out := by
  have hm : ∀ a b : Nat, a ≤ b → a * (K + 2) ≤ b * (K + 2) := fun a b h => Nat.mul_le_mul_right _ h
  have hm1 : ∀ a b : Nat, a + 1 ≤ b → a * (K + 2) + (K + 2) ≤ b * (K + 2) := fun a b h => by
    have := Nat.mul_le_mul_right (K + 2) h
    rw [Nat.add_mul, Nat.one_mul] at this
    exact this
  intro f
  induction f with
  | zero => intro ns q s _ h; omega
  | succ f ih =>
    intro ns q s hq hz ho
    cases q with
    | e x =>
      unfold go at ho
      obtain ⟨s1, h1, ho⟩ := step_out ho
      have hs := hm1 s1.steps s.steps (by omega)
      simp only [mz] at hz
      cases x with
      | num v l => cases ho
      | name t sl w => cases ho
      | index t w z p =>
        obtain ⟨-, -, hp⟩ := hq
        simp only [T.sz] at hz
        rcases rbind_out ho with ho | ⟨v, s2, h2, ho⟩
        · exact ih ns (.e p) s1 hp (by simp only [mz]; omega) ho
        · try dsimp only at ho
          split at ho <;> cases ho
      | call t fa xs =>
        obtain ⟨-, ⟨b, n, bd, rfl, hb, hn⟩, hxs⟩ := hq
        simp only [T.sz] at hz
        rcases rbind_out ho with ho | ⟨v, s2, h2, ho⟩
        · exact ih ns (.al xs) s1 hxs (by simp only [mz]; omega) ho
        · have h3 := fine_ok h2
          have h4 : v.length = xs.len := h3.2.2.2.2.2
          simp only [Rq.cost] at h3
          have hs2 := hm s2.steps s1.steps (by omega)
          have := sz_pos xs
          exact ih ns (.en b v) s2 ⟨n, bd, hb, by omega⟩ (by simp only [mz]; omega) ho
      | un t x =>
        obtain ⟨-, hx⟩ := hq
        simp only [T.sz] at hz
        rcases rbind_out ho with ho | ⟨v, s2, h2, ho⟩
        · exact ih ns (.e x) s1 hx (by simp only [mz]; omega) ho
        · cases ho
      | bin t x y =>
        obtain ⟨-, hx, hy⟩ := hq
        simp only [T.sz] at hz
        rcases rbind_out ho with ho | ⟨v, s2, h2, ho⟩
        · exact ih ns (.e x) s1 hx (by simp only [mz]; omega) ho
        · have h3 := fine_ok h2
          simp only [Rq.cost] at h3
          have hs2 := hm s2.steps s1.steps (by omega)
          try dsimp only at ho
          split at ho
          · cases ho
          split at ho
          · cases ho
          rcases rbind_out ho with ho | ⟨u, s3, h3, ho⟩
          · exact ih ns (.e y) s2 hy (by simp only [mz]; omega) ho
          · cases ho
      | nil => rcases hq with h | h <;> cases h
      | cons x xs => rcases hq with ⟨h, -⟩ | ⟨h, -⟩ <;> cases h
      | _ => cases hq.1
    | al xs =>
      unfold go at ho
      simp only [mz] at hz
      cases xs with
      | cons x xs =>
        obtain ⟨-, hx, hxs⟩ : 1 = 1 ∧ wf F nw ns x 0 ∧ wf F nw ns xs 1 := by
          rcases hq with h | ⟨h, -⟩
          · exact h
          · cases h
        simp only [T.sz] at hz
        rcases rbind_out ho with ho | ⟨v, s2, h2, ho⟩
        · exact ih ns (.e x) s hx (by simp only [mz]; omega) ho
        · have h3 := fine_ok h2
          simp only [Rq.cost] at h3
          have hs2 := hm s2.steps s.steps (by omega)
          rcases rbind_out ho with ho | ⟨u, s3, h3, ho⟩
          · exact ih ns (.al xs) s2 hxs (by simp only [mz]; omega) ho
          · cases ho
      | nil => cases ho
      | _ => cases hq.1
    | en k args =>
      unfold go at ho
      simp only [mz] at hz
      obtain ⟨n, b, hb, hn⟩ := hq
      rw [hb] at ho
      try dsimp only at ho
      obtain ⟨g1, g2, g3⟩ := hF k n b hb
      split at ho
      · cases ho
      rcases rbind_out ho with ho | ⟨v, s2, h2, ho⟩
      · exact ih n (.s b) _ g1 (by simp only [mz]; omega) ho
      · cases ho
    | s x =>
      unfold go at ho
      obtain ⟨s1, h1, ho⟩ := step_out ho
      have hs := hm1 s1.steps s.steps (by omega)
      simp only [mz] at hz
      cases x with
      | block l xs =>
        obtain ⟨-, hx⟩ := hq
        simp only [T.sz] at hz
        exact ih ns (.ss xs) s1 hx (by simp only [mz]; omega) ho
      | whileS l c b =>
        obtain ⟨-, hc, hb⟩ := hq
        simp only [T.sz] at hz
        exact ih ns (.w c b) s1 ⟨hc, hb⟩ (by simp only [mz]; omega) ho
      | letS t nm sl w x =>
        obtain ⟨-, -, hx⟩ := hq
        simp only [T.sz] at hz
        rcases rbind_out ho with ho | ⟨v, s2, h2, ho⟩
        · exact ih ns (.e x) s1 hx (by simp only [mz]; omega) ho
        · cases ho
      | setS t sl w x =>
        obtain ⟨-, -, hx⟩ := hq
        simp only [T.sz] at hz
        rcases rbind_out ho with ho | ⟨v, s2, h2, ho⟩
        · exact ih ns (.e x) s1 hx (by simp only [mz]; omega) ho
        · cases ho
      | putS t w z p x =>
        obtain ⟨-, -, hp, hx⟩ := hq
        simp only [T.sz] at hz
        rcases rbind_out ho with ho | ⟨v, s2, h2, ho⟩
        · exact ih ns (.e p) s1 hp (by simp only [mz]; omega) ho
        · have h3 := fine_ok h2
          simp only [Rq.cost] at h3
          have hs2 := hm s2.steps s1.steps (by omega)
          rcases rbind_out ho with ho | ⟨u, s3, h3, ho⟩
          · exact ih ns (.e x) s2 hx (by simp only [mz]; omega) ho
          · try dsimp only at ho
            split at ho <;> cases ho
      | ifS l c a b =>
        obtain ⟨-, hc, ha, hb⟩ := hq
        simp only [T.sz] at hz
        rcases rbind_out ho with ho | ⟨v, s2, h2, ho⟩
        · exact ih ns (.e c) s1 hc (by simp only [mz]; omega) ho
        · have h3 := fine_ok h2
          simp only [Rq.cost] at h3
          have hs2 := hm s2.steps s1.steps (by omega)
          try dsimp only at ho
          split at ho
          · exact ih ns (.s a) s2 ha (by simp only [mz]; omega) ho
          split at ho
          · cases ho
          · rename_i hn
            rcases hb with hb | hb
            · exact ih ns (.s b) s2 hb (by simp only [mz]; omega) ho
            · exact hn hb
      | retS l x =>
        obtain ⟨-, hx⟩ := hq
        simp only [T.sz] at hz
        rcases rbind_out ho with ho | ⟨v, s2, h2, ho⟩
        · exact ih ns (.e x) s1 hx (by simp only [mz]; omega) ho
        · cases ho
      | prtS l x =>
        obtain ⟨-, hx⟩ := hq
        simp only [T.sz] at hz
        rcases rbind_out ho with ho | ⟨v, s2, h2, ho⟩
        · exact ih ns (.e x) s1 hx (by simp only [mz]; omega) ho
        · cases ho
      | doS l x =>
        obtain ⟨-, hx⟩ := hq
        simp only [T.sz] at hz
        rcases rbind_out ho with ho | ⟨v, s2, h2, ho⟩
        · exact ih ns (.e x) s1 hx (by simp only [mz]; omega) ho
        · cases ho
      | nil => rcases hq with h | h <;> cases h
      | cons x xs => rcases hq with ⟨h, -⟩ | ⟨h, -⟩ <;> cases h
      | _ => cases hq.1
    | ss xs =>
      unfold go at ho
      simp only [mz] at hz
      cases xs with
      | cons x xs =>
        obtain ⟨-, hx, hxs⟩ : 3 = 3 ∧ wf F nw ns x 2 ∧ wf F nw ns xs 3 := by
          rcases hq with ⟨h, -⟩ | h
          · cases h
          · exact h
        simp only [T.sz] at hz
        rcases rbind_out ho with ho | ⟨v, s2, h2, ho⟩
        · exact ih ns (.s x) s hx (by simp only [mz]; omega) ho
        · have h3 := fine_ok h2
          simp only [Rq.cost] at h3
          have hs2 := hm s2.steps s.steps (by omega)
          try dsimp only at ho
          split at ho
          · exact ih ns (.ss xs) s2 hxs (by simp only [mz]; omega) ho
          · cases ho
      | nil => cases ho
      | _ => cases hq.1
    | w c b =>
      unfold go at ho
      simp only [mz] at hz
      obtain ⟨hc, hb⟩ := hq
      have := sz_pos b
      have := sz_pos c
      rcases rbind_out ho with ho | ⟨v, s2, h2, ho⟩
      · exact ih ns (.e c) s hc (by simp only [mz]; omega) ho
      · have h3 := fine_ok h2
        simp only [Rq.cost] at h3
        have hs2 := hm1 s2.steps s.steps (by omega)
        try dsimp only at ho
        split at ho
        · cases ho
        rcases rbind_out ho with ho | ⟨u, s3, h4, ho⟩
        · exact ih ns (.s b) s2 hb (by simp only [mz]; omega) ho
        · have h5 := fine_ok h4
          simp only [Rq.cost] at h5
          have hs3 := hm s3.steps s2.steps (by omega)
          try dsimp only at ho
          split at ho
          · exact ih ns (.w c b) s3 ⟨hc, hb⟩ (by simp only [mz]; omega) ho
          · cases ho
/-! ### more steps, more stack -/
def Rn.more (s : Rn) (a b : Nat) : Rn := { s with steps := s.steps + a, room := s.room + b }
theorem rbind_ok {σ : Type} {r : Rs σ} {k : List UInt32 → σ → Rs σ} {v : List UInt32} {s : σ} (h : r.bind k = .ok v s) : ∃ v1 s1, r = .ok v1 s1 ∧ k v1 s1 = .ok v s := by
  cases r with
  | ok v1 s1 => exact ⟨v1, s1, rfl, h⟩
  | stop n s1 => cases h
  | out => cases h
theorem rb_ok {σ : Type} {v : List UInt32} {s : σ} {k : List UInt32 → σ → Rs σ} : (Rs.ok v s).bind k = k v s := rfl
end Go.Lang
/- The reference's nodes in plain Lean; its levels of operations beside the plain parser's. No condition. -/
namespace Go.Lang
set_option linter.unusedVariables false
/-- a row of nodes: kind, name, line, value, parts, names -/
inductive Fo where
  | nil
  | cons (kind name : ByteArray) (line val : Int) (kids : Fo) (names : List ByteArray) (rest : Fo)
def Fo.len : Fo → Nat
  | .nil => 0
  | .cons _ _ _ _ _ _ r => r.len + 1
def cNumK : ByteArray := ofL [110, 117, 109]
def cNameK : ByteArray := ofL [110, 97, 109, 101]
def cIndexK : ByteArray := ofL [105, 110, 100, 101, 120]
def cCallK : ByteArray := ofL [99, 97, 108, 108]
def cUnK : ByteArray := ofL [117, 110]
def cBinK : ByteArray := ofL [98, 105, 110]
def cSetK : ByteArray := ofL [115, 101, 116]
def cPutK : ByteArray := ofL [112, 117, 116]
def cDoK : ByteArray := ofL [100, 111]
def cBlockK : ByteArray := ofL [98, 108, 111, 99, 107]
/-- a tree's nodes, ahead of a row -/
def toF : T → Fo → Fo
  | .num v line, r => .cons cNumK (ofL []) line v .nil [] r
  | .name t _ _, r => .cons cNameK t.s t.line 0 .nil [] r
  | .index t _ _ p, r => .cons cIndexK t.s t.line 0 (toF p .nil) [] r
  | .call t _ xs, r => .cons cCallK t.s t.line 0 (toF xs .nil) [] r
  | .un t x, r => .cons cUnK t.s t.line 0 (toF x .nil) [] r
  | .bin t x y, r => .cons cBinK t.s t.line 0 (toF x (toF y .nil)) [] r
  | .nil, r => r
  | .cons x xs, r => toF x (toF xs r)
  | .letS t nm _ _ x, r => .cons cLet nm.s t.line 0 (toF x .nil) [] r
  | .setS t _ _ x, r => .cons cSetK t.s t.line 0 (toF x .nil) [] r
  | .putS t _ _ p x, r => .cons cPutK t.s t.line 0 (toF p (toF x .nil)) [] r
  | .ifS line c a b, r => .cons cIf (ofL []) line 0 (toF c (toF a (toF b .nil))) [] r
  | .whileS line c b, r => .cons cWhile (ofL []) line 0 (toF c (toF b .nil)) [] r
  | .retS line x, r => .cons cReturn (ofL []) line 0 (toF x .nil) [] r
  | .prtS line x, r => .cons cPrint (ofL []) line 0 (toF x .nil) [] r
  | .doS line x, r => .cons cDoK (ofL []) line 0 (toF x .nil) [] r
  | .block line l, r => .cons cBlockK (ofL []) line 0 (toF l .nil) [] r
/-- declarations -/
def toD : List D → Fo → Fo
  | [], r => r
  | .var t nm _ z :: ds, r => .cons cVar nm t.line z .nil [] (toD ds r)
  | .fn t nm ps _ _ b :: ds, r => .cons cFunc nm t.line 0 (toF b .nil) ps (toD ds r)
/-- rows, one behind the other -/
def Fo.app : Fo → Fo → Fo
  | .nil, r => r
  | .cons k n l v ks ns q, r => .cons k n l v ks ns (q.app r)
/-! ### levels -/
end Go.Lang
/- The checker in memory: lines, temporaries. No condition. -/
namespace Go.Lang
theorem need_pos : ∀ (x : T) (k : Nat), 1 ≤ need x k
  | .num .., k => by simp [need]
  | .name .., k => by simp [need]
  | .nil, k => by simp [need]
  | .index _ _ _ p, k => need_pos p 0
  | .call _ _ p, k => need_pos p 0
  | .un _ p, k => need_pos p 0
  | .bin t x y, k => by
    have h1 := need_pos x 0
    rw [need]; omega
  | .cons x xs, k => by
    have h1 := need_pos x 0
    rw [need]; omega
  | .letS .., k => by simp [need]
  | .setS .., k => by simp [need]
  | .putS .., k => by simp [need]
  | .ifS .., k => by simp [need]
  | .whileS .., k => by simp [need]
  | .retS .., k => by simp [need]
  | .prtS .., k => by simp [need]
  | .doS .., k => by simp [need]
  | .block .., k => by simp [need]
theorem C.bind_assoc {α β γ : Type} (r : C α) (k : α → C β) (q : β → C γ) : (r.bind k).bind q = r.bind fun x => (k x).bind q := by cases r <;> rfl
theorem ok_cons {x xs : T} (h : (T.cons x xs).ok 1 = true) : x.ok 0 = true ∧ xs.ok 1 = true := by
  simpa [T.ok] using h
theorem ok_cons3 {x xs : T} (h : (T.cons x xs).ok 3 = true) : x.ok 2 = true ∧ xs.ok 3 = true := by
  simpa [T.ok] using h
end Go.Lang
namespace Go.Proofs.YtojogkljneonmaaGreatDoor
open Go Go.Proofs Go.Sep Go.XHeap Go.RowKit Go.Lang
set_option linter.unusedVariables false
set_option linter.unusedSimpArgs false
variable {W : World} {X : Cx} {S : Sp} {n : Nat} {Ls : Lcs} {lk : Lk}
theorem lineof_any [Inhabited G3o] {x : T} {v : Value} {B : Asn} (hx : x.ok 0 = true) (hP : isP x [v] B) (h : B.at_ W) : Calls Tryz.prog 134 #[v] W fun e w' => e = .returned (.int .i64 (lineOf x)) ∧ w' = W := by
  refine vc134 v ?_
  cases x with
  | num a b =>
    obtain ⟨e, -⟩ := hP
    cases e
    exact tag_ne (by decide) (tag_ne (by decide) (tag_ne (by decide) (tag_ne (by decide) (tag_ne (by decide) ⟨rfl, rfl⟩))))
  | name t s w =>
    obtain ⟨k, e, rfl⟩ := hP
    cases e
    have h : Blk W k (nameC t s w).toArray 221 := h
    exact tag_eq ⟨_, rfl, ptr_some ⟨_, h.cell' (i := 2) rfl, rfl, rfl⟩⟩
  | index t w z p =>
    obtain ⟨k, y, A1, -, e, rfl⟩ := hP
    cases e
    have h : Blk W k (indexC t w z y).toArray 176 := h.1
    exact tag_ne (by decide) (tag_eq ⟨_, rfl, ptr_some ⟨_, h.cell' (i := 2) rfl, rfl, rfl⟩⟩)
  | call t f xs =>
    obtain ⟨k, p, c, us, A1, -, e, rfl⟩ := hP
    cases e
    have h : Blk W k (callC t f (.slice p us.length c)).toArray 214 := h.1
    exact tag_ne (by decide) (tag_ne (by decide) (tag_eq ⟨_, rfl, ptr_some ⟨_, h.cell' (i := 2) rfl, rfl, rfl⟩⟩))
  | un t x =>
    obtain ⟨k, u, A1, -, e, rfl⟩ := hP
    cases e
    have h : Blk W k (unC t u).toArray 217 := h.1
    exact tag_ne (by decide) (tag_ne (by decide) (tag_ne (by decide) (tag_eq ⟨_, rfl, ptr_some ⟨_, h.cell' (i := 2) rfl, rfl, rfl⟩⟩)))
  | bin t x y =>
    obtain ⟨k, u, u2, A1, A2, -, -, e, rfl⟩ := hP
    cases e
    have h : Blk W k (binC t u u2).toArray 230 := h.1
    exact tag_ne (by decide) (tag_ne (by decide) (tag_ne (by decide) (tag_ne (by decide) (tag_eq ⟨_, rfl, ptr_some ⟨_, h.cell' (i := 2) rfl, rfl, rfl⟩⟩))))
  | nil => obtain ⟨e, -⟩ := hP; cases e
  | cons => cases hx
  | letS => cases hx
  | setS => cases hx
  | putS => cases hx
  | ifS => cases hx
  | whileS => cases hx
  | retS => cases hx
  | prtS => cases hx
  | doS => cases hx
  | block => cases hx
theorem num_meth (W : World) (x : Int) : Sx.meth Tryz.prog (.iface 211 (.int .u32 x)) "Need" #[] W 233 #[.int .u32 x] := by
  show Eq _ _
  kernel_rfl
theorem name_meth (W : World) (k : Nat) : Sx.meth Tryz.prog (.iface 167 (pt k)) "Need" #[] W 224 #[pt k] := by
  show Eq _ _
  kernel_rfl
theorem index_meth (W : World) (k : Nat) : Sx.meth Tryz.prog (.iface 177 (pt k)) "Need" #[] W 226 #[pt k] := by
  show Eq _ _
  kernel_rfl
theorem call_meth (W : World) (k : Nat) : Sx.meth Tryz.prog (.iface 193 (pt k)) "Need" #[] W 232 #[pt k] := by
  show Eq _ _
  kernel_rfl
theorem un_meth (W : World) (k : Nat) : Sx.meth Tryz.prog (.iface 215 (pt k)) "Need" #[] W 234 #[pt k] := by
  show Eq _ _
  kernel_rfl
theorem bin_meth (W : World) (k : Nat) : Sx.meth Tryz.prog (.iface 218 (pt k)) "Need" #[] W 235 #[pt k] := by
  show Eq _ _
  kernel_rfl
theorem row_nil {r : T} {A : Asn} (hr : r.ok 1 = true) (h : isP r [] A) : r = .nil := by
  cases r with
  | nil => rfl
  | cons x xs => obtain ⟨v, us, A1, As, -, -, e, -⟩ := h; cases e
  | num => cases hr
  | name => cases hr
  | index => cases hr
  | call => cases hr
  | un => cases hr
  | bin => cases hr
  | letS => cases hr
  | setS => cases hr
  | putS => cases hr
  | ifS => cases hr
  | whileS => cases hr
  | retS => cases hr
  | prtS => cases hr
  | doS => cases hr
  | block => cases hr
theorem row_cons {r : T} {v : Value} {us : List Value} {A : Asn} (hr : r.ok 1 = true) (h : isP r (v :: us) A) : ∃ y ys A1 As, r = .cons y ys ∧ isP y [v] A1 ∧ isP ys us (all As) ∧ A = all (A1 :: As) ∧ y.ok 0 = true ∧ ys.ok 1 = true := by
  cases r with
  | nil => obtain ⟨e, -⟩ := h; cases e
  | cons x xs =>
    obtain ⟨v', us', A1, As, h1, h2, e, rfl⟩ := h
    cases e
    exact ⟨x, xs, A1, As, rfl, h1, h2, rfl, ok_cons hr⟩
  | num => cases hr
  | name => cases hr
  | index => cases hr
  | call => cases hr
  | un => cases hr
  | bin => cases hr
  | letS => cases hr
  | setS => cases hr
  | putS => cases hr
  | ifS => cases hr
  | whileS => cases hr
  | retS => cases hr
  | prtS => cases hr
  | doS => cases hr
  | block => cases hr
theorem row_len [Inhabited G3o] {us : List Value} : ∀ {r : T} {A : Asn}, r.ok 1 = true → isP r us A → us.length = r.len ∧ r.len ≤ r.sz := by
  induction us with
  | nil => intro r A hr h; have := row_nil hr h; subst this; exact ⟨rfl, by simp [T.len]⟩
  | cons v us ih =>
    intro r A hr h
    obtain ⟨y, ys, A1, As, rfl, -, h2, -, -, h3⟩ := row_cons hr h
    obtain ⟨h4, h5⟩ := ih h3 h2
    exact ⟨by simp [T.len, h4], by simp only [T.len, T.sz]; omega⟩
theorem i64s {a b : Nat} (h : a + b < 9223372036854775808) : IntKind.wrap .i64 ((a : Int) + (b : Int)) = ((a + b : Nat) : Int) := by
  rw [show ((a : Int) + (b : Int)) = ((a + b : Nat) : Int) by omega]; exact Go.Bits.n64 h
theorem max_nat (a b : Nat) : (if ((b : Nat) : Int) > (a : Int) then (b : Int) else (a : Int)) = ((max a b : Nat) : Int) := by
  by_cases h : a < b
  · rw [if_pos (by omega), Nat.max_eq_right (by omega)]
  · rw [if_neg (by omega), Nat.max_eq_left (by omega)]
/-- how many temporaries an expression needs -/
theorem need_any [Inhabited G3o] (W : World) : ∀ (N : Nat) (x : T), x.sz ≤ N → N < 4611686018427387904 → x.ok 0 = true → ∀ (v : Value) (B : Asn), isP x [v] B → B.at_ W →
    ∃ u vs, Sx.meth Tryz.prog v "Need" #[] W u vs ∧ Calls Tryz.prog u vs W fun e w' => e = .returned (.int .i64 ((need x 0 : Nat) : Int)) ∧ w' = W := by
  intro N
  induction N with
  | zero => intro x hx; cases x <;> simp [T.sz] at hx
  | succ N ih =>
    intro x hsz hN hx v B hP h
    have ih := fun (x : T) (hs : x.sz ≤ N) => ih x hs (by omega)
    cases x with
    | num a b =>
      obtain ⟨e, -⟩ := hP
      cases e
      exact ⟨_, _, num_meth W _, vc233 _ ⟨rfl, rfl⟩⟩
    | name t s w =>
      obtain ⟨k, e, rfl⟩ := hP
      cases e
      exact ⟨_, _, name_meth W _, vc224 k 0 ⟨rfl, rfl⟩⟩
    | index t w z p =>
      obtain ⟨k, y, A1, h1, e, rfl⟩ := hP
      cases e
      have hb : Blk W k (indexC t w z y).toArray 176 := h.1
      have hp : p.ok 0 = true := by simpa [T.ok] using hx
      simp only [T.sz] at hsz
      obtain ⟨u, vs, hm, hc⟩ := ih p (by omega) hp y A1 h1 (h.2.2.1)
      refine ⟨_, _, index_meth W _, vc226 k 0 ⟨_, hb.cell' (i := 5) rfl, u, vs, hm, hc.mono ?_⟩⟩
      rintro _ w2 ⟨rfl, rfl⟩
      exact ⟨_, rfl, rfl, rfl⟩
    | un t p =>
      obtain ⟨k, y, A1, h1, e, rfl⟩ := hP
      cases e
      have hb : Blk W k (unC t y).toArray 217 := h.1
      have hp : p.ok 0 = true := by simpa [T.ok] using hx
      simp only [T.sz] at hsz
      obtain ⟨u, vs, hm, hc⟩ := ih p (by omega) hp y A1 h1 (h.2.2.1)
      refine ⟨_, _, un_meth W _, vc234 k 0 ⟨_, hb.cell' (i := 4) rfl, u, vs, hm, hc.mono ?_⟩⟩
      rintro _ w2 ⟨rfl, rfl⟩
      exact ⟨_, rfl, rfl, rfl⟩
    | bin t x y =>
      obtain ⟨k, u1, u2, A1, A2, h1, h2, e, rfl⟩ := hP
      cases e
      have hb : Blk W k (binC t u1 u2).toArray 230 := h.1
      obtain ⟨hx1, hy1⟩ : x.ok 0 = true ∧ y.ok 0 = true := by simpa [T.ok] using hx
      simp only [T.sz] at hsz
      have hny := need_le y 0
      obtain ⟨u, vs, hm, hc⟩ := ih x (by omega) hx1 u1 A1 h1 (h.2.2.1)
      obtain ⟨u', vs', hm', hc'⟩ := ih y (by omega) hy1 u2 A2 h2 (h.2.2.2.2.1)
      refine ⟨_, _, bin_meth W _, vc235 k 0 ⟨_, hb.cell' (i := 5) rfl, u', vs', hm', hc'.mono ?_⟩⟩
      rintro _ w2 ⟨rfl, rfl⟩
      refine ⟨_, rfl, t.s, hb.cell' (i := 3) rfl, ?_⟩
      rw [toList_eq]
      have eq : need (.bin t x y) 0 = max (need x 0) (if t.s = ofL [38, 38] ∨ t.s = ofL [124, 124] then need y 0 else need y 0 + 1) := rfl
      refine Sx.split_of (fun h3 => ?_) (fun h3 => ?_)
      · have h3 : ¬ t.s = ofL [38, 38] := by
          intro e
          have e : t.s = ⟨#[38, 38]⟩ := e
          rw [decide_eq_true e] at h3; cases h3
        refine ⟨t.s, hb.cell' (i := 3) rfl, ?_⟩
        rw [toList_eq]
        refine Sx.split_of (fun h4 => ?_) (fun h4 => ?_)
        · have h4 : ¬ t.s = ofL [124, 124] := by
            intro e
            have e : t.s = ⟨#[124, 124]⟩ := e
            rw [decide_eq_true e] at h4; cases h4
          rw [if_neg (by rintro (e | e); exact h3 e; exact h4 e)] at eq
          rintro z rfl
          refine ⟨_, hb.cell' (i := 4) rfl, u, vs, hm, hc.mono ?_⟩
          rintro _ w3 ⟨rfl, rfl⟩
          refine ⟨_, rfl, ?_, rfl⟩
          rw [show IntKind.wrap .i64 (((need y 0 : Nat) : Int) + 1) = ((need y 0 + 1 : Nat) : Int) from i64s (b := 1) (by omega), max_nat, eq]
        · have h4 : t.s = ofL [124, 124] := by
            cases hd : decide (t.s = ⟨#[124, 124]⟩) with
            | true => exact of_decide_eq_true hd
            | false => rw [hd] at h4; cases h4
          rw [if_pos (.inr h4)] at eq
          refine ⟨_, hb.cell' (i := 4) rfl, u, vs, hm, hc.mono ?_⟩
          rintro _ w3 ⟨rfl, rfl⟩
          refine ⟨_, rfl, ?_, rfl⟩
          rw [max_nat, eq]
      · have h3 : t.s = ofL [38, 38] := by
          cases hd : decide (t.s = ⟨#[38, 38]⟩) with
          | true => exact of_decide_eq_true hd
          | false => rw [hd] at h3; cases h3
        rw [if_pos (.inl h3)] at eq
        refine ⟨_, hb.cell' (i := 4) rfl, u, vs, hm, hc.mono ?_⟩
        rintro _ w3 ⟨rfl, rfl⟩
        refine ⟨_, rfl, ?_, rfl⟩
        rw [max_nat, eq]
    | call t f xs =>
      obtain ⟨k, p, c, us, A1, h1, e, rfl⟩ := hP
      cases e
      have hb : Blk W k (callC t f (.slice p us.length c)).toArray 214 := h.1
      have hsl : Sl W 169 1 (.slice p us.length c) us.length us := h.2.2.1
      have hA : A1.at_ W := h.2.2.2.2.1
      have hxs : xs.ok 1 = true := by simpa [T.ok] using hx
      simp only [T.sz] at hsz
      refine ⟨_, _, call_meth W _, vc232 k 0 ⟨_, _, _, hb.cell' (i := 4) rfl, ?_⟩⟩
      have hnl := need_le xs 0
      refine ⟨fun x m w => w = W ∧ ∃ (i a : Nat) (r : T) (us2 : List Value) (A2 : Asn), x = i ∧ m = a ∧ us.drop i = us2 ∧ i ≤ us.length ∧ isP r us2 A2 ∧ A2.at_ W ∧ r.ok 1 = true ∧ r.sz ≤ N ∧ 1 ≤ a ∧ max a (need r i) = need xs 0, fun x _ _ => ((us.length : Int) - x).toNat,
        ⟨rfl, 0, 1, xs, us, A1, rfl, rfl, rfl, by omega, h1, hA, hxs, by omega, by omega, by have := need_pos xs 0; omega⟩, fun _ x m w2 hI => ?_⟩
      obtain ⟨rfl, i, a, r, us2, A2, rfl, rfl, hd, hi, hr, hA2, hro, hrs, ha, hm⟩ := hI
      refine Sx.split_of (fun h2 => ?_) (fun h2 => ?_)
      · have h2 : i < us.length := by have := of_decide_eq_true h2; omega
        have hdc : us.drop i = us[i] :: us.drop (i + 1) := List.drop_eq_getElem_cons h2
        rw [hdc] at hd
        subst hd
        obtain ⟨y, ys, B1, Bs, rfl, hy, hys, rfl, hyo, hyso⟩ := row_cons hro hr
        simp only [T.sz] at hrs
        obtain ⟨u, vs, hm1, hc1⟩ := ih y (by omega) hyo _ B1 hy hA2.1
        refine ⟨⟨by omega, by omega⟩, ?_⟩
        refine sl_get hsl (i := i) (v := us[i]) (List.getElem?_eq_getElem h2) fun g o hc => ?_
        rw [ix1]
        refine ⟨_, hc, u, vs, hm1, hc1.mono ?_⟩
        rintro _ w3 ⟨rfl, rfl⟩
        refine ⟨_, rfl, ?_⟩
        have hny := need_le y 0
        obtain ⟨hl1, hl2⟩ := row_len hxs h1
        rintro z2 rfl z3 rfl
        rw [i64s (by omega), max_nat, show IntKind.wrap .i64 ((i : Nat) + 1 : Int) = ((i + 1 : Nat) : Int) from i64s (b := 1) (by omega)]
        refine ⟨⟨rfl, i + 1, _, ys, _, all Bs, rfl, rfl, rfl, by omega, hys, hA2.2.2, hyso, by omega, by omega, ?_⟩, by show ((us.length : Int) - ((i + 1 : Nat) : Int)).toNat < ((us.length : Int) - ((i : Nat) : Int)).toNat; omega⟩
        rw [← hm, need, Nat.max_assoc]
      · have h2 : us.length ≤ i := by have := of_decide_eq_false h2; omega
        rw [List.drop_eq_nil_of_le h2] at hd
        subst hd
        have := row_nil hro hr
        subst this
        refine ⟨?_, rfl⟩
        rw [show need (.call t f xs) 0 = need xs 0 from rfl, ← hm, show need .nil i = 1 from rfl, Nat.max_eq_left ha]
    | nil => cases hx
    | cons => cases hx
    | letS => cases hx
    | setS => cases hx
    | putS => cases hx
    | ifS => cases hx
    | whileS => cases hx
    | retS => cases hx
    | prtS => cases hx
    | doS => cases hx
    | block => cases hx
end Go.Proofs.YtojogkljneonmaaGreatDoor
