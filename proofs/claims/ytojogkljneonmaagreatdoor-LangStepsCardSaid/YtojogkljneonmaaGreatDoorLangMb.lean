import Derived.Test.YtojogkljneonmaaGreatDoorLangVe
import Derived.Test.YtojogkljneonmaaGreatDoorLangU
import Derived.Test.YtojogkljneonmaaGreatDoorLangK
/- The checker in memory: what is visible; the small functions. No condition. -/
namespace Go.Proofs.YtojogkljneonmaaGreatDoor
open Go Go.Proofs Go.Sep Go.XHeap Go.RowKit Go.Lang
set_option linter.unusedVariables false
set_option linter.unusedSimpArgs false

/-- a map keyed by strings -/
def mpS (b : Nat) (f : ByteArray → Option Value) : Asn := ⟨fun k => k = b, fun w => Sx.MpS w b f, fun h ht hn => Sx.MpS.keep h ht (hn b rfl), fun h k e => by subst e; exact Sx.MpS.lt h⟩
/-- a function's header: its block, its token, its name, parameters, body, number -/
structure Fh where
  k : Nat
  t : Tok
  nm : ByteArray
  np : Nat
  p : Option Addr
  c : Nat
  kb : Nat
  no : Int
/-- a declaration's header in memory -/
inductive Gd where
  | var (k : Nat) (t : Tok) (nm : ByteArray) (w z : Int)
  | fn (h : Fh) (sl : Int)
def hdA : Gd → Asn
  | .var k t nm w z => blk k (varC t nm w z).toArray 127
  | .fn h s => blk h.k (fnC h.t h.nm (.slice h.p h.np h.c) (pt h.kb) s h.no).toArray 115
/-- the scope's slices -/
structure Sp where
  pl : Option Addr
  cl : Nat
  pi : Option Addr
  ci : Nat
/-- what does not change in a function's check -/
structure Cx where
  ks : Nat
  kp : Nat
  km : Nat
  I : ByteArray → Option Value
  G : List Gd
  j : Nat
  h : Fh
def Cx.gs (X : Cx) (n : Nat) : List Gd := X.G.set X.j (.fn X.h (n : Int))
def scL (X : Cx) (S : Sp) (n : Nat) (Ls : Lcs) : List Asn :=
  [blk X.ks #[pt X.kp, .map (some X.km), .slice S.pl Ls.length S.cl, .slice S.pi Ls.length S.ci, pt X.h.k] 138,
   sl 9 1 (.slice S.pl Ls.length S.cl) Ls.length (Ls.map fun p => .string p.1),
   sl 3 1 (.slice S.pi Ls.length S.ci) Ls.length (Ls.map fun p => .int .i64 (p.2 : Int)),
   mpS X.km X.I, all ((X.gs n).map hdA)]
def scA (X : Cx) (S : Sp) (n : Nat) (Ls : Lcs) : Asn := all (scL X S n Ls)
/-- what the names' map holds of a name -/
def LkAt (I : ByteArray → Option Value) (G : List Gd) (s : ByteArray) : Option Gl → Prop
  | none => I s = none
  | some (.var w z) => ∃ (i k : Nat) (t : Tok) (nm : ByteArray), I s = some (.iface 125 (pt k)) ∧ G[i]? = some (Gd.var k t nm w z)
  | some (.fn k np) => ∃ (i : Nat) (h : Fh) (sl : Int), I s = some (.iface 63 (pt k)) ∧ G[i]? = some (Gd.fn h sl) ∧ h.k = k ∧ h.np = np
def EnvOk (lk : Lk) (X : Cx) : Prop := X.j < X.G.length ∧ ∀ n s, LkAt X.I (X.gs n) s (lk s)
/-- it panics with the fault -/
def ErrC (A : Asn) (w : World) (line en : Int) (e : Ending) (w' : World) : Prop := ∃ b, e = .panicked (pan b) ∧ Post A w (fltA b line en) w'
def AnsC {α : Type} (A : Asn) (w : World) (r : C α) (K : α → Ending → World → Prop) (e : Ending) (w' : World) : Prop := match r with
  | .ok x => K x e w'
  | .err line en => ErrC A w line en e w'
section
variable {P : Program} {f : FuncId} {args : Array Value} {w0 w : World} {M : Nat → Prop} {A A0 : Asn} {L : List Asn} {α β : Type} {K : α → Ending → World → Prop} {K0 : β → Ending → World → Prop} {line en : Int} {G : Ending → World → Prop}
theorem fail_c [Inhabited G3o] (H : St w0 A0.own w L) (line e : Int) {R0 : C β} (hR : R0 = .err line e) : Calls Tryz.prog 52 #[.int .i64 line, .int .i64 e] w (fun en w' => ∃ c : List PanicEntry, en = .panicked c ∧ AnsC A0 w0 R0 K0 (.panicked c) w') := by
  subst hR
  refine (fail_any line e).mono ?_
  rintro en w' ⟨q, rfl, hp⟩
  exact ⟨_, rfl, q, rfl, (H.add hp).post L.length (by simp)⟩
theorem ccase [Inhabited G3o] (H : St w0 A0.own w L) (k : Nat) (hk : L[k]? = some A) {r : C α} {kk : α → C β} {R0 : C β} (hR : R0 = r.bind kk) (hc : Calls P f args w (AnsC A w r K)) (h : ∀ x e w', r = .ok x → R0 = kk x → K x e w' → G e w') :
    Calls P f args w (fun e w' => G e w' ∨ ∃ c : List PanicEntry, e = .panicked c ∧ AnsC A0 w0 R0 K0 (.panicked c) w') := by
  refine hc.mono fun e w' h' => ?_
  cases r with
  | ok x => exact .inl (h x e w' rfl hR h')
  | err line en =>
    obtain ⟨q, rfl, hp⟩ := h'
    subst hR
    exact .inr ⟨_, rfl, q, rfl, (H.upd k hk hp).post k (set_same _ hk)⟩
end
variable {W : World} {X : Cx} {S : Sp} {n : Nat} {Ls : Lcs} {lk : Lk}
theorem find_at (s : ByteArray) : ∀ (L : Lcs) (i : Nat), (∀ j, j < i → ∀ p, L[j]? = some p → p.1 ≠ s) → (∀ p, L[i]? = some p → p.1 = s → localOf L s = (p.2 : Int)) ∧ (L.length ≤ i → localOf L s = -1)
  | [], i, h => ⟨(fun p hp => by simp at hp), (fun _ => rfl)⟩
  | q :: L, 0, h => by
    refine ⟨fun p hp he => ?_, fun h => by simp at h⟩
    simp at hp; subst hp
    unfold localOf
    rw [List.find?_cons_of_pos (by simpa using he)]
  | q :: L, i + 1, h => by
    have hq := h 0 (by omega) q rfl
    have h1 := find_at s L i (fun j hj p hp => h (j + 1) (by omega) p (by simpa using hp))
    have e : localOf (q :: L) s = localOf L s := by
      unfold localOf
      rw [List.find?_cons_of_neg (by simpa using hq)]
    rw [e]
    exact ⟨(fun p hp => h1.1 p (by simpa using hp)), (fun hl => h1.2 (by simpa using hl))⟩
theorem sl_get {w : World} {e : TypeId} {p : Option Addr} {m c : Nat} {xs : List Value} (h : Sl w e 1 (.slice p m c) m xs) {i : Nat} {v : Value} (hi : xs[i]? = some v) {φ : Nat → Nat → Prop} (hφ : ∀ g o, w.cell? ⟨g, o + i, none⟩ = some v → φ g o) : Sx.adr p φ := by
  obtain ⟨ao, cap, hv, hl, -, -, -, h1⟩ := h.open1
  simp at hv
  obtain ⟨rfl, rfl⟩ := hv
  have hlt : i < m := by have := (List.getElem?_eq_some_iff.1 hi).1; omega
  obtain ⟨g, off, rfl, -, h2⟩ := h1 (by omega)
  exact adr_some (hφ g off (by rw [(h2 i hlt).1]; exact hi))
theorem slocal_any [Inhabited G3o] (s : ByteArray) (hsz : Ls.length ≤ 24) (h : (scA X S n Ls).at_ W) : Calls Tryz.prog 96 #[pt X.ks, .string s] W fun e w' => e = .returned (.int .i64 (localOf Ls s)) ∧ w' = W := by
  refine vc96 X.ks 0 s ?_
  have H : St W (scA X S n Ls).own W (scL X S n Ls ++ []) := St.open_ (St.begin h)
  refine ⟨_, _, _, H.ld 0 rfl (i := 2) rfl, ?_⟩
  refine ⟨fun x w => w = W ∧ ∃ i : Nat, x = i ∧ i ≤ Ls.length ∧ ∀ j, j < i → ∀ p, Ls[j]? = some p → p.1 ≠ s, fun x _ => (Ls.length - x).toNat, ⟨rfl, 0, rfl, by omega, fun j hj => by omega⟩, fun _ x w2 hI => ?_⟩
  obtain ⟨rfl, i, rfl, hi, hno⟩ := hI
  refine Sx.split_of (fun h => ?_) (fun h => ?_)
  · have h2 : i < Ls.length := by have := of_decide_eq_true h; omega
    have hg : Ls[i]? = some Ls[i] := List.getElem?_eq_getElem h2
    refine ⟨⟨by omega, by omega⟩, ?_⟩
    refine sl_get (H.nth 1 rfl) (i := i) (v := .string Ls[i].1) (by rw [List.getElem?_map, hg]; rfl) fun g o hc => ?_
    rw [ix1]
    refine ⟨_, hc, ?_⟩
    rw [toList_eq]
    refine Sx.split_of (fun h3 => ?_) (fun h3 => ?_)
    · refine ⟨_, _, _, H.ld 0 rfl (i := 3) rfl, ⟨by omega, by omega⟩, ?_⟩
      refine sl_get (H.nth 2 rfl) (i := i) (v := .int .i64 (Ls[i].2 : Int)) (by rw [List.getElem?_map, hg]; rfl) fun g2 o2 hc2 => ?_
      rw [ix1]
      refine ⟨_, hc2, ?_, rfl⟩
      rw [(find_at s Ls i hno).1 _ hg (of_decide_eq_true h3)]
    · rintro z rfl
      have hw : IntKind.wrap .i64 ((i : Nat) + 1 : Int) = ((i + 1 : Nat) : Int) := by rw [show ((i : Nat) + 1 : Int) = ((i + 1 : Nat) : Int) by omega]; exact Go.Bits.n64 (by omega)
      rw [hw]
      refine ⟨⟨rfl, i + 1, rfl, by omega, fun j hj p hp => ?_⟩, by show ((Ls.length : Int) - ((i + 1 : Nat) : Int)).toNat < ((Ls.length : Int) - ((i : Nat) : Int)).toNat; omega⟩
      rcases Nat.lt_or_eq_of_le (Nat.lt_succ_iff.1 hj) with h7 | h7
      · exact hno j h7 p hp
      · subst h7
        rw [hg] at hp
        cases hp
        exact of_decide_eq_false h3
  · have h2 : Ls.length ≤ i := by have := of_decide_eq_false h; omega
    exact ⟨by rw [(find_at s Ls i hno).2 h2], rfl⟩
theorem hd_at {w : World} {L : List Gd} {i : Nat} {g : Gd} (h : here (L.map hdA) w) (hi : L[i]? = some g) : (hdA g).at_ w := h.nth i (by rw [List.getElem?_map, hi]; rfl)
theorem tag_eq {t : TypeId} {v : Value} {a : Value → Prop} {b : Prop} (h : a v) : Sx.tagOf (.iface t v) t a b := by
  exact Sx.split_of (fun _ => h) (fun e => by rw [Nat.beq_refl] at e; cases e)
theorem tag_ne {t u : TypeId} {v : Value} {a : Value → Prop} {b : Prop} (hn : t ≠ u) (h : b) : Sx.tagOf (.iface t v) u a b := by
  exact Sx.split_of (fun e => absurd (Nat.eq_of_beq_eq_true e) hn) (fun _ => h)
theorem tag_nil {u : TypeId} {a : Value → Prop} {b : Prop} (h : b) : Sx.tagOf .nilIface u a b := h
end Go.Proofs.YtojogkljneonmaaGreatDoor
/- The checker in memory: names, temporaries. No condition. -/
namespace Go.Lang
def T.isNil : T → Bool
  | .nil => true
  | _ => false
/-- which trees are well formed: 0 an expression, 1 a row of them, 2 a statement, 3 a row of them -/
def T.ok : T → Nat → Bool
  | .num .., k => k == 0
  | .name .., k => k == 0
  | .index _ _ _ p, k => k == 0 && p.ok 0
  | .call _ _ xs, k => k == 0 && xs.ok 1
  | .un _ x, k => k == 0 && x.ok 0
  | .bin _ x y, k => k == 0 && x.ok 0 && y.ok 0
  | .nil, k => k == 1 || k == 3
  | .cons x xs, k => (k == 1 && x.ok 0 && xs.ok 1) || (k == 3 && x.ok 2 && xs.ok 3)
  | .letS _ _ _ _ x, k => k == 2 && x.ok 0
  | .setS _ _ _ x, k => k == 2 && x.ok 0
  | .putS _ _ _ p x, k => k == 2 && p.ok 0 && x.ok 0
  | .ifS _ c a b, k => k == 2 && c.ok 0 && a.ok 2 && (b.ok 2 || b.isNil)
  | .whileS _ c b, k => k == 2 && c.ok 0 && b.ok 2
  | .retS _ x, k => k == 2 && x.ok 0
  | .prtS _ x, k => k == 2 && x.ok 0
  | .doS _ x, k => k == 2 && x.ok 0
  | .block _ l, k => k == 2 && l.ok 3
end Go.Lang
namespace Go.Proofs.YtojogkljneonmaaGreatDoor
open Go Go.Proofs Go.Sep Go.XHeap Go.RowKit Go.Lang
set_option linter.unusedVariables false
set_option linter.unusedSimpArgs false
variable {W : World} {X : Cx} {S : Sp} {n : Nat} {Ls : Lcs} {lk : Lk}
theorem ansc_ok {α : Type} {A : Asn} {w w' : World} {R0 : C α} {x : α} {K : α → Ending → World → Prop} {e : Ending} (h : R0 = .ok x) (hk : K x e w') : AnsC A w R0 K e w' := by subst h; exact hk
theorem mapp_some {k : Nat} {f : Nat → Prop} (h : f k) : Sx.mapp (some k) f := h
theorem sword_any [Inhabited G3o] {t : Tok} {s w : Int} {k : Nat} (hE : EnvOk lk X) (hn : Ls.length ≤ 24) (h : (all [scA X S n Ls, blk k (nameC t s w).toArray 221]).at_ W) :
    Calls Tryz.prog 114 #[pt X.ks, pt k] W (AnsC (all [scA X S n Ls, blk k (nameC t s w).toArray 221]) W (cword lk Ls t w) fun p e w' => e = .returned (.tuple #[]) ∧ Post (all [scA X S n Ls, blk k (nameC t s w).toArray 221]) W (all [scA X S n Ls, blk k (nameC t p.1 p.2).toArray 221]) w') := by
  refine vc114 X.ks 0 k 0 ?_
  have H := St.open_ (L' := []) (St.begin h)
  refine ⟨_, H.ld 1 rfl (i := 1) rfl, ?_⟩
  refine (slocal_any t.s hn (H.nth 0 rfl)).mono ?_
  rintro _ w2 ⟨rfl, rfl⟩
  refine ⟨_, rfl, ?_⟩
  refine H.st 1 rfl (i := 3) (by simp [nameC, tkL]) fun w3 H3 => ?_
  have H3 : St w2 (all [scA X S n Ls, blk k (nameC t s w).toArray 221]).own w3 [scA X S n Ls, blk k (nameC t (localOf Ls t.s) w).toArray 221] := H3
  refine ⟨_, H3.ld 1 rfl (i := 3) rfl, ?_⟩
  unfold cword
  refine Sx.split_of (fun h1 => ?_) (fun h1 => ?_)
  · rw [if_pos (of_decide_eq_true h1)]
    exact ⟨rfl, (St.shut (L := [_, _]) (L' := []) H3).post 0 rfl⟩
  · rw [if_neg (of_decide_eq_false h1)]
    have H4 := St.open_ (L := scL X S n Ls) H3
    refine ⟨_, H4.ld 0 rfl (i := 1) rfl, _, H4.ld 5 rfl (i := 1) rfl, mapp_some ⟨X.I, H4.nth 3 rfl, _, rfl, ?_⟩⟩
    have hL := hE.2 n t.s
    cases hlk : lk t.s with
    | none =>
      rw [hlk] at hL
      rw [show X.I t.s = none from hL]
      refine tag_nil ?_
      refine H4.drN fun w7 H7 => ?_
      exact ⟨_, H7.ld 5 rfl (i := 2) rfl, fail_c H7 t.line 9 rfl⟩
    | some g =>
      rw [hlk] at hL
      cases g with
      | fn kf np =>
        obtain ⟨i, hf, sl, hI, -⟩ := hL
        rw [hI]
        refine tag_ne (by decide) ?_
        refine H4.drN fun w7 H7 => ?_
        exact ⟨_, H7.ld 5 rfl (i := 2) rfl, fail_c H7 t.line 9 rfl⟩
      | var wd z =>
        obtain ⟨i, kv, tv, nv, hI, hG⟩ := hL
        rw [hI]
        refine tag_eq ⟨_, rfl, ?_⟩
        refine H4.drN fun w7 H7 => ?_
        have hb : Blk w7 kv (varC tv nv wd z).toArray 127 := hd_at (H7.nth 4 rfl) hG
        refine ptr_some ⟨z, hb.cell' (i := 5) rfl, ?_⟩
        refine Sx.split_of (fun h2 => ?_) (fun h2 => ?_)
        · have h2 := of_decide_eq_true h2
          exact ⟨_, H7.ld 5 rfl (i := 2) rfl, fail_c H7 t.line 9 (if_pos h2)⟩
        · have h2 := of_decide_eq_false h2
          refine ptr_some ⟨wd, hb.cell' (i := 4) rfl, ?_⟩
          refine H7.st 5 rfl (i := 4) (by simp [nameC, tkL]) fun w8 H8 => ?_
          have H9 := St.shut (L := scL X S n Ls) (L' := [blk k (nameC t (localOf Ls t.s) wd).toArray 221]) H8
          exact ansc_ok (x := (localOf Ls t.s, wd)) (if_neg h2) ⟨rfl, (St.shut (L := [scA X S n Ls, _]) (L' := []) H9).post 0 rfl⟩
def SizesOk (lk : Lk) : Prop := ∀ s w z, lk s = some (.var w z) → 0 ≤ z ∧ z ≤ 256
theorem sarray_any [Inhabited G3o] {t : Tok} {w z : Int} {v : Value} {k : Nat} (hE : EnvOk lk X) (hZ : SizesOk lk) (hn : Ls.length ≤ 24) (h : (all [scA X S n Ls, blk k (indexC t w z v).toArray 176]).at_ W) :
    Calls Tryz.prog 116 #[pt X.ks, pt k] W (AnsC (all [scA X S n Ls, blk k (indexC t w z v).toArray 176]) W (carr lk Ls t) fun p e w' => e = .returned (.tuple #[]) ∧ Post (all [scA X S n Ls, blk k (indexC t w z v).toArray 176]) W (all [scA X S n Ls, blk k (indexC t p.1 p.2 v).toArray 176]) w') := by
  refine vc116 X.ks 0 k 0 ?_
  have H := St.open_ (L' := []) (St.begin h)
  have H4 := St.open_ (L := scL X S n Ls) H
  refine ⟨_, H4.ld 0 rfl (i := 1) rfl, _, H4.ld 5 rfl (i := 1) rfl, mapp_some ⟨X.I, H4.nth 3 rfl, _, rfl, ?_⟩⟩
  have hL := hE.2 n t.s
  unfold carr
  cases hlk : lk t.s with
  | none =>
    rw [hlk] at hL
    rw [show X.I t.s = none from hL]
    refine tag_nil ?_
    refine H4.drN fun w7 H7 => ?_
    exact ⟨_, H7.ld 5 rfl (i := 2) rfl, fail_c H7 t.line 9 rfl⟩
  | some g =>
    rw [hlk] at hL
    cases g with
    | fn kf np =>
      obtain ⟨i, hf, sl, hI, -⟩ := hL
      rw [hI]
      refine tag_ne (by decide) ?_
      refine H4.drN fun w7 H7 => ?_
      exact ⟨_, H7.ld 5 rfl (i := 2) rfl, fail_c H7 t.line 9 rfl⟩
    | var wd zz =>
      have hz := hZ _ _ _ hlk
      obtain ⟨i, kv, tv, nv, hI, hG⟩ := hL
      rw [hI]
      refine tag_eq ⟨_, rfl, ?_⟩
      refine H4.drN fun w7 H7 => ?_
      have hb : Blk w7 kv (varC tv nv wd zz).toArray 127 := hd_at (H7.nth 4 rfl) hG
      refine ptr_some ⟨zz, hb.cell' (i := 5) rfl, ?_⟩
      refine Sx.split_of (fun h2 => ?_) (fun h2 => ?_)
      · have h2 := beq_iff_eq.1 h2
        exact ⟨_, H7.ld 5 rfl (i := 2) rfl, fail_c H7 t.line 9 (if_pos h2)⟩
      · have h2 : zz ≠ 0 := beq_eq_false_iff_ne.1 h2
        refine ⟨_, H7.ld 5 rfl (i := 1) rfl, ?_⟩
        have H7' := St.shut (L := scL X S n Ls) (L' := [_]) H7
        refine (slocal_any t.s hn (H7'.nth 0 rfl)).mono ?_
        rintro _ w8 ⟨rfl, rfl⟩
        refine ⟨_, rfl, ?_⟩
        refine Sx.split_of (fun h3 => ?_) (fun h3 => ?_)
        · have h3 := of_decide_eq_true h3
          exact ⟨_, H7.ld 5 rfl (i := 2) rfl, fail_c H7 t.line 9 ((if_neg h2).trans (if_pos h3))⟩
        · have h3 := of_decide_eq_false h3
          refine H7.dr fun w9 H9 => ?_
          have hb : Blk w9 kv (varC tv nv wd zz).toArray 127 := hd_at (H9.nth 4 rfl) hG
          refine ptr_some (ptr_some ⟨wd, hb.cell' (i := 4) rfl, zz, hb.cell' (i := 5) rfl, ?_⟩)
          rintro z7 rfl
          rw [show IntKind.wrap .u32 zz = zz by
            obtain ⟨m, rfl⟩ : ∃ m : Nat, zz = m := ⟨zz.toNat, by omega⟩
            exact Go.Bits.n32 (by omega)]
          refine H9.st 5 rfl (i := 3) (by simp [indexC, tkL]) fun w10 H10 => ?_
          refine H10.st 5 rfl (i := 4) (by simp [indexC, tkL]) fun w11 H11 => ?_
          have H12 := St.shut (L := scL X S n Ls) (L' := [blk k (indexC t wd zz v).toArray 176]) H11
          exact ansc_ok (x := (wd, zz)) ((if_neg h2).trans (if_neg h3)) ⟨rfl, (St.shut (L := [scA X S n Ls, _]) (L' := []) H12).post 0 rfl⟩
end Go.Proofs.YtojogkljneonmaaGreatDoor
/- The small language in plain Lean: how a program runs. No condition. -/
namespace Go.Lang
set_option linter.unusedVariables false
set_option linter.unusedSimpArgs false

/-- a program that runs: the globals' words, what it printed, the steps and the stack that are left, the function's slots -/
structure Rn where
  words : List UInt32
  out : List UInt8
  steps : Nat
  room : Nat
  slots : List UInt32
/-- what a part of a program comes to: values; or it stops (0: its steps are used up; else what went wrong) -/
inductive Rs (σ : Type) where
  | ok (v : List UInt32) (s : σ)
  | stop (k : Nat) (s : σ)
  | out
def Rs.bind {σ : Type} : Rs σ → (List UInt32 → σ → Rs σ) → Rs σ
  | .ok v s, k => k v s
  | .stop n s, _ => .stop n s
  | .out, _ => .out
inductive Rq where
  | e (x : T) | al (xs : T) | en (k : Nat) (args : List UInt32) | s (x : T) | ss (xs : T) | w (c b : T)
/-- a function by its block: its slots, its body -/
abbrev Ft := Nat → Option (Nat × T)
def hd (v : List UInt32) : UInt32 := v.headD 0
def tr (b : Bool) : UInt32 := if b then 1 else 0
def cAndAnd : ByteArray := ofL [38, 38]
def cOrOr : ByteArray := ofL [124, 124]
def Rn.step (s : Rn) (k : Rn → Rs Rn) : Rs Rn := if s.steps = 0 then .stop 0 s else k { s with steps := s.steps - 1 }
def Rn.get (s : Rn) (sl w : Int) : UInt32 := if 0 ≤ sl then s.slots.getD sl.toNat 0 else s.words.getD w.toNat 0
def Rn.set (s : Rn) (sl w : Int) (v : UInt32) : Rn := if 0 ≤ sl then { s with slots := s.slots.set sl.toNat v } else { s with words := s.words.set w.toNat v }
/-- the operations that the arithmetic unit does -/
def opOf (s : ByteArray) : Int :=
  if s = ofL [124] then 36 else if s = ofL [94] then 33 else if s = ofL [38] then 37 else if s = ofL [60] then 31 else if s = ofL [60, 60] then 30 else if s = ofL [62, 62] then 35
  else if s = ofL [43] then 28 else if s = ofL [45] then 29 else if s = ofL [42] then 38 else if s = ofL [47] then 42 else if s = ofL [37] then 44 else 0
/-- a sign of one value -/
def unV (s : ByteArray) (v : UInt32) : UInt32 := if s = cMinus then 0 - v else if s = cNot then tr (v == 0) else ~~~ v
/-- a program's parts; E: what an operation does -/
def go (E : ByteArray → UInt32 → UInt32 → UInt32) (F : Ft) : Nat → Rq → Rn → Rs Rn
  | 0, _, _ => .out
  | f + 1, .e x, s => s.step fun s => match x with
    | .num v _ => .ok [UInt32.ofNat v.toNat] s
    | .name _ sl w => .ok [s.get sl w] s
    | .index _ w z p => (go E F f (.e p) s).bind fun v s => if z ≤ ((hd v).toNat : Int) then .stop 1 s else .ok [s.words.getD (w.toNat + (hd v).toNat) 0] s
    | .call _ a xs => (go E F f (.al xs) s).bind fun vs s => go E F f (.en ((a.map Addr.block).getD 0) vs) s
    | .un t x => (go E F f (.e x) s).bind fun v s => .ok [unV t.s (hd v)] s
    | .bin t x y => (go E F f (.e x) s).bind fun v s => if t.s = cAndAnd ∧ hd v = 0 then .ok [0] s else if t.s = cOrOr ∧ hd v ≠ 0 then .ok [1] s else
      (go E F f (.e y) s).bind fun u s => .ok [E t.s (hd v) (hd u)] s
    | _ => .out
  | f + 1, .al xs, s => match xs with
    | .cons x xs => (go E F f (.e x) s).bind fun v s => (go E F f (.al xs) s).bind fun vs s => .ok (hd v :: vs) s
    | .nil => .ok [] s
    | _ => .out
  | f + 1, .en k args, s => match F k with
    | none => .out
    | some (n, b) => if s.room < 10 + n then .stop 2 s else
      (go E F f (.s b) { s with room := s.room - (10 + n), slots := args ++ List.replicate (n - args.length) 0 }).bind fun v s' => .ok [hd v] { s' with slots := s.slots, room := s'.room + (10 + n) }
  | f + 1, .s x, s => s.step fun s => match x with
    | .block _ l => go E F f (.ss l) s
    | .letS _ _ sl w x => (go E F f (.e x) s).bind fun v s => .ok [] (s.set sl w (hd v))
    | .setS _ sl w x => (go E F f (.e x) s).bind fun v s => .ok [] (s.set sl w (hd v))
    | .putS _ w z p x => (go E F f (.e p) s).bind fun k s => (go E F f (.e x) s).bind fun v s => if z ≤ ((hd k).toNat : Int) then .stop 1 s else .ok [] { s with words := s.words.set (w.toNat + (hd k).toNat) (hd v) }
    | .ifS _ c a b => (go E F f (.e c) s).bind fun v s => if hd v ≠ 0 then go E F f (.s a) s else if b.isNil then .ok [] s else go E F f (.s b) s
    | .whileS _ c b => go E F f (.w c b) s
    | .retS _ x => (go E F f (.e x) s).bind fun v s => .ok [hd v] s
    | .prtS _ x => (go E F f (.e x) s).bind fun v s => .ok [] { s with out := s.out ++ [(hd v).toUInt8] }
    | .doS _ x => (go E F f (.e x) s).bind fun v s => .ok [] s
    | _ => .out
  | f + 1, .ss xs, s => match xs with
    | .cons x xs => (go E F f (.s x) s).bind fun v s => if v = [] then go E F f (.ss xs) s else .ok v s
    | .nil => .ok [] s
    | _ => .out
  | f + 1, .w c b, s => (go E F f (.e c) s).bind fun v s => if hd v = 0 then .ok [] s else (go E F f (.s b) s).bind fun v s => if v = [] then go E F f (.w c b) s else .ok v s
variable {E : ByteArray → UInt32 → UInt32 → UInt32} {F : Ft} {f : Nat} {s : Rn}
theorem go_num {v l : Int} : go E F (f + 1) (.e (.num v l)) s = s.step fun s => .ok [UInt32.ofNat v.toNat] s := rfl
theorem go_name {t : Tok} {sl w : Int} : go E F (f + 1) (.e (.name t sl w)) s = s.step fun s => .ok [s.get sl w] s := rfl
theorem go_index {t : Tok} {w z : Int} {p : T} : go E F (f + 1) (.e (.index t w z p)) s = s.step fun s => (go E F f (.e p) s).bind fun v s => if z ≤ ((hd v).toNat : Int) then .stop 1 s else .ok [s.words.getD (w.toNat + (hd v).toNat) 0] s := rfl
theorem go_call {t : Tok} {a : Option Addr} {xs : T} : go E F (f + 1) (.e (.call t a xs)) s = s.step fun s => (go E F f (.al xs) s).bind fun vs s => go E F f (.en ((a.map Addr.block).getD 0) vs) s := rfl
theorem go_un {t : Tok} {x : T} : go E F (f + 1) (.e (.un t x)) s = s.step fun s => (go E F f (.e x) s).bind fun v s => .ok [unV t.s (hd v)] s := rfl
theorem go_bin {t : Tok} {x y : T} : go E F (f + 1) (.e (.bin t x y)) s = s.step fun s => (go E F f (.e x) s).bind fun v s => if t.s = cAndAnd ∧ hd v = 0 then .ok [0] s else if t.s = cOrOr ∧ hd v ≠ 0 then .ok [1] s else
      (go E F f (.e y) s).bind fun u s => .ok [E t.s (hd v) (hd u)] s := rfl
theorem go_al {x xs : T} : go E F (f + 1) (.al (.cons x xs)) s = (go E F f (.e x) s).bind fun v s => (go E F f (.al xs) s).bind fun vs s => .ok (hd v :: vs) s := rfl
theorem go_al0 : go E F (f + 1) (.al .nil) s = .ok [] s := rfl
theorem go_en {k n : Nat} {b : T} {args : List UInt32} (h : F k = some (n, b)) : go E F (f + 1) (.en k args) s = if s.room < 10 + n then .stop 2 s else
      (go E F f (.s b) { s with room := s.room - (10 + n), slots := args ++ List.replicate (n - args.length) 0 }).bind fun v s' => .ok [hd v] { s' with slots := s.slots, room := s'.room + (10 + n) } := by
  rw [go, h]
theorem go_block {l : Int} {xs : T} : go E F (f + 1) (.s (.block l xs)) s = s.step fun s => go E F f (.ss xs) s := rfl
theorem go_let {t nm : Tok} {sl w : Int} {x : T} : go E F (f + 1) (.s (.letS t nm sl w x)) s = s.step fun s => (go E F f (.e x) s).bind fun v s => .ok [] (s.set sl w (hd v)) := rfl
theorem go_set {t : Tok} {sl w : Int} {x : T} : go E F (f + 1) (.s (.setS t sl w x)) s = s.step fun s => (go E F f (.e x) s).bind fun v s => .ok [] (s.set sl w (hd v)) := rfl
theorem go_put {t : Tok} {w z : Int} {p x : T} : go E F (f + 1) (.s (.putS t w z p x)) s = s.step fun s => (go E F f (.e p) s).bind fun k s => (go E F f (.e x) s).bind fun v s => if z ≤ ((hd k).toNat : Int) then .stop 1 s else .ok [] { s with words := s.words.set (w.toNat + (hd k).toNat) (hd v) } := rfl
theorem go_if {l : Int} {c a b : T} : go E F (f + 1) (.s (.ifS l c a b)) s = s.step fun s => (go E F f (.e c) s).bind fun v s => if hd v ≠ 0 then go E F f (.s a) s else if b.isNil then .ok [] s else go E F f (.s b) s := rfl
theorem go_while {l : Int} {c b : T} : go E F (f + 1) (.s (.whileS l c b)) s = s.step fun s => go E F f (.w c b) s := rfl
theorem go_ret {l : Int} {x : T} : go E F (f + 1) (.s (.retS l x)) s = s.step fun s => (go E F f (.e x) s).bind fun v s => .ok [hd v] s := rfl
theorem go_prt {l : Int} {x : T} : go E F (f + 1) (.s (.prtS l x)) s = s.step fun s => (go E F f (.e x) s).bind fun v s => .ok [] { s with out := s.out ++ [(hd v).toUInt8] } := rfl
theorem go_do {l : Int} {x : T} : go E F (f + 1) (.s (.doS l x)) s = s.step fun s => (go E F f (.e x) s).bind fun v s => .ok [] s := rfl
theorem go_ss {x xs : T} : go E F (f + 1) (.ss (.cons x xs)) s = (go E F f (.s x) s).bind fun v s => if v = [] then go E F f (.ss xs) s else .ok v s := rfl
theorem go_ss0 : go E F (f + 1) (.ss .nil) s = .ok [] s := rfl
theorem go_w {c b : T} : go E F (f + 1) (.w c b) s = (go E F f (.e c) s).bind fun v s => if hd v = 0 then .ok [] s else (go E F f (.s b) s).bind fun v s => if v = [] then go E F f (.w c b) s else .ok v s := rfl
theorem step_zero {k : Rn → Rs Rn} (h : s.steps = 0) : s.step k = .stop 0 s := by unfold Rn.step; rw [if_pos h]
theorem step_more {k : Rn → Rs Rn} (h : s.steps ≠ 0) : s.step k = k { s with steps := s.steps - 1 } := by unfold Rn.step; rw [if_neg h]
theorem go_e_zero {x : T} (h : s.steps = 0) : go E F (f + 1) (.e x) s = .stop 0 s := step_zero h
theorem go_s_zero {x : T} (h : s.steps = 0) : go E F (f + 1) (.s x) s = .stop 0 s := step_zero h
end Go.Lang
/- How a program runs: what is kept; there is enough fuel; more steps change nothing. No condition. -/
namespace Go.Lang
set_option linter.unusedVariables false
set_option linter.unusedSimpArgs false
variable {E : ByteArray → UInt32 → UInt32 → UInt32} {F : Ft}

def Rq.cost : Rq → Nat
  | .e _ => 1
  | .s _ => 1
  | _ => 0
def Rq.len : Rq → List UInt32 → Prop
  | .e _, v => v.length = 1
  | .al xs, v => v.length = xs.len
  | .en _ _, v => v.length = 1
  | _, v => v.length ≤ 1
/-- what is kept -/
def Fine (q : Rq) (s : Rn) : Rs Rn → Prop
  | .ok v s' => s'.steps + q.cost ≤ s.steps ∧ s'.slots.length = s.slots.length ∧ s'.words.length = s.words.length ∧ s'.room = s.room ∧ s'.out.length + s'.steps ≤ s.out.length + s.steps ∧ q.len v
  | .stop _ s' => s'.words.length = s.words.length ∧ s'.out.length ≤ s.out.length + s.steps
  | .out => True
/-- a part behind a part -/
theorem fine_bind {q q1 : Rq} {s s1 : Rn} {r : Rs Rn} {k : List UInt32 → Rn → Rs Rn} (h : Fine q1 s1 r) (hw : s1.words.length = s.words.length) (ho : s1.out.length + s1.steps ≤ s.out.length + s.steps)
    (hk : ∀ v s2, s2.steps + q1.cost ≤ s1.steps → s2.slots.length = s1.slots.length → s2.words.length = s1.words.length → s2.room = s1.room → s2.out.length + s2.steps ≤ s1.out.length + s1.steps → q1.len v → Fine q s (k v s2)) : Fine q s (r.bind k) := by
  cases r with
  | ok v s2 => obtain ⟨a, b, c, d, e, f⟩ := h; exact hk v s2 a b c d e f
  | stop n s2 => obtain ⟨a, b⟩ := h; exact ⟨by omega, by omega⟩
  | out => trivial
theorem fine_step {q : Rq} {s : Rn} {k : Rn → Rs Rn} (hk : ∀ s1 : Rn, s1.steps + 1 = s.steps → s1.words = s.words → s1.out = s.out → s1.room = s.room → s1.slots = s.slots → Fine q s (k s1)) : Fine q s (s.step k) := by
  unfold Rn.step
  split
  · exact ⟨rfl, by omega⟩
  · exact hk _ (by simp only; omega) rfl rfl rfl rfl
theorem set_len (s : Rn) (sl w : Int) (v : UInt32) : (s.set sl w v).slots.length = s.slots.length ∧ (s.set sl w v).words.length = s.words.length ∧ (s.set sl w v).out = s.out ∧ (s.set sl w v).steps = s.steps ∧ (s.set sl w v).room = s.room := by
  unfold Rn.set
  split <;> simp
theorem go_fine : ∀ (f : Nat) (q : Rq) (s : Rn), Fine q s (go E F f q s)
  | 0, _, _ => trivial
  | f + 1, .e x, s => by
    unfold go
    refine fine_step fun s1 h1 h2 h3 h4 h5 => ?_
    have hw : s1.words.length = s.words.length := by rw [h2]
    have hs : s1.slots.length = s.slots.length := by rw [h5]
    have ho : s1.out.length = s.out.length := by rw [h3]
    cases x with
    | num v l => exact ⟨by simp only [Rq.cost]; omega, hs, hw, h4, by omega, rfl⟩
    | name t sl w => exact ⟨by simp only [Rq.cost]; omega, hs, hw, h4, by omega, rfl⟩
    | index t w z p =>
      refine fine_bind (go_fine f (.e p) s1) hw (by omega) fun v s2 a b c d e g => ?_
      simp only [Rq.cost] at a
      split
      · exact ⟨by omega, by omega⟩
      · exact ⟨by simp only [Rq.cost]; omega, by omega, by omega, by omega, by omega, rfl⟩
    | call t fa xs =>
      refine fine_bind (go_fine f (.al xs) s1) hw (by omega) fun v s2 a b c d e g => ?_
      have h := go_fine f (.en ((fa.map Addr.block).getD 0) v) s2
      revert h
      cases go E F f (.en _ v) s2 with
      | ok v3 s3 => rintro ⟨a1, b1, c1, d1, e1, g1⟩; exact ⟨by simp only [Rq.cost] at *; omega, by omega, by omega, by omega, by omega, g1⟩
      | stop n s3 => rintro ⟨a1, b1⟩; exact ⟨by omega, by omega⟩
      | out => exact fun _ => trivial
    | un t x =>
      refine fine_bind (go_fine f (.e x) s1) hw (by omega) fun v s2 a b c d e g => ?_
      exact ⟨by simp only [Rq.cost] at *; omega, by omega, by omega, by omega, by omega, rfl⟩
    | bin t x y =>
      refine fine_bind (go_fine f (.e x) s1) hw (by omega) fun v s2 a b c d e g => ?_
      simp only [Rq.cost] at a
      split
      · exact ⟨by simp only [Rq.cost]; omega, by omega, by omega, by omega, by omega, rfl⟩
      split
      · exact ⟨by simp only [Rq.cost]; omega, by omega, by omega, by omega, by omega, rfl⟩
      refine fine_bind (go_fine f (.e y) s2) (by omega) (by omega) fun v s3 a b c d e g => ?_
      exact ⟨by simp only [Rq.cost] at *; omega, by omega, by omega, by omega, by omega, rfl⟩
    | _ => trivial
  | f + 1, .al xs, s => by
    unfold go
    cases xs with
    | cons x xs =>
      refine fine_bind (go_fine f (.e x) s) rfl (Nat.le_refl _) fun v s1 a b c d e g => ?_
      refine fine_bind (go_fine f (.al xs) s1) (by omega) (by omega) fun vs s2 a b c d e g => ?_
      have g : vs.length = xs.len := g
      exact ⟨by simp only [Rq.cost] at *; omega, by omega, by omega, by omega, by omega, by show vs.length + 1 = xs.len + 1; omega⟩
    | nil => exact ⟨Nat.le_refl _, rfl, rfl, rfl, Nat.le_refl _, rfl⟩
    | _ => trivial
  | f + 1, .en k args, s => by
    unfold go
    split
    · trivial
    · rename_i n b hF
      split
      · exact ⟨rfl, by omega⟩
      · rename_i hr
        refine fine_bind (go_fine f (.s b) _) rfl (Nat.le_refl _) fun v s2 a b c d e g => ?_
        simp only at a b c d e
        exact ⟨by simp only [Rq.cost] at *; omega, rfl, by omega, by simp only; omega, by simp only; omega, rfl⟩
  | f + 1, .s x, s => by
    unfold go
    refine fine_step fun s1 h1 h2 h3 h4 h5 => ?_
    have hw : s1.words.length = s.words.length := by rw [h2]
    have hs : s1.slots.length = s.slots.length := by rw [h5]
    have ho : s1.out.length = s.out.length := by rw [h3]
    have same : ∀ {q : Rq} {c : T} {s2 : Rn}, Fine q s2 (go E F f q s2) → q.len = (Rq.s c).len → s2.steps + 1 ≤ s.steps → s2.words.length = s.words.length → s2.room = s.room → s2.slots.length = s.slots.length → s2.out.length + s2.steps ≤ s.out.length + s.steps → Fine (.s c) s (go E F f q s2) := by
      intro q c s2 h hq g1 g2 g3 g4 g5
      revert h
      cases go E F f q s2 with
      | ok v3 s3 => rintro ⟨a1, b1, c1, d1, e1, g1⟩; exact ⟨by simp only [Rq.cost] at *; omega, by omega, by omega, by omega, by omega, by rw [← hq]; exact g1⟩
      | stop n s3 => rintro ⟨a1, b1⟩; exact ⟨by omega, by omega⟩
      | out => exact fun _ => trivial
    cases x with
    | block l xs => exact same (go_fine f (.ss xs) s1) rfl (by omega) hw h4 hs (by omega)
    | whileS l cc bb => exact same (go_fine f (.w cc bb) s1) rfl (by omega) hw h4 hs (by omega)
    | letS t nm sl w x =>
      refine fine_bind (go_fine f (.e x) s1) hw (by omega) fun v s2 a b c d e g => ?_
      obtain ⟨g1, g2, g3, g4, g5⟩ := set_len s2 sl w (hd v)
      exact ⟨by simp only [Rq.cost] at *; omega, by omega, by omega, by omega, by rw [g3]; omega, Nat.zero_le _⟩
    | setS t sl w x =>
      refine fine_bind (go_fine f (.e x) s1) hw (by omega) fun v s2 a b c d e g => ?_
      obtain ⟨g1, g2, g3, g4, g5⟩ := set_len s2 sl w (hd v)
      exact ⟨by simp only [Rq.cost] at *; omega, by omega, by omega, by omega, by rw [g3]; omega, Nat.zero_le _⟩
    | putS t w z p x =>
      refine fine_bind (go_fine f (.e p) s1) hw (by omega) fun k s2 a b c d e g => ?_
      refine fine_bind (go_fine f (.e x) s2) (by omega) (by omega) fun v s3 a1 b1 c1 d1 e1 g1 => ?_
      simp only [Rq.cost] at a a1
      split
      · exact ⟨by omega, by omega⟩
      · exact ⟨by simp only [Rq.cost]; omega, by simp only; omega, by simp only [List.length_set]; omega, by simp only; omega, by simp only; omega, Nat.zero_le _⟩
    | ifS l cc aa bb =>
      refine fine_bind (go_fine f (.e cc) s1) hw (by omega) fun v s2 a1 b1 c1 d1 e1 g1 => ?_
      simp only [Rq.cost] at a1
      split
      · exact same (go_fine f (.s aa) s2) rfl (by omega) (by omega) (by omega) (by omega) (by omega)
      split
      · exact ⟨by simp only [Rq.cost]; omega, by omega, by omega, by omega, by omega, Nat.zero_le _⟩
      · exact same (go_fine f (.s bb) s2) rfl (by omega) (by omega) (by omega) (by omega) (by omega)
    | retS l x =>
      refine fine_bind (go_fine f (.e x) s1) hw (by omega) fun v s2 a b c d e g => ?_
      exact ⟨by simp only [Rq.cost] at *; omega, by omega, by omega, by omega, by omega, Nat.le_refl _⟩
    | prtS l x =>
      refine fine_bind (go_fine f (.e x) s1) hw (by omega) fun v s2 a b c d e g => ?_
      simp only [Rq.cost] at a
      exact ⟨by simp only [Rq.cost]; omega, by simp only; omega, by simp only; omega, by simp only; omega, by simp only [List.length_append, List.length_cons, List.length_nil]; omega, Nat.zero_le _⟩
    | doS l x =>
      refine fine_bind (go_fine f (.e x) s1) hw (by omega) fun v s2 a b c d e g => ?_
      exact ⟨by simp only [Rq.cost] at *; omega, by omega, by omega, by omega, by omega, Nat.zero_le _⟩
    | _ => trivial
  | f + 1, .ss xs, s => by
    unfold go
    cases xs with
    | cons x xs =>
      refine fine_bind (go_fine f (.s x) s) rfl (Nat.le_refl _) fun v s1 a b c d e g => ?_
      simp only [Rq.cost] at a
      split
      · have h := go_fine f (.ss xs) s1
        revert h
        cases go E F f (.ss xs) s1 with
        | ok v3 s3 => rintro ⟨a1, b1, c1, d1, e1, g1⟩; exact ⟨by simp only [Rq.cost] at *; omega, by omega, by omega, by omega, by omega, g1⟩
        | stop n s3 => rintro ⟨a1, b1⟩; exact ⟨by omega, by omega⟩
        | out => exact fun _ => trivial
      · exact ⟨by simp only [Rq.cost]; omega, by omega, by omega, by omega, by omega, g⟩
    | nil => exact ⟨Nat.le_refl _, rfl, rfl, rfl, Nat.le_refl _, Nat.zero_le _⟩
    | _ => trivial
  | f + 1, .w cc bb, s => by
    unfold go
    refine fine_bind (go_fine f (.e cc) s) rfl (Nat.le_refl _) fun v s1 a b1 c d e g => ?_
    simp only [Rq.cost] at a
    split
    · exact ⟨by simp only [Rq.cost]; omega, by omega, by omega, by omega, by omega, Nat.zero_le _⟩
    refine fine_bind (go_fine f (.s bb) s1) (by omega) (by omega) fun v2 s2 a2 b2 c2 d2 e2 g2 => ?_
    simp only [Rq.cost] at a2
    split
    · have h := go_fine f (.w cc bb) s2
      revert h
      cases go E F f (.w cc bb) s2 with
      | ok v3 s3 => rintro ⟨a1, b1, c1, d1, e1, g1⟩; exact ⟨by simp only [Rq.cost] at *; omega, by omega, by omega, by omega, by omega, g1⟩
      | stop n s3 => rintro ⟨a1, b1⟩; exact ⟨by omega, by omega⟩
      | out => exact fun _ => trivial
    · exact ⟨by simp only [Rq.cost]; omega, by omega, by omega, by omega, by omega, g2⟩
end Go.Lang
