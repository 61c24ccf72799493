import Derived.Test.YtojogkljneonmaaGreatDoorLangTd
import Derived.Test.YtojogkljneonmaaGreatDoorLangZi
/- The reference's checker: a whole program. No condition. -/
namespace Go.Lang
def Fo.drop : Nat → Fo → Fo
  | 0, f => f
  | _ + 1, .nil => .nil
  | n + 1, .cons _ _ _ _ _ _ r => r.drop n
def fnames : Fo → List ByteArray
  | .nil => []
  | .cons _ s _ _ _ _ r => s :: fnames r
def wv (k : ByteArray) (v : Int) : Nat := if k = cVar then (if v = 0 then 1 else v.toNat) else v.toNat
def fwn : Nat → Fo → Nat
  | 0, _ => 0
  | _ + 1, .nil => 0
  | n + 1, .cons k _ _ v _ _ r => wv k v + fwn n r
/-- declarations as the parser makes them -/
def dok : Fo → Prop
  | .nil => True
  | .cons k _ _ v ks ns r => (0 ≤ v ∧ v ≤ 256) ∧ (k ≠ cVar → ks ≠ .nil ∧ ks.tl = .nil ∧ fok ks ∧ ks.sz ≤ 1000000) ∧ ns.length ≤ 100 ∧ dok r
theorem drop_cons : ∀ (j : Nat) (f : Fo), j < f.len → dok f → ∃ k s ln v ks ns r, f.drop j = .cons k s ln v ks ns r ∧ f.drop (j + 1) = r ∧ (fnames f)[j]? = some s ∧ fwn (j + 1) f = fwn j f + wv k v ∧ dok (.cons k s ln v ks ns r)
  | _, .nil, h, _ => by simp only [Fo.len] at h; omega
  | 0, .cons k s ln v ks ns r, h, hd => ⟨k, s, ln, v, ks, ns, r, rfl, rfl, rfl, by simp only [fwn]; omega, hd⟩
  | j + 1, .cons k s ln v ks ns r, h, hd => by
    simp only [Fo.len] at h
    rw [dok] at hd
    obtain ⟨k2, s2, ln2, v2, ks2, ns2, r2, a, b, c, d, e⟩ := drop_cons j r (by omega) hd.2.2.2
    refine ⟨k2, s2, ln2, v2, ks2, ns2, r2, a, b, by simpa [fnames] using c, ?_, e⟩
    show wv k v + fwn (j + 1) r = wv k v + fwn j r + wv k2 v2
    rw [d]; omega
theorem drop_len : ∀ (f : Fo), f.drop f.len = .nil
  | .nil => rfl
  | .cons _ _ _ _ _ _ r => drop_len r
theorem fwn_le : ∀ (j : Nat) (f : Fo), dok f → fwn j f ≤ j * 256
  | 0, f, _ => by simp [fwn]
  | j + 1, .nil, _ => by simp [fwn]
  | j + 1, .cons k s ln v ks ns r, h => by
    rw [dok] at h
    have := fwn_le j r h.2.2.2
    have hv := h.1
    simp only [fwn, wv]
    split
    · split <;> omega
    · omega
/-- a declaration by itself -/
def fcone (g : Gf) (seen : List ByteArray) (w : Nat) (k s : ByteArray) (line : Int) (v : Int) (ks : Fo) (ns : List ByteArray) : C Unit :=
  if hasN seen s then .err line 9 else if k = cVar then (if 512 < w + wv k v then .err line 1 else .ok ())
  else (fpars g line ns [] 0).bind fun p => (fst' g ks p.1 p.2).bind fun _ => .ok ()
theorem fcr_cons (g : Gf) (seen : List ByteArray) (w : Nat) (k s : ByteArray) (line v : Int) (ks : Fo) (ns : List ByteArray) (r : Fo) : fcr g seen w (.cons k s line v ks ns r) = (fcone g seen w k s line v ks ns).bind fun _ => fcr g (seen ++ [s]) (w + wv k v) r := by
  rw [fcr]
  unfold fcone wv
  by_cases h1 : hasN seen s = true
  · rw [if_pos h1, if_pos h1]
  · rw [if_neg h1, if_neg h1]
    by_cases h2 : k = cVar
    · simp only [if_pos h2]
    · simp only [if_neg h2]
end Go.Lang
namespace Go.Proofs.YtojogkljneonmaaGreatDoor
open Go Go.Proofs Go.Sep Go.XHeap Go.RowKit Go.Lang
set_option linter.unusedVariables false
set_option linter.unusedSimpArgs false
variable {W w0 w : World} {M : Nat → Prop} {L : List Asn} {K : Kx} {S : Ck}
theorem suf_drop {DA : Asn} {f : Fo} {us : List Value} (hV : isV DA f us) : ∀ j, j ≤ f.len → ∃ ws, Suf DA f us j (f.drop j) ws := by
  have key : ∀ (j : Nat) (g : Fo) (vs : List Value), isV DA g vs → j ≤ g.len → ∃ ws, isV DA (g.drop j) ws ∧ ∃ pre, vs = pre ++ ws ∧ pre.length = j * 6 ∧ j + (g.drop j).len = g.len := by
    intro j
    induction j with
    | zero => intro g vs h _; exact ⟨vs, h, [], rfl, rfl, by show 0 + g.len = g.len; omega⟩
    | succ j ih =>
      intro g vs h hj
      cases g with
      | nil => simp only [Fo.len] at hj; omega
      | cons k s ln v ks ns r =>
        obtain ⟨q, c, us1, q2, c2, ws, h1, h2, rfl, h3, h4⟩ := h
        simp only [Fo.len] at hj
        obtain ⟨ws2, a, pre, b, c', d⟩ := ih r ws h2 (by omega)
        refine ⟨ws2, a, nodeC k s ln v (.slice q ks.len c) (.slice q2 ns.length c2) ++ pre, by rw [b, List.append_assoc], ?_, ?_⟩
        · rw [List.length_append, c']
          show 6 + j * 6 = _
          omega
        · show j + 1 + (r.drop j).len = r.len + 1
          omega
  intro j hj
  obtain ⟨ws, a, b⟩ := key j f us hV hj
  exact ⟨ws, a, b⟩
/-- words of the first declarations -/
theorem rwords_any [Inhabited G3o] {DA : Asn} {F : Fo} {us : List Value} {p : Option Addr} {c m : Nat} (hsl : Sl W 52 6 (.slice p F.len c) F.len us) (hV : isV DA F us) (hm : m ≤ F.len) (hF : F.len ≤ 8001) (hd : dok F) (c' : Nat) :
    Calls Tryz.prog 15 #[.slice p m c'] W fun e w' => e = .returned (.int .i64 ((fwn m F : Nat) : Int)) ∧ w' = W := by
  refine vc15 p m c' ?_
  refine ⟨fun i n w => w = W ∧ ∃ j : Nat, i = (j : Nat) ∧ j ≤ m ∧ n = ((fwn j F : Nat) : Int), fun i _ _ => m - i.toNat, ⟨rfl, 0, rfl, Nat.zero_le _, rfl⟩, ?_⟩
  rintro _ i n w2 ⟨rfl, j, rfl, hj, rfl⟩
  refine Sx.split_of (fun h1 => ?_) (fun h1 => ?_)
  · have h1 : j < m := by have := of_decide_eq_true h1; omega
    obtain ⟨ws, hS⟩ := suf_drop hV j (by omega)
    obtain ⟨k, s, ln, v, ks, ns, r, e1, e2, e3, e4, e5⟩ := drop_cons j F (by omega) hd
    rw [e1] at hS
    obtain ⟨q, c3, us1, q2, c2, ws', -, -, -, -, -, hat⟩ := hS.next
    rw [dok] at e5
    have hv := e5.1
    have hle := fwn_le j F hd
    have fin : ∀ z : Int, z = ((fwn (j + 1) F : Nat) : Int) → ∀ z6, z6 = IntKind.wrap .i64 (((j : Nat) : Int) + 1) → (w2 = w2 ∧ ∃ j' : Nat, z6 = (j' : Nat) ∧ j' ≤ m ∧ z = ((fwn j' F : Nat) : Int)) ∧ m - z6.toNat < m - ((j : Nat) : Int).toNat := by
      rintro z rfl z6 rfl
      rw [inc64 (by omega)]
      exact ⟨⟨rfl, j + 1, rfl, by omega, rfl⟩, by rw [Int.toNat_natCast, Int.toNat_natCast]; omega⟩
    have hw : IntKind.wrap .i64 v = v := by
      rw [show v = ((v.toNat : Nat) : Int) by omega]; exact Go.Bits.n64 (by omega)
    refine ⟨⟨by omega, by omega⟩, hat hsl fun g o hc => ?_⟩
    rw [Int.toNat_natCast]
    refine ⟨k, hc 0 (.string k) rfl, ?_⟩
    rw [toList_eq]
    refine Sx.split_of (fun h2 => ?_) (fun h2 => ?_)
    · have h2 : k = cVar := of_decide_eq_true h2
      refine ⟨⟨by omega, by omega⟩, hat hsl fun g2 o2 hc2 => ⟨v, hc2 3 (.int .u32 v) rfl, Sx.split_of (fun h3 => ?_) (fun h3 => ?_)⟩⟩
      · have h3 : v = 0 := beq_iff_eq.1 h3
        rintro z2 rfl
        rw [show IntKind.wrap .i64 (((fwn j F : Nat) : Int) + 1) = ((fwn j F + 1 : Nat) : Int) by rw [show ((fwn j F : Nat) : Int) + 1 = ((fwn j F + 1 : Nat) : Int) by omega]; exact Go.Bits.n64 (by omega)]
        refine ⟨⟨by omega, by omega⟩, hat hsl fun g3 o3 hc3 => ⟨v, hc3 3 (.int .u32 v) rfl, ?_⟩⟩
        rintro z4 rfl z5 rfl
        refine fin _ ?_
        rw [hw, h3, e4, h2, h3]
        show IntKind.wrap .i64 (((fwn j F + 1 : Nat) : Int) + 0) = _
        rw [Int.add_zero, Go.Bits.n64 (by omega)]
        rfl
      · have h3 : ¬ v = 0 := beq_eq_false_iff_ne.1 h3
        refine ⟨⟨by omega, by omega⟩, hat hsl fun g3 o3 hc3 => ⟨v, hc3 3 (.int .u32 v) rfl, ?_⟩⟩
        rintro z4 rfl z5 rfl
        refine fin _ ?_
        rw [hw, e4, show wv k v = v.toNat by unfold wv; rw [if_pos h2, if_neg h3]]
        rw [show ((fwn j F : Nat) : Int) + v = ((fwn j F + v.toNat : Nat) : Int) by omega]
        exact Go.Bits.n64 (by omega)
    · have h2 : ¬ k = cVar := of_decide_eq_false h2
      refine ⟨⟨by omega, by omega⟩, hat hsl fun g3 o3 hc3 => ⟨v, hc3 3 (.int .u32 v) rfl, ?_⟩⟩
      rintro z4 rfl z5 rfl
      refine fin _ ?_
      rw [hw, e4, show wv k v = v.toNat by unfold wv; rw [if_neg h2]]
      rw [show ((fwn j F : Nat) : Int) + v = ((fwn j F + v.toNat : Nat) : Int) by omega]
      exact Go.Bits.n64 (by omega)
  · have h1 : j = m := by have := of_decide_eq_false h1; omega
    rw [h1]
    exact ⟨rfl, rfl⟩
end Go.Proofs.YtojogkljneonmaaGreatDoor
/- The reference's checker over rows of nodes says what the plain checker says. No condition. -/
namespace Go.Lang
set_option linter.unusedVariables false
set_option linter.unusedSimpArgs false
variable {lk : Lk} {g : Gf}
/-- an expression is one node -/
theorem ok0_cons : ∀ (x : T), x.ok 0 = true → ∃ k s v ks, (∀ r, toF x r = .cons k s (match x with | .num _ l => l | x => lineOf x) v ks [] r) ∧ ks.sz + 1 ≤ x.sz
  | .num v l, _ => ⟨_, _, _, _, fun r => rfl, by simp [Fo.sz, T.sz]⟩
  | .name t _ _, _ => ⟨_, _, _, _, fun r => rfl, by simp [Fo.sz, T.sz]⟩
  | .index t _ _ p, h => ⟨_, _, _, _, fun r => rfl, by have := toF_sz p .nil; simp only [Fo.sz, T.sz] at *; omega⟩
  | .call t _ xs, h => ⟨_, _, _, _, fun r => rfl, by have := toF_sz xs .nil; simp only [Fo.sz, T.sz] at *; omega⟩
  | .un t x, h => ⟨_, _, _, _, fun r => rfl, by have := toF_sz x .nil; simp only [Fo.sz, T.sz] at *; omega⟩
  | .bin t x y, h => ⟨_, _, _, _, fun r => rfl, by have := toF_sz x (toF y .nil); have := toF_sz y .nil; simp only [Fo.sz, T.sz] at *; omega⟩
  | .nil, h => by simp [T.ok] at h
  | .cons .., h => by simp [T.ok] at h
  | .letS .., h => by simp [T.ok] at h
  | .setS .., h => by simp [T.ok] at h
  | .putS .., h => by simp [T.ok] at h
  | .ifS .., h => by simp [T.ok] at h
  | .whileS .., h => by simp [T.ok] at h
  | .retS .., h => by simp [T.ok] at h
  | .prtS .., h => by simp [T.ok] at h
  | .doS .., h => by simp [T.ok] at h
  | .block .., h => by simp [T.ok] at h
where toF_sz : ∀ (x : T) (r : Fo), (toF x r).sz ≤ x.sz + r.sz
  | .num .., r => by simp only [toF, Fo.sz, T.sz]; omega
  | .name .., r => by simp only [toF, Fo.sz, T.sz]; omega
  | .index _ _ _ p, r => by have := toF_sz p .nil; simp only [toF, Fo.sz, T.sz] at *; omega
  | .call _ _ p, r => by have := toF_sz p .nil; simp only [toF, Fo.sz, T.sz] at *; omega
  | .un _ p, r => by have := toF_sz p .nil; simp only [toF, Fo.sz, T.sz] at *; omega
  | .bin _ p q, r => by have := toF_sz p (toF q .nil); have := toF_sz q .nil; simp only [toF, Fo.sz, T.sz] at *; omega
  | .nil, r => by simp only [toF, T.sz]; omega
  | .cons x xs, r => by have := toF_sz x (toF xs r); have := toF_sz xs r; simp only [toF, T.sz] at *; omega
  | .letS _ _ _ _ p, r => by have := toF_sz p .nil; simp only [toF, Fo.sz, T.sz] at *; omega
  | .setS _ _ _ p, r => by have := toF_sz p .nil; simp only [toF, Fo.sz, T.sz] at *; omega
  | .putS _ _ _ p q, r => by have := toF_sz p (toF q .nil); have := toF_sz q .nil; simp only [toF, Fo.sz, T.sz] at *; omega
  | .ifS _ c a b, r => by have := toF_sz c (toF a (toF b .nil)); have := toF_sz a (toF b .nil); have := toF_sz b .nil; simp only [toF, Fo.sz, T.sz] at *; omega
  | .whileS _ c b, r => by have := toF_sz c (toF b .nil); have := toF_sz b .nil; simp only [toF, Fo.sz, T.sz] at *; omega
  | .retS _ p, r => by have := toF_sz p .nil; simp only [toF, Fo.sz, T.sz] at *; omega
  | .prtS _ p, r => by have := toF_sz p .nil; simp only [toF, Fo.sz, T.sz] at *; omega
  | .doS _ p, r => by have := toF_sz p .nil; simp only [toF, Fo.sz, T.sz] at *; omega
  | .block _ p, r => by have := toF_sz p .nil; simp only [toF, Fo.sz, T.sz] at *; omega
theorem toF_len1 : ∀ (x : T) (r : Fo), x.ok 1 = true → (toF x r).len = x.len + r.len
  | .nil, r, _ => by simp [toF, T.len]
  | .cons x xs, r, h => by
    have h2 : x.ok 0 = true ∧ xs.ok 1 = true := by simpa [T.ok] using h
    obtain ⟨k, s, v, ks, e, -⟩ := ok0_cons x h2.1
    show (toF x (toF xs r)).len = _
    rw [e, Fo.len, toF_len1 xs r h2.2, T.len]
    omega
  | .num .., r, h => by simp [T.ok] at h
  | .name .., r, h => by simp [T.ok] at h
  | .index .., r, h => by simp [T.ok] at h
  | .call .., r, h => by simp [T.ok] at h
  | .un .., r, h => by simp [T.ok] at h
  | .bin .., r, h => by simp [T.ok] at h
  | .letS .., r, h => by simp [T.ok] at h
  | .setS .., r, h => by simp [T.ok] at h
  | .putS .., r, h => by simp [T.ok] at h
  | .ifS .., r, h => by simp [T.ok] at h
  | .whileS .., r, h => by simp [T.ok] at h
  | .retS .., r, h => by simp [T.ok] at h
  | .prtS .., r, h => by simp [T.ok] at h
  | .doS .., r, h => by simp [T.ok] at h
  | .block .., r, h => by simp [T.ok] at h
theorem finner_nil (g : Gf) (Ls : List ByteArray) : finner g Ls .nil = .ok () := by unfold finner; rfl
theorem finner_cons (g : Gf) (Ls : List ByteArray) (k s : ByteArray) (ln v : Int) (ks : Fo) (ns : List ByteArray) (r : Fo) : finner g Ls (.cons k s ln v ks ns r) = (fname g Ls k s ln ks.len).bind fun _ => (finner g Ls ks).bind fun _ => finner g Ls r := by rw [finner]
theorem fcal_eq (hR : RelG lk g) (Ls : Lcs) (t : Tok) (m : Nat) (R : C T) : fcal g (Ls.map Prod.fst) t.s t.line m = (match lk t.s with
    | some (.fn k np) => if 0 ≤ localOf Ls t.s then .err t.line 9 else if np ≠ m then .err t.line 9 else .ok ()
    | _ => .err t.line 9 : C Unit) := by
  unfold fcal
  have := hR t.s
  by_cases h : 0 ≤ localOf Ls t.s
  · rw [if_pos ((localOf_iff Ls t.s).1 h)]
    cases hl : lk t.s with
    | none => rfl
    | some x =>
      cases x with
      | var wd z => rfl
      | fn k np => simp only; rw [if_pos h]
  · rw [if_neg (fun e => h ((localOf_iff Ls t.s).2 e))]
    cases hl : lk t.s with
    | none => rw [hl] at this; rw [this]
    | some x =>
      rw [hl] at this
      cases x with
      | var wd z =>
        obtain ⟨m', hg⟩ := this
        rw [hg]
        simp only
        rw [if_pos (by decide)]
      | fn k np =>
        obtain ⟨v, hg⟩ := this
        rw [hg]
        simp only [ne_eq, not_true_eq_false, if_false]
        rw [if_neg h]
/-- names in an expression -/
theorem finner_eq (hR : RelG lk g) (Ls : Lcs) : ∀ (x : T) (r : Fo), (x.ok 0 = true ∨ x.ok 1 = true) → finner g (Ls.map Prod.fst) (toF x r) = (cexp lk Ls x).er.bind fun _ => finner g (Ls.map Prod.fst) r
  | .num v l, r, _ => by
    show finner g _ (.cons cNumK _ _ _ .nil [] r) = _
    rw [finner_cons, finner_nil]
    rfl
  | .name t s w, r, _ => by
    show finner g _ (.cons cNameK t.s t.line 0 .nil [] r) = _
    rw [finner_cons, finner_nil]
    rw [show fname g (Ls.map Prod.fst) cNameK t.s t.line Fo.nil.len = fsc g (Ls.map Prod.fst) t.s t.line from rfl, fsc_eq hR Ls t w]
    simp only [cexp]
    cases cword lk Ls t w <;> rfl
  | .index t w z p, r, h => by
    have h0 : p.ok 0 = true := by simpa [T.ok] using h
    show finner g _ (.cons cIndexK t.s t.line 0 (toF p .nil) [] r) = _
    rw [finner_cons, finner_eq hR Ls p .nil (.inl h0), finner_nil]
    rw [show fname g (Ls.map Prod.fst) cIndexK t.s t.line (toF p .nil).len = farr g (Ls.map Prod.fst) t.s t.line from rfl, farr_eq hR Ls t]
    simp only [cexp]
    cases carr lk Ls t with
    | err l e => rfl
    | ok a => cases cexp lk Ls p <;> rfl
  | .call t f xs, r, h => by
    have h0 : xs.ok 1 = true := by simpa [T.ok] using h
    show finner g _ (.cons cCallK t.s t.line 0 (toF xs .nil) [] r) = _
    rw [finner_cons, finner_eq hR Ls xs .nil (.inr h0), finner_nil]
    rw [show fname g (Ls.map Prod.fst) cCallK t.s t.line (toF xs .nil).len = fcal g (Ls.map Prod.fst) t.s t.line (toF xs .nil).len from rfl, show (toF xs .nil).len = xs.len by rw [toF_len1 xs .nil h0]; rfl, fcal_eq hR Ls t _ (.ok .nil)]
    simp only [cexp]
    cases lk t.s with
    | none => rfl
    | some x =>
      cases x with
      | var => rfl
      | fn k np =>
        simp only
        by_cases h8 : 0 ≤ localOf Ls t.s
        · rw [if_pos h8, if_pos h8]; rfl
        · rw [if_neg h8, if_neg h8]
          by_cases h9 : np ≠ xs.len
          · rw [if_pos h9, if_pos h9]; rfl
          · rw [if_neg h9, if_neg h9]
            cases cexp lk Ls xs <;> rfl
  | .un t x, r, h => by
    have h0 : x.ok 0 = true := by simpa [T.ok] using h
    show finner g _ (.cons cUnK t.s t.line 0 (toF x .nil) [] r) = _
    rw [finner_cons, finner_eq hR Ls x .nil (.inl h0), finner_nil]
    rw [show fname g (Ls.map Prod.fst) cUnK t.s t.line (toF x .nil).len = .ok () from rfl]
    simp only [cexp]
    cases cexp lk Ls x <;> rfl
  | .bin t x y, r, h => by
    have h0 : x.ok 0 = true ∧ y.ok 0 = true := by simpa [T.ok] using h
    show finner g _ (.cons cBinK t.s t.line 0 (toF x (toF y .nil)) [] r) = _
    rw [finner_cons, finner_eq hR Ls x _ (.inl h0.1), finner_eq hR Ls y .nil (.inl h0.2), finner_nil]
    rw [show fname g (Ls.map Prod.fst) cBinK t.s t.line (toF x (toF y .nil)).len = .ok () from rfl]
    simp only [cexp]
    cases cexp lk Ls x with
    | err l e => rfl
    | ok x' => cases cexp lk Ls y <;> rfl
  | .nil, r, _ => by rfl
  | .cons x xs, r, h => by
    have h0 : x.ok 0 = true ∧ xs.ok 1 = true := by simpa [T.ok] using h
    show finner g _ (toF x (toF xs r)) = _
    rw [finner_eq hR Ls x _ (.inl h0.1), finner_eq hR Ls xs r (.inr h0.2)]
    simp only [cexp]
    cases cexp lk Ls x with
    | err l e => rfl
    | ok x' => cases cexp lk Ls xs <;> rfl
  | .letS .., r, h => by simp [T.ok] at h
  | .setS .., r, h => by simp [T.ok] at h
  | .putS .., r, h => by simp [T.ok] at h
  | .ifS .., r, h => by simp [T.ok] at h
  | .whileS .., r, h => by simp [T.ok] at h
  | .retS .., r, h => by simp [T.ok] at h
  | .prtS .., r, h => by simp [T.ok] at h
  | .doS .., r, h => by simp [T.ok] at h
  | .block .., r, h => by simp [T.ok] at h
theorem fneed_cons (plus : Bool) (k s : ByteArray) (l v : Int) (ks : Fo) (ns : List ByteArray) (r : Fo) (i : Nat) : fneed plus (.cons k s l v ks ns r) i = max (fneed (plusOf k s) ks 0 + if plus then i else 0) (fneed plus r (i + 1)) := by rw [fneed]
theorem fneed_nil (plus : Bool) (i : Nat) : fneed plus .nil i = 1 := by rw [fneed]
/-- what an expression needs -/
theorem fneed_eq : ∀ (x : T), (x.ok 0 = true → ∀ (plus : Bool) (r : Fo) (i : Nat), fneed plus (toF x r) i = max (need x 0 + if plus then i else 0) (fneed plus r (i + 1))) ∧ (x.ok 1 = true → ∀ i, fneed true (toF x .nil) i = need x i)
  | .num v l => ⟨fun _ plus r i => by show fneed plus (.cons _ _ _ _ .nil _ r) i = _; rw [fneed_cons, fneed_nil]; simp [need], fun h => by simp [T.ok] at h⟩
  | .name t s w => ⟨fun _ plus r i => by show fneed plus (.cons _ _ _ _ .nil _ r) i = _; rw [fneed_cons, fneed_nil]; simp [need], fun h => by simp [T.ok] at h⟩
  | .index t w z p => ⟨fun h plus r i => by
      have h0 : p.ok 0 = true := by simpa [T.ok] using h
      show fneed plus (.cons _ _ _ _ (toF p .nil) _ r) i = _
      rw [fneed_cons, (fneed_eq p).1 h0, fneed_nil, show plusOf cIndexK t.s = false from rfl]
      have := need_pos p 0
      simp only [need, Bool.false_eq_true, if_false, Nat.add_zero]
      rw [Nat.max_eq_left this], fun h => by simp [T.ok] at h⟩
  | .call t f xs => ⟨fun h plus r i => by
      have h0 : xs.ok 1 = true := by simpa [T.ok] using h
      show fneed plus (.cons _ _ _ _ (toF xs .nil) _ r) i = _
      rw [fneed_cons, show plusOf cCallK t.s = true from rfl, (fneed_eq xs).2 h0]
      simp only [need], fun h => by simp [T.ok] at h⟩
  | .un t x => ⟨fun h plus r i => by
      have h0 : x.ok 0 = true := by simpa [T.ok] using h
      show fneed plus (.cons _ _ _ _ (toF x .nil) _ r) i = _
      rw [fneed_cons, (fneed_eq x).1 h0, fneed_nil, show plusOf cUnK t.s = false from rfl]
      have := need_pos x 0
      simp only [need, Bool.false_eq_true, if_false, Nat.add_zero]
      rw [Nat.max_eq_left this], fun h => by simp [T.ok] at h⟩
  | .bin t x y => ⟨fun h plus r i => by
      have h0 : x.ok 0 = true ∧ y.ok 0 = true := by simpa [T.ok] using h
      show fneed plus (.cons _ _ _ _ (toF x (toF y .nil)) _ r) i = _
      rw [fneed_cons, (fneed_eq x).1 h0.1, (fneed_eq y).1 h0.2, fneed_nil]
      have h1 := need_pos x 0
      have h2 := need_pos y 0
      have hp : plusOf cBinK t.s = (!decide (t.s = ofL [38, 38]) && !decide (t.s = ofL [124, 124])) := by
        unfold plusOf
        rw [show decide (cBinK = cCallK) = false from rfl, decide_eq_true (rfl : cBinK = cBinK)]
        simp
      rw [hp]
      simp only [need]
      by_cases a1 : t.s = ofL [38, 38]
      · simp only [a1, decide_true, Bool.not_true, Bool.false_and, Bool.false_eq_true, if_false, Nat.add_zero, true_or, if_true]
        rw [Nat.max_eq_left h2]
      · by_cases a2 : t.s = ofL [124, 124]
        · simp only [a2, decide_true, Bool.not_true, Bool.and_false, Bool.false_eq_true, if_false, Nat.add_zero, or_true, if_true]
          rw [Nat.max_eq_left h2]
        · simp only [a1, a2, decide_false, Bool.not_false, Bool.and_self, if_true, or_self, if_false, Nat.add_zero, Nat.zero_add]
          rw [Nat.max_eq_left (by omega : 1 ≤ need y 0 + 1)], fun h => by simp [T.ok] at h⟩
  | .nil => ⟨fun h => by simp [T.ok] at h, fun _ i => by show fneed true .nil i = _; rw [fneed_nil]; simp [need]⟩
  | .cons x xs => ⟨fun h => by simp [T.ok] at h, fun h i => by
      have h0 : x.ok 0 = true ∧ xs.ok 1 = true := by simpa [T.ok] using h
      show fneed true (toF x (toF xs .nil)) i = _
      rw [(fneed_eq x).1 h0.1, (fneed_eq xs).2 h0.2]
      simp only [need, if_true]⟩
  | .letS .. => ⟨fun h => by simp [T.ok] at h, fun h => by simp [T.ok] at h⟩
  | .setS .. => ⟨fun h => by simp [T.ok] at h, fun h => by simp [T.ok] at h⟩
  | .putS .. => ⟨fun h => by simp [T.ok] at h, fun h => by simp [T.ok] at h⟩
  | .ifS .. => ⟨fun h => by simp [T.ok] at h, fun h => by simp [T.ok] at h⟩
  | .whileS .. => ⟨fun h => by simp [T.ok] at h, fun h => by simp [T.ok] at h⟩
  | .retS .. => ⟨fun h => by simp [T.ok] at h, fun h => by simp [T.ok] at h⟩
  | .prtS .. => ⟨fun h => by simp [T.ok] at h, fun h => by simp [T.ok] at h⟩
  | .doS .. => ⟨fun h => by simp [T.ok] at h, fun h => by simp [T.ok] at h⟩
  | .block .. => ⟨fun h => by simp [T.ok] at h, fun h => by simp [T.ok] at h⟩
/-- finding names changes no needs -/
theorem cexp_need (lk : Lk) (Ls : Lcs) : ∀ (x x' : T), cexp lk Ls x = .ok x' → (∀ k, need x' k = need x k) ∧ lineOf x' = lineOf x
  | .num .., x', h => by cases h; exact ⟨fun _ => rfl, rfl⟩
  | .nil, x', h => by cases h; exact ⟨fun _ => rfl, rfl⟩
  | .name t s w, x', h => by obtain ⟨p, -, h⟩ := C.bind_ok h; cases h; exact ⟨fun _ => by simp [need], rfl⟩
  | .index t w z p, x', h => by
    obtain ⟨a, -, h⟩ := C.bind_ok h
    obtain ⟨p', h1, h⟩ := C.bind_ok h
    cases h
    exact ⟨fun k => by simp only [need]; exact (cexp_need lk Ls p p' h1).1 0, rfl⟩
  | .call t f xs, x', h => by
    rw [cexp] at h
    split at h
    · split at h
      · cases h
      · split at h
        · cases h
        · obtain ⟨p', h1, h⟩ := C.bind_ok h
          cases h
          exact ⟨fun k => by simp only [need]; exact (cexp_need lk Ls xs p' h1).1 0, rfl⟩
    · cases h
  | .un t x, x', h => by
    obtain ⟨p', h1, h⟩ := C.bind_ok h
    cases h
    exact ⟨fun k => by simp only [need]; exact (cexp_need lk Ls x p' h1).1 0, rfl⟩
  | .bin t x y, x', h => by
    obtain ⟨p', h1, h⟩ := C.bind_ok h
    obtain ⟨q', h2, h⟩ := C.bind_ok h
    cases h
    exact ⟨fun k => by simp only [need, (cexp_need lk Ls x p' h1).1 0, (cexp_need lk Ls y q' h2).1 0], rfl⟩
  | .cons x y, x', h => by
    obtain ⟨p', h1, h⟩ := C.bind_ok h
    obtain ⟨q', h2, h⟩ := C.bind_ok h
    cases h
    exact ⟨fun k => by simp only [need, (cexp_need lk Ls x p' h1).1 0, (cexp_need lk Ls y q' h2).1 (k + 1)], rfl⟩
  | .letS .., x', h => by cases h; exact ⟨fun _ => rfl, rfl⟩
  | .setS .., x', h => by cases h; exact ⟨fun _ => rfl, rfl⟩
  | .putS .., x', h => by cases h; exact ⟨fun _ => rfl, rfl⟩
  | .ifS .., x', h => by cases h; exact ⟨fun _ => rfl, rfl⟩
  | .whileS .., x', h => by cases h; exact ⟨fun _ => rfl, rfl⟩
  | .retS .., x', h => by cases h; exact ⟨fun _ => rfl, rfl⟩
  | .prtS .., x', h => by cases h; exact ⟨fun _ => rfl, rfl⟩
  | .doS .., x', h => by cases h; exact ⟨fun _ => rfl, rfl⟩
  | .block .., x', h => by cases h; exact ⟨fun _ => rfl, rfl⟩
theorem fwhole_cons (g : Gf) (Ls : List ByteArray) (b : Nat) (k s : ByteArray) (ln v : Int) (ks : Fo) (ns : List ByteArray) (r : Fo) : fwhole g Ls b (.cons k s ln v ks ns r) = (fname g Ls k s ln ks.len).bind fun _ => (finner g Ls ks).bind fun _ => if 8 < fneed (plusOf k s) ks 0 + b then .err ln 4 else .ok () := rfl
/-- a whole expression -/
theorem fwhole_eq (hR : RelG lk g) (Ls : Lcs) (x : T) (b : Nat) (hb : b ≤ 1) (h : x.ok 0 = true) (r : Fo) : fwhole g (Ls.map Prod.fst) b (toF x r) = (cwhole lk Ls x b).er := by
  obtain ⟨k, s, v, ks, e, -⟩ := ok0_cons x h
  have h1 := finner_eq hR Ls x .nil (.inl h)
  rw [finner_nil, e .nil, finner_cons, finner_nil] at h1
  have h2 := (fneed_eq x).1 h false .nil 0
  rw [e .nil, fneed_cons, fneed_nil] at h2
  have h3 := need_pos x 0
  have h4 := fneed_pos (plusOf k s) ks 0
  simp only [Bool.false_eq_true, if_false, Nat.add_zero] at h2
  have h5 : fneed (plusOf k s) ks 0 = need x 0 := by omega
  rw [e r, fwhole_cons, h5]
  unfold cwhole
  generalize hA : fname g (Ls.map Prod.fst) k s _ ks.len = A at *
  generalize hB : finner g (Ls.map Prod.fst) ks = Bq at *
  have h6 : (A.bind fun _ => Bq.bind fun _ => C.ok ()) = (cexp lk Ls x).er := by
    rw [h1]; cases cexp lk Ls x <;> rfl
  cases hc : cexp lk Ls x with
  | err l en =>
    rw [hc] at h6
    cases A with
    | err l2 e2 => cases h6; rfl
    | ok _ =>
      cases Bq with
      | err l2 e2 => cases h6; rfl
      | ok _ => cases h6
  | ok x' =>
    rw [hc] at h6
    obtain ⟨hn, hl⟩ := cexp_need lk Ls x x' hc
    cases A with
    | err l2 e2 => cases h6
    | ok _ =>
      cases Bq with
      | err l2 e2 => cases h6
      | ok _ =>
        show (if 8 < need x 0 + b then C.err _ 4 else C.ok ()) = (if 8 < need x' 0 + b then C.err (lineOf x') 4 else C.ok x').er
        rw [hn 0, hl]
        split
        · cases x with
          | num v l => rename_i h8; simp only [need] at h8; omega
          | _ => rfl
        · rfl
end Go.Lang
/- The reference's checker over rows of nodes says what the plain checker says: statements, declarations. No condition. -/
namespace Go.Lang
set_option linter.unusedVariables false
set_option linter.unusedSimpArgs false
variable {lk : Lk} {g : Gf}
def C.mp {α β : Type} (f : α → β) : C α → C β
  | .ok x => .ok (f x)
  | .err l e => .err l e
theorem isSome_iff (hR : RelG lk g) (s : ByteArray) : (g s).isSome = (lk s).isSome := by
  have := hR s
  cases hl : lk s with
  | none => rw [hl] at this; rw [this]; rfl
  | some x =>
    rw [hl] at this
    cases x with
    | var wd z => obtain ⟨m, h⟩ := this; rw [h]; rfl
    | fn k np => obtain ⟨v, h⟩ := this; rw [h]; rfl
theorem fdecl_eq (hR : RelG lk g) (Ls : Lcs) {n : Nat} (hn : n ≤ 24) (line : Int) (s : ByteArray) : fdecl g (Ls.map Prod.fst) n line s = (cdecl lk Ls n line s).mp fun p => (p.1.map Prod.fst, p.2) := by
  unfold fdecl cdecl
  rw [isSome_iff hR]
  by_cases h1 : (lk s).isSome = true
  · rw [if_pos h1, if_pos (by rw [h1]; rfl)]; rfl
  · by_cases h2 : 0 ≤ localOf Ls s
    · rw [if_neg h1, if_pos h2, if_pos (by rw [(localOf_iff Ls s).1 h2, Bool.or_true])]; rfl
    · have h3 : hasN (Ls.map Prod.fst) s = false := by
        cases hh : hasN (Ls.map Prod.fst) s with
        | false => rfl
        | true => exact absurd ((localOf_iff Ls s).2 hh) h2
      rw [if_neg h1, if_neg h2, if_neg (by rw [h3]; simpa using h1)]
      by_cases h4 : n = 24
      · rw [if_pos h4, if_pos (by omega)]; rfl
      · rw [if_neg h4, if_neg (by omega)]
        simp [C.mp]
def stm (q : T × Lcs × Nat) : List ByteArray × Nat := (q.2.1.map Prod.fst, q.2.2)
theorem fone_put (g : Gf) (s : ByteArray) (ln : Int) (ks : Fo) (Ls : List ByteArray) (n : Nat) : fone g cPutK s ln ks Ls n = (farr g Ls s ln).bind fun _ => (fwhole g Ls 0 ks).bind fun _ => (fwhole g Ls 1 ks.tl).bind fun _ => .ok (Ls, n) := rfl
theorem fone_if (g : Gf) (s : ByteArray) (ln : Int) (ks : Fo) (Ls : List ByteArray) (n : Nat) : fone g cIf s ln ks Ls n = (fwhole g Ls 0 ks).bind fun _ => fst' g ks.tl Ls n := rfl
theorem fone_while (g : Gf) (s : ByteArray) (ln : Int) (ks : Fo) (Ls : List ByteArray) (n : Nat) : fone g cWhile s ln ks Ls n = (fwhole g Ls 0 ks).bind fun _ => fst' g ks.tl Ls n := rfl
/-- a statement, a row of them -/
theorem fst_eq (hR : RelG lk g) : ∀ (x : T), (x.ok 2 = true ∨ x.ok 3 = true) → ∀ (Ls : Lcs) (n : Nat) (r : Fo), Ls.length ≤ n → n ≤ 24 → fst' g (toF x r) (Ls.map Prod.fst) n = ((cst lk x Ls n).mp stm).bind fun p => fst' g r p.1 p.2 := by
  intro x
  have bd : ∀ (y : T) (Ls : Lcs) (n : Nat), Ls.length ≤ n → n ≤ 24 → fst' g (toF y .nil) (Ls.map Prod.fst) n = ((cst lk y Ls n).mp stm).bind (fun p => fst' g .nil p.1 p.2) → ∀ q, cst lk y Ls n = .ok q → q.2.1.length ≤ q.2.2 ∧ q.2.2 ≤ 24 := by
    intro y Ls n h1 h2 h q hq
    rw [hq] at h
    have h3 : fst' g (toF y .nil) (Ls.map Prod.fst) n = .ok (q.2.1.map Prod.fst, q.2.2) := by rw [h]; show fst' g .nil _ _ = _; rw [fst_nil]; rfl
    have := fst_pre g _ _ (Nat.lt_succ_self _) _ _ _ _ h3 (by rw [List.length_map]; exact h1) h2
    rw [List.length_map] at this
    exact this.2
  induction x with
  | num => intro h; simp [T.ok] at h
  | name => intro h; simp [T.ok] at h
  | index => intro h; simp [T.ok] at h
  | call => intro h; simp [T.ok] at h
  | un => intro h; simp [T.ok] at h
  | bin => intro h; simp [T.ok] at h
  | nil =>
    intro _ Ls n r _ _
    rfl
  | cons x xs ih1 ih2 =>
    intro h Ls n r h1 h2
    have h0 : x.ok 2 = true ∧ xs.ok 3 = true := by simpa [T.ok] using h
    show fst' g (toF x (toF xs r)) _ n = _
    have e1 := ih1 (.inl h0.1) Ls n
    rw [e1 (toF xs r) h1 h2]
    simp only [cst]
    cases hc : cst lk x Ls n with
    | err l e => rfl
    | ok q =>
      obtain ⟨b1, b2⟩ := bd x Ls n h1 h2 (e1 .nil h1 h2) q hc
      show fst' g (toF xs r) (q.2.1.map Prod.fst) q.2.2 = _
      rw [ih2 (.inr h0.2) q.2.1 q.2.2 r b1 b2]
      show _ = (((cst lk xs q.2.1 q.2.2).bind _).mp stm).bind _
      cases cst lk xs q.2.1 q.2.2 <;> rfl
  | letS t nm s w x _ =>
    intro h Ls n r h1 h2
    have h0 : x.ok 0 = true := by simpa [T.ok] using h
    show fst' g (.cons cLet nm.s t.line 0 (toF x .nil) [] r) _ n = _
    rw [fst_one]
    have hf : fone g cLet nm.s t.line (toF x .nil) (Ls.map Prod.fst) n = (cwhole lk Ls x 0).er.bind fun _ => (cdecl lk Ls n t.line nm.s).mp fun p => (p.1.map Prod.fst, p.2) := by
      rw [← fwhole_eq hR Ls x 0 (by omega) h0 .nil, ← fdecl_eq hR Ls h2]
      rfl
    rw [hf]
    simp only [cst]
    cases cwhole lk Ls x 0 with
    | err l e => rfl
    | ok x' => show ((cdecl lk Ls n t.line nm.s).mp _).bind _ = _; cases hd : cdecl lk Ls n t.line nm.s <;> simp [C.bind, C.mp, stm, hd]
  | setS t s w x _ =>
    intro h Ls n r h1 h2
    have h0 : x.ok 0 = true := by simpa [T.ok] using h
    show fst' g (.cons cSetK t.s t.line 0 (toF x .nil) [] r) _ n = _
    rw [fst_one]
    have hf : fone g cSetK t.s t.line (toF x .nil) (Ls.map Prod.fst) n = (cword lk Ls t w).er.bind fun _ => (cwhole lk Ls x 0).er.bind fun _ => .ok (Ls.map Prod.fst, n) := by
      rw [← fwhole_eq hR Ls x 0 (by omega) h0 .nil, ← fsc_eq hR Ls t w]
      rfl
    rw [hf]
    simp only [cst]
    cases cword lk Ls t w with
    | err l e => rfl
    | ok p => cases hw : cwhole lk Ls x 0 <;> simp [C.bind, C.mp, C.er, stm, hw]
  | putS t w z p x _ _ =>
    intro h Ls n r h1 h2
    have h0 : p.ok 0 = true ∧ x.ok 0 = true := by simpa [T.ok] using h
    show fst' g (.cons cPutK t.s t.line 0 (toF p (toF x .nil)) [] r) _ n = _
    rw [fst_one]
    obtain ⟨k', s', v', ks', e', -⟩ := ok0_cons p h0.1
    have htl : (toF p (toF x .nil)).tl = toF x .nil := by rw [e']; rfl
    have hf : fone g cPutK t.s t.line (toF p (toF x .nil)) (Ls.map Prod.fst) n = (carr lk Ls t).er.bind fun _ => (cwhole lk Ls p 0).er.bind fun _ => (cwhole lk Ls x 1).er.bind fun _ => .ok (Ls.map Prod.fst, n) := by
      rw [fone_put, htl, farr_eq hR Ls t, fwhole_eq hR Ls p 0 (by omega) h0.1 (toF x .nil), fwhole_eq hR Ls x 1 (by omega) h0.2 .nil]
    rw [hf]
    simp only [cst]
    cases carr lk Ls t with
    | err l e => rfl
    | ok a =>
      cases hw : cwhole lk Ls p 0 with
      | err l e => simp [C.bind, C.mp, C.er, stm, hw]
      | ok p' => cases hx : cwhole lk Ls x 1 <;> simp [C.bind, C.mp, C.er, stm, hw, hx]
  | ifS line c a b ih0 ih1 ih2 =>
    intro h Ls n r h1 h2
    have h0 : c.ok 0 = true ∧ a.ok 2 = true ∧ (b.ok 2 = true ∨ b.isNil = true) := by
      have : (c.ok 0 = true ∧ a.ok 2 = true) ∧ (b.ok 2 = true ∨ b.isNil = true) := by simpa [T.ok] using h
      exact ⟨this.1.1, this.1.2, this.2⟩
    show fst' g (.cons cIf (ofL []) line 0 (toF c (toF a (toF b .nil))) [] r) _ n = _
    rw [fst_one]
    obtain ⟨k', s', v', ks', e', -⟩ := ok0_cons c h0.1
    have htl : (toF c (toF a (toF b .nil))).tl = toF a (toF b .nil) := by rw [e']; rfl
    have hf : fone g cIf (ofL []) line (toF c (toF a (toF b .nil))) (Ls.map Prod.fst) n = (cwhole lk Ls c 0).er.bind fun _ => fst' g (toF a (toF b .nil)) (Ls.map Prod.fst) n := by
      rw [fone_if, htl, fwhole_eq hR Ls c 0 (by omega) h0.1 (toF a (toF b .nil))]
    have e1 := ih1 (.inl h0.2.1) Ls n
    rw [hf, e1 (toF b .nil) h1 h2]
    simp only [cst]
    cases hcw : cwhole lk Ls c 0 with
    | err l e => rfl
    | ok c' =>
      show (((cst lk a Ls n).mp stm).bind fun p => fst' g (toF b .nil) p.1 p.2).bind (fun p => fst' g r p.1 p.2) = (((cst lk a Ls n).bind fun a' => (cst lk b a'.2.1 a'.2.2).bind fun b' => C.ok (T.ifS line c' a'.1 b'.1, b'.2.1, b'.2.2)).mp stm).bind _
      cases hc : cst lk a Ls n with
      | err l e => rfl
      | ok q =>
        obtain ⟨b1, b2⟩ := bd a Ls n h1 h2 (e1 .nil h1 h2) q hc
        have hb : fst' g (toF b .nil) (q.2.1.map Prod.fst) q.2.2 = ((cst lk b q.2.1 q.2.2).mp stm).bind fun p => fst' g .nil p.1 p.2 := by
          rcases h0.2.2 with hb | hb
          · exact ih2 (.inl hb) q.2.1 q.2.2 .nil b1 b2
          · cases b with
            | nil => show fst' g .nil _ _ = fst' g .nil _ _; rfl
            | _ => cases hb
        show (fst' g (toF b .nil) (q.2.1.map Prod.fst) q.2.2).bind _ = (((cst lk b q.2.1 q.2.2).bind _).mp stm).bind _
        rw [hb]
        cases cst lk b q.2.1 q.2.2 with
        | err l e => rfl
        | ok q2 => show (fst' g .nil _ _).bind _ = _; rw [fst_nil]; rfl
  | whileS line c b ih0 ih1 =>
    intro h Ls n r h1 h2
    have h0 : c.ok 0 = true ∧ b.ok 2 = true := by simpa [T.ok] using h
    show fst' g (.cons cWhile (ofL []) line 0 (toF c (toF b .nil)) [] r) _ n = _
    rw [fst_one]
    obtain ⟨k', s', v', ks', e', -⟩ := ok0_cons c h0.1
    have htl : (toF c (toF b .nil)).tl = toF b .nil := by rw [e']; rfl
    have hf : fone g cWhile (ofL []) line (toF c (toF b .nil)) (Ls.map Prod.fst) n = (cwhole lk Ls c 0).er.bind fun _ => fst' g (toF b .nil) (Ls.map Prod.fst) n := by
      rw [fone_while, htl, fwhole_eq hR Ls c 0 (by omega) h0.1 (toF b .nil)]
    have e1 := ih1 (.inl h0.2) Ls n
    rw [hf, e1 .nil h1 h2]
    simp only [cst]
    cases hcw : cwhole lk Ls c 0 with
    | err l e => rfl
    | ok c' =>
      show (((cst lk b Ls n).mp stm).bind fun p => fst' g .nil p.1 p.2).bind (fun p => fst' g r p.1 p.2) = (((cst lk b Ls n).bind fun b' => C.ok (T.whileS line c' b'.1, b'.2.1, b'.2.2)).mp stm).bind _
      cases hc : cst lk b Ls n with
      | err l e => rfl
      | ok q => show (fst' g .nil _ _).bind _ = _; rw [fst_nil]; rfl
  | retS line x _ =>
    intro h Ls n r h1 h2
    have h0 : x.ok 0 = true := by simpa [T.ok] using h
    show fst' g (.cons cReturn (ofL []) line 0 (toF x .nil) [] r) _ n = _
    rw [fst_one]
    have hf : fone g cReturn (ofL []) line (toF x .nil) (Ls.map Prod.fst) n = (cwhole lk Ls x 0).er.bind fun _ => .ok (Ls.map Prod.fst, n) := by
      rw [← fwhole_eq hR Ls x 0 (by omega) h0 .nil]
      rfl
    rw [hf]
    simp only [cst]
    cases hw : cwhole lk Ls x 0 <;> simp [C.bind, C.mp, C.er, stm, hw]
  | prtS line x _ =>
    intro h Ls n r h1 h2
    have h0 : x.ok 0 = true := by simpa [T.ok] using h
    show fst' g (.cons cPrint (ofL []) line 0 (toF x .nil) [] r) _ n = _
    rw [fst_one]
    have hf : fone g cPrint (ofL []) line (toF x .nil) (Ls.map Prod.fst) n = (cwhole lk Ls x 0).er.bind fun _ => .ok (Ls.map Prod.fst, n) := by
      rw [← fwhole_eq hR Ls x 0 (by omega) h0 .nil]
      rfl
    rw [hf]
    simp only [cst]
    cases hw : cwhole lk Ls x 0 <;> simp [C.bind, C.mp, C.er, stm, hw]
  | doS line x _ =>
    intro h Ls n r h1 h2
    have h0 : x.ok 0 = true := by simpa [T.ok] using h
    show fst' g (.cons cDoK (ofL []) line 0 (toF x .nil) [] r) _ n = _
    rw [fst_one]
    have hf : fone g cDoK (ofL []) line (toF x .nil) (Ls.map Prod.fst) n = (cwhole lk Ls x 0).er.bind fun _ => .ok (Ls.map Prod.fst, n) := by
      rw [← fwhole_eq hR Ls x 0 (by omega) h0 .nil]
      rfl
    rw [hf]
    simp only [cst]
    cases hw : cwhole lk Ls x 0 <;> simp [C.bind, C.mp, C.er, stm, hw]
  | block line l ih =>
    intro h Ls n r h1 h2
    have h0 : l.ok 3 = true := by simpa [T.ok] using h
    show fst' g (.cons cBlockK (ofL []) line 0 (toF l .nil) [] r) _ n = _
    rw [fst_one]
    have hf : fone g cBlockK (ofL []) line (toF l .nil) (Ls.map Prod.fst) n = (fst' g (toF l .nil) (Ls.map Prod.fst) n).bind fun p => .ok (Ls.map Prod.fst, p.2) := rfl
    rw [hf, ih (.inr h0) Ls n .nil h1 h2]
    simp only [cst]
    cases hc : cst lk l Ls n with
    | err l e => rfl
    | ok q => show ((fst' g .nil _ _).bind _).bind _ = _; rw [fst_nil]; rfl
theorem fpars_eq (hR : RelG lk g) (line : Int) : ∀ (ps : List ByteArray) (Ls : Lcs) (n : Nat), Ls.length ≤ n → n ≤ 24 → fpars g line ps (Ls.map Prod.fst) n = (cpars lk line ps Ls n).mp (fun p => (p.1.map Prod.fst, p.2)) ∧ ∀ q, cpars lk line ps Ls n = .ok q → q.1.length ≤ q.2 ∧ q.2 ≤ 24
  | [], Ls, n, h1, h2 => ⟨rfl, fun q h => by cases h; exact ⟨h1, h2⟩⟩
  | p :: ps, Ls, n, h1, h2 => by
    unfold fpars cpars
    rw [fdecl_eq hR Ls h2]
    cases hd : cdecl lk Ls n line p with
    | err l e => exact ⟨rfl, fun q h => by cases h⟩
    | ok q =>
      have hq : q.1.length ≤ q.2 ∧ q.2 ≤ 24 := by
        unfold cdecl at hd
        split at hd
        · cases hd
        · split at hd
          · cases hd
          · split at hd
            · cases hd
            · cases hd
              rename_i hn
              exact ⟨by simp; omega, by show n + 1 ≤ 24; omega⟩
      obtain ⟨a, b⟩ := fpars_eq hR line ps q.1 q.2 hq.1 hq.2
      exact ⟨a, b⟩
end Go.Lang
