import Derived.Test.YtojogkljneonmaaGreatDoorLangRg
/- The reference's parser: alive, and behind an error; its small functions; nodes in memory. No condition. -/
namespace Go.Proofs.YtojogkljneonmaaGreatDoor
open Go Go.Proofs Go.Sep Go.XHeap Go.RowKit Go.Lang
set_option linter.unusedVariables false
set_option linter.unusedSimpArgs false
variable {W : World} {R : Rx} {l : List Tok} {n : Nat} {line en : Int}
theorem rp_own {at_ : Nat} {line err nest : Int} {q : Nat} : owns (rpL R at_ line err nest) q ↔ (q = R.b ∨ q = R.g) := by
  constructor
  · rintro (e | e | e)
    · exact .inl e
    · have : some R.g = some q := e
      cases this; exact .inr rfl
    · exact e.elim
  · rintro (e | e)
    · exact .inl e
    · subst e; exact .inr (.inl rfl)
/-- the parser, alive: the tokens that are left, how deep it is -/
def rlA [Inhabited G3o] (R : Rx) (l : List Tok) (n : Nat) : Asn where
  own q := q = R.b ∨ q = R.g
  at_ w := (Good R.L ∧ Good l ∧ n ≤ 30) ∧ ∃ a, R.L.drop a = l ∧ here (rpL R a 0 0 (n : Nat)) w
  keep := by
    rintro T w w' ⟨h0, a, h1, h⟩ ht hn
    exact ⟨h0, a, h1, h.keep ht fun k hk => hn k (rp_own.1 hk)⟩
  lt := by
    rintro w ⟨h0, a, h1, h⟩ k hk
    exact h.lt k (rp_own.2 hk)
/-- .. behind an error -/
def rdA [Inhabited G3o] (R : Rx) (line en : Int) : Asn where
  own q := q = R.b ∨ q = R.g
  at_ w := (en ≠ 0 ∧ Good R.L) ∧ ∃ a z, (∃ t, R.L[a]? = some t) ∧ here (rpL R a line en z) w
  keep := by
    rintro T w w' ⟨h0, a, z, h1, h⟩ ht hn
    exact ⟨h0, a, z, h1, h.keep ht fun k hk => hn k (rp_own.1 hk)⟩
  lt := by
    rintro w ⟨h0, a, z, h1, h⟩ k hk
    exact h.lt k (rp_own.2 hk)
theorem rl_open [Inhabited G3o] {w0 w : World} {M : Nat → Prop} {L : List Asn} (H : St w0 M w (rlA R l n :: L)) : (Good R.L ∧ Good l ∧ n ≤ 30) ∧ ∃ a, R.L.drop a = l ∧ St w0 M w (rpA R a 0 0 (n : Nat) :: L) := by
  obtain ⟨h0, a, h1, h⟩ := H.nth 0 rfl
  exact ⟨h0, a, h1, H.conv 0 rfl (A' := rpA R a 0 0 (n : Nat)) (fun _ => h) (fun q hq => rp_own.1 hq)⟩
theorem rl_shut [Inhabited G3o] {w0 w : World} {M : Nat → Prop} {L : List Asn} {a : Nat} (h0 : Good R.L ∧ Good l ∧ n ≤ 30) (h1 : R.L.drop a = l) (H : St w0 M w (rpA R a 0 0 (n : Nat) :: L)) : St w0 M w (rlA R l n :: L) :=
  H.conv 0 rfl (A' := rlA R l n) (fun h => ⟨h0, a, h1, h⟩) (fun q hq => rp_own.2 hq)
theorem rd_open [Inhabited G3o] {w0 w : World} {M : Nat → Prop} {L : List Asn} (H : St w0 M w (rdA R line en :: L)) : (en ≠ 0 ∧ Good R.L) ∧ ∃ a z t, R.L[a]? = some t ∧ St w0 M w (rpA R a line en z :: L) := by
  obtain ⟨h0, a, z, ⟨t, h1⟩, h⟩ := H.nth 0 rfl
  exact ⟨h0, a, z, t, h1, H.conv 0 rfl (A' := rpA R a line en z) (fun _ => h) (fun q hq => rp_own.1 hq)⟩
theorem rd_shut [Inhabited G3o] {w0 w : World} {M : Nat → Prop} {L : List Asn} {a : Nat} {z : Int} {t : Tok} (h0 : en ≠ 0 ∧ Good R.L) (h1 : R.L[a]? = some t) (H : St w0 M w (rpA R a line en z :: L)) : St w0 M w (rdA R line en :: L) :=
  H.conv 0 rfl (A' := rdA R line en) (fun h => ⟨h0, a, z, ⟨t, h1⟩, h⟩) (fun q hq => rp_own.2 hq)
theorem drop_now [Inhabited G3o] {a : Nat} (h : R.L.drop a = l) (hG : Good l) : R.L[a]? = some (now l) := by
  obtain ⟨t, l', rfl⟩ := hG.cons
  have := congrArg (fun x : List Tok => x[0]?) h
  simp only [List.getElem?_drop, Nat.add_zero] at this
  rw [this]; rfl
theorem drop_tail {a : Nat} (h : R.L.drop a = l) : R.L.drop (a + 1) = l.tail := by
  rw [← h, List.tail_drop]
theorem good_tail [Inhabited G3o] (hG : Good l) (hk : (now l).k ≠ 0) : Good l.tail := by
  obtain ⟨t, l', rfl⟩ := hG.cons
  exact hG.tail hk
theorem is_now (s : ByteArray) (l : List Tok) : is s [now l] = is s l := rfl
theorem rl_is [Inhabited G3o] (s : ByteArray) (h : (rlA R l n).at_ W) : Calls Tryz.prog 101 #[pt R.b, .string s] W fun e w' => e = .returned (.bool (is s l)) ∧ Hush W w' := by
  obtain ⟨h0, a, h1, H⟩ := rl_open (St.begin h)
  exact ris_any s (drop_now h1 h0.2.1) (H.nth 0 rfl)
theorem rl_take [Inhabited G3o] (s : ByteArray) (h : (rlA R l n).at_ W) : Calls Tryz.prog 60 #[pt R.b, .string s] W fun e w' => e = .returned (.bool (is s l)) ∧ Post (rlA R l n) W (rlA R (if is s l then l.tail else l) n) w' := by
  obtain ⟨h0, a, h1, H⟩ := rl_open (St.begin h)
  refine (rtake_any s h0.1.2.2.2 (drop_now h1 h0.2.1) (H.nth 0 rfl)).mono ?_
  rintro e w' ⟨rfl, hp⟩
  have H2 := H.upd 0 rfl hp
  refine ⟨by rw [is_now]; simp, ?_⟩
  rw [is_now] at H2
  cases hi : is s l with
  | true =>
    rw [hi] at H2
    exact (rl_shut ⟨h0.1, good_tail h0.2.1 (is_mark hi), h0.2.2⟩ (drop_tail h1) H2).post 0 rfl
  | false =>
    rw [hi] at H2
    exact (rl_shut h0 h1 H2).post 0 rfl
theorem rd_take [Inhabited G3o] (s : ByteArray) (h : (rdA R line en).at_ W) : Calls Tryz.prog 60 #[pt R.b, .string s] W fun e w' => e = .returned (.bool false) ∧ Post (rdA R line en) W (rdA R line en) w' := by
  obtain ⟨h0, a, z, t, h1, H⟩ := rd_open (St.begin h)
  refine (rtake_any s h0.2.2.2.2 h1 (H.nth 0 rfl)).mono ?_
  rintro e w' ⟨rfl, hp⟩
  have H2 := H.upd 0 rfl hp
  rw [if_neg (fun e => h0.1 e.2)] at H2
  exact ⟨by rw [decide_eq_false h0.1, Bool.and_false], (rd_shut h0 h1 H2).post 0 rfl⟩
theorem rl_want_yes [Inhabited G3o] {s : ByteArray} (hi : is s l = true) (h : (rlA R l n).at_ W) : Calls Tryz.prog 64 #[pt R.b, .string s] W fun e w' => e = .returned (.tuple #[]) ∧ Post (rlA R l n) W (rlA R l.tail n) w' := by
  obtain ⟨h0, a, h1, H⟩ := rl_open (St.begin h)
  refine (rwant_any s h0.1.2.2.2 (drop_now h1 h0.2.1) (H.nth 0 rfl)).mono ?_
  rintro e w' ⟨rfl, ⟨-, h3, hp⟩ | ⟨-, h3, hp⟩ | ⟨h3, hp⟩⟩
  · exact ⟨rfl, (rl_shut ⟨h0.1, good_tail h0.2.1 (is_mark hi), h0.2.2⟩ (drop_tail h1) (H.upd 0 rfl hp)).post 0 rfl⟩
  · rw [is_now, hi] at h3; cases h3
  · exact absurd rfl h3
theorem rl_want_no [Inhabited G3o] {s : ByteArray} (hi : is s l = false) (h : (rlA R l n).at_ W) : Calls Tryz.prog 64 #[pt R.b, .string s] W fun e w' => e = .returned (.tuple #[]) ∧ Post (rlA R l n) W (rdA R (now l).line 8) w' := by
  obtain ⟨h0, a, h1, H⟩ := rl_open (St.begin h)
  refine (rwant_any s h0.1.2.2.2 (drop_now h1 h0.2.1) (H.nth 0 rfl)).mono ?_
  rintro e w' ⟨rfl, ⟨-, h3, hp⟩ | ⟨-, h3, hp⟩ | ⟨h3, hp⟩⟩
  · rw [is_now, hi] at h3; cases h3
  · exact ⟨rfl, (rd_shut ⟨by decide, h0.1⟩ (drop_now h1 h0.2.1) (H.upd 0 rfl hp)).post 0 rfl⟩
  · exact absurd rfl h3
theorem rd_want [Inhabited G3o] (s : ByteArray) (h : (rdA R line en).at_ W) : Calls Tryz.prog 64 #[pt R.b, .string s] W fun e w' => e = .returned (.tuple #[]) ∧ Post (rdA R line en) W (rdA R line en) w' := by
  obtain ⟨h0, a, z, t, h1, H⟩ := rd_open (St.begin h)
  refine (rwant_any s h0.2.2.2.2 h1 (H.nth 0 rfl)).mono ?_
  rintro e w' ⟨rfl, ⟨h3, -⟩ | ⟨h3, -⟩ | ⟨h3, hp⟩⟩
  · exact absurd h3 h0.1
  · exact absurd h3 h0.1
  · exact ⟨rfl, (rd_shut h0 h1 (H.upd 0 rfl hp)).post 0 rfl⟩
theorem rl_fail [Inhabited G3o] (e : Int) (he : e ≠ 0) (h : (rlA R l n).at_ W) : Calls Tryz.prog 63 #[pt R.b, .int .i64 e] W fun en w' => en = .returned (.agg nodeZ.toArray) ∧ Post (rlA R l n) W (rdA R (now l).line e) w' := by
  obtain ⟨h0, a, h1, H⟩ := rl_open (St.begin h)
  refine (rfail_any e (drop_now h1 h0.2.1) (H.nth 0 rfl)).mono ?_
  rintro en w' ⟨rfl, hp⟩
  exact ⟨rfl, (rd_shut ⟨he, h0.1⟩ (drop_now h1 h0.2.1) (H.upd 0 rfl hp)).post 0 rfl⟩
/-- a name -/
theorem rl_name_ok [Inhabited G3o] (hk : (now l).k = 1) (hs : ¬ 16 < (now l).s.size) (h : (rlA R l n).at_ W) : Calls Tryz.prog 61 #[pt R.b] W fun e w' => e = .returned (.string (now l).s) ∧ Post (rlA R l n) W (rlA R l.tail n) w' := by
  obtain ⟨h0, a, h1, H⟩ := rl_open (St.begin h)
  refine (rname_any h0.1.2.2.2 (drop_now h1 h0.2.1) (H.nth 0 rfl)).mono ?_
  rintro e w' (⟨-, -, -, rfl, hp⟩ | ⟨-, h3, -⟩ | ⟨-, -, h3, -⟩ | ⟨h3, -⟩)
  · exact ⟨rfl, (rl_shut ⟨h0.1, good_tail h0.2.1 (by omega), h0.2.2⟩ (drop_tail h1) (H.upd 0 rfl hp)).post 0 rfl⟩
  · exact absurd hk h3
  · exact absurd h3 hs
  · exact absurd rfl h3
theorem rl_name_err [Inhabited G3o] {e1 : Int} (hn : name l (fun t l => Lang.R.ok t l) = .err (now l).line e1) (h : (rlA R l n).at_ W) : Calls Tryz.prog 61 #[pt R.b] W fun e w' => e = .returned (.string ⟨#[]⟩) ∧ Post (rlA R l n) W (rdA R (now l).line e1) w' := by
  obtain ⟨h0, a, h1, H⟩ := rl_open (St.begin h)
  unfold name at hn
  refine (rname_any h0.1.2.2.2 (drop_now h1 h0.2.1) (H.nth 0 rfl)).mono ?_
  rintro e w' (⟨-, h3, h4, -, hp⟩ | ⟨-, h3, rfl, hp⟩ | ⟨-, h3, h4, rfl, hp⟩ | ⟨h3, -⟩)
  · rw [if_neg (fun e : ¬ _ => e h3), if_neg h4] at hn; cases hn
  · rw [if_pos h3] at hn; cases hn
    exact ⟨rfl, (rd_shut ⟨by decide, h0.1⟩ (drop_now h1 h0.2.1) (H.upd 0 rfl hp)).post 0 rfl⟩
  · rw [if_neg (fun e : ¬ _ => e h3), if_pos h4] at hn; cases hn
    exact ⟨rfl, (rd_shut ⟨by decide, h0.1⟩ (drop_now h1 h0.2.1) (H.upd 0 rfl hp)).post 0 rfl⟩
  · exact absurd rfl h3
theorem name_cases (l : List Tok) : ((now l).k = 1 ∧ ¬ 16 < (now l).s.size ∧ ∀ {β : Type} (k : Tok → List Tok → Lang.R β), name l k = k (now l) l.tail) ∨ ∃ e, e ≠ 0 ∧ ∀ {β : Type} (k : Tok → List Tok → Lang.R β), name l k = .err (now l).line e := by
  by_cases h1 : (now l).k = 1
  · by_cases h2 : 16 < (now l).s.size
    · exact .inr ⟨3, by decide, fun k => by unfold name; rw [if_neg (fun e => e h1), if_pos h2]⟩
    · exact .inl ⟨h1, h2, fun k => by unfold name; rw [if_neg (fun e => e h1), if_neg h2]⟩
  · exact .inr ⟨8, by decide, fun k => by unfold name; rw [if_pos h1]⟩
theorem rd_name [Inhabited G3o] (h : (rdA R line en).at_ W) : Calls Tryz.prog 61 #[pt R.b] W fun e w' => e = .returned (.string ⟨#[]⟩) ∧ Post (rdA R line en) W (rdA R line en) w' := by
  obtain ⟨h0, a, z, t, h1, H⟩ := rd_open (St.begin h)
  refine (rname_any h0.2.2.2.2 h1 (H.nth 0 rfl)).mono ?_
  rintro e w' (⟨h3, -⟩ | ⟨h3, -⟩ | ⟨h3, -⟩ | ⟨h3, rfl, hp⟩)
  · exact absurd h3 h0.1
  · exact absurd h3 h0.1
  · exact absurd h3 h0.1
  · exact ⟨rfl, (rd_shut h0 h1 (H.upd 0 rfl hp)).post 0 rfl⟩
/-- one level deeper -/
theorem rl_deeper [Inhabited G3o] (h : (rlA R l n).at_ W) (hn : n ≤ 24) : Calls Tryz.prog 102 #[pt R.b] W fun e w' => (n < 24 ∧ e = .returned (.bool true) ∧ Post (rlA R l n) W (rlA R l (n + 1)) w') ∨ (24 ≤ n ∧ e = .returned (.bool false) ∧ Post (rlA R l n) W (rdA R (now l).line 3) w') := by
  obtain ⟨h0, a, h1, H⟩ := rl_open (St.begin h)
  refine (rdeeper_any (by omega) (drop_now h1 h0.2.1) (H.nth 0 rfl)).mono ?_
  rintro e w' (⟨h3, rfl, hp⟩ | ⟨h3, rfl, hp⟩)
  · exact .inl ⟨h3, rfl, (rl_shut ⟨h0.1, h0.2.1, by omega⟩ h1 (H.upd 0 rfl hp)).post 0 rfl⟩
  · exact .inr ⟨h3, rfl, (rd_shut ⟨by decide, h0.1⟩ (drop_now h1 h0.2.1) (H.upd 0 rfl hp)).post 0 rfl⟩
theorem rd_deeper [Inhabited G3o] (h : (rdA R line en).at_ W) : Calls Tryz.prog 102 #[pt R.b] W fun e w' => e = .returned (.bool false) ∧ Post (rdA R line en) W (rdA R line en) w' := by
  obtain ⟨h0, a, z, t, h1, H⟩ := rd_open (St.begin h)
  refine (rdeeper_dead h0.1 h1 (H.nth 0 rfl)).mono ?_
  rintro e w' ⟨rfl, z2, hp⟩
  exact ⟨rfl, (rd_shut h0 h1 (H.upd 0 rfl hp)).post 0 rfl⟩
/-! ### nodes -/
def nodeC (k s : ByteArray) (line val : Int) (kids names : Value) : List Value := [.string k, .string s, .int .i64 line, .int .u32 val, kids, names]
theorem nodeC_one {k s : ByteArray} {line val : Int} {q q2 : Option Addr} {m c m2 c2 : Nat} : ∀ v ∈ nodeC k s line val (.slice q m c) (.slice q2 m2 c2), v.oneCell' = true := by
  intro v hv
  simp only [nodeC, List.mem_cons, List.not_mem_nil, or_false] at hv
  rcases hv with rfl | rfl | rfl | rfl | rfl | rfl <;> rfl
/-- a row of nodes in memory: its cells, its blocks -/
def isF : Fo → List Value → Asn → Prop
  | .nil, vs, A => vs = [] ∧ A = all []
  | .cons k s line val kids names rest, vs, A => ∃ q c us Ak q2 c2 ws As, isF kids us Ak ∧ isF rest ws (all As) ∧ vs = nodeC k s line val (.slice q kids.len c) (.slice q2 names.length c2) ++ ws ∧
      A = all (all [sl 52 6 (.slice q kids.len c) kids.len us, Ak, sl 9 1 (.slice q2 names.length c2) names.length (names.map .string)] :: As)
theorem isF_all : ∀ {f : Fo} {vs : List Value} {A : Asn}, isF f vs A → ∃ As, A = all As
  | .nil, _, _, h => ⟨[], h.2⟩
  | .cons .., _, _, h => by obtain ⟨q, c, us, Ak, q2, c2, ws, As, -, -, -, e⟩ := h; exact ⟨_, e⟩
theorem isF_len : ∀ {f : Fo} {vs : List Value} {A : Asn}, isF f vs A → vs.length = f.len * 6
  | .nil, _, _, h => by rw [h.1]; rfl
  | .cons .., _, _, h => by
    obtain ⟨q, c, us, Ak, q2, c2, ws, As, -, h2, rfl, -⟩ := h
    rw [List.length_append, isF_len h2, Fo.len]
    show 6 + _ = _
    omega
theorem isF_app : ∀ {a b : Fo} {us vs : List Value} {As Bs : List Asn}, isF a us (all As) → isF b vs (all Bs) → ∃ Cs, isF (a.app b) (us ++ vs) (all Cs) ∧ ∀ w0 M w L, St w0 M w (all As :: all Bs :: L) → St w0 M w (all Cs :: L)
  | .nil, b, us, vs, As, Bs, h1, h2 => by
    obtain ⟨rfl, e⟩ := h1
    refine ⟨Bs, h2, fun w0 M w L H => ?_⟩
    rw [e] at H
    exact H.tail
  | .cons k s line val kids names rest, b, us, vs, As, Bs, h1, h2 => by
    obtain ⟨q, c, us1, Ak, q2, c2, ws, As1, g1, g2, rfl, e⟩ := h1
    obtain ⟨Cs, g3, g4⟩ := isF_app g2 h2
    refine ⟨all [sl 52 6 (.slice q kids.len c) kids.len us1, Ak, sl 9 1 (.slice q2 names.length c2) names.length (names.map .string)] :: Cs, ⟨q, c, us1, Ak, q2, c2, ws ++ vs, Cs, g1, g3, by rw [List.append_assoc], rfl⟩, fun w0 M w L H => ?_⟩
    rw [e] at H
    have H1 := (St.open_ (L := _ :: As1) H)
    have H2 : St w0 M w (all As1 :: all Bs :: all [sl 52 6 (.slice q kids.len c) kids.len us1, Ak, sl 9 1 (.slice q2 names.length c2) names.length (names.map .string)] :: L) := by
      refine St.shut (H1.perm ?_)
      exact (List.perm_middle.symm).trans ((List.Perm.swap ..).append_left As1)
    have H3 := g4 _ _ _ _ H2
    exact St.shut (L := _ :: Cs) ((St.open_ (L := Cs) H3).perm List.perm_middle)
end Go.Proofs.YtojogkljneonmaaGreatDoor
/- The reference's parser: how its state is read and written; nodes are made; levels, numbers. No condition. -/
namespace Go.Proofs.YtojogkljneonmaaGreatDoor
open Go Go.Proofs Go.Sep Go.XHeap Go.RowKit Go.Lang
set_option linter.unusedVariables false
set_option linter.unusedSimpArgs false
variable {W w0 w : World} {M : Nat → Prop} {L : List Asn} {R : Rx} {l : List Tok} {n : Nat} {line en : Int}
/-! ### the state's cells, as the conditions ask for them (the parser is the first piece) -/
theorem rl_err [Inhabited G3o] {φ : Int → Prop} (H : St w0 M w (rlA R l n :: L)) (hq : φ 0) : ∃ z : Int, w.cell? ⟨R.b, 0 + 3, none⟩ = some (.int .i64 z) ∧ φ z := by
  obtain ⟨h0, a, h1, H⟩ := rl_open H
  exact ⟨0, (St.open_ H).ld 0 rfl (i := 3) rfl, hq⟩
theorem rd_err [Inhabited G3o] {φ : Int → Prop} (H : St w0 M w (rdA R line en :: L)) (hq : en ≠ 0 → φ en) : ∃ z : Int, w.cell? ⟨R.b, 0 + 3, none⟩ = some (.int .i64 z) ∧ φ z := by
  obtain ⟨h0, a, z, t, h1, H⟩ := rd_open H
  exact ⟨en, (St.open_ H).ld 0 rfl (i := 3) rfl, hq h0.1⟩
theorem rl_tok [Inhabited G3o] {φ : Array Value → Prop} (H : St w0 M w (rlA R l n :: L)) (hq : φ (tkR (now l)).toArray) : ∃ (p2 : Option Addr) (k k2 : Nat), w.cell? ⟨R.b, 0, none⟩ = some (.slice p2 k k2) ∧ ∃ z : Int, w.cell? ⟨R.b, 0 + 1, none⟩ = some (.int .i64 z) ∧ ((0 : Int) ≤ z ∧ z < (k : Int)) ∧ Sx.adr p2 fun k3 k4 => ∃ vs : Array Value, vs.size = 3 ∧ Sx.cellsAt w ⟨k3, k4 + z.toNat * 3, none⟩ vs ∧ φ vs := by
  obtain ⟨h0, a, h1, H⟩ := rl_open H
  have H := St.open_ H
  have ht := drop_now h1 h0.2.1
  have hat := (List.getElem?_eq_some_iff.1 ht).1
  exact ⟨_, _, _, H.ld 0 rfl (i := 0) rfl, _, H.ld 0 rfl (i := 1) rfl, ⟨by omega, by omega⟩, adr_some ⟨(tkR (now l)).toArray, rfl, rtok_at (H.nth 1 rfl) ht, hq⟩⟩
theorem rl_line [Inhabited G3o] {φ : Int → Prop} (H : St w0 M w (rlA R l n :: L)) (hq : φ (now l).line) : ∃ (p2 : Option Addr) (k k2 : Nat), w.cell? ⟨R.b, 0, none⟩ = some (.slice p2 k k2) ∧ ∃ z : Int, w.cell? ⟨R.b, 0 + 1, none⟩ = some (.int .i64 z) ∧ ((0 : Int) ≤ z ∧ z < (k : Int)) ∧ Sx.adr p2 fun k3 k4 => ∃ x : Int, w.cell? ⟨k3, k4 + z.toNat * 3 + 2, none⟩ = some (.int .i64 x) ∧ φ x := by
  obtain ⟨h0, a, h1, H⟩ := rl_open H
  have H := St.open_ H
  have ht := drop_now h1 h0.2.1
  have hat := (List.getElem?_eq_some_iff.1 ht).1
  refine ⟨_, _, _, H.ld 0 rfl (i := 0) rfl, _, H.ld 0 rfl (i := 1) rfl, ⟨by omega, by omega⟩, adr_some ⟨(now l).line, ?_, hq⟩⟩
  exact rtok_at (H.nth 1 rfl) ht 2 (.int .i64 (now l).line) rfl
theorem rd_line [Inhabited G3o] {φ : Int → Prop} (H : St w0 M w (rdA R line en :: L)) (hq : ∀ x, φ x) : ∃ (p2 : Option Addr) (k k2 : Nat), w.cell? ⟨R.b, 0, none⟩ = some (.slice p2 k k2) ∧ ∃ z : Int, w.cell? ⟨R.b, 0 + 1, none⟩ = some (.int .i64 z) ∧ ((0 : Int) ≤ z ∧ z < (k : Int)) ∧ Sx.adr p2 fun k3 k4 => ∃ x : Int, w.cell? ⟨k3, k4 + z.toNat * 3 + 2, none⟩ = some (.int .i64 x) ∧ φ x := by
  obtain ⟨h0, a, z, t, ht, H⟩ := rd_open H
  have H := St.open_ H
  have hat := (List.getElem?_eq_some_iff.1 ht).1
  refine ⟨_, _, _, H.ld 0 rfl (i := 0) rfl, _, H.ld 0 rfl (i := 1) rfl, ⟨by omega, by omega⟩, adr_some ⟨t.line, ?_, hq _⟩⟩
  exact rtok_at (H.nth 1 rfl) ht 2 (.int .i64 t.line) rfl
/-- the place moves on -/
theorem rl_adv [Inhabited G3o] {φ : World → Prop} (hk : (now l).k ≠ 0) (H : St w0 M w (rlA R l n :: L)) (hq : ∀ w', St w0 M w' (rlA R l.tail n :: L) → φ w') : ∃ z : Int, w.cell? ⟨R.b, 0 + 1, none⟩ = some (.int .i64 z) ∧ ∀ z2, z2 = IntKind.wrap .i64 (z + 1) → (∃ v, w.cell? ⟨R.b, 0 + 1, none⟩ = some v) ∧ w.frozen? ⟨R.b, 0 + 1, none⟩ = false ∧ ∀ w', w' = w.setCell ⟨R.b, 0 + 1, none⟩ (.int .i64 z2) → φ w' := by
  obtain ⟨h0, a, h1, H⟩ := rl_open H
  have H := St.open_ H
  have ht := drop_now h1 h0.2.1
  have hat := (List.getElem?_eq_some_iff.1 ht).1
  have := h0.1.2.2.2
  refine ⟨_, H.ld 0 rfl (i := 1) rfl, ?_⟩
  rintro z2 rfl
  rw [inc64 (by omega)]
  refine H.st 0 rfl (i := 1) (by simp) fun w4 H4 => hq w4 ?_
  exact rl_shut ⟨h0.1, good_tail h0.2.1 hk, h0.2.2⟩ (drop_tail h1) (St.shut (L := rpL R (a + 1) 0 0 n) H4)
/-- .. and is put back -/
theorem rl_dec [Inhabited G3o] {φ : World → Prop} (H : St w0 M w (rlA R l (n + 1) :: L)) (hq : ∀ w', St w0 M w' (rlA R l n :: L) → φ w') : ∃ z : Int, w.cell? ⟨R.b, 0 + 4, none⟩ = some (.int .i64 z) ∧ ∀ z2, z2 = IntKind.wrap .i64 (z - 1) → (∃ v, w.cell? ⟨R.b, 0 + 4, none⟩ = some v) ∧ w.frozen? ⟨R.b, 0 + 4, none⟩ = false ∧ ∀ w', w' = w.setCell ⟨R.b, 0 + 4, none⟩ (.int .i64 z2) → φ w' := by
  obtain ⟨h0, a, h1, H⟩ := rl_open H
  have H := St.open_ H
  refine ⟨_, H.ld 0 rfl (i := 4) rfl, ?_⟩
  rintro z2 rfl
  rw [show IntKind.wrap .i64 (((n + 1 : Nat) : Int) - 1) = (n : Int) by rw [show ((n + 1 : Nat) : Int) - 1 = (n : Int) by omega]; exact Go.Bits.n64 (by omega)]
  refine H.st 0 rfl (i := 4) (by simp) fun w4 H4 => hq w4 ?_
  exact rl_shut ⟨h0.1, h0.2.1, by omega⟩ h1 (St.shut (L := rpL R a 0 0 n) H4)
theorem rd_dec [Inhabited G3o] {φ : World → Prop} (H : St w0 M w (rdA R line en :: L)) (hq : ∀ w', St w0 M w' (rdA R line en :: L) → φ w') : ∃ z : Int, w.cell? ⟨R.b, 0 + 4, none⟩ = some (.int .i64 z) ∧ ∀ z2, z2 = IntKind.wrap .i64 (z - 1) → (∃ v, w.cell? ⟨R.b, 0 + 4, none⟩ = some v) ∧ w.frozen? ⟨R.b, 0 + 4, none⟩ = false ∧ ∀ w', w' = w.setCell ⟨R.b, 0 + 4, none⟩ (.int .i64 z2) → φ w' := by
  obtain ⟨h0, a, z, t, h1, H⟩ := rd_open H
  have H := St.open_ H
  refine ⟨_, H.ld 0 rfl (i := 4) rfl, ?_⟩
  rintro z2 rfl
  refine H.st 0 rfl (i := 4) (by simp) fun w4 H4 => hq w4 ?_
  exact rd_shut h0 h1 (St.shut (L := rpL R a line en (IntKind.wrap .i64 (z - 1))) H4)
/-- a node is given back: it is written into a block, and read -/
theorem ret_node {k b : Nat} {cs : Array Value} {t : TypeId} {us : List Value} {φ : Array Value → World → Prop} (H : St w0 M w L) (hk : L[k]? = some (blk b cs t)) (hc : cs.size = 6) (hu : us.length = 6) (h1 : ∀ v ∈ us, v.oneCell' = true) (hq : ∀ w', St w0 M w' (L.set k (blk b us.toArray t)) → φ us.toArray w') :
    us.toArray.size = 6 ∧ (∀ j : Nat, j < 6 → (∃ v, w.cell? ⟨b, 0 + j, none⟩ = some v) ∧ w.frozen? ⟨b, 0 + j, none⟩ = false) ∧ (∀ v : Value, v ∈ us.toArray.toList → v.oneCell' = true) ∧ ∀ w' : World, w' = w.setCells b 0 us.toArray.toList → ∃ vs : Array Value, vs.size = 6 ∧ Sx.cellsAt w' ⟨b, 0, none⟩ vs ∧ φ vs w' := by
  refine H.sts0 k hk (n := 6) (vs := us.toArray) (by simpa using hu) hc (by simpa using h1) fun w' H' => ?_
  have hlt : k < L.length := (List.getElem?_eq_some_iff.1 hk).1
  exact ⟨us.toArray, by simpa using hu, H'.cells k (List.getElem?_set_self hlt), hq w' H'⟩
/-- a node is read and written on into another block -/
theorem cells_node {k b : Nat} {us : List Value} {t : TypeId} {φ : Array Value → Prop} (H : St w0 M w L) (hk : L[k]? = some (blk b us.toArray t)) (hu : us.length = 6) (hq : φ us.toArray) : ∃ vs : Array Value, vs.size = 6 ∧ Sx.cellsAt w ⟨b, 0, none⟩ vs ∧ φ vs :=
  ⟨us.toArray, by simpa using hu, H.cells k hk, hq⟩
/-! ### nodes are made -/
theorem blk_sl {b m size : Nat} {us : List Value} {t : TypeId} (hu : us.length = m * size) (hm : m ≤ maxLen) (h : Blk w b us.toArray t) : Sl w t size (.slice (some ⟨b, 0, none⟩) m m) m us :=
  ⟨hu, .inr ⟨b, 0, m, us.toArray, rfl, h, Nat.le_refl _, hm, by simp [hu], by simp [← hu]⟩⟩
/-- a node whose parts stand in a slice -/
theorem mk_sl {f : Fo} {us : List Value} {B : Asn} {q : Option Addr} {c : Nat} (kd nm : ByteArray) (ln v : Int) (hF : isF f us B) (H : St w0 M w (sl 52 6 (.slice q f.len c) f.len us :: B :: L)) :
    ∃ B', isF (.cons kd nm ln v f [] .nil) (nodeC kd nm ln v (.slice q f.len c) (.slice none 0 0)) B' ∧ St w0 M w (B' :: L) := by
  have H2 := (H.add (A := sl 9 1 (.slice none 0 0) 0 []) ⟨Sl.nil _ _ _, XTouch.refl _ _, fun q hq => by cases hq⟩)
  have H3 : St w0 M w ([sl 52 6 (.slice q f.len c) f.len us, B, sl 9 1 (.slice none 0 0) 0 []] ++ L) := H2.perm (by
    simp only [List.cons_append, List.nil_append]
    exact List.Perm.cons _ (List.Perm.cons _ (List.perm_append_singleton _ _)))
  exact ⟨all [all [sl 52 6 (.slice q f.len c) f.len us, B, sl 9 1 (.slice none 0 0) 0 []]], ⟨q, c, us, B, none, 0, [], [], hF, ⟨rfl, rfl⟩, by rw [List.append_nil]; rfl, rfl⟩, St.shut (L := [_]) (St.shut H3)⟩
/-- .. in a block -/
theorem mk_blk [Inhabited G3o] {f : Fo} {us : List Value} {B : Asn} {b m : Nat} (kd nm : ByteArray) (ln v : Int) (hF : isF f us B) (hm : f.len = m) (hm2 : m ≤ 3) (H : St w0 M w (blk b us.toArray 52 :: B :: L)) :
    ∃ B', isF (.cons kd nm ln v f [] .nil) (nodeC kd nm ln v (.slice (some ⟨b, 0, none⟩) m m) (.slice none 0 0)) B' ∧ St w0 M w (B' :: L) := by
  subst hm
  refine mk_sl kd nm ln v hF (H.conv 0 rfl (A' := sl 52 6 (.slice (some ⟨b, 0, none⟩) f.len f.len) f.len us) (fun h => blk_sl (isF_len hF) (by show _ ≤ maxLen; unfold maxLen; omega) h) ?_)
  intro q hq
  have : some b = some q := hq
  cases this; rfl
/-- a node without parts -/
theorem mk_leaf [Inhabited G3o] (kd nm : ByteArray) (ln v : Int) (H : St w0 M w L) : ∃ B', isF (.cons kd nm ln v .nil [] .nil) (nodeC kd nm ln v (.slice none 0 0) (.slice none 0 0)) B' ∧ St w0 M w (B' :: L) := by
  have H2 : St w0 M w (sl 52 6 (.slice none 0 0) 0 [] :: all [] :: L) := by
    have h1 := (H.add (A := sl 52 6 (.slice none 0 0) 0 []) ⟨Sl.nil _ _ _, XTouch.refl _ _, fun q hq => by cases hq⟩).add (A := all []) ⟨trivial, XTouch.refl _ _, fun q hq => hq.elim⟩
    refine h1.perm ?_
    rw [List.append_assoc]
    exact (List.perm_append_comm (l₁ := L)).trans (by exact List.Perm.refl _)
  exact mk_sl (f := .nil) kd nm ln v ⟨rfl, rfl⟩ H2
/-- two rows are one -/
theorem two_rows [Inhabited G3o] {a b : Fo} {us vs : List Value} {A B : Asn} (h1 : isF a us A) (h2 : isF b vs B) (H : St w0 M w (A :: B :: L)) : ∃ C, isF (a.app b) (us ++ vs) C ∧ St w0 M w (C :: L) := by
  obtain ⟨As, rfl⟩ := isF_all h1
  obtain ⟨Bs, rfl⟩ := isF_all h2
  obtain ⟨Cs, h3, h4⟩ := isF_app h1 h2
  exact ⟨_, h3, h4 _ _ _ _ H⟩
/-! ### answers -/
def ones (us : List Value) : Prop := us.length = 6 ∧ ∀ v ∈ us, v.oneCell' = true
theorem ones_Z [Inhabited G3o] : ones nodeZ := ⟨rfl, nodeZ_one⟩
theorem ones_C [Inhabited G3o] {k s : ByteArray} {line val : Int} {q q2 : Option Addr} {m c m2 c2 : Nat} : ones (nodeC k s line val (.slice q m c) (.slice q2 m2 c2)) := ⟨rfl, nodeC_one⟩
/-- a node is read, or there is an error -/
def RK [Inhabited G3o] (R : Rx) (n : Nat) (W : World) (A : Asn) (r : Lang.R T) (e : Ending) (w' : World) : Prop := match r with
  | .ok x l' => ∃ us B, e = .returned (.agg us.toArray) ∧ ones us ∧ isF (toF x .nil) us B ∧ Post A W (all [rlA R l' n, B]) w'
  | .err line en => ∃ us, e = .returned (.agg us.toArray) ∧ ones us ∧ Post A W (rdA R line en) w'
  | .out => True
theorem rk_ok [Inhabited G3o] {A : Asn} {R0 : Lang.R T} {x : T} {us : List Value} {B : Asn} (hR : R0 = .ok x l) (ho : ones us) (hF : isF (toF x .nil) us B) (H : St W A.own w (rlA R l n :: B :: L)) : RK R n W A R0 (.returned (.agg us.toArray)) w := by
  subst hR
  exact ⟨us, B, rfl, ho, hF, St.post (St.shut (L := [_, _]) (L' := L) H) 0 rfl⟩
theorem rk_err [Inhabited G3o] {A : Asn} {R0 : Lang.R T} {us : List Value} (hR : R0 = .err line en) (ho : ones us) (H : St W A.own w (rdA R line en :: L)) : RK R n W A R0 (.returned (.agg us.toArray)) w := by
  subst hR
  exact ⟨us, rfl, ho, H.post 0 rfl⟩
/-- what stands behind a call that reads a node -/
theorem rcall [Inhabited G3o] {P : Program} {fn : FuncId} {args : Array Value} {A A0 : Asn} {m : Nat} {r R0 : Lang.R T} {kk : T → List Tok → Lang.R T} {Q : Ending → World → Prop} (H : St W A0.own w (A :: L)) (hrun : R0 = r.bind kk) (hr : R0 ≠ .out) (hc : r ≠ .out → Calls P fn args w (RK R m w A r))
    (hok : ∀ x l' us B w', R0 = kk x l' → ones us → isF (toF x .nil) us B → St W A0.own w' (rlA R l' m :: B :: L) → Q (.returned (.agg us.toArray)) w')
    (herr : ∀ line en us w', R0 = .err line en → ones us → St W A0.own w' (rdA R line en :: L) → Q (.returned (.agg us.toArray)) w') : Calls P fn args w Q := by
  refine (hc (fun e => hr (by rw [hrun, e]; rfl))).mono ?_
  intro e w' he
  cases hb : r with
  | out => rw [hb] at hrun; exact absurd hrun hr
  | err line en =>
    rw [hb] at he hrun
    obtain ⟨us, rfl, ho, hp⟩ := he
    exact herr line en us w' hrun ho (H.upd 0 rfl hp)
  | ok x l =>
    rw [hb] at he hrun
    obtain ⟨us, B, rfl, ho, hF, hp⟩ := he
    exact hok x l us B w' hrun ho hF (St.open_ (L := [_, _]) (H.upd 0 rfl hp))
end Go.Proofs.YtojogkljneonmaaGreatDoor
/- The reference's parser: levels, numbers, binary operations. No condition. -/
namespace Go.Lang
def opsOf : Nat → List ByteArray
  | 0 => [ofL [124, 124]]
  | 1 => [ofL [38, 38]]
  | 2 => [ofL [124]]
  | 3 => [ofL [94]]
  | 4 => [ofL [38]]
  | 5 => [ofL [61, 61], ofL [33, 61]]
  | 6 => [ofL [60], ofL [60, 61], ofL [62], ofL [62, 61]]
  | 7 => [ofL [60, 60], ofL [62, 62]]
  | 8 => [ofL [43], ofL [45]]
  | 9 => [ofL [42], ofL [47], ofL [37]]
  | _ => []
theorem mem_ops_of {s : ByteArray} : ∀ j, strength s = j → j ≠ 0 → s ∈ opsOf (j - 1) := by
  intro j hj h0
  unfold strength at hj
  by_cases h1 : s = ofL [124, 124]
  · rw [if_pos h1] at hj; subst hj; exact List.mem_cons.2 (.inl h1)
  rw [if_neg h1] at hj
  by_cases h2 : s = ofL [38, 38]
  · rw [if_pos h2] at hj; subst hj; exact List.mem_cons.2 (.inl h2)
  rw [if_neg h2] at hj
  by_cases h3 : s = ofL [124]
  · rw [if_pos h3] at hj; subst hj; exact List.mem_cons.2 (.inl h3)
  rw [if_neg h3] at hj
  by_cases h4 : s = ofL [94]
  · rw [if_pos h4] at hj; subst hj; exact List.mem_cons.2 (.inl h4)
  rw [if_neg h4] at hj
  by_cases h5 : s = ofL [38]
  · rw [if_pos h5] at hj; subst hj; exact List.mem_cons.2 (.inl h5)
  rw [if_neg h5] at hj
  by_cases h6 : s = ofL [61, 61] ∨ s = ofL [33, 61]
  · rw [if_pos h6] at hj; subst hj
    rcases h6 with h | h
    · exact List.mem_cons.2 (.inl h)
    · exact List.mem_cons.2 (.inr (List.mem_cons.2 (.inl h)))
  rw [if_neg h6] at hj
  by_cases h7 : s = ofL [60] ∨ s = ofL [60, 61] ∨ s = ofL [62] ∨ s = ofL [62, 61]
  · rw [if_pos h7] at hj; subst hj
    rcases h7 with h | h | h | h
    · exact List.mem_cons.2 (.inl h)
    · exact List.mem_cons.2 (.inr (List.mem_cons.2 (.inl h)))
    · exact List.mem_cons.2 (.inr (List.mem_cons.2 (.inr (List.mem_cons.2 (.inl h)))))
    · exact List.mem_cons.2 (.inr (List.mem_cons.2 (.inr (List.mem_cons.2 (.inr (List.mem_cons.2 (.inl h)))))))
  rw [if_neg h7] at hj
  by_cases h8 : s = ofL [60, 60] ∨ s = ofL [62, 62]
  · rw [if_pos h8] at hj; subst hj
    rcases h8 with h | h
    · exact List.mem_cons.2 (.inl h)
    · exact List.mem_cons.2 (.inr (List.mem_cons.2 (.inl h)))
  rw [if_neg h8] at hj
  by_cases h9 : s = ofL [43] ∨ s = ofL [45]
  · rw [if_pos h9] at hj; subst hj
    rcases h9 with h | h
    · exact List.mem_cons.2 (.inl h)
    · exact List.mem_cons.2 (.inr (List.mem_cons.2 (.inl h)))
  rw [if_neg h9] at hj
  by_cases h10 : s = ofL [42] ∨ s = ofL [47] ∨ s = ofL [37]
  · rw [if_pos h10] at hj; subst hj
    rcases h10 with h | h | h
    · exact List.mem_cons.2 (.inl h)
    · exact List.mem_cons.2 (.inr (List.mem_cons.2 (.inl h)))
    · exact List.mem_cons.2 (.inr (List.mem_cons.2 (.inr (List.mem_cons.2 (.inl h)))))
  rw [if_neg h10] at hj
  exact absurd hj.symm h0
theorem mem_ops {k : Nat} {s : ByteArray} : s ∈ opsOf k ↔ strength s = k + 1 ∧ k < 10 := by
  constructor
  · intro h
    match k, h with
    | 0, h => simp only [opsOf, List.mem_cons, List.not_mem_nil, or_false] at h; subst h; decide
    | 1, h => simp only [opsOf, List.mem_cons, List.not_mem_nil, or_false] at h; subst h; decide
    | 2, h => simp only [opsOf, List.mem_cons, List.not_mem_nil, or_false] at h; subst h; decide
    | 3, h => simp only [opsOf, List.mem_cons, List.not_mem_nil, or_false] at h; subst h; decide
    | 4, h => simp only [opsOf, List.mem_cons, List.not_mem_nil, or_false] at h; subst h; decide
    | 5, h => simp only [opsOf, List.mem_cons, List.not_mem_nil, or_false] at h; rcases h with rfl | rfl <;> decide
    | 6, h => simp only [opsOf, List.mem_cons, List.not_mem_nil, or_false] at h; rcases h with rfl | rfl | rfl | rfl <;> decide
    | 7, h => simp only [opsOf, List.mem_cons, List.not_mem_nil, or_false] at h; rcases h with rfl | rfl <;> decide
    | 8, h => simp only [opsOf, List.mem_cons, List.not_mem_nil, or_false] at h; rcases h with rfl | rfl <;> decide
    | 9, h => simp only [opsOf, List.mem_cons, List.not_mem_nil, or_false] at h; rcases h with rfl | rfl | rfl <;> decide
    | k + 10, h => cases h
  · rintro ⟨h, hk⟩
    exact mem_ops_of (k + 1) h (by omega)
end Go.Lang
namespace Go.Proofs.YtojogkljneonmaaGreatDoor
open Go Go.Proofs Go.Sep Go.XHeap Go.RowKit Go.Lang
set_option linter.unusedVariables false
set_option linter.unusedSimpArgs false
variable {W w0 w : World} {M : Nat → Prop} {L : List Asn} {R : Rx} {l : List Tok} {n : Nat} {line en : Int}
def strs' (l : List ByteArray) : List Value := l.map .string
theorem ops_fin [Inhabited G3o] {k : Nat} {b : Nat} {ops : List ByteArray} {i : Nat} (H : St W emp.own w L) (hi : L[i]? = some (blk b (strs' ops).toArray 9)) (hl : ops.length ≤ 4) (hk : k < 10) (ho : opsOf k = ops) :
    (k < 10 ∧ ∃ b2 : Nat, (Ending.returned (.slice (some ⟨b, 0, none⟩) ops.length ops.length) : Ending) = .returned (.slice (some ⟨b2, 0, none⟩) (opsOf k).length (opsOf k).length) ∧ Post emp W (sl 9 1 (.slice (some ⟨b2, 0, none⟩) (opsOf k).length (opsOf k).length) (opsOf k).length (strs' (opsOf k))) w) ∨ (k = 10 ∧ (Ending.returned (.slice (some ⟨b, 0, none⟩) ops.length ops.length) : Ending) = .returned (.slice none 0 0) ∧ Hush W w) := by
  subst ho
  refine .inl ⟨hk, _, rfl, ?_⟩
  have H2 := H.conv i hi (A' := sl 9 1 (.slice (some ⟨b, 0, none⟩) (opsOf k).length (opsOf k).length) (opsOf k).length (strs' (opsOf k))) (fun h => blk_sl (by simp [strs']) (by show _ ≤ maxLen; unfold maxLen; omega) h) (fun q hq => by
    have : some b = some q := hq
    cases this; rfl)
  exact H2.post i (set_same _ hi)
theorem rlevels_any [Inhabited G3o] {k : Nat} (hk : k ≤ 10) : Calls Tryz.prog 146 #[.int .i64 (k : Nat)] W fun e w' => (k < 10 ∧ ∃ b : Nat, e = .returned (.slice (some ⟨b, 0, none⟩) (opsOf k).length (opsOf k).length) ∧ Post emp W (sl 9 1 (.slice (some ⟨b, 0, none⟩) (opsOf k).length (opsOf k).length) (opsOf k).length (strs' (opsOf k))) w') ∨ (k = 10 ∧ e = .returned (.slice none 0 0) ∧ Hush W w') := by
  refine vc146 (k : Nat) ?_
  refine (St.nil W).al fun k2 w2 H => ?_
  refine H.al fun k3 w3 H => ?_
  refine H.al fun k4 w4 H => ?_
  refine H.al fun k5 w5 H => ?_
  refine H.al fun k6 w6 H => ?_
  refine H.al fun k7 w7 H => ?_
  refine H.al fun k8 w8 H => ?_
  refine H.al fun k9 w9 H => ?_
  refine H.al fun k10 w10 H => ?_
  refine H.al fun k11 w11 H => ?_
  refine H.al fun k12 w12 H => ?_
  refine Sx.split_of (fun h => ?_) (fun h => ?_)
  · have h : k = 10 := by have := of_decide_eq_true h; omega
    exact .inr ⟨h, rfl, H.touch⟩
  · have h : k < 10 := by have := of_decide_eq_false h; omega
    refine ⟨⟨by omega, by omega⟩, ?_⟩
    match k, h with
    | 0, h => exact ⟨_, _, _, H.ld 10 rfl (i := 0) rfl, ops_fin (i := 0) (ops := [ofL [124, 124]]) H rfl (by decide) h rfl⟩
    | 1, h => exact ⟨_, _, _, H.ld 10 rfl (i := 1) rfl, ops_fin (i := 1) (ops := [ofL [38, 38]]) H rfl (by decide) h rfl⟩
    | 2, h => exact ⟨_, _, _, H.ld 10 rfl (i := 2) rfl, ops_fin (i := 2) (ops := [ofL [124]]) H rfl (by decide) h rfl⟩
    | 3, h => exact ⟨_, _, _, H.ld 10 rfl (i := 3) rfl, ops_fin (i := 3) (ops := [ofL [94]]) H rfl (by decide) h rfl⟩
    | 4, h => exact ⟨_, _, _, H.ld 10 rfl (i := 4) rfl, ops_fin (i := 4) (ops := [ofL [38]]) H rfl (by decide) h rfl⟩
    | 5, h => exact ⟨_, _, _, H.ld 10 rfl (i := 5) rfl, ops_fin (i := 5) (ops := [ofL [61, 61], ofL [33, 61]]) H rfl (by decide) h rfl⟩
    | 6, h => exact ⟨_, _, _, H.ld 10 rfl (i := 6) rfl, ops_fin (i := 6) (ops := [ofL [60], ofL [60, 61], ofL [62], ofL [62, 61]]) H rfl (by decide) h rfl⟩
    | 7, h => exact ⟨_, _, _, H.ld 10 rfl (i := 7) rfl, ops_fin (i := 7) (ops := [ofL [60, 60], ofL [62, 62]]) H rfl (by decide) h rfl⟩
    | 8, h => exact ⟨_, _, _, H.ld 10 rfl (i := 8) rfl, ops_fin (i := 8) (ops := [ofL [43], ofL [45]]) H rfl (by decide) h rfl⟩
    | 9, h => exact ⟨_, _, _, H.ld 10 rfl (i := 9) rfl, ops_fin (i := 9) (ops := [ofL [42], ofL [47], ofL [37]]) H rfl (by decide) h rfl⟩
/-! ### what the functions do with so much fuel -/
def JE [Inhabited G3o] (F : FuncId) (q : Req) (f : Nat) : Prop := ∀ {W : World} {R : Rx} {n : Nat} {l : List Tok}, (rlA R l n).at_ W → n ≤ 24 → run f q n l ≠ .out → Calls Tryz.prog F #[pt R.b] W (RK R n W (rlA R l n) (run f q n l))
def JB [Inhabited G3o] (f k : Nat) : Prop := ∀ {W : World} {R : Rx} {n : Nat} {l : List Tok}, (rlA R l n).at_ W → n ≤ 24 → run f (.bin (k + 1)) n l ≠ .out → Calls Tryz.prog 137 #[pt R.b, .int .i64 (k : Nat)] W (RK R n W (rlA R l n) (run f (.bin (k + 1)) n l))
/-- how far the parser still has to go -/
def rmeas (R : Rx) (w : World) : Nat := match w.cell? ⟨R.b, 3, none⟩ with
  | some (.int _ 0) => (match w.cell? ⟨R.b, 1, none⟩ with
    | some (.int _ a) => 9001 - a.toNat
    | _ => 0)
  | _ => 0
theorem rmeas_live [Inhabited G3o] (h : (rlA R l n).at_ W) : rmeas R W = 9001 + l.length - R.L.length ∧ R.L.length ≤ 8001 ∧ l.length ≤ R.L.length := by
  obtain ⟨h0, a, h1, H⟩ := rl_open (St.begin h)
  have H := St.open_ H
  have hat := (List.getElem?_eq_some_iff.1 (drop_now h1 h0.2.1)).1
  have c1 : W.cell? ⟨R.b, 3, none⟩ = _ := H.ld 0 rfl (i := 3) rfl
  have c2 : W.cell? ⟨R.b, 1, none⟩ = _ := H.ld 0 rfl (i := 1) rfl
  have hl : l.length = R.L.length - a := by rw [← h1, List.length_drop]
  have := h0.1.2.2.2
  refine ⟨?_, this, by omega⟩
  unfold rmeas
  rw [c1, c2]
  show 9001 - ((a : Nat) : Int).toNat = _
  rw [Int.toNat_natCast]
  omega
theorem rmeas_dead [Inhabited G3o] (h : (rdA R line en).at_ W) : rmeas R W = 0 := by
  obtain ⟨h0, a, z, t, h1, H⟩ := rd_open (St.begin h)
  have H := St.open_ H
  have c1 : W.cell? ⟨R.b, 3, none⟩ = _ := H.ld 0 rfl (i := 3) rfl
  unfold rmeas
  rw [c1]
  split
  · rename_i e
    cases e
    exact absurd rfl h0.1
  · rfl
theorem rmeas_lt [Inhabited G3o] {m : Nat} {w2 : World} {l2 : List Tok} (h : (rlA R l n).at_ w) (h2 : (rlA R l2 m).at_ w2) (hlt : l2.length < l.length) : rmeas R w2 < rmeas R w := by
  obtain ⟨a, b, c⟩ := rmeas_live h
  obtain ⟨d, -, e⟩ := rmeas_live h2
  omega
theorem rmeas_ltd [Inhabited G3o] {w2 : World} (h : (rlA R l n).at_ w) (h2 : (rdA R line en).at_ w2) : rmeas R w2 < rmeas R w := by
  obtain ⟨a, b, c⟩ := rmeas_live h
  rw [rmeas_dead h2]
  omega
theorem good_len [Inhabited G3o] (h : Good l) : 0 < l.length := by
  obtain ⟨t, l', rfl⟩ := h.cons
  simp
theorem rexpr_step [Inhabited G3o] {f : Nat} (I : JB f 0) : JE 119 .expr (f + 1) := by
  intro W R n l h hn hr
  have hrun : run (f + 1) .expr n l = if 24 ≤ n then .err (now l).line 3 else run f (.bin 1) (n + 1) l := by rw [run]
  generalize run (f + 1) .expr n l = R0 at *
  refine vc119 R.b 0 ?_
  refine (St.begin h).al fun k w2 H2 => ?_
  refine (rl_deeper (H2.nth 0 rfl) hn).mono ?_
  rintro e w3 (⟨hn2, rfl, hp⟩ | ⟨hn2, rfl, hp⟩)
  · have H3 := H2.upd 0 rfl hp
    rw [if_neg (by omega)] at hrun
    refine ⟨_, rfl, Sx.split_of (fun h => by cases h) (fun _ => ?_)⟩
    refine rcall (kk := fun x l => .ok x l) H3 (by rw [hrun]; cases run f (.bin 1) (n + 1) l <;> rfl) hr (fun hr => I (H3.nth 0 rfl) (by omega) hr) ?_ ?_
    · intro x l' us B w4 hR ho hF H4
      refine ⟨_, rfl, ?_⟩
      refine H4.al fun k3 w5 H5 => ?_
      refine H5.sts0 3 (n := 6) (vs := us.toArray) rfl (by simpa using ho.1) rfl (by simpa using ho.2) fun w6 H6 => ?_
      refine rl_dec H6 fun w7 H7 => ?_
      refine cells_node H7 (k := 3) rfl ho.1 ?_
      exact ret_node H7 (k := 2) rfl rfl ho.1 ho.2 fun w8 H8 => rk_ok hR ho hF H8
    · intro line en us w4 hR ho H4
      refine ⟨_, rfl, ?_⟩
      refine H4.al fun k3 w5 H5 => ?_
      refine H5.sts0 2 (n := 6) (vs := us.toArray) rfl (by simpa using ho.1) rfl (by simpa using ho.2) fun w6 H6 => ?_
      refine rd_dec H6 fun w7 H7 => ?_
      refine cells_node H7 (k := 2) rfl ho.1 ?_
      exact ret_node H7 (k := 1) rfl rfl ho.1 ho.2 fun w8 H8 => rk_err hR ho H8
  · have H3 := H2.upd 0 rfl hp
    rw [if_pos hn2] at hrun
    refine ⟨_, rfl, Sx.split_of (fun _ => ?_) (fun h => by cases h)⟩
    rintro vs rfl
    exact ret_node H3 (k := 1) (us := nodeZ) rfl rfl rfl nodeZ_one fun w8 H8 => rk_err hrun ones_Z H8
end Go.Proofs.YtojogkljneonmaaGreatDoor
