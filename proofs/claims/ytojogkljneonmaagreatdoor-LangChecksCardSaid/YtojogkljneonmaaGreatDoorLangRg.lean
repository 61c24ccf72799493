import Derived.Test.YtojogkljneonmaaGreatDoorLangQ
import Derived.Test.YtojogkljneonmaaGreatDoorLangRe
import Derived.Test.YtojogkljneonmaaGreatDoorLangRd
import Derived.Test.YtojogkljneonmaaGreatDoorLangRb
/- Trees in memory; the parser's functions for expressions. No condition. -/
namespace Go.Proofs.YtojogkljneonmaaGreatDoor
open Go Go.Proofs Go.Sep Go.XHeap Go.RowKit Go.Lang
set_option linter.unusedVariables false
set_option linter.unusedSimpArgs false

def pt (k : Nat) : Value := .pointer (some ⟨k, 0, none⟩)
def nameC (t : Tok) (s w : Int) : List Value := tkL t ++ [.int .i64 s, .int .i64 w]
def indexC (t : Tok) (w z : Int) (x : Value) : List Value := tkL t ++ [.int .i64 w, .int .u32 z, x]
def callC (t : Tok) (f : Option Addr) (v : Value) : List Value := tkL t ++ [.pointer f, v]
def unC (t : Tok) (x : Value) : List Value := tkL t ++ [.string t.s, x]
def binC (t : Tok) (x y : Value) : List Value := tkL t ++ [.string t.s, x, y]
def setC (t : Tok) (k : Nat) (x : Value) (nw : Bool) : List Value := tkL t ++ [pt k, x, .bool nw]
/-- the piece that is this tree, and the values that stand for it -/
def isP : T → List Value → Asn → Prop
  | .num v _, vs, A => vs = [.iface 211 (.int .u32 v)] ∧ A = emp
  | .name t s w, vs, A => ∃ k, vs = [.iface 167 (pt k)] ∧ A = blk k (nameC t s w).toArray 221
  | .index t w z p, vs, A => ∃ k x A1, isP p [x] A1 ∧ vs = [.iface 177 (pt k)] ∧ A = all [blk k (indexC t w z x).toArray 176, A1]
  | .call t f xs, vs, A => ∃ k p c us A1, isP xs us A1 ∧ vs = [.iface 193 (pt k)] ∧ A = all [blk k (callC t f (.slice p us.length c)).toArray 214, sl 169 1 (.slice p us.length c) us.length us, A1]
  | .un t x, vs, A => ∃ k v A1, isP x [v] A1 ∧ vs = [.iface 215 (pt k)] ∧ A = all [blk k (unC t v).toArray 217, A1]
  | .bin t x y, vs, A => ∃ k u v A1 A2, isP x [u] A1 ∧ isP y [v] A2 ∧ vs = [.iface 218 (pt k)] ∧ A = all [blk k (binC t u v).toArray 230, A1, A2]
  | .nil, vs, A => vs = [] ∧ A = all []
  | .cons x xs, vs, A => ∃ v us A1 As, isP x [v] A1 ∧ isP xs us (all As) ∧ vs = v :: us ∧ A = all (A1 :: As)
  | .letS t nm s w x, vs, A => ∃ k k2 v A1, isP x [v] A1 ∧ vs = [.iface 165 (pt k)] ∧ A = all [blk k (setC t k2 v true).toArray 171, blk k2 (nameC nm s w).toArray 221, A1]
  | .setS t s w x, vs, A => ∃ k k2 v A1, isP x [v] A1 ∧ vs = [.iface 165 (pt k)] ∧ A = all [blk k (setC t k2 v false).toArray 171, blk k2 (nameC t s w).toArray 221, A1]
  | .putS t w z p x, vs, A => ∃ k k2 u v A1 A2, isP p [u] A1 ∧ isP x [v] A2 ∧ vs = [.iface 174 (pt k)] ∧ A = all [blk k #[pt k2, v] 179, blk k2 (indexC t w z u).toArray 176, A1, A2]
  | .ifS _ c a b, vs, A => ∃ k v k2 A1 A2, isP c [v] A1 ∧ isP a [.iface 113 (pt k2)] A2 ∧ vs = [.iface 181 (pt k)] ∧
      ((b = .nil ∧ A = all [blk k #[v, pt k2, .pointer none] 183, A1, A2]) ∨ ∃ k3 A3, isP b [.iface 113 (pt k3)] A3 ∧ A = all [blk k #[v, pt k2, pt k3] 183, A1, A2, A3])
  | .whileS _ c b, vs, A => ∃ k v k2 A1 A2, isP c [v] A1 ∧ isP b [.iface 113 (pt k2)] A2 ∧ vs = [.iface 184 (pt k)] ∧ A = all [blk k #[v, pt k2] 186, A1, A2]
  | .retS _ x, vs, A => ∃ k v A1, isP x [v] A1 ∧ vs = [.iface 187 (pt k)] ∧ A = all [blk k #[v] 189, A1]
  | .prtS _ x, vs, A => ∃ k v A1, isP x [v] A1 ∧ vs = [.iface 190 (pt k)] ∧ A = all [blk k #[v] 191, A1]
  | .doS _ x, vs, A => ∃ k k2 A1, isP x [.iface 193 (pt k2)] A1 ∧ vs = [.iface 192 (pt k)] ∧ A = all [blk k #[pt k2] 195, A1]
  | .block _ l, vs, A => ∃ k p c us A1, isP l us A1 ∧ vs = [.iface 113 (pt k)] ∧ A = all [blk k #[.slice p us.length c] 164, sl 161 1 (.slice p us.length c) us.length us, A1]
theorem isP_iface : ∀ {t : T} {vs : List Value} {A : Asn}, isP t vs A → ∀ v ∈ vs, ∃ ty p, v = .iface ty p := by
  intro t
  induction t with
  | num v l => rintro vs A ⟨rfl, -⟩ v hv; simp at hv; exact ⟨_, _, hv⟩
  | name t s w => rintro vs A ⟨k, rfl, -⟩ v hv; simp at hv; exact ⟨_, _, hv⟩
  | nil => rintro vs A ⟨rfl, -⟩ v hv; cases hv
  | cons x xs ih1 ih2 =>
    rintro vs A ⟨v, us, A1, As, h1, h2, rfl, -⟩ u hu
    rcases List.mem_cons.1 hu with rfl | hu
    · exact ih1 h1 _ (List.mem_cons_self ..)
    · exact ih2 h2 _ hu
  | index t w z p _ => rintro vs A ⟨k, x, A1, -, rfl, -⟩ v hv; simp at hv; exact ⟨_, _, hv⟩
  | call t f xs _ => rintro vs A ⟨k, p, c, us, A1, -, rfl, -⟩ v hv; simp at hv; exact ⟨_, _, hv⟩
  | un t x _ => rintro vs A ⟨k, v, A1, -, rfl, -⟩ v hv; simp at hv; exact ⟨_, _, hv⟩
  | bin t x y _ _ => rintro vs A ⟨k, u, v, A1, A2, -, -, rfl, -⟩ v hv; simp at hv; exact ⟨_, _, hv⟩
  | letS t nm s w x _ => rintro vs A ⟨k, k2, v, A1, -, rfl, -⟩ v hv; simp at hv; exact ⟨_, _, hv⟩
  | setS t s w x _ => rintro vs A ⟨k, k2, v, A1, -, rfl, -⟩ v hv; simp at hv; exact ⟨_, _, hv⟩
  | putS t w z p x _ _ => rintro vs A ⟨k, k2, u, v, A1, A2, -, -, rfl, -⟩ v hv; simp at hv; exact ⟨_, _, hv⟩
  | ifS l c a b _ _ _ => rintro vs A ⟨k, v, k2, A1, A2, -, -, rfl, -⟩ v hv; simp at hv; exact ⟨_, _, hv⟩
  | whileS l c b _ _ => rintro vs A ⟨k, v, k2, A1, A2, -, -, rfl, -⟩ v hv; simp at hv; exact ⟨_, _, hv⟩
  | retS l x _ => rintro vs A ⟨k, v, A1, -, rfl, -⟩ v hv; simp at hv; exact ⟨_, _, hv⟩
  | prtS l x _ => rintro vs A ⟨k, v, A1, -, rfl, -⟩ v hv; simp at hv; exact ⟨_, _, hv⟩
  | doS l x _ => rintro vs A ⟨k, k2, A1, -, rfl, -⟩ v hv; simp at hv; exact ⟨_, _, hv⟩
  | block l x _ => rintro vs A ⟨k, p, c, us, A1, -, rfl, -⟩ v hv; simp at hv; exact ⟨_, _, hv⟩
theorem isP_one [Inhabited G3o] {t : T} {v : Value} {A : Asn} (h : isP t [v] A) {φ : Prop} (hφ : φ) : Sx.one v φ := by
  obtain ⟨ty, p, rfl⟩ := isP_iface h v (List.mem_cons_self ..)
  exact hφ
theorem isP_cell [Inhabited G3o] {t : T} {v : Value} {A : Asn} (h : isP t [v] A) : v.oneCell' = true := by
  obtain ⟨ty, p, rfl⟩ := isP_iface h v (List.mem_cons_self ..)
  rfl
/-! ### lists of trees -/
def ofTs (ts : List T) (r : T) : T := ts.foldr .cons r
theorem isP_snoc {x : T} {v : Value} {B : Asn} (hx : isP x [v] B) : ∀ {ts : List T} {vs : List Value} {As : List Asn}, isP (ofTs ts .nil) vs (all As) → ∃ As', isP (ofTs (ts ++ [x]) .nil) (vs ++ [v]) (all As') ∧ ∀ w0 M w L, St w0 M w (all As :: B :: L) → St w0 M w (all As' :: L)
  | [], vs, As, h => by
    obtain ⟨rfl, e⟩ := h
    refine ⟨[B], ⟨v, [], B, [], hx, ⟨rfl, rfl⟩, rfl, rfl⟩, fun w0 M w L H => ?_⟩
    rw [e] at H
    exact St.push (Ls := []) H
  | t :: ts, vs, As, h => by
    obtain ⟨u, us, A1, Bs, h1, h2, rfl, e⟩ := h
    obtain ⟨Bs', h3, h4⟩ := isP_snoc hx h2
    refine ⟨A1 :: Bs', ⟨u, _, A1, Bs', h1, h3, rfl, rfl⟩, fun w0 M w L H => ?_⟩
    rw [e] at H
    have H1 := St.open_ (L := A1 :: Bs) H
    have H2 : St w0 M w (all Bs :: B :: A1 :: L) := by
      have : St w0 M w (all Bs :: A1 :: B :: L) := St.shut (L := Bs) (L' := A1 :: B :: L) (H1.perm (by
        simp only [List.cons_append]
        exact List.perm_middle.symm))
      exact this.perm (.cons _ (.swap ..))
    have H3 := h4 _ _ _ _ H2
    have H4 := (St.open_ (L := Bs') H3).perm (L' := (A1 :: Bs') ++ L) (by exact List.perm_middle)
    exact St.shut (L := A1 :: Bs') H4
theorem ofTs_snoc (ts : List T) (x r : T) : ofTs (ts ++ [x]) r = ofTs ts (.cons x r) := by simp [ofTs]
end Go.Proofs.YtojogkljneonmaaGreatDoor
/- The reference's parser in memory: its state; the small functions. No condition. -/
namespace Go.Proofs.YtojogkljneonmaaGreatDoor
open Go Go.Proofs Go.Sep Go.XHeap Go.RowKit Go.Lang
set_option linter.unusedVariables false
set_option linter.unusedSimpArgs false
/-- where the reference's parser and its tokens stand -/
structure Rx where
  b : Nat
  g : Nat
  off : Nat
  c : Nat
  L : List Tok
variable {W : World} {R : Rx} {at_ : Nat} {line err nest : Int}
def rpL (R : Rx) (at_ : Nat) (line err nest : Int) : List Asn :=
  [blk R.b #[.slice (some ⟨R.g, R.off, none⟩) R.L.length R.c, .int .i64 (at_ : Nat), .int .i64 line, .int .i64 err, .int .i64 nest] 94, sl 96 3 (.slice (some ⟨R.g, R.off, none⟩) R.L.length R.c) R.L.length (R.L.flatMap tkR)]
def rpA (R : Rx) (at_ : Nat) (line err nest : Int) : Asn := all (rpL R at_ line err nest)
/-- the token that stands here, in memory -/
theorem rtok_at [Inhabited G3o] {w : World} (h : Sl w 96 3 (.slice (some ⟨R.g, R.off, none⟩) R.L.length R.c) R.L.length (R.L.flatMap tkR)) {t : Tok} (ht : R.L[at_]? = some t) : Sx.cellsAt w ⟨R.g, R.off + ((at_ : Nat) : Int).toNat * 3, none⟩ (tkR t).toArray := by
  obtain ⟨-, g, off, e, hc⟩ := sl_elem h (fun x _ => tkR_len x) ht (by omega)
  cases e
  rw [Int.toNat_natCast]
  exact hc
theorem ris_any [Inhabited G3o] (s : ByteArray) {t : Tok} (ht : R.L[at_]? = some t) (h : (rpA R at_ line err nest).at_ W) : Calls Tryz.prog 101 #[pt R.b, .string s] W fun e w' => e = .returned (.bool (is s [t])) ∧ Hush W w' := by
  refine vc101 R.b 0 s ?_
  have hat : at_ < R.L.length := (List.getElem?_eq_some_iff.1 ht).1
  refine (St.nil W).dr fun w2 H2 => ?_
  have h2 : (rpA R at_ line err nest).at_ w2 := hush_keep h H2.touch
  have H : St w2 (rpA R at_ line err nest).own w2 (rpL R at_ line err nest ++ []) := St.open_ (St.begin h2)
  refine ⟨_, _, _, H.ld 0 rfl (i := 0) rfl, _, H.ld 0 rfl (i := 1) rfl, ⟨by omega, by omega⟩, ?_⟩
  refine adr_some ⟨(tkR t).toArray, rfl, rtok_at (H.nth 1 rfl) ht, ?_⟩
  refine H2.alb fun k w3 H3 _ hb => ⟨hb, ?_⟩
  refine H3.sts0 0 (n := 3) (vs := (tkR t).toArray) rfl rfl rfl (by simpa using tkR_one t) fun w4 H4 => ?_
  refine ⟨_, H4.ld 0 rfl (i := 0) rfl, ?_⟩
  have hk : ((kR t.k : Nat) : Int) = 107 ↔ t.k = 3 := by
    unfold kR
    split <;> simp_all
  refine Sx.split_of (fun h3 => ?_) (fun h3 => ?_)
  · have h3 := hk.1 (beq_iff_eq.1 h3)
    refine ⟨_, H4.ld 0 rfl (i := 1) rfl, ?_, H4.touch⟩
    rw [toList_eq]
    simp [Go.Lang.is, now, h3]
  · have h3 : ¬ t.k = 3 := fun e => (beq_eq_false_iff_ne.1 h3) (hk.2 e)
    exact ⟨by simp [Go.Lang.is, now, h3], H4.touch⟩
def nodeZ : List Value := [.string ⟨#[]⟩, .string ⟨#[]⟩, .int .i64 0, .int .u32 0, .slice none 0 0, .slice none 0 0]
theorem nodeZ_one : ∀ v ∈ nodeZ, v.oneCell' = true := by
  intro v hv
  simp only [nodeZ, List.mem_cons, List.not_mem_nil, or_false] at hv
  rcases hv with rfl | rfl | rfl | rfl | rfl | rfl <;> rfl
theorem rfail_any [Inhabited G3o] (e : Int) {t : Tok} (ht : R.L[at_]? = some t) (h : (rpA R at_ line err nest).at_ W) : Calls Tryz.prog 63 #[pt R.b, .int .i64 e] W fun en w' => en = .returned (.agg nodeZ.toArray) ∧ Post (rpA R at_ line err nest) W (rpA R at_ (if err = 0 then t.line else line) (if err = 0 then e else err) nest) w' := by
  refine vc63 R.b 0 e ?_
  have hat : at_ < R.L.length := (List.getElem?_eq_some_iff.1 ht).1
  have H : St W (rpA R at_ line err nest).own W (rpL R at_ line err nest ++ []) := St.open_ (St.begin h)
  refine H.al fun k w2 H2 => ?_
  refine ⟨_, H2.ld 0 rfl (i := 3) rfl, Sx.split_of (fun h0 => ?_) (fun h0 => ?_)⟩
  · have h0 : err = 0 := beq_iff_eq.1 h0
    rw [if_pos h0, if_pos h0]
    refine H2.st 0 rfl (i := 3) (by simp) fun w3 H3 => ?_
    refine H3.dr fun w4 H4 => ?_
    refine ⟨_, _, _, H4.ld 0 rfl (i := 0) rfl, _, H4.ld 0 rfl (i := 1) rfl, ⟨by omega, by omega⟩, ?_⟩
    refine adr_some ⟨t.line, ?_, ?_⟩
    · have := rtok_at (H4.nth 1 rfl) ht 2 (.int .i64 t.line) rfl
      exact this
    refine H4.st 0 rfl (i := 2) (by simp) fun w5 H5 => ?_
    rintro vs rfl
    refine H5.sts0 2 (n := 6) (vs := nodeZ.toArray) rfl rfl rfl (by simpa using nodeZ_one) fun w6 H6 => ?_
    exact ⟨_, rfl, H6.cells 2 rfl, rfl, (St.shut (L := rpL R at_ t.line e nest) (L' := [_]) H6).post 0 rfl⟩
  · have h0 : ¬ err = 0 := beq_eq_false_iff_ne.1 h0
    rw [if_neg h0, if_neg h0]
    rintro vs rfl
    refine H2.sts0 2 (n := 6) (vs := nodeZ.toArray) rfl rfl rfl (by simpa using nodeZ_one) fun w6 H6 => ?_
    exact ⟨_, rfl, H6.cells 2 rfl, rfl, (St.shut (L := rpL R at_ line err nest) (L' := [_]) H6).post 0 rfl⟩
theorem inc64 {a : Nat} (h : a ≤ 100000) : IntKind.wrap .i64 ((a : Nat) + 1 : Int) = ((a + 1 : Nat) : Int) := by
  rw [show ((a : Nat) + 1 : Int) = ((a + 1 : Nat) : Int) by omega]; exact Go.Bits.n64 (by omega)
theorem rtake_any [Inhabited G3o] (s : ByteArray) (hL : R.L.length ≤ 8001) {t : Tok} (ht : R.L[at_]? = some t) (h : (rpA R at_ line err nest).at_ W) : Calls Tryz.prog 60 #[pt R.b, .string s] W fun e w' => e = .returned (.bool (is s [t] && decide (err = 0))) ∧ Post (rpA R at_ line err nest) W (rpA R (if is s [t] = true ∧ err = 0 then at_ + 1 else at_) line err nest) w' := by
  refine vc60 R.b 0 s ?_
  have hat : at_ < R.L.length := (List.getElem?_eq_some_iff.1 ht).1
  refine (St.begin h).callq (ris_any s ht h) fun w2 H2 => ?_
  refine ⟨_, rfl, Sx.split_of (fun h1 => ?_) (fun h1 => ?_)⟩
  · have H3 : St W (rpA R at_ line err nest).own w2 (rpL R at_ line err nest ++ []) := St.open_ H2
    refine ⟨_, H3.ld 0 rfl (i := 3) rfl, Sx.split_of (fun h0 => ?_) (fun h0 => ?_)⟩
    · have h0 : err = 0 := beq_iff_eq.1 h0
      refine ⟨_, H3.ld 0 rfl (i := 1) rfl, ?_⟩
      rintro z rfl
      rw [inc64 (by omega), if_pos ⟨h1, h0⟩, h1, decide_eq_true h0]
      refine H3.st 0 rfl (i := 1) (by simp) fun w4 H4 => ?_
      exact ⟨rfl, (St.shut (L := rpL R (at_ + 1) line err nest) (L' := []) H4).post 0 rfl⟩
    · have h0 : ¬ err = 0 := beq_eq_false_iff_ne.1 h0
      rw [if_neg (fun e => h0 e.2), decide_eq_false h0, Bool.and_false]
      exact ⟨rfl, H2.post 0 rfl⟩
  · rw [if_neg (fun e => by rw [h1] at e; cases e.1), h1, Bool.false_and]
    exact ⟨rfl, H2.post 0 rfl⟩
/-- a mark that must stand here: the state behind it -/
theorem rwant_any [Inhabited G3o] (s : ByteArray) (hL : R.L.length ≤ 8001) {t : Tok} (ht : R.L[at_]? = some t) (h : (rpA R at_ line err nest).at_ W) : Calls Tryz.prog 64 #[pt R.b, .string s] W fun e w' => e = .returned (.tuple #[]) ∧
    ((err = 0 ∧ is s [t] = true ∧ Post (rpA R at_ line err nest) W (rpA R (at_ + 1) line err nest) w') ∨ (err = 0 ∧ is s [t] = false ∧ Post (rpA R at_ line err nest) W (rpA R at_ t.line 8 nest) w') ∨ (err ≠ 0 ∧ Post (rpA R at_ line err nest) W (rpA R at_ line err nest) w')) := by
  refine vc64 R.b 0 s ?_
  refine (St.begin h).call 0 rfl (rtake_any s hL ht h) fun w2 H2 => ?_
  refine ⟨_, rfl, ?_⟩
  by_cases h0 : err = 0
  · subst h0
    cases h1 : is s [t] with
    | true =>
      rw [h1] at H2
      exact ⟨rfl, .inl ⟨rfl, rfl, H2.post 0 rfl⟩⟩
    | false =>
      rw [h1] at H2
      have H2 : St W (rpA R at_ line 0 nest).own w2 [rpA R at_ line 0 nest] := H2
      refine H2.call 0 rfl (rfail_any 8 ht (H2.nth 0 rfl)) fun w3 H3 => ?_
      exact ⟨_, rfl, rfl, .inr (.inl ⟨rfl, rfl, H3.post 0 rfl⟩)⟩
  · rw [decide_eq_false h0, Bool.and_false]
    rw [if_neg (fun e => h0 e.2)] at H2
    have H2 : St W (rpA R at_ line err nest).own w2 [rpA R at_ line err nest] := H2
    refine H2.call 0 rfl (rfail_any 8 ht (H2.nth 0 rfl)) fun w3 H3 => ?_
    rw [if_neg h0, if_neg h0] at H3
    exact ⟨_, rfl, rfl, .inr (.inr ⟨h0, H3.post 0 rfl⟩)⟩
/-- one level deeper -/
theorem rdeeper_any [Inhabited G3o] {n : Nat} (hn : n ≤ 50) {t : Tok} (ht : R.L[at_]? = some t) (h : (rpA R at_ line 0 (n : Nat)).at_ W) : Calls Tryz.prog 102 #[pt R.b] W fun e w' =>
    (n < 24 ∧ e = .returned (.bool true) ∧ Post (rpA R at_ line 0 (n : Nat)) W (rpA R at_ line 0 ((n + 1 : Nat) : Int)) w') ∨ (24 ≤ n ∧ e = .returned (.bool false) ∧ Post (rpA R at_ line 0 (n : Nat)) W (rpA R at_ t.line 3 ((n + 1 : Nat) : Int)) w') := by
  refine vc102 R.b 0 ?_
  have H : St W (rpA R at_ line 0 (n : Nat)).own W (rpL R at_ line 0 (n : Nat) ++ []) := St.open_ (St.begin h)
  refine ⟨_, H.ld 0 rfl (i := 4) rfl, ?_⟩
  rintro z rfl
  rw [inc64 (by omega)]
  refine H.st 0 rfl (i := 4) (by simp) fun w2 H2 => ?_
  have H2 : St W (rpA R at_ line 0 (n : Nat)).own w2 (rpL R at_ line 0 ((n + 1 : Nat) : Int) ++ []) := H2
  refine ⟨_, H2.ld 0 rfl (i := 4) rfl, Sx.split_of (fun h1 => ?_) (fun h1 => ?_)⟩
  · have h1 : 24 ≤ n := by have := of_decide_eq_true h1; omega
    have H3 := St.shut (L := rpL R at_ line 0 ((n + 1 : Nat) : Int)) H2
    refine H3.call 0 rfl (rfail_any 3 ht (H3.nth 0 rfl)) fun w3 H4 => ?_
    have H5 : St W (rpA R at_ line 0 (n : Nat)).own w3 (rpL R at_ t.line 3 ((n + 1 : Nat) : Int) ++ []) := St.open_ H4
    exact ⟨_, rfl, _, H5.ld 0 rfl (i := 3) rfl, .inr ⟨h1, rfl, H4.post 0 rfl⟩⟩
  · have h1 : n < 24 := by have := of_decide_eq_false h1; omega
    exact ⟨_, H2.ld 0 rfl (i := 3) rfl, .inl ⟨h1, rfl, (St.shut (L := rpL R at_ line 0 ((n + 1 : Nat) : Int)) H2).post 0 rfl⟩⟩
/-- .. behind an error -/
theorem rdeeper_dead [Inhabited G3o] (h0 : err ≠ 0) {t : Tok} (ht : R.L[at_]? = some t) (h : (rpA R at_ line err nest).at_ W) : Calls Tryz.prog 102 #[pt R.b] W fun e w' => e = .returned (.bool false) ∧ ∃ z, Post (rpA R at_ line err nest) W (rpA R at_ line err z) w' := by
  refine vc102 R.b 0 ?_
  have H : St W (rpA R at_ line err nest).own W (rpL R at_ line err nest ++ []) := St.open_ (St.begin h)
  refine ⟨_, H.ld 0 rfl (i := 4) rfl, ?_⟩
  rintro z rfl
  refine H.st 0 rfl (i := 4) (by simp) fun w2 H2 => ?_
  have H2 : St W (rpA R at_ line err nest).own w2 (rpL R at_ line err (IntKind.wrap .i64 (nest + 1)) ++ []) := H2
  refine ⟨_, H2.ld 0 rfl (i := 4) rfl, Sx.split_of (fun h1 => ?_) (fun h1 => ?_)⟩
  · have H3 := St.shut (L := rpL R at_ line err (IntKind.wrap .i64 (nest + 1))) H2
    refine H3.call 0 rfl (rfail_any 3 ht (H3.nth 0 rfl)) fun w3 H4 => ?_
    rw [if_neg h0, if_neg h0] at H4
    have H5 : St W (rpA R at_ line err nest).own w3 (rpL R at_ line err (IntKind.wrap .i64 (nest + 1)) ++ []) := St.open_ H4
    refine ⟨_, rfl, _, H5.ld 0 rfl (i := 3) rfl, ?_, _, H4.post 0 rfl⟩
    rw [beq_eq_false_iff_ne.2 h0]
  · refine ⟨_, H2.ld 0 rfl (i := 3) rfl, ?_, _, (St.shut (L := rpL R at_ line err (IntKind.wrap .i64 (nest + 1))) H2).post 0 rfl⟩
    rw [beq_eq_false_iff_ne.2 h0]
theorem rname_any [Inhabited G3o] (hL : R.L.length ≤ 8001) {t : Tok} (ht : R.L[at_]? = some t) (h : (rpA R at_ line err nest).at_ W) : Calls Tryz.prog 61 #[pt R.b] W fun e w' =>
    (err = 0 ∧ t.k = 1 ∧ ¬ 16 < t.s.size ∧ e = .returned (.string t.s) ∧ Post (rpA R at_ line err nest) W (rpA R (at_ + 1) line err nest) w') ∨
    (err = 0 ∧ t.k ≠ 1 ∧ e = .returned (.string ⟨#[]⟩) ∧ Post (rpA R at_ line err nest) W (rpA R at_ t.line 8 nest) w') ∨
    (err = 0 ∧ t.k = 1 ∧ 16 < t.s.size ∧ e = .returned (.string ⟨#[]⟩) ∧ Post (rpA R at_ line err nest) W (rpA R at_ t.line 3 nest) w') ∨
    (err ≠ 0 ∧ e = .returned (.string ⟨#[]⟩) ∧ Post (rpA R at_ line err nest) W (rpA R at_ line err nest) w') := by
  refine vc61 R.b 0 ?_
  have hat : at_ < R.L.length := (List.getElem?_eq_some_iff.1 ht).1
  refine (St.begin h).dr fun w2 H2 => ?_
  have H : St W (rpA R at_ line err nest).own w2 (rpL R at_ line err nest ++ []) := St.open_ H2
  refine ⟨_, _, _, H.ld 0 rfl (i := 0) rfl, _, H.ld 0 rfl (i := 1) rfl, ⟨by omega, by omega⟩, ?_⟩
  refine adr_some ⟨(tkR t).toArray, rfl, rtok_at (H.nth 1 rfl) ht, ?_⟩
  refine H2.alb fun k w3 H3 _ hb => ⟨hb, ?_⟩
  refine H3.sts0 1 (n := 3) (vs := (tkR t).toArray) rfl rfl rfl (by simpa using tkR_one t) fun w4 H4 => ?_
  have H4 : St W (rpA R at_ line err nest).own w4 [rpA R at_ line err nest, blk k (tkR t).toArray 96] := H4
  refine ⟨_, H4.ld 1 rfl (i := 0) rfl, ?_⟩
  have hk : ((kR t.k : Nat) : Int) = 110 ↔ t.k = 1 := by
    unfold kR
    split <;> simp_all
  have bad : ∀ (e : Int), Calls Tryz.prog 63 #[pt R.b, .int .i64 e] w4 fun en w' => en = .returned (.agg nodeZ.toArray) ∧ Post (rpA R at_ line err nest) W (rpA R at_ (if err = 0 then t.line else line) (if err = 0 then e else err) nest) w' := fun e => by
    refine (rfail_any e ht (H4.nth 0 rfl)).mono ?_
    rintro en w5 ⟨rfl, hp⟩
    exact ⟨rfl, (H4.upd 0 rfl hp).post 0 rfl⟩
  by_cases h0 : err = 0
  · rw [if_pos h0] at bad
    refine Sx.split_of (fun h1 => ?_) (fun h1 => ?_)
    · have h1 : t.k ≠ 1 := fun e => by rw [hk.2 e] at h1; cases h1
      refine (bad 8).mono ?_
      rintro en w5 ⟨rfl, hp⟩
      rw [if_pos h0] at hp
      exact ⟨_, rfl, .inr (.inl ⟨h0, h1, rfl, hp⟩)⟩
    · have h1 : t.k = 1 := hk.1 (by rw [bne_eq_false_iff_eq] at h1; exact h1)
      have H5 := St.open_ (L := rpL R at_ line err nest) H4
      refine ⟨_, H5.ld 0 rfl (i := 3) rfl, Sx.split_of (fun h2 => ?_) (fun h2 => ?_)⟩
      · rw [h0] at h2; cases h2
      refine ⟨_, H5.ld 2 rfl (i := 1) rfl, Sx.split_of (fun h3 => ?_) (fun h3 => ?_)⟩
      · have h3 : 16 < t.s.size := by have := of_decide_eq_true h3; omega
        refine (bad 3).mono ?_
        rintro en w5 ⟨rfl, hp⟩
        rw [if_pos h0] at hp
        exact ⟨_, rfl, .inr (.inr (.inl ⟨h0, h1, h3, rfl, hp⟩))⟩
      · have h3 : ¬ 16 < t.s.size := by have := of_decide_eq_false h3; omega
        refine ⟨_, H5.ld 0 rfl (i := 1) rfl, ?_⟩
        rintro z rfl
        rw [inc64 (by omega)]
        refine H5.st 0 rfl (i := 1) (by simp) fun w6 H6 => ?_
        refine ⟨_, H6.ld 2 rfl (i := 1) rfl, .inl ⟨h0, h1, h3, rfl, ?_⟩⟩
        exact (St.shut (L := rpL R (at_ + 1) line err nest) (L' := [_]) H6).post 0 rfl
  · have bad3 : ∀ e, Calls Tryz.prog 63 #[pt R.b, .int .i64 e] w4 fun en w' => en = .returned (.agg nodeZ.toArray) ∧ Post (rpA R at_ line err nest) W (rpA R at_ line err nest) w' := fun e => (bad e).mono (by
      rintro en w5 ⟨rfl, hp⟩
      rw [if_neg h0, if_neg h0] at hp
      exact ⟨rfl, hp⟩)
    refine Sx.split_of (fun h1 => (bad3 8).mono (by rintro en w5 ⟨rfl, hp⟩; exact ⟨_, rfl, .inr (.inr (.inr ⟨h0, rfl, hp⟩))⟩)) (fun h1 => ?_)
    have H5 := St.open_ (L := rpL R at_ line err nest) H4
    refine ⟨_, H5.ld 0 rfl (i := 3) rfl, Sx.split_of (fun h2 => (bad3 8).mono (by rintro en w5 ⟨rfl, hp⟩; exact ⟨_, rfl, .inr (.inr (.inr ⟨h0, rfl, hp⟩))⟩)) (fun h2 => ?_)⟩
    exact absurd (by rw [bne_eq_false_iff_eq] at h2; exact h2) h0
end Go.Proofs.YtojogkljneonmaaGreatDoor
/- The small language in plain Lean: the checker, which finds what each name is. No condition. -/
namespace Go.Lang
set_option linter.unusedVariables false

/-- a global: a variable (its word, its size), or a function (its block, its parameters) -/
inductive Gl where
  | var (word size : Int)
  | fn (k np : Nat)
/-- what a check gives: an answer, or a line and an error -/
inductive C (α : Type) where
  | ok (x : α)
  | err (line e : Int)
def C.bind {α β : Type} : C α → (α → C β) → C β
  | .ok x, k => k x
  | .err l e, _ => .err l e
abbrev Lk := ByteArray → Option Gl
abbrev Lcs := List (ByteArray × Nat)
def localOf (Ls : Lcs) (s : ByteArray) : Int := match Ls.find? fun p => decide (p.1 = s) with
  | some p => (p.2 : Int)
  | none => -1
/-- a name of a single word -/
def cword (lk : Lk) (Ls : Lcs) (t : Tok) (w : Int) : C (Int × Int) :=
  if 0 ≤ localOf Ls t.s then .ok (localOf Ls t.s, w) else match lk t.s with
    | some (.var wd z) => if 0 < z then .err t.line 9 else .ok (localOf Ls t.s, wd)
    | _ => .err t.line 9
/-- a name of an array -/
def carr (lk : Lk) (Ls : Lcs) (t : Tok) : C (Int × Int) := match lk t.s with
  | some (.var wd z) => if z = 0 then .err t.line 9 else if 0 ≤ localOf Ls t.s then .err t.line 9 else .ok (wd, z)
  | _ => .err t.line 9
def T.len : T → Nat
  | .cons _ xs => xs.len + 1
  | _ => 0
def T.sz : T → Nat
  | .num .. => 1
  | .name .. => 1
  | .index _ _ _ p => p.sz + 1
  | .call _ _ xs => xs.sz + 1
  | .un _ x => x.sz + 1
  | .bin _ x y => x.sz + y.sz + 1
  | .nil => 1
  | .cons x xs => x.sz + xs.sz + 1
  | .letS _ _ _ _ x => x.sz + 2
  | .setS _ _ _ x => x.sz + 2
  | .putS _ _ _ p x => p.sz + x.sz + 2
  | .ifS _ c a b => c.sz + a.sz + b.sz + 1
  | .whileS _ c b => c.sz + b.sz + 1
  | .retS _ x => x.sz + 1
  | .prtS _ x => x.sz + 1
  | .doS _ x => x.sz + 1
  | .block _ l => l.sz + 1
/-- the line of an expression -/
def lineOf : T → Int
  | .name t _ _ => t.line
  | .index t _ _ _ => t.line
  | .call t _ _ => t.line
  | .un t _ => t.line
  | .bin t _ _ => t.line
  | _ => 0
/-- how many temporaries an expression needs; of a row, from a place on -/
def need : T → Nat → Nat
  | .index _ _ _ p, _ => need p 0
  | .call _ _ xs, _ => need xs 0
  | .un _ x, _ => need x 0
  | .bin t x y, _ => max (need x 0) (if t.s = ofL [38, 38] ∨ t.s = ofL [124, 124] then need y 0 else need y 0 + 1)
  | .cons x xs, k => max (need x 0 + k) (need xs (k + 1))
  | _, _ => 1
theorem need_le : ∀ (x : T) (k : Nat), need x k ≤ x.sz + k
  | .num .., k => by simp [need, T.sz]
  | .name .., k => by simp [need, T.sz]
  | .nil, k => by simp [need, T.sz]
  | .index _ _ _ p, k => by have := need_le p 0; simp only [need, T.sz]; omega
  | .call _ _ p, k => by have := need_le p 0; simp only [need, T.sz]; omega
  | .un _ p, k => by have := need_le p 0; simp only [need, T.sz]; omega
  | .bin t x y, k => by
    have h1 := need_le x 0
    have h2 := need_le y 0
    simp only [need, T.sz]
    split <;> omega
  | .cons x xs, k => by
    have h1 := need_le x 0
    have h2 := need_le xs (k + 1)
    simp only [need, T.sz]; omega
  | .letS .., k => by simp only [need, T.sz]; omega
  | .setS .., k => by simp only [need, T.sz]; omega
  | .putS .., k => by simp only [need, T.sz]; omega
  | .ifS .., k => by simp only [need, T.sz]; omega
  | .whileS .., k => by simp only [need, T.sz]; omega
  | .retS .., k => by simp only [need, T.sz]; omega
  | .prtS .., k => by simp only [need, T.sz]; omega
  | .doS .., k => by simp only [need, T.sz]; omega
  | .block .., k => by simp only [need, T.sz]; omega
/-- an expression's names -/
def cexp (lk : Lk) (Ls : Lcs) : T → C T
  | .name t s w => (cword lk Ls t w).bind fun p => .ok (.name t p.1 p.2)
  | .index t w z p => (carr lk Ls t).bind fun a => (cexp lk Ls p).bind fun p' => .ok (.index t a.1 a.2 p')
  | .call t f xs => match lk t.s with
    | some (.fn k np) => if 0 ≤ localOf Ls t.s then .err t.line 9 else if np ≠ xs.len then .err t.line 9 else (cexp lk Ls xs).bind fun xs' => .ok (.call t (some ⟨k, 0, none⟩) xs')
    | _ => .err t.line 9
  | .un t x => (cexp lk Ls x).bind fun x' => .ok (.un t x')
  | .bin t x y => (cexp lk Ls x).bind fun x' => (cexp lk Ls y).bind fun y' => .ok (.bin t x' y')
  | .cons x xs => (cexp lk Ls x).bind fun x' => (cexp lk Ls xs).bind fun xs' => .ok (.cons x' xs')
  | x => .ok x
/-- a whole expression, beside so many temporaries -/
def cwhole (lk : Lk) (Ls : Lcs) (x : T) (beside : Nat) : C T := (cexp lk Ls x).bind fun x' => if 8 < need x' 0 + beside then .err (lineOf x') 4 else .ok x'
/-- a new local; its slot -/
def cdecl (lk : Lk) (Ls : Lcs) (n : Nat) (line : Int) (s : ByteArray) : C (Lcs × Nat) :=
  if (lk s).isSome then .err line 9 else if 0 ≤ localOf Ls s then .err line 9 else if n = 24 then .err line 4 else .ok (Ls ++ [(s, n)], n + 1)
/-- a statement: what is visible behind it, how many slots there are -/
def cst (lk : Lk) : T → Lcs → Nat → C (T × Lcs × Nat)
  | .letS t nm s w x, Ls, n => (cwhole lk Ls x 0).bind fun x' => (cdecl lk Ls n t.line nm.s).bind fun p => .ok (.letS t nm (n : Int) w x', p.1, p.2)
  | .setS t s w x, Ls, n => (cword lk Ls t w).bind fun p => (cwhole lk Ls x 0).bind fun x' => .ok (.setS t p.1 p.2 x', Ls, n)
  | .putS t w z p x, Ls, n => (carr lk Ls t).bind fun a => (cwhole lk Ls p 0).bind fun p' => (cwhole lk Ls x 1).bind fun x' => .ok (.putS t a.1 a.2 p' x', Ls, n)
  | .ifS line c a b, Ls, n => (cwhole lk Ls c 0).bind fun c' => (cst lk a Ls n).bind fun a' => (cst lk b a'.2.1 a'.2.2).bind fun b' => .ok (.ifS line c' a'.1 b'.1, b'.2.1, b'.2.2)
  | .whileS line c b, Ls, n => (cwhole lk Ls c 0).bind fun c' => (cst lk b Ls n).bind fun b' => .ok (.whileS line c' b'.1, b'.2.1, b'.2.2)
  | .retS line x, Ls, n => (cwhole lk Ls x 0).bind fun x' => .ok (.retS line x', Ls, n)
  | .prtS line x, Ls, n => (cwhole lk Ls x 0).bind fun x' => .ok (.prtS line x', Ls, n)
  | .doS line x, Ls, n => (cwhole lk Ls x 0).bind fun x' => .ok (.doS line x', Ls, n)
  | .block line l, Ls, n => (cst lk l Ls n).bind fun l' => .ok (.block line l'.1, Ls, l'.2.2)
  | .cons x xs, Ls, n => (cst lk x Ls n).bind fun x' => (cst lk xs x'.2.1 x'.2.2).bind fun xs' => .ok (.cons x'.1 xs'.1, xs'.2.1, xs'.2.2)
  | x, Ls, n => .ok (x, Ls, n)
/-! ### sizes stay -/
theorem C.bind_ok {α β : Type} {r : C α} {k : α → C β} {y : β} (h : r.bind k = .ok y) : ∃ x, r = .ok x ∧ k x = .ok y := by
  cases r with
  | ok x => exact ⟨x, rfl, h⟩
  | err l e => cases h
theorem cexp_len (lk : Lk) (Ls : Lcs) : ∀ (x x' : T), cexp lk Ls x = .ok x' → x'.len = x.len ∧ x'.sz = x.sz
  | .num .., x', h => by cases h; exact ⟨rfl, rfl⟩
  | .nil, x', h => by cases h; exact ⟨rfl, rfl⟩
  | .name t s w, x', h => by obtain ⟨p, -, h⟩ := C.bind_ok h; cases h; exact ⟨rfl, rfl⟩
  | .index t w z p, x', h => by
    obtain ⟨a, -, h⟩ := C.bind_ok h
    obtain ⟨p', h1, h⟩ := C.bind_ok h
    cases h
    exact ⟨rfl, by simp only [T.sz, (cexp_len lk Ls p p' h1).2]⟩
  | .call t f xs, x', h => by
    rw [cexp] at h
    split at h
    · split at h
      · cases h
      · split at h
        · cases h
        · obtain ⟨p', h1, h⟩ := C.bind_ok h
          cases h
          exact ⟨rfl, by simp only [T.sz, (cexp_len lk Ls xs p' h1).2]⟩
    · cases h
  | .un t x, x', h => by
    obtain ⟨p', h1, h⟩ := C.bind_ok h
    cases h
    exact ⟨rfl, by simp only [T.sz, (cexp_len lk Ls x p' h1).2]⟩
  | .bin t x y, x', h => by
    obtain ⟨p', h1, h⟩ := C.bind_ok h
    obtain ⟨q', h2, h⟩ := C.bind_ok h
    cases h
    exact ⟨rfl, by simp only [T.sz, (cexp_len lk Ls x p' h1).2, (cexp_len lk Ls y q' h2).2]⟩
  | .cons x y, x', h => by
    obtain ⟨p', h1, h⟩ := C.bind_ok h
    obtain ⟨q', h2, h⟩ := C.bind_ok h
    cases h
    exact ⟨by simp only [T.len, (cexp_len lk Ls y q' h2).1], by simp only [T.sz, (cexp_len lk Ls x p' h1).2, (cexp_len lk Ls y q' h2).2]⟩
  | .letS .., x', h => by cases h; exact ⟨rfl, rfl⟩
  | .setS .., x', h => by cases h; exact ⟨rfl, rfl⟩
  | .putS .., x', h => by cases h; exact ⟨rfl, rfl⟩
  | .ifS .., x', h => by cases h; exact ⟨rfl, rfl⟩
  | .whileS .., x', h => by cases h; exact ⟨rfl, rfl⟩
  | .retS .., x', h => by cases h; exact ⟨rfl, rfl⟩
  | .prtS .., x', h => by cases h; exact ⟨rfl, rfl⟩
  | .doS .., x', h => by cases h; exact ⟨rfl, rfl⟩
  | .block .., x', h => by cases h; exact ⟨rfl, rfl⟩
end Go.Lang
/- The reference's nodes in plain Lean; its levels of operations beside the plain parser's. No condition. -/
namespace Go.Lang
set_option linter.unusedVariables false
/-- a row of nodes: kind, name, line, value, parts, names -/
inductive Fo where
  | nil
  | cons (kind name : ByteArray) (line val : Int) (kids : Fo) (names : List ByteArray) (rest : Fo)
def Fo.len : Fo → Nat
  | .nil => 0
  | .cons _ _ _ _ _ _ r => r.len + 1
def cNumK : ByteArray := ofL [110, 117, 109]
def cNameK : ByteArray := ofL [110, 97, 109, 101]
def cIndexK : ByteArray := ofL [105, 110, 100, 101, 120]
def cCallK : ByteArray := ofL [99, 97, 108, 108]
def cUnK : ByteArray := ofL [117, 110]
def cBinK : ByteArray := ofL [98, 105, 110]
def cSetK : ByteArray := ofL [115, 101, 116]
def cPutK : ByteArray := ofL [112, 117, 116]
def cDoK : ByteArray := ofL [100, 111]
def cBlockK : ByteArray := ofL [98, 108, 111, 99, 107]
/-- a tree's nodes, ahead of a row -/
def toF : T → Fo → Fo
  | .num v line, r => .cons cNumK (ofL []) line v .nil [] r
  | .name t _ _, r => .cons cNameK t.s t.line 0 .nil [] r
  | .index t _ _ p, r => .cons cIndexK t.s t.line 0 (toF p .nil) [] r
  | .call t _ xs, r => .cons cCallK t.s t.line 0 (toF xs .nil) [] r
  | .un t x, r => .cons cUnK t.s t.line 0 (toF x .nil) [] r
  | .bin t x y, r => .cons cBinK t.s t.line 0 (toF x (toF y .nil)) [] r
  | .nil, r => r
  | .cons x xs, r => toF x (toF xs r)
  | .letS t nm _ _ x, r => .cons cLet nm.s t.line 0 (toF x .nil) [] r
  | .setS t _ _ x, r => .cons cSetK t.s t.line 0 (toF x .nil) [] r
  | .putS t _ _ p x, r => .cons cPutK t.s t.line 0 (toF p (toF x .nil)) [] r
  | .ifS line c a b, r => .cons cIf (ofL []) line 0 (toF c (toF a (toF b .nil))) [] r
  | .whileS line c b, r => .cons cWhile (ofL []) line 0 (toF c (toF b .nil)) [] r
  | .retS line x, r => .cons cReturn (ofL []) line 0 (toF x .nil) [] r
  | .prtS line x, r => .cons cPrint (ofL []) line 0 (toF x .nil) [] r
  | .doS line x, r => .cons cDoK (ofL []) line 0 (toF x .nil) [] r
  | .block line l, r => .cons cBlockK (ofL []) line 0 (toF l .nil) [] r
/-- declarations -/
def toD : List D → Fo → Fo
  | [], r => r
  | .var t nm _ z :: ds, r => .cons cVar nm t.line z .nil [] (toD ds r)
  | .fn t nm ps _ _ b :: ds, r => .cons cFunc nm t.line 0 (toF b .nil) ps (toD ds r)
/-- rows, one behind the other -/
def Fo.app : Fo → Fo → Fo
  | .nil, r => r
  | .cons k n l v ks ns q, r => .cons k n l v ks ns (q.app r)
theorem Fo.app_len : ∀ (a b : Fo), (a.app b).len = a.len + b.len
  | .nil, b => by simp [Fo.app, Fo.len]
  | .cons .., b => by simp only [Fo.app, Fo.len, Fo.app_len]; omega
theorem Fo.app_assoc : ∀ (a b c : Fo), (a.app b).app c = a.app (b.app c)
  | .nil, b, c => rfl
  | .cons .., b, c => by simp only [Fo.app, Fo.app_assoc]
theorem toF_app : ∀ (x : T) (a b : Fo), toF x (a.app b) = (toF x a).app b
  | .num .., a, b => rfl
  | .name .., a, b => rfl
  | .index .., a, b => rfl
  | .call .., a, b => rfl
  | .un .., a, b => rfl
  | .bin .., a, b => rfl
  | .nil, a, b => rfl
  | .cons x xs, a, b => by simp only [toF, toF_app xs a b, toF_app x]
  | .letS .., a, b => rfl
  | .setS .., a, b => rfl
  | .putS .., a, b => rfl
  | .ifS .., a, b => rfl
  | .whileS .., a, b => rfl
  | .retS .., a, b => rfl
  | .prtS .., a, b => rfl
  | .doS .., a, b => rfl
  | .block .., a, b => rfl
theorem toF_nil_app (x : T) (r : Fo) : toF x r = (toF x .nil).app r := by rw [← toF_app]; rfl
/-! ### levels -/
/-- what is read at a level is followed by no operation of that strength -/
def weak (j : Nat) (l : List Tok) : Prop := ¬ ((now l).k = 3 ∧ j ≤ strength (now l).s)
theorem loop_weak : ∀ (f : Nat) {j : Nat} {u x : T} {n : Nat} {l l' : List Tok}, run f (.loop j u) n l = .ok x l' → weak j l'
  | 0, j, u, x, n, l, l', h => by cases h
  | f + 1, j, u, x, n, l, l', h => by
    unfold run at h
    split at h
    · obtain ⟨y, l1, -, h2⟩ := bind_ok h
      exact loop_weak f h2
    · rename_i hw
      cases h
      exact hw
theorem bin_weak {f j : Nat} {x : T} {n : Nat} {l l' : List Tok} (h : run f (.bin j) n l = .ok x l') : weak j l' := by
  cases f with
  | zero => cases h
  | succ f =>
    unfold run at h
    obtain ⟨y, l1, -, h2⟩ := bind_ok h
    exact loop_weak f h2
/-- a level is the level above it, and its own operations behind -/
theorem loop_split : ∀ (f : Nat) {j : Nat} {u : T} {n : Nat} {l : List Tok} {r : R T}, run f (.loop j u) n l = r → r ≠ .out →
    (∃ line en, run f (.loop (j + 1) u) n l = .err line en ∧ r = .err line en) ∨ ∃ x l1 f1, run f (.loop (j + 1) u) n l = .ok x l1 ∧ f1 ≤ f ∧ run f1 (.loop j x) n l1 = r
  | 0, j, u, n, l, r, h, hr => absurd h.symm hr
  | f + 1, j, u, n, l, r, h, hr => by
    by_cases hs : (now l).k = 3 ∧ j + 1 ≤ strength (now l).s
    · have h1 : run (f + 1) (.loop j u) n l = (run f (.bin (strength (now l).s + 1)) n l.tail).bind fun y l' => run f (.loop j (.bin (now l) u y)) n l' := by
        rw [run, if_pos ⟨hs.1, by omega⟩]
      have h2 : run (f + 1) (.loop (j + 1) u) n l = (run f (.bin (strength (now l).s + 1)) n l.tail).bind fun y l' => run f (.loop (j + 1) (.bin (now l) u y)) n l' := by
        rw [run, if_pos ⟨hs.1, by omega⟩]
      rw [h1] at h
      rw [h2]
      cases hb : run f (.bin (strength (now l).s + 1)) n l.tail with
      | out => rw [hb] at h; exact absurd h.symm hr
      | err line en => rw [hb] at h; exact .inl ⟨line, en, rfl, h.symm⟩
      | ok y l' =>
        rw [hb] at h
        have h : run f (.loop j (.bin (now l) u y)) n l' = r := h
        rcases loop_split f h hr with ⟨line, en, a, b⟩ | ⟨x, l1, f1, a, b, c⟩
        · exact .inl ⟨line, en, a, b⟩
        · exact .inr ⟨x, l1, f1, a, by omega, c⟩
    · refine .inr ⟨u, l, f + 1, ?_, Nat.le_refl _, h⟩
      rw [run, if_neg hs]
theorem bin_split {f j : Nat} {n : Nat} {l : List Tok} {r : R T} (h : run f (.bin j) n l = r) (hr : r ≠ .out) :
    (∃ line en, run f (.bin (j + 1)) n l = .err line en ∧ r = .err line en) ∨ ∃ x l1 f1, run f (.bin (j + 1)) n l = .ok x l1 ∧ f1 < f ∧ run f1 (.loop j x) n l1 = r := by
  cases f with
  | zero => exact absurd h.symm hr
  | succ f =>
    have h1 : run (f + 1) (.bin j) n l = (run f .un n l).bind fun x l => run f (.loop j x) n l := by rw [run]
    have h2 : run (f + 1) (.bin (j + 1)) n l = (run f .un n l).bind fun x l => run f (.loop (j + 1) x) n l := by rw [run]
    rw [h1] at h
    rw [h2]
    cases hb : run f .un n l with
    | out => rw [hb] at h; exact absurd h.symm hr
    | err line en => rw [hb] at h; exact .inl ⟨line, en, rfl, h.symm⟩
    | ok y l' =>
      rw [hb] at h
      have h : run f (.loop j y) n l' = r := h
      rcases loop_split f h hr with ⟨line, en, a, b⟩ | ⟨x, l1, f1, a, b, c⟩
      · exact .inl ⟨line, en, a, b⟩
      · exact .inr ⟨x, l1, f1, a, by omega, c⟩
/-- behind the highest level there are no operations -/
theorem bin_top {f : Nat} {n : Nat} {l : List Tok} (hr : run f (.bin 11) n l ≠ .out) : ∃ f1, f1 < f ∧ run f (.bin 11) n l = run f1 .un n l := by
  cases f with
  | zero => exact absurd rfl hr
  | succ f =>
    refine ⟨f, by omega, ?_⟩
    have h2 : run (f + 1) (.bin 11) n l = (run f .un n l).bind fun x l => run f (.loop 11 x) n l := by rw [run]
    rw [h2] at hr ⊢
    cases hb : run f .un n l with
    | out => rfl
    | err line en => rfl
    | ok y l' =>
      rw [hb] at hr
      show run f (.loop 11 y) n l' = _
      have hr : run f (.loop 11 y) n l' ≠ .out := hr
      cases f with
      | zero => exact absurd rfl hr
      | succ f =>
        rw [run, if_neg]
        rintro ⟨-, h⟩
        have : strength (now l').s ≤ 10 := by
          unfold strength
          repeat' split
          all_goals decide
        omega
end Go.Lang
