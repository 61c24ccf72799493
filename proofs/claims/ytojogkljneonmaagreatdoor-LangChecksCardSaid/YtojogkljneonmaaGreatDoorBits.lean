import Derived.ProofKit
import Derived.Test.YtojogkljneonmaaGreatDoorSxB
import Derived.IntWalk
import Derived.Laws.OwnMore
/- The small language in plain Lean: tokens, trees, the parser. No condition. -/
namespace Go.Lang
set_option linter.unusedVariables false

/-- a token: 0 the end, 1 a name, 2 a number, 3 a mark, 4 none -/
structure Tok where
  k : Nat
  s : ByteArray
  line : Int
/-- what a global variable's block holds, all the time -/
structure G3o where
  o : Obj
def ofL (l : List UInt8) : ByteArray := ⟨l.toArray⟩
def isL (c : UInt8) : Bool := c == 95 || (decide (97 ≤ c) && decide (c ≤ 122))
def isD (c : UInt8) : Bool := decide (48 ≤ c) && decide (c ≤ 57)
def words : List (List UInt8) := [[118, 97, 114], [102, 117, 110, 99], [108, 101, 116], [105, 102], [101, 108, 115, 101], [119, 104, 105, 108, 101], [114, 101, 116, 117, 114, 110], [112, 114, 105, 110, 116]]
def twos : List (List UInt8) := [[124, 124], [38, 38], [61, 61], [33, 61], [60, 61], [62, 61], [60, 60], [62, 62]]
def ones : List UInt8 := [124, 94, 38, 60, 62, 43, 45, 42, 47, 37, 33, 126, 40, 41, 91, 93, 123, 125, 44, 59, 61]
def wordLen (s : List UInt8) : Nat := (s.takeWhile fun c => isL c || isD c).length
/-- the token with which a text begins -/
def first (s : List UInt8) : Nat × Nat :=
  match wordLen s with
  | 0 => if s.take 2 ∈ twos then (3, 2) else if s.headD 0 ∈ ones then (3, 1) else (4, 1)
  | n + 1 => if isL (s.headD 0) then (if s.take (n + 1) ∈ words then (3, n + 1) else (1, n + 1)) else if (s.take (n + 1)).all isD then (2, n + 1) else (4, n + 1)
/-- the tokens of a text, from a line on; at most so many steps -/
def lexF : Nat → List UInt8 → Int → List Tok
  | 0, _, line => [⟨0, ofL [], line⟩]
  | f + 1, s, line => match s with
    | [] => [⟨0, ofL [], line⟩]
    | c :: r => if c = 10 then lexF f r (line + 1) else if c = 32 ∨ c = 9 then lexF f r line
      else if s.take 2 = [47, 47] then lexF f (s.dropWhile fun c => c ≠ 10) line
      else ⟨(first s).1, ofL (s.take (first s).2), line⟩ :: lexF f (s.drop (first s).2) line

/-! ### trees -/
inductive T where
  | num (v line : Int)
  | name (at_ : Tok) (slot word : Int)
  | index (at_ : Tok) (word size : Int) (p : T)
  | call (at_ : Tok) (f : Option Addr) (args : T)
  | un (at_ : Tok) (x : T)
  | bin (at_ : Tok) (x y : T)
  | nil
  | cons (x xs : T)
  | letS (at_ nm : Tok) (slot word : Int) (x : T)
  | setS (at_ : Tok) (slot word : Int) (x : T)
  | putS (at_ : Tok) (word size : Int) (p x : T)
  | ifS (line : Int) (c a b : T)
  | whileS (line : Int) (c b : T)
  | retS (line : Int) (x : T)
  | prtS (line : Int) (x : T)
  | doS (line : Int) (x : T)
  | block (line : Int) (l : T)
/-- a declaration -/
inductive D where
  | var (at_ : Tok) (name : ByteArray) (word size : Int)
  | fn (at_ : Tok) (name : ByteArray) (params : List ByteArray) (slots no : Int) (body : T)

/-! ### the parser -/
inductive R (α : Type) where
  | ok (x : α) (l : List Tok)
  | err (line e : Int)
  | out
def R.bind {α β : Type} : R α → (α → List Tok → R β) → R β
  | .ok x l, k => k x l
  | .err a e, _ => .err a e
  | .out, _ => .out
def now (l : List Tok) : Tok := l.headD ⟨0, ofL [], 0⟩
def is (s : ByteArray) (l : List Tok) : Bool := decide ((now l).k = 3) && decide ((now l).s = s)
def want {β : Type} (s : ByteArray) (l : List Tok) (k : List Tok → R β) : R β := if is s l then k l.tail else .err (now l).line 8
def name {β : Type} (l : List Tok) (k : Tok → List Tok → R β) : R β := if (now l).k ≠ 1 then .err (now l).line 8 else if 16 < (now l).s.size then .err (now l).line 3 else k (now l) l.tail
def valOf (s : ByteArray) : Nat := s.data.toList.foldl (fun n c => 10 * n + (c.toNat - 48)) 0
def number {β : Type} (l : List Tok) (k : Int → List Tok → R β) : R β := if (now l).k ≠ 2 then .err (now l).line 8 else if 4294967296 ≤ valOf (now l).s then .err (now l).line 3 else k (valOf (now l).s : Nat) l.tail
def cLP : ByteArray := ofL [40]
def cRP : ByteArray := ofL [41]
def cLB : ByteArray := ofL [91]
def cRB : ByteArray := ofL [93]
def cLC : ByteArray := ofL [123]
def cRC : ByteArray := ofL [125]
def cComma : ByteArray := ofL [44]
def cSemi : ByteArray := ofL [59]
def cEq : ByteArray := ofL [61]
def cMinus : ByteArray := ofL [45]
def cNot : ByteArray := ofL [33]
def cTilde : ByteArray := ofL [126]
def cVar : ByteArray := ofL [118, 97, 114]
def cFunc : ByteArray := ofL [102, 117, 110, 99]
def cLet : ByteArray := ofL [108, 101, 116]
def cIf : ByteArray := ofL [105, 102]
def cElse : ByteArray := ofL [101, 108, 115, 101]
def cWhile : ByteArray := ofL [119, 104, 105, 108, 101]
def cReturn : ByteArray := ofL [114, 101, 116, 117, 114, 110]
def cPrint : ByteArray := ofL [112, 114, 105, 110, 116]
/-- how strong an operation is; 0: it is none -/
def strength (s : ByteArray) : Nat :=
  if s = ofL [124, 124] then 1 else if s = ofL [38, 38] then 2 else if s = ofL [124] then 3 else if s = ofL [94] then 4 else if s = ofL [38] then 5
  else if s = ofL [61, 61] ∨ s = ofL [33, 61] then 6 else if s = ofL [60] ∨ s = ofL [60, 61] ∨ s = ofL [62] ∨ s = ofL [62, 61] then 7
  else if s = ofL [60, 60] ∨ s = ofL [62, 62] then 8 else if s = ofL [43] ∨ s = ofL [45] then 9 else if s = ofL [42] ∨ s = ofL [47] ∨ s = ofL [37] then 10 else 0
inductive Req where
  | expr | bin (least : Nat) | loop (least : Nat) (x : T) | un | prim | args | argl | blk | stmts | stmt
def isOne (l : List Tok) : Bool := is cMinus l || is cNot l || is cTilde l
def run : Nat → Req → Nat → List Tok → R T
  | 0, _, _, _ => .out
  | f + 1, .expr, n, l => if 24 ≤ n then .err (now l).line 3 else run f (.bin 1) (n + 1) l
  | f + 1, .bin k, n, l => (run f .un n l).bind fun x l => run f (.loop k x) n l
  | f + 1, .loop k x, n, l => if (now l).k = 3 ∧ k ≤ strength (now l).s then (run f (.bin (strength (now l).s + 1)) n l.tail).bind fun y l' => run f (.loop k (.bin (now l) x y)) n l' else .ok x l
  | f + 1, .un, n, l => if isOne l then (if 24 ≤ n then .err (now l).line 3 else (run f .un (n + 1) l.tail).bind fun x l' => .ok (.un (now l) x) l') else run f .prim n l
  | f + 1, .prim, n, l =>
    if (now l).k = 2 then number l fun v l' => .ok (.num v (now l).line) l'
    else if is cLP l then (run f .expr n l.tail).bind fun x l => want cRP l fun l => .ok x l
    else name l fun t l =>
      if is cLP l then (run f .args n l.tail).bind fun xs l => .ok (.call t none xs) l
      else if is cLB l then (run f .expr n l.tail).bind fun x l => want cRB l fun l => .ok (.index t 0 0 x) l
      else .ok (.name t 0 0) l
  | f + 1, .args, n, l => if is cRP l then .ok .nil l.tail else run f .argl n l
  | f + 1, .argl, n, l => (run f .expr n l).bind fun x l => if is cRP l then .ok (.cons x .nil) l.tail else want cComma l fun l => (run f .argl n l).bind fun xs l => .ok (.cons x xs) l
  | f + 1, .blk, n, l => if 24 ≤ n then .err (now l).line 3 else want cLC l fun l' => (run f .stmts (n + 1) l').bind fun xs l'' => .ok (.block (now l).line xs) l''
  | f + 1, .stmts, n, l => if is cRC l then .ok .nil l.tail else (run f .stmt n l).bind fun x l => (run f .stmts n l).bind fun xs l => .ok (.cons x xs) l
  | f + 1, .stmt, n, l =>
    if (now l).k = 1 then name l fun t l =>
      if is cLP l then (run f .args n l.tail).bind fun xs l => want cSemi l fun l => .ok (.doS t.line (.call t none xs)) l
      else if is cLB l then (run f .expr n l.tail).bind fun p l => want cRB l fun l => want cEq l fun l => (run f .expr n l).bind fun x l => want cSemi l fun l => .ok (.putS t 0 0 p x) l
      else want cEq l fun l => (run f .expr n l).bind fun x l => want cSemi l fun l => .ok (.setS t 0 0 x) l
    else if is cLet l then name l.tail fun nm l' => want cEq l' fun l' => (run f .expr n l').bind fun x l' => want cSemi l' fun l' => .ok (.letS (now l) nm 0 0 x) l'
    else if is cReturn l then (run f .expr n l.tail).bind fun x l' => want cSemi l' fun l' => .ok (.retS (now l).line x) l'
    else if is cPrint l then (run f .expr n l.tail).bind fun x l' => want cSemi l' fun l' => .ok (.prtS (now l).line x) l'
    else if is cWhile l then (run f .expr n l.tail).bind fun c l' => (run f .blk n l').bind fun b l' => .ok (.whileS (now l).line c b) l'
    else if is cIf l then (run f .expr n l.tail).bind fun c l' => (run f .blk n l').bind fun b l' =>
      if is cElse l' then (run f .blk n l'.tail).bind fun e l' => .ok (.ifS (now l).line c b e) l' else .ok (.ifS (now l).line c b .nil) l'
    else .err (now l).line 8
/-- parameters, behind the bracket; so many more may come -/
def params : Nat → List Tok → R (List ByteArray)
  | k, l => if is cRP l then .ok [] l.tail else paramL k l
where paramL : Nat → List Tok → R (List ByteArray)
  | 0, l => name l fun t _ => .err t.line 3
  | k + 1, l => name l fun t l => if is cRP l then .ok [t.s] l.tail else want cComma l fun l => (paramL k l).bind fun r l => .ok (t.s :: r) l
def decl (f : Nat) (l : List Tok) : R D :=
  if is cVar l then name l.tail fun nm l' =>
    if is cLB l' then number l'.tail fun v l'' => if v < 1 ∨ 256 < v then .err (now l'.tail).line 3 else want cRB l'' fun l'' => want cSemi l'' fun l'' => .ok (.var (now l) nm.s 0 v) l''
    else want cSemi l' fun l' => .ok (.var (now l) nm.s 0 0) l'
  else want cFunc l fun l' => name l' fun nm l' => want cLP l' fun l' => (params 6 l').bind fun ps l' => (run f .blk 0 l').bind fun b l' => .ok (.fn (now l) nm.s ps 0 0 b) l'
def decls (f : Nat) : Nat → List Tok → R (List D)
  | 0, _ => .out
  | g + 1, l => if (now l).k = 0 then .ok [] l else (decl f l).bind fun d l => (decls f g l).bind fun ds l => .ok (d :: ds) l
end Go.Lang
/- Small laws over memory for what 'Sx' asks: blocks, rows of cells, writes of a row. No condition. -/
namespace Go.Sx
open Go.RowKit Go.XHeap
set_option linter.unusedVariables false

variable {w w' : World} {b o : Nat} {cs : Array Value} {t : TypeId}
theorem cellsAt_of_blk (h : Blk w b cs t) (vs : Array Value) (hv : ∀ i v, vs[i]? = some v → cs[o + i]? = some v) : cellsAt w ⟨b, o, none⟩ vs := by
  intro i v hi
  rw [add_none]
  exact h.cell' (hv i v hi)
def splice (cs : Array Value) (o : Nat) (vs : List Value) : Array Value := (cs.toList.take o ++ vs ++ cs.toList.drop (o + vs.length)).toArray
theorem splice_nil (cs : Array Value) (o : Nat) : splice cs o [] = cs := by simp [splice]
theorem splice_cons (cs : Array Value) (o : Nat) (v : Value) (vs : List Value) (h : o < cs.size) : splice (cs.setIfInBounds o v) (o + 1) vs = splice cs o (v :: vs) := by
  unfold splice
  congr 1
  rw [Array.toList_setIfInBounds]
  have h1 : (cs.toList.set o v).take (o + 1) = cs.toList.take o ++ [v] := by
    rw [List.take_set, List.take_succ_eq_append_getElem (by simpa using h), List.set_append_right _ _ (by simp; omega)]
    simp [Nat.min_eq_left (Nat.le_of_lt (show o < cs.size from h))]
  have h2 : (cs.toList.set o v).drop (o + 1 + vs.length) = cs.toList.drop (o + (v :: vs).length) := by
    rw [List.drop_set_of_lt (by omega)]
    simp [Nat.add_assoc, Nat.add_comm 1]
  rw [h1, h2]
  simp
theorem blk_setCells : ∀ (vs : List Value) (w : World) (cs : Array Value) (o : Nat), Blk w b cs t → o + vs.length ≤ cs.size → Blk (w.setCells b o vs) b (splice cs o vs) t
  | [], w, cs, o, h, _ => by rw [splice_nil]; exact h
  | v :: vs, w, cs, o, h, hl => by
    simp only [List.length_cons] at hl
    rw [← splice_cons cs o v vs (by omega)]
    exact blk_setCells vs _ _ (o + 1) (h.set o v) (by simp; omega)
theorem touch_setCells : ∀ (vs : List Value) (w : World) (o : Nat), XTouch (fun k => k = b) w (w.setCells b o vs)
  | [], w, o => XTouch.refl _ _
  | v :: vs, w, o => ((XTouch.refl (fun k => k = b) w).setCell (p := ⟨b, o, none⟩) (.inl rfl) v).trans (touch_setCells vs _ (o + 1)) (fun _ _ h => h)
theorem splice_all (cs : Array Value) (vs : List Value) (h : vs.length = cs.size) : splice cs 0 vs = vs.toArray := by
  unfold splice
  rw [List.drop_of_length_le (by simp; omega)]
  simp
theorem cellsAt_self (h : Blk w b cs t) : cellsAt w ⟨b, 0, none⟩ cs := cellsAt_of_blk h cs (fun i v hi => by simpa using hi)
theorem w64 {e : Int} (h0 : -9223372036854775808 ≤ e) (h1 : e ≤ 9223372036854775807) : IntKind.wrap .i64 e = e := by rw [IntKind.wrap_i64]; omega
theorem w32 {e : Int} (h0 : 0 ≤ e) (h1 : e < 4294967296) : IntKind.wrap .u32 e = e := by
  unfold IntKind.wrap
  simp [IntKind.bits, IntKind.signed]
  omega
theorem w8 {e : Int} : IntKind.wrap .u8 e = e % 256 := by
  unfold IntKind.wrap
  simp [IntKind.bits, IntKind.signed]
end Go.Sx
/- A small logic of memory: what a function has, piece by piece, what it may write, what is kept. No condition. -/
namespace Go.Sep
open Go.RowKit Go.XHeap Go.Sx
set_option linter.unusedVariables false

/-- a piece of memory: its blocks, and what is said of them -/
structure Asn where
  own : Nat → Prop
  at_ : World → Prop
  keep : ∀ {T : Nat → Prop} {w w' : World}, at_ w → XTouch T w w' → (∀ k, own k → ¬ T k) → at_ w'
  lt : ∀ {w : World}, at_ w → ∀ k, own k → k < w.heap.size
def emp : Asn := ⟨fun _ => False, fun _ => True, fun _ _ _ => trivial, fun _ _ h => h.elim⟩
def blk (b : Nat) (cs : Array Value) (t : TypeId) : Asn := ⟨fun k => k = b, fun w => Blk w b cs t, fun h ht hn => Blk.keep h ht (hn b rfl), fun h k e => by subst e; exact Blk.lt h⟩
def sl (e : TypeId) (size : Nat) (v : Value) (n : Nat) (xs : List Value) : Asn := ⟨fun k => v.ownBlock = some k, fun w => Sl w e size v n xs, fun h ht hn => Sl.keep h ht hn, fun h => Sl.lt h⟩
/-- a map by numbers -/
def mp (κ : IntKind) (b : Nat) (f : Int → Option Value) : Asn := ⟨fun k => k = b, fun w => Mp w κ b f, fun h ht hn => Mp.keep h ht (hn b rfl), fun h k e => by subst e; exact Mp.lt h⟩
def owns : List Asn → Nat → Prop
  | [], _ => False
  | A :: L, k => A.own k ∨ owns L k
def here : List Asn → World → Prop
  | [], _ => True
  | A :: L, w => A.at_ w ∧ (∀ k, A.own k → ¬ owns L k) ∧ here L w
variable {A A' B : Asn} {L L' : List Asn} {w w0 w' : World} {M : Nat → Prop} {b : Nat} {cs : Array Value} {t : TypeId}
theorem here.keep {T : Nat → Prop} : ∀ {L : List Asn}, here L w → XTouch T w w' → (∀ k, owns L k → ¬ T k) → here L w'
  | [], _, _, _ => trivial
  | A :: L, h, ht, hn => ⟨A.keep h.1 ht (fun k hk => hn k (.inl hk)), h.2.1, here.keep h.2.2 ht (fun k hk => hn k (.inr hk))⟩
theorem here.lt : ∀ {L : List Asn}, here L w → ∀ k, owns L k → k < w.heap.size
  | [], _, _, h => h.elim
  | A :: L, h, k, hk => hk.elim (A.lt h.1 k) (here.lt h.2.2 k)
theorem here.nth : ∀ {L : List Asn} (k : Nat), here L w → L[k]? = some A → A.at_ w
  | [], _, _, hk => by simp at hk
  | B :: L, 0, h, hk => by simp at hk; subst hk; exact h.1
  | B :: L, k + 1, h, hk => here.nth k h.2.2 (by simpa using hk)
theorem owns.nth : ∀ {L : List Asn} (k : Nat) {q : Nat}, L[k]? = some A → A.own q → owns L q
  | [], _, _, hk, _ => by simp at hk
  | B :: L, 0, q, hk, h => by simp at hk; subst hk; exact .inl h
  | B :: L, k + 1, q, hk, h => .inr (owns.nth k (by simpa using hk) h)
/-- the piece of these pieces -/
def all (L : List Asn) : Asn := ⟨owns L, here L, here.keep, here.lt⟩
theorem owns_append : ∀ {L L' : List Asn} {k : Nat}, owns (L ++ L') k ↔ owns L k ∨ owns L' k
  | [], L', k => by simp [owns]
  | A :: L, L', k => by simp [owns, owns_append, or_assoc]
theorem here_append : ∀ {L L' : List Asn}, here (L ++ L') w ↔ here L w ∧ here L' w ∧ ∀ k, owns L k → ¬ owns L' k
  | [], L' => by simp [here, owns]
  | A :: L, L' => by
    simp only [List.cons_append, here, owns, here_append, owns_append]
    constructor
    · rintro ⟨h1, h2, h3, h4, h5⟩
      exact ⟨⟨h1, fun k hk e => h2 k hk (.inl e), h3⟩, h4, fun k hk e => hk.elim (fun hk => h2 k hk (.inr e)) (fun hk => h5 k hk e)⟩
    · rintro ⟨⟨h1, h2, h3⟩, h4, h5⟩
      exact ⟨h1, fun k hk e => e.elim (h2 k hk) (h5 k (.inl hk)), h3, h4, fun k hk => h5 k (.inr hk)⟩
theorem owns_set : ∀ {L : List Asn} (k : Nat) {q : Nat}, owns (L.set k A') q → A'.own q ∨ owns L q
  | [], _, _, h => by simp [owns] at h
  | B :: L, 0, q, h => by
    rcases h with h | h
    · exact .inl h
    · exact .inr (.inr h)
  | B :: L, k + 1, q, h => by
    rcases h with h | h
    · exact .inr (.inl h)
    · exact (owns_set k h).imp id .inr
/-- one piece is another one now -/
theorem here.upd (ht : XTouch A.own w w') (h' : A'.at_ w') (ho : ∀ q, A'.own q → A.own q ∨ w.heap.size ≤ q) : ∀ {L : List Asn} (k : Nat), here L w → L[k]? = some A → here (L.set k A') w'
  | [], _, _, hk => by simp at hk
  | B :: L, 0, h, hk => by
    simp at hk; subst hk
    refine ⟨h', fun q hq e => ?_, h.2.2.keep ht (fun q hq e => h.2.1 q e hq)⟩
    rcases ho q hq with e1 | e1
    · exact h.2.1 q e1 e
    · have := h.2.2.lt q e; omega
  | B :: L, k + 1, h, hk => by
    have hk' : L[k]? = some A := by simpa using hk
    refine ⟨B.keep h.1 ht (fun q hq e => h.2.1 q hq (owns.nth k hk' e)), fun q hq e => ?_, here.upd ht h' ho k h.2.2 hk'⟩
    rcases owns_set k e with e1 | e1
    · rcases ho q e1 with e2 | e2
      · exact h.2.1 q hq (owns.nth k hk' e2)
      · have := B.lt h.1 q hq; omega
    · exact h.2.1 q hq e1
/-- what a function that has A leaves: A', with new blocks maybe -/
def Post (A : Asn) (w : World) (A' : Asn) (w' : World) : Prop := A'.at_ w' ∧ XTouch A.own w w' ∧ ∀ q, A'.own q → A.own q ∨ w.heap.size ≤ q
def Hush (w w' : World) : Prop := XTouch (fun _ => False) w w'

/-- a piece among pieces -/
theorem all_upd {i : Nat} (h : here L w) (hi : L[i]? = some A) (hp : Post A w A' w') : Post (all L) w (all (L.set i A')) w' := by
  refine ⟨here.upd hp.2.1 hp.1 hp.2.2 i h hi, hp.2.1.mono (fun q _ e => owns.nth i hi e), fun q hq => ?_⟩
  rcases owns_set i hq with e | e
  · exact (hp.2.2 q e).imp (owns.nth i hi) id
  · exact .inl e
theorem post_set (h : Blk w b cs t) (i : Nat) (v : Value) : Post (blk b cs t) w (blk b (cs.setIfInBounds i v) t) (w.setCell ⟨b, i, none⟩ v) :=
  ⟨h.set i v, (XTouch.refl (fun k => k = b) w).setCell (p := ⟨b, i, none⟩) (.inl rfl) v, fun q e => .inl e⟩
/-- in a function that began in w0 and may write M: what it has now -/
structure St (w0 : World) (M : Nat → Prop) (w : World) (L : List Asn) : Prop where
  touch : XTouch M w0 w
  mine : ∀ k, owns L k → M k ∨ w0.heap.size ≤ k
  here : here L w
namespace St
theorem begin (h : A.at_ w) : St w A.own w [A] := ⟨XTouch.refl _ _, fun k hk => .inl (hk.elim id (fun e => e.elim)), ⟨h, fun _ _ e => e, trivial⟩⟩
theorem nil (w : World) : St w (fun _ => False) w [] := ⟨XTouch.refl _ _, fun k hk => hk.elim, trivial⟩
theorem all_ (h : Sep.here L w) : St w (owns L) w L := ⟨XTouch.refl _ _, fun k hk => .inl hk, h⟩
theorem nth (H : St w0 M w L) (k : Nat) (hk : L[k]? = some A) : A.at_ w := H.here.nth k hk
theorem blk (H : St w0 M w L) (k : Nat) {b : Nat} {cs : Array Value} {t : TypeId} (hk : L[k]? = some (Sep.blk b cs t)) : Blk w b cs t := H.here.nth k hk
theorem ld (H : St w0 M w L) (k : Nat) {b i : Nat} {cs : Array Value} {t : TypeId} {v : Value} (hk : L[k]? = some (Sep.blk b cs t)) (hv : cs[i]? = some v) : w.cell? ⟨b, i, none⟩ = some v := (H.blk k hk).cell' hv
theorem size (H : St w0 M w L) : w0.heap.size ≤ w.heap.size := H.touch.size
theorem upd (H : St w0 M w L) (k : Nat) (hk : L[k]? = some A) (h : Post A w A' w') : St w0 M w' (L.set k A') := by
  refine ⟨H.touch.trans h.2.1 (fun q hq e => ?_), fun q hq => ?_, H.here.upd h.2.1 h.1 h.2.2 k hk⟩
  · rcases H.mine q (owns.nth k hk e) with e1 | e1
    · exact e1
    · omega
  · rcases owns_set k hq with e1 | e1
    · rcases h.2.2 q e1 with e2 | e2
      · exact H.mine q (owns.nth k hk e2)
      · have := H.size; exact .inr (by omega)
    · exact H.mine q e1
theorem quiet (H : St w0 M w L) (h : Hush w w') : St w0 M w' L := ⟨H.touch.trans h (fun q _ e => e.elim), H.mine, H.here.keep h (fun _ _ e => e)⟩
theorem drew (H : St w0 M w L) : St w0 M w.drew L := H.quiet (XTouch.refl _ w).drew
theorem drewN (H : St w0 M w L) (n : Nat) : St w0 M (w.drewN n) L := H.quiet ((XTouch.refl _ w).drewN n)
/-- a new piece -/
theorem add (H : St w0 M w L) (h : Post emp w A w') : St w0 M w' (L ++ [A]) := by
  have hT : XTouch (fun _ => False) w w' := h.2.1
  refine ⟨H.touch.trans hT (fun q _ e => e.elim), fun q hq => ?_, here_append.2 ⟨H.here.keep hT (fun _ _ e => e), ⟨h.1, fun _ _ e => e, trivial⟩, fun q hq e => ?_⟩⟩
  · rcases owns_append.1 hq with e | e | e
    · exact H.mine q e
    · have := H.size
      exact (h.2.2 q e).elim (fun e => e.elim) (fun e => .inr (by omega))
    · exact e.elim
  · rcases e with e | e
    · have := H.here.lt q hq
      exact (h.2.2 q e).elim (fun e => e.elim) (fun e => by omega)
    · exact e
theorem alloc (H : St w0 M w L) (cs : Array Value) (t : TypeId) : St w0 M (w.alloc (.cells cs t)) (L ++ [Sep.blk w.heap.size cs t]) :=
  H.add ⟨Blk.new w cs t, (XTouch.refl _ w).alloc _, fun q e => .inr (by rw [show q = w.heap.size from e]; exact Nat.le_refl _)⟩
theorem wr (H : St w0 M w L) (k : Nat) {b : Nat} {cs : Array Value} {t : TypeId} (hk : L[k]? = some (Sep.blk b cs t)) (i : Nat) (v : Value) : St w0 M (w.setCell ⟨b, i, none⟩ v) (L.set k (Sep.blk b (cs.setIfInBounds i v) t)) :=
  H.upd k hk ⟨(H.blk k hk).set i v, (XTouch.refl (fun k => k = b) w).setCell (p := ⟨b, i, none⟩) (.inl rfl) v, fun q e => .inl e⟩
theorem wrs (H : St w0 M w L) (k : Nat) {b : Nat} {cs : Array Value} {t : TypeId} (hk : L[k]? = some (Sep.blk b cs t)) (o : Nat) (vs : List Value) (hl : o + vs.length ≤ cs.size) : St w0 M (w.setCells b o vs) (L.set k (Sep.blk b (splice cs o vs) t)) :=
  H.upd k hk ⟨blk_setCells vs w cs o (H.blk k hk) hl, touch_setCells vs w o, fun q e => .inl e⟩
/-! ### steps, as the conditions of a function ask for them -/
variable {i : Nat}
theorem al (H : St w0 M w L) {cs : Array Value} {t : TypeId} {φ : Nat → World → Prop} (hq : ∀ k w', St w0 M w' (L ++ [Sep.blk k cs t]) → φ k w') : ∀ k : Nat, ∀ w' : World, k = w.heap.size → w' = w.alloc (.cells cs t) → φ k w' := by
  rintro k w' rfl rfl
  exact hq _ _ (H.alloc cs t)
theorem alb (H : St w0 M w L) {cs : Array Value} {t : TypeId} {φ : Nat → World → Prop} (hq : ∀ k w', St w0 M w' (L ++ [Sep.blk k cs t]) → w0.heap.size ≤ k → Below w.heap.size w w' → φ k w') : ∀ k : Nat, ∀ w' : World, k = w.heap.size → w' = w.alloc (.cells cs t) → φ k w' := by
  rintro k w' rfl rfl
  exact hq _ _ (H.alloc cs t) H.size ((Below.refl _ _).alloc (Nat.le_refl _) _)
theorem dr (H : St w0 M w L) {φ : World → Prop} (hq : ∀ w', St w0 M w' L → φ w') : ∀ w' : World, w' = w.drew → φ w' := by
  rintro w' rfl
  exact hq _ H.drew
theorem drN (H : St w0 M w L) {φ : World → Prop} (hq : ∀ w', St w0 M w' L → φ w') : ∀ (w' : World) (m : Nat), w' = w.drewN m → φ w' := by
  rintro w' m rfl
  exact hq _ (H.drewN m)
theorem st (H : St w0 M w L) (k : Nat) (hk : L[k]? = some (Sep.blk b cs t)) {v : Value} {φ : World → Prop} (hi : i < cs.size) (hq : ∀ w', St w0 M w' (L.set k (Sep.blk b (cs.setIfInBounds i v) t)) → φ w') :
    (∃ u, w.cell? ⟨b, i, none⟩ = some u) ∧ w.frozen? ⟨b, i, none⟩ = false ∧ ∀ w', w' = w.setCell ⟨b, i, none⟩ v → φ w' := by
  refine ⟨⟨_, (H.blk k hk).cell' (Array.getElem?_eq_getElem hi)⟩, (H.blk k hk).frozen i, ?_⟩
  rintro w' rfl
  exact hq _ (H.wr k hk i v)
/-- a whole struct is written -/
theorem sts (H : St w0 M w L) (k : Nat) (hk : L[k]? = some (Sep.blk b cs t)) {o n : Nat} {vs : Array Value} {φ : World → Prop} (hv : vs.size = n) (hi : o + n ≤ cs.size) (h1 : ∀ v ∈ vs.toList, v.oneCell' = true)
    (hq : ∀ w', St w0 M w' (L.set k (Sep.blk b (splice cs o vs.toList) t)) → φ w') :
    vs.size = n ∧ (∀ j : Nat, j < n → (∃ v, w.cell? ⟨b, o + j, none⟩ = some v) ∧ w.frozen? ⟨b, o + j, none⟩ = false) ∧ (∀ v : Value, v ∈ vs.toList → v.oneCell' = true) ∧ ∀ w' : World, w' = w.setCells b o vs.toList → φ w' := by
  refine ⟨hv, fun j hj => ⟨⟨_, (H.blk k hk).cell' (Array.getElem?_eq_getElem (by omega))⟩, (H.blk k hk).frozen _⟩, h1, ?_⟩
  rintro w' rfl
  exact hq _ (H.wrs k hk o vs.toList (by rw [Array.length_toList]; omega))
theorem splice_zero {cs vs : Array Value} (h : vs.size = cs.size) : splice cs 0 vs.toList = vs := by
  rw [splice_all _ _ (by simpa using h)]
/-- .. over a whole block -/
theorem sts0 (H : St w0 M w L) (k : Nat) (hk : L[k]? = some (Sep.blk b cs t)) {n : Nat} {vs : Array Value} {φ : World → Prop} (hv : vs.size = n) (hi : cs.size = n) (h1 : ∀ v ∈ vs.toList, v.oneCell' = true)
    (hq : ∀ w', St w0 M w' (L.set k (Sep.blk b vs t)) → φ w') :
    vs.size = n ∧ (∀ j : Nat, j < n → (∃ v, w.cell? ⟨b, 0 + j, none⟩ = some v) ∧ w.frozen? ⟨b, 0 + j, none⟩ = false) ∧ (∀ v : Value, v ∈ vs.toList → v.oneCell' = true) ∧ ∀ w' : World, w' = w.setCells b 0 vs.toList → φ w' := by
  refine H.sts k hk hv (by omega) h1 ?_
  rw [splice_zero (by omega)]
  exact hq
theorem cells (H : St w0 M w L) (k : Nat) (hk : L[k]? = some (Sep.blk b cs t)) : cellsAt w ⟨b, 0, none⟩ cs := cellsAt_self (H.blk k hk)
/-- a struct is read out of a block -/
theorem lds (H : St w0 M w L) (k : Nat) (hk : L[k]? = some (Sep.blk b cs t)) {o : Nat} {vs : Array Value} (hv : ∀ j u, vs[j]? = some u → cs[o + j]? = some u) : cellsAt w ⟨b, o, none⟩ vs := cellsAt_of_blk (H.blk k hk) vs hv
/-! calls -/
variable {P : Program} {f : FuncId} {args : Array Value} {Q : Ending → World → Prop} {E : Ending}
/-- a map read -/
theorem look (H : St w0 M w L) (k : Nat) {κ : IntKind} {f : Int → Option Value} (hk : L[k]? = some (Sep.mp κ b f)) : Mp w κ b f := H.here.nth k hk
/-- a map written -/
theorem put (H : St w0 M w L) (k : Nat) {κ : IntKind} {f : Int → Option Value} (hk : L[k]? = some (Sep.mp κ b f)) {x : Int} {v : Option Value} {φ : World → Prop} (hq : ∀ w', St w0 M w' (L.set k (Sep.mp κ b (Sx.upd f x v))) → φ w') : ∀ w' : World, Mp w' κ b (Sx.upd f x v) → XTouch (fun q => q = b) w w' → φ w' :=
  fun w' h1 h2 => hq w' (H.upd k hk ⟨h1, h2, fun q e => .inl e⟩)
theorem call (H : St w0 M w L) (k : Nat) (hk : L[k]? = some A) (hc : Calls P f args w fun e w' => e = E ∧ Post A w A' w') (hq : ∀ w', St w0 M w' (L.set k A') → Q E w') : Calls P f args w Q :=
  hc.mono fun e w' h => by rw [h.1]; exact hq _ (H.upd k hk h.2)
theorem callq (H : St w0 M w L) (hc : Calls P f args w fun e w' => e = E ∧ Hush w w') (hq : ∀ w', St w0 M w' L → Q E w') : Calls P f args w Q :=
  hc.mono fun e w' h => by rw [h.1]; exact hq _ (H.quiet h.2)
theorem callp (H : St w0 M w L) (hc : Calls P f args w fun e w' => e = E ∧ w' = w) (hq : Q E w) : Calls P f args w Q :=
  hc.mono fun e w' h => by rw [h.1, h.2]; exact hq
/-! ends -/
theorem post (H : St w0 A.own w L) (k : Nat) (hk : L[k]? = some A') : Post A w0 A' w := ⟨H.nth k hk, H.touch, fun q hq => H.mine q (owns.nth k hk hq)⟩
theorem new (H : St w0 (fun _ => False) w L) (k : Nat) (hk : L[k]? = some A') : Post emp w0 A' w := ⟨H.nth k hk, H.touch, fun q hq => H.mine q (owns.nth k hk hq)⟩
/-- some pieces are forgotten -/
theorem sub (H : St w0 M w (L ++ L')) : St w0 M w L := ⟨H.touch, fun q hq => H.mine q (owns_append.2 (.inl hq)), (here_append.1 H.here).1⟩
theorem take (H : St w0 M w L) (n : Nat) : St w0 M w (L.take n) := St.sub (L' := L.drop n) (by rw [List.take_append_drop]; exact H)
theorem tail (H : St w0 M w (A :: L)) : St w0 M w L := ⟨H.touch, fun q hq => H.mine q (.inr hq), H.here.2.2⟩
/-- a piece is opened, shut -/
theorem open_ (H : St w0 M w (all L :: L')) : St w0 M w (L ++ L') := ⟨H.touch, fun q hq => H.mine q (owns_append.1 hq), here_append.2 ⟨H.here.1, H.here.2.2, H.here.2.1⟩⟩
theorem shut (H : St w0 M w (L ++ L')) : St w0 M w (all L :: L') := ⟨H.touch, fun q hq => H.mine q (owns_append.2 hq), let h := here_append.1 H.here; ⟨h.1, h.2.2, h.2.1⟩⟩
theorem push {Ls : List Asn} (H : St w0 M w (all Ls :: B :: L)) : St w0 M w (all (Ls ++ [B]) :: L) := by
  refine St.shut ?_
  rw [List.append_assoc]
  exact St.open_ H
theorem swap (H : St w0 M w (A :: B :: L)) : St w0 M w (B :: A :: L) := by
  refine ⟨H.touch, fun q hq => H.mine q ?_, H.here.2.2.1, fun q hq e => ?_, H.here.1, fun q hq e => H.here.2.1 q hq (.inr e), H.here.2.2.2.2⟩
  · rcases hq with e | e | e
    · exact .inr (.inl e)
    · exact .inl e
    · exact .inr (.inr e)
  · rcases e with e | e
    · exact H.here.2.1 q e (.inl hq)
    · exact H.here.2.2.2.1 q hq e
theorem perm (H : St w0 M w L) (hp : L.Perm L') : St w0 M w L' := by
  have : ∀ {L L' : List Asn}, L.Perm L' → (∀ q, owns L q ↔ owns L' q) ∧ (Sep.here L w → Sep.here L' w) := by
    intro L L' hp
    induction hp with
    | nil => exact ⟨fun _ => Iff.rfl, id⟩
    | cons x _ ih => exact ⟨fun q => or_congr Iff.rfl (ih.1 q), fun h => ⟨h.1, fun q hq e => h.2.1 q hq ((ih.1 q).2 e), ih.2 h.2.2⟩⟩
    | swap x y l => exact ⟨fun q => by simp only [owns]; exact or_left_comm, fun h => ⟨h.2.2.1, fun q hq e => e.elim (fun e => h.2.1 q e (.inl hq)) (h.2.2.2.1 q hq), h.1, fun q hq e => h.2.1 q hq (.inr e), h.2.2.2.2⟩⟩
    | trans _ _ i1 i2 => exact ⟨fun q => (i1.1 q).trans (i2.1 q), fun h => i2.2 (i1.2 h)⟩
  exact ⟨H.touch, fun q hq => H.mine q (((this hp).1 q).2 hq), (this hp).2 H.here⟩
theorem disj {L : List Asn} (h : Sep.here L w) : ∀ (i j : Nat) {A B : Asn}, i ≠ j → L[i]? = some A → L[j]? = some B → ∀ q, A.own q → ¬ B.own q := by
  induction L with
  | nil => intro i j A B _ hi; simp at hi
  | cons C L ih =>
    intro i j A B hn hi hj q hq e
    match i, j with
    | 0, 0 => exact hn rfl
    | 0, j + 1 => simp at hi; subst hi; exact h.2.1 q hq (owns.nth j (by simpa using hj) e)
    | i + 1, 0 => simp at hj; subst hj; exact h.2.1 q e (owns.nth i (by simpa using hi) hq)
    | i + 1, j + 1 => exact ih h.2.2 i j (by omega) (by simpa using hi) (by simpa using hj) q hq e
def sel (L : List Asn) : List Nat → List Asn
  | [] => []
  | i :: is => match L[i]? with
    | some A => A :: sel L is
    | none => sel L is
theorem owns_sel : ∀ (is : List Nat) {q : Nat}, owns (sel L is) q → ∃ j ∈ is, ∃ B, L[j]? = some B ∧ B.own q
  | [], q, h => h.elim
  | i :: is, q, h => by
    unfold sel at h
    split at h
    · rename_i A hA
      rcases h with h | h
      · exact ⟨i, by simp, A, hA, h⟩
      · obtain ⟨j, hj, r⟩ := owns_sel is h
        exact ⟨j, by simp [hj], r⟩
    · obtain ⟨j, hj, r⟩ := owns_sel is h
      exact ⟨j, by simp [hj], r⟩
theorem here_sel (h : Sep.here L w) : ∀ (is : List Nat), is.Nodup → Sep.here (sel L is) w
  | [], _ => trivial
  | i :: is, hn => by
    have hn' := List.nodup_cons.1 hn
    unfold sel
    split
    · rename_i A hA
      refine ⟨h.nth i hA, fun q hq e => ?_, here_sel h is hn'.2⟩
      obtain ⟨j, hj, B, hB, hb⟩ := owns_sel is e
      exact disj h i j (fun e => hn'.1 (e ▸ hj)) hA hB q hq hb
    · exact here_sel h is hn'.2
/-- these pieces, in this order; the others are forgotten -/
theorem pick (H : St w0 M w L) (is : List Nat) (hn : is.Nodup := by decide) : St w0 M w (sel L is) :=
  ⟨H.touch, fun q hq => by obtain ⟨j, _, B, hB, hb⟩ := owns_sel is hq; exact H.mine q (owns.nth j hB hb), here_sel H.here is hn⟩
/-- pieces become one, one becomes pieces -/
theorem fold {Ls : List Asn} (H : St w0 M w (Ls ++ L)) (h : Sep.here Ls w → A.at_ w) (ho : ∀ q, A.own q → owns Ls q) : St w0 M w (A :: L) := by
  have h1 := here_append.1 H.here
  exact ⟨H.touch, fun q hq => H.mine q (owns_append.2 (hq.imp (ho q) id)), h h1.1, fun q hq => h1.2.2 q (ho q hq), h1.2.1⟩
theorem unfold_ {Ls : List Asn} (H : St w0 M w (A :: L)) (h : A.at_ w → Sep.here Ls w) (ho : ∀ q, owns Ls q → A.own q) : St w0 M w (Ls ++ L) :=
  ⟨H.touch, fun q hq => H.mine q ((owns_append.1 hq).imp (ho q) id), here_append.2 ⟨h H.here.1, H.here.2.2, fun q hq => H.here.2.1 q (ho q hq)⟩⟩
/-- what is said of a piece is turned -/
theorem conv (H : St w0 M w L) (k : Nat) (hk : L[k]? = some A) (h : A.at_ w → A'.at_ w) (ho : ∀ q, A'.own q → A.own q) : St w0 M w (L.set k A') :=
  H.upd k hk ⟨h (H.nth k hk), XTouch.refl _ _, fun q hq => .inl (ho q hq)⟩
/-- an append to a slice that is a piece -/
theorem app (H : St w0 M w L) (k : Nat) {e size n m bytes : Nat} {p q : Option Addr} {c : Nat} {olds : List Value} (hk : L[k]? = some (Sep.sl e size (.slice p n c) n olds)) (news : List Value)
    (h1 : (m = 0 ∧ q = none) ∨ ∃ a, q = some a ∧ ∀ j u, news[j]? = some u → w.cell? (a.add j) = some u) (h2 : news.length = m * size) (h3 : ∀ u ∈ news, u.oneCell' = true) (h4 : n + m ≤ maxLen) (h5 : (n + m) * bytes ≤ 140737488355328)
    {φ : Option Addr → Nat → World → Prop} (hq : ∀ p' c' w', St w0 M w' (L.set k (Sep.sl e size (.slice p' (n + m) c') (n + m) (olds ++ news))) → φ p' c' w') :
    ∃ olds news : List Value, Sl w e size (.slice p n c) n olds ∧ ((m = 0 ∧ q = none) ∨ ∃ a, q = some a ∧ ∀ j u, news[j]? = some u → w.cell? (a.add j) = some u) ∧ news.length = m * size ∧ (∀ u ∈ news, u.oneCell' = true) ∧ n + m ≤ maxLen ∧ (n + m) * bytes ≤ 140737488355328 ∧
      ∀ (p' : Option Addr) (c' : Nat) (w' : World), Sl w' e size (.slice p' (n + m) c') (n + m) (olds ++ news) → XTouch (fun b => (Value.slice p n c).ownBlock = some b) w w' → (∀ b, (Value.slice p' (n + m) c').ownBlock = some b → (Value.slice p n c).ownBlock = some b ∨ w.heap.size ≤ b) → Sl w' e size (.slice p n c) n olds → ((p' = p ∧ c' = c) ∨ ((NilP p ∨ c < n + m) ∧ ∀ b, (Value.slice p' (n + m) c').ownBlock = some b → w.heap.size ≤ b)) → φ p' c' w' :=
  ⟨olds, news, H.nth k hk, h1, h2, h3, h4, h5, fun p' c' w' a b d _ _ => hq p' c' w' (H.upd k hk ⟨a, b, d⟩)⟩
end St
/-! ### rows of numbers -/
variable {κ : IntKind} {l : List Int}
theorem adr_some {g o : Nat} {f : Nat → Nat → Prop} (h : f g o) : Sx.adr (some ⟨g, o, none⟩) f := h
theorem ptr_some {a : Addr} {f : Addr → Prop} (h : f a) : Sx.ptr (some a) f := h
theorem nil_true {f : Bool → Prop} (h : f true) : Sx.isNil .nilIface f := h
theorem nil_false {t : TypeId} {v : Value} {f : Bool → Prop} (h : f false) : Sx.isNil (.iface t v) f := h
theorem ix1 (o n : Nat) : o + ((n : Nat) : Int).toNat * 1 = o + n := by omega
/-! ### rows of structs -/
section rows
variable {α : Type} {f : α → List Value} {n : Nat} {l : List α}
def rows (f : α → List Value) (l : List α) : Array Value := (l.flatMap f).toArray
theorem rows_len : ∀ {l : List α}, (∀ x ∈ l, (f x).length = n) → (l.flatMap f).length = l.length * n
  | [], _ => by simp
  | x :: l, h => by
    rw [List.flatMap_cons, List.length_append, h x (by simp), rows_len (fun y hy => h y (by simp [hy])), List.length_cons, Nat.add_mul]
    omega
theorem rows_getL : ∀ {l : List α}, (∀ x ∈ l, (f x).length = n) → ∀ (j i : Nat) (x : α), l[j]? = some x → i < n → (l.flatMap f)[j * n + i]? = (f x)[i]?
  | [], _, j, i, x, hx, _ => by simp at hx
  | y :: l, h, 0, i, x, hx, hi => by
    simp at hx; subst hx
    rw [List.flatMap_cons, Nat.zero_mul, Nat.zero_add, List.getElem?_append_left (by rw [h y (by simp)]; exact hi)]
  | y :: l, h, j + 1, i, x, hx, hi => by
    rw [List.flatMap_cons, Nat.add_mul, Nat.one_mul, List.getElem?_append_right (by rw [h y (by simp)]; omega), h y (by simp)]
    rw [show j * n + n + i - n = j * n + i by omega]
    exact rows_getL (fun z hz => h z (by simp [hz])) j i x (by simpa using hx) hi
/-- one element of a slice of structs -/
theorem sl_elem {w : World} {e : TypeId} {p : Option Addr} {m c : Nat} (h : Sl w e n (.slice p m c) m (l.flatMap f)) (hf : ∀ x ∈ l, (f x).length = n) {j : Nat} {x : α} (hx : l[j]? = some x) (hn : 0 < n) :
    j < m ∧ ∃ g off, p = some ⟨g, off, none⟩ ∧ cellsAt w ⟨g, off + j * n, none⟩ (f x).toArray := by
  obtain ⟨hl, h⟩ := h
  rw [rows_len hf] at hl
  have hm : l.length = m := Nat.eq_of_mul_eq_mul_right hn hl
  have hj : j < l.length := (List.getElem?_eq_some_iff.1 hx).1
  refine ⟨by omega, ?_⟩
  rcases h with ⟨h, rfl⟩ | ⟨g, off, cap, cur, hv, hb, h1, h2, h3, h4⟩
  · omega
  · cases hv
    refine ⟨g, off, rfl, cellsAt_of_blk hb _ fun i v hi => ?_⟩
    have hi' : i < n := by
      have := (Array.getElem?_eq_some_iff.1 hi).1
      simpa [hf x (List.mem_of_getElem? hx)] using this
    have h5 := rows_getL hf j i x hx hi'
    rw [← h4, List.getElem?_take_of_lt, List.getElem?_drop] at h5
    · rw [← Array.getElem?_toList, Nat.add_assoc, h5]
      simpa using hi
    · have := Nat.mul_le_mul_right n (show j + 1 ≤ m by omega)
      rw [Nat.add_mul] at this; omega
end rows
end Go.Sep
/- Numbers of so many bits as natural numbers: wrap, and, or, exclusive or, shifts. No condition. -/
namespace Go.Bits
open Go.Sx
set_option linter.unusedVariables false

theorem n64 {x : Nat} (h : x < 9223372036854775808) : IntKind.wrap .i64 (x : Int) = x := w64 (by omega) (by omega)
theorem n32 {x : Nat} (h : x < 4294967296) : IntKind.wrap .u32 (x : Int) = x := w32 (by omega) (by omega)
theorem shr (x n : Nat) : Int.fdiv (x : Int) (2 ^ n) = ((x / 2 ^ n : Nat) : Int) := by
  rw [Int.fdiv_eq_ediv_of_nonneg _ (Int.pow_nonneg (by decide))]
  simp
theorem tmod (a b : Nat) : Int.tmod (a : Int) (b : Int) = ((a % b : Nat) : Int) := rfl
theorem tdiv (a b : Nat) : Int.tdiv (a : Int) (b : Int) = ((a / b : Nat) : Int) := rfl
end Go.Bits
