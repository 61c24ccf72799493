import Derived.ProofKit
/- The small language in plain Lean: tokens, trees, the parser. No condition. -/
namespace Go.Lang
set_option linter.unusedVariables false

/-- a token: 0 the end, 1 a name, 2 a number, 3 a mark, 4 none -/
structure Tok where
  k : Nat
  s : ByteArray
  line : Int
/-- what a global variable's block holds, all the time -/
structure G3o where
  o : Obj
def ofL (l : List UInt8) : ByteArray := ⟨l.toArray⟩
def isL (c : UInt8) : Bool := c == 95 || (decide (97 ≤ c) && decide (c ≤ 122))
def isD (c : UInt8) : Bool := decide (48 ≤ c) && decide (c ≤ 57)
def words : List (List UInt8) := [[118, 97, 114], [102, 117, 110, 99], [108, 101, 116], [105, 102], [101, 108, 115, 101], [119, 104, 105, 108, 101], [114, 101, 116, 117, 114, 110], [112, 114, 105, 110, 116]]
def twos : List (List UInt8) := [[124, 124], [38, 38], [61, 61], [33, 61], [60, 61], [62, 61], [60, 60], [62, 62]]
def ones : List UInt8 := [124, 94, 38, 60, 62, 43, 45, 42, 47, 37, 33, 126, 40, 41, 91, 93, 123, 125, 44, 59, 61]
def wordLen (s : List UInt8) : Nat := (s.takeWhile fun c => isL c || isD c).length
/-- the token with which a text begins -/
def first (s : List UInt8) : Nat × Nat :=
  match wordLen s with
  | 0 => if s.take 2 ∈ twos then (3, 2) else if s.headD 0 ∈ ones then (3, 1) else (4, 1)
  | n + 1 => if isL (s.headD 0) then (if s.take (n + 1) ∈ words then (3, n + 1) else (1, n + 1)) else if (s.take (n + 1)).all isD then (2, n + 1) else (4, n + 1)
/-- the tokens of a text, from a line on; at most so many steps -/
def lexF : Nat → List UInt8 → Int → List Tok
  | 0, _, line => [⟨0, ofL [], line⟩]
  | f + 1, s, line => match s with
    | [] => [⟨0, ofL [], line⟩]
    | c :: r => if c = 10 then lexF f r (line + 1) else if c = 32 ∨ c = 9 then lexF f r line
      else if s.take 2 = [47, 47] then lexF f (s.dropWhile fun c => c ≠ 10) line
      else ⟨(first s).1, ofL (s.take (first s).2), line⟩ :: lexF f (s.drop (first s).2) line

/-! ### trees -/
inductive T where
  | num (v line : Int)
  | name (at_ : Tok) (slot word : Int)
  | index (at_ : Tok) (word size : Int) (p : T)
  | call (at_ : Tok) (f : Option Addr) (args : T)
  | un (at_ : Tok) (x : T)
  | bin (at_ : Tok) (x y : T)
  | nil
  | cons (x xs : T)
  | letS (at_ nm : Tok) (slot word : Int) (x : T)
  | setS (at_ : Tok) (slot word : Int) (x : T)
  | putS (at_ : Tok) (word size : Int) (p x : T)
  | ifS (line : Int) (c a b : T)
  | whileS (line : Int) (c b : T)
  | retS (line : Int) (x : T)
  | prtS (line : Int) (x : T)
  | doS (line : Int) (x : T)
  | block (line : Int) (l : T)
/-- a declaration -/
inductive D where
  | var (at_ : Tok) (name : ByteArray) (word size : Int)
  | fn (at_ : Tok) (name : ByteArray) (params : List ByteArray) (slots no : Int) (body : T)

/-! ### the parser -/
inductive R (α : Type) where
  | ok (x : α) (l : List Tok)
  | err (line e : Int)
  | out
def R.bind {α β : Type} : R α → (α → List Tok → R β) → R β
  | .ok x l, k => k x l
  | .err a e, _ => .err a e
  | .out, _ => .out
def now (l : List Tok) : Tok := l.headD ⟨0, ofL [], 0⟩
def is (s : ByteArray) (l : List Tok) : Bool := decide ((now l).k = 3) && decide ((now l).s = s)
def want {β : Type} (s : ByteArray) (l : List Tok) (k : List Tok → R β) : R β := if is s l then k l.tail else .err (now l).line 8
def name {β : Type} (l : List Tok) (k : Tok → List Tok → R β) : R β := if (now l).k ≠ 1 then .err (now l).line 8 else if 16 < (now l).s.size then .err (now l).line 3 else k (now l) l.tail
def valOf (s : ByteArray) : Nat := s.data.toList.foldl (fun n c => 10 * n + (c.toNat - 48)) 0
def number {β : Type} (l : List Tok) (k : Int → List Tok → R β) : R β := if (now l).k ≠ 2 then .err (now l).line 8 else if 4294967296 ≤ valOf (now l).s then .err (now l).line 3 else k (valOf (now l).s : Nat) l.tail
def cLP : ByteArray := ofL [40]
def cRP : ByteArray := ofL [41]
def cLB : ByteArray := ofL [91]
def cRB : ByteArray := ofL [93]
def cLC : ByteArray := ofL [123]
def cRC : ByteArray := ofL [125]
def cComma : ByteArray := ofL [44]
def cSemi : ByteArray := ofL [59]
def cEq : ByteArray := ofL [61]
def cMinus : ByteArray := ofL [45]
def cNot : ByteArray := ofL [33]
def cTilde : ByteArray := ofL [126]
def cVar : ByteArray := ofL [118, 97, 114]
def cFunc : ByteArray := ofL [102, 117, 110, 99]
def cLet : ByteArray := ofL [108, 101, 116]
def cIf : ByteArray := ofL [105, 102]
def cElse : ByteArray := ofL [101, 108, 115, 101]
def cWhile : ByteArray := ofL [119, 104, 105, 108, 101]
def cReturn : ByteArray := ofL [114, 101, 116, 117, 114, 110]
def cPrint : ByteArray := ofL [112, 114, 105, 110, 116]
/-- how strong an operation is; 0: it is none -/
def strength (s : ByteArray) : Nat :=
  if s = ofL [124, 124] then 1 else if s = ofL [38, 38] then 2 else if s = ofL [124] then 3 else if s = ofL [94] then 4 else if s = ofL [38] then 5
  else if s = ofL [61, 61] ∨ s = ofL [33, 61] then 6 else if s = ofL [60] ∨ s = ofL [60, 61] ∨ s = ofL [62] ∨ s = ofL [62, 61] then 7
  else if s = ofL [60, 60] ∨ s = ofL [62, 62] then 8 else if s = ofL [43] ∨ s = ofL [45] then 9 else if s = ofL [42] ∨ s = ofL [47] ∨ s = ofL [37] then 10 else 0
inductive Req where
  | expr | bin (least : Nat) | loop (least : Nat) (x : T) | un | prim | args | argl | blk | stmts | stmt
def isOne (l : List Tok) : Bool := is cMinus l || is cNot l || is cTilde l
def run : Nat → Req → Nat → List Tok → R T
  | 0, _, _, _ => .out
  | f + 1, .expr, n, l => if 24 ≤ n then .err (now l).line 3 else run f (.bin 1) (n + 1) l
  | f + 1, .bin k, n, l => (run f .un n l).bind fun x l => run f (.loop k x) n l
  | f + 1, .loop k x, n, l => if (now l).k = 3 ∧ k ≤ strength (now l).s then (run f (.bin (strength (now l).s + 1)) n l.tail).bind fun y l' => run f (.loop k (.bin (now l) x y)) n l' else .ok x l
  | f + 1, .un, n, l => if isOne l then (if 24 ≤ n then .err (now l).line 3 else (run f .un (n + 1) l.tail).bind fun x l' => .ok (.un (now l) x) l') else run f .prim n l
  | f + 1, .prim, n, l =>
    if (now l).k = 2 then number l fun v l' => .ok (.num v (now l).line) l'
    else if is cLP l then (run f .expr n l.tail).bind fun x l => want cRP l fun l => .ok x l
    else name l fun t l =>
      if is cLP l then (run f .args n l.tail).bind fun xs l => .ok (.call t none xs) l
      else if is cLB l then (run f .expr n l.tail).bind fun x l => want cRB l fun l => .ok (.index t 0 0 x) l
      else .ok (.name t 0 0) l
  | f + 1, .args, n, l => if is cRP l then .ok .nil l.tail else run f .argl n l
  | f + 1, .argl, n, l => (run f .expr n l).bind fun x l => if is cRP l then .ok (.cons x .nil) l.tail else want cComma l fun l => (run f .argl n l).bind fun xs l => .ok (.cons x xs) l
  | f + 1, .blk, n, l => if 24 ≤ n then .err (now l).line 3 else want cLC l fun l' => (run f .stmts (n + 1) l').bind fun xs l'' => .ok (.block (now l).line xs) l''
  | f + 1, .stmts, n, l => if is cRC l then .ok .nil l.tail else (run f .stmt n l).bind fun x l => (run f .stmts n l).bind fun xs l => .ok (.cons x xs) l
  | f + 1, .stmt, n, l =>
    if (now l).k = 1 then name l fun t l =>
      if is cLP l then (run f .args n l.tail).bind fun xs l => want cSemi l fun l => .ok (.doS t.line (.call t none xs)) l
      else if is cLB l then (run f .expr n l.tail).bind fun p l => want cRB l fun l => want cEq l fun l => (run f .expr n l).bind fun x l => want cSemi l fun l => .ok (.putS t 0 0 p x) l
      else want cEq l fun l => (run f .expr n l).bind fun x l => want cSemi l fun l => .ok (.setS t 0 0 x) l
    else if is cLet l then name l.tail fun nm l' => want cEq l' fun l' => (run f .expr n l').bind fun x l' => want cSemi l' fun l' => .ok (.letS (now l) nm 0 0 x) l'
    else if is cReturn l then (run f .expr n l.tail).bind fun x l' => want cSemi l' fun l' => .ok (.retS (now l).line x) l'
    else if is cPrint l then (run f .expr n l.tail).bind fun x l' => want cSemi l' fun l' => .ok (.prtS (now l).line x) l'
    else if is cWhile l then (run f .expr n l.tail).bind fun c l' => (run f .blk n l').bind fun b l' => .ok (.whileS (now l).line c b) l'
    else if is cIf l then (run f .expr n l.tail).bind fun c l' => (run f .blk n l').bind fun b l' =>
      if is cElse l' then (run f .blk n l'.tail).bind fun e l' => .ok (.ifS (now l).line c b e) l' else .ok (.ifS (now l).line c b .nil) l'
    else .err (now l).line 8
/-- parameters, behind the bracket; so many more may come -/
def params : Nat → List Tok → R (List ByteArray)
  | k, l => if is cRP l then .ok [] l.tail else paramL k l
where paramL : Nat → List Tok → R (List ByteArray)
  | 0, l => name l fun t _ => .err t.line 3
  | k + 1, l => name l fun t l => if is cRP l then .ok [t.s] l.tail else want cComma l fun l => (paramL k l).bind fun r l => .ok (t.s :: r) l
def decl (f : Nat) (l : List Tok) : R D :=
  if is cVar l then name l.tail fun nm l' =>
    if is cLB l' then number l'.tail fun v l'' => if v < 1 ∨ 256 < v then .err (now l'.tail).line 3 else want cRB l'' fun l'' => want cSemi l'' fun l'' => .ok (.var (now l) nm.s 0 v) l''
    else want cSemi l' fun l' => .ok (.var (now l) nm.s 0 0) l'
  else want cFunc l fun l' => name l' fun nm l' => want cLP l' fun l' => (params 6 l').bind fun ps l' => (run f .blk 0 l').bind fun b l' => .ok (.fn (now l) nm.s ps 0 0 b) l'
def decls (f : Nat) : Nat → List Tok → R (List D)
  | 0, _ => .out
  | g + 1, l => if (now l).k = 0 then .ok [] l else (decl f l).bind fun d l => (decls f g l).bind fun ds l => .ok (d :: ds) l
end Go.Lang
/- What the parser in plain Lean leaves is no longer than what it had. No condition. -/
namespace Go.Lang
set_option linter.unusedVariables false

theorem bind_ok {α β : Type} {r : R α} {k : α → List Tok → R β} {y : β} {l' : List Tok} (h : r.bind k = .ok y l') : ∃ x l, r = .ok x l ∧ k x l = .ok y l' := by
  cases r with
  | ok x l => exact ⟨x, l, rfl, h⟩
  | err a e => cases h
  | out => cases h
theorem is_k {s : ByteArray} {l : List Tok} (h : is s l = true) : (now l).k = 3 := by
  unfold is at h
  rw [Bool.and_eq_true] at h
  exact of_decide_eq_true h.1
theorem tail_lt {l : List Tok} (h : (now l).k ≠ 0) : l.tail.length < l.length := by
  cases l with
  | nil => exact absurd rfl h
  | cons t l => simp
theorem tail_le (l : List Tok) : l.tail.length ≤ l.length := by simp
theorem want_ok {β : Type} {s : ByteArray} {l l' : List Tok} {k : List Tok → R β} {y : β} (h : want s l k = .ok y l') : is s l = true ∧ k l.tail = .ok y l' := by
  unfold want at h
  split at h
  · rename_i hi; exact ⟨hi, h⟩
  · cases h
theorem name_ok {β : Type} {l l' : List Tok} {k : Tok → List Tok → R β} {y : β} (h : name l k = .ok y l') : (now l).k = 1 ∧ k (now l) l.tail = .ok y l' := by
  unfold name at h
  split at h
  · cases h
  · rename_i hk
    split at h
    · cases h
    · exact ⟨Decidable.not_not.1 hk, h⟩
theorem number_ok {β : Type} {l l' : List Tok} {k : Int → List Tok → R β} {y : β} (h : number l k = .ok y l') : (now l).k = 2 ∧ ∃ v, k v l.tail = .ok y l' := by
  unfold number at h
  split at h
  · cases h
  · rename_i hk
    split at h
    · cases h
    · exact ⟨Decidable.not_not.1 hk, _, h⟩
theorem run_le : ∀ (f : Nat) (q : Req) (n : Nat) (l : List Tok) (x : T) (l' : List Tok), run f q n l = .ok x l' → l'.length ≤ l.length ∧ (q = .stmt → l'.length < l.length) := by
  intro f
  induction f with
  | zero => intro q n l x l' h; cases h
  | succ f ih =>
    intro q n l x l' h
    have le : ∀ {q n l x l'}, run f q n l = .ok x l' → l'.length ≤ l.length := fun h => (ih _ _ _ _ _ h).1
    have tl := fun (l : List Tok) => tail_le l
    cases q with
    | expr =>
      unfold run at h
      split at h
      · cases h
      · exact ⟨le h, fun e => by cases e⟩
    | bin k =>
      unfold run at h
      obtain ⟨x1, l1, h1, h2⟩ := bind_ok h
      exact ⟨Nat.le_trans (le h2) (le h1), fun e => by cases e⟩
    | loop k u =>
      unfold run at h
      refine ⟨?_, fun e => by cases e⟩
      split at h
      · obtain ⟨x1, l1, h1, h2⟩ := bind_ok h
        have := le h1; have := le h2; have := tl l; omega
      · cases h; exact Nat.le_refl _
    | un =>
      unfold run at h
      refine ⟨?_, fun e => by cases e⟩
      split at h
      · split at h
        · cases h
        · obtain ⟨x1, l1, h1, h2⟩ := bind_ok h
          cases h2
          have := le h1; have := tl l; omega
      · exact le h
    | prim =>
      unfold run at h
      refine ⟨?_, fun e => by cases e⟩
      split at h
      · obtain ⟨-, v, h1⟩ := number_ok h
        cases h1; exact tl l
      · split at h
        · obtain ⟨x1, l1, h1, h2⟩ := bind_ok h
          obtain ⟨-, h3⟩ := want_ok h2
          cases h3
          have := le h1; have := tl l; have := tl l1; omega
        · obtain ⟨-, h1⟩ := name_ok h
          have t1 := tl l; have t2 := tl l.tail
          split at h1
          · obtain ⟨x1, l1, h1, h2⟩ := bind_ok h1
            cases h2
            have := le h1; omega
          · split at h1
            · obtain ⟨x1, l1, h5, h2⟩ := bind_ok h1
              obtain ⟨-, h3⟩ := want_ok h2
              cases h3
              have := le h5; have := tl l1; omega
            · cases h1; omega
    | args =>
      unfold run at h
      refine ⟨?_, fun e => by cases e⟩
      split at h
      · cases h; exact tl l
      · exact le h
    | argl =>
      unfold run at h
      refine ⟨?_, fun e => by cases e⟩
      obtain ⟨x1, l1, h1, h2⟩ := bind_ok h
      have a1 := le h1; have a2 := tl l1
      split at h2
      · cases h2; omega
      · obtain ⟨-, h3⟩ := want_ok h2
        obtain ⟨x2, l2, h4, h5⟩ := bind_ok h3
        cases h5
        have := le h4; omega
    | blk =>
      unfold run at h
      refine ⟨?_, fun e => by cases e⟩
      split at h
      · cases h
      · obtain ⟨-, h1⟩ := want_ok h
        obtain ⟨x2, l2, h4, h5⟩ := bind_ok h1
        cases h5
        have := le h4; have := tl l; omega
    | stmts =>
      unfold run at h
      refine ⟨?_, fun e => by cases e⟩
      split at h
      · cases h; exact tl l
      · obtain ⟨x1, l1, h1, h2⟩ := bind_ok h
        obtain ⟨x2, l2, h4, h5⟩ := bind_ok h2
        cases h5
        have := le h1; have := le h4; omega
    | stmt =>
      have key : l'.length < l.length := by
        unfold run at h
        split at h
        · rename_i hk
          have t0 := tail_lt (l := l) (by omega)
          obtain ⟨-, h⟩ := name_ok h
          have t2 := tl l.tail
          split at h
          · obtain ⟨x1, l1, h1, h2⟩ := bind_ok h
            obtain ⟨-, h3⟩ := want_ok h2
            cases h3
            have := le h1; have := tl l1; omega
          · split at h
            · obtain ⟨x1, l1, h1, h2⟩ := bind_ok h
              obtain ⟨-, h3⟩ := want_ok h2
              obtain ⟨-, h3⟩ := want_ok h3
              obtain ⟨x2, l2, h4, h5⟩ := bind_ok h3
              obtain ⟨-, h5⟩ := want_ok h5
              cases h5
              have := le h1; have := tl l1; have := tl l1.tail; have := le h4; have := tl l2; omega
            · obtain ⟨-, h3⟩ := want_ok h
              obtain ⟨x2, l2, h4, h5⟩ := bind_ok h3
              obtain ⟨-, h5⟩ := want_ok h5
              cases h5
              have := le h4; have := tl l2; omega
        · split at h
          · rename_i hk
            have t0 := tail_lt (l := l) (by rw [is_k hk]; omega)
            obtain ⟨-, h⟩ := name_ok h
            obtain ⟨-, h⟩ := want_ok h
            obtain ⟨x2, l2, h4, h5⟩ := bind_ok h
            obtain ⟨-, h5⟩ := want_ok h5
            cases h5
            have := le h4; have := tl l2; have := tl l.tail; have := tl l.tail.tail; omega
          · split at h
            · rename_i hk
              have t0 := tail_lt (l := l) (by rw [is_k hk]; omega)
              obtain ⟨x2, l2, h4, h5⟩ := bind_ok h
              obtain ⟨-, h5⟩ := want_ok h5
              cases h5
              have := le h4; have := tl l2; omega
            · split at h
              · rename_i hk
                have t0 := tail_lt (l := l) (by rw [is_k hk]; omega)
                obtain ⟨x2, l2, h4, h5⟩ := bind_ok h
                obtain ⟨-, h5⟩ := want_ok h5
                cases h5
                have := le h4; have := tl l2; omega
              · split at h
                · rename_i hk
                  have t0 := tail_lt (l := l) (by rw [is_k hk]; omega)
                  obtain ⟨x2, l2, h4, h5⟩ := bind_ok h
                  obtain ⟨x3, l3, h6, h7⟩ := bind_ok h5
                  cases h7
                  have := le h4; have := le h6; omega
                · split at h
                  · rename_i hk
                    have t0 := tail_lt (l := l) (by rw [is_k hk]; omega)
                    obtain ⟨x2, l2, h4, h5⟩ := bind_ok h
                    obtain ⟨x3, l3, h6, h7⟩ := bind_ok h5
                    have a1 := le h4; have a2 := le h6; have a3 := tl l3
                    split at h7
                    · obtain ⟨x4, l4, h8, h9⟩ := bind_ok h7
                      cases h9
                      have := le h8; omega
                    · cases h7; omega
                  · cases h
      exact ⟨Nat.le_of_lt key, fun _ => key⟩
end Go.Lang
/- The plain lexer: a step at a time; what its tokens are. No condition. -/
namespace Go.Lang
set_option linter.unusedVariables false

theorem ofL_toList (s : ByteArray) : ofL s.data.toList = s := rfl
theorem toList_ofL (l : List UInt8) : (ofL l).data.toList = l := rfl
theorem ofL_size (l : List UInt8) : (ofL l).size = l.length := rfl
theorem ofL_inj {a b : List UInt8} (h : ofL a = ofL b) : a = b := by
  have := congrArg (fun s : ByteArray => s.data.toList) h
  exact this
theorem extract_ofL (l : List UInt8) (a b : Nat) : (ofL l).extract a b = ofL ((l.take b).drop a) := by
  have : ((ofL l).extract a b).data.toList = (l.take b).drop a := by
    rw [ByteArray.data_extract]
    simp [ofL, List.extract_eq_take_drop]
    rw [List.drop_take]
  rw [← this, ofL_toList]
theorem takeWhile_len {α : Type} (p : α → Bool) : ∀ (l : List α), (l.takeWhile p).length ≤ l.length
  | [] => by simp
  | a :: l => by
    rw [List.takeWhile_cons]
    split
    · simp; exact takeWhile_len p l
    · simp
theorem first_pos {s : List UInt8} (h : s ≠ []) : 1 ≤ (first s).2 ∧ ((first s).2 ≤ s.length) := by
  unfold first
  have hw : wordLen s ≤ s.length := takeWhile_len _ s
  split
  · split
    · rename_i h2
      refine ⟨by decide, ?_⟩
      have : ∀ x ∈ twos, x.length = 2 := by decide
      have h3 := this _ h2
      rw [List.length_take] at h3
      show 2 ≤ s.length
      omega
    · have : 1 ≤ s.length := List.length_pos_iff.2 h
      split <;> exact ⟨by decide, this⟩
  · rename_i n hn
    split
    · split <;> exact ⟨by simp, by show n + 1 ≤ s.length; omega⟩
    · split <;> exact ⟨by simp, by show n + 1 ≤ s.length; omega⟩
def lex (s : List UInt8) (line : Int) : List Tok := lexF s.length s line
theorem comment_lt {s : List UInt8} (h : s.take 2 = [47, 47]) : (s.dropWhile fun c => c ≠ 10).length < s.length := by
  match s, h with
  | a :: b :: r, h =>
    simp at h
    obtain ⟨rfl, rfl⟩ := h
    rw [List.dropWhile_cons_of_pos (by decide), List.dropWhile_cons_of_pos (by decide)]
    have := (List.dropWhile_suffix (l := r) (fun c : UInt8 => decide (c ≠ 10))).length_le
    simp only [List.length_cons]
    omega
theorem lexF_any : ∀ (n : Nat) (s : List UInt8) (f g : Nat) (line : Int), s.length ≤ n → s.length ≤ f → s.length ≤ g → lexF f s line = lexF g s line := by
  intro n
  induction n with
  | zero =>
    intro s f g line hn hf hg
    have : s = [] := List.eq_nil_of_length_eq_zero (by omega)
    subst this
    cases f <;> cases g <;> rfl
  | succ n ih =>
    intro s f g line hn hf hg
    cases s with
    | nil => cases f <;> cases g <;> rfl
    | cons c r =>
      simp only [List.length_cons] at hn hf hg
      match f, g, hf, hg with
      | f + 1, g + 1, hf, hg =>
      unfold lexF
      dsimp only
      have hd : ∀ (t : List UInt8) (line : Int), t.length ≤ r.length → lexF f t line = lexF g t line := fun t line h => ih t f g line (by omega) (by omega) (by omega)
      split
      · exact hd r _ (Nat.le_refl _)
      · split
        · exact hd r _ (Nat.le_refl _)
        · split
          · rename_i h2
            have := comment_lt h2
            simp only [List.length_cons] at this
            exact hd _ _ (by omega)
          · have := first_pos (s := c :: r) (by simp)
            rw [hd _ _ (by rw [List.length_drop]; simp only [List.length_cons]; omega)]
theorem lex_nil (line : Int) : lex [] line = [⟨0, ofL [], line⟩] := rfl
theorem lex_cons (c : UInt8) (r : List UInt8) (line : Int) : lex (c :: r) line = if c = 10 then lex r (line + 1) else if c = 32 ∨ c = 9 then lex r line
      else if (c :: r).take 2 = [47, 47] then lex ((c :: r).dropWhile fun c => c ≠ 10) line
      else ⟨(first (c :: r)).1, ofL ((c :: r).take (first (c :: r)).2), line⟩ :: lex ((c :: r).drop (first (c :: r)).2) line := by
  unfold lex
  rw [List.length_cons, lexF]
  split
  · rfl
  · split
    · rfl
    · split
      · rename_i h2
        have := comment_lt h2
        simp only [List.length_cons] at this
        exact lexF_any _ _ _ _ _ (Nat.le_refl _) (by omega) (Nat.le_refl _)
      · have := first_pos (s := c :: r) (by simp)
        rw [lexF_any _ _ _ _ _ (Nat.le_refl _) (by rw [List.length_drop]; simp only [List.length_cons]; omega) (Nat.le_refl _)]
/-! ### what the tokens are -/
def NumTok (t : Tok) : Prop := t.k = 2 → t.s.data.toList ≠ [] ∧ t.s.data.toList.all isD = true
theorem lex_ind : ∀ (n : Nat) (s : List UInt8) (line : Int), s.length ≤ n → (∃ l0 t, lex s line = l0 ++ [t] ∧ t.k = 0) ∧ (∀ t ∈ lex s line, NumTok t) ∧ (∀ t ∈ lex s line, t.s.size ≤ s.length) ∧ (lex s line).length ≤ s.length + 1 := by
  intro n
  induction n with
  | zero =>
    intro s line hn
    have : s = [] := List.eq_nil_of_length_eq_zero (by omega)
    subst this
    rw [lex_nil]
    exact ⟨⟨[], _, rfl, rfl⟩, (fun t ht => by simp at ht; subst ht; exact fun h => by cases h), (fun t ht => by simp at ht; subst ht; exact Nat.le_refl _), by simp⟩
  | succ n ih =>
    intro s line hn
    cases s with
    | nil =>
      rw [lex_nil]
      exact ⟨⟨[], _, rfl, rfl⟩, (fun t ht => by simp at ht; subst ht; exact fun h => by cases h), (fun t ht => by simp at ht; subst ht; exact Nat.le_refl _), by simp⟩
    | cons c r =>
      simp only [List.length_cons] at hn
      have sub : ∀ (u : List UInt8) (line : Int), u.length ≤ r.length → (∃ l0 t, lex u line = l0 ++ [t] ∧ t.k = 0) ∧ (∀ t ∈ lex u line, NumTok t) ∧ (∀ t ∈ lex u line, t.s.size ≤ (c :: r).length) ∧ (lex u line).length ≤ (c :: r).length := by
        intro u line hu
        obtain ⟨h1, h2, h3, h4⟩ := ih u line (by omega)
        exact ⟨h1, h2, (fun t ht => by have := h3 t ht; simp only [List.length_cons]; omega), by simp only [List.length_cons]; omega⟩
      rw [lex_cons]
      split
      · obtain ⟨h1, h2, h3, h4⟩ := sub r (line + 1) (Nat.le_refl _)
        exact ⟨h1, h2, h3, by omega⟩
      · split
        · obtain ⟨h1, h2, h3, h4⟩ := sub r line (Nat.le_refl _)
          exact ⟨h1, h2, h3, by omega⟩
        · split
          · rename_i hc
            have := comment_lt hc
            simp only [List.length_cons] at this
            obtain ⟨h1, h2, h3, h4⟩ := sub _ line (show ((c :: r).dropWhile fun c => c ≠ 10).length ≤ r.length by omega)
            exact ⟨h1, h2, h3, by omega⟩
          · have hf := first_pos (s := c :: r) (by simp)
            obtain ⟨⟨l0, t, h1, h1'⟩, h2, h3, h4⟩ := sub ((c :: r).drop (first (c :: r)).2) line (by rw [List.length_drop]; simp only [List.length_cons]; omega)
            refine ⟨⟨_ :: l0, t, by rw [h1]; rfl, h1'⟩, fun u hu => ?_, fun u hu => ?_, by simp only [List.length_cons] at h4 ⊢; omega⟩
            · rcases List.mem_cons.1 hu with rfl | hu
              · intro hk
                show (List.take _ _) ≠ [] ∧ (List.take _ _).all isD = true
                have hk : (first (c :: r)).1 = 2 := hk
                unfold first at hk ⊢
                split at hk
                · split at hk
                  · cases hk
                  · split at hk <;> cases hk
                · split at hk
                  · split at hk <;> cases hk
                  · rename_i m hm hl
                    split at hk
                    · rename_i ha
                      rw [if_neg hl, if_pos ha]
                      exact ⟨by simp, ha⟩
                    · cases hk
              · exact h2 u hu
            · rcases List.mem_cons.1 hu with rfl | hu
              · show (ofL _).size ≤ _
                rw [ofL_size, List.length_take]
                omega
              · exact h3 u hu
end Go.Lang
/- The small language in plain Lean: the checker, which finds what each name is. No condition. -/
namespace Go.Lang
set_option linter.unusedVariables false

/-- a global: a variable (its word, its size), or a function (its block, its parameters) -/
inductive Gl where
  | var (word size : Int)
  | fn (k np : Nat)
/-- what a check gives: an answer, or a line and an error -/
inductive C (α : Type) where
  | ok (x : α)
  | err (line e : Int)
def C.bind {α β : Type} : C α → (α → C β) → C β
  | .ok x, k => k x
  | .err l e, _ => .err l e
abbrev Lk := ByteArray → Option Gl
abbrev Lcs := List (ByteArray × Nat)
def localOf (Ls : Lcs) (s : ByteArray) : Int := match Ls.find? fun p => decide (p.1 = s) with
  | some p => (p.2 : Int)
  | none => -1
/-- a name of a single word -/
def cword (lk : Lk) (Ls : Lcs) (t : Tok) (w : Int) : C (Int × Int) :=
  if 0 ≤ localOf Ls t.s then .ok (localOf Ls t.s, w) else match lk t.s with
    | some (.var wd z) => if 0 < z then .err t.line 9 else .ok (localOf Ls t.s, wd)
    | _ => .err t.line 9
/-- a name of an array -/
def carr (lk : Lk) (Ls : Lcs) (t : Tok) : C (Int × Int) := match lk t.s with
  | some (.var wd z) => if z = 0 then .err t.line 9 else if 0 ≤ localOf Ls t.s then .err t.line 9 else .ok (wd, z)
  | _ => .err t.line 9
def T.len : T → Nat
  | .cons _ xs => xs.len + 1
  | _ => 0
def T.sz : T → Nat
  | .num .. => 1
  | .name .. => 1
  | .index _ _ _ p => p.sz + 1
  | .call _ _ xs => xs.sz + 1
  | .un _ x => x.sz + 1
  | .bin _ x y => x.sz + y.sz + 1
  | .nil => 1
  | .cons x xs => x.sz + xs.sz + 1
  | .letS _ _ _ _ x => x.sz + 2
  | .setS _ _ _ x => x.sz + 2
  | .putS _ _ _ p x => p.sz + x.sz + 2
  | .ifS _ c a b => c.sz + a.sz + b.sz + 1
  | .whileS _ c b => c.sz + b.sz + 1
  | .retS _ x => x.sz + 1
  | .prtS _ x => x.sz + 1
  | .doS _ x => x.sz + 1
  | .block _ l => l.sz + 1
/-- the line of an expression -/
def lineOf : T → Int
  | .name t _ _ => t.line
  | .index t _ _ _ => t.line
  | .call t _ _ => t.line
  | .un t _ => t.line
  | .bin t _ _ => t.line
  | _ => 0
/-- how many temporaries an expression needs; of a row, from a place on -/
def need : T → Nat → Nat
  | .index _ _ _ p, _ => need p 0
  | .call _ _ xs, _ => need xs 0
  | .un _ x, _ => need x 0
  | .bin t x y, _ => max (need x 0) (if t.s = ofL [38, 38] ∨ t.s = ofL [124, 124] then need y 0 else need y 0 + 1)
  | .cons x xs, k => max (need x 0 + k) (need xs (k + 1))
  | _, _ => 1
theorem need_le : ∀ (x : T) (k : Nat), need x k ≤ x.sz + k
  | .num .., k => by simp [need, T.sz]
  | .name .., k => by simp [need, T.sz]
  | .nil, k => by simp [need, T.sz]
  | .index _ _ _ p, k => by have := need_le p 0; simp only [need, T.sz]; omega
  | .call _ _ p, k => by have := need_le p 0; simp only [need, T.sz]; omega
  | .un _ p, k => by have := need_le p 0; simp only [need, T.sz]; omega
  | .bin t x y, k => by
    have h1 := need_le x 0
    have h2 := need_le y 0
    simp only [need, T.sz]
    split <;> omega
  | .cons x xs, k => by
    have h1 := need_le x 0
    have h2 := need_le xs (k + 1)
    simp only [need, T.sz]; omega
  | .letS .., k => by simp only [need, T.sz]; omega
  | .setS .., k => by simp only [need, T.sz]; omega
  | .putS .., k => by simp only [need, T.sz]; omega
  | .ifS .., k => by simp only [need, T.sz]; omega
  | .whileS .., k => by simp only [need, T.sz]; omega
  | .retS .., k => by simp only [need, T.sz]; omega
  | .prtS .., k => by simp only [need, T.sz]; omega
  | .doS .., k => by simp only [need, T.sz]; omega
  | .block .., k => by simp only [need, T.sz]; omega
/-- an expression's names -/
def cexp (lk : Lk) (Ls : Lcs) : T → C T
  | .name t s w => (cword lk Ls t w).bind fun p => .ok (.name t p.1 p.2)
  | .index t w z p => (carr lk Ls t).bind fun a => (cexp lk Ls p).bind fun p' => .ok (.index t a.1 a.2 p')
  | .call t f xs => match lk t.s with
    | some (.fn k np) => if 0 ≤ localOf Ls t.s then .err t.line 9 else if np ≠ xs.len then .err t.line 9 else (cexp lk Ls xs).bind fun xs' => .ok (.call t (some ⟨k, 0, none⟩) xs')
    | _ => .err t.line 9
  | .un t x => (cexp lk Ls x).bind fun x' => .ok (.un t x')
  | .bin t x y => (cexp lk Ls x).bind fun x' => (cexp lk Ls y).bind fun y' => .ok (.bin t x' y')
  | .cons x xs => (cexp lk Ls x).bind fun x' => (cexp lk Ls xs).bind fun xs' => .ok (.cons x' xs')
  | x => .ok x
/-- a whole expression, beside so many temporaries -/
def cwhole (lk : Lk) (Ls : Lcs) (x : T) (beside : Nat) : C T := (cexp lk Ls x).bind fun x' => if 8 < need x' 0 + beside then .err (lineOf x') 4 else .ok x'
/-- a new local; its slot -/
def cdecl (lk : Lk) (Ls : Lcs) (n : Nat) (line : Int) (s : ByteArray) : C (Lcs × Nat) :=
  if (lk s).isSome then .err line 9 else if 0 ≤ localOf Ls s then .err line 9 else if n = 24 then .err line 4 else .ok (Ls ++ [(s, n)], n + 1)
/-- a statement: what is visible behind it, how many slots there are -/
def cst (lk : Lk) : T → Lcs → Nat → C (T × Lcs × Nat)
  | .letS t nm s w x, Ls, n => (cwhole lk Ls x 0).bind fun x' => (cdecl lk Ls n t.line nm.s).bind fun p => .ok (.letS t nm (n : Int) w x', p.1, p.2)
  | .setS t s w x, Ls, n => (cword lk Ls t w).bind fun p => (cwhole lk Ls x 0).bind fun x' => .ok (.setS t p.1 p.2 x', Ls, n)
  | .putS t w z p x, Ls, n => (carr lk Ls t).bind fun a => (cwhole lk Ls p 0).bind fun p' => (cwhole lk Ls x 1).bind fun x' => .ok (.putS t a.1 a.2 p' x', Ls, n)
  | .ifS line c a b, Ls, n => (cwhole lk Ls c 0).bind fun c' => (cst lk a Ls n).bind fun a' => (cst lk b a'.2.1 a'.2.2).bind fun b' => .ok (.ifS line c' a'.1 b'.1, b'.2.1, b'.2.2)
  | .whileS line c b, Ls, n => (cwhole lk Ls c 0).bind fun c' => (cst lk b Ls n).bind fun b' => .ok (.whileS line c' b'.1, b'.2.1, b'.2.2)
  | .retS line x, Ls, n => (cwhole lk Ls x 0).bind fun x' => .ok (.retS line x', Ls, n)
  | .prtS line x, Ls, n => (cwhole lk Ls x 0).bind fun x' => .ok (.prtS line x', Ls, n)
  | .doS line x, Ls, n => (cwhole lk Ls x 0).bind fun x' => .ok (.doS line x', Ls, n)
  | .block line l, Ls, n => (cst lk l Ls n).bind fun l' => .ok (.block line l'.1, Ls, l'.2.2)
  | .cons x xs, Ls, n => (cst lk x Ls n).bind fun x' => (cst lk xs x'.2.1 x'.2.2).bind fun xs' => .ok (.cons x'.1 xs'.1, xs'.2.1, xs'.2.2)
  | x, Ls, n => .ok (x, Ls, n)
/-! ### sizes stay -/
theorem C.bind_ok {α β : Type} {r : C α} {k : α → C β} {y : β} (h : r.bind k = .ok y) : ∃ x, r = .ok x ∧ k x = .ok y := by
  cases r with
  | ok x => exact ⟨x, rfl, h⟩
  | err l e => cases h
theorem cexp_len (lk : Lk) (Ls : Lcs) : ∀ (x x' : T), cexp lk Ls x = .ok x' → x'.len = x.len ∧ x'.sz = x.sz
  | .num .., x', h => by cases h; exact ⟨rfl, rfl⟩
  | .nil, x', h => by cases h; exact ⟨rfl, rfl⟩
  | .name t s w, x', h => by obtain ⟨p, -, h⟩ := C.bind_ok h; cases h; exact ⟨rfl, rfl⟩
  | .index t w z p, x', h => by
    obtain ⟨a, -, h⟩ := C.bind_ok h
    obtain ⟨p', h1, h⟩ := C.bind_ok h
    cases h
    exact ⟨rfl, by simp only [T.sz, (cexp_len lk Ls p p' h1).2]⟩
  | .call t f xs, x', h => by
    rw [cexp] at h
    split at h
    · split at h
      · cases h
      · split at h
        · cases h
        · obtain ⟨p', h1, h⟩ := C.bind_ok h
          cases h
          exact ⟨rfl, by simp only [T.sz, (cexp_len lk Ls xs p' h1).2]⟩
    · cases h
  | .un t x, x', h => by
    obtain ⟨p', h1, h⟩ := C.bind_ok h
    cases h
    exact ⟨rfl, by simp only [T.sz, (cexp_len lk Ls x p' h1).2]⟩
  | .bin t x y, x', h => by
    obtain ⟨p', h1, h⟩ := C.bind_ok h
    obtain ⟨q', h2, h⟩ := C.bind_ok h
    cases h
    exact ⟨rfl, by simp only [T.sz, (cexp_len lk Ls x p' h1).2, (cexp_len lk Ls y q' h2).2]⟩
  | .cons x y, x', h => by
    obtain ⟨p', h1, h⟩ := C.bind_ok h
    obtain ⟨q', h2, h⟩ := C.bind_ok h
    cases h
    exact ⟨by simp only [T.len, (cexp_len lk Ls y q' h2).1], by simp only [T.sz, (cexp_len lk Ls x p' h1).2, (cexp_len lk Ls y q' h2).2]⟩
  | .letS .., x', h => by cases h; exact ⟨rfl, rfl⟩
  | .setS .., x', h => by cases h; exact ⟨rfl, rfl⟩
  | .putS .., x', h => by cases h; exact ⟨rfl, rfl⟩
  | .ifS .., x', h => by cases h; exact ⟨rfl, rfl⟩
  | .whileS .., x', h => by cases h; exact ⟨rfl, rfl⟩
  | .retS .., x', h => by cases h; exact ⟨rfl, rfl⟩
  | .prtS .., x', h => by cases h; exact ⟨rfl, rfl⟩
  | .doS .., x', h => by cases h; exact ⟨rfl, rfl⟩
  | .block .., x', h => by cases h; exact ⟨rfl, rfl⟩
end Go.Lang
