/- What must hold ahead of a piece of code, reckoned out of its text as one plain proposition over the world; and that it is enough. No condition. -/
import Derived.WalkKit
import Derived.ProofKit
import Derived.StillTail
import Derived.Deep.Quiet
import Derived.OrdersHeld
import Derived.Below
import Derived.Laws.MakeOwn
import Derived.Laws.Rows
import Derived.Scope
import Derived.Recover
import Derived.Test.YtojogkljneonmaaGreatDoorXHeap
import Derived.Test.YtojogkljneonmaaGreatDoorSxM
namespace Go.Sx
open Go.RowKit Go.XHeap
set_option linter.unusedVariables false

/-! ### frames -/
structure Fr where
  l : List (Nat × Value)
  f : Nat → Value
def look : List (Nat × Value) → (Nat → Value) → Nat → Value
  | [], f, t => f t
  | (u, v) :: r, f, t => bif Nat.beq u t then v else look r f t
def Fr.get (F : Fr) (t : Nat) : Value := look F.l F.f t
def Fr.put (F : Fr) (n : Nat) (d : Option Tmp) (v : Value) : Fr :=
  match d with
  | none => F
  | some d => bif Nat.blt d n then ⟨(d, v) :: F.l, F.f⟩ else F
def ev (F : Fr) : Operand → Value
  | .tmp t => F.get t
  | .const v => v
  | .global g => .pointer (some ⟨g, 0, none⟩)
  | .func f => .func (.func f) #[] #[]

/-! ### shapes: what a value of a type looks like -/
inductive Sh where
  | int (k : IntKind) | bool | str | ptr | slice | agg | map | any
def shOf (P : Program) (t : TypeId) : Sh :=
  match P.underlying t with
  | some (.int k) => .int k
  | some .bool => .bool
  | some .string => .str
  | some (.pointer _) => .ptr
  | some (.slice _) => .slice
  | some (.struct _) | some (.array _ _) => .agg
  | some (.map _ _) => .map
  | _ => .any
def Sh.ex : Sh → (Value → Prop) → Prop
  | .int k, φ => ∃ x : Int, φ (.int k x)
  | .bool, φ => ∃ b : Bool, φ (.bool b)
  | .str, φ => ∃ s : ByteArray, φ (.string s)
  | .ptr, φ => ∃ p : Option Addr, φ (.pointer p)
  | .slice, φ => ∃ (p : Option Addr) (n c : Nat), φ (.slice p n c)
  | .agg, φ => ∃ vs : Array Value, φ (.agg vs)
  | .map, φ => ∃ p : Option Nat, φ (.map p)
  | .any, φ => ∃ v : Value, φ v
def Sh.T : Sh → Type → Type
  | .int _, r => Int → r
  | .bool, r => Bool → r
  | .str, r => ByteArray → r
  | .ptr, r => Option Addr → r
  | .slice, r => Option Addr → Nat → Nat → r
  | .agg, r => Array Value → r
  | .map, r => Option Nat → r
  | .any, r => Value → r
/-- a function of the slots' contents and the world -/
def InvT : List (Nat × Sh) → Type → Type
  | [], r => World → r
  | (_, s) :: S, r => s.T (InvT S r)
def Sh.app {r : Type} : (s : Sh) → s.T r → Value → Option r
  | .int k, f, v => match v with | .int k' x => bif decide (k' = k) then some (f x) else none | _ => none
  | .bool, f, v => match v with | .bool x => some (f x) | _ => none
  | .str, f, v => match v with | .string x => some (f x) | _ => none
  | .ptr, f, v => match v with | .pointer x => some (f x) | _ => none
  | .slice, f, v => match v with | .slice x n c => some (f x n c) | _ => none
  | .agg, f, v => match v with | .agg x => some (f x) | _ => none
  | .map, f, v => match v with | .map x => some (f x) | _ => none
  | .any, f, v => some (f v)
def appO {r : Type} : (S : List (Nat × Sh)) → InvT S r → Fr → Option (World → r)
  | [], f, F => some f
  | (t, s) :: S, f, F => match s.app f (F.get t) with
    | some g => appO S g F
    | none => none
def holds (o : Option (World → Prop)) (w : World) : Prop := match o with | some p => p w | none => False
/-- for all contents of the slots of S: the two functions at them, and the frame that has them -/
def allS {r q : Type} : (S : List (Nat × Sh)) → InvT S r → InvT S q → List (Nat × Value) → ((World → r) → (World → q) → List (Nat × Value) → Prop) → Prop
  | [], f, g, l, κ => κ f g l
  | (t, .int k) :: S, f, g, l, κ => ∀ x : Int, allS S (f x) (g x) ((t, .int k x) :: l) κ
  | (t, .bool) :: S, f, g, l, κ => ∀ x : Bool, allS S (f x) (g x) ((t, .bool x) :: l) κ
  | (t, .str) :: S, f, g, l, κ => ∀ x : ByteArray, allS S (f x) (g x) ((t, .string x) :: l) κ
  | (t, .ptr) :: S, f, g, l, κ => ∀ x : Option Addr, allS S (f x) (g x) ((t, .pointer x) :: l) κ
  | (t, .slice) :: S, f, g, l, κ => ∀ (p : Option Addr) (n c : Nat), allS S (f p n c) (g p n c) ((t, .slice p n c) :: l) κ
  | (t, .agg) :: S, f, g, l, κ => ∀ x : Array Value, allS S (f x) (g x) ((t, .agg x) :: l) κ
  | (t, .map) :: S, f, g, l, κ => ∀ x : Option Nat, allS S (f x) (g x) ((t, .map x) :: l) κ
  | (t, .any) :: S, f, g, l, κ => ∀ x : Value, allS S (f x) (g x) ((t, x) :: l) κ

/-! ### small eliminations that a constructor decides -/
def ptr (p : Option Addr) (k : Addr → Prop) : Prop := match p with | some a => k a | none => False
def adr (p : Option Addr) (k : Nat → Nat → Prop) : Prop := match p with | some ⟨g, o, none⟩ => k g o | _ => False
/-- a pointer that is compared: known to be none -/
def whenNil (p : Option Addr) (φ : Prop) : Prop := match p with | none => φ | some _ => False
def asInt (v : Value) (k : IntKind → Int → Prop) : Prop := match v with | .int κ x => k κ x | _ => False
def asBool (v : Value) (k : Bool → Prop) : Prop := match v with | .bool b => k b | _ => False
def asPtr (v : Value) (k : Option Addr → Prop) : Prop := match v with | .pointer p => k p | _ => False
def asSlice (v : Value) (k : Option Addr → Nat → Nat → Prop) : Prop := match v with | .slice p n c => k p n c | _ => False
def asAgg (v : Value) (k : Array Value → Prop) : Prop := match v with | .agg vs => k vs | _ => False
def asMap (v : Value) (k : Option Nat → Prop) : Prop := match v with | .map p => k p | _ => False
def mapp (p : Option Nat) (k : Nat → Prop) : Prop := match p with | some b => k b | none => False
def zeroOf (P : Program) (e : TypeId) : Option Value := (P.info? e).bind (·.zero)
def mapOf (P : Program) (t : TypeId) : Option (IntKind × TypeId) := match P.underlying t with
  | some (.map kt e) => match P.underlying kt with
    | some (.int κ) => some (κ, e)
    | _ => none
  | _ => none
/-- a value of one cell -/
def one (v : Value) (k : Prop) : Prop := match v with
  | .agg _ | .tuple _ => False
  | .bool _ | .int _ _ | .float _ _ | .complex _ _ _ | .string _ | .pointer _ | .slice _ _ _ | .map _ | .chan _ | .func _ _ _ | .nilFunc | .iface _ _ | .nilIface => k
def split (b : Bool) (y n : Prop) : Prop := match b with | true => y | false => n
theorem split_of {b : Bool} {y n : Prop} (h1 : b = true → y) (h2 : b = false → n) : split b y n := by cases b; exact h2 rfl; exact h1 rfl
def Fr.know (F : Fr) : Operand → Bool → Fr
  | .tmp t, b => ⟨(t, .bool b) :: F.l, F.f⟩
  | _, _ => F
def isNil (v : Value) (k : Bool → Prop) : Prop := match v with | .nilIface => k true | .iface _ _ => k false | _ => False
/-- the method of this name behind an interface value is function f -/
def meth (P : Program) (v : Value) (name : String) (args : Array Value) (w : World) (f : FuncId) (all : Array Value) : Prop := (callMethod v name args).run P w = .ok (.enter f all) w
/-- a pointer, an interface value or a function that is there -/
def notNil (v : Value) (k : Value → Prop) : Prop := match v with
  | .pointer p => ptr p fun a => k (.pointer (some a))
  | .iface t p => k (.iface t p)
  | .func (.func f) a b => k (.func (.func f) a b)
  | _ => False
/-- the address of the part of a slice that begins at l -/
def sub (p : Option Addr) (m l size : Nat) : Option Addr := if m = l then p else p.map (·.add (l * size))

/-! ### operations that only read -/
/-- what a reading may lean on in a later world -/
def Keeps (w w' : World) : Prop := (∀ p v, w.cell? p = some v → w'.cell? p = some v) ∧ (∀ (b : Nat) es c, w.heap[b]? = some (Obj.map es c) → w'.heap[b]? = some (Obj.map es c)) ∧ (∀ p : Addr, p.block < w.heap.size → w'.frozen? p = w.frozen? p) ∧ ∀ (b : Nat) (o : Obj), w.heap[b]? = some o → w'.heap[b]? = some o
/-- an interface value that is asked for a type -/
def tagOf (v : Value) (T : TypeId) (yes : Value → Prop) (no : Prop) : Prop := match v with | .iface t p => split (Nat.beq t T) (yes p) no | .nilIface => no | _ => False
def isIf : Value → Bool | .iface _ _ => true | _ => false
def asStr (v : Value) (k : ByteArray → Prop) : Prop := match v with | .string s => k s | _ => False
def mapSOf (P : Program) (t : TypeId) : Option TypeId := match P.underlying t with
  | some (.map kt e) => match P.underlying kt with
    | some .string => some e
    | _ => none
  | _ => none
def vcAssert (P : Program) (t : TypeId) (ok : Bool) (v : Value) (k : Value → Prop) : Prop :=
  match P.underlying t with
  | some (.interface _) | none => False
  | some _ => match zeroOf P t with
    | some z => tagOf v t (fun p => (shOf P t).ex fun u => p = u ∧ k (match ok with | true => .tuple #[u, .bool true] | false => u)) (match ok with | true => k (.tuple #[z, .bool false]) | false => False)
    | none => False
def pureRun (P : Program) {α : Type} : Sem α → Option α
  | .pure a => some a
  | .program k => pureRun P (k P)
  | .mark _ k => pureRun P k
  | _ => none
def vcPure (P : Program) (s : Sem Next) (k : Value → Prop) : Prop := match pureRun P s with | some (.value v) => k v | _ => False
def cellsAt (w : World) (a : Addr) (vs : Array Value) : Prop := ∀ i v, vs[i]? = some v → w.cell? (a.add i) = some v
def loadTyped (s : Sh) (w : World) (a : Addr) (k : Value → Prop) : Prop := match s with
  | .int κ => ∃ x : Int, w.cell? a = some (.int κ x) ∧ k (.int κ x)
  | .bool => ∃ x : Bool, w.cell? a = some (.bool x) ∧ k (.bool x)
  | .str => ∃ x : ByteArray, w.cell? a = some (.string x) ∧ k (.string x)
  | .ptr => ∃ x : Option Addr, w.cell? a = some (.pointer x) ∧ k (.pointer x)
  | .slice => ∃ (p : Option Addr) (n c : Nat), w.cell? a = some (.slice p n c) ∧ k (.slice p n c)
  | .agg => False
  | .map => ∃ p : Option Nat, w.cell? a = some (.map p) ∧ k (.map p)
  | .any => ∃ v : Value, w.cell? a = some v ∧ k v
def vcLoad (P : Program) (t : TypeId) (v : Value) (w : World) (k : Value → Prop) : Prop :=
  asPtr v fun p => ptr p fun a => bif (P.underlying t).isSome then match shOf P t with
    | .agg => ∃ vs : Array Value, vs.size = P.cellsOf t ∧ cellsAt w a vs ∧ k (.agg vs)
    | s => loadTyped s w a k
  else False
def getTyped (s : Sh) (vs : Array Value) (off size : Nat) (k : Value → Prop) : Prop := match s with
  | .agg => ∃ us : Array Value, vs.extract off (off + size) = us ∧ k (.agg us)
  | .int κ => ∃ x : Int, vs[off]? = some (.int κ x) ∧ k (.int κ x)
  | .bool => ∃ x : Bool, vs[off]? = some (.bool x) ∧ k (.bool x)
  | .str => ∃ x : ByteArray, vs[off]? = some (.string x) ∧ k (.string x)
  | .ptr => ∃ x : Option Addr, vs[off]? = some (.pointer x) ∧ k (.pointer x)
  | .slice => ∃ (p : Option Addr) (n c : Nat), vs[off]? = some (.slice p n c) ∧ k (.slice p n c)
  | .map => ∃ p : Option Nat, vs[off]? = some (.map p) ∧ k (.map p)
  | .any => ∃ v : Value, vs[off]? = some v ∧ k v
def named (κ : IntKind) (e : Int) (k : Value → Prop) : Prop := ∀ z : Int, z = e → k (.int κ z)
def isConst : Operand → Bool | .const _ => true | _ => false
def vcEq (P : Program) (op : BinOp) (t : TypeId) (ox oy : Operand) (x y : Value) (pos : Bool) (k : Value → Prop) (dflt : Prop) : Prop :=
  match y with
  | .nilIface => match P.underlying t with
    | some (.interface _) => bif isConst oy then isNil x fun b => k (.bool (bif pos then b else !b)) else False
    | _ => False
  | .pointer q => asPtr x fun p => match P.underlying t with
    | some (.pointer _) => whenNil q (k (.bool (bif pos then p.isNone else p.isSome)))
    | _ => False
  | .slice none _ _ => asSlice x fun p _ _ => match P.underlying t with
    | some (.slice _) => k (.bool (bif pos then p.isNone else p.isSome))
    | _ => False
  | .agg ys => asAgg x fun xs => ∃ b : Bool, (∀ w : World, (do eqGuard op t ox oy (.agg xs) (.agg ys); binOp op t (.agg xs) (.agg ys) : Sem Value).run P w = .ok (.bool b) w) ∧ k (.bool b)
  | _ => dflt
def vcBin (P : Program) (op : BinOp) (t : TypeId) (ox oy : Operand) (x y : Value) (k : Value → Prop) (dflt : Prop) : Prop :=
  match op with
  | .add => match x, y with
    | .int κ a, .int κ' b => bif decide (κ = κ') then named κ (κ.wrap (a + b)) k else False
    | .string a, .string b => ((a.size + b.size : Nat) : Int) ≤ 9223372036854775807 ∧ ∀ z : ByteArray, z = a ++ b → k (.string z)
    | _, _ => dflt
  | .sub => match x, y with
    | .int κ a, .int κ' b => bif decide (κ = κ') then named κ (κ.wrap (a - b)) k else False
    | _, _ => dflt
  | .mul => match x, y with
    | .int κ a, .int κ' b => bif decide (κ = κ') then named κ (κ.wrap (a * b)) k else False
    | _, _ => dflt
  | .quo => asInt x fun κ a => asInt y fun κ' b => bif decide (κ = κ') then b ≠ 0 ∧ named κ (κ.wrap (a.tdiv b)) k else False
  | .rem => asInt x fun κ a => asInt y fun κ' b => bif decide (κ = κ') then b ≠ 0 ∧ named κ (a.tmod b) k else False
  | .and => asInt x fun κ a => asInt y fun κ' b => bif decide (κ = κ') then named κ (κ.wrap (BitVec.ofInt κ.bits a &&& BitVec.ofInt κ.bits b).toNat) k else False
  | .or => asInt x fun κ a => asInt y fun κ' b => bif decide (κ = κ') then named κ (κ.wrap (BitVec.ofInt κ.bits a ||| BitVec.ofInt κ.bits b).toNat) k else False
  | .xor => asInt x fun κ a => asInt y fun κ' b => bif decide (κ = κ') then named κ (κ.wrap (BitVec.ofInt κ.bits a ^^^ BitVec.ofInt κ.bits b).toNat) k else False
  | .andNot => asInt x fun κ a => asInt y fun κ' b => bif decide (κ = κ') then named κ (κ.wrap (BitVec.ofInt κ.bits a &&& ~~~ BitVec.ofInt κ.bits b).toNat) k else False
  | .shl => asInt x fun κ a => asInt y fun _ b => 0 ≤ b ∧ named κ (κ.wrap (a * 2 ^ min b.toNat κ.bits)) k
  | .shr => asInt x fun κ a => asInt y fun _ b => 0 ≤ b ∧ named κ (a.fdiv (2 ^ min b.toNat κ.bits)) k
  | .eql => vcEq P op t ox oy x y true k dflt
  | .neq => vcEq P op t ox oy x y false k dflt
  | _ => dflt
def there (P : Program) (t : TypeId) : Bool := (P.info? t).isSome && (P.underlying t).isSome
def elemOf (P : Program) (t : TypeId) : Option (Option Nat × TypeId) :=
  match P.underlying t with
  | some (.array n e) => bif there P e then some (some n, e) else none
  | some (.slice e) => bif there P e then some (none, e) else none
  | _ => none
def fieldOf (P : Program) (t : TypeId) (f : Nat) : Option Field :=
  match P.underlying t with
  | some (.struct fs) => match fs[f]? with
    | some fd => bif there P fd.type then some fd else none
    | none => none
  | _ => none
def bnd (x : Option Value) (d : Nat) (k : Nat → Prop) : Prop := match x with
  | none => k d
  | some v => asInt v fun _ i => 0 ≤ i ∧ k i.toNat
def vcSliceOf (P : Program) (p : Option Addr) (len cap size : Nat) (lo hi mx : Option Value) (k : Value → Prop) : Prop :=
  match lo, hi, mx with
  | none, none, none => k (.slice p len cap)
  | none, some h, none => asInt h fun _ h => (0 ≤ h ∧ h ≤ cap) ∧ k (.slice p h.toNat cap)
  | some l, none, none => asInt l fun _ l => (0 ≤ l ∧ l ≤ len) ∧ k (.slice (sub p cap l.toNat size) (len - l.toNat) (cap - l.toNat))
  | some l, some h, none => asInt l fun _ l => asInt h fun _ h => (0 ≤ l ∧ l ≤ h ∧ h ≤ cap) ∧ k (.slice (sub p cap l.toNat size) (h.toNat - l.toNat) (cap - l.toNat))
  | some l, some h, some m => asInt l fun _ l => asInt h fun _ h => asInt m fun _ m => (0 ≤ l ∧ l ≤ h ∧ h ≤ m ∧ m ≤ cap) ∧ k (.slice (sub p m.toNat l.toNat size) (h.toNat - l.toNat) (m.toNat - l.toNat))
  | _, _, _ => False
/-- the cells of a literal, part by part: sizes of the parts, their numbers from j on, the zero value's cells -/
def asm : List Nat → Nat → List Value → List (Nat × Value) → (List Value → Prop) → Prop
  | [], _, _, _, κ => κ []
  | n :: ns, j, z, parts, κ => match parts.find? (fun q => Nat.beq q.1 j) with
    | some (_, .agg vs) => vs.size = n ∧ asm ns (j + 1) (z.drop n) parts fun r => κ (vs.toList ++ r)
    | some (_, v) => bif Nat.beq n 1 then asm ns (j + 1) (z.drop n) parts fun r => κ (v :: r) else False
    | none => asm ns (j + 1) (z.drop n) parts fun r => κ (z.take n ++ r)
/-- the same; of each part it is known whether it is an aggregate -/
def asmG : List (Nat × Bool) → Nat → List Value → List (Nat × Value) → (List Value → Prop) → Prop
  | [], _, _, _, κ => κ []
  | (n, g) :: ns, j, z, parts, κ => match parts.find? (fun q => Nat.beq q.1 j) with
    | some (_, v) => match g with
      | true => asAgg v fun vs => vs.size = n ∧ asmG ns (j + 1) (z.drop n) parts fun r => κ (vs.toList ++ r)
      | false => bif Nat.beq n 1 then one v (asmG ns (j + 1) (z.drop n) parts fun r => κ (v :: r)) else False
    | none => asmG ns (j + 1) (z.drop n) parts fun r => κ (z.take n ++ r)
def isA : Sh → Bool | .agg => true | _ => false
/-- strictly rising numbers below n -/
def rising : Nat → Nat → List Nat → Bool
  | n, _, [] => true
  | n, lo, i :: r => Nat.ble lo i && Nat.blt i n && rising n (i + 1) r
def offsetsOk : Nat → List Nat → List Nat → Bool
  | _, [], [] => true
  | a, o :: os, n :: ns => Nat.beq o a && offsetsOk (a + n) os ns
  | _, _, _ => false
def setK : List Value → Nat → Value → (List Value → Prop) → Prop
  | [], _, _, _ => False
  | _ :: r, 0, v, κ => κ (v :: r)
  | a :: r, n + 1, v, κ => setK r n v fun r' => κ (a :: r')
/-- parts of one cell each, in any order -/
def putL (place : Nat → Option (Nat × Nat)) : List Value → List (Nat × Value) → (List Value → Prop) → Prop
  | z, [], κ => κ z
  | z, (i, v) :: r, κ => match place i with
    | some (off, sz) => bif Nat.beq sz 1 then one v (setK z off v fun z' => putL place z' r κ) else False
    | none => False
def vcBuild (P : Program) (t : TypeId) (parts : List (Nat × Value)) (k : Value → Prop) : Prop :=
  match P.info? t with
  | some i => match i.zero with
    | some (.agg z) => match P.underlying t with
      | some (.struct fs) => bif rising fs.size 0 (parts.map (·.1)) && offsetsOk 0 (fs.toList.map (·.offset)) (fs.toList.map fun f => P.cellsOf f.type) && Nat.beq z.size ((fs.toList.map fun f => P.cellsOf f.type).foldr (· + ·) 0) && fs.toList.all (fun f => there P f.type) then
          asmG (fs.toList.map fun f => (P.cellsOf f.type, isA (shOf P f.type))) 0 z.toList parts fun cs => ∀ vs : Array Value, vs = cs.toArray → k (.agg vs)
        else bif fs.toList.all (fun f => there P f.type) then putL (fun j => (fs.toList[j]?).map fun f => (f.offset, P.cellsOf f.type)) z.toList parts fun cs => ∀ vs : Array Value, vs = cs.toArray → k (.agg vs) else False
      | some (.array n e) => bif rising n 0 (parts.map (·.1)) && Nat.beq z.size (n * P.cellsOf e) && there P e then
          asmG (List.replicate n (P.cellsOf e, isA (shOf P e))) 0 z.toList parts fun cs => ∀ vs : Array Value, vs = cs.toArray → k (.agg vs) else False
      | _ => False
    | _ => False
  | none => False
def vcLook (P : Program) (t : TypeId) (m key : Value) (ok : Bool) (w : World) (k : Value → Prop) : Prop :=
  match mapOf P t with
  | some (κ, e) => match zeroOf P e with
    | some z => asMap m fun p => mapp p fun b => asInt key fun κ' x => bif decide (κ' = κ) then ∃ f : Int → Option Value, Mp w κ b f ∧ (shOf P e).ex fun v => (f x).getD z = v ∧ k (match ok with | true => .tuple #[v, .bool (f x).isSome] | false => v) else False
    | none => False
  | none => match mapSOf P t with
    | some e => match zeroOf P e with
      | some z => asMap m fun p => mapp p fun b => asStr key fun x => ∃ f : ByteArray → Option Value, MpS w b f ∧ (shOf P e).ex fun v => (f x).getD z = v ∧ k (match ok with | true => .tuple #[v, .bool (f x).isSome] | false => v)
      | none => False
    | none => False
/-- a string's bytes, and bytes that lie behind a slice -/
def bstr (l : List Int) : ByteArray := l.foldl (fun r n => r.push (UInt8.ofNat n.toNat)) ByteArray.empty
def Bts (w : World) (p : Option Addr) (n : Nat) (l : List Int) : Prop := l.length = n ∧ (0 < n → ∃ g off, p = some ⟨g, off, none⟩ ∧ ∀ i x, l[i]? = some x → w.cell? ⟨g, off + i, none⟩ = some (.int .u8 x))
def vcStr (P : Program) (s : TypeId) (v : Value) (w : World) (k : Value → Prop) : Prop :=
  match P.underlying s with
  | some (.slice e) => match shOf P e with
    | .int κ => bif decide (κ = .u8) then asSlice v fun p n c => ∃ l : List Int, Bts w p n l ∧ k (.string (bstr l)) else False
    | _ => False
  | _ => False
def binOpS (op : BinOp) (t : TypeId) (ox oy : Operand) (x y : Value) : Sem Value := do eqGuard op t ox oy x y; binOp op t x y
def vcRead (P : Program) (o : Oper) (F : Fr) (w : World) (k : Value → Prop) : Prop :=
  match o.op with
  | .move x | .assign x => k (ev F x)
  | .pick c a b => asBool (ev F c) fun t => split t (k (ev F a)) (k (ev F b))
  | .load t a => vcLoad P t (ev F a) w k
  | .nilCheck x => notNil (ev F x) k
  | .binOp op t x y _ => match shOf P t with
    | .any => bif isIf (ev F y) then ∃ b : Bool, (∀ w' : World, Keeps w w' → (binOpS op t x y (ev F x) (ev F y)).run P w' = .ok (.bool b) w') ∧ k (.bool b) else vcBin P op t x y (ev F x) (ev F y) k (vcPure P (execOp (ev F) o) k)
    | _ => vcBin P op t x y (ev F x) (ev F y) k (vcPure P (execOp (ev F) o) k)
  | .convert s d x => match shOf P s, shOf P d with
    | .int _, .int κ => asInt (ev F x) fun _ n => named κ (κ.wrap n) k
    | .slice, .str => vcStr P s (ev F x) w k
    | _, _ => vcPure P (execOp (ev F) o) k
  | .fieldAddr t x f => match fieldOf P t f with
    | some fd => bif Nat.beq (P.cellsOf fd.type) 0 then False else asPtr (ev F x) fun p => ptr p fun a => k (.pointer (some (a.add fd.offset)))
    | none => False
  | .field t x f => match fieldOf P t f with
    | some fd => asAgg (ev F x) fun vs => getTyped (shOf P fd.type) vs fd.offset (P.cellsOf fd.type) k
    | none => False
  | .indexAddr t x i => match elemOf P t with
    | some (some n, e) => asPtr (ev F x) fun p => asInt (ev F i) fun _ i => (0 ≤ i ∧ i < n) ∧ adr p fun g off => k (.pointer (some ⟨g, off + i.toNat * P.cellsOf e, none⟩))
    | some (none, e) => asSlice (ev F x) fun p n c => asInt (ev F i) fun _ i => (0 ≤ i ∧ i < n) ∧ adr p fun g off => k (.pointer (some ⟨g, off + i.toNat * P.cellsOf e, none⟩))
    | none => False
  | .index t x i => match elemOf P t with
    | some (some n, e) => asAgg (ev F x) fun vs => asInt (ev F i) fun _ i => (0 ≤ i ∧ i < n) ∧ getTyped (shOf P e) vs (i.toNat * P.cellsOf e) (P.cellsOf e) k
    | _ => match P.underlying t with
      | some .string => match ev F x with
        | .string s => asInt (ev F i) fun _ i => ∃ b : UInt8, 0 ≤ i ∧ s[i.toNat]? = some b ∧ k (.int .u8 b.toNat)
        | _ => False
      | _ => False
  | .slice t x lo hi mx => match P.underlying t with
    | some (.slice e) => asSlice (ev F x) fun p n c => bif there P e then vcSliceOf P p n c (P.cellsOf e) (lo.map (ev F)) (hi.map (ev F)) (mx.map (ev F)) k else False
    | some (.array n e) => asPtr (ev F x) fun p => ptr p fun a => bif there P e then vcSliceOf P (some a) n n (P.cellsOf e) (lo.map (ev F)) (hi.map (ev F)) (mx.map (ev F)) k else False
    | some .string => match ev F x, mx with
      | .string s, none => bnd (lo.map (ev F)) 0 fun l => bnd (hi.map (ev F)) s.size fun h => (l ≤ h ∧ h ≤ s.size) ∧ k (.string (s.extract l h))
      | _, _ => False
    | _ => False
  | .build t parts => vcBuild P t (parts.toList.map fun (j, x) => (j, ev F x)) k
  | .lookup t x ix ok => vcLook P t (ev F x) (ev F ix) ok w k
  | .sliceToArrayPointer t x => match P.underlying t with
    | some (.array n e) => asSlice (ev F x) fun p len c => n ≤ len ∧ k (.pointer p)
    | _ => False
  | .typeAssert x _ t ok => vcAssert P t ok (ev F x) k
  | _ => vcPure P (execOp (ev F) o) k

/-! ### operations that make memory, write it, or call -/
def vcNew (w : World) (cells : Array Value) (e : TypeId) (k : Nat → World → Prop) : Prop := ∀ (b : Nat) (w' : World), b = w.heap.size → w' = w.alloc (.cells cells e) → k b w'
def vcStore (P : Program) (t : TypeId) (v x : Value) (w : World) (k : World → Prop) : Prop :=
  asPtr v fun p => ptr p fun a => match shOf P t with
    | .agg => adr (some a) fun g off => asAgg x fun vs => vs.size = P.cellsOf t ∧ (∀ j : Nat, j < P.cellsOf t → (∃ u, w.cell? ⟨g, off + j, none⟩ = some u) ∧ w.frozen? ⟨g, off + j, none⟩ = false) ∧ (∀ v ∈ vs.toList, v.oneCell' = true) ∧ ∀ w' : World, w' = w.setCells g off vs.toList → k w'
    | _ => bif Nat.beq (P.cellsOf t) 1 then one x ((∃ u, w.cell? a = some u) ∧ w.frozen? a = false ∧ ∀ w' : World, w' = w.setCell a x → k w') else False
def exRet (P : Program) : List TypeId → List Value → (Value → Prop) → Prop
  | [], [], φ => φ (.tuple #[])
  | [t], [], φ => (shOf P t).ex φ
  | [], acc, φ => φ (.tuple acc.toArray)
  | t :: ts, acc, φ => (shOf P t).ex fun v => exRet P ts (acc ++ [v]) φ
/-- pk: the functions that may end in a panic; Z: what then must hold -/
def vcEnter (P : Program) (pk : List Nat) (Z : List PanicEntry → World → Prop) (f : FuncId) (args : Array Value) (w : World) (k : Value → World → Prop) : Prop :=
  match P.funcs[f]? with
  | some fn => bif fn.body.isSome && fn.name != "runtime.NumGoroutine" then bif pk.any (Nat.beq (f + 1000000)) then Calls P f args w fun e w' => ∃ c : List PanicEntry, e = .panicked c ∧ Z c w' else bif pk.any (Nat.beq f) then Calls P f args w fun e w' => (exRet P fn.resultTypes.toList [] fun v => e = .returned v ∧ k v w') ∨ ∃ c : List PanicEntry, e = .panicked c ∧ Z c w'
      else Calls P f args w fun e w' => exRet P fn.resultTypes.toList [] fun v => e = .returned v ∧ k v w' else False
  | none => False
def vcAppend (P : Program) (t : TypeId) (s x : Value) (w : World) (k : Value → World → Prop) : Prop :=
  match P.underlying t with
  | some (.slice e) => match P.info? e with
    | some i => match i.zero with
      | some z => bif Nat.beq z.cells.size i.size && Nat.blt 0 i.size then asSlice s fun p n c => asSlice x fun q m d =>
    ∃ olds news : List Value, Sl w e (P.cellsOf e) (.slice p n c) n olds ∧ ((m = 0 ∧ q = none) ∨ ∃ a, q = some a ∧ ∀ j u, news[j]? = some u → w.cell? (a.add j) = some u) ∧ news.length = m * P.cellsOf e ∧ (∀ u ∈ news, u.oneCell' = true) ∧ n + m ≤ maxLen ∧ (n + m) * P.bytesOf e ≤ 140737488355328 ∧
      ∀ (p' : Option Addr) (c' : Nat) (w' : World), Sl w' e (P.cellsOf e) (.slice p' (n + m) c') (n + m) (olds ++ news) → XTouch (fun b => (Value.slice p n c).ownBlock = some b) w w' → (∀ b, (Value.slice p' (n + m) c').ownBlock = some b → (Value.slice p n c).ownBlock = some b ∨ w.heap.size ≤ b) → Sl w' e (P.cellsOf e) (.slice p n c) n olds → ((p' = p ∧ c' = c) ∨ ((NilP p ∨ c < n + m) ∧ ∀ b, (Value.slice p' (n + m) c').ownBlock = some b → w.heap.size ≤ b)) → k (.slice p' (n + m) c') w' else False
      | none => False
    | none => False
  | _ => False
/-- 'append' of a row of zeros (append(s, make(..)...)) -/
def vcAppendZ (P : Program) (t t' : TypeId) (s x : Value) (w : World) (k : Value → World → Prop) : Prop :=
  match P.underlying t with
  | some (.slice e) => match P.underlying t' with
    | some (.int _) => match P.info? e with
      | some i => match i.zero with
        | some z => match z.cells.toList with
          | [u] => bif u.oneCell' && Nat.beq i.size 1 then asSlice s fun p n c => asInt x fun _ l =>
    ∃ olds : List Value, Sl w e 1 (.slice p n c) n olds ∧ (0 ≤ l ∧ n + l.toNat ≤ maxLen ∧ (n + l.toNat) * P.bytesOf e ≤ 140737488355328) ∧
      ∀ (p' : Option Addr) (c' : Nat) (w' : World), Sl w' e 1 (.slice p' (n + l.toNat) c') (n + l.toNat) (olds ++ List.replicate l.toNat u) → XTouch (fun b => (Value.slice p n c).ownBlock = some b) w w' → (∀ b, (Value.slice p' (n + l.toNat) c').ownBlock = some b → (Value.slice p n c).ownBlock = some b ∨ w.heap.size ≤ b) → k (.slice p' (n + l.toNat) c') w' else False
          | _ => False
        | none => False
      | none => False
    | _ => False
  | _ => False
def setRow (p : Option Addr) (w : World) (vs : List Value) : World := match p with | some a => w.setCells a.block a.off vs | none => w
def vcCopy (P : Program) (t : TypeId) (s x : Value) (w : World) (k : Value → World → Prop) : Prop :=
  match P.underlying t with
  | some (.slice e) => bif there P e then asSlice s fun p n c => asSlice x fun q m d =>
      ∃ news : List Value, news.length = Nat.min m n * P.cellsOf e ∧ (∀ u ∈ news, u.oneCell' = true) ∧
        (news = [] ∨ ((∃ a : Addr, q = some a ∧ ∀ j u, news[j]? = some u → w.cell? (a.add j) = some u) ∧
          ∃ g o : Nat, p = some ⟨g, o, none⟩ ∧ ∀ j : Nat, j < news.length → (∃ u, w.cell? ⟨g, o + j, none⟩ = some u) ∧ w.frozen? ⟨g, o + j, none⟩ = false)) ∧
        ∀ w' : World, w' = setRow p w news → k (.int .i64 (Nat.min m n : Nat)) w'
    else False
  | _ => False
def vcClear (P : Program) (t : TypeId) (x : Value) (w : World) (k : Value → World → Prop) : Prop :=
  match P.underlying t with
  | some (.slice e) => match P.info? e with
    | some i => match i.zero with
      | some z => match z.cells.toList with
        | [u] => bif u.oneCell' then asSlice x fun p n c =>
            (n = 0 ∨ ∃ g o : Nat, p = some ⟨g, o, none⟩ ∧ ∀ j : Nat, j < n → (∃ v, w.cell? ⟨g, o + j, none⟩ = some v) ∧ w.frozen? ⟨g, o + j, none⟩ = false) ∧
              ∀ w' : World, w' = setRow p w (List.replicate n u) → k (.tuple #[]) w'
          else False
        | _ => False
      | none => False
    | none => False
  | _ => False
def vcMake (P : Program) (t : TypeId) (l c : Value) (w : World) (k : Value → World → Prop) : Prop :=
  match P.underlying t with
  | some (.slice e) => match P.info? e with
    | some i => match i.zero with
      | some z => asInt l fun _ l => asInt c fun _ c => (0 ≤ l ∧ l ≤ c ∧ c ≤ 9223372036854775807 ∧ (i.bytes : Int) * c ≤ 281474976710656) ∧ vcNew w (madeCells z.cells (c.toNat * i.size)) e fun b w' => k (.slice (some ⟨b, 0, none⟩) l.toNat c.toNat) w'
      | none => False
    | none => False
  | _ => False
def vcPut (P : Program) (t : TypeId) (m key v : Value) (w : World) (k : World → Prop) : Prop :=
  match mapOf P t with
  | some (κ, e) => asMap m fun p => mapp p fun b => asInt key fun κ' x => bif decide (κ' = κ) then ∃ f : Int → Option Value, Mp w κ b f ∧ ∀ w' : World, Mp w' κ b (upd f x (some v)) → XTouch (fun q => q = b) w w' → k w' else False
  | none => match mapSOf P t with
    | some e => asMap m fun p => mapp p fun b => asStr key fun x => ∃ f : ByteArray → Option Value, MpS w b f ∧ ∀ w' : World, MpS w' b (updS f x (some v)) → XTouch (fun q => q = b) w w' → k w'
    | none => False
def vcDel (P : Program) (t : TypeId) (m key : Value) (w : World) (k : World → Prop) : Prop :=
  match mapOf P t with
  | some (κ, e) => asMap m fun p => mapp p fun b => asInt key fun κ' x => bif decide (κ' = κ) then ∃ f : Int → Option Value, Mp w κ b f ∧ ∀ w' : World, Mp w' κ b (upd f x none) → XTouch (fun q => q = b) w w' → k w' else False
  | none => False
def vcOp (P : Program) (pk : List Nat) (Z : List PanicEntry → World → Prop) (o : Oper) (F : Fr) (w : World) (k : Value → World → Prop) : Prop :=
  match o.op with
  | .store t a x => vcStore P t (ev F a) (ev F x) w (k undef)
  | .alloc e => match P.info? e with
    | some i => match i.zero with
      | some z => vcNew w z.cells e fun b w' => k (.pointer (some ⟨b, 0, none⟩)) w'
      | none => False
    | none => False
  | .box e x => vcNew w (ev F x).cells e fun b w' => k (.pointer (some ⟨b, 0, none⟩)) w'
  | .makeSlice t l c => vcMake P t (ev F l) (ev F c) w k
  | .makeMap t none => ∀ (b : Nat) (w' : World), b = w.heap.size → w' = w.alloc (.map #[] 0) → k (.map (some b)) w'
  | .mapUpdate t m x v => vcPut P t (ev F m) (ev F x) (ev F v) w (k undef)
  | .buildSlice t len parts => match P.underlying t with
    | some (.slice e) => match P.info? e with
      | some i => match i.zero with
        | some z => bif Nat.ble (len * i.size) 16777216 && rising len 0 (parts.toList.map (·.1)) then asmG (List.replicate len (i.size, isA (shOf P e))) 0 ((Array.range (len * i.size)).map (z.cells[· % z.cells.size]!)).toList (parts.toList.map fun (j, x) => (j, ev F x)) fun cs =>
            vcNew w cs.toArray e fun b w' => k (.slice (some ⟨b, 0, none⟩) len len) w'
          else False
        | none => False
      | none => False
    | _ => False
  | .call c => match c.callee with
    | .builtin .append => match c.args.toList, c.argTypes.toList with
      | [s, x], [t, t'] => bif Nat.beq t t' then vcAppend P t (ev F s) (ev F x) w k else vcAppendZ P t t' (ev F s) (ev F x) w k
      | _, _ => False
    | .builtin .copy => match c.args.toList, c.argTypes.toList with
      | [s, x], t :: _ => vcCopy P t (ev F s) (ev F x) w k
      | _, _ => False
    | .builtin .delete => match c.args.toList, c.argTypes.toList with
      | [m, x], t :: _ => vcDel P t (ev F m) (ev F x) w (k (.tuple #[]))
      | _, _ => False
    | .builtin .clear => match c.args.toList, c.argTypes.toList with
      | [x], t :: _ => vcClear P t (ev F x) w k
      | _, _ => False
    | .builtin _ => vcPure P (execOp (ev F) o) fun v => k v w
    | .value x => match ev F x with
      | .func (.func f) first captured => vcEnter P pk Z f (first ++ c.args.map (ev F) ++ captured) w k
      | _ => False
    | .invoke r name => ∃ (f : FuncId) (args : Array Value), meth P (ev F r) name (c.args.map (ev F)) w f args ∧ Calls P f args w fun e w' => (shOf P o.type).ex fun v => e = .returned v ∧ k v w'
  | .panic x => match ev F x with
    | .iface t v => Z [{ v := .iface t v, recovered := false }] w
    | _ => False
  | _ => vcRead P o F w fun v => k v w

/-! ### code -/
/-- what is said beside the code: of a loop (a cut) the slots that are read at its head (behind it), and those that stay; of a region that draws its order how many operations stand ahead of the tail (0: all are quiet) -/
inductive An where
  | leaf
  | node (S : List (Nat × Sh)) (keep : List Nat) (mode : Nat) (x y : An)
def An.x : An → An | .leaf => .leaf | .node _ _ _ x _ => x
def An.y : An → An | .leaf => .leaf | .node _ _ _ _ y => y
def An.S : An → List (Nat × Sh) | .leaf => [] | .node S _ _ _ _ => S
def An.keep : An → List Nat | .leaf => [] | .node _ k _ _ _ => k
def An.mode : An → Nat | .leaf => 0 | .node _ _ m _ _ => m
inductive Ex where
  | normal | exit (id : Nat) | ret

def vcGuard (ops : List Oper) (o : Oper) (F : Fr) (yes no : Fr → Prop) : Prop :=
  match o.guard with
  | none => yes F
  | some (j, want) => match (ops[j]?).bind (·.dst) with
    | some d => match F.get d with
      | .bool b => split b (match want with | true => yes (F.know (.tmp d) true) | false => no (F.know (.tmp d) true)) (match want with | true => no (F.know (.tmp d) false) | false => yes (F.know (.tmp d) false))
      | .tuple _ => no F
      | _ => False
    | none => False
def vcList (n : Nat) (P : Program) (pk : List Nat) (Z : List PanicEntry → World → Prop) (ops : List Oper) : List Oper → Fr → World → (Fr → World → Prop) → Prop
  | [], F, w, k => k F w
  | o :: rest, F, w, k => vcGuard ops o F (fun F => vcOp P pk Z o F w fun v w' => vcList n P pk Z ops rest (F.put n o.dst v) w' k) (fun F => vcList n P pk Z ops rest (F.put n o.dst undef) w k)
def callOf (P : Program) (o : Oper) (F : Fr) : Option (FuncId × Array Value) :=
  match o.op with
  | .call c => match c.callee with
    | .value x => match ev F x with
      | .func (.func f) first captured => some (f, first ++ c.args.map (ev F) ++ captured)
      | _ => none
    | _ => none
  | _ => none
def retSh (P : Program) (f : FuncId) : List TypeId := match P.funcs[f]? with | some fn => fn.resultTypes.toList | none => []
def known (P : Program) (f : FuncId) : Bool := match P.funcs[f]? with | some fn => fn.body.isSome && fn.name != "runtime.NumGoroutine" | none => false
def vcStill (n : Nat) (P : Program) (ops : List Oper) (w : World) : List Oper → Fr → (Fr → Prop) → Prop
  | [], F, k => k F
  | o :: rest, F, k => vcGuard ops o F
    (fun F => match callOf P o F with
     | some (f, args) => bif known P f then exRet P (retSh P f) [] fun v => Calls P f args w (fun e w' => e = .returned v ∧ w' = w) ∧ vcStill n P ops w rest (F.put n o.dst v) k else False
     | none => vcRead P o F w fun v => vcStill n P ops w rest (F.put n o.dst v) k)
    (fun F => vcStill n P ops w rest (F.put n o.dst undef) k)
def vcQuiet (n : Nat) (P : Program) (ops : List Oper) (w : World) : List Oper → Fr → (Fr → Prop) → Prop
  | [], F, k => k F
  | o :: rest, F, k => vcGuard ops o F
    (fun F => match callOf P o F with
     | some (f, args) => bif known P f then exRet P (retSh P f) [] fun v => (∀ m : Nat, Calls P f args (w.drewN m) fun e w' => e = .returned v ∧ ∃ m', w' = w.drewN m') ∧ vcQuiet n P ops w rest (F.put n o.dst v) k else False
     | none => vcRead P o F w fun v => vcQuiet n P ops w rest (F.put n o.dst v) k)
    (fun F => vcQuiet n P ops w rest (F.put n o.dst undef) k)
/-! ### a region that draws its order, in which memory is made next to readings: readings are taken first, in the world at the region's head -/
def readsOnly : Op → Bool
  | .move _ | .assign _ | .pick .. | .load .. | .nilCheck _ | .binOp .. | .unOp .. | .convert .. | .fieldAddr .. | .field .. | .indexAddr .. | .index .. | .slice .. | .build .. | .makeInterface .. | .makeFunc .. | .extract .. | .lookup .. | .sliceToArrayPointer .. | .typeAssert .. => true
  | .call c => match c.callee with | .builtin .len | .builtin .cap => true | _ => false
  | _ => false
def directly (ops : Array Oper) (x i : Nat) : Bool := match ops[x]? with
  | some o => o.after.any fun e => Region.binds .any e && Nat.beq e.on i
  | none => false
/-- operation x waits for operation i, at most n steps away -/
def reach (ops : Array Oper) : Nat → Nat → Nat → Bool
  | 0, x, i => directly ops x i
  | n + 1, x, i => directly ops x i || match ops[x]? with
    | some o => o.after.any fun e => Region.binds .any e && reach ops n e.on i
    | none => false
/-- operation number 'stop' (the first that writes what stood before; no number: none does) waits for number i -/
def waits (ops : Array Oper) (stop i : Nat) : Bool := match ops[stop]? with
  | some _ => reach ops 5 stop i
  | none => true
def worldless (P : Program) : Op → Bool
  | .convert s _ _ => match shOf P s with | .slice => false | _ => true
  | .binOp _ t _ _ _ => match shOf P t with | .any => false | _ => true
  | .move _ | .assign _ | .pick .. | .nilCheck _ | .fieldAddr .. | .field .. | .indexAddr .. | .index .. | .slice .. | .build .. | .extract .. | .unOp .. | .makeInterface .. | .makeFunc .. | .typeAssert .. => true
  | _ => false
def takable (ops : Array Oper) (stop : Nat) (L : Array Bool) (i : Nat) : Bool := match ops[i]? with
  | some o => readsOnly o.op && Region.free .any ops L i && !Nat.beq i stop && !L.getD stop false && waits ops stop i
  | none => false
/-- what may be taken in whatever world -/
def takableW (P : Program) (ops : Array Oper) (stop : Nat) (L : Array Bool) (i : Nat) : Bool := match ops[i]? with
  | some o => worldless P o.op && Region.free .any ops L i && !Nat.beq i stop
  | none => false
def allOf : List Nat → (Nat → Prop) → Prop
  | [], _ => True
  | [i], f => f i
  | i :: r, f => f i ∧ allOf r f
def orBelow (b : Bool) (w0 w : World) (k : Prop) : Prop := match b with | true => k | false => Below w0.heap.size w0 w ∧ k
def writesAt (ops : Array Oper) (j : Nat) : Bool := match ops[j]? with | some o => !readsOnly o.op | none => false
/-- the first operation that is no reading and waits for number i -/
def stopOf (ops : Array Oper) (i : Nat) : Nat := ((List.range ops.size).find? fun j => writesAt ops j && reach ops 5 j i).getD ops.size
/-- a reading that may be taken now, if it reads the same later -/
def takableE (ops : Array Oper) (stop : Nat) (L : Array Bool) (i : Nat) : Bool := match ops[i]? with
  | some o => readsOnly o.op && Region.free .any ops L i && !Nat.beq i stop && !L.getD (stopOf ops i) false && waits ops (stopOf ops i) i
  | none => false
structure Still where
  st : Nat
  o : Oper
  F : Fr
  v : Value
def stillAll (P : Program) (L : Array Bool) (w : World) : List Still → Prop → Prop
  | [], k => k
  | e :: E, k => match L.getD e.st false with
    | true => stillAll P L w E k
    | false => vcRead P e.o e.F w (fun u => u = e.v) ∧ stillAll P L w E k
def vcHeld (n : Nat) (P : Program) (pk : List Nat) (Z : List PanicEntry → World → Prop) (ops : Array Oper) (stop : Nat) (early : Bool) (w0 : World) : Nat → Array Bool → List Still → Fr → World → (Fr → World → Prop) → Prop
  | 0, L, E, F, w, k => match Region.ready .any ops L with | [] => k F w | _ => False
  | fuel + 1, L, E, F, w, k => match Region.ready .any ops L with
    | [] => k F w
    | rs => match rs.find? (takableW P ops stop L) with
      | some i => match ops[i]? with
        | some o => vcGuard ops.toList o F (fun F => vcRead P o F w fun v => vcHeld n P pk Z ops stop early w0 fuel (L.setIfInBounds i true) E (F.put n o.dst v) w k) (fun F => vcHeld n P pk Z ops stop early w0 fuel (L.setIfInBounds i true) E (F.put n o.dst undef) w k)
        | none => False
      | none => match rs.find? (takable ops stop L) with
      | some i => match ops[i]? with
        | some o => vcGuard ops.toList o F (fun F => vcRead P o F w0 fun v => vcHeld n P pk Z ops stop early w0 fuel (L.setIfInBounds i true) E (F.put n o.dst v) w k) (fun F => vcHeld n P pk Z ops stop early w0 fuel (L.setIfInBounds i true) E (F.put n o.dst undef) w k)
        | none => False
      | none => match (match early with | true => rs.find? (takableE ops stop L) | false => none) with
      | some i => match ops[i]? with
        | some o => vcGuard ops.toList o F (fun F => vcRead P o F w fun v => vcHeld n P pk Z ops stop early w0 fuel (L.setIfInBounds i true) (⟨stopOf ops i, o, F, v⟩ :: E) (F.put n o.dst v) w k) (fun F => vcHeld n P pk Z ops stop early w0 fuel (L.setIfInBounds i true) E (F.put n o.dst undef) w k)
        | none => False
      | none => allOf rs fun i => match ops[i]? with
        | some o => vcGuard ops.toList o F (fun F => vcOp P pk Z o F w fun v w' => orBelow ((L.setIfInBounds i true).getD stop false) w0 w' (stillAll P (L.setIfInBounds i true) w' E (vcHeld n P pk Z ops stop early w0 fuel (L.setIfInBounds i true) E (F.put n o.dst v) w' k))) (fun F => orBelow ((L.setIfInBounds i true).getD stop false) w0 w (stillAll P (L.setIfInBounds i true) w E (vcHeld n P pk Z ops stop early w0 fuel (L.setIfInBounds i true) E (F.put n o.dst undef) w k)))
        | none => False
def dsts : Code → List Nat
  | .region _ ops _ => ops.toList.filterMap (·.dst)
  | .seq a b => dsts a ++ dsts b
  | .cond _ a b => dsts a ++ dsts b
  | .block _ a => dsts a
  | .loop a => dsts a
  | .scope a => dsts a
  | _ => []
def stays (c : Code) (keep : List Nat) : Bool := keep.all fun t => (dsts c).all fun d => !Nat.beq t d
def vc (n : Nat) (P : Program) (pk : List Nat) (Z : List PanicEntry → World → Prop) : Code → An → Fr → World → (Ex → Fr → World → Prop) → Prop
  | .skip, _, F, w, K => K .normal F w
  | .ret, _, F, w, K => K .ret F w
  | .exit id, _, F, w, K => K (.exit id) F w
  | .scope c, an, F, w, K => vc n P pk Z c an.x F w K
  | .seq a b, an, F, w, K => match an.mode with
    | 0 => vc n P pk Z a an.x F w fun e F' w' => match e with
      | .normal => vc n P pk Z b an.y F' w' K
      | .exit i => K (.exit i) F' w'
      | .ret => K .ret F' w'
    | _ => bif stays a an.keep then ∃ R : InvT an.S Prop, vc n P pk Z a an.x F w (fun e F' w' => match e with
      | .normal => holds (appO an.S R F') w'
      | .exit i => K (.exit i) F' w'
      | .ret => K .ret F' w') ∧ ∀ J : Nat → Value, allS an.S R R (an.keep.map fun t => (t, F.get t)) fun R' _ l => ∀ w' : World, R' w' → vc n P pk Z b an.y ⟨l, J⟩ w' K else False
  | .cond c a b, an, F, w, K => asBool (ev F c) fun t => split t (vc n P pk Z a an.x (F.know c true) w K) (vc n P pk Z b an.y (F.know c false) w K)
  | .block id c, an, F, w, K => vc n P pk Z c an.x F w fun e F' w' => match e with
    | .normal => K .normal F' w'
    | .exit i => bif Nat.beq i id then K .normal F' w' else K (.exit i) F' w'
    | .ret => K .ret F' w'
  | .region _ ops false, _, F, w, K => vcList n P pk Z ops.toList ops.toList F w (K .normal)
  | .region _ ops true, an, F, w, K => match an.mode with
    | 0 => bif P.follows .mixedOrders && Region.lexB .any ops then vcQuiet n P ops.toList w ops.toList F fun F' => ∀ (w' : World) (m : Nat), w' = w.drewN m → K .normal F' w' else False
    | m + 1 => bif Nat.ble 1000 m then (bif P.follows .mixedOrders && Region.noSelect ops then ∀ w1 : World, w1 = w.drew → vcHeld n P pk Z ops ((m - 1000) % 1000000) (Nat.ble 1000000 m) w1 ops.size (Array.replicate ops.size false) [] F w1 (K .normal) else False) else bif P.follows .mixedOrders && Region.lexTailB .any ops m then ∀ w1 : World, w1 = w.drew → vcStill n P ops.toList w1 (ops.toList.take m) F fun F' => vcList n P pk Z ops.toList (ops.toList.drop m) F' w1 (K .normal) else False
  | .loop c, an, F, w, K => bif stays c an.keep then ∃ (I : InvT an.S Prop) (μ : InvT an.S Nat), holds (appO an.S I F) w ∧ ∀ J : Nat → Value, allS an.S I μ (an.keep.map fun t => (t, F.get t)) fun I' μ' l => ∀ w' : World, I' w' →
      vc n P pk Z c an.x ⟨l, J⟩ w' fun e F2 w2 => match e with
        | .normal => match appO an.S I F2, appO an.S μ F2 with
          | some I2, some μ2 => I2 w2 ∧ μ2 w2 < μ' w'
          | _, _ => False
        | .exit i => K (.exit i) F2 w2
        | .ret => K .ret F2 w2 else False
  | _, _, _, _, _ => False
def vcRes (P : Program) : List ResultVar → Fr → World → List Value → (Value → Prop) → Prop
  | [], F, w, [v], φ => φ v
  | [], F, w, acc, φ => φ (.tuple acc.toArray)
  | .tmp t :: r, F, w, acc, φ => vcRes P r F w (acc ++ [F.get t]) φ
  | .cell a t :: r, F, w, acc, φ => vcLoad P t (F.get a) w fun v => vcRes P r F w (acc ++ [v]) φ
def enum : Nat → List Value → List (Nat × Value)
  | _, [] => []
  | i, v :: r => (i, v) :: enum (i + 1) r
def vcFn (P : Program) (pk : List Nat) (fn : Func) (an : An) (args : List Value) (w : World) (Q : Ending → World → Prop) : Prop :=
  match fn.body with
  | some c => bif Nat.ble args.length fn.ntmps then vc fn.ntmps P pk (fun ch w' => Q (.panicked ch) w') c an ⟨enum 0 args, fun _ => undef⟩ w fun e F w' => match e with
    | .normal | .ret => vcRes P fn.results.toList F w' [] fun v => Q (.returned v) w'
    | .exit _ => False else False
  | none => False
/-! ### functions that defer, functions that recover -/
structure DV where
  f : FuncId
  args : Array Value
  captured : Array Value
def DV.to (d : DV) : Deferred := { target := .fn (.func d.f) d.captured, args := d.args }
def slotsOf : List ResultVar → List Nat
  | [] => []
  | .tmp t :: r => t :: slotsOf r
  | .cell a _ :: r => a :: slotsOf r
def vcLeave (P : Program) (rs : List ResultVar) (Q : Ending → World → Prop) : List DV → Option Fr → FrameMode → World → Prop
  | [], G, u, w => match u with
    | .returning => match G with
      | some F => vcRes P rs F w [] fun v => Q (.returned v) w
      | none => False
    | .panicking ch => Q (.panicked ch) w
    | .run => False
  | d :: ds, G, u, w => match u with
    | .run => False
    | .returning => CallsD P d.f (d.args ++ d.captured) .returning w fun e u' w' => (∃ v : Value, e = .returned v ∧ ((settle u' = .returning ∧ vcLeave P rs Q ds G .returning w') ∨ ∃ c : List PanicEntry, settle u' = .panicking c ∧ vcLeave P rs Q ds G (.panicking c) w')) ∨ ∃ c : List PanicEntry, e = .panicked c ∧ ∃ c' : List PanicEntry, raised u' c = .panicking c' ∧ vcLeave P rs Q ds G (.panicking c') w'
    | .panicking ch => CallsD P d.f (d.args ++ d.captured) (.panicking ch) w fun e u' w' => (∃ v : Value, e = .returned v ∧ ((settle u' = .returning ∧ vcLeave P rs Q ds G .returning w') ∨ ∃ c : List PanicEntry, settle u' = .panicking c ∧ vcLeave P rs Q ds G (.panicking c) w')) ∨ ∃ c : List PanicEntry, e = .panicked c ∧ ∃ c' : List PanicEntry, raised u' c = .panicking c' ∧ vcLeave P rs Q ds G (.panicking c') w'
def deferL : List Oper → Option (List Oper × Call)
  | [] => none
  | [o] => match o.op, o.guard, o.dst with
    | .defer c, none, none => some ([], c)
    | _, _, _ => none
  | o :: r => (deferL r).map fun (l, c) => (o :: l, c)
def deferOf : Code → Option (List Oper × List Oper × Call)
  | .region _ ops false => (deferL ops.toList).map fun (l, c) => (ops.toList, l, c)
  | _ => none
def deferTo (P : Program) (F : Fr) (c : Call) (k : DV → Prop) : Prop := match c.callee with
  | .value x => match ev F x with
    | .func (.func f) first captured => bif known P f then k ⟨f, first ++ c.args.map (ev F), captured⟩ else False
    | _ => False
  | _ => False
def staysG (c : Code) (rs : List ResultVar) (F : Fr) : Option Fr := bif stays c (slotsOf rs) then some F else none
def vcTop (n : Nat) (P : Program) (pk : List Nat) (rs : List ResultVar) (Q : Ending → World → Prop) : Code → An → Fr → World → List DV → Prop
  | .seq a b, an, F, w, D => match deferOf a with
    | some (ops, l, c) => vcList n P pk (fun ch w' => vcLeave P rs Q D (staysG a rs F) (.panicking ch) w') ops l F w fun F' w' => deferTo P F' c fun d => vcTop n P pk rs Q b an.y F' w' (d :: D)
    | none => vc n P pk (fun ch w' => vcLeave P rs Q D (staysG a rs F) (.panicking ch) w') a an.x F w fun e F' w' => match e with
      | .normal => vcTop n P pk rs Q b an.y F' w' D
      | .ret => vcLeave P rs Q D (some F') .returning w'
      | .exit _ => False
  | c, an, F, w, D => vc n P pk (fun ch w' => vcLeave P rs Q D (staysG c rs F) (.panicking ch) w') c an F w fun e F' w' => match e with
    | .normal | .ret => vcLeave P rs Q D (some F') .returning w'
    | .exit _ => False
def vcFnD (P : Program) (pk : List Nat) (fn : Func) (an : An) (args : List Value) (w : World) (Q : Ending → World → Prop) : Prop :=
  match fn.body with
  | some c => bif Nat.ble args.length fn.ntmps then vcTop fn.ntmps P pk fn.results.toList Q c an ⟨enum 0 args, fun _ => undef⟩ w [] else False
  | none => False
def vcRec (P : Program) (pk : List Nat) (fn : Func) (an : An) (args : List Value) (u : FrameMode) (w : World) (Q : Ending → FrameMode → World → Prop) : Prop :=
  match fn.body with
  | some (.seq (.region _ ops false) b) => match ops.toList with
    | [o] => match o.op, o.guard with
      | .call c, none => match c.callee with
        | .builtin .recover => bif Nat.ble args.length fn.ntmps then (match u with
          | .panicking ({ v, recovered := false, goexit := false } :: older) => vc fn.ntmps P pk (fun ch w' => Q (.panicked ch) (.panicking ({ v, recovered := true } :: older)) w') b an.y ((Fr.mk (enum 0 args) fun _ => undef).put fn.ntmps o.dst v) w fun e F w' => match e with
            | .normal | .ret => vcRes P fn.results.toList F w' [] fun r => Q (.returned r) (.panicking ({ v, recovered := true } :: older)) w'
            | .exit _ => False
          | .returning => vc fn.ntmps P pk (fun ch w' => Q (.panicked ch) .returning w') b an.y ((Fr.mk (enum 0 args) fun _ => undef).put fn.ntmps o.dst .nilIface) w fun e F w' => match e with
            | .normal | .ret => vcRes P fn.results.toList F w' [] fun r => Q (.returned r) .returning w'
            | .exit _ => False
          | _ => False) else False
        | _ => False
      | _, _ => False
    | _ => False
  | _ => False
end Go.Sx
