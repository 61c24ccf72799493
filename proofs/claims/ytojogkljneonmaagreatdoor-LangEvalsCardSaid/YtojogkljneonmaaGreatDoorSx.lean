/- What must hold ahead of a piece of code, reckoned out of its text as one plain proposition over the world; and that it is enough. No condition. -/
import Derived.WalkKit
import Derived.ProofKit
import Derived.StillTail
import Derived.Deep.Quiet
import Derived.OrdersHeld
import Derived.Below
import Derived.Laws.MakeOwn
import Derived.Laws.Rows
import Derived.Scope
import Derived.Recover
import Derived.Test.YtojogkljneonmaaGreatDoorXHeap
import Derived.Test.YtojogkljneonmaaGreatDoorSxM
set_option linter.unusedVariables false
set_option linter.unusedSimpArgs false
theorem Go.dt {p:Prop}[Decidable p] (h:decide p=true):p:=of_decide_eq_true h
theorem Go.df {p:Prop}[Decidable p] (h:decide p=false):¬ p:=of_decide_eq_false h
namespace Go.Sx
open Go.RowKit Go.XHeap
structure Fr where
 l:List (Nat×Value)
 f:Nat->Value
def look:List (Nat×Value)->(Nat->Value)->Nat->Value
 | [],f,t=>f t
 | (u,v)::r,f,t=>bif Nat.beq u t then v else look r f t
def Fr.get (F:Fr) (t:Nat):Value:=look F.l F.f t
def Fr.put (F:Fr) (n:Nat) (d:Option Tmp) (v:Value):Fr :=
 match d with
 | none=>F
 | some d=>bif Nat.blt d n then ⟨(d,v)::F.l,F.f⟩ else F
def ev (F:Fr):Operand->Value
 | .tmp t=>F.get t
 | .const v=>v
 | .global g=>.pointer (some ⟨g,0,none⟩)
 | .func f=>.func (.func f) #[] #[]
inductive Sh where
 | int (k:IntKind) | bool | str | ptr | slice | agg | map | any
def ob (P:Program) (t:TypeId):Sh :=
 match P.underlying t with
 | some (.int k)=>.int k
 | some .bool=>.bool
 | some .string=>.str
 | some (.pointer _)=>.ptr
 | some (.slice _)=>.slice
 | some (.struct _) | some (.array _ _)=>.agg
 | some (.map _ _)=>.map
 | _=>.any
def Sh.ex:Sh->(Value->Prop)->Prop
 | .int k,φ=>∃ x:Int,φ (.int k x)
 | .bool,φ=>∃ b:Bool,φ (.bool b)
 | .str,φ=>∃ s:ByteArray,φ (.string s)
 | .ptr,φ=>∃ p:Option Addr,φ (.pointer p)
 | .slice,φ=>∃ (p:Option Addr) (n c:Nat),φ (.slice p n c)
 | .agg,φ=>∃ vs:Array Value,φ (.agg vs)
 | .map,φ=>∃ p:Option Nat,φ (.map p)
 | .any,φ=>∃ v:Value,φ v
def Sh.T:Sh->Type->Type
 | .int _,r=>Int->r
 | .bool,r=>Bool->r
 | .str,r=>ByteArray->r
 | .ptr,r=>Option Addr->r
 | .slice,r=>Option Addr->Nat->Nat->r
 | .agg,r=>Array Value->r
 | .map,r=>Option Nat->r
 | .any,r=>Value->r
def Vx:List (Nat×Sh)->Type->Type
 | [],r=>World->r
 | (_,s)::S,r=>s.T (Vx S r)
def Sh.app {r:Type}:(s:Sh)->s.T r->Value->Option r
 | .int k,f,v=>match v with | .int k' x=>bif decide (k'=k) then some (f x) else none | _=>none
 | .bool,f,v=>match v with | .bool x=>some (f x) | _=>none
 | .str,f,v=>match v with | .string x=>some (f x) | _=>none
 | .ptr,f,v=>match v with | .pointer x=>some (f x) | _=>none
 | .slice,f,v=>match v with | .slice x n c=>some (f x n c) | _=>none
 | .agg,f,v=>match v with | .agg x=>some (f x) | _=>none
 | .map,f,v=>match v with | .map x=>some (f x) | _=>none
 | .any,f,v=>some (f v)
def Ma {r:Type}:(S:List (Nat×Sh))->Vx S r->Fr->Option (World->r)
 | [],f,F=>some f
 | (t,s)::S,f,F=>match s.app f (F.get t) with
  | some g=>Ma S g F
  | none=>none
def holds (o:Option (World->Prop)) (w:World):Prop:=match o with | some p=>p w | none=>False
def Ql {r q:Type}:(S:List (Nat×Sh))->Vx S r->Vx S q->List (Nat×Value)->((World->r)->(World->q)->List (Nat×Value)->Prop)->Prop
 | [],f,g,l,κ=>κ f g l
 | (t,.int k)::S,f,g,l,κ=>∀ x:Int,Ql S (f x) (g x) ((t,.int k x)::l) κ
 | (t,.bool)::S,f,g,l,κ=>∀ x:Bool,Ql S (f x) (g x) ((t,.bool x)::l) κ
 | (t,.str)::S,f,g,l,κ=>∀ x:ByteArray,Ql S (f x) (g x) ((t,.string x)::l) κ
 | (t,.ptr)::S,f,g,l,κ=>∀ x:Option Addr,Ql S (f x) (g x) ((t,.pointer x)::l) κ
 | (t,.slice)::S,f,g,l,κ=>∀ (p:Option Addr) (n c:Nat),Ql S (f p n c) (g p n c) ((t,.slice p n c)::l) κ
 | (t,.agg)::S,f,g,l,κ=>∀ x:Array Value,Ql S (f x) (g x) ((t,.agg x)::l) κ
 | (t,.map)::S,f,g,l,κ=>∀ x:Option Nat,Ql S (f x) (g x) ((t,.map x)::l) κ
 | (t,.any)::S,f,g,l,κ=>∀ x:Value,Ql S (f x) (g x) ((t,x)::l) κ
def ptr (p:Option Addr) (k:Addr->Prop):Prop:=match p with | some a=>k a | none=>False
def adr (p:Option Addr) (k:Nat->Nat->Prop):Prop:=match p with | some ⟨g,o,none⟩=>k g o | _=>False
def Qm (p:Option Addr) (φ:Prop):Prop:=match p with | none=>φ | some _=>False
def asInt (v:Value) (k:IntKind->Int->Prop):Prop:=match v with | .int κ x=>k κ x | _=>False
def asBool (v:Value) (k:Bool->Prop):Prop:=match v with | .bool b=>k b | _=>False
def Jx (v:Value) (k:Option Addr->Prop):Prop:=match v with | .pointer p=>k p | _=>False
def jl (v:Value) (k:Option Addr->Nat->Nat->Prop):Prop:=match v with | .slice p n c=>k p n c | _=>False
def asAgg (v:Value) (k:Array Value->Prop):Prop:=match v with | .agg vs=>k vs | _=>False
def Nz (v:Value) (k:Option Nat->Prop):Prop:=match v with | .map p=>k p | _=>False
def mapp (p:Option Nat) (k:Nat->Prop):Prop:=match p with | some b=>k b | none=>False
def Cc (P:Program) (e:TypeId):Option Value:=(P.info? e).bind (·.zero)
def mapOf (P:Program) (t:TypeId):Option (IntKind×TypeId):=match P.underlying t with
 | some (.map kt e)=>match P.underlying kt with
  | some (.int κ)=>some (κ,e)
  | _=>none
 | _=>none
def one (v:Value) (k:Prop):Prop:=match v with
 | .agg _ | .tuple _=>False
 | .bool _ | .int _ _ | .float _ _ | .complex _ _ _ | .string _ | .pointer _ | .slice _ _ _ | .map _ | .chan _ | .func _ _ _ | .nilFunc | .iface _ _ | .nilIface=>k
def split (b:Bool) (y n:Prop):Prop:=match b with | true=>y | false=>n
theorem so {b:Bool}{y n:Prop} (h1:b=true->y) (h2:b=false->n):split b y n:=by cases b;exact h2 rfl;exact h1 rfl
def Fr.know (F:Fr):Operand->Bool->Fr
 | .tmp t,b=>⟨(t,.bool b)::F.l,F.f⟩
 | _,_=>F
def isNil (v:Value) (k:Bool->Prop):Prop:=match v with | .nilIface=>k true | .iface _ _=>k false | _=>False
def meth (P:Program) (v:Value) (name:String) (args:Array Value) (w:World) (f:FuncId) (all:Array Value):Prop:=(callMethod v name args).run P w= .ok (.enter f all) w
def Zo (v:Value) (k:Value->Prop):Prop:=match v with
 | .pointer p=>ptr p λ a=>k (.pointer (some a))
 | .iface t p=>k (.iface t p)
 | .func (.func f) a b=>k (.func (.func f) a b)
 | _=>False
def sub (p:Option Addr) (m l size:Nat):Option Addr:=if m=l then p else p.map (·.add (l * size))
def Keeps (w w':World):Prop:=(∀ p v,w.cell? p=some v->w'.cell? p=some v)/\(∀ (b:Nat) es c,w.heap[b]?=some (Obj.map es c)->w'.heap[b]?=some (Obj.map es c))/\(∀ p:Addr,p.block<w.heap.size->w'.frozen? p=w.frozen? p)/\∀ (b:Nat) (o:Obj),w.heap[b]?=some o->w'.heap[b]?=some o
def tagOf (v:Value) (T:TypeId) (yes:Value->Prop) (no:Prop):Prop:=match v with | .iface t p=>split (Nat.beq t T) (yes p) no | .nilIface=>no | _=>False
def aji:Value->Bool | .iface _ _=>true | _=>false
def aau (v:Value) (k:ByteArray->Prop):Prop:=match v with | .string s=>k s | _=>False
def Mb (P:Program) (t:TypeId):Option TypeId:=match P.underlying t with
 | some (.map kt e)=>match P.underlying kt with
  | some .string=>some e
  | _=>none
 | _=>none
def Dq (P:Program) (t:TypeId) (ok:Bool) (v:Value) (k:Value->Prop):Prop :=
 match P.underlying t with
 | some (.interface _) | none=>False
 | some _=>match Cc P t with
  | some z=>tagOf v t (λ p=>(ob P t).ex λ u=>p=u/\k (match ok with | true=>.tuple #[u,.bool true] | false=>u)) (match ok with | true=>k (.tuple #[z,.bool false]) | false=>False)
  | none=>False
def qi (P:Program){α:Type}:Sem α->Option α
 | .pure a=>some a
 | .program k=>qi P (k P)
 | .mark _ k=>qi P k
 | _=>none
def ua (P:Program) (s:Sem Next) (k:Value->Prop):Prop:=match qi P s with | some (.value v)=>k v | _=>False
def cellsAt (w:World) (a:Addr) (vs:Array Value):Prop:=∀ i v,vs[i]?=some v->w.cell? (a.add i)=some v
def ub (s:Sh) (w:World) (a:Addr) (k:Value->Prop):Prop:=match s with
 | .int κ=>∃ x:Int,w.cell? a=some (.int κ x)/\k (.int κ x)
 | .bool=>∃ x:Bool,w.cell? a=some (.bool x)/\k (.bool x)
 | .str=>∃ x:ByteArray,w.cell? a=some (.string x)/\k (.string x)
 | .ptr=>∃ x:Option Addr,w.cell? a=some (.pointer x)/\k (.pointer x)
 | .slice=>∃ (p:Option Addr) (n c:Nat),w.cell? a=some (.slice p n c)/\k (.slice p n c)
 | .agg=>False
 | .map=>∃ p:Option Nat,w.cell? a=some (.map p)/\k (.map p)
 | .any=>∃ v:Value,w.cell? a=some v/\k v
def Mc (P:Program) (t:TypeId) (v:Value) (w:World) (k:Value->Prop):Prop :=
 Jx v λ p=>ptr p λ a=>bif (P.underlying t).isSome then match ob P t with
  | .agg=>∃ vs:Array Value,vs.size=P.cellsOf t/\cellsAt w a vs/\k (.agg vs)
  | s=>ub s w a k
 else False
def rh (s:Sh) (vs:Array Value) (off size:Nat) (k:Value->Prop):Prop:=match s with
 | .agg=>∃ us:Array Value,vs.extract off (off+size)=us/\k (.agg us)
 | .int κ=>∃ x:Int,vs[off]?=some (.int κ x)/\k (.int κ x)
 | .bool=>∃ x:Bool,vs[off]?=some (.bool x)/\k (.bool x)
 | .str=>∃ x:ByteArray,vs[off]?=some (.string x)/\k (.string x)
 | .ptr=>∃ x:Option Addr,vs[off]?=some (.pointer x)/\k (.pointer x)
 | .slice=>∃ (p:Option Addr) (n c:Nat),vs[off]?=some (.slice p n c)/\k (.slice p n c)
 | .map=>∃ p:Option Nat,vs[off]?=some (.map p)/\k (.map p)
 | .any=>∃ v:Value,vs[off]?=some v/\k v
def named (κ:IntKind) (e:Int) (k:Value->Prop):Prop:=∀ z:Int,z=e->k (.int κ z)
def Qn:Operand->Bool | .const _=>true | _=>false
def agk (P:Program) (op:BinOp) (t:TypeId) (ox oy:Operand) (x y:Value) (pos:Bool) (k:Value->Prop) (dflt:Prop):Prop :=
 match y with
 | .nilIface=>match P.underlying t with
  | some (.interface _)=>bif Qn oy then isNil x λ b=>k (.bool (bif pos then b else !b)) else False
  | _=>False
 | .pointer q=>Jx x λ p=>match P.underlying t with
  | some (.pointer _)=>Qm q (k (.bool (bif pos then p.isNone else p.isSome)))
  | _=>False
 | .slice none _ _=>jl x λ p _ _=>match P.underlying t with
  | some (.slice _)=>k (.bool (bif pos then p.isNone else p.isSome))
  | _=>False
 | .agg ys=>asAgg x λ xs=>∃ b:Bool,(∀ w:World,(do eqGuard op t ox oy (.agg xs) (.agg ys);binOp op t (.agg xs) (.agg ys):Sem Value).run P w= .ok (.bool b) w)/\k (.bool b)
 | _=>dflt
def Qo (P:Program) (op:BinOp) (t:TypeId) (ox oy:Operand) (x y:Value) (k:Value->Prop) (dflt:Prop):Prop :=
 match op with
 | .add=>match x,y with
  | .int κ a,.int κ' b=>bif decide (κ=κ') then named κ (κ.wrap (a+b)) k else False
  | .string a,.string b=>((a.size+b.size:Nat):Int)≤9223372036854775807/\∀ z:ByteArray,z=a++b->k (.string z)
  | _,_=>dflt
 | .sub=>match x,y with
  | .int κ a,.int κ' b=>bif decide (κ=κ') then named κ (κ.wrap (a - b)) k else False
  | _,_=>dflt
 | .mul=>match x,y with
  | .int κ a,.int κ' b=>bif decide (κ=κ') then named κ (κ.wrap (a * b)) k else False
  | _,_=>dflt
 | .quo=>asInt x λ κ a=>asInt y λ κ' b=>bif decide (κ=κ') then b≠0/\named κ (κ.wrap (a.tdiv b)) k else False
 | .rem=>asInt x λ κ a=>asInt y λ κ' b=>bif decide (κ=κ') then b≠0/\named κ (a.tmod b) k else False
 | .and=>asInt x λ κ a=>asInt y λ κ' b=>bif decide (κ=κ') then named κ (κ.wrap (BitVec.ofInt κ.bits a &&&BitVec.ofInt κ.bits b).toNat) k else False
 | .or=>asInt x λ κ a=>asInt y λ κ' b=>bif decide (κ=κ') then named κ (κ.wrap (BitVec.ofInt κ.bits a |||BitVec.ofInt κ.bits b).toNat) k else False
 | .xor=>asInt x λ κ a=>asInt y λ κ' b=>bif decide (κ=κ') then named κ (κ.wrap (BitVec.ofInt κ.bits a ^^^ BitVec.ofInt κ.bits b).toNat) k else False
 | .andNot=>asInt x λ κ a=>asInt y λ κ' b=>bif decide (κ=κ') then named κ (κ.wrap (BitVec.ofInt κ.bits a &&& ~~~ BitVec.ofInt κ.bits b).toNat) k else False
 | .shl=>asInt x λ κ a=>asInt y λ _ b=>0≤b/\named κ (κ.wrap (a * 2 ^ min b.toNat κ.bits)) k
 | .shr=>asInt x λ κ a=>asInt y λ _ b=>0≤b/\named κ (a.fdiv (2 ^ min b.toNat κ.bits)) k
 | .eql=>agk P op t ox oy x y true k dflt
 | .neq=>agk P op t ox oy x y false k dflt
 | _=>dflt
def jb (P:Program) (t:TypeId):Bool:=(P.info? t).isSome&&(P.underlying t).isSome
def Ce (P:Program) (t:TypeId):Option (Option Nat×TypeId) :=
 match P.underlying t with
 | some (.array n e)=>bif jb P e then some (some n,e) else none
 | some (.slice e)=>bif jb P e then some (none,e) else none
 | _=>none
def vm (P:Program) (t:TypeId) (f:Nat):Option Field :=
 match P.underlying t with
 | some (.struct fs)=>match fs[f]? with
  | some fd=>bif jb P fd.type then some fd else none
  | none=>none
 | _=>none
def bnd (x:Option Value) (d:Nat) (k:Nat->Prop):Prop:=match x with
 | none=>k d
 | some v=>asInt v λ _ i=>0≤i/\k i.toNat
def uc (P:Program) (p:Option Addr) (len cap size:Nat) (lo hi mx:Option Value) (k:Value->Prop):Prop :=
 match lo,hi,mx with
 | none,none,none=>k (.slice p len cap)
 | none,some h,none=>asInt h λ _ h=>(0≤h/\h≤cap)/\k (.slice p h.toNat cap)
 | some l,none,none=>asInt l λ _ l=>(0≤l/\l≤len)/\k (.slice (sub p cap l.toNat size) (len - l.toNat) (cap - l.toNat))
 | some l,some h,none=>asInt l λ _ l=>asInt h λ _ h=>(0≤l/\l≤h/\h≤cap)/\k (.slice (sub p cap l.toNat size) (h.toNat - l.toNat) (cap - l.toNat))
 | some l,some h,some m=>asInt l λ _ l=>asInt h λ _ h=>asInt m λ _ m=>(0≤l/\l≤h/\h≤m/\m≤cap)/\k (.slice (sub p m.toNat l.toNat size) (h.toNat - l.toNat) (m.toNat - l.toNat))
 | _,_,_=>False
def asm:List Nat->Nat->List Value->List (Nat×Value)->(List Value->Prop)->Prop
 | [],_,_,_,κ=>κ []
 | n::ns,j,z,parts,κ=>match parts.find? (λ q=>Nat.beq q.1 j) with
  | some (_,.agg vs)=>vs.size=n/\asm ns (j+1) (z.drop n) parts λ r=>κ (vs.toList++r)
  | some (_,v)=>bif Nat.beq n 1 then asm ns (j+1) (z.drop n) parts λ r=>κ (v::r) else False
  | none=>asm ns (j+1) (z.drop n) parts λ r=>κ (z.take n++r)
def Zp:List (Nat×Bool)->Nat->List Value->List (Nat×Value)->(List Value->Prop)->Prop
 | [],_,_,_,κ=>κ []
 | (n,g)::ns,j,z,parts,κ=>match parts.find? (λ q=>Nat.beq q.1 j) with
  | some (_,v)=>match g with
   | true=>asAgg v λ vs=>vs.size=n/\Zp ns (j+1) (z.drop n) parts λ r=>κ (vs.toList++r)
   | false=>bif Nat.beq n 1 then one v (Zp ns (j+1) (z.drop n) parts λ r=>κ (v::r)) else False
  | none=>Zp ns (j+1) (z.drop n) parts λ r=>κ (z.take n++r)
def isA:Sh->Bool | .agg=>true | _=>false
def my:Nat->Nat->List Nat->Bool
 | n,_,[]=>true
 | n,lo,i::r=>Nat.ble lo i&&Nat.blt i n&&my n (i+1) r
def na:Nat->List Nat->List Nat->Bool
 | _,[],[]=>true
 | a,o::os,n::ns=>Nat.beq o a&&na (a+n) os ns
 | _,_,_=>false
def agl:List Value->Nat->Value->(List Value->Prop)->Prop
 | [],_,_,_=>False
 | _::r,0,v,κ=>κ (v::r)
 | a::r,n+1,v,κ=>agl r n v λ r'=>κ (a::r')
def aeb (place:Nat->Option (Nat×Nat)):List Value->List (Nat×Value)->(List Value->Prop)->Prop
 | z,[],κ=>κ z
 | z,(i,v)::r,κ=>match place i with
  | some (off,sz)=>bif Nat.beq sz 1 then one v (agl z off v λ z'=>aeb place z' r κ) else False
  | none=>False
def Jy (P:Program) (t:TypeId) (parts:List (Nat×Value)) (k:Value->Prop):Prop :=
 match P.info? t with
 | some i=>match i.zero with
  | some (.agg z)=>match P.underlying t with
   | some (.struct fs)=>bif my fs.size 0 (parts.map (·.1))&&na 0 (fs.toList.map (·.offset)) (fs.toList.map λ f=>P.cellsOf f.type)&&Nat.beq z.size ((fs.toList.map λ f=>P.cellsOf f.type).foldr (· + ·) 0)&&fs.toList.all (λ f=>jb P f.type) then
     Zp (fs.toList.map λ f=>(P.cellsOf f.type,isA (ob P f.type))) 0 z.toList parts λ cs=>∀ vs:Array Value,vs=cs.toArray->k (.agg vs)
    else bif fs.toList.all (λ f=>jb P f.type) then aeb (λ j=>(fs.toList[j]?).map λ f=>(f.offset,P.cellsOf f.type)) z.toList parts λ cs=>∀ vs:Array Value,vs=cs.toArray->k (.agg vs) else False
   | some (.array n e)=>bif my n 0 (parts.map (·.1))&&Nat.beq z.size (n * P.cellsOf e)&&jb P e then
     Zp (List.replicate n (P.cellsOf e,isA (ob P e))) 0 z.toList parts λ cs=>∀ vs:Array Value,vs=cs.toArray->k (.agg vs) else False
   | _=>False
  | _=>False
 | none=>False
def Qp (P:Program) (t:TypeId) (m key:Value) (ok:Bool) (w:World) (k:Value->Prop):Prop :=
 match mapOf P t with
 | some (κ,e)=>match Cc P e with
  | some z=>Nz m λ p=>mapp p λ b=>asInt key λ κ' x=>bif decide (κ'=κ) then ∃ f:Int->Option Value,Mp w κ b f/\(ob P e).ex λ v=>(f x).getD z=v/\k (match ok with | true=>.tuple #[v,.bool (f x).isSome] | false=>v) else False
  | none=>False
 | none=>match Mb P t with
  | some e=>match Cc P e with
   | some z=>Nz m λ p=>mapp p λ b=>aau key λ x=>∃ f:ByteArray->Option Value,MpS w b f/\(ob P e).ex λ v=>(f x).getD z=v/\k (match ok with | true=>.tuple #[v,.bool (f x).isSome] | false=>v)
   | none=>False
  | none=>False
def bstr (l:List Int):ByteArray:=l.foldl (λ r n=>r.push (UInt8.ofNat n.toNat)) ByteArray.empty
def Bts (w:World) (p:Option Addr) (n:Nat) (l:List Int):Prop:=l.length=n/\(0<n->∃ g off,p=some ⟨g,off,none⟩/\∀ i x,l[i]?=some x->w.cell? ⟨g,off+i,none⟩=some (.int .u8 x))
def aav (P:Program) (s:TypeId) (v:Value) (w:World) (k:Value->Prop):Prop :=
 match P.underlying s with
 | some (.slice e)=>match ob P e with
  | .int κ=>bif decide (κ= .u8) then jl v λ p n c=>∃ l:List Int,Bts w p n l/\k (.string (bstr l)) else False
  | _=>False
 | _=>False
def binOpS (op:BinOp) (t:TypeId) (ox oy:Operand) (x y:Value):Sem Value:=do eqGuard op t ox oy x y;binOp op t x y
def jt (P:Program) (o:Oper) (F:Fr) (w:World) (k:Value->Prop):Prop :=
 match o.op with
 | .move x | .assign x=>k (ev F x)
 | .pick c a b=>asBool (ev F c) λ t=>split t (k (ev F a)) (k (ev F b))
 | .load t a=>Mc P t (ev F a) w k
 | .nilCheck x=>Zo (ev F x) k
 | .binOp op t x y _=>match ob P t with
  | .any=>bif aji (ev F y) then ∃ b:Bool,(∀ w':World,Keeps w w'->(binOpS op t x y (ev F x) (ev F y)).run P w'= .ok (.bool b) w')/\k (.bool b) else Qo P op t x y (ev F x) (ev F y) k (ua P (execOp (ev F) o) k)
  | _=>Qo P op t x y (ev F x) (ev F y) k (ua P (execOp (ev F) o) k)
 | .convert s d x=>match ob P s,ob P d with
  | .int _,.int κ=>asInt (ev F x) λ _ n=>named κ (κ.wrap n) k
  | .slice,.str=>aav P s (ev F x) w k
  | _,_=>ua P (execOp (ev F) o) k
 | .fieldAddr t x f=>match vm P t f with
  | some fd=>bif Nat.beq (P.cellsOf fd.type) 0 then False else Jx (ev F x) λ p=>ptr p λ a=>k (.pointer (some (a.add fd.offset)))
  | none=>False
 | .field t x f=>match vm P t f with
  | some fd=>asAgg (ev F x) λ vs=>rh (ob P fd.type) vs fd.offset (P.cellsOf fd.type) k
  | none=>False
 | .indexAddr t x i=>match Ce P t with
  | some (some n,e)=>Jx (ev F x) λ p=>asInt (ev F i) λ _ i=>(0≤i/\i<n)/\adr p λ g off=>k (.pointer (some ⟨g,off+i.toNat * P.cellsOf e,none⟩))
  | some (none,e)=>jl (ev F x) λ p n c=>asInt (ev F i) λ _ i=>(0≤i/\i<n)/\adr p λ g off=>k (.pointer (some ⟨g,off+i.toNat * P.cellsOf e,none⟩))
  | none=>False
 | .index t x i=>match Ce P t with
  | some (some n,e)=>asAgg (ev F x) λ vs=>asInt (ev F i) λ _ i=>(0≤i/\i<n)/\rh (ob P e) vs (i.toNat * P.cellsOf e) (P.cellsOf e) k
  | _=>match P.underlying t with
   | some .string=>match ev F x with
    | .string s=>asInt (ev F i) λ _ i=>∃ b:UInt8,0≤i/\s[i.toNat]?=some b/\k (.int .u8 b.toNat)
    | _=>False
   | _=>False
 | .slice t x lo hi mx=>match P.underlying t with
  | some (.slice e)=>jl (ev F x) λ p n c=>bif jb P e then uc P p n c (P.cellsOf e) (lo.map (ev F)) (hi.map (ev F)) (mx.map (ev F)) k else False
  | some (.array n e)=>Jx (ev F x) λ p=>ptr p λ a=>bif jb P e then uc P (some a) n n (P.cellsOf e) (lo.map (ev F)) (hi.map (ev F)) (mx.map (ev F)) k else False
  | some .string=>match ev F x,mx with
   | .string s,none=>bnd (lo.map (ev F)) 0 λ l=>bnd (hi.map (ev F)) s.size λ h=>(l≤h/\h≤s.size)/\k (.string (s.extract l h))
   | _,_=>False
  | _=>False
 | .build t parts=>Jy P t (parts.toList.map λ (j,x)=>(j,ev F x)) k
 | .lookup t x ix ok=>Qp P t (ev F x) (ev F ix) ok w k
 | .sliceToArrayPointer t x=>match P.underlying t with
  | some (.array n e)=>jl (ev F x) λ p len c=>n≤len/\k (.pointer p)
  | _=>False
 | .typeAssert x _ t ok=>Dq P t ok (ev F x) k
 | _=>ua P (execOp (ev F) o) k
def Wn (w:World) (cells:Array Value) (e:TypeId) (k:Nat->World->Prop):Prop:=∀ (b:Nat) (w':World),b=w.heap.size->w'=w.alloc (.cells cells e)->k b w'
def Qq (P:Program) (t:TypeId) (v x:Value) (w:World) (k:World->Prop):Prop :=
 Jx v λ p=>ptr p λ a=>match ob P t with
  | .agg=>adr (some a) λ g off=>asAgg x λ vs=>vs.size=P.cellsOf t/\(∀ j:Nat,j<P.cellsOf t->(∃ u,w.cell? ⟨g,off+j,none⟩=some u)/\w.frozen? ⟨g,off+j,none⟩=false)/\(∀ v ∈ vs.toList,v.oneCell'=true)/\∀ w':World,w'=w.setCells g off vs.toList->k w'
  | _=>bif Nat.beq (P.cellsOf t) 1 then one x ((∃ u,w.cell? a=some u)/\w.frozen? a=false/\∀ w':World,w'=w.setCell a x->k w') else False
def Jz (P:Program):List TypeId->List Value->(Value->Prop)->Prop
 | [],[],φ=>φ (.tuple #[])
 | [t],[],φ=>(ob P t).ex φ
 | [],acc,φ=>φ (.tuple acc.toArray)
 | t::ts,acc,φ=>(ob P t).ex λ v=>Jz P ts (acc++[v]) φ
def Ka (P:Program) (pk:List Nat) (Z:List PanicEntry->World->Prop) (f:FuncId) (args:Array Value) (w:World) (k:Value->World->Prop):Prop :=
 match P.funcs[f]? with
 | some fn=>bif fn.body.isSome&&fn.name != "runtime.NumGoroutine" then bif pk.any (Nat.beq (f+1000000)) then Calls P f args w λ e w'=>∃ c:List PanicEntry,e= .panicked c/\Z c w' else bif pk.any (Nat.beq f) then Calls P f args w λ e w'=>(Jz P fn.resultTypes.toList [] λ v=>e= .returned v/\k v w')∨∃ c:List PanicEntry,e= .panicked c/\Z c w'
   else Calls P f args w λ e w'=>Jz P fn.resultTypes.toList [] λ v=>e= .returned v/\k v w' else False
 | none=>False
def Dr (P:Program) (t:TypeId) (s x:Value) (w:World) (k:Value->World->Prop):Prop :=
 match P.underlying t with
 | some (.slice e)=>match P.info? e with
  | some i=>match i.zero with
   | some z=>bif Nat.beq z.cells.size i.size&&Nat.blt 0 i.size then jl s λ p n c=>jl x λ q m d =>
  ∃ olds news:List Value,Sl w e (P.cellsOf e) (.slice p n c) n olds/\((m=0/\q=none)∨∃ a,q=some a/\∀ j u,news[j]?=some u->w.cell? (a.add j)=some u)/\news.length=m * P.cellsOf e/\(∀ u ∈ news,u.oneCell'=true)/\n+m≤maxLen/\(n+m) * P.bytesOf e≤140737488355328 /\
   ∀ (p':Option Addr) (c':Nat) (w':World),Sl w' e (P.cellsOf e) (.slice p' (n+m) c') (n+m) (olds++news)->XTouch (λ b=>(Value.slice p n c).ownBlock=some b) w w'->(∀ b,(Value.slice p' (n+m) c').ownBlock=some b->(Value.slice p n c).ownBlock=some b∨w.heap.size≤b)->Sl w' e (P.cellsOf e) (.slice p n c) n olds->((p'=p/\c'=c)∨((agt p∨c<n+m)/\∀ b,(Value.slice p' (n+m) c').ownBlock=some b->w.heap.size≤b))->k (.slice p' (n+m) c') w' else False
   | none=>False
  | none=>False
 | _=>False
def yp (P:Program) (t t':TypeId) (s x:Value) (w:World) (k:Value->World->Prop):Prop :=
 match P.underlying t with
 | some (.slice e)=>match P.underlying t' with
  | some (.int _)=>match P.info? e with
   | some i=>match i.zero with
    | some z=>match z.cells.toList with
     | [u]=>bif u.oneCell'&&Nat.beq i.size 1 then jl s λ p n c=>asInt x λ _ l =>
  ∃ olds:List Value,Sl w e 1 (.slice p n c) n olds/\(0≤l/\n+l.toNat≤maxLen/\(n+l.toNat) * P.bytesOf e≤140737488355328) /\
   ∀ (p':Option Addr) (c':Nat) (w':World),Sl w' e 1 (.slice p' (n+l.toNat) c') (n+l.toNat) (olds++List.replicate l.toNat u)->XTouch (λ b=>(Value.slice p n c).ownBlock=some b) w w'->(∀ b,(Value.slice p' (n+l.toNat) c').ownBlock=some b->(Value.slice p n c).ownBlock=some b∨w.heap.size≤b)->k (.slice p' (n+l.toNat) c') w' else False
     | _=>False
    | none=>False
   | none=>False
  | _=>False
 | _=>False
def Gm (p:Option Addr) (w:World) (vs:List Value):World:=match p with | some a=>w.setCells a.block a.off vs | none=>w
def Qr (P:Program) (t:TypeId) (s x:Value) (w:World) (k:Value->World->Prop):Prop :=
 match P.underlying t with
 | some (.slice e)=>bif jb P e then jl s λ p n c=>jl x λ q m d =>
   ∃ news:List Value,news.length=Nat.min m n * P.cellsOf e/\(∀ u ∈ news,u.oneCell'=true) /\
    (news=[]∨((∃ a:Addr,q=some a/\∀ j u,news[j]?=some u->w.cell? (a.add j)=some u) /\
     ∃ g o:Nat,p=some ⟨g,o,none⟩/\∀ j:Nat,j<news.length->(∃ u,w.cell? ⟨g,o+j,none⟩=some u)/\w.frozen? ⟨g,o+j,none⟩=false)) /\
    ∀ w':World,w'=Gm p w news->k (.int .i64 (Nat.min m n:Nat)) w'
  else False
 | _=>False
def Kb (P:Program) (t:TypeId) (x:Value) (w:World) (k:Value->World->Prop):Prop :=
 match P.underlying t with
 | some (.slice e)=>match P.info? e with
  | some i=>match i.zero with
   | some z=>match z.cells.toList with
    | [u]=>bif u.oneCell' then jl x λ p n c =>
      (n=0∨∃ g o:Nat,p=some ⟨g,o,none⟩/\∀ j:Nat,j<n->(∃ v,w.cell? ⟨g,o+j,none⟩=some v)/\w.frozen? ⟨g,o+j,none⟩=false) /\
       ∀ w':World,w'=Gm p w (List.replicate n u)->k (.tuple #[]) w'
     else False
    | _=>False
   | none=>False
  | none=>False
 | _=>False
def Zq (P:Program) (t:TypeId) (l c:Value) (w:World) (k:Value->World->Prop):Prop :=
 match P.underlying t with
 | some (.slice e)=>match P.info? e with
  | some i=>match i.zero with
   | some z=>asInt l λ _ l=>asInt c λ _ c=>(0≤l/\l≤c/\c≤9223372036854775807/\(i.bytes:Int) * c≤281474976710656)/\Wn w (madeCells z.cells (c.toNat * i.size)) e λ b w'=>k (.slice (some ⟨b,0,none⟩) l.toNat c.toNat) w'
   | none=>False
  | none=>False
 | _=>False
def aaw (P:Program) (t:TypeId) (m key v:Value) (w:World) (k:World->Prop):Prop :=
 match mapOf P t with
 | some (κ,e)=>Nz m λ p=>mapp p λ b=>asInt key λ κ' x=>bif decide (κ'=κ) then ∃ f:Int->Option Value,Mp w κ b f/\∀ w':World,Mp w' κ b (upd f x (some v))->XTouch (λ q=>q=b) w w'->k w' else False
 | none=>match Mb P t with
  | some e=>Nz m λ p=>mapp p λ b=>aau key λ x=>∃ f:ByteArray->Option Value,MpS w b f/\∀ w':World,MpS w' b (updS f x (some v))->XTouch (λ q=>q=b) w w'->k w'
  | none=>False
def aax (P:Program) (t:TypeId) (m key:Value) (w:World) (k:World->Prop):Prop :=
 match mapOf P t with
 | some (κ,e)=>Nz m λ p=>mapp p λ b=>asInt key λ κ' x=>bif decide (κ'=κ) then ∃ f:Int->Option Value,Mp w κ b f/\∀ w':World,Mp w' κ b (upd f x none)->XTouch (λ q=>q=b) w w'->k w' else False
 | none=>False
def Wo (P:Program) (pk:List Nat) (Z:List PanicEntry->World->Prop) (o:Oper) (F:Fr) (w:World) (k:Value->World->Prop):Prop :=
 match o.op with
 | .store t a x=>Qq P t (ev F a) (ev F x) w (k undef)
 | .alloc e=>match P.info? e with
  | some i=>match i.zero with
   | some z=>Wn w z.cells e λ b w'=>k (.pointer (some ⟨b,0,none⟩)) w'
   | none=>False
  | none=>False
 | .box e x=>Wn w (ev F x).cells e λ b w'=>k (.pointer (some ⟨b,0,none⟩)) w'
 | .makeSlice t l c=>Zq P t (ev F l) (ev F c) w k
 | .makeMap t none=>∀ (b:Nat) (w':World),b=w.heap.size->w'=w.alloc (.map #[] 0)->k (.map (some b)) w'
 | .mapUpdate t m x v=>aaw P t (ev F m) (ev F x) (ev F v) w (k undef)
 | .buildSlice t len parts=>match P.underlying t with
  | some (.slice e)=>match P.info? e with
   | some i=>match i.zero with
    | some z=>bif Nat.ble (len * i.size) 16777216&&my len 0 (parts.toList.map (·.1)) then Zp (List.replicate len (i.size,isA (ob P e))) 0 ((Array.range (len * i.size)).map (z.cells[· % z.cells.size]!)).toList (parts.toList.map λ (j,x)=>(j,ev F x)) λ cs =>
      Wn w cs.toArray e λ b w'=>k (.slice (some ⟨b,0,none⟩) len len) w'
     else False
    | none=>False
   | none=>False
  | _=>False
 | .call c=>match c.callee with
  | .builtin .append=>match c.args.toList,c.argTypes.toList with
   | [s,x],[t,t']=>bif Nat.beq t t' then Dr P t (ev F s) (ev F x) w k else yp P t t' (ev F s) (ev F x) w k
   | _,_=>False
  | .builtin .copy=>match c.args.toList,c.argTypes.toList with
   | [s,x],t::_=>Qr P t (ev F s) (ev F x) w k
   | _,_=>False
  | .builtin .delete=>match c.args.toList,c.argTypes.toList with
   | [m,x],t::_=>aax P t (ev F m) (ev F x) w (k (.tuple #[]))
   | _,_=>False
  | .builtin .clear=>match c.args.toList,c.argTypes.toList with
   | [x],t::_=>Kb P t (ev F x) w k
   | _,_=>False
  | .builtin _=>ua P (execOp (ev F) o) λ v=>k v w
  | .value x=>match ev F x with
   | .func (.func f) first captured=>Ka P pk Z f (first++c.args.map (ev F)++captured) w k
   | _=>False
  | .invoke r name=>∃ (f:FuncId) (args:Array Value),meth P (ev F r) name (c.args.map (ev F)) w f args/\Calls P f args w λ e w'=>(ob P o.type).ex λ v=>e= .returned v/\k v w'
 | .panic x=>match ev F x with
  | .iface t v=>Z [{ v:=.iface t v,recovered:=false }] w
  | _=>False
 | _=>jt P o F w λ v=>k v w
inductive An where
 | leaf
 | node (S:List (Nat×Sh)) (keep:List Nat) (mode:Nat) (x y:An)
def An.x:An->An | .leaf=>.leaf | .node _ _ _ x _=>x
def An.y:An->An | .leaf=>.leaf | .node _ _ _ _ y=>y
def An.S:An->List (Nat×Sh) | .leaf=>[] | .node S _ _ _ _=>S
def An.keep:An->List Nat | .leaf=>[] | .node _ k _ _ _=>k
def An.mode:An->Nat | .leaf=>0 | .node _ _ m _ _=>m
inductive Ex where
 | normal | exit (id:Nat) | ret
def od (ops:List Oper) (o:Oper) (F:Fr) (yes no:Fr->Prop):Prop :=
 match o.guard with
 | none=>yes F
 | some (j,want)=>match (ops[j]?).bind (·.dst) with
  | some d=>match F.get d with
   | .bool b=>split b (match want with | true=>yes (F.know (.tmp d) true) | false=>no (F.know (.tmp d) true)) (match want with | true=>no (F.know (.tmp d) false) | false=>yes (F.know (.tmp d) false))
   | .tuple _=>no F
   | _=>False
  | none=>False
def yq (n:Nat) (P:Program) (pk:List Nat) (Z:List PanicEntry->World->Prop) (ops:List Oper):List Oper->Fr->World->(Fr->World->Prop)->Prop
 | [],F,w,k=>k F w
 | o::rest,F,w,k=>od ops o F (λ F=>Wo P pk Z o F w λ v w'=>yq n P pk Z ops rest (F.put n o.dst v) w' k) (λ F=>yq n P pk Z ops rest (F.put n o.dst undef) w k)
def Md (P:Program) (o:Oper) (F:Fr):Option (FuncId×Array Value) :=
 match o.op with
 | .call c=>match c.callee with
  | .value x=>match ev F x with
   | .func (.func f) first captured=>some (f,first++c.args.map (ev F)++captured)
   | _=>none
  | _=>none
 | _=>none
def aec (P:Program) (f:FuncId):List TypeId:=match P.funcs[f]? with | some fn=>fn.resultTypes.toList | none=>[]
def Gn (P:Program) (f:FuncId):Bool:=match P.funcs[f]? with | some fn=>fn.body.isSome&&fn.name != "runtime.NumGoroutine" | none=>false
def vn (n:Nat) (P:Program) (ops:List Oper) (w:World):List Oper->Fr->(Fr->Prop)->Prop
 | [],F,k=>k F
 | o::rest,F,k=>od ops o F
  (λ F=>match Md P o F with
   | some (f,args)=>bif Gn P f then Jz P (aec P f) [] λ v=>Calls P f args w (λ e w'=>e= .returned v/\w'=w)/\vn n P ops w rest (F.put n o.dst v) k else False
   | none=>jt P o F w λ v=>vn n P ops w rest (F.put n o.dst v) k)
  (λ F=>vn n P ops w rest (F.put n o.dst undef) k)
def vo (n:Nat) (P:Program) (ops:List Oper) (w:World):List Oper->Fr->(Fr->Prop)->Prop
 | [],F,k=>k F
 | o::rest,F,k=>od ops o F
  (λ F=>match Md P o F with
   | some (f,args)=>bif Gn P f then Jz P (aec P f) [] λ v=>(∀ m:Nat,Calls P f args (w.drewN m) λ e w'=>e= .returned v/\∃ m',w'=w.drewN m')/\vo n P ops w rest (F.put n o.dst v) k else False
   | none=>jt P o F w λ v=>vo n P ops w rest (F.put n o.dst v) k)
  (λ F=>vo n P ops w rest (F.put n o.dst undef) k)
def nc:Op->Bool
 | .move _ | .assign _ | .pick .. | .load .. | .nilCheck _ | .binOp .. | .unOp .. | .convert .. | .fieldAddr .. | .field .. | .indexAddr .. | .index .. | .slice .. | .build .. | .makeInterface .. | .makeFunc .. | .extract .. | .lookup .. | .sliceToArrayPointer .. | .typeAssert ..=>true
 | .call c=>match c.callee with | .builtin .len | .builtin .cap=>true | _=>false
 | _=>false
def xz (ops:Array Oper) (x i:Nat):Bool:=match ops[x]? with
 | some o=>o.after.any λ e=>Region.binds .any e&&Nat.beq e.on i
 | none=>false
def Oa (ops:Array Oper):Nat->Nat->Nat->Bool
 | 0,x,i=>xz ops x i
 | n+1,x,i=>xz ops x i||match ops[x]? with
  | some o=>o.after.any λ e=>Region.binds .any e&&Oa ops n e.on i
  | none=>false
def Wp (ops:Array Oper) (stop i:Nat):Bool:=match ops[stop]? with
 | some _=>Oa ops 5 stop i
 | none=>true
def qj (P:Program):Op->Bool
 | .convert s _ _=>match ob P s with | .slice=>false | _=>true
 | .binOp _ t _ _ _=>match ob P t with | .any=>false | _=>true
 | .move _ | .assign _ | .pick .. | .nilCheck _ | .fieldAddr .. | .field .. | .indexAddr .. | .index .. | .slice .. | .build .. | .extract .. | .unOp .. | .makeInterface .. | .makeFunc .. | .typeAssert ..=>true
 | _=>false
def Qs (ops:Array Oper) (stop:Nat) (L:Array Bool) (i:Nat):Bool:=match ops[i]? with
 | some o=>nc o.op&&Region.free .any ops L i&& !Nat.beq i stop&& !L.getD stop false&&Wp ops stop i
 | none=>false
def Me (P:Program) (ops:Array Oper) (stop:Nat) (L:Array Bool) (i:Nat):Bool:=match ops[i]? with
 | some o=>qj P o.op&&Region.free .any ops L i&& !Nat.beq i stop
 | none=>false
def Wq:List Nat->(Nat->Prop)->Prop
 | [],_=>True
 | [i],f=>f i
 | i::r,f=>f i/\Wq r f
def Ds (b:Bool) (w0 w:World) (k:Prop):Prop:=match b with | true=>k | false=>Below w0.heap.size w0 w/\k
def Dt (ops:Array Oper) (j:Nat):Bool:=match ops[j]? with | some o=> !nc o.op | none=>false
def qk (ops:Array Oper) (i:Nat):Nat:=((List.range ops.size).find? λ j=>Dt ops j&&Oa ops 5 j i).getD ops.size
def Du (ops:Array Oper) (stop:Nat) (L:Array Bool) (i:Nat):Bool:=match ops[i]? with
 | some o=>nc o.op&&Region.free .any ops L i&& !Nat.beq i stop&& !L.getD (qk ops i) false&&Wp ops (qk ops i) i
 | none=>false
structure Still where
 st:Nat
 o:Oper
 F:Fr
 v:Value
def ju (P:Program) (L:Array Bool) (w:World):List Still->Prop->Prop
 | [],k=>k
 | e::E,k=>match L.getD e.st false with
  | true=>ju P L w E k
  | false=>jt P e.o e.F w (λ u=>u=e.v)/\ju P L w E k
def ma (n:Nat) (P:Program) (pk:List Nat) (Z:List PanicEntry->World->Prop) (ops:Array Oper) (stop:Nat) (early:Bool) (w0:World):Nat->Array Bool->List Still->Fr->World->(Fr->World->Prop)->Prop
 | 0,L,E,F,w,k=>match Region.ready .any ops L with | []=>k F w | _=>False
 | fuel+1,L,E,F,w,k=>match Region.ready .any ops L with
  | []=>k F w
  | rs=>match rs.find? (Me P ops stop L) with
   | some i=>match ops[i]? with
    | some o=>od ops.toList o F (λ F=>jt P o F w λ v=>ma n P pk Z ops stop early w0 fuel (L.setIfInBounds i true) E (F.put n o.dst v) w k) (λ F=>ma n P pk Z ops stop early w0 fuel (L.setIfInBounds i true) E (F.put n o.dst undef) w k)
    | none=>False
   | none=>match rs.find? (Qs ops stop L) with
   | some i=>match ops[i]? with
    | some o=>od ops.toList o F (λ F=>jt P o F w0 λ v=>ma n P pk Z ops stop early w0 fuel (L.setIfInBounds i true) E (F.put n o.dst v) w k) (λ F=>ma n P pk Z ops stop early w0 fuel (L.setIfInBounds i true) E (F.put n o.dst undef) w k)
    | none=>False
   | none=>match (match early with | true=>rs.find? (Du ops stop L) | false=>none) with
   | some i=>match ops[i]? with
    | some o=>od ops.toList o F (λ F=>jt P o F w λ v=>ma n P pk Z ops stop early w0 fuel (L.setIfInBounds i true) (⟨qk ops i,o,F,v⟩::E) (F.put n o.dst v) w k) (λ F=>ma n P pk Z ops stop early w0 fuel (L.setIfInBounds i true) E (F.put n o.dst undef) w k)
    | none=>False
   | none=>Wq rs λ i=>match ops[i]? with
    | some o=>od ops.toList o F (λ F=>Wo P pk Z o F w λ v w'=>Ds ((L.setIfInBounds i true).getD stop false) w0 w' (ju P (L.setIfInBounds i true) w' E (ma n P pk Z ops stop early w0 fuel (L.setIfInBounds i true) E (F.put n o.dst v) w' k))) (λ F=>Ds ((L.setIfInBounds i true).getD stop false) w0 w (ju P (L.setIfInBounds i true) w E (ma n P pk Z ops stop early w0 fuel (L.setIfInBounds i true) E (F.put n o.dst undef) w k)))
    | none=>False
def ri:Code->List Nat
 | .region _ ops _=>ops.toList.filterMap (·.dst)
 | .seq a b=>ri a++ri b
 | .cond _ a b=>ri a++ri b
 | .block _ a=>ri a
 | .loop a=>ri a
 | .scope a=>ri a
 | _=>[]
def Qt (c:Code) (keep:List Nat):Bool:=keep.all λ t=>(ri c).all λ d=> !Nat.beq t d
def vc (n:Nat) (P:Program) (pk:List Nat) (Z:List PanicEntry->World->Prop):Code->An->Fr->World->(Ex->Fr->World->Prop)->Prop
 | .skip,_,F,w,K=>K .normal F w
 | .ret,_,F,w,K=>K .ret F w
 | .exit id,_,F,w,K=>K (.exit id) F w
 | .scope c,an,F,w,K=>vc n P pk Z c an.x F w K
 | .seq a b,an,F,w,K=>match an.mode with
  | 0=>vc n P pk Z a an.x F w λ e F' w'=>match e with
   | .normal=>vc n P pk Z b an.y F' w' K
   | .exit i=>K (.exit i) F' w'
   | .ret=>K .ret F' w'
  | _=>bif Qt a an.keep then ∃ R:Vx an.S Prop,vc n P pk Z a an.x F w (λ e F' w'=>match e with
   | .normal=>holds (Ma an.S R F') w'
   | .exit i=>K (.exit i) F' w'
   | .ret=>K .ret F' w')/\∀ J:Nat->Value,Ql an.S R R (an.keep.map λ t=>(t,F.get t)) λ R' _ l=>∀ w':World,R' w'->vc n P pk Z b an.y ⟨l,J⟩ w' K else False
 | .cond c a b,an,F,w,K=>asBool (ev F c) λ t=>split t (vc n P pk Z a an.x (F.know c true) w K) (vc n P pk Z b an.y (F.know c false) w K)
 | .block id c,an,F,w,K=>vc n P pk Z c an.x F w λ e F' w'=>match e with
  | .normal=>K .normal F' w'
  | .exit i=>bif Nat.beq i id then K .normal F' w' else K (.exit i) F' w'
  | .ret=>K .ret F' w'
 | .region _ ops false,_,F,w,K=>yq n P pk Z ops.toList ops.toList F w (K .normal)
 | .region _ ops true,an,F,w,K=>match an.mode with
  | 0=>bif P.follows .mixedOrders&&Region.lexB .any ops then vo n P ops.toList w ops.toList F λ F'=>∀ (w':World) (m:Nat),w'=w.drewN m->K .normal F' w' else False
  | m+1=>bif Nat.ble 1000 m then (bif P.follows .mixedOrders&&Region.noSelect ops then ∀ w1:World,w1=w.drew->ma n P pk Z ops ((m - 1000) % 1000000) (Nat.ble 1000000 m) w1 ops.size (Array.replicate ops.size false) [] F w1 (K .normal) else False) else bif P.follows .mixedOrders&&Region.lexTailB .any ops m then ∀ w1:World,w1=w.drew->vn n P ops.toList w1 (ops.toList.take m) F λ F'=>yq n P pk Z ops.toList (ops.toList.drop m) F' w1 (K .normal) else False
 | .loop c,an,F,w,K=>bif Qt c an.keep then ∃ (I:Vx an.S Prop) (μ:Vx an.S Nat),holds (Ma an.S I F) w/\∀ J:Nat->Value,Ql an.S I μ (an.keep.map λ t=>(t,F.get t)) λ I' μ' l=>∀ w':World,I' w' ->
   vc n P pk Z c an.x ⟨l,J⟩ w' λ e F2 w2=>match e with
    | .normal=>match Ma an.S I F2,Ma an.S μ F2 with
     | some I2,some μ2=>I2 w2/\μ2 w2<μ' w'
     | _,_=>False
    | .exit i=>K (.exit i) F2 w2
    | .ret=>K .ret F2 w2 else False
 | _,_,_,_,_=>False
def xl (P:Program):List ResultVar->Fr->World->List Value->(Value->Prop)->Prop
 | [],F,w,[v],φ=>φ v
 | [],F,w,acc,φ=>φ (.tuple acc.toArray)
 | .tmp t::r,F,w,acc,φ=>xl P r F w (acc++[F.get t]) φ
 | .cell a t::r,F,w,acc,φ=>Mc P t (F.get a) w λ v=>xl P r F w (acc++[v]) φ
def Qu:Nat->List Value->List (Nat×Value)
 | _,[]=>[]
 | i,v::r=>(i,v)::Qu (i+1) r
def agm (P:Program) (pk:List Nat) (fn:Func) (an:An) (args:List Value) (w:World) (Q:Ending->World->Prop):Prop :=
 match fn.body with
 | some c=>bif Nat.ble args.length fn.ntmps then vc fn.ntmps P pk (λ ch w'=>Q (.panicked ch) w') c an ⟨Qu 0 args,λ _=>undef⟩ w λ e F w'=>match e with
  | .normal | .ret=>xl P fn.results.toList F w' [] λ v=>Q (.returned v) w'
  | .exit _=>False else False
 | none=>False
structure DV where
 f:FuncId
 args:Array Value
 captured:Array Value
def DV.to (d:DV):Deferred:={ target:=.fn (.func d.f) d.captured,args:=d.args }
def oe:List ResultVar->List Nat
 | []=>[]
 | .tmp t::r=>t::oe r
 | .cell a _::r=>a::oe r
def dm (P:Program) (rs:List ResultVar) (Q:Ending->World->Prop):List DV->Option Fr->FrameMode->World->Prop
 | [],G,u,w=>match u with
  | .returning=>match G with
   | some F=>xl P rs F w [] λ v=>Q (.returned v) w
   | none=>False
  | .panicking ch=>Q (.panicked ch) w
  | .run=>False
 | d::ds,G,u,w=>match u with
  | .run=>False
  | .returning=>CallsD P d.f (d.args++d.captured) .returning w λ e u' w'=>(∃ v:Value,e= .returned v/\((settle u'= .returning/\dm P rs Q ds G .returning w')∨∃ c:List PanicEntry,settle u'= .panicking c/\dm P rs Q ds G (.panicking c) w'))∨∃ c:List PanicEntry,e= .panicked c/\∃ c':List PanicEntry,raised u' c= .panicking c'/\dm P rs Q ds G (.panicking c') w'
  | .panicking ch=>CallsD P d.f (d.args++d.captured) (.panicking ch) w λ e u' w'=>(∃ v:Value,e= .returned v/\((settle u'= .returning/\dm P rs Q ds G .returning w')∨∃ c:List PanicEntry,settle u'= .panicking c/\dm P rs Q ds G (.panicking c) w'))∨∃ c:List PanicEntry,e= .panicked c/\∃ c':List PanicEntry,raised u' c= .panicking c'/\dm P rs Q ds G (.panicking c') w'
def wy:List Oper->Option (List Oper×Call)
 | []=>none
 | [o]=>match o.op,o.guard,o.dst with
  | .defer c,none,none=>some ([],c)
  | _,_,_=>none
 | o::r=>(wy r).map λ (l,c)=>(o::l,c)
def Qv:Code->Option (List Oper×List Oper×Call)
 | .region _ ops false=>(wy ops.toList).map λ (l,c)=>(ops.toList,l,c)
 | _=>none
def Qw (P:Program) (F:Fr) (c:Call) (k:DV->Prop):Prop:=match c.callee with
 | .value x=>match ev F x with
  | .func (.func f) first captured=>bif Gn P f then k ⟨f,first++c.args.map (ev F),captured⟩ else False
  | _=>False
 | _=>False
def Cf (c:Code) (rs:List ResultVar) (F:Fr):Option Fr:=bif Qt c (oe rs) then some F else none
def Qx (n:Nat) (P:Program) (pk:List Nat) (rs:List ResultVar) (Q:Ending->World->Prop):Code->An->Fr->World->List DV->Prop
 | .seq a b,an,F,w,D=>match Qv a with
  | some (ops,l,c)=>yq n P pk (λ ch w'=>dm P rs Q D (Cf a rs F) (.panicking ch) w') ops l F w λ F' w'=>Qw P F' c λ d=>Qx n P pk rs Q b an.y F' w' (d::D)
  | none=>vc n P pk (λ ch w'=>dm P rs Q D (Cf a rs F) (.panicking ch) w') a an.x F w λ e F' w'=>match e with
   | .normal=>Qx n P pk rs Q b an.y F' w' D
   | .ret=>dm P rs Q D (some F') .returning w'
   | .exit _=>False
 | c,an,F,w,D=>vc n P pk (λ ch w'=>dm P rs Q D (Cf c rs F) (.panicking ch) w') c an F w λ e F' w'=>match e with
  | .normal | .ret=>dm P rs Q D (some F') .returning w'
  | .exit _=>False
def aed (P:Program) (pk:List Nat) (fn:Func) (an:An) (args:List Value) (w:World) (Q:Ending->World->Prop):Prop :=
 match fn.body with
 | some c=>bif Nat.ble args.length fn.ntmps then Qx fn.ntmps P pk fn.results.toList Q c an ⟨Qu 0 args,λ _=>undef⟩ w [] else False
 | none=>False
def aee (P:Program) (pk:List Nat) (fn:Func) (an:An) (args:List Value) (u:FrameMode) (w:World) (Q:Ending->FrameMode->World->Prop):Prop :=
 match fn.body with
 | some (.seq (.region _ ops false) b)=>match ops.toList with
  | [o]=>match o.op,o.guard with
   | .call c,none=>match c.callee with
    | .builtin .recover=>bif Nat.ble args.length fn.ntmps then (match u with
     | .panicking ({ v,recovered:=false,goexit:=false }::older)=>vc fn.ntmps P pk (λ ch w'=>Q (.panicked ch) (.panicking ({ v,recovered:=true }::older)) w') b an.y ((Fr.mk (Qu 0 args) λ _=>undef).put fn.ntmps o.dst v) w λ e F w'=>match e with
      | .normal | .ret=>xl P fn.results.toList F w' [] λ r=>Q (.returned r) (.panicking ({ v,recovered:=true }::older)) w'
      | .exit _=>False
     | .returning=>vc fn.ntmps P pk (λ ch w'=>Q (.panicked ch) .returning w') b an.y ((Fr.mk (Qu 0 args) λ _=>undef).put fn.ntmps o.dst .nilIface) w λ e F w'=>match e with
      | .normal | .ret=>xl P fn.results.toList F w' [] λ r=>Q (.returned r) .returning w'
      | .exit _=>False
     | _=>False) else False
    | _=>False
   | _,_=>False
  | _=>False
 | _=>False
end Go.Sx
