/- A part of the walk. No condition. -/
import Derived.WalkKit
import Derived.ProofKit
import Derived.StillTail
import Derived.Deep.Quiet
import Derived.OrdersHeld
import Derived.Below
import Derived.Laws.MakeOwn
import Derived.Laws.Rows
import Derived.Scope
import Derived.Test.YtmncepdbglaphaaGreatDoorSxM
set_option linter.unusedVariables false
@[reducible] def Go.pZ (b o:Nat):Value:=.pointer (some ⟨b,o,none⟩)
@[reducible] def Go.eY (a:Array Value):Ending:=.returned (.tuple a)
@[reducible] def Go.eZ (v:Value):Ending:=.returned v
@[reducible] def Go.bZ (κ:IntKind) (x:Int):BitVec (IntKind.bits κ):=BitVec.ofInt (IntKind.bits κ) x
theorem Go.qB:type_of% @of_decide_eq_true:=@of_decide_eq_true
theorem Go.qC:type_of% @List.getElem?_eq_getElem:=@List.getElem?_eq_getElem
theorem Go.qD:type_of% @List.getElem?_eq_some_iff:=@List.getElem?_eq_some_iff
theorem Go.qE:type_of% @of_decide_eq_false:=@of_decide_eq_false
theorem Go.qF:type_of% @List.getD_eq_getElem?_getD:=@List.getD_eq_getElem?_getD
theorem Go.qG:type_of% @Int.toNat_natCast:=@Int.toNat_natCast
theorem Go.qH:type_of% @Go.XHeap.XTouch.refl:=@Go.XHeap.XTouch.refl
theorem Go.qI:type_of% @decide_eq_true:=@decide_eq_true
theorem Go.qJ:type_of% @List.length_set:=@List.length_set
theorem Go.qK:type_of% @List.mem_iff_getElem?:=@List.mem_iff_getElem?
theorem Go.qL:type_of% @List.mem_append_right:=@List.mem_append_right
theorem Go.qM:type_of% @decide_eq_false:=@decide_eq_false
theorem Go.qN:type_of% @List.mem_of_getElem?:=@List.mem_of_getElem?
theorem Go.qO:type_of% @List.getElem?_set_self:=@List.getElem?_set_self
theorem Go.qP:type_of% @List.length_append:=@List.length_append
theorem Go.qQ:type_of% @Nat.zero_le:=@Nat.zero_le
theorem Go.qR:type_of% @List.mem_singleton:=@List.mem_singleton
theorem Go.qS:type_of% @List.getElem?_map:=@List.getElem?_map
theorem Go.qT:type_of% @Nat.mul_one:=@Nat.mul_one
theorem Go.qU:type_of% @Bool.and_eq_true:=@Bool.and_eq_true
theorem Go.qV:type_of% @List.map_append:=@List.map_append
theorem Go.qW:type_of% @Nat.zero_add:=@Nat.zero_add
theorem Go.qX:type_of% @Nat.pow_le_pow_right:=@Nat.pow_le_pow_right
theorem Go.qY:type_of% @Nat.le_refl:=@Nat.le_refl
theorem Go.qZ:type_of% @List.mem_or_eq_of_mem_set:=@List.mem_or_eq_of_mem_set
theorem Go.qa:type_of% @List.getElem?_take_of_lt:=@List.getElem?_take_of_lt
theorem Go.qc:type_of% @List.mem_append:=@List.mem_append
theorem Go.qd:type_of% @List.length_map:=@List.length_map
theorem Go.qf:type_of% @List.getElem?_append_right:=@List.getElem?_append_right
theorem Go.qg:type_of% @List.mem_cons_self:=@List.mem_cons_self
theorem Go.qh:type_of% @Array.getElem?_eq_getElem:=@Array.getElem?_eq_getElem
theorem Go.qi:type_of% @List.length_replicate:=@List.length_replicate
theorem Go.qj:type_of% @List.filter_cons:=@List.filter_cons
theorem Go.qk:type_of% @List.getElem?_append_left:=@List.getElem?_append_left
theorem Go.ql:type_of% @List.append_assoc:=@List.append_assoc
theorem Go.qn:type_of% @List.getElem?_set:=@List.getElem?_set
theorem Go.qp:type_of% @List.mem_cons:=@List.mem_cons
theorem Go.qq:type_of% @List.length_take:=@List.length_take
theorem Go.qr:type_of% @List.nil_append:=@List.nil_append
theorem Go.qt:type_of% @List.mem_append_left:=@List.mem_append_left
theorem Go.qu:type_of% @List.getElem?_of_mem:=@List.getElem?_of_mem
theorem Go.qv:type_of% @List.findIdx?_eq_some_iff_getElem:=@List.findIdx?_eq_some_iff_getElem
theorem Go.qy:type_of% @List.length_cons:=@List.length_cons
theorem Go.qz:type_of% @List.getElem?_set_ne:=@List.getElem?_set_ne
theorem Go.qAB:type_of% @List.getElem?_drop:=@List.getElem?_drop
theorem Go.qBB:type_of% @List.filter_append:=@List.filter_append
theorem Go.qCB:type_of% @List.mem_map:=@List.mem_map
theorem Go.qDB:type_of% @Nat.eq_of_beq_eq_true:=@Nat.eq_of_beq_eq_true
theorem Go.qEB:type_of% @List.ext_getElem?:=@List.ext_getElem?
theorem Go.qFB:type_of% @List.not_mem_nil:=@List.not_mem_nil
theorem Go.qGB:type_of% @List.take_of_length_le:=@List.take_of_length_le
theorem Go.qHB:type_of% @List.eq_nil_of_length_eq_zero:=@List.eq_nil_of_length_eq_zero
theorem Go.qIB:type_of% @Nat.mod_lt:=@Nat.mod_lt
theorem Go.qJB:type_of% @Array.getD_eq_getD_getElem?:=@Array.getD_eq_getD_getElem?
theorem Go.qKB:type_of% @List.foldl_cons:=@List.foldl_cons
theorem Go.qLB:type_of% @Array.toList_inj:=@Array.toList_inj
theorem Go.qMB:type_of% @Nat.two_pow_pos:=@Nat.two_pow_pos
theorem Go.qNB:type_of% @List.mem_range:=@List.mem_range
theorem Go.qOB:type_of% @List.exists_cons_of_ne_nil:=@List.exists_cons_of_ne_nil
theorem Go.qPB:type_of% @Nat.min_eq_left:=@Nat.min_eq_left
theorem Go.qQB:type_of% @List.reverse_reverse:=@List.reverse_reverse
theorem Go.qRB:type_of% @List.mem_of_mem_take:=@List.mem_of_mem_take
theorem Go.qSB:type_of% @List.mem_replicate:=@List.mem_replicate
theorem Go.qTB:type_of% @List.getElem?_toArray:=@List.getElem?_toArray
theorem Go.qUB:type_of% @Array.getElem?_eq_some_iff:=@Array.getElem?_eq_some_iff
theorem Go.qVB:type_of% @Nat.le_trans:=@Nat.le_trans
theorem Go.qWB:type_of% @List.set_set:=@List.set_set
theorem Go.qXB:type_of% @List.mem_cons_of_mem:=@List.mem_cons_of_mem
theorem Go.qYB:type_of% @List.drop_eq_getElem_cons:=@List.drop_eq_getElem_cons
theorem Go.qZB:type_of% @List.pairwise_iff_getElem:=@List.pairwise_iff_getElem
theorem Go.qaB:type_of% @Nat.lt_of_lt_of_le:=@Nat.lt_of_lt_of_le
theorem Go.qbB:type_of% @Bool.false_and:=@Bool.false_and
theorem Go.qcB:type_of% @List.nodup_cons:=@List.nodup_cons
theorem Go.qdB:type_of% @List.take_succ_eq_append_getElem:=@List.take_succ_eq_append_getElem
theorem Go.qeB:type_of% @Array.getElem?_toList:=@Array.getElem?_toList
theorem Go.qfB:type_of% @List.take_add_one:=@List.take_add_one
theorem Go.qgB:type_of% @Int.fdiv_eq_ediv_of_nonneg:=@Int.fdiv_eq_ediv_of_nonneg
theorem Go.qhB:type_of% @List.mem_of_mem_drop:=@List.mem_of_mem_drop
theorem Go.qiB:type_of% @Nat.mul_le_mul_right:=@Nat.mul_le_mul_right
theorem Go.qjB:type_of% @List.getElem_mem:=@List.getElem_mem
theorem Go.qkB:type_of% @List.mem_of_find?_eq_some:=@List.mem_of_find?_eq_some
theorem Go.qlB:type_of% @List.map_congr_left:=@List.map_congr_left
theorem Go.qmB:type_of% @List.nodup_append:=@List.nodup_append
theorem Go.qnB:type_of% @List.size_toArray:=@List.size_toArray
theorem Go.qoB:type_of% @Bool.true_and:=@Bool.true_and
theorem Go.qpB:type_of% @Nat.le_of_ble_eq_true:=@Nat.le_of_ble_eq_true
theorem Go.qqB:type_of% @List.append_nil:=@List.append_nil
theorem Go.qrB:type_of% @List.mem_filter:=@List.mem_filter
theorem Go.qsB:type_of% @Array.toList_setIfInBounds:=@Array.toList_setIfInBounds
theorem Go.qtB:type_of% @List.map_set:=@List.map_set
theorem Go.quB:type_of% @List.map_cons:=@List.map_cons
theorem Go.qvB:type_of% @List.drop_of_length_le:=@List.drop_of_length_le
theorem Go.qwB:type_of% @List.foldl_append:=@List.foldl_append
theorem Go.qxB:type_of% @List.findIdx?_eq_none_iff:=@List.findIdx?_eq_none_iff
theorem Go.qyB:type_of% @List.find?_eq_some_iff_getElem:=@List.find?_eq_some_iff_getElem
theorem Go.qzB:type_of% @List.take_append_drop:=@List.take_append_drop
theorem Go.qAC:type_of% @List.cons_append:=@List.cons_append
theorem Go.qBC:type_of% @Nat.lt_of_le_of_lt:=@Nat.lt_of_le_of_lt
theorem Go.qCC:type_of% @List.forall_mem_cons:=@List.forall_mem_cons
theorem Go.qDC:type_of% @List.length_eq_zero_iff:=@List.length_eq_zero_iff
theorem Go.qEC:type_of% @List.getElem?_replicate:=@List.getElem?_replicate
theorem Go.qFC:type_of% @List.mem_map_of_mem:=@List.mem_map_of_mem
theorem Go.qGC:type_of% @List.getElem_of_mem:=@List.getElem_of_mem
namespace Go.Sx
open Go.RowKit Go.XHeap
structure Fr where
 l:List (Nat×Value)
 f:Nat->Value
def look:List (Nat×Value)->(Nat->Value)->Nat->Value
 | [],f,t=>f t
 | (u,v)::r,f,t=>bif Nat.beq u t then v else look r f t
def Fr.get (F:Fr) (t:Nat):Value:=look F.l F.f t
def Fr.put (F:Fr) (n:Nat) (d:Option Tmp) (v:Value):Fr :=
 match d with
 | none=>F
 | some d=>bif Nat.blt d n then ⟨(d,v)::F.l,F.f⟩ else F
def ev (F:Fr):Operand->Value
 | .tmp t=>F.get t
 | .const v=>v
 | .global g=>.pointer (some ⟨g,0,none⟩)
 | .func f=>.func (.func f) #[] #[]
inductive Sh where
 | int (k:IntKind) | bool | str | ptr | slice | agg | map | any
def oz (P:Program) (t:TI):Sh :=
 match P.underlying t with
 | some (.int k)=>.int k
 | some .bool=>.bool
 | some .string=>.str
 | some (.pointer _)=>.ptr
 | some (.slice _)=>.slice
 | some (.struct _) | some (.array _ _)=>.agg
 | some (.map _ _)=>.map
 | _=>.any
def Sh.ex:Sh->(Value->Prop)->Prop
 | .int k,φ=>∃ x:Int,φ (.int k x)
 | .bool,φ=>∃ b:Bool,φ (.bool b)
 | .str,φ=>∃ s:ByteArray,φ (.string s)
 | .ptr,φ=>∃ p:OA,φ (.pointer p)
 | .slice,φ=>∃ (p:OA) (n c:Nat),φ (.slice p n c)
 | .agg,φ=>∃ vs:AV,φ (.agg vs)
 | .map,φ=>∃ p:Option Nat,φ (.map p)
 | .any,φ=>∃ v:Value,φ v
def Sh.T:Sh->Type->Type
 | .int _,r=>Int->r
 | .bool,r=>Bool->r
 | .str,r=>ByteArray->r
 | .ptr,r=>OA->r
 | .slice,r=>OA->Nat->Nat->r
 | .agg,r=>AV->r
 | .map,r=>Option Nat->r
 | .any,r=>Value->r
def Tu:List (Nat×Sh)->Type->Type
 | [],r=>wD->r
 | (_,s)::S,r=>s.T (Tu S r)
def Sh.app {r:Type}:(s:Sh)->s.T r->Value->Option r
 | .int k,f,v=>match v with | .int k' x=>bif decide (k'=k) then some (f x) else none | _=>none
 | .bool,f,v=>match v with | .bool x=>some (f x) | _=>none
 | .str,f,v=>match v with | .string x=>some (f x) | _=>none
 | .ptr,f,v=>match v with | .pointer x=>some (f x) | _=>none
 | .slice,f,v=>match v with | .slice x n c=>some (f x n c) | _=>none
 | .agg,f,v=>match v with | .agg x=>some (f x) | _=>none
 | .map,f,v=>match v with | .map x=>some (f x) | _=>none
 | .any,f,v=>some (f v)
def Gb {r:Type}:(S:List (Nat×Sh))->Tu S r->Fr->Option (wD->r)
 | [],f,F=>some f
 | (t,s)::S,f,F=>match s.app f (F.get t) with
  | some g=>Gb S g F
  | none=>none
def holds (o:Option (wD->Prop)) (w:wD):Prop:=match o with | some p=>p w | none=>False
def fit:Sh->Value->Prop
 | .int k,v=>∃ x,v= .int k x
 | .bool,v=>∃ x,v= .bool x
 | .str,v=>∃ x,v= .string x
 | .ptr,v=>∃ x,v= .pointer x
 | .slice,v=>∃ p n c,v= .slice p n c
 | .agg,v=>∃ x,v= .agg x
 | .map,v=>∃ x,v= .map x
 | .any,v=>True
def Nl {r q:Type}:(S:List (Nat×Sh))->Tu S r->Tu S q->List (Nat×Value)->((wD->r)->(wD->q)->List (Nat×Value)->Prop)->Prop
 | [],f,g,l,κ=>κ f g l
 | (t,.int k)::S,f,g,l,κ=>∀ x:Int,Nl S (f x) (g x) ((t,.int k x)::l) κ
 | (t,.bool)::S,f,g,l,κ=>∀ x:Bool,Nl S (f x) (g x) ((t,.bool x)::l) κ
 | (t,.str)::S,f,g,l,κ=>∀ x:ByteArray,Nl S (f x) (g x) ((t,.string x)::l) κ
 | (t,.ptr)::S,f,g,l,κ=>∀ x:OA,Nl S (f x) (g x) ((t,.pointer x)::l) κ
 | (t,.slice)::S,f,g,l,κ=>∀ (p:OA) (n c:Nat),Nl S (f p n c) (g p n c) ((t,.slice p n c)::l) κ
 | (t,.agg)::S,f,g,l,κ=>∀ x:AV,Nl S (f x) (g x) ((t,.agg x)::l) κ
 | (t,.map)::S,f,g,l,κ=>∀ x:Option Nat,Nl S (f x) (g x) ((t,.map x)::l) κ
 | (t,.any)::S,f,g,l,κ=>∀ x:Value,Nl S (f x) (g x) ((t,x)::l) κ
def ptr (p:OA) (k:Addr->Prop):Prop:=match p with | some a=>k a | none=>False
def adr (p:OA) (k:Nat->Nat->Prop):Prop:=match p with | some ⟨g,o,none⟩=>k g o | _=>False
def eqPtr (i:Bool) (p q:OA) (kn kt kf:Prop):Prop:=match q with
 | none=>kn
 | some a=>match p with
  | none=>kf
  | some b=>cond i (b=a/\kt) False
def dk (v:Value) (k:IntKind->Int->Prop):Prop:=match v with | .int κ x=>k κ x | _=>False
def asBool (v:Value) (k:Bool->Prop):Prop:=match v with | .bool b=>k b | _=>False
def Gd (v:Value) (k:OA->Prop):Prop:=match v with | .pointer p=>k p | _=>False
def ir (v:Value) (k:OA->Nat->Nat->Prop):Prop:=match v with | .slice p n c=>k p n c | _=>False
def asAgg (v:Value) (k:AV->Prop):Prop:=match v with | .agg vs=>k vs | _=>False
def Ud (v:Value) (k:Option Nat->Prop):Prop:=match v with | .map p=>k p | _=>False
def mapp (p:Option Nat) (k:Nat->Prop):Prop:=match p with | some b=>k b | none=>False
def Nm (P:Program) (e:TI):Option Value:=(P.info? e).bind (·.zero)
def Nn (P:Program) (t:TI):Option (IntKind×TI):=match P.underlying t with
 | some (.map kt e)=>match P.underlying kt with
  | some (.int κ)=>some (κ,e)
  | _=>none
 | _=>none
def one (v:Value) (k:Prop):Prop:=match v with
 | .agg _ | .tuple _=>False
 | .bool _ | .int _ _ | .float _ _ | .complex _ _ _ | .string _ | .pointer _ | .slice _ _ _ | .map _ | .chan _ | .func _ _ _ | .nilFunc | .iface _ _ | .nilIface=>k
def split (b:Bool) (y n:Prop):Prop:=match b with | true=>y | false=>n
theorem aa {b:Bool}{y n:Prop} (h1:b=true->y) (h2:b=false->n):split b y n:=by cases b;exact h2 rfl;exact h1 rfl
def Fr.know (F:Fr):Operand->Bool->Fr
 | .tmp t,b=>⟨(t,.bool b)::F.l,F.f⟩
 | _,_=>F
def isNil (v:Value) (k:Bool->Prop):Prop:=match v with | .nilIface=>k true | .iface _ _=>k false | _=>False
def meth (P:Program) (v:Value) (name:String) (args:AV) (w:wD) (f:FuncId) (all:AV):Prop:=(callMethod v name args).run P w= .ok (.enter f all) w
def notNil (v:Value) (k:Value->Prop):Prop:=match v with
 | .pointer p=>ptr p λ a=>k (.pointer (some a))
 | .iface t p=>k (.iface t p)
 | .func (.func f) a b=>k (.func (.func f) a b)
 | _=>False
def sub (p:OA) (m l size:Nat):OA:=if m=l then p else p.map (·.add (l * size))
def ma (P:Program){α:Type}:Sem α->Option α
 | .pure a=>some a
 | .program k=>ma P (k P)
 | .mark _ k=>ma P k
 | _=>none
def wi (P:Program) (s:Sem Next) (k:Value->Prop):Prop:=match ma P s with | some (.value v)=>k v | _=>False
def cellsAt (w:wD) (a:Addr) (vs:AV):Prop:=∀ i v,vs[i]?=some v->w.cell? (a.add i)=some v
def ri (s:Sh) (w:wD) (a:Addr) (k:Value->Prop):Prop:=match s with
 | .int κ=>∃ x:Int,w.cell? a=some (.int κ x)/\k (.int κ x)
 | .bool=>∃ x:Bool,w.cell? a=some (.bool x)/\k (.bool x)
 | .str=>∃ x:ByteArray,w.cell? a=some (.string x)/\k (.string x)
 | .ptr=>∃ x:OA,w.cell? a=some (.pointer x)/\k (.pointer x)
 | .slice=>∃ (p:OA) (n c:Nat),w.cell? a=some (.slice p n c)/\k (.slice p n c)
 | .agg=>False
 | .map=>∃ p:Option Nat,w.cell? a=some (.map p)/\k (.map p)
 | .any=>∃ v:Value,w.cell? a=some v/\k v
def Ih (P:Program) (t:TI) (v:Value) (w:wD) (k:Value->Prop):Prop :=
 Gd v λ p=>ptr p λ a=>bif (P.underlying t).isSome then match oz P t with
  | .agg=>∃ vs:AV,vs.size=P.cellsOf t/\cellsAt w a vs/\k (.agg vs)
  | s=>ri s w a k
 else False
def nj (s:Sh) (vs:AV) (off size:Nat) (k:Value->Prop):Prop:=match s with
 | .agg=>∃ us:AV,vs.extract off (off+size)=us/\k (.agg us)
 | .int κ=>∃ x:Int,vs[off]?=some (.int κ x)/\k (.int κ x)
 | .bool=>∃ x:Bool,vs[off]?=some (.bool x)/\k (.bool x)
 | .str=>∃ x:ByteArray,vs[off]?=some (.string x)/\k (.string x)
 | .ptr=>∃ x:OA,vs[off]?=some (.pointer x)/\k (.pointer x)
 | .slice=>∃ (p:OA) (n c:Nat),vs[off]?=some (.slice p n c)/\k (.slice p n c)
 | .map=>∃ p:Option Nat,vs[off]?=some (.map p)/\k (.map p)
 | .any=>∃ v:Value,vs[off]?=some v/\k v
def named (κ:IntKind) (e:Int) (k:Value->Prop):Prop:=∀ z:Int,z=e->k (.int κ z)
def Np:Operand->Bool | .const _=>true | _=>false
def ahu (P:Program) (op:BinOp) (t:TI) (ox oy:Operand) (x y:Value) (pos:Bool) (k:Value->Prop) (dflt:Prop):Prop :=
 match y with
 | .nilIface=>match P.underlying t with
  | some (.interface _)=>bif Np oy then isNil x λ b=>k (.bool (bif pos then b else !b)) else False
  | _=>False
 | .pointer q=>Gd x λ p=>match P.underlying t with
  | some (.pointer e)=>eqPtr (P.info? e).isSome p q (k (.bool (bif pos then p.isNone else p.isSome))) (k (.bool pos)) (k (.bool !pos))
  | _=>False
 | .slice none _ _=>ir x λ p _ _=>match P.underlying t with
  | some (.slice _)=>k (.bool (bif pos then p.isNone else p.isSome))
  | _=>False
 | .agg ys=>asAgg x λ xs=>∃ b:Bool,(∀ w:wD,(do eqGuard op t ox oy (.agg xs) (.agg ys);binOp op t (.agg xs) (.agg ys):Sem Value).run P w= .ok (.bool b) w)/\k (.bool b)
 | _=>dflt
def Zm (P:Program) (op:BinOp) (t:TI) (ox oy:Operand) (x y:Value) (k:Value->Prop) (dflt:Prop):Prop :=
 match op with
 | .add=>match x,y with
  | .int κ a,.int κ' b=>bif decide (κ=κ') then named κ (κ.wrap (a+b)) k else False
  | .string a,.string b=>((a.size+b.size:Nat):Int)≤9223372036854775807/\∀ z:ByteArray,z=a++b->k (.string z)
  | _,_=>dflt
 | .sub=>match x,y with
  | .int κ a,.int κ' b=>bif decide (κ=κ') then named κ (κ.wrap (a - b)) k else False
  | _,_=>dflt
 | .mul=>match x,y with
  | .int κ a,.int κ' b=>bif decide (κ=κ') then named κ (κ.wrap (a * b)) k else False
  | _,_=>dflt
 | .quo=>dk x λ κ a=>dk y λ κ' b=>bif decide (κ=κ') then b≠0/\named κ (κ.wrap (a.tdiv b)) k else False
 | .rem=>dk x λ κ a=>dk y λ κ' b=>bif decide (κ=κ') then b≠0/\named κ (a.tmod b) k else False
 | .and=>dk x λ κ a=>dk y λ κ' b=>bif decide (κ=κ') then named κ (κ.wrap (BitVec.ofInt κ.bits a &&&BitVec.ofInt κ.bits b).toNat) k else False
 | .or=>dk x λ κ a=>dk y λ κ' b=>bif decide (κ=κ') then named κ (κ.wrap (BitVec.ofInt κ.bits a |||BitVec.ofInt κ.bits b).toNat) k else False
 | .xor=>dk x λ κ a=>dk y λ κ' b=>bif decide (κ=κ') then named κ (κ.wrap (BitVec.ofInt κ.bits a ^^^ BitVec.ofInt κ.bits b).toNat) k else False
 | .andNot=>dk x λ κ a=>dk y λ κ' b=>bif decide (κ=κ') then named κ (κ.wrap (BitVec.ofInt κ.bits a &&& ~~~ BitVec.ofInt κ.bits b).toNat) k else False
 | .shl=>dk x λ κ a=>dk y λ _ b=>0≤b/\named κ (κ.wrap (a * 2 ^ min b.toNat κ.bits)) k
 | .shr=>dk x λ κ a=>dk y λ _ b=>0≤b/\named κ (a.fdiv (2 ^ min b.toNat κ.bits)) k
 | .eql=>ahu P op t ox oy x y true k dflt
 | .neq=>ahu P op t ox oy x y false k dflt
 | _=>dflt
def there (P:Program) (t:TI):Bool:=(P.info? t).isSome&&(P.underlying t).isSome
def zh (P:Program) (t:TI):Option (Option Nat×TI) :=
 match P.underlying t with
 | some (.array n e)=>bif there P e then some (some n,e) else none
 | some (.slice e)=>bif there P e then some (none,e) else none
 | _=>none
def tu (P:Program) (t:TI) (f:Nat):Option Field :=
 match P.underlying t with
 | some (.struct fs)=>match fs[f]? with
  | some fd=>bif there P fd.type then some fd else none
  | none=>none
 | _=>none
def bnd (x:Option Value) (d:Nat) (k:Nat->Prop):Prop:=match x with
 | none=>k d
 | some v=>dk v λ _ i=>0≤i/\k i.toNat
def rj (P:Program) (p:OA) (len cap size:Nat) (lo hi mx:Option Value) (k:Value->Prop):Prop :=
 match lo,hi,mx with
 | none,none,none=>k (.slice p len cap)
 | none,some h,none=>dk h λ _ h=>(0≤h/\h≤cap)/\k (.slice p h.toNat cap)
 | some l,none,none=>dk l λ _ l=>(0≤l/\l≤len)/\k (.slice (sub p cap l.toNat size) (len - l.toNat) (cap - l.toNat))
 | some l,some h,none=>dk l λ _ l=>dk h λ _ h=>(0≤l/\l≤h/\h≤cap)/\k (.slice (sub p cap l.toNat size) (h.toNat - l.toNat) (cap - l.toNat))
 | some l,some h,some m=>dk l λ _ l=>dk h λ _ h=>dk m λ _ m=>(0≤l/\l≤h/\h≤m/\m≤cap)/\k (.slice (sub p m.toNat l.toNat size) (h.toNat - l.toNat) (m.toNat - l.toNat))
 | _,_,_=>False
def asm:LN->Nat->LV->List (Nat×Value)->(LV->Prop)->Prop
 | [],_,_,_,κ=>κ []
 | n::ns,j,z,parts,κ=>match parts.find? (λ q=>Nat.beq q.1 j) with
  | some (_,.agg vs)=>vs.size=n/\asm ns (j+1) (z.drop n) parts λ r=>κ (vs.toList++r)
  | some (_,v)=>bif Nat.beq n 1 then asm ns (j+1) (z.drop n) parts λ r=>κ (v::r) else False
  | none=>asm ns (j+1) (z.drop n) parts λ r=>κ (z.take n++r)
def ke:Nat->Nat->LN->Bool
 | n,_,[]=>true
 | n,lo,i::r=>Nat.ble lo i&&Nat.blt i n&&ke n (i+1) r
def kh:Nat->LN->LN->Bool
 | _,[],[]=>true
 | a,o::os,n::ns=>Nat.beq o a&&kh (a+n) os ns
 | _,_,_=>false
def ahv:LV->Nat->Value->(LV->Prop)->Prop
 | [],_,_,_=>False
 | _::r,0,v,κ=>κ (v::r)
 | a::r,n+1,v,κ=>ahv r n v λ r'=>κ (a::r')
def putL (place:Nat->Option (Nat×Nat)):LV->List (Nat×Value)->(LV->Prop)->Prop
 | z,[],κ=>κ z
 | z,(i,v)::r,κ=>match place i with
  | some (off,sz)=>bif Nat.beq sz 1 then (match v with | .agg _=>False | _=>ahv z off v λ z'=>putL place z' r κ) else False
  | none=>False
def Ge (P:Program) (t:TI) (parts:List (Nat×Value)) (k:Value->Prop):Prop :=
 match P.info? t with
 | some i=>match i.zero with
  | some (.agg z)=>match P.underlying t with
   | some (.struct fs)=>bif ke fs.size 0 (parts.map (·.1))&&kh 0 (fs.toList.map (·.offset)) (fs.toList.map λ f=>P.cellsOf f.type)&&Nat.beq z.size ((fs.toList.map λ f=>P.cellsOf f.type).foldr (· + ·) 0)&&fs.toList.all (λ f=>there P f.type) then
     asm (fs.toList.map λ f=>P.cellsOf f.type) 0 z.toList parts λ cs=>∀ vs:AV,vs=cs.toArray->k (.agg vs)
    else bif fs.toList.all (λ f=>there P f.type) then putL (λ j=>(fs.toList[j]?).map λ f=>(f.offset,P.cellsOf f.type)) z.toList parts λ cs=>∀ vs:AV,vs=cs.toArray->k (.agg vs) else False
   | some (.array n e)=>bif ke n 0 (parts.map (·.1))&&Nat.beq z.size (n * P.cellsOf e)&&there P e then
     asm (List.replicate n (P.cellsOf e)) 0 z.toList parts λ cs=>∀ vs:AV,vs=cs.toArray->k (.agg vs) else False
   | _=>False
  | _=>False
 | none=>False
def Nq (P:Program) (t:TI) (m key:Value) (ok:Bool) (w:wD) (k:Value->Prop):Prop :=
 match Nn P t with
 | some (κ,e)=>match Nm P e with
  | some z=>Ud m λ p=>mapp p λ b=>dk key λ κ' x=>bif decide (κ'=κ) then ∃ f:Int->Option Value,Mp w κ b f/\(oz P e).ex λ v=>(f x).getD z=v/\k (match ok with | true=>.tuple #[v,.bool (f x).isSome] | false=>v) else False
  | none=>False
 | none=>False
def bstr (l:LI):ByteArray:=l.foldl (λ r n=>r.push (UInt8.ofNat n.toNat)) ByteArray.empty
def Bts (w:wD) (p:OA) (n:Nat) (l:LI):Prop:=l.length=n/\(0<n->∃ g off,p=some ⟨g,off,none⟩/\∀ i x,l[i]?=some x->w.cell? ⟨g,off+i,none⟩=some (.int .u8 x))
def Zn (P:Program) (s:TI) (v:Value) (w:wD) (k:Value->Prop):Prop :=
 match P.underlying s with
 | some (.slice e)=>match oz P e with
  | .int κ=>bif decide (κ= .u8) then ir v λ p n c=>∃ l:LI,Bts w p n l/\k (.string (bstr l)) else False
  | _=>False
 | _=>False
def ki (P:Program) (o:Oper) (F:Fr) (w:wD) (k:Value->Prop):Prop :=
 match o.op with
 | .move x | .assign x=>k (ev F x)
 | .pick c a b=>asBool (ev F c) λ t=>split t (k (ev F a)) (k (ev F b))
 | .load t a=>Ih P t (ev F a) w k
 | .nilCheck x=>notNil (ev F x) k
 | .binOp op t x y _=>Zm P op t x y (ev F x) (ev F y) k (wi P (execOp (ev F) o) k)
 | .convert s d x=>match oz P s,oz P d with
  | .int _,.int κ=>dk (ev F x) λ _ n=>named κ (κ.wrap n) k
  | .slice,.str=>Zn P s (ev F x) w k
  | _,_=>wi P (execOp (ev F) o) k
 | .fieldAddr t x f=>match tu P t f with
  | some fd=>bif Nat.beq (P.cellsOf fd.type) 0 then False else Gd (ev F x) λ p=>ptr p λ a=>k (.pointer (some (a.add fd.offset)))
  | none=>False
 | .field t x f=>match tu P t f with
  | some fd=>asAgg (ev F x) λ vs=>nj (oz P fd.type) vs fd.offset (P.cellsOf fd.type) k
  | none=>False
 | .indexAddr t x i=>match zh P t with
  | some (some n,e)=>Gd (ev F x) λ p=>dk (ev F i) λ _ i=>(0≤i/\i<n)/\adr p λ g off=>k (.pointer (some ⟨g,off+i.toNat * P.cellsOf e,none⟩))
  | some (none,e)=>ir (ev F x) λ p n c=>dk (ev F i) λ _ i=>(0≤i/\i<n)/\adr p λ g off=>k (.pointer (some ⟨g,off+i.toNat * P.cellsOf e,none⟩))
  | none=>False
 | .index t x i=>match zh P t with
  | some (some n,e)=>asAgg (ev F x) λ vs=>dk (ev F i) λ _ i=>(0≤i/\i<n)/\nj (oz P e) vs (i.toNat * P.cellsOf e) (P.cellsOf e) k
  | _=>match P.underlying t with
   | some .string=>match ev F x with
    | .string s=>dk (ev F i) λ _ i=>∃ b:UInt8,0≤i/\s[i.toNat]?=some b/\k (.int .u8 b.toNat)
    | _=>False
   | _=>False
 | .slice t x lo hi mx=>match P.underlying t with
  | some (.slice e)=>ir (ev F x) λ p n c=>bif there P e then rj P p n c (P.cellsOf e) (lo.map (ev F)) (hi.map (ev F)) (mx.map (ev F)) k else False
  | some (.array n e)=>Gd (ev F x) λ p=>ptr p λ a=>bif there P e then rj P (some a) n n (P.cellsOf e) (lo.map (ev F)) (hi.map (ev F)) (mx.map (ev F)) k else False
  | some .string=>match ev F x,mx with
   | .string s,none=>bnd (lo.map (ev F)) 0 λ l=>bnd (hi.map (ev F)) s.size λ h=>(l≤h/\h≤s.size)/\k (.string (s.extract l h))
   | _,_=>False
  | _=>False
 | .build t parts=>Ge P t (parts.toList.map λ (j,x)=>(j,ev F x)) k
 | .lookup t x ix ok=>Nq P t (ev F x) (ev F ix) ok w k
 | .sliceToArrayPointer t x=>match P.underlying t with
  | some (.array n e)=>ir (ev F x) λ p len c=>n≤len/\k (.pointer p)
  | _=>False
 | _=>wi P (execOp (ev F) o) k
def Ue (w:wD) (cells:AV) (e:TI) (k:Nat->wD->Prop):Prop:=∀ (b:Nat) (w':wD),b=w.heap.size->w'=w.alloc (.cells cells e)->k b w'
def Nr (P:Program) (t:TI) (v x:Value) (w:wD) (k:wD->Prop):Prop :=
 Gd v λ p=>ptr p λ a=>match oz P t with
  | .agg=>adr (some a) λ g off=>asAgg x λ vs=>vs.size=P.cellsOf t/\(∀ j:Nat,j<P.cellsOf t->(∃ u,w.cell? ⟨g,off+j,none⟩=some u)/\w.frozen? ⟨g,off+j,none⟩=false)/\(∀ v ∈ vs.toList,v.oneCell'=true)/\∀ w':wD,w'=w.setCells g off vs.toList->k w'
  | _=>bif Nat.beq (P.cellsOf t) 1 then one x ((∃ u,w.cell? a=some u)/\w.frozen? a=false/\∀ w':wD,w'=w.setCell a x->k w') else False
def La (P:Program):List TI->LV->(Value->Prop)->Prop
 | [],[],φ=>φ (.tuple #[])
 | [t],[],φ=>(oz P t).ex φ
 | [],acc,φ=>φ (.tuple acc.toArray)
 | t::ts,acc,φ=>(oz P t).ex λ v=>La P ts (acc++[v]) φ
def Gf (P:Program) (f:FuncId) (args:AV) (w:wD) (k:Value->wD->Prop):Prop :=
 match P.funcs[f]? with
 | some fn=>bif fn.body.isSome&&fn.name !="runtime.NumGoroutine" then Calls P f args w λ e w'=>La P fn.resultTypes.toList [] λ v=>e= .returned v/\k v w' else False
 | none=>False
def Ii (P:Program) (t:TI) (s x:Value) (w:wD) (k:Value->wD->Prop):Prop :=
 match P.underlying t with
 | some (.slice e)=>match P.info? e with
  | some i=>match i.zero with
   | some z=>bif Nat.beq z.cells.size i.size&&Nat.blt 0 i.size then ir s λ p n c=>ir x λ q m d =>
  ∃ olds news:LV,Sl w e (P.cellsOf e) (.slice p n c) n olds/\((m=0/\q=none)∨∃ a,q=some a/\∀ j u,news[j]?=some u->w.cell? (a.add j)=some u)/\news.length=m * P.cellsOf e/\(∀ u ∈ news,u.oneCell'=true)/\n+m≤maxLen/\(n+m) * P.bytesOf e≤140737488355328 /\
   ∀ (p':OA) (c':Nat) (w':wD),Sl w' e (P.cellsOf e) (.slice p' (n+m) c') (n+m) (olds++news)->XTouch (λ b=>(Value.slice p n c).ownBlock=some b) w w'->(∀ b,(Value.slice p' (n+m) c').ownBlock=some b->(Value.slice p n c).ownBlock=some b∨w.heap.size≤b)->Sl w' e (P.cellsOf e) (.slice p n c) n olds->((p'=p/\c'=c)∨((NilP p∨c<n+m)/\∀ b,(Value.slice p' (n+m) c').ownBlock=some b->w.heap.size≤b))->k (.slice p' (n+m) c') w' else False
   | none=>False
  | none=>False
 | _=>False
def setRow (p:OA) (w:wD) (vs:LV):wD:=match p with | some a=>w.setCells a.block a.off vs | none=>w
def Ns (P:Program) (t:TI) (s x:Value) (w:wD) (k:Value->wD->Prop):Prop :=
 match P.underlying t with
 | some (.slice e)=>bif there P e then ir s λ p n c=>ir x λ q m d =>
   ∃ news:LV,news.length=Nat.min m n * P.cellsOf e/\(∀ u ∈ news,u.oneCell'=true) /\
    (news=[]∨((∃ a:Addr,q=some a/\∀ j u,news[j]?=some u->w.cell? (a.add j)=some u) /\
     ∃ g o:Nat,p=some ⟨g,o,none⟩/\∀ j:Nat,j<news.length->(∃ u,w.cell? ⟨g,o+j,none⟩=some u)/\w.frozen? ⟨g,o+j,none⟩=false)) /\
    ∀ w':wD,w'=setRow p w news->k (.int .i64 (Nat.min m n:Nat)) w'
  else False
 | _=>False
def Gg (P:Program) (t:TI) (x:Value) (w:wD) (k:Value->wD->Prop):Prop :=
 match P.underlying t with
 | some (.slice e)=>match P.info? e with
  | some i=>match i.zero with
   | some z=>match z.cells.toList with
    | [u]=>bif u.oneCell' then ir x λ p n c =>
      (n=0∨∃ g o:Nat,p=some ⟨g,o,none⟩/\∀ j:Nat,j<n->(∃ v,w.cell? ⟨g,o+j,none⟩=some v)/\w.frozen? ⟨g,o+j,none⟩=false) /\
       ∀ w':wD,w'=setRow p w (List.replicate n u)->k (.tuple #[]) w'
     else False
    | _=>False
   | none=>False
  | none=>False
 | _=>False
def Yc (P:Program) (t:TI) (l c:Value) (w:wD) (k:Value->wD->Prop):Prop :=
 match P.underlying t with
 | some (.slice e)=>match P.info? e with
  | some i=>match i.zero with
   | some z=>dk l λ _ l=>dk c λ _ c=>(0≤l/\l≤c/\c≤9223372036854775807/\(i.bytes:Int) * c≤281474976710656)/\Ue w (madeCells z.cells (c.toNat * i.size)) e λ b w'=>k (.slice (some ⟨b,0,none⟩) l.toNat c.toNat) w'
   | none=>False
  | none=>False
 | _=>False
def Zo (P:Program) (t:TI) (m key v:Value) (w:wD) (k:wD->Prop):Prop :=
 match Nn P t with
 | some (κ,e)=>Ud m λ p=>mapp p λ b=>dk key λ κ' x=>bif decide (κ'=κ) then ∃ f:Int->Option Value,Mp w κ b f/\∀ w':wD,Mp w' κ b (upd f x (some v))->XTouch (λ q=>q=b) w w'->k w' else False
 | none=>False
def Zp (P:Program) (t:TI) (m key:Value) (w:wD) (k:wD->Prop):Prop :=
 match Nn P t with
 | some (κ,e)=>Ud m λ p=>mapp p λ b=>dk key λ κ' x=>bif decide (κ'=κ) then ∃ f:Int->Option Value,Mp w κ b f/\∀ w':wD,Mp w' κ b (upd f x none)->XTouch (λ q=>q=b) w w'->k w' else False
 | none=>False
def Uf (P:Program) (o:Oper) (F:Fr) (w:wD) (k:Value->wD->Prop):Prop :=
 match o.op with
 | .store t a x=>Nr P t (ev F a) (ev F x) w (k undef)
 | .alloc e=>match P.info? e with
  | some i=>match i.zero with
   | some z=>Ue w z.cells e λ b w'=>k (.pointer (some ⟨b,0,none⟩)) w'
   | none=>False
  | none=>False
 | .box e x=>Ue w (ev F x).cells e λ b w'=>k (.pointer (some ⟨b,0,none⟩)) w'
 | .makeSlice t l c=>Yc P t (ev F l) (ev F c) w k
 | .makeMap t none=>∀ (b:Nat) (w':wD),b=w.heap.size->w'=w.alloc (.map #[] 0)->k (.map (some b)) w'
 | .mapUpdate t m x v=>Zo P t (ev F m) (ev F x) (ev F v) w (k undef)
 | .buildSlice t len parts=>match P.underlying t with
  | some (.slice e)=>match P.info? e with
   | some i=>match i.zero with
    | some z=>bif Nat.ble (len * i.size) 16777216&&ke len 0 (parts.toList.map (·.1)) then asm (List.replicate len i.size) 0 ((Array.range (len * i.size)).map (z.cells[· % z.cells.size]!)).toList (parts.toList.map λ (j,x)=>(j,ev F x)) λ cs =>
      Ue w cs.toArray e λ b w'=>k (.slice (some ⟨b,0,none⟩) len len) w'
     else False
    | none=>False
   | none=>False
  | _=>False
 | .call c=>match c.callee with
  | .builtin .append=>match c.args.toList,c.argTypes.toList with
   | [s,x],[t,t']=>bif Nat.beq t t' then Ii P t (ev F s) (ev F x) w k else False
   | _,_=>False
  | .builtin .copy=>match c.args.toList,c.argTypes.toList with
   | [s,x],t::_=>Ns P t (ev F s) (ev F x) w k
   | _,_=>False
  | .builtin .delete=>match c.args.toList,c.argTypes.toList with
   | [m,x],t::_=>Zp P t (ev F m) (ev F x) w (k (.tuple #[]))
   | _,_=>False
  | .builtin .clear=>match c.args.toList,c.argTypes.toList with
   | [x],t::_=>Gg P t (ev F x) w k
   | _,_=>False
  | .builtin _=>wi P (execOp (ev F) o) λ v=>k v w
  | .value x=>match ev F x with
   | .func (.func f) first captured=>Gf P f (first++c.args.map (ev F)++captured) w k
   | _=>False
  | .invoke r name=>∃ (f:FuncId) (args:AV),meth P (ev F r) name (c.args.map (ev F)) w f args/\Calls P f args w λ e w'=>(oz P o.type).ex λ v=>e= .returned v/\k v w'
 | _=>ki P o F w λ v=>k v w
inductive An where
 | leaf
 | node (S:List (Nat×Sh)) (keep:LN) (mode:Nat) (x y:An)
def An.x:An->An | .leaf=>.leaf | .node _ _ _ x _=>x
def An.y:An->An | .leaf=>.leaf | .node _ _ _ _ y=>y
def An.S:An->List (Nat×Sh) | .leaf=>[] | .node S _ _ _ _=>S
def An.keep:An->LN | .leaf=>[] | .node _ k _ _ _=>k
def An.mode:An->Nat | .leaf=>0 | .node _ _ m _ _=>m
inductive Ex where
 | normal | exit (id:Nat) | ret
def mc (ops:List Oper) (o:Oper) (F:Fr) (yes no:Fr->Prop):Prop :=
 match o.guard with
 | none=>yes F
 | some (j,want)=>match (ops[j]?).bind (·.dst) with
  | some d=>match F.get d with
   | .bool b=>split b (match want with | true=>yes (F.know (.tmp d) true) | false=>no (F.know (.tmp d) true)) (match want with | true=>no (F.know (.tmp d) false) | false=>yes (F.know (.tmp d) false))
   | .tuple _=>no F
   | _=>False
  | none=>False
def zi (n:Nat) (P:Program) (ops:List Oper):List Oper->Fr->wD->(Fr->wD->Prop)->Prop
 | [],F,w,k=>k F w
 | o::rest,F,w,k=>mc ops o F (λ F=>Uf P o F w λ v w'=>zi n P ops rest (F.put n o.dst v) w' k) (λ F=>zi n P ops rest (F.put n o.dst undef) w k)
def Ij (P:Program) (o:Oper) (F:Fr):Option (FuncId×AV) :=
 match o.op with
 | .call c=>match c.callee with
  | .value x=>match ev F x with
   | .func (.func f) first captured=>some (f,first++c.args.map (ev F)++captured)
   | _=>none
  | _=>none
 | _=>none
def aff (P:Program) (f:FuncId):List TI:=match P.funcs[f]? with | some fn=>fn.resultTypes.toList | none=>[]
def Ug (P:Program) (f:FuncId):Bool:=match P.funcs[f]? with | some fn=>fn.body.isSome&&fn.name !="runtime.NumGoroutine" | none=>false
def tw (n:Nat) (P:Program) (ops:List Oper) (w:wD):List Oper->Fr->(Fr->Prop)->Prop
 | [],F,k=>k F
 | o::rest,F,k=>mc ops o F
  (λ F=>match Ij P o F with
   | some (f,args)=>bif Ug P f then La P (aff P f) [] λ v=>Calls P f args w (λ e w'=>e= .returned v/\w'=w)/\tw n P ops w rest (F.put n o.dst v) k else False
   | none=>ki P o F w λ v=>tw n P ops w rest (F.put n o.dst v) k)
  (λ F=>tw n P ops w rest (F.put n o.dst undef) k)
def tx (n:Nat) (P:Program) (ops:List Oper) (w:wD):List Oper->Fr->(Fr->Prop)->Prop
 | [],F,k=>k F
 | o::rest,F,k=>mc ops o F
  (λ F=>match Ij P o F with
   | some (f,args)=>bif Ug P f then La P (aff P f) [] λ v=>(∀ m:Nat,Calls P f args (w.drewN m) λ e w'=>e= .returned v/\∃ m',w'=w.drewN m')/\tx n P ops w rest (F.put n o.dst v) k else False
   | none=>ki P o F w λ v=>tx n P ops w rest (F.put n o.dst v) k)
  (λ F=>tx n P ops w rest (F.put n o.dst undef) k)
def Nt:Op->Bool
 | .move _ | .assign _ | .pick .. | .load .. | .nilCheck _ | .binOp .. | .unOp .. | .convert .. | .fieldAddr .. | .field .. | .indexAddr .. | .index .. | .slice .. | .build .. | .makeInterface .. | .makeFunc .. | .extract .. | .lookup .. | .sliceToArrayPointer ..=>true
 | .call c=>match c.callee with | .builtin .len | .builtin .cap=>true | _=>false
 | _=>false
def vq (ops:Array Oper) (x i:Nat):Bool:=match ops[x]? with
 | some o=>o.after.any λ e=>Region.binds .any e&&Nat.beq e.on i
 | none=>false
def reach (ops:Array Oper):Nat->Nat->Nat->Bool
 | 0,x,i=>vq ops x i
 | n+1,x,i=>vq ops x i||match ops[x]? with
  | some o=>o.after.any λ e=>Region.binds .any e&&reach ops n e.on i
  | none=>false
def Nu (ops:Array Oper) (stop i:Nat):Bool:=match ops[stop]? with
 | some _=>reach ops 5 stop i
 | none=>true
def wj (P:Program):Op->Bool
 | .convert s _ _=>match oz P s with | .slice=>false | _=>true
 | .move _ | .assign _ | .pick .. | .nilCheck _ | .fieldAddr .. | .field .. | .indexAddr .. | .index .. | .slice .. | .build .. | .extract .. | .binOp .. | .unOp .. | .makeInterface .. | .makeFunc ..=>true
 | _=>false
def Nv (ops:Array Oper) (stop:Nat) (L:Array Bool) (i:Nat):Bool:=match ops[i]? with
 | some o=>Nt o.op&&Region.free .any ops L i&& !Nat.beq i stop&& !L.getD stop false&&Nu ops stop i
 | none=>false
def Ik (P:Program) (ops:Array Oper) (stop:Nat) (L:Array Bool) (i:Nat):Bool:=match ops[i]? with
 | some o=>wj P o.op&&Region.free .any ops L i&& !Nat.beq i stop
 | none=>false
def Uh:LN->(Nat->Prop)->Prop
 | [],_=>True
 | [i],f=>f i
 | i::r,f=>f i/\Uh r f
def Av (b:Bool) (w0 w:wD) (k:Prop):Prop:=match b with | true=>k | false=>Below w0.heap.size w0 w/\k
def lw (n:Nat) (P:Program) (ops:Array Oper) (stop:Nat) (w0:wD):Nat->Array Bool->Fr->wD->(Fr->wD->Prop)->Prop
 | 0,L,F,w,k=>match Region.ready .any ops L with | []=>k F w | _=>False
 | fuel+1,L,F,w,k=>match Region.ready .any ops L with
  | []=>k F w
  | rs=>match rs.find? (Ik P ops stop L) with
   | some i=>match ops[i]? with
    | some o=>mc ops.toList o F (λ F=>ki P o F w λ v=>lw n P ops stop w0 fuel (L.setIfInBounds i true) (F.put n o.dst v) w k) (λ F=>lw n P ops stop w0 fuel (L.setIfInBounds i true) (F.put n o.dst undef) w k)
    | none=>False
   | none=>match rs.find? (Nv ops stop L) with
   | some i=>match ops[i]? with
    | some o=>mc ops.toList o F (λ F=>ki P o F w0 λ v=>lw n P ops stop w0 fuel (L.setIfInBounds i true) (F.put n o.dst v) w k) (λ F=>lw n P ops stop w0 fuel (L.setIfInBounds i true) (F.put n o.dst undef) w k)
    | none=>False
   | none=>Uh rs λ i=>match ops[i]? with
    | some o=>mc ops.toList o F (λ F=>Uf P o F w λ v w'=>Av ((L.setIfInBounds i true).getD stop false) w0 w' (lw n P ops stop w0 fuel (L.setIfInBounds i true) (F.put n o.dst v) w' k)) (λ F=>Av ((L.setIfInBounds i true).getD stop false) w0 w (lw n P ops stop w0 fuel (L.setIfInBounds i true) (F.put n o.dst undef) w k))
    | none=>False
def jy:Code->LN
 | .region _ ops _=>ops.toList.filterMap (·.dst)
 | .seq a b=>jy a++jy b
 | .cond _ a b=>jy a++jy b
 | .block _ a=>jy a
 | .loop a=>jy a
 | .scope a=>jy a
 | _=>[]
def Zq (c:Code) (keep:LN):Bool:=keep.all λ t=>(jy c).all λ d=> !Nat.beq t d
def vc (n:Nat) (P:Program):Code->An->Fr->wD->(Ex->Fr->wD->Prop)->Prop
 | .skip,_,F,w,K=>K .normal F w
 | .ret,_,F,w,K=>K .ret F w
 | .exit id,_,F,w,K=>K (.exit id) F w
 | .scope c,an,F,w,K=>vc n P c an.x F w K
 | .seq a b,an,F,w,K=>match an.mode with
  | 0=>vc n P a an.x F w λ e F' w'=>match e with
   | .normal=>vc n P b an.y F' w' K
   | .exit i=>K (.exit i) F' w'
   | .ret=>K .ret F' w'
  | _=>bif Zq a an.keep then ∃ R:Tu an.S Prop,vc n P a an.x F w (λ e F' w'=>match e with
   | .normal=>holds (Gb an.S R F') w'
   | .exit i=>K (.exit i) F' w'
   | .ret=>K .ret F' w')/\∀ J:Nat->Value,Nl an.S R R (an.keep.map λ t=>(t,F.get t)) λ R' _ l=>∀ w':wD,R' w'->vc n P b an.y ⟨l,J⟩ w' K else False
 | .cond c a b,an,F,w,K=>asBool (ev F c) λ t=>split t (vc n P a an.x (F.know c true) w K) (vc n P b an.y (F.know c false) w K)
 | .block id c,an,F,w,K=>vc n P c an.x F w λ e F' w'=>match e with
  | .normal=>K .normal F' w'
  | .exit i=>bif Nat.beq i id then K .normal F' w' else K (.exit i) F' w'
  | .ret=>K .ret F' w'
 | .region _ ops false,_,F,w,K=>zi n P ops.toList ops.toList F w (K .normal)
 | .region _ ops true,an,F,w,K=>match an.mode with
  | 0=>bif P.follows .mixedOrders&&Region.lexB .any ops then tx n P ops.toList w ops.toList F λ F'=>∀ (w':wD) (m:Nat),w'=w.drewN m->K .normal F' w' else False
  | m+1=>bif Nat.ble 1000 m then (bif P.follows .mixedOrders&&Region.noSelect ops then ∀ w1:wD,w1=w.drew->lw n P ops (m - 1000) w1 ops.size (Array.replicate ops.size false) F w1 (K .normal) else False) else bif P.follows .mixedOrders&&Region.lexTailB .any ops m then ∀ w1:wD,w1=w.drew->tw n P ops.toList w1 (ops.toList.take m) F λ F'=>zi n P ops.toList (ops.toList.drop m) F' w1 (K .normal) else False
 | .loop c,an,F,w,K=>bif Zq c an.keep then ∃ (I:Tu an.S Prop) (μ:Tu an.S Nat),holds (Gb an.S I F) w/\∀ J:Nat->Value,Nl an.S I μ (an.keep.map λ t=>(t,F.get t)) λ I' μ' l=>∀ w':wD,I' w' ->
   vc n P c an.x ⟨l,J⟩ w' λ e F2 w2=>match e with
    | .normal=>match Gb an.S I F2,Gb an.S μ F2 with
     | some I2,some μ2=>I2 w2/\μ2 w2<μ' w'
     | _,_=>False
    | .exit i=>K (.exit i) F2 w2
    | .ret=>K .ret F2 w2 else False
 | _,_,_,_,_=>False
def Gh (P:Program):List ResultVar->Fr->wD->LV->(Value->Prop)->Prop
 | [],F,w,[v],φ=>φ v
 | [],F,w,acc,φ=>φ (.tuple acc.toArray)
 | .tmp t::r,F,w,acc,φ=>Gh P r F w (acc++[F.get t]) φ
 | .cell a t::r,F,w,acc,φ=>Ih P t (F.get a) w λ v=>Gh P r F w (acc++[v]) φ
def aex:Nat->LV->List (Nat×Value)
 | _,[]=>[]
 | i,v::r=>(i,v)::aex (i+1) r
def ahz (P:Program) (fn:Func) (an:An) (args:LV) (w:wD) (Q:Ending->wD->Prop):Prop :=
 match fn.body with
 | some c=>bif Nat.ble args.length fn.ntmps then vc fn.ntmps P c an ⟨aex 0 args,λ _=>undef⟩ w λ e F w'=>match e with
  | .normal | .ret=>Gh P fn.results.toList F w' [] λ v=>Q (.returned v) w'
  | .exit _=>False else False
 | none=>False
end Go.Sx
