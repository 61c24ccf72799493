/- A part of the walk. No condition. -/
import Derived.Test.YtmncepdbglaphaaGreatDoorXHeap
import Derived.WalkKit
import Derived.ProofKit
import Derived.Test.YtmncepdbglaphaaGreatDoorRows
import Derived.OpenShut
import Derived.Outline
import Derived.Lib.Hide
import Derived.WalkLawsBesides
import Derived.Laws.Tables
import Derived.Deep.WholeRow
import Derived.Laws.EntriesVeiled
import Derived.Laws.ShiftsVar
import Derived.Deep.QuietTactic
import Derived.BigQuiet
set_option linter.unusedVariables false
set_option maxRecDepth 100000
namespace Go.Proofs.YtmncepdbglaphaaGreatDoor
open Go.RowKit Go.XHeap
def Grown (W w:wD):Prop:=XTouch (λ _=>False) W w
theorem Grown.refl (W:wD):Grown W W:=XTouch.refl _ W
theorem Grown.alloc {W w:wD} (h:Grown W w) (c:AV) (t:TI):Grown W (w.alloc (.cells c t)):=XTouch.alloc h _
theorem Grown.setCell {W w:wD} (h:Grown W w){a:Addr} (ha:W.heap.size≤a.block) (v:Value):Grown W (w.setCell a v):=XTouch.setCell h (.inr ha) v
theorem Grown.drew {W w:wD} (h:Grown W w):Grown W w.drew:=XTouch.drew h
theorem cm {a w:wD} (h:Grown a w) (n:Nat):Grown a (w.drewN n):=XTouch.drewN h n
theorem ah {a b c:wD} (h1:Grown a b) (h2:Grown b c):Grown a c:=XTouch.trans h1 h2 (λ _ _ e=>e)
theorem cq {a b:wD} (h:Grown a b){g o:Nat}{v:Value} (hc:a.cell? ⟨g,o,none⟩=some v):b.cell? ⟨g,o,none⟩=some v :=
 (XTouch.cell h (World.block_lt_of_cell? _ _ hc) (λ f=>f)).trans hc
theorem ml {w w':wD}{k:Nat}{cs:AV}{t:TI} (h:Blk w k cs t) (hg:Grown w w'):Blk w' k cs t:=h.keep hg (λ e=>e)
end Go.Proofs.YtmncepdbglaphaaGreatDoor
namespace Go.XRun
abbrev zx:=FuncId->AV->wD->Option (Value×wD)
noncomputable def xj (P:Program) (call:zx) (ops:Array Oper):List Oper->Act->wD->Option (Act×wD)
 | [],a,w=>some (a,w)
 | o::rest,a,w =>
  if Region.wanted o (yielded ops a.tmps)=true then
   match (execOp a.eval o).run P w with
   | .ok (.value v) w'=>xj P call ops rest (a.put o.dst v) w'
   | .ok (.enter f args) w'=>match call f args w' with
    | some (v,w'')=>xj P call ops rest (a.put o.dst v) w''
    | none=>none
   | _=>none
  else xj P call ops rest (a.put o.dst undef) w
noncomputable def fh (P:Program) (call:zx):Code->Act->wD->Option (Exit×Act×wD)
 | .skip,a,w=>some (.normal,a,w)
 | .ret,a,w=>some (.ret,a,w)
 | .exit id,a,w=>some (.exit id,a,w)
 | .region _ ops false,a,w=>match xj P call ops ops.toList a w with
  | some (a',w')=>some (.normal,a',w')
  | none=>none
 | .seq x y,a,w=>match fh P call x a w with
  | some (.normal,a',w')=>fh P call y a' w'
  | r=>r
 | .cond c x y,a,w=>match a.eval c with
  | .bool true=>fh P call x a w
  | .bool false=>fh P call y a w
  | _=>none
 | .block id x,a,w=>match fh P call x a w with
  | some (.exit id',a',w')=>if id'=id then some (.normal,a',w') else some (.exit id',a',w')
  | r=>r
 | _,_,_=>none
def ug:List ResultVar->AV->Option Value
 | [],_=>some (.tuple #[])
 | [.tmp t],tmps=>some (tmps.getD t undef)
 | [.tmp t,.tmp u],tmps=>some (.tuple #[tmps.getD t undef,tmps.getD u undef])
 | [.tmp t,.tmp u,.tmp v],tmps=>some (.tuple #[tmps.getD t undef,tmps.getD u undef,tmps.getD v undef])
 | _,_=>none
theorem yw {P:Program}{fn:Func}{tmps:AV}{v:Value} (w:wD) (h:ug fn.results.toList tmps=some v):(results fn tmps).run P w= .ok v w:=by
 generalize hr:fn.results=r at h;obtain⟨l⟩:=r;dsimp only at h;unfold ug at h;split at h
 ·cases h;simp [results,hr]
 ·cases h;simp [results,hr]
 ·cases h;simp [results,hr]
 ·cases h;simp [results,hr]
 ·cases h
noncomputable def Uv (P:Program):Nat->zx
 | 0=>λ _ _ _=>none
 | n+1=>λ f args w=>match P.funcs[f]? with
  | none=>none
  | some fn=>match fn.body with
   | none=>none
   | some c=>match fh P (Uv P n) c { tmps:=args++Array.replicate (fn.ntmps - args.size) undef,defers:=[] } w with
    | some (.normal,a,w') | some (.ret,a,w')=>if a.defers.isEmpty then (ug fn.results.toList a.tmps).map (·,w') else none
    | _=>none
def Zy (P:Program) (call:zx):Prop :=
 ∀ f args w v w',call f args w=some (v,w')->Calls P f args w λ e w''=>e= .returned v/\w'=w''
theorem vk {P:Program}{call:zx} (hs:Zy P call){ops:Array Oper}{Q:Exit->Act->wD->Prop}{a':Act}{w':wD} (l:List Oper) :
  ∀ (a:Act) (w:wD),xj P call ops l a w=some (a',w')->Q .normal a' w'->wpList P ops Q l a w:=by
 induction l with
 | nil=>intro a w h hq;simp only[xj,Option.some.injEq,Prod.mk.injEq] at h;obtain⟨rfl,rfl⟩:=h;exact hq
 | cons o rest ih =>
  intro a w h hq;unfold xj at h;unfold wpList;split at h
  ·rename_i hw;rw[if_pos hw];split at h
   ·rename_i v w1 hr;exact .inl (by unfold Oper.wp;rw[hr,Oper.upon_value];exact ih _ _ h hq)
   ·rename_i f args w1 hr;split at h
    ·rename_i v w2 hc
     refine .inl (by
      unfold Oper.wp;rw[hr,Oper.upon_enter];refine(hs _ _ _ _ _ hc).mono ?_;rintro e w3 ⟨rfl,rfl⟩
      exact ih _ _ h hq)
    ·cases h
   ·cases h
  ·rename_i hw;rw[if_neg hw];exact ih _ _ h hq
theorem Bg {P:Program}{call:zx} (hs:Zy P call) (c:Code):∀ {Q:Exit->Act->wD->Prop} (e:Exit) (a a':Act) (w w':wD),
  fh P call c a w=some (e,a',w')->Q e a' w'->c.wp P Q a w:=by
 induction c with
 | skip=>intro Q e a a' w w' h hq;simp only[fh,Option.some.injEq,Prod.mk.injEq] at h;obtain⟨rfl,rfl,rfl⟩:=h;exact wp_skip hq
 | ret=>intro Q e a a' w w' h hq;simp only[fh,Option.some.injEq,Prod.mk.injEq] at h;obtain⟨rfl,rfl,rfl⟩:=h;exact wp_ret hq
 | exit id=>intro Q e a a' w w' h hq;simp only[fh,Option.some.injEq,Prod.mk.injEq] at h;obtain⟨rfl,rfl,rfl⟩:=h;exact wp_exit hq
 | region id ops d =>
  intro Q e a a' w w' h hq
  cases d with
  | true=>simp [fh] at h
  | false =>
   simp only[fh] at h;split at h
   ·rename_i a1 w1 hr;simp only[Option.some.injEq,Prod.mk.injEq] at h;obtain⟨rfl,rfl,rfl⟩:=h;exact wp_region_list (vk hs _ _ _ hr hq)
   ·cases h
 | seq x y ihx ihy =>
  intro Q e a a' w w' h hq;simp only[fh] at h;split at h
  ·rename_i a1 w1 hr;exact wp_seq (ihx _ _ _ _ _ hr (ihy _ _ _ _ _ h hq))
  ·rename_i hne;refine wp_seq (ihx _ _ _ _ _ h ?_)
   cases e with
   | normal=>exact absurd h (hne _ _)
   | _=>exact hq
 | cond c x y ihx ihy =>
  intro Q e a a' w w' h hq;simp only[fh] at h;split at h
  ·rename_i hc;exact wp_cond_true hc (ihx _ _ _ _ _ h hq)
  ·rename_i hc;exact wp_cond_false hc (ihy _ _ _ _ _ h hq)
  ·cases h
 | block id x ih =>
  intro Q e a a' w w' h hq;simp only[fh] at h;split at h
  ·rename_i id' a1 w1 hr;refine wp_block (ih _ _ _ _ _ hr ?_);by_cases hid:id'=id
   ·rw[if_pos hid] at h;simp only[Option.some.injEq,Prod.mk.injEq] at h;obtain⟨rfl,rfl,rfl⟩:=h;simp only[Exit.inBlock,hid,if_true];exact hq
   ·rw[if_neg hid] at h;simp only[Option.some.injEq,Prod.mk.injEq] at h;obtain⟨rfl,rfl,rfl⟩:=h;simp only[Exit.inBlock,hid,if_false];exact hq
  ·rename_i hne;refine wp_block (ih _ _ _ _ _ h ?_)
   cases e with
   | exit id'=>exact absurd h (hne _ _ _)
   | _=>exact hq
 | _=>intro Q e a a' w w' h hq;simp [fh] at h
theorem sound (P:Program):∀ n,Zy P (Uv P n)
 | 0=>λ _ _ _ _ _ h=>by simp [Uv] at h
 | n+1=>λ f args w v w' h=>by
  have ih:=sound P n;unfold Uv at h;split at h
  ·cases h
  ·rename_i fn hf;split at h
   ·cases h
   ·rename_i c hb;split at h
    all_goals first
     | (cases h;done)
     | (rename_i a1 w1 hr
        split at h
        ·rename_i hd;simp only[Option.map_eq_some_iff,Prod.mk.injEq] at h;obtain⟨v1,hres,rfl,rfl⟩:=h;exact calls_of_wp hf hb (Bg ih c _ _ _ _ _ hr ⟨by simpa using hd,_,yw _ hres,rfl,rfl⟩)
        ·cases h)
end Go.XRun
namespace Go.Proofs.YtmncepdbglaphaaGreatDoor
open Go.RowKit
def rowsL:List (ByteArray×Int×Int×Int×Int):=[
 (⟨#[108,117,105]⟩,85,55,0,0),
 (⟨#[97,117,105,112,99]⟩,85,23,0,0),
 (⟨#[106,97,108]⟩,74,111,0,0),
 (⟨#[106,97,108,114]⟩,76,103,0,0),
 (⟨#[98,101,113]⟩,66,99,0,0),
 (⟨#[98,110,101]⟩,66,99,1,0),
 (⟨#[98,108,116]⟩,66,99,4,0),
 (⟨#[98,103,101]⟩,66,99,5,0),
 (⟨#[98,108,116,117]⟩,66,99,6,0),
 (⟨#[98,103,101,117]⟩,66,99,7,0),
 (⟨#[108,98]⟩,76,3,0,0),
 (⟨#[108,104]⟩,76,3,1,0),
 (⟨#[108,119]⟩,76,3,2,0),
 (⟨#[108,98,117]⟩,76,3,4,0),
 (⟨#[108,104,117]⟩,76,3,5,0),
 (⟨#[115,98]⟩,83,35,0,0),
 (⟨#[115,104]⟩,83,35,1,0),
 (⟨#[115,119]⟩,83,35,2,0),
 (⟨#[97,100,100,105]⟩,73,19,0,0),
 (⟨#[115,108,116,105]⟩,73,19,2,0),
 (⟨#[115,108,116,105,117]⟩,73,19,3,0),
 (⟨#[120,111,114,105]⟩,73,19,4,0),
 (⟨#[111,114,105]⟩,73,19,6,0),
 (⟨#[97,110,100,105]⟩,73,19,7,0),
 (⟨#[115,108,108,105]⟩,72,19,1,0),
 (⟨#[115,114,108,105]⟩,72,19,5,0),
 (⟨#[115,114,97,105]⟩,72,19,5,32),
 (⟨#[97,100,100]⟩,82,51,0,0),
 (⟨#[115,117,98]⟩,82,51,0,32),
 (⟨#[115,108,108]⟩,82,51,1,0),
 (⟨#[115,108,116]⟩,82,51,2,0),
 (⟨#[115,108,116,117]⟩,82,51,3,0),
 (⟨#[120,111,114]⟩,82,51,4,0),
 (⟨#[115,114,108]⟩,82,51,5,0),
 (⟨#[115,114,97]⟩,82,51,5,32),
 (⟨#[111,114]⟩,82,51,6,0),
 (⟨#[97,110,100]⟩,82,51,7,0),
 (⟨#[109,117,108]⟩,82,51,0,1),
 (⟨#[109,117,108,104]⟩,82,51,1,1),
 (⟨#[109,117,108,104,115,117]⟩,82,51,2,1),
 (⟨#[109,117,108,104,117]⟩,82,51,3,1),
 (⟨#[100,105,118]⟩,82,51,4,1),
 (⟨#[100,105,118,117]⟩,82,51,5,1),
 (⟨#[114,101,109]⟩,82,51,6,1),
 (⟨#[114,101,109,117]⟩,82,51,7,1),
 (⟨#[108,114,46,119]⟩,75,47,2,2),
 (⟨#[115,99,46,119]⟩,65,47,2,3),
 (⟨#[97,109,111,115,119,97,112,46,119]⟩,65,47,2,1),
 (⟨#[97,109,111,97,100,100,46,119]⟩,65,47,2,0),
 (⟨#[97,109,111,120,111,114,46,119]⟩,65,47,2,4),
 (⟨#[97,109,111,97,110,100,46,119]⟩,65,47,2,12),
 (⟨#[97,109,111,111,114,46,119]⟩,65,47,2,8),
 (⟨#[97,109,111,109,105,110,46,119]⟩,65,47,2,16),
 (⟨#[97,109,111,109,97,120,46,119]⟩,65,47,2,20),
 (⟨#[97,109,111,109,105,110,117,46,119]⟩,65,47,2,24),
 (⟨#[97,109,111,109,97,120,117,46,119]⟩,65,47,2,28),
 (⟨#[102,101,110,99,101]⟩,70,15,0,0),
 (⟨#[101,99,97,108,108]⟩,78,115,0,0),
 (⟨#[101,98,114,101,97,107]⟩,78,115,0,1),
 (⟨#[109,114,101,116]⟩,78,115,0,770),
 (⟨#[119,102,105]⟩,78,115,0,261),
 (⟨#[99,115,114,114,119]⟩,67,115,1,0),
 (⟨#[99,115,114,114,115]⟩,67,115,2,0),
 (⟨#[99,115,114,114,99]⟩,67,115,3,0),
 (⟨#[99,115,114,114,119,105]⟩,68,115,5,0),
 (⟨#[99,115,114,114,115,105]⟩,68,115,6,0),
 (⟨#[99,115,114,114,99,105]⟩,68,115,7,0)]
def rowCells (r:ByteArray×Int×Int×Int×Int):LV:=[.string r.1,.int .u8 r.2.1,.int .i64 r.2.2.1,.int .i64 r.2.2.2.1,.int .i64 r.2.2.2.2]
def ROWS:AV:=(rowsL.flatMap rowCells).toArray
def rowAt (op:Int):ByteArray×Int×Int×Int×Int:=rowsL.getD (op.toNat - 1) (⟨#[]⟩,0,0,0,0)
def nm (op:Int):ByteArray:=if op<1∨67<op then ⟨#[]⟩ else (rowAt op).1
def rF (op:Int):Int:=(rowAt op).2.1
def rC (op:Int):Int:=(rowAt op).2.2.1
def rA (op:Int):Int:=(rowAt op).2.2.2.1
def rG (op:Int):Int:=(rowAt op).2.2.2.2
theorem flat_at {α:Type} (f:α->LV) (n:Nat) (hf:∀ x,(f x).length=n):∀ (l:List α) (k j:Nat),j<n->(l.flatMap f)[n * k+j]?=(l[k]?).bind (λ x=>(f x)[j]?)
 | [],k,j,_=>by simp
 | x::l,0,j,h=>by simp [List.getElem?_append_left (show j<(f x).length by rw[hf];exact h)]
 | x::l,k+1,j,h=>by
  rw[List.flatMap_cons,List.getElem?_append_right (by rw[hf,Nat.mul_succ];omega),hf,show n * (k+1)+j - n=n * k+j by rw[Nat.mul_succ];omega,flat_at f n hf l k j h];rfl
theorem rows_at (op:Int) (h1:1≤op) (h2:op≤67) (j:Nat) (hj:j<5):ROWS[5 * (op.toNat - 1)+j]?=(rowCells (rowAt op))[j]?:=by
 have hl:rowsL.length=67:=by decide +kernel
 unfold ROWS;rw[List.getElem?_toArray,flat_at rowCells 5 (λ _=>rfl) rowsL _ j hj,List.getElem?_eq_getElem (show op.toNat - 1<rowsL.length by omega)];unfold rowAt;simp [List.getD_eq_getElem?_getD,List.getElem?_eq_getElem (show op.toNat - 1<rowsL.length by omega)]
def RowsAt (w:wD) (b:Nat):Prop:=∀ op:Int,1≤op->op≤67 ->
  w.cell? ⟨b,(op.toNat - 1) * 5,none⟩=some (.string (rowAt op).1) /\
  w.cell? ⟨b,(op.toNat - 1) * 5+1,none⟩=some (.int .u8 (rF op)) /\
  w.cell? ⟨b,(op.toNat - 1) * 5+2,none⟩=some (.int .i64 (rC op)) /\
  w.cell? ⟨b,(op.toNat - 1) * 5+3,none⟩=some (.int .i64 (rA op)) /\
  w.cell? ⟨b,(op.toNat - 1) * 5+4,none⟩=some (.int .i64 (rG op))
def RowsMade (w:wD) (e:Ending) (w':wD):Prop:=∃ b,e= .returned (.slice (some ⟨b,0,none⟩) 67 67)/\RowsAt w' b/\Grown w w'
def classRow (f c g:Int):Int :=
 if f=85∨f=73∨f=72 then 0 else if f=82 then (if g=1 then 1 else 0) else if f=74 then 3
 else if f=76 then (if c=103 then 3 else 4) else if f=66 then 2 else if f=83 then 5 else if f=65∨f=75 then 6 else 7
def classR (op:Int):Int:=if op<1∨67<op then 7 else classRow (rF op) (rC op) (rG op)
end Go.Proofs.YtmncepdbglaphaaGreatDoor
namespace Go.Proofs.YtmncepdbglaphaaGreatDoor.alu
open Go.RowKit
def sizeF (op:Int):Int:=if op=11∨op=14∨op=16 then 1 else if op=12∨op=15∨op=17 then 2 else if op=13∨op=18 then 4 else if 46≤op/\op≤56 then 4 else 0
theorem size_any (op:Int) (w:wD):Calls Tryz.prog 110 #[.int .i64 op] w λ e w'=>e= .returned (.int .i64 (sizeF op))/\w=w':=by
 go_enter Tryz.func110,Tryz.ntmps110
 go_wp2
 all_goals
  go_ret
  refine⟨congrArg (λ x=>Ending.returned (.int .i64 x)) ?_,rfl⟩;unfold sizeF;simp_all
  try omega
def sx8 (r:Int):Int:=if r % 256<128 then r % 256 else r % 256+4294967040
def sx16 (r:Int):Int:=if r % 65536<32768 then r % 65536 else r % 65536+4294901760
def widenF (op r:Int):Int:=if op=11 then sx8 r else if op=12 then sx16 r else if op=14 then r % 256 else if op=15 then r % 65536 else if op=13 then r else if 46≤op/\op≤56 then r else 0
theorem widen_any (op raw:Int) (h0:0≤raw) (h1:raw<4294967296) (w:wD):Calls Tryz.prog 163 #[.int .i64 op,.int .u32 raw] w λ e w'=>e= .returned (.int .u32 (widenF op raw))/\w=w':=by
 have hs:(sizeF op=1/\(op=11∨op=14∨op=16))∨(sizeF op=2/\(op=12∨op=15∨op=17))∨(sizeF op=4/\(op=13∨op=18∨(46≤op/\op≤56)))∨(sizeF op=0/\op≠11/\op≠12/\op≠13/\op≠14/\op≠15/\op≠16/\op≠17/\op≠18/\(op<46∨56<op)):=by
  unfold sizeF;(repeat' split) <;> omega
 rcases hs with ⟨hs,ho⟩ | ⟨hs,ho⟩ | ⟨hs,ho⟩ | ⟨hs,ho⟩
 all_goals
  have HO:=Lib.hid ho;clear ho
  go_enter Tryz.func163,Tryz.ntmps163
  go_wp2_with (go_at_call 110;refine(size_any _ _).mono ?_;rintro e w' ⟨rfl,rfl⟩)
  all_goals
   go_ret
   refine⟨congrArg (λ x=>Ending.returned (.int .u32 x)) ?_,rfl⟩;have ho:=HO.out;clear HO;unfold widenF sx8 sx16
   go_tidy
   first
    | (simp_all;done)
    | (simp_all;(try unfold wrap32);(repeat' split) <;> omega)
def sg (a:Int):Int:=if a<2147483648 then a else a - 4294967296
def swapF (op a b:Int):Int:=if op=47∨op=48 then b else if op=49 then (a+b) % 4294967296 else if op=50 then bits .xor .u32 a b else if op=51 then bits .and .u32 a b
 else if op=52 then bits .or .u32 a b else if op=53 then (if sg a<sg b then a else b) else if op=54 then (if sg a<sg b then b else a)
 else if op=55 then (if a<b then a else b) else if op=56 then (if a<b then b else a) else a
theorem swap_any (op a b:Int) (h0:0≤a) (h1:a<4294967296) (h2:0≤b) (h3:b<4294967296) (w:wD):Calls Tryz.prog 173 #[.int .i64 op,.int .u32 a,.int .u32 b] w λ e w'=>e= .returned (.int .u32 (swapF op a b))/\w=w':=by
 go_enter Tryz.func173,Tryz.ntmps173
 go_wp2
 all_goals
  go_ret
  refine⟨congrArg (λ x=>Ending.returned (.int .u32 x)) ?_,rfl⟩;unfold swapF sg
  go_tidy
  first
   | (simp_all;done)
   | (simp_all;(try unfold wrap32 at *);(repeat' split) <;> omega)
end Go.Proofs.YtmncepdbglaphaaGreatDoor.alu
namespace Go
structure OpRuns (P:Program) (o:Oper) (a:Act) (w:wD) (v:Value) (w':wD):Prop where
 run:(execOp a.eval o).run P w= .ok (.value v) w'
theorem nz {P:Program}{ops:Array Oper}{Q:Exit->Act->wD->Prop}{a:Act}{w:wD}{rest:List Oper}{o:Oper}{v:Value}{w':wD}
  (hg:o.guard=none) (hr:OpRuns P o a w v w') (h:wpList P ops Q rest (a.put o.dst v) w'):wpList P ops Q (o::rest) a w :=
 wpList_plain hg λ K hK=>by
  unfold Oper.wp;rw[hr.run,Oper.upon_value];exact hK _ _ h
end Go
namespace Go.Proofs.YtmncepdbglaphaaGreatDoor.alu
open Go.RowKit
noncomputable def Ox:Code->Nat->Array Oper
 | .seq (.region _ ops _) _,0=>ops
 | .seq _ b,n+1=>Ox b n
 | _,_=>#[]
noncomputable def aaf:Oper:=((Ox (Tryz.f156.body.getD .skip) 1)[0]?).getD default
noncomputable def aag:Oper:=((Ox (Tryz.f156.body.getD .skip) 1)[1]?).getD default
def fnNo:LN:=[0,183,184,0,0,0,0,0,0,0,0,0,0,0,0,0,0,0,0,185,186,187,188,189,190,191,192,193,185,194,191,186,187,188,192,193,189,190,195,196,199,197,200,202,203,204]
def ais (n:Nat):Value:=if n=0 then .nilFunc else .func (.func n) #[] #[]
def FT:AV:=(fnNo.map ais).toArray
def ZT:AV:=Array.replicate 46 .nilFunc
theorem Dz (a:Act) (w:wD):OpRuns Tryz.prog aaf a w (.agg FT) w:=⟨by kernel_rfl⟩
theorem Ea (a:Act) (w:wD):OpRuns Tryz.prog aag a w (.pointer (some ⟨w.heap.size,0,none⟩)) (w.alloc (.cells ZT 319)):=⟨by kernel_rfl⟩
theorem ait (op:Int) (h1:0≤op) (h2:op<46):FT[op.toNat]?=some (ais (fnNo.getD op.toNat 0)):=by
 have hl:fnNo.length=46:=by decide
 unfold FT;simp [List.getD_eq_getElem?_getD,List.getElem?_eq_getElem (show op.toNat<fnNo.length by omega)]
set_option maxRecDepth 100000 in
theorem ag (op:Int) (h1:0≤op) (h2:op<46) (w:wD):Calls Tryz.prog 156 #[.int .i64 op] w λ e w'=>e= .returned (ais (fnNo.getD op.toNat 0))/\Grown w w':=by
 have hc:=(World.cell?_alloc_new w FT 319 op.toNat).trans (ait op h1 h2);have hG:=Lib.hid ((Grown.refl w).alloc FT 319);have HC:=Lib.hid hc;clear hc
 go_enter Tryz.func156,Tryz.ntmps156
 go_wp2_with (first | refine nz rfl (Dz _ _) ?_ | refine nz rfl (Ea _ _) ?_ | (refine wpList_store_row rfl 319 (.tmp 3) (.tmp 4) rfl w.heap.size FT rfl rfl 319 ZT (heap_alloc_new _ _) (by kernel_rfl) (by kernel_rfl) (by kernel_rfl) ?_;rw[World.setRow_alloc_new];have hc:=HC.out;generalize w.alloc (.cells FT 319)=W at hc hG ⊢))
 go_ret
 exact⟨rfl,hG.out⟩
theorem aah (b:Int) (h2:0≤b) (h3:b<4294967296):bits .and .u32 b 31=b % 32:=by
 rw[u32_and b 31 h2 h3 (by omega) (by omega)];show((b.toNat &&&31:Nat):Int)=b % 32;rw[nat_mask5];omega
theorem Tv (b:Int) (h2:0≤b) (h3:b<4294967296):bits .xor .u32 b 0=b:=by
 rw[u32_xor b 0 h2 h3 (by omega) (by omega)];show((b.toNat ^^^ 0:Nat):Int)=b;rw[Nat.xor_zero];omega
theorem Oy (x:Nat) (h:x<4294967296):x ^^^ 4294967295=4294967295 - x:=by
 have h1:(4294967295 - x) ^^^ x=4294967295:=by
  apply Nat.eq_of_testBit_eq;intro i;rw[Nat.testBit_xor];by_cases hi:i<32
  ·rw[show(4294967295:Nat)=2 ^ 32 - 1 by rfl,show(2 ^ 32 - 1 - x)=2 ^ 32 - (x+1) by omega,Nat.testBit_two_pow_sub_succ h,Nat.testBit_two_pow_sub_one];simp [hi]
  ·have hb:∀ y:Nat,y<4294967296->y.testBit i=false:=λ y hy=>Nat.testBit_lt_two_pow (Nat.lt_of_lt_of_le hy (by rw[show(4294967296:Nat)=2 ^ 32 by rfl];exact Nat.pow_le_pow_right (by omega) (by omega)));rw[hb x h,hb _ (by omega),hb _ (by omega)];rfl
 have h2:x ^^^ ((4294967295 - x) ^^^ x)=4294967295 - x:=by
  rw[Nat.xor_comm (4294967295 - x) x,<- Nat.xor_assoc,Nat.xor_self,Nat.zero_xor]
 rw[h1] at h2;exact h2
theorem Tw (b:Int) (h2:0≤b) (h3:b<4294967296):bits .xor .u32 b 4294967295=4294967295 - b:=by
 rw[u32_xor b 4294967295 h2 h3 (by omega) (by omega)];show((b.toNat ^^^ 4294967295:Nat):Int)=_;rw[Oy _ (by omega)];omega
theorem amx (b:Int) (h2:0≤b) (h3:b<4294967296):bits .and .u32 0 b=0:=by
 rw[u32_and 0 b (by omega) (by omega) h2 h3];show((0 &&&b.toNat:Nat):Int)=0;rw[Nat.zero_and];rfl
theorem amy (b:Int) (h2:0≤b) (h3:b<4294967296):bits .and .u32 4294967295 b=b:=by
 rw[u32_and 4294967295 b (by omega) (by omega) h2 h3];show((4294967295 &&&b.toNat:Nat):Int)=b;rw[nat_mask32'];omega
theorem Bi (a:Int) (h0:0≤a) (h1:a<2147483648) (w:wD):Calls Tryz.prog 198 #[.int .u32 a] w λ e w'=>e= .returned (.int .u32 0)/\w=w':=by
 go_enter Tryz.func198,Tryz.ntmps198
 go_wp2
 go_ret
 exact⟨congrArg (λ x=>Ending.returned (.int .u32 x)) (by(try unfold wrap32);omega),rfl⟩
theorem Bj (a:Int) (h0:2147483648≤a) (h1:a<4294967296) (w:wD):Calls Tryz.prog 198 #[.int .u32 a] w λ e w'=>e= .returned (.int .u32 4294967295)/\w=w':=by
 go_enter Tryz.func198,Tryz.ntmps198
 go_wp2
 go_ret
 exact⟨congrArg (λ x=>Ending.returned (.int .u32 x)) (by(try unfold wrap32);omega),rfl⟩
def quoF (a b:Int):Int:=if b=0 then 4294967295 else (sg a).tdiv (sg b) % 4294967296
def remF (a b:Int):Int:=if b=0 then a else (sg a).tmod (sg b) % 4294967296
def zy (q r:Int) (w:wD) (e:Ending) (w':wD):Prop:=e= .returned (.tuple #[.int .u32 q,.int .u32 r])/\∃ n,w'=w.drewN n
theorem Bk (a:Int) (w:wD):Calls Tryz.prog 201 #[.int .u32 a,.int .u32 0] w (zy 4294967295 a w):=by
 go_enter Tryz.func201,Tryz.ntmps201
 go_wp2
 go_ret2
 exact⟨rfl,0,rfl⟩
theorem Bl {q r q' r':Int} (h:q=q') (h':r=r'):Ending.returned (.tuple #[.int .u32 q,.int .u32 r])=Ending.returned (.tuple #[.int .u32 q',.int .u32 r']):=by rw[h,h']
theorem xMM:bits .xor .u32 4294967295 4294967295=0:=by rw[Tw _ (by omega) (by omega)];rfl
theorem xM0:bits .xor .u32 4294967295 0=4294967295:=by rw[Tv _ (by omega) (by omega)]
theorem x0M:bits .xor .u32 0 4294967295=4294967295:=by rw[Tw _ (by omega) (by omega)];rfl
theorem x00:bits .xor .u32 0 0=0:=by rw[Tv _ (by omega) (by omega)]
theorem Gw (a b:Int) (h0:0≤a) (h1:a<2147483648) (h2:0<b) (h3:b<2147483648) (w:wD):Calls Tryz.prog 201 #[.int .u32 a,.int .u32 b] w (zy (a / b) (a % b) w):=by
 have hb:(b==0)=false:=by simp;omega
 have hb':¬ b=0:=by omega
 have xa:=Tv a (by omega) (by omega);have xb:=Tv b (by omega) (by omega);have x1:=xMM;have x2:=xM0;have x3:=x0M;have x4:=x00;have q0:0≤a / b:=Int.ediv_nonneg (by omega) (by omega)
 have q1:a / b<4294967296:=by have:=Int.ediv_le_self b (show 0≤a by omega);omega
 have r0:0≤a % b:=Int.emod_nonneg _ (by omega)
 have r1:a % b<4294967296:=by have:=Int.emod_lt_of_pos a (show 0<b by omega);omega
 have xq:=Tv (a / b) q0 q1;have xr:=Tv (a % b) r0 r1
 go_enter Tryz.func201,Tryz.ntmps201
 go_wp2_with fail
 refine(Bi _ (by assumption) (by assumption) _).mono ?_;rintro e w' ⟨rfl,rfl⟩
 go_wp2_with fail
 refine(Bi _ (by omega) (by assumption) _).mono ?_;rintro e w' ⟨rfl,rfl⟩
 go_wp2
 go_quiet (fail)
 go_wp2
 go_ret2
 exact⟨Bl (by omega) (by omega),_,rfl⟩
theorem Gx (a b:Int) (h0:0≤a) (h1:a<2147483648) (h2:2147483648≤b) (h3:b<4294967296) (w:wD):Calls Tryz.prog 201 #[.int .u32 a,.int .u32 b] w (zy ((-(a / (4294967296 - b))) % 4294967296) (a % (4294967296 - b)) w):=by
 have hb:(b==0)=false:=by simp;omega
 have hy:((4294967296 - b)==0)=false:=by simp;omega
 have hy':¬ 4294967296 - b=0:=by omega
 have xa:=Tv a (by omega) (by omega);have xb:=Tw b (by omega) (by omega)
 have eb:(4294967295 - b - 4294967295) % 4294967296=4294967296 - b:=by omega
 have x1:=xMM;have x2:=xM0;have x3:=x0M;have x4:=x00;have q0:0≤a / (4294967296 - b):=Int.ediv_nonneg (by omega) (by omega)
 have q1:a / (4294967296 - b)<4294967296:=by have:=Int.ediv_le_self (4294967296 - b) (show 0≤a by omega);omega
 have r0:0≤a % (4294967296 - b):=Int.emod_nonneg _ (by omega)
 have r1:a % (4294967296 - b)<4294967296:=by have:=Int.emod_lt_of_pos a (show 0<(4294967296 - b) by omega);omega
 have xq:=Tw (a / (4294967296 - b)) q0 q1;have xr:=Tv (a % (4294967296 - b)) r0 r1
 go_enter Tryz.func201,Tryz.ntmps201
 go_wp2_with fail
 refine(Bi _ (by assumption) (by assumption) _).mono ?_;rintro e w' ⟨rfl,rfl⟩
 go_wp2_with fail
 refine(Bj _ (by assumption) (by assumption) _).mono ?_;rintro e w' ⟨rfl,rfl⟩
 go_wp2
 go_quiet (fail)
 go_wp2
 go_ret2
 exact⟨Bl (by omega) (by omega),_,rfl⟩
theorem Gy (a b:Int) (h0:2147483648≤a) (h1:a<4294967296) (h2:0<b) (h3:b<2147483648) (w:wD):Calls Tryz.prog 201 #[.int .u32 a,.int .u32 b] w (zy ((-((4294967296 - a) / b)) % 4294967296) ((-((4294967296 - a) % b)) % 4294967296) w):=by
 have hb:(b==0)=false:=by simp;omega
 have hb':¬ b=0:=by omega
 have xa:=Tw a (by omega) (by omega);have xb:=Tv b (by omega) (by omega)
 have ea:(4294967295 - a - 4294967295) % 4294967296=4294967296 - a:=by omega
 have x1:=xMM;have x2:=xM0;have x3:=x0M;have x4:=x00;have q0:0≤(4294967296 - a) / b:=Int.ediv_nonneg (by omega) (by omega)
 have q1:(4294967296 - a) / b<4294967296:=by have:=Int.ediv_le_self b (show 0≤(4294967296 - a) by omega);omega
 have r0:0≤(4294967296 - a) % b:=Int.emod_nonneg _ (by omega)
 have r1:(4294967296 - a) % b<4294967296:=by have:=Int.emod_lt_of_pos (4294967296 - a) (show 0<b by omega);omega
 have xq:=Tw ((4294967296 - a) / b) q0 q1;have xr:=Tw ((4294967296 - a) % b) r0 r1
 go_enter Tryz.func201,Tryz.ntmps201
 go_wp2_with fail
 refine(Bj _ (by assumption) (by assumption) _).mono ?_;rintro e w' ⟨rfl,rfl⟩
 go_wp2_with fail
 refine(Bi _ (by omega) (by assumption) _).mono ?_;rintro e w' ⟨rfl,rfl⟩
 go_wp2
 go_quiet (fail)
 go_wp2
 go_ret2
 exact⟨Bl (by omega) (by omega),_,rfl⟩
theorem Gz (a b:Int) (h0:2147483648≤a) (h1:a<4294967296) (h2:2147483648≤b) (h3:b<4294967296) (w:wD):Calls Tryz.prog 201 #[.int .u32 a,.int .u32 b] w (zy ((4294967296 - a) / (4294967296 - b)) ((-((4294967296 - a) % (4294967296 - b))) % 4294967296) w):=by
 have hb:(b==0)=false:=by simp;omega
 have hy:((4294967296 - b)==0)=false:=by simp;omega
 have hy':¬ 4294967296 - b=0:=by omega
 have xa:=Tw a (by omega) (by omega);have xb:=Tw b (by omega) (by omega)
 have ea:(4294967295 - a - 4294967295) % 4294967296=4294967296 - a:=by omega
 have eb:(4294967295 - b - 4294967295) % 4294967296=4294967296 - b:=by omega
 have x1:=xMM;have x2:=xM0;have x3:=x0M;have x4:=x00;have q0:0≤(4294967296 - a) / (4294967296 - b):=Int.ediv_nonneg (by omega) (by omega)
 have q1:(4294967296 - a) / (4294967296 - b)<4294967296:=by have:=Int.ediv_le_self (4294967296 - b) (show 0≤(4294967296 - a) by omega);omega
 have r0:0≤(4294967296 - a) % (4294967296 - b):=Int.emod_nonneg _ (by omega)
 have r1:(4294967296 - a) % (4294967296 - b)<4294967296:=by have:=Int.emod_lt_of_pos (4294967296 - a) (show 0<(4294967296 - b) by omega);omega
 have xq:=Tv ((4294967296 - a) / (4294967296 - b)) q0 q1;have xr:=Tw ((4294967296 - a) % (4294967296 - b)) r0 r1
 go_enter Tryz.func201,Tryz.ntmps201
 go_wp2_with fail
 refine(Bj _ (by assumption) (by assumption) _).mono ?_;rintro e w' ⟨rfl,rfl⟩
 go_wp2_with fail
 refine(Bj _ (by assumption) (by assumption) _).mono ?_;rintro e w' ⟨rfl,rfl⟩
 go_wp2
 go_quiet (fail)
 go_wp2
 go_ret2
 exact⟨Bl (by omega) (by omega),_,rfl⟩
end Go.Proofs.YtmncepdbglaphaaGreatDoor.alu
