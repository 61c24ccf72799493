/- What calls that write nothing old keep: blocks, tape, output. A name of its own (it shadows the kit's), so that texts over the kit's walk hand on 'XTouch'. No condition. -/
import Derived.Test.YtojogkljneonmaaGreatDoorXHeap
import Derived.WalkKit
import Derived.ProofKit
import Derived.Test.YtojogkljneonmaaGreatDoorRows
import Derived.OpenShut
import Derived.Outline
import Derived.Lib.Hide
import Derived.WalkLawsBesides
import Derived.Laws.Tables
import Derived.Deep.WholeRow
import Derived.Laws.EntriesVeiled
import Derived.Laws.ShiftsVar
import Derived.Deep.QuietTactic
import Derived.BigQuiet
set_option linter.unusedVariables false
set_option linter.unusedSimpArgs false
namespace Go.Proofs.YtojogkljneonmaaGreatDoor
open Go.RowKit Go.XHeap
def Grown (W w:World):Prop:=XTouch (λ _=>False) W w
theorem Grown.refl (W:World):Grown W W:=XTouch.refl _ W
theorem Grown.alloc {W w:World} (h:Grown W w) (c:Array Value) (t:TypeId):Grown W (w.alloc (.cells c t)):=XTouch.alloc h _
theorem Grown.setCell {W w:World} (h:Grown W w){a:Addr} (ha:W.heap.size≤a.block) (v:Value):Grown W (w.setCell a v):=XTouch.setCell h (.inr ha) v
theorem Grown.drew {W w:World} (h:Grown W w):Grown W w.drew:=XTouch.drew h
theorem Nc {a w:World} (h:Grown a w) (n:Nat):Grown a (w.drewN n):=XTouch.drewN h n
theorem grown_trans {a b c:World} (h1:Grown a b) (h2:Grown b c):Grown a c:=XTouch.trans h1 h2 (λ _ _ e=>e)
theorem grown_cell {a b:World} (h:Grown a b){g o:Nat}{v:Value} (hc:a.cell? ⟨g,o,none⟩=some v):b.cell? ⟨g,o,none⟩=some v :=
 (XTouch.cell h (World.block_lt_of_cell? _ _ hc) (λ f=>f)).trans hc
end Go.Proofs.YtojogkljneonmaaGreatDoor
namespace Go.XRun
set_option maxRecDepth 100000
abbrev De:=FuncId->Array Value->World->Option (Value×World)
noncomputable def Aj (P:Program) (call:De) (ops:Array Oper):List Oper->Act->World->Option (Act×World)
 | [],a,w=>some (a,w)
 | o::rest,a,w =>
  if Region.wanted o (yielded ops a.tmps)=true then
   match (execOp a.eval o).run P w with
   | .ok (.value v) w'=>Aj P call ops rest (a.put o.dst v) w'
   | .ok (.enter f args) w'=>match call f args w' with
    | some (v,w'')=>Aj P call ops rest (a.put o.dst v) w''
    | none=>none
   | _=>none
  else Aj P call ops rest (a.put o.dst undef) w
noncomputable def ft (P:Program) (call:De):Code->Act->World->Option (Exit×Act×World)
 | .skip,a,w=>some (.normal,a,w)
 | .ret,a,w=>some (.ret,a,w)
 | .exit id,a,w=>some (.exit id,a,w)
 | .region _ ops false,a,w=>match Aj P call ops ops.toList a w with
  | some (a',w')=>some (.normal,a',w')
  | none=>none
 | .seq x y,a,w=>match ft P call x a w with
  | some (.normal,a',w')=>ft P call y a' w'
  | r=>r
 | .cond c x y,a,w=>match a.eval c with
  | .bool true=>ft P call x a w
  | .bool false=>ft P call y a w
  | _=>none
 | .block id x,a,w=>match ft P call x a w with
  | some (.exit id',a',w')=>if id'=id then some (.normal,a',w') else some (.exit id',a',w')
  | r=>r
 | _,_,_=>none
def wi:List ResultVar->Array Value->Option Value
 | [],_=>some (.tuple #[])
 | [.tmp t],tmps=>some (tmps.getD t undef)
 | [.tmp t,.tmp u],tmps=>some (.tuple #[tmps.getD t undef,tmps.getD u undef])
 | [.tmp t,.tmp u,.tmp v],tmps=>some (.tuple #[tmps.getD t undef,tmps.getD u undef,tmps.getD v undef])
 | _,_=>none
theorem Bv {P:Program}{fn:Func}{tmps:Array Value}{v:Value} (w:World) (h:wi fn.results.toList tmps=some v):(results fn tmps).run P w= .ok v w:=by
 generalize hr:fn.results=r at h;obtain⟨l⟩:=r;dsimp only at h;unfold wi at h;split at h
 ·cases h;simp [results,hr]
 ·cases h;simp [results,hr]
 ·cases h;simp [results,hr]
 ·cases h;simp [results,hr]
 ·cases h
noncomputable def Yh (P:Program):Nat->De
 | 0=>λ _ _ _=>none
 | n+1=>λ f args w=>match P.funcs[f]? with
  | none=>none
  | some fn=>match fn.body with
   | none=>none
   | some c=>match ft P (Yh P n) c { tmps:=args++Array.replicate (fn.ntmps - args.size) undef,defers:=[] } w with
    | some (.normal,a,w') | some (.ret,a,w')=>if a.defers.isEmpty then (wi fn.results.toList a.tmps).map (·,w') else none
    | _=>none
def abz (P:Program) (call:De):Prop :=
 ∀ f args w v w',call f args w=some (v,w')->Calls P f args w λ e w''=>e= .returned v/\w'=w''
theorem xw {P:Program}{call:De} (hs:abz P call){ops:Array Oper}{Q:Exit->Act->World->Prop}{a':Act}{w':World} (l:List Oper) :
  ∀ (a:Act) (w:World),Aj P call ops l a w=some (a',w')->Q .normal a' w'->wpList P ops Q l a w:=by
 induction l with
 | nil=>intro a w h hq;simp only[Aj,Option.some.injEq,Prod.mk.injEq] at h;obtain⟨rfl,rfl⟩:=h;exact hq
 | cons o rest ih =>
  intro a w h hq;unfold Aj at h;unfold wpList;split at h
  ·rename_i hw;rw[if_pos hw];split at h
   ·rename_i v w1 hr;exact .inl (by unfold Oper.wp;rw[hr,Oper.upon_value];exact ih _ _ h hq)
   ·rename_i f args w1 hr;split at h
    ·rename_i v w2 hc
     refine .inl (by
      unfold Oper.wp;rw[hr,Oper.upon_enter];refine(hs _ _ _ _ _ hc).mono ?_;rintro e w3 ⟨rfl,rfl⟩
      exact ih _ _ h hq)
    ·cases h
   ·cases h
  ·rename_i hw;rw[if_neg hw];exact ih _ _ h hq
theorem Fi {P:Program}{call:De} (hs:abz P call) (c:Code):∀ {Q:Exit->Act->World->Prop} (e:Exit) (a a':Act) (w w':World),
  ft P call c a w=some (e,a',w')->Q e a' w'->c.wp P Q a w:=by
 induction c with
 | skip=>intro Q e a a' w w' h hq;simp only[ft,Option.some.injEq,Prod.mk.injEq] at h;obtain⟨rfl,rfl,rfl⟩:=h;exact wp_skip hq
 | ret=>intro Q e a a' w w' h hq;simp only[ft,Option.some.injEq,Prod.mk.injEq] at h;obtain⟨rfl,rfl,rfl⟩:=h;exact wp_ret hq
 | exit id=>intro Q e a a' w w' h hq;simp only[ft,Option.some.injEq,Prod.mk.injEq] at h;obtain⟨rfl,rfl,rfl⟩:=h;exact wp_exit hq
 | region id ops d =>
  intro Q e a a' w w' h hq
  cases d with
  | true=>simp [ft] at h
  | false =>
   simp only[ft] at h;split at h
   ·rename_i a1 w1 hr;simp only[Option.some.injEq,Prod.mk.injEq] at h;obtain⟨rfl,rfl,rfl⟩:=h;exact wp_region_list (xw hs _ _ _ hr hq)
   ·cases h
 | seq x y ihx ihy =>
  intro Q e a a' w w' h hq;simp only[ft] at h;split at h
  ·rename_i a1 w1 hr;exact wp_seq (ihx _ _ _ _ _ hr (ihy _ _ _ _ _ h hq))
  ·rename_i hne;refine wp_seq (ihx _ _ _ _ _ h ?_)
   cases e with
   | normal=>exact absurd h (hne _ _)
   | _=>exact hq
 | cond c x y ihx ihy =>
  intro Q e a a' w w' h hq;simp only[ft] at h;split at h
  ·rename_i hc;exact wp_cond_true hc (ihx _ _ _ _ _ h hq)
  ·rename_i hc;exact wp_cond_false hc (ihy _ _ _ _ _ h hq)
  ·cases h
 | block id x ih =>
  intro Q e a a' w w' h hq;simp only[ft] at h;split at h
  ·rename_i id' a1 w1 hr;refine wp_block (ih _ _ _ _ _ hr ?_);by_cases hid:id'=id
   ·rw[if_pos hid] at h;simp only[Option.some.injEq,Prod.mk.injEq] at h;obtain⟨rfl,rfl,rfl⟩:=h;simp only[Exit.inBlock,hid,if_true];exact hq
   ·rw[if_neg hid] at h;simp only[Option.some.injEq,Prod.mk.injEq] at h;obtain⟨rfl,rfl,rfl⟩:=h;simp only[Exit.inBlock,hid,if_false];exact hq
  ·rename_i hne;refine wp_block (ih _ _ _ _ _ h ?_)
   cases e with
   | exit id'=>exact absurd h (hne _ _ _)
   | _=>exact hq
 | _=>intro Q e a a' w w' h hq;simp [ft] at h
theorem sound (P:Program):∀ n,abz P (Yh P n)
 | 0=>λ _ _ _ _ _ h=>by simp [Yh] at h
 | n+1=>λ f args w v w' h=>by
  have ih:=sound P n;unfold Yh at h;split at h
  ·cases h
  ·rename_i fn hf;split at h
   ·cases h
   ·rename_i c hb;split at h
    all_goals first
     | (cases h;done)
     | (rename_i a1 w1 hr
        split at h
        ·rename_i hd;simp only[Option.map_eq_some_iff,Prod.mk.injEq] at h;obtain⟨v1,hres,rfl,rfl⟩:=h;exact calls_of_wp hf hb (Fi ih c _ _ _ _ _ hr ⟨by simpa using hd,_,Bv _ hres,rfl,rfl⟩)
        ·cases h)
end Go.XRun
namespace Go.Proofs.YtojogkljneonmaaGreatDoor.alu
open Go.RowKit
set_option maxRecDepth 100000
def rowsL:List (ByteArray×Int×Int×Int×Int):=[
 (⟨#[108,117,105]⟩,85,55,0,0),
 (⟨#[97,117,105,112,99]⟩,85,23,0,0),
 (⟨#[106,97,108]⟩,74,111,0,0),
 (⟨#[106,97,108,114]⟩,76,103,0,0),
 (⟨#[98,101,113]⟩,66,99,0,0),
 (⟨#[98,110,101]⟩,66,99,1,0),
 (⟨#[98,108,116]⟩,66,99,4,0),
 (⟨#[98,103,101]⟩,66,99,5,0),
 (⟨#[98,108,116,117]⟩,66,99,6,0),
 (⟨#[98,103,101,117]⟩,66,99,7,0),
 (⟨#[108,98]⟩,76,3,0,0),
 (⟨#[108,104]⟩,76,3,1,0),
 (⟨#[108,119]⟩,76,3,2,0),
 (⟨#[108,98,117]⟩,76,3,4,0),
 (⟨#[108,104,117]⟩,76,3,5,0),
 (⟨#[115,98]⟩,83,35,0,0),
 (⟨#[115,104]⟩,83,35,1,0),
 (⟨#[115,119]⟩,83,35,2,0),
 (⟨#[97,100,100,105]⟩,73,19,0,0),
 (⟨#[115,108,116,105]⟩,73,19,2,0),
 (⟨#[115,108,116,105,117]⟩,73,19,3,0),
 (⟨#[120,111,114,105]⟩,73,19,4,0),
 (⟨#[111,114,105]⟩,73,19,6,0),
 (⟨#[97,110,100,105]⟩,73,19,7,0),
 (⟨#[115,108,108,105]⟩,72,19,1,0),
 (⟨#[115,114,108,105]⟩,72,19,5,0),
 (⟨#[115,114,97,105]⟩,72,19,5,32),
 (⟨#[97,100,100]⟩,82,51,0,0),
 (⟨#[115,117,98]⟩,82,51,0,32),
 (⟨#[115,108,108]⟩,82,51,1,0),
 (⟨#[115,108,116]⟩,82,51,2,0),
 (⟨#[115,108,116,117]⟩,82,51,3,0),
 (⟨#[120,111,114]⟩,82,51,4,0),
 (⟨#[115,114,108]⟩,82,51,5,0),
 (⟨#[115,114,97]⟩,82,51,5,32),
 (⟨#[111,114]⟩,82,51,6,0),
 (⟨#[97,110,100]⟩,82,51,7,0),
 (⟨#[109,117,108]⟩,82,51,0,1),
 (⟨#[109,117,108,104]⟩,82,51,1,1),
 (⟨#[109,117,108,104,115,117]⟩,82,51,2,1),
 (⟨#[109,117,108,104,117]⟩,82,51,3,1),
 (⟨#[100,105,118]⟩,82,51,4,1),
 (⟨#[100,105,118,117]⟩,82,51,5,1),
 (⟨#[114,101,109]⟩,82,51,6,1),
 (⟨#[114,101,109,117]⟩,82,51,7,1),
 (⟨#[108,114,46,119]⟩,75,47,2,2),
 (⟨#[115,99,46,119]⟩,65,47,2,3),
 (⟨#[97,109,111,115,119,97,112,46,119]⟩,65,47,2,1),
 (⟨#[97,109,111,97,100,100,46,119]⟩,65,47,2,0),
 (⟨#[97,109,111,120,111,114,46,119]⟩,65,47,2,4),
 (⟨#[97,109,111,97,110,100,46,119]⟩,65,47,2,12),
 (⟨#[97,109,111,111,114,46,119]⟩,65,47,2,8),
 (⟨#[97,109,111,109,105,110,46,119]⟩,65,47,2,16),
 (⟨#[97,109,111,109,97,120,46,119]⟩,65,47,2,20),
 (⟨#[97,109,111,109,105,110,117,46,119]⟩,65,47,2,24),
 (⟨#[97,109,111,109,97,120,117,46,119]⟩,65,47,2,28),
 (⟨#[102,101,110,99,101]⟩,70,15,0,0),
 (⟨#[101,99,97,108,108]⟩,78,115,0,0),
 (⟨#[101,98,114,101,97,107]⟩,78,115,0,1),
 (⟨#[109,114,101,116]⟩,78,115,0,770),
 (⟨#[119,102,105]⟩,78,115,0,261),
 (⟨#[99,115,114,114,119]⟩,67,115,1,0),
 (⟨#[99,115,114,114,115]⟩,67,115,2,0),
 (⟨#[99,115,114,114,99]⟩,67,115,3,0),
 (⟨#[99,115,114,114,119,105]⟩,68,115,5,0),
 (⟨#[99,115,114,114,115,105]⟩,68,115,6,0),
 (⟨#[99,115,114,114,99,105]⟩,68,115,7,0)]
set_option maxRecDepth 100000
def afa (op:Int):ByteArray×Int×Int×Int×Int:=rowsL.getD (op.toNat - 1) (⟨#[]⟩,0,0,0,0)
def nm (op:Int):ByteArray:=if op<1∨67<op then ⟨#[]⟩ else (afa op).1
def rA (op:Int):Int:=(afa op).2.2.2.1
set_option maxRecDepth 100000
set_option maxRecDepth 100000
def sg (a:Int):Int:=if a<2147483648 then a else a - 4294967296
end Go.Proofs.YtojogkljneonmaaGreatDoor.alu
namespace Go
structure OpRuns (P:Program) (o:Oper) (a:Act) (w:World) (v:Value) (w':World):Prop where
 run:(execOp a.eval o).run P w= .ok (.value v) w'
theorem rv {P:Program}{ops:Array Oper}{Q:Exit->Act->World->Prop}{a:Act}{w:World}{rest:List Oper}{o:Oper}{v:Value}{w':World}
  (hg:o.guard=none) (hr:OpRuns P o a w v w') (h:wpList P ops Q rest (a.put o.dst v) w'):wpList P ops Q (o::rest) a w :=
 wpList_plain hg λ K hK=>by
  unfold Oper.wp;rw[hr.run,Oper.upon_value];exact hK _ _ h
end Go
namespace Go.Proofs.YtojogkljneonmaaGreatDoor.alu
open Go.RowKit
set_option maxRecDepth 100000
noncomputable def Tv:Code->Nat->Array Oper
 | .seq (.region _ ops _) _,0=>ops
 | .seq _ b,n+1=>Tv b n
 | _,_=>#[]
noncomputable def aca:Oper:=((Tv (Tryz.f138.body.getD .skip) 1)[0]?).getD default
noncomputable def acb:Oper:=((Tv (Tryz.f138.body.getD .skip) 1)[1]?).getD default
def fnNo:List Nat:=[0,148,149,0,0,0,0,0,0,0,0,0,0,0,0,0,0,0,0,150,151,152,153,154,155,156,157,158,150,159,156,151,152,153,157,158,154,155,160,161,164,162,165,167,168,169]
def fnOf (n:Nat):Value:=if n=0 then .nilFunc else .func (.func n) #[] #[]
def FT:Array Value:=(fnNo.map fnOf).toArray
def ZT:Array Value:=Array.replicate 46 .nilFunc
theorem Ii (a:Act) (w:World):OpRuns Tryz.prog aca a w (.agg FT) w:=⟨by kernel_rfl⟩
theorem Ij (a:Act) (w:World):OpRuns Tryz.prog acb a w (.pointer (some ⟨w.heap.size,0,none⟩)) (w.alloc (.cells ZT 260)):=⟨by kernel_rfl⟩
theorem ft_at (op:Int) (h1:0≤op) (h2:op<46):FT[op.toNat]?=some (fnOf (fnNo.getD op.toNat 0)):=by
 have hl:fnNo.length=46:=by decide
 unfold FT;simp [List.getD_eq_getElem?_getD,List.getElem?_eq_getElem (show op.toNat<fnNo.length by omega)]
set_option maxRecDepth 100000 in
theorem bj (op:Int) (h1:0≤op) (h2:op<46) (w:World):Calls Tryz.prog 138 #[.int .i64 op] w λ e w'=>e= .returned (fnOf (fnNo.getD op.toNat 0))/\Grown w w':=by
 have hc:=(World.cell?_alloc_new w FT 260 op.toNat).trans (ft_at op h1 h2);have hG:=Lib.hid ((Grown.refl w).alloc FT 260);have HC:=Lib.hid hc;clear hc
 go_enter Tryz.func138,Tryz.ntmps138
 go_wp2_with (first | refine rv rfl (Ii _ _) ?_ | refine rv rfl (Ij _ _) ?_ | (refine wpList_store_row rfl 260 (.tmp 3) (.tmp 4) rfl w.heap.size FT rfl rfl 260 ZT (heap_alloc_new _ _) (by kernel_rfl) (by kernel_rfl) (by kernel_rfl) ?_;rw[World.setRow_alloc_new];have hc:=HC.out;generalize w.alloc (.cells FT 260)=W at hc hG ⊢))
 go_ret
 exact⟨rfl,hG.out⟩
set_option maxRecDepth 100000
theorem afb (b:Int) (h2:0≤b) (h3:b<4294967296):bits .and .u32 b 31=b % 32:=by
 rw[u32_and b 31 h2 h3 (by omega) (by omega)];show((b.toNat &&&31:Nat):Int)=b % 32;rw[nat_mask5];omega
theorem Wg (b:Int) (h2:0≤b) (h3:b<4294967296):bits .xor .u32 b 0=b:=by
 rw[u32_xor b 0 h2 h3 (by omega) (by omega)];show((b.toNat ^^^ 0:Nat):Int)=b;rw[Nat.xor_zero];omega
theorem Tw (x:Nat) (h:x<4294967296):x ^^^ 4294967295=4294967295 - x:=by
 have h1:(4294967295 - x) ^^^ x=4294967295:=by
  apply Nat.eq_of_testBit_eq;intro i;rw[Nat.testBit_xor];by_cases hi:i<32
  ·rw[show(4294967295:Nat)=2 ^ 32 - 1 by rfl,show(2 ^ 32 - 1 - x)=2 ^ 32 - (x+1) by omega,Nat.testBit_two_pow_sub_succ h,Nat.testBit_two_pow_sub_one];simp [hi]
  ·have hb:∀ y:Nat,y<4294967296->y.testBit i=false:=λ y hy=>Nat.testBit_lt_two_pow (Nat.lt_of_lt_of_le hy (by rw[show(4294967296:Nat)=2 ^ 32 by rfl];exact Nat.pow_le_pow_right (by omega) (by omega)));rw[hb x h,hb _ (by omega),hb _ (by omega)];rfl
 have h2:x ^^^ ((4294967295 - x) ^^^ x)=4294967295 - x:=by
  rw[Nat.xor_comm (4294967295 - x) x,<- Nat.xor_assoc,Nat.xor_self,Nat.zero_xor]
 rw[h1] at h2;exact h2
theorem Wh (b:Int) (h2:0≤b) (h3:b<4294967296):bits .xor .u32 b 4294967295=4294967295 - b:=by
 rw[u32_xor b 4294967295 h2 h3 (by omega) (by omega)];show((b.toNat ^^^ 4294967295:Nat):Int)=_;rw[Tw _ (by omega)];omega
theorem Fj (a:Int) (h0:0≤a) (h1:a<2147483648) (w:World):Calls Tryz.prog 163 #[.int .u32 a] w λ e w'=>e= .returned (.int .u32 0)/\w=w':=by
 go_enter Tryz.func163,Tryz.ntmps163
 go_wp2
 go_ret
 exact⟨congrArg (λ x=>Ending.returned (.int .u32 x)) (by(try unfold wrap32);omega),rfl⟩
theorem Fk (a:Int) (h0:2147483648≤a) (h1:a<4294967296) (w:World):Calls Tryz.prog 163 #[.int .u32 a] w λ e w'=>e= .returned (.int .u32 4294967295)/\w=w':=by
 go_enter Tryz.func163,Tryz.ntmps163
 go_wp2
 go_ret
 exact⟨congrArg (λ x=>Ending.returned (.int .u32 x)) (by(try unfold wrap32);omega),rfl⟩
def quoF (a b:Int):Int:=if b=0 then 4294967295 else (sg a).tdiv (sg b) % 4294967296
def remF (a b:Int):Int:=if b=0 then a else (sg a).tmod (sg b) % 4294967296
def Df (q r:Int) (w:World) (e:Ending) (w':World):Prop:=e= .returned (.tuple #[.int .u32 q,.int .u32 r])/\∃ n,w'=w.drewN n
theorem Fl (a:Int) (w:World):Calls Tryz.prog 166 #[.int .u32 a,.int .u32 0] w (Df 4294967295 a w):=by
 go_enter Tryz.func166,Tryz.ntmps166
 go_wp2
 go_ret2
 exact⟨rfl,0,rfl⟩
theorem Fm {q r q' r':Int} (h:q=q') (h':r=r'):Ending.returned (.tuple #[.int .u32 q,.int .u32 r])=Ending.returned (.tuple #[.int .u32 q',.int .u32 r']):=by rw[h,h']
theorem xMM:bits .xor .u32 4294967295 4294967295=0:=by rw[Wh _ (by omega) (by omega)];rfl
theorem xM0:bits .xor .u32 4294967295 0=4294967295:=by rw[Wg _ (by omega) (by omega)]
theorem x0M:bits .xor .u32 0 4294967295=4294967295:=by rw[Wh _ (by omega) (by omega)];rfl
theorem x00:bits .xor .u32 0 0=0:=by rw[Wg _ (by omega) (by omega)]
theorem Lb (a b:Int) (h0:0≤a) (h1:a<2147483648) (h2:0<b) (h3:b<2147483648) (w:World):Calls Tryz.prog 166 #[.int .u32 a,.int .u32 b] w (Df (a / b) (a % b) w):=by
 have hb:(b==0)=false:=by simp;omega
 have hb':¬ b=0:=by omega
 have xa:=Wg a (by omega) (by omega);have xb:=Wg b (by omega) (by omega);have x1:=xMM;have x2:=xM0;have x3:=x0M;have x4:=x00;have q0:0≤a / b:=Int.ediv_nonneg (by omega) (by omega)
 have q1:a / b<4294967296:=by have:=Int.ediv_le_self b (show 0≤a by omega);omega
 have r0:0≤a % b:=Int.emod_nonneg _ (by omega)
 have r1:a % b<4294967296:=by have:=Int.emod_lt_of_pos a (show 0<b by omega);omega
 have xq:=Wg (a / b) q0 q1;have xr:=Wg (a % b) r0 r1
 go_enter Tryz.func166,Tryz.ntmps166
 go_wp2_with fail
 refine(Fj _ (by assumption) (by assumption) _).mono ?_;rintro e w' ⟨rfl,rfl⟩
 go_wp2_with fail
 refine(Fj _ (by omega) (by assumption) _).mono ?_;rintro e w' ⟨rfl,rfl⟩
 go_wp2
 go_quiet (fail)
 go_wp2
 go_ret2
 exact⟨Fm (by omega) (by omega),_,rfl⟩
theorem Lc (a b:Int) (h0:0≤a) (h1:a<2147483648) (h2:2147483648≤b) (h3:b<4294967296) (w:World):Calls Tryz.prog 166 #[.int .u32 a,.int .u32 b] w (Df ((-(a / (4294967296 - b))) % 4294967296) (a % (4294967296 - b)) w):=by
 have hb:(b==0)=false:=by simp;omega
 have hy:((4294967296 - b)==0)=false:=by simp;omega
 have hy':¬ 4294967296 - b=0:=by omega
 have xa:=Wg a (by omega) (by omega);have xb:=Wh b (by omega) (by omega)
 have eb:(4294967295 - b - 4294967295) % 4294967296=4294967296 - b:=by omega
 have x1:=xMM;have x2:=xM0;have x3:=x0M;have x4:=x00;have q0:0≤a / (4294967296 - b):=Int.ediv_nonneg (by omega) (by omega)
 have q1:a / (4294967296 - b)<4294967296:=by have:=Int.ediv_le_self (4294967296 - b) (show 0≤a by omega);omega
 have r0:0≤a % (4294967296 - b):=Int.emod_nonneg _ (by omega)
 have r1:a % (4294967296 - b)<4294967296:=by have:=Int.emod_lt_of_pos a (show 0<(4294967296 - b) by omega);omega
 have xq:=Wh (a / (4294967296 - b)) q0 q1;have xr:=Wg (a % (4294967296 - b)) r0 r1
 go_enter Tryz.func166,Tryz.ntmps166
 go_wp2_with fail
 refine(Fj _ (by assumption) (by assumption) _).mono ?_;rintro e w' ⟨rfl,rfl⟩
 go_wp2_with fail
 refine(Fk _ (by assumption) (by assumption) _).mono ?_;rintro e w' ⟨rfl,rfl⟩
 go_wp2
 go_quiet (fail)
 go_wp2
 go_ret2
 exact⟨Fm (by omega) (by omega),_,rfl⟩
theorem Ld (a b:Int) (h0:2147483648≤a) (h1:a<4294967296) (h2:0<b) (h3:b<2147483648) (w:World):Calls Tryz.prog 166 #[.int .u32 a,.int .u32 b] w (Df ((-((4294967296 - a) / b)) % 4294967296) ((-((4294967296 - a) % b)) % 4294967296) w):=by
 have hb:(b==0)=false:=by simp;omega
 have hb':¬ b=0:=by omega
 have xa:=Wh a (by omega) (by omega);have xb:=Wg b (by omega) (by omega)
 have ea:(4294967295 - a - 4294967295) % 4294967296=4294967296 - a:=by omega
 have x1:=xMM;have x2:=xM0;have x3:=x0M;have x4:=x00;have q0:0≤(4294967296 - a) / b:=Int.ediv_nonneg (by omega) (by omega)
 have q1:(4294967296 - a) / b<4294967296:=by have:=Int.ediv_le_self b (show 0≤(4294967296 - a) by omega);omega
 have r0:0≤(4294967296 - a) % b:=Int.emod_nonneg _ (by omega)
 have r1:(4294967296 - a) % b<4294967296:=by have:=Int.emod_lt_of_pos (4294967296 - a) (show 0<b by omega);omega
 have xq:=Wh ((4294967296 - a) / b) q0 q1;have xr:=Wh ((4294967296 - a) % b) r0 r1
 go_enter Tryz.func166,Tryz.ntmps166
 go_wp2_with fail
 refine(Fk _ (by assumption) (by assumption) _).mono ?_;rintro e w' ⟨rfl,rfl⟩
 go_wp2_with fail
 refine(Fj _ (by omega) (by assumption) _).mono ?_;rintro e w' ⟨rfl,rfl⟩
 go_wp2
 go_quiet (fail)
 go_wp2
 go_ret2
 exact⟨Fm (by omega) (by omega),_,rfl⟩
theorem Le (a b:Int) (h0:2147483648≤a) (h1:a<4294967296) (h2:2147483648≤b) (h3:b<4294967296) (w:World):Calls Tryz.prog 166 #[.int .u32 a,.int .u32 b] w (Df ((4294967296 - a) / (4294967296 - b)) ((-((4294967296 - a) % (4294967296 - b))) % 4294967296) w):=by
 have hb:(b==0)=false:=by simp;omega
 have hy:((4294967296 - b)==0)=false:=by simp;omega
 have hy':¬ 4294967296 - b=0:=by omega
 have xa:=Wh a (by omega) (by omega);have xb:=Wh b (by omega) (by omega)
 have ea:(4294967295 - a - 4294967295) % 4294967296=4294967296 - a:=by omega
 have eb:(4294967295 - b - 4294967295) % 4294967296=4294967296 - b:=by omega
 have x1:=xMM;have x2:=xM0;have x3:=x0M;have x4:=x00;have q0:0≤(4294967296 - a) / (4294967296 - b):=Int.ediv_nonneg (by omega) (by omega)
 have q1:(4294967296 - a) / (4294967296 - b)<4294967296:=by have:=Int.ediv_le_self (4294967296 - b) (show 0≤(4294967296 - a) by omega);omega
 have r0:0≤(4294967296 - a) % (4294967296 - b):=Int.emod_nonneg _ (by omega)
 have r1:(4294967296 - a) % (4294967296 - b)<4294967296:=by have:=Int.emod_lt_of_pos (4294967296 - a) (show 0<(4294967296 - b) by omega);omega
 have xq:=Wg ((4294967296 - a) / (4294967296 - b)) q0 q1;have xr:=Wh ((4294967296 - a) % (4294967296 - b)) r0 r1
 go_enter Tryz.func166,Tryz.ntmps166
 go_wp2_with fail
 refine(Fk _ (by assumption) (by assumption) _).mono ?_;rintro e w' ⟨rfl,rfl⟩
 go_wp2_with fail
 refine(Fk _ (by assumption) (by assumption) _).mono ?_;rintro e w' ⟨rfl,rfl⟩
 go_wp2
 go_quiet (fail)
 go_wp2
 go_ret2
 exact⟨Fm (by omega) (by omega),_,rfl⟩
set_option maxRecDepth 100000
theorem xh (a b:Int) (h0:0≤a) (h1:a<4294967296) (h2:0≤b) (h3:b<4294967296) (w:World):Calls Tryz.prog 166 #[.int .u32 a,.int .u32 b] w (Df (quoF a b) (remF a b) w):=by
 by_cases hb:b=0
 ·subst hb;have e1:quoF a 0=4294967295:=rfl;have e2:remF a 0=a:=rfl;rw[e1,e2];exact Fl a w
 ·unfold quoF remF;rw[if_neg hb,if_neg hb]
  have key:∀ x y:Int,0≤x->0<y->(-x).tdiv y= -(x / y)/\x.tdiv (-y)= -(x / y)/\(-x).tdiv (-y)=x / y/\(-x).tmod y= -(x % y)/\x.tmod (-y)=x % y/\(-x).tmod (-y)= -(x % y)/\x.tdiv y=x / y/\x.tmod y=x % y:=by
   intro x y hx hy;simp [Int.neg_tdiv,Int.tdiv_neg,Int.neg_tmod,Int.tmod_neg,Int.tdiv_eq_ediv_of_nonneg hx,Int.tmod_eq_emod_of_nonneg hx]
  by_cases ha:a<2147483648
  ·by_cases hbb:b<2147483648
   ·obtain⟨-, -, -, -, -, -,e1,e2⟩:=key a b h0 (by omega)
    have e3:sg a=a:=by unfold sg;rw[if_pos ha]
    have e4:sg b=b:=by unfold sg;rw[if_pos hbb]
    have q0:0≤a / b:=Int.ediv_nonneg h0 h2;have q1:a / b≤a:=Int.ediv_le_self b h0;have r0:0≤a % b:=Int.emod_nonneg _ hb;have r1:a % b<b:=Int.emod_lt_of_pos a (by omega);rw[e3,e4,e1,e2,Int.emod_eq_of_lt q0 (by omega),Int.emod_eq_of_lt r0 (by omega)];exact Lb a b h0 ha (by omega) hbb w
   ·obtain⟨-,e1, -, -,e2, -⟩:=key a (4294967296 - b) h0 (by omega)
    have e3:sg a=a:=by unfold sg;rw[if_pos ha]
    have e4:sg b= -(4294967296 - b):=by unfold sg;rw[if_neg hbb];omega
    have r0:0≤a % (4294967296 - b):=Int.emod_nonneg _ (by omega);have r1:a % (4294967296 - b)<(4294967296 - b):=Int.emod_lt_of_pos a (by omega);rw[e3,e4,e1,e2,Int.emod_eq_of_lt r0 (by omega)];exact Lc a b h0 ha (by omega) h3 w
  ·by_cases hbb:b<2147483648
   ·obtain⟨e1, -, -,e2, -⟩:=key (4294967296 - a) b (by omega) (by omega)
    have e3:sg a= -(4294967296 - a):=by unfold sg;rw[if_neg ha];omega
    have e4:sg b=b:=by unfold sg;rw[if_pos hbb]
    rw[e3,e4,e1,e2];exact Ld a b (by omega) h1 (by omega) hbb w
   ·obtain⟨-, -,e1, -, -,e2, -⟩:=key (4294967296 - a) (4294967296 - b) (by omega) (by omega)
    have e3:sg a= -(4294967296 - a):=by unfold sg;rw[if_neg ha];omega
    have e4:sg b= -(4294967296 - b):=by unfold sg;rw[if_neg hbb];omega
    have q0:0≤(4294967296 - a) / (4294967296 - b):=Int.ediv_nonneg (by omega) (by omega);have q1:(4294967296 - a) / (4294967296 - b)≤(4294967296 - a):=Int.ediv_le_self _ (by omega);rw[e3,e4,e1,e2,Int.emod_eq_of_lt q0 (by omega)];exact Le a b (by omega) h1 (by omega) h3 w
def sltF (a b:Int):Int:=if sg a<sg b then 1 else 0
def IsU (x:Int) (w:World) (e:Ending) (w':World):Prop:=e= .returned (.int .u32 x)/\Grown w w'
theorem fh {x y:Int}{w w':World} (h:x=y) (hg:Grown w w'):IsU y w (.returned (.int .u32 x)) w':=⟨by rw[h],hg⟩
theorem amb (a b:Int) (h0:0≤a) (h1:a<4294967296) (h2:0≤b) (h3:b<4294967296) (w:World):Calls Tryz.prog 150 #[.int .u32 a,.int .u32 b] w (IsU ((a+b) % 4294967296) w):=by
 go_enter Tryz.func150,Tryz.ntmps150
 go_wp2
 all_goals
  go_ret
  refine fh ?_ (by repeat (first | exact Grown.refl _ | apply Grown.drew | apply Grown.alloc))
  go_tidy
  first | rfl | omega
theorem amc (a b:Int) (h0:0≤a) (h1:a<4294967296) (h2:0≤b) (h3:b<4294967296) (w:World):Calls Tryz.prog 151 #[.int .u32 a,.int .u32 b] w (IsU (sltF a b) w):=by
 go_enter Tryz.func151,Tryz.ntmps151
 go_wp2
 all_goals
  go_ret
  refine fh ?_ (by repeat (first | exact Grown.refl _ | apply Grown.drew | apply Grown.alloc))
  go_tidy
  unfold wrap32 at *;unfold sltF sg
  (repeat' split) <;> omega
theorem amd (a b:Int) (h0:0≤a) (h1:a<4294967296) (h2:0≤b) (h3:b<4294967296) (w:World):Calls Tryz.prog 153 #[.int .u32 a,.int .u32 b] w (IsU (bits .xor .u32 a b) w):=by
 go_enter Tryz.func153,Tryz.ntmps153
 go_wp2
 all_goals
  go_ret
  refine fh ?_ (by repeat (first | exact Grown.refl _ | apply Grown.drew | apply Grown.alloc))
  go_tidy
  first | rfl | omega
theorem ame (a b:Int) (h0:0≤a) (h1:a<4294967296) (h2:0≤b) (h3:b<4294967296) (w:World):Calls Tryz.prog 154 #[.int .u32 a,.int .u32 b] w (IsU (bits .or .u32 a b) w):=by
 go_enter Tryz.func154,Tryz.ntmps154
 go_wp2
 all_goals
  go_ret
  refine fh ?_ (by repeat (first | exact Grown.refl _ | apply Grown.drew | apply Grown.alloc))
  go_tidy
  first | rfl | omega
theorem amf (a b:Int) (h0:0≤a) (h1:a<4294967296) (h2:0≤b) (h3:b<4294967296) (w:World):Calls Tryz.prog 155 #[.int .u32 a,.int .u32 b] w (IsU (bits .and .u32 a b) w):=by
 go_enter Tryz.func155,Tryz.ntmps155
 go_wp2
 all_goals
  go_ret
  refine fh ?_ (by repeat (first | exact Grown.refl _ | apply Grown.drew | apply Grown.alloc))
  go_tidy
  first | rfl | omega
theorem amg (a b:Int) (h0:0≤a) (h1:a<4294967296) (h2:0≤b) (h3:b<4294967296) (w:World):Calls Tryz.prog 156 #[.int .u32 a,.int .u32 b] w (IsU (a * 2 ^ (b % 32).toNat % 4294967296) w):=by
 have hb:=afb b h2 h3
 have hb0:0≤b % 32:=by omega
 have hb1:b % 32<32:=by omega
 go_enter Tryz.func156,Tryz.ntmps156
 go_wp2
 all_goals
  go_ret
  refine fh ?_ (by repeat (first | exact Grown.refl _ | apply Grown.drew | apply Grown.alloc))
  go_tidy
  first | rfl | omega
theorem amh (a b:Int) (h0:0≤a) (h1:a<4294967296) (h2:0≤b) (h3:b<4294967296) (w:World):Calls Tryz.prog 158 #[.int .u32 a,.int .u32 b] w (IsU (wrap32 a / 2 ^ (b % 32).toNat % 4294967296) w):=by
 have hb:=afb b h2 h3
 have hb0:0≤b % 32:=by omega
 have hb1:b % 32<32:=by omega
 go_enter Tryz.func158,Tryz.ntmps158
 go_wp2
 all_goals
  go_ret
  refine fh ?_ (by repeat (first | exact Grown.refl _ | apply Grown.drew | apply Grown.alloc))
  go_tidy
  first | rfl | omega
theorem ami (a b:Int) (h0:0≤a) (h1:a<4294967296) (h2:0≤b) (h3:b<4294967296) (w:World):Calls Tryz.prog 159 #[.int .u32 a,.int .u32 b] w (IsU ((a - b) % 4294967296) w):=by
 go_enter Tryz.func159,Tryz.ntmps159
 go_wp2
 all_goals
  go_ret
  refine fh ?_ (by repeat (first | exact Grown.refl _ | apply Grown.drew | apply Grown.alloc))
  go_tidy
  first | rfl | omega
theorem amj (a b:Int) (h0:0≤a) (h1:a<4294967296) (h2:0≤b) (h3:b<4294967296) (w:World):Calls Tryz.prog 160 #[.int .u32 a,.int .u32 b] w (IsU (a * b % 4294967296) w):=by
 go_enter Tryz.func160,Tryz.ntmps160
 go_wp2
 all_goals
  go_ret
  refine fh ?_ (by repeat (first | exact Grown.refl _ | apply Grown.drew | apply Grown.alloc))
  go_tidy
  first | rfl | omega
theorem amk (a b:Int) (h0:0≤a) (h1:a<4294967296) (h2:0≤b) (h3:b<4294967296) (w:World):Calls Tryz.prog 165 #[.int .u32 a,.int .u32 b] w (IsU (quoF a b) w):=by
 go_enter Tryz.func165,Tryz.ntmps165
 go_wp2_with (go_at_call 166;refine(xh _ _ h0 h1 h2 h3 _).mono ?_;rintro e w' ⟨rfl,n,rfl⟩)
 go_ret
 exact fh rfl (Nc (Grown.refl w) _)
theorem aml (a b:Int) (h0:0≤a) (h1:a<4294967296) (h2:0≤b) (h3:b<4294967296) (w:World):Calls Tryz.prog 168 #[.int .u32 a,.int .u32 b] w (IsU (remF a b) w):=by
 go_enter Tryz.func168,Tryz.ntmps168
 go_wp2_with (go_at_call 166;refine(xh _ _ h0 h1 h2 h3 _).mono ?_;rintro e w' ⟨rfl,n,rfl⟩)
 go_ret
 exact fh rfl (Nc (Grown.refl w) _)
set_option maxRecDepth 100000
def execF (op a b:Int):Int:=match op.toNat with
 | 28=>(a+b) % 4294967296
 | 29=>(a - b) % 4294967296
 | 30=>a * 2 ^ (b % 32).toNat % 4294967296
 | 31=>sltF a b
 | 33=>bits .xor .u32 a b
 | 35=>wrap32 a / 2 ^ (b % 32).toNat % 4294967296
 | 36=>bits .or .u32 a b
 | 37=>bits .and .u32 a b
 | 38=>a * b % 4294967296
 | 42=>quoF a b
 | 44=>remF a b
 | _=>0
theorem ij (n:Nat) (w:World):(Go.binOp .eql 249 (.func (.func n) #[] #[]) .nilFunc).run Tryz.prog w= .ok (.bool false) w:=by kernel_rfl
theorem acd (w:World):(Go.binOp .eql 249 .nilFunc .nilFunc).run Tryz.prog w= .ok (.bool true) w:=by kernel_rfl
theorem Fp (op:Int) (h:op<0∨46≤op) (w:World):Calls Tryz.prog 138 #[.int .i64 op] w λ e w'=>e= .returned .nilFunc/\Grown w w':=by
 have hG:=Lib.hid ((Grown.refl w).alloc FT 260);rcases h with h | h
 all_goals
  go_enter Tryz.func138,Tryz.ntmps138
  go_wp2_with (first | refine rv rfl (Ii _ _) ?_ | refine rv rfl (Ij _ _) ?_ | (refine wpList_store_row rfl 260 (.tmp 3) (.tmp 4) rfl w.heap.size FT rfl rfl 260 ZT (heap_alloc_new _ _) (by kernel_rfl) (by kernel_rfl) (by kernel_rfl) ?_;rw[World.setRow_alloc_new];generalize w.alloc (.cells FT 260)=W at hG ⊢))
  go_ret
  exact⟨rfl,hG.out⟩
theorem Bw (op:Int) (h:op=0∨(3≤op/\op≤18)∨op<0∨46≤op) (w:World):Calls Tryz.prog 138 #[.int .i64 op] w λ e w'=>e= .returned .nilFunc/\Grown w w':=by
 by_cases ho:op<0∨46≤op
 ·exact Fp op ho w
 ·have e:fnNo.getD op.toNat 0=0:=by
   have h1:(List.range 46).all (λ i=>(i !=0&&(i<3||18<i))||fnNo.getD i 0==0)=true:=by decide +kernel
   have:=List.all_eq_true.1 h1 op.toNat (List.mem_range.2 (by omega));rw[Bool.or_eq_true] at this;rcases this with h2 | h2
   ·exfalso;simp at h2;omega
   ·simpa using h2
  have h2:=bj op (by omega) (by omega) w;rw[e] at h2;exact h2
theorem Tx (op:Int) (h:op=0∨(3≤op/\op≤18)∨op<0∨46≤op) (a b:Int) (w:World):Calls Tryz.prog 120 #[.int .i64 op,.int .u32 a,.int .u32 b] w (IsU 0 w):=by
 have HO:=Lib.hid (Bw op h w);have e:=acd;clear h
 go_enter Tryz.func120,Tryz.ntmps120
 go_wp2_with (go_at_call 138;refine HO.out.mono ?_;rintro e w1 ⟨rfl,hG⟩;have HG:=Lib.hid hG;clear hG)
 go_ret
 exact fh rfl HG.out
theorem ace (a b:Int) (h0:0≤a) (h1:a<4294967296) (h2:0≤b) (h3:b<4294967296) (w:World):Calls Tryz.prog 120 #[.int .i64 28,.int .u32 a,.int .u32 b] w (IsU ((a+b) % 4294967296) w):=by
 have ho:Calls Tryz.prog 138 #[.int .i64 28] w λ e w'=>e= .returned (.func (.func 150) #[] #[])/\Grown w w':=bj 28 (by omega) (by omega) w;have HO:=Lib.hid ho;have e:=ij 150;clear ho
 go_enter Tryz.func120,Tryz.ntmps120
 go_wp2_with (first | (go_at_call 138;refine HO.out.mono ?_;rintro e w1 ⟨rfl,hG⟩;have HG:=Lib.hid hG;clear hG) | (go_at_call 150;refine(amb _ _ h0 h1 h2 h3 _).mono ?_;rintro e w2 ⟨rfl,hG⟩;have HG:=Lib.hid (grown_trans HG.out hG);clear hG))
 go_ret
 exact fh rfl HG.out
theorem acf (a b:Int) (h0:0≤a) (h1:a<4294967296) (h2:0≤b) (h3:b<4294967296) (w:World):Calls Tryz.prog 120 #[.int .i64 29,.int .u32 a,.int .u32 b] w (IsU ((a - b) % 4294967296) w):=by
 have ho:Calls Tryz.prog 138 #[.int .i64 29] w λ e w'=>e= .returned (.func (.func 159) #[] #[])/\Grown w w':=bj 29 (by omega) (by omega) w;have HO:=Lib.hid ho;have e:=ij 159;clear ho
 go_enter Tryz.func120,Tryz.ntmps120
 go_wp2_with (first | (go_at_call 138;refine HO.out.mono ?_;rintro e w1 ⟨rfl,hG⟩;have HG:=Lib.hid hG;clear hG) | (go_at_call 159;refine(ami _ _ h0 h1 h2 h3 _).mono ?_;rintro e w2 ⟨rfl,hG⟩;have HG:=Lib.hid (grown_trans HG.out hG);clear hG))
 go_ret
 exact fh rfl HG.out
theorem acg (a b:Int) (h0:0≤a) (h1:a<4294967296) (h2:0≤b) (h3:b<4294967296) (w:World):Calls Tryz.prog 120 #[.int .i64 30,.int .u32 a,.int .u32 b] w (IsU (a * 2 ^ (b % 32).toNat % 4294967296) w):=by
 have ho:Calls Tryz.prog 138 #[.int .i64 30] w λ e w'=>e= .returned (.func (.func 156) #[] #[])/\Grown w w':=bj 30 (by omega) (by omega) w;have HO:=Lib.hid ho;have e:=ij 156;clear ho
 go_enter Tryz.func120,Tryz.ntmps120
 go_wp2_with (first | (go_at_call 138;refine HO.out.mono ?_;rintro e w1 ⟨rfl,hG⟩;have HG:=Lib.hid hG;clear hG) | (go_at_call 156;refine(amg _ _ h0 h1 h2 h3 _).mono ?_;rintro e w2 ⟨rfl,hG⟩;have HG:=Lib.hid (grown_trans HG.out hG);clear hG))
 go_ret
 exact fh rfl HG.out
theorem ach (a b:Int) (h0:0≤a) (h1:a<4294967296) (h2:0≤b) (h3:b<4294967296) (w:World):Calls Tryz.prog 120 #[.int .i64 31,.int .u32 a,.int .u32 b] w (IsU (sltF a b) w):=by
 have ho:Calls Tryz.prog 138 #[.int .i64 31] w λ e w'=>e= .returned (.func (.func 151) #[] #[])/\Grown w w':=bj 31 (by omega) (by omega) w;have HO:=Lib.hid ho;have e:=ij 151;clear ho
 go_enter Tryz.func120,Tryz.ntmps120
 go_wp2_with (first | (go_at_call 138;refine HO.out.mono ?_;rintro e w1 ⟨rfl,hG⟩;have HG:=Lib.hid hG;clear hG) | (go_at_call 151;refine(amc _ _ h0 h1 h2 h3 _).mono ?_;rintro e w2 ⟨rfl,hG⟩;have HG:=Lib.hid (grown_trans HG.out hG);clear hG))
 go_ret
 exact fh rfl HG.out
theorem aci (a b:Int) (h0:0≤a) (h1:a<4294967296) (h2:0≤b) (h3:b<4294967296) (w:World):Calls Tryz.prog 120 #[.int .i64 33,.int .u32 a,.int .u32 b] w (IsU (bits .xor .u32 a b) w):=by
 have ho:Calls Tryz.prog 138 #[.int .i64 33] w λ e w'=>e= .returned (.func (.func 153) #[] #[])/\Grown w w':=bj 33 (by omega) (by omega) w;have HO:=Lib.hid ho;have e:=ij 153;clear ho
 go_enter Tryz.func120,Tryz.ntmps120
 go_wp2_with (first | (go_at_call 138;refine HO.out.mono ?_;rintro e w1 ⟨rfl,hG⟩;have HG:=Lib.hid hG;clear hG) | (go_at_call 153;refine(amd _ _ h0 h1 h2 h3 _).mono ?_;rintro e w2 ⟨rfl,hG⟩;have HG:=Lib.hid (grown_trans HG.out hG);clear hG))
 go_ret
 exact fh rfl HG.out
theorem acj (a b:Int) (h0:0≤a) (h1:a<4294967296) (h2:0≤b) (h3:b<4294967296) (w:World):Calls Tryz.prog 120 #[.int .i64 35,.int .u32 a,.int .u32 b] w (IsU (wrap32 a / 2 ^ (b % 32).toNat % 4294967296) w):=by
 have ho:Calls Tryz.prog 138 #[.int .i64 35] w λ e w'=>e= .returned (.func (.func 158) #[] #[])/\Grown w w':=bj 35 (by omega) (by omega) w;have HO:=Lib.hid ho;have e:=ij 158;clear ho
 go_enter Tryz.func120,Tryz.ntmps120
 go_wp2_with (first | (go_at_call 138;refine HO.out.mono ?_;rintro e w1 ⟨rfl,hG⟩;have HG:=Lib.hid hG;clear hG) | (go_at_call 158;refine(amh _ _ h0 h1 h2 h3 _).mono ?_;rintro e w2 ⟨rfl,hG⟩;have HG:=Lib.hid (grown_trans HG.out hG);clear hG))
 go_ret
 exact fh rfl HG.out
theorem ack (a b:Int) (h0:0≤a) (h1:a<4294967296) (h2:0≤b) (h3:b<4294967296) (w:World):Calls Tryz.prog 120 #[.int .i64 36,.int .u32 a,.int .u32 b] w (IsU (bits .or .u32 a b) w):=by
 have ho:Calls Tryz.prog 138 #[.int .i64 36] w λ e w'=>e= .returned (.func (.func 154) #[] #[])/\Grown w w':=bj 36 (by omega) (by omega) w;have HO:=Lib.hid ho;have e:=ij 154;clear ho
 go_enter Tryz.func120,Tryz.ntmps120
 go_wp2_with (first | (go_at_call 138;refine HO.out.mono ?_;rintro e w1 ⟨rfl,hG⟩;have HG:=Lib.hid hG;clear hG) | (go_at_call 154;refine(ame _ _ h0 h1 h2 h3 _).mono ?_;rintro e w2 ⟨rfl,hG⟩;have HG:=Lib.hid (grown_trans HG.out hG);clear hG))
 go_ret
 exact fh rfl HG.out
theorem acl (a b:Int) (h0:0≤a) (h1:a<4294967296) (h2:0≤b) (h3:b<4294967296) (w:World):Calls Tryz.prog 120 #[.int .i64 37,.int .u32 a,.int .u32 b] w (IsU (bits .and .u32 a b) w):=by
 have ho:Calls Tryz.prog 138 #[.int .i64 37] w λ e w'=>e= .returned (.func (.func 155) #[] #[])/\Grown w w':=bj 37 (by omega) (by omega) w;have HO:=Lib.hid ho;have e:=ij 155;clear ho
 go_enter Tryz.func120,Tryz.ntmps120
 go_wp2_with (first | (go_at_call 138;refine HO.out.mono ?_;rintro e w1 ⟨rfl,hG⟩;have HG:=Lib.hid hG;clear hG) | (go_at_call 155;refine(amf _ _ h0 h1 h2 h3 _).mono ?_;rintro e w2 ⟨rfl,hG⟩;have HG:=Lib.hid (grown_trans HG.out hG);clear hG))
 go_ret
 exact fh rfl HG.out
theorem acm (a b:Int) (h0:0≤a) (h1:a<4294967296) (h2:0≤b) (h3:b<4294967296) (w:World):Calls Tryz.prog 120 #[.int .i64 38,.int .u32 a,.int .u32 b] w (IsU (a * b % 4294967296) w):=by
 have ho:Calls Tryz.prog 138 #[.int .i64 38] w λ e w'=>e= .returned (.func (.func 160) #[] #[])/\Grown w w':=bj 38 (by omega) (by omega) w;have HO:=Lib.hid ho;have e:=ij 160;clear ho
 go_enter Tryz.func120,Tryz.ntmps120
 go_wp2_with (first | (go_at_call 138;refine HO.out.mono ?_;rintro e w1 ⟨rfl,hG⟩;have HG:=Lib.hid hG;clear hG) | (go_at_call 160;refine(amj _ _ h0 h1 h2 h3 _).mono ?_;rintro e w2 ⟨rfl,hG⟩;have HG:=Lib.hid (grown_trans HG.out hG);clear hG))
 go_ret
 exact fh rfl HG.out
theorem acn (a b:Int) (h0:0≤a) (h1:a<4294967296) (h2:0≤b) (h3:b<4294967296) (w:World):Calls Tryz.prog 120 #[.int .i64 42,.int .u32 a,.int .u32 b] w (IsU (quoF a b) w):=by
 have ho:Calls Tryz.prog 138 #[.int .i64 42] w λ e w'=>e= .returned (.func (.func 165) #[] #[])/\Grown w w':=bj 42 (by omega) (by omega) w;have HO:=Lib.hid ho;have e:=ij 165;clear ho
 go_enter Tryz.func120,Tryz.ntmps120
 go_wp2_with (first | (go_at_call 138;refine HO.out.mono ?_;rintro e w1 ⟨rfl,hG⟩;have HG:=Lib.hid hG;clear hG) | (go_at_call 165;refine(amk _ _ h0 h1 h2 h3 _).mono ?_;rintro e w2 ⟨rfl,hG⟩;have HG:=Lib.hid (grown_trans HG.out hG);clear hG))
 go_ret
 exact fh rfl HG.out
theorem aco (a b:Int) (h0:0≤a) (h1:a<4294967296) (h2:0≤b) (h3:b<4294967296) (w:World):Calls Tryz.prog 120 #[.int .i64 44,.int .u32 a,.int .u32 b] w (IsU (remF a b) w):=by
 have ho:Calls Tryz.prog 138 #[.int .i64 44] w λ e w'=>e= .returned (.func (.func 168) #[] #[])/\Grown w w':=bj 44 (by omega) (by omega) w;have HO:=Lib.hid ho;have e:=ij 168;clear ho
 go_enter Tryz.func120,Tryz.ntmps120
 go_wp2_with (first | (go_at_call 138;refine HO.out.mono ?_;rintro e w1 ⟨rfl,hG⟩;have HG:=Lib.hid hG;clear hG) | (go_at_call 168;refine(aml _ _ h0 h1 h2 h3 _).mono ?_;rintro e w2 ⟨rfl,hG⟩;have HG:=Lib.hid (grown_trans HG.out hG);clear hG))
 go_ret
 exact fh rfl HG.out
theorem exec_any (op a b:Int) (ho:op=0∨op=28∨op=29∨op=30∨op=31∨op=33∨op=35∨op=36∨op=37∨op=38∨op=42∨op=44) (h0:0≤a) (h1:a<4294967296) (h2:0≤b) (h3:b<4294967296) (w:World):Calls Tryz.prog 120 #[.int .i64 op,.int .u32 a,.int .u32 b] w (IsU (execF op a b) w):=by
 rcases ho with rfl | rfl | rfl | rfl | rfl | rfl | rfl | rfl | rfl | rfl | rfl | rfl
 ·exact Tx 0 (.inl rfl) a b w
 ·exact ace a b h0 h1 h2 h3 w
 ·exact acf a b h0 h1 h2 h3 w
 ·exact acg a b h0 h1 h2 h3 w
 ·exact ach a b h0 h1 h2 h3 w
 ·exact aci a b h0 h1 h2 h3 w
 ·exact acj a b h0 h1 h2 h3 w
 ·exact ack a b h0 h1 h2 h3 w
 ·exact acl a b h0 h1 h2 h3 w
 ·exact acm a b h0 h1 h2 h3 w
 ·exact acn a b h0 h1 h2 h3 w
 ·exact aco a b h0 h1 h2 h3 w
end Go.Proofs.YtojogkljneonmaaGreatDoor.alu
