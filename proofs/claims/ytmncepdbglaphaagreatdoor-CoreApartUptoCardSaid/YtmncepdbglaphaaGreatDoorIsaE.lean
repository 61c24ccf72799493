/- A part of the walk. No condition. -/
import Derived.WalkKit
import Derived.ProofKit
import Derived.OpenShut
import Derived.LaidMore
import Derived.Lib.LaidU8
import Derived.Lib.Hide
import Derived.Test.YtmncepdbglaphaaGreatDoorAluF
import Derived.WalkLawsBesides
import Derived.Deep.QuietTactic
import Derived.BigQuiet
import Derived.Outline
import Derived.Laws.BitsAllLaws
set_option linter.unusedVariables false
set_option maxRecDepth 100000
namespace Go.Proofs.YtmncepdbglaphaaGreatDoor
open Go.RowKit
def earlyL:List (Int×Int×Int):=[(0,0,0),(1,127,55),(1,127,23),(2,127,111),(4,28799,103),(3,28799,99),(3,28799,4195),(3,28799,16483),(3,28799,20579),(3,28799,24675),(3,28799,28771),(4,28799,3),(4,28799,4099),(4,28799,8195),(4,28799,16387),(4,28799,20483),(5,28799,35),(5,28799,4131),(5,28799,8227),(6,28799,19),(6,28799,8211),(6,28799,12307),(6,28799,16403),(6,28799,24595),(6,28799,28691),(7,4261441663,4115),(7,4261441663,20499),(7,4261441663,1073762323)]
def lateL:List (Int×Int×Int):=[(8,4261441663,51),(8,4261441663,1073741875),(8,4261441663,4147),(8,4261441663,8243),(8,4261441663,12339),(8,4261441663,16435),(8,4261441663,20531),(8,4261441663,1073762355),(8,4261441663,24627),(8,4261441663,28723),(8,4261441663,33554483),(8,4261441663,33558579),(8,4261441663,33562675),(8,4261441663,33566771),(8,4261441663,33570867),(8,4261441663,33574963),(8,4261441663,33579059),(8,4261441663,33583155),(10,4193284223,268443695),(9,4160778367,402661423),(9,4160778367,134225967),(9,4160778367,8239),(9,4160778367,536879151),(9,4160778367,1610620975),(9,4160778367,1073750063),(9,4160778367,2147491887),(9,4160778367,2684362799),(9,4160778367,3221233711),(9,4160778367,3758104623),(11,4027580415,15),(0,4294967295,115),(0,4294967295,1048691),(0,4294967295,807403635),(0,4294967295,273678451),(12,28799,4211),(12,28799,8307),(12,28799,12403),(13,28799,20595),(13,28799,24691),(13,28799,28787)]
def codeL:List (LI):=[[],[],[],[11,12,13,14,15],[],[],[],[],[],[],[],[],[],[],[],[57],[],[],[],[19,20,21,22,23,24,25,26,27],[],[],[],[2],[],[],[],[],[],[],[],[],[],[],[],[16,17,18],[],[],[],[],[],[],[],[],[],[],[],[46,47,48,49,50,51,52,53,54,55,56],[],[],[],[28,29,30,31,32,33,34,35,36,37,38,39,40,41,42,43,44,45],[],[],[],[1],[],[],[],[],[],[],[],[],[],[],[],[],[],[],[],[],[],[],[],[],[],[],[],[],[],[],[],[],[],[],[],[],[],[],[],[],[],[],[],[],[],[],[],[5,6,7,8,9,10],[],[],[],[4],[],[],[],[],[],[],[],[3],[],[],[],[58,59,60,61,62,63,64,65,66,67],[],[],[],[],[],[],[],[],[],[],[],[]]
def Zu {H:Type} (x:Int×Int×Int):DataW H:=.agg [.lit (.int .i64 x.1),.lit (.int .u32 x.2.1),.lit (.int .u32 x.2.2)]
def Og {H:Type} (l:LI):DataW H:=if l.isEmpty then .nil else .slice (l.map λ n=>.lit (.int .i64 n)) []
theorem Ur {H:Type}:(Rows.laid_oocore_isa_early:DataW H)= .agg (earlyL.map Zu):=by kernel_rfl
theorem Zv {H:Type}:(Rows.laid_oocore_isa_late:DataW H)= .agg (lateL.map Zu):=by kernel_rfl
theorem Zw {H:Type}:(Rows.laid_oocore_isa_byCode:DataW H)= .agg (codeL.map Og):=by kernel_rfl
theorem Iq:Tryz.prog.cellsOf 300=3:=by kernel_rfl
theorem Us:Tryz.prog.cellsOf 298=1:=by kernel_rfl
theorem Oh:Tryz.prog.cellsOf 47=1:=by kernel_rfl
theorem Ut:Tryz.prog.cellsOf 325=1:=by kernel_rfl
theorem Uu:Tryz.prog.cellsOf 155=1:=by kernel_rfl
theorem Oi {H:Type}{enc:TI×Value->H}{w:wD}{base fuel:Nat}{sp:Nat->Bool}{held:Bool}{cs:LV}{x:Int×Int×Int}{p:List MemPlace}
  (h:DataW.trod enc Tryz.prog w base sp held fuel 300 cs=some (Zu x,p)):cs=[.int .i64 x.1,.int .u32 x.2.1,.int .u32 x.2.2]:=by
 obtain⟨xs,n, -,hx,hl,hxl,hf⟩:=DataW.trod_struct Tryz.underlying300 h;rw[Iq] at hl
 obtain⟨c0,c1,c2,rfl⟩:∃ c0 c1 c2,cs=[c0,c1,c2]:=by
  match cs,hl with
  | [a,b,c],_=>exact⟨a,b,c,rfl⟩
 obtain⟨y0,y1,y2,rfl⟩:∃ y0 y1 y2,xs=[y0,y1,y2]:=by
  match xs,hxl with
  | [a,b,c],_=>exact⟨a,b,c,rfl⟩
 have h0:DataW.trod enc Tryz.prog w base sp held n 298 [c0]=some y0:=by have:=hf 0 _ rfl;simpa [Us] using this
 have h1:DataW.trod enc Tryz.prog w base sp held n 47 [c1]=some y1:=by have:=hf 1 _ rfl;simpa [Oh] using this
 have h2:DataW.trod enc Tryz.prog w base sp held n 47 [c2]=some y2:=by have:=hf 2 _ rfl;simpa [Oh] using this
 obtain⟨n0,e0,d0, -⟩:=DataW.trod_int Tryz.underlying298 h0;obtain⟨n1,e1,d1, -⟩:=DataW.trod_int Tryz.underlying47 h1;obtain⟨n2,e2,d2, -⟩:=DataW.trod_int Tryz.underlying47 h2;simp [Zu,d0,d1,d2] at hx;simp at e0 e1 e2;obtain⟨⟨rfl,rfl,rfl⟩,_⟩:=hx;rw[e0,e1,e2]
theorem Lm (l:LV) (i:Nat) (a b c:Value) (h:(l.drop (i * 3)).take 3=[a,b,c]):l[i * 3]?=some a/\l[i * 3+1]?=some b/\l[i * 3+2]?=some c:=by
 have g:∀ j,j<3->l[i * 3+j]?=[a,b,c][j]?:=by
  intro j hj;rw[<- h,List.getElem?_take_of_lt hj,List.getElem?_drop]
 exact⟨g 0 (by omega),g 1 (by omega),g 2 (by omega)⟩
def Zx (w:wD) (g:Nat) (l:List (Int×Int×Int)):Prop:=∀ (i:Nat) (x:Int×Int×Int),l[i]?=some x ->
  w.cell? ⟨g,i * 3,none⟩=some (.int .i64 x.1)/\w.cell? ⟨g,i * 3+1,none⟩=some (.int .u32 x.2.1)/\w.cell? ⟨g,i * 3+2,none⟩=some (.int .u32 x.2.2)
theorem Ir {W:wD}{name:String}{g t n:Nat}{l:List (Int×Int×Int)} (hg:Tryz.prog.globalNamed name=some g) (hty:(Tryz.prog.globals[g]?).map (·.type)=some t)
  (ht:Tryz.prog.underlying t=some (.array n 300)) (h:Lib.VarReads Tryz.prog W name (.agg (l.map Zu))):Zx W g l:=by
 obtain⟨g',t',cs,fuel,p,hg',ht',hvar,hd⟩:=h;obtain rfl:=Option.some.inj (hg.symm.trans hg');obtain rfl:=Option.some.inj (hty.symm.trans ht');obtain⟨xs,m, -,hx,hl,hxl,hf⟩:=DataW.trod_array ht hd;intro i x hi
 have hxs:xs.map (·.1)=l.map Zu:=by
  have:=congrArg Prod.fst hx;simpa using this.symm
 have hlen:l.length=xs.length:=by simpa using (congrArg List.length hxs).symm
 have hil:i<l.length:=by
  rcases Nat.lt_or_ge i l.length with h | h
  ·exact h
  ·rw[List.getElem?_eq_none h] at hi;cases hi
 obtain⟨y,hy⟩:∃ y,xs[i]?=some y:=⟨xs[i]'(by omega),List.getElem?_eq_getElem (by omega)⟩
 have h1:y.1=Zu x:=by
  have:=congrArg (·[i]?) hxs;simp [hy,hi] at this;exact this
 have h2:=hf i (by omega);rw[hy,Iq] at h2;obtain⟨y1,y2⟩:=y;simp only at h1;subst h1;have h3:=Lm _ _ _ _ _ (Oi h2);simp only[World.var?_cell hg hvar];simpa using h3
def vd (w:wD) (g:Nat) (ls:List (LI)):Prop:=∀ (c:Nat) (l:LI),ls[c]?=some l ->
  (l=[]->w.cell? ⟨g,c,none⟩=some (.slice none 0 0)) /\
  (l≠[]->∃ b off cap,w.cell? ⟨g,c,none⟩=some (.slice (some ⟨b,off,none⟩) l.length cap)/\∀ i n,l[i]?=some n->w.cell? ⟨b,off+i,none⟩=some (.int .i64 n))
theorem Oj {W:wD}{name:String}{g t n:Nat}{ls:List (LI)} (hg:Tryz.prog.globalNamed name=some g) (hty:(Tryz.prog.globals[g]?).map (·.type)=some t)
  (ht:Tryz.prog.underlying t=some (.array n 325)) (h:Lib.VarReads Tryz.prog W name (.agg (ls.map Og))):vd W g ls:=by
 obtain⟨g',t',cs,fuel,p,hg',ht',hvar,hd⟩:=h;obtain rfl:=Option.some.inj (hg.symm.trans hg');obtain rfl:=Option.some.inj (hty.symm.trans ht');obtain⟨xs,m, -,hx,hl,hxl,hf⟩:=DataW.trod_array ht hd;intro i l hi
 have hxs:xs.map (·.1)=ls.map Og:=by
  have:=congrArg Prod.fst hx;simpa using this.symm
 have hlen:ls.length=xs.length:=by simpa using (congrArg List.length hxs).symm
 have hil:i<ls.length:=by
  rcases Nat.lt_or_ge i ls.length with h | h
  ·exact h
  ·rw[List.getElem?_eq_none h] at hi;cases hi
 obtain⟨y,hy⟩:∃ y,xs[i]?=some y:=⟨xs[i]'(by omega),List.getElem?_eq_getElem (by omega)⟩
 have h1:y.1=Og l:=by
  have:=congrArg (·[i]?) hxs;simp [hy,hi] at this;exact this
 have h2:=hf i (by omega);rw[hy,Ut] at h2;obtain⟨y1,y2⟩:=y;simp only at h1;subst h1;rw[Nat.mul_one] at h2
 have hcell:∀ v,(cs.toList.drop i).take 1=[v]->W.cell? ⟨g,i,none⟩=some v:=by
  intro v hv;rw[World.var?_cell hg hvar]
  have:cs.toList[i]?=some v:=by
   have h3:((cs.toList.drop i).take 1)[0]?=some v:=by rw[hv];rfl
   rw[List.getElem?_take_of_lt (by omega),List.getElem?_drop] at h3;simpa using h3
  simpa using this
 refine⟨λ he=>?_,λ hne=>?_⟩
 ·subst he;have h3:DataW.trod (λ _=>()) Tryz.prog W 0 (λ _=>true) false m 325 ((cs.toList.drop i).take 1)=some (.nil,y2):=h2;rcases DataW.trod_slice Tryz.underlying325 h3 with ⟨hc, -⟩ | ⟨a,len,cap,elems,rest,n, -, -,hx, -⟩
  ·exact hcell _ hc
  ·simp at hx
 ·have h3:DataW.trod (λ _=>()) Tryz.prog W 0 (λ _=>true) false m 325 ((cs.toList.drop i).take 1)=some (.slice (l.map λ n=>.lit (.int .i64 n)) [],y2):=by
   rw[h2];unfold Og;simp [hne]
  obtain⟨a,cap,hc, -,hel⟩:=open_row Tryz.underlying325 Uu h3
  have hcells:∀ j n,l[j]?=some n->W.cell? (a.add j)=some (.int .i64 n):=by
   intro j n hj;obtain⟨v,k,q,hv,hr⟩:=hel j (.lit (.int .i64 n)) (by simp [hj]);obtain⟨n',e0,d0, -⟩:=DataW.trod_int Tryz.underlying155 hr;simp at e0 d0;rw[hv,e0,d0.1]
  obtain⟨n0,hn0⟩:∃ n0,l[0]?=some n0:=by
   cases l with
   | nil=>exact absurd rfl hne
   | cons x r=>exact⟨x,rfl⟩
  obtain⟨b,off,spot⟩:=a
  have hspot:spot=none:=by simpa [Addr.add] using World.cell?_spot (hcells 0 n0 hn0)
  subst hspot;refine⟨b,off,cap,?_,λ j n hj=>?_⟩
  ·have:=hcell _ hc;simpa using this
  ·have:=hcells j n hj;rwa [show(⟨b,off,none⟩:Addr).add j=⟨b,off+j,none⟩ by unfold Addr.add;split <;> simp_all] at this
def shP (op:Int):Int×Int×Int:=if op<28 then earlyL.getD op.toNat (0,0,0) else lateL.getD (op.toNat - 28) (0,0,0)
def Tab (w:wD):Prop:=Zx w 1 earlyL/\Zx w 2 lateL
theorem Tab.grown {a b:wD} (h:Tab a) (hg:Grown a b):Tab b :=
 ⟨λ i x hi=>⟨cq hg (h.1 i x hi).1,cq hg (h.1 i x hi).2.1,cq hg (h.1 i x hi).2.2⟩,λ i x hi=>⟨cq hg (h.2 i x hi).1,cq hg (h.2 i x hi).2.1,cq hg (h.2 i x hi).2.2⟩⟩
theorem Tab.early {w:wD} (h:Tab w) (op:Int) (h0:0≤op) (h1:op<28) :
  w.cell? ⟨1,op.toNat * 3,none⟩=some (.int .i64 (shP op).1)/\w.cell? ⟨1,op.toNat * 3+1,none⟩=some (.int .u32 (shP op).2.1)/\w.cell? ⟨1,op.toNat * 3+2,none⟩=some (.int .u32 (shP op).2.2):=by
 have hl:earlyL.length=28:=by decide
 have e:shP op=earlyL[op.toNat]'(by omega):=by
  unfold shP;rw[if_pos h1,List.getD_eq_getElem?_getD,List.getElem?_eq_getElem (by omega)];rfl
 rw[e];exact h.1 op.toNat _ (List.getElem?_eq_getElem (by omega))
theorem Tab.late {w:wD} (h:Tab w) (op:Int) (h0:28≤op) (h1:op<68) :
  w.cell? ⟨2,(op - 28).toNat * 3,none⟩=some (.int .i64 (shP op).1)/\w.cell? ⟨2,(op - 28).toNat * 3+1,none⟩=some (.int .u32 (shP op).2.1)/\w.cell? ⟨2,(op - 28).toNat * 3+2,none⟩=some (.int .u32 (shP op).2.2):=by
 have hl:lateL.length=40:=by decide
 have e:shP op=lateL[op.toNat - 28]'(by omega):=by
  unfold shP;rw[if_neg (by omega),List.getD_eq_getElem?_getD,List.getElem?_eq_getElem (by omega)];rfl
 rw[e,show(op - 28).toNat=op.toNat - 28 by omega];exact h.2 _ _ (List.getElem?_eq_getElem (by omega))
theorem Gu {W:wD} {l:List (String×DataW Unit)} (h:laidMet Tryz.prog l W) (h1:("oocore/isa.early",Rows.laid_oocore_isa_early) ∈ l) (h2:("oocore/isa.late",Rows.laid_oocore_isa_late) ∈ l):Tab W :=
 ⟨Ir (g:=1) (t:=332) (n:=28) (by kernel_rfl) (by kernel_rfl) Tryz.underlying332 (Ur ▸ Lib.laidMet.reads h h1),Ir (g:=2) (t:=333) (n:=40) (by kernel_rfl) (by kernel_rfl) Tryz.underlying333 (Zv ▸ Lib.laidMet.reads h h2)⟩
def Yd (x:Int×Int×Int) (w:wD) (e:Ending) (w':wD):Prop:=e= .returned (.agg #[.int .i64 x.1,.int .u32 x.2.1,.int .u32 x.2.2])/\Grown w w'
theorem Tab.lt {w:wD} (h:Tab w):1<w.heap.size/\2<w.heap.size :=
 ⟨World.block_lt_of_cell? _ _ (h.early 0 (by omega) (by omega)).1,World.block_lt_of_cell? _ _ (h.late 28 (by omega) (by omega)).1⟩
theorem uh (op:Int) (h0:0≤op) (h1:op<68) (w:wD) (hT:Tab w):Calls Tryz.prog 212 #[.int .i64 op] w (Yd (shP op) w):=by
 obtain⟨s1,s2⟩:=hT.lt;by_cases h2:op<28
 ·obtain⟨c0,c1,c2⟩:=hT.early op h0 h2
  go_enter Tryz.func212,Tryz.ntmps212
  go_wp2
  exact bodyPost_ret (v:=.agg #[.int .i64 (shP op).1,.int .u32 (shP op).2.1,.int .u32 (shP op).2.2]) (by simp [results,Tryz.results212,go_sem]) rfl ⟨rfl,(Grown.refl w).alloc _ _⟩
 ·obtain⟨c0,c1,c2⟩:=hT.late op (by omega) h1;clear hT
  have h2':28≤op:=by omega
  go_enter Tryz.func212,Tryz.ntmps212
  go_wp2
  exact bodyPost_ret (v:=.agg #[.int .i64 (shP op).1,.int .u32 (shP op).2.1,.int .u32 (shP op).2.2]) (by simp [results,Tryz.results212,go_sem]) rfl ⟨rfl,(Grown.refl w).alloc _ _⟩
def ofP (op:Int):Int×Int×Int:=if op≤0∨68≤op then (0,0,0) else shP op
theorem Ol (op:Int) (w:wD) (hT:Tab w):Calls Tryz.prog 167 #[.int .i64 op] w (Yd (ofP op) w):=by
 by_cases h1:op≤0∨68≤op
 ·have e:ofP op=(0,0,0):=by unfold ofP;rw[if_pos h1]
  rw[e];clear e hT;rcases h1 with h1 | h1
  all_goals
   go_enter Tryz.func167,Tryz.ntmps167
   go_wp2
   exact bodyPost_ret (v:=.agg #[.int .i64 0,.int .u32 0,.int .u32 0]) (by simp [results,Tryz.results167,go_sem]) rfl ⟨rfl,(Grown.refl w).alloc _ _⟩
 ·have e:ofP op=shP op:=by unfold ofP;rw[if_neg h1]
  rw[e]
  have h2:1≤op:=by omega
  have h3:op<68:=by omega
  have HS:=Lib.hid (λ w1 (hT1:Tab w1)=>uh op (by omega) h3 w1 hT1);have HT:=Lib.hid hT;clear e hT h1;have HG:=Lib.hid ((Grown.refl w).alloc #[.int .i64 0,.int .u32 0,.int .u32 0] 300)
  go_enter Tryz.func167,Tryz.ntmps167
  go_wp2_with fail
  refine(HS.out _ (HT.out.grown HG.out)).mono ?_;rintro e w1 ⟨rfl,hg⟩;have HG2:=Lib.hid (ah HG.out hg);have k0:=cq hg (World.cell?_alloc_new w #[.int .i64 0,.int .u32 0,.int .u32 0] 300 0);have k1:=cq hg (World.cell?_alloc_new w #[.int .i64 0,.int .u32 0,.int .u32 0] 300 1);have k2:=cq hg (World.cell?_alloc_new w #[.int .i64 0,.int .u32 0,.int .u32 0] 300 2);have f0:∀ i,w1.frozen? ⟨w.heap.size,i,none⟩=false:=λ i=>(ml (Go.XHeap.Blk.new w _ _) hg).frozen i;clear hg
  go_wp2
  exact bodyPost_ret (v:=.agg #[.int .i64 (shP op).1,.int .u32 (shP op).2.1,.int .u32 (shP op).2.2]) (by simp [results,Tryz.results167,go_sem,k0,k1,k2]) rfl
   ⟨rfl,(((HG2.out).setCell (by simp) _).setCell (by simp) _).setCell (by simp) _⟩
theorem Om (a b c:Int) (w:wD):(Instr.field 300 (.agg #[.int .i64 a,.int .u32 b,.int .u32 c]) 0).run Tryz.prog w= .ok (.int .i64 a) w:=by kernel_rfl
def av (op:Int):Int :=
 if 38≤op/\op≤45 then 1 else if op=4 then 3 else
 let f:=(ofP op).1
 if f=1∨f=6∨f=7∨f=8 then 0 else if f=2 then 3 else if f=3 then 2 else if f=4 then 4 else if f=5 then 5 else if f=9∨f=10 then 6 else 7
theorem Ln (op:Int) (w:wD) (hT:Tab w):Calls Tryz.prog 130 #[.int .i64 op] w λ e w'=>e= .returned (.int .i64 (av op))/\Grown w w':=by
 have HO:=Lib.hid (Ol op w hT);have HG:=Lib.hid (Grown.refl w);have hfld:=Om
 go_enter Tryz.func130,Tryz.ntmps130
 go_wp2_with (go_at_call 167;refine HO.out.mono ?_;rintro e w1 ⟨rfl,hg⟩;have HG:=Lib.hid hg;clear hg)
 all_goals
  go_ret
  refine⟨congrArg (λ x=>Ending.returned (.int .i64 x)) ?_,HG.out⟩;unfold av
  go_tidy
  simp only[beq_iff_eq,beq_eq_false_iff_ne] at *
  first
   | (simp_all;done)
   | (simp_all;omega)
def cw (op:Int):Bool×Bool :=
 let f:=(ofP op).1
 if f=3∨f=5∨f=8∨f=9 then (true,true) else if f=4∨f=6∨f=7∨f=10∨f=12 then (true,false) else (false,false)
theorem On {a b:Bool}{x:Bool×Bool} (h:(a,b)=x):Ending.returned (.tuple #[.bool a,.bool b])= .returned (.tuple #[.bool x.1,.bool x.2]):=by rw[<- h]
theorem Lo (op:Int) (w:wD) (hT:Tab w):Calls Tryz.prog 118 #[.int .i64 op] w λ e w'=>e= .returned (.tuple #[.bool (cw op).1,.bool (cw op).2])/\Grown w w':=by
 have HO:=Lib.hid (Ol op w hT);have HG:=Lib.hid (Grown.refl w);have hfld:=Om
 go_enter Tryz.func118,Tryz.ntmps118
 go_wp2_with (go_at_call 167;refine HO.out.mono ?_;rintro e w1 ⟨rfl,hg⟩;have HG:=Lib.hid hg;clear hg)
 all_goals
  go_ret2
  refine⟨On ?_,HG.out⟩;unfold cw
  go_tidy
  simp only[beq_iff_eq,beq_eq_false_iff_ne] at *
  first
   | (simp_all;done)
   | (simp_all;omega)
def pf (op:Int):Bool :=
 let f:=(ofP op).1
 if f=0∨f=3∨f=5∨f=11 then false else true
theorem Gv (op:Int) (w:wD) (hT:Tab w):Calls Tryz.prog 114 #[.int .i64 op] w λ e w'=>e= .returned (.bool (pf op))/\Grown w w':=by
 have HO:=Lib.hid (Ol op w hT);have HG:=Lib.hid (Grown.refl w);have hfld:=Om
 go_enter Tryz.func114,Tryz.ntmps114
 go_wp2_with (go_at_call 167;refine HO.out.mono ?_;rintro e w1 ⟨rfl,hg⟩;have HG:=Lib.hid hg;clear hg)
 all_goals
  go_ret
  refine⟨congrArg (λ x=>Ending.returned (.bool x)) ?_,HG.out⟩;unfold pf
  go_tidy
  simp only[beq_iff_eq,beq_eq_false_iff_ne] at *
  first
   | (simp_all;done)
   | (simp_all;omega)
theorem Oo (n:Int) (h₀:0≤n) (h₁:n<2 ^ 32):IntKind.u32.wrap n=n:=by rw[IntKind.wrap_u32];omega
theorem dq (n:Int) (h0 : -9223372036854775808≤n) (h1:n≤9223372036854775807):wrap64 n=n:=by unfold wrap64;omega
def Drawn (w w':wD):Prop:=∃ n,w'=w.drewN n
theorem Drawn.refl (w:wD):Drawn w w:=⟨0,rfl⟩
theorem ph (x y m:Int) (i:Nat) (hm:m=((2 ^ i:Nat):Int)) (hi:i≤63) (x0 : -9223372036854775808≤x) (x1:x<4611686018427387904) (hx:x % m=0) (y0:0≤y) (y1:y<m) (hm2:m≤4611686018427387904) :
  bits .or .i64 x y=x+y:=by
 obtain⟨b,rfl⟩:=Int.eq_ofNat_of_zero_le y0;obtain⟨a,ha⟩:∃ a:Nat,x % 18446744073709551616=a:=⟨(x % 18446744073709551616).toNat,by omega⟩
 have hb:b<2 ^ i:=by subst hm;exact_mod_cast y1
 have ham:a % 2 ^ i=0:=by
  have h5:((a:Int)) % m=0:=by
   rw[<- ha]
   have hd:m ∣ 18446744073709551616:=by
    rw[hm];exact⟨((2 ^ (64 - i):Nat):Int),by rw[<- Int.natCast_mul,<- Nat.pow_add,show i+(64 - i)=64 by omega];rfl⟩
   rw[Int.emod_emod_of_dvd _ hd];exact hx
  rw[hm] at h5
  exact_mod_cast h5
 have e1:(BitVec.ofInt 64 x).toNat=a:=by
  rw[BitVec.toNat_ofInt];show(x % 18446744073709551616).toNat=a;omega
 have e2:(BitVec.ofInt 64 (b:Int)).toNat=b:=by
  rw[BitVec.ofInt_natCast,BitVec.toNat_ofNat];exact Nat.mod_eq_of_lt (by omega)
 show IntKind.i64.wrap (((BitVec.ofInt 64 x |||BitVec.ofInt 64 (b:Int)).toNat:Nat):Int)=x+b
 have hq:a=2 ^ i * (a / 2 ^ i):=by
  have:=Nat.div_add_mod a (2 ^ i);omega
 rw[BitVec.toNat_or,e1,e2,hq,<- Nat.two_pow_add_eq_or_of_lt hb (a / 2 ^ i),<- hq,IntKind.wrap_i64];omega
def ai (x:Int) (s n:Nat):Int:=x / 2 ^ s % 2 ^ n
theorem Ye (n:Nat) (hn:n≤20):(1:Int)≤2 ^ n/\(2:Int) ^ n≤1048576:=by
 have h1:1≤2 ^ n:=Nat.one_le_two_pow;have h2:2 ^ n≤1048576:=Nat.le_trans (Nat.pow_le_pow_right (by decide) hn) (by decide);have e:((2 ^ n:Nat):Int)=(2:Int) ^ n:=Int.natCast_pow 2 n;rw[<- e];exact⟨Int.ofNat_le.2 h1,Int.ofNat_le.2 h2⟩
theorem lg (x:Int) (s n:Nat) (hn:n≤20):0≤ai x s n/\ai x s n<2 ^ n:=by
 have h:=Ye n hn;unfold ai;exact⟨Int.emod_nonneg _ (by omega),Int.emod_lt_of_pos _ (by omega)⟩
theorem afh (x:Int) (hx0:0≤x) (hx1:x<4294967296) (s:Nat):0≤x / 2 ^ s/\x / 2 ^ s<4294967296:=by
 have h1:(0:Int)<2 ^ s:=Int.pow_pos (by decide);exact⟨Int.ediv_nonneg hx0 (by omega),Int.lt_of_le_of_lt (Int.ediv_le_self _ hx0) hx1⟩
theorem Oq (x:Int) (hx0:0≤x) (hx1:x<4294967296) (s n:Nat) (hn:n≤20):wrap64 (bits .and .u32 (x / 2 ^ s) ((2 ^ n - 1) % 4294967296))=ai x s n:=by
 have h:=Ye n hn;have hd:=afh x hx0 hx1 s;have hb:=lg x s n hn;rw[show((2:Int) ^ n - 1) % 4294967296=2 ^ n - 1 by omega,bits_mask .u32 32 (by decide) Oo n (by omega) _ hd.1 (by omega)];exact dq _ (by unfold ai at hb;omega) (by unfold ai at hb;omega)
theorem part_any (x:Int) (hx0:0≤x) (hx1:x<4294967296) (s n:Int) (hs0:0≤s) (hs:s<32) (hn0:1≤n) (hn:n≤20) (w:wD) :
  Calls Tryz.prog 219 #[.int .u32 x,.int .i64 s,.int .i64 n] w λ e w'=>e= .returned (.int .i64 (ai x s.toNat n.toNat))/\Drawn w w':=by
 go_enter Tryz.func219,Tryz.ntmps219
 go_wp2
 go_quiet (fail)
 go_wp2
 go_ret
 exact⟨congrArg (λ z=>Ending.returned (Value.int .i64 z)) (Oq x hx0 hx1 s.toNat n.toNat (by omega)),⟨nq,rfl⟩⟩
def sgn (x:Int):Int:=if x<2147483648 then x else x - 4294967296
theorem dg (x:Int) (hx0:0≤x) (hx1:x<4294967296) (s:Int) (hs0:0≤s) (hs:s<32) (w:wD) :
  Calls Tryz.prog 220 #[.int .u32 x,.int .i64 s] w λ e w'=>e= .returned (.int .i64 (sgn x / 2 ^ s.toNat))/\Drawn w w':=by
 have e:wrap64 (wrap32 x / 2 ^ s.toNat)=sgn x / 2 ^ s.toNat:=by
  have e1:wrap32 x=sgn x:=by unfold wrap32 sgn;split <;> omega
  have h1:(0:Int)<2 ^ s.toNat:=Int.pow_pos (by decide)
  have h2 : -2147483648≤sgn x/\sgn x<2147483648:=by unfold sgn;split <;> omega
  rw[e1]
  have h3 : -2147483648≤sgn x / 2 ^ s.toNat:=by
   rw[Int.le_ediv_iff_mul_le h1];have:(-2147483648:Int) * 2 ^ s.toNat≤ -2147483648 * 1:=Int.mul_le_mul_of_nonpos_left (by omega) (by omega);omega
  have h4:sgn x / 2 ^ s.toNat<2147483648:=by
   rw[Int.ediv_lt_iff_lt_mul h1];have:(2147483648:Int) * 1≤2147483648 * 2 ^ s.toNat:=Int.mul_le_mul_of_nonneg_left (by omega) (by omega);omega
  exact dq _ (by omega) (by omega)
 have HE:=Lib.hid e
 go_enter Tryz.func220,Tryz.ntmps220
 go_wp2
 go_ret
 exact⟨congrArg (λ z=>Ending.returned (Value.int .i64 z)) HE.out,Drawn.refl _⟩
theorem jl (x:Int) (hx0:0≤x) (hx1:x<4294967296) (w:wD):Calls Tryz.prog 218 #[.int .u32 x] w λ e w'=>e= .returned (.int .i64 (ai x 7 5))/\Drawn w w':=by
 go_enter Tryz.func218,Tryz.ntmps218
 go_wp2_with (go_at_call 219;refine(part_any x hx0 hx1 7 5 (by decide) (by decide) (by decide) (by decide) _).mono ?_;rintro e w' ⟨rfl,hw⟩)
 go_ret
 exact⟨rfl,hw⟩
theorem gi (x:Int) (hx0:0≤x) (hx1:x<4294967296) (w:wD):Calls Tryz.prog 221 #[.int .u32 x] w λ e w'=>e= .returned (.int .i64 (ai x 15 5))/\Drawn w w':=by
 go_enter Tryz.func221,Tryz.ntmps221
 go_wp2_with (go_at_call 219;refine(part_any x hx0 hx1 15 5 (by decide) (by decide) (by decide) (by decide) _).mono ?_;rintro e w' ⟨rfl,hw⟩)
 go_ret
 exact⟨rfl,hw⟩
theorem gj (x:Int) (hx0:0≤x) (hx1:x<4294967296) (w:wD):Calls Tryz.prog 222 #[.int .u32 x] w λ e w'=>e= .returned (.int .i64 (ai x 20 5))/\Drawn w w':=by
 go_enter Tryz.func222,Tryz.ntmps222
 go_wp2_with (go_at_call 219;refine(part_any x hx0 hx1 20 5 (by decide) (by decide) (by decide) (by decide) _).mono ?_;rintro e w' ⟨rfl,hw⟩)
 go_ret
 exact⟨rfl,hw⟩
end Go.Proofs.YtmncepdbglaphaaGreatDoor
