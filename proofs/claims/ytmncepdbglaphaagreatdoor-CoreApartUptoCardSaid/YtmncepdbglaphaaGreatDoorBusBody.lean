/- A part of the walk. No condition. -/
import Derived.Test.YtmncepdbglaphaaGreatDoorBusD
import Derived.RangeFuncNested
import Derived.RangeFuncLeaves
import Derived.Shelf.Abstract
import Derived.RangeFuncBound
import Derived.RangeFuncCalls
import Derived.Shelf.RegionOpen
import Derived.WalkKit
import Derived.OwnWalkIn
import Derived.TacticsInMore
import Derived.LoopNIn
import Derived.LoopIn
import Derived.OrdersIn
import Derived.TacticsIn
set_option linter.unusedVariables false
set_option maxRecDepth 100000
namespace Go.Proofs.YtmncepdbglaphaaGreatDoor.cbus
open Go.RowKit Go.XHeap Go.Sx Go.Sep Go.Proofs.Tryz
variable {W w:wD}{b m:Nat}{B:BP}{S S':PB}{L:List Asn}
def Cg (w:wD) (p:OA) (l:LN):Prop:=∀ i x,l[i]?=some x->∃ g off,p=some ⟨g,off,none⟩/\g<w.heap.size/\w.cell? ⟨g,off+i,none⟩=some (.int .u8 (x:Nat))
theorem Es {p:OA}{l:LN}{c:Nat} (h:Cg W p l) (hs:p=none∨∃ g off,p=some ⟨g,off,none⟩) (hl:l.length≤4096) :
  Calls prog 19 #[.slice p l.length c] W λ e w=>∃ z:OA×Nat,e=eZ (.slice z.1 l.length z.2)/\Sep.Post emp W (memA z.1 z.2 l) w:=by
 refine aod p l.length c (aa (λ q=>?_) (λ q=>?_))
 ·have q:p=none:=by simpa using q
  have h0:l=[]:=by
   cases l with
   | nil=>rfl
   | cons x r =>
    obtain⟨g,off,e, -⟩:=h 0 x rfl;rw[q] at e;cases e
  subst h0;exact⟨(none,0),rfl,Sl.nil _ _ _,qH _ _,λ q e=>by cases e⟩
 ·rcases hs with hs | ⟨g0,off0,hs⟩
  ·rw[hs] at q;cases q
  refine(St.nil W).al λ k w2 H=>?_
  have H:=H.conv 0 (A':=sl 5 1 (.slice (some ⟨k,0,none⟩) 0 0) 0 []) rfl (λ hb=>⟨rfl,.inr ⟨k,0,0,#[],rfl,hb,qY _,qQ _,qQ _,rfl⟩⟩) (λ q e=>by
   exact(Option.some.inj e).symm)
  refine H.app 0 (m:=l.length) (bytes:=1) rfl (u8n l) ?_ (by rw[kv,qT]) (Hd l) (by have:maxLen=2 ^ 63 - 1:=rfl;omega) (by omega) λ p' c' w3 H=>⟨(p',c'),by rw[qW],?_⟩
  ·refine .inr ⟨⟨g0,off0,none⟩,hs,λ j u hj=>?_⟩;unfold u8n at hj;rw[qS,Option.map_eq_some_iff] at hj;obtain⟨x,hx,rfl⟩:=hj;obtain⟨g,off,e,hg,hc⟩:=h j x hx;rw[hs] at e;cases e;rw[ac];exact(H.touch.cell (p:=⟨g0,off0+j,none⟩) hg (λ e=>e)).trans hc
  ·have e:memA p' c' l=sl 5 1 (.slice p' (0+l.length) c') (0+l.length) ([]++u8n l):=by unfold memA;rw[qW];rfl
   rw[e];exact H.new 0 rfl
def ShapesAt (w:wD) (p:OA) (l:List (Int×Int)):Prop:=∀ i x,l[i]?=some x->∃ g off,p=some ⟨g,off,none⟩/\g<w.heap.size/\cellsAt w ⟨g,off+i * 2,none⟩ (shapeC x.1 x.2)
def cfgBad (l:List (Int×Int)) (cyc:Int):Prop:=l.length<1∨l.length > 2∨cyc<0∨cyc > 10∨∃ x ∈ l,¬ pt x.1 x.2
structure PB.Fresh (S:PB) (l:List (Int×Int)) (cyc:Int) (mem:LN):Prop where
 n:S.Cs.length=l.length
 cs:∀ (k:Nat) (x:Int×Int),l[k]?=some x->(S.C k).Fresh x.1.toNat x.2.toNat
 mem:S.mem=mem
 cyc:(S.cyc:Int)=cyc
 asks:S.asks=λ _=>none
 last:S.last=l.length - 1
 now:S.now=none
 left:S.left=0
theorem shape_one (x y:Int):∀ v ∈ (shapeC x y).toList,v.oneCell'=true:=by
 intro v hv;simp only[shapeC,qp,qFB,or_false] at hv;rcases hv with rfl | rfl <;> rfl
def BP.root0 (p:OA) (n c:Nat) (cyc:Int) (kb nl:Nat):AV:=#[.slice p n c,.int .i64 cyc,.slice none 0 0,.map (some kb),.int .i64 ((nl:Int) - 1),.int .i64 (-1),.int .i64 0]
theorem bnew_any {p dp:OA}{l:List (Int×Int)}{pc dc:Nat}{cyc:Int}{data:LN} (hS:ShapesAt W p l) (hD:Cg W dp data) (hdp:dp=none∨∃ g off,dp=some ⟨g,off,none⟩) :
  Calls prog 15 #[.slice p l.length pc,.int .i64 cyc,.slice dp data.length dc] W λ e w =>
   (cfgBad l cyc/\e=eY #[.pointer none,errN 2]/\ba W w)∨(¬ cfgBad l cyc/\(data.length % 16≠0∨data.length > 4096)/\e=eY #[.pointer none,errN 1]/\ba W w) ∨
   (¬ cfgBad l cyc/\¬ (data.length % 16≠0∨data.length > 4096)/\∃ (b:Nat) (B:BP) (S:PB),S.Fresh l cyc data/\B.gs.length=S.Cs.length/\e=eY #[pZ b 0,.nilIface]/\Sep.Post emp W (busA b B S) w):=by
 have bad:∀ {w:wD},cfgBad l cyc->ba W w->(cfgBad l cyc/\eY #[.pointer none,errN 2]=eY #[.pointer none,errN 2]/\ba W w)∨(¬ cfgBad l cyc/\(data.length % 16≠0∨data.length > 4096)/\eY #[.pointer none,errN 2]=eY #[.pointer none,errN 1]/\ba W w) ∨
   (¬ cfgBad l cyc/\¬ (data.length % 16≠0∨data.length > 4096)/\∃ (b:Nat) (B:BP) (S:PB),S.Fresh l cyc data/\B.gs.length=S.Cs.length/\eY #[.pointer none,errN 2]=eY #[pZ b 0,.nilIface]/\Sep.Post emp W (busA b B S) w):=λ h1 h2=>.inl ⟨h1,rfl,h2⟩
 refine ant p l.length pc cyc dp data.length dc (aa (λ q=>bad (.inl (by have:=qB q;omega)) (qH _ _)) (λ q1=>aa (λ q=>bad (.inr (.inl (by have:=qB q;omega))) (qH _ _)) (λ q2 =>
  aa (λ q=>bad (.inr (.inr (.inl (qB q)))) (qH _ _)) (λ q3=>aa (λ q=>bad (.inr (.inr (.inr (.inl (qB q))))) (qH _ _)) (λ q4=>?_)))))
 have q1:=qE q1;have q2:=qE q2;have q3:=qE q3;have q4:=qE q4;refine(St.nil W).mkm .i64 λ kb w2 H=>?_;rintro z rfl vs rfl;rw[w64 (by omega) (by omega)];refine H.al λ k2 w3 H=>?_;have H:St W (λ _=>False) w3 [mp .i64 kb λ _=>none,blk k2 (BP.root0 none 0 0 cyc kb l.length) 77]:=H
 refine⟨λ x w=>∃ (j:Nat) (gs:LN) (Cs:List CS) (p2:OA) (c2:Nat),x=j/\j≤l.length/\gs.length=j/\Cs.length=j/\(∀ (k:Nat) (x:Int×Int),k<j->l[k]?=some x->pt x.1 x.2/\(Cs.getD k noCS).Fresh x.1.toNat x.2.toNat) /\
   St W (λ _=>False) w [mp .i64 kb λ _=>none,blk k2 (BP.root0 p2 j c2 cyc kb l.length) 77,sl 78 1 (.slice p2 j c2) j (gs.map λ g=>pZ g 0),all (List.zipWith af gs Cs)],
  λ x _=>l.length - x.toNat,⟨0,[],[],none,0,rfl,qQ _,rfl,rfl,λ k x hk=>by omega,?_⟩,λ _=>?_⟩
 ·have H:=H.add (A:=sl 78 1 (.slice none 0 0) 0 []) ⟨Sl.nil _ _ _,qH _ _,λ q e=>by cases e⟩;exact H.add (A:=all []) ⟨trivial,qH _ _,λ q e=>e.elim⟩
 clear H;rintro x w4 ⟨j,gs,Cs,p2,c2,rfl,hj,hgs,hCs,hfr,H⟩;refine aa (λ q=>?_) (λ q=>?_)
 ·have q:=qB q
  have hjl:j<l.length:=by omega
  obtain⟨x,hx⟩:∃ x,l[j]?=some x:=⟨_,qC hjl⟩;obtain⟨g,off,hp,hg,hc⟩:=hS j x hx
  have hc4:cellsAt w4 ⟨g,off+j * 2,none⟩ (shapeC x.1 x.2):=λ i v hi=>by
   have:=hc i v hi;rw[ac] at this ⊢;exact(H.touch.cell (p:=⟨g,off+j * 2+i,none⟩) hg (λ e=>e)).trans this
  refine⟨⟨by omega,q⟩,adr_eq hp ⟨_,rfl,by rw[qG];exact hc4,H.al λ k5 w5 H=>H.sts0 4 rfl rfl rfl (shape_one _ _) λ w6 H=>⟨_,rfl,H.cells 4 rfl,?_⟩⟩⟩;by_cases hsh:pt x.1 x.2
  rotate_left
  ·refine(Vy w6 x.1 x.2 hsh).mono ?_;rintro e w7 ⟨rfl,hh⟩;exact⟨_,_,rfl,Dx (aa (λ _=>bad (.inr (.inr (.inr (.inr ⟨x,qN hx,hsh⟩)))) (H.quiet hh).touch) (λ q=>by cases q))⟩
  have hsh0:=hsh;obtain⟨s1,s2,s3⟩:=hsh0;obtain⟨S1,hS1⟩:∃ k:Nat,x.1=k:=⟨x.1.toNat,by omega⟩;obtain⟨N1,hN1⟩:∃ k:Nat,x.2=k:=⟨x.2.toNat,by omega⟩;have hcn:=Qg w6 S1 N1 (by rw[<- hS1,<- hN1];exact hsh);rw[<- hS1,<- hN1] at hcn;refine H.calln hcn λ y w7 H=>⟨_,_,rfl,jk (aa (λ q=>by cases q) (λ _=>?_))⟩;obtain⟨⟨bc,C0⟩,hfr0⟩:=y;refine⟨_,_,_,H.ld 1 rfl rfl,H.al λ k9 w8 H=>?_⟩;refine H.app 2 (m:=1) (bytes:=8) rfl [pZ bc 0] (.inr ⟨_,rfl,λ i u hi=>H.cells 6 rfl i u (by simpa using hi)⟩) rfl (by intro u hu;simp at hu;subst hu;rfl) (by have:maxLen=2 ^ 63 - 1:=rfl;omega) (by omega) λ p3 c3 w9 H=>H.st 1 rfl (by show 0<7;decide) λ w10 H=>?_;rintro z2 rfl;rw[w64 (by omega) (by omega)];refine⟨⟨j+1,gs++[bc],Cs++[C0],p3,c3,by omega,by omega,by simp [hgs],by simp [hCs],λ k x2 hk hx2=>?_,?_⟩,by show l.length - ((j:Int)+1).toNat<l.length - (j:Int).toNat;omega⟩
  ·by_cases e:k=j
   ·subst e;rw[hx] at hx2;cases hx2;refine⟨hsh,?_⟩;rw[qF,qf (by omega),hCs,Nat.sub_self];show C0.Fresh _ _;rw[hS1,hN1,qG,qG];exact hfr0
   ·have:=hfr k x2 (by omega) hx2;rw[qF,qk (by omega),<- qF];exact this
  ·have H:=(H.pick [3,5,0,1,2]).push;have H:=H.pick [1,2,3,0]
   have e1:List.zipWith af gs Cs++[af bc C0]=List.zipWith af (gs++[bc]) (Cs++[C0]):=by rw[List.zipWith_append (by omega)];rfl
   have e2:(gs.map λ g=>pZ g 0)++[pZ bc 0]=(gs++[bc]).map λ g=>pZ g 0:=by simp
   rw[e1,e2] at H;exact H
 ·have q:=qE q;obtain rfl:j=l.length:=by omega
  have hgood:¬ cfgBad l cyc:=by
   rintro(h | h | h | h | ⟨x,hx,h⟩)
   ·omega
   ·omega
   ·omega
   ·omega
   ·obtain⟨k,hk,e⟩:=qGC hx;exact h (hfr k x hk (by rw[qC hk,e])).1
  have bad1:∀ {w:wD},(data.length % 16≠0∨data.length > 4096)->ba W w->(cfgBad l cyc/\eY #[.pointer none,errN 1]=eY #[.pointer none,errN 2]/\ba W w)∨(¬ cfgBad l cyc/\(data.length % 16≠0∨data.length > 4096)/\eY #[.pointer none,errN 1]=eY #[.pointer none,errN 1]/\ba W w) ∨
   (¬ cfgBad l cyc/\¬ (data.length % 16≠0∨data.length > 4096)/\∃ (b:Nat) (B:BP) (S:PB),S.Fresh l cyc data/\B.gs.length=S.Cs.length/\eY #[.pointer none,errN 1]=eY #[pZ b 0,.nilIface]/\Sep.Post emp W (busA b B S) w):=λ h1 h2=>.inr (.inl ⟨hgood,h1,rfl,h2⟩)
  refine⟨by decide,?_⟩;rintro z3 rfl;have em:Int.tmod (data.length:Int) 16=((data.length % 16:Nat):Int):=rfl;refine aa (λ q5=>bad1 (.inl ?_) H.touch) (λ q5=>aa (λ q6=>bad1 (.inr (by have:=qB q6;omega)) H.touch) (λ q6=>?_))
  ·rw[em] at q5;intro e;rw[e] at q5;cases q5
  ·rw[em] at q5
   have q5:data.length % 16=0:=by
    have:((data.length % 16:Nat):Int)=0:=by simpa using q5
    omega
   have q6:=qE q6
   have hD4:Cg w4 dp data:=λ i x hx=>by
    obtain⟨g,off,e,hg,hc⟩:=hD i x hx;exact⟨g,off,e,qaB hg H.size,(H.touch.cell (p:=⟨g,off+i,none⟩) hg (λ e=>e)).trans hc⟩
   refine H.calln (Es hD4 hdp (by omega)) λ z w11 H=>⟨_,_,_,rfl,H.st 1 rfl (by show 2<7;decide) λ w12 H=>.inr (.inr ⟨hgood,by omega,k2,⟨p2,c2,gs,z.1,z.2,kb⟩,⟨Cs,data,cyc.toNat,λ _=>none,l.length - 1,none,0⟩,⟨hCs,λ k x hx=>?_,rfl,by show((cyc.toNat:Nat):Int)=cyc;omega,rfl,rfl,rfl,rfl⟩,by show gs.length=Cs.length;omega,rfl,?_⟩)⟩
   ·exact(hfr k x (qD.1 hx).1 hx).2
   ·have H:=H.pick [1,2,3,0,4]
    have er:BP.root ⟨p2,c2,gs,z.1,z.2,kb⟩ ⟨Cs,data,cyc.toNat,λ _=>none,l.length - 1,none,0⟩=#[.slice p2 l.length c2,.int .i64 cyc,.slice z.1 data.length z.2,.map (some kb),.int .i64 ((l.length:Int) - 1),.int .i64 (-1),.int .i64 0]:=by
     unfold BP.root PB.len ach;dsimp only;rw[hCs,show((cyc.toNat:Nat):Int)=cyc by omega,show((l.length - 1:Nat):Int)=(l.length:Int) - 1 by omega];rfl
    have ea:Ca (λ _=>none)=λ _=>none:=by funext z;unfold Ca Wa;split <;> rfl
    have e:busA k2 ⟨p2,c2,gs,z.1,z.2,kb⟩ ⟨Cs,data,cyc.toNat,λ _=>none,l.length - 1,none,0⟩=all [blk k2 #[.slice p2 l.length c2,.int .i64 cyc,.slice z.1 data.length z.2,.map (some kb),.int .i64 ((l.length:Int) - 1),.int .i64 (-1),.int .i64 0] 77,sl 78 1 (.slice p2 l.length c2) l.length (gs.map λ g=>pZ g 0),all (List.zipWith af gs Cs),mp .i64 kb λ _=>none,memA z.1 z.2 data]:=by
     unfold busA BP.pieces;rw[er];dsimp only;rw[ea,hCs];rfl
    rw[e];exact H.shut.new 0 rfl
end Go.Proofs.YtmncepdbglaphaaGreatDoor.cbus
namespace Go.RangeC
open Go.RowKit Go.XHeap Go.Shelf
variable {P:Program}{n:Nat}
def Gives (n:Nat) (P:Program) (gf:Nat) (lb:AV) (N:Nat) (enc:Nat->Value) (Inv:wD->Prop):Prop :=
 ∀ (l:Nat) (J:Nat->wD->Prop) (Jx:wD->Prop) (W:wD),
  (∀ k A B,J k A->XTouch (λ _=>False) A B->J k B)->(∀ A B,Jx A->XTouch (λ _=>False) A B->Jx B)->(∀ k A,J k A->Inv A) ->
  (∀ k A,k<N->J k A->YieldAt Fence.wide n P l #[enc k] A λ e B=>(e= .returned (.bool true)/\J (k+1) B)∨(e= .returned (.bool false)/\Jx B)) ->
  J 0 W->Calls P gf (#[.func (.yield l) #[] #[]]++lb) W λ e B=>(∃ v,e= .returned v)/\(J N B∨Jx B)
def Two (w W W':wD):Prop:=∀ q,q=w.heap.size∨q=w.heap.size+1->W'.heap[q]?=W.heap[q]?
def Rec (w:wD):Nat->Prop:=λ q=>q=w.heap.size∨q=w.heap.size+1
def roundEnd (w:wD) (I:Nat->wD->Prop) (Ix:Code->wD->Prop) (k:Nat) (W:wD):Exit->Act->wD->Prop
 | .normal,_,W'=>Two w W W'/\I (k+1) W'
 | .ret,_,W'=>Two w W W'/\Ix .ret W'
 | .exit id,_,W'=>Two w W W'/\Ix (.exit id) W'
 | .goto t,_,W'=>Two w W W'/\Ix (.goto t) W'
 | .panic _,_,_=>False
 | .outgrown,_,_=>False
theorem touch_putObj (W:wD) (l:Nat) (o:Obj):XTouch (λ q=>q=l) W (W.putObj l o) :=
 ⟨rfl,rfl,rfl,by simp [World.putObj],λ q _ hn=>World.putObj_heap_other (λ e=>hn (by rw[e]))⟩
theorem range_m {g:Operand}{p:Tmp}{assign body:Code}{Q:Exit->Act->wD->Prop}{a:Act}{w:wD}{gf:Nat}{lb:AV}{N:Nat}{enc:Nat->Value}{Inv:wD->Prop}
  (hg:a.eval g= .func (.func gf) #[] lb) (eg:∀ args w,(callFunc gf args).run P w= .ok (.enter gf args) w) (hgive:Gives n P gf lb N enc Inv)
  (I:Nat->wD->Prop) (Ix:Code->wD->Prop) (Asg:Nat->Act->wD->Prop) (hI:∀ k A B,I k A->XTouch (Rec w) A B->I k B) (hIx:∀ c A B,Ix c A->XTouch (Rec w) A B->Ix c B) (hAsg:∀ k a A B,Asg k a A->XTouch (Rec w) A B->Asg k a B) (hInv:∀ k A,I k A->Inv A) (h0:I 0 w)
  (hassign:∀ (l k:Nat) (W:wD) (K:Act->wD->Prop),k<N->I k W->w.heap.size+2≤W.heap.size->(∀ a' W',Asg k a' W'->Two w W W'->W.heap.size≤W'.heap.size->K a' W')->assign.wpIn (Fence.wide.inRound l) n P (Exit.then K (λ _ _ _=>False)) { tmps:=a.tmps.setIfInBounds p (enc k),defers:=[] } W)
  (hbody:∀ (l k:Nat) (a':Act) (W:wD),k<N->Asg k a' W->w.heap.size+2≤W.heap.size->body.wpIn (Fence.wide.inRound l) n P (roundEnd w I Ix k W) a' W)
  (hdone:∀ W:wD,I N W->W.heap[w.heap.size]?=some (.deferred (some []))->Q .normal { a with defers:={ target:=.collected w.heap.size,args:=#[] }::a.defers } W)
  (hstop:∀ (c:Code) (W:wD),Ix c W->W.heap[w.heap.size]?=some (.deferred (some []))->c.wpIn Fence.wide n P Q { a with defers:={ target:=.collected w.heap.size,args:=#[] }::a.defers } W) :
  (Code.rangeFunc g #[p] assign body).wpIn Fence.wide n P Q a w:=by
 refine wpIn_rangeFunc λ fn hfn=>?_;obtain⟨rc,hrc⟩:∃ rc:LoopState->Option Code->Loop,rc=λ st pe=>{ state:=st,pending:=pe,fn,tmps:=a.tmps,params:=#[p],assign,body,defers:=w.heap.size }:=⟨_,rfl⟩;obtain⟨W1,hW1⟩:∃ W1,(w.alloc (.deferred (some []))).alloc (.loop (rc .ready none))=W1:=⟨_,rfl⟩
 have hsz:(w.alloc (.deferred (some []))).heap.size=w.heap.size+1:=by simp
 have hl1:W1.heap[w.heap.size+1]?=some (.loop (rc .ready none)):=by
  rw[<- hW1,<- hsz];exact World.alloc_heap_new _ _
 have hd1:W1.heap[w.heap.size]?=some (.deferred (some [])):=by
  rw[<- hW1];exact(Below.heap_alloc _ _ _ (by simp)).trans (World.alloc_heap_new w _)
 have ht1:XTouch (Rec w) w W1:=by
  rw[<- hW1];exact((XTouch.refl (Rec w) w).alloc _).alloc _
 refine⟨w.heap.size+1,[{ target:=.collected w.heap.size,args:=#[] }],W1,{ target:=.fn (.func gf) lb,args:=#[.func (.yield (w.heap.size+1)) #[] #[]] },W1,gf,#[.func (.yield (w.heap.size+1)) #[] #[]]++lb,W1,?_,?_,?_,?_,?_,?_⟩
 ·rw[<- hW1,hrc];exact run_enterLoop_outer _ _ _ _ _
 ·simp only[resolve,hg];simp [go_sem]
 ·intro f' hf';trivial
 ·simp [invoke,go_sem,eg]
 ·intro h;cases h
 have rcb:∀ st pe,({ rc .ready none with state:=st,pending:=pe }:Loop)=rc st pe:=by intro st pe;rw[hrc]
 refine callsIn_wide.2 ((hgive (w.heap.size+1)
   (λ k W=>I k W/\W.heap[w.heap.size+1]?=some (.loop (rc .ready none))/\W.heap[w.heap.size]?=some (.deferred (some [])))
   (λ W=>∃ c,Ix c W/\W.heap[w.heap.size+1]?=some (.loop (rc .done (some c)))/\W.heap[w.heap.size]?=some (.deferred (some [])))
   W1 ?_ ?_ (λ k A h=>hInv k A h.1) ?_ ⟨hI 0 w W1 h0 ht1,hl1,hd1⟩).mono ?_)
 ·rintro k A B ⟨hi,hl,hd⟩ ht;have hlt:∀ {q o},A.heap[q]?=some o->q<A.heap.size:=λ h=>(Array.getElem?_eq_some_iff.1 h).1;exact⟨hI k A B hi (ht.mono λ _ _ e=>e.elim),(ht.block _ (hlt hl) id).trans hl,(ht.block _ (hlt hd) id).trans hd⟩
 ·rintro A B ⟨c,hi,hl,hd⟩ ht;have hlt:∀ {q o},A.heap[q]?=some o->q<A.heap.size:=λ h=>(Array.getElem?_eq_some_iff.1 h).1;exact⟨c,hIx c A B hi (ht.mono λ _ _ e=>e.elim),(ht.block _ (hlt hl) id).trans hl,(ht.block _ (hlt hd) id).trans hd⟩
 ·
  rintro k W hk ⟨hi,hl,hd⟩;have hlt:w.heap.size+1<W.heap.size:=(Array.getElem?_eq_some_iff.1 hl).1
  have hy:(Instr.yield (w.heap.size+1) #[enc k]).run P W= .ok (.round (w.heap.size+1) fn (a.tmps.setIfInBounds p (enc k)) assign body) W:=by
   have hy:=run_yield (P:=P) (args:=#[enc k]) hl (by rw[hrc];rfl);rw[hrc] at hy;simpa using hy
  refine⟨fn,_,assign,body,hy,roundIn_of_wpIn hfn ?_⟩;refine hassign (w.heap.size+1) k W _ hk hi (by omega) ?_;intro a' W' hasg htwo hgr;have hl':=(htwo _ (.inr rfl)).trans hl;have hd':=(htwo _ (.inl rfl)).trans hd;have hlt':w.heap.size+1<W'.heap.size:=(Array.getElem?_eq_some_iff.1 hl').1;have hl2:(W'.putObj (w.heap.size+1) (.loop (rc .busy none))).heap[w.heap.size+1]?=some (.loop (rc .busy none)):=World.putObj_heap_same hlt';have hd2:(W'.putObj (w.heap.size+1) (.loop (rc .busy none))).heap[w.heap.size]?=some (.deferred (some [])):=(World.putObj_heap_other (by omega)).trans hd'
  have hbr:(Instr.beginRound (w.heap.size+1)).run P W'= .ok () (W'.putObj (w.heap.size+1) (.loop (rc .busy none))):=by
   have:=run_beginRound (P:=P) hl' (by rw[hrc]);rw[hrc] at this ⊢;exact this
  have hi2:Asg k a' (W'.putObj (w.heap.size+1) (.loop (rc .busy none))):=hAsg k a' _ _ hasg ((touch_putObj W' _ _).mono λ q _ e=>.inr e);refine⟨_,hbr,?_⟩;refine wpIn_mono (hbody _ k a' _ hk hi2 (by simp [World.putObj];omega)) ?_
  have fin:∀ (jump:Option Code) (W3:wD),Two w (W'.putObj (w.heap.size+1) (.loop (rc .busy none))) W3 ->
    (Instr.endRound (w.heap.size+1) jump).run P W3= .ok (.bool jump.isNone) (W3.putObj (w.heap.size+1) (.loop (rc (if jump.isNone then .ready else .done) jump))) /\
    XTouch (Rec w) W3 (W3.putObj (w.heap.size+1) (.loop (rc (if jump.isNone then .ready else .done) jump))) /\
    (W3.putObj (w.heap.size+1) (.loop (rc (if jump.isNone then .ready else .done) jump))).heap[w.heap.size+1]?=some (.loop (rc (if jump.isNone then .ready else .done) jump)) /\
    (W3.putObj (w.heap.size+1) (.loop (rc (if jump.isNone then .ready else .done) jump))).heap[w.heap.size]?=some (.deferred (some [])):=λ jump W3 h3=>by
   have hl3:=(h3 _ (.inr rfl)).trans hl2;have hd3:=(h3 _ (.inl rfl)).trans hd2;have hr:=run_endRound (P:=P) jump hl3;rw[hrc] at hr ⊢;exact⟨hr,(touch_putObj W3 _ _).mono λ q _ e=>.inr e,World.putObj_heap_same (Array.getElem?_eq_some_iff.1 hl3).1,(World.putObj_heap_other (by omega)).trans hd3⟩
  rintro e a3 W3 hp
  cases e with
  | normal =>
   obtain⟨h1,h2,h3,h4⟩:=fin none W3 hp.1;exact⟨_,_,h1,.inl ⟨rfl,hI _ _ _ hp.2 h2,h3,h4⟩⟩
  | ret =>
   obtain⟨h1,h2,h3,h4⟩:=fin (some .ret) W3 hp.1;exact⟨_,_,h1,.inr ⟨rfl,.ret,hIx _ _ _ hp.2 h2,h3,h4⟩⟩
  | exit id =>
   obtain⟨h1,h2,h3,h4⟩:=fin (some (.exit id)) W3 hp.1;exact⟨_,_,h1,.inr ⟨rfl,.exit id,hIx _ _ _ hp.2 h2,h3,h4⟩⟩
  | goto t =>
   obtain⟨h1,h2,h3,h4⟩:=fin (some (.goto t)) W3 hp.1;exact⟨_,_,h1,.inr ⟨rfl,.goto t,hIx _ _ _ hp.2 h2,h3,h4⟩⟩
  | panic ch=>exact hp.elim
  | outgrown=>exact hp.elim
 ·
  rintro e W2 ⟨⟨v,rfl⟩,(⟨hi,hl,hd⟩ | ⟨c,hi,hl,hd⟩)⟩
  ·have hr:=run_endLoop (P:=P) hl (by rw[hrc];simp);refine⟨none,W2.putObj (w.heap.size+1) (.loop (rc .exhausted none)),by rw[hrc] at hr ⊢;exact hr,hdone _ (hI _ _ _ hi ((touch_putObj W2 _ _).mono λ q _ e=>.inr e)) ((World.putObj_heap_other (by omega)).trans hd)⟩
  ·have hr:=run_endLoop (P:=P) hl (by rw[hrc];simp);refine⟨some c,W2.putObj (w.heap.size+1) (.loop (rc .exhausted (some c))),by rw[hrc] at hr ⊢;exact hr,hstop c _ (hIx _ _ _ hi ((touch_putObj W2 _ _).mono λ q _ e=>.inr e)) ((World.putObj_heap_other (by omega)).trans hd)⟩
end Go.RangeC
namespace Go.Proofs.YtmncepdbglaphaaGreatDoor.cbus
open Go.RowKit Go.XHeap Go.Sx Go.Sep Go.RangeC Go.Shelf
attribute [local go_sem] Oper.semAt_some
variable {W w:wD}{b m:Nat}{B:BP}{S S':PB}{L:List Asn}
def CS.ways (C:CS):List Way:=C.sets.flatten.filter Way.valid
def CS.upto (C:CS) (i j:Nat):List Way:=(C.sets.take i).flatten++(C.set_ i).take j
def CS.cnt (C:CS) (i j:Nat):Nat:=((C.upto i j).filter Way.valid).length
theorem Qo {α:Type}{p:α->Bool}{l1 l2:List α}{y:α} (h:p y=true):((l1++y::l2).filter p)[(l1.filter p).length]?=some y:=by
 rw[qBB,qj,if_pos h,qf (qY _),Nat.sub_self];rfl
theorem Me {C:CS} (ho:C.Ok){i j:Nat}{y:Way} (hi:i<C.S) (hj:(C.set_ i)[j]?=some y):C.sets.flatten=C.upto i j++y::((C.set_ i).drop (j+1)++(C.sets.drop (i+1)).flatten):=by
 have h1:=CS.set_at ho hi;obtain⟨hil,h1⟩:=qD.1 h1;obtain⟨hjl,h2⟩:=qD.1 hj
 have e1:C.sets=C.sets.take i++C.set_ i::C.sets.drop (i+1):=by
  conv=>lhs;rw[<- qzB i C.sets,qYB hil,h1]
 have e2:C.set_ i=(C.set_ i).take j++y::(C.set_ i).drop (j+1):=by
  conv=>lhs;rw[<- qzB j (C.set_ i),qYB hjl,h2]
 conv=>lhs;rw[e1,List.flatten_append,List.flatten_cons]
 conv=>lhs;rw[e2]
 unfold CS.upto;simp
theorem agm {C:CS} (ho:C.Ok){i j:Nat}{y:Way} (hi:i<C.S) (hj:(C.set_ i)[j]?=some y) (hv:y.valid=true):C.ways[C.cnt i j]?=some y:=by
 unfold CS.ways CS.cnt;rw[Me ho hi hj];exact Qo hv
theorem Wc {C:CS}{i j:Nat}{y:Way} (hj:(C.set_ i)[j]?=some y):C.cnt i (j+1)=if y.valid=true then C.cnt i j+1 else C.cnt i j:=by
 unfold CS.cnt CS.upto;rw[qfB,hj];simp only[Option.toList_some,qBB,qP];by_cases h:y.valid=true
 ·rw[if_pos h,qj,if_pos h];simp;omega
 ·rw[if_neg h,qj,if_neg h];simp
theorem Wd {C:CS}:C.cnt 0 0=0:=by simp [CS.cnt,CS.upto]
theorem acm {C:CS} (ho:C.Ok){i:Nat} (hi:i<C.S):C.cnt (i+1) 0=C.cnt i C.N:=by
 have h1:=CS.set_at ho hi;have hN:(C.set_ i).length=C.N:=ho.len _ (CS.set_mem ho hi);unfold CS.cnt CS.upto;rw[qfB,h1,qGB (l:=C.set_ i) (by omega)];simp
theorem acn {C:CS} (ho:C.Ok):C.cnt C.S 0=C.ways.length:=by
 unfold CS.cnt CS.upto CS.ways;rw[qGB (by rw[ho.sl];exact qY _),List.take_zero,qqB]
def Jj (kc bc:Nat) (C:CS) (A:wD):Prop:=Blk A kc #[pZ bc 0] 78/\(af bc C).at_ A
def CS.encLine (C:CS) (k:Nat):Value:=.agg (C.ways.getD k zeroWay).lineC.toArray
theorem hush_drewN (W:wD) (m:Nat):XTouch (λ _=>False) W (W.drewN m):=(qH _ W).drewN m
set_option maxHeartbeats 4000000 in
theorem Hh {C:CS} (ho:C.Ok) (n kc bc:Nat):Gives n Tryz.prog 76 #[pZ kc 0] C.ways.length C.encLine (Jj kc bc C):=by
 intro l J Jx W hJ hJx hInv hY h0;have hS:=ho.pos;have hn0:=ho.n0;have hn1:=ho.n1;have hiv:=hInv 0 W h0;have c1:W.cell? ⟨kc,0,none⟩=some (pZ bc 0):=hiv.1.cell' rfl;have c2:W.cell? ⟨bc,0,none⟩=some (.slice (some ⟨C.bs,C.bo,none⟩) C.S C.cap):=(Ae hiv.2).ld 0 rfl rfl;refine(callsIn_wide (n:=n+1)).1 ?_;refine callsIn_of_wp Tryz.func76 rfl trivial ?_ rfl;simp only[Tryz.ntmps76,qnB,qy,List.length_nil,Nat.reduceAdd,Nat.reduceSub,Array.replicate_succ,Array.replicate_zero,List.push_toArray,List.append_toArray,qr,qAC]
 gi_wp2
 gi_loopw [11] (λ p wr=>∃ i:Nat,p= .int .i64 i/\i≤C.S/\J (C.cnt i 0) wr) (λ p wr=>match p with | .int _ x=>C.S - x.toNat | _=>0)
 case atStart=>exact⟨0,rfl,qQ _,by rw[Wd];exact h0⟩
 case round =>
  obtain⟨i,rfl,hi,hj⟩:=hrel;by_cases hlt:i<C.S
  ·have hd:decide ((i:Int)<(C.S:Int))=true:=qI (by omega);have hiv:=hInv _ _ hj;have cr:=Jb ho ((show here (C.pieces bc) wr from hiv.2).nth 1 rfl) hlt;have hN:(C.set_ i).length=C.N:=ho.len _ (CS.set_mem ho hlt)
   gi_wp2
   gi_loopw [17] (λ p wr=>∃ j:Nat,p= .int .i64 j/\j≤C.N/\J (C.cnt i j) wr) (λ p wr=>match p with | .int _ x=>C.N - x.toNat | _=>0)
   case atStart=>exact⟨0,rfl,qQ _,hj⟩
   case round =>
    clear hj hiv cr;obtain⟨j,rfl,hjn,hj⟩:=hrel;by_cases hlj:j<C.N
    ·have hd2:decide ((j:Int)<(C.N:Int))=true:=qI (by omega);have hiv:=hInv _ _ hj;obtain⟨y,hy⟩:∃ y,(C.set_ i)[j]?=some y:=⟨_,qC (by omega)⟩;have hset:=(show here (C.pieces bc) _ from hiv.2).nth 2 rfl;have cst:=dx ho hset hlt hy (q:=1) (by omega) (v:=.int .i64 y.state) rfl;have hyo:=ho.way _ (CS.set_mem ho hlt) y (qN hy);have hstep:=Wc (i:=i) hy;cases hv:(((y.state:Nat):Int) !=0)
     ·have hnv:¬ y.valid=true:=by
       have:((y.state:Nat):Int)=0:=by simpa using hv
       unfold Way.valid;simp;omega
      rw[if_neg hnv] at hstep
      have hno:∀ f:FuncId,none=some f->Fence.wide.fn f:=λ f h=>by cases h
      have hw1:IntKind.wrap .i64 ((j:Int)+1)=((j+1:Nat):Int):=by rw[w64 (by omega) (by omega)];omega
      gi_wp2_with (refine⟨trivial,?_⟩)
      refine⟨hno,?_⟩
      gi_wp2
      refine⟨⟨j+1,by simp,hlj,by rw[hstep];exact hj⟩,?_⟩;show C.N - ((j:Int)+1).toNat<C.N - (j:Int).toNat;omega
     ·have hval:y.valid=true:=by
       have:¬ ((y.state:Nat):Int)=0:=by simpa using hv
       unfold Way.valid;simp;omega
      rw[if_pos hval] at hstep;have hat:=agm ho hlt hy hval;have hlw:C.cnt i j<C.ways.length:=(qD.1 hat).1
      have henc:C.encLine (C.cnt i j)= .agg y.lineC.toArray:=by
       unfold CS.encLine;rw[qF,hat];rfl
      gi_wp2_with (refine⟨trivial,?_⟩;gi_at_call 77;refine(callsIn_wide.2 (Pw ho hiv.2 hlt hy)).mono ?_;rintro e w2 ⟨rfl,hh⟩;obtain⟨fn,tmps,assign,body,hyy,hR⟩:=hY (C.cnt i j) w2 hlw (hJ _ _ _ hj hh);rw[henc] at hyy)
      refine hR.mono ?_;rintro e W3 (⟨rfl,hJ3⟩ | ⟨rfl,hJx3⟩)
      ·have hw1:IntKind.wrap .i64 ((j:Int)+1)=((j+1:Nat):Int):=by rw[w64 (by omega) (by omega)];omega
       gi_wp2
       refine⟨⟨j+1,by simp,hlj,by rw[hstep];exact hJ3⟩,?_⟩;show C.N - ((j:Int)+1).toNat<C.N - (j:Int).toNat;omega
      ·gi_wp2
       refine bodyPost_ret (results_none rfl _ _ _) rfl ?_;exact⟨⟨_,rfl⟩,.inr hJx3⟩
    ·have hd2:decide ((j:Int)<(C.N:Int))=false:=qM (by omega)
     have hw1:IntKind.wrap .i64 ((i:Int)+1)=((i+1:Nat):Int):=by rw[w64 (by omega) (by omega)];omega
     gi_wp2
     obtain rfl:j=C.N:=by omega
     rw[<- acm ho hlt] at hj;refine⟨⟨i+1,by simp,hlt,hj⟩,?_⟩;show C.S - ((i:Int)+1).toNat<C.S - (i:Int).toNat;omega
  ·have hd:decide ((i:Int)<(C.S:Int))=false:=qM (by omega)
   gi_wp2
   go_end0
   obtain rfl:i=C.S:=by omega
   rw[acn ho] at hj;exact⟨⟨_,rfl⟩,.inl hj⟩
end Go.Proofs.YtmncepdbglaphaaGreatDoor.cbus
namespace Go.Sx
open Go.RowKit
variable {P:Program}{l n:Nat}{Q:Exit->Act->wD->Prop}
def mz (o:Oper):Bool:=match o.op with | .defer _=>true | _=>false
theorem Qp {o:Oper} (h:mz o=false):∀ c,o.op≠ .defer c:=by
 intro c e;unfold mz at h;rw[e] at h;cases h
theorem Jk {o:Oper}{a:Act}{w:wD}{K K':Act->wD->Prop} (hd:mz o=false) (hK:∀ a w,K a w->K' a w) (h:o.wp P a w K Q):o.wpIn (Fence.wide.inRound l) n P a w K' Q:=by
 unfold Oper.wpIn;refine⟨λ _ _=>trivial,?_⟩;rw[Oper.semAt_plain _ _ _ (Qp hd)];unfold Oper.wp at h;generalize (execOp a.eval o).run P w=r at h;unfold Oper.upon at h;split at h
 ·exact hK _ _ h
 ·exact hK _ _ h
 ·exact hK _ _ h
 ·refine⟨λ e=>(nomatch e),CallsIn.inRound l (callsIn_wide.2 (h.mono ?_))⟩;intro e w' he
  cases e with
  | returned v=>exact hK _ _ he
  | panicked c=>exact he
  | outgrown=>exact he
 ·refine⟨λ e=>(nomatch e),λ c cs hr=>?_⟩;obtain⟨v,w',r,s⟩:=h c cs;exact⟨v,w',hK _ _ r,stepsIn_wide.2 s⟩
 ·exact h
 ·exact h.elim
theorem ul {ops:Array Oper} (hL:¬ LetsOut Q):∀ (rest:List Oper) (a:Act) (w:wD),(∀ o ∈ rest,mz o=false)->wpList P ops Q rest a w->wpListIn (Fence.wide.inRound l) n P ops Q rest a w
 | [],_,_,_,h=>h
 | o::rest,a,w,hd,h=>by
  unfold wpList at h;unfold wpListIn;split at h
  ·rename_i hw;rw[if_pos hw];rcases h with h | ⟨-,h⟩
   ·exact Jk (hd o (by simp)) (λ a w=>ul hL rest a w λ o ho=>hd o (by simp [ho])) h
   ·exact absurd h hL
  ·rename_i hw;rw[if_neg hw];exact⟨λ _ _=>trivial,ul hL rest _ w (λ o ho=>hd o (by simp [ho])) h⟩
theorem na {md:Region.Mode}{ops:Array Oper} (hL:¬ LetsOut Q) (hd:∀ o ∈ ops,mz o=false):∀ (fuel:Nat) (listed:Array Bool) (a:Act) (w:wD),wpAny P md ops Q fuel listed a w->wpAnyIn (Fence.wide.inRound l) n P md ops Q fuel listed a w
 | 0,_,_,_,h=>h
 | fuel+1,listed,a,w,h=>by
  refine⟨h.1,λ i hi=>?_⟩;have h2:=h.2 i hi;unfold wpOp at h2;unfold wpOpIn
  cases ho:ops[i]? with
  | none=>rw[ho] at h2;exact na hL hd fuel _ a w h2
  | some o =>
   rw[ho] at h2;simp only at h2 ⊢;split at h2
   ·rename_i hw;rw[if_pos hw];rcases h2 with h2 | ⟨-,h2⟩
    ·exact Jk (hd o (Array.mem_of_getElem? ho)) (λ a w=>na hL hd fuel _ a w) h2
    ·exact absurd h2 hL
   ·rename_i hw;rw[if_neg hw];exact⟨λ _ _=>trivial,na hL hd fuel _ _ w h2⟩
def cx:Code->An->Bool
 | .region _ ops d,an=>ops.all (λ o=> !mz o)&&(!d||an.mode==0||Nat.blt 1000 an.mode)
 | .seq a b,an=>cx a an.x&&cx b an.y
 | .cond _ a b,an=>cx a an.x&&cx b an.y
 | .block _ c,an=>cx c an.x
 | .loop c,an=>cx c an.x
 | .scope _,_=>false
 | _,_=>true
theorem lj {x y:Code}{an:An} (h:cx (.seq x y) an=true):cx x an.x=true/\cx y an.y=true:=by
 unfold cx at h;simpa using h
theorem vg {c:Operand}{x y:Code}{an:An} (h:cx (.cond c x y) an=true):cx x an.x=true/\cx y an.y=true:=by
 unfold cx at h;simpa using h
theorem Hi {id:Nat}{ops:Array Oper}{d:Bool}{an:An} (h:cx (.region id ops d) an=true):∀ o ∈ ops,mz o=false:=by
 unfold cx at h;rw[qU] at h;intro o ho;have:=Array.all_eq_true_iff_forall_mem.1 h.1 o ho;simpa using this
theorem Et {id:Nat}{ops:Array Oper}{an:An} (h:cx (.region id ops true) an=true):an.mode=0∨1000<an.mode:=by
 unfold cx at h;rw[qU] at h;have:=h.2;simp [Nat.blt_eq] at this;omega
theorem vc_round {n l m0:Nat}{P:Program} (c:Code):∀ (an:An) (F:Fr) (w:wD) (K:Ex->Fr->wD->Prop) (a:Act),vc n P c an F w K->Is n F a->cx c an=true->c.wpIn (Fence.wide.inRound l) m0 P (Post n c K a) a w:=by
 induction c with
 | skip=>intro an F w K a h hI hok;exact wpIn_skip ⟨⟨F,hI,h⟩,λ _ _=>rfl⟩
 | ret=>intro an F w K a h hI hok;exact wpIn_ret ⟨⟨F,hI,h⟩,λ _ _=>rfl⟩
 | exit id=>intro an F w K a h hI hok;exact wpIn_exit ⟨⟨F,hI,h⟩,λ _ _=>rfl⟩
 | scope c ih=>intro an F w K a h hI hok;cases hok
 | region id ops d =>
  intro an F w K a h hI hok;have hL:∀ d,¬ LetsOut (Post n (.region id ops d) K a):=λ d ⟨_,_,h⟩=>h;have hdf:∀ o ∈ ops,mz o=false:=Hi hok
  cases d with
  | false =>
   refine wpIn_region_list (ul (hL _) _ _ _ (λ o ho=>hdf o (by simpa using ho)) ?_);have:=xd (n:=n) (P:=P) (ops:=ops.toList) (Q:=Post n (.region id ops false) K a) (jy (.region id ops false)) ops.toList F a w (K .normal) ji h hI
    (λ F' a' w' h1 h2 h3=>⟨⟨F',h1,h2⟩,h3⟩)
   simpa using this
  | true =>
   have hmode:=Et hok;unfold vc at h;split at h
   ·obtain⟨hb,h⟩:=aj h;rw[qU] at hb;have hq:=zp (n:=n) (P:=P) (ops:=ops.toList) (w:=w) (λ a'=>∀ w',(∃ m,w'=w.drewN m)->Post n (.region id ops true) K a .normal a' w') (jy (.region id ops true)) ops.toList F a _ ji h hI
     (λ F' a' h1 h2 h3 w' ⟨m,hm⟩=>⟨⟨F',h1,h2 w' m hm⟩,h3⟩)
    have hl:=hb.2;simp only[Region.lexB,qU] at hl;refine wpIn_region_any hb.1 (na (hL _) hdf _ _ _ _ (wpAny_of_quiet (C:=λ w'=>∃ m,w'=w.drewN m) (Q:=λ a'=>∀ w',(∃ m,w'=w.drewN m)->Post n (.region id ops true) K a .normal a' w') (λ _ w' hw' h=>h w' hw') _ _ _ _ ⟨1,rfl⟩ ?_));have:=wpAnyQ_lex (C:=λ w'=>∃ m,w'=w.drewN m) (md:=.any) hl.1 ops.toList 0 (Array.replicate ops.size false) a (by simp) (by simpa using hl.2) (by simpa using hq);simpa using this
   ·rename_i m hm
    have hm1:Nat.ble 1000 m=true:=by
     rw[hm] at hmode;exact Nat.ble_eq ▸ (show 1000≤m by omega)
    rw[hm1] at h;obtain⟨hb,h⟩:=aj (show(bif P.follows .mixedOrders&&Region.noSelect ops then _ else False) from h);rw[qU] at hb
    refine wpIn_region_any hb.1 (na (hL _) hdf _ _ _ _ (uc _ _ _ _ (Dw (n:=n) (stop:=m - 1000) (w0:=w.drew) (Q:=Post n (.region id ops true) K a) hb.2 (λ c a w hc=>hc) (jy (.region id ops true)) (λ i o ho=>ji o (by
     have:=Array.mem_of_getElem? ho;simpa using this)) _ _ F a w.drew _ (h w.drew rfl) hI (λ j oj _ hl=>by simp [qJB,Array.getElem?_replicate] at hl;split at hl <;> cases hl) (.inr (Below.refl _ _)) ?_)))
    intro F' a' w' h1 h2 h3;exact⟨⟨F',h1,h2⟩,h3⟩
 | seq x y ihx ihy =>
  intro an F w K a h hI hok
  have hd1:∀ t,t ∉ jy (.seq x y)->t ∉ jy x/\t ∉ jy y:=by
   intro t ht;simp only[jy,qc,not_or] at ht;exact ht
  unfold vc at h;split at h
  ·refine wpIn_seq (wpIn_mono (ihx _ _ _ _ _ h hI (lj hok).1) ?_);intro e a' w' he
   cases e with
   | normal =>
    obtain⟨⟨F',hI',hk⟩,hkeep⟩:=he;refine wpIn_mono (ihy _ _ _ _ _ hk hI' (lj hok).2) ?_;intro e a'' w'' he
    cases e with
    | normal=>exact⟨he.1,λ t ht=>by rw[he.2 t (hd1 t ht).2,hkeep t (hd1 t ht).1]⟩
    | exit id=>exact⟨he.1,λ t ht=>by rw[he.2 t (hd1 t ht).2,hkeep t (hd1 t ht).1]⟩
    | ret=>exact⟨he.1,λ t ht=>by rw[he.2 t (hd1 t ht).2,hkeep t (hd1 t ht).1]⟩
    | _=>exact he.elim
   | exit id=>exact⟨he.1,λ t ht=>he.2 t (hd1 t ht).1⟩
   | ret=>exact⟨he.1,λ t ht=>he.2 t (hd1 t ht).1⟩
   | _=>exact he.elim
  ·obtain⟨hst,R,hx,hy⟩:=aj h;have hst:=nu hst;refine wpIn_seq (wpIn_mono (ihx _ _ _ _ _ hx hI (lj hok).1) ?_);intro e a' w' he
   cases e with
   | normal =>
    obtain⟨⟨F',hI',hk⟩,hkeep⟩:=he;dsimp only at hk;unfold holds at hk;split at hk
    ·rename_i p hp;rw[gr hI'.fa] at hp
     obtain⟨g',l', -,hκ,hl'⟩:=iu (a:=a') an.S R R _ p (hy λ t=>a'.tmps.getD t undef) (by
      intro q hq;obtain⟨t,ht,rfl⟩:=qCB.1 hq;show a'.tmps.getD t undef=F.get t
      rw[hkeep t (hst t ht),hI.at_]) hp
     have hI2:=is_of_agree hI'.size hI'.defers hl';refine wpIn_mono (ihy _ _ _ _ _ (hκ w' hk) hI2 (lj hok).2) ?_;intro e a'' w'' he
     cases e with
     | normal=>exact⟨he.1,λ t ht=>by rw[he.2 t (hd1 t ht).2,hkeep t (hd1 t ht).1]⟩
     | exit id=>exact⟨he.1,λ t ht=>by rw[he.2 t (hd1 t ht).2,hkeep t (hd1 t ht).1]⟩
     | ret=>exact⟨he.1,λ t ht=>by rw[he.2 t (hd1 t ht).2,hkeep t (hd1 t ht).1]⟩
     | _=>exact he.elim
    ·exact hk.elim
   | exit id=>exact⟨he.1,λ t ht=>he.2 t (hd1 t ht).1⟩
   | ret=>exact⟨he.1,λ t ht=>he.2 t (hd1 t ht).1⟩
   | _=>exact he.elim
 | cond c x y ihx ihy =>
  intro an F w K a h hI hok
  have hd1:∀ t,t ∉ jy (.cond c x y)->t ∉ jy x/\t ∉ jy y:=by
   intro t ht;simp only[jy,qc,not_or] at ht;exact ht
  obtain⟨b,hb,h⟩:=pa h
  have hb':a.eval c= .bool b:=by rw[hI.eval];exact hb
  rcases nt h with ⟨rfl,h⟩ | ⟨rfl,h⟩
  ·refine wpIn_cond_true hb' (wpIn_mono (ihx _ _ _ _ _ h (hI.know hb) (vg hok).1) ?_);intro e a' w' he
   cases e with
   | normal=>exact⟨he.1,λ t ht=>he.2 t (hd1 t ht).1⟩
   | exit id=>exact⟨he.1,λ t ht=>he.2 t (hd1 t ht).1⟩
   | ret=>exact⟨he.1,λ t ht=>he.2 t (hd1 t ht).1⟩
   | _=>exact he.elim
  ·refine wpIn_cond_false hb' (wpIn_mono (ihy _ _ _ _ _ h (hI.know hb) (vg hok).2) ?_);intro e a' w' he
   cases e with
   | normal=>exact⟨he.1,λ t ht=>he.2 t (hd1 t ht).2⟩
   | exit id=>exact⟨he.1,λ t ht=>he.2 t (hd1 t ht).2⟩
   | ret=>exact⟨he.1,λ t ht=>he.2 t (hd1 t ht).2⟩
   | _=>exact he.elim
 | block id c ih =>
  intro an F w K a h hI hok;refine wpIn_block (wpIn_mono (ih _ _ _ _ _ h hI hok) ?_);intro e a' w' he
  cases e with
  | normal=>exact he
  | exit i =>
   obtain⟨⟨F',hI',hk⟩,hkeep⟩:=he;dsimp only at hk;simp only[Exit.inBlock];by_cases e:i=id
   ·subst e;rw[Nat.beq_refl] at hk;rw[if_pos rfl];exact⟨⟨F',hI',hk⟩,hkeep⟩
   ·rw[if_neg e]
    have:Nat.beq i id=false:=by
     cases hb:Nat.beq i id with
     | false=>rfl
     | true=>exact absurd (qDB hb) e
    rw[this] at hk;exact⟨⟨F',hI',hk⟩,hkeep⟩
  | ret=>exact he
  | _=>exact he.elim
 | loop c ih =>
  intro an F w K a h hI hok;unfold vc at h;obtain⟨hst,I,μ,h0,hround⟩:=aj h;have hst:=nu hst
  let MU:Act->wD->Nat:=λ a' w'=>match Gb an.S μ (FA a') with | some m=>m w' | none=>0
  refine wpIn_loop (λ a' w'=>a'.tmps.size=n/\a'.defers=[]/\(∀ t,t ∉ jy c->a'.tmps.getD t undef=a.tmps.getD t undef)/\holds (Gb an.S I (FA a')) w') MU ⟨hI.size,hI.defers,λ _ _=>rfl,by rw[gr hI.fa] at h0;exact h0⟩ ?_;rintro a' w' ⟨h1,h2,h3,h4⟩;unfold holds at h4;split at h4
  ·rename_i p hp
   obtain⟨μ',l',hμ,hκ,hl'⟩:=iu (a:=a') an.S I μ _ p (hround λ t=>a'.tmps.getD t undef) (by
    intro q hq;obtain⟨t,ht,rfl⟩:=qCB.1 hq;show a'.tmps.getD t undef=F.get t
    rw[h3 t (hst t ht),hI.at_]) hp
   have hI2:=is_of_agree h1 h2 hl';refine wpIn_mono (ih _ _ _ _ _ (hκ w' h4) hI2 hok) ?_;intro e a'' w'' he
   cases e with
   | normal =>
    obtain⟨⟨F2,hF2,hk⟩,hkeep⟩:=he;dsimp only at hk;split at hk
    ·rename_i I2 μ2 e1 e2;rw[gr hF2.fa] at e1 e2;refine⟨⟨hF2.size,hF2.defers,λ t ht=>by rw[hkeep t ht,h3 t ht],by rw[e1];exact hk.1⟩,?_⟩;show MU a'' w''<MU a' w';simp only[MU,e2,hμ];exact hk.2
    ·exact hk.elim
   | exit id=>exact⟨he.1,λ t ht=>by rw[he.2 t ht,h3 t ht]⟩
   | ret=>exact⟨he.1,λ t ht=>by rw[he.2 t ht,h3 t ht]⟩
   | _=>exact he.elim
  ·exact h4.elim
 | _=>intro an F w K a h hI hok;exact h.elim
def Eu:Code->Option Code
 | .rangeFunc _ _ _ b=>some b
 | .seq a b=>match Eu a with
  | some c=>some c
  | none=>Eu b
 | .cond _ a b=>match Eu a with
  | some c=>some c
  | none=>Eu b
 | .block _ c=>Eu c
 | .loop c=>Eu c
 | .scope c=>Eu c
 | _=>none
def bodyIn (fn:Func):Code:=match fn.body with
 | some c=>(Eu c).getD .skip
 | none=>.skip
end Go.Sx
namespace Go.Proofs.YtmncepdbglaphaaGreatDoor
open Go Go.Proofs
theorem akb {W:wD}{Q:Sx.Ex->wD->Prop} (t3:Nat) (t3o:Nat) (t6:Nat) (t6o:Nat)
 (h:∀ J:Nat->Value,
 (∃ p:OA,(World.cell? W (.mk t3 t3o none)=some (.pointer p) /\
 (∃ vs:AV,(Array.size vs=18 /\
 (Sx.cellsAt W (.mk t6 t6o none) vs /\
 Calls Tryz.prog 46 #[.pointer p,.agg vs] W (λ e =>
 (λ W2 =>
 (e=eY #[] /\
 Q Sx.Ex.normal W2))))))))) {l m:Nat} {a:Act} (hs:a.tmps.size=34) (hd:a.defers=[]) (h0:a.tmps.getD ((3,pZ t3 t3o)).1 undef=((3,pZ t3 t3o)).2) (h1:a.tmps.getD ((6,pZ t6 t6o)).1 undef=((6,pZ t6 t6o)).2) :
 (Sx.bodyIn Tryz.f31).wpIn (Fence.wide.inRound l) m Tryz.prog (Sx.Post 34 (Sx.bodyIn Tryz.f31) (λ e _ w=>Q e w) a) a W :=
 Sx.vc_round (Sx.bodyIn Tryz.f31) .leaf ⟨[(3,pZ t3 t3o),(6,pZ t6 t6o)],λ t=>a.tmps.getD t undef⟩ W _ a (Eq.mp (by kernel_rfl) (h λ t=>a.tmps.getD t undef)) (Sx.is_of_agree hs hd (qCC.2 ⟨h0,(qCC.2 ⟨h1,(λ _ h=>by cases h)⟩)⟩)) (by kernel_rfl)
end Go.Proofs.YtmncepdbglaphaaGreatDoor
