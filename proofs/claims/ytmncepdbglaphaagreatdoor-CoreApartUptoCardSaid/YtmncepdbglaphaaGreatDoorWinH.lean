/- The window, part C. No condition. -/
import Derived.Test.YtmncepdbglaphaaGreatDoorWinBody
set_option linter.unusedVariables false
set_option maxRecDepth 100000
namespace Go.Proofs.YtmncepdbglaphaaGreatDoor.win
open Go.RowKit Go.XHeap Go.Sx Go.Sep Go.RangeM Go.Shelf
attribute [local go_sem] Oper.semAt_some
variable {W w':wD}{b:Nat}{w v:WS}
def WS.may (w:WS) (c:Int) (k:Nat):Bool:=(w.slot k).cls==c&&w.able (w.slot k)
def WS.rdy (w:WS) (c:Int) (k:Nat):LI:=((List.range k).filter (w.may c)).map λ j=>(w.slot j).seq
theorem Xc (c:Int):w.rdy c 0=[]:=rfl
theorem adt {c:Int}{k:Nat} (h:w.may c k=true):w.rdy c (k+1)=w.rdy c k++[(w.slot k).seq]:=by
 unfold WS.rdy;rw[List.range_succ,qBB,qV];simp [h]
theorem we {c:Int}{k:Nat} (h:w.may c k=false):w.rdy c (k+1)=w.rdy c k:=by
 unfold WS.rdy;rw[List.range_succ,qBB,qV];simp [h]
theorem adu (c:Int) (k:Nat):(w.rdy c k).length≤k:=by
 unfold WS.rdy;rw[qd];exact qVB (List.length_filter_le _ _) (by simp)
theorem adv {c:Int}{k n:Nat} (h:k≤n):(w.rdy c n).take (w.rdy c k).length=w.rdy c k:=by
 obtain⟨d,rfl⟩:∃ d,n=k+d:=⟨n - k,by omega⟩
 have:w.rdy c (k+d)=w.rdy c k++(((List.range d).map (k + ·)).filter (w.may c)).map λ j=>(w.slot j).seq:=by
  unfold WS.rdy;rw[List.range_add,qBB,qV]
 rw[this,List.take_left'];rfl
def WS.readyL (w:WS) (c most:Int):LI:=(w.rdy c w.n).take most.toNat
theorem Hu {c most:Int}{k:Nat} (hk:k≤w.n) (h1:(w.rdy c k).length≤most.toNat) (h2:most≤(w.rdy c k).length):w.readyL c most=w.rdy c k:=by
 unfold WS.readyL;rw[show most.toNat=(w.rdy c k).length by omega];exact adv hk
theorem Mo {c most:Int} (h1:(w.rdy c w.n).length≤most.toNat):w.readyL c most=w.rdy c w.n:=qGB h1
def intsV (l:LI):LV:=l.map (.int .i64)
theorem row_sl {A:wD}{base e n:Nat}{x:Value}{xs:LV} (h:A.ownsRow base e 1 x n xs):Sl A e 1 x n xs:=by
 obtain⟨hl,hr⟩:=h;refine⟨hl,?_⟩;rcases hr with ⟨rfl,h⟩ | ⟨g,cap,cur,rfl,hb,hh,q1,q2,q3,q4⟩
 ·exact .inl ⟨rfl,h⟩
 ·exact .inr ⟨g,0,cap,cur,rfl,hh,q1,q2,by omega,by simpa using q4⟩
def td (W:wD) (b:Nat) (c most:Int) (p:OA) (d:Nat) (l:LI):List Asn:=[blk W.heap.size #[pZ b 0] 83,blk (W.heap.size+1) #[.int .i64 c] 158,blk (W.heap.size+2) #[.int .i64 most] 3,blk (W.heap.size+3) #[.slice p l.length d] 26,sl 3 1 (.slice p l.length d) l.length (intsV l)]
def Kh (W:wD) (b:Nat) (c most:Int) (l:LI) (A:wD):Prop:=∃ p d,St W No A (td W b c most p d l)/\∀ q,(Value.slice p l.length d).ownBlock=some q->W.heap.size+6≤q
theorem _root_.Go.Sep.St.then_ {M:Nat->Prop}{A B:wD}{L L':List Asn} (H:St W M A L) (H2:St A (owns L) B L'):St W M B L' :=
 ⟨H.touch.trans H2.touch (λ q hq e=>(H.mine q e).elim id (λ h=>by omega)),λ q hq=>(H2.mine q hq).elim (H.mine q) (λ e=>.inr (qVB H.size e)),H2.here⟩
theorem Ki {W0 A B:wD}{L:List Asn} (ht:XTouch (owns L) A B) (hn:∀ q,owns L q->¬ Rec W0 q) (hs:W0.heap.size+2≤A.heap.size):Two W0 A B:=by
 intro q hq;exact ht.block q (by rcases hq with e | e <;> omega) (λ e=>hn q e hq)
def toExit:Ex->Exit
 | .normal=>.normal
 | .exit i=>.exit i
 | .ret=>.ret
theorem round_post {W0 A:wD}{I:Nat->wD->Prop}{Ix:Code->wD->Prop}{k n:Nat}{c:Code}{a a0:Act}:∀ (e:Exit) (a':Act) (w:wD),Sx.Post n c (λ e _ w=>roundEnd W0 I Ix k A (toExit e) a0 w) a e a' w->roundEnd W0 I Ix k A e a' w
 | .normal,_,_,h=>by obtain⟨⟨F, -,h⟩, -⟩:=h;exact h
 | .exit _,_,_,h=>by obtain⟨⟨F, -,h⟩, -⟩:=h;exact h
 | .ret,_,_,h=>by obtain⟨⟨F, -,h⟩, -⟩:=h;exact h
 | .goto _,_,_,h=>h.elim
 | .panic _,_,_,h=>h.elim
 | .outgrown,_,_,h=>h.elim
theorem te {W0:wD} (hsz:W0.heap.size=W.heap.size+4){c most:Int}{p:OA}{d:Nat}{l:LI} (hown:∀ q,(Value.slice p l.length d).ownBlock=some q->W.heap.size+6≤q):∀ q,owns (td W b c most p d l) q->¬ Rec W0 q:=by
 rintro q hq hr;rcases hq with e | e | e | e | e | e
 ·have e:q=W.heap.size:=e;rcases hr with hr | hr <;> omega
 ·have e:q=W.heap.size+1:=e;rcases hr with hr | hr <;> omega
 ·have e:q=W.heap.size+2:=e;rcases hr with hr | hr <;> omega
 ·have e:q=W.heap.size+3:=e;rcases hr with hr | hr <;> omega
 ·have:=hown q e;rcases hr with hr | hr <;> omega
 ·exact e
def RI (W:wD) (w:WS) (b:Nat) (c most:Int) (k:Nat) (A:wD):Prop:=k≤w.n/\(w.rdy c k).length≤most.toNat/\Kh W b c most (w.rdy c k) A
def RX (W:wD) (w:WS) (b:Nat) (c most:Int) (j:Code) (A:wD):Prop:=j= .exit 0/\Kh W b c most (w.readyL c most) A
theorem Hv (ho:w.Ok) (h:(winA b w).at_ W) (hr:∀ k,k<w.n->(w.slot k).regs w.R) (c most:Int){W0:wD} (hsz:W0.heap.size=W.heap.size+4){l m k:Nat}{A:wD}{a:Act} (hk:k<w.n) (hi:RI W w b c most k A) (hs2:W0.heap.size+2≤A.heap.size)
  (hs:a.tmps.size=35) (hd:a.defers=[]) (h0:a.tmps.getD 3 undef=pZ W.heap.size 0) (h1:a.tmps.getD 4 undef= .pointer (some ⟨W.heap.size+1,0,none⟩)) (h2:a.tmps.getD 5 undef= .pointer (some ⟨W.heap.size+2,0,none⟩)) (h3:a.tmps.getD 6 undef= .pointer (some ⟨W.heap.size+3,0,none⟩)) (h4:a.tmps.getD 7 undef= .pointer (some ⟨w.g,w.ix k * 6,none⟩)) :
  (Sx.bodyIn Tryz.f63).wpIn (Fence.wide.inRound l) m Tryz.prog (roundEnd W0 (RI W w b c most) (RX W w b c most) k A) a A:=by
 obtain⟨hkn,hlen,p,d,H,hown⟩:=hi;have keep:∀ {A:wD} {L:List Asn},St W No A L->(winA b w).at_ A:=λ H=>(winA b w).keep h H.touch (λ _ _ e=>e);have hn:=ho.n;have hs1:=ho.s1;have hlk:=adu (w:=w) c k;have low:=te (W0:=W0) (b:=b) (c:=c) (most:=most) hsz hown;refine wpIn_mono (alp (W:=A) (Q:=λ e B=>roundEnd W0 (RI W w b c most) (RX W w b c most) k A (toExit e) a B) W.heap.size 0 (W.heap.size+1) 0 (W.heap.size+2) 0 (W.heap.size+3) 0 w.g (w.ix k * 6) (λ J=>?_) hs hd h0 h1 h2 h3 h4) round_post;have HA:St A (owns (td W b c most p d (w.rdy c k))) A (td W b c most p d (w.rdy c k)):=St.all_ H.here;have hg:∀ {B:wD} {L:List Asn},St A (owns (td W b c most p d (w.rdy c k))) B L->Blk B w.g (rows Slot.cells w.ring) 230/\(winA b w).at_ B:=λ HB=>⟨(gx (keep (H.then_ HB))).nth 1 rfl,keep (H.then_ HB)⟩;refine⟨p,_,d,HA.ld 3 rfl rfl,most,HA.ld 2 rfl rfl,aa (λ q=>?_) (λ q=>?_)⟩
 ·have q:=qB q;exact⟨Ki HA.touch low hs2,rfl,by rw[Hu (by omega) hlen q];exact⟨p,d,H,hown⟩⟩
 have q:=qE q;refine⟨(w.slot k).cls,dt ho (hg HA).1 k (q:=0) (by omega) rfl,c,HA.ld 1 rfl rfl,aa (λ q1=>?_) (λ q1=>?_)⟩
 ·refine⟨some ⟨b,0,none⟩,HA.ld 0 rfl rfl,w.able (w.slot k),λ n=>(Kg ho (hg (HA.drewN n)).2 k (hr k hk)).mono ?_,?_⟩
  ·rintro e B ⟨rfl,rfl⟩;exact⟨rfl,n,rfl⟩
  ·refine HA.drN λ B HB=>aa (λ q2=>?_) (λ q2=>?_)
   ·have hmay:w.may c k=true:=by unfold WS.may;rw[q1,q2];rfl
    refine HB.dr λ B HB=>⟨p,_,d,HB.ld 3 rfl rfl,(w.slot k).seq,dt ho (hg HB).1 k (q:=5) (by omega) rfl,HB.alb λ k8 B5 HB5 hk8 b5=>⟨b5,?_⟩⟩;refine⟨intsV (w.rdy c k),[.int .i64 (w.slot k).seq],HB5.nth 4 rfl,.inr ⟨_,rfl,λ j u hj=>HB5.cells 5 rfl j u (by simpa using hj)⟩,rfl,by intro u hu;simp at hu;subst hu;rfl,by have:maxLen=2 ^ 63 - 1:=rfl;omega,by omega,?_⟩;intro p4 k10 B6 s1 s2 s3 _ _;have hpp:Sep.Post (sl 3 1 (.slice p (w.rdy c k).length d) (w.rdy c k).length (intsV (w.rdy c k))) B5 (sl 3 1 (.slice p4 ((w.rdy c k).length+1) k10) ((w.rdy c k).length+1) (intsV (w.rdy c k)++[Value.int .i64 (w.slot k).seq])) B6:=⟨s1,s2,s3⟩;have HB6:=HB5.upd 4 rfl hpp;refine HB6.st 3 rfl (by show 0<1;omega) λ B7 HB7=>?_;have HF:=(HB7.take 5);have e1:w.rdy c (k+1)=w.rdy c k++[(w.slot k).seq]:=adt hmay
    have e2:(w.rdy c k).length+1=(w.rdy c (k+1)).length:=by rw[e1];simp
    have e3:intsV (w.rdy c k)++[.int .i64 (w.slot k).seq]=intsV (w.rdy c (k+1)):=by rw[e1];simp [intsV]
    refine⟨Ki HB7.touch low hs2,by omega,by omega,p4,k10,?_,?_⟩
    ·rw[e2,e3] at HF;exact H.then_ HF
    ·rw[<- e2];intro q hq;rcases s3 q hq with e | e
     ·exact hown q e
     ·have:=HB5.size;omega
   ·have hmay:w.may c k=false:=by unfold WS.may;rw[q1,q2];rfl
    refine⟨Ki HB.touch low hs2,by omega,by rw[we hmay];exact hlen,?_⟩;rw[we hmay];exact⟨p,d,H.then_ HB,hown⟩
 ·have hmay:w.may c k=false:=by unfold WS.may;rw[q1];rfl
  refine HA.drN λ B HB=>⟨Ki HB.touch low hs2,by omega,by rw[we hmay];exact hlen,?_⟩;rw[we hmay];exact⟨p,d,H.then_ HB,hown⟩
attribute [local go_sem] Oper.semAt_some
set_option maxHeartbeats 4000000 in
theorem ready_any (ho:w.Ok) (h:(winA b w).at_ W) (hr:∀ k,k<w.n->(w.slot k).regs w.R) (c most:Int) :
  Calls Tryz.prog 63 #[pZ b 0,.int .i64 c,.int .i64 most] W λ e w2=>∃ z:OA×Nat,e=eZ (.slice z.1 (w.readyL c most).length z.2)/\Sep.Post emp W (sl 3 1 (.slice z.1 (w.readyL c most).length z.2) (w.readyL c most).length (intsV (w.readyL c most))) w2:=by
 refine(callsIn_wide (n:=3)).1 ?_;refine callsIn_of_wp_marks Tryz.func63 rfl trivial ?_ rfl;simp only[Tryz.ntmps63,qnB,qy,List.length_nil,Nat.reduceAdd,Nat.reduceSub,Array.replicate_succ,Array.replicate_zero,List.push_toArray,List.append_toArray,qr,qAC];obtain⟨W0,hW0⟩:∃ W0,(((W.alloc (.cells #[pZ b 0] 83)).alloc (.cells #[.int .i64 c] 158)).alloc (.cells #[.int .i64 most] 3)).alloc (.cells #[.slice none 0 0] 26)=W0:=⟨_,rfl⟩
 have H:St W No W0 (td W b c most none 0 []):=by
  have:=((((St.nil W).alloc #[pZ b 0] 83).alloc #[.int .i64 c] 158).alloc #[.int .i64 most] 3).alloc #[.slice none 0 0] 26;simp only[World.size_alloc] at this;rw[hW0] at this;exact this.add (A:=sl 3 1 (.slice none 0 0) 0 []) ⟨Sl.nil _ _ _,qH _ _,λ q hq=>by cases hq⟩
 have hsz:W0.heap.size=W.heap.size+4:=by rw[<- hW0];simp
 have c0:=H.ld 0 (i:=0) rfl rfl
 gi_wp2
 try rw[hW0]
 have keep:∀ {A:wD} {L:List Asn},St W No A L->(winA b w).at_ A:=λ H=>(winA b w).keep h H.touch (λ _ _ e=>e)
 have high:∀ q,Rec W0 q->W.heap.size≤q:=by
  rintro q (hr | hr) <;> omega
 have hI:∀ (l:LI) A B,Kh W b c most l A->XTouch (Rec W0) A B->Kh W b c most l B:=by
  rintro l A B ⟨p,d,H,hown⟩ ht;exact⟨p,d,St.rec_ H ht (te hsz hown) high,hown⟩
 refine range_m (N:=w.n) (enc:=λ k=>.pointer (some ⟨w.g,w.ix k * 6,none⟩)) rfl (enters_of Tryz.func98 (by kernel_rfl) rfl) (Ap ho 3)
  (RI W w b c most) (RX W w b c most)
  (λ k A B hi ht=>⟨hi.1,hi.2.1,hI _ A B hi.2.2 ht⟩) (λ j A B hi ht=>⟨hi.1,hI _ A B hi.2 ht⟩)
  (λ k A hi=>by
   obtain⟨-, -,p,d,h3, -⟩:=hi
   exact keep h3) ⟨qQ _,by rw[Xc];exact qQ _,none,0,H,λ q hq=>by cases hq⟩
  (λ x=>{ tmps:=#[pZ b 0,.int .i64 c,.int .i64 most,pZ W.heap.size 0,.pointer (some ⟨W.heap.size+1,0,none⟩),.pointer (some ⟨W.heap.size+2,0,none⟩),.pointer (some ⟨W.heap.size+3,0,none⟩),x,pZ b 0,.func (.func 98) #[pZ b 0] #[],x,undef,undef,undef,undef,undef,undef,undef,undef,undef,undef,undef,undef,undef,undef,undef,undef,undef,undef,undef,undef,undef,undef,undef,undef],defers:=[] }) ?assign ?body ?done ?stop
 case assign =>
  intro l x A K hK
  gi_wp2
  exact hK
 case body =>
  rintro l k A hk hi hs2;exact Hv ho h hr c most hsz hk hi hs2 rfl rfl rfl rfl rfl rfl rfl
 case done =>
  rintro A ⟨-,hlen,p,d,H,hown⟩ hD;rw[<- Mo hlen] at H hown;have cr:=H.ld 3 (i:=0) rfl rfl;have fr:=(H.blk 3 rfl).frozen 0
  gi_wp2
  have hD':(A.setCell ⟨W.heap.size+1+1+1,0,none⟩ (.slice p (w.readyL c most).length d)).heap[W0.heap.size]?=some (.deferred (some [])):=(Below.heap_setCell A ⟨W.heap.size+3,0,none⟩ (.slice p (w.readyL c most).length d) _ (by show W0.heap.size≠W.heap.size+3;omega)).trans hD;refine⟨by simp,.inl ⟨_,_,rfl,run_takeDeferred hD',?_⟩⟩;have H2:St W No _ (td W b c most p d (w.readyL c most)):=St.rec_ (H.wr 3 rfl 0 (.slice p (w.readyL c most).length d)) ((touch_putObj _ W0.heap.size (.deferred none)).mono λ q _ e=>(show Rec W0 q from .inl e)) (te (b:=b) (c:=c) (most:=most) hsz hown) high;have c2:=H2.ld 3 (i:=0) rfl rfl;refine⟨.slice p (w.readyL c most).length d,?_,(p,d),rfl,H2.new 4 rfl⟩;simp [results,Tryz.f63,go_sem,c2]
 case stop =>
  rintro j A ⟨rfl,p,d,H,hown⟩ hD;have cr:=H.ld 3 (i:=0) rfl rfl;have fr:=(H.blk 3 rfl).frozen 0
  gi_wp2
  have hD':(A.setCell ⟨W.heap.size+1+1+1,0,none⟩ (.slice p (w.readyL c most).length d)).heap[W0.heap.size]?=some (.deferred (some [])):=(Below.heap_setCell A ⟨W.heap.size+3,0,none⟩ (.slice p (w.readyL c most).length d) _ (by show W0.heap.size≠W.heap.size+3;omega)).trans hD;refine⟨by simp,.inl ⟨_,_,rfl,run_takeDeferred hD',?_⟩⟩;have H2:St W No _ (td W b c most p d (w.readyL c most)):=St.rec_ (H.wr 3 rfl 0 (.slice p (w.readyL c most).length d)) ((touch_putObj _ W0.heap.size (.deferred none)).mono λ q _ e=>(show Rec W0 q from .inl e)) (te (b:=b) (c:=c) (most:=most) hsz hown) high;have c2:=H2.ld 3 (i:=0) rfl rfl;refine⟨.slice p (w.readyL c most).length d,?_,(p,d),rfl,H2.new 4 rfl⟩;simp [results,Tryz.f63,go_sem,c2]
open Go.RowKit Go.XHeap Go.Sx Go.Sep Go.Proofs.Tryz
def errN (n:Int):Value:=.iface 60 (.int .i64 n)
def WS.regOk (w:WS) (p:Int):Bool:=decide (-1≤p)&&decide (p<w.R)
theorem vi (ho:w.Ok) (h:(winA b w).at_ W){kb cap:Nat}{l:LI} (hl:Blk W kb (intsV l).toArray 3) (hll:l.length≤4) :
  Calls prog 129 #[pZ b 0,.slice (some ⟨kb,0,none⟩) l.length cap] W λ e w2=>e=eZ (.bool (l.all w.regOk))/\w2=W:=by
 have H:=gx h;refine alk b 0 _ l.length cap ⟨λ x A=>∃ m:Nat,x=m/\m≤l.length/\A=W/\(l.take m).all w.regOk=true,λ x _=>l.length - x.toNat,⟨0,rfl,by omega,rfl,rfl⟩,λ _=>?_⟩;rintro x A ⟨m,rfl,hm,rfl,hall⟩;refine aa (λ q=>?_) (λ q=>?_)
 ·have q:=qB q
  have hml:m<l.length:=by omega
  have hx:l[m]?=some l[m]:=qC hml
  have hbad:w.regOk l[m]=false->l.all w.regOk=false:=λ e=>by
   rw[List.all_eq_false];exact⟨l[m],qjB _,by rw[e];decide⟩
  refine⟨⟨by omega,q⟩,adr_some ⟨l[m],?_,aa (λ q1=>⟨?_,rfl⟩) (λ q1=>⟨_,_,_,H.ld 0 rfl rfl,aa (λ q2=>⟨?_,rfl⟩) (λ q2=>?_)⟩)⟩⟩
  ·rw[ix1,qW];exact hl.cell' (by simp [intsV,hx])
  ·have q1:=qB q1;rw[hbad (by unfold WS.regOk;rw[qM (by omega)];rfl)]
  ·have q2:=qB q2;rw[hbad (by unfold WS.regOk;rw[qM (p:=l[m]<(w.R:Int)) (by omega),Bool.and_false])]
  ·have q1:=qE q1;have q2:=qE q2;rintro z2 rfl;rw[w64 (by omega) (by omega)];refine⟨⟨m+1,by omega,by omega,rfl,?_⟩,by show l.length - ((m:Int)+1).toNat<l.length - (m:Int).toNat;omega⟩;rw[qfB,hx,List.all_append,hall];show(true&&([l[m]].all w.regOk))=true
   have:w.regOk l[m]=true:=by unfold WS.regOk;rw[qI (by omega),qI (by omega)];rfl
   simp [this]
 ·have q:=qE q;obtain rfl:m=l.length:=by omega
  rw[List.take_length] at hall;exact⟨by rw[hall],rfl⟩
def WS.woken (w:WS) (p:Nat):WS:={ w with ready:=w.ready.set p true }
theorem wake_good (ho:w.Ok) (h:(winA b w).at_ W) (p:Nat) (hp:p<w.R) :
  Calls prog 85 #[pZ b 0,.int .i64 p] W λ e w2=>e=eZ .nilIface/\Sep.Post (winA b w) W (winA b (w.woken p)) w2:=by
 refine apu b 0 p (aa (λ q=>absurd (qB q) (by omega)) (λ q=>(St.begin h).al λ k w2 H=>?_));refine H.callp (vi ho (H.nth 0 rfl) (l:=[(p:Int)]) (H.blk 1 rfl) (by simp)) ⟨_,rfl,aa (λ q1=>?_) (λ q1=>?_)⟩
 ·exfalso
  have:w.regOk (p:Int)=true:=by unfold WS.regOk;rw[qI (by omega),qI (by omega)];rfl
  simp [this] at q1
 ·have H:St W (winA b w).own w2 (w.pieces b++[blk k #[.int .i64 p] 3]):=H.open_;refine⟨_,_,_,H.ld 0 rfl rfl,⟨by omega,by omega⟩,adr_some ?_⟩;rw[qG,show 0+p * 1=p by omega];refine H.st 2 rfl (by rw[og,ho.ready];exact hp) λ w3 H=>⟨rfl,?_⟩;rw[Fj] at H;exact oh (L:=[blk k #[.int .i64 p] 3]) H
def WS.turned (w:WS) (k to:Nat):WS:={ w with ring:=w.ring.set (w.ix k) { w.slot k with st:=to } }
theorem turned_ok (ho:w.Ok) (k:Nat){to:Nat} (ht:to<256):(w.turned k to).Ok:=⟨ho.s0,ho.s1,by show(w.ring.set _ _).length=w.S;rw[qJ];exact ho.ring,ho.head,ho.n,ho.next,ho.r0,ho.r1,ho.ready,λ s hs=>by
 rcases qZ hs with e | rfl
 ·exact ho.st s e
 ·exact ht⟩
def WS.turn (w:WS) (seq:Int) (a to:Nat):Option Nat:=match w.find seq with
 | some k=>if (w.slot k).st=a/\(to=1->w.able (w.slot k)=true) then some k else none
 | none=>none
def TurnPost (W:wD) (b:Nat) (w:WS) (seq:Int) (a to:Nat) (e:Ending) (w2:wD):Prop:=match w.turn seq a to with
 | some k=>e=eZ .nilIface/\Sep.Post (winA b w) W (winA b (w.turned k to)) w2
 | none=>e=eZ (errN 7)/\Sep.Post (winA b w) W (winA b w) w2
theorem Kj (ho:w.Ok) (h:(winA b w).at_ W) (hr:∀ k,k<w.n->(w.slot k).regs w.R) (seq:Int) (a to:Nat) :
  Calls prog 128 #[pZ b 0,.int .i64 seq,.int .u8 a,.int .u8 to] W (TurnPost W b w seq a to):=by
 refine aln b 0 seq a to ((find_any ho h seq).mono ?_);rintro e w2 ⟨rfl,hh⟩;have hS:=Kf h hh;have h2:(winA b w).at_ w2:=hS.1;have H:St W (winA b w).own w2 (w.pieces b++[]):=((St.begin h).upd 0 rfl hS).open_;have hg:Blk w2 w.g (rows Slot.cells w.ring) 230:=H.nth 1 rfl
 have bad:w.turn seq a to=none->TurnPost W b w seq a to (eZ (errN 7)) w2:=λ e=>by unfold TurnPost;rw[e];exact⟨rfl,hS⟩
 cases hf:w.find seq with
 | none=>exact⟨_,rfl,aa (λ _=>bad (by unfold WS.turn;rw[hf])) (λ q=>by cases q)⟩
 | some k =>
  have hk:k<w.n:=by
   unfold WS.find at hf;exact qNB.1 (qkB hf)
  refine⟨_,rfl,aa (λ q=>by cases q) (λ _=>ptr_some ⟨(w.slot k).st,?_,aa (λ q=>?_) (λ q=>?_)⟩)⟩
  ·rw[ac];exact dt ho hg k (q:=4) (by omega) rfl
  ·have q:¬ (w.slot k).st=a:=λ e=>by rw[e] at q;simp at q
   exact bad (by unfold WS.turn;rw[hf];exact if_neg (λ e=>q e.1))
  ·have q:(w.slot k).st=a:=by
    have:((w.slot k).st:Int)=(a:Int):=by simpa using q
    omega
   have good:∀ {B:wD},B=w2->(to=1->w.able (w.slot k)=true)->(∃ u,B.cell? ((⟨w.g,w.ix k * 6,none⟩:Addr).add 4)=some u)/\B.frozen? ((⟨w.g,w.ix k * 6,none⟩:Addr).add 4)=false/\∀ w3,w3=B.setCell ((⟨w.g,w.ix k * 6,none⟩:Addr).add 4) (.int .u8 to)->TurnPost W b w seq a to (eZ .nilIface) w3:=by
    rintro B rfl hab;rw[ac];have hi:=ho.ix_lt k;refine H.st 1 rfl (by rw[kj (ta _)];omega) λ w3 H=>?_
    have et:w.turn seq a to=some k:=by unfold WS.turn;rw[hf];exact if_pos ⟨q,hab⟩
    unfold TurnPost;rw[et];refine⟨rfl,?_⟩;rw[Ip (f:=Slot.cells) (ta _) (Sb ho k) (by decide) (y:={ w.slot k with st:=to }) rfl] at H;exact oh (v:=w.turned k to) (L:=[]) H
   refine aa (λ q1=>?_) (λ q1=>ptr_some (good rfl (λ e=>by rw[e] at q1;simp at q1)));refine(Kg ho h2 k (hr k hk)).mono ?_;rintro e w3 ⟨rfl,rfl⟩
   have q1:to=1:=by
    have:(to:Int)=1:=by simpa using q1
    omega
   refine⟨_,rfl,aa (λ q2=>?_) (λ q2=>ptr_some (good rfl (λ _=>by simpa using q2)))⟩
   have q2:¬ w.able (w.slot k)=true:=by simpa using q2
   exact bad (by unfold WS.turn;rw[hf];exact if_neg (λ e=>q2 (e.2 q1)))
theorem issue_any (ho:w.Ok) (h:(winA b w).at_ W) (hr:∀ k,k<w.n->(w.slot k).regs w.R) (seq:Int):Calls prog 107 #[pZ b 0,.int .i64 seq] W (TurnPost W b w seq 0 1) :=
 alg b 0 seq ((Kj ho h hr seq 0 1).mono λ e w2 hp=>by
  unfold TurnPost at hp ⊢;split at hp
  ·obtain⟨rfl,hp⟩:=hp;exact⟨_,rfl,rfl,hp⟩
  ·obtain⟨rfl,hp⟩:=hp;exact⟨_,rfl,rfl,hp⟩)
theorem done_any (ho:w.Ok) (h:(winA b w).at_ W) (hr:∀ k,k<w.n->(w.slot k).regs w.R) (seq:Int):Calls prog 84 #[pZ b 0,.int .i64 seq] W (TurnPost W b w seq 1 2) :=
 apt b 0 seq ((Kj ho h hr seq 1 2).mono λ e w2 hp=>by
  unfold TurnPost at hp ⊢;split at hp
  ·obtain⟨rfl,hp⟩:=hp;exact⟨_,rfl,rfl,hp⟩
  ·obtain⟨rfl,hp⟩:=hp;exact⟨_,rfl,rfl,hp⟩)
def WS.retired (w:WS):WS:={ w with head:=(w.head+1) % w.S,n:=w.n - 1 }
theorem retired_ok (ho:w.Ok):w.retired.Ok:=⟨ho.s0,ho.s1,ho.ring,qIB _ (by have:=ho.s0;omega),by have:=ho.n;show w.n - 1≤w.S;omega,ho.next,ho.r0,ho.r1,ho.ready,ho.st⟩
def RetirePost (W:wD) (b:Nat) (w:WS) (e:Ending) (w2:wD):Prop :=
 if w.n≠0/\(w.slot 0).st=2 then e=eY #[.int .i64 (w.slot 0).seq,.nilIface]/\Sep.Post (winA b w) W (winA b w.retired) w2
 else e=eY #[.int .i64 0,errN 7]/\Sep.Post (winA b w) W (winA b w) w2
theorem retire_any (ho:w.Ok) (h:(winA b w).at_ W):Calls prog 140 #[pZ b 0] W (RetirePost W b w):=by
 have hs0:=ho.s0;have hs1:=ho.s1;have hh0:=ho.head;have hn:=ho.n;refine alh b 0 ((Sd ho h).mono ?_);rintro e w2 ⟨rfl,hh⟩;have hS:=Kf h hh;by_cases q0:w.n=0
 ·have e1:w.headR= .tuple #[.int .i64 0,.bool false,.bool false]:=if_pos q0
  have bad:RetirePost W b w (eY #[.int .i64 0,errN 7]) w2:=by unfold RetirePost;rw[if_neg (λ e=>e.1 q0)];exact⟨rfl,hS⟩
  rw[e1];exact⟨_,_,_,rfl,aa (λ _=>bad) (λ q=>by cases q)⟩
 ·have e1:w.headR= .tuple #[.int .i64 (w.slot 0).seq,.bool (decide ((w.slot 0).st=2)),.bool true]:=if_neg q0;rw[e1];refine⟨_,_,_,rfl,aa (λ q=>by cases q) (λ _=>aa (λ q1=>?_) (λ q1=>?_))⟩
  ·have q1:¬ (w.slot 0).st=2:=by simpa using q1
   unfold RetirePost;rw[if_neg (λ e=>q1 e.2)];exact⟨rfl,hS⟩
  ·have q1:(w.slot 0).st=2:=by simpa using q1
   have H:St W (winA b w).own w2 (w.pieces b++[]):=((St.begin h).upd 0 rfl hS).open_;refine H.dr λ w3 H=>⟨w.head,H.ld 0 rfl rfl,?_⟩;rintro z3 rfl;rw[w64 (by omega) (by omega)];refine⟨_,_,_,H.ld 0 rfl rfl,by omega,?_⟩;rintro z4 rfl;have e2:Int.tmod ((w.head:Int)+1) (w.S:Int)=(((w.head+1) % w.S:Nat):Int):=rfl;rw[e2];refine H.st 0 rfl (by show 1<5;omega) λ w4 H=>⟨w.n,H.ld 0 rfl rfl,?_⟩;rintro z6 rfl;rw[w64 (by omega) (by omega),show((w.n:Int) - 1)=((w.n - 1:Nat):Int) by omega];refine H.st 0 rfl (by show 2<5;omega) λ w5 H=>?_;unfold RetirePost;rw[if_pos ⟨q0,q1⟩];exact⟨rfl,oh (v:=w.retired) (L:=[]) H⟩
def entryC (cls s1 s2 dst:Int):AV:=#[.int .i64 cls,.int .i64 s1,.int .i64 s2,.int .i64 dst]
def WS.entered (w:WS) (cls s1 s2 dst:Int):WS:={ w with ring:=w.ring.set (w.ix w.n) ⟨cls,s1,s2,dst,0,w.next⟩,n:=w.n+1,next:=w.next+1,ready:=if 0≤dst then w.ready.set dst.toNat false else w.ready }
theorem entered_ok (ho:w.Ok) (hn:w.n<w.S) (hx:w.next+1<4611686018427387904) (cls s1 s2 dst:Int):(w.entered cls s1 s2 dst).Ok:=⟨ho.s0,ho.s1,by show(w.ring.set _ _).length=w.S;rw[qJ];exact ho.ring,ho.head,hn,hx,ho.r0,ho.r1,by
 show(if 0≤dst then w.ready.set dst.toNat false else w.ready).length=w.R;split
 ·rw[qJ];exact ho.ready
 ·exact ho.ready,λ s hs=>by
 rcases qZ hs with e | rfl
 ·exact ho.st s e
 ·show 0<256;decide⟩
def WS.enterOk (w:WS) (cls s1 s2 dst:Int):Prop:=0≤cls/\cls≤7/\[s1,s2,dst].all w.regOk=true
instance (w:WS) (cls s1 s2 dst:Int):Decidable (w.enterOk cls s1 s2 dst):=inferInstanceAs (Decidable (_/\_))
def EnterPost (W:wD) (b:Nat) (w:WS) (cls s1 s2 dst:Int) (e:Ending) (w2:wD):Prop :=
 if w.enterOk cls s1 s2 dst then
  (if w.n=w.S then e=eY #[.int .i64 0,errN 4]/\Sep.Post (winA b w) W (winA b w) w2
  else e=eY #[.int .i64 w.next,.nilIface]/\Sep.Post (winA b w) W (winA b (w.entered cls s1 s2 dst)) w2)
 else e=eY #[.int .i64 0,errN 3]/\Sep.Post (winA b w) W (winA b w) w2
theorem Sf (w:WS) (k:Nat) (hk:w.ix k<w.ring.length) (s:Slot):bv (rows Slot.cells w.ring) (w.ix k * 6) s.cells=rows Slot.cells (w.ring.set (w.ix k) s):=lf (ta _) _ s hk rfl
theorem enter_any (ho:w.Ok) (h:(winA b w).at_ W) (hx:w.next+1<4611686018427387904) (cls s1 s2 dst:Int) :
  Calls prog 120 #[pZ b 0,.agg (entryC cls s1 s2 dst)] W (EnterPost W b w cls s1 s2 dst):=by
 have hs0:=ho.s0;have hs1:=ho.s1;have hn:=ho.n
 have bad:∀ {w2:wD},¬ w.enterOk cls s1 s2 dst->Sep.Post (winA b w) W (winA b w) w2->EnterPost W b w cls s1 s2 dst (eY #[.int .i64 0,errN 3]) w2:=λ e hp=>by unfold EnterPost;rw[if_neg e];exact⟨rfl,hp⟩
 refine alf b 0 (entryC cls s1 s2 dst) ((St.begin h).al λ k w2 H=>?_);have H:St W (winA b w).own w2 [winA b w,blk k (entryC cls s1 s2 dst) 227]:=H;refine⟨cls,H.ld 1 rfl rfl,aa (λ q=>bad (λ e=>by have:=qB q;have:=e.1;omega) (H.post 0 rfl)) (λ q=>⟨cls,H.ld 1 rfl rfl,aa (λ q1=>bad (λ e=>by have:=qB q1;have:=e.2.1;omega) (H.post 0 rfl)) (λ q1=>?_)⟩)⟩;have q:=qE q;have q1:=qE q1;refine⟨s1,H.ld 1 rfl rfl,s2,H.ld 1 rfl rfl,dst,H.ld 1 rfl rfl,H.al λ k2 w3 H=>?_⟩;refine H.callp (vi ho (H.nth 0 rfl) (l:=[s1,s2,dst]) (H.blk 2 rfl) (by simp)) ⟨_,rfl,aa (λ q2=>bad (λ e=>by rw[e.2.2] at q2;cases q2) (H.post 0 rfl)) (λ q2=>?_)⟩
 have q2:[s1,s2,dst].all w.regOk=true:=by simpa using q2
 have hok:w.enterOk cls s1 s2 dst:=⟨by omega,by omega,q2⟩;have H:St W (winA b w).own w3 (w.pieces b++[blk k (entryC cls s1 s2 dst) 227,blk k2 #[.int .i64 s1,.int .i64 s2,.int .i64 dst] 3]):=H.open_;refine⟨w.n,H.ld 0 rfl rfl,_,_,_,H.ld 0 rfl rfl,λ w4 n hw4=>?_⟩;subst hw4;have H:=H.drewN n;refine aa (λ q3=>?_) (λ q3=>?_)
 ·have q3:w.n=w.S:=by
   have:(w.n:Int)=(w.S:Int):=by simpa using q3
   omega
  unfold EnterPost;rw[if_pos hok,if_pos q3];exact⟨rfl,oh H⟩
 ·have q3:¬ w.n=w.S:=λ e=>by rw[e] at q3;simp at q3
  refine H.dr λ w5 H=>⟨w.n,H.ld 0 rfl rfl,entryC cls s1 s2 dst,rfl,H.cells 3 rfl,w.next,H.ld 0 rfl rfl,rfl,?_⟩;rintro vs2 rfl;have hcur:(winA b w).at_ w5:=show here (w.pieces b) w5 from (here_append.1 H.here).1;refine(Fk ho hcur w.n (by omega)).mono ?_;rintro e w6 ⟨rfl,n6,rfl⟩;have H:=H.drewN n6;have hi:=ho.ix_lt w.n;have hcell:List.toArray ((entryC cls s1 s2 dst).toList++[Value.int .u8 0,.int .i64 w.next])=(Slot.mk cls s1 s2 dst 0 w.next).cells.toArray:=rfl;rw[hcell];refine⟨_,rfl,(hush_drewN n6).below (qY _) (λ _ e=>e.elim),ptr_some (adr_some (H.sts 1 rfl rfl (by rw[kj (ta _)];show w.ix w.n * 6+6≤_;omega) (by intro v hv;simp [Slot.cells] at hv;rcases hv with rfl | rfl | rfl | rfl | rfl | rfl <;> rfl) λ w7 H=>?_))⟩;have hrow:bv (rows Slot.cells w.ring) (w.ix w.n * 6) (Slot.mk cls s1 s2 dst 0 w.next).cells.toArray.toList=rows Slot.cells (w.ring.set (w.ix w.n) ⟨cls,s1,s2,dst,0,w.next⟩):=Sf w w.n hi _;rw[hrow] at H
  have hnx:=ho.next
  refine⟨w.n,H.ld 0 rfl rfl,?_⟩;rintro z10 rfl;rw[w64 (by omega) (by omega),show((w.n:Int)+1)=((w.n+1:Nat):Int) by omega];refine H.st 0 rfl (by show 2<5;omega) λ w8 H=>⟨w.next,H.ld 0 rfl rfl,?_⟩;rintro z12 rfl;rw[w64 (by omega) (by omega),show((w.next:Int)+1)=((w.next+1:Nat):Int) by omega];refine H.st 0 rfl (by show 3<5;omega) λ w9 H=>⟨dst,H.ld 3 rfl rfl,aa (λ q4=>?_) (λ q4=>?_)⟩
  ·have q4:=qB q4;obtain⟨dd,rfl⟩:∃ d:Nat,dst=d:=⟨dst.toNat,by omega⟩
   have hdr:dd<w.R:=by
    have:=List.all_eq_true.1 q2 (dd:Int) (by simp);unfold WS.regOk at this;simp at this;omega
   refine H.dr λ w10 H=>⟨_,_,_,H.ld 0 rfl rfl,dd,H.ld 3 rfl rfl,⟨by omega,by omega⟩,adr_some ?_⟩;rw[qG,show 0+dd * 1=dd by omega];refine H.st 2 rfl (by rw[og,ho.ready];exact hdr) λ w11 H=>⟨((w.next+1:Nat):Int),H.ld 0 rfl rfl,?_⟩;rintro z16 rfl;rw[w64 (by omega) (by omega),show(((w.next+1:Nat):Int) - 1)=(w.next:Int) by omega];rw[Fj] at H;unfold EnterPost;rw[if_pos hok,if_neg q3];refine⟨rfl,?_⟩
   have ev:w.entered cls s1 s2 dd={ w with ring:=w.ring.set (w.ix w.n) ⟨cls,s1,s2,dd,0,w.next⟩,n:=w.n+1,next:=w.next+1,ready:=w.ready.set dd false }:=by
    unfold WS.entered;rw[if_pos (by omega),qG]
   rw[ev];exact oh (v:={ w with ring:=w.ring.set (w.ix w.n) ⟨cls,s1,s2,dd,0,w.next⟩,n:=w.n+1,next:=w.next+1,ready:=w.ready.set dd false }) H
  ·have q4:=qE q4;refine⟨((w.next+1:Nat):Int),H.ld 0 rfl rfl,?_⟩;rintro z16 rfl;rw[w64 (by omega) (by omega),show(((w.next+1:Nat):Int) - 1)=(w.next:Int) by omega];unfold EnterPost;rw[if_pos hok,if_neg q3];refine⟨rfl,?_⟩
   have ev:w.entered cls s1 s2 dst={ w with ring:=w.ring.set (w.ix w.n) ⟨cls,s1,s2,dst,0,w.next⟩,n:=w.n+1,next:=w.next+1 }:=by
    unfold WS.entered;rw[if_neg (by omega)]
   rw[ev];exact oh (v:={ w with ring:=w.ring.set (w.ix w.n) ⟨cls,s1,s2,dst,0,w.next⟩,n:=w.n+1,next:=w.next+1 }) H
theorem aqa {e:Int} (h0:0≤e) (h1:e<18446744073709551616):IntKind.wrap .u64 e=e:=by
 unfold IntKind.wrap;simp [IntKind.bits,IntKind.signed];omega
theorem ahy {x:Nat} (h:x<18446744073709551616):IntKind.wrap .u64 (x:Int)=x:=aqa (by omega) (by omega)
theorem Hw {x:Nat} (hx:x<4294967296):IntKind.wrap .u64 ((bZ .u64 (x:Int) &&&bZ .u64 4294967295).toNat:Int)=(x:Int):=by
 have h:=Bits.land 64 (x:=x) (y:=4294967295) (by omega) (by decide)
 have e:x &&&4294967295=x:=by
  have:=Bits.mask x 32;rw[show(2:Nat) ^ 32 - 1=4294967295 from rfl] at this;rw[this];exact Nat.mod_eq_of_lt hx
 rw[e] at h;have h2:(bZ .u64 (x:Int) &&&bZ .u64 4294967295).toNat=x:=h;rw[h2];exact ahy (by omega)
theorem fd0 {x:Nat} (hx:x<4294967296):Int.fdiv (x:Int) (2 ^ min 32 (IntKind.bits .u64))=0:=by
 show Int.fdiv (x:Int) (2 ^ 32)=0;rw[Bits.shr];have:x / 2 ^ 32=0:=Nat.div_eq_of_lt hx;rw[this];rfl
theorem Sg (W:wD) (y:Nat) (hy:y<4294967296):Calls prog 79 #[.int .u64 1,.int .u64 y] W λ e w=>e=eY #[.int .u64 0,.int .u64 y]/\w=W:=by
 have l1:=Hw (x:=1) (by decide);have d1:=fd0 (x:=1) (by decide);have d0:=fd0 (x:=0) (by decide);have l0:=Hw (x:=0) (by decide);have z0:IntKind.wrap .u64 0=0:=rfl;refine apz 1 y ?_;rintro z rfl;refine⟨by decide,?_⟩;rintro z2 rfl z3 rfl;refine⟨by decide,?_⟩;rintro z4 rfl z5 rfl z6 rfl;refine⟨by decide,?_⟩;rintro z7 rfl z8 rfl z9 rfl;refine⟨by decide,?_⟩;rintro z10 rfl z11 rfl z12 rfl z13 rfl z14 rfl;refine⟨by decide,?_⟩;rintro z15 rfl z16 rfl z17 rfl;have l1':IntKind.wrap .u64 ((bZ .u64 1 &&&bZ .u64 4294967295).toNat:Int)=1:=l1;have d1':Int.fdiv 1 (2 ^ min 32 (IntKind.bits .u64))=0:=d1;have d0':Int.fdiv 0 (2 ^ min 32 (IntKind.bits .u64))=0:=d0;have l0':IntKind.wrap .u64 ((bZ .u64 0 &&&bZ .u64 4294967295).toNat:Int)=0:=l0;simp only[l1',d1',Hw hy,fd0 hy,Int.one_mul,Int.zero_mul,Int.mul_zero,ahy (show y<18446744073709551616 by omega),Int.add_zero,Int.zero_add,z0,l0',d0'];exact⟨trivial,trivial⟩
def tf (m k:Nat):List Bool:=List.replicate m true++List.replicate k false
theorem Kk (m k:Nat):(tf m k).length=m+k:=by simp [tf]
theorem Fo {m k j:Nat} (h:j≤k):bv (jd (tf m k)) m ((List.replicate j true).map Value.bool)=jd (tf (m+j) (k - j)):=by
 unfold bv jd tf;apply qLB.1;simp only[qV,List.map_replicate,qi];rw[List.take_left' (by simp),List.drop_append,List.drop_replicate,qi,List.drop_replicate];rw[show m - (m+j)=0 by omega,show m+j - m=j by omega,<- List.replicate_append_replicate];simp
theorem Mq (n:Nat):madeCells #[.bool false] (n * 1)=jd (tf 0 n):=by
 rw[qT];apply qLB.1;rw[toList_madeCells_one];simp [jd,tf]
theorem re (W:wD){kx:Nat} (hx:Blk W kx #[.bool true] 4) (R:Nat) (h1:1≤R) (h2:R≤1000) :
  Calls prog 32 #[.slice (some ⟨kx,0,none⟩) 1 1,.int .i64 R] W λ e w=>∃ k:Nat,e=eZ (.slice (some ⟨k,0,none⟩) R R)/\Sep.Post emp W (blk k (jd (tf R 0)) 4) w:=by
 refine apw _ 1 1 R (aa (λ q=>absurd (qB q) (by omega)) (λ _=>?_));rintro z rfl z2 rfl;rw[ahy (show 1<18446744073709551616 by decide),ahy (show R<18446744073709551616 by omega)];refine apy 1 R ((Sg W R (by omega)).mono ?_);rintro e w2 ⟨rfl,rfl⟩;refine⟨_,_,rfl,_,_,rfl,aa (λ q=>by cases q) (λ _=>aa (λ q=>absurd (qB q) (by omega)) (λ _=>?_))⟩;rintro z5 rfl;rw[w64 (e:=(R:Int)) (by omega) (by omega)];refine⟨⟨by omega,by omega,by omega,by omega⟩,(St.nil w2).al λ k w3 H=>?_⟩;rw[qG];have e0:madeCells #[.bool false] (R * 1)=jd (tf 0 R):=Mq R;rw[qG,e0] at H;have hx3:Blk w3 kx #[.bool true] 4:=hx.keep H.touch (λ e=>e);have hmin:Nat.min 1 R=1:=qPB h1;rw[hmin]
 have hc:∀ {B:wD} {l:List Bool} {L:List Asn},St w2 (λ _=>False) B (blk k (jd l) 4::L)->∀ i,i<l.length->(∃ u,B.cell? ⟨k,i,none⟩=some u)/\B.frozen? ⟨k,i,none⟩=false:=by
  intro B l L H i hi;exact⟨⟨_,H.ld 0 rfl (yj (qC hi))⟩,(H.blk 0 rfl).frozen i⟩
 refine⟨[.bool true],rfl,by intro v hv;simp at hv;subst hv;rfl,.inr ⟨⟨_,rfl,λ j u hj=>?_⟩,k,0,rfl,λ j hj=>by rw[qW];exact hc H j (by rw[Kk];simp at hj;omega)⟩,?_⟩
 ·rw[ac]
  cases j with
  | zero=>cases hj;exact hx3.cell' rfl
  | succ j=>cases hj
 rintro w4 rfl;have H:=H.wrs 0 rfl 0 ((List.replicate 1 true).map Value.bool) (by rw[og,Kk];simp;omega);rw[Fo h1] at H
 have H:St w2 (λ _=>False) (w3.setCells k 0 [.bool true]) [blk k (jd (tf 1 (R - 1))) 4]:=by rw[qW] at H;exact H
 refine⟨λ x B=>∃ m:Nat,x=m/\1≤m/\m≤R/\St w2 (λ _=>False) B [blk k (jd (tf m (R - m))) 4],λ x _=>R - x.toNat,⟨1,rfl,by omega,h1,H⟩,λ _=>?_⟩;clear H hx3;rintro x w5 ⟨m,rfl,hm1,hm2,H⟩;refine aa (λ q=>?_) (λ q=>?_)
 ·have q:=qB q;refine H.dr λ w6 H=>⟨⟨by omega,by omega⟩,⟨by omega,by omega⟩,?_⟩;rw[qG];have hj:Nat.min m (R - m)≤R - m:=Nat.min_le_right _ _;have hj2:Nat.min m (R - m)≤m:=Nat.min_le_left _ _;have hj3:1≤Nat.min m (R - m):=Nat.le_min.2 ⟨hm1,by omega⟩;generalize Nat.min m (R - m)=j at hj hj2 hj3
  have hsub:Sx.sub (some ⟨k,0,none⟩) R m 1=some ⟨k,m,none⟩:=by
   unfold Sx.sub;rw[if_neg (by omega),Option.map_some,ac,qW,qT]
  rw[hsub];refine⟨(List.replicate j true).map Value.bool,by simp,by intro v hv;simp at hv;rw[hv.2];rfl,.inr ⟨⟨_,rfl,λ i u hi=>?_⟩,k,m,rfl,λ i hi=>hc H (m+i) (by rw[Kk];simp at hi;omega)⟩,?_⟩
  ·rw[ac,qW]
   have hil:i<j:=by have:=(qD.1 hi).1;simpa using this
   have hu:u= .bool true:=by
    rw[qS,qEC,if_pos hil] at hi;exact(Option.some.inj hi).symm
   rw[hu];refine H.ld 0 rfl (yj ?_);unfold tf;rw[qk (by simp;omega),qEC,if_pos (by omega)]
  rintro w7 rfl;have H:=H.wrs 0 rfl m ((List.replicate j true).map Value.bool) (by rw[og,Kk];simp;omega);rw[Fo hj] at H;rintro z6 rfl;rw[w64 (by omega) (by omega)];refine⟨⟨m+j,by omega,by omega,by omega,?_⟩,by show R - ((m:Int)+(j:Int)).toNat<R - (m:Int).toNat;omega⟩;rw[show R - (m+j)=R - m - j by omega];exact H
 ·have q:=qE q;obtain rfl:m=R:=by omega
  rw[Nat.sub_self] at H;exact⟨k,rfl,H.new 0 rfl⟩
def ahd (S R:Int):Prop:=2≤S/\S≤64/\34≤R/\R≤128
instance (S R:Int):Decidable (ahd S R):=inferInstanceAs (Decidable (_/\_))
def il:Slot:=⟨0,0,0,0,0,0⟩
structure WS.Fresh (w:WS) (S R:Nat):Prop where
 ok:w.Ok
 s:w.S=S
 r:w.R=R
 n:w.n=0
 next:w.next=0
 ready:w.ready=List.replicate R true
 head:w.head=0
theorem wnew_good (W:wD) (S R:Nat) (h:ahd S R):Calls prog 22 #[.int .i64 S,.int .i64 R] W λ e w=>∃ x:{ x:Nat×WS // x.2.Fresh S R },e=eY #[pZ x.1.1 0,.nilIface]/\Sep.Post emp W (winA x.1.1 x.1.2) w:=by
 obtain⟨h1,h2,h3,h4⟩:=h
 have er:madeCells #[.int .i64 0,.int .i64 0,.int .i64 0,.int .i64 0,.int .u8 0,.int .i64 0] (((S:Nat):Int).toNat * 6)=rows Slot.cells (List.replicate S il):=by
  rw[qG];exact xh (f:=Slot.cells) (x0:=il) rfl (by decide) S
 have fresh:∀ g rg,WS.Fresh ⟨g,S,0,0,0,List.replicate S il,rg,R,tf R 0⟩ S R:=λ g rg=>⟨⟨by show 2≤S;omega,by show S≤64;omega,by simp,by show 0<S;omega,qQ _,by show 0<_;decide,by show 34≤R;omega,by show R≤128;omega,by simp [tf],λ s hs=>by rw[(qSB.1 hs).2];decide⟩,rfl,rfl,rfl,rfl,by simp [tf],rfl⟩
 have fin:∀ {A:wD} {g rg:Nat} {L:List Asn},St W (λ _=>False) A (blk g (rows Slot.cells (List.replicate S il)) 230::blk rg (jd (tf R 0)) 4::L)->∀ vs:AV,vs=#[.slice (some ⟨g,0,none⟩) S S,.int .i64 0,.int .i64 0,.int .i64 0,.slice (some ⟨rg,0,none⟩) R R]->∀ (k:Nat) (B:wD),k=A.heap.size->B=A.alloc (.cells (Value.cells (.agg vs)) 120) ->
   ∃ x:{ x:Nat×WS // x.2.Fresh S R },eY #[pZ k 0,.nilIface]=eY #[pZ x.1.1 0,.nilIface]/\Sep.Post emp W (winA x.1.1 x.1.2) B:=by
  rintro A g rg L H vs rfl;refine H.al λ k B H=>⟨⟨(k,⟨g,S,0,0,0,List.replicate S il,rg,R,tf R 0⟩),fresh g rg⟩,rfl,?_⟩
  have hlast:(blk g (rows Slot.cells (List.replicate S il)) 230::blk rg (jd (tf R 0)) 4::L++[blk k (Value.cells (.agg #[.slice (some ⟨g,0,none⟩) S S,.int .i64 0,.int .i64 0,.int .i64 0,.slice (some ⟨rg,0,none⟩) R R])) 120])[2+L.length]?=some (blk k (Value.cells (.agg #[.slice (some ⟨g,0,none⟩) S S,.int .i64 0,.int .i64 0,.int .i64 0,.slice (some ⟨rg,0,none⟩) R R])) 120):=by
   rw[qf (by simp;omega)];simp only[qy];rw[show 2+L.length - (L.length+1+1)=0 by omega];rfl
  have H:=H.front (2+L.length) hlast
  have e:(blk g (rows Slot.cells (List.replicate S il)) 230::blk rg (jd (tf R 0)) 4::L++[blk k (Value.cells (.agg #[.slice (some ⟨g,0,none⟩) S S,.int .i64 0,.int .i64 0,.int .i64 0,.slice (some ⟨rg,0,none⟩) R R])) 120]).eraseIdx (2+L.length)=blk g (rows Slot.cells (List.replicate S il)) 230::blk rg (jd (tf R 0)) 4::L:=by
   rw[List.eraseIdx_append_of_length_le (by simp;omega)];simp;omega
  rw[e] at H;exact(St.shut H).new 0 rfl
 refine aps S R (aa (λ q=>absurd (qB q) (by omega)) (λ _=>aa (λ q=>absurd (qB q) (by omega)) (λ _=>aa (λ q=>absurd (qB q) (by omega)) (λ _=>aa (λ q=>absurd (qB q) (by omega)) (λ _=>?_)))));refine(St.nil W).dr λ w2 H=>⟨⟨⟨by omega,by omega,by omega,by omega⟩,?_⟩,?_⟩
 ·rw[er];refine H.alb λ k w3 H _ b3=>⟨b3,H.alb λ k2 w4 H _ b4=>⟨b3.trans (b4.mono b3.size),?_⟩⟩;refine(re w4 (H.nth 1 rfl) R (by omega) (by omega)).mono ?_;rintro e w5 ⟨rg,rfl,hp⟩;have H:=H.add hp;refine⟨_,_,_,rfl,?_⟩;rw[qG];exact fin (H.pick [0,2,1])
 ·refine H.alb λ k2 w3 H _ b3=>⟨b3,⟨⟨by omega,by omega,by omega,by omega⟩,?_⟩,?_⟩
  ·rw[er];refine H.alb λ k w4 H _ b4=>⟨b3.trans (b4.mono b3.size),?_⟩;refine(re w4 (H.nth 0 rfl) R (by omega) (by omega)).mono ?_;rintro e w5 ⟨rg,rfl,hp⟩;have H:=H.add hp;refine⟨_,_,_,rfl,?_⟩;rw[qG];exact fin (H.pick [1,2,0])
  ·refine(re w3 (H.nth 0 rfl) R (by omega) (by omega)).mono ?_;rintro e w5 ⟨rg,rfl,hp⟩;have H:=H.add hp;refine⟨_,_,_,rfl,⟨by omega,by omega,by omega,by omega⟩,?_⟩;rw[er];refine H.al λ k w6 H=>?_;rw[qG];exact fin (H.pick [2,1,0])
end Go.Proofs.YtmncepdbglaphaaGreatDoor.win
