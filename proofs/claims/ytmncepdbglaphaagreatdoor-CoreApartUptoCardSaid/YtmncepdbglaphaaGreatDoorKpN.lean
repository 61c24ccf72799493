/- A part of the walk. No condition. -/
import Derived.Test.YtmncepdbglaphaaGreatDoorBusBody
import Derived.Test.YtmncepdbglaphaaGreatDoorKbA
import Derived.Test.YtmncepdbglaphaaGreatDoorLsqH
set_option maxRecDepth 100000
namespace Go.Proofs.YtmncepdbglaphaaGreatDoor.cbus
open Go.RowKit Go.XHeap Go.Sx Go.Sep Go.RangeC Go.Shelf
attribute [local go_sem] Oper.semAt_some
variable {W w:wD}{b m:Nat}{B:BP}{S S':PB}{L:List Asn}{p:OA}{c:Nat}{l:LN}
def No:Nat->Prop:=λ _=>False
theorem St.rec_ {M T:Nat->Prop}{A B:wD}{L:List Asn} (H:St W M A L) (ht:XTouch T A B) (hn:∀ q,owns L q->¬ T q) (hT:∀ q,T q->W.heap.size≤q):St W M B L :=
 ⟨H.touch.trans ht (λ q hq e=>by have:=hT q e;omega),λ q hq=>(H.mine q hq),H.here.keep ht hn⟩
def PB.upto (S:PB) (k:Nat):LN:=(List.range k).foldl (λ l j=>(S.C j).ways.foldl keepM l) S.mem
def PB.data (S:PB):LN:=S.upto S.Cs.length
def sk (p:OA) (n c:Nat):AV:=#[.slice none 0 0,.int .i64 0,.slice p n c,.map none,.int .i64 0,.int .i64 0,.int .i64 0]
theorem Ch {C:CS}{len m:Nat} (h:C.Good len m):∀ y ∈ C.ways,y.Ok/\bm len y.line/\y.state≠0:=by
 intro y hy;unfold CS.ways at hy;rw[qrB,List.mem_flatten] at hy;obtain⟨⟨s,hs,hy⟩,hv⟩:=hy
 have hv:y.state≠0:=by unfold Way.valid at hv;simpa using hv
 exact⟨h.ok.way s hs y hy,h.line s hs y hy hv,hv⟩
theorem Ci:∀ {ys:List Way}{l:LN},(∀ y ∈ ys,y.Ok/\bm l.length y.line/\y.state≠0)->(ys.foldl keepM l).length=l.length
 | [],l,_=>rfl
 | y::ys,l,h=>by
  have h1:=h y (by simp);have e:=my h1.1 (l:=l) (λ _=>h1.2.1);show(ys.foldl keepM (keepM l y)).length=_;rw[Ci (λ z hz=>by rw[e];exact h z (by simp [hz])),e]
theorem upto_len (ho:S.Ok m):∀ k,k≤S.Cs.length->(S.upto k).length=S.len
 | 0,_=>rfl
 | k+1,hk=>by
  have ih:=upto_len ho k (by omega);unfold PB.upto at ih ⊢;rw[List.range_succ,qwB];show((S.C k).ways.foldl keepM _).length=_;rw[Ci (λ y hy=>by rw[ih];exact Ch (ho.cs k (by omega)) y hy),ih]
theorem Qq (k:Nat):S.upto (k+1)=(S.C k).ways.foldl keepM (S.upto k):=by
 unfold PB.upto;rw[List.range_succ,qwB];rfl
theorem bytes_of (hm:(memA p c l).at_ W):Cg W p l:=by
 intro i x hx;have hi:=(qD.1 hx).1;obtain⟨-,hm2⟩:=El hm;obtain⟨g,off,e,h4⟩:=hm2 (by omega);have:=(h4 i hi).1;rw[qF,hx] at this;exact⟨g,off,e,World.block_lt_of_cell? _ _ this,this⟩
theorem memA_ptr (hm:(memA p c l).at_ W):p=none∨∃ g off,p=some ⟨g,off,none⟩:=by
 rcases hm.2 with ⟨h, -⟩ | ⟨g,off,cap,cur,h, -⟩
 ·grind
 ·grind
def toExit:Ex->Exit
 | .normal=>.normal
 | .exit i=>.exit i
 | .ret=>.ret
theorem round_post {W0 A:wD}{I:Nat->wD->Prop}{Ix:Code->wD->Prop}{k n:Nat}{c:Code}{a a0:Act}:∀ (e:Exit) (a':Act) (w:wD),Sx.Post n c (λ e _ w=>roundEnd W0 I Ix k A (toExit e) a0 w) a e a' w->roundEnd W0 I Ix k A e a' w
 | .normal,_,_,h=>by obtain⟨⟨F, -,h⟩, -⟩:=h;exact h
 | .exit _,_,_,h=>by obtain⟨⟨F, -,h⟩, -⟩:=h;exact h
 | .ret,_,_,h=>by obtain⟨⟨F, -,h⟩, -⟩:=h;exact h
 | .goto _,_,_,h=>h.elim
 | .panic _,_,_,h=>h.elim
 | .outgrown,_,_,h=>h.elim
def mark (D:Nat):Asn:=⟨λ k=>k=D,λ w=>w.heap[D]?=some (.deferred (some [])),λ h ht hn=>(ht.block _ (qUB.1 h).1 (hn _ rfl)).trans h,λ h k e=>by subst e;exact(qUB.1 h).1⟩
def dM (D:Nat):Deferred:={ target:=.collected D,args:=#[] }
def akc:Value->Nat
 | .int _ x=>x.toNat
 | _=>0
theorem Ai {w:wD}:∀ {Ds:LN},Sep.here (Ds.map mark) w->(∀ D ∈ Ds,w.heap[D]?=some (.deferred (some [])))/\Ds.Nodup
 | [],_=>⟨λ D h=>(qFB h).elim,List.nodup_nil⟩
 | D::Ds,h=>by
  obtain⟨h1,h2,h3⟩:=h;obtain⟨i1,i2⟩:=Ai h3;refine⟨λ E hE=>?_,qcB.2 ⟨λ hD=>?_,i2⟩⟩
  ·rcases qp.1 hE with rfl | hE
   ·exact h1
   ·grind
  ·exact h2 D rfl (owns_iff.2 ⟨_,_,(qu (qFC (f:=mark) hD)).choose_spec,rfl⟩)
theorem vh {F:Fence}{n:Nat}{P:Program}{fn:Func}{tmps:AV}{R:Ending->wD->Prop}:∀ (E:LN) (A:wD),(∀ D ∈ E,A.heap[D]?=some (.deferred (some [])))->E.Nodup ->
  (∀ A',XTouch (λ q=>q ∈ E) A A'->LeavesIn F n P fn tmps R [] .returning A')->LeavesInM F n P fn tmps R (E.map dM) .returning A
 | [],A,_,_,h=>h A (qH _ _)
 | D::E,A,h1,h2,h=>by
  have hD:=h1 D (by simp);have hne:∀ D' ∈ E,D'≠D:=λ D' hD' e=>(qcB.1 h2).1 (e ▸ hD');have ht:XTouch (λ q=>q=D) A (A.putObj D (.deferred none)):=touch_putObj A D _;refine⟨by simp,.inl ⟨D,_,rfl,run_takeDeferred hD,vh E _ (λ D' hD'=>?_) (qcB.1 h2).2 λ A' hA'=>?_⟩⟩
  ·rw[World.putObj_heap_other (hne D' hD')];exact h1 D' (by simp [hD'])
  ·exact h A' ((ht.mono λ q _ e=>by rw[e];simp).trans hA' λ q _ e=>by simp [e])
theorem marks_own {q:Nat}:∀ {Ds:LN},(all (Ds.map mark)).own q↔q ∈ Ds
 | []=>⟨λ h=>h.elim,λ h=>(qFB h).elim⟩
 | D::Ds=>by
  have ih:=marks_own (q:=q) (Ds:=Ds);rw[qp];exact⟨λ h=>h.imp id ih.1,λ h=>h.imp id ih.2⟩
theorem memA_own {p:OA}{c c':Nat}{l l':LN}{q:Nat}:(memA p c l).own q↔(memA p c' l').own q:=by
 cases p <;> exact Iff.rfl
theorem Qr (hA:(busA b B S).at_ W){k gk:Nat} (hgk:B.gs.getD k 0=gk) (hk:k<S.Cs.length) (hB:B.gs.length=S.Cs.length):(af gk (S.C k)).at_ W:=by
 have:=kw hA hB hk;rw[hgk] at this;exact this
theorem Qs (W:wD) (c:Nat):Calls Tryz.prog 45 #[pZ c 0] W λ e w=>e=eZ (.func (.func 76) #[] #[pZ W.heap.size 0])/\w=W.alloc (.cells #[pZ c 0] 78):=by
 refine aoe c 0 ?_;rintro k w2 rfl rfl;exact⟨rfl,rfl⟩
set_option maxHeartbeats 4000000 in
theorem data_any (hA:(busA b B S).at_ W) (ho:S.Ok m) (hB:B.gs.length=S.Cs.length) :
  Calls Tryz.prog 31 #[pZ b 0] W λ e w=>∃ z:OA×Nat,e=eZ (.slice z.1 S.len z.2)/\Sep.Post emp W (memA z.1 z.2 S.data) w:=by
 have H0:=az hA;have hmem:=H0.nth 4 rfl;have c2:W.cell? ⟨b,2,none⟩=some (.slice B.dp S.len B.dc):=H0.ld 0 rfl rfl;have hcl:=Es (W:=W) (c:=B.dc) (bytes_of hmem) (memA_ptr hmem) (by exact ho.len);refine(callsIn_wide (n:=3)).1 ?_;refine callsIn_of_wp_marks Tryz.func31 rfl trivial ?_ rfl;simp only[Tryz.ntmps31,qnB,qy,List.length_nil,Nat.reduceAdd,Nat.reduceSub,Array.replicate_succ,Array.replicate_zero,List.push_toArray,List.append_toArray,qr,qAC];have keep:∀ {A:wD} {L:List Asn},St W No A L->(busA b B S).at_ A:=λ H=>(busA b B S).keep hA H.touch (λ _ _ e=>e)
 have start:∀ {w2:wD} {z:OA×Nat},Sep.Post emp W (memA z.1 z.2 S.mem) w2->St W No ((w2.alloc (.cells (sk z.1 S.mem.length z.2) 77)).alloc (.cells #[pZ w2.heap.size 0] 63)) [memA z.1 z.2 S.mem,blk w2.heap.size (sk z.1 S.mem.length z.2) 77,blk (w2.heap.size+1) #[pZ w2.heap.size 0] 63]:=by
  intro w2 z hz;have H:=((St.nil W).add hz).alloc (sk z.1 S.mem.length z.2) 77;have H:=H.alloc #[pZ w2.heap.size 0] 63;rw[World.size_alloc] at H;exact H
 have start2:∀ {w2:wD} {z:OA×Nat},Sep.Post emp W (memA z.1 z.2 S.mem) w2->((w2.alloc (.cells (sk z.1 S.mem.length z.2) 77)).alloc (.cells #[pZ w2.heap.size 0] 63)).cell? ⟨b,0,none⟩=some (.slice B.p S.Cs.length B.c) :=
  λ hz=>(az (keep (start hz))).ld 0 (i:=0) rfl rfl
 unfold sk at start start2
 gi_wp2_with (refine⟨trivial,?_⟩;gi_at_call 19;refine(callsIn_wide.2 hcl).mono ?_;rintro e w2 ⟨z,rfl,hz⟩;have H:=start hz;have c0:=start2 hz)
 obtain⟨W0,hW0⟩:∃ W0,(w2.alloc (.cells #[.slice none 0 0,.int .i64 0,.slice z.1 S.mem.length z.2,.map none,.int .i64 0,.int .i64 0,.int .i64 0] 77)).alloc (.cells #[pZ w2.heap.size 0] 63)=W0:=⟨_,rfl⟩;rw[hW0] at H c0 ⊢;clear hW0 start start2;generalize hkd:w2.heap.size=kd at *;generalize hkp:kd+1=kp at *;have hn:=ho.n;obtain⟨g,off,hp, -⟩:=jq (H0.nth 1 rfl) hB (k:=0) (by omega);rw[hp] at c0 ⊢;have H:St W No W0 [memA z.1 z.2 (S.upto 0),blk kd #[.slice none 0 0,.int .i64 0,.slice z.1 S.mem.length z.2,.map none,.int .i64 0,.int .i64 0,.int .i64 0] 77,blk kp #[pZ kd 0] 63,all (([]:LN).map mark)]:=H.add (A:=all []) ⟨trivial,qH _ _,λ q e=>e.elim⟩
 refine wpIn_loop (λ a wr=>∃ (k:Nat) (Ds:LN) (v5 v20 v21 v22 v23 v24 v29:Value),a={ tmps:=#[pZ b 0,undef,.slice none 0 0,pZ kp 0,undef,v5,undef,pZ b 0,pZ b 0,pZ b 2,.slice B.dp S.len B.dc,.slice z.1 S.mem.length z.2,.agg #[.slice none 0 0,.int .i64 0,.slice z.1 S.mem.length z.2,.map none,.int .i64 0,.int .i64 0,.int .i64 0],pZ kd 0,pZ b 0,pZ b 0,pZ b 0,.slice (some ⟨g,off,none⟩) S.Cs.length B.c,.int .i64 S.Cs.length,.int .i64 k,v20,v21,v22,v23,v24,undef,undef,undef,undef,v29,undef,undef,undef,undef],defers:=Ds.reverse.map dM }/\k≤S.Cs.length /\
   St W No wr [memA z.1 z.2 (S.upto k),blk kd #[.slice none 0 0,.int .i64 0,.slice z.1 S.mem.length z.2,.map none,.int .i64 0,.int .i64 0,.int .i64 0] 77,blk kp #[pZ kd 0] 63,all (Ds.map mark)])
  (λ a _=>S.Cs.length - akc (a.tmps.getD 19 undef)) ⟨0,[],undef,undef,undef,undef,undef,undef,undef,rfl,qQ _,H⟩ ?_
 clear H;rintro a wr ⟨k,Ds,v5,v20,v21,v22,v23,v24,v29,rfl,hk,H⟩;by_cases hlt:k<S.Cs.length
 ·have hd:decide ((k:Int)<(S.Cs.length:Int))=true:=qI (by omega);obtain⟨g',off',hp',hcell⟩:=jq ((az (keep H)).nth 1 rfl) hB hlt;rw[hp] at hp';cases hp';obtain⟨gk,hgk⟩:∃ gk,B.gs.getD k 0=gk:=⟨_,rfl⟩;rw[hgk] at hcell
  gi_wp2_with (refine⟨trivial,?_⟩;gi_at_call 45;refine(callsIn_wide.2 (Qs _ _)).mono ?_;rintro e w2 ⟨rfl,rfl⟩)
  obtain⟨w3,hw3⟩:∃ w3,wr.alloc (.cells #[pZ gk 0] 78)=w3:=⟨_,rfl⟩;have H1:=H.alloc #[pZ gk 0] 78;rw[hw3] at H1 ⊢;have hg:=ho.cs k hlt;have hlen:=upto_len ho k (by omega)
  have hown:∀ {j:Nat} {q:Nat},owns [memA z.1 z.2 (((S.C k).ways.take j).foldl keepM (S.upto k)),blk kd #[.slice none 0 0,.int .i64 0,.slice z.1 S.mem.length z.2,.map none,.int .i64 0,.int .i64 0,.int .i64 0] 77,blk kp #[pZ kd 0] 63,all (Ds.map mark),blk wr.heap.size #[pZ gk 0] 78] q->q<w3.heap.size:=by
   intro j q hq;refine H1.here.lt q ?_;rcases hq with e | e
   ·exact .inl (memA_own.1 e)
   ·exact .inr e
  refine range_m (n:=3) (N:=(S.C k).ways.length) (enc:=(S.C k).encLine) (Inv:=Jj wr.heap.size gk (S.C k)) rfl (enters_of Tryz.func76 (by kernel_rfl) rfl) (Hh hg.ok 3 wr.heap.size gk)
   (λ j A=>St W No A [memA z.1 z.2 (((S.C k).ways.take j).foldl keepM (S.upto k)),blk kd #[.slice none 0 0,.int .i64 0,.slice z.1 S.mem.length z.2,.map none,.int .i64 0,.int .i64 0,.int .i64 0] 77,blk kp #[pZ kd 0] 63,all (Ds.map mark),blk wr.heap.size #[pZ gk 0] 78]) (λ _ _=>False)
   (λ j a A=>∃ kl:Nat,w3.heap.size+2≤kl/\a.tmps.size=34/\a.defers=[]/\a.tmps.getD 3 undef=pZ kp 0/\a.tmps.getD 6 undef=pZ kl 0/\St W No A [memA z.1 z.2 (((S.C k).ways.take j).foldl keepM (S.upto k)),blk kd #[.slice none 0 0,.int .i64 0,.slice z.1 S.mem.length z.2,.map none,.int .i64 0,.int .i64 0,.int .i64 0] 77,blk kp #[pZ kd 0] 63,all (Ds.map mark),blk wr.heap.size #[pZ gk 0] 78,blk kl ((S.C k).ways.getD j zeroWay).lineC.toArray 167])
   (λ j A B' hi ht=>St.rec_ hi ht (λ q hq hr=>by have:=hown hq;rcases hr with hr | hr <;> omega) (λ q hr=>by have:=H1.size;rcases hr with hr | hr <;> omega)) (λ c A B' h _=>h) ?asg
   (λ j A hi=>⟨hi.nth 4 rfl,Qr (keep hi) hgk hlt hB⟩) (by exact H1) ?assign ?body ?done (λ c A h _=>h.elim)
  case asg =>
   rintro j a A B' ⟨kl,hkl,h1,h2,h3,h4,hi⟩ ht;refine⟨kl,hkl,h1,h2,h3,h4,St.rec_ hi ht (λ q hq hr=>?_) (λ q hr=>by have:=H1.size;rcases hr with hr | hr <;> omega)⟩;rcases owns_append.1 (show owns ([memA z.1 z.2 (((S.C k).ways.take j).foldl keepM (S.upto k)),blk kd #[.slice none 0 0,.int .i64 0,.slice z.1 S.mem.length z.2,.map none,.int .i64 0,.int .i64 0,.int .i64 0] 77,blk kp #[pZ kd 0] 63,all (Ds.map mark),blk wr.heap.size #[pZ gk 0] 78]++[blk kl ((S.C k).ways.getD j zeroWay).lineC.toArray 167]) q from hq) with hq | hq
   ·have:=hown hq;rcases hr with hr | hr <;> omega
   ·rcases hq with hq | hq
    ·have hq:q=kl:=hq;rcases hr with hr | hr <;> omega
    ·exact hq
  case assign =>
   intro l j A K hj hi hsz hK;have hHl:=hi.alloc zeroLine.toArray 167;have hyo:=Ch hg ((S.C k).ways.getD j zeroWay) (by rw[qF,qC hj];exact qjB hj);have henc:(S.C k).encLine j= .agg ((S.C k).ways.getD j zeroWay).lineC.toArray:=rfl;rw[henc];generalize (S.C k).ways.getD j zeroWay=y at *
   have h18:y.lineC.toArray.size=18:=by simpa using jp hyo.1
   have hst:(storeCells ⟨A.heap.size,0,none⟩ y.lineC).run Tryz.prog (A.alloc (.cells zeroLine.toArray 167))= .ok () ((A.alloc (.cells zeroLine.toArray 167)).setCells A.heap.size 0 y.lineC):=by
    have hq18:∀ j,j<y.lineC.length->j<18:=λ j hj=>by
     have:y.lineC.length=18:=by simpa using h18
     omega
    have:=run_storeCells_cells (P:=Tryz.prog) A.heap.size 0 y.lineC 0 (A.alloc (.cells zeroLine.toArray 167)) (λ j hj=>by
     rw[show 0+0+j=j by omega,(hHl.blk 5 rfl).cell' (i:=j) (qh (by show j<18;exact hq18 j hj))]
     rfl) (λ j hj=>(hHl.blk 5 rfl).frozen _) (dy _ _ _)
    simpa using this
   have hz:zeroLine.toArray=#[.int .u32 0,.int .i64 0,.int .u8 0,.int .u8 0,.int .u8 0,.int .u8 0,.int .u8 0,.int .u8 0,.int .u8 0,.int .u8 0,.int .u8 0,.int .u8 0,.int .u8 0,.int .u8 0,.int .u8 0,.int .u8 0,.int .u8 0,.int .u8 0]:=rfl;rw[hz] at hst hHl
   gi_wp2
   have hsz18:0+y.lineC.length≤(zeroLine.toArray).size:=by
    have:y.lineC.length=18:=by simpa using h18
    show 0+y.lineC.length≤18;omega
   have h7:=hHl.wrs 5 rfl 0 y.lineC hsz18
   rw[zv _ _ (by
    have:y.lineC.length=18:=by simpa using h18
    exact this)] at h7
   have ht:XTouch (λ q=>q=A.heap.size) A ((A.alloc (.cells zeroLine.toArray 167)).setCells A.heap.size 0 y.lineC):=((qH (λ q=>q=A.heap.size) A).alloc _).trans (bh _ _ _) (λ q _ e=>e);refine hK _ _ ⟨A.heap.size,by omega,rfl,rfl,rfl,rfl,h7⟩ (λ q hq=>ht.block q (by rcases hq with hq | hq <;> omega) (λ e=>by rcases hq with hq | hq <;> omega)) ht.size
  case body =>
   rintro l j a A hj ⟨kl,hkl,h1,h2,h3,h4,hi⟩ hsz;refine wpIn_mono (akb (W:=A) (Q:=λ e B'=>roundEnd w3 (λ j A=>St W No A [memA z.1 z.2 (((S.C k).ways.take j).foldl keepM (S.upto k)),blk kd #[.slice none 0 0,.int .i64 0,.slice z.1 S.mem.length z.2,.map none,.int .i64 0,.int .i64 0,.int .i64 0] 77,blk kp #[pZ kd 0] 63,all (Ds.map mark),blk wr.heap.size #[pZ gk 0] 78]) (λ _ _=>False) j A (toExit e) a B') kp 0 kl 0 (λ J=>?_) h1 h2 h3 h4) round_post;have hy:=Ch hg ((S.C k).ways.getD j zeroWay) (by rw[qF,qC hj];exact qjB hj)
   have h18:((S.C k).ways.getD j zeroWay).lineC.toArray.size=18:=by simpa using jp hy.1
   refine⟨_,hi.ld 2 rfl rfl,_,h18,hi.cells 5 rfl,?_⟩
   have hfl:(((S.C k).ways.take j).foldl keepM (S.upto k)).length=S.mem.length:=by
    rw[Ci (λ y hy=>by rw[hlen];exact Ch hg y (qRB hy))];exact hlen
   have hnb:¬ (memA z.1 z.2 (((S.C k).ways.take j).foldl keepM (S.upto k))).own kd:=Sep.St.disj hi.here 1 0 (by decide) rfl rfl kd rfl;refine(Jh (l:=((S.C k).ways.take j).foldl keepM (S.upto k)) (hi.blk 1 rfl) (by rw[hfl];rfl) (hi.nth 0 rfl) hnb (by rw[hfl];exact ho.len) hy.1 (λ _=>by rw[hfl];exact hy.2.1)).mono ?_;rintro e A2 ⟨rfl,hpost⟩;refine⟨rfl,?_,?_⟩
   ·intro q hq;refine hpost.2.1.block q (by rcases hq with hq | hq <;> omega) (λ e=>?_);have:=hown (j:=j) (q:=q) (.inl e);rcases hq with hq | hq <;> omega
   ·have H5:=hi.upd 0 rfl hpost
    have e:keepM (((S.C k).ways.take j).foldl keepM (S.upto k)) ((S.C k).ways.getD j zeroWay)=((S.C k).ways.take (j+1)).foldl keepM (S.upto k):=by
     rw[qfB,qwB,qF,qC hj];rfl
    rw[e] at H5;exact H5.take 5
  case done =>
   intro A hi hD
   have hw1:IntKind.wrap .i64 ((k:Int)+1)=((k+1:Nat):Int):=by rw[w64 (by omega) (by omega)];omega
   rw[List.take_length,<- Qq] at hi
   have hlow:∀ q,owns [memA z.1 z.2 (S.upto (k+1)),blk kd #[.slice none 0 0,.int .i64 0,.slice z.1 S.mem.length z.2,.map none,.int .i64 0,.int .i64 0,.int .i64 0] 77,blk kp #[pZ kd 0] 63,all (Ds.map mark),blk wr.heap.size #[pZ gk 0] 78] q->q<w3.heap.size:=λ q hq=>hown (j:=0) (by
    rcases hq with e | e
    ·exact .inl (memA_own.1 e)
    ·exact .inr e)
   have hadd:St W No A ([memA z.1 z.2 (S.upto (k+1)),blk kd #[.slice none 0 0,.int .i64 0,.slice z.1 S.mem.length z.2,.map none,.int .i64 0,.int .i64 0,.int .i64 0] 77,blk kp #[pZ kd 0] 63,all (Ds.map mark),blk wr.heap.size #[pZ gk 0] 78]++[mark w3.heap.size]):=by
    refine⟨hi.touch,λ q hq=>?_,here_append.2 ⟨hi.here,⟨hD,λ _ _ e=>e,trivial⟩,λ q hq hq2=>?_⟩⟩
    ·rcases owns_append.1 hq with e | e
     ·exact hi.mine q e
     ·rcases e with e | e
      ·have e:q=w3.heap.size:=e;have:=H1.size;exact .inr (by omega)
      ·exact e.elim
    ·have:=hlow q hq;rcases hq2 with e | e
     ·have e:q=w3.heap.size:=e;omega
     ·exact e
   have hfin:St W No A [memA z.1 z.2 (S.upto (k+1)),blk kd #[.slice none 0 0,.int .i64 0,.slice z.1 S.mem.length z.2,.map none,.int .i64 0,.int .i64 0,.int .i64 0] 77,blk kp #[pZ kd 0] 63,all ((Ds++[w3.heap.size]).map mark)]:=by
    have h6:=(hadd.pick [3,5,0,1,2]).push;rw[qV];exact h6.pick [1,2,3,0]
   have hds:(⟨.collected w3.heap.size,#[]⟩:Deferred)::(List.map dM Ds).reverse=(Ds++[w3.heap.size]).reverse.map dM:=by
    simp [dM]
   gi_wp2
   all_goals exact⟨⟨k+1,Ds++[w3.heap.size],_,_,_,_,_,_,_,by rw[<- hds];rfl,by omega,hfin⟩,by show S.Cs.length - ((k:Int)+1).toNat<S.Cs.length - (k:Int).toNat;omega⟩
 ·have hd:decide ((k:Int)<(S.Cs.length:Int))=false:=qM (by omega);obtain rfl:k=S.Cs.length:=by omega
  have cp:=H.ld 2 (i:=0) rfl rfl;have cd:=H.ld 1 (i:=2) rfl rfl
  gi_wp2
  obtain⟨m1,m2⟩:=Ai (show Sep.here (Ds.map mark) wr from H.nth 3 rfl);show LeavesInM _ _ _ _ _ _ (Ds.map dM).reverse .returning wr;rw[<- List.map_reverse];refine vh Ds.reverse wr (λ D hD=>m1 D (List.mem_reverse.1 hD)) ((List.reverse_perm Ds).nodup_iff.2 m2) λ A' hA'=>?_
  have H2:St W No A' [memA z.1 z.2 (S.upto S.Cs.length)]:=by
   have H1:=H.pick [0,3];have H3:St W No wr [memA z.1 z.2 (S.upto S.Cs.length),all (Ds.map mark)]:=H1;refine St.rec_ (St.take H3 1) hA' (λ q hq hr=>?_) (λ q hr=>?_)
   ·have:=Sep.St.disj H3.here 0 1 (by decide) rfl rfl q (by rcases hq with hq | hq;exact hq;exact hq.elim);exact this (marks_own.2 (List.mem_reverse.1 hr))
   ·rcases H3.mine q (.inr (.inl (marks_own.2 (List.mem_reverse.1 hr)))) with e | e
    ·exact e.elim
    ·exact e
  have hlen:=upto_len ho S.Cs.length (qY _);refine⟨.slice z.1 S.len z.2,?_,z,rfl,?_⟩
  ·simp [results,Tryz.f31,go_sem,PB.len]
  ·exact H2.new 0 rfl
end Go.Proofs.YtmncepdbglaphaaGreatDoor.cbus
namespace Go.Proofs.YtmncepdbglaphaaGreatDoor.ko
open Go.RowKit Go.XHeap Go.Sx Go.Sep Go.Proofs.Tryz
instance:Inhabited Ins:=⟨⟨0,0,0,0,0⟩⟩
structure Fl where
 seq:Int
 pc:Int
 word:Int
 i:Ins
 cls:Int
 mh:Int
 mt:Int
 mv:Int
 guess:Int
 a:Int
 b:Int
 fresh:Int
 old:Int
 value:Int
 next:Int
 taken:Bool
 cause:Int
 tval:Int
 issued:Bool
 done:Bool
 ready:Int
 placed:Bool
 addr:Int
 spoils:Bool
deriving Inhabited
def zeroI:Ins:=⟨0,0,0,0,0⟩
structure Cf where
 width:Int
 window:Int
 queue:Int
 regs:Int
 units:Int
 mul:Int
 bold:Bool
 kind:Int
 bits:Int
 hist:Int
 tgts:Int
 rets:Int
 sets:Int
 ways:Int
 bus:Int
structure Ev where
 core:Int
 cycle:Int
 kind:Int
 seq:Int
 pc:Int
 r:Rt
def Rt.z:Rt:=⟨0,0,0,0,0,0,0⟩
structure Nms where
 names:LI
 uses:LI
 free:LI
def Nms.look (N:Nms) (r:Int):Int:=if r≠0/\¬ (0<r/\r<32) then -1 else N.names.getD r.toNat 0
def Nms.fresh (N:Nms):Int:=N.free.headD 0
def Nms.take (N:Nms) (r:Int):Nms:=⟨N.names.set r.toNat N.fresh,(N.uses.set N.fresh.toNat 1).set (N.look r).toNat 2,N.free.tail⟩
def Nms.undo (N:Nms) (r fresh old:Int):Nms:=⟨N.names.set r.toNat old,(N.uses.set fresh.toNat 0).set old.toNat 1,fresh::N.free⟩
def Nms.release (N:Nms) (p:Int):Nms:=⟨N.names,N.uses.set p.toNat 0,N.free++[p]⟩
structure Prd where
 kind:Int
 tab:LI
 hist:Int
 mask:Int
 tgts:List (Int×Int×Bool)
 stack:LI
 top:Nat
def rets (i:Ins):Bool:=i.op==4&&(i.rs1==1&&i.rd==0)
def calls (i:Ins):Bool:=av i.op==3&&i.rd==1
def nh1 (h:Int):Int:=IntKind.wrap .i64 (h * 2 ^ min 1 (IntKind.bits .i64))
def nh2 (h:Int):Int:=IntKind.wrap .i64 ((bZ .i64 h |||bZ .i64 1).toNat:Int)
def nh3 (h m:Int):Int:=IntKind.wrap .i64 ((bZ .i64 h &&&bZ .i64 m).toNat:Int)
def nh (h m:Int) (taken:Bool):Int:=nh3 (if taken then nh2 (nh1 h) else nh1 h) m
def akd (pc h:Int):Int:=IntKind.wrap .u32 ((bZ .u32 pc ^^^ bZ .u32 (wr (wr h * 2 ^ min 2 (IntKind.bits .u32)))).toNat:Int)
def tix (n:Nat) (pc:Int):Nat:=(pc / 4).toNat % n
def Prd.on (P:Prd) (pc:Int) (i:Ins) (taken:Bool):Prd :=
 if av i.op=2 then { P with hist:=nh P.hist P.mask taken }
 else if rets i=true then { P with top:=(P.top+P.stack.length - 1) % P.stack.length }
 else if calls i=true then { P with top:=(P.top+1) % P.stack.length,stack:=P.stack.set ((P.top+1) % P.stack.length) (wr (pc+4)) }
 else P
def Prd.key (P:Prd) (pc h:Int):Int:=if P.kind=3 then akd pc h else pc
def Prd.dir (P:Prd) (pc:Int) (i:Ins) (h:Int):Bool :=
 if P.kind=2∨P.kind=3 then decide (1<P.tab.getD (tix P.tab.length (P.key pc h)) 0)
 else decide (P.kind=1)&&decide (i.imm<0)
def Prd.val (P:Prd):Int:=P.stack.getD P.top 0
def Prd.tgt (P:Prd) (pc:Int):Int×Int×Bool:=P.tgts.getD (tix P.tgts.length pc) (0,0,false)
def Prd.tk (P:Prd) (pc:Int) (i:Ins):Bool:=decide (av i.op=2)&&P.dir pc i P.hist
def Prd.next (P:Prd) (pc:Int) (i:Ins):Int :=
 if av i.op=2 then (if P.dir pc i P.hist then wr (pc+wr i.imm) else wr (pc+4))
 else if i.op=3 then wr (pc+wr i.imm)
 else if rets i=true then P.val
 else if i.op=4 then (if (P.tgt pc).2.2=true/\(P.tgt pc).1=pc then (P.tgt pc).2.1 else wr (pc+4))
 else wr (pc+4)
def Prd.whole (P:Prd) (mh mt:Int):Bool:=(decide (0≤mh)&&decide (mh≤P.mask))&&(decide (0≤mt)&&decide (mt≤(P.stack.length:Int) - 1))
def Prd.back (P:Prd) (mh mt mv pc:Int) (i:Ins) (taken:Bool):Prd :=
 if P.whole mh mt=true then ({ P with hist:=mh,top:=mt.toNat,stack:=P.stack.set mt.toNat mv }:Prd).on pc i taken else P
def cnt (c:Int) (taken:Bool):Int:=if taken then (if c<3 then c+1 else c) else (if 0<c then c - 1 else c)
def Prd.learn (P:Prd) (mh mt pc:Int) (i:Ins) (taken:Bool) (target:Int):Prd :=
 if P.whole mh mt=false then P
 else if av i.op=2 then
  (if P.kind=2∨P.kind=3 then { P with tab:=P.tab.set (tix P.tab.length (P.key pc mh)) (cnt (P.tab.getD (tix P.tab.length (P.key pc mh)) 0) taken) } else P)
 else if i.op=4/\rets i=false then { P with tgts:=P.tgts.set (tix P.tgts.length pc) (pc,target,true) }
 else P
structure Prd.Ok (P:Prd):Prop where
 top:P.top<P.stack.length
 len:P.stack.length≤16
 h0:0≤P.hist
 h1:P.hist≤P.mask
 msk:∃ h:Nat,h≤10/\P.mask=2 ^ h - 1
 tg:∃ t:Nat,t≤8/\P.tgts.length=2 ^ t
 stk:∀ v ∈ P.stack,U32 v
 tgu:∀ x ∈ P.tgts,U32 x.1/\U32 x.2.1
 kind:0≤P.kind/\P.kind≤3
 tab:P.kind=2∨P.kind=3->∃ b:Nat,b≤10/\P.tab.length=2 ^ b
 cnt:∀ c ∈ P.tab,0≤c/\c≤3
def cNorm (C:cbus.CS):cbus.CS:={ C with bs:=0,bo:=0,cap:=0,gs:=List.replicate C.S 0 }
def bNorm (S:cbus.PB):cbus.PB:={ S with Cs:=S.Cs.map cNorm }
theorem getD_set {α:Type} (l:List α) (i j:Nat) (v d:α):(l.set i v).getD j d=if i=j/\j<l.length then v else l.getD j d:=by grind
def rng (R:Nat) (p:Int):Prop:=0≤p/\p<R
structure NmOk (R:Nat) (N:Nms) (olds:LI):Prop where
 n32:N.names.length=32
 uR:N.uses.length=R
 inj:∀ i j,i<32->j<32->N.names.getD i 0=N.names.getD j 0->i=j
 r0:N.names.getD 0 0=0
 od:olds.Nodup
 fd:N.free.Nodup
 un:∀ i,i<32->rng R (N.names.getD i 0)/\N.uses.getD (N.names.getD i 0).toNat 0=1
 uo:∀ p ∈ olds,rng R p/\N.uses.getD p.toNat 0=2
 uf:∀ p ∈ N.free,rng R p/\N.uses.getD p.toNat 0=0
 len:32+olds.length+N.free.length=R
 r1:34≤R/\R≤128
variable {R:Nat}{N:Nms}{olds:LI}
theorem look_reg {r:Int} (h:0≤r/\r<32):N.look r=N.names.getD r.toNat 0:=by
 unfold Nms.look;rw[if_neg (by omega)]
theorem Ew {p q:Int} (hp:rng R p) (hq:rng R q) (h:p≠q):p.toNat≠q.toNat:=by
 unfold rng at hp hq;omega
theorem NmOk.take (h:NmOk R N olds){r:Int} (hr:0<r/\r<32) (hf:N.free≠[]):NmOk R (N.take r) (olds++[N.look r]):=by
 obtain⟨p,ps,hp⟩:∃ p ps,N.free=p::ps:=qOB hf
 have ep:N.fresh=p:=by unfold Nms.fresh;rw[hp];rfl
 have et:N.free.tail=ps:=by rw[hp];rfl
 have el:N.look r=N.names.getD r.toNat 0:=look_reg (by omega)
 have hk:r.toNat<32:=by omega
 have hpf:=h.uf p (by grind);have hun:=h.un;have hlr:=hun r.toNat hk
 have hfd:p ∉ ps/\ps.Nodup:=by have:=h.fd;rw[hp] at this;exact qcB.1 this
 have npn:∀ i,i<32->N.names.getD i 0≠p:=λ i hi e=>by have:=(hun i hi).2;rw[e,hpf.2] at this;omega
 have npo:p ∉ olds:=λ e=>by have:=(h.uo p e).2;rw[hpf.2] at this;omega
 have nno:∀ i,i<32->N.names.getD i 0 ∉ olds:=λ i hi e=>by have:=(h.uo _ e).2;rw[(hun i hi).2] at this;omega
 have us:∀ q,rng R q->(N.take r).uses.getD q.toNat 0=if q=N.look r then 2 else if q=p then 1 else N.uses.getD q.toNat 0:=by
  intro q hq;show(((N.uses.set N.fresh.toNat 1).set (N.look r).toNat 2)).getD q.toNat 0=_;rw[getD_set,getD_set,ep,qJ,h.uR]
  have hq2:q.toNat<R:=by unfold rng at hq;omega
  by_cases e:q=N.look r
  ·subst e;rw[if_pos ⟨rfl,hq2⟩,if_pos rfl]
  ·rw[if_neg (λ x=>Ew hq (el ▸ hlr.1) e x.1.symm),if_neg e];by_cases e2:q=p
   ·subst e2;rw[if_pos ⟨rfl,hq2⟩,if_pos rfl]
   ·rw[if_neg (λ x=>Ew hq hpf.1 e2 x.1.symm),if_neg e2]
 have nm:∀ i,i<32->(N.take r).names.getD i 0=if i=r.toNat then p else N.names.getD i 0:=by
  intro i hi;show(N.names.set r.toNat N.fresh).getD i 0=_;rw[getD_set,ep,h.n32];by_cases e:i=r.toNat
  ·rw[if_pos ⟨e.symm,hi⟩,if_pos e]
  ·rw[if_neg (λ x=>e x.1.symm),if_neg e]
 refine⟨by show(N.names.set _ _).length=32;rw[qJ];exact h.n32,by show((N.uses.set _ _).set _ _).length=R;rw[qJ,qJ];exact h.uR,?_,?_,?_,?_,?_,?_,?_,?_,h.r1⟩
 ·intro i j hi hj e;rw[nm i hi,nm j hj] at e;by_cases e1:i=r.toNat
  ·by_cases e2:j=r.toNat
   ·omega
   ·rw[if_pos e1,if_neg e2] at e;exact absurd e.symm (npn j hj)
  ·by_cases e2:j=r.toNat
   ·rw[if_neg e1,if_pos e2] at e;exact absurd e (npn i hi)
   ·rw[if_neg e1,if_neg e2] at e;exact h.inj i j hi hj e
 ·rw[nm 0 (by omega),if_neg (by omega)];exact h.r0
 ·rw[qmB];refine⟨h.od,by simp,λ a ha b hb=>?_⟩;rw[qR] at hb;subst hb;rintro rfl;rw[el] at ha;exact nno _ hk ha
 ·show N.free.tail.Nodup;rw[et];exact hfd.2
 ·intro i hi;rw[nm i hi];by_cases e:i=r.toNat
  ·rw[if_pos e];exact⟨hpf.1,by rw[us p hpf.1,if_neg (by rw[el];exact λ e=>npn _ hk e.symm),if_pos rfl]⟩
  ·rw[if_neg e];refine⟨(hun i hi).1,?_⟩;rw[us _ (hun i hi).1,if_neg (by rw[el];exact λ x=>e (h.inj _ _ hi hk x)),if_neg (npn i hi)];exact(hun i hi).2
 ·intro q hq;rcases qc.1 hq with hq | hq
  ·refine⟨(h.uo q hq).1,?_⟩;rw[us q (h.uo q hq).1,if_neg (by rw[el];rintro rfl;exact nno _ hk hq),if_neg (by rintro rfl;exact npo hq)];exact(h.uo q hq).2
  ·rw[qR] at hq;subst hq;exact⟨el ▸ hlr.1,by rw[us _ (el ▸ hlr.1),if_pos rfl]⟩
 ·show ∀ q ∈ N.free.tail,_;rw[et];intro q hq
  have hqf:q ∈ N.free:=by rw[hp];exact qXB _ hq
  refine⟨(h.uf q hqf).1,?_⟩;rw[us q (h.uf q hqf).1,if_neg (by rw[el];rintro rfl;have:=(hun _ hk).2;rw[(h.uf _ hqf).2] at this;omega),if_neg (by rintro rfl;exact hfd.1 hq)];exact(h.uf q hqf).2
 ·show 32+(olds++[N.look r]).length+N.free.tail.length=R;have:=h.len;rw[et,qP];rw[hp] at this;simp at this ⊢;omega
theorem NmOk.undo {old fresh r:Int} (h:NmOk R N (olds++[old])) (hr:0<r/\r<32) (hn:N.names.getD r.toNat 0=fresh):NmOk R (N.undo r fresh old) olds:=by
 have hk:r.toNat<32:=by omega
 have hun:=h.un;have hfr:=hun r.toNat hk;rw[hn] at hfr;have ho:=h.uo old (by simp);have hod:=qmB.1 h.od;have hoo:old ∉ olds:=λ e=>hod.2.2 old e old (by simp) rfl
 have hof:old≠fresh:=by grind
 have us:∀ q,rng R q->(N.undo r fresh old).uses.getD q.toNat 0=if q=old then 1 else if q=fresh then 0 else N.uses.getD q.toNat 0:=by
  intro q hq;show(((N.uses.set fresh.toNat 0).set old.toNat 1)).getD q.toNat 0=_;rw[getD_set,getD_set,qJ,h.uR]
  have hq2:q.toNat<R:=by unfold rng at hq;omega
  by_cases e:q=old
  ·subst e;rw[if_pos ⟨rfl,hq2⟩,if_pos rfl]
  ·rw[if_neg (λ x=>Ew hq ho.1 e x.1.symm),if_neg e];by_cases e2:q=fresh
   ·subst e2;rw[if_pos ⟨rfl,hq2⟩,if_pos rfl]
   ·rw[if_neg (λ x=>Ew hq hfr.1 e2 x.1.symm),if_neg e2]
 have nm:∀ i,i<32->(N.undo r fresh old).names.getD i 0=if i=r.toNat then old else N.names.getD i 0:=by
  intro i hi;show(N.names.set r.toNat old).getD i 0=_;rw[getD_set,h.n32];by_cases e:i=r.toNat
  ·rw[if_pos ⟨e.symm,hi⟩,if_pos e]
  ·rw[if_neg (λ x=>e x.1.symm),if_neg e]
 have non:∀ i,i<32->N.names.getD i 0≠old:=λ i hi e=>by have:=(hun i hi).2;rw[e,ho.2] at this;omega
 have nff:fresh ∉ N.free:=λ e=>by have:=(h.uf _ e).2;rw[hfr.2] at this;omega
 refine⟨by show(N.names.set _ _).length=32;rw[qJ];exact h.n32,by show((N.uses.set _ _).set _ _).length=R;rw[qJ,qJ];exact h.uR,?_,?_,hod.1,?_,?_,?_,?_,?_,h.r1⟩
 ·intro i j hi hj e;rw[nm i hi,nm j hj] at e;by_cases e1:i=r.toNat
  ·by_cases e2:j=r.toNat
   ·omega
   ·rw[if_pos e1,if_neg e2] at e;exact absurd e.symm (non j hj)
  ·by_cases e2:j=r.toNat
   ·rw[if_neg e1,if_pos e2] at e;exact absurd e (non i hi)
   ·rw[if_neg e1,if_neg e2] at e;exact h.inj i j hi hj e
 ·rw[nm 0 (by omega),if_neg (by omega)];exact h.r0
 ·show(fresh::N.free).Nodup;exact qcB.2 ⟨nff,h.fd⟩
 ·intro i hi;rw[nm i hi];by_cases e:i=r.toNat
  ·rw[if_pos e];exact⟨ho.1,by rw[us old ho.1,if_pos rfl]⟩
  ·rw[if_neg e];refine⟨(hun i hi).1,?_⟩;rw[us _ (hun i hi).1,if_neg (non i hi),if_neg (by rw[<- hn];exact λ x=>e (h.inj _ _ hi hk x))];exact(hun i hi).2
 ·intro q hq;have hq':=h.uo q (by simp [hq]);refine⟨hq'.1,?_⟩;rw[us q hq'.1,if_neg (by rintro rfl;exact hoo hq),if_neg (by rintro rfl;have:=hq'.2;rw[hfr.2] at this;omega)];exact hq'.2
 ·show ∀ q ∈ fresh::N.free,_;intro q hq;rcases qp.1 hq with rfl | hq
  ·exact⟨hfr.1,by rw[us _ hfr.1,if_neg hof.symm,if_pos rfl]⟩
  ·refine⟨(h.uf q hq).1,?_⟩;rw[us q (h.uf q hq).1,if_neg (λ e=>by have:=(h.uf _ hq).2;rw[e,ho.2] at this;omega),if_neg (λ (e:q=fresh)=>nff (e ▸ hq))];exact(h.uf q hq).2
 ·show 32+olds.length+(fresh::N.free).length=R;have:=h.len;simp at this ⊢;omega
theorem NmOk.release {old:Int} (h:NmOk R N (old::olds)):NmOk R (N.release old) olds:=by
 have ho:=h.uo old (by simp);have hod:=qcB.1 h.od
 have us:∀ q,rng R q->(N.release old).uses.getD q.toNat 0=if q=old then 0 else N.uses.getD q.toNat 0:=by
  intro q hq;show(N.uses.set old.toNat 0).getD q.toNat 0=_;rw[getD_set,h.uR]
  have hq2:q.toNat<R:=by unfold rng at hq;omega
  by_cases e:q=old
  ·subst e;rw[if_pos ⟨rfl,hq2⟩,if_pos rfl]
  ·rw[if_neg (λ x=>Ew hq ho.1 e x.1.symm),if_neg e]
 have nof:old ∉ N.free:=λ e=>by have:=(h.uf _ e).2;rw[ho.2] at this;omega
 refine⟨h.n32,by show(N.uses.set _ _).length=R;rw[qJ];exact h.uR,h.inj,h.r0,hod.2,?_,?_,?_,?_,?_,h.r1⟩
 ·show(N.free++[old]).Nodup;rw[qmB];refine⟨h.fd,by simp,λ a ha b hb=>?_⟩;rw[qR] at hb;rintro rfl;exact nof (hb ▸ ha)
 ·intro i hi;refine⟨(h.un i hi).1,?_⟩;show(N.release old).uses.getD (N.names.getD i 0).toNat 0=1;rw[us _ (h.un i hi).1,if_neg (λ e=>by have:=(h.un i hi).2;rw[e,ho.2] at this;omega)];exact(h.un i hi).2
 ·intro q hq;have hq':=h.uo q (by simp [hq]);refine⟨hq'.1,?_⟩;rw[us q hq'.1,if_neg (by rintro rfl;exact hod.1 hq)];exact hq'.2
 ·intro q hq;rcases qc.1 hq with hq | hq
  ·refine⟨(h.uf q hq).1,?_⟩;rw[us q (h.uf q hq).1,if_neg (λ (e:q=old)=>nof (e ▸ hq))];exact(h.uf q hq).2
  ·rw[qR] at hq;subst hq;exact⟨ho.1,by rw[us _ ho.1,if_pos rfl]⟩
 ·show 32+olds.length+(N.free++[old]).length=R;have:=h.len;simp at this ⊢;omega
end Go.Proofs.YtmncepdbglaphaaGreatDoor.ko
