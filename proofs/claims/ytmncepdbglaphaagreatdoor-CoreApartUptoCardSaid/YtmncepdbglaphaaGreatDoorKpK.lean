/- A part of the walk. No condition. -/
import Derived.Test.YtmncepdbglaphaaGreatDoorKpG
set_option linter.unusedVariables false
namespace Go.Proofs.YtmncepdbglaphaaGreatDoor.ko
open Go.RowKit Go.XHeap Go.Sx Go.Sep Go.Proofs.Tryz
variable {C:Kc}{n m:Nat}{g:List Fl}{K K' K2:Ko}{f f':Fl}{i k:Nat}
structure One (K K':Ko) (i:Nat):Prop where
 fls:∃ f',K'.fls=K.fls.set i f'
 rdy:K'.rdy=K.rdy
 nm:K'.nm=K.nm
theorem One.trans (h:One K K' i) (h':One K' K2 i):One K K2 i:=by
 obtain⟨f1,e1⟩:=h.fls;obtain⟨f2,e2⟩:=h'.fls;exact⟨⟨f2,by rw[e2,e1,qWB]⟩,h'.rdy.trans h.rdy,h'.nm.trans h.nm⟩
theorem One.setf (K:Ko) (i:Nat) (f:Fl):One K (K.setf i f) i:=⟨⟨f,rfl⟩,rfl,rfl⟩
theorem set_self {l:List Fl}{i:Nat}:∃ f,l=l.set i f:=by
 by_cases h:i<l.length
 ·refine⟨l[i],?_⟩;apply qEB;intro j;rw[qn];split
  ·rename_i e;subst e;first | exact qC h | rw[if_pos h,qC h]
  ·rfl
 ·exact⟨default,by rw[List.set_eq_of_length_le (by omega)]⟩
theorem One.same (h1:K'.fls=K.fls) (h2:K'.rdy=K.rdy) (h3:K'.nm=K.nm):One K K' i:=by
 obtain⟨f,hf⟩:=set_self (l:=K.fls) (i:=i);exact⟨⟨f,by rw[h1];exact hf⟩,h2,h3⟩
theorem One.begin (K:Ko) (i:Nat) (cy:Int):One K (K.begin C i cy) i:=⟨⟨_,rfl⟩,rfl,rfl⟩
theorem One.compute (K:Ko) (i:Nat):One K (K.compute i) i:=One.setf _ _ _
theorem One.reach (K:Ko) (i:Nat):One K (K.reach C i) i:=One.setf _ _ _
theorem One.placeL (K:Ko) (i:Nat):One K (K.placeL i) i:=by
 unfold Ko.placeL;simp only;split
 ·exact One.same rfl rfl rfl
 ·exact⟨⟨_,rfl⟩,rfl,rfl⟩
theorem One.got (K:Ko) (i:Nat) (raw:Int):One K (K.got i raw) i:=⟨⟨_,rfl⟩,rfl,rfl⟩
theorem One.gotB (K:Ko) (i:Nat) (B:cbus.PB) (raw:Int):One K (({ K with bus:=B }:Ko).got i raw) i:=⟨⟨_,rfl⟩,rfl,rfl⟩
theorem One.fetched (K:Ko) (i:Nat):One K (K.fetched C i).1 i:=by
 have h:=One.placeL K i;unfold Ko.fetched;obtain⟨K1,e1⟩:∃ K1,K.placeL i=K1:=⟨_,rfl⟩;rw[e1] at h ⊢;simp only;split
 ·exact h
 ·split
  ·exact h.trans (One.same rfl rfl rfl)
  ·exact h.trans (One.gotB _ _ _ _)
 ·split
  ·split
   ·exact h.trans (One.same rfl rfl rfl)
   ·exact h.trans (One.gotB _ _ _ _)
  ·exact h.trans (One.got _ _ _)
theorem One.load (K:Ko) (i:Nat):One K (K.load C i).1 i:=by
 have h:=One.reach (C:=C) K i;unfold Ko.load;simp only;split
 ·split
  ·exact h.trans (One.fetched _ _)
  ·exact(h.trans (One.fetched _ _)).trans (One.begin _ _ _)
 ·exact h.trans (One.begin _ _ _)
structure Due (K:Ko) (P:Int->Prop) (i:Nat) (f:Fl) (s:Int):Prop where
 at_:K.fls[i]?=some f
 seq:f.seq=s
 cls:P f.cls
 iss:f.issued=false
 don:f.done=false
 a:K.has f.a=true
 b:K.has f.b=true
def Dues (K:Ko) (P:Int->Prop) (l:LI):Prop:=l.Nodup/\∀ s ∈ l,∃ i f,Due K P i f s
theorem Dues.tail {P:Int->Prop}{s:Int}{l:LI} (h:Inv C n g K) (hd:Dues K P (s::l)) (hi:K.fls[i]?=some f) (hs:f.seq=s) (ho:One K K' i):Dues K' P l:=by
 have hn:=qcB.1 hd.1;refine⟨hn.2,λ t ht=>?_⟩;obtain⟨j,fj,hj⟩:=hd.2 t (qXB _ ht);obtain⟨f2,e2⟩:=ho.fls
 have hne:i≠j:=by
  rintro rfl;have:=hj.at_;rw[hi] at this;cases this;exact hn.1 (by rw[<- hs,hj.seq];exact ht)
 refine⟨j,fj,⟨by rw[e2,qz hne];exact hj.at_,hj.seq,hj.cls,hj.iss,hj.don,?_,?_⟩⟩
 ·unfold Ko.has;rw[ho.rdy];exact hj.a
 ·unfold Ko.has;rw[ho.rdy];exact hj.b
theorem acx {c:Int}{s:Int} (hf:f ∈ K.fls) (hm:K.may c f=true) (hs:f.seq=s):∃ i f,Due K (·=c) i f s:=by
 obtain⟨i,hi⟩:=qu hf;unfold Ko.may Fl.st at hm;simp only[qU,beq_iff_eq,decide_eq_true_eq] at hm;obtain⟨h1,⟨h2,h3⟩,h4⟩:=hm
 have hd:f.done=false:=by grind
 have hi2:f.issued=false:=by grind
 exact⟨i,f,⟨hi,hs,h1,hi2,hd,h3,h4⟩⟩
theorem Mi {l:List Fl} (h:l.Pairwise (λ a b=>a.seq<b.seq)):(l.map (·.seq)).Nodup:=by grind
theorem Inv.ready (h:Inv C n g K) (c most:Int):Dues K (·=c) (K.ready c most):=by
 constructor
 ·unfold Ko.ready;exact(Mi (h.sqk.filter _)).sublist (List.take_sublist _ _)
 ·intro s hs;unfold Ko.ready at hs;obtain⟨f,hf,e⟩:=qCB.1 (qRB hs);obtain⟨hf,hm⟩:=qrB.1 hf;exact acx hf hm e
theorem Dues.imp {P Q:Int->Prop}{l:LI} (h:Dues K P l) (hpq:∀ c,P c->Q c):Dues K Q l :=
 ⟨h.1,λ s hs=>by obtain⟨i,f,hd⟩:=h.2 s hs;exact⟨i,f,{ hd with cls:=hpq _ hd.cls }⟩⟩
def Uc (c:Int):Prop:=c=0∨c=2∨c=3
theorem Inv.units (h:Inv C n g K):Dues K Uc (K.units C)/\(K.units C).length≤4:=by
 have r0:=(h.ready 0 C.c.units);have r2:=(h.ready 2 C.c.units);have r3:=(h.ready 3 C.c.units)
 have dis:∀ {c c':Int},c≠c'->∀ x ∈ K.ready c C.c.units,∀ y ∈ K.ready c' C.c.units,x≠y:=by
  rintro c c' hc x hx y hy rfl;obtain⟨i,f,h1⟩:=(h.ready c C.c.units).2 x hx;obtain⟨j,f',h2⟩:=(h.ready c' C.c.units).2 x hy;have:=yb h.sqk h1.at_ h2.at_ (h1.seq.trans h2.seq.symm);subst this;have e:=h1.at_;rw[h2.at_] at e;cases e;exact hc (h1.cls.symm.trans h2.cls)
 have nd:(K.ready 0 C.c.units++K.ready 2 C.c.units++K.ready 3 C.c.units).Nodup:=by
  rw[qmB,qmB];refine⟨⟨r0.1,r2.1,dis (by decide)⟩,r3.1,λ x hx y hy=>?_⟩;rcases qc.1 hx with hx | hx
  ·exact dis (by decide) x hx y hy
  ·exact dis (by decide) x hx y hy
 have pm:(ow (K.ready 0 C.c.units++K.ready 2 C.c.units++K.ready 3 C.c.units)).Perm (K.ready 0 C.c.units++K.ready 2 C.c.units++K.ready 3 C.c.units):=List.mergeSort_perm _ _;refine⟨⟨?_,λ s hs=>?_⟩,?_⟩
 ·unfold Ko.units;exact(pm.nodup_iff.2 nd).sublist (List.take_sublist _ _)
 ·unfold Ko.units at hs;have hs:=pm.mem_iff.1 (qRB hs);rcases qc.1 hs with hs | hs
  ·rcases qc.1 hs with hs | hs
   ·exact(r0.imp (λ c e=>.inl e)).2 s hs
   ·exact(r2.imp (λ c e=>.inr (.inl e))).2 s hs
  ·exact(r3.imp (λ c e=>.inr (.inr e))).2 s hs
 ·unfold Ko.units;have:=h.cf.u;rw[qq];omega
theorem Uc.nomem {c:Int} (h:Uc c) (hc:f.cls=c):f.mem=false:=by
 unfold Fl.mem;rw[hc];rcases h with rfl | rfl | rfl <;> decide
theorem Inv.alu1 (h:Inv C n g K){s:Int} (hi:K.fls[i]?=some f) (hs:f.seq=s) (hm:f.mem=false):Inv C (n+1) g (K.alu1 C s)/\One K (K.alu1 C s) i:=by
 have e:=h.at hi;unfold Ko.alu1;rw[<- hs,e];exact⟨h.compbeg hi hm 1,(One.compute K i).trans (One.begin _ _ _)⟩
theorem Inv.mul1 (h:Inv C n g K){s:Int} (hi:K.fls[i]?=some f) (hs:f.seq=s) (hm:f.mem=false):Inv C (n+1) g (K.mul1 C s)/\One K (K.mul1 C s) i:=by
 have e:=h.at hi;unfold Ko.mul1;rw[<- hs,e];exact⟨h.compbeg hi hm C.c.mul,(One.compute K i).trans (One.begin _ _ _)⟩
theorem Inv.alus:∀ (l:LI){n:Nat}{K:Ko},Inv C n g K->Dues K Uc l->Inv C (n+l.length) g (l.foldl (Ko.alu1 C) K)
 | [],_,_,h,_=>h
 | s::l,n,K,h,hd=>by
  obtain⟨i,f,hD⟩:=hd.2 s (qg ..);obtain⟨h1,h2⟩:=h.alu1 hD.at_ hD.seq (hD.cls.nomem rfl);rw[qKB];exact(Inv.alus l h1 (hd.tail h hD.at_ hD.seq h2)).up (by grind)
theorem Inv.muls:∀ (l:LI){n:Nat}{K:Ko},Inv C n g K->Dues K (·=1) l->Inv C (n+l.length) g (l.foldl (Ko.mul1 C) K)
 | [],_,_,h,_=>h
 | s::l,n,K,h,hd=>by
  obtain⟨i,f,hD⟩:=hd.2 s (qg ..);obtain⟨h1,h2⟩:=h.mul1 hD.at_ hD.seq (by unfold Fl.mem;rw[hD.cls];decide);rw[qKB];exact(Inv.muls l h1 (hd.tail h hD.at_ hD.seq h2)).up (by grind)
theorem Inv.loads:∀ (l:LI){n:Nat}{K:Ko},n+2 * l.length≤1000000000000->Inv C n g K->Dues K (·=4) l->Inv C (n+2 * l.length) g (K.loads C l)
 | [],_,_,_,h,_=>h
 | s::l,n,K,hn,h,hd=>by
  rw[qy] at hn ⊢;obtain⟨i,f,hD⟩:=hd.2 s (qg ..);have e:=h.at hD.at_;rw[hD.seq] at e;have h1:=h.load (by omega) hD.at_ hD.cls hD.iss;unfold Ko.loads;rw[e];simp only;split
  ·exact h1.up (by omega)
  ·exact(Inv.loads l (by omega) h1 (hd.tail h hD.at_ hD.seq (One.load K i))).up (by omega)
theorem ja (K:Ko) (c most:Int):(K.ready c most).length≤most.toNat:=by
 unfold Ko.ready;rw[qq];omega
theorem Inv.sto (h:Inv C n g K):Inv C (n+65) g ((K.ready 5 1).foldl (Ko.sto1 C) K):=by
 have hd:=h.ready 5 1;have hl:=ja K 5 1
 match e:K.ready 5 1 with
 | []=>exact h.up (by omega)
 | [s] =>
  rw[e] at hd;obtain⟨i,f,hD⟩:=hd.2 s (by simp);rw[qKB,List.foldl_nil];unfold Ko.sto1;have e2:=h.at hD.at_;rw[hD.seq] at e2;rw[e2];exact h.store hD.at_ hD.cls
 | _::_::_=>rw[e] at hl;simp at hl
theorem Inv.issue (h:Inv C n g K) (hn:n+300≤1000000000000):Inv C (n+300) g (K.issue C):=by
 unfold Ko.issue;obtain⟨d1,l1⟩:=h.units;have h1:=h.alus _ d1;have h2:=h1.muls _ (h1.ready 1 1);have l2:=ja ((K.units C).foldl (Ko.alu1 C) K) 1 1;have h3:=h2.sto;have l3:=ja (List.foldl (Ko.sto1 C) (List.foldl (Ko.mul1 C) (List.foldl (Ko.alu1 C) K (K.units C)) ((List.foldl (Ko.alu1 C) K (K.units C)).ready 1 1)) ((List.foldl (Ko.mul1 C) (List.foldl (Ko.alu1 C) K (K.units C)) ((List.foldl (Ko.alu1 C) K (K.units C)).ready 1 1)).ready 5 1)) 4 C.c.window;have hw:=h.cf.wn;have l2':(((K.units C).foldl (Ko.alu1 C) K).ready 1 1).length≤1:=l2;exact(h3.loads _ (by omega) (h3.ready 4 C.c.window)).up (by omega)
theorem Prd.val_u {P:Prd} (h:P.Ok):U32 P.val:=by
 unfold Prd.val;have ht:=h.top;rw[qF,qC ht];exact h.stk _ (qjB ht)
theorem Prd.next_u {P:Prd} (h:P.Ok) (pc:Int) (i:Ins):U32 (P.next pc i):=by
 unfold Prd.next
 split
 ·split <;> exact zz _
 ·split
  ·exact zz _
  ·split
   ·exact Prd.val_u h
   ·split
    ·split
     ·unfold Prd.tgt;rw[qF];cases e:P.tgts[tix P.tgts.length pc]?
      ·exact⟨by decide,by decide⟩
      ·exact(h.tgu _ (qN e)).2
     ·exact zz _
    ·exact zz _
structure Raw (f:Fl):Prop where
 pc:U32 f.pc
 word:U32 f.word
 tval:U32 f.tval
 io:f.i.Ok
 op:0≤f.i.op/\f.i.op≤67
 cls:f.cls=av f.i.op
 cz : -1≤f.cause/\f.cause≤20
 iss:f.issued=false
 don:f.done=false
 pla:f.placed=false
 nv:f.value=0/\f.next=0/\f.addr=0
theorem Inv.word (h:Inv C n g K) (pc:Int):U32 (C.word pc):=by
 unfold Kc.word;rw[qF];cases e:C.code[(pc / 4).toNat]?
 ·exact⟨by decide,by decide⟩
 ·exact h.cf.cu _ (qN e)
theorem Js:zeroI.Ok:=⟨⟨by decide,by decide⟩,⟨by decide,by decide⟩,⟨by decide,by decide⟩⟩
theorem u0:U32 0:=⟨by decide,by decide⟩
theorem Inv.decoded (h:Inv C n g K):Raw (K.decoded C):=by
 have hw:=h.word K.pc;unfold Ko.decoded;split
 ·exact⟨h.pc,u0,h.pc,Js,(show(0:Int)≤0/\(0:Int)≤67 by decide),class_0.symm,(show(-1:Int)≤1/\(1:Int)≤20 by decide),rfl,rfl,rfl,rfl,rfl,rfl⟩
 ·split
  ·exact⟨h.pc,hw,hw,Js,(show(0:Int)≤0/\(0:Int)≤67 by decide),class_0.symm,(show(-1:Int)≤2/\(2:Int)≤20 by decide),rfl,rfl,rfl,rfl,rfl,rfl⟩
  ·exact⟨h.pc,hw,u0,abm _,decF_op _,rfl,(show(-1:Int)≤ -1/\(-1:Int)≤20 by decide),rfl,rfl,rfl,rfl,rfl,rfl⟩
theorem Wk {l:LI}{i:Nat} (h:i<l.length) (a:Int):(l.set i a).set i (l.getD i 0)=l:=by
 rw[qWB];apply qEB;intro j;rw[qn];split
 ·grind
 ·rfl
theorem Wl {s:Int} (h:0≤s) (st:Bool):(lsq.newEn s st).Ok :=
 ⟨by show(0:Nat)<4294967296;decide,by show(0:Nat)<4294967296;decide,.inl rfl,by show(0:Nat)+0≤4294967296;decide,λ x=>(by cases x),λ _=>⟨rfl,rfl⟩,λ x=>(by cases x),λ x=>(by cases x),h⟩
theorem Inv.taken (h:Inv C n g K) (hr:Raw f) (hw:K.fls.length<C.W) (hq:f.mem=true->K.q.length<C.Q) (hf:f.wrs=true->K.nm.free≠[]):Inv C (n+2) g (K.taken C f):=by
 have hn32:=h.nm.n32
 have rd32:f.wrs=true->0<f.i.rd/\f.i.rd<32:=λ e=>by
  unfold Fl.wrs at e;simp only[qU,decide_eq_true_eq] at e;exact⟨e.2,hr.io.1.2⟩
 have fr:f.wrs=true->K.nm.fresh ∈ K.nm.free:=λ e=>by
  obtain⟨p,ps,hp⟩:=qOB (hf e);unfold Nms.fresh;rw[hp];exact qg ..
 have frr:f.wrs=true->rng C.R K.nm.fresh:=λ e=>(h.nm.uf _ (fr e)).1;obtain⟨G,eG⟩:∃ G,K.named f=G:=⟨_,rfl⟩
 have g1:G.fresh=if f.wrs then K.nm.fresh else -1:=by rw[<- eG];rfl
 have g2:G.old=if f.wrs then K.nm.look f.i.rd else 0:=by rw[<- eG];rfl
 have g3:G.i=f.i/\G.cls=f.cls/\G.seq=K.nxt/\G.issued=f.issued/\G.done=f.done/\G.placed=f.placed:=by rw[<- eG];exact⟨rfl,rfl,rfl,rfl,rfl,rfl⟩
 have g4:G.a=if (cw f.i.op).1 then K.nm.look f.i.rs1 else -1:=by rw[<- eG];rfl
 have g5:G.b=if (cw f.i.op).2 then K.nm.look f.i.rs2 else -1:=by rw[<- eG];rfl
 have gg:G.guess=K.pr.next f.pc f.i:=by rw[<- eG];rfl
 have lk1:∀ r:Int,0≤r/\r<32->K.nm.look r=K.nm.names.getD r.toNat 0:=λ r hr=>look_reg hr;obtain⟨N,eN⟩:∃ N,(if f.wrs then K.nm.take f.i.rd else K.nm)=N:=⟨_,rfl⟩
 have hN:NmOk C.R N (olds (g++(K.fls++[G]))):=by
  rw[<- ql,js];by_cases e:f.wrs=true
  ·have eo:olds [G]=[K.nm.look f.i.rd]:=by
    unfold olds;rw[qj,if_pos (qI (by rw[g1,if_pos e];exact(frr e).1))];show[G.old]=_;rw[g2,if_pos e]
   rw[eo,<- eN,if_pos e];exact h.nm.take (rd32 e) (hf e)
  ·have eo:olds [G]=[]:=by
    unfold olds;rw[qj,if_neg (by rw[g1,if_neg e];decide)];rfl
   rw[eo,qqB,<- eN,if_neg e];exact h.nm
 have hu:undo1 G N.names=K.nm.names:=by
  unfold undo1;by_cases e:f.wrs=true
  ·rw[if_pos (by rw[g1,if_pos e];exact(frr e).1),g2,if_pos e,g3.1,<- eN,if_pos e,lk1 _ ⟨by have:=rd32 e;omega,(rd32 e).2⟩];exact Wk (by have:=rd32 e;omega) _
  ·rw[if_neg (by rw[g1,if_neg e];decide),<- eN,if_neg e]
 have hl:Lk N.names (g++(K.fls++[G])):=by
  rw[<- ql,Lk_app];refine⟨?_,⟨⟨λ e0=>?_,?_,?_⟩,trivial⟩⟩
  ·show Lk (undo1 G N.names) _;rw[hu];exact h.lk
  ·have e:f.wrs=true:=by
    cases x:f.wrs
    ·rw[g1,x,if_neg (by decide)] at e0;omega
    ·rfl
   rw[g3.1];refine⟨rd32 e,?_⟩;show N.names.getD f.i.rd.toNat 0=G.fresh;rw[<- eN,if_pos e,g1,if_pos e];show(K.nm.names.set _ _).getD _ 0=_;rw[getD_set,if_pos ⟨rfl,by have:=rd32 e;omega⟩]
  ·show G.a=if (cw G.i.op).1=true then (undo1 G N.names).getD G.i.rs1.toNat 0 else -1
   rw[hu,g3.1,g4,lk1 _ hr.io.2.1]
  ·show G.b=if (cw G.i.op).2=true then (undo1 G N.names).getD G.i.rs2.toNat 0 else -1
   rw[hu,g3.1,g5,lk1 _ hr.io.2.2]
 have mG:∀ x ∈ g++(K.fls++[G]),x=G∨x ∈ g++K.fls:=λ x hx=>by
  rw[<- ql] at hx;rcases qc.1 hx with hx | hx
  ·grind
  ·grind
 have oG:FlOk G:=by
  have hn:=Prd.next_u h.pr f.pc f.i;refine⟨by rw[<- eG];exact hr.pc,by rw[<- eG];exact hr.word,by rw[gg];exact hn,by rw[<- eG];show U32 f.value;rw[hr.nv.1];exact u0,by rw[<- eG];show U32 f.next;rw[hr.nv.2.1];exact u0,by rw[<- eG];exact hr.tval,by rw[<- eG];show U32 f.addr;rw[hr.nv.2.2];exact u0,by rw[<- eG];exact Prd.val_u h.pr,by rw[g3.1];exact hr.io,by rw[g3.1];exact hr.op,by rw[g3.2.1,g3.1];exact hr.cls,λ x=>(by rw[g3.2.2.2.2.1,hr.don] at x;cases x),?_,by rw[<- eG];exact hr.cz⟩
  have ew:G.wrs=f.wrs:=by unfold Fl.wrs;rw[g3.1]
  rw[ew,g1];cases x:f.wrs
  ·rfl
  ·exact qI (frr x).1
 have hev:=h.ev;have hnx:=h.nx
 have base:Inv C (n+1) g { K with nm:=N,nxt:=K.nxt+1,rdy:=if f.wrs then K.rdy.set K.nm.fresh.toNat false else K.rdy,q:=if f.mem then K.q++[lsq.newEn K.nxt (decide (f.cls=5))] else K.q,pr:=K.pr.on f.pc f.i (K.pr.tk f.pc f.i),pc:=G.guess,fls:=K.fls++[G] }:=by
  have hsb:∀ x ∈ g++(K.fls++[G]),0≤x.seq/\x.seq<((K.nxt+1:Nat):Int):=λ x hx=>by
   rcases mG x hx with rfl | hx
   ·rw[g3.2.2.1];omega
   ·have:=h.sb x hx;omega
  refine { h.up (Nat.le_succ n) with nm:=hN,lk:=hl,rl:=?_,rd:=λ p hp=>?_,fo:=λ x hx=>?_,sq:=?_,sb:=hsb,wn:=?_,qo:=?_,pr:=h.pr.on _ _ _,pc:=?_,nx:=by show K.nxt+1≤n+1;omega }
  ·show(if f.wrs then K.rdy.set K.nm.fresh.toNat false else K.rdy).length=C.R;split
   ·rw[qJ];exact h.rl
   ·exact h.rl
  ·show(if f.wrs then K.rdy.set K.nm.fresh.toNat false else K.rdy).getD p.toNat false=false↔∃ x ∈ K.fls++[G],x.fresh=p/\x.done=false;by_cases e:f.wrs=true
   ·have hfr:=frr e;rw[if_pos e,yd,h.rl];by_cases ep:p=K.nm.fresh
    ·rw[if_pos ⟨by rw[ep],by unfold rng at hp;omega⟩];refine⟨λ _=>⟨G,by simp,by rw[g1,if_pos e,ep],by rw[g3.2.2.2.2.1];exact hr.don⟩,λ _=>rfl⟩
    ·rw[if_neg (λ x=>by have:=x.1;unfold rng at hp hfr;omega),h.rd p hp];constructor
     ·rintro⟨x,hx,e1,e2⟩;exact⟨x,qt _ hx,e1,e2⟩
     ·rintro⟨x,hx,e1,e2⟩;rcases qc.1 hx with hx | hx
      ·exact⟨x,hx,e1,e2⟩
      ·rw[qR] at hx;subst hx;rw[g1,if_pos e] at e1;exact absurd e1.symm ep
   ·rw[if_neg e,h.rd p hp];constructor
    ·rintro⟨x,hx,e1,e2⟩;exact⟨x,qt _ hx,e1,e2⟩
    ·rintro⟨x,hx,e1,e2⟩;rcases qc.1 hx with hx | hx
     ·exact⟨x,hx,e1,e2⟩
     ·rw[qR] at hx;subst hx;rw[g1,if_neg e] at e1;have:=hp.1;omega
  ·rcases mG x hx with rfl | hx
   ·exact oG
   ·exact h.fo x hx
  ·show(g++(K.fls++[G])).Pairwise _;rw[<- ql,List.pairwise_append];refine⟨h.sq,by simp,λ a ha b hb=>?_⟩;rw[qR] at hb;subst hb;rw[g3.2.2.1];exact(h.sb a ha).2
  ·show(K.fls++[G]).length≤C.W;rw[qP];show K.fls.length+1≤C.W;omega
  ·have hq0:=h.qo
   have eGm:G.mem=f.mem:=by unfold Fl.mem;rw[g3.2.1]
   show QOk (if f.mem then K.q++[lsq.newEn K.nxt (decide (f.cls=5))] else K.q) g (K.fls++[G]) C.Q (K.nxt+1)
   have oldG:∀ e ∈ K.q,e.retired=true->∀ x ∈ g++(K.fls++[G]),e.seq<x.seq:=λ e he hr x hx=>by
    rcases mG x hx with rfl | hx
    ·rw[g3.2.2.1];exact hq0.nx e he
    ·exact hq0.old e he hr x hx
   have efG:∀ e ∈ K.q,e.retired=false->∃ x ∈ g++(K.fls++[G]),x.mem=true/\MR e x:=λ e he hr=>by
    obtain⟨x,hx,a,b⟩:=hq0.ef e he hr;exact⟨x,by rw[<- ql];exact qt _ hx,a,b⟩
   by_cases e:f.mem=true
   ·rw[if_pos e]
    have c45:G.cls=4∨G.cls=5:=by
     rw[g3.2.1];unfold Fl.mem at e;simpa using e
    have hmr:MR (lsq.newEn K.nxt (decide (f.cls=5))) G:=⟨g3.2.2.1.symm,rfl,by rw[g3.2.1];rfl,λ _=>(by rw[g3.2.2.2.2.2,hr.pla];rfl),λ _ y=>(by rw[g3.2.2.2.1,hr.iss] at y;cases y),λ _ y=>(by rw[g3.2.2.2.1,hr.iss] at y;cases y)⟩;refine⟨?_,λ x hx=>?_,?_,λ x hx hxr=>?_,λ x hx=>?_,λ x hx hxr=>?_,λ x hx hxm=>?_⟩
    ·rw[qP];have:=hq e;show K.q.length+1≤C.Q;omega
    ·rcases qc.1 hx with hx | hx
     ·exact hq0.ok x hx
     ·rw[qR] at hx;subst hx;exact Wl (Int.natCast_nonneg _) _
    ·rw[List.pairwise_append];refine⟨hq0.srt,by simp,λ a ha b hb=>?_⟩;rw[qR] at hb;subst hb;exact hq0.nx a ha
    ·rcases qc.1 hx with hx | hx
     ·exact oldG x hx hxr
     ·rw[qR] at hx;subst hx;cases hxr
    ·rcases qc.1 hx with hx | hx
     ·have:=hq0.nx x hx;omega
     ·rw[qR] at hx;subst hx;show(K.nxt:Int)<((K.nxt+1:Nat):Int);omega
    ·rcases qc.1 hx with hx | hx
     ·exact efG x hx hxr
     ·rw[qR] at hx;subst hx;exact⟨G,qL _ (qL _ (qR.2 rfl)),by rw[eGm];exact e,hmr⟩
    ·rcases qc.1 hx with hx | hx
     ·obtain⟨y,hy,hy2⟩:=hq0.fe x hx hxm;exact⟨y,qt _ hy,hy2⟩
     ·rw[qR] at hx;subst hx;exact⟨_,qL _ (qR.2 rfl),hmr⟩
   ·rw[if_neg e];refine⟨hq0.len,hq0.ok,hq0.srt,oldG,λ x hx=>by have:=hq0.nx x hx;omega,efG,λ x hx hxm=>?_⟩;rcases qc.1 hx with hx | hx
    ·exact hq0.fe x hx hxm
    ·rw[qR] at hx;subst hx;rw[eGm] at hxm;exact absurd hxm e
  ·show U32 G.guess;rw[gg];exact Prd.next_u h.pr f.pc f.i
 have:=base.tell (C:=C) 1 G Rt.z;unfold Ko.taken;simp only;rw[eG,eN];exact this
theorem Inv.take (h:Inv C n g K):Inv C (n+2) g (K.take C).1:=by
 have hr:=h.decoded;have h1:Inv C n g { K with idle:=K.idle|| !C.there K.pc }:={ h with };unfold Ko.take;simp only;split
 ·exact({ h with }:Inv C n g { K with idle:=false }).up (by omega)
 ·rename_i hf;unfold Ko.full at hf;simp only[Bool.or_eq_true,qU,decide_eq_true_eq,not_or,not_and] at hf;obtain⟨f1,f2,f3⟩:=hf;have hwn:=h.cf.wn;have hqn:=h.cf.q;have h2:=h.wn;have h3:=h.qo.len;refine h1.taken hr ?_ (λ e=>?_) (λ e e2=>?_)
  ·show K.fls.length<C.W;unfold Kc.W at h2 ⊢;omega
  ·show K.q.length<C.Q;have:=f2 e;unfold Kc.Q at h3 ⊢;omega
  ·exact f3 e (by show K.nm.free.length=0;rw[show K.nm.free=[] from e2];rfl)
theorem Inv.enterN:∀ (k:Nat){n:Nat}{K:Ko},Inv C n g K->Inv C (n+2 * k) g (Ko.enterN C k K)
 | 0,_,_,h=>h
 | k+1,n,K,h=>by
  unfold Ko.enterN;split
  ·exact h.up (by omega)
  ·split
   ·exact h.take.up (by omega)
   ·exact(Inv.enterN k h.take).up (by omega)
theorem Inv.enter (h:Inv C n g K):Inv C (n+8) g (K.enter C):=by
 have:=h.cf.wd;exact(Inv.enterN C.c.width.toNat h).up (by omega)
variable {C:Kc}{n m:Nat}{g:List Fl}{K K' K2:Ko}{f f':Fl}{i k:Nat}{q:List lsq.En}{e e':lsq.En}{r:List Fl}{S nx:Nat}
theorem Inv.hd0 (h:Inv C n g K) (hf:K.fls=f::r):K.fls[0]?=some f:=by rw[hf];rfl
theorem Inv.setAt (h:Inv C n g K){v:Int} (hv:U32 v):Inv C n g { K with at_:=v }:={ h with at_:=hv }
theorem Inv.trap (h:Inv C n g K) (hp:U32 f.pc) (cause tval:Int):Inv C (n+65) g (K.trap C f cause tval):=by
 obtain⟨h1,h2⟩:=Re (cause:=cause) (tval:=tval) h.rs hp;have a1:Inv C n g { K with rs:=(K.rs.trap f.pc cause tval).2.2 }:={ h with rs:=h1 };have a2:=a1.tell (C:=C) 4 f ⟨f.pc,f.word,0,0,cause,tval,(K.rs.trap f.pc cause tval).1⟩;have a3:Inv C (n+1) g { (({ K with rs:=(K.rs.trap f.pc cause tval).2.2 }:Ko).tell C 4 f ⟨f.pc,f.word,0,0,cause,tval,(K.rs.trap f.pc cause tval).1⟩) with halted:= !(K.rs.trap f.pc cause tval).2.1 }:={ a2 with };have a4:=a3.squash (-1) h2;exact(a4.setAt h2).up (by omega)
theorem Hq (K:Ko) (f:Fl) (cause tval:Int):(K.trap C f cause tval).fls=K.live (-1)/\(K.trap C f cause tval).q=K.q.filter (lsq.keepP (-1)):=by
 unfold Ko.trap;simp only;rw[yf];exact⟨rfl,rfl⟩
theorem Inv.live0 (h:Inv C n g K):K.live (-1)=[]:=by
 unfold Ko.live;rw[List.filter_eq_nil_iff];intro x hx;have:=(h.sb x (qL _ hx)).1;simp;omega
theorem Inv.end0 (h:Inv C n [] K) (hf:K.fls=f::r) (hd:f.done=true∨f.issued=false) (hm:f.issued=false->∀ e ∈ K.q,MR e f->MR e (f.beg (K.cycle+0))) :
  Inv C (n+2) [] (K.end0 C)/\∃ f2,(K.end0 C).fls=f2::r/\Keep f f2/\f2.done=true/\f2.cause=f.cause/\(K.end0 C).q=K.q/\(∀ e ∈ K.q,MR e f->MR e f2):=by
 have h0:=h.hd0 hf;have ef:=bi h0;unfold Ko.end0;rw[ef];by_cases d:f.done=true
 ·rw[if_pos d];exact⟨h.up (by omega),f,hf,⟨rfl,rfl,rfl,rfl,rfl,rfl,rfl⟩,d,rfl,rfl,λ _ _ x=>x⟩
 ·rw[if_neg d]
  have hi:f.issued=false:=by grind
  rw[if_neg (by grind)];have h1:=h.beg (C:=C) h0 0 (hm hi)
  have e1:(K.begin C 0 0).fls=f.beg (K.cycle+0)::r:=by
   unfold Ko.begin;rw[ef];show K.fls.set 0 _=_;rw[hf];rfl
  have h01:=h1.hd0 e1;refine⟨(h1.finish h01 rfl).up (by omega),(f.beg (K.cycle+0)).fin,?_,⟨rfl,rfl,rfl,rfl,rfl,rfl,rfl⟩,rfl,rfl,?_,λ e he x=>?_⟩
  ·unfold Ko.finish;rw[bi h01]
   have:(((((K.begin C 0 0).setf 0 (f.beg (K.cycle+0)).fin).put (f.beg (K.cycle+0))).rouse (f.beg (K.cycle+0)).fresh).tell C 3 (f.beg (K.cycle+0)) Rt.z).fls=(K.begin C 0 0).fls.set 0 (f.beg (K.cycle+0)).fin:=by
    unfold Ko.put Ko.rouse;split <;> split <;> rfl
   rw[this,e1];rfl
  ·unfold Ko.finish;rw[bi h01];unfold Ko.put Ko.rouse;split <;> split <;> rfl
  ·exact { hm hi e he x with }
theorem Inv.gone (h:Inv C n [] K) (hf:K.fls=f::r) (hd:f.done=true∨f.issued=false) (hm:f.issued=false->∀ e ∈ K.q,MR e f->MR e (f.beg (K.cycle+0))) :
  ∃ f2,Inv C (n+2) [f2] (K.gone C)/\(K.gone C).fls=r/\Keep f f2/\f2.done=true/\f2.cause=f.cause/\(K.gone C).q=K.q/\(∀ e ∈ K.q,MR e f->MR e f2):=by
 obtain⟨h1,f2,e2,kp,d2,c2,q2,m2⟩:=h.end0 hf hd hm
 have eg:(K.gone C).fls=r:=by unfold Ko.gone;show(K.end0 C).fls.tail=r;rw[e2];rfl
 refine⟨f2,?_,eg,kp,d2,c2,q2,m2⟩
 have e3:[]++(K.end0 C).fls=[f2]++r:=by rw[e2];rfl
 have hq:=h1.qo;have hnm:=h1.nm;have hlk:=h1.lk;have hfo:=h1.fo;have hsq:=h1.sq;have hsb:=h1.sb;rw[e3] at hnm hlk hfo hsq hsb;unfold Ko.gone;refine { h1 with nm:=?_,lk:=?_,rd:=λ p hp=>?_,fo:=?_,gd:=λ x hx=>?_,sq:=?_,sb:=?_,wn:=?_,qo:=?_ }
 ·grind
 ·grind
 ·show(K.end0 C).rdy.getD p.toNat false=false↔∃ x ∈ (K.end0 C).fls.tail,x.fresh=p/\x.done=false;rw[h1.rd p hp,e2];constructor
  ·grind
  ·grind
 ·grind
 ·grind
 ·grind
 ·grind
 ·show(K.end0 C).fls.tail.length≤C.W;have:=h1.wn;rw[List.length_tail];omega
 ·have ho:=hq.old;have he:=hq.ef;rw[e3] at ho he;rw[e2] at hq ⊢;exact⟨hq.len,hq.ok,hq.srt,ho,hq.nx,he,λ x hx=>hq.fe x (qXB _ hx)⟩
theorem QOk.skip (h:QOk q [f] r S nx) (hm:f.mem=false):QOk q [] r S nx :=
 ⟨h.len,h.ok,h.srt,λ e he hr x hx=>h.old e he hr x (qL _ hx),h.nx,λ e he hr=>by
  obtain⟨x,hx,a,b⟩:=h.ef e he hr;rcases qc.1 hx with hx | hx
  ·grind
  ·exact⟨x,hx,a,b⟩,h.fe⟩
theorem QOk.ret (h:QOk q [f] r S nx) (hs:([f]++r).Pairwise (λ a b=>a.seq<b.seq)) (he:e ∈ q) (hmr:MR e f) (hgood:(e.store=true/\e.placed=true/\e.valued=true)∨(e.store=false/\e.loaded=true)):QOk (yu q f.seq) [] r S nx:=by
 obtain⟨j,hj⟩:=qu he;obtain⟨hjl,hje⟩:=qD.1 hj;have hlt:∀ x ∈ r,f.seq<x.seq:=λ x hx=>(List.pairwise_cons.1 hs).1 x hx
 have first:q.findIdx? (λ e=> !e.retired)=some j:=by
  rw[qv];refine⟨hjl,by rw[hje,hmr.nr];rfl,λ i hi=>?_⟩;have hil:i<q.length:=Nat.lt_trans hi hjl;intro hn
  have hr:q[i].retired=false:=by simpa using hn
  obtain⟨x,hx,a,b⟩:=h.ef q[i] (qjB hil) hr;have h1:q[i].seq<q[j].seq:=qZB.1 h.srt i j hil hjl hi;rw[hje,hmr.seq,b.seq] at h1;rcases qc.1 hx with hx | hx
  ·rw[qR] at hx;subst hx;omega
  ·have:=hlt x hx;omega
 have other:∀ x ∈ q,x.seq≠e.seq->x.retired=false->∃ y ∈ []++r,y.mem=true/\MR x y:=λ x hx hne hr=>by
  obtain⟨y,hy,a,b⟩:=h.ef x hx hr;rcases qc.1 hy with hy | hy
  ·rw[qR] at hy;subst hy;exact absurd (b.seq.trans hmr.seq.symm) hne
  ·grind
 have eqf:∀ y ∈ r,y.seq≠e.seq:=λ y hy=>by have:=hlt y hy;rw[hmr.seq];omega
 unfold yu;rw[first];simp only;rw[getD_at hj,if_neg (by rw[hmr.seq];exact λ x=>x rfl)];rcases hgood with hg | hg
 ·rw[if_pos hg]
  have qm:∀ x ∈ q.set j { e with retired:=true },x={ e with retired:=true }∨(x ∈ q/\x.seq≠e.seq):=by
   intro x hx;obtain⟨i,hi⟩:=qu hx;by_cases ei:j=i
   ·subst ei;rw[qO hjl] at hi;cases hi;exact .inl rfl
   ·rw[qz ei] at hi;exact .inr ⟨qK.2 ⟨i,hi⟩,λ es=>ei (su h.srt hj hi es.symm)⟩
  refine⟨by rw[qJ];exact h.len,λ x hx=>?_,Ho h.srt hj rfl,λ x hx hr y hy=>?_,λ x hx=>?_,λ x hx hr=>?_,λ y hy hym=>?_⟩
  ·rcases qm x hx with rfl | hx
   ·exact { h.ok e he with ret:=λ _=>hg }
   ·exact h.ok x hx.1
  ·rcases qm x hx with rfl | hx
   ·show e.seq<y.seq;rw[hmr.seq];exact hlt y hy
   ·exact h.old x hx.1 hr y (qL _ hy)
  ·rcases qm x hx with rfl | hx
   ·exact h.nx e he
   ·exact h.nx x hx.1
  ·rcases qm x hx with rfl | hx
   ·cases hr
   ·exact other x hx.1 hx.2 hr
  ·obtain⟨x,hx,hx2⟩:=h.fe y hy hym;obtain⟨i,hi⟩:=qu hx
   have ei:j≠i:=by rintro rfl;rw[hj] at hi;cases hi;exact eqf y hy hx2.seq.symm
   exact⟨x,qK.2 ⟨i,by rw[qz ei];exact hi⟩,hx2⟩
 ·rw[if_neg (by rw[hg.1];simp),if_pos hg.2];have sub:=List.eraseIdx_sublist q j
  have qm:∀ x ∈ q.eraseIdx j,x ∈ q/\x.seq≠e.seq:=λ x hx=>by
   rw[List.mem_eraseIdx_iff_getElem?] at hx;obtain⟨i,hne,hi⟩:=hx;exact⟨qK.2 ⟨i,hi⟩,λ es=>hne (su h.srt hi hj es)⟩
  refine⟨qVB sub.length_le h.len,λ x hx=>h.ok x (qm x hx).1,h.srt.sublist sub,λ x hx hr y hy=>h.old x (qm x hx).1 hr y (qL _ hy),λ x hx=>h.nx x (qm x hx).1,λ x hx hr=>other x (qm x hx).1 (qm x hx).2 hr,λ y hy hym=>?_⟩;obtain⟨x,hx,hx2⟩:=h.fe y hy hym;obtain⟨i,hi⟩:=qu hx
  have ei:i≠j:=by rintro rfl;rw[hj] at hi;cases hi;exact eqf y hy hx2.seq.symm
  exact⟨x,List.mem_eraseIdx_iff_getElem?.2 ⟨i,ei,hi⟩,hx2⟩
variable {C:Kc}{n m:Nat}{g:List Fl}{K K' K2:Ko}{f f' f2:Fl}{i k:Nat}{q:List lsq.En}{e e':lsq.En}{r:List Fl}{S nx:Nat}
structure Rdy (K:Ko) (f:Fl) (r:List Fl):Prop where
 fls:K.fls=f::r
 dn:f.done=true∨f.issued=false
 mr:f.issued=false->∀ e ∈ K.q,MR e f->MR e (f.beg (K.cycle+0))
theorem Cp (h0:0≤f.fresh) (l:List Fl):olds ([f]++l)=f.old::olds l:=by
 rw[js]
 have:olds [f]=[f.old]:=by unfold olds;rw[qj,if_pos (qI h0)];rfl
 rw[this];rfl
theorem Rj (h0:¬ 0≤f.fresh) (l:List Fl):olds ([f]++l)=olds l:=by
 rw[js]
 have:olds [f]=[]:=by unfold olds;rw[qj,if_neg (by simpa using h0)];rfl
 rw[this];rfl
theorem Inv.free1 (h:Inv C n [f] K){q:List lsq.En} (hq:QOk q [] K.fls C.Q K.nxt):Inv C n [] { K with q:=q,nm:=if 0≤f.fresh then K.nm.release f.old else K.nm }:=by
 have hnm:=h.nm;have hlk:=h.lk;refine { h with nm:=?_,lk:=?_,fo:=λ x hx=>h.fo x (qL _ hx),gd:=λ x hx=>by simp at hx,sq:=h.sqk,sb:=λ x hx=>h.sb x (qL _ hx),qo:=hq }
 ·by_cases h0:0≤f.fresh
  ·rw[if_pos h0];rw[Cp h0] at hnm;exact hnm.release
  ·rw[if_neg h0];rw[Rj h0] at hnm;exact hnm
 ·show Lk (if 0≤f.fresh then K.nm.release f.old else K.nm).names K.fls
  have e:(if 0≤f.fresh then K.nm.release f.old else K.nm).names=K.nm.names:=by split <;> rfl
  rw[e];exact hlk.2
theorem Inv.done1 (h:Inv C n [] K) (hR:Rdy K f r) (hc:f.cause= -1):Inv C (n+200) [] (K.done1 C f):=by
 have hfm:f ∈ []++K.fls:=by rw[qr,hR.fls];exact qg ..
 have ho:=h.fo f hfm;obtain⟨f2,h1,er,kp,d2,c2,q2,m2⟩:=h.gone (C:=C) hR.fls hR.dn hR.mr;have o2:=h1.fo f2 (by simp);have i2:f2.issued=true:=o2.di d2;unfold Ko.done1;obtain⟨K1,e1⟩:∃ K1,K.gone C=K1:=⟨_,rfl⟩;rw[e1] at h1 er q2 ⊢;simp only
 have hq3:QOk (if f.mem then yu K1.q f.seq else K1.q) [] K1.fls C.Q K1.nxt:=by
  have emem:f2.mem=f.mem:=by unfold Fl.mem;rw[kp.cls]
  by_cases hm:f.mem=true
  ·rw[if_pos hm];obtain⟨e,he,hmr⟩:=h.qo.fe f (by rw[hR.fls];exact qg ..) hm;have hmr2:=m2 e he hmr;rw[<- kp.seq];refine h1.qo.ret h1.sq (by rw[q2];exact he) hmr2 ?_
   have hm2:f2.cls=4∨f2.cls=5:=by rw[<- emem] at hm;unfold Fl.mem at hm;simpa using hm
   rcases hm2 with h4 | h5
   ·exact .inr ⟨by rw[hmr2.st,h4];rfl,hmr2.ld h4 i2 (c2.trans hc)⟩
   ·have:=hmr2.sv h5 i2 (c2.trans hc);exact .inl ⟨by rw[hmr2.st,h5];rfl,this.1,this.2⟩
  ·rw[if_neg hm];exact h1.qo.skip (by rw[emem];simpa using hm)
 have h3:=h1.free1 hq3
 have e3:(if 0≤f.fresh then { (if f.mem=true then { K1 with q:=yu K1.q f.seq } else K1) with nm:=(if f.mem=true then { K1 with q:=yu K1.q f.seq } else K1).nm.release f.old } else (if f.mem=true then { K1 with q:=yu K1.q f.seq } else K1)) =
   ({ K1 with q:=if f.mem then yu K1.q f.seq else K1.q,nm:=if 0≤f2.fresh then K1.nm.release f2.old else K1.nm }:Ko):=by
  rw[kp.fresh,kp.old];split <;> split <;> rfl
 rw[e3];obtain⟨K3,eK3⟩:∃ K3,({ K1 with q:=if f.mem then yu K1.q f.seq else K1.q,nm:=if 0≤f2.fresh then K1.nm.release f2.old else K1.nm }:Ko)=K3:=⟨_,rfl⟩;rw[eK3] at h3 ⊢;have h4:Inv C (n+2) [] { K3 with rs:=K3.rs.counted,at_:=f.next }:={ h3 with rs:=Jq h3.rs,at_:=ho.next }
 have h5:Inv C (n+2) [] (if f.bj then { ({ K3 with rs:=K3.rs.counted,at_:=f.next }:Ko) with pr:=K3.pr.learn f.mh f.mt f.pc f.i f.taken f.next } else { K3 with rs:=K3.rs.counted,at_:=f.next }):=by
  split
  ·exact { h4 with pr:=h4.pr.learn _ _ ho.pc _ _ ho.next }
  ·exact h4
 have h6:=h5.tell (C:=C) 4 f ⟨f.pc,f.word,if 0≤f.fresh then f.i.rd else 0,if 0≤f.fresh then f.value else 0, -1,0,f.next⟩;obtain⟨K6,eK6⟩:∃ K6,Ko.tell C (if f.bj then { ({ K3 with rs:=K3.rs.counted,at_:=f.next }:Ko) with pr:=K3.pr.learn f.mh f.mt f.pc f.i f.taken f.next } else { K3 with rs:=K3.rs.counted,at_:=f.next }) 4 f ⟨f.pc,f.word,if 0≤f.fresh then f.i.rd else 0,if 0≤f.fresh then f.value else 0, -1,0,f.next⟩=K6:=⟨_,rfl⟩;rw[eK6] at h6 ⊢
 have h7:Inv C (n+67) [] (if f.spoils then K6.spoil C [f.addr] else K6):=by
  split
  ·exact(h6.spoil _).up (by omega)
  ·exact h6.up (by omega)
 split
 ·exact((h7.restore ho.mv f.pc f.i false).squash f.seq ho.next).up (by omega)
 ·exact h7.up (by omega)
theorem Inv.fail1 (h:Inv C n [] K) (hR:Rdy K f r):Inv C (n+200) [] (K.fail1 C f):=by
 have hfm:f ∈ []++K.fls:=by rw[qr,hR.fls];exact qg ..
 have ho:=h.fo f hfm;obtain⟨f2,h1,er,kp,d2,c2,q2,m2⟩:=h.gone (C:=C) hR.fls hR.dn hR.mr;have h2:=(h1.restore (f:=f) ho.mv 0 zeroI false).trap (f:=f) ho.pc f.cause f.tval
 have hfl:(((K.gone C).restore f 0 zeroI false).trap C f f.cause f.tval).fls=[]:=by
  rw[(Hq _ _ _ _).1];exact(h1.restore (f:=f) ho.mv 0 zeroI false).live0
 have hqr:∀ e ∈ (((K.gone C).restore f 0 zeroI false).trap C f f.cause f.tval).q,e.retired=true:=by
  intro e he
  have hq:e ∈ (K.gone C).q.filter (lsq.keepP (-1)):=by
   have:(((K.gone C).restore f 0 zeroI false).trap C f f.cause f.tval).q=(K.gone C).q.filter (lsq.keepP (-1)):=(Hq _ _ _ _).2;rw[<- this];exact he
  obtain⟨h3,h4⟩:=qrB.1 hq;rcases keepP_iff.1 h4 with h5 | h5
  ·exact h5
  ·have:=(h1.qo.ok e h3).pos;omega
 unfold Ko.fail1;simp only;obtain⟨K2,e2⟩:∃ K2,((K.gone C).restore f 0 zeroI false).trap C f f.cause f.tval=K2:=⟨_,rfl⟩;rw[e2] at h2 hfl hqr ⊢;have hnm:=h2.nm;have hlk:=h2.lk;rw[hfl] at hnm hlk
 have eN:(if 0≤f.fresh then { K2 with nm:=K2.nm.undo f.i.rd f.fresh f.old } else K2)={ K2 with nm:=ck K2.nm f2 }:=by
  unfold ck;rw[kp.fresh,kp.old,kp.i];split <;> rfl
 rw[eN];have hd:=pv (R:=C.R) (l1:=[]) [f2] (N:=K2.nm) hnm hlk;refine Inv.up (n:=n+2+65) { h2 with nm:=?_,lk:=?_,fo:=λ x hx=>?_,gd:=λ x hx=>by simp at hx,sq:=h2.sqk,sb:=λ x hx=>h2.sb x (qL _ hx),qo:=?_ } (by omega)
 ·grind
 ·show Lk (ck K2.nm f2).names K2.fls;rw[hfl];trivial
 ·grind
 ·show QOk K2.q [] K2.fls C.Q K2.nxt;have hq:=h2.qo;refine⟨hq.len,hq.ok,hq.srt,λ e he hr x hx=>hq.old e he hr x (qL _ hx),hq.nx,λ e he hr=>?_,hq.fe⟩;rw[hqr e he] at hr;cases hr
end Go.Proofs.YtmncepdbglaphaaGreatDoor.ko
