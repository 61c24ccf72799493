/- A part of the walk. No condition. -/
import Derived.Test.YtmncepdbglaphaaGreatDoorKpB
set_option linter.unusedVariables false
set_option maxRecDepth 100000
namespace Go.Proofs.YtmncepdbglaphaaGreatDoor.ko
open Go.RowKit Go.XHeap Go.Sx Go.Sep Go.Proofs.Tryz
def undo1 (f:Fl) (N:LI):LI:=if 0≤f.fresh then N.set f.i.rd.toNat f.old else N
def gh (N:LI) (l:List Fl):LI:=l.foldr undo1 N
def olds (l:List Fl):LI:=(l.filter λ f=>decide (0≤f.fresh)).map (·.old)
structure Lnk (N:LI) (f:Fl):Prop where
 w:0≤f.fresh->(0<f.i.rd/\f.i.rd<32)/\N.getD f.i.rd.toNat 0=f.fresh
 a:f.a=if (cw f.i.op).1=true then (undo1 f N).getD f.i.rs1.toNat 0 else -1
 b:f.b=if (cw f.i.op).2=true then (undo1 f N).getD f.i.rs2.toNat 0 else -1
def Lk (N:LI):List Fl->Prop
 | []=>True
 | f::r=>Lnk (gh N r) f/\Lk N r
theorem Ez (N:LI) (l1 l2:List Fl):gh N (l1++l2)=gh (gh N l2) l1:=by
 unfold gh;rw[List.foldr_append]
theorem js (l1 l2:List Fl):olds (l1++l2)=olds l1++olds l2:=by
 unfold olds;rw[qBB,qV]
theorem Lk_app {N:LI}:∀ {l1 l2:List Fl},Lk N (l1++l2)↔Lk (gh N l2) l1/\Lk N l2
 | [],l2=>by simp [Lk]
 | f::l1,l2=>by
  simp only[qAC,Lk,Lk_app,Ez,and_assoc]
theorem Qv (f:Fl) (N:LI):(undo1 f N).length=N.length:=by
 unfold undo1;split
 ·rw[qJ]
 ·rfl
theorem sr (N:LI):∀ l:List Fl,(gh N l).length=N.length
 | []=>rfl
 | f::l=>by
  show(undo1 f (gh N l)).length=_;rw[Qv,sr N l]
theorem ss {N:LI}:∀ {l:List Fl}{x:Int},x ∈ gh N l->x ∈ N∨x ∈ olds l
 | [],x,h=>.inl h
 | f::l,x,h=>by
  have h:x ∈ undo1 f (gh N l):=h
  have eo:olds (f::l)=(if 0≤f.fresh then [f.old] else [])++olds l:=by
   unfold olds;rw[qj];by_cases e:0≤f.fresh
   ·grind
   ·grind
  rw[eo];unfold undo1 at h;by_cases e:0≤f.fresh
  ·rw[if_pos e] at h ⊢;rcases qZ h with h | h
   ·exact(ss h).imp id (λ h=>qL _ h)
   ·grind
  ·rw[if_neg e] at h ⊢;exact(ss h).imp id (λ h=>qL _ h)
theorem Ck {l:LI}{i:Nat} (h:i<l.length):l.getD i 0 ∈ l:=by grind
theorem Jo {N:LI} (h32:N.length=32):∀ {l:List Fl},Lk N l->∀ f ∈ l,0≤f.fresh->f.fresh ∈ N∨f.fresh ∈ olds l
 | [],_,f,hf,_=>by simp at hf
 | g::l,hl,f,hf,h0=>by
  have eo:olds (g::l)=olds [g]++olds l:=js [g] l;rw[eo];rcases qp.1 hf with rfl | hf
  ·obtain⟨⟨r0,r1⟩,e⟩:=hl.1.w h0
   have:f.fresh ∈ gh N l:=by rw[<- e];exact Ck (by rw[sr,h32];omega)
   exact(ss this).imp id (λ h=>qL _ h)
  ·exact(Jo h32 hl.2 f hf h0).imp id (λ h=>qL _ h)
def ck (N:Nms) (f:Fl):Nms:=if 0≤f.fresh then N.undo f.i.rd f.fresh f.old else N
def freshs (l:List Fl):LI:=(l.filter λ f=>decide (0≤f.fresh)).map (·.fresh)
theorem Aj (l1 l2:List Fl):freshs (l1++l2)=freshs l1++freshs l2:=by
 unfold freshs;rw[qBB,qV]
theorem Ak {l:List Fl}{f:Fl} (h:f ∈ l) (h0:0≤f.fresh):f.fresh ∈ freshs l :=
 qFC (qrB.2 ⟨h,qI h0⟩)
theorem pv {R:Nat}{l1:List Fl}:∀ (r:List Fl){N:Nms},NmOk R N (olds (l1++r.reverse))->Lk N.names (l1++r.reverse) ->
  NmOk R (r.foldl ck N) (olds l1)/\(r.foldl ck N).names=gh N.names r.reverse/\(r.foldl ck N).free=freshs r.reverse++N.free
 | [],N,h,hl=>by
  rw[List.reverse_nil,qqB] at h;exact⟨h,rfl,rfl⟩
 | f::r,N,h,hl=>by
  rw[List.reverse_cons,<- ql] at h hl;have hl2:=Lk_app.1 hl;have hlf:Lnk N.names f:=hl2.2.1;have hu:gh N.names [f]=undo1 f N.names:=rfl;rw[qKB,List.reverse_cons,Ez,Aj,hu];by_cases e:0≤f.fresh
  ·have eo:olds (l1++r.reverse++[f])=olds (l1++r.reverse)++[f.old]:=by
    rw[js];congr 1;unfold olds;rw[qj,if_pos (qI e)];rfl
   rw[eo] at h;obtain⟨hr,hn⟩:=hlf.w e;have h1:=h.undo hr hn
   have ed:ck N f=N.undo f.i.rd f.fresh f.old:=by unfold ck;rw[if_pos e]
   have e1:undo1 f N.names=(N.undo f.i.rd f.fresh f.old).names:=by unfold undo1;rw[if_pos e];rfl
   have ef:freshs [f]=[f.fresh]:=by unfold freshs;rw[qj,if_pos (qI e)];rfl
   rw[ed,e1,ef,ql];exact pv r h1 (e1 ▸ hu ▸ hl2.1)
  ·have eo:olds (l1++r.reverse++[f])=olds (l1++r.reverse):=by
    rw[js]
    have:olds [f]=[]:=by unfold olds;rw[qj,if_neg (by simpa using e)];rfl
    rw[this,qqB]
   rw[eo] at h
   have ed:ck N f=N:=by unfold ck;rw[if_neg e]
   have e1:undo1 f N.names=N.names:=by unfold undo1;rw[if_neg e]
   have ef:freshs [f]=[]:=by unfold freshs;rw[qj,if_neg (by simpa using e)];rfl
   rw[ed,e1,ef,qqB];exact pv r h (e1 ▸ hu ▸ hl2.1)
def Kc.R (C:Kc):Nat:=C.c.regs.toNat
def Kc.W (C:Kc):Nat:=C.c.window.toNat
def Kc.Q (C:Kc):Nat:=C.c.queue.toNat
structure Kc.Ok (C:Kc):Prop where
 wd:1≤C.c.width/\C.c.width≤4
 wn:2≤C.c.window/\C.c.window≤64
 q:1≤C.c.queue/\C.c.queue≤32
 r:34≤C.c.regs/\C.c.regs≤128
 u:1≤C.c.units/\C.c.units≤4
 m:1≤C.c.mul/\C.c.mul≤10
 num:C.num≤1
 code:1≤C.code.length/\C.code.length≤4096
 cu:∀ v ∈ C.code,U32 v
 dl:0≤C.dlen/\C.dlen≤4096/\C.dlen % 16=0
structure FlOk (f:Fl):Prop where
 pc:U32 f.pc
 word:U32 f.word
 guess:U32 f.guess
 value:U32 f.value
 next:U32 f.next
 tval:U32 f.tval
 addr:U32 f.addr
 mv:U32 f.mv
 io:f.i.Ok
 op:0≤f.i.op/\f.i.op≤67
 cls:f.cls=av f.i.op
 di:f.done=true->f.issued=true
 fw:decide (0≤f.fresh)=f.wrs
 cz : -1≤f.cause/\f.cause≤20
structure MR (e:lsq.En) (f:Fl):Prop where
 seq:e.seq=f.seq
 nr:e.retired=false
 st:e.store=decide (f.cls=5)
 pl:f.cls=4->e.placed=f.placed
 ld:f.cls=4->f.issued=true->f.cause= -1->e.loaded=true
 sv:f.cls=5->f.issued=true->f.cause= -1->e.placed=true/\e.valued=true
structure QOk (q:List lsq.En) (g l:List Fl) (S:Nat) (nxt:Nat):Prop where
 len:q.length≤S
 ok:∀ e ∈ q,e.Ok
 srt:q.Pairwise (λ a b=>a.seq<b.seq)
 old:∀ e ∈ q,e.retired=true->∀ f ∈ g++l,e.seq<f.seq
 nx:∀ e ∈ q,e.seq<nxt
 ef:∀ e ∈ q,e.retired=false->∃ f ∈ g++l,f.mem=true/\MR e f
 fe:∀ f ∈ l,f.mem=true->∃ e ∈ q,MR e f
structure Inv (C:Kc) (n:Nat) (g:List Fl) (K:Ko):Prop where
 cf:C.Ok
 nm:NmOk C.R K.nm (olds (g++K.fls))
 lk:Lk K.nm.names (g++K.fls)
 rl:K.rdy.length=C.R
 rd:∀ p,rng C.R p->(K.rdy.getD p.toNat false=false↔∃ f ∈ K.fls,f.fresh=p/\f.done=false)
 vl:K.vals.length=C.R
 vu:∀ v ∈ K.vals,U32 v
 fo:∀ f ∈ g++K.fls,FlOk f
 gd:∀ f ∈ g,f.done=true
 sq:(g++K.fls).Pairwise (λ a b=>a.seq<b.seq)
 sb:∀ f ∈ g++K.fls,0≤f.seq/\f.seq<K.nxt
 wn:K.fls.length≤C.W
 qo:QOk K.q g K.fls C.Q K.nxt
 rs:K.rs.Ok
 pr:K.pr.Ok
 pc:U32 K.pc
 at_:U32 K.at_
 rv:U32 K.resv
 bu:K.bus.Ok n
 bn:C.num<K.bus.Cs.length
 bl:(K.bus.len:Int)=C.dlen
 ev:K.evs.length≤n
 ou:K.out.length≤n
 wr:K.wr.length≤n
 nx:K.nxt≤n
 cy:0≤K.cycle/\K.cycle≤1000000
variable {C:Kc}{n m:Nat}{g:List Fl}{K:Ko}
theorem yb {l:List Fl} (h:l.Pairwise (λ a b=>a.seq<b.seq)){i j:Nat}{f f':Fl} (hi:l[i]?=some f) (hj:l[j]?=some f') (e:f.seq=f'.seq):i=j:=by
 have hi':=qD.1 hi;have hj':=qD.1 hj;obtain⟨h1,rfl⟩:=hi';obtain⟨h2,rfl⟩:=hj';rcases Nat.lt_trichotomy i j with h3 | h3 | h3
 ·have:=qZB.1 h i j h1 h2 h3;omega
 ·exact h3
 ·have:=qZB.1 h j i h2 h1 h3;omega
theorem Inv.sqk (h:Inv C n g K):K.fls.Pairwise (λ a b=>a.seq<b.seq):=(List.pairwise_append.1 h.sq).2.1
theorem Inv.at (h:Inv C n g K){i:Nat}{f:Fl} (hi:K.fls[i]?=some f):K.fi f.seq=some i:=by
 have hi':=qD.1 hi;unfold Ko.fi;rw[qv];refine⟨hi'.1,by rw[hi'.2];simp,λ j hj=>?_⟩;have hjl:j<K.fls.length:=Nat.lt_trans hj hi'.1;intro e
 have e:K.fls[j].seq=f.seq:=by grind
 have:=yb h.sqk (qC hjl) hi e;omega
theorem Cl {s:Int}{i:Nat} (h:K.fi s=some i):∃ f,K.fls[i]?=some f/\f.seq=s:=by
 unfold Ko.fi at h;rw[qv] at h;obtain⟨h1,h2, -⟩:=h;exact⟨_,qC h1,by simpa using h2⟩
theorem bi {i:Nat}{f:Fl} (h:K.fls[i]?=some f):K.fl i=f:=by
 unfold Ko.fl;rw[qF,h];rfl
theorem Inv.mono (h:Inv C n g K) (hm:n≤m) (hb:∀ {S:cbus.PB},S.Ok n->S.Ok m):Inv C m g K :=
 { h with bu:=hb h.bu,ev:=qVB h.ev hm,ou:=qVB h.ou hm,wr:=qVB h.wr hm,nx:=qVB h.nx hm }
theorem Inv.able (h:Inv C n [] K){f:Fl}{r:List Fl} (hf:K.fls=f::r):K.has f.a=true/\K.has f.b=true:=by
 have hn:=pv (R:=C.R) (l1:=[]) K.fls.reverse (N:=K.nm) (by rw[qQB];exact h.nm) (by rw[qQB];exact h.lk);rw[qQB] at hn;obtain⟨hn1,hn2,hn3⟩:=hn
 have hl:Lnk (gh K.nm.names r) f:=by have:=h.lk;rw[qr,hf] at this;exact this.1
 have key:∀ (r1:Int),0≤r1/\r1<32->K.has ((undo1 f (gh K.nm.names r)).getD r1.toNat 0)=true:=by
  intro r1 hr
  have e:undo1 f (gh K.nm.names r)=(K.fls.reverse.foldl ck K.nm).names:=by rw[hn2,hf];rfl
  rw[e];obtain⟨hr1,hr2⟩:=hn1.un r1.toNat (by omega);generalize (K.fls.reverse.foldl ck K.nm).names.getD r1.toNat 0=p at hr1 hr2;unfold Ko.has;rw[qM (show ¬ p<0 by unfold rng at hr1;omega),Bool.false_or];cases hq:K.rdy.getD p.toNat false
  ·obtain⟨f',hf',e1, -⟩:=(h.rd p hr1).1 hq
   have:p ∈ (K.fls.reverse.foldl ck K.nm).free:=by
    rw[hn3];refine qt _ ?_;rw[<- e1];exact Ak hf' (by rw[e1];exact hr1.1)
   have:=(hn1.uf p this).2;omega
  ·rfl
 have io:=(h.fo f (by grind)).io;constructor
 ·rw[hl.a];split
  ·exact key _ io.2.1
  ·rfl
 ·rw[hl.b];split
  ·exact key _ io.2.2
  ·rfl
variable {C:Kc}{n m:Nat}{g:List Fl}{K:Ko}{f f':Fl}{i:Nat}
theorem Inv.up (h:Inv C n g K) (hm:n≤m):Inv C m g K:=h.mono hm (λ hS=>cbus.Ok.mono hS hm)
theorem Inv.tell (h:Inv C n g K) (kind:Int) (f:Fl) (r:Rt):Inv C (n+1) g (K.tell C kind f r) :=
 { h.up (Nat.le_succ n) with ev:=by show(K.evs++[_]).length≤n+1;rw[qP];have:=h.ev;simp;omega }
structure Keep (f f':Fl):Prop where
 seq:f'.seq=f.seq
 fresh:f'.fresh=f.fresh
 old:f'.old=f.old
 i:f'.i=f.i
 a:f'.a=f.a
 b:f'.b=f.b
 cls:f'.cls=f.cls
def Fl.key (f:Fl):Int×Int×Int×Ins×Int×Int:=(f.seq,f.fresh,f.old,f.i,f.a,f.b)
theorem Keep.key {f f':Fl} (h:Keep f f'):f'.key=f.key:=by
 unfold Fl.key;rw[h.seq,h.fresh,h.old,h.i,h.a,h.b]
theorem Qw {l:List Fl} (hi:l[i]?=some f) (hk:f'.key=f.key):(l.set i f').map Fl.key=l.map Fl.key:=by
 apply qEB;intro j;rw[qS,qS,qn];by_cases e:i=j
 ·grind
 ·grind
theorem Qx {f f':Fl} (h:f'.key=f.key) (N:LI):undo1 f' N=undo1 f N:=by
 unfold Fl.key at h;simp only[Prod.mk.injEq] at h;unfold undo1;rw[h.2.1,h.2.2.1,h.2.2.2.1]
theorem yc {N:LI}:∀ {l l':List Fl},l'.map Fl.key=l.map Fl.key->gh N l'=gh N l/\olds l'=olds l/\(Lk N l->Lk N l')
 | [],[],_=>⟨rfl,rfl,id⟩
 | [],_::_,h=>by simp at h
 | _::_,[],h=>by simp at h
 | f::l,f'::l',h=>by
  rw[quB,quB,List.cons.injEq] at h;obtain⟨h1,h2,h3⟩:=yc (N:=N) h.2;have hk:=h.1;have e1:=Qx h.1;unfold Fl.key at hk;simp only[Prod.mk.injEq] at hk;obtain⟨-,k1,k2,k3,k4,k5⟩:=hk;refine⟨?_,?_,λ hl=>⟨⟨?_,?_,?_⟩,h3 hl.2⟩⟩
  ·show undo1 f' (gh N l')=undo1 f (gh N l);rw[h1,e1]
  ·have eo:∀ (f:Fl) (l:List Fl),olds (f::l)=(if 0≤f.fresh then [f.old] else [])++olds l:=by
    intro f l;unfold olds;rw[qj];by_cases e:0≤f.fresh
    ·rw[if_pos (qI e),if_pos e];rfl
    ·rw[if_neg (by simpa using e),if_neg e];rfl
   rw[eo,eo,h2,k1,k2]
  ·rw[k1,k3,h1];exact hl.1.w
  ·rw[h1,e1,k3,k4];exact hl.1.a
  ·rw[h1,e1,k3,k5];exact hl.1.b
theorem Ym {l l':List Fl} (h:l'.map Fl.key=l.map Fl.key) (hs:l.Pairwise (λ a b=>a.seq<b.seq)):l'.Pairwise (λ a b=>a.seq<b.seq):=by
 have e:∀ l:List Fl,l.Pairwise (λ a b=>a.seq<b.seq)↔(l.map Fl.key).Pairwise (λ a b=>a.1<b.1):=λ l=>by
  rw[List.pairwise_map];exact Iff.rfl
 rw[e,h,<- e];exact hs
theorem Qy {l l':List Fl} (h:l'.map Fl.key=l.map Fl.key){x:Fl} (hx:x ∈ l'):∃ y ∈ l,y.key=x.key:=by
 have:x.key ∈ l.map Fl.key:=by grind
 obtain⟨y,hy,e⟩:=qCB.1 this;exact⟨y,hy,e⟩
theorem Qz {g l l':List Fl} (h:l'.map Fl.key=l.map Fl.key):(g++l').map Fl.key=(g++l).map Fl.key:=by grind
theorem Inv.upd (h:Inv C n g K){q:List lsq.En} (hi:K.fls[i]?=some f) (hk:Keep f f') (hd:f'.done=f.done) (ho:FlOk f') (hq:QOk q g (K.fls.set i f') C.Q K.nxt):Inv C n g { K with fls:=K.fls.set i f',q:=q }:=by
 have hil:=(qD.1 hi).1;have ek:=Qw (l:=K.fls) hi hk.key;have ek2:=Qz (g:=g) ek;obtain⟨c1,c2,c3⟩:=yc (N:=K.nm.names) ek2;have memset:∀ x ∈ K.fls.set i f',x=f'∨x ∈ K.fls:=λ x hx=>(qZ hx).symm;refine { h with nm:=by show NmOk C.R K.nm (olds (g++K.fls.set i f'));rw[c2];exact h.nm,lk:=c3 h.lk,rd:=λ p hp=>?_,fo:=λ x hx=>?_,sq:=Ym ek2 h.sq,sb:=λ x hx=>?_,wn:=by show(K.fls.set i f').length≤_;rw[qJ];exact h.wn,qo:=hq }
 ·rw[show({ K with fls:=K.fls.set i f',q:=q }:Ko).rdy=K.rdy from rfl,h.rd p hp];constructor
  ·rintro⟨x,hx,e1,e2⟩;obtain⟨j,hj⟩:=qu hx;by_cases e:i=j
   ·subst e;rw[hi] at hj;cases hj;exact⟨f',qK.2 ⟨i,by rw[qO hil]⟩,by rw[hk.fresh];exact e1,by rw[hd];exact e2⟩
   ·exact⟨x,qK.2 ⟨j,by rw[qz e];exact hj⟩,e1,e2⟩
  ·rintro⟨x,hx,e1,e2⟩;obtain⟨j,hj⟩:=qu hx;by_cases e:i=j
   ·subst e;rw[qO hil] at hj;cases hj;exact⟨f,qK.2 ⟨i,hi⟩,by rw[<- hk.fresh];exact e1,by rw[<- hd];exact e2⟩
   ·rw[qz e] at hj;exact⟨x,qK.2 ⟨j,hj⟩,e1,e2⟩
 ·rcases qc.1 hx with hx | hx
  ·exact h.fo x (qt _ hx)
  ·rcases memset x hx with rfl | hx
   ·exact ho
   ·exact h.fo x (qL _ hx)
 ·obtain⟨y,hy,e⟩:=Qy ek2 hx;have:=h.sb y hy;have e1:y.seq=x.seq:=congrArg (·.1) e;rw[<- e1];exact this
theorem QOk.setf {q:List lsq.En}{l:List Fl}{S nx:Nat} (h:QOk q g l S nx) (hi:l[i]?=some f) (hk:Keep f f') (hm:∀ e ∈ q,MR e f->MR e f'):QOk q g (l.set i f') S nx:=by
 have hil:=(qD.1 hi).1
 have emem:f'.mem=f.mem:=by unfold Fl.mem;rw[hk.cls]
 have fm:f ∈ l:=qK.2 ⟨i,hi⟩;have fm':f' ∈ l.set i f':=qK.2 ⟨i,by rw[qO hil]⟩;refine { h with old:=λ e he hr x hx=>?_,ef:=λ e he hr=>?_,fe:=λ x hx hxm=>?_ }
 ·rcases qc.1 hx with hx | hx
  ·exact h.old e he hr x (qt _ hx)
  ·rcases qZ hx with hx | rfl
   ·exact h.old e he hr x (qL _ hx)
   ·rw[hk.seq];exact h.old e he hr f (qL _ fm)
 ·obtain⟨x,hx,hxm,hmr⟩:=h.ef e he hr;rcases qc.1 hx with hx | hx
  ·exact⟨x,qt _ hx,hxm,hmr⟩
  ·obtain⟨j,hj⟩:=qu hx;by_cases ej:i=j
   ·subst ej;rw[hi] at hj;cases hj;exact⟨f',qL _ fm',by rw[emem];exact hxm,hm e he hmr⟩
   ·exact⟨x,qL _ (qK.2 ⟨j,by rw[qz ej];exact hj⟩),hxm,hmr⟩
 ·rcases qZ hx with hx | rfl
  ·exact h.fe x hx hxm
  ·obtain⟨e,he,hmr⟩:=h.fe f fm (by rw[<- emem];exact hxm);exact⟨e,he,hm e he hmr⟩
theorem Inv.setf (h:Inv C n g K) (hi:K.fls[i]?=some f) (hk:Keep f f') (hd:f'.done=f.done) (ho:FlOk f') (hm:∀ e ∈ K.q,MR e f->MR e f'):Inv C n g (K.setf i f') :=
 h.upd hi hk hd ho (h.qo.setf hi hk hm)
theorem Inv.mem (h:Inv C n g K) (hi:K.fls[i]?=some f):f ∈ g++K.fls:=qL _ (qK.2 ⟨i,hi⟩)
theorem Inv.freshs (h:Inv C n g K):(freshs (g++K.fls)).Nodup:=by
 have hn:=pv (R:=C.R) (l1:=[]) (g++K.fls).reverse (N:=K.nm) (by rw[qQB];exact h.nm) (by rw[qQB];exact h.lk);rw[qQB] at hn;have:=hn.1.fd;rw[hn.2.2,qmB] at this;exact this.1
theorem Wf {l:List Fl} (h:(ko.freshs l).Nodup){i j:Nat}{f f':Fl} (hi:l[i]?=some f) (hj:l[j]?=some f') (h0:0≤f.fresh) (e:f.fresh=f'.fresh):i=j:=by
 unfold ko.freshs List.Nodup at h;rw[List.pairwise_map,List.pairwise_filter] at h;obtain⟨h1,rfl⟩:=qD.1 hi;obtain⟨h2,rfl⟩:=qD.1 hj
 have h0':0≤l[j].fresh:=by omega
 rcases Nat.lt_trichotomy i j with h3 | h3 | h3
 ·exact absurd e (qZB.1 h i j h1 h2 h3 (qI h0) (qI h0'))
 ·exact h3
 ·exact absurd e.symm (qZB.1 h j i h2 h1 h3 (qI h0') (qI h0))
theorem Inv.fresh_one (h:Inv C n g K){j:Nat} (hi:K.fls[i]?=some f) (hj:K.fls[j]?=some f') (h0:0≤f.fresh) (e:f.fresh=f'.fresh):i=j:=by
 have:=h.freshs;rw[Aj,qmB] at this;exact Wf this.2.1 hi hj h0 e
theorem NmOk.mem {R:Nat}{N:Nms}{os:LI} (h:NmOk R N os){x:Int} (hx:x ∈ N.names):rng R x/\N.uses.getD x.toNat 0=1:=by
 obtain⟨i,hi⟩:=qu hx;have h2:=(qD.1 hi).1;rw[h.n32] at h2;have:=h.un i h2;rw[qF,hi] at this;exact this
theorem Inv.undo_rng (h:Inv C n g K){l l':List Fl} (e:g++K.fls=l++l'){x:Int} (hx:x ∈ gh K.nm.names l'):rng C.R x:=by
 rcases ss hx with hx | hx
 ·exact(h.nm.mem hx).1
 ·exact(h.nm.uo x (by rw[e,js];exact qL _ hx)).1
theorem Inv.link (h:Inv C n g K) (hf:f ∈ g++K.fls):∃ l l',g++K.fls=l++f::l'/\Lnk (gh K.nm.names l') f:=by
 obtain⟨l,l',e⟩:=List.append_of_mem hf;have:=h.lk;rw[e] at this;exact⟨l,l',e,(Lk_app.1 this).2.1⟩
theorem Inv.src (h:Inv C n g K) (hf:f ∈ g++K.fls):(-1≤f.a/\f.a<C.R)/\(-1≤f.b/\f.b<C.R):=by
 obtain⟨l,l',e,hl⟩:=h.link hf;have io:=(h.fo f hf).io
 have key:∀ r:Int,0≤r/\r<32->rng C.R ((undo1 f (gh K.nm.names l')).getD r.toNat 0):=λ r hr=>by
  have:(undo1 f (gh K.nm.names l')).getD r.toNat 0 ∈ gh K.nm.names (f::l'):=Ck (by rw[sr,h.nm.n32];omega);exact h.undo_rng e this
 constructor
 ·rw[hl.a];split
  ·have:=key _ io.2.1;unfold rng at this;omega
  ·have:=h.nm.r1;omega
 ·rw[hl.b];split
  ·have:=key _ io.2.2;unfold rng at this;omega
  ·have:=h.nm.r1;omega
theorem Inv.fresh (h:Inv C n g K) (hf:f ∈ g++K.fls) (h0:0≤f.fresh):rng C.R f.fresh/\(0<f.i.rd/\f.i.rd<32):=by
 obtain⟨l,l',e,hl⟩:=h.link hf;obtain⟨hr,hn⟩:=hl.w h0;refine⟨?_,hr⟩;rw[<- hn];have:(gh K.nm.names l').getD f.i.rd.toNat 0 ∈ gh K.nm.names l':=Ck (by rw[sr,h.nm.n32];omega);exact h.undo_rng (l:=l++[f]) (by rw[e];simp) this
theorem Inv.old_rng (h:Inv C n g K) (hf:f ∈ g++K.fls) (h0:0≤f.fresh):rng C.R f.old/\f.old≠0:=by
 have hm:f.old ∈ olds (g++K.fls):=qFC (qrB.2 ⟨hf,qI h0⟩);have:=h.nm.uo _ hm;refine⟨this.1,λ e=>?_⟩;have h0:=(h.nm.un 0 (by omega)).2;rw[h.nm.r0] at h0;rw[e] at this;rw[h0] at this;exact absurd this.2 (by omega)
theorem Inv.beg (h:Inv C n g K) (hi:K.fls[i]?=some f) (cy:Int) (hm:∀ e ∈ K.q,MR e f->MR e (f.beg (K.cycle+cy))):Inv C (n+1) g (K.begin C i cy):=by
 have ef:=bi hi;have ho:=h.fo f (h.mem hi);unfold Ko.begin;rw[ef];exact(h.setf (f':=f.beg (K.cycle+cy)) hi ⟨rfl,rfl,rfl,rfl,rfl,rfl,rfl⟩ rfl { ho with di:=λ _=>rfl,fw:=ho.fw } hm).tell _ _ _
theorem MR.beg {e:lsq.En} (h:MR e f) (hn:f.mem=false∨f.cause≠ -1) (t:Int):MR e (f.beg t):=by
 refine { h with ld:=λ h4 _ hc=>?_,sv:=λ h5 _ hc=>?_ }
 ·rcases hn with hn | hn
  ·unfold Fl.mem at hn;rw[qI (show f.cls=4 from h4)] at hn;cases hn
  ·exact absurd hc hn
 ·rcases hn with hn | hn
  ·unfold Fl.mem at hn;rw[qI (show f.cls=5 from h5),Bool.or_true] at hn;cases hn
  ·exact absurd hc hn
theorem yd {l:List Bool}{i j:Nat}{v:Bool}:(l.set i v).getD j false=if i=j/\j<l.length then v else l.getD j false:=by grind
theorem Inv.finish (h:Inv C n g K) (hi:K.fls[i]?=some f) (his:f.issued=true):Inv C (n+1) g (K.finish C i):=by
 have hil:=(qD.1 hi).1;have ef:=bi hi;have hfm:=h.mem hi;have ho:=h.fo f hfm;have ek:=Qw (l:=K.fls) (f':=f.fin) hi rfl;have ek2:=Qz (g:=g) ek;obtain⟨c1,c2,c3⟩:=yc (N:=K.nm.names) ek2;have hq:QOk K.q g (K.fls.set i f.fin) C.Q K.nxt:=h.qo.setf hi ⟨rfl,rfl,rfl,rfl,rfl,rfl,rfl⟩ (λ e _ hm=>{ hm with });unfold Ko.finish;rw[ef]
 suffices hs:Inv C n g (((K.setf i f.fin).put f).rouse f.fresh) from hs.tell _ _ _
 have base:∀ {r:List Bool} {v:LI},r.length=C.R->v.length=C.R->(∀ x ∈ v,U32 x) ->
   (∀ p,rng C.R p->(r.getD p.toNat false=false↔∃ x ∈ K.fls.set i f.fin,x.fresh=p/\x.done=false))->Inv C n g { K with fls:=K.fls.set i f.fin,rdy:=r,vals:=v }:=by
  intro r v hr hv hu hrd;refine { h with nm:=by show NmOk C.R K.nm (olds (g++K.fls.set i f.fin));rw[c2];exact h.nm,lk:=c3 h.lk,rl:=hr,rd:=hrd,vl:=hv,vu:=hu,fo:=λ x hx=>?_,sq:=Ym ek2 h.sq,sb:=λ x hx=>?_,wn:=by show(K.fls.set i f.fin).length≤_;rw[qJ];exact h.wn,qo:=hq }
  ·rcases qc.1 hx with hx | hx
   ·exact h.fo x (qt _ hx)
   ·rcases qZ hx with hx | rfl
    ·exact h.fo x (qL _ hx)
    ·exact { ho with di:=λ _=>his,fw:=ho.fw }
  ·obtain⟨y,hy,e⟩:=Qy ek2 hx;have:=h.sb y hy;have e1:y.seq=x.seq:=congrArg (·.1) e;rw[<- e1];exact this
 have other:∀ p,rng C.R p->p≠f.fresh->(K.rdy.getD p.toNat false=false↔∃ x ∈ K.fls.set i f.fin,x.fresh=p/\x.done=false):=by
  intro p hp hne;rw[h.rd p hp];constructor
  ·rintro⟨x,hx,e1,e2⟩;obtain⟨j,hj⟩:=qu hx;by_cases e:i=j
   ·subst e;rw[hi] at hj;cases hj;exact absurd e1.symm hne
   ·exact⟨x,qK.2 ⟨j,by rw[qz e];exact hj⟩,e1,e2⟩
  ·rintro⟨x,hx,e1,e2⟩;rcases qZ hx with hx | rfl
   ·exact⟨x,hx,e1,e2⟩
   ·cases e2
 have vlen:∀ {v:LI} {k:Nat} {x:Int},v.length=C.R->(v.set k x).length=C.R:=by grind
 have vU:∀ {k:Nat} {x:Int},U32 x->∀ y ∈ K.vals.set k x,U32 y:=by
  intro k x hx y hy;rcases qZ hy with hy | rfl
  ·exact h.vu y hy
  ·exact hx
 by_cases h0:0≤f.fresh
 ·have hr:=(h.fresh hfm h0).1
  have hrd:∀ p,rng C.R p->((K.rdy.set f.fresh.toNat true).getD p.toNat false=false↔∃ x ∈ K.fls.set i f.fin,x.fresh=p/\x.done=false):=by
   intro p hp;rw[yd,h.rl];by_cases e:p=f.fresh
   ·subst e;rw[if_pos ⟨rfl,by unfold rng at hr;omega⟩];constructor
    ·intro e;cases e
    ·rintro⟨x,hx,e1,e2⟩;obtain⟨j,hj⟩:=qu hx;by_cases e:i=j
     ·subst e;rw[qO hil] at hj;cases hj;cases e2
     ·rw[qz e] at hj;exact absurd (h.fresh_one hi hj h0 e1.symm) e
   ·rw[if_neg (λ x=>by have:=x.1;unfold rng at hp hr;omega)];exact other p hp e
  by_cases hc:f.cause= -1
  ·have e:((K.setf i f.fin).put f).rouse f.fresh={ K with fls:=K.fls.set i f.fin,rdy:=K.rdy.set f.fresh.toNat true,vals:=K.vals.set f.fresh.toNat f.value }:=by
    unfold Ko.put Ko.rouse;rw[if_pos h0,if_pos ⟨h0,hc⟩];rfl
   rw[e];exact base (by rw[qJ];exact h.rl) (vlen h.vl) (vU ho.value) hrd
  ·have e:((K.setf i f.fin).put f).rouse f.fresh={ K with fls:=K.fls.set i f.fin,rdy:=K.rdy.set f.fresh.toNat true }:=by
    unfold Ko.put Ko.rouse;rw[if_pos h0,if_neg (λ x=>hc x.2)];rfl
   rw[e];exact base (by rw[qJ];exact h.rl) h.vl h.vu hrd
 ·have e:((K.setf i f.fin).put f).rouse f.fresh={ K with fls:=K.fls.set i f.fin }:=by
   unfold Ko.put Ko.rouse;rw[if_neg h0,if_neg (λ x=>h0 x.1)];rfl
  rw[e];exact base h.rl h.vl h.vu (λ p hp=>other p hp (by unfold rng at hp;omega))
theorem Wg (x:Int):U32 (x % 4294967296):=⟨by omega,by omega⟩
theorem Jp (f:BinOp){a b:Int} (ha:U32 a) (hb:U32 b):U32 (bits f .u32 a b):=by
 unfold bits;exact zz _
theorem ake {r:Int}:U32 (alu.sx8 r):=by unfold alu.sx8;exact⟨by split <;> omega,by split <;> omega⟩
theorem ago {r:Int}:U32 (alu.sx16 r):=by unfold alu.sx16;exact⟨by split <;> omega,by split <;> omega⟩
theorem Wh {op r:Int} (h:U32 r):U32 (alu.widenF op r):=by
 unfold alu.widenF;split
 ·exact ake
 split
 ·exact ago
 split
 ·exact⟨by omega,by omega⟩
 split
 ·exact⟨by omega,by omega⟩
 split
 ·exact h
 split
 ·exact h
 ·exact lh (by decide) (by decide)
theorem akf {c:Prop}[Decidable c]:U32 (if c then 1 else 0):=by split <;> exact lh (by decide) (by decide)
theorem aco {a b:Int} (ha:U32 a) (hb:U32 b):U32 (a * b / 4294967296):=by
 obtain⟨a0,a1⟩:=ha;obtain⟨b0,b1⟩:=hb;have h1:a * b≤4294967295 * 4294967295:=Int.mul_le_mul (by omega) (by omega) b0 (by decide);have h0:0≤a * b:=Int.mul_nonneg a0 b0;generalize a * b=c at h1 h0;exact⟨by omega,by omega⟩
theorem agp {a b:Int} (ha:U32 a) (hb:0≤b):U32 (a / b):=by
 obtain⟨a0,a1⟩:=ha;refine⟨Int.ediv_nonneg a0 hb,?_⟩;have:=Int.ediv_le_self b a0;omega
theorem akg {a b:Int} (hb:U32 b) (hn:b≠0):U32 (a % b):=by
 obtain⟨b0,b1⟩:=hb;have:=Int.emod_lt_of_pos a (show 0<b by omega);exact⟨Int.emod_nonneg _ hn,by omega⟩
theorem acp {op a b:Int} (ha:U32 a) (hb:U32 b):U32 (alu.execF op a b):=by
 have hp:∀ n:Nat,(0:Int)≤2 ^ n:=λ n=>Int.pow_nonneg (by decide);unfold alu.execF
 split <;> first
  | exact Wg _
  | exact Jp _ ha hb
  | exact akf
  | exact agp ha (hp _)
  | exact aco ha hb
  | (unfold alu.quoF;split;exact lh (by decide) (by decide);exact Wg _)
  | (unfold alu.remF;split;exact ha;exact Wg _)
  | (unfold alu.divuF;split;exact lh (by decide) (by decide);exact agp ha hb.1)
  | (unfold alu.remuF;split;exact ha;exact akg hb (by assumption))
  | exact lh (by decide) (by decide)
theorem acq {op imm pc a b:Int} (hp:U32 pc) (ha:U32 a) (hb:U32 b):U32 (ov op imm pc a b).1/\U32 (ov op imm pc a b).2:=by
 unfold ov;split
 ·exact⟨hp,zz _⟩
 ·split
  ·exact⟨ha,zz _⟩
  ·exact⟨ha,hb⟩
theorem acr (op imm pc a:Int):U32 (ui op imm pc a):=by
 unfold ui;split
 ·exact Vc _ _
 ·exact zz _
theorem Wi {op imm a:Int} (ha:U32 a):U32 (fq op imm a):=by
 unfold fq;split
 ·exact ha
 ·exact zz _
theorem acs {op a b:Int} (ha:U32 a) (hb:U32 b):U32 (alu.swapF op a b):=by
 unfold alu.swapF;split
 ·exact hb
 split
 ·exact Wg _
 split
 ·exact Jp _ ha hb
 split
 ·exact Jp _ ha hb
 split
 ·exact Jp _ ha hb
 split
 ·grind
 split
 ·grind
 split
 ·grind
 split
 ·grind
 ·exact ha
theorem Mf (op:Int):alu.sizeF op=0∨alu.sizeF op=1∨alu.sizeF op=2∨alu.sizeF op=4:=by
 unfold alu.sizeF;split
 ·omega
 split
 ·omega
 split
 ·omega
 split
 ·omega
 ·omega
theorem akh {x n:Nat} (hx:x<4294967296) (hn:n<4294967296):ik x n=((x &&&n:Nat):Int):=by
 unfold ik;exact Bits.land32 hx hn
theorem Hm {v:Int} (h:U32 v) (b:Nat) (hb:b≤31):ik v ((2 ^ b - 1:Nat):Int)=v % (2 ^ b:Nat):=by
 obtain⟨h0,h1⟩:=h;obtain⟨n,rfl⟩:∃ n:Nat,v=n:=⟨v.toNat,by omega⟩;have:2 ^ b≤2 ^ 31:=qX (by decide) hb;rw[akh (by omega) (by omega),Nat.and_two_pow_sub_one_eq_mod];omega
theorem agq (op:Int){a b:Int} (ha:U32 a) (hb:U32 b):U32 (alu.execF op a b):=acp ha hb
theorem Yn (op imm:Int){pc a:Int}:U32 (ui op imm pc a):=acr op imm pc a
theorem Ra (op imm:Int){pc a b:Int} (hp:U32 pc) (ha:U32 a) (hb:U32 b):U32 (ov op imm pc a b).1/\U32 (ov op imm pc a b).2:=acq hp ha hb
theorem Cm (op imm:Int){a:Int} (ha:U32 a):U32 (fq op imm a):=Wi ha
theorem act (op:Int){a:Int} (ha:U32 a):U32 (alu.widenF op a):=Wh ha
theorem Yo (op:Int){a b:Int} (ha:U32 a) (hb:U32 b):U32 (alu.swapF op a b):=acs ha hb
theorem Fa (op addr d:Int) : -1≤ff op addr d/\ff op addr d≤7:=by
 unfold ff;split
 ·omega
 ·omega
theorem Fb (op:Int):0≤av op/\av op≤7:=by
 unfold av;split
 ·decide
 split
 ·decide
 dsimp only;split
 ·decide
 split
 ·decide
 split
 ·decide
 split
 ·decide
 split
 ·decide
 split <;> decide
theorem class_0:av 0=7:=by kernel_rfl
theorem aom:((List.range 68).all λ i=>decide ((4≤av (i:Nat)/\av (i:Nat)≤6)↔alu.sizeF (i:Nat)≠0))=true:=by kernel_rfl
theorem Rb {op:Int} (h:¬ (0≤op/\op≤67)):av op=7:=by
 have e:ofP op=(0,0,0):=if_pos (by omega);unfold av;rw[if_neg (by omega),if_neg (by omega),e];rfl
theorem decF_op (x:Int):0≤(yy x).op/\(yy x).op≤67:=by
 rw[_root_.Go.Proofs.YtmncepdbglaphaaGreatDoor.decF_op]
 cases e:opF x with
 | none=>exact⟨by decide,by decide⟩
 | some o=>have:=Bo e;exact⟨by show 0≤o;omega,by show o≤67;omega⟩
theorem agr (A:Nat) (F:lsq.Src):lsq.valF A F<4294967296:=by
 have hb:∀ a o,lsq.byteOf a o<256:=by
  intro a o
  cases o with
  | none=>exact(by decide:0<256)
  | some e=>exact qIB _ (by decide)
 have h0:=hb (A+0) (F 0);have h1:=hb (A+1) (F 1);have h2:=hb (A+2) (F 2);have h3:=hb (A+3) (F 3);unfold lsq.valF;omega
theorem Yp {P:Prd} (h:P.Ok) (t:Bool):0≤nh P.hist P.mask t/\nh P.hist P.mask t≤P.mask:=by
 obtain⟨k,hk,e⟩:=h.msk;have h0:=h.h0;have h1:=h.h1;have hp:(2:Nat) ^ k≤2 ^ 10:=qX (by decide) hk;have hq:=qMB k
 have e2:P.mask=((2 ^ k:Nat):Int) - 1:=by grind
 have key:∀ x:Int,0≤x->x<9223372036854775808->0≤nh3 x P.mask/\nh3 x P.mask≤P.mask:=by
  intro x x0 x1;obtain⟨y,rfl⟩:∃ y:Nat,x=y:=⟨x.toNat,by omega⟩;unfold nh3;rw[e2,Bits.mask64 (by omega) (by omega)];have:=qIB y hq;omega
 obtain⟨y,hy⟩:∃ y:Nat,P.hist=y:=⟨P.hist.toNat,by omega⟩
 have hy2:y<1024:=by omega
 have a1:nh1 P.hist=((y * 2:Nat):Int):=by
  unfold nh1;rw[hy];show IntKind.wrap .i64 ((y:Int) * 2 ^ 1)=_;rw[w64 (by omega) (by omega)];omega
 have hy3:(y * 2) |||1<2 ^ 12:=Nat.or_lt_two_pow (by omega) (by decide)
 have a2:nh2 (nh1 P.hist)=(((y * 2) |||1:Nat):Int):=by
  unfold nh2;rw[a1]
  have e1:(bZ .i64 ((y * 2:Nat):Int) |||bZ .i64 1).toNat=(y * 2) |||1:=by
   show(BitVec.ofInt 64 ((y * 2:Nat):Int) |||BitVec.ofInt 64 1).toNat=_;rw[BitVec.toNat_or,BitVec.toNat_ofInt,BitVec.toNat_ofInt]
   have f1:(((y * 2:Nat):Int) % ((2 ^ 64:Nat):Int)).toNat=y * 2:=by omega
   have f2:((1:Int) % ((2 ^ 64:Nat):Int)).toNat=1:=by decide
   rw[f1,f2]
  rw[e1,w64 (by omega) (by omega)]
 unfold nh;cases t
 ·grind
 ·grind
theorem Rc {op addr d:Int} (hd:0≤d/\d≤4096) (hc:4≤av op/\av op≤6) (ha:U32 addr) (h:ff op addr d= -1):(alu.sizeF op=1∨alu.sizeF op=2∨alu.sizeF op=4)/\addr % alu.sizeF op=0:=by
 have hn:alu.sizeF op≠0:=by
  by_cases ho:0≤op/\op≤67
  ·have:=List.all_eq_true.1 aom op.toNat (qNB.2 (by omega));rw[show((op.toNat:Nat):Int)=op by omega,decide_eq_true_eq] at this;exact this.1 hc
  ·have:av op=7:=Rb ho;omega
 have hs:alu.sizeF op=1∨alu.sizeF op=2∨alu.sizeF op=4:=by have:=Mf op;omega
 refine⟨hs,?_⟩
 have ea:ik addr (wr (wr (alu.sizeF op) - 1))=addr % alu.sizeF op:=by
  rcases hs with h | h | h <;> rw[h]
  ·exact(Hm ha 0 (by decide)).trans rfl
  ·exact(Hm ha 1 (by decide)).trans rfl
  ·exact(Hm ha 2 (by decide)).trans rfl
 unfold ff at h;rw[ea] at h;by_cases q:addr % alu.sizeF op=0
 ·exact q
 ·omega
theorem Wj {S:cbus.PB}{m:Nat} (ho:S.Ok m) (hm:m≤1000000000000) (c:Int) (a:Nat) (sz:Int):(S.readN c a sz).Ok (m+1)/\(S.readN c a sz).Cs.length=S.Cs.length/\(S.readN c a sz).len=S.len:=by
 obtain⟨h1,h2⟩:=cbus.breadN_ok ho (by omega) c a sz;refine⟨h1,h2,?_⟩;unfold cbus.PB.readN;split <;> rfl
theorem Rd {S:cbus.PB}{m:Nat} (ho:S.Ok m) (hm:m≤1000000000000) (c:Int) (a:Nat) (sz:Int) (d:Nat):(S.writeN c a sz d).Ok (m+1)/\(S.writeN c a sz d).Cs.length=S.Cs.length/\(S.writeN c a sz d).len=S.len:=by
 obtain⟨h1,h2⟩:=cbus.bwriteN_ok ho (by omega) c a sz d;refine⟨h1,h2,?_⟩;unfold cbus.PB.writeN;split <;> rfl
theorem acu {S:cbus.PB}{m:Nat} (ho:S.Ok m) (c:Int) (a:Nat) (ha:a<4294967296) (w:Bool):(S.askN c a w).Ok m/\(S.askN c a w).Cs.length=S.Cs.length/\(S.askN c a w).len=S.len:=by
 obtain⟨h1,h2⟩:=cbus.askN_ok ho c a ha w;refine⟨h1,h2,?_⟩;unfold cbus.PB.askN;split <;> rfl
theorem ags {l:LN} (h:∀ x ∈ l,x<256){n:Nat} (hl:l.length≤n):cbus.le l<2 ^ (8 * n):=by
 refine qaB (cbus.le_lt h) ?_;rw[show(256:Nat)=2 ^ 8 by decide,<- Nat.pow_mul];exact qX (by decide) (by omega)
theorem Hn {S:cbus.PB}{m:Nat} (ho:S.Ok m) (c:Int) (a:Nat){sz:Int} (hs:sz=1∨sz=2∨sz=4):S.readV c a sz<2 ^ (8 * sz.toNat):=by
 have h0:0<2 ^ (8 * sz.toNat):=qMB _;unfold cbus.PB.readV;split
 ·rename_i hw;have hk:=(cbus.within_true hw).1;have hk2:=(cbus.within_true hw).2.1;have hg:=ho.cs c.toNat (by omega);unfold cbus.CS.readV;split
  ·rename_i j hj;have h1:=cbus.wayOf_at (cbus.hit_look hj);have h2:=cbus.wayOf_ok hg (cbus.hit_look hj);unfold cbus.CS.val
   have e:((S.C c.toNat).set_ ((S.C c.toNat).ix a)).getD j default=(S.C c.toNat).wayOf a:=by rw[qF,h1.1];rfl
   rw[e];refine ags (λ x hx=>h2.1.byte x ?_) ?_
   ·unfold cbus.Way.part at hx;exact qhB (qRB hx)
   ·unfold cbus.Way.part;rw[qq];exact Nat.min_le_left ..
  ·exact h0
 ·exact h0
theorem Re {R:RS} (h:R.Ok){pc cause tval:Int} (hp:U32 pc):(R.trap pc cause tval).2.2.Ok/\U32 (R.trap pc cause tval).1:=by
 unfold RS.trap;split
 ·grind
 ·exact⟨h.trapped _ _ _,h.at _⟩
theorem acv {R:RS} (h:R.Ok):R.back.Ok/\U32 (R.back.at 833):=⟨h.back,h.back.at _⟩
theorem Rf {R:RS} (h:R.Ok) (op rs1 imm:Int){a:Int} (ha:U32 a):(R.access op rs1 imm a).2.2.Ok/\U32 (R.access op rs1 imm a).1:=h.access op rs1 imm a
theorem Jq {R:RS} (h:R.Ok):R.counted.Ok:=h.counted
theorem Prd.Ok.on {P:Prd} (h:P.Ok) (pc:Int) (i:Ins) (t:Bool):(P.on pc i t).Ok:=by
 have ht:=h.top;unfold Prd.on;split
 ·exact { h with h0:=(Yp h t).1,h1:=(Yp h t).2 }
 ·split
  ·exact { h with top:=qIB _ (by omega) }
  ·split
   ·refine { h with top:=by show _<(P.stack.set _ _).length;rw[qJ];exact qIB _ (by omega),len:=by show(P.stack.set _ _).length≤16;rw[qJ];exact h.len,stk:=λ v hv=>?_ };rcases qZ hv with hv | rfl
    ·exact h.stk v hv
    ·exact zz _
   ·exact h
theorem Prd.Ok.back {P:Prd} (h:P.Ok){mh mt mv:Int} (hv:U32 mv) (pc:Int) (i:Ins) (t:Bool):(P.back mh mt mv pc i t).Ok:=by
 unfold Prd.back;split
 ·rename_i e;unfold Prd.whole at e;simp only[qU,decide_eq_true_eq] at e
  have hs:∀ v ∈ P.stack.set mt.toNat mv,U32 v:=λ v hx=>by
   rcases qZ hx with hx | rfl
   ·exact h.stk v hx
   ·exact hv
  have h2:({ P with hist:=mh,top:=mt.toNat,stack:=P.stack.set mt.toNat mv }:Prd).Ok:={ h with top:=by show mt.toNat<(P.stack.set _ _).length;rw[qJ];omega,len:=by show(P.stack.set _ _).length≤16;rw[qJ];exact h.len,h0:=e.1.1,h1:=e.1.2,stk:=hs };exact h2.on pc i t
 ·exact h
theorem acw {c:Int} (h:0≤c/\c≤3) (t:Bool):0≤cnt c t/\cnt c t≤3:=by
 unfold cnt;split <;> split <;> omega
theorem Prd.Ok.learn {P:Prd} (h:P.Ok) (mh mt:Int){pc:Int} (hp:U32 pc) (i:Ins) (t:Bool){to:Int} (ht:U32 to):(P.learn mh mt pc i t to).Ok:=by
 unfold Prd.learn;split
 ·exact h
 ·split
  ·split
   ·refine { h with tab:=λ e=>by show ∃ b:Nat,b≤10/\(P.tab.set _ _).length=2 ^ b;rw[qJ];exact h.tab e,cnt:=λ c hc=>?_ };rcases qZ hc with hc | rfl
    ·exact h.cnt c hc
    ·refine acw ?_ t;rw[qF];cases e:P.tab[tix P.tab.length (P.key pc mh)]?
     ·exact⟨by decide,by decide⟩
     ·exact h.cnt _ (qN e)
   ·exact h
  ·split
   ·refine { h with tg:=by show ∃ t:Nat,t≤8/\(P.tgts.set _ _).length=2 ^ t;rw[qJ];exact h.tg,tgu:=λ x hx=>?_ };rcases qZ hx with hx | rfl
    ·exact h.tgu x hx
    ·exact⟨hp,ht⟩
   ·exact h
end Go.Proofs.YtmncepdbglaphaaGreatDoor.ko
