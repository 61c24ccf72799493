/- A part of the walk. No condition. -/
import Derived.Test.YtmncepdbglaphaaGreatDoorKpK
set_option linter.unusedVariables false
set_option maxRecDepth 100000
namespace Go.Proofs.YtmncepdbglaphaaGreatDoor.ko
open Go.RowKit Go.XHeap Go.Sx Go.Sep Go.Proofs.Tryz
variable {C:Kc}{n m:Nat}{g:List Fl}{K K' K2:Ko}{f f' f2:Fl}{i k:Nat}{q:List lsq.En}{e e':lsq.En}{r:List Fl}{S nx:Nat}
theorem Ff (h:¬ f.cls=4) (h':¬ f.cls=5):f.mem=false:=by unfold Fl.mem;rw[qM h,qM h'];rfl
theorem Inv.set0 (h:Inv C n g K) (hf:K.fls=f::r) (hk:Keep f f') (hd:f'.done=f.done) (hi:f'.issued=f.issued) (hni:f.issued=false) (hp:f'.placed=f.placed) (ho:FlOk f'):Inv C n g (K.setf 0 f')/\(K.setf 0 f').fls=f'::r:=by
 refine⟨h.setf (h.hd0 hf) hk hd ho (λ e _ x=>⟨by rw[hk.seq];exact x.seq,x.nr,by rw[hk.cls];exact x.st,λ y=>by rw[hp];exact x.pl (hk.cls.symm.trans y),λ _ y=>?_,λ _ y=>?_⟩),by show K.fls.set 0 f'=_;rw[hf];rfl⟩
 ·rw[hi,hni] at y;cases y
 ·rw[hi,hni] at y;cases y
structure Lt (C:Kc) (m:Nat) (K:Ko) (f:Fl) (r:List Fl) (b:Bool):Prop where
 inv:Inv C m [] K
 fls:∃ f',K.fls=f'::r/\Keep f f'/\f'.issued=false/\f'.done=false/\(b=true->∀ e ∈ K.q,MR e f'->MR e (f'.beg (K.cycle+0)))
theorem Lt.up {k0:Bool} (h:Lt C n K f r k0) (hm:n≤m):Lt C m K f r k0:=⟨h.inv.up hm,h.fls⟩
theorem Inv.system (h:Inv C n [] K) (hf:K.fls=f::r) (hni:f.issued=false) (hd:f.done=false) (hc:f.cls=7):Lt C n K.system.1 f r K.system.2:=by
 have ef:=bi (h.hd0 hf);have ho:=h.fo f (by rw[qr,hf];exact qg ..);have nm:f.mem=false:=Ff (by omega) (by omega)
 have base:∀ {K':Ko} {f':Fl} {b:Bool},Inv C n [] K'->K'.fls=f'::r->Keep f f'->f'.issued=false->f'.done=false->Lt C n K' f r b:=λ a1 a2 a3 a4 a5 =>
  ⟨a1,_,a2,a3,a4,a5,λ _ e _ x=>x.beg (.inl (by unfold Fl.mem;rw[a3.cls];exact nm)) _⟩
 have set:∀ f':Fl,Keep f f'->f'.done=f.done->f'.issued=f.issued->f'.placed=f.placed->FlOk f'->Inv C n [] (K.setf 0 f')/\(K.setf 0 f').fls=f'::r:=λ f' a1 a2 a3 a4 a5=>h.set0 hf a1 a2 a3 hni a4 a5;have kk:Keep f f:=⟨rfl,rfl,rfl,rfl,rfl,rfl,rfl⟩;unfold Ko.system;simp only;rw[ef];split
 ·exact base h hf kk hni hd
 ·split
  ·obtain⟨a,b⟩:=set { f with cause:=11 } ⟨rfl,rfl,rfl,rfl,rfl,rfl,rfl⟩ rfl rfl rfl { ho with cz:=(show(-1:Int)≤11/\(11:Int)≤20 by decide),fw:=ho.fw };exact base a b ⟨rfl,rfl,rfl,rfl,rfl,rfl,rfl⟩ hni hd
  ·split
   ·obtain⟨a,b⟩:=set { f with cause:=3,tval:=f.pc } ⟨rfl,rfl,rfl,rfl,rfl,rfl,rfl⟩ rfl rfl rfl { ho with cz:=(show(-1:Int)≤3/\(3:Int)≤20 by decide),tval:=ho.pc,fw:=ho.fw };exact base a b ⟨rfl,rfl,rfl,rfl,rfl,rfl,rfl⟩ hni hd
   ·split
    ·obtain⟨b1,b2⟩:=acv h.rs;obtain⟨a,b⟩:=set { f with next:=K.rs.back.at 833 } ⟨rfl,rfl,rfl,rfl,rfl,rfl,rfl⟩ rfl rfl rfl { ho with next:=b2,fw:=ho.fw };exact base { a with rs:=b1 } b ⟨rfl,rfl,rfl,rfl,rfl,rfl,rfl⟩ hni hd
    ·split
     ·exact base h hf kk hni hd
     ·obtain⟨b1,b2⟩:=Rf h.rs f.i.op f.i.rs1 f.i.imm (h.valU f.a);split
      ·obtain⟨a,b⟩:=set { f with value:=(K.rs.access f.i.op f.i.rs1 f.i.imm (K.val f.a)).1 } ⟨rfl,rfl,rfl,rfl,rfl,rfl,rfl⟩ rfl rfl rfl { ho with value:=b2,fw:=ho.fw };exact base { a with rs:=b1 } b ⟨rfl,rfl,rfl,rfl,rfl,rfl,rfl⟩ hni hd
      ·obtain⟨a,b⟩:=set { f with value:=(K.rs.access f.i.op f.i.rs1 f.i.imm (K.val f.a)).1,cause:=2,tval:=f.word } ⟨rfl,rfl,rfl,rfl,rfl,rfl,rfl⟩ rfl rfl rfl { ho with value:=b2,cz:=(show(-1:Int)≤2/\(2:Int)≤20 by decide),tval:=ho.word,fw:=ho.fw };exact base { a with rs:=b1 } b ⟨rfl,rfl,rfl,rfl,rfl,rfl,rfl⟩ hni hd
theorem Inv.atomic (h:Inv C n [] K) (hn:n+2≤1000000000000) (hf:K.fls=f::r) (hni:f.issued=false) (hd:f.done=false) (hc:f.cls=6):Lt C (n+2) (K.atomic C).1 f r (K.atomic C).2:=by
 have ef:=bi (h.hd0 hf);have ho:=h.fo f (by rw[qr,hf];exact qg ..);have nm:f.mem=false:=Ff (by omega) (by omega)
 have ha:f.addr.toNat<4294967296:=by have:=ho.addr;unfold U32 at this;omega
 have base:∀ {m:Nat} {K':Ko} {f':Fl} {b:Bool},Inv C m [] K'->m≤n+2->K'.fls=f'::r->Keep f f'->f'.issued=false->f'.done=false->Lt C (n+2) K' f r b:=λ a1 am a2 a3 a4 a5 =>
  ⟨a1.up am,_,a2,a3,a4,a5,λ _ e _ x=>x.beg (.inl (by unfold Fl.mem;rw[a3.cls];exact nm)) _⟩
 have hv:U32 ((K.bus.readV C.num f.addr.toNat 4:Nat):Int):=Rg (by have:=Hn h.bu C.num f.addr.toNat (sz:=4) (by decide);exact this);have h1:Inv C (n+1) [] { K with bus:=K.bus.readN C.num f.addr.toNat 4 }:=h.bread (by omega) _ _;have hw:Inv C (n+2) [] { K with bus:=(K.bus.readN C.num f.addr.toNat 4).writeN C.num f.addr.toNat 4 (agn f.i.op (K.bus.readV C.num f.addr.toNat 4:Nat) (K.val f.b)).toNat }:=h1.bwrite (by omega) _ _ _;have hww:Inv C (n+2) [] { K with bus:=(K.bus.readN C.num f.addr.toNat 4).writeN C.num f.addr.toNat 4 (agn f.i.op (K.bus.readV C.num f.addr.toNat 4:Nat) (K.val f.b)).toNat,wr:=K.wr++[f.addr] }:={ hw with wr:=by show(K.wr++[f.addr]).length≤n+2;rw[qP];have:=h.wr;simp;omega };unfold Ko.atomic;simp only;rw[ef];obtain⟨wb,ewb⟩:∃ wb,decide (f.i.op≠46)=wb:=⟨_,rfl⟩;obtain⟨lv,elv⟩:∃ lv:Nat,(if wb=true then 2 else 1)=lv:=⟨_,rfl⟩;rw[ewb,elv];split
 ·exact base (h.bask _ ha _) (by omega) hf ⟨rfl,rfl,rfl,rfl,rfl,rfl,rfl⟩ hni hd
 ·split
  ·obtain⟨a,b⟩:=h1.set0 (f':={ f with value:=((K.bus.readV C.num f.addr.toNat 4:Nat):Int) }) hf ⟨rfl,rfl,rfl,rfl,rfl,rfl,rfl⟩ rfl rfl hni rfl { ho with value:=hv,fw:=ho.fw };exact base { a with rv:=ho.addr } (by omega) b ⟨rfl,rfl,rfl,rfl,rfl,rfl,rfl⟩ hni hd
  ·split
   ·split
    ·obtain⟨a,b⟩:=hww.set0 (f':={ f with value:=0,spoils:=true }) hf ⟨rfl,rfl,rfl,rfl,rfl,rfl,rfl⟩ rfl rfl hni rfl { ho with value:=u0,fw:=ho.fw };exact base { a with rv:=u0 } (qY _) b ⟨rfl,rfl,rfl,rfl,rfl,rfl,rfl⟩ hni hd
    ·obtain⟨a,b⟩:=h1.set0 (f':={ f with value:=1 }) hf ⟨rfl,rfl,rfl,rfl,rfl,rfl,rfl⟩ rfl rfl hni rfl { ho with value:=⟨by show(0:Int)≤1;decide,by show(1:Int)<4294967296;decide⟩,fw:=ho.fw };exact base { a with rv:=u0 } (by omega) b ⟨rfl,rfl,rfl,rfl,rfl,rfl,rfl⟩ hni hd
   ·obtain⟨a,b⟩:=hww.set0 (f':={ f with value:=((K.bus.readV C.num f.addr.toNat 4:Nat):Int),spoils:=true }) hf ⟨rfl,rfl,rfl,rfl,rfl,rfl,rfl⟩ rfl rfl hni rfl { ho with value:=hv,fw:=ho.fw };exact base a (qY _) b ⟨rfl,rfl,rfl,rfl,rfl,rfl,rfl⟩ hni hd
theorem Jt {f3:Fl} (hf:K.fls=f::r) (h:∃ f',K'.fls=K.fls.set 0 f') (h3:K'.fls[0]?=some f3):K'.fls=f3::r:=by
 obtain⟨f',e⟩:=h;rw[e,hf] at h3 ⊢;simp at h3;subst h3;rfl
theorem Inv.late (h:Inv C n [] K) (hn:n+2≤1000000000000) (hf:K.fls=f::r) (hd:f.done=false) (hni:f.issued=false):Lt C (n+2) (K.late C).1 f r (K.late C).2:=by
 have ef:=bi (h.hd0 hf);have ho:=h.fo f (by rw[qr,hf];exact qg ..);obtain⟨f1,ef1⟩:∃ f1,({ f with next:=p4 f.pc }:Fl)=f1:=⟨_,rfl⟩
 have k1:Keep f f1:=by rw[<- ef1];exact⟨rfl,rfl,rfl,rfl,rfl,rfl,rfl⟩
 have o1:FlOk f1:=by rw[<- ef1];exact { ho with next:=zz _,fw:=ho.fw }
 have d1:f1.done=false/\f1.issued=false/\f1.placed=f.placed/\f1.cause=f.cause:=by rw[<- ef1];exact⟨hd,hni,rfl,rfl⟩
 obtain⟨h1,e1⟩:=h.set0 hf k1 (d1.1.trans hd.symm) (d1.2.1.trans hni.symm) hni d1.2.2.1 o1
 have kt:∀ {f2:Fl} {m:Nat} {K':Ko} {b:Bool},Keep f1 f2->Lt C m K' f2 r b->Lt C m K' f r b:=λ a1 a2=>by
  obtain⟨b1,f',b2,b3,b4⟩:=a2;exact⟨b1,f',b2,(k1.trans a1).trans b3,b4⟩
 unfold Ko.late;simp only;rw[ef,if_neg (by rw[hni];decide),ef1];obtain⟨K1,eK1⟩:∃ K1,K.setf 0 f1=K1:=⟨_,rfl⟩;rw[eK1] at h1 e1 ⊢;have h10:=h1.hd0 e1;obtain⟨h2,h20⟩:=h1.reachL h10 d1.2.1;have e2:(K1.reach C 0).fls=f1.reach (K1.val f1.a) C.dlen::r:=Jt e1 (One.reach K1 0).fls h20;have efr:(K1.reach C 0).fl 0=f1.reach (K1.val f1.a) C.dlen:=bi h20;obtain⟨fr,efr2⟩:∃ fr,f1.reach (K1.val f1.a) C.dlen=fr:=⟨_,rfl⟩
 have kr:Keep f1 fr:=by rw[<- efr2];exact Fl.reach_keep _ _ _
 have dr:fr.done=false/\fr.issued=false:=by rw[<- efr2];exact⟨d1.1,d1.2.1⟩
 have fitr:4≤f1.cls/\f1.cls≤6->fr.cause= -1->Fit fr:=λ hc hz=>by rw[<- efr2] at hz ⊢;exact iq h1.cf o1 (h1.valU _) hc hz
 rw[efr2] at h20 e2 efr;rw[efr];split
 ·rename_i hz;refine⟨h1.up (by omega),f1,e1,k1,d1.2.1,d1.1,λ _ e _ x=>x.beg (.inr ?_) _⟩;rw[d1.2.2.2];exact hz
 ·split
  ·rename_i hc;split
   ·rename_i hz;exact⟨h2.up (by omega),fr,e2,k1.trans kr,dr.2,dr.1,λ _ e _ x=>x.beg (.inr hz) _⟩
   ·rename_i hz;have hz:fr.cause= -1:=Decidable.not_not.1 hz
    have cr:fr.cls=4:=by rw[kr.cls,k1.cls];exact hc
    obtain⟨a1,⟨f3,b1,b2,b3,b4,b5⟩,a2⟩:=h2.fetched (by omega) h20 cr (fitr (by rw[k1.cls,hc];decide) hz) dr.2;refine⟨a1.up (by omega),f3,Jt e2 (One.fetched _ 0).fls b1,(k1.trans kr).trans b2,b3.trans dr.2,b4.trans dr.1,λ hb e he x=>?_⟩;obtain⟨f4,hG⟩:=a2 hb
    have e34:f4=f3:=by have:=hG.at_;rw[b1] at this;cases this;rfl
    subst e34;exact { x with ld:=λ _ _ _=>hG.ld e he x,sv:=λ y=>absurd (cr.symm.trans (hG.keep.cls.symm.trans y)) (by decide) }
  ·split
   ·rename_i h4 hc;split
    ·exact⟨h1.up (by omega),f1,e1,k1,d1.2.1,d1.1,λ hb=>by cases hb⟩
    ·split
     ·rename_i hz;exact⟨h2.up (by omega),fr,e2,k1.trans kr,dr.2,dr.1,λ _ e _ x=>x.beg (.inr hz) _⟩
     ·have cr:fr.cls=6:=by rw[kr.cls,k1.cls];exact hc
      exact kt kr (h2.atomic (by omega) e2 dr.2 dr.1 cr)
   ·split
    ·rename_i h4 h6 hc;exact kt ⟨rfl,rfl,rfl,rfl,rfl,rfl,rfl⟩ ((h1.system e1 d1.2.1 d1.1 (by rw[k1.cls];exact hc)).up (by omega))
    ·exact⟨h1.up (by omega),f1,e1,k1,d1.2.1,d1.1,λ hb=>by cases hb⟩
theorem Inv.one1 (h:Inv C n [] K) (hR:Rdy K f r):Inv C (n+200) [] (Ko.one1 C K).1:=by
 have ef:=bi (h.hd0 hR.fls);unfold Ko.one1;rw[ef];split
 ·exact h.fail1 hR
 ·rename_i hz;exact h.done1 hR (Decidable.not_not.1 hz)
theorem Inv.one (h:Inv C n [] K) (hn:n+2≤1000000000000) (hf:K.fls=f::r):Inv C (n+202) [] (K.one C).1:=by
 have ef:=bi (h.hd0 hf);unfold Ko.one;rw[ef];split
 ·rename_i hd
  exact(h.one1 (f:=f) (r:=r) ⟨hf,.inl hd,λ hni=>by
   have:=(h.fo f (by rw[qr,hf];exact qg ..)).di hd
   rw[hni] at this;cases this⟩).up (by omega)
 ·rename_i hd
  have hd:f.done=false:=by cases x:f.done;rfl;exact absurd x hd
  by_cases hi:f.issued=true
  ·have:K.late C=(K,false):=by unfold Ko.late;simp only;rw[ef,if_pos hi]
   rw[this];exact h.up (by omega)
  ·have hi:f.issued=false:=by cases x:f.issued;rfl;exact absurd x hi
   obtain⟨h1,f',b1,b2,b3,b4,b5⟩:=h.late hn hf hd hi;split
   ·rename_i hb;exact(h1.one1 ⟨b1,.inr b3,λ _=>b5 hb⟩).up (by omega)
   ·exact h1.up (by omega)
theorem Inv.retireN:∀ (k:Nat){n:Nat}{K:Ko},n+202 * k≤1000000000000->Inv C n [] K->Inv C (n+202 * k) [] (Ko.retireN C k K)
 | 0,_,_,_,h=>h
 | k+1,n,K,hn,h=>by
  unfold Ko.retireN;split
  ·exact h.up (by omega)
  ·rename_i hl;obtain⟨f,r,hf⟩:=qOB (l:=K.fls) (λ e=>hl (by rw[e];rfl));have h1:=h.one (by omega) hf;split
   ·exact h1.up (by omega)
   ·exact(Inv.retireN k (by omega) h1).up (by omega)
theorem Inv.irq (h:Inv C n [] K):Inv C (n+65) [] (K.irq C):=by
 unfold Ko.irq;split
 ·exact h.trap (f:=Yl K.at_) h.at_ _ _
 ·rename_i hl;obtain⟨f,r,hf⟩:=qOB (l:=K.fls) (λ e=>hl (by rw[e];rfl));rw[bi (h.hd0 hf)];have ho:=h.fo f (by rw[qr,hf];exact qg ..);exact(h.restore (f:=f) ho.mv 0 zeroI false).trap (f:=Yl K.at_) h.at_ _ _
theorem Inv.retire (h:Inv C n [] K) (hn:n+808≤1000000000000):Inv C (n+808) [] (K.retire C):=by
 unfold Ko.retire;split
 ·exact h.irq.up (by omega)
 ·have:=h.cf.wd;exact(Inv.retireN C.c.width.toNat (by omega) h).up (by omega)
theorem jb (s:Int) (e:lsq.En):∀ k,∃ a b c d:Int,lsq.drainB s e k={ e with f0:=a,f1:=b,f2:=c,f3:=d }
 | 0=>⟨e.f0,e.f1,e.f2,e.f3,rfl⟩
 | k+1=>by
  obtain⟨a,b,c,d,h⟩:=jb s e k;unfold lsq.drainB;simp only;rw[h];split
  ·unfold lsq.En.setFr;split
   ·exact⟨-1,b,c,d,rfl⟩
   ·exact⟨a, -1,c,d,rfl⟩
   ·exact⟨a,b, -1,d,rfl⟩
   ·exact⟨a,b,c, -1,rfl⟩
  ·exact⟨a,b,c,d,rfl⟩
theorem QOk.drain (h:QOk q g r S nx):QOk (iz q) g r S nx:=by
 unfold iz za
 match q,h with
 | [],h=>exact h
 | e::q,h =>
  simp only;by_cases hr:e.retired=true
  ·rw[if_pos hr];simp only[List.drop_one,List.tail_cons]
   have hm:∀ x ∈ q.map (λ x=>lsq.drainB e.seq x 4),∃ y ∈ q,∃ a b c d:Int,x={ y with f0:=a,f1:=b,f2:=c,f3:=d }:=λ x hx=>by
    obtain⟨y,hy,rfl⟩:=qCB.1 hx;obtain⟨a,b,c,d,e1⟩:=jb e.seq y 4;exact⟨y,hy,a,b,c,d,e1⟩
   have hs:=List.pairwise_cons.1 h.srt;refine⟨?_,λ x hx=>?_,?_,λ x hx hxr y hy=>?_,λ x hx=>?_,λ x hx hxr=>?_,λ y hy hym=>?_⟩
   ·have:=h.len;rw[qd];rw[qy] at this;omega
   ·obtain⟨y,hy,a,b,c,d,rfl⟩:=hm x hx;have:=h.ok y (qXB _ hy);exact { this with }
   ·rw[List.pairwise_map];refine hs.2.imp_of_mem λ {a b} ha hb hab=>?_;obtain⟨a1,a2,a3,a4,e1⟩:=jb e.seq a 4;obtain⟨b1,b2,b3,b4,e2⟩:=jb e.seq b 4;rw[e1,e2];exact hab
   ·obtain⟨z,hz,a,b,c,d,rfl⟩:=hm x hx;exact h.old z (qXB _ hz) hxr y hy
   ·obtain⟨z,hz,a,b,c,d,rfl⟩:=hm x hx;exact h.nx z (qXB _ hz)
   ·obtain⟨z,hz,a,b,c,d,rfl⟩:=hm x hx;obtain⟨y,hy,y2,y3⟩:=h.ef z (qXB _ hz) hxr;exact⟨y,hy,y2,{ y3 with }⟩
   ·obtain⟨z,hz,hz2⟩:=h.fe y hy hym;rcases qp.1 hz with rfl | hz
    ·have:=hz2.nr;rw[hr] at this;cases this
    ·obtain⟨a,b,c,d,e1⟩:=jb e.seq z 4;exact⟨lsq.drainB e.seq z 4,qFC hz,by rw[e1];exact { hz2 with }⟩
  ·rw[if_neg hr];exact h
theorem Ju {e:lsq.En} (h:za q=some e):e ∈ q/\e.retired=true:=by
 unfold za at h
 match q,h with
 | x::q,h =>
  simp only at h;split at h
  ·cases h;rename_i hr;exact⟨qg ..,hr⟩
  ·cases h
theorem Inv.drain (h:Inv C n [] K) (hn:n+2≤1000000000000):Inv C (n+3) [] (K.drain C):=by
 unfold Ko.drain;split
 ·exact h.up (by omega)
 ·rename_i e he;have hq:=h.qo.drain;have hem:=Ju he;have oe:=h.qo.ok e hem.1;simp only;split
  ·have:Inv C (n+1) [] { K with out:=K.out++[((e.data % 2 ^ (8 * e.size) % 256:Nat):Int)],q:=iz K.q,wr:=K.wr++[(e.addr:Int)] } :=
    { h.up (Nat.le_succ n) with qo:=hq,ou:=by show(K.out++[_]).length≤n+1;rw[qP];have:=h.ou;simp;omega,wr:=by show(K.wr++[_]).length≤n+1;rw[qP];have:=h.wr;simp;omega }
   exact(this.tell 6 (fl0 0) Rt.z).up (by omega)
  ·split
   ·have a:=h.bwrite (n:=n) (by omega) e.addr e.size (e.data % 2 ^ (8 * e.size))
    have:Inv C (n+1) [] { K with bus:=K.bus.writeN C.num e.addr e.size (e.data % 2 ^ (8 * e.size)),q:=iz K.q,wr:=K.wr++[(e.addr:Int)] } :=
     { a with qo:=hq,wr:=by show(K.wr++[_]).length≤n+1;rw[qP];have:=h.wr;simp;omega }
    exact(this.tell 6 (fl0 0) Rt.z).up (by omega)
   ·have a:=h.bwrite (n:=n) (by omega) e.addr e.size (e.data % 2 ^ (8 * e.size));exact(a.bask (K:={ K with bus:=K.bus.writeN C.num e.addr e.size (e.data % 2 ^ (8 * e.size)) }) e.addr oe.addr true).up (by omega)
theorem Inv.step (h:Inv C n [] K) (hn:n+6000≤1000000000000):Inv C (n+6000) [] (K.step C):=by
 have h1:Inv C (n+5000) [] (if K.halted=true then K else (K.complete C).retire C):=by
  split
  ·exact h.up (by omega)
  ·exact(h.complete.retire (by omega)).up (by omega)
 unfold Ko.step;simp only;obtain⟨K1,e1⟩:∃ K1,(if K.halted=true then K else (K.complete C).retire C)=K1:=⟨_,rfl⟩;rw[e1] at h1 ⊢
 have h2:Inv C (n+5500) [] (if K1.halted=true then K1 else (K1.issue C).enter C):=by
  split
  ·exact h1.up (by omega)
  ·exact((h1.issue (by omega)).enter).up (by omega)
 exact(h2.drain (by omega)).up (by omega)
variable {C:Kc}{n m:Nat}{K:Ko}{i k:Nat}
structure Sy where
 Ks:List Ko
 evs:List Ev
 out:LI
 bus:cbus.PB
def Ko.park (K:Ko) (B:cbus.PB):Ko:={ K with evs:=[],out:=[],bus:=B,wr:=[] }
def Ko.lend (K:Ko) (S:Sy):Ko:={ K with evs:=S.evs,out:=S.out,bus:=S.bus,wr:=[] }
def Ko.brk1 (K:Ko) (a:Int):Ko:=if K.resv=Eb a 3 then { K with resv:=0 } else K
def Ko.brk (K:Ko) (ws:LI):Ko:=ws.foldl Ko.brk1 K
def vo (ls:LI) (t:Int) (l:Bool):Bool:=ls.foldl (λ l c=>l !=(c==t)) l
def Ko.tock (K:Ko) (t:Int) (ls:LI):Ko:={ K with cycle:=t,line:=vo ls t K.line }
def Ko.turn (C:Kc) (K:Ko) (t:Int) (ls:LI) (sn:List cbus.Sn):Ko:=((K.tock t ls).snoop C sn).step C
def aon:Kc:=⟨⟨0,0,0,0,0,0,false,0,0,0,0,0,0,0,0⟩,0,[],0⟩
def Sy.ko (S:Sy) (k:Nat) (K0:Ko):Ko:=(S.Ks.getD k K0).lend S
def Sy.back (S:Sy) (k:Nat) (K:Ko):Sy:=⟨(S.Ks.map λ x=>x.brk K.wr).set k (K.park S.bus),K.evs,K.out,K.bus⟩
def Sy.turn (Cs:List Kc) (ls:List (LI)) (t:Int) (sn:List cbus.Sn) (S:Sy) (k:Nat):Sy:=match S.Ks[k]? with
 | some K=>S.back k ((K.lend S).turn (Cs.getD k aon) t (ls.getD k []) sn)
 | none=>S
def Sy.cycle (Cs:List Kc) (ls:List (LI)) (S:Sy) (t:Int):Sy:=(List.range S.Ks.length).foldl (Sy.turn Cs ls t S.bus.tick.out) { S with bus:=S.bus.tick.S }
def Sy.ended (S:Sy):Bool:=S.Ks.all Ko.ended
def Sy.run (Cs:List Kc) (ls:List (LI)):Nat->Sy->Nat->Sy×Nat×Bool
 | 0,S,t=>(S,t,false)
 | n+1,S,t=>if (S.cycle Cs ls t).ended=true then (S.cycle Cs ls t,t+1,true) else Sy.run Cs ls n (S.cycle Cs ls t) (t+1)
end Go.Proofs.YtmncepdbglaphaaGreatDoor.ko
namespace Go.Proofs.YtmncepdbglaphaaGreatDoor
open Go Go.Proofs Go.Proofs.Tryz Go.V
variable {W:wD}{Q:Ending->wD->Prop}
set_option maxHeartbeats 1000000
theorem aoo (y0:AV)
 (hVC:alc W (Value.cells (Value.agg y0)) 28 λ k W2=>ldI .i64 W2 k 0 λ z=>rB prog 33 #[.int .i64 z,oi,.int .i64 3] W2 λ t W3=>Sx.split (!t) (Q (eY #[.pointer none,.iface 60 (Value.int .i64 2)]) W3) (ldI .i64 W3 k (0+1) λ z2=>rB prog 33 #[.int .i64 z2,.int .i64 1,.int .i64 10] W3 λ t2 W4=>Sx.split (!t2) (Q (eY #[.pointer none,.iface 60 (Value.int .i64 2)]) W4) (ldI .i64 W4 k (0+2) λ z3=>ldI .i64 W4 k (0+1) λ z4=>rB prog 33 #[.int .i64 z3,oi,.int .i64 (if z4<10 then z4 else 10)] W4 λ t3 W5=>Sx.split (!t3) (Q (eY #[.pointer none,.iface 60 (Value.int .i64 2)]) W5) (ldI .i64 W5 k (0+3) λ z5=>rB prog 33 #[.int .i64 z5,oi,.int .i64 8] W5 λ t4 W6=>Sx.split (!t4) (Q (eY #[.pointer none,.iface 60 (Value.int .i64 2)]) W6) (ldI .i64 W6 k (0+4) λ z6=>rB prog 33 #[.int .i64 z6,.int .i64 1,.int .i64 16] W6 λ t5 W7=>Sx.split (!t5) (Q (eY #[.pointer none,.iface 60 (Value.int .i64 2)]) W7) (dw W7 λ W8=>ldI .i64 W8 k (0+2) λ z7=>(0:Int)≤z7/\nw .i64 (1 * 2 ^ min (z7.toNat) (IntKind.bits .i64)) λ z8=>nw .i64 (z8 - 1) λ z9=>ldI .i64 W8 k (0+3) λ z10=>(0:Int)≤z10/\nw .i64 (1 * 2 ^ min (z10.toNat) (IntKind.bits .i64)) λ z11=>ldI .i64 W8 k (0+4) λ z12=>(((0:Int)≤z11/\z11≤z11/\z11≤9223372036854775807/\(↑12:Int) * z11≤281474976710656)/\alc W8 (madeCells #[ou,ou,.bool false] (z11.toNat * 3)) 269 λ k2 W9=>bw W8 W9/\((0:Int)≤z12/\z12≤z12/\z12≤9223372036854775807/\(↑4:Int) * z12≤281474976710656)/\alc W9 (madeCells #[ou] (z12.toNat * 1)) 47 λ k3 W10=>bw W8 W10/\nN (#[.nilIface,oi,.int .i64 z9,.slice (some ⟨k2,0,none⟩) (z11.toNat) (z11.toNat),.slice (some ⟨k3,0,none⟩) (z12.toNat) (z12.toNat),oi]) λ vs=>alc W10 (Value.cells (Value.agg vs)) 133 λ k4 W11=>bw W8 W11/\ldI .i64 W11 k 0 λ z13=>Sx.split (z13==2) (ldI .i64 W11 k (0+1) λ z14=>rL prog 34 #[.int .i64 z14] W11 λ p k5 k6 W12=>sto W12 k4 0 (Value.iface 135 (Value.slice p k5 k6)) λ W13=>Q (eY #[pZ k4 0,.nilIface]) W13) (Sx.split (z13==3) (ldI .i64 W11 k (0+1) λ z15=>rL prog 34 #[.int .i64 z15] W11 λ p2 k7 k8 W14=>nN (#[.slice p2 k7 k8]) λ vs2=>sto W14 k4 0 (Value.iface 138 (Value.agg vs2)) λ W15=>Q (eY #[pZ k4 0,.nilIface]) W15) (ldI .i64 W11 k 0 λ z16=>nN (#[.bool (z16==1)]) λ vs3=>sto W11 k4 0 (Value.iface 140 (Value.agg vs3)) λ W16=>Q (eY #[pZ k4 0,.nilIface]) W16)))/\((0:Int)≤z12/\z12≤z12/\z12≤9223372036854775807/\(↑4:Int) * z12≤281474976710656)/\alc W8 (madeCells #[ou] (z12.toNat * 1)) 47 λ k9 W17=>bw W8 W17/\((0:Int)≤z11/\z11≤z11/\z11≤9223372036854775807/\(↑12:Int) * z11≤281474976710656)/\alc W17 (madeCells #[ou,ou,.bool false] (z11.toNat * 3)) 269 λ k10 W18=>bw W8 W18/\nN (#[.nilIface,oi,.int .i64 z9,.slice (some ⟨k10,0,none⟩) (z11.toNat) (z11.toNat),.slice (some ⟨k9,0,none⟩) (z12.toNat) (z12.toNat),oi]) λ vs4=>alc W18 (Value.cells (Value.agg vs4)) 133 λ k11 W19=>bw W8 W19/\ldI .i64 W19 k 0 λ z17=>Sx.split (z17==2) (ldI .i64 W19 k (0+1) λ z18=>rL prog 34 #[.int .i64 z18] W19 λ p3 k12 k13 W20=>sto W20 k11 0 (Value.iface 135 (Value.slice p3 k12 k13)) λ W21=>Q (eY #[pZ k11 0,.nilIface]) W21) (Sx.split (z17==3) (ldI .i64 W19 k (0+1) λ z19=>rL prog 34 #[.int .i64 z19] W19 λ p4 k14 k15 W22=>nN (#[.slice p4 k14 k15]) λ vs5=>sto W22 k11 0 (Value.iface 138 (Value.agg vs5)) λ W23=>Q (eY #[pZ k11 0,.nilIface]) W23) (ldI .i64 W19 k 0 λ z20=>nN (#[.bool (z20==1)]) λ vs6=>sto W19 k11 0 (Value.iface 140 (Value.agg vs6)) λ W24=>Q (eY #[pZ k11 0,.nilIface]) W24)))))))) :
 Calls prog 25 #[.agg y0] W Q :=
 Sx.sd func25 (.r (.r (.q (.h 1015)))) hVC
theorem aop (n:Int) (lo:Int) (hi:Int)
 (hVC:Sx.split (decide (n ≥ lo)) (Q (eZ (.bool (decide (n≤hi)))) W) (Q (eZ (.bool false)) W)) :
 Calls prog 33 #[.int .i64 n,.int .i64 lo,.int .i64 hi] W Q :=
 Sx.sd func33 .leaf hVC
theorem aki (y0:Nat) (Y0:Nat) (y1:Int) (y2:AV)
 (hVC:alc W (Value.cells (Value.agg y2)) 157 λ k W2=>alc W2 #[oi,oi,ou] 160 λ k2 W3=>dw W3 λ W4=>ldI .i64 W4 y0 (Y0+1) λ z=>ldI .i64 W4 y0 (Y0+5) λ z2=>ldL W4 y0 (Y0+4) λ p k3 k4=>ldI .i64 W4 y0 (Y0+5) λ z3=>ixs z3 k3 p λ k5 k6=>ldI .u32 W4 k5 (k6+z3.toNat * 1) λ z4=>nN (#[.int .i64 z,.int .i64 z2,.int .u32 z4]) λ vs=>alc W4 #[oi,oi,ou] 160 λ k7 W5=>bw W4 W5/\ct W5 k7 0 3 vs λ W6=>nw .u32 (y1+4) λ z5=>∃ I:Bool->Int->wD->Prop,(ldI .i64 W6 k 0 λ z6=>rI prog .i64 130 #[.int .i64 z6] W6 λ z7 W7=>Sx.split (z7==2) (dw W7 λ W8=>ldV W8 y0 Y0 λ v3=>ldN W8 k 0 5 λ vs2=>ldI .i64 W8 y0 (Y0+1) λ z8=>Sx.notNil v3 (λ v4=>∃ u:FuncId,∃ vs3:AV,Sx.meth prog v3 "oocore/predict.guess" #[.int .u32 y1,.agg vs2,.int .i64 z8] W8 u vs3/\rB prog u vs3 W8 λ t W9=>Sx.split t (ldI .i64 W9 k (0+4) λ z9=>nw .u32 z9 λ z10=>nw .u32 (y1+z10) λ z11=>I t z11 W9) (I t z5 W9))) (ldI .i64 W7 k 0 λ z12=>Sx.split (z12==3) (ldI .i64 W7 k (0+4) λ z13=>nw .u32 z13 λ z14=>nw .u32 (y1+z14) λ z15=>I false z15 W7) (ldN W7 k 0 5 λ vs4=>rB prog 131 #[.agg vs4] W7 λ t2 W10=>Sx.split t2 (ldI .u32 W10 k7 (0+2) λ z16=>I false z16 W10) (ldI .i64 W10 k 0 λ z17=>Sx.split (z17==4) (rP prog 143 #[pZ y0 Y0,.int .u32 y1] W10 λ p2 W11=>Sx.ptr p2 λ a=>ud W11 (a.add 2) λ t3=>Sx.split t3 (Sx.ptr p2 λ a2=>de .u32 W11 (a2.add 0) λ z18=>Sx.split (z18==y1) (Sx.ptr p2 λ a3=>de .u32 W11 (a3.add 1) λ z19=>I false z19 W11) (I false z5 W11)) (I false z5 W11)) (I false z5 W10)))))/\(wv (∀ x x2 W12,I x x2 W12->ldN W12 k 0 5 λ vs5=>rU prog 87 #[pZ y0 Y0,.int .u32 y1,.agg vs5,.bool x] W12 λ W13=>dw W13 λ W14=>ldN W14 k7 0 3 λ vs6=>ct W14 k2 0 3 vs6 λ W15=>ldN W15 k2 0 3 λ vs7=>Q (eY #[.int .u32 x2,.agg vs7]) W15))) :
 Calls prog 122 #[pZ y0 Y0,.int .u32 y1,.agg y2] W Q :=
 Sx.sd func122 (.r (.n (.h 1021) (.r (.node [(10,.bool),(9,.int .u32)] [0,1,5,8,7] 1 (.r (.q (.r (.q (.q (.h 13)))))) (.r (.q (.h 4))))))) hVC
theorem amh (p:Nat) (po:Nat) (m:AV) (pc:Int) (i:AV) (taken:Bool)
 (hVC:alc W (Value.cells (Value.agg m)) 160 λ k W2=>alc W2 (Value.cells (Value.agg i)) 157 λ k2 W3=>ldN W3 k 0 3 λ vs=>rB prog 86 #[pZ p po,.agg vs] W3 λ t W4=>Sx.split (!t) (Q e0 W4) (dw W4 λ W5=>ldI .i64 W5 k 0 λ z=>(ldI .i64 W5 k (0+1) λ z2=>bw W5 W5/\sto W5 p (po+1) (Value.int .i64 z) λ W6=>sto W6 p (po+5) (Value.int .i64 z2) λ W7=>dw W7 λ W8=>ldL W8 p (po+4) λ p2 k3 k4=>ldI .i64 W8 p (po+5) λ z3=>ldI .u32 W8 k (0+2) λ z4=>ixs z3 k3 p2 λ k5 k6=>sto W8 k5 (k6+z3.toNat * 1) (Value.int .u32 z4) λ W9=>ldN W9 k2 0 5 λ vs2=>rU prog 87 #[pZ p po,.int .u32 pc,.agg vs2,.bool taken] W9 λ W10=>Q e0 W10)/\sto W5 p (po+1) (Value.int .i64 z) λ W11=>ldI .i64 W11 k (0+1) λ z5=>sto W11 p (po+5) (Value.int .i64 z5) λ W12=>dw W12 λ W13=>ldL W13 p (po+4) λ p3 k7 k8=>ldI .i64 W13 p (po+5) λ z6=>ldI .u32 W13 k (0+2) λ z7=>ixs z6 k7 p3 λ k9 k10=>sto W13 k9 (k10+z6.toNat * 1) (Value.int .u32 z7) λ W14=>ldN W14 k2 0 5 λ vs3=>rU prog 87 #[pZ p po,.int .u32 pc,.agg vs3,.bool taken] W14 λ W15=>Q e0 W15)) :
 Calls prog 58 #[pZ p po,.agg m,.int .u32 pc,.agg i,.bool taken] W Q :=
 Sx.sd func58 (.r (.r (.n (.h 1009) (.q (.h 12))))) hVC
theorem aoq (p:Nat) (po:Nat) (m:AV) (pc:Int) (i:AV) (taken:Bool) (target:Int)
 (hVC:alc W (Value.cells (Value.agg m)) 160 λ k W2=>alc W2 (Value.cells (Value.agg i)) 157 λ k2 W3=>ldN W3 k 0 3 λ vs=>rB prog 86 #[pZ p po,.agg vs] W3 λ t W4=>Sx.split (!t) (Q e0 W4) (ldI .i64 W4 k2 0 λ z=>rI prog .i64 130 #[.int .i64 z] W4 λ z2 W5=>Sx.split (z2==2) (dw W5 λ W6=>ldV W6 p po λ v=>ldI .i64 W6 k 0 λ z3=>∃ u:FuncId,∃ vs2:AV,Sx.meth prog v "oocore/predict.learn" #[.int .u32 pc,.int .i64 z3,.bool taken] W6 u vs2/\rV prog u vs2 W6 λ v2 W7=>Q e0 W7) (ldI .i64 W5 k2 0 λ z4=>Sx.split (z4==4) (ldN W5 k2 0 5 λ vs3=>rB prog 131 #[.agg vs3] W5 λ t2 W8=>Sx.split (!t2) (rP prog 143 #[pZ p po,.int .u32 pc] W8 λ p2 W9=>nN (#[.int .u32 pc,.int .u32 target,.bool true]) λ vs4=>Sx.ptr p2 λ a=>Sx.adr (some a) (λ k3 k4=>ct W9 k3 k4 3 vs4 λ W10=>Q e0 W10)) (Q e0 W8)) (Q e0 W5)))) :
 Calls prog 97 #[pZ p po,.agg m,.int .u32 pc,.agg i,.bool taken,.int .u32 target] W Q :=
 Sx.sd func97 (.r (.q (.r (.r (.r (.q (.h 9))))))) hVC
theorem aor (y0:Nat) (Y0:Nat) (y1:Int) (y2:AV) (y3:Bool)
 (hVC:alc W (Value.cells (Value.agg y2)) 157 λ k W2=>ldL W2 y0 (Y0+4) λ p k2 k3=>ldI .i64 W2 k 0 λ z=>rI prog .i64 130 #[.int .i64 z] W2 λ z2 W3=>Sx.split (z2==2) (ldI .i64 W3 y0 (Y0+1) λ z3=>(0:Int)≤(1:Int)/\nw .i64 (z3 * 2 ^ min 1 (IntKind.bits .i64)) λ z4=>sto W3 y0 (Y0+1) (Value.int .i64 z4) λ W4=>Sx.split y3 (ldI .i64 W4 y0 (Y0+1) λ z5=>nw .i64 (↑(BitVec.toNat (bZ .i64 z5 |||bZ .i64 1)):Int) λ z6=>sto W4 y0 (Y0+1) (Value.int .i64 z6) λ W5=>dw W5 λ W6=>ldI .i64 W6 y0 (Y0+1) λ z7=>ldI .i64 W6 y0 (Y0+2) λ z8=>nw .i64 (↑(BitVec.toNat (bZ .i64 z7 &&&bZ .i64 z8)):Int) λ z9=>sto W6 y0 (Y0+1) (Value.int .i64 z9) λ W7=>Q e0 W7) (dw W4 λ W8=>ldI .i64 W8 y0 (Y0+1) λ z10=>ldI .i64 W8 y0 (Y0+2) λ z11=>nw .i64 (↑(BitVec.toNat (bZ .i64 z10 &&&bZ .i64 z11)):Int) λ z12=>sto W8 y0 (Y0+1) (Value.int .i64 z12) λ W9=>Q e0 W9)) (ldN W3 k 0 5 λ vs=>rB prog 131 #[.agg vs] W3 λ t W10=>Sx.split t (ldI .i64 W10 y0 (Y0+5) λ z13=>nw .i64 (z13+(↑k2:Int)) λ z14=>nw .i64 (z14 - 1) λ z15=>(↑k2:Int)≠0/\nM (Int.tmod z15 (↑k2:Int)) λ z16=>sto W10 y0 (Y0+5) (Value.int .i64 z16) λ W11=>Q e0 W11) (ldN W10 k 0 5 λ vs2=>rB prog 132 #[.agg vs2] W10 λ t2 W12=>Sx.split t2 (ldI .i64 W12 y0 (Y0+5) λ z17=>nw .i64 (z17+1) λ z18=>(↑k2:Int)≠0/\nM (Int.tmod z18 (↑k2:Int)) λ z19=>sto W12 y0 (Y0+5) (Value.int .i64 z19) λ W13=>dw W13 λ W14=>ldL W14 y0 (Y0+4) λ p2 k4 k5=>ldI .i64 W14 y0 (Y0+5) λ z20=>nw .u32 (y1+4) λ z21=>ixs z20 k4 p2 λ k6 k7=>sto W14 k6 (k7+z20.toNat * 1) (Value.int .u32 z21) λ W15=>Q e0 W15) (Q e0 W12)))) :
 Calls prog 87 #[pZ y0 Y0,.int .u32 y1,.agg y2,.bool y3] W Q :=
 Sx.sd func87 (.r (.r (.n (.r (.n (.r (.r (.h 12))) (.r (.r (.r (.q (.r (.h 12)))))))) .leaf))) hVC
theorem ami (p:Nat) (po:Nat) (m:AV)
 (hVC:alc W (Value.cells (Value.agg m)) 160 λ k W2=>ldI .i64 W2 k 0 λ z=>ldI .i64 W2 p (po+2) λ z2=>∃ t:Bool,(∀ k2:Nat,Calls prog 33 #[.int .i64 z,oi,.int .i64 z2] (World.drewN W2 k2) λ e W3=>e=eZ (.bool t)/\∃ k3:Nat,W3=World.drewN W2 k3)/\Sx.split t (ldI .i64 W2 k (0+1) λ z3=>ldL W2 p (po+4) λ p2 k4 k5=>nw .i64 ((↑k4:Int) - 1) λ z4=>∃ t2:Bool,(∀ k6:Nat,Calls prog 33 #[.int .i64 z3,oi,.int .i64 z4] (World.drewN W2 k6) λ e2 W4=>e2=eZ (.bool t2)/\∃ k7:Nat,W4=World.drewN W2 k7)/\dn W2 λ W5 k8=>Q (eZ (.bool t2)) W5) (dn W2 λ W6 k9=>Q (eZ (.bool false)) W6)) :
 Calls prog 86 #[pZ p po,.agg m] W Q :=
 Sx.sd func86 .leaf hVC
theorem akj (p:Nat) (po:Nat) (pc:Int)
 (hVC:ldL W p (po+3) λ p2 k k2=>(0:Int)≤(2:Int)/\nM (Int.fdiv pc (2 ^ min 2 (IntKind.bits .u32))) λ z=>nw .i64 z λ z2=>ldL W p (po+3) λ p3 k3 k4=>nw .i64 ((↑k3:Int) - 1) λ z3=>nw .i64 (↑(BitVec.toNat (bZ .i64 z2 &&&bZ .i64 z3)):Int) λ z4=>ixs z4 k p2 λ k5 k6=>dn W λ W2 k7=>Q (eZ (.pointer (some ⟨k5,(k6+z4.toNat * 3),none⟩))) W2) :
 Calls prog 143 #[pZ p po,.int .u32 pc] W Q :=
 Sx.sd func143 .leaf hVC
theorem akk (i:AV)
 (hVC:alc W (Value.cells (Value.agg i)) 157 λ k W2=>ldI .i64 W2 k 0 λ z=>Sx.split (z==4) (ldI .i64 W2 k (0+2) λ z2=>Sx.split (z2==1) (ldI .i64 W2 k (0+1) λ z3=>Q (eZ (.bool (z3==0))) W2) (Q (eZ (.bool false)) W2)) (Q (eZ (.bool false)) W2)) :
 Calls prog 131 #[.agg i] W Q :=
 Sx.sd func131 .leaf hVC
theorem akl (i:AV)
 (hVC:alc W (Value.cells (Value.agg i)) 157 λ k W2=>ldI .i64 W2 k 0 λ z=>rI prog .i64 130 #[.int .i64 z] W2 λ z2 W3=>Sx.split (z2==3) (ldI .i64 W3 k (0+1) λ z3=>Q (eZ (.bool (z3==1))) W3) (Q (eZ (.bool false)) W3)) :
 Calls prog 132 #[.agg i] W Q :=
 Sx.sd func132 .leaf hVC
theorem aos (bits:Int)
 (hVC:(0:Int)≤bits/\nw .i64 (1 * 2 ^ min (bits.toNat) (IntKind.bits .i64)) λ z=>((0:Int)≤z/\z≤z/\z≤9223372036854775807/\(↑1:Int) * z≤281474976710656)/\alc W (madeCells #[o8] (z.toNat * 1)) 172 λ k W2=>∃ I:Int->wD->Prop,∃ I2:Int->wD->Nat,I 0 W2/\(wv (∀ x W3,I x W3->Sx.split (decide (x<(↑(z.toNat):Int))) (((0:Int)≤x/\x<(↑(z.toNat):Int))/\sto W3 k (0+x.toNat * 1) (Value.int .u8 1) λ W4=>nw .i64 (x+1) λ z2=>I z2 W4/\I2 z2 W4<I2 x W3) (Q (eZ (.slice (some ⟨k,0,none⟩) (z.toNat) (z.toNat))) W3)))) :
 Calls prog 34 #[.int .i64 bits] W Q :=
 Sx.sd func34 (.r (.r (.q (.r (.q (.node [(10,.int .i64)] [9,3] 0 .leaf .leaf)))))) hVC
theorem akm (c:Int)
 (hVC:Q (eZ (.bool (decide (c > 1)))) W) :
 Calls prog 243 #[.int .u8 c] W Q :=
 Sx.sd func243 .leaf hVC
theorem akn (c:Nat) (co:Nat) (taken:Bool)
 (hVC:Sx.split taken (ldI .u8 W c co λ z=>Sx.split (decide (z<3)) (ldI .u8 W c co λ z2=>nw .u8 (z2+1) λ z3=>sto W c co (Value.int .u8 z3) λ W2=>Q e0 W2) (Sx.split (!taken) (ldI .u8 W c co λ z4=>Sx.split (decide (z4 > 0)) (ldI .u8 W c co λ z5=>nw .u8 (z5 - 1) λ z6=>sto W c co (Value.int .u8 z6) λ W3=>Q e0 W3) (Q e0 W)) (Q e0 W))) (Sx.split (!taken) (ldI .u8 W c co λ z7=>Sx.split (decide (z7 > 0)) (ldI .u8 W c co λ z8=>nw .u8 (z8 - 1) λ z9=>sto W c co (Value.int .u8 z9) λ W4=>Q e0 W4) (Q e0 W)) (Q e0 W))) :
 Calls prog 244 #[pZ c co,.bool taken] W Q :=
 Sx.sd func244 .leaf hVC
theorem ako (t:OA) (tn:Nat) (tc:Nat) (pc:Int)
 (hVC:(0:Int)≤(2:Int)/\nM (Int.fdiv pc (2 ^ min 2 (IntKind.bits .u32))) λ z=>nw .i64 z λ z2=>nw .i64 ((↑tn:Int) - 1) λ z3=>nw .i64 (↑(BitVec.toNat (bZ .i64 z2 &&&bZ .i64 z3)):Int) λ z4=>ixs z4 tn t λ k k2=>Q (eZ (.pointer (some ⟨k,(k2+z4.toNat * 1),none⟩))) W) :
 Calls prog 242 #[.slice t tn tc,.int .u32 pc] W Q :=
 Sx.sd func242 .leaf hVC
theorem akp (t:OA) (tn:Nat) (tc:Nat) (pc:Int) (y2:AV) (y3:Int)
 (hVC:alc W (Value.cells (Value.agg y2)) 157 λ k W2=>rP prog 242 #[.slice t tn tc,.int .u32 pc] W2 λ p W3=>Sx.ptr p λ a=>∃ z:Int,World.cell? W3 a=some (.int .u8 z)/\rB prog 243 #[.int .u8 z] W3 λ t2 W4=>Q (eZ (.bool t2)) W4) :
 Calls prog 240 #[.slice t tn tc,.int .u32 pc,.agg y2,.int .i64 y3] W Q :=
 Sx.sd func240 .leaf hVC
theorem akq (t:OA) (tn:Nat) (tc:Nat) (pc:Int) (y2:Int) (taken:Bool)
 (hVC:rP prog 242 #[.slice t tn tc,.int .u32 pc] W λ p W2=>rU prog 244 #[.pointer p,.bool taken] W2 λ W3=>Q e0 W3) :
 Calls prog 241 #[.slice t tn tc,.int .u32 pc,.int .i64 y2,.bool taken] W Q :=
 Sx.sd func241 .leaf hVC
theorem akr (m:AV) (pc:Int) (i:AV) (history:Int)
 (hVC:alc W (Value.cells (Value.agg m)) 138 λ k W2=>alc W2 (Value.cells (Value.agg i)) 157 λ k2 W3=>ldL W3 k 0 λ p k3 k4=>nw .u32 history λ z=>(0:Int)≤(2:Int)/\nw .u32 (z * 2 ^ min 2 (IntKind.bits .u32)) λ z2=>nw .u32 (↑(BitVec.toNat (bZ .u32 pc ^^^ bZ .u32 z2)):Int) λ z3=>ldN W3 k2 0 5 λ vs=>rB prog 240 #[.slice p k3 k4,.int .u32 z3,.agg vs,oi] W3 λ t W4=>Q (eZ (.bool t)) W4) :
 Calls prog 245 #[.agg m,.int .u32 pc,.agg i,.int .i64 history] W Q :=
 Sx.sd func245 .leaf hVC
theorem aks (m:AV) (pc:Int) (history:Int) (taken:Bool)
 (hVC:alc W (Value.cells (Value.agg m)) 138 λ k W2=>ldL W2 k 0 λ p k2 k3=>nw .u32 history λ z=>(0:Int)≤(2:Int)/\nw .u32 (z * 2 ^ min 2 (IntKind.bits .u32)) λ z2=>nw .u32 (↑(BitVec.toNat (bZ .u32 pc ^^^ bZ .u32 z2)):Int) λ z3=>rU prog 241 #[.slice p k2 k3,.int .u32 z3,oi,.bool taken] W2 λ W3=>Q e0 W3) :
 Calls prog 246 #[.agg m,.int .u32 pc,.int .i64 history,.bool taken] W Q :=
 Sx.sd func246 .leaf hVC
theorem akt (f:AV) (y1:Int) (i:AV) (y3:Int)
 (hVC:alc W (Value.cells (Value.agg f)) 140 λ k W2=>alc W2 (Value.cells (Value.agg i)) 157 λ k2 W3=>ldB W3 k 0 λ t=>Sx.split t (ldI .i64 W3 k2 (0+4) λ z=>Q (eZ (.bool (decide (z<0)))) W3) (Q (eZ (.bool false)) W3)) :
 Calls prog 247 #[.agg f,.int .u32 y1,.agg i,.int .i64 y3] W Q :=
 Sx.sd func247 .leaf hVC
theorem aku (f:AV) (y1:Int) (y2:Int) (y3:Bool)
 (hVC:alc W (Value.cells (Value.agg f)) 140 λ k W2=>Q e0 W2) :
 Calls prog 248 #[.agg f,.int .u32 y1,.int .i64 y2,.bool y3] W Q :=
 Sx.sd func248 .leaf hVC
end Go.Proofs.YtmncepdbglaphaaGreatDoor
