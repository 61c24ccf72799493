/- The document's evaluator walked: statements, all. No condition. -/
import Derived.Test.YtojogkljneonmaaGreatDoorLangSk
import Derived.Test.YtojogkljneonmaaGreatDoorLangSa
set_option linter.unusedVariables false
set_option linter.unusedSimpArgs false
namespace Go.Proofs.YtojogkljneonmaaGreatDoor
open Go Go.Proofs.Tryz Go.Proofs Go.Sep Go.XHeap Go.RowKit Go.Lang
variable {W w0 w:World}{M:Nat->Prop}{L:List Asn}{X:Xw}{h:Hw}{S:Ws}{F:Ft}{lk:Lk}{nw f:Nat}{r:Rw}
theorem Zg {A B C D E N:Asn}:(A::B::C::D::E::N::L).Perm (A::B::E::D::C::N::L):=Va (L:=N::L)
theorem adq {Ls:Lcs}{n N:Nat}{t:Tok}{w0:Int}{p:Int×Int} (E:Env Ls n N nw r) (hp:sj lk Ls t w0= .ok p) (hi:Hx r.locals t.s=none):∃ wd z,lk t.s=some (.var wd z):=by
 unfold sj at hp;split at hp
 ·rename_i h1;rcases nq (Ls:=Ls) (nm:=t.s) [] with ⟨a, -⟩ | ⟨j,q,hq,e2, -, -⟩
  ·omega
  ·exfalso
   have hmem:t.s ∈ r.locals.map Prod.fst:=by rw[E.names.1,<- e2];exact List.mem_map.2 ⟨q,List.mem_of_getElem? hq,rfl⟩
   obtain⟨p3,hp3,e3⟩:=List.mem_map.1 hmem;have hi':r.locals.findIdx? (λ p=>decide (p.1=t.s))=none:=hi;rw[List.findIdx?_eq_none_iff] at hi';have:=hi' p3 hp3;simp [e3] at this
 ·split at hp
  ·rename_i wd z hz;exact⟨wd,z,hz⟩
  ·cases hp
theorem Zh {A B C D E Z:Asn}{L:List Asn}:(A::B::C::D::E::L++[Z])[L.length+5]?=some Z:=by simp
theorem Pz (a b:List UInt8):ofL a++ofL b=ofL (a++b):=by
 apply ByteArray.ext;simp [ofL]
theorem Zi {A B C D E G Z:Asn}{L:List Asn}:(A::B::C::D::E::G::L++[Z])[L.length+6]?=some Z:=by simp
set_option maxHeartbeats 4000000 in
theorem ads [Inhabited G3o] (G:Gx X F lk nw) (I:∀ g,g<f+1->Wr X F lk nw g){W0 W:World}{M:Nat->Prop}{L:List Asn}{h:Hw}{r:Rw}{x:T}{q:T×Lcs×Nat}{Ls:Lcs}{n N:Nat}{vs:List Value} (E:Env Ls n N nw r) (ho:x.ok 2=true) (hn:x.nok) (hc:cst lk x Ls n= .ok q) (hN:q.2.2≤N) (h24:q.2.2≤24) (hV:isV X.DA (toF x .nil) vs) (H:St W0 M W (wsA X h (liv r)::L)) (hne:rgo opE X.ds (f+1) (.s x) r≠ .out) :
  Calls prog 45 #[pt X.b,.agg vs.toArray] W (Gc X W0 M L r.locals.length (rgo opE X.ds (f+1) (.s x) r)):=by
 obtain⟨R0,hR⟩:∃ R,R=rgo opE X.ds (f+1) (.s x) r:=⟨_,rfl⟩;rw[<- hR] at hne ⊢;have If:=I f (by omega);refine akf X.b 0 _ (H.al λ k w2 H2=>?_);refine(Jl E (Jk H2)).mono ?_;rintro _ w3 ⟨t,rfl,hst⟩;refine⟨t,rfl,?_⟩;rcases hst with ⟨rfl,h0,H3⟩ | ⟨rfl,h0,H3⟩
 ·refine cn ?_
  have:R0= .stop 0 r:=by
   rw[hR];unfold rgo;exact Dp h0
  rw[this];exact bk (.inr ⟨0,r,rfl,Uz⟩) (bg H3)
 have E1:=E.step;have hlen0:r.locals.length=({ r with steps:=r.steps - 1 }:Rw).locals.length:=rfl;generalize hr1:({ r with steps:=r.steps - 1 }:Rw)=r1 at *;rw[hlen0];clear H2 H;refine be ⟨_,(ax H3).ld 0 rfl (i:=9) rfl,be ?_⟩
 cases x with
 | block line l =>
  obtain⟨q1,c1,us,q2,c2,ws,hk,rfl,rfl,hks, -⟩:=hV
  have ho:l.ok 3=true:=by simpa [T.ok] using ho
  replace hR:=hR.trans (rgo_block.trans (ce h0));rw[hr1] at hR;obtain⟨l',hl,hc⟩:=C.bind_ok hc;cases hc;refine⟨_,H3.ld 1 rfl (i:=0) rfl,Pw rfl ?_⟩;exact Py G I (nd:=_) E1 ho hn hl hN h24 hk hks (λ H=>H.ld 1 rfl (i:=4) rfl) H3 hR hne
 | whileS line c b =>
  have hV':=hV;obtain⟨q1,c1,us,q2,c2,ws,hk,rfl,rfl,hks, -⟩:=hV
  have ho:c.ok 0=true/\b.ok 2=true:=by simpa [T.ok] using ho
  replace hR:=hR.trans (rgo_while.trans (ce h0));rw[hr1] at hR;obtain⟨c',hcc,hc⟩:=C.bind_ok hc;obtain⟨b',hcb,hc⟩:=C.bind_ok hc;cases hc;refine⟨_,H3.ld 1 rfl (i:=0) rfl,jk (by decide) (Pw rfl ⟨_,rfl,H3.cells 1 rfl,?_⟩)⟩;refine(If.w E1 ho.1 hn.1 ho.2 hn.2.1 hn.2.2 (bu hcc) hcb hN h24 hV' H3 (by rw[<- hR];exact hne)).mono ?_;intro e w4 he;rw[<- hR] at he;obtain⟨rfl, -⟩:=oa he;exact⟨rfl,ww he⟩
 | letS t nm sw w x =>
  obtain⟨q1,c1,us,q2,c2,ws,hk,rfl,rfl,hks, -⟩:=hV
  have ho:x.ok 0=true:=by simpa [T.ok] using ho
  replace hR:=hR.trans (rgo_let.trans (ce h0));rw[hr1] at hR;obtain⟨x',hx,hc⟩:=C.bind_ok hc;refine⟨_,H3.ld 1 rfl (i:=0) rfl,jk (by decide) (jk (by decide) ⟨_,_,_,H3.ld 1 rfl (i:=4) rfl,?_⟩)⟩;refine lw G If E1 ho hn (bu hx) hk hks H3 (λ e=>hne (by rw[hR,e];rfl)) (λ w' h' S' j r' e D H=>bk (.inr ⟨j,r',by rw[hR,e];rfl,D⟩) (bg H)) λ v r2 w4 h2 e E2 hl2 H4=>?_;rw[e,ez] at hR;refine⟨_,H4.ld 1 rfl (i:=0) rfl,Pw rfl ?_⟩;have hnl:=E2.names.2;have hl24:=E2.l.1;have hl24':=E2.l.2;have K:=ax (Jk (L:=_::L) (H4.add (A:=lsl none 0 []) ⟨Sl.nil _ _ _,XTouch.refl _ _,λ q hq=>by cases hq⟩));have hsrc:Sl w4 120 2 (.slice h2.p r2.locals.length h2.c) r2.locals.length (r2.locals.flatMap loC):=K.nth 2 rfl;refine⟨_,_,_,K.ld 0 rfl (i:=7) rfl,?_⟩;refine K.app 4 rfl (r2.locals.flatMap loC) (agb hsrc) (Nv _) (λ u hu=>?_) (by show 0+r2.locals.length≤maxLen;unfold maxLen;omega) (by show(0+r2.locals.length) * 24≤_;omega) λ p7 c7 w5 K2=>?_
  ·obtain⟨p,hp,hu⟩:=List.mem_flatMap.1 hu;simp [loC,vU] at hu;rcases hu with rfl | rfl <;> rfl
  refine⟨_,K2.ld 5 rfl (i:=1) rfl,?_⟩;rintro vs4 rfl;refine⟨rfl,K2.al λ k22 w6 K3=>?_⟩;refine K3.app 4 rfl (loC (nm.s,hd v)) (.inr ⟨_,rfl,λ j u hj=>?_⟩) rfl (by simp [loC,vU,Value.oneCell']) (by show 0+r2.locals.length+1≤maxLen;unfold maxLen;omega) (by show(0+r2.locals.length+1) * 24≤_;omega) λ p8 c8 w7 K4=>?_
  ·rw[show(Addr.add ⟨k22,0,none⟩ j)=⟨k22,j,none⟩ by simp [Addr.add];intro e;exact e.symm];exact K3.ld (L.length+6) Zi (i:=j) (by simpa [loC,vU] using hj)
  refine K4.st 0 rfl (i:=7) (by simp [wsC]) λ w8 K5=>?_
  have K6:St W0 M w8 (blk X.b ((wsC X h2 (liv r2)).setIfInBounds 7 (.slice p8 (0+r2.locals.length+1) c8)) 75::sl 32 1 (.slice X.pw r2.words.length X.cw) r2.words.length (r2.words.map vU)::lsl h2.p h2.c r2.locals::X.DA::sl 120 2 (.slice p8 (0+r2.locals.length+1) c8) (0+r2.locals.length+1) ([]++r2.locals.flatMap loC++loC (nm.s,hd v))::blk k (ae lx nm.s t.line 0 (.slice q1 (toF x .nil).len c1) (.slice q2 0 c2)).toArray 52::L):=by
   have:=St.sub (L:=[_,_,_,_,_,_]++L) (L':=[_]) K5;exact this
  have K7:=St.shut (L:=[_,_,_,_]) (L':=_::_::L) (K6.perm Zg)
  have K8:St W0 M w8 (wsA X ⟨p8,c8⟩ (liv { r2 with locals:=r2.locals++[(nm.s,hd v)] })::lsl h2.p h2.c r2.locals::blk k (ae lx nm.s t.line 0 (.slice q1 (toF x .nil).len c1) (.slice q2 0 c2)).toArray 52::L):=by
   have e:wsL X ⟨p8,c8⟩ (liv { r2 with locals:=r2.locals++[(nm.s,hd v)] })=[blk X.b ((wsC X h2 (liv r2)).setIfInBounds 7 (.slice p8 (0+r2.locals.length+1) c8)) 75,sl 32 1 (.slice X.pw r2.words.length X.cw) r2.words.length (r2.words.map vU),sl 120 2 (.slice p8 (0+r2.locals.length+1) c8) (0+r2.locals.length+1) ([]++r2.locals.flatMap loC++loC (nm.s,hd v)),X.DA]:=by
    unfold wsL wsC liv;simp only[List.length_append,List.length_cons,List.length_nil,Nat.zero_add,List.flatMap_append,List.flatMap_cons,List.flatMap_nil,List.append_nil,List.nil_append];rfl
   unfold wsA;rw[e];exact K7
  rw[hR];exact bk (.inl ⟨[],_,rfl,rfl⟩) (bg (bg K8))
 | setS t sw w x =>
  obtain⟨q1,c1,us,q2,c2,ws,hk,rfl,rfl,hks, -⟩:=hV
  have ho:x.ok 0=true:=by simpa [T.ok] using ho
  replace hR:=hR.trans (rgo_set.trans (ce h0));rw[hr1] at hR;obtain⟨p,hp,hc⟩:=C.bind_ok hc;obtain⟨x',hx,hc⟩:=C.bind_ok hc;refine⟨_,H3.ld 1 rfl (i:=0) rfl,jk (by decide) (jk (by decide) ⟨_,_,_,H3.ld 1 rfl (i:=4) rfl,?_⟩)⟩;refine lw G If E1 ho hn (bu hx) hk hks H3 (λ e=>hne (by rw[hR,e];rfl)) (λ w' h' S' j r' e D H=>bk (.inr ⟨j,r',by rw[hR,e];rfl,D⟩) (bg H)) λ v r2 w4 h2 e E2 hl2 H4=>?_;rw[e,ez] at hR;refine⟨_,H4.ld 1 rfl (i:=0) rfl,jk (by decide) (Pw rfl ⟨_,H4.ld 1 rfl (i:=1) rfl,?_⟩)⟩;have hnl:=E2.names.2;have hl24:=E2.l.1;have hl24':=E2.l.2;refine(Jj (S:=liv r2) E2.nodup (by show r2.locals.length≤100;omega) (H4.nth 0 rfl)).mono ?_;rintro _ _ ⟨rfl,rfl⟩;refine⟨_,rfl,?_⟩
  cases hi:Hx r2.locals t.s with
  | some i =>
   have es:Bc (liv r2).locals t.s=((i:Nat):Int):=by unfold Bc;rw[show(liv r2).locals=r2.locals from rfl,hi]
   rw[es];obtain⟨hi2,hi3, -⟩:=List.findIdx?_eq_some_iff_getElem.1 hi
   have hi3:r2.locals[i].1=t.s:=by simpa using hi3
   refine Sx.so (λ _=>?_) (λ h=>by have:=df h;omega);refine⟨_,_,_,(ax H4).ld 0 rfl (i:=7) rfl,Vc (S:=liv r2) (i:=i) (p:=r2.locals[i]) H4 (List.getElem?_eq_getElem hi2) λ w5 H5=>?_⟩;rw[hR];refine bk (.inl ⟨[],_,rfl,?_⟩) (bg H5);unfold retS Rw.set;rw[if_pos rfl,hi,hi3];rfl
  | none =>
   have es:Bc (liv r2).locals t.s= -1:=by unfold Bc;rw[show(liv r2).locals=r2.locals from rfl,hi]
   rw[es];refine Sx.so (λ h=>by simp at h) (λ _=>?_);obtain⟨wd2,z2,hvz⟩:=adq E2 hp hi;obtain⟨g1,g2,g3, -⟩:=Ge G hvz;have hnw:=G.n;have hw2:=E2.w;refine⟨_,H4.ld 1 rfl (i:=1) rfl,?_⟩;refine(wu G.x (λ d hd=>(G.d d hd).1) (by omega) (H4.nth 0 rfl)).mono ?_;rintro _ _ ⟨rfl,rfl⟩;refine⟨_,rfl,_,_,_,(ax H4).ld 0 rfl (i:=1) rfl,Nw (S:=liv r2) (i:=bl X.ds t.s) H4 (by show bl X.ds t.s<r2.words.length;omega) λ w5 H5=>?_⟩;rw[hR];refine bk (.inl ⟨[],_,rfl,?_⟩) (bg H5);unfold retS Rw.set;rw[if_pos rfl,hi];rfl
 | putS t w z p x =>
  obtain⟨q1,c1,us,q2,c2,ws,hk,rfl,rfl,hks, -⟩:=hV
  have ho:p.ok 0=true/\x.ok 0=true:=by simpa [T.ok] using ho
  replace hR:=hR.trans (rgo_put.trans (ce h0));rw[hr1] at hR;obtain⟨a,ha,hc⟩:=C.bind_ok hc;obtain⟨p',hp,hc⟩:=C.bind_ok hc;obtain⟨x',hx,hc⟩:=C.bind_ok hc;refine⟨_,H3.ld 1 rfl (i:=0) rfl,jk (by decide) (jk (by decide) ⟨_,_,_,H3.ld 1 rfl (i:=4) rfl,?_⟩)⟩;refine lw G If E1 ho.1 hn.1 (bu hp) hk hks H3 (λ e=>hne (by rw[hR,e];rfl)) (λ w' h' S' j r' e D H=>bk (.inr ⟨j,r',by rw[hR,e];rfl,D⟩) (bg H)) λ v r2 w4 h2 e E2 hl2 H4=>?_;rw[e,ez] at hR;refine⟨_,H4.ld 1 rfl (i:=0) rfl,jk (by decide) (jk (by decide) (Pw rfl ⟨_,_,_,H4.ld 1 rfl (i:=4) rfl,?_⟩))⟩
  have hl1:(toF p (toF x .nil)).len=2:=by
   obtain⟨k1,s1,ln1,v1,ks1,ns1,e1⟩:=dk p (.inl ho.1);obtain⟨k2,s2,ln2,v2,ks2,ns2,e2⟩:=dk x (.inl ho.2);rw[e1,e2];rfl
  obtain⟨vs1,ws1,rfl,hv6,hv,hw1, -⟩:=dd (.inl ho.1) hk;obtain⟨vs2,ws2,rfl,hv62,hv2,hw2, -⟩:=dd (.inl ho.2) hw1;refine⟨⟨by decide,by rw[hl1];decide⟩,?_⟩;refine mj (pre:=vs1) (j:=1) (vs:=vs2) (post:=ws2) (hks _ ((ax H4).nth 3 rfl)) rfl (by rw[hv6]) hv62 λ g1 o1 hc1=>⟨_,by rw[List.size_toArray];exact hv62,hc1,?_⟩;refine(If.e E2 ho.2 hn.2 (bu hx) hv2 H4 (λ e=>hne (by rw[hR,e];rfl))).mono ?_;intro e w5 he;obtain⟨u,h3,S3,rfl,H5,hS⟩:=kh he;refine⟨_,rfl,_,H5.ld 1 rfl (i:=1) rfl,?_⟩;unfold Km at ha;split at ha
  case h_2=>cases ha
  rename_i wd2 z2 hz2;split at ha
  ·cases ha
  rename_i hz0;obtain⟨g1,g2,g3,g4⟩:=Ge G hz2;obtain⟨tk,tn,w7,hfd⟩:=g4 hz0;have hnw:=G.n;refine(Nt (i:=hd v) G hfd (by omega) H5).mono ?_;rintro _ w6 ⟨rfl,H6⟩;refine⟨_,rfl,?_⟩;refine(fy (H6.nth 0 rfl)).mono ?_;rintro _ _ ⟨rfl,rfl⟩;refine⟨_,rfl,?_⟩;rcases hS with ⟨v2,r3,h1,rfl,rfl⟩ | ⟨j,r3,h1,D⟩
  ·rw[h1,ez] at hR
   try dsimp only at hR
   rw[g3] at hR;have E3:=Lw G E2 (bu hx) h1;by_cases hzi:z2≤(((hd v).toNat:Nat):Int)
   ·have ei:Bf (liv r3) z2 (hd v)={ liv r3 with fault:=1 }:=by unfold Bf;rw[if_pos ⟨rfl,hzi⟩]
    rw[ei] at H6 ⊢;rw[if_pos hzi] at hR;refine be ?_;rw[hR];refine bk (.inr ⟨1,r3,rfl,⟨rfl,rfl,λ e=>absurd e (by decide),λ _=>⟨rfl,rfl⟩,?_⟩⟩) (bg H6);show r1.locals.length≤r3.locals.length;rw[E1.names.2,E3.names.2];exact Nat.le_refl _
   ·have ei:Bf (liv r3) z2 (hd v)=liv r3:=by unfold Bf;rw[if_neg (λ e=>hzi e.2)]
    rw[ei] at H6 ⊢;rw[if_neg hzi] at hR;have:(if (liv r3).stop=true then ((bl X.ds t.s:Nat):Int) else ((bl X.ds t.s+(hd v).toNat:Nat):Int))=((bl X.ds t.s+(hd v).toNat:Nat):Int):=if_neg (by rw[yl];exact Bool.false_ne_true);rw[this];have hw3:=E3.w;refine cn ⟨_,_,_,(ax H6).ld 0 rfl (i:=1) rfl,Nw (S:=liv r3) (i:=bl X.ds t.s+(hd v).toNat) H6 (by show _<r3.words.length;omega) λ w8 H7=>?_⟩;rw[hR];refine bk (.inl ⟨[],_,rfl,?_⟩) (bg H7);unfold retS;rw[if_pos rfl];rfl
  ·rw[h1] at hR
   have ei:Bf S3 z2 (hd v)=S3:=by unfold Bf;rw[if_neg (λ e=>by rw[D.stop] at e;cases e.1)]
   rw[ei] at H6 ⊢;rw[D.stop];refine be ?_;rw[hR];exact bk (.inr ⟨j,r3,rfl,Bh D (by omega)⟩) (bg H6)
 | prtS line x =>
  obtain⟨q1,c1,us,q2,c2,ws,hk,rfl,rfl,hks, -⟩:=hV
  have ho:x.ok 0=true:=by simpa [T.ok] using ho
  replace hR:=hR.trans (rgo_prt.trans (ce h0));rw[hr1] at hR;obtain⟨x',hx,hc⟩:=C.bind_ok hc;refine⟨_,H3.ld 1 rfl (i:=0) rfl,jk (by decide) (jk (by decide) ⟨_,_,_,H3.ld 1 rfl (i:=4) rfl,?_⟩)⟩;refine lw G If E1 ho hn (bu hx) hk hks H3 (λ e=>hne (by rw[hR,e];rfl)) (λ w' h' S' j r' e D H=>bk (.inr ⟨j,r',by rw[hR,e];rfl,D⟩) (bg H)) λ v r2 w4 h2 e E2 hl2 H4=>?_;rw[e,ez] at hR;refine⟨_,H4.ld 1 rfl (i:=0) rfl,jk (by decide) (jk (by decide) (jk (by decide) (Pw rfl ?_)))⟩;refine H4.dr λ w5 H5=>?_;rintro z7 rfl;have K:=ax H5;refine⟨_,K.ld 0 rfl (i:=2) rfl,K.al λ k43 w6 K2=>⟨⟨_,K2.ld 0 rfl (i:=2) rfl,rfl⟩,?_⟩⟩
  have hb:IntKind.wrap .u8 ((hd v).toNat:Int)=(((hd v).toUInt8.toNat:Nat):Int):=by
   have:=w8u (hd v);unfold vB at this;injection this
  have hcell:w6.cell? ⟨k43,0,none⟩=some (.int .u8 (IntKind.wrap .u8 ((hd v).toNat:Int))):=K2.ld (L.length+5) Zh (i:=0) rfl
  have hbts:Sx.Bts w6 (some ⟨k43,0,none⟩) 1 ([(hd v).toUInt8].map λ x=>(x.toNat:Int)):=by
   refine⟨rfl,λ _=>⟨k43,0,rfl,λ i x hi=>?_⟩⟩
   match i,hi with
   | 0,hi=>cases hi;rw[hcell,hb]
  have ho2:=E2.o;refine⟨_,hbts,?_⟩;rw[Fu];refine⟨?_,?_⟩
  ·rw[ak,ak];show(((r2.out.length+1:Nat)):Int)≤_;omega
  rintro s9 rfl;refine K2.st 0 rfl (i:=2) (by simp [wsC]) λ w7 K3=>?_;have hap:ofL r2.out++ofL [(hd v).toUInt8]=ofL (r2.out++[(hd v).toUInt8]):=Pz _ _
  have K4:St W0 M w7 (wsA X h2 (liv { r2 with out:=r2.out++[(hd v).toUInt8] })::blk k (ae ng (ofL []) line 0 (.slice q1 (toF x .nil).len c1) (.slice q2 0 c2)).toArray 52::L):=by
   have e:wsC X h2 (liv { r2 with out:=r2.out++[(hd v).toUInt8] })=(wsC X h2 (liv r2)).setIfInBounds 2 (.string (ofL r2.out++ofL [(hd v).toUInt8])):=by
    rw[hap];rfl
   unfold wsA wsL;rw[e];exact St.sub (L:=_::_::L) (L':=[_]) (St.shut (L:=[_,_,_,_]) (L':=(_::L)++[_]) K3)
  rw[hR];exact bk (.inl ⟨[],_,rfl,rfl⟩) (bg K4)
 | retS line x =>
  obtain⟨q1,c1,us,q2,c2,ws,hk,rfl,rfl,hks, -⟩:=hV
  have ho:x.ok 0=true:=by simpa [T.ok] using ho
  replace hR:=hR.trans (rgo_ret.trans (ce h0));rw[hr1] at hR;obtain⟨x',hx,hc⟩:=C.bind_ok hc;refine⟨_,H3.ld 1 rfl (i:=0) rfl,jk (by decide) (jk (by decide) ⟨_,_,_,H3.ld 1 rfl (i:=4) rfl,?_⟩)⟩;refine lw G If E1 ho hn (bu hx) hk hks H3 (λ e=>hne (by rw[hR,e];rfl)) (λ w' h' S' j r' e D H=>bk (.inr ⟨j,r',by rw[hR,e];rfl,D⟩) (bg H)) λ v r2 w4 h2 e E2 hl2 H4=>?_;rw[e,ez] at hR;refine⟨_,H4.ld 1 rfl (i:=0) rfl,jk (by decide) (jk (by decide) (jk (by decide) (jk (by decide) (Pw rfl ?_))))⟩;refine(ax H4).st 0 rfl (i:=8) (by simp [wsC]) λ w5 K=>?_;refine K.st 0 rfl (i:=9) (by simp [wsC]) λ w6 K2=>?_;have K3:St W0 M w6 (wsA X h2 { liv r2 with value:=hd v,back:=true }::_::L):=St.shut (L:=wsL X h2 { liv r2 with value:=hd v,back:=true }) (L':=_::L) K2;rw[hR];refine bk (.inl ⟨[hd v],r2,rfl,?_⟩) (bg K3);unfold retS;rw[if_neg (by simp)];rfl
 | doS line x =>
  obtain⟨q1,c1,us,q2,c2,ws,hk,rfl,rfl,hks, -⟩:=hV
  have ho:x.ok 0=true:=by simpa [T.ok] using ho
  replace hR:=hR.trans (rgo_do.trans (ce h0));rw[hr1] at hR;obtain⟨x',hx,hc⟩:=C.bind_ok hc;refine⟨_,H3.ld 1 rfl (i:=0) rfl,jk (by decide) (jk (by decide) ⟨_,_,_,H3.ld 1 rfl (i:=4) rfl,?_⟩)⟩;refine lw G If E1 ho hn (bu hx) hk hks H3 (λ e=>hne (by rw[hR,e];rfl)) (λ w' h' S' j r' e D H=>bk (.inr ⟨j,r',by rw[hR,e];rfl,D⟩) (bg H)) λ v r2 w4 h2 e E2 hl2 H4=>?_;rw[e,ez] at hR;refine⟨_,H4.ld 1 rfl (i:=0) rfl,jk (by decide) (jk (by decide) (jk (by decide) (jk (by decide) (jk (by decide) (jk (by decide) ?_)))))⟩;rw[hR];exact bk (.inl ⟨[],r2,rfl,rfl⟩) (bg H4)
 | ifS line c a b =>
  obtain⟨q1,c1,us,q2,c2,ws,hk,rfl,rfl,hks, -⟩:=hV
  have ho:(c.ok 0=true/\a.ok 2=true)/\(b.ok 2=true∨b.isNil=true):=by simpa [T.ok] using ho
  replace hR:=hR.trans (rgo_if.trans (ce h0));rw[hr1] at hR;obtain⟨c',hcc,hc⟩:=C.bind_ok hc;obtain⟨a',ha,hc⟩:=C.bind_ok hc;obtain⟨b',hb,hc⟩:=C.bind_ok hc;cases hc;refine⟨_,H3.ld 1 rfl (i:=0) rfl,jk (by decide) (jk (by decide) ⟨_,_,_,H3.ld 1 rfl (i:=4) rfl,?_⟩)⟩;refine lw G If E1 ho.1.1 hn.1 (bu hcc) hk hks H3 (λ e=>hne (by rw[hR,e];rfl)) (λ w' h' S' j r' e D H=>bk (.inr ⟨j,r',by rw[hR,e];rfl,D⟩) (bg H)) λ v r2 w4 h2 e E2 hl2 H4=>?_;rw[e,ez] at hR;refine⟨_,H4.ld 1 rfl (i:=0) rfl,jk (by decide) (jk (by decide) (jk (by decide) (jk (by decide) (jk (by decide) (Pw rfl ?_)))))⟩;obtain⟨n1,n2,n3,n4,n5⟩:=hn;have hS1:=gr a Ls n a' E1.sc ha;have e0:=hS1.2.2.2 n4;have I1:=fe lk a Ls n a' E1.l.1 E1.l.2 ha;have I2:=fe lk b a'.2.1 a'.2.2 b' I1.2.1 I1.2.2.1 hb;have hN:b'.2.2≤N:=hN;have i24:=I2.2.2.1;have i1:=I2.2.2.2;obtain⟨vs1,ws1,rfl,hv6,hv,hw1, -⟩:=dd (.inl ho.1.1) hk;obtain⟨vs2,ws2,rfl,hv62,hv2,hw2, -⟩:=dd (.inr ho.1.2) hw1
  have hl2':2≤(toF c (toF a (toF b .nil))).len:=by
   obtain⟨k1,s1,ln1,v1,ks1,ns1,e1⟩:=dk c (.inl ho.1.1);obtain⟨k2,s2,ln2,v2,ks2,ns2,e2⟩:=dk a (.inr ho.1.2);rw[e1,e2];simp only[Fo.len];omega
  rw[Qh];refine Sx.so (λ hz=>?_) (λ hz=>?_)
  ·have hz:hd v≠0:=by simpa using hz
   rw[if_pos hz] at hR;refine⟨_,_,_,H4.ld 1 rfl (i:=4) rfl,⟨by decide,by omega⟩,?_⟩;refine mj (pre:=vs1) (j:=1) (vs:=vs2) (post:=ws2) (hks _ ((ax H4).nth 3 rfl)) rfl (by rw[hv6]) hv62 λ g1 o1 hc1=>⟨_,by rw[List.size_toArray];exact hv62,hc1,?_⟩;refine(If.s E2 ho.1.2 n2 ha (by omega) (by omega) hv2 H4 (by rw[<- hR];exact hne)).mono ?_;intro e w5 he;rw[<- hR,hl2] at he;obtain⟨rfl, -⟩:=oa he;exact⟨rfl,ww he⟩
  ·have hz:¬ hd v≠0:=by simpa using hz
   rw[if_neg hz] at hR;refine⟨_,_,_,H4.ld 1 rfl (i:=4) rfl,?_⟩;rcases ho.2 with hbo | hbn
   ·have hnil:b.isNil=false:=by cases b <;> first | rfl | (simp [T.ok] at hbo)
    rw[if_neg (by rw[hnil];exact Bool.false_ne_true)] at hR;obtain⟨vs3,ws3,rfl,hv63,hv3,hw3, -⟩:=dd (.inr hbo) hw2
    have hl3:(toF c (toF a (toF b .nil))).len=3:=by
     obtain⟨k1,s1,ln1,v1,ks1,ns1,e1⟩:=dk c (.inl ho.1.1);obtain⟨k2,s2,ln2,v2,ks2,ns2,e2⟩:=dk a (.inr ho.1.2);obtain⟨k3,s3,ln3,v3,ks3,ns3,e3⟩:=dk b (.inr hbo);rw[e1,e2,e3];rfl
    refine Sx.so (λ _=>?_) (λ h=>by have:=df h;omega);refine⟨_,_,_,H4.ld 1 rfl (i:=4) rfl,⟨by decide,by rw[hl3];decide⟩,?_⟩;refine mj (pre:=vs1++vs2) (j:=2) (vs:=vs3) (post:=ws3) (hks _ ((ax H4).nth 3 rfl)) (by simp) (by rw[List.length_append,hv6,hv62]) hv63 λ g1 o1 hc1=>⟨_,by rw[List.size_toArray];exact hv63,hc1,?_⟩;have E2':Env a'.2.1 a'.2.2 N nw r2:=⟨hS1.1,by omega,⟨I1.2.1,I1.2.2.1⟩,by rw[e0];exact E2.g,E2.w,E2.s,E2.o,E2.r⟩;refine(If.s E2' hbo n3 hb (by omega) (by omega) hv3 H4 (by rw[<- hR];exact hne)).mono ?_;intro e w5 he;rw[<- hR,hl2] at he;obtain⟨rfl, -⟩:=oa he;exact⟨rfl,ww he⟩
   ·cases b with
    | nil =>
     rw[if_pos (show T.nil.isNil=true from rfl)] at hR
     have hl3:(toF c (toF a (toF .nil .nil))).len=2:=by
      obtain⟨k1,s1,ln1,v1,ks1,ns1,e1⟩:=dk c (.inl ho.1.1);obtain⟨k2,s2,ln2,v2,ks2,ns2,e2⟩:=dk a (.inr ho.1.2);rw[e1,e2];rfl
     refine Sx.so (λ h=>by have:=dt h;omega) (λ _=>?_);rw[hR];exact bk (.inl ⟨[],r2,rfl,rfl⟩) (bg H4)
    | _=>cases hbn
 | nil=>simp [T.ok] at ho
 | cons=>simp [T.ok] at ho
 | _=>simp [T.ok] at ho
variable {W w0 w:World}{M:Nat->Prop}{L:List Asn}{K:Kx}{S:Ck}
theorem Jr (seen:List ByteArray) (t s:ByteArray):jy (seen++[t]) s=(jy seen s||decide (t=s)):=by
 unfold jy;rw[List.any_append];simp
theorem yn [Inhabited G3o] (b:Bool) (ln:Int):Jd (if b=true then C.err ln 9 else C.ok ():C Unit):=by
 split
 ·exact dv (by decide)
 ·exact mu _
def chI (K:Kx) (W:World) (full:C Unit) (x:Int) (w:World):Prop :=
 ∃ j:Nat,x=(j:Nat)/\j≤K.F.len/\∃ S:Ck,St W emp.own w [ckA K S] /\
  ((S.err=0/\full=fcr (aj K.F) ((lh K.F).take j) (fwn j K.F) (K.F.drop j))∨(S.err≠0/\full= .err S.line S.err))
def chE (K:Kx) (W:World) (full:C Unit) (w:World):Prop :=
 ∃ S:Ck,St W emp.own w [ckA K S]/\((S.err=0/\full= .ok ())∨(S.err≠0/\full= .err S.line S.err))
def paI (K:Kx) (W:World) (ln:Int) (ns:List ByteArray) (KK:List ByteArray×Nat->C Unit) (one:C Unit) (x:Int) (w:World):Prop :=
 ∃ j:Nat,x=(j:Nat)/\j≤ns.length/\∃ S:Ck,St W emp.own w [ckA K S] /\
  ((S.err=0/\∃ n:Nat,S.n=(n:Nat)/\S.Ls.length≤n/\n≤24/\one=(Ep (aj K.F) ln (ns.drop j) S.Ls n).bind KK)∨(S.err≠0/\one= .err S.line S.err))
def paE (K:Kx) (W:World) (KK:List ByteArray×Nat->C Unit) (one:C Unit) (w:World):Prop :=
 ∃ S:Ck,St W emp.own w [ckA K S] /\
  ((S.err=0/\∃ n:Nat,S.n=(n:Nat)/\S.Ls.length≤n/\n≤24/\one=KK (S.Ls,n))∨(S.err≠0/\one= .err S.line S.err))
def aea (W:World) (r:C (List D)) (e:Ending) (w':World):Prop:=match r with
 | .err l en=>en≠0/\e= .returned (.tuple #[.slice none 0 0,.int .i64 l,.int .i64 en])/\im W w'
 | .ok ds=>∃ p c us B,e= .returned (.tuple #[.slice p ds.length c,.int .i64 0,.int .i64 0])/\isF (toD ds .nil) us B/\Post emp W (all [sl 52 6 (.slice p ds.length c) ds.length us,B]) w'
set_option maxHeartbeats 4000000 in
theorem Qa [Inhabited G3o]{f g:Nat} (s:List UInt8) (hr:s.length≤8000->decls f g (lex s 1)≠ .out) (hds:∀ ds,dl f g s= .ok ds->dok (toD ds .nil)/\ds.length≤8001) :
  Calls prog 7 #[.string (ofL s)] W (aea W ((dl f g s).bind λ ds=>(me (toD ds .nil)).bind λ _=>.ok ds)):=by
 refine vc7 (ofL s) ?_;refine(Ps (f:=f) (g:=g) s hr).mono ?_;intro e w2 he
 cases hp:dl f g s with
 | err line en =>
  rw[hp] at he;obtain⟨hen,rfl,hh⟩:=he;refine⟨_,_,_,_,_,rfl,Sx.so (λ _=>⟨hen,rfl,hh⟩) (λ h=>absurd (bne_eq_false_iff_eq.1 h) hen)⟩
 | ok ds =>
 rw[hp] at he;obtain⟨p,c,us,B,rfl,hF,hpost⟩:=he;obtain⟨hdok,hlen⟩:=hds ds hp;refine⟨_,_,_,_,_,rfl,Sx.so (λ h=>by cases h) (λ _=>?_)⟩;rintro vs rfl;have hl:=Lt ds;have H2:=(St.nil W).add hpost;refine H2.al λ k3 w3 H3=>?_;rw[<- hl] at H3;simp only[<- hl];obtain⟨K,hKd⟩:∃ K:Kx,K=⟨k3,p,c,toD ds .nil,us,all [sl 52 6 (.slice p (toD ds .nil).len c) (toD ds .nil).len us,B]⟩:=⟨_,rfl⟩
 have hK:KOk K:=by
  rw[hKd];exact⟨λ w hw=>hw.nth 0 rfl,Fy hF (λ w hw=>hw.nth 1 rfl),by show(toD ds .nil).len≤8001;omega⟩
 have hdK:dok K.F:=by rw[hKd];exact hdok
 have eF:toD ds .nil=K.F:=by rw[hKd]
 have ep:p=K.dp:=by rw[hKd]
 have ec:k3=K.c:=by rw[hKd]
 have edc:c=K.dc:=by rw[hKd]
 have H4:St W emp.own w3 [ckA K ⟨[],none,0,0,0,0⟩]:=by
  have h1:=H3.add (A:=sl 9 1 (.slice none 0 0) 0 []) ⟨Sl.nil _ _ _,XTouch.refl _ _,λ q hq=>by cases hq⟩;rw[hKd];exact St.shut (L:=ckL _ ⟨[],none,0,0,0,0⟩) (L':=[]) (h1.pick [1,2,0])
 rw[eF,ec,edc,ep];clear H3 H2 hpost
 have hpost:∀ {w:World} {S:Ck},St W emp.own w [ckA K S]->(me K.F= .ok ())->aea W ((C.ok ds).bind λ ds=>(me (toD ds .nil)).bind λ _=>.ok ds) (.returned (.tuple #[.slice K.dp K.F.len K.dc,.int .i64 0,.int .i64 0])) w:=by
  intro w S H hfc;show aea W ((me (toD ds .nil)).bind λ _=>.ok ds) _ w;rw[eF,hfc];have H5:=(St.open_ (L:=ckL K S) (L':=[]) H).pick [2];refine⟨K.dp,K.dc,us,B,by rw[<- eF,hl],hF,?_⟩;have h6:=H5.new 0 rfl;rw[hKd] at h6 ⊢;rw[<- hl];exact h6
 have herr:∀ {w:World} {S:Ck} {l en:Int},St W emp.own w [ckA K S]->me K.F= .err l en->en≠0->aea W ((C.ok ds).bind λ ds=>(me (toD ds .nil)).bind λ _=>.ok ds) (.returned (.tuple #[.slice none 0 0,.int .i64 l,.int .i64 en])) w:=by
  intro w S l en H hfc hen;show aea W ((me (toD ds .nil)).bind λ _=>.ok ds) _ w;rw[eF,hfc];exact⟨hen,rfl,H.touch⟩
 clear eF ep ec edc hKd hF hl hdok hlen;obtain⟨full,hfull⟩:∃ full,full=fcr (aj K.F) [] 0 K.F:=⟨_,rfl⟩;refine⟨λ w=>chE K W full w,?_,?_⟩
 ·refine⟨λ x w=>chI K W full x w,λ x _=>K.F.len - x.toNat,⟨0,rfl,Nat.zero_le _,_,H4,.inl ⟨rfl,hfull⟩⟩,?_⟩;clear H4;rintro _ x w4 ⟨j,rfl,hj,S,H4,hst⟩;have hlenF:=hK.2.2;refine Sx.so (λ h1=>?_) (λ h1=>?_)
  rotate_left
  ·have h1:j=K.F.len:=by have:=df h1;omega
   refine⟨S,H4,hst.imp (λ ⟨a,b⟩=>⟨a,?_⟩) id⟩;rw[b,h1,Mt];unfold fcr;rfl
  have h1:j<K.F.len:=by have:=dt h1;omega
  refine pr H4 (Sx.so (λ h0=>?_) (λ h0=>?_))
  rotate_left
  ·have h0:S.err≠0:=beq_eq_false_iff_ne.1 h0;exact⟨S,H4,hst.imp (λ ⟨a,b⟩=>absurd a h0) id⟩
  have h0:S.err=0:=beq_iff_eq.1 h0;clear hfull
  have hfull:full=fcr (aj K.F) ((lh K.F).take j) (fwn j K.F) (K.F.drop j):=by
   rcases hst with ⟨-,b⟩ | ⟨a, -⟩
   ·exact b
   ·exact absurd h0 a
  clear hst;obtain⟨ws,hS⟩:=Ga hK.2.1 j (by omega);obtain⟨k,nm,ln,v,ks,ns,r,e1,e2,e3,e4,e5⟩:=uu j K.F h1 hdK;rw[e1] at hS hfull;obtain⟨q,c3,us1,q2,c2,ws',hV1, -, -,hsl1,hsl2,hat⟩:=hS.next
  rw[Es] at hfull
  have hone:(lh K.F).take (j+1)=(lh K.F).take j++[nm]:=by
   have hlt:j<(lh K.F).length:=(List.getElem?_eq_some_iff.1 e3).1;rw[List.take_succ_eq_append_getElem hlt,(List.getElem?_eq_some_iff.1 e3).2]
  rw[<- hone,<- e4,<- e2] at hfull;have hDA:∀ {w:World} {S':Ck} {L:List Asn},St W emp.own w (ckA K S'::L)->K.DA.at_ w:=λ H=>(St.open_ (L:=ckL K _) H).nth 2 rfl;refine⟨λ y w=>∃ j2:Nat,y=(j2:Nat)/\j2≤j/\St W emp.own w [ckA K (S.aft (if jy ((lh K.F).take j2) nm then .err ln 9 else .ok ()))],λ y _=>j - y.toNat,⟨0,rfl,Nat.zero_le _,by rw[show jy ((lh K.F).take 0) nm=false from rfl];rw[show(if false=true then C.err ln 9 else C.ok ())=C.ok () from rfl,jh];exact H4⟩,?_⟩;clear H4;rintro _ y w5 ⟨j2,rfl,hj2,H5⟩;refine Sx.so (λ h6=>?_) (λ h6=>?_)
  ·have h6:j2<j:=by have:=dt h6;omega
   obtain⟨ws2,hS2⟩:=Ga hK.2.1 j2 (by omega);obtain⟨k',nm',ln',v',ks',ns',r',f1,f2,f3,f4,f5⟩:=uu j2 K.F (by omega) hdK;rw[f1] at hS2;obtain⟨q',c3',us1',q2',c2',ws2', -, -, -, -, -,hat2⟩:=hS2.next
   have htk:(lh K.F).take (j2+1)=(lh K.F).take j2++[nm']:=by
    have hlt:j2<(lh K.F).length:=(List.getElem?_eq_some_iff.1 f3).1;rw[List.take_succ_eq_append_getElem hlt,(List.getElem?_eq_some_iff.1 f3).2]
   refine⟨⟨by omega,by omega⟩,hat2 (hK.1 _ (hDA H5)) λ g2 o2 hc2=>?_⟩;rw[Int.toNat_natCast];refine⟨nm',hc2 1 (.string nm') rfl,⟨by omega,by omega⟩,hat (hK.1 _ (hDA H5)) λ g3 o3 hc3=>?_⟩;rw[Int.toNat_natCast];refine⟨nm,hc3 1 (.string nm) rfl,?_⟩;refine H5.drN λ w6 H6=>?_;rw[ab];refine Sx.so (λ h7=>?_) (λ h7=>?_)
   ·have h7:nm'=nm:=dt h7;refine⟨⟨by omega,by omega⟩,hat (hK.1 _ (hDA H6)) λ g4 o4 hc4=>?_⟩;refine⟨_,rfl,hc4,?_⟩;refine(nz (H6.nth 0 rfl)).mono ?_;rintro en w7 ⟨rfl,hp⟩;have H7:=H6.upd 0 rfl hp;refine⟨rfl,?_⟩;rintro z rfl;rw[qd (by omega)];refine⟨⟨j2+1,rfl,by omega,?_⟩,by show j - ((j2+1:Nat):Int).toNat<j - ((j2:Nat):Int).toNat;omega⟩;rw[htk,Jr,decide_eq_true h7,Bool.or_true];rw[pm (yn _ _)] at H7
    cases hb:jy ((lh K.F).take j2) nm with
    | true=>rw[hb] at H7;exact H7
    | false=>rw[hb] at H7;exact H7
   ·have h7:¬ nm'=nm:=df h7;rintro z rfl;rw[qd (by omega)];refine⟨⟨j2+1,rfl,by omega,?_⟩,by show j - ((j2+1:Nat):Int).toNat<j - ((j2:Nat):Int).toNat;omega⟩;rw[htk,Jr,decide_eq_false h7,Bool.or_false];exact H6
  ·have h6:j2=j:=by have:=df h6;omega
   rw[h6] at H5;obtain⟨seen,hseen⟩:∃ seen,seen=(lh K.F).take j:=⟨_,rfl⟩;rw[<- hseen] at H5 hfull;obtain⟨one,hone2⟩:∃ one,one=Er (aj K.F) seen (fwn j K.F) k nm ln v ks ns:=⟨_,rfl⟩;rw[<- hone2] at hfull
   have fin1:∀ {w:World} {S':Ck} {L:List Asn},St W emp.own w (ckA K S'::L)->((S'.err=0/\one= .ok ())∨(S'.err≠0/\one= .err S'.line S'.err))->∀ z8,z8=IntKind.wrap .i64 (((j:Nat):Int)+1)->chI K W full z8 w/\K.F.len - z8.toNat<K.F.len - ((j:Nat):Int).toNat:=by
    rintro w S' L H ho z8 rfl;rw[qd (by omega)];refine⟨⟨j+1,rfl,by omega,S',H.pick [0],ho.imp (λ ⟨a,b⟩=>⟨a,?_⟩) (λ ⟨a,b⟩=>⟨a,?_⟩)⟩,by rw[Int.toNat_natCast,Int.toNat_natCast];omega⟩
    ·rw[hfull,b];rfl
    ·rw[hfull,b];rfl
   have fin0:∀ {w:World} {r:C Unit} {L:List Asn},Jd r->r=one->St W emp.own w (ckA K (S.aft r)::L)->∀ z8,z8=IntKind.wrap .i64 (((j:Nat):Int)+1)->chI K W full z8 w/\K.F.len - z8.toNat<K.F.len - ((j:Nat):Int).toNat:=by
    intro w r L hg hro H;refine fin1 H ?_;rcases vj h0 hg with ⟨a,b⟩ | ⟨l,e,a,a0,b⟩
    ·rw[b];exact .inl ⟨h0,by rw[<- hro,a]⟩
    ·rw[b];exact .inr ⟨a0,by rw[<- hro,a]⟩
   refine⟨⟨by omega,by omega⟩,hat (hK.1 _ (hDA H5)) λ g4 o4 hc4=>?_⟩;rw[Int.toNat_natCast];refine⟨k,hc4 0 (.string k) rfl,?_⟩
   try dsimp only
   rw[ab];refine Sx.so (λ h7=>?_) (λ h7=>?_)
   ·
    have h7:k=mb:=dt h7;rintro z6 hz6;rw[qd (by omega)] at hz6;subst hz6
    have hcap:K.F.len≤K.dc:=by
     rcases(hK.1 _ (hDA H5)).2 with ⟨h,h00⟩ | ⟨g,off,cap,cur,hv,hb,h1',h2,h3,h4⟩
     ·omega
     ·simp at hv;omega
    refine⟨⟨by omega,by omega⟩,?_⟩;rw[Int.toNat_natCast];refine H5.callp (wq (hK.1 _ (hDA H5)) hK.2.1 (by omega) hK.2.2 hdK _) ?_
    have hw:one=(if jy seen nm then .err ln 9 else .ok ():C Unit).bind λ _=>if 512<fwn (j+1) K.F then .err ln 1 else .ok ():=by
     rw[hone2];unfold Er;rw[if_pos h7,<- e4];cases jy seen nm <;> rfl
    refine⟨_,rfl,Sx.so (λ h8=>?_) (λ h8=>?_)⟩
    ·have h8:512<fwn (j+1) K.F:=by have:=dt h8;omega
     rw[if_pos h8] at hw;refine⟨⟨by omega,by omega⟩,hat (hK.1 _ (hDA H5)) λ g5 o5 hc5=>?_⟩;refine⟨_,rfl,hc5,?_⟩;refine(nz (H5.nth 0 rfl)).mono ?_;rintro en w7 ⟨rfl,hp⟩;have H7:=H5.upd 0 rfl hp;rw[pm (yn _ _),<- hw] at H7;refine⟨rfl,fin0 ?_ rfl H7⟩;rw[hw];exact ji (yn _ _) λ _=>dv (by decide)
    ·have h8:¬ 512<fwn (j+1) K.F:=by have:=df h8;omega
     rw[if_neg h8] at hw;refine fin0 (yn _ _) ?_ H5;rw[hw];cases jy seen nm <;> rfl
   ·
    have h7:¬ k=mb:=df h7;rw[dok] at e5;obtain⟨-,e5b,hns, -⟩:=e5;obtain⟨hk0,hk1,hk2,hksz⟩:=e5b h7;obtain⟨KK,hKK⟩:∃ KK:List ByteArray×Nat->C Unit,KK=λ p=>(gw (aj K.F) ks p.1 p.2).bind λ _=>.ok ():=⟨_,rfl⟩
    have hw:one=if jy seen nm then .err ln 9 else (Ep (aj K.F) ln ns [] 0).bind KK:=by
     rw[hone2,hKK];unfold Er;rw[if_neg h7]
    have H6:=St.open_ (L:=ckL K _) H5;refine H6.st 0 rfl (i:=1) (by simp) λ w6 H7=>?_;refine H7.st 0 rfl (i:=2) (by simp) λ w7 H8=>?_
    have H9:=H8.conv 1 rfl (A':=sl 9 1 (.slice none 0 0) 0 []) (λ _=>Sl.nil _ _ _) (λ q hq=>by cases hq)
    obtain⟨S3,hS3⟩:∃ S3:Ck,S3={ S.aft (if jy seen nm then .err ln 9 else .ok ()) with Ls:=[],p:=none,c:=0,n:=0 }:=⟨_,rfl⟩
    have H10:St W emp.own w7 [ckA K S3]:=by
     rw[hS3];exact St.shut (L:=ckL K { S.aft (if jy seen nm then .err ln 9 else .ok ()) with Ls:=[],p:=none,c:=0,n:=0 }) (L':=[]) H9
    clear H9 H8 H7 H6 H5;refine⟨λ w=>paE K W KK one w,?_,?_⟩
    ·refine⟨λ x w=>paI K W ln ns KK one x w,λ x _=>ns.length - x.toNat,⟨0,rfl,Nat.zero_le _,S3,H10,?_⟩,?_⟩
     ·cases hd:jy seen nm with
      | true =>
       rw[hd] at hS3 hw
       have e:S.aft (.err ln 9)={ S with line:=ln,err:=9 }:=by unfold Ck.aft;rw[if_pos h0]
       rw[if_pos rfl,e] at hS3;rw[hS3];exact .inr ⟨by show(9:Int)≠0;decide,hw⟩
      | false =>
       rw[hd] at hS3 hw;rw[show(if false=true then C.err ln 9 else C.ok ())=C.ok () from rfl,jh] at hS3;rw[hS3];exact .inl ⟨h0,0,rfl,Nat.zero_le _,by omega,hw⟩
     clear H10 hS3 S3;rintro _ x3 w8 ⟨j3,rfl,hj3,S4,H11,hst⟩;refine⟨⟨by omega,by omega⟩,hat (hK.1 _ (hDA H11)) λ g5 o5 hc5=>?_⟩;rw[Int.toNat_natCast];refine⟨_,_,_,hc5 5 _ rfl,?_⟩;refine Sx.so (λ h8=>?_) (λ h8=>?_)
     rotate_left
     ·have h8:j3=ns.length:=by have:=df h8;omega
      refine⟨S4,H11,hst.imp (λ ⟨a,n,b1,b2,b3,b4⟩=>⟨a,n,b1,b2,b3,?_⟩) id⟩;rw[b4,h8,List.drop_length];rfl
     have h8:j3<ns.length:=by have:=dt h8;omega
     refine pr H11 (Sx.so (λ h9=>?_) (λ h9=>?_))
     rotate_left
     ·have h9:S4.err≠0:=beq_eq_false_iff_ne.1 h9;exact⟨S4,H11,hst.imp (λ ⟨a,b⟩=>absurd a h9) id⟩
     have h9:S4.err=0:=beq_iff_eq.1 h9;rcases hst with ⟨-,n,b1,b2,b3,b4⟩ | ⟨a, -⟩
     rotate_left
     ·exact absurd h9 a
     refine H11.dr λ w9 H12=>?_;refine⟨⟨by omega,by omega⟩,hat (hK.1 _ (hDA H12)) λ g6 o6 hc6=>⟨⟨by omega,by omega⟩,hat (hK.1 _ (hDA H12)) λ g7 o7 hc7=>?_⟩⟩;refine⟨_,rfl,hc6,_,_,_,hc7 5 _ rfl,⟨by omega,by omega⟩,?_⟩;refine mc (hsl2 _ (hDA H12)) (i:=j3) (v:=.string ns[j3]) (by simp [h8]) λ g8 o8 hc8=>?_;refine⟨ns[j3],by rw[Nat.mul_one];exact hc8,?_⟩;refine(rf ns[j3] hK (by omega) (by omega) (H12.nth 0 rfl)).mono ?_;rintro e w10 ⟨rfl,p',c',hp⟩;have H13:=H12.upd 0 rfl hp;refine⟨rfl,?_⟩;rintro z rfl;rw[qd (by omega)];rw[List.drop_eq_getElem_cons h8] at b4;have b4:one=((tg (aj K.F) S4.Ls n ln ns[j3]).bind λ q=>Ep (aj K.F) ln (ns.drop (j3+1)) q.1 q.2).bind KK:=b4;have hd:=Nr (g:=aj K.F) (ln:=ln) (nm:=ns[j3]) (p:=p') (c:=c') h9 b1;refine⟨⟨j3+1,rfl,by omega,S4.dcl (aj K.F) ln ns[j3] p' c',H13,?_⟩,by show ns.length - ((j3+1:Nat):Int).toNat<ns.length - ((j3:Nat):Int).toNat;omega⟩
     cases hdd:tg (aj K.F) S4.Ls n ln ns[j3] with
     | err l e =>
      rw[hdd] at hd b4;obtain⟨a0,a1,a2,a3⟩:=hd;exact .inr ⟨by rw[a2];exact a0,by rw[a1,a2];exact b4⟩
     | ok qq =>
      rw[hdd] at hd b4;rw[hd]
      have hqq:qq.1.length≤qq.2/\qq.2≤24:=by
       unfold tg at hdd;split at hdd
       ·cases hdd
       ·split at hdd
        ·cases hdd
        ·cases hdd;exact⟨by simp;omega,by show n+1≤24;omega⟩
      exact .inl ⟨h9,qq.2,rfl,hqq.1,hqq.2,b4⟩
    ·rintro _ w8 ⟨S4,H11,hst⟩;refine pr H11 (Sx.so (λ h9=>?_) (λ h9=>?_))
     rotate_left
     ·have h9:S4.err≠0:=beq_eq_false_iff_ne.1 h9;refine fin1 H11 ?_;rcases hst with ⟨a, -⟩ | h
      ·exact absurd a h9
      ·exact .inr h
     have h9:S4.err=0:=beq_iff_eq.1 h9;rcases hst with ⟨-,n,b1,b2,b3,b4⟩ | ⟨a, -⟩
     rotate_left
     ·exact absurd h9 a
     refine⟨⟨by omega,by omega⟩,hat (hK.1 _ (hDA H11)) λ g6 o6 hc6=>?_⟩
     cases ks with
     | nil=>exact absurd rfl hk0
     | cons k5 s5 ln5 v5 kids5 ns5 rest5 =>
     have hr5:rest5= .nil:=hk1;subst hr5;obtain⟨q6,c6,us6,q7,c7,ws6,i1, -, -,i4,i5,iat⟩:=(Suf.start hV1).next
     refine⟨_,_,_,hc6 4 _ rfl,⟨by omega,by simp only[Fo.len];omega⟩,?_⟩;refine iat (hsl1 _ (hDA H11)) λ g7 o7 hc7=>?_;refine⟨_,rfl,by rw[Nat.zero_mul] at hc7;exact hc7,?_⟩
     have hsz5:kids5.sz≤1000000:=by simp only[Fo.sz] at hksz;omega
     rw[fok] at hk2;refine(Pv (kids5.sz+1) kids5 (by omega) (by omega) hK h9 b1 b2 b3 hk2.1 hk2.2.1 hk2.2.2.1 i1 i4 (H11.nth 0 rfl)).mono ?_;rintro e w9 ⟨rfl,hp⟩;refine⟨rfl,?_⟩
     have b5:one=((xp (aj K.F) k5 s5 ln5 kids5 S4.Ls n).bind λ p=>.ok p).bind λ _=>.ok ():=by
      rw[b4,hKK];show(gw (aj K.F) (.cons k5 s5 ln5 v5 kids5 ns5 .nil) S4.Ls n).bind _=_;rw[gl]
      cases xp (aj K.F) k5 s5 ln5 kids5 S4.Ls n with
      | ok p=>show(gw _ .nil p.1 p.2).bind _=_;rw[lg];rfl
      | err l e=>rfl
     cases hfo:xp (aj K.F) k5 s5 ln5 kids5 S4.Ls n with
     | err l e =>
      rw[hfo] at hp b5;obtain⟨a0,S',a1,a2,a3,hp⟩:=hp;exact fin1 (H11.upd 0 rfl hp) (.inr ⟨by rw[a2];exact a0,by rw[a1,a2];exact b5⟩)
     | ok p =>
      rw[hfo] at hp b5;obtain⟨p',c',hp⟩:=hp;exact fin1 (H11.upd 0 rfl hp) (.inl ⟨h9,b5⟩)
 ·rintro _ w4 ⟨S,H4,hst⟩;refine pr H4 (Sx.so (λ h0=>?_) (λ h0=>?_))
  ·have h0:S.err≠0:=λ e=>by rw[e] at h0;cases h0
   rcases hst with ⟨a, -⟩ | ⟨-,b⟩
   ·exact absurd a h0
   have H5:=St.open_ (L:=ckL K S) (L':=[]) H4;refine⟨_,H5.ld 0 rfl (i:=3) rfl,_,H5.ld 0 rfl (i:=4) rfl,?_⟩;refine H4.drN λ w6 H6=>?_;refine herr H6 ?_ h0;unfold me;rw[<- hfull,b];rfl
  ·have h0:S.err=0:=bne_eq_false_iff_eq.1 h0;rcases hst with ⟨-,b⟩ | ⟨a, -⟩
   rotate_left
   ·exact absurd h0 a
   have hfc:me K.F=match aj K.F ef with
    | some (k,_,np)=>if k≠da then .err 0 9 else if 0<np then .err 0 9 else .ok ()
    | none=>.err 0 9:=by
    unfold me;rw[<- hfull,b];rfl
   refine(lv ef hK (H4.nth 0 rfl)).mono ?_;rintro e w5 ⟨hh,hg⟩;have H5:=H4.quiet hh
   cases hgl:aj K.F ef with
   | none =>
    rw[hgl] at hg hfc;subst hg;refine⟨_,_,rfl,?_⟩;refine H5.al λ k2 w6 H6=>?_;refine H6.sts0 1 (n:=6) (vs:=nodeZ.toArray) rfl rfl rfl cz λ w7 H7=>?_;exact Sx.so (λ _=>herr (H7.pick [0]) hfc (by decide)) (λ h=>by cases h)
   | some x =>
    obtain⟨k',v',m'⟩:=x;rw[hgl] at hg hfc;obtain⟨nm,ln',q',mm,c',q2',c2',rfl⟩:=hg;refine⟨_,_,rfl,?_⟩;refine H5.al λ k2 w6 H6=>?_;refine H6.sts0 1 (n:=6) (vs:=(ae k' nm ln' v' (.slice q' mm c') (.slice q2' m' c2')).toArray) rfl rfl rfl af λ w7 H7=>?_;refine Sx.so (λ h=>by cases h) (λ _=>?_);refine⟨_,H7.ld 1 rfl (i:=0) rfl,?_⟩
    try dsimp only
    rw[ab];by_cases hk:k'=da
    ·refine Sx.so (λ h=>by rw[decide_eq_true (show k'=⟨#[102,117,110,99]⟩ from hk)] at h;cases h) (λ _=>?_);simp only[hk,ne_eq,not_true_eq_false,if_false] at hfc;refine⟨_,_,_,H7.ld 1 rfl (i:=5) rfl,Sx.so (λ h=>?_) (λ h=>?_)⟩
     ·have h:0<m':=by have:=dt h;omega
      rw[if_pos h] at hfc;exact herr (H7.pick [0]) hfc (by decide)
     ·have h:¬ 0<m':=by have:=df h;omega
      rw[if_neg h] at hfc;exact hpost (H7.pick [0]) hfc
    ·refine Sx.so (λ _=>?_) (λ h=>by rw[decide_eq_false (show ¬ k'=⟨#[102,117,110,99]⟩ from hk)] at h;cases h);simp only[ne_eq,hk,not_false_eq_true,if_true] at hfc;exact herr (H7.pick [0]) hfc (by decide)
end Go.Proofs.YtojogkljneonmaaGreatDoor
