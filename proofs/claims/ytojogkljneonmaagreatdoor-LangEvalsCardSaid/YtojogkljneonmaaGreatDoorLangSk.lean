/- The document's evaluator walked: loops. No condition. -/
import Derived.Test.YtojogkljneonmaaGreatDoorLangSh
set_option linter.unusedVariables false
set_option linter.unusedSimpArgs false
namespace Go.Proofs.YtojogkljneonmaaGreatDoor
open Go Go.Proofs.Tryz Go.Proofs Go.Sep Go.XHeap Go.RowKit Go.Lang
variable {W w0 w:World}{M:Nat->Prop}{L:List Asn}{X:Xw}{h:Hw}{S:Ws}{F:Ft}{lk:Lk}{nw f:Nat}{r:Rw}
theorem adm (G:Gx X F lk nw){Ls:Lcs}{n N f:Nat}{x x':T}{v:List UInt32}{r1:Rw} (E:Env Ls n N nw r) (hx:gd lk Ls x= .ok x') (hr:rgo opE X.ds f (.e x) r= .ok v r1):r1.steps+1≤r.steps:=by
 obtain⟨s,hrel⟩:=E.g;have hsim:=(abw (E:=opE) G.s f).e x x' Ls N s r hx (E.sc.mono E.nN) hrel;rw[hr] at hsim
 cases hg:go opE F f (.e x') s with
 | ok u s1 =>
  rw[hg] at hsim;have hf:s1.steps+1≤s.steps:=(gk hg).1;rw[hsim.2.1.2.2.1,hrel.1.2.2.1];exact hf
 | stop k s1=>rw[hg] at hsim;exact hsim.elim
 | out=>rw[hg] at hsim;exact hsim.elim
theorem aga (G:Gx X F lk nw){Ls:Lcs}{n N f:Nat}{x:T}{q:T×Lcs×Nat}{v:List UInt32}{r1:Rw} (E:Env Ls n N nw r) (hx:x.nok) (hc:cst lk x Ls n= .ok q) (hN:q.2.2≤N) (hr:rgo opE X.ds f (.s x) r= .ok v r1):(v=[]->Env q.2.1 q.2.2 N nw r1)/\r.locals.length≤r1.locals.length/\r1.steps≤r.steps:=by
 obtain⟨s,hrel⟩:=E.g;have hsim:=(abw (E:=opE) G.s f).s x q Ls n N s r hx hc E.sc hN hrel;rw[hr] at hsim
 cases hg:go opE F f (.s q.1) s with
 | ok u s1 =>
  rw[hg] at hsim;obtain⟨ev,h0,L',hL,h1⟩:=hsim;subst ev;have hf:=gk hg;obtain⟨⟨b1,b2,b3,b4,b5⟩,b6⟩:=hrel
  have hst:r1.steps≤r.steps:=by rw[h1.1.2.2.1,b3];have:=hf.1;omega
  refine⟨λ hv=>?_,?_,hst⟩
  ·obtain⟨⟨a1,a2,a3,a4,a5⟩,a6⟩:=h0 hv;obtain⟨c1,c2,c3,c4⟩:=fe lk x Ls n q E.l.1 E.l.2 hc;refine⟨(gr x Ls n q E.sc hc).1,hN,⟨c2,c3⟩,⟨s1,⟨a1,a2,a3,a4,a5⟩,a6⟩,?_,?_,?_,?_⟩
   ·rw[a1,hf.2.2.1,<- b1];exact E.w
   ·have:=E.s;omega
   ·rw[a2,a3];have:=hf.2.2.2.2.1;have:=E.o;rw[b2,b3] at this;omega
   ·rw[a4,hf.2.2.2.1,<- b4];exact E.r
  ·rw[h1.1.2.2.2.2,b5];unfold dy;rw[List.length_map,List.length_map];exact hL.length_le
 | stop k s1=>rw[hg] at hsim;exact hsim.elim
 | out=>rw[hg] at hsim;exact hsim.elim
def retS (v:List UInt32) (r:Rw):Ws:=if v=[] then liv r else { liv r with value:=hd v,back:=true }
theorem Jn (v:List UInt32) (r:Rw):(retS v r).stop=false:=by unfold retS;split <;> rfl
theorem Jo (v:List UInt32) (r:Rw):(retS v r).back=decide (v≠[]):=by
 unfold retS;by_cases hv:v=[]
 ·rw[if_pos hv,hv];rfl
 ·rw[if_neg hv,decide_eq_true hv]
theorem Lx (v:List UInt32) (r:Rw):(retS v r).locals=r.locals:=by unfold retS;split <;> rfl
def ajt (R:Rs Rw) (n0:Nat) (S:Ws):Prop:=(∃ v r',R= .ok v r'/\S=retS v r')∨∃ k r',R= .stop k r'/\Dd S k r' n0
theorem bk {R:Rs Rw}{n0:Nat}{S':Ws}{h':Hw} (hE:ajt R n0 S') (H:St w0 M w (wsA X h' S'::L)):Gc X w0 M L n0 R (.returned (.tuple #[])) w:=by
 rcases hE with ⟨v,r',rfl,rfl⟩ | ⟨k,r',rfl,D⟩
 ·exact⟨rfl,h',H⟩
 ·exact⟨rfl,h',S',H,D⟩
theorem oa {R:Rs Rw}{n0:Nat}{e:Ending}{w':World} (he:Gc X w0 M L n0 R e w'):e= .returned (.tuple #[])/\∃ h' S',St w0 M w' (wsA X h' S'::L)/\ajt R n0 S':=by
 obtain⟨rfl,he⟩:=he
 cases R with
 | ok v r'=>obtain⟨h',H⟩:=he;exact⟨rfl,h',_,H,.inl ⟨v,r',rfl,rfl⟩⟩
 | stop k r'=>obtain⟨h',S',H,D⟩:=he;exact⟨rfl,h',S',H,.inr ⟨k,r',rfl,D⟩⟩
 | out=>exact he.elim
def vk (b:Nat) (w:World):Nat:=match w.cell? ⟨b,0+3,none⟩ with
 | some (.int _ z)=>z.toNat
 | _=>0
theorem Jp {w:World}{A:Asn}{L:List Asn} (H:St w0 M w (wsA X h S::L)):vk X.b w=S.steps.toNat:=by
 unfold vk;have h3:w.cell? ⟨X.b,0+3,none⟩=some (.int .i64 S.steps):=(ax H).ld 0 rfl (i:=3) rfl;rw[h3]
set_option maxHeartbeats 2000000 in
theorem adn [Inhabited G3o] (G:Gx X F lk nw) (I:∀ g,g<f->Wr X F lk nw g){W0 W:World}{M:Nat->Prop}{L:List Asn}{h:Hw}{r:Rw}{line:Int}{c c' x:T}{q:T×Lcs×Nat}{Ls:Lcs}{n N:Nat}{vs:List Value} (E:Env Ls n N nw r) (hco:c.ok 0=true) (hcn:c.nok) (ho:x.ok 2=true) (hn:x.nok) (hb:x.isBlk=true) (hc:gd lk Ls c= .ok c') (hs:cst lk x Ls n= .ok q) (hN:q.2.2≤N) (h24:q.2.2≤24) (hV:isV X.DA (toF (.whileS line c x) .nil) vs) (H:St W0 M W (wsA X h (liv r)::L)) (hne:rgo opE X.ds f (.w c x) r≠ .out) :
  Calls prog 81 #[pt X.b,.agg vs.toArray] W (Gc X W0 M L r.locals.length (rgo opE X.ds f (.w c x) r)):=by
 obtain⟨R0,hR⟩:∃ R,R=rgo opE X.ds f (.w c x) r:=⟨_,rfl⟩;rw[<- hR] at hne ⊢;refine akg X.b 0 _ (H.al λ k w2 H2=>?_);have H2:=Jk H2;obtain⟨q1,c1,us,q2,c2,ws,hk,rfl,rfl,hks, -⟩:=hV;obtain⟨vs1,ws1,rfl,hv6,hv,hw1, -⟩:=dd (.inl hco) hk;obtain⟨vs2,ws2,rfl,hv62,hv2,hw2, -⟩:=dd (.inr ho) hw1
 have hl1:(toF c (toF x .nil)).len=2:=by
  obtain⟨k1,s1,ln1,v1,ks1,ns1,e1⟩:=dk c (.inl hco);obtain⟨k2,s2,ln2,v2,ks2,ns2,e2⟩:=dk x (.inr ho);rw[e1,e2];rfl
 have e0:=(gr x Ls n q E.sc hs).2.2.2 hb;obtain⟨nd,hnd⟩:∃ A,A=blk k (Value.cells (.agg (ae dx (ofL []) line 0 (.slice q1 (toF c (toF x .nil)).len c1) (.slice q2 0 c2)++[]).toArray)) 52:=⟨_,rfl⟩
 have ldk:∀ {w:World} {A:Asn},St W0 M w (A::nd::L)->w.cell? ⟨k,0+4,none⟩=some (.slice q1 (toF c (toF x .nil)).len c1):=by
  intro w A H;rw[hnd] at H;exact H.ld 1 rfl (i:=4) rfl
 have H2:St W0 M w2 (wsA X h (liv r)::nd::L):=by rw[hnd];exact H2
 refine⟨λ w=>∃ rj fj h',fj≤f/\Env Ls n N nw rj/\R0=rgo opE X.ds fj (.w c x) rj/\St W0 M w (wsA X h' (liv rj)::nd::L),λ w=>vk X.b w,⟨r,f,h,Nat.le_refl _,E,hR,H2⟩,λ _ w3 hI=>?_⟩;obtain⟨rj,fj,h',hfj,Ej,hRj,H3⟩:=hI;have hst3:=Jp (A:=nd) H3
 have hnl:r.locals.length=rj.locals.length:=by rw[E.names.2,Ej.names.2]
 obtain⟨g,rfl⟩:∃ g,fj=g+1:=by
  cases fj with
  | zero=>exact absurd (by rw[hRj];rfl) hne
  | succ g=>exact⟨g,rfl⟩
 rw[aie] at hRj;have hsub:rgo opE X.ds g (.e c) rj≠ .out:=λ e=>hne (by rw[hRj,e];rfl);refine⟨_,_,_,ldk H3,⟨by decide,by rw[hl1];decide⟩,?_⟩;refine mj (pre:=[]) (j:=0) (vs:=vs1) (post:=vs2++ws2) (hks _ ((ax H3).nth 3 rfl)) rfl rfl hv6 λ g1 o1 hc1=>⟨_,by rw[List.size_toArray];exact hv6,hc1,?_⟩;refine((I g (by omega)).e Ej hco hcn hc hv H3 hsub).mono ?_;intro e w4 he;obtain⟨a,h2,S2,rfl,H4,hS⟩:=kh he;refine⟨_,rfl,?_⟩;refine(fy (H4.nth 0 rfl)).mono ?_;rintro _ _ ⟨rfl,rfl⟩;refine⟨_,rfl,?_⟩;rcases hS with ⟨v,r2,h1,rfl,rfl⟩ | ⟨j,r2,h1,D⟩
 ·rw[h1,ez] at hRj
  try dsimp only at hRj
  have E2:=Lw G Ej hc h1;have hstep:=adm G Ej hc h1;refine be ?_;rw[u_z];refine Sx.so (λ hz=>?_) (λ hz=>?_)
  ·have hz:hd v=0:=by simpa using hz
   rw[if_pos hz] at hRj;rw[hRj];exact bk (.inl ⟨[],r2,rfl,rfl⟩) (bg H4)
  ·have hz:¬ hd v=0:=by simpa using hz
   rw[if_neg hz] at hRj;refine⟨_,_,_,ldk H4,⟨by decide,by rw[hl1];decide⟩,?_⟩;refine mj (pre:=vs1) (j:=1) (vs:=vs2) (post:=ws2) (hks _ ((ax H4).nth 3 rfl)) rfl (by rw[hv6]) hv62 λ g2 o2 hc2=>⟨_,by rw[List.size_toArray];exact hv62,hc2,?_⟩;have hsub2:rgo opE X.ds g (.s x) r2≠ .out:=λ e=>hne (by rw[hRj,e];rfl);refine((I g (by omega)).s E2 ho hn hs hN h24 hv2 H4 hsub2).mono ?_;intro e w5 he2;obtain⟨rfl,h3,S3,H5,hE⟩:=oa he2;refine⟨rfl,?_⟩;refine(fy (H5.nth 0 rfl)).mono ?_;rintro _ _ ⟨rfl,rfl⟩;refine⟨_,rfl,?_⟩;rcases hE with ⟨v3,r3,h3',rfl⟩ | ⟨j,r3,h3',D⟩
   ·rw[h3',ez] at hRj
    try dsimp only at hRj
    obtain⟨en,hll,hst⟩:=aga G E2 hn hs hN h3';rw[Jn];refine be ⟨_,(ax H5).ld 0 rfl (i:=9) rfl,?_⟩;rw[Jo];refine Sx.so (λ hv3=>?_) (λ hv3=>?_)
    ·have hv3:=dt hv3;rw[if_neg hv3] at hRj;rw[hRj];exact bk (.inl ⟨v3,r3,rfl,rfl⟩) (bg H5)
    ·have hv3:v3=[]:=by simpa using hv3
     rw[if_pos hv3] at hRj;have E3:=en hv3;rw[e0] at E3
     have er:retS v3 r3=liv r3:=by unfold retS;rw[if_pos hv3]
     rw[er] at H5;have E3':Env Ls n N nw r3:=⟨E.sc,E.nN,E.l,E3.g,E3.w,E3.s,E3.o,E3.r⟩;refine⟨⟨r3,g,h3,by omega,E3',hRj,H5⟩,?_⟩;have hst5:=Jp (A:=nd) H5;show vk X.b _<vk X.b w3;rw[hst5,hst3];show Int.toNat ((r3.steps:Nat):Int)<Int.toNat ((rj.steps:Nat):Int);omega
   ·rw[h3'] at hRj;rw[D.stop];refine cn ?_;rw[hRj];exact bk (.inr ⟨j,r3,rfl,Bh D (by rw[hnl,Ej.names.2,E2.names.2];exact Nat.le_refl _)⟩) (bg H5)
 ·rw[h1] at hRj;rw[D.stop];refine cn ?_;rw[hRj];exact bk (.inr ⟨j,r2,rfl,Bh D (by omega)⟩) (bg H4)
variable {W w0 w:World}{M:Nat->Prop}{L:List Asn}{X:Xw}{h:Hw}{S:Ws}{F:Ft}{lk:Lk}{nw f:Nat}{r:Rw}
theorem lw [Inhabited G3o] (G:Gx X F lk nw) (I:Wr X F lk nw f){W0 w3:World}{M:Nat->Prop}{L:List Asn}{h:Hw}{r1:Rw}{x x':T}{rest:Fo}{Ls:Lcs}{n N:Nat}{us:List Value}{q:Option Addr}{c:Nat}{φ:Int->World->Prop}{QD:World->Prop}
  (E:Env Ls n N nw r1) (ho:x.ok 0=true) (hn:x.nok) (hx:gd lk Ls x= .ok x') (hk:isV X.DA (toF x rest) us) (hks:∀ w,X.DA.at_ w->Sl w 52 6 (.slice q (toF x rest).len c) (toF x rest).len us) (H:St W0 M w3 (wsA X h (liv r1)::L)) (hsub:rgo opE X.ds f (.e x) r1≠ .out)
  (hdead:∀ w' h' S' k r',rgo opE X.ds f (.e x) r1= .stop k r'->Dd S' k r' r1.locals.length->St W0 M w' (wsA X h' S'::L)->QD w')
  (hlive:∀ v r2 w' h',rgo opE X.ds f (.e x) r1= .ok v r2->Env Ls n N nw r2->r2.locals.length=r1.locals.length->St W0 M w' (wsA X h' (liv r2)::L)->φ ((hd v).toNat:Int) w') :
  V.ixs 0 (toF x rest).len q λ k14 k15=>V.ldN w3 k14 (k15+0) 6 λ vs3=>V.rI prog .u32 42 #[pt X.b,.agg vs3] w3 λ z2 W10=>V.rB prog 44 #[pt X.b] W10 λ t5 W11=>Sx.split t5 (QD W11) (φ z2 W11):=by
 obtain⟨vs1,ws1,rfl,hv6,hv,hw1, -⟩:=dd (.inl ho) hk
 have hl1:0<(toF x rest).len:=by obtain⟨k1,s1,ln1,v1,ks1,ns1,e1⟩:=dk x (.inl ho);rw[e1];exact Nat.succ_pos _
 refine⟨⟨by decide,by omega⟩,?_⟩;refine mj (pre:=[]) (j:=0) (vs:=vs1) (post:=ws1) (hks _ ((ax H).nth 3 rfl)) rfl rfl hv6 λ g o hc=>⟨_,by rw[List.size_toArray];exact hv6,hc,?_⟩;refine(I.e E ho hn hx hv H hsub).mono ?_;intro e w4 he;obtain⟨a,h2,S2,rfl,H4,hS⟩:=kh he;refine⟨_,rfl,?_⟩;refine(fy (H4.nth 0 rfl)).mono ?_;rintro _ _ ⟨rfl,rfl⟩;refine⟨_,rfl,?_⟩;rcases hS with ⟨v,r2,h1,rfl,rfl⟩ | ⟨j,r2,h1,D⟩
 ·have E2:=Lw G E hx h1;exact be (hlive v r2 _ h2 h1 E2 (by rw[E2.names.2,E.names.2]) H4)
 ·rw[D.stop];exact cn (hdead _ h2 S2 j r2 h1 D H4)
theorem ww {B:Asn}{R:Rs Rw}{n0:Nat}{e:Ending}{w':World} (he:Gc X w0 M (B::L) n0 R e w'):Gc X w0 M L n0 R e w':=by
 obtain⟨rfl,h',S',H,hE⟩:=oa he;exact bk hE (bg H)
theorem agb {w:World}{e size n c:Nat}{p:Option Addr}{xs:List Value} (h:Sl w e size (.slice p n c) n xs):(n=0/\p=none)∨∃ a,p=some a/\∀ j u,xs[j]?=some u->w.cell? (a.add j)=some u:=by
 obtain⟨hl,⟨hv,rfl⟩ | ⟨g,off,cap,cur,hv,hb,h1,h2,h3,h4⟩⟩:=h
 ·simp at hv;exact .inl ⟨rfl,hv.1⟩
 ·simp at hv;obtain⟨rfl,rfl⟩:=hv;refine .inr ⟨_,rfl,λ j u hj=>?_⟩
  have hjl:j<n * size:=by have:=(List.getElem?_eq_some_iff.1 hj).1;omega
  rw[<- h4,List.getElem?_take_of_lt hjl,List.getElem?_drop] at hj;rw[show(Addr.add ⟨g,off,none⟩ j)=⟨g,off+j,none⟩ by simp [Addr.add]];exact hb.cell' (by rw[<- Array.getElem?_toList];exact hj)
theorem Nu:∀ {l:List (ByteArray×UInt32)}{i:Nat}{p:ByteArray×UInt32}{v:UInt32},l[i]?=some p->(l.flatMap loC).set (i * 2+1) (vU v)=(l.set i (p.1,v)).flatMap loC
 | [],i,p,v,h=>by simp at h
 | q::l,0,p,v,h=>by simp at h;subst h;simp [loC]
 | q::l,i+1,p,v,h=>by
  have:=Nu (l:=l) (i:=i) (v:=v) (by simpa using h);rw[List.set_cons_succ,List.flatMap_cons,List.flatMap_cons,<- this,show(i+1) * 2+1=2+(i * 2+1) by omega];rw[List.set_append_right _ _ (by simp [loC])];simp [loC]
theorem Jq:∀ (l:List (ByteArray×UInt32)) (i:Nat),(l.flatMap loC).take (i * 2)=(l.take i).flatMap loC
 | [],i=>by simp
 | q::l,0=>by simp
 | q::l,i+1=>by
  rw[List.take_succ_cons,List.flatMap_cons,List.flatMap_cons,<- Jq l i,show(i+1) * 2=2+i * 2 by omega];have:(loC q).length=2:=rfl;rw[<- this,List.take_length_add_append,this]
theorem Nv (l:List (ByteArray×UInt32)):(l.flatMap loC).length=l.length * 2:=by
 induction l with
 | nil=>rfl
 | cons q l ih=>rw[List.flatMap_cons,List.length_append,ih];simp only[List.length_cons];show 2+l.length * 2=_;omega
theorem Vc {W0 w:World}{L:List Asn}{h:Hw}{S:Ws}{i:Nat}{p:ByteArray×UInt32}{v:UInt32} (H:St W0 M w (wsA X h S::L)) (hi:S.locals[i]?=some p){φ:World->Prop} (hq:∀ w',St W0 M w' (wsA X h { S with locals:=S.locals.set i (p.1,v) }::L)->φ w') :
  V.ixs ((i:Nat):Int) S.locals.length h.p λ k29 k30=>V.sto w k29 (k30+Int.toNat ((i:Nat):Int) * 2+1) (.int .u32 ((v.toNat:Nat):Int)) φ:=by
 have hil:=(List.getElem?_eq_some_iff.1 hi).1;have K:=ax H;have hS:Sl w 120 2 (.slice h.p S.locals.length h.c) S.locals.length (S.locals.flatMap loC):=K.nth 2 rfl;obtain⟨-,g,o,ep, -⟩:=Eg hS (λ x _=>Lu x) hi (by decide);refine⟨⟨by omega,by omega⟩,?_⟩;rw[ep] at hS ⊢;refine adr_some ?_;obtain⟨⟨u,hu⟩,hfr,hp⟩:=Uu hS (j:=i * 2+1) (by rw[Nv];omega) (vU v);rw[Int.toNat_natCast];refine⟨⟨u,hu⟩,hfr,?_⟩;rintro w' rfl;rw[Nu hi] at hp;have K2:=K.upd 2 (A:=sl 120 2 (.slice h.p S.locals.length h.c) S.locals.length (S.locals.flatMap loC)) (A':=sl 120 2 (.slice h.p S.locals.length h.c) S.locals.length ((S.locals.set i (p.1,v)).flatMap loC)) rfl (by rw[ep];exact hp);have K3:=St.shut (L:=[_,_,_,_]) (L':=L) K2;refine hq _ ?_
 have e:wsL X h { S with locals:=S.locals.set i (p.1,v) }=[blk X.b (wsC X h S) 75,sl 32 1 (.slice X.pw S.words.length X.cw) S.words.length (S.words.map vU),sl 120 2 (.slice h.p S.locals.length h.c) S.locals.length ((S.locals.set i (p.1,v)).flatMap loC),X.DA]:=by
  unfold wsL wsC;simp only[List.length_set]
 unfold wsA;rw[e];exact K3
theorem Nw {W0 w:World}{L:List Asn}{h:Hw}{S:Ws}{i:Nat}{v:UInt32} (H:St W0 M w (wsA X h S::L)) (hi:i<S.words.length){φ:World->Prop} (hq:∀ w',St W0 M w' (wsA X h { S with words:=S.words.set i v }::L)->φ w') :
  V.ixs ((i:Nat):Int) S.words.length X.pw λ k29 k30=>V.sto w k29 (k30+Int.toNat ((i:Nat):Int) * 1) (.int .u32 ((v.toNat:Nat):Int)) φ:=by
 have K:=ax H;have hS:Sl w 32 1 (.slice X.pw S.words.length X.cw) S.words.length (S.words.map vU):=K.nth 1 rfl;obtain⟨g,o,ep, -⟩:=lr hS hi;refine⟨⟨by omega,by omega⟩,?_⟩;rw[ep] at hS ⊢;refine adr_some ?_;obtain⟨⟨u,hu⟩,hfr,hp⟩:=Uu hS (j:=i) (by rw[List.length_map];exact hi) (vU v);rw[ix1];refine⟨⟨u,hu⟩,hfr,?_⟩;rintro w' rfl;rw[<- List.map_set] at hp;have K2:=K.upd 1 (A:=sl 32 1 (.slice X.pw S.words.length X.cw) S.words.length (S.words.map vU)) (A':=sl 32 1 (.slice X.pw S.words.length X.cw) S.words.length ((S.words.set i v).map vU)) rfl (by rw[ep];exact hp);have K3:=St.shut (L:=[_,_,_,_]) (L':=L) K2;refine hq _ ?_
 have e:wsL X h { S with words:=S.words.set i v }=[blk X.b (wsC X h S) 75,sl 32 1 (.slice X.pw S.words.length X.cw) S.words.length ((S.words.set i v).map vU),sl 120 2 (.slice h.p S.locals.length h.c) S.locals.length (S.locals.flatMap loC),X.DA]:=by
  unfold wsL wsC;simp only[List.length_set]
 unfold wsA;rw[e];exact K3
variable {W w0 w:World}{M:Nat->Prop}{L:List Asn}{X:Xw}{h:Hw}{S:Ws}{F:Ft}{lk:Lk}{nw f:Nat}{r:Rw}
theorem Nx:∀ (x:T) (r:Fo),x.ok 3=true->(toF x r).len=x.len+r.len
 | .nil,r,h=>by simp [toF,T.len]
 | .cons x xs,r,h=>by
  have hp:x.ok 2=true/\xs.ok 3=true:=by simpa [T.ok] using h
  obtain⟨k,s,ln,v,ks,ns,e⟩:=dk x (.inr hp.1);rw[toF,e];simp only[Fo.len,T.len];rw[Nx xs r hp.2];omega
 | .num ..,r,h=>by simp [T.ok] at h
 | .name ..,r,h=>by simp [T.ok] at h
 | .index ..,r,h=>by simp [T.ok] at h
 | .call ..,r,h=>by simp [T.ok] at h
 | .un ..,r,h=>by simp [T.ok] at h
 | .bin ..,r,h=>by simp [T.ok] at h
 | .letS ..,r,h=>by simp [T.ok] at h
 | .setS ..,r,h=>by simp [T.ok] at h
 | .putS ..,r,h=>by simp [T.ok] at h
 | .ifS ..,r,h=>by simp [T.ok] at h
 | .whileS ..,r,h=>by simp [T.ok] at h
 | .retS ..,r,h=>by simp [T.ok] at h
 | .prtS ..,r,h=>by simp [T.ok] at h
 | .doS ..,r,h=>by simp [T.ok] at h
 | .block ..,r,h=>by simp [T.ok] at h
theorem ado {rest:T} (ho:rest.ok 3=true) (hl:rest.len=0):rest= .nil:=by
 cases rest with
 | nil=>rfl
 | cons x xs=>simp [T.len] at hl
 | _=>simp [T.ok] at ho
theorem Zf {rest:T} (ho:rest.ok 3=true) (hl:0<rest.len):∃ x xs,rest= .cons x xs/\x.ok 2=true/\xs.ok 3=true:=by
 cases rest with
 | nil=>simp [T.len] at hl
 | cons x xs=>exact⟨x,xs,rfl,by simpa [T.ok] using ho⟩
 | _=>simp [T.ok] at ho
def Bl (X:Xw) (lk:Lk) (nw f N:Nat) (r1:Rw) (l rest:T) (S':Ws):Prop :=
 (∃ rj fj Lsj nj q,S'=liv rj/\fj≤f/\Env Lsj nj N nw rj/\cst lk rest Lsj nj= .ok q/\q.2.2≤N/\q.2.2≤24/\r1.locals.length≤rj.locals.length/\rgo opE X.ds f (.ss l) r1=rgo opE X.ds fj (.ss rest) rj) ∨
 (∃ v r',v≠[]/\rgo opE X.ds f (.ss l) r1= .ok v r'/\S'=retS v r'/\r1.locals.length≤r'.locals.length)∨∃ k r',rgo opE X.ds f (.ss l) r1= .stop k r'/\Dd S' k r' r1.locals.length
def Be (X:Xw) (f:Nat) (r1:Rw) (l:T) (S':Ws):Prop :=
 (∃ v r',rgo opE X.ds f (.ss l) r1= .ok v r'/\S'=retS v r'/\r1.locals.length≤r'.locals.length)∨∃ k r',rgo opE X.ds f (.ss l) r1= .stop k r'/\Dd S' k r' r1.locals.length
theorem agc {r1:Rw}{l:T}{S':Ws} (h:Be X f r1 l S'):r1.locals.length≤S'.locals.length:=by
 rcases h with ⟨v,r', -,rfl,hl⟩ | ⟨k,r', -,D⟩
 ·rw[Lx];exact hl
 ·exact D.l
theorem adp [Inhabited G3o] (G:Gx X F lk nw) (I:∀ g,g<f->Wr X F lk nw g){W0 W:World}{M:Nat->Prop}{L:List Asn}{h:Hw}{N:Nat}{r1 rj:Rw}{l x xs2:T}{vs:List Value}{fj nj:Nat}{Lsj:Lcs}{q:T×Lcs×Nat} (hf:fj≤f) (E:Env Lsj nj N nw rj) (hq:cst lk (.cons x xs2) Lsj nj= .ok q) (hN:q.2.2≤N) (h24:q.2.2≤24) (hlen:r1.locals.length≤rj.locals.length) (hR:rgo opE X.ds f (.ss l) r1=rgo opE X.ds fj (.ss (.cons x xs2)) rj)
  (hne:rgo opE X.ds f (.ss l) r1≠ .out) (ho:x.ok 2=true) (hn:x.nok) (hV:isV X.DA (toF x .nil) vs) (H:St W0 M W (wsA X h (liv rj)::L)) :
  Calls prog 45 #[pt X.b,.agg vs.toArray] W λ e w'=>e= .returned (.tuple #[])/\∃ h'' S'',St W0 M w' (wsA X h'' S''::L)/\Bl X lk nw f N r1 l xs2 S'':=by
 obtain⟨g,rfl⟩:∃ g,fj=g+1:=by
  cases fj with
  | zero=>exact absurd (by rw[hR];rfl) hne
  | succ g=>exact⟨g,rfl⟩
 rw[aet] at hR;obtain⟨a,ha,hq⟩:=C.bind_ok hq;obtain⟨b,hb,hq⟩:=C.bind_ok hq;cases hq;obtain⟨c1,c2,c3,c4⟩:=fe lk x Lsj nj a E.l.1 E.l.2 ha;obtain⟨d1,d2,d3,d4⟩:=fe lk xs2 a.2.1 a.2.2 b c2 c3 hb;have hN:b.2.2≤N:=hN;have h24:b.2.2≤24:=h24;have hsub:rgo opE X.ds g (.s x) rj≠ .out:=λ e=>hne (by rw[hR,e];rfl);refine((I g (by omega)).s E ho hn ha (by omega) c3 hV H hsub).mono ?_;intro e w' he;obtain⟨rfl,h'',S'',H2,hE⟩:=oa he;refine⟨rfl,h'',S'',H2,?_⟩;rcases hE with ⟨v,r2,h1,rfl⟩ | ⟨k,r2,h1,D⟩
 ·rw[h1,ez] at hR
  try dsimp only at hR
  obtain⟨e1,e2,e3⟩:=aga G E hn ha (by omega) h1;by_cases hv:v=[]
  ·rw[if_pos hv] at hR;exact .inl ⟨r2,g,a.2.1,a.2.2,b,by unfold retS;rw[if_pos hv],by omega,e1 hv,hb,hN,h24,by omega,hR⟩
  ·rw[if_neg hv] at hR;exact .inr (.inl ⟨v,r2,hv,hR,rfl,by omega⟩)
 ·rw[h1] at hR;exact .inr (.inr ⟨k,r2,hR,Bh D hlen⟩)
set_option maxHeartbeats 2000000 in
theorem Py [Inhabited G3o] (G:Gx X F lk nw) (I:∀ g,g<f+1->Wr X F lk nw g){W0 w3:World}{M:Nat->Prop}{L:List Asn}{h:Hw}{k:Nat}{r1:Rw}{l:T}{q0:T×Lcs×Nat}{Ls:Lcs}{n N:Nat}{us:List Value}{q:Option Addr}{c:Nat}{nd:Asn}{R0:Rs Rw} (E:Env Ls n N nw r1) (ho:l.ok 3=true) (hn:l.nok) (hcs:cst lk l Ls n= .ok q0) (hN:q0.2.2≤N) (h24:q0.2.2≤24) (hk:isV X.DA (toF l .nil) us) (hks:∀ w,X.DA.at_ w->Sl w 52 6 (.slice q (toF l .nil).len c) (toF l .nil).len us)
  (ldk:∀ {w:World} {A:Asn},St W0 M w (A::nd::L)->w.cell? ⟨k,0+4,none⟩=some (.slice q (toF l .nil).len c)) (H:St W0 M w3 (wsA X h (liv r1)::nd::L))
  (hR:R0=(rgo opE X.ds f (.ss l) r1).bind λ v s'=>.ok v { s' with locals:=s'.locals.take r1.locals.length }) (hne:R0≠ .out) :
  V.ldL w3 X.b (0+7) λ p k2 k3=>∃ I:World->Prop,(∃ I2:Int->World->Prop,∃ I3:Int->World->Nat,I2 0 w3/\(V.wv (∀ x:Int,∀ W4:World,I2 x W4->V.ldL W4 k (0+4) λ p2 k4 k5=>Sx.split (decide (x<(k4:Int))) (V.rB prog 44 #[pt X.b] W4 λ t3 W5=>Sx.split t3 (I W5) (V.ldB W5 X.b (0+9) λ t4=>Sx.split t4 (I W5) (V.ldL W5 k (0+4) λ p3 k6 k7=>V.ixs x k6 p3 λ k8 k9=>V.ldN W5 k8 (k9+Int.toNat x * 6) 6 λ vs=>V.rU prog 45 #[pt X.b,.agg vs] W5 λ W6=>V.nm (IntKind.wrap .i64 (x+1)) λ z=>I2 z W6/\I3 z W6<I3 x W4))) (I W4))))/\(V.wv (∀ W7:World,I W7->V.ldL W7 X.b (0+7) λ p4 k10 k11=>((0:Int)≤(k2:Int)/\(k2:Int)≤(k11:Int))/\V.sto W7 X.b (0+7) (.slice p4 (Int.toNat (k2:Int)) k11) λ W8=>Gc X W0 M L r1.locals.length R0 (.returned (.tuple #[])) W8)):=by
 have hss:rgo opE X.ds f (.ss l) r1≠ .out:=λ e=>hne (by rw[hR,e];rfl)
 have hlF:(toF l .nil).len=l.len:=by rw[Nx l .nil ho];rfl
 have hmax:l.len≤9223372036854775807:=by
  have:=(hks _ ((ax H).nth 3 rfl));obtain⟨-,⟨hv,h0⟩ | ⟨g,off,cap,cur,hv,hb,h1,h2,h3,h4⟩⟩:=this
  ·omega
  ·unfold maxLen at h2;omega
 refine⟨_,_,_,(ax H).ld 0 rfl (i:=7) rfl,λ w=>∃ h' S',Be X f r1 l S'/\St W0 M w (wsA X h' S'::nd::L),?_,λ _ w7 hI=>?_⟩
 ·refine⟨λ x w=>∃ (j:Nat) (rest:T) (pre wsr:List Value) (h':Hw) (S':Ws),x=(j:Nat)/\j+rest.len=l.len/\us=pre++wsr/\pre.length=j * 6/\isV X.DA (toF rest .nil) wsr/\rest.ok 3=true/\rest.nok/\Bl X lk nw f N r1 l rest S'/\St W0 M w (wsA X h' S'::nd::L),λ x _=>l.len - x.toNat,⟨0,l,[],us,h,liv r1,rfl,by omega,rfl,rfl,hk,ho,hn,.inl ⟨r1,f,Ls,n,q0,rfl,Nat.le_refl _,E,hcs,hN,h24,Nat.le_refl _,rfl⟩,H⟩,λ _ x w4 hI=>?_⟩;obtain⟨j,rest,pre,wsr,h',S',rfl,hlen,hus,hpre,hVr,hor,hnr,hB,H4⟩:=hI;refine⟨_,_,_,ldk H4,Sx.so (λ h1=>?_) (λ h1=>?_)⟩
  ·have h1:=dt h1;obtain⟨x,xs2,rfl,ho1,ho2⟩:=Zf hor (by omega);refine(fy (H4.nth 0 rfl)).mono ?_;rintro _ _ ⟨rfl,rfl⟩;refine⟨_,rfl,?_⟩;rcases hB with ⟨rj,fj,Lsj,nj,qq,rfl,hfj,Ej,hcj,hNj,h24j,hlj,hRj⟩ | ⟨v,r',hv,hRj,rfl,hlj⟩ | ⟨kk,r',hRj,D⟩
   ·refine be ⟨_,(ax H4).ld 0 rfl (i:=9) rfl,be ?_⟩;obtain⟨vs1,ws1,rfl,hv6,hv,hw1, -⟩:=dd (.inr ho1) hVr;refine⟨_,_,_,ldk H4,⟨by omega,by omega⟩,?_⟩;refine mj (pre:=pre) (j:=j) (vs:=vs1) (post:=ws1) (hks _ ((ax H4).nth 3 rfl)) hus hpre hv6 λ g o hc=>⟨_,by rw[List.size_toArray];exact hv6,by rw[Int.toNat_natCast];exact hc,?_⟩;refine(adp G (λ g hg=>I g (by omega)) hfj Ej hcj hNj h24j hlj hRj hss ho1 hnr.1 hv H4).mono ?_;rintro _ w5 ⟨rfl,h2,S2,H5,hB2⟩;refine⟨rfl,?_⟩;rintro z rfl;simp only[T.len] at hlen;rw[show((j:Nat):Int)+1=((j+1:Nat):Int) by omega,Go.Bits.n64 (by omega)];exact⟨⟨j+1,xs2,pre++vs1,ws1,h2,S2,rfl,by omega,by rw[hus,List.append_assoc],by rw[List.length_append,hpre,hv6];omega,hw1,ho2,hnr.2,hB2,H5⟩,by show l.len - Int.toNat ((j+1:Nat):Int)<l.len - Int.toNat ((j:Nat):Int);omega⟩
   ·rw[Jn];refine be ⟨_,(ax H4).ld 0 rfl (i:=9) rfl,?_⟩;rw[Jo,decide_eq_true hv];exact cn ⟨h',_,.inl ⟨v,r',hRj,rfl,hlj⟩,H4⟩
   ·rw[D.stop];exact cn ⟨h',_,.inr ⟨kk,r',hRj,D⟩,H4⟩
  ·have h1:=df h1;obtain rfl:=ado hor (by omega);refine⟨h',S',?_,H4⟩;rcases hB with ⟨rj,fj,Lsj,nj,qq,rfl,hfj,Ej,hcj,hNj,h24j,hlj,hRj⟩ | ⟨v,r',hv,hRj,rfl,hlj⟩ | ⟨kk,r',hRj,D⟩
   ·cases fj with
    | zero=>exact absurd (by rw[hRj];rfl) hss
    | succ fj=>exact .inl ⟨[],rj,by rw[hRj,abv],rfl,hlj⟩
   ·exact .inl ⟨v,r',hRj,rfl,hlj⟩
   ·exact .inr ⟨kk,r',hRj,D⟩
 ·obtain⟨h',S',hB,H4⟩:=hI;have hl:=agc hB;have K:=ax H4;have hS:Sl w7 120 2 (.slice h'.p S'.locals.length h'.c) S'.locals.length (S'.locals.flatMap loC):=K.nth 2 rfl;have hcap:=Sl.le_cap hS;refine⟨_,_,_,K.ld 0 rfl (i:=7) rfl,⟨by omega,by show((r1.locals.length:Nat):Int)≤_;omega⟩,?_⟩;refine K.st 0 rfl (i:=7) (by simp [wsC]) λ w8 K2=>?_;rw[Int.toNat_natCast] at K2
  have K3:=K2.conv 2 (A:=sl 120 2 (.slice h'.p S'.locals.length h'.c) S'.locals.length (S'.locals.flatMap loC)) (A':=sl 120 2 (.slice h'.p r1.locals.length h'.c) r1.locals.length ((S'.locals.take r1.locals.length).flatMap loC)) rfl (λ hh=>by have:=Sl.pre hh hl;rw[Jq] at this;exact this) (λ q hq=>by revert hq;show(Value.slice h'.p _ _).ownBlock=some q->(Value.slice h'.p _ _).ownBlock=some q;cases h'.p <;> exact id)
  have K4:St W0 M w8 (wsA X h' { S' with locals:=S'.locals.take r1.locals.length }::nd::L):=by
   have e:wsL X h' { S' with locals:=S'.locals.take r1.locals.length }=[blk X.b ((wsC X h' S').setIfInBounds 7 (.slice h'.p r1.locals.length h'.c)) 75,sl 32 1 (.slice X.pw S'.words.length X.cw) S'.words.length (S'.words.map vU),sl 120 2 (.slice h'.p r1.locals.length h'.c) r1.locals.length ((S'.locals.take r1.locals.length).flatMap loC),X.DA]:=by
    unfold wsL wsC;simp only[List.length_take,Nat.min_eq_left hl];rfl
   unfold wsA;rw[e];exact St.shut (L:=[_,_,_,_]) (L':=nd::L) K3
  rw[hR];rcases hB with ⟨v,r',hRj,rfl,hlj⟩ | ⟨kk,r',hRj,D⟩
  ·rw[hRj,ez];refine bk (.inl ⟨v,_,rfl,?_⟩) (bg K4);unfold retS;by_cases hv:v=[]
   ·rw[if_pos hv,if_pos hv];rfl
   ·rw[if_neg hv,if_neg hv];rfl
  ·rw[hRj];refine bk (S':={ S' with locals:=S'.locals.take r1.locals.length }) (.inr ⟨kk,r',rfl,⟨D.w,D.o,D.z,D.p,?_⟩⟩) (bg K4);show r1.locals.length≤(S'.locals.take r1.locals.length).length;rw[List.length_take,Nat.min_eq_left hl];exact Nat.le_refl _
end Go.Proofs.YtojogkljneonmaaGreatDoor
