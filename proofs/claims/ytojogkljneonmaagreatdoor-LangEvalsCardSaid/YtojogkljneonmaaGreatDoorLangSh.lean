/- The document's evaluator walked: expressions. No condition. -/
import Derived.Test.YtojogkljneonmaaGreatDoorLangSd
set_option linter.unusedVariables false
set_option linter.unusedSimpArgs false
namespace Go.Proofs.YtojogkljneonmaaGreatDoor
open Go Go.Proofs.Tryz Go.Proofs Go.Sep Go.XHeap Go.RowKit Go.Lang
variable {W w0 w:World}{M:Nat->Prop}{L:List Asn}{X:Xw}{h:Hw}{S:Ws}{F:Ft}{lk:Lk}{nw f:Nat}{r:Rw}
def Gc (X:Xw) (W0:World) (M:Nat->Prop) (L:List Asn) (n0:Nat) (R:Rs Rw) (e:Ending) (w':World):Prop:=e= .returned (.tuple #[])/\match R with
 | .ok v r'=>∃ h',St W0 M w' (wsA X h' (if v=[] then liv r' else { liv r' with value:=hd v,back:=true })::L)
 | .stop k r'=>∃ h' S',St W0 M w' (wsA X h' S'::L)/\Dd S' k r' n0
 | .out=>False
structure Wr (X:Xw) (F:Ft) (lk:Lk) (nw f:Nat):Prop where
 e:∀ {W0 W:World} {M:Nat->Prop} {L:List Asn} {h:Hw} {r:Rw} {x x':T} {Ls:Lcs} {n N:Nat} {vs:List Value},Env Ls n N nw r->x.ok 0=true->x.nok->gd lk Ls x= .ok x'->isV X.DA (toF x .nil) vs->St W0 M W (wsA X h (liv r)::L)->rgo opE X.ds f (.e x) r≠ .out ->
  Calls prog 42 #[pt X.b,.agg vs.toArray] W (qe X W0 M L r.locals.length (rgo opE X.ds f (.e x) r))
 c:∀ {W0 W:World} {M:Nat->Prop} {L:List Asn} {h:Hw} {r:Rw} {t:Tok} {a:Option Addr} {k:Nat} {xs xs':T} {Ls:Lcs} {n N:Nat} {vs:List Value},Env Ls n N nw r->xs.ok 1=true->xs.nok->lk t.s=some (.fn k xs.len)->gd lk Ls xs= .ok xs'->isV X.DA (toF (.call t a xs) .nil) vs->St W0 M W (wsA X h (liv r)::L)->((rgo opE X.ds f (.al xs) r).bind λ vs s=>rgo opE X.ds f (.en t.s vs) s)≠ .out ->
  Calls prog 22 #[pt X.b,.agg vs.toArray] W (qe X W0 M L r.locals.length ((rgo opE X.ds f (.al xs) r).bind λ vs s=>rgo opE X.ds f (.en t.s vs) s))
 s:∀ {W0 W:World} {M:Nat->Prop} {L:List Asn} {h:Hw} {r:Rw} {x:T} {q:T×Lcs×Nat} {Ls:Lcs} {n N:Nat} {vs:List Value},Env Ls n N nw r->x.ok 2=true->x.nok->cst lk x Ls n= .ok q->q.2.2≤N->q.2.2≤24->isV X.DA (toF x .nil) vs->St W0 M W (wsA X h (liv r)::L)->rgo opE X.ds f (.s x) r≠ .out ->
  Calls prog 45 #[pt X.b,.agg vs.toArray] W (Gc X W0 M L r.locals.length (rgo opE X.ds f (.s x) r))
 w:∀ {W0 W:World} {M:Nat->Prop} {L:List Asn} {h:Hw} {r:Rw} {line:Int} {c c' x:T} {q:T×Lcs×Nat} {Ls:Lcs} {n N:Nat} {vs:List Value},Env Ls n N nw r->c.ok 0=true->c.nok->x.ok 2=true->x.nok->x.isBlk=true->gd lk Ls c= .ok c'->cst lk x Ls n= .ok q->q.2.2≤N->q.2.2≤24->isV X.DA (toF (.whileS line c x) .nil) vs->St W0 M W (wsA X h (liv r)::L)->rgo opE X.ds f (.w c x) r≠ .out ->
  Calls prog 81 #[pt X.b,.agg vs.toArray] W (Gc X W0 M L r.locals.length (rgo opE X.ds f (.w c x) r))
theorem Jk {A B:Asn} (H:St w0 M w (A::L++[B])):St w0 M w (A::B::L):=H.perm (.cons _ (List.perm_append_singleton B L))
theorem bg {A B:Asn} (H:St w0 M w (A::B::L)):St w0 M w (A::L):=(H.swap).tail
theorem ym {w:World}{e n c:Nat}{p:Option Addr}{l:List UInt32} (h:Sl w e 1 (.slice p n c) n (l.map vU)){i:Nat} (hi:i<l.length){φ:Nat->Nat->Prop} (hφ:∀ g o,w.cell? ⟨g,o+i,none⟩=some (vU (l.getD i 0))->φ g o):Sx.adr p φ:=by
 refine mc h (i:=i) (v:=vU (l.getD i 0)) ?_ hφ;rw[List.getElem?_map,List.getD_eq_getElem?_getD,List.getElem?_eq_getElem hi];rfl
theorem Jl [Inhabited G3o]{Ls:Lcs}{n N:Nat} (E:Env Ls n N nw r) (H:St w0 M W (wsA X h (liv r)::L)):Calls prog 74 #[pt X.b] W λ e w'=>∃ t,e= .returned (.bool t)/\((t=false/\r.steps=0/\St w0 M w' (wsA X h { liv r with over:=true }::L))∨(t=true/\r.steps≠0/\St w0 M w' (wsA X h (liv { r with steps:=r.steps - 1 })::L))):=by
 have hs:=E.s;refine(Jg (λ _=>⟨by show(0:Int)≤((r.steps:Nat):Int);omega,by show((r.steps:Nat):Int)≤20000;omega⟩) (H.nth 0 rfl)).mono ?_;rintro _ w' ⟨rfl,hp⟩;have H2:=H.upd 0 rfl hp;by_cases h0:r.steps=0
 ·have e:(liv r).step=({ liv r with over:=true },false):=by
   unfold Ws.step;rw[if_neg (by rw[yl];exact Bool.false_ne_true),if_pos (show(liv r).steps=0 by show((r.steps:Nat):Int)=0;omega)]
  rw[e] at H2 ⊢;exact⟨_,rfl,.inl ⟨rfl,h0,H2⟩⟩
 ·have e:(liv r).step=(liv { r with steps:=r.steps - 1 },true):=by
   unfold Ws.step;rw[if_neg (by rw[yl];exact Bool.false_ne_true),if_neg (show ¬ (liv r).steps=0 by show ¬ ((r.steps:Nat):Int)=0;omega)];show({ liv r with steps:=((r.steps:Nat):Int) - 1 },true)=(({ liv r with steps:=((r.steps - 1:Nat):Int) }:Ws),true);rw[show((r.steps:Nat):Int) - 1=((r.steps - 1:Nat):Int) by omega]
  rw[e] at H2 ⊢;exact⟨_,rfl,.inr ⟨rfl,h0,H2⟩⟩
theorem Ux [Inhabited G3o] (hs:S.stop=true) (H:St w0 M W (wsA X h S::L)):Calls prog 74 #[pt X.b] W λ e w'=>e= .returned (.bool false)/\St w0 M w' (wsA X h S::L):=by
 refine(Jg (λ h=>by rw[hs] at h;cases h) (H.nth 0 rfl)).mono ?_;rintro _ w' ⟨rfl,hp⟩;have H2:=H.upd 0 rfl hp
 have e:S.step=(S,false):=by unfold Ws.step;rw[if_pos hs]
 rw[e] at H2 ⊢;exact⟨rfl,H2⟩
theorem Jm [Inhabited G3o]{vs:List Value} (hs:S.stop=true) (H:St w0 M W (wsA X h S::L)):Calls prog 42 #[pt X.b,.agg vs.toArray] W λ e w'=>e= .returned (vU 0)/\St w0 M w' (wsA X h S::L):=by
 refine ajk X.b 0 _ (H.al λ k w2 H2=>?_);refine(Ux hs (Jk H2)).mono ?_;rintro _ w3 ⟨rfl,H3⟩;exact⟨_,rfl,cn ⟨rfl,bg H3⟩⟩
def afx (R:Rs Rw) (n0:Nat) (a:UInt32) (S:Ws):Prop:=(∃ v r',R= .ok v r'/\S=liv r'/\a=hd v)∨∃ k r',R= .stop k r'/\Dd S k r' n0
theorem kh {R:Rs Rw}{n0:Nat}{e:Ending}{w':World} (he:qe X w0 M L n0 R e w'):∃ a h' S',e= .returned (vU a)/\St w0 M w' (wsA X h' S'::L)/\afx R n0 a S':=by
 cases R with
 | ok v r'=>obtain⟨rfl,h',H⟩:=he;exact⟨_,h',_,rfl,H,.inl ⟨v,r',rfl,rfl,rfl⟩⟩
 | stop k r'=>obtain⟨u,rfl,h',S',H,D⟩:=he;exact⟨u,h',S',rfl,H,.inr ⟨k,r',rfl,D⟩⟩
 | out=>exact he.elim
theorem Uy {B:Asn}{R:Rs Rw}{n0:Nat}{e:Ending}{w':World} (he:qe X w0 M (B::L) n0 R e w'):qe X w0 M L n0 R e w':=by
 cases R with
 | ok v r'=>obtain⟨rfl,h',H⟩:=he;exact⟨rfl,h',bg H⟩
 | stop k r'=>obtain⟨u,rfl,h',S',H,D⟩:=he;exact⟨u,rfl,h',S',bg H,D⟩
 | out=>exact he.elim
theorem Bg {R:Rs Rw}{n0:Nat}{a u:UInt32}{S':Ws}{h':Hw}{k:List UInt32->Rw->Rs Rw} (hs:afx R n0 a S') (H:St w0 M w (wsA X h' S'::L)) (hk:∀ v r',a=hd v->k v r'= .ok [u] r'):qe X w0 M L n0 (R.bind k) (.returned (vU u)) w:=by
 rcases hs with ⟨v,r',rfl,rfl,ha⟩ | ⟨j,r',rfl,D⟩
 ·rw[ez,hk v r' ha];exact⟨rfl,h',H⟩
 ·exact⟨u,rfl,h',S',H,D⟩
theorem Dp {k:Rw->Rs Rw} (h:r.steps=0):r.step k= .stop 0 r:=by unfold Rw.step;rw[if_pos h]
theorem ce {k:Rw->Rs Rw} (h:r.steps≠0):r.step k=k { r with steps:=r.steps - 1 }:=by unfold Rw.step;rw[if_neg h]
theorem Uz:Dd { liv r with over:=true } 0 r r.locals.length:=⟨rfl,rfl,λ _=>⟨rfl,rfl⟩,λ h=>absurd rfl h,Nat.le_refl _⟩
variable {W w0 w:World}{M:Nat->Prop}{L:List Asn}{X:Xw}{h:Hw}{S:Ws}{F:Ft}{lk:Lk}{nw f:Nat}{r:Rw}
theorem Yy {Ls:Lcs}{n N f k:Nat}{x x':T}{r1:Rw} (G:Gx X F lk nw) (E:Env Ls n N nw r) (hx:gd lk Ls x= .ok x') (hr:rgo opE X.ds f (.e x) r= .stop k r1):r1.words.length=nw:=by
 obtain⟨s,hrel⟩:=E.g;have hsim:=(abw (E:=opE) G.s f).e x x' Ls N s r hx (E.sc.mono E.nN) hrel;rw[hr] at hsim
 cases hg:go opE F f (.e x') s with
 | ok u s1=>rw[hg] at hsim;exact hsim.elim
 | stop j s1 =>
  rw[hg] at hsim;have hf:=bs (E:=opE) (F:=F) f (.e x') s;rw[hg] at hf;rw[hsim.2.1,hf.1,<- hrel.1.1];exact E.w
 | out=>rw[hg] at hsim;exact hsim.elim
theorem Ge (G:Gx X F lk nw){s:ByteArray}{wd z:Int} (hl:lk s=some (.var wd z)):bl X.ds s+max 1 z.toNat≤nw/\0≤z/\Bt X.ds s=z/\(z≠0->∃ tk tn w2,sq X.ds s=some (.var tk tn w2 z)):=by
 obtain⟨h1,h2,h3⟩:=G.s.v _ _ _ hl;obtain⟨g1,g2,g3,g4⟩:=G.f.v _ _ _ hl;refine⟨by omega,g2,h3,λ hz=>?_⟩;unfold Bt at h3
 cases hf:sq X.ds s with
 | none=>rw[hf] at h3;have h3:(0:Int)=z:=h3;omega
 | some d =>
  rw[hf] at h3
  cases d with
  | var tk tn w2 z2=>have h3:z2=z:=h3;subst h3;exact⟨tk,tn,w2,rfl⟩
  | fn=>have h3:(0:Int)=z:=h3;omega
theorem Bh {k n0 n1:Nat}{r1:Rw} (D:Dd S k r1 n0) (hn:n1≤n0):Dd S k r1 n1:=⟨D.w,D.o,D.z,D.p,Nat.le_trans hn D.l⟩
theorem ajc (a:UInt32):IntKind.wrap .u32 (0 - (a.toNat:Int))=(((0 - a:UInt32)).toNat:Int):=afe a
set_option maxHeartbeats 2000000 in
theorem adk [Inhabited G3o] (G:Gx X F lk nw) (I:Wr X F lk nw f){W0 W:World}{M:Nat->Prop}{L:List Asn}{h:Hw}{r:Rw}{x x':T}{Ls:Lcs}{n N:Nat}{vs:List Value} (E:Env Ls n N nw r) (ho:x.ok 0=true) (hn:x.nok) (hx:gd lk Ls x= .ok x') (hV:isV X.DA (toF x .nil) vs) (H:St W0 M W (wsA X h (liv r)::L)) (hne:rgo opE X.ds (f+1) (.e x) r≠ .out) :
  Calls prog 42 #[pt X.b,.agg vs.toArray] W (qe X W0 M L r.locals.length (rgo opE X.ds (f+1) (.e x) r)):=by
 obtain⟨R0,hR⟩:∃ R,R=rgo opE X.ds (f+1) (.e x) r:=⟨_,rfl⟩;rw[<- hR] at hne ⊢;refine ajk X.b 0 _ (H.al λ k w2 H2=>?_);refine(Jl E (Jk H2)).mono ?_;rintro _ w3 ⟨t,rfl,hst⟩;refine⟨t,rfl,?_⟩;rcases hst with ⟨rfl,h0,H3⟩ | ⟨rfl,h0,H3⟩
 ·refine cn ?_
  have:R0= .stop 0 r:=by
   rw[hR];unfold rgo;exact Dp h0
  rw[this];exact⟨0,rfl,h,_,bg H3,Uz⟩
 refine be ?_;have E1:=E.step;have hlen0:r.locals.length=({ r with steps:=r.steps - 1 }:Rw).locals.length:=rfl;generalize hr1:({ r with steps:=r.steps - 1 }:Rw)=r1 at *;rw[hlen0];clear H2 H
 cases x with
 | num v l =>
  obtain⟨q,c,us1,q2,c2,ws, -,rfl,rfl, -, -⟩:=hV;replace hR:R0= .ok [UInt32.ofNat v.toNat] r1:=by rw[hR,abt,ce h0,hr1]
  refine⟨_,H3.ld 1 rfl (i:=0) rfl,Pw rfl ⟨v,H3.ld 1 rfl (i:=3) rfl,?_⟩⟩;rw[hR];refine⟨?_,h,bg H3⟩;have h1:=hn.1;have h2:=hn.2;have:=Ik (z:=v) ⟨h1,h2⟩;show Ending.returned (.int .u32 v)= .returned (vU (uI v));rw[this]
 | name t sl wd =>
  obtain⟨q,c,us1,q2,c2,ws, -,rfl,rfl, -, -⟩:=hV;replace hR:R0= .ok [r1.get X.ds t.s] r1:=by rw[hR,Xt,ce h0,hr1]
  refine⟨_,H3.ld 1 rfl (i:=0) rfl,jk (by decide) (Pw rfl ⟨_,H3.ld 1 rfl (i:=1) rfl,?_⟩)⟩;have hnm:=E1.names;have hl:=E1.l.1;have hl2:=E1.l.2;refine(Jj (S:=liv r1) E1.nodup (by show r1.locals.length≤100;omega) (H3.nth 0 rfl)).mono ?_;rintro _ _ ⟨rfl,rfl⟩;rw[hR];refine⟨_,rfl,?_⟩;obtain⟨p,hp,hx⟩:=C.bind_ok hx
  cases hi:Hx r1.locals t.s with
  | some i =>
   have es:Bc (liv r1).locals t.s=((i:Nat):Int):=by unfold Bc;rw[show(liv r1).locals=r1.locals from rfl,hi]
   rw[es];have hi2:i<r1.locals.length:=(List.findIdx?_eq_some_iff_getElem.1 hi).1;obtain⟨p2,hp2⟩:∃ p,r1.locals[i]?=some p:=⟨_,List.getElem?_eq_getElem hi2⟩;have H4:=ax H3;refine Sx.so (λ _=>?_) (λ h=>by have:=df h;omega);refine⟨_,_,_,H4.ld 0 rfl (i:=7) rfl,⟨by omega,by show((i:Nat):Int)<((r1.locals.length:Nat):Int);omega⟩,?_⟩;obtain⟨-,g,o,ep,hc⟩:=Eg (H4.nth 2 rfl) (λ x _=>Lu x) (show(liv r1).locals[i]?=some p2 from hp2) (by decide);rw[ep];refine adr_some ⟨((p2.2.toNat:Nat):Int),?_,?_⟩
   ·rw[Int.toNat_natCast];exact hc 1 (vU p2.2) rfl
   ·have eg:r1.get X.ds t.s=p2.2:=by unfold Rw.get;rw[hi];simp only[hp2];rfl
    rw[eg];exact⟨rfl,h,bg H3⟩
  | none =>
   have es:Bc (liv r1).locals t.s= -1:=by unfold Bc;rw[show(liv r1).locals=r1.locals from rfl,hi]
   rw[es];refine Sx.so (λ h=>by simp at h) (λ _=>?_);refine⟨_,H3.ld 1 rfl (i:=1) rfl,?_⟩
   have hvar:∃ wd z,lk t.s=some (.var wd z):=by
    unfold sj at hp;split at hp
    ·rename_i h1;rcases nq (Ls:=Ls) (nm:=t.s) [] with ⟨a, -⟩ | ⟨j,q,hq,e2, -, -⟩
     ·omega
     ·exfalso
      have hmem:t.s ∈ r1.locals.map Prod.fst:=by rw[hnm.1,<- e2];exact List.mem_map.2 ⟨q,List.mem_of_getElem? hq,rfl⟩
      obtain⟨p3,hp3,e3⟩:=List.mem_map.1 hmem;have hi':r1.locals.findIdx? (λ p=>decide (p.1=t.s))=none:=hi;rw[List.findIdx?_eq_none_iff] at hi';have:=hi' p3 hp3;simp [e3] at this
    ·split at hp
     ·rename_i wd z hz;exact⟨wd,z,hz⟩
     ·cases hp
   obtain⟨wd2,z2,hvz⟩:=hvar;obtain⟨g1,g2,g3, -⟩:=Ge G hvz;have hnw:=G.n;refine(wu G.x (λ d hd=>(G.d d hd).1) (by omega) (H3.nth 0 rfl)).mono ?_;rintro _ _ ⟨rfl,rfl⟩;have H4:=ax H3;have hwl:r1.words.length=nw:=E1.w;refine⟨_,rfl,_,_,_,H4.ld 0 rfl (i:=1) rfl,⟨by omega,by show((bl X.ds t.s:Nat):Int)<((r1.words.length:Nat):Int);omega⟩,?_⟩;refine ym (l:=r1.words) (i:=bl X.ds t.s) (H4.nth 1 rfl) (by omega) λ g o hc=>⟨((((r1.words.getD (bl X.ds t.s) 0).toNat:Nat):Int)),?_,?_⟩
   ·rw[ix1];exact hc
   ·have eg:r1.get X.ds t.s=r1.words.getD (bl X.ds t.s) 0:=by unfold Rw.get;rw[hi]
    rw[eg];exact⟨rfl,h,bg H3⟩
 | index t wd z p =>
  obtain⟨q,c,us1,q2,c2,ws,hk,rfl,rfl,hks, -⟩:=hV
  have ho:p.ok 0=true:=by simpa [T.ok] using ho
  obtain⟨a,ha,hx⟩:=C.bind_ok hx;obtain⟨p',hp,hx⟩:=C.bind_ok hx;obtain⟨vs1,ws1,rfl,hv6,hv,hw1,hone⟩:=dd (.inl ho) hk;replace hR:=hR.trans (rgo_index.trans (ce h0));rw[hr1] at hR;have hsub:rgo opE X.ds f (.e p) r1≠ .out:=λ e=>hne (by rw[hR,e];rfl);refine⟨_,H3.ld 1 rfl (i:=0) rfl,jk (by decide) (jk (by decide) (Pw rfl ?_))⟩
  have hl1:(toF p .nil).len=1:=by obtain⟨k1,s1,ln1,v1,ks1,ns1,e1⟩:=dk p (.inl ho);rw[e1];rfl
  have H4:=ax H3;have hsl:=hks _ (H4.nth 3 rfl);refine⟨_,_,_,H3.ld 1 rfl (i:=4) rfl,⟨by decide,by rw[hl1];decide⟩,?_⟩;refine mj (pre:=[]) (j:=0) (vs:=vs1) (post:=ws1) hsl rfl rfl hv6 λ g o hc=>⟨_,by simpa using hv6,hc,?_⟩;refine(I.e E1 ho hn hp hv H3 hsub).mono ?_;intro e w4 he;obtain⟨i,h',S',rfl,H5,hS⟩:=kh he;refine⟨_,rfl,H5.dr λ w5 H6=>⟨_,H6.ld 1 rfl (i:=1) rfl,?_⟩⟩;have H7:=ax H6;refine⟨_,_,_,H7.ld 0 rfl (i:=1) rfl,?_⟩;unfold Km at ha;split at ha
  ·rename_i wd2 z2 hz2;split at ha
   ·cases ha
   rename_i hz0;obtain⟨g1,g2,g3,g4⟩:=Ge G hz2;obtain⟨tk,tn,w7,hfd⟩:=g4 hz0;have hnw:=G.n;refine(Nt (i:=i) G hfd (by omega) H6).mono ?_;rintro _ w6 ⟨rfl,H8⟩;refine⟨_,rfl,?_⟩;have H9:=ax H8
   have hw9:(Bf S' z2 i).words=S'.words:=by unfold Bf;split <;> rfl
   have hS'w:S'.words.length=nw:=by
    rcases hS with ⟨v,r2,h1,rfl, -⟩ | ⟨j,r2,h1,D⟩
    ·exact(Lw G E1 hp h1).w
    ·rw[D.w];exact Yy G E1 hp h1
   have l9:w6.cell? ⟨X.b,0+1,none⟩=some (.slice X.pw S'.words.length X.cw):=by rw[<- hw9];exact H9.ld 0 rfl (i:=1) rfl
   have n9:Sl w6 32 1 (.slice X.pw S'.words.length X.cw) S'.words.length (S'.words.map vU):=by rw[<- hw9];exact H9.nth 1 rfl
   refine⟨⟨_,_,_,l9,rfl⟩,?_⟩
   have fin:∀ (j:Nat),j<nw->qe X W0 M L r1.locals.length R0 (.returned (vU (S'.words.getD j 0))) w6->V.ixs ((j:Nat):Int) S'.words.length X.pw λ k18 k19=>V.ldI .u32 w6 k18 (k19+Int.toNat ((j:Nat):Int) * 1) λ z8=>qe X W0 M L r1.locals.length R0 (.returned (.int .u32 z8)) w6:=by
    intro j hj hc;refine⟨⟨by omega,by omega⟩,ym (l:=S'.words) (i:=j) n9 (by omega) λ g o hcell=>⟨(((S'.words.getD j 0).toNat:Nat):Int),?_,hc⟩⟩;rw[ix1];exact hcell
   rcases hS with ⟨v,r2,h1,rfl,rfl⟩ | ⟨j,r2,h1,D⟩
   ·rw[h1,ez] at hR
    try dsimp only at hR
    rw[g3] at hR;have E2:=Lw G E1 hp h1;by_cases hzi:z2≤(((hd v).toNat:Nat):Int)
    ·have ei:Bf (liv r2) z2 (hd v)={ liv r2 with fault:=1 }:=by unfold Bf;rw[if_pos ⟨rfl,hzi⟩]
     rw[ei] at H8 ⊢;rw[if_pos hzi] at hR;refine fin _ (by omega) ?_;rw[hR];exact⟨_,rfl,h',_,bg H8,⟨rfl,rfl,λ e=>absurd e (by decide),λ _=>⟨rfl,rfl⟩,by show r1.locals.length≤r2.locals.length;rw[E1.names.2,E2.names.2];exact Nat.le_refl _⟩⟩
    ·have ei:Bf (liv r2) z2 (hd v)=liv r2:=by unfold Bf;rw[if_neg (λ e=>hzi e.2)]
     rw[ei] at H8 ⊢;rw[if_neg hzi] at hR;have:(if (liv r2).stop=true then ((bl X.ds t.s:Nat):Int) else ((bl X.ds t.s+(hd v).toNat:Nat):Int))=((bl X.ds t.s+(hd v).toNat:Nat):Int):=if_neg (by rw[yl];exact Bool.false_ne_true);rw[this];refine fin _ (by omega) ?_;rw[hR];exact⟨rfl,h',bg H8⟩
   ·rw[h1] at hR
    have ei:Bf S' z2 i=S':=by unfold Bf;rw[if_neg (λ e=>by rw[D.stop] at e;cases e.1)]
    rw[ei] at H8 ⊢;rw[if_pos D.stop];refine fin _ (by omega) ?_;rw[hR];exact⟨_,rfl,h',S',bg H8,D⟩
  ·cases ha
 | call t a xs =>
  have ho:xs.ok 1=true:=by simpa [T.ok] using ho
  replace hR:=hR.trans (rgo_call.trans (ce h0));rw[hr1] at hR;have hV':=hV;obtain⟨q,c,us1,q2,c2,ws,hk,rfl,rfl,hks, -⟩:=hV;refine⟨_,H3.ld 1 rfl (i:=0) rfl,jk (by decide) (jk (by decide) (jk (by decide) (Pw rfl ?_)))⟩;refine⟨_,rfl,H3.cells 1 rfl,?_⟩;rw[gd] at hx;split at hx
  ·rename_i k0 np hlk;split at hx
   ·cases hx
   split at hx
   ·cases hx
   rename_i hnp;obtain⟨xs',hxs,hx⟩:=C.bind_ok hx;obtain rfl:np=xs.len:=by omega
   refine(I.c E1 ho hn hlk hxs hV' H3 (by rw[<- hR];exact hne)).mono ?_;intro e w4 he;rw[<- hR] at he;obtain⟨u,h',S',rfl,H5,hS⟩:=kh he;exact⟨_,rfl,Uy he⟩
  ·cases hx
 | un t x =>
  have ho:x.ok 0=true:=by simpa [T.ok] using ho
  replace hR:=hR.trans (rgo_un.trans (ce h0));rw[hr1] at hR;have hsub:rgo opE X.ds f (.e x) r1≠ .out:=λ e=>hne (by rw[hR,e];rfl);obtain⟨q,c,us1,q2,c2,ws,hk,rfl,rfl,hks, -⟩:=hV;obtain⟨p',hp,hx⟩:=C.bind_ok hx;obtain⟨vs1,ws1,rfl,hv6,hv,hw1,hone⟩:=dd (.inl ho) hk;refine⟨_,H3.ld 1 rfl (i:=0) rfl,jk (by decide) (jk (by decide) (jk (by decide) (jk (by decide) (Pw rfl ?_))))⟩
  have hl1:(toF x .nil).len=1:=by obtain⟨k1,s1,ln1,v1,ks1,ns1,e1⟩:=dk x (.inl ho);rw[e1];rfl
  have H4:=ax H3;have hsl:=hks _ (H4.nth 3 rfl);refine⟨_,_,_,H3.ld 1 rfl (i:=4) rfl,⟨by decide,by rw[hl1];decide⟩,?_⟩;refine mj (pre:=[]) (j:=0) (vs:=vs1) (post:=ws1) hsl rfl rfl hv6 λ g o hc=>⟨_,by simpa using hv6,hc,?_⟩;refine(I.e E1 ho hn hp hv H3 hsub).mono ?_;intro e w4 he;obtain⟨i,h',S',rfl,H5,hS⟩:=kh he
  have fin:∀ (u:UInt32),unV t.s i=u->qe X W0 M L r1.locals.length R0 (.returned (vU u)) w4:=by
   intro u hu;rw[hR];exact Bg hS (bg H5) λ v r' hv=>by rw[<- hv,hu]
  refine⟨_,rfl,_,H5.ld 1 rfl (i:=1) rfl,aq (λ h1=>?_) (λ h1=>aq (λ h2=>?_) (λ h2=>?_))⟩
  ·rw[ajc];exact fin _ (by unfold unV;rw[if_pos (show t.s=pn from h1)])
  ·rw[u_z];refine(se _ w4).mono ?_;rintro _ _ ⟨rfl,rfl⟩;exact⟨_,rfl,fin _ (by unfold unV;rw[if_neg (show ¬ t.s=pn from h1),if_pos (show t.s=Vy from h2)])⟩
  ·rw[aff];exact fin _ (by unfold unV;rw[if_neg (show ¬ t.s=pn from h1),if_neg (show ¬ t.s=Vy from h2)])
 | bin t x y =>
  have ho:x.ok 0=true/\y.ok 0=true:=by simpa [T.ok] using ho
  replace hR:=hR.trans (rgo_bin.trans (ce h0));rw[hr1] at hR;have hsub:rgo opE X.ds f (.e x) r1≠ .out:=λ e=>hne (by rw[hR,e];rfl);obtain⟨q,c,us1,q2,c2,ws,hk,rfl,rfl,hks, -⟩:=hV;obtain⟨p',hp,hx⟩:=C.bind_ok hx;obtain⟨y',hy,hx⟩:=C.bind_ok hx;obtain⟨vs1,ws1,rfl,hv6,hv,hw1,hone⟩:=dd (.inl ho.1) hk;obtain⟨vs2,ws2,rfl,hv62,hv2,hw2,hone2⟩:=dd (.inl ho.2) hw1;refine⟨_,H3.ld 1 rfl (i:=0) rfl,jk (by decide) (jk (by decide) (jk (by decide) (jk (by decide) (jk (by decide) ?_))))⟩
  have hl1:(toF x (toF y .nil)).len=2:=by
   obtain⟨k1,s1,ln1,v1,ks1,ns1,e1⟩:=dk x (.inl ho.1);obtain⟨k2,s2,ln2,v2,ks2,ns2,e2⟩:=dk y (.inl ho.2);rw[e1,e2];rfl
  have H4:=ax H3;have hsl:=hks _ (H4.nth 3 rfl);refine⟨_,_,_,H3.ld 1 rfl (i:=4) rfl,⟨by decide,by rw[hl1];decide⟩,?_⟩;refine mj (pre:=[]) (j:=0) (vs:=vs1) (post:=vs2++ws2) hsl rfl rfl hv6 λ g o hc=>⟨_,by simpa using hv6,hc,?_⟩;refine(I.e E1 ho.1 hn.1 hp hv H3 hsub).mono ?_;intro e w4 he;obtain⟨i,h',S',rfl,H5,hS⟩:=kh he;refine⟨_,rfl,?_⟩;have hnm:=H5.ld 1 rfl (i:=1) rfl
  have early:∀ (u:UInt32),(∀ v r',i=hd v->(if t.s=jn/\hd v=0 then Rs.ok [0] r' else if t.s=vz/\hd v≠0 then .ok [1] r' else (rgo opE X.ds f (.e y) r').bind λ u s=>.ok [opE t.s (hd v) (hd u)] s)= .ok [u] r')->qe X W0 M L r1.locals.length R0 (.returned (vU u)) w4:=by
   intro u hu;rw[hR];exact Bg hS (bg H5) λ v r' hv=>hu v r' hv
  have ev2:(¬ (t.s=jn/\i=0))->(¬ (t.s=vz/\i≠0))->V.ldL w4 k (0+4) λ p8 k28 k29=>V.ixs 1 k28 p8 λ k30 k31=>V.ldN w4 k30 (k31+6) 6 λ vs5=>V.rI prog .u32 42 #[pt X.b,.agg vs5] w4 λ z13 W13=>V.ldS W13 k (0+1) λ s8=>Sx.split (ByteArray.toList s8==ByteArray.toList ⟨#[38,38]⟩)
    (V.rI prog .u32 78 #[.bool (z13 !=0)] W13 λ z14 W14=>qe X W0 M L r1.locals.length R0 (.returned (.int .u32 z14)) W14)
    (V.ldS W13 k (0+1) λ s9=>Sx.split (ByteArray.toList s9==ByteArray.toList ⟨#[124,124]⟩)
    (V.rI prog .u32 78 #[.bool (z13 !=0)] W13 λ z14 W14=>qe X W0 M L r1.locals.length R0 (.returned (.int .u32 z14)) W14)
    (V.ldS W13 k (0+1) λ s10=>V.rI prog .u32 79 #[.string s10,.int .u32 ((i.toNat:Nat):Int),.int .u32 z13] W13 λ z16 W16=>qe X W0 M L r1.locals.length R0 (.returned (.int .u32 z16)) W16)):=by
   intro hA hO;have H6:=ax H5;have hsl:=hks _ (H6.nth 3 rfl);refine⟨_,_,_,H5.ld 1 rfl (i:=4) rfl,⟨by decide,by rw[hl1];decide⟩,?_⟩;refine mj (pre:=vs1) (j:=1) (vs:=vs2) (post:=ws2) hsl rfl (by rw[hv6]) hv62 λ g o hc=>⟨_,by simpa using hv62,hc,?_⟩
   have sec:Calls prog 42 #[pt X.b,.agg vs2.toArray] w4 λ e w'=>∃ b h'' S'',e= .returned (vU b)/\St W0 M w' (wsA X h'' S''::blk k (ae sm t.s t.line 0 (.slice q (toF x (toF y .nil)).len c) (.slice q2 0 c2)).toArray 52::L)/\∀ u,opE t.s i b=u->qe X W0 M L r1.locals.length R0 (.returned (vU u)) w':=by
    rcases hS with ⟨v,r2,h1,rfl,rfl⟩ | ⟨j,r2,h1,D⟩
    ·rw[h1,ez] at hR
     try dsimp only at hR
     rw[if_neg hA,if_neg hO] at hR;have E2:=Lw G E1 hp h1;refine(I.e E2 ho.2 hn.2.1 hy hv2 H5 (λ e=>hne (by rw[hR,e];rfl))).mono ?_;intro e w5 he2;obtain⟨b,h'',S'',rfl,H7,hS2⟩:=kh he2;refine⟨b,h'',S'',rfl,H7,λ u hu=>?_⟩;rw[hR,E1.names.2,<- E2.names.2];exact Bg hS2 (bg H7) λ v2 r' hv=>by rw[<- hv,hu]
    ·rw[h1] at hR;refine(Jm D.stop H5).mono ?_;rintro _ w5 ⟨rfl,H7⟩;refine⟨0,h',S',rfl,H7,λ u hu=>?_⟩;rw[hR];exact⟨u,rfl,h',S',bg H7,D⟩
   refine sec.mono ?_;rintro _ w5 ⟨b,h'',S'',rfl,H7,fin⟩;refine⟨_,rfl,_,H7.ld 1 rfl (i:=1) rfl,aq (λ g1=>?_) (λ g1=>⟨_,H7.ld 1 rfl (i:=1) rfl,aq (λ g2=>?_) (λ g2=>?_)⟩)⟩
   ·rw[Qh];refine(se _ w5).mono ?_;rintro _ _ ⟨rfl,rfl⟩;exact⟨_,rfl,fin _ (by unfold opE;rw[if_pos (show t.s=ofL [38,38] from g1)])⟩
   ·rw[Qh];refine(se _ w5).mono ?_;rintro _ _ ⟨rfl,rfl⟩;exact⟨_,rfl,fin _ (by unfold opE;rw[if_neg (show ¬ t.s=ofL [38,38] from g1),if_pos (show t.s=ofL [124,124] from g2)])⟩
   ·refine⟨_,H7.ld 1 rfl (i:=1) rfl,?_⟩;refine(Yx (s:=t.s) hn.2.2 g1 g2 i b w5).mono ?_;rintro _ _ ⟨rfl,rfl⟩;exact⟨_,rfl,fin _ rfl⟩
  refine⟨_,hnm,aq (λ g1=>?_) (λ g1=>⟨_,hnm,aq (λ g2=>?_) (λ g2=>?_)⟩)⟩
  ·have g1:t.s=jn:=g1
   have hno:¬ (t.s=vz/\i≠0):=λ e=>by rw[g1] at e;exact absurd e.1 (by decide)
   rw[u_z];refine Sx.so (λ hz=>early 0 λ v r' hv=>?_) (λ hz=>⟨_,hnm,jk (by rw[g1];decide) (ev2 (λ e=>by rw[e.2] at hz;cases hz) hno)⟩)
   have hz:i=0:=by simpa using hz
   rw[if_pos ⟨g1,by rw[<- hv,hz]⟩]
  ·have g2:t.s=vz:=g2;rw[Qh];refine Sx.so (λ hz=>early 1 λ v r' hv=>?_) (λ hz=>ev2 (λ e=>g1 e.1) (λ e=>e.2 (by simpa using hz)))
   have hz:i≠0:=by simpa using hz
   rw[if_neg (λ e=>g1 e.1),if_pos ⟨g2,by rw[<- hv];exact hz⟩]
  ·exact ev2 (λ e=>g1 e.1) (λ e=>g2 e.1)
 | _=>simp [T.ok] at ho
variable {W w0 w:World}{M:Nat->Prop}{L:List Asn}{X:Xw}{h:Hw}{S:Ws}{F:Ft}{lk:Lk}{nw f:Nat}{r:Rw}
theorem Va {A B C D E:Asn}:(A::B::C::D::E::L).Perm (A::B::E::D::C::L) :=
 .cons _ (.cons _ (((List.Perm.swap D C (E::L)).trans ((List.Perm.swap E C L).cons D)).trans (List.Perm.swap E D (C::L))))
theorem Yz {A B C D E:Asn}:(A::B::C::D::E::L).Perm (C::A::B::E::D::L) :=
 ((List.Perm.swap C B (D::E::L)).cons A).trans ((List.Perm.swap C A (B::D::E::L)).trans (.cons _ (.cons _ (.cons _ (List.Perm.swap E D L)))))
def afy (S:Ws) (r:Rw) (z:Int):Ws:={ S with value:=0,back:=false,room:=IntKind.wrap .i64 (S.room+z),locals:=r.locals }
theorem Za {ps:List ByteArray}{done:List UInt32}{v:UInt32}{p:ByteArray} (h:ps[done.length]?=some p):ps.zip (done++[v])=ps.zip done++[(p,v)]:=by
 induction done generalizing ps with
 | nil =>
  cases ps with
  | nil=>simp at h
  | cons a ps=>simp at h;subst h;simp
 | cons d done ih =>
  cases ps with
  | nil=>simp at h
  | cons a ps=>simpa using ih (by simpa using h)
theorem Zb (G:Gx X F lk nw){Ls:Lcs}{n0 N:Nat}{r:Rw}{done:List UInt32}{tk:Tok}{ps:List ByteArray}{b:T}{n:Nat}{p:Lcs×Nat}{q:T×Lcs×Nat} (E:Env Ls n0 N nw r)
  (hc:pz lk tk.line ps [] 0= .ok p) (hs:cst lk b p.1 p.2= .ok q) (hn:q.2.2=n) (hn24:n≤24) (hd:done.length=ps.length) (z:Nat):Env p.1 p.2 n nw { r with room:=r.room - z,locals:=ps.zip done }:=by
 obtain⟨p1,p2,p3⟩:=uw ps tk.line [] 0 p ⟨List.nodup_nil,List.nodup_nil,λ p hp=>by cases hp⟩ hc;obtain⟨c1,c2,c3, -⟩:=gr b _ _ q p1 hs;obtain⟨s,⟨e1,e2,e3,e4,e5⟩,e6⟩:=E.g;refine⟨p1,by omega,⟨by rw[p3];simp;omega,by omega⟩,⟨{ s with room:=s.room - z,slots:=done++List.replicate (n - done.length) 0 },⟨e1,e2,e3,by simp only;rw[e4],?_⟩,?_⟩,E.w,E.s,E.o,by have:=E.r;show r.room - z≤512;omega⟩
 ·show ps.zip done=dy p.1 (done++List.replicate (n - done.length) 0);rw[p3,List.nil_append];exact(Mz hd).symm
 ·show(done++List.replicate (n - done.length) 0).length=n;rw[List.length_append,List.length_replicate];omega
theorem afz (G:Gx X F lk nw){Ls:Lcs}{n N f:Nat}{x:T}{q:T×Lcs×Nat}{v:List UInt32}{r1:Rw} (E:Env Ls n N nw r) (hx:x.nok) (hc:cst lk x Ls n= .ok q) (hN:q.2.2≤N) (hr:rgo opE X.ds f (.s x) r= .ok v r1):r1.room=r.room:=by
 obtain⟨s,hrel⟩:=E.g;have hsim:=(abw (E:=opE) G.s f).s x q Ls n N s r hx hc E.sc hN hrel;rw[hr] at hsim
 cases hg:go opE F f (.s q.1) s with
 | ok u s1 =>
  rw[hg] at hsim;obtain⟨-, -,L', -,h1⟩:=hsim;have hf:=gk hg;rw[h1.1.2.2.2.1,hf.2.2.2.1,<- hrel.1.2.2.2.1]
 | stop k s1=>rw[hg] at hsim;exact hsim.elim
 | out=>rw[hg] at hsim;exact hsim.elim
theorem Zc {rest:T} (ho:rest.ok 1=true) (hl:rest.len=0):rest= .nil:=by
 cases rest with
 | nil=>rfl
 | cons x xs=>simp [T.len] at hl
 | _=>simp [T.ok] at ho
theorem Vb {rest:T} (ho:rest.ok 1=true) (hl:0<rest.len):∃ x xs,rest= .cons x xs/\x.ok 0=true/\xs.ok 1=true:=by
 cases rest with
 | nil=>simp [T.len] at hl
 | cons x xs=>exact⟨x,xs,rfl,by simpa [T.ok] using ho⟩
 | _=>simp [T.ok] at ho
def Arg (X:Xw) (lk:Lk) (nw f:Nat) (Ls:Lcs) (n N:Nat) (r:Rw) (xs:T) (done:List UInt32) (rest:T) (S':Ws):Prop :=
 (∃ rj fj,S'=liv rj/\fj≤f/\Env Ls n N nw rj/\rj.locals.length=r.locals.length/\rgo opE X.ds f (.al xs) r=(rgo opE X.ds fj (.al rest) rj).bind λ us s=>.ok (done++us) s)∨∃ k r',rgo opE X.ds f (.al xs) r= .stop k r'/\Dd S' k r' r.locals.length
theorem Zd [Inhabited G3o] (G:Gx X F lk nw) (I:∀ g,g<f->Wr X F lk nw g){W0 W:World}{M:Nat->Prop}{L:List Asn}{h:Hw}{Ls:Lcs}{n N:Nat}{r:Rw}{xs x xs2 y':T}{done:List UInt32}{S':Ws}{vs:List Value}
  (hA:Arg X lk nw f Ls n N r xs done (.cons x xs2) S') (hne:rgo opE X.ds f (.al xs) r≠ .out) (ho:x.ok 0=true) (hn:x.nok) (hx:gd lk Ls x= .ok y') (hV:isV X.DA (toF x .nil) vs) (H:St W0 M W (wsA X h S'::L)) :
  Calls prog 42 #[pt X.b,.agg vs.toArray] W λ e w'=>∃ a h'' S'',e= .returned (vU a)/\St W0 M w' (wsA X h'' S''::L)/\Arg X lk nw f Ls n N r xs (done++[a]) xs2 S'':=by
 rcases hA with ⟨rj,fj,rfl,hf,E,hl,hR⟩ | ⟨k,r',hR,D⟩
 ·cases fj with
  | zero=>exact absurd (by rw[hR];rfl) hne
  | succ g =>
   rw[aes] at hR;have hsub:rgo opE X.ds g (.e x) rj≠ .out:=λ e=>hne (by rw[hR,e];rfl);refine((I g (by omega)).e E ho hn hx hV H hsub).mono ?_;intro e w' he;obtain⟨a,h'',S'',rfl,H2,hS⟩:=kh he;refine⟨a,h'',S'',rfl,H2,?_⟩;rcases hS with ⟨v,r2,h1,rfl,rfl⟩ | ⟨k,r2,h1,D⟩
   ·have E2:=Lw G E hx h1;refine .inl ⟨r2,g,rfl,by omega,E2,by rw[E2.names.2,<- E.names.2,hl],?_⟩;rw[hR,h1,ez]
    cases rgo opE X.ds g (.al xs2) r2 with
    | ok u s=>simp [Rs.bind]
    | stop=>rfl
    | out=>rfl
   ·exact .inr ⟨k,r2,by rw[hR,h1];rfl,Bh D (by omega)⟩
 ·refine(Jm D.stop H).mono ?_;rintro _ w' ⟨rfl,H2⟩;exact⟨0,h,S',rfl,H2,.inr ⟨k,r',hR,D⟩⟩
variable {W w0 w:World}{M:Nat->Prop}{L:List Asn}{X:Xw}{h:Hw}{S:Ws}{F:Ft}{lk:Lk}{nw f:Nat}{r:Rw}
def lsl (p:Option Addr) (c:Nat) (l:List (ByteArray×UInt32)):Asn:=sl 120 2 (.slice p l.length c) l.length (l.flatMap loC)
theorem Ze {A B C D E:Asn}{L:List Asn}:(A::B::C::D::L++[E])[L.length+4]?=some E:=by simp
set_option maxHeartbeats 4000000 in
theorem adl [Inhabited G3o] (G:Gx X F lk nw) (I:∀ g,g<f->Wr X F lk nw g){W0 W:World}{M:Nat->Prop}{L:List Asn}{h:Hw}{r:Rw}{t:Tok}{a:Option Addr}{k0:Nat}{xs xs':T}{Ls:Lcs}{n N:Nat}{vs:List Value} (E:Env Ls n N nw r) (ho:xs.ok 1=true) (hn:xs.nok) (hlk:lk t.s=some (.fn k0 xs.len)) (hx:gd lk Ls xs= .ok xs') (hV:isV X.DA (toF (.call t a xs) .nil) vs) (H:St W0 M W (wsA X h (liv r)::L)) (hne:((rgo opE X.ds f (.al xs) r).bind λ vs s=>rgo opE X.ds f (.en t.s vs) s)≠ .out) :
  Calls prog 22 #[pt X.b,.agg vs.toArray] W (qe X W0 M L r.locals.length ((rgo opE X.ds f (.al xs) r).bind λ vs s=>rgo opE X.ds f (.en t.s vs) s)):=by
 obtain⟨R0,hR⟩:∃ R,R=((rgo opE X.ds f (.al xs) r).bind λ vs s=>rgo opE X.ds f (.en t.s vs) s):=⟨_,rfl⟩;rw[<- hR] at hne ⊢;have hal:rgo opE X.ds f (.al xs) r≠ .out:=λ e=>hne (by rw[hR,e];rfl);obtain⟨tk,nm,ps,s0,no,b,nn,p,q0,hfd,hps,hbn,hcp,hcs,hF,hq0⟩:=G.s.f _ _ _ hlk;have hDk:=(G.d _ (List.mem_of_find?_eq_some hfd)).1;obtain⟨-,hp6,hbo,hbsz⟩:=id hDk
 have hle24:nn≤24:=by
  have a1:=rt ps tk.line [] 0 p (by omega) (by simp) hcp;have a2:=fe lk b p.1 p.2 q0 a1.2 a1.1 hcs;have:=a2.2.2.1;omega
 refine ake X.b 0 _ (H.al λ k w2 H2=>?_);have H2:=Jk H2;obtain⟨q,c,us,q2,c2,ws,hk,rfl,rfl,hks, -⟩:=hV;obtain⟨nd,hnd⟩:∃ A,A=blk k (Value.cells (.agg (ae ip t.s t.line 0 (.slice q (toF xs .nil).len c) (.slice q2 0 c2)++[]).toArray)) 52:=⟨_,rfl⟩
 have ldk:∀ {w:World} {A B C:Asn} {L:List Asn},St W0 M w (A::B::C::nd::L)->w.cell? ⟨k,0+4,none⟩=some (.slice q (toF xs .nil).len c):=by
  intro w A B C L H;rw[hnd] at H;exact H.ld 3 rfl (i:=4) rfl
 have ld1:w2.cell? ⟨k,0+1,none⟩=some (.string t.s):=H2.ld 1 rfl (i:=1) rfl
 have H2:St W0 M w2 (wsA X h (liv r)::nd::L):=by rw[hnd];exact H2
 refine⟨_,ld1,?_⟩;refine(Ji G.x hfd (H2.nth 0 rfl)).mono ?_;rintro _ w3 ⟨hh,vf,rfl,hVf,hf6,hf1⟩;refine⟨_,rfl,(H2.quiet hh).al λ k2 w4 H4=>?_⟩;refine(Jk H4).sts0 1 (n:=6) (vs:=vf.toArray) rfl (by simpa using hf6) rfl (by simpa using hf1) λ w5 H5=>?_;have H5:St W0 M w5 (wsA X h (liv r)::blk k2 vf.toArray 52::nd::L):=H5;have H6:St W0 M w5 (wsA X h (liv r)::lsl none 0 []::blk k2 vf.toArray 52::nd::L):=Jk (H5.add (A:=lsl none 0 []) ⟨Sl.nil _ _ _,XTouch.refl _ _,λ q hq=>by cases hq⟩);obtain⟨qf,cf,usf,qf2,cf2,wsf,hkb,hwsf,hvf,hkf,hnf⟩:=id hVf;have hwsf:wsf=[]:=hwsf;subst hwsf;rw[List.append_nil] at hvf;subst hvf
 have hlenxs:(toF xs .nil).len=xs.len:=by rw[Et xs .nil ho];rfl
 refine⟨λ x p n' c' w=>∃ (rest rest':T) (pre wsr:List Value) (done:List UInt32) (h':Hw) (S':Ws),x=(done.length:Nat)/\n'=(ps.zip done).length/\done.length+rest.len=xs.len/\us=pre++wsr/\pre.length=done.length * 6/\isV X.DA (toF rest .nil) wsr/\rest.ok 1=true/\rest.nok/\gd lk Ls rest= .ok rest'/\Arg X lk nw f Ls n N r xs done rest S'/\St W0 M w (wsA X h' S'::lsl p c' (ps.zip done)::blk k2 (ae da nm tk.line 0 (.slice qf (toF b .nil).len cf) (.slice qf2 ps.length cf2)).toArray 52::nd::L),λ x _ _ _ _=>xs.len - x.toNat,⟨xs,xs',[],us,[],h,liv r,rfl,by simp,by simp,rfl,rfl,hk,ho,hn,hx,.inl ⟨r,f,rfl,Nat.le_refl _,E,rfl,by cases rgo opE X.ds f (.al xs) r <;> rfl⟩,by rw[List.zip_nil_right];exact H6⟩,?_⟩;rintro - x pp n' c' w6 ⟨rest,rest',pre,wsr,done,h',S',rfl,rfl,hlen,hus,hpre,hVr,hor,hnr,hxr,hA,H7⟩;have hDA:X.DA.at_ w6:=(ax H7).nth 3 rfl;refine⟨_,_,_,ldk H7,Sx.so (λ h1=>?_) (λ h1=>?_)⟩
 ·
  have h1:=dt h1;obtain⟨x,xs2,rfl,ho1,ho2⟩:=Vb hor (by omega);obtain⟨x',hx1,hxr⟩:=C.bind_ok hxr;obtain⟨xs2',hx2,hxr⟩:=C.bind_ok hxr;obtain⟨vs1,ws1,rfl,hv6,hv,hw1, -⟩:=dd (.inl ho1) hVr;refine⟨_,_,_,ldk H7,⟨by omega,by omega⟩,?_⟩;refine mj (pre:=pre) (j:=done.length) (vs:=vs1) (post:=ws1) (hks _ hDA) hus hpre hv6 λ g o hc=>⟨_,by rw[List.size_toArray];exact hv6,by rw[Int.toNat_natCast];exact hc,?_⟩;refine(Zd G I hA hal ho1 hnr.1 hx1 hv H7).mono ?_;rintro _ w7 ⟨a1,h'',S'',rfl,H8,hA2⟩
  have hlt:done.length<ps.length:=by simp only[T.len] at hlen;omega
  have hDA7:X.DA.at_ w7:=(ax H8).nth 3 rfl;refine⟨_,rfl,_,_,_,H8.ld 2 rfl (i:=5) rfl,⟨by omega,by omega⟩,?_⟩;refine mc (hnf _ hDA7) (i:=done.length) (v:=.string ps[done.length]) (by simp [hlt]) λ g2 o2 hc2=>⟨_,by rw[ix1];exact hc2,?_⟩;rintro vs3 rfl;refine⟨rfl,H8.al λ k16 w8 H9=>?_⟩
  have hzl:(ps.zip done).length=done.length:=by rw[List.length_zip];omega
  refine H9.app 1 rfl (loC (ps[done.length],a1)) (.inr ⟨_,rfl,λ j v hj=>?_⟩) rfl (by simp [loC,vU,Value.oneCell']) (by unfold maxLen;omega) (by omega) λ p' c'' w9 H10=>?_
  ·rw[show(Addr.add ⟨k16,0,none⟩ j)=⟨k16,j,none⟩ by simp [Addr.add];intro e;exact e.symm];exact H9.ld (L.length+4) Ze (i:=j) (by simpa [loC,vU] using hj)
  ·have hz:=Za (ps:=ps) (done:=done) (v:=a1) (p:=ps[done.length]) (by simp [hlt])
   have H11:St W0 M w9 (wsA X h'' S''::lsl p' c'' (ps.zip (done++[a1]))::blk k2 (ae da nm tk.line 0 (.slice qf (toF b .nil).len cf) (.slice qf2 ps.length cf2)).toArray 52::nd::L):=by
    unfold lsl;rw[hz,List.length_append,List.flatMap_append,List.flatMap_cons,List.flatMap_nil,List.append_nil];exact St.sub (L:=wsA X h'' S''::_::_::nd::L) (L':=[_]) H10
   rintro z2 rfl;rw[qd (by omega)];refine⟨⟨xs2,xs2',pre++vs1,ws1,done++[a1],h'',S'',by simp,by rw[hz];simp,by simp only[T.len,List.length_append,List.length_cons,List.length_nil] at *;omega,by rw[hus,List.append_assoc],by simp [hpre,hv6];omega,hw1,ho2,hnr.2,hx2,hA2,H11⟩,by show xs.len - Int.toNat ((done.length+1:Nat):Int)<xs.len - Int.toNat ((done.length:Nat):Int);simp only[T.len] at hlen;omega⟩
 ·
  have h1:=df h1;obtain rfl:=Zc hor (by omega)
  have hdl:done.length=ps.length:=by simp only[T.len] at hlen;omega
  refine⟨_,rfl,H7.cells 2 rfl,?_⟩;refine(Px (X:=X) hDk (vs:=ae da nm tk.line 0 (.slice qf (toF b .nil).len cf) (.slice qf2 ps.length cf2)) hVf hDA).mono ?_;rintro _ w7 ⟨rfl,hh7⟩;have H8:=H7.quiet hh7;refine⟨_,rfl,?_⟩;refine(fy (H8.nth 0 rfl)).mono ?_;rintro _ _ ⟨rfl,rfl⟩;refine⟨_,rfl,?_⟩;obtain⟨sz,hsz⟩:∃ sz,sz=10+(ps.length+lets b):=⟨_,rfl⟩;rw[<- hsz]
  have hszb:sz≤2000000:=by
   have a1:=(gr b p.1 p.2 q0 (uw ps tk.line [] 0 p ⟨List.nodup_nil,List.nodup_nil,λ p hp=>by cases hp⟩ hcp).1 hcs).2.2.1;omega
  have room:∃ S3:Ws,(S3=S'∨S3={ S' with fault:=2 })/\(S'.stop=false->S'.room<(sz:Int)->S3={ S' with fault:=2 })/\(S'.stop=false->¬ S'.room<(sz:Int)->S3=S')/\(S'.stop=true->S3=S'):=by
   by_cases a1:S'.stop=false
   ·by_cases a2:S'.room<(sz:Int)
    ·exact⟨_,.inr rfl,λ _ _=>rfl,λ _ h=>absurd a2 h,λ h=>by rw[a1] at h;cases h⟩
    ·exact⟨_,.inl rfl,λ _ h=>absurd h a2,λ _ _=>rfl,λ _=>rfl⟩
   ·exact⟨_,.inl rfl,λ h=>absurd h a1,λ h=>absurd h a1,λ _=>rfl⟩
  obtain⟨S3, -,r1,r2,r3⟩:=room;refine⟨λ w=>St W0 M w (wsA X h' S3::lsl pp c' (ps.zip done)::blk k2 (ae da nm tk.line 0 (.slice qf (toF b .nil).len cf) (.slice qf2 ps.length cf2)).toArray 52::nd::L),?_,?_⟩
  ·have H9:=ax H8;refine⟨_,H9.ld 0 rfl (i:=4) rfl,Sx.so (λ g1=>Sx.so (λ g2=>?_) (λ g2=>?_)) (λ g1=>?_)⟩
   ·have g1:=dt g1
    have g2:S'.stop=false:=by simpa using g2
    rw[r1 g2 g1];refine H9.st 0 rfl (i:=5) (by simp [wsC]) λ w8 H10=>?_;exact St.shut (L:=wsL X h' { S' with fault:=2 }) H10
   ·have g2:S'.stop=true:=by simpa using g2
    rw[r3 g2];exact H8
   ·have g1:=df g1
    have:S3=S':=by
     cases hst:S'.stop with
     | true=>exact r3 hst
     | false=>exact r2 hst g1
    rw[this];exact H8
  intro _ w8 H9;refine(fy (H9.nth 0 rfl)).mono ?_;rintro _ _ ⟨rfl,rfl⟩;refine⟨_,rfl,?_⟩;have drop:∀ {w:World} {A B C D:Asn},St W0 M w (A::B::C::D::L)->St W0 M w (A::L):=λ H=>bg (bg (bg H));rcases hA with ⟨rj,fj,rfl,hfj,Ej,hlj,hRj⟩ | ⟨kk,r',hRj,D⟩
  case inr =>
   rw[r3 D.stop] at H9 ⊢;rw[D.stop];refine cn ?_;rw[hR,hRj];exact⟨0,rfl,h',S',drop H9,D⟩
  obtain⟨g,rfl⟩:∃ g,f=g+1:=by
   cases f with
   | zero=>exact absurd rfl hal
   | succ g=>exact⟨g,rfl⟩
  have hRj:rgo opE X.ds (g+1) (.al xs) r= .ok done rj:=by
   cases fj with
   | zero=>exact absurd (by rw[hRj];rfl) hal
   | succ fj=>rw[hRj,abu,ez,List.append_nil]
  rw[hRj,ez,Zz hfd,<- hsz] at hR;by_cases hroom:rj.room<sz
  ·have e3:S3={ liv rj with fault:=2 }:=r1 rfl (by show((rj.room:Nat):Int)<(sz:Int);omega);rw[e3] at H9 ⊢;rw[if_pos hroom] at hR;refine cn ?_;rw[hR];exact⟨0,rfl,h',_,drop H9,⟨rfl,rfl,λ e=>absurd e (by decide),λ _=>⟨rfl,rfl⟩,by show r.locals.length≤rj.locals.length;omega⟩⟩
  have e3:S3=liv rj:=r2 rfl (by show ¬ ((rj.room:Nat):Int)<(sz:Int);omega);rw[e3] at H9 ⊢;rw[if_neg hroom] at hR;refine be ?_;have H10:=ax H9;refine⟨_,_,_,H10.ld 0 rfl (i:=7) rfl,?_⟩;refine H10.st 0 rfl (i:=7) (by simp [wsC]) λ w9 H11=>?_;refine⟨_,H11.ld 0 rfl (i:=4) rfl,?_⟩;rintro z6 rfl
  have er:IntKind.wrap .i64 ((liv rj).room - (sz:Int))=((rj.room - sz:Nat):Int):=by
   have:=Ej.r;show IntKind.wrap .i64 (((rj.room:Nat):Int) - (sz:Int))=_;rw[show((rj.room:Nat):Int) - (sz:Int)=((rj.room - sz:Nat):Int) by omega];exact Go.Bits.n64 (by omega)
  rw[er];refine H11.st 0 rfl (i:=4) (by simp [wsC]) λ w10 H12=>?_;refine H12.st 0 rfl (i:=8) (by simp [wsC]) λ w11 H13=>?_;obtain⟨r2,hr2⟩:∃ r2:Rw,r2={ rj with room:=rj.room - sz,locals:=ps.zip done }:=⟨_,rfl⟩
  have H14:St W0 M w11 ([blk X.b (wsC X ⟨pp,c'⟩ (liv r2)) 75,sl 32 1 (.slice X.pw rj.words.length X.cw) rj.words.length (rj.words.map vU),lsl h'.p h'.c rj.locals,X.DA]++lsl pp c' (ps.zip done)::blk k2 (ae da nm tk.line 0 (.slice qf (toF b .nil).len cf) (.slice qf2 ps.length cf2)).toArray 52::nd::L):=by
   rw[hr2];exact H13
  have H15:St W0 M w11 (wsA X ⟨pp,c'⟩ (liv r2)::lsl h'.p h'.c rj.locals::blk k2 (ae da nm tk.line 0 (.slice qf (toF b .nil).len cf) (.slice qf2 ps.length cf2)).toArray 52::nd::L):=by
   have:=St.shut (L:=[_,_,_,_]) (L':=_::_::nd::L) (H14.perm Va);rw[hr2];rw[hr2] at this;exact this
  have E2:Env p.1 p.2 nn nw r2:=by rw[hr2];exact Zb G Ej hcp hcs hq0 hle24 hdl sz
  obtain⟨kb,sb,lnb,vb,ksb,nsb,eb⟩:=dk b (.inr hbo)
  have hlb:(toF b .nil).len=1:=by rw[eb];rfl
  have hlen6:usf.length=6:=by
   rw[eb] at hkb;obtain⟨_,_,_,_,_,wsb,_,h2,rfl,_,_⟩:=hkb;have h2:wsb=[]:=h2;subst h2;rfl
  have hDA2:X.DA.at_ w11:=(ax H15).nth 3 rfl;refine⟨_,_,_,H15.ld 2 rfl (i:=4) rfl,⟨by decide,by rw[hlb];decide⟩,?_⟩;refine mj (pre:=[]) (j:=0) (vs:=usf) (post:=[]) (hkf _ hDA2) (by simp) rfl hlen6 λ g2 o2 hc2=>⟨_,by rw[List.size_toArray];exact hlen6,hc2,?_⟩;rw[<- hr2] at hR;have hsub:rgo opE X.ds g (.s b) r2≠ .out:=λ e=>hne (by rw[hR,e];rfl);refine((I g (by omega)).s E2 hbo hbn hcs (by omega) (by omega) hkb H15 hsub).mono ?_;rintro e w12 ⟨rfl,he⟩;refine⟨rfl,?_⟩
  have fin:∀ {h2:Hw} {S2:Ws},St W0 M w12 (wsA X h2 S2::lsl h'.p h'.c rj.locals::blk k2 (ae da nm tk.line 0 (.slice qf (toF b .nil).len cf) (.slice qf2 ps.length cf2)).toArray 52::nd::L)->(∀ w,St W0 M w (wsA X ⟨h'.p,h'.c⟩ (afy S2 rj (sz:Int))::L)->qe X W0 M L r.locals.length R0 (.returned (vU S2.value)) w) ->
    V.ldI .u32 w12 X.b (0+8) λ z7=>V.sto w12 X.b (0+8) (.int .u32 0) λ W19=>V.sto W19 X.b (0+9) (.bool false) λ W20=>V.ldI .i64 W20 X.b (0+4) λ z8=>V.nm (IntKind.wrap .i64 (z8+(sz:Int))) λ z9=>V.sto W20 X.b (0+4) (.int .i64 z9) λ W21=>V.sto W21 X.b (0+7) (.slice h'.p rj.locals.length h'.c) λ W22=>qe X W0 M L r.locals.length R0 (.returned (.int .u32 z7)) W22:=by
   intro h2 S2 H hq;have K:=ax H;refine⟨_,K.ld 0 rfl (i:=8) rfl,?_⟩;refine K.st 0 rfl (i:=8) (by simp [wsC]) λ w13 K2=>?_;refine K2.st 0 rfl (i:=9) (by simp [wsC]) λ w14 K3=>?_;refine⟨_,K3.ld 0 rfl (i:=4) rfl,?_⟩;rintro z9 rfl;refine K3.st 0 rfl (i:=4) (by simp [wsC]) λ w15 K4=>?_;refine K4.st 0 rfl (i:=7) (by simp [wsC]) λ w16 K5=>?_;have K6:St W0 M w16 (blk X.b (wsC X ⟨h'.p,h'.c⟩ (afy S2 rj (sz:Int))) 75::sl 32 1 (.slice X.pw S2.words.length X.cw) S2.words.length (S2.words.map vU)::lsl h2.p h2.c S2.locals::X.DA::lsl h'.p h'.c rj.locals::blk k2 (ae da nm tk.line 0 (.slice qf (toF b .nil).len cf) (.slice qf2 ps.length cf2)).toArray 52::nd::L):=K5;have K7:=(K6.perm Yz).tail;have K8:=St.shut (L:=[_,_,_,_]) (L':=_::nd::L) K7;exact hq _ (bg (bg K8))
  cases hb:rgo opE X.ds g (.s b) r2 with
  | out=>exact absurd hb hsub
  | stop kk r3' =>
   rw[hb] at he hR;obtain⟨h2,S2,H16,D⟩:=he;refine fin H16 λ w H17=>?_;rw[hR];exact⟨_,rfl,_,_,H17,⟨D.w,D.o,D.z,D.p,by show r.locals.length≤rj.locals.length;omega⟩⟩
  | ok v r3' =>
   rw[hb] at he hR;obtain⟨h2,H16⟩:=he;have hroom3:=afz G E2 hbn hcs (by omega) hb;refine fin H16 λ w H17=>?_;rw[hR,ez]
   have ev:(if v=[] then liv r3' else { liv r3' with value:=hd v,back:=true }).value=hd v:=by
    by_cases hv:v=[]
    ·rw[if_pos hv,hv];rfl
    ·rw[if_neg hv]
   have eo:afy (if v=[] then liv r3' else { liv r3' with value:=hd v,back:=true }) rj (sz:Int)=liv { r3' with locals:=rj.locals,room:=r3'.room+sz }:=by
    have hr:r3'.room≤512:=by rw[hroom3,hr2];have:=Ej.r;show rj.room - sz≤512;omega
    have hw:IntKind.wrap .i64 (((r3'.room:Nat):Int)+(sz:Int))=((r3'.room+sz:Nat):Int):=by
     rw[show((r3'.room:Nat):Int)+(sz:Int)=((r3'.room+sz:Nat):Int) by omega];exact Go.Bits.n64 (by omega)
    by_cases hv:v=[]
    ·rw[if_pos hv];unfold afy liv;simp only;rw[hw]
    ·rw[if_neg hv];unfold afy liv;simp only;rw[hw]
   rw[ev];rw[eo] at H17;exact⟨rfl,_,H17⟩
end Go.Proofs.YtojogkljneonmaaGreatDoor
