/- Numbers in a program are of 32 bits; a checked program can run. No condition. -/
import Derived.Test.YtojogkljneonmaaGreatDoorLangRg
import Derived.Test.YtojogkljneonmaaGreatDoorLangTi
set_option linter.unusedVariables false
set_option linter.unusedSimpArgs false
namespace Go.Lang
def T.isBlk:T->Bool
 | .block ..=>true
 | _=>false
def T.nok:T->Prop
 | .num v _=>0≤v/\v<4294967296
 | .name ..=>True
 | .index _ _ _ p=>p.nok
 | .call _ _ xs=>xs.nok
 | .un _ x=>x.nok
 | .bin t x y=>x.nok/\y.nok/\1≤ai t.s
 | .nil=>True
 | .cons x xs=>x.nok/\xs.nok
 | .letS _ _ _ _ x=>x.nok
 | .setS _ _ _ x=>x.nok
 | .putS _ _ _ p x=>p.nok/\x.nok
 | .ifS _ c a b=>c.nok/\a.nok/\b.nok/\a.isBlk=true/\(b.isBlk=true∨b.isNil=true)
 | .whileS _ c b=>c.nok/\b.nok/\b.isBlk=true
 | .retS _ x=>x.nok
 | .prtS _ x=>x.nok
 | .doS _ x=>x.nok
 | .block _ l=>l.nok
def alr:Req->Prop
 | .loop k u=>1≤k/\u.nok
 | .bin k=>1≤k
 | _=>True
theorem Ez {f n:Nat}{l l':List Tok}{x:T} (h:run f .blk n l= .ok x l'):x.isBlk=true:=by
 cases f with
 | zero=>cases h
 | succ f =>
  unfold run at h;split at h
  ·cases h
  ·obtain⟨h3',h1⟩:=am h;obtain⟨x2,l2,h4,h5⟩:=bind_ok h1;cases h5;rfl
theorem abr:∀ (f:Nat) (q:Req) (n:Nat) (l:List Tok) (x:T) (l':List Tok),run f q n l= .ok x l'->alr q->x.nok:=by
 intro f
 induction f with
 | zero=>intro q n l x l' h;cases h
 | succ f ih =>
  intro q n l x l' h hq
  cases q with
  | expr =>
   unfold run at h;split at h
   ·cases h
   ·exact ih (.bin 1) _ _ _ _ h (Nat.le_refl 1)
  | bin k =>
   unfold run at h;obtain⟨x1,l1,h1,h2⟩:=bind_ok h;exact ih (.loop k x1) _ _ _ _ h2 ⟨hq,ih _ _ _ _ _ h1 trivial⟩
  | loop k u =>
   unfold run at h;split at h
   ·rename_i hk;obtain⟨x1,l1,h1,h2⟩:=bind_ok h;exact ih (.loop k (.bin (now l) u x1)) _ _ _ _ h2 ⟨hq.1,hq.2,ih _ _ _ _ _ h1 (Nat.le_add_left 1 _),Nat.le_trans hq.1 hk.2⟩
   ·cases h;exact hq.2
  | un =>
   unfold run at h;split at h
   ·split at h
    ·cases h
    ·obtain⟨x1,l1,h1,h2⟩:=bind_ok h;cases h2;have a0:=ih _ _ _ _ _ h1 trivial;exact a0
   ·exact ih .prim _ _ _ _ h trivial
  | prim =>
   unfold run at h;split at h
   ·unfold number at h;split at h
    ·cases h
    ·split at h
     ·cases h
     ·cases h;rename_i hv;exact⟨by omega,by omega⟩
   ·split at h
    ·obtain⟨x1,l1,h1,h2⟩:=bind_ok h;obtain⟨h3',h3⟩:=am h2;cases h3;have a0:=ih _ _ _ _ _ h1 trivial;exact a0
    ·obtain⟨hk,h1⟩:=fq h;split at h1
     ·obtain⟨x1,l1,h1,h2⟩:=bind_ok h1;cases h2;have a0:=ih _ _ _ _ _ h1 trivial;exact a0
     ·split at h1
      ·obtain⟨x1,l1,h5,h2⟩:=bind_ok h1;obtain⟨h3',h3⟩:=am h2;cases h3;have a0:=ih _ _ _ _ _ h5 trivial;exact a0
      ·cases h1;trivial
  | args =>
   unfold run at h;split at h
   ·cases h;trivial
   ·exact ih .argl _ _ _ _ h trivial
  | argl =>
   unfold run at h;obtain⟨x1,l1,h1,h2⟩:=bind_ok h;have a1:=ih _ _ _ _ _ h1 trivial;split at h2
   ·cases h2;exact⟨a1,trivial⟩
   ·obtain⟨h3',h3⟩:=am h2;obtain⟨x2,l2,h4,h5⟩:=bind_ok h3;cases h5;exact⟨a1,ih _ _ _ _ _ h4 trivial⟩
  | blk =>
   unfold run at h;split at h
   ·cases h
   ·obtain⟨h3',h1⟩:=am h;obtain⟨x2,l2,h4,h5⟩:=bind_ok h1;cases h5;have a0:=ih _ _ _ _ _ h4 trivial;exact a0
  | stmts =>
   unfold run at h;split at h
   ·cases h;trivial
   ·obtain⟨x1,l1,h1,h2⟩:=bind_ok h;obtain⟨x2,l2,h4,h5⟩:=bind_ok h2;cases h5;exact⟨ih _ _ _ _ _ h1 trivial,ih _ _ _ _ _ h4 trivial⟩
  | stmt =>
   unfold run at h;split at h
   ·obtain⟨-,h⟩:=fq h;split at h
    ·obtain⟨x1,l1,h1,h2⟩:=bind_ok h;obtain⟨h3',h3⟩:=am h2;cases h3;have a0:=ih _ _ _ _ _ h1 trivial;exact a0
    ·split at h
     ·obtain⟨x1,l1,h1,h2⟩:=bind_ok h;obtain⟨h3',h3⟩:=am h2;obtain⟨h4',h3⟩:=am h3;obtain⟨x2,l2,h4,h5⟩:=bind_ok h3;obtain⟨h5',h5⟩:=am h5;cases h5;exact⟨ih _ _ _ _ _ h1 trivial,ih _ _ _ _ _ h4 trivial⟩
     ·obtain⟨h3',h3⟩:=am h;obtain⟨x2,l2,h4,h5⟩:=bind_ok h3;obtain⟨h5',h5⟩:=am h5;cases h5;have a0:=ih _ _ _ _ _ h4 trivial;exact a0
   ·split at h
    ·obtain⟨hn,h⟩:=fq h;obtain⟨h3',h⟩:=am h;obtain⟨x2,l2,h4,h5⟩:=bind_ok h;obtain⟨h5',h5⟩:=am h5;cases h5;have a0:=ih _ _ _ _ _ h4 trivial;exact a0
    ·split at h
     ·obtain⟨x2,l2,h4,h5⟩:=bind_ok h;obtain⟨h5',h5⟩:=am h5;cases h5;have a0:=ih _ _ _ _ _ h4 trivial;exact a0
     ·split at h
      ·obtain⟨x2,l2,h4,h5⟩:=bind_ok h;obtain⟨h5',h5⟩:=am h5;cases h5;have a0:=ih _ _ _ _ _ h4 trivial;exact a0
      ·split at h
       ·obtain⟨x2,l2,h4,h5⟩:=bind_ok h;obtain⟨x3,l3,h6,h7⟩:=bind_ok h5;cases h7;exact⟨ih _ _ _ _ _ h4 trivial,ih _ _ _ _ _ h6 trivial,Ez h6⟩
       ·split at h
        ·obtain⟨x2,l2,h4,h5⟩:=bind_ok h;obtain⟨x3,l3,h6,h7⟩:=bind_ok h5;have a1:=ih _ _ _ _ _ h4 trivial;have b1:=ih _ _ _ _ _ h6 trivial;split at h7
         ·obtain⟨x4,l4,h8,h9⟩:=bind_ok h7;cases h9;exact⟨a1,b1,ih _ _ _ _ _ h8 trivial,Ez h6,.inl (Ez h8)⟩
         ·cases h7;exact⟨a1,b1,trivial,Ez h6,.inr rfl⟩
        ·cases h
def D.nok:D->Prop
 | .var ..=>True
 | .fn _ _ _ _ _ b=>b.nok
theorem Xs {f:Nat}{l l':List Tok}{d:D} (h:zj f l= .ok d l'):d.nok:=by
 unfold zj at h;split at h
 ·obtain⟨hn,h⟩:=fq h;split at h
  ·unfold number at h;split at h
   ·cases h
   ·split at h
    ·cases h
    ·dsimp only at h;split at h
     ·cases h
     ·obtain⟨h3',h⟩:=am h;obtain⟨h3'',h⟩:=am h;cases h;trivial
  ·obtain⟨h3',h⟩:=am h;cases h;trivial
 ·obtain⟨h3',h⟩:=am h;obtain⟨hn,h⟩:=fq h;obtain⟨h4',h⟩:=am h;obtain⟨ps,l2,h5,h⟩:=bind_ok h;obtain⟨b,l3,h6,h⟩:=bind_ok h;cases h;exact abr _ _ _ _ _ _ h6 trivial
theorem Hv {f:Nat}:∀ (g:Nat) (l l':List Tok) (ds:List D),decls f g l= .ok ds l'->∀ d ∈ ds,d.nok
 | 0,l,l',ds,h=>by cases h
 | g+1,l,l',ds,h=>by
  unfold decls at h;split at h
  ·cases h;intro d hd;cases hd
  ·obtain⟨d,l1,h1,h3⟩:=bind_ok h;obtain⟨ds',l2,h4,h5⟩:=bind_ok h3;cases h5;intro x hx;rcases List.mem_cons.1 hx with rfl | hx
   ·exact Xs h1
   ·exact Hv g l1 _ ds' h4 x hx
structure LkF (F:Ft) (nw:Nat) (lk:Lk):Prop where
 v:∀ s w z,lk s=some (.var w z)->0≤w/\0≤z/\z≤256/\w+max 1 z≤nw
 f:∀ s k np,lk s=some (.fn k np)->∃ n b,F k=some (n,b)/\np≤n
variable {F:Ft}{nw:Nat}{lk:Lk}
theorem Kv (Ls:Lcs) (s:ByteArray):bf Ls s= -1∨∃ p ∈ Ls,bf Ls s=(p.2:Int):=by
 unfold bf;split
 ·rename_i p hp;exact .inr ⟨p,List.mem_of_find?_eq_some hp,rfl⟩
 ·exact .inl rfl
theorem Mx (h:LkF F nw lk){Ls:Lcs}{ns:Nat} (hl:∀ p ∈ Ls,p.2<ns){t:Tok}{w:Int}{q:Int×Int} (hq:sj lk Ls t w= .ok q):inW nw ns q.1 q.2:=by
 unfold sj at hq;split at hq
 ·rename_i h0;cases hq;rcases Kv Ls t.s with e | ⟨p,hp,e⟩
  ·omega
  ·have:=hl p hp;exact .inl ⟨h0,by simp only;omega⟩
 ·rename_i h0;split at hq
  ·rename_i wd z hz;obtain⟨a,b,c,d⟩:=h.v _ _ _ hz;split at hq
   ·cases hq
   ·cases hq;exact .inr ⟨by simp only;omega,by simp only;omega,by simp only;omega⟩
  ·cases hq
theorem Tf (h:LkF F nw lk){Ls:Lcs}{t:Tok}{q:Int×Int} (hq:Km lk Ls t= .ok q):inA nw q.1 q.2:=by
 unfold Km at hq;split at hq
 ·rename_i wd z hz;obtain⟨a,b,c,d⟩:=h.v _ _ _ hz;split at hq
  ·cases hq
  split at hq
  ·cases hq
  ·cases hq;exact⟨a,b,c,by simp only;omega⟩
 ·cases hq
theorem qv (h:LkF F nw lk){Ls:Lcs}{ns:Nat} (hl:∀ p ∈ Ls,p.2<ns):∀ (x:T) (k:Nat) (x':T),x.ok k=true->(k=0∨k=1)->x.nok->gd lk Ls x= .ok x'->wf F nw ns x' k
 | .num v l,k,x',ho,hk,hn,hx=>by
  cases hx;exact⟨by simpa [T.ok] using ho,hn⟩
 | .name t s w,k,x',ho,hk,hn,hx=>by
  obtain⟨p,hp,hx⟩:=C.bind_ok hx;cases hx;exact⟨by simpa [T.ok] using ho,Mx h hl hp⟩
 | .index t w z p,k,x',ho,hk,hn,hx=>by
  obtain⟨a,ha,hx⟩:=C.bind_ok hx;obtain⟨p',hp,hx⟩:=C.bind_ok hx;cases hx
  have ho:k=0/\p.ok 0=true:=by simpa [T.ok] using ho
  exact⟨ho.1,Tf h ha,qv h hl p 0 p' ho.2 (.inl rfl) hn hp⟩
 | .call t fa xs,k,x',ho,hk,hn,hx=>by
  have ho:k=0/\xs.ok 1=true:=by simpa [T.ok] using ho
  rw[gd] at hx;split at hx
  ·rename_i kf np hf;split at hx
   ·cases hx
   split at hx
   ·cases hx
   ·rename_i hlen;obtain⟨xs',hxs,hx⟩:=C.bind_ok hx;cases hx;obtain⟨n,b,hF,hn2⟩:=h.f _ _ _ hf;have:=(ga lk Ls xs xs' hxs).1;exact⟨ho.1,⟨kf,n,b,rfl,hF,by omega⟩,qv h hl xs 1 xs' ho.2 (.inr rfl) hn hxs⟩
  ·cases hx
 | .un t x,k,x',ho,hk,hn,hx=>by
  obtain⟨y,hy,hx⟩:=C.bind_ok hx;cases hx
  have ho:k=0/\x.ok 0=true:=by simpa [T.ok] using ho
  exact⟨ho.1,qv h hl x 0 y ho.2 (.inl rfl) hn hy⟩
 | .bin t x y,k,x',ho,hk,hn,hx=>by
  obtain⟨a,ha,hx⟩:=C.bind_ok hx;obtain⟨b,hb,hx⟩:=C.bind_ok hx;cases hx
  have ho:(k=0/\x.ok 0=true)/\y.ok 0=true:=by simpa [T.ok] using ho
  exact⟨ho.1.1,qv h hl x 0 a ho.1.2 (.inl rfl) hn.1 ha,qv h hl y 0 b ho.2 (.inl rfl) hn.2.1 hb⟩
 | .nil,k,x',ho,hk,hn,hx=>by
  cases hx
  have ho:k=1∨k=3:=by simpa [T.ok] using ho
  exact ho
 | .cons x xs,k,x',ho,hk,hn,hx=>by
  obtain⟨a,ha,hx⟩:=C.bind_ok hx;obtain⟨b,hb,hx⟩:=C.bind_ok hx;cases hx
  have ho:(k=1/\x.ok 0=true)/\xs.ok 1=true∨(k=3/\x.ok 2=true)/\xs.ok 3=true:=by simpa [T.ok] using ho
  rcases ho with ⟨⟨e,h1⟩,h2⟩ | ⟨⟨e,h1⟩,h2⟩
  ·exact .inl ⟨e,qv h hl x 0 a h1 (.inl rfl) hn.1 ha,qv h hl xs 1 b h2 (.inr rfl) hn.2 hb⟩
  ·omega
 | .letS ..,k,x',ho,hk,hn,hx=>by simp [T.ok] at ho;omega
 | .setS ..,k,x',ho,hk,hn,hx=>by simp [T.ok] at ho;omega
 | .putS ..,k,x',ho,hk,hn,hx=>by simp [T.ok] at ho;omega
 | .ifS ..,k,x',ho,hk,hn,hx=>by simp [T.ok] at ho;omega
 | .whileS ..,k,x',ho,hk,hn,hx=>by simp [T.ok] at ho;omega
 | .retS ..,k,x',ho,hk,hn,hx=>by simp [T.ok] at ho;omega
 | .prtS ..,k,x',ho,hk,hn,hx=>by simp [T.ok] at ho;omega
 | .doS ..,k,x',ho,hk,hn,hx=>by simp [T.ok] at ho;omega
 | .block ..,k,x',ho,hk,hn,hx=>by simp [T.ok] at ho;omega
theorem bp (h:LkF F nw lk){Ls:Lcs}{ns b:Nat} (hl:∀ p ∈ Ls,p.2<ns){x x':T} (ho:x.ok 0=true) (hn:x.nok) (hx:ck lk Ls x b= .ok x'):wf F nw ns x' 0/\x'.sz=x.sz:=by
 unfold ck at hx;obtain⟨y,hy,hx⟩:=C.bind_ok hx;split at hx
 ·cases hx
 ·cases hx;exact⟨qv h hl x 0 _ ho (.inl rfl) hn hy,(ga lk Ls x _ hy).2⟩
variable {F:Ft}{nw:Nat}{lk:Lk}
theorem uv {Ls:Lcs}{n:Nat}{line:Int}{s:ByteArray}{p:Lcs×Nat} (h:pu lk Ls n line s= .ok p):p=(Ls++[(s,n)],n+1):=by
 unfold pu at h;split at h
 ·cases h
 split at h
 ·cases h
 split at h
 ·cases h
 ·cases h;rfl
def Wst (F:Ft) (nw:Nat) (k:Nat) (x:T) (Ls:Lcs) (n:Nat) (q:T×Lcs×Nat):Prop:=(∀ ns,q.2.2≤ns->wf F nw ns q.1 k)/\(∀ p ∈ q.2.1,p.2<q.2.2)/\n≤q.2.2/\q.1.sz=x.sz
theorem jq {Ls:Lcs}{n m:Nat} (h:∀ p ∈ Ls,p.2<n) (hm:n≤m):∀ p ∈ Ls,p.2<m:=λ p hp=>Nat.lt_of_lt_of_le (h p hp) hm
theorem Ac (h:LkF F nw lk):∀ (x:T) (k:Nat) (Ls:Lcs) (n:Nat) (q:T×Lcs×Nat),(x.ok k=true∨(k=2/\x.isNil=true))->(k=2∨k=3)->x.nok->(∀ p ∈ Ls,p.2<n)->cst lk x Ls n= .ok q->(x.ok k=true->Wst F nw k x Ls n q)/\(x.isNil=true->q=(x,Ls,n))
 | .letS t nm s w x,k,Ls,n,q,ho,hk,hn,hl,hq=>by
  refine⟨λ ho=>?_,λ e=>by cases e⟩
  have ho:k=2/\x.ok 0=true:=by simpa [T.ok] using ho
  obtain⟨x',hx,hq⟩:=C.bind_ok hq;obtain⟨p,hp,hq⟩:=C.bind_ok hq;cases uv hp;cases hq;refine⟨λ ns hns=>⟨ho.1,.inl ⟨by omega,by show(n:Int)<ns;have:n+1≤ns:=hns;omega⟩,(bp h (jq hl (show n≤ns by have:n+1≤ns:=hns;omega)) ho.2 hn hx).1⟩,λ p hp=>?_,by show n≤n+1;omega,by simp only[T.sz,(bp h hl ho.2 hn hx).2]⟩;rcases List.mem_append.1 hp with hp | hp
  ·have:=hl p hp;show p.2<n+1;omega
  ·simp at hp;subst hp;show n<n+1;omega
 | .setS t s w x,k,Ls,n,q,ho,hk,hn,hl,hq=>by
  refine⟨λ ho=>?_,λ e=>by cases e⟩
  have ho:k=2/\x.ok 0=true:=by simpa [T.ok] using ho
  obtain⟨p,hp,hq⟩:=C.bind_ok hq;obtain⟨x',hx,hq⟩:=C.bind_ok hq;cases hq;exact⟨λ ns hns=>⟨ho.1,Mx h (jq hl hns) hp,(bp h (jq hl hns) ho.2 hn hx).1⟩,hl,Nat.le_refl _,by simp only[T.sz,(bp h hl ho.2 hn hx).2]⟩
 | .putS t w z p x,k,Ls,n,q,ho,hk,hn,hl,hq=>by
  refine⟨λ ho=>?_,λ e=>by cases e⟩
  have ho:(k=2/\p.ok 0=true)/\x.ok 0=true:=by simpa [T.ok] using ho
  obtain⟨a,ha,hq⟩:=C.bind_ok hq;obtain⟨p',hp,hq⟩:=C.bind_ok hq;obtain⟨x',hx,hq⟩:=C.bind_ok hq;cases hq;exact⟨λ ns hns=>⟨ho.1.1,Tf h ha,(bp h (jq hl hns) ho.1.2 hn.1 hp).1,(bp h (jq hl hns) ho.2 hn.2 hx).1⟩,hl,Nat.le_refl _,by simp only[T.sz,(bp h hl ho.1.2 hn.1 hp).2,(bp h hl ho.2 hn.2 hx).2]⟩
 | .ifS line c a b,k,Ls,n,q,ho,hk,hn,hl,hq=>by
  refine⟨λ ho=>?_,λ e=>by cases e⟩
  have ho:((k=2/\c.ok 0=true)/\a.ok 2=true)/\(b.ok 2=true∨b.isNil=true):=by simpa [T.ok] using ho
  obtain⟨c',hc,hq⟩:=C.bind_ok hq;obtain⟨a',ha,hq⟩:=C.bind_ok hq;obtain⟨b',hb,hq⟩:=C.bind_ok hq;cases hq;obtain⟨a1,a2,a3,a4⟩:=(Ac h a 2 Ls n a' (.inl ho.1.2) (.inl rfl) hn.2.1 hl ha).1 ho.1.2;have B:=Ac h b 2 a'.2.1 a'.2.2 b' (ho.2.imp id λ e=>⟨rfl,e⟩) (.inl rfl) hn.2.2.1 a2 hb;rcases ho.2 with hbo | hbn
  ·obtain⟨b1,b2,b3,b4⟩:=B.1 hbo;exact⟨λ ns hns=>⟨ho.1.1.1,(bp h (jq hl (show n≤ns by have:b'.2.2≤ns:=hns;omega)) ho.1.1.2 hn.1 hc).1,a1 ns (by have:b'.2.2≤ns:=hns;omega),.inl (b1 ns hns)⟩,b2,by show n≤b'.2.2;omega,by simp only[T.sz,(bp h hl ho.1.1.2 hn.1 hc).2,a4,b4]⟩
  ·cases B.2 hbn;exact⟨λ ns hns=>⟨ho.1.1.1,(bp h (jq hl (show n≤ns by have:a'.2.2≤ns:=hns;omega)) ho.1.1.2 hn.1 hc).1,a1 ns hns,.inr hbn⟩,a2,a3,by simp only[T.sz,(bp h hl ho.1.1.2 hn.1 hc).2,a4]⟩
 | .whileS line c b,k,Ls,n,q,ho,hk,hn,hl,hq=>by
  refine⟨λ ho=>?_,λ e=>by cases e⟩
  have ho:(k=2/\c.ok 0=true)/\b.ok 2=true:=by simpa [T.ok] using ho
  obtain⟨c',hc,hq⟩:=C.bind_ok hq;obtain⟨b',hb,hq⟩:=C.bind_ok hq;cases hq;obtain⟨b1,b2,b3,b4⟩:=(Ac h b 2 Ls n b' (.inl ho.2) (.inl rfl) hn.2.1 hl hb).1 ho.2;exact⟨λ ns hns=>⟨ho.1.1,(bp h (jq hl (show n≤ns by have:b'.2.2≤ns:=hns;omega)) ho.1.2 hn.1 hc).1,b1 ns hns⟩,b2,b3,by simp only[T.sz,(bp h hl ho.1.2 hn.1 hc).2,b4]⟩
 | .retS line x,k,Ls,n,q,ho,hk,hn,hl,hq=>by
  refine⟨λ ho=>?_,λ e=>by cases e⟩
  have ho:k=2/\x.ok 0=true:=by simpa [T.ok] using ho
  obtain⟨x',hx,hq⟩:=C.bind_ok hq;cases hq;exact⟨λ ns hns=>⟨ho.1,(bp h (jq hl hns) ho.2 hn hx).1⟩,hl,Nat.le_refl _,by simp only[T.sz,(bp h hl ho.2 hn hx).2]⟩
 | .prtS line x,k,Ls,n,q,ho,hk,hn,hl,hq=>by
  refine⟨λ ho=>?_,λ e=>by cases e⟩
  have ho:k=2/\x.ok 0=true:=by simpa [T.ok] using ho
  obtain⟨x',hx,hq⟩:=C.bind_ok hq;cases hq;exact⟨λ ns hns=>⟨ho.1,(bp h (jq hl hns) ho.2 hn hx).1⟩,hl,Nat.le_refl _,by simp only[T.sz,(bp h hl ho.2 hn hx).2]⟩
 | .doS line x,k,Ls,n,q,ho,hk,hn,hl,hq=>by
  refine⟨λ ho=>?_,λ e=>by cases e⟩
  have ho:k=2/\x.ok 0=true:=by simpa [T.ok] using ho
  obtain⟨x',hx,hq⟩:=C.bind_ok hq;cases hq;exact⟨λ ns hns=>⟨ho.1,(bp h (jq hl hns) ho.2 hn hx).1⟩,hl,Nat.le_refl _,by simp only[T.sz,(bp h hl ho.2 hn hx).2]⟩
 | .block line l,k,Ls,n,q,ho,hk,hn,hl,hq=>by
  refine⟨λ ho=>?_,λ e=>by cases e⟩
  have ho:k=2/\l.ok 3=true:=by simpa [T.ok] using ho
  obtain⟨l',hx,hq⟩:=C.bind_ok hq;cases hq;obtain⟨b1,b2,b3,b4⟩:=(Ac h l 3 Ls n l' (.inl ho.2) (.inr rfl) hn hl hx).1 ho.2;exact⟨λ ns hns=>⟨ho.1,b1 ns hns⟩,jq hl b3,b3,by simp only[T.sz,b4]⟩
 | .nil,k,Ls,n,q,ho,hk,hn,hl,hq=>by
  cases hq;refine⟨λ ho=>?_,λ e=>rfl⟩
  have ho:k=1∨k=3:=by simpa [T.ok] using ho
  exact⟨λ ns hns=>ho,hl,Nat.le_refl _,rfl⟩
 | .cons x xs,k,Ls,n,q,ho,hk,hn,hl,hq=>by
  refine⟨λ ho=>?_,λ e=>by cases e⟩
  have ho:(k=1/\x.ok 0=true)/\xs.ok 1=true∨(k=3/\x.ok 2=true)/\xs.ok 3=true:=by simpa [T.ok] using ho
  rcases ho with ⟨⟨e,h1⟩,h2⟩ | ⟨⟨e,h1⟩,h2⟩
  ·omega
  ·obtain⟨a,ha,hq⟩:=C.bind_ok hq;obtain⟨b,hb,hq⟩:=C.bind_ok hq;cases hq;obtain⟨a1,a2,a3,a4⟩:=(Ac h x 2 Ls n a (.inl h1) (.inl rfl) hn.1 hl ha).1 h1;obtain⟨b1,b2,b3,b4⟩:=(Ac h xs 3 a.2.1 a.2.2 b (.inl h2) (.inr rfl) hn.2 a2 hb).1 h2;exact⟨λ ns hns=>.inr ⟨e,a1 ns (by have:b.2.2≤ns:=hns;omega),b1 ns hns⟩,b2,by show n≤b.2.2;omega,by simp only[T.sz,a4,b4]⟩
 | .num ..,k,Ls,n,q,ho,hk,hn,hl,hq=>by
  rcases ho with ho | ⟨-,ho⟩
  ·simp [T.ok] at ho;omega
  ·cases ho
 | .name ..,k,Ls,n,q,ho,hk,hn,hl,hq=>by
  rcases ho with ho | ⟨-,ho⟩
  ·simp [T.ok] at ho;omega
  ·cases ho
 | .index ..,k,Ls,n,q,ho,hk,hn,hl,hq=>by
  rcases ho with ho | ⟨-,ho⟩
  ·simp [T.ok] at ho;omega
  ·cases ho
 | .call ..,k,Ls,n,q,ho,hk,hn,hl,hq=>by
  rcases ho with ho | ⟨-,ho⟩
  ·simp [T.ok] at ho;omega
  ·cases ho
 | .un ..,k,Ls,n,q,ho,hk,hn,hl,hq=>by
  rcases ho with ho | ⟨-,ho⟩
  ·simp [T.ok] at ho;omega
  ·cases ho
 | .bin ..,k,Ls,n,q,ho,hk,hn,hl,hq=>by
  rcases ho with ho | ⟨-,ho⟩
  ·simp [T.ok] at ho;omega
  ·cases ho
theorem Fa:∀ (ps:List ByteArray) (line:Int) (Ls:Lcs) (n:Nat) (q:Lcs×Nat),(∀ p ∈ Ls,p.2<n)->pz lk line ps Ls n= .ok q->(∀ p ∈ q.1,p.2<q.2)/\q.2=n+ps.length
 | [],line,Ls,n,q,hl,h=>by cases h;exact⟨hl,rfl⟩
 | p::ps,line,Ls,n,q,hl,h=>by
  obtain⟨a,ha,h⟩:=C.bind_ok h;cases uv ha
  have:=Fa ps line _ _ q (λ x hx=>by
   rcases List.mem_append.1 hx with hx | hx
   ·have:=hl x hx;show x.2<n+1;omega
   ·simp at hx;subst hx;show n<n+1
    omega) h
  exact⟨this.1,by rw[this.2];simp only[List.length_cons];omega⟩
def Wd (F:Ft) (nw:Nat):D->Prop
 | .var _ _ w z=>0≤w/\w+max 1 z≤512
 | .fn _ _ ps s _ b=>∃ n:Nat,s=(n:Int)/\wf F nw n b 2/\b.sz≤1000000/\ps.length≤n/\n≤24
theorem rt:∀ (ps:List ByteArray) (line:Int) (Ls:Lcs) (n:Nat) (q:Lcs×Nat),n≤24->Ls.length≤n->pz lk line ps Ls n= .ok q->q.2≤24/\q.1.length≤q.2
 | [],line,Ls,n,q,hn,hl,h=>by cases h;exact⟨hn,hl⟩
 | p::ps,line,Ls,n,q,hn,hl,h=>by
  obtain⟨a,ha,h⟩:=C.bind_ok h
  have h24:n+1≤24:=by
   have e:=uv ha;unfold pu at ha;split at ha
   ·cases ha
   split at ha
   ·cases ha
   split at ha
   ·cases ha
   ·omega
  cases uv ha;exact rt ps line _ _ q h24 (by simp;omega) h
theorem abs (h:LkF F nw lk){dup:Bool}{d d':D} (hd:(match d with | .var _ _ w z=>0≤w | .fn _ _ ps _ _ b=>b.ok 2=true/\b.sz<1000000)) (hn:d.nok) (hq:Gh lk dup d= .ok d'):Wd F nw d':=by
 cases d with
 | var t nm w z =>
  rw[Gh] at hq;split at hq
  ·cases hq
  split at hq
  ·cases hq
  ·cases hq;exact⟨hd,by omega⟩
 | fn t nm ps s no b =>
  rw[Gh] at hq;split at hq
  ·cases hq
  obtain⟨p,hp,hq⟩:=C.bind_ok hq;obtain⟨r,hr,hq⟩:=C.bind_ok hq;cases hq;obtain⟨p1,p2⟩:=Fa ps t.line [] 0 p (λ p hp=>by cases hp) hp;obtain⟨p3,p4⟩:=rt ps t.line [] 0 p (by omega) (by simp) hp;obtain⟨r1,r2,r3,r4⟩:=(Ac h b 2 p.1 p.2 r (.inl hd.1) (.inl rfl) hn p1 hr).1 hd.1;have hinv:=fe lk b p.1 p.2 r p4 p3 hr;exact⟨r.2.2,rfl,r1 _ (Nat.le_refl _),by have:=hd.2;omega,by omega,hinv.2.2.1⟩
structure Rw where
 words:List UInt32
 out:List UInt8
 steps:Nat
 room:Nat
 locals:List (ByteArray×UInt32)
inductive Rr where
 | e (x:T) | al (xs:T) | en (nm:ByteArray) (args:List UInt32) | s (x:T) | ss (xs:T) | w (c b:T)
def Rw.step (s:Rw) (k:Rw->Rs Rw):Rs Rw:=if s.steps=0 then .stop 0 s else k { s with steps:=s.steps - 1 }
def lets:T->Nat
 | .letS ..=>1
 | .ifS _ _ a b=>lets a+lets b
 | .whileS _ _ b=>lets b
 | .block _ l=>lets l
 | .cons x xs=>lets x+lets xs
 | _=>0
def sq (ds:List D) (s:ByteArray):Option D:=ds.find? λ d=>decide (d.nm=s)
def bl:List D->ByteArray->Nat
 | [],_=>0
 | d::r,s=>if d.nm=s then 0 else (match d with | .var _ _ _ z=>max 1 z.toNat | .fn ..=>0)+bl r s
def Bt (ds:List D) (s:ByteArray):Int:=match sq ds s with
 | some (.var _ _ _ z)=>z
 | _=>0
def Hx (l:List (ByteArray×UInt32)) (s:ByteArray):Option Nat:=l.findIdx? λ p=>decide (p.1=s)
def Rw.get (ds:List D) (s:Rw) (nm:ByteArray):UInt32:=match Hx s.locals nm with
 | some i=>((s.locals[i]?).map Prod.snd).getD 0
 | none=>s.words.getD (bl ds nm) 0
def Rw.set (ds:List D) (s:Rw) (nm:ByteArray) (v:UInt32):Rw:=match Hx s.locals nm with
 | some i=>{ s with locals:=s.locals.set i (nm,v) }
 | none=>{ s with words:=s.words.set (bl ds nm) v }
def rgo (E:ByteArray->UInt32->UInt32->UInt32) (ds:List D):Nat->Rr->Rw->Rs Rw
 | 0,_,_=>.out
 | f+1,.e x,s=>s.step λ s=>match x with
  | .num v _=>.ok [UInt32.ofNat v.toNat] s
  | .name t _ _=>.ok [s.get ds t.s] s
  | .index t _ _ p=>(rgo E ds f (.e p) s).bind λ v s=>if Bt ds t.s≤((hd v).toNat:Int) then .stop 1 s else .ok [s.words.getD (bl ds t.s+(hd v).toNat) 0] s
  | .call t _ xs=>(rgo E ds f (.al xs) s).bind λ vs s=>rgo E ds f (.en t.s vs) s
  | .un t x=>(rgo E ds f (.e x) s).bind λ v s=>.ok [unV t.s (hd v)] s
  | .bin t x y=>(rgo E ds f (.e x) s).bind λ v s=>if t.s=jn/\hd v=0 then .ok [0] s else if t.s=vz/\hd v≠0 then .ok [1] s else
   (rgo E ds f (.e y) s).bind λ u s=>.ok [E t.s (hd v) (hd u)] s
  | _=>.out
 | f+1,.al xs,s=>match xs with
  | .cons x xs=>(rgo E ds f (.e x) s).bind λ v s=>(rgo E ds f (.al xs) s).bind λ vs s=>.ok (hd v::vs) s
  | .nil=>.ok [] s
  | _=>.out
 | f+1,.en nm args,s=>match sq ds nm with
  | some (.fn _ _ ps _ _ b)=>if s.room<10+(ps.length+lets b) then .stop 2 s else
   (rgo E ds f (.s b) { s with room:=s.room - (10+(ps.length+lets b)),locals:=ps.zip args }).bind λ v s'=>.ok [hd v] { s' with locals:=s.locals,room:=s'.room+(10+(ps.length+lets b)) }
  | _=>.out
 | f+1,.s x,s=>s.step λ s=>match x with
  | .block _ l=>(rgo E ds f (.ss l) s).bind λ v s'=>.ok v { s' with locals:=s'.locals.take s.locals.length }
  | .letS _ nm _ _ x=>(rgo E ds f (.e x) s).bind λ v s=>.ok [] { s with locals:=s.locals++[(nm.s,hd v)] }
  | .setS t _ _ x=>(rgo E ds f (.e x) s).bind λ v s=>.ok [] (s.set ds t.s (hd v))
  | .putS t _ _ p x=>(rgo E ds f (.e p) s).bind λ k s=>(rgo E ds f (.e x) s).bind λ v s=>if Bt ds t.s≤((hd k).toNat:Int) then .stop 1 s else .ok [] { s with words:=s.words.set (bl ds t.s+(hd k).toNat) (hd v) }
  | .ifS _ c a b=>(rgo E ds f (.e c) s).bind λ v s=>if hd v≠0 then rgo E ds f (.s a) s else if b.isNil then .ok [] s else rgo E ds f (.s b) s
  | .whileS _ c b=>rgo E ds f (.w c b) s
  | .retS _ x=>(rgo E ds f (.e x) s).bind λ v s=>.ok [hd v] s
  | .prtS _ x=>(rgo E ds f (.e x) s).bind λ v s=>.ok [] { s with out:=s.out++[(hd v).toUInt8] }
  | .doS _ x=>(rgo E ds f (.e x) s).bind λ v s=>.ok [] s
  | _=>.out
 | f+1,.ss xs,s=>match xs with
  | .cons x xs=>(rgo E ds f (.s x) s).bind λ v s=>if v=[] then rgo E ds f (.ss xs) s else .ok v s
  | .nil=>.ok [] s
  | _=>.out
 | f+1,.w c b,s=>(rgo E ds f (.e c) s).bind λ v s=>if hd v=0 then .ok [] s else (rgo E ds f (.s b) s).bind λ v s=>if v=[] then rgo E ds f (.w c b) s else .ok v s
section
variable {E:ByteArray->UInt32->UInt32->UInt32}{ds:List D}{f:Nat}{s:Rw}
theorem abt {v l:Int}:rgo E ds (f+1) (.e (.num v l)) s=s.step λ s=>.ok [UInt32.ofNat v.toNat] s:=rfl
theorem Xt {t:Tok}{sl w:Int}:rgo E ds (f+1) (.e (.name t sl w)) s=s.step λ s=>.ok [s.get ds t.s] s:=rfl
theorem rgo_index {t:Tok}{w z:Int}{p:T}:rgo E ds (f+1) (.e (.index t w z p)) s=s.step λ s=>(rgo E ds f (.e p) s).bind λ v s=>if Bt ds t.s≤((hd v).toNat:Int) then .stop 1 s else .ok [s.words.getD (bl ds t.s+(hd v).toNat) 0] s:=rfl
theorem rgo_call {t:Tok}{a:Option Addr}{xs:T}:rgo E ds (f+1) (.e (.call t a xs)) s=s.step λ s=>(rgo E ds f (.al xs) s).bind λ vs s=>rgo E ds f (.en t.s vs) s:=rfl
theorem rgo_un {t:Tok}{x:T}:rgo E ds (f+1) (.e (.un t x)) s=s.step λ s=>(rgo E ds f (.e x) s).bind λ v s=>.ok [unV t.s (hd v)] s:=rfl
theorem rgo_bin {t:Tok}{x y:T}:rgo E ds (f+1) (.e (.bin t x y)) s=s.step λ s=>(rgo E ds f (.e x) s).bind λ v s=>if t.s=jn/\hd v=0 then .ok [0] s else if t.s=vz/\hd v≠0 then .ok [1] s else
   (rgo E ds f (.e y) s).bind λ u s=>.ok [E t.s (hd v) (hd u)] s:=rfl
theorem aes {x xs:T}:rgo E ds (f+1) (.al (.cons x xs)) s=(rgo E ds f (.e x) s).bind λ v s=>(rgo E ds f (.al xs) s).bind λ vs s=>.ok (hd v::vs) s:=rfl
theorem abu:rgo E ds (f+1) (.al .nil) s= .ok [] s:=rfl
theorem Zz {nm nm':ByteArray}{t:Tok}{ps:List ByteArray}{s0 no:Int}{b:T}{args:List UInt32} (h:sq ds nm=some (.fn t nm' ps s0 no b)):rgo E ds (f+1) (.en nm args) s=if s.room<10+(ps.length+lets b) then .stop 2 s else
   (rgo E ds f (.s b) { s with room:=s.room - (10+(ps.length+lets b)),locals:=ps.zip args }).bind λ v s'=>.ok [hd v] { s' with locals:=s.locals,room:=s'.room+(10+(ps.length+lets b)) }:=by
 rw[rgo,h]
theorem rgo_block {l:Int}{xs:T}:rgo E ds (f+1) (.s (.block l xs)) s=s.step λ s=>(rgo E ds f (.ss xs) s).bind λ v s'=>.ok v { s' with locals:=s'.locals.take s.locals.length }:=rfl
theorem rgo_let {t nm:Tok}{sl w:Int}{x:T}:rgo E ds (f+1) (.s (.letS t nm sl w x)) s=s.step λ s=>(rgo E ds f (.e x) s).bind λ v s=>.ok [] { s with locals:=s.locals++[(nm.s,hd v)] }:=rfl
theorem rgo_set {t:Tok}{sl w:Int}{x:T}:rgo E ds (f+1) (.s (.setS t sl w x)) s=s.step λ s=>(rgo E ds f (.e x) s).bind λ v s=>.ok [] (s.set ds t.s (hd v)):=rfl
theorem rgo_put {t:Tok}{w z:Int}{p x:T}:rgo E ds (f+1) (.s (.putS t w z p x)) s=s.step λ s=>(rgo E ds f (.e p) s).bind λ k s=>(rgo E ds f (.e x) s).bind λ v s=>if Bt ds t.s≤((hd k).toNat:Int) then .stop 1 s else .ok [] { s with words:=s.words.set (bl ds t.s+(hd k).toNat) (hd v) }:=rfl
theorem rgo_if {l:Int}{c a b:T}:rgo E ds (f+1) (.s (.ifS l c a b)) s=s.step λ s=>(rgo E ds f (.e c) s).bind λ v s=>if hd v≠0 then rgo E ds f (.s a) s else if b.isNil then .ok [] s else rgo E ds f (.s b) s:=rfl
theorem rgo_while {l:Int}{c b:T}:rgo E ds (f+1) (.s (.whileS l c b)) s=s.step λ s=>rgo E ds f (.w c b) s:=rfl
theorem rgo_ret {l:Int}{x:T}:rgo E ds (f+1) (.s (.retS l x)) s=s.step λ s=>(rgo E ds f (.e x) s).bind λ v s=>.ok [hd v] s:=rfl
theorem rgo_prt {l:Int}{x:T}:rgo E ds (f+1) (.s (.prtS l x)) s=s.step λ s=>(rgo E ds f (.e x) s).bind λ v s=>.ok [] { s with out:=s.out++[(hd v).toUInt8] }:=rfl
theorem rgo_do {l:Int}{x:T}:rgo E ds (f+1) (.s (.doS l x)) s=s.step λ s=>(rgo E ds f (.e x) s).bind λ v s=>.ok [] s:=rfl
theorem aet {x xs:T}:rgo E ds (f+1) (.ss (.cons x xs)) s=(rgo E ds f (.s x) s).bind λ v s=>if v=[] then rgo E ds f (.ss xs) s else .ok v s:=rfl
theorem abv:rgo E ds (f+1) (.ss .nil) s= .ok [] s:=rfl
theorem aie {c b:T}:rgo E ds (f+1) (.w c b) s=(rgo E ds f (.e c) s).bind λ v s=>if hd v=0 then .ok [] s else (rgo E ds f (.s b) s).bind λ v s=>if v=[] then rgo E ds f (.w c b) s else .ok v s:=rfl
end
variable {E:ByteArray->UInt32->UInt32->UInt32}{F:Ft}{lk:Lk}{ds:List D}
def Sc (Ls:Lcs) (n:Nat):Prop:=(Ls.map Prod.fst).Nodup/\(Ls.map Prod.snd).Nodup/\∀ p ∈ Ls,p.2<n
def dy (Ls:Lcs) (slots:List UInt32):List (ByteArray×UInt32):=Ls.map λ p=>(p.1,slots.getD p.2 0)
def Rel (Ls:Lcs) (s:Rn) (r:Rw):Prop:=r.words=s.words/\r.out=s.out/\r.steps=s.steps/\r.room=s.room/\r.locals=dy Ls s.slots
theorem Sc.mono {Ls:Lcs}{n m:Nat} (h:Sc Ls n) (hm:n≤m):Sc Ls m:=⟨h.1,h.2.1,λ p hp=>Nat.lt_of_lt_of_le (h.2.2 p hp) hm⟩
theorem nq {Ls:Lcs}{nm:ByteArray} (slots:List UInt32):(bf Ls nm= -1/\Hx (dy Ls slots) nm=none)∨∃ i p,Ls[i]?=some p/\p.1=nm/\bf Ls nm=(p.2:Int)/\Hx (dy Ls slots) nm=some i:=by
 have key:∀ l:Lcs,(l.find? (λ p=>decide (p.1=nm))=none/\Hx (dy l slots) nm=none)∨∃ i p,l[i]?=some p/\p.1=nm/\l.find? (λ p=>decide (p.1=nm))=some p/\Hx (dy l slots) nm=some i:=by
  intro l
  induction l with
  | nil=>exact .inl ⟨rfl,rfl⟩
  | cons q l ih =>
   unfold Hx dy at *;by_cases hq:q.1=nm
   ·refine .inr ⟨0,q,rfl,hq,?_,?_⟩
    ·rw[List.find?_cons_of_pos (by simp [hq])]
    ·rw[List.map_cons,List.findIdx?_cons,if_pos (by simp [hq])]
   ·rw[List.find?_cons_of_neg (by simp [hq]),List.map_cons,List.findIdx?_cons,if_neg (by simp [hq])];rcases ih with ⟨a,b⟩ | ⟨i,p,a,b,c,d⟩
    ·exact .inl ⟨a,by rw[b];rfl⟩
    ·exact .inr ⟨i+1,p,by simpa using a,b,c,by rw[d];rfl⟩
 rcases key Ls with ⟨a,b⟩ | ⟨i,p,a,b,c,d⟩
 ·exact .inl ⟨by unfold bf;rw[a],b⟩
 ·exact .inr ⟨i,p,a,b,by unfold bf;rw[c],d⟩
theorem getD_set_ne (l:List UInt32){i j:Nat} (v:UInt32) (h:i≠j):(l.set i v).getD j 0=l.getD j 0:=by
 rw[List.getD_eq_getElem?_getD,List.getD_eq_getElem?_getD,List.getElem?_set_ne h]
theorem Ad (l:List UInt32){i:Nat} (v:UInt32) (h:i<l.length):(l.set i v).getD i 0=v:=by
 rw[List.getD_eq_getElem?_getD,List.getElem?_set_self h];rfl
theorem Xu {Ls:Lcs}{n i:Nat}{p:ByteArray×Nat}{slots:List UInt32}{v:UInt32} (h:Sc Ls n) (hn:n≤slots.length) (hi:Ls[i]?=some p):(dy Ls slots).set i (p.1,v)=dy Ls (slots.set p.2 v):=by
 apply List.ext_getElem?;intro j;unfold dy;rw[List.getElem?_set,List.getElem?_map,List.getElem?_map];have hil:i<Ls.length:=(List.getElem?_eq_some_iff.1 hi).1;by_cases hij:i=j
 ·subst hij;rw[if_pos rfl,if_pos (by simpa using hil),hi];simp only[Option.map_some];rw[Ad _ _ (by have:=h.2.2 p (List.mem_of_getElem? hi);omega)]
 ·rw[if_neg hij]
  cases hj:Ls[j]? with
  | none=>rfl
  | some q =>
   simp only[Option.map_some]
   have hne:p.2≠q.2:=by
    intro e
    have h1:(Ls.map Prod.snd)[i]?=some p.2:=by rw[List.getElem?_map,hi];rfl
    have h2:(Ls.map Prod.snd)[j]?=some p.2:=by rw[List.getElem?_map,hj,e];rfl
    exact hij ((List.getElem?_inj (by simpa using hil) h.2.1).1 (h1.trans h2.symm))
   rw[getD_set_ne _ _ hne]
theorem Xv {Ls:Lcs}{n:Nat}{nm:ByteArray}{slots:List UInt32}{v:UInt32} (h:Sc Ls n) (hn:n<slots.length):dy Ls slots++[(nm,v)]=dy (Ls++[(nm,n)]) (slots.set n v):=by
 unfold dy;rw[List.map_append];congr 1
 ·apply List.map_congr_left;intro p hp;have:=h.2.2 p hp;rw[getD_set_ne _ _ (by omega)]
 ·simp only[List.map_cons,List.map_nil];rw[Ad _ _ hn]
theorem Tg {Ls L':Lcs}{slots:List UInt32} (h:Ls <+: L'):(dy L' slots).take Ls.length=dy Ls slots:=by
 obtain⟨e,rfl⟩:=h;unfold dy;rw[List.map_append,List.take_left' (by simp)]
theorem aeu {Ls:Lcs}{n:Nat}{nm:ByteArray} (h:Sc Ls n) (hl:bf Ls nm= -1):Sc (Ls++[(nm,n)]) (n+1):=by
 obtain⟨h1,h2,h3⟩:=h;refine⟨?_,?_,?_⟩
 ·rw[List.map_append,List.nodup_append];refine⟨h1,by simp,?_⟩;intro a ha b hb e;simp at hb;subst hb;subst e;obtain⟨p,hp,e⟩:=List.mem_map.1 ha;rcases nq (Ls:=Ls) (nm:=a) [] with ⟨-,hn⟩ | ⟨i,q, -, -,e2, -⟩
  ·unfold Hx dy at hn;rw[List.findIdx?_eq_none_iff] at hn;have:=hn (p.1,_) (List.mem_map.2 ⟨p,hp,rfl⟩);simp [e] at this
  ·omega
 ·rw[List.map_append,List.nodup_append];refine⟨h2,by simp,?_⟩;intro a ha b hb e;simp at hb;subst hb;subst e;obtain⟨p,hp,e⟩:=List.mem_map.1 ha;have:=h3 p hp;omega
 ·intro p hp;rcases List.mem_append.1 hp with hp | hp
  ·have:=h3 p hp;omega
  ·simp at hp;subst hp;show n<n+1;omega
theorem Fb {Ls:Lcs}{n:Nat}{line:Int}{s:ByteArray}{p:Lcs×Nat} (h:Sc Ls n) (hd:pu lk Ls n line s= .ok p):p=(Ls++[(s,n)],n+1)/\Sc p.1 p.2:=by
 have e:=uv hd;refine⟨e,?_⟩;rw[e];refine aeu h ?_;unfold pu at hd;split at hd
 ·cases hd
 split at hd
 ·cases hd
 ·rename_i h0;rcases nq (Ls:=Ls) (nm:=s) [] with ⟨a, -⟩ | ⟨i,q, -, -,e2, -⟩
  ·exact a
  ·omega
theorem uw:∀ (ps:List ByteArray) (line:Int) (Ls:Lcs) (n:Nat) (q:Lcs×Nat),Sc Ls n->pz lk line ps Ls n= .ok q->Sc q.1 q.2/\q.2=n+ps.length/\q.1=Ls++ps.zipIdx n
 | [],line,Ls,n,q,h,hq=>by cases hq;exact⟨h,rfl,by simp⟩
 | p::ps,line,Ls,n,q,h,hq=>by
  obtain⟨a,ha,hq⟩:=C.bind_ok hq;obtain⟨e,hs⟩:=Fb h ha;subst e;obtain⟨a,b,c⟩:=uw ps line _ _ q hs hq;exact⟨a,by rw[b];simp only[List.length_cons];omega,by rw[c];simp [List.zipIdx_cons]⟩
theorem gr:∀ (x:T) (Ls:Lcs) (n:Nat) (q:T×Lcs×Nat),Sc Ls n->cst lk x Ls n= .ok q->Sc q.2.1 q.2.2/\Ls <+: q.2.1/\q.2.2=n+lets x/\(x.isBlk=true->q.2.1=Ls)
 | .letS t nm s w x,Ls,n,q,h,hq=>by
  obtain⟨x',hx,hq⟩:=C.bind_ok hq;obtain⟨p,hp,hq⟩:=C.bind_ok hq;obtain⟨e,hs⟩:=Fb h hp;subst e;cases hq;exact⟨hs,List.prefix_append _ _,rfl,λ e=>by cases e⟩
 | .setS t s w x,Ls,n,q,h,hq=>by
  obtain⟨p,hp,hq⟩:=C.bind_ok hq;obtain⟨x',hx,hq⟩:=C.bind_ok hq;cases hq;exact⟨h,List.prefix_rfl,rfl,λ e=>by cases e⟩
 | .putS t w z p x,Ls,n,q,h,hq=>by
  obtain⟨a,ha,hq⟩:=C.bind_ok hq;obtain⟨p',hp,hq⟩:=C.bind_ok hq;obtain⟨x',hx,hq⟩:=C.bind_ok hq;cases hq;exact⟨h,List.prefix_rfl,rfl,λ e=>by cases e⟩
 | .ifS line c a b,Ls,n,q,h,hq=>by
  obtain⟨c',hc,hq⟩:=C.bind_ok hq;obtain⟨a',ha,hq⟩:=C.bind_ok hq;obtain⟨b',hb,hq⟩:=C.bind_ok hq;cases hq;obtain⟨a1,a2,a3, -⟩:=gr a Ls n a' h ha;obtain⟨b1,b2,b3, -⟩:=gr b _ _ b' a1 hb;exact⟨b1,a2.trans b2,by show b'.2.2=n+(lets a+lets b);omega,λ e=>by cases e⟩
 | .whileS line c b,Ls,n,q,h,hq=>by
  obtain⟨c',hc,hq⟩:=C.bind_ok hq;obtain⟨b',hb,hq⟩:=C.bind_ok hq;cases hq;obtain⟨b1,b2,b3, -⟩:=gr b _ _ b' h hb;exact⟨b1,b2,b3,λ e=>by cases e⟩
 | .retS line x,Ls,n,q,h,hq=>by
  obtain⟨x',hx,hq⟩:=C.bind_ok hq;cases hq;exact⟨h,List.prefix_rfl,rfl,λ e=>by cases e⟩
 | .prtS line x,Ls,n,q,h,hq=>by
  obtain⟨x',hx,hq⟩:=C.bind_ok hq;cases hq;exact⟨h,List.prefix_rfl,rfl,λ e=>by cases e⟩
 | .doS line x,Ls,n,q,h,hq=>by
  obtain⟨x',hx,hq⟩:=C.bind_ok hq;cases hq;exact⟨h,List.prefix_rfl,rfl,λ e=>by cases e⟩
 | .block line l,Ls,n,q,h,hq=>by
  obtain⟨l',hx,hq⟩:=C.bind_ok hq;cases hq;obtain⟨b1,b2,b3, -⟩:=gr l _ _ l' h hx;exact⟨h.mono (by show n≤l'.2.2;omega),List.prefix_rfl,b3,λ _=>rfl⟩
 | .cons x xs,Ls,n,q,h,hq=>by
  obtain⟨a,ha,hq⟩:=C.bind_ok hq;obtain⟨b,hb,hq⟩:=C.bind_ok hq;cases hq;obtain⟨a1,a2,a3, -⟩:=gr x Ls n a h ha;obtain⟨b1,b2,b3, -⟩:=gr xs _ _ b a1 hb;exact⟨b1,a2.trans b2,by show b.2.2=n+(lets x+lets xs);omega,λ e=>by cases e⟩
 | .nil,Ls,n,q,h,hq=>by cases hq;exact⟨h,List.prefix_rfl,rfl,λ e=>by cases e⟩
 | .num ..,Ls,n,q,h,hq=>by cases hq;exact⟨h,List.prefix_rfl,rfl,λ e=>by cases e⟩
 | .name ..,Ls,n,q,h,hq=>by cases hq;exact⟨h,List.prefix_rfl,rfl,λ e=>by cases e⟩
 | .index ..,Ls,n,q,h,hq=>by cases hq;exact⟨h,List.prefix_rfl,rfl,λ e=>by cases e⟩
 | .call ..,Ls,n,q,h,hq=>by cases hq;exact⟨h,List.prefix_rfl,rfl,λ e=>by cases e⟩
 | .un ..,Ls,n,q,h,hq=>by cases hq;exact⟨h,List.prefix_rfl,rfl,λ e=>by cases e⟩
 | .bin ..,Ls,n,q,h,hq=>by cases hq;exact⟨h,List.prefix_rfl,rfl,λ e=>by cases e⟩
end Go.Lang
