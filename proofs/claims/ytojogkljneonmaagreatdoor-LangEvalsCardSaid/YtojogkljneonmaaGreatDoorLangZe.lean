/- The two ways to run a program agree. No condition. -/
import Derived.Test.YtojogkljneonmaaGreatDoorLangMp
import Derived.Test.YtojogkljneonmaaGreatDoorSxB
import Derived.Test.YtojogkljneonmaaGreatDoorLangVh
import Derived.Test.YtojogkljneonmaaGreatDoorChecked
import Derived.Test.YtojogkljneonmaaGreatDoorLangZd
set_option linter.unusedVariables false
set_option linter.unusedSimpArgs false
namespace Go.Lang
variable {E:ByteArray->UInt32->UInt32->UInt32}{F:Ft}{lk:Lk}{ds:List D}
structure LkS (F:Ft) (lk:Lk) (ds:List D):Prop where
 v:∀ s w z,lk s=some (.var w z)->0≤w/\bl ds s=w.toNat/\Bt ds s=z
 f:∀ s k np,lk s=some (.fn k np)->∃ (t:Tok) (nm:ByteArray) (ps:List ByteArray) (s0 no:Int) (b:T) (n:Nat) (p:Lcs×Nat) (r:T×Lcs×Nat),sq ds s=some (.fn t nm ps s0 no b)/\ps.length=np/\b.nok/\pz lk t.line ps [] 0= .ok p/\cst lk b p.1 p.2= .ok r/\F k=some (n,r.1)/\r.2.2=n
def Gi (Ls:Lcs) (N:Nat) (s:Rn) (r:Rw):Prop:=Rel Ls s r/\s.slots.length=N
def Sim (P:List UInt32->Rn->Rw->Prop):Rs Rn->Rs Rw->Prop
 | .ok v s,.ok u r=>v=u/\P v s r
 | .stop k s,.stop j r=>k=j/\r.words=s.words/\r.out=s.out
 | .out,.out=>True
 | _,_=>False
theorem cx {P Q:List UInt32->Rn->Rw->Prop}{a:Rs Rn}{b:Rs Rw}{k:List UInt32->Rn->Rs Rn}{k':List UInt32->Rw->Rs Rw} (h:Sim P a b) (hk:∀ v s r,a= .ok v s->P v s r->Sim Q (k v s) (k' v r)):Sim Q (a.bind k) (b.bind k'):=by
 cases a with
 | ok v s=>cases b with
  | ok u r=>obtain⟨e,h⟩:=h;subst e;exact hk v s r rfl h
  | stop=>exact h.elim
  | out=>exact h.elim
 | stop n s=>cases b with
  | ok u r=>exact h.elim
  | stop=>exact h
  | out=>exact h.elim
 | out=>cases b with
  | ok u r=>exact h.elim
  | stop=>exact h.elim
  | out=>trivial
theorem cy {Q:List UInt32->Rn->Rw->Prop}{Ls:Lcs}{N:Nat}{s:Rn}{r:Rw}{k:Rn->Rs Rn}{k':Rw->Rs Rw} (h:Gi Ls N s r) (hk:∀ s1 r1,Gi Ls N s1 r1->Sim Q (k s1) (k' r1)):Sim Q (s.step k) (r.step k'):=by
 obtain⟨⟨h1,h2,h3,h4,h5⟩,h6⟩:=h;unfold Rn.step Rw.step;rw[h3];split
 ·exact⟨rfl,h1,h2⟩
 ·exact hk _ _ ⟨⟨h1,h2,by rfl,h4,h5⟩,h6⟩
theorem Th {x:T}{Ls:Lcs}{n:Nat}{q:T×Lcs×Nat} (hq:cst lk x Ls n= .ok q):q.1.isNil=x.isNil:=by
 cases x <;> unfold cst at hq
 case letS=>obtain⟨_,_,hq⟩:=C.bind_ok hq;obtain⟨_,_,hq⟩:=C.bind_ok hq;cases hq;rfl
 case setS=>obtain⟨_,_,hq⟩:=C.bind_ok hq;obtain⟨_,_,hq⟩:=C.bind_ok hq;cases hq;rfl
 case putS=>obtain⟨_,_,hq⟩:=C.bind_ok hq;obtain⟨_,_,hq⟩:=C.bind_ok hq;obtain⟨_,_,hq⟩:=C.bind_ok hq;cases hq;rfl
 case ifS=>obtain⟨_,_,hq⟩:=C.bind_ok hq;obtain⟨_,_,hq⟩:=C.bind_ok hq;obtain⟨_,_,hq⟩:=C.bind_ok hq;cases hq;rfl
 case whileS=>obtain⟨_,_,hq⟩:=C.bind_ok hq;obtain⟨_,_,hq⟩:=C.bind_ok hq;cases hq;rfl
 case retS=>obtain⟨_,_,hq⟩:=C.bind_ok hq;cases hq;rfl
 case prtS=>obtain⟨_,_,hq⟩:=C.bind_ok hq;cases hq;rfl
 case doS=>obtain⟨_,_,hq⟩:=C.bind_ok hq;cases hq;rfl
 case block=>obtain⟨_,_,hq⟩:=C.bind_ok hq;cases hq;rfl
 case cons=>obtain⟨_,_,hq⟩:=C.bind_ok hq;obtain⟨_,_,hq⟩:=C.bind_ok hq;cases hq;rfl
 all_goals (cases hq;rfl)
theorem bu {Ls:Lcs}{x x':T}{b:Nat} (h:ck lk Ls x b= .ok x'):gd lk Ls x= .ok x':=by
 unfold ck at h;obtain⟨y,hy,h⟩:=C.bind_ok h;split at h
 ·cases h
 ·cases h;exact hy
theorem My (hl:LkS F lk ds){Ls:Lcs}{N:Nat}{s:Rn}{r:Rw}{t:Tok}{w:Int}{p:Int×Int} (hp:sj lk Ls t w= .ok p) (hs:Sc Ls N) (h:Gi Ls N s r):r.get ds t.s=s.get p.1 p.2/\∀ v,Gi Ls N (s.set p.1 p.2 v) (r.set ds t.s v):=by
 obtain⟨⟨h1,h2,h3,h4,h5⟩,h6⟩:=h;unfold sj at hp;rcases nq (Ls:=Ls) (nm:=t.s) s.slots with ⟨a,b⟩ | ⟨i,q,a,b,c,d⟩
 ·rw[if_neg (by omega)] at hp;split at hp
  ·rename_i wd z hz;split at hp
   ·cases hp
   ·cases hp;obtain⟨g1,g2, -⟩:=hl.v _ _ _ hz;refine⟨?_,λ v=>?_⟩
    ·unfold Rw.get Rn.get;rw[h5,b]
     try dsimp only
     rw[if_neg (by omega),g2,h1]
    ·unfold Rw.set Rn.set;rw[h5,b]
     try dsimp only
     rw[if_neg (by omega),g2,h1];exact⟨⟨rfl,h2,h3,h4,rfl⟩,h6⟩
  ·cases hp
 ·rw[if_pos (by omega)] at hp;cases hp;have hil:=(List.getElem?_eq_some_iff.1 a).1;refine⟨?_,λ v=>?_⟩
  ·unfold Rw.get Rn.get;rw[h5,d]
   try dsimp only
   rw[if_pos (by omega),c];unfold dy;rw[List.getElem?_map,a];rfl
  ·unfold Rw.set Rn.set;rw[h5,d]
   try dsimp only
   rw[if_pos (by omega),c];refine⟨⟨h1,h2,h3,h4,?_⟩,by simpa using h6⟩;show(dy Ls s.slots).set i (t.s,v)=dy Ls (s.slots.set ((q.2:Int)).toNat v);rw[Int.toNat_natCast,<- Xu hs (by omega) a,b]
theorem Ti (hl:LkS F lk ds){Ls:Lcs}{t:Tok}{p:Int×Int} (hp:Km lk Ls t= .ok p):bl ds t.s=p.1.toNat/\Bt ds t.s=p.2:=by
 unfold Km at hp;split at hp
 ·rename_i wd z hz;obtain⟨g1,g2,g3⟩:=hl.v _ _ _ hz;split at hp
  ·cases hp
  split at hp
  ·cases hp
  ·cases hp;exact⟨g2,g3⟩
 ·cases hp
theorem Mz {ps:List ByteArray}{args:List UInt32}{k:Nat} (h:args.length=ps.length):dy (ps.zipIdx 0) (args++List.replicate k 0)=ps.zip args:=by
 apply List.ext_getElem?;intro i;unfold dy List.zip;rw[List.getElem?_map,List.getElem?_zipIdx,List.getElem?_zipWith];by_cases hi:i<ps.length
 ·have h2:i<args.length:=by omega
  rw[List.getElem?_eq_getElem hi,List.getElem?_eq_getElem h2];simp only[Option.map_some,Nat.zero_add];rw[List.getD_eq_getElem?_getD,List.getElem?_append_left h2,List.getElem?_eq_getElem h2];rfl
 ·rw[List.getElem?_eq_none (by omega)];rfl
def PE (Ls:Lcs) (N:Nat) (_:List UInt32) (s:Rn) (r:Rw):Prop:=Gi Ls N s r
def PS (Ls L1:Lcs) (N:Nat) (v:List UInt32) (s:Rn) (r:Rw):Prop:=(v=[]->Gi L1 N s r)/\∃ L',Ls <+: L'/\Gi L' N s r
structure SimF (E:ByteArray->UInt32->UInt32->UInt32) (F:Ft) (lk:Lk) (ds:List D) (f:Nat):Prop where
 e:∀ (x x':T) (Ls:Lcs) (N:Nat) (s:Rn) (r:Rw),gd lk Ls x= .ok x'->Sc Ls N->Gi Ls N s r->Sim (PE Ls N) (go E F f (.e x') s) (rgo E ds f (.e x) r)
 al:∀ (x x':T) (Ls:Lcs) (N:Nat) (s:Rn) (r:Rw),gd lk Ls x= .ok x'->Sc Ls N->Gi Ls N s r->Sim (PE Ls N) (go E F f (.al x') s) (rgo E ds f (.al x) r)
 en:∀ (nm:ByteArray) (k np:Nat) (args:List UInt32) (Ls:Lcs) (N:Nat) (s:Rn) (r:Rw),lk nm=some (.fn k np)->args.length=np->Gi Ls N s r->Sim (PE Ls N) (go E F f (.en k args) s) (rgo E ds f (.en nm args) r)
 s:∀ (x:T) (q:T×Lcs×Nat) (Ls:Lcs) (n N:Nat) (s:Rn) (r:Rw),x.nok->cst lk x Ls n= .ok q->Sc Ls n->q.2.2≤N->Gi Ls N s r->Sim (PS Ls q.2.1 N) (go E F f (.s q.1) s) (rgo E ds f (.s x) r)
 ss:∀ (x:T) (q:T×Lcs×Nat) (Ls:Lcs) (n N:Nat) (s:Rn) (r:Rw),x.nok->cst lk x Ls n= .ok q->Sc Ls n->q.2.2≤N->Gi Ls N s r->Sim (PS Ls q.2.1 N) (go E F f (.ss q.1) s) (rgo E ds f (.ss x) r)
 w:∀ (c c' x:T) (q:T×Lcs×Nat) (Ls:Lcs) (n N:Nat) (s:Rn) (r:Rw),x.nok->x.isBlk=true->gd lk Ls c= .ok c'->cst lk x Ls n= .ok q->Sc Ls n->q.2.2≤N->Gi Ls N s r->Sim (PS Ls Ls N) (go E F f (.w c' q.1) s) (rgo E ds f (.w c x) r)
theorem Xx {P Q:List UInt32->Rn->Rw->Prop}{a:Rs Rn}{b:Rs Rw} (h:Sim P a b) (hk:∀ v s r,P v s r->Q v s r):Sim Q a b:=by
 cases a <;> cases b <;> first | exact h.elim | exact h | exact⟨h.1,hk _ _ _ h.2⟩
theorem Tj (hl:LkS F lk ds){f:Nat} (ih:SimF E F lk ds f):SimF E F lk ds (f+1):=by
 refine⟨?_,?_,?_,?_,?_,?_⟩
 ·intro x x' Ls N s r hx hs h
  cases x with
  | num v l=>cases hx;exact cy h λ s1 r1 h1=>⟨rfl,h1⟩
  | name t sl w =>
   obtain⟨p,hp,hx⟩:=C.bind_ok hx;cases hx;exact cy h λ s1 r1 h1=>⟨by rw[(My hl hp hs h1).1],h1⟩
  | index t w z p =>
   obtain⟨a,ha,hx⟩:=C.bind_ok hx;obtain⟨p',hp,hx⟩:=C.bind_ok hx;cases hx;obtain⟨g1,g2⟩:=Ti hl ha;refine cy h λ s1 r1 h1=>cx (ih.e p p' Ls N s1 r1 hp hs h1) λ v s2 r2 _ h2=>?_;have hw:r2.words=s2.words:=h2.1.1;have ho:r2.out=s2.out:=h2.1.2.1
   try dsimp only
   rw[g2,g1,hw];split
   ·exact⟨rfl,hw,ho⟩
   ·exact⟨rfl,h2⟩
  | call t fa xs =>
   rw[gd] at hx;split at hx
   ·rename_i k np hlk;split at hx
    ·cases hx
    split at hx
    ·cases hx
    rename_i hnp;obtain⟨xs',hxs,hx⟩:=C.bind_ok hx;cases hx;refine cy h λ s1 r1 h1=>cx (ih.al xs xs' Ls N s1 r1 hxs hs h1) λ v s2 r2 ho h2=>?_;have hv:v.length=xs'.len:=(gk ho).2.2.2.2.2;have hxl:=(ga lk Ls xs xs' hxs).1;exact ih.en t.s k np v Ls N s2 r2 hlk (by omega) h2
   ·cases hx
  | un t x =>
   obtain⟨p',hp,hx⟩:=C.bind_ok hx;cases hx;exact cy h λ s1 r1 h1=>cx (ih.e x p' Ls N s1 r1 hp hs h1) λ v s2 r2 _ h2=>⟨rfl,h2⟩
  | bin t x y =>
   obtain⟨p',hp,hx⟩:=C.bind_ok hx;obtain⟨q',hq,hx⟩:=C.bind_ok hx;cases hx;refine cy h λ s1 r1 h1=>cx (ih.e x p' Ls N s1 r1 hp hs h1) λ v s2 r2 _ h2=>?_
   try dsimp only
   split
   ·exact⟨rfl,h2⟩
   split
   ·exact⟨rfl,h2⟩
   exact cx (ih.e y q' Ls N s2 r2 hq hs h2) λ u s3 r3 _ h3=>⟨rfl,h3⟩
  | cons x y =>
   obtain⟨p',hp,hx⟩:=C.bind_ok hx;obtain⟨q',hq,hx⟩:=C.bind_ok hx;cases hx;exact cy h λ s1 r1 h1=>trivial
  | _=>cases hx;exact cy h λ s1 r1 h1=>trivial
 ·intro x x' Ls N s r hx hs h
  cases x with
  | cons x y =>
   obtain⟨p',hp,hx⟩:=C.bind_ok hx;obtain⟨q',hq,hx⟩:=C.bind_ok hx;cases hx;exact cx (ih.e x p' Ls N s r hp hs h) λ v s2 r2 _ h2=>cx (ih.al y q' Ls N s2 r2 hq hs h2) λ u s3 r3 _ h3=>⟨rfl,h3⟩
  | name t sl w =>
   obtain⟨p,hp,hx⟩:=C.bind_ok hx;cases hx;trivial
  | index t w z p =>
   obtain⟨a,ha,hx⟩:=C.bind_ok hx;obtain⟨p',hp,hx⟩:=C.bind_ok hx;cases hx;trivial
  | call t fa xs =>
   rw[gd] at hx;split at hx
   ·split at hx
    ·cases hx
    split at hx
    ·cases hx
    obtain⟨xs',hxs,hx⟩:=C.bind_ok hx;cases hx;trivial
   ·cases hx
  | un t x =>
   obtain⟨p',hp,hx⟩:=C.bind_ok hx;cases hx;trivial
  | bin t x y =>
   obtain⟨p',hp,hx⟩:=C.bind_ok hx;obtain⟨q',hq,hx⟩:=C.bind_ok hx;cases hx;trivial
  | nil=>cases hx;exact⟨rfl,h⟩
  | _=>cases hx;trivial
 ·intro nm k np args Ls N s r hlk ha h;obtain⟨t,nm',ps,s0,no,b,n,p,q,h1,h2,h3,h4,h5,h6,h7⟩:=hl.f _ _ _ hlk;rw[aem h6,Zz h1];obtain⟨p1,p2,p3⟩:=uw ps t.line [] 0 p ⟨List.nodup_nil,List.nodup_nil,λ p hp=>by cases hp⟩ h4;obtain⟨c1,c2,c3, -⟩:=gr b _ _ q p1 h5
  have hn:ps.length+lets b=n:=by omega
  obtain⟨⟨g1,g2,g3,g4,g5⟩,g6⟩:=h;rw[hn,g4];split
  ·exact⟨rfl,g1,g2⟩
  ·rename_i hr;refine cx (ih.s b q p.1 p.2 n _ _ h3 h5 p1 (by omega) ⟨⟨g1,g2,g3,rfl,?_⟩,?_⟩) λ v s2 r2 ho h8=>?_
   ·rw[p3,List.nil_append];exact(Mz (by omega)).symm
   ·show(args++List.replicate (n - args.length) 0).length=n;rw[List.length_append,List.length_replicate];omega
   ·obtain⟨-,L', -,⟨e1,e2,e3,e4,e5⟩,e6⟩:=h8;exact⟨rfl,⟨e1,e2,e3,by simp only;omega,g5⟩,g6⟩
 ·intro x q Ls n N s r hn hq hs hN h;have hsc:=gr x Ls n q hs hq;have hSN:Sc Ls N:=hs.mono (by omega)
  cases x with
  | block l xs =>
   obtain⟨l',hx,hq⟩:=C.bind_ok hq;cases hq;refine cy h λ s1 r1 h1=>?_;have hsm:=ih.ss xs l' Ls n N s1 r1 hn hx hs hN h1
   have hlen:r1.locals.length=Ls.length:=by
    have:=h1.1.2.2.2.2;rw[this];unfold dy;simp
   show Sim _ (go E F f (.ss l'.1) s1) ((rgo E ds f (.ss xs) r1).bind λ v s'=>.ok v { s' with locals:=s'.locals.take r1.locals.length });revert hsm
   cases go E F f (.ss l'.1) s1 with
   | ok v s2=>cases rgo E ds f (.ss xs) r1 with
    | ok u r2 =>
     rintro⟨e, -,L',hL,⟨e1,e2,e3,e4,e5⟩,e6⟩;have:Gi Ls N s2 { r2 with locals:=r2.locals.take r1.locals.length }:=⟨⟨e1,e2,e3,e4,by simp only;rw[e5,hlen,Tg hL]⟩,e6⟩;exact⟨e,λ _=>this,Ls,List.prefix_rfl,this⟩
    | stop=>exact λ h=>h.elim
    | out=>exact λ h=>h.elim
   | stop n s2=>cases rgo E ds f (.ss xs) r1 with
    | ok u r2=>exact λ h=>h.elim
    | stop=>exact λ h=>h
    | out=>exact λ h=>h.elim
   | out=>cases rgo E ds f (.ss xs) r1 with
    | ok u r2=>exact λ h=>h.elim
    | stop=>exact λ h=>h.elim
    | out=>exact λ _=>trivial
  | letS t nm sl w x =>
   obtain⟨x',hx,hq⟩:=C.bind_ok hq;obtain⟨p,hp,hq⟩:=C.bind_ok hq;obtain⟨e,hs'⟩:=Fb hs hp;subst e;cases hq;refine cy h λ s1 r1 h1=>cx (ih.e x x' Ls N s1 r1 (bu hx) hSN h1) λ v s2 r2 _ h2=>?_;obtain⟨⟨e1,e2,e3,e4,e5⟩,e6⟩:=h2;have hN:n+1≤N:=hN
   have:Gi (Ls++[(nm.s,n)]) N (s2.set (n:Int) w (hd v)) { r2 with locals:=r2.locals++[(nm.s,hd v)] }:=by
    unfold Rn.set;rw[if_pos (by omega),Int.toNat_natCast];refine⟨⟨e1,e2,e3,e4,?_⟩,by simpa using e6⟩;simp only;rw[e5,Xv hs (by omega)]
   exact⟨rfl,λ _=>this,_,List.prefix_append _ _,this⟩
  | setS t sl w x =>
   obtain⟨p,hp,hq⟩:=C.bind_ok hq;obtain⟨x',hx,hq⟩:=C.bind_ok hq;cases hq;refine cy h λ s1 r1 h1=>cx (ih.e x x' Ls N s1 r1 (bu hx) hSN h1) λ v s2 r2 _ h2=>?_;have:=(My hl hp hSN h2).2 (hd v);exact⟨rfl,λ _=>this,_,List.prefix_rfl,this⟩
  | putS t w z p x =>
   obtain⟨a,ha,hq⟩:=C.bind_ok hq;obtain⟨p',hp,hq⟩:=C.bind_ok hq;obtain⟨x',hx,hq⟩:=C.bind_ok hq;cases hq;obtain⟨g1,g2⟩:=Ti hl ha;refine cy h λ s1 r1 h1=>cx (ih.e p p' Ls N s1 r1 (bu hp) hSN h1) λ v s2 r2 _ h2=>cx (ih.e x x' Ls N s2 r2 (bu hx) hSN h2) λ u s3 r3 _ h3=>?_;obtain⟨⟨e1,e2,e3,e4,e5⟩,e6⟩:=h3
   try dsimp only
   rw[g2,g1];split
   ·exact⟨rfl,e1,e2⟩
   ·have:Gi Ls N { s3 with words:=s3.words.set (a.1.toNat+(hd v).toNat) (hd u) } { r3 with words:=r3.words.set (a.1.toNat+(hd v).toNat) (hd u) }:=⟨⟨by simp only;rw[e1],e2,e3,e4,e5⟩,e6⟩;exact⟨rfl,λ _=>this,_,List.prefix_rfl,this⟩
  | ifS l c a b =>
   obtain⟨c',hc,hq⟩:=C.bind_ok hq;obtain⟨a',ha,hq⟩:=C.bind_ok hq;obtain⟨b',hb,hq⟩:=C.bind_ok hq;cases hq;obtain⟨n1,n2,n3,n4,n5⟩:=hn;obtain⟨a1,a2,a3,a4⟩:=gr a Ls n a' hs ha;have e0:=a4 n4;obtain⟨b1,b2,b3,b4⟩:=gr b _ _ b' a1 hb;have hN:b'.2.2≤N:=hN
   have eb:b'.2.1=Ls:=by
    rcases n5 with n5 | n5
    ·rw[b4 n5,e0]
    ·cases b with
     | nil=>cases hb;exact e0
     | _=>cases n5
   refine cy h λ s1 r1 h1=>cx (ih.e c c' Ls N s1 r1 (bu hc) hSN h1) λ v s2 r2 _ h2=>?_
   try dsimp only
   rw[Th hb];show Sim (PS Ls b'.2.1 N) _ _;rw[eb];split
   ·have:=ih.s a a' Ls n N s2 r2 n2 ha hs (by omega) h2;rw[e0] at this;exact this
   split
   ·exact⟨rfl,λ _=>h2,_,List.prefix_rfl,h2⟩
   ·have:=ih.s b b' a'.2.1 a'.2.2 N s2 r2 n3 hb a1 (by omega) (by rw[e0];exact h2);rw[e0,eb] at this;exact this
  | whileS l c b =>
   obtain⟨c',hc,hq⟩:=C.bind_ok hq;obtain⟨b',hb,hq⟩:=C.bind_ok hq;cases hq;obtain⟨n1,n2,n3⟩:=hn;refine cy h λ s1 r1 h1=>?_;have:=ih.w c c' b b' Ls n N s1 r1 n2 n3 (bu hc) hb hs hN h1;have e0:=(gr b Ls n b' hs hb).2.2.2 n3;show Sim (PS Ls b'.2.1 N) _ _;rw[e0];exact this
  | retS l x =>
   obtain⟨x',hx,hq⟩:=C.bind_ok hq;cases hq;exact cy h λ s1 r1 h1=>cx (ih.e x x' Ls N s1 r1 (bu hx) hSN h1) λ v s2 r2 _ h2=>⟨rfl,λ _=>h2,_,List.prefix_rfl,h2⟩
  | prtS l x =>
   obtain⟨x',hx,hq⟩:=C.bind_ok hq;cases hq;refine cy h λ s1 r1 h1=>cx (ih.e x x' Ls N s1 r1 (bu hx) hSN h1) λ v s2 r2 _ h2=>?_;obtain⟨⟨e1,e2,e3,e4,e5⟩,e6⟩:=h2;have:Gi Ls N { s2 with out:=s2.out++[(hd v).toUInt8] } { r2 with out:=r2.out++[(hd v).toUInt8] }:=⟨⟨e1,by simp only;rw[e2],e3,e4,e5⟩,e6⟩;exact⟨rfl,λ _=>this,_,List.prefix_rfl,this⟩
  | doS l x =>
   obtain⟨x',hx,hq⟩:=C.bind_ok hq;cases hq;exact cy h λ s1 r1 h1=>cx (ih.e x x' Ls N s1 r1 (bu hx) hSN h1) λ v s2 r2 _ h2=>⟨rfl,λ _=>h2,_,List.prefix_rfl,h2⟩
  | cons x xs =>
   obtain⟨a,ha,hq⟩:=C.bind_ok hq;obtain⟨b,hb,hq⟩:=C.bind_ok hq;cases hq;exact cy h λ s1 r1 h1=>trivial
  | _=>cases hq;exact cy h λ s1 r1 h1=>trivial
 ·intro x q Ls n N s r hn hq hs hN h
  cases x with
  | cons x xs =>
   obtain⟨a,ha,hq⟩:=C.bind_ok hq;obtain⟨b,hb,hq⟩:=C.bind_ok hq;cases hq;obtain⟨a1,a2,a3,a4⟩:=gr x Ls n a hs ha;obtain⟨b1,b2,b3,b4⟩:=gr xs _ _ b a1 hb;have hN:b.2.2≤N:=hN;refine cx (ih.s x a Ls n N s r hn.1 ha hs (by omega) h) λ v s2 r2 _ h2=>?_
   try dsimp only
   by_cases hv:v=[]
   ·rw[if_pos hv,if_pos hv];refine Xx (ih.ss xs b a.2.1 a.2.2 N s2 r2 hn.2 hb a1 hN (h2.1 hv)) ?_;rintro v s3 r3 ⟨g1,L',g2,g3⟩;exact⟨g1,L',a2.trans g2,g3⟩
   ·rw[if_neg hv,if_neg hv];exact⟨rfl,λ e=>absurd e hv,h2.2⟩
  | nil=>cases hq;exact⟨rfl,λ _=>h,_,List.prefix_rfl,h⟩
  | letS=>obtain⟨_,_,hq⟩:=C.bind_ok hq;obtain⟨_,_,hq⟩:=C.bind_ok hq;cases hq;trivial
  | setS=>obtain⟨_,_,hq⟩:=C.bind_ok hq;obtain⟨_,_,hq⟩:=C.bind_ok hq;cases hq;trivial
  | putS=>obtain⟨_,_,hq⟩:=C.bind_ok hq;obtain⟨_,_,hq⟩:=C.bind_ok hq;obtain⟨_,_,hq⟩:=C.bind_ok hq;cases hq;trivial
  | ifS=>obtain⟨_,_,hq⟩:=C.bind_ok hq;obtain⟨_,_,hq⟩:=C.bind_ok hq;obtain⟨_,_,hq⟩:=C.bind_ok hq;cases hq;trivial
  | whileS=>obtain⟨_,_,hq⟩:=C.bind_ok hq;obtain⟨_,_,hq⟩:=C.bind_ok hq;cases hq;trivial
  | retS=>obtain⟨_,_,hq⟩:=C.bind_ok hq;cases hq;trivial
  | prtS=>obtain⟨_,_,hq⟩:=C.bind_ok hq;cases hq;trivial
  | doS=>obtain⟨_,_,hq⟩:=C.bind_ok hq;cases hq;trivial
  | block=>obtain⟨_,_,hq⟩:=C.bind_ok hq;cases hq;trivial
  | _=>cases hq;trivial
 ·intro c c' x q Ls n N s r hn hb hc hq hs hN h;have hSN:Sc Ls N:=hs.mono (by have:=(gr x Ls n q hs hq).2.2.1;omega);have e0:=(gr x Ls n q hs hq).2.2.2 hb;refine cx (ih.e c c' Ls N s r hc hSN h) λ v s2 r2 _ h2=>?_
  try dsimp only
  split
  ·exact⟨rfl,λ _=>h2,_,List.prefix_rfl,h2⟩
  refine cx (ih.s x q Ls n N s2 r2 hn hq hs hN h2) λ v s3 r3 _ h3=>?_;rw[e0] at h3
  try dsimp only
  by_cases hv:v=[]
  ·rw[if_pos hv,if_pos hv];exact ih.w c c' x q Ls n N s3 r3 hn hb hc hq hs hN (h3.1 hv)
  ·rw[if_neg hv,if_neg hv];exact⟨rfl,λ e=>absurd e hv,h3.2⟩
theorem abw (hl:LkS F lk ds):∀ f,SimF E F lk ds f
 | 0=>⟨λ _ _ _ _ _ _ _ _ _=>trivial,λ _ _ _ _ _ _ _ _ _=>trivial,λ _ _ _ _ _ _ _ _ _ _ _=>trivial,λ _ _ _ _ _ _ _ _ _ _ _ _=>trivial,λ _ _ _ _ _ _ _ _ _ _ _ _=>trivial,λ _ _ _ _ _ _ _ _ _ _ _ _ _ _ _ _=>trivial⟩
 | f+1=>Tj hl (abw hl f)
end Go.Lang
namespace Go.Proofs.YtojogkljneonmaaGreatDoor
open Go Go.Proofs.Tryz Go.Proofs Go.V
set_option maxRecDepth 100000
variable {W:World}{Q:Ending->World->Prop}
def Bu:List Nat:=[70,21,40,71,73,105]
theorem als (r:Nat) (ro:Nat)
 (hVC:ldI .i64 W r (ro+2) λ z=>Sx.split (z==0) (Q (Ending.panicked [PanicEntry.mk (Value.iface 70 (Value.int .i64 0)) false false]) W) (ldI .i64 W r (ro+2) λ z2=>nm (IntKind.wrap .i64 (z2 - 1)) λ z3=>sto W r (ro+2) (Value.int .i64 z3) λ W2=>Q (.returned (.tuple #[])) W2)) :
 Calls prog 70 #[pp r ro] W Q :=
 Sx.sound (pk:=Bu) func70 .leaf [pp r ro] rfl (Eq.mp (by kernel_rfl) hVC)
theorem alt (y0:Nat) (Y0:Nat) (y1:Nat) (Y1:Nat) (y2:Option Addr) (arg2n:Nat) (arg2c:Nat)
 (hVC:nm (World.drew W) λ W2=>ldI .i64 W2 y0 (Y0+3) λ z=>rI prog .i64 39 #[pp y1 Y1] W2 λ z2 W3=>(ldI .i64 W3 y0 (Y0+3) λ z3=>Value.int .i64 z3=Value.int .i64 z)/\Sx.split (decide (z<z2)) (Q (Ending.panicked [PanicEntry.mk (Value.iface 70 (Value.int .i64 2)) false false]) W3) (ldL W3 y0 (Y0+4) λ p k k2=>nm (World.drew W3) λ W4=>ldI .i64 W4 y0 (Y0+3) λ z4=>rI prog .i64 39 #[pp y1 Y1] W4 λ z5 W5=>(ldI .i64 W5 y0 (Y0+3) λ z6=>Value.int .i64 z6=Value.int .i64 z4)/\nm (IntKind.wrap .i64 (z4 - z5)) λ z7=>sto W5 y0 (Y0+3) (Value.int .i64 z7) λ W6=>ldI .i64 W6 y1 (Y1+6) λ z8=>nm (IntKind.wrap .i64 (z8 - (↑arg2n:Int))) λ z9=>∃ l:List Value,XHeap.Sl W6 32 1 (Value.slice y2 arg2n arg2c) arg2n l/\((0:Int)≤z9/\arg2n+z9.toNat≤maxLen/\(arg2n+z9.toNat) * 4≤140737488355328)/\∀ p2:Option Addr,∀ k3:Nat,∀ W7:World,XHeap.Sl W7 32 1 (Value.slice p2 (arg2n+z9.toNat) k3) (arg2n+z9.toNat) (l++List.replicate (z9.toNat) (Value.int .u32 0))->XHeap.XTouch (λ b=>Value.ownBlock (Value.slice y2 arg2n arg2c)=some b) W6 W7->(∀ k4:Nat,(Value.ownBlock (Value.slice p2 (arg2n+z9.toNat) k3)=some k4->((Value.ownBlock (Value.slice y2 arg2n arg2c)=some k4)∨(Array.size (World.heap W6)≤k4))))->sto W7 y0 (Y0+4) (Value.slice p2 (arg2n+z9.toNat) k3) λ W8=>ldP W8 y1 (Y1+5) λ p3=>Calls prog 40 #[pp y0 Y0,.iface 113 (Value.pointer p3)] W8 λ e3 W9=>(∃ z10:Int,∃ t:Bool,e3= .returned (.tuple #[.int .u32 z10,.bool t])/\sto W9 y0 (Y0+4) (Value.slice p k k2) λ W10=>nm (World.drew W10) λ W11=>ldI .i64 W11 y0 (Y0+3) λ z11=>rI prog .i64 39 #[pp y1 Y1] W11 λ z12 W12=>(ldI .i64 W12 y0 (Y0+3) λ z13=>Value.int .i64 z13=Value.int .i64 z11)/\nm (IntKind.wrap .i64 (z11+z12)) λ z14=>sto W12 y0 (Y0+3) (Value.int .i64 z14) λ W13=>Q (.returned (.int .u32 z10)) W13)∨(∃ l2:List PanicEntry,e3=Ending.panicked l2/\Q (Ending.panicked l2) W9))) :
 Calls prog 21 #[pp y0 Y0,pp y1 Y1,.slice y2 arg2n arg2c] W Q :=
 Sx.sound (pk:=Bu) func21 (.r (.n (.n (.node [] [] 1001006 .leaf .leaf) .leaf) (.r (.n (.node [] [] 1001006 .leaf .leaf) (.r (.r (.r (.n (.node [] [] 1001006 .leaf .leaf) .leaf)))))))) [pp y0 Y0,pp y1 Y1,.slice y2 arg2n arg2c] rfl (Eq.mp (by kernel_rfl) hVC)
theorem alv (r:Nat) (ro:Nat) (n:Nat) (no:Nat)
 (hVC:ldI .i64 W n (no+3) λ z=>Sx.split (decide (z ≥ 0)) (ldL W r (ro+4) λ p k k2=>ldI .i64 W n (no+3) λ z2=>ixs z2 k p λ k3 k4=>∀ W2:World,∀ k5:Nat,W2=World.drewN W k5->Q (.returned (.pointer (some ⟨k3,(k4+z2.toNat * 1),none⟩))) W2) (ldL W r ro λ p2 k6 k7=>ldI .i64 W n (no+4) λ z3=>ixs z3 k6 p2 λ k8 k9=>∀ W3:World,∀ k10:Nat,W3=World.drewN W k10->Q (.returned (.pointer (some ⟨k8,(k9+z3.toNat * 1),none⟩))) W3)) :
 Calls prog 72 #[pp r ro,pp n no] W Q :=
 Sx.sound (pk:=Bu) func72 .leaf [pp r ro,pp n no] rfl (Eq.mp (by kernel_rfl) hVC)
theorem alw (r:Nat) (ro:Nat) (i:Nat) (io:Nat) (k:Int)
 (hVC:ldI .u32 W i (io+4) λ z=>Sx.split (decide (k ≥ z)) (Q (Ending.panicked [PanicEntry.mk (Value.iface 70 (Value.int .i64 1)) false false]) W) (ldL W r ro λ p k2 k3=>ldI .i64 W i (io+3) λ z2=>nm (IntKind.wrap .i64 k) λ z3=>nm (IntKind.wrap .i64 (z2+z3)) λ z4=>ixs z4 k2 p λ k4 k5=>∀ W2:World,∀ k6:Nat,W2=World.drewN W k6->Q (.returned (.pointer (some ⟨k4,(k5+z4.toNat * 1),none⟩))) W2)) :
 Calls prog 73 #[pp r ro,pp i io,.int .u32 k] W Q :=
 Sx.sound (pk:=Bu) func73 .leaf [pp r ro,pp i io,.int .u32 k] rfl (Eq.mp (by kernel_rfl) hVC)
theorem aif (sign:ByteArray)
 (hVC:Sx.split (sign.toList==ByteArray.toList (.mk #[124])) (Q (.returned (.int .i64 36)) W) (Sx.split (sign.toList==ByteArray.toList (.mk #[94])) (Q (.returned (.int .i64 33)) W) (Sx.split (sign.toList==ByteArray.toList (.mk #[38])) (Q (.returned (.int .i64 37)) W) (Sx.split (sign.toList==ByteArray.toList (.mk #[60])) (Q (.returned (.int .i64 31)) W) (Sx.split (sign.toList==ByteArray.toList (.mk #[60,60])) (Q (.returned (.int .i64 30)) W) (Sx.split (sign.toList==ByteArray.toList (.mk #[62,62])) (Q (.returned (.int .i64 35)) W) (Sx.split (sign.toList==ByteArray.toList (.mk #[43])) (Q (.returned (.int .i64 28)) W) (Sx.split (sign.toList==ByteArray.toList (.mk #[45])) (Q (.returned (.int .i64 29)) W) (Sx.split (sign.toList==ByteArray.toList (.mk #[42])) (Q (.returned (.int .i64 38)) W) (Sx.split (sign.toList==ByteArray.toList (.mk #[47])) (Q (.returned (.int .i64 42)) W) (Sx.split (sign.toList==ByteArray.toList (.mk #[37])) (Q (.returned (.int .i64 44)) W) (Q (.returned (.int .i64 0)) W)))))))))))) :
 Calls prog 121 #[.string sign] W Q :=
 Sx.sound (pk:=Bu) func121 .leaf [Value.string sign] rfl (Eq.mp (by kernel_rfl) hVC)
theorem aig (b:Bool)
 (hVC:Sx.split b (Q (.returned (.int .u32 1)) W) (Q (.returned (.int .u32 0)) W)) :
 Calls prog 104 #[.bool b] W Q :=
 Sx.sound (pk:=Bu) func104 .leaf [Value.bool b] rfl (Eq.mp (by kernel_rfl) hVC)
theorem alx (y0:Nat) (Y0:Nat) (y1:Value)
 (hVC:pU prog 70 #[pp y0 Y0] W Q λ W2=>Sx.tagOf y1 211 (λ v=>∃ z:Int,v=Value.int .u32 z/\Q (.returned (.int .u32 z)) W2) (Sx.tagOf y1 167 (λ v2=>∃ p:Option Addr,v2=Value.pointer p/\rP prog 72 #[pp y0 Y0,.pointer p] W2 λ p2 W3=>Sx.ptr p2 λ a=>∃ z2:Int,World.cell? W3 a=some (.int .u32 z2)/\Q (.returned (.int .u32 z2)) W3) (Sx.tagOf y1 177 (λ v3=>∃ p3:Option Addr,v3=Value.pointer p3/\Sx.ptr p3 λ a2=>Bm W2 a2 5 λ v4=>pI prog .u32 71 #[pp y0 Y0,v4] W2 Q λ z3 W4=>pP prog 73 #[pp y0 Y0,.pointer p3,.int .u32 z3] W4 Q λ p4 W5=>Sx.ptr p4 λ a3=>∃ z4:Int,World.cell? W5 a3=some (.int .u32 z4)/\Q (.returned (.int .u32 z4)) W5) (Sx.tagOf y1 193 (λ v5=>∃ p5:Option Addr,v5=Value.pointer p5/\Sx.ptr p5 λ a4=>Ee W2 a4 4 λ p6 k k2=>∃ I:Int->Option Addr->Nat->Nat->World->Prop,∃ I2:Int->Option Addr->Nat->Nat->World->Nat,I 0 none 0 0 W2/\(wv (∀ x:Int,∀ x2:Option Addr,∀ k3:Nat,∀ k4:Nat,∀ W6:World,I x x2 k3 k4 W6->Sx.split (decide (x<(↑k:Int))) (ixs x k p6 λ k5 k6=>ldV W6 k5 (k6+x.toNat * 1) λ v6=>pI prog .u32 71 #[pp y0 Y0,v6] W6 Q λ z5 W7=>alc W7 #[.int .u32 z5] 32 λ k7 W8=>apn W8 32 1 x2 k3 k4 1 (some ⟨k7,0,none⟩) 4 λ p7 k9 W9=>nm (IntKind.wrap .i64 (x+1)) λ z6=>I z6 p7 (k3+1) k9 W9/\I2 z6 p7 (k3+1) k9 W9<I2 x x2 k3 k4 W6) (Sx.ptr p5 λ a6=>xm W6 a6 3 λ p8=>pI prog .u32 21 #[pp y0 Y0,.pointer p8,.slice x2 k3 k4] W6 Q λ z7 W10=>Q (.returned (.int .u32 z7)) W10)))) (Sx.tagOf y1 215 (λ v9=>∃ p9:Option Addr,v9=Value.pointer p9/\Sx.ptr p9 λ a7=>Bm W2 a7 4 λ v10=>pI prog .u32 71 #[pp y0 Y0,v10] W2 Q λ z8 W11=>Sx.ptr p9 λ a8=>aba W11 a8 3 λ s=>Sx.split (s.toList==ByteArray.toList (.mk #[45])) (Q (.returned (.int .u32 (IntKind.wrap .u32 (0 - z8)))) W11) (Sx.split (s.toList==ByteArray.toList (.mk #[33])) (rI prog .u32 104 #[.bool (z8==0)] W11 λ z9 W12=>Q (.returned (.int .u32 z9)) W12) (Q (.returned (.int .u32 (IntKind.wrap .u32 (↑(BitVec.toNat (BitVec.ofInt (IntKind.bits .u32) (if IntKind.signed .u32=true then -1 else IntKind.max .u32) ^^^ BitVec.ofInt (IntKind.bits .u32) z8)):Int)))) W11))) (Sx.tagOf y1 218 (λ v11=>∃ p10:Option Addr,v11=Value.pointer p10/\pI prog .u32 105 #[pp y0 Y0,.pointer p10] W2 Q λ z10 W13=>Q (.returned (.int .u32 z10)) W13) (Q (.returned (.int .u32 0)) W2))))))) :
 Calls prog 71 #[pp y0 Y0,y1] W Q :=
 Sx.sound (pk:=Bu) func71 (.r (.r (.n (.r (.n (.r (.r (.r (.r (.r (.r (.r (.n (.r (.r (.n (.r (.n (.node [(52,.int .i64),(9,.slice)] [51,50,0,8] 0 .leaf .leaf) .leaf)) .leaf))) .leaf)))))))) .leaf)) .leaf))) [pp y0 Y0,y1] rfl (Eq.mp (by kernel_rfl) hVC)
theorem aih (y0:Nat) (Y0:Nat) (y1:Nat) (Y1:Nat)
 (hVC:ldV W y1 (Y1+4) λ v=>pI prog .u32 71 #[pp y0 Y0,v] W Q λ z W2=>ldS W2 y1 (Y1+3) λ s=>Sx.split (s.toList==ByteArray.toList (.mk #[38,38])) (Sx.split (z==0) (Q (.returned (.int .u32 0)) W2) (ldS W2 y1 (Y1+3) λ s2=>Sx.split (s2.toList==ByteArray.toList (.mk #[124,124])) (Sx.split (z !=0) (Q (.returned (.int .u32 1)) W2) (ldV W2 y1 (Y1+5) λ v2=>pI prog .u32 71 #[pp y0 Y0,v2] W2 Q λ z2 W3=>ldS W3 y1 (Y1+3) λ s3=>Sx.split (s3.toList==ByteArray.toList (.mk #[38,38])) (rI prog .u32 104 #[.bool (z2 !=0)] W3 λ z3 W4=>Q (.returned (.int .u32 z3)) W4) (Sx.split (s3.toList==ByteArray.toList (.mk #[124,124])) (rI prog .u32 104 #[.bool (z2 !=0)] W3 λ z4 W5=>Q (.returned (.int .u32 z4)) W5) (Sx.split (s3.toList==ByteArray.toList (.mk #[61,61])) (rI prog .u32 104 #[.bool (z==z2)] W3 λ z5 W6=>Q (.returned (.int .u32 z5)) W6) (Sx.split (s3.toList==ByteArray.toList (.mk #[33,61])) (rI prog .u32 104 #[.bool (z !=z2)] W3 λ z6 W7=>Q (.returned (.int .u32 z6)) W7) (Sx.split (s3.toList==ByteArray.toList (.mk #[62])) (rI prog .u32 120 #[.int .i64 31,.int .u32 z2,.int .u32 z] W3 λ z7 W8=>Q (.returned (.int .u32 z7)) W8) (Sx.split (s3.toList==ByteArray.toList (.mk #[60,61])) (rI prog .u32 120 #[.int .i64 31,.int .u32 z2,.int .u32 z] W3 λ z8 W9=>nm (IntKind.wrap .u32 (1 - z8)) λ z9=>Q (.returned (.int .u32 z9)) W9) (Sx.split (s3.toList==ByteArray.toList (.mk #[62,61])) (rI prog .u32 120 #[.int .i64 31,.int .u32 z,.int .u32 z2] W3 λ z10 W10=>nm (IntKind.wrap .u32 (1 - z10)) λ z11=>Q (.returned (.int .u32 z11)) W10) (ldS W3 y1 (Y1+3) λ s4=>rI prog .i64 121 #[.string s4] W3 λ z12 W11=>rI prog .u32 120 #[.int .i64 z12,.int .u32 z,.int .u32 z2] W11 λ z13 W12=>Q (.returned (.int .u32 z13)) W12))))))))) (ldV W2 y1 (Y1+5) λ v3=>pI prog .u32 71 #[pp y0 Y0,v3] W2 Q λ z14 W13=>ldS W13 y1 (Y1+3) λ s5=>Sx.split (s5.toList==ByteArray.toList (.mk #[38,38])) (rI prog .u32 104 #[.bool (z14 !=0)] W13 λ z15 W14=>Q (.returned (.int .u32 z15)) W14) (Sx.split (s5.toList==ByteArray.toList (.mk #[124,124])) (rI prog .u32 104 #[.bool (z14 !=0)] W13 λ z16 W15=>Q (.returned (.int .u32 z16)) W15) (Sx.split (s5.toList==ByteArray.toList (.mk #[61,61])) (rI prog .u32 104 #[.bool (z==z14)] W13 λ z17 W16=>Q (.returned (.int .u32 z17)) W16) (Sx.split (s5.toList==ByteArray.toList (.mk #[33,61])) (rI prog .u32 104 #[.bool (z !=z14)] W13 λ z18 W17=>Q (.returned (.int .u32 z18)) W17) (Sx.split (s5.toList==ByteArray.toList (.mk #[62])) (rI prog .u32 120 #[.int .i64 31,.int .u32 z14,.int .u32 z] W13 λ z19 W18=>Q (.returned (.int .u32 z19)) W18) (Sx.split (s5.toList==ByteArray.toList (.mk #[60,61])) (rI prog .u32 120 #[.int .i64 31,.int .u32 z14,.int .u32 z] W13 λ z20 W19=>nm (IntKind.wrap .u32 (1 - z20)) λ z21=>Q (.returned (.int .u32 z21)) W19) (Sx.split (s5.toList==ByteArray.toList (.mk #[62,61])) (rI prog .u32 120 #[.int .i64 31,.int .u32 z,.int .u32 z14] W13 λ z22 W20=>nm (IntKind.wrap .u32 (1 - z22)) λ z23=>Q (.returned (.int .u32 z23)) W20) (ldS W13 y1 (Y1+3) λ s6=>rI prog .i64 121 #[.string s6] W13 λ z24 W21=>rI prog .u32 120 #[.int .i64 z24,.int .u32 z,.int .u32 z14] W21 λ z25 W22=>Q (.returned (.int .u32 z25)) W22)))))))))) (ldS W2 y1 (Y1+3) λ s7=>Sx.split (s7.toList==ByteArray.toList (.mk #[124,124])) (Sx.split (z !=0) (Q (.returned (.int .u32 1)) W2) (ldV W2 y1 (Y1+5) λ v4=>pI prog .u32 71 #[pp y0 Y0,v4] W2 Q λ z26 W23=>ldS W23 y1 (Y1+3) λ s8=>Sx.split (s8.toList==ByteArray.toList (.mk #[38,38])) (rI prog .u32 104 #[.bool (z26 !=0)] W23 λ z27 W24=>Q (.returned (.int .u32 z27)) W24) (Sx.split (s8.toList==ByteArray.toList (.mk #[124,124])) (rI prog .u32 104 #[.bool (z26 !=0)] W23 λ z28 W25=>Q (.returned (.int .u32 z28)) W25) (Sx.split (s8.toList==ByteArray.toList (.mk #[61,61])) (rI prog .u32 104 #[.bool (z==z26)] W23 λ z29 W26=>Q (.returned (.int .u32 z29)) W26) (Sx.split (s8.toList==ByteArray.toList (.mk #[33,61])) (rI prog .u32 104 #[.bool (z !=z26)] W23 λ z30 W27=>Q (.returned (.int .u32 z30)) W27) (Sx.split (s8.toList==ByteArray.toList (.mk #[62])) (rI prog .u32 120 #[.int .i64 31,.int .u32 z26,.int .u32 z] W23 λ z31 W28=>Q (.returned (.int .u32 z31)) W28) (Sx.split (s8.toList==ByteArray.toList (.mk #[60,61])) (rI prog .u32 120 #[.int .i64 31,.int .u32 z26,.int .u32 z] W23 λ z32 W29=>nm (IntKind.wrap .u32 (1 - z32)) λ z33=>Q (.returned (.int .u32 z33)) W29) (Sx.split (s8.toList==ByteArray.toList (.mk #[62,61])) (rI prog .u32 120 #[.int .i64 31,.int .u32 z,.int .u32 z26] W23 λ z34 W30=>nm (IntKind.wrap .u32 (1 - z34)) λ z35=>Q (.returned (.int .u32 z35)) W30) (ldS W23 y1 (Y1+3) λ s9=>rI prog .i64 121 #[.string s9] W23 λ z36 W31=>rI prog .u32 120 #[.int .i64 z36,.int .u32 z,.int .u32 z26] W31 λ z37 W32=>Q (.returned (.int .u32 z37)) W32))))))))) (ldV W2 y1 (Y1+5) λ v5=>pI prog .u32 71 #[pp y0 Y0,v5] W2 Q λ z38 W33=>ldS W33 y1 (Y1+3) λ s10=>Sx.split (s10.toList==ByteArray.toList (.mk #[38,38])) (rI prog .u32 104 #[.bool (z38 !=0)] W33 λ z39 W34=>Q (.returned (.int .u32 z39)) W34) (Sx.split (s10.toList==ByteArray.toList (.mk #[124,124])) (rI prog .u32 104 #[.bool (z38 !=0)] W33 λ z40 W35=>Q (.returned (.int .u32 z40)) W35) (Sx.split (s10.toList==ByteArray.toList (.mk #[61,61])) (rI prog .u32 104 #[.bool (z==z38)] W33 λ z41 W36=>Q (.returned (.int .u32 z41)) W36) (Sx.split (s10.toList==ByteArray.toList (.mk #[33,61])) (rI prog .u32 104 #[.bool (z !=z38)] W33 λ z42 W37=>Q (.returned (.int .u32 z42)) W37) (Sx.split (s10.toList==ByteArray.toList (.mk #[62])) (rI prog .u32 120 #[.int .i64 31,.int .u32 z38,.int .u32 z] W33 λ z43 W38=>Q (.returned (.int .u32 z43)) W38) (Sx.split (s10.toList==ByteArray.toList (.mk #[60,61])) (rI prog .u32 120 #[.int .i64 31,.int .u32 z38,.int .u32 z] W33 λ z44 W39=>nm (IntKind.wrap .u32 (1 - z44)) λ z45=>Q (.returned (.int .u32 z45)) W39) (Sx.split (s10.toList==ByteArray.toList (.mk #[62,61])) (rI prog .u32 120 #[.int .i64 31,.int .u32 z,.int .u32 z38] W33 λ z46 W40=>nm (IntKind.wrap .u32 (1 - z46)) λ z47=>Q (.returned (.int .u32 z47)) W40) (ldS W33 y1 (Y1+3) λ s11=>rI prog .i64 121 #[.string s11] W33 λ z48 W41=>rI prog .u32 120 #[.int .i64 z48,.int .u32 z,.int .u32 z38] W41 λ z49 W42=>Q (.returned (.int .u32 z49)) W42)))))))))) :
 Calls prog 105 #[pp y0 Y0,pp y1 Y1] W Q :=
 Sx.sound (pk:=Bu) func105 .leaf [pp y0 Y0,pp y1 Y1] rfl (Eq.mp (by kernel_rfl) hVC)
theorem aly (y0:Nat) (Y0:Nat) (y1:Value)
 (hVC:pU prog 70 #[pp y0 Y0] W Q λ W2=>Sx.tagOf y1 113 (λ v=>∃ p:Option Addr,v=Value.pointer p/\Sx.ptr p λ a=>Ee W2 a 0 λ p2 k k2=>∃ I:Int->World->Prop,∃ I2:Int->World->Nat,I 0 W2/\(wv (∀ x:Int,∀ W3:World,I x W3->Sx.split (decide (x<(↑k:Int))) (ixs x k p2 λ k3 k4=>ldV W3 k3 (k4+x.toNat * 1) λ v2=>Calls prog 40 #[pp y0 Y0,v2] W3 λ e2 W4=>(∃ z:Int,∃ t:Bool,e2= .returned (.tuple #[.int .u32 z,.bool t])/\Sx.split t (Q (.returned (.tuple #[.int .u32 z,.bool true])) W4) (nm (IntKind.wrap .i64 (x+1)) λ z2=>I z2 W4/\I2 z2 W4<I2 x W3))∨(∃ l:List PanicEntry,e2=Ending.panicked l/\Q (Ending.panicked l) W4)) (Q (.returned (.tuple #[.int .u32 0,.bool false])) W3)))) (Sx.tagOf y1 165 (λ v3=>∃ p3:Option Addr,v3=Value.pointer p3/\nm (World.drew W2) λ W5=>Sx.ptr p3 λ a2=>Sx.ptr p3 λ a3=>xm W5 a2 3 λ p4=>Bm W5 a3 4 λ v4=>rP prog 72 #[pp y0 Y0,.pointer p4] W5 λ p5 W6=>(Bm W6 a3 4 λ v5=>v5=v4)/\pI prog .u32 71 #[pp y0 Y0,v4] W6 Q λ z3 W7=>Sx.ptr p5 λ a4=>(∃ v6:Value,World.cell? W7 a4=some v6)/\World.frozen? W7 a4=false/\nm (World.setCell W7 a4 (Value.int .u32 z3)) λ W8=>Q (.returned (.tuple #[.int .u32 0,.bool false])) W8) (Sx.tagOf y1 174 (λ v7=>∃ p6:Option Addr,v7=Value.pointer p6/\Sx.ptr p6 λ a5=>xm W2 a5 0 λ p7=>Sx.ptr p7 λ a6=>Bm W2 a6 5 λ v8=>pI prog .u32 71 #[pp y0 Y0,v8] W2 Q λ z4 W9=>Sx.ptr p6 λ a7=>Bm W9 a7 1 λ v9=>pI prog .u32 71 #[pp y0 Y0,v9] W9 Q λ z5 W10=>Sx.ptr p6 λ a8=>xm W10 a8 0 λ p8=>pP prog 73 #[pp y0 Y0,.pointer p8,.int .u32 z4] W10 Q λ p9 W11=>Sx.ptr p9 λ a9=>(∃ v10:Value,World.cell? W11 a9=some v10)/\World.frozen? W11 a9=false/\nm (World.setCell W11 a9 (Value.int .u32 z5)) λ W12=>Q (.returned (.tuple #[.int .u32 0,.bool false])) W12) (Sx.tagOf y1 181 (λ v11=>∃ p10:Option Addr,v11=Value.pointer p10/\Sx.ptr p10 λ a10=>Bm W2 a10 0 λ v12=>pI prog .u32 71 #[pp y0 Y0,v12] W2 Q λ z6 W13=>Sx.split (z6 !=0) (Sx.ptr p10 λ a11=>xm W13 a11 1 λ p11=>Calls prog 40 #[pp y0 Y0,.iface 113 (Value.pointer p11)] W13 λ e9 W14=>(∃ z7:Int,∃ t2:Bool,e9= .returned (.tuple #[.int .u32 z7,.bool t2])/\Q (.returned (.tuple #[.int .u32 z7,.bool t2])) W14)∨(∃ l6:List PanicEntry,e9=Ending.panicked l6/\Q (Ending.panicked l6) W14)) (Sx.ptr p10 λ a12=>xm W13 a12 2 λ p12=>Sx.split (Option.isSome p12) (Sx.ptr p10 λ a13=>xm W13 a13 2 λ p13=>Calls prog 40 #[pp y0 Y0,.iface 113 (Value.pointer p13)] W13 λ e10 W15=>(∃ z8:Int,∃ t3:Bool,e10= .returned (.tuple #[.int .u32 z8,.bool t3])/\Q (.returned (.tuple #[.int .u32 z8,.bool t3])) W15)∨(∃ l7:List PanicEntry,e10=Ending.panicked l7/\Q (Ending.panicked l7) W15)) (Q (.returned (.tuple #[.int .u32 0,.bool false])) W13))) (Sx.tagOf y1 184 (λ v13=>∃ p14:Option Addr,v13=Value.pointer p14/\∃ I3:World->Prop,∃ I4:World->Nat,I3 W2/\(wv (∀ W16:World,I3 W16->Sx.ptr p14 λ a14=>Bm W16 a14 0 λ v14=>pI prog .u32 71 #[pp y0 Y0,v14] W16 Q λ z9 W17=>Sx.split (z9 !=0) (Sx.ptr p14 λ a15=>xm W17 a15 1 λ p15=>Calls prog 40 #[pp y0 Y0,.iface 113 (Value.pointer p15)] W17 λ e12 W18=>(∃ z10:Int,∃ t4:Bool,e12= .returned (.tuple #[.int .u32 z10,.bool t4])/\Sx.split t4 (Q (.returned (.tuple #[.int .u32 z10,.bool true])) W18) (I3 W18/\I4 W18<I4 W16))∨(∃ l9:List PanicEntry,e12=Ending.panicked l9/\Q (Ending.panicked l9) W18)) (Q (.returned (.tuple #[.int .u32 0,.bool false])) W17)))) (Sx.tagOf y1 187 (λ v15=>∃ p16:Option Addr,v15=Value.pointer p16/\Sx.ptr p16 λ a16=>Bm W2 a16 0 λ v16=>pI prog .u32 71 #[pp y0 Y0,v16] W2 Q λ z11 W19=>Q (.returned (.tuple #[.int .u32 z11,.bool true])) W19) (Sx.tagOf y1 190 (λ v17=>∃ p17:Option Addr,v17=Value.pointer p17/\Sx.ptr p17 λ a17=>Bm W2 a17 0 λ v18=>pI prog .u32 71 #[pp y0 Y0,v18] W2 Q λ z12 W20=>nm (IntKind.wrap .u8 z12) λ z13=>ldL W20 y0 (Y0+1) λ p18 k5 k6=>alc W20 #[.int .u8 z13] 5 λ k7 W21=>apn W21 5 1 p18 k5 k6 1 (some ⟨k7,0,none⟩) 1 λ p19 k9 W22=>sto W22 y0 (Y0+1) (Value.slice p19 (k5+1) k9) λ W23=>Q (.returned (.tuple #[.int .u32 0,.bool false])) W23) (Sx.tagOf y1 192 (λ v22=>∃ p20:Option Addr,v22=Value.pointer p20/\Sx.ptr p20 λ a19=>xm W2 a19 0 λ p21=>pI prog .u32 71 #[pp y0 Y0,.iface 193 (Value.pointer p21)] W2 Q λ z14 W24=>Q (.returned (.tuple #[.int .u32 0,.bool false])) W24) (Q (.returned (.tuple #[.int .u32 0,.bool false])) W2))))))))) :
 Calls prog 40 #[pp y0 Y0,y1] W Q :=
 Sx.sound (pk:=Bu) func40 (.r (.r (.n (.r (.n (.r (.n (.r (.r (.n (.node [(30,.int .i64)] [29,28,0] 0 .leaf .leaf) .leaf))) (.r (.n (.r (.node [] [] 1001006 .leaf .leaf)) (.r (.r (.r (.r (.r (.n (.r (.n (.node [] [0,14] 0 .leaf .leaf) .leaf)) .leaf)))))))))) .leaf)) .leaf))) [pp y0 Y0,y1] rfl (Eq.mp (by kernel_rfl) hVC)
theorem alz (f:Nat) (fo:Nat)
 (hVC:ldI .i64 W f (fo+6) λ z=>nm (IntKind.wrap .i64 (10+z)) λ z2=>Q (.returned (.int .i64 z2)) W) :
 Calls prog 39 #[pp f fo] W Q :=
 Sx.sound (pk:=Bu) func39 .leaf [pp f fo] rfl (Eq.mp (by kernel_rfl) hVC)
open Go Go.Proofs.Tryz Go.Proofs Go.Sep Go.XHeap Go.RowKit Go.Lang
variable {W:World}
theorem ama {w0 w:World}{M:Nat->Prop}{L:List Asn} (H:St w0 M w L){φ:Nat->World->Prop} (hq:∀ k w',St w0 M w' (L++[mpS k λ _=>none])->φ k w'):∀ k:Nat,∀ w':World,k=w.heap.size->w'=w.alloc (.map #[] 0)->φ k w':=by
 rintro k w' rfl rfl;exact hq _ _ (H.add ⟨Sx.MpS.new w,(XTouch.refl _ w).alloc _,λ q hq=>.inr (by rw[show q=_ from hq];exact Nat.le_refl _)⟩)
def Fc (kp:Nat) (pd:Option Addr) (cd:Nat) (ms:List Dm):List Asn :=
 [blk kp #[.slice none 0 0,.pointer none,.int .i64 0,.slice pd ms.length cd] 66,sl 20 1 (.slice pd ms.length cd) ms.length (ms.map λ m=>qc m.g),all ((ms.map Dm.g).map hdA),all (ms.map rsA)]
def abx (kp km:Nat) (pf:Option Addr) (cf:Nat) (pd:Option Addr) (cd:Nat) (tot:Int) (ms:List Dm) (done all_:List Gd):List Asn :=
 [blk kp #[.slice pf (cr done).length cf,.pointer none,.int .i64 tot,.slice pd ms.length cd] 66,sl 20 1 (.slice pd ms.length cd) ms.length (ms.map λ m=>qc m.g),mpS km (mapOf done),sl 63 1 (.slice pf (cr done).length cf) (cr done).length (cr done),all (all_.map hdA),all (ms.map rsA)]
theorem Ae {α:Type}:∀ (a:List α) (x y:α) (b:List α),(a++x::b).set a.length y=a++y::b
 | [],x,y,b=>rfl
 | z::a,x,y,b=>by simp [Ae a x y b]
theorem lj {α:Type}:∀ (a:List α) (x:α) (b:List α),(a++x::b)[a.length]?=some x
 | [],x,b=>rfl
 | z::a,x,b=>by simp
def gOk:Gd->Prop
 | .var _ _ _ _ z=>0≤z/\z≤256
 | .fn ..=>True
theorem Fd:∀ (a:List Gd),(cr a).length≤a.length
 | []=>Nat.le_refl _
 | .var ..::r=>by have:=Fd r;simp [cr];omega
 | .fn h _::r=>by have:=Fd r;simp [cr];omega
def Bn:List Gd->Nat
 | []=>0
 | .var _ _ _ _ z::r=>max 1 z.toNat+Bn r
 | .fn ..::r=>Bn r
theorem oz:∀ (a b:List Gd),Bn (a++b)=Bn a+Bn b
 | [],b=>by simp [Bn]
 | .var _ _ _ _ z::r,b=>by
  show max 1 z.toNat+Bn (r++b)=max 1 z.toNat+Bn r+Bn b;rw[oz r b];omega
 | .fn ..::r,b=>oz r b
def One (W:World) (A0:Asn) (kp km:Nat) (pd:Option Addr) (cd:Nat) (ms:List Dm) (x tot:Int) (w:World):Prop :=
 ∃ (done todo:List Gd) (t:Nat) (pf:Option Addr) (cf:Nat),x=done.length/\tot=t/\done.length+todo.length=ms.length/\(done++todo).map qc=ms.map (λ m=>qc m.g)/\md (ms.map Dm.g) 0 0=done++md todo t (cr done).length/\(t≤256 * done.length/\t=Bn done)/\(∀ g ∈ todo,gOk g)/\St W A0.own w (abx kp km pf cf pd cd 0 ms done (done++todo))
theorem Hy [Inhabited G3o]{A0:Asn}{kp km:Nat}{pd:Option Addr}{cd:Nat}{ms:List Dm}{w:World}{done todo:List Gd}{t:Nat}{pf:Option Addr}{cf k:Nat}{tk:Tok}{nm:ByteArray}{w0 z:Int} (hms:ms.length≤8001)
  (h1:done.length+(Gd.var k tk nm w0 z::todo).length=ms.length) (h2:(done++Gd.var k tk nm w0 z::todo).map qc=ms.map (λ m=>qc m.g)) (h3:md (ms.map Dm.g) 0 0=done++md (Gd.var k tk nm w0 z::todo) t (cr done).length) (h4:t≤256 * done.length/\t=Bn done) (h5:∀ g ∈ Gd.var k tk nm w0 z::todo,gOk g)
  (H:St W A0.own w (abx kp km pf cf pd cd 0 ms (done++[Gd.var k tk nm (t:Int) z]) (done++Gd.var k tk nm (t:Int) z::todo))) :
  One W A0 kp km pd cd ms ((done.length+1:Nat):Int) ((t+max 1 z.toNat:Nat):Int) w:=by
 have hz:=h5 _ (List.mem_cons_self ..);simp only[gOk] at hz;simp only[List.length_cons] at h1;refine⟨done++[Gd.var k tk nm (t:Int) z],todo,t+max 1 z.toNat,pf,cf,by simp,rfl,by simp;omega,by rw[<- h2];simp [qc],?_,⟨by simp;omega,by rw[oz,<- h4.2];simp [Bn]⟩,λ g hg=>h5 g (List.mem_cons_of_mem _ hg),by rw[List.append_assoc];exact H⟩;rw[h3,ff,List.append_assoc];simp [md,cr]
theorem Cz [Inhabited G3o]{A0:Asn}{kp km:Nat}{pd:Option Addr}{cd:Nat}{ms:List Dm}{w:World}{done todo:List Gd}{t:Nat}{pf:Option Addr}{cf:Nat}{hd:Fh}{s:Int} (hms:ms.length≤8001)
  (h1:done.length+(Gd.fn hd s::todo).length=ms.length) (h2:(done++Gd.fn hd s::todo).map qc=ms.map (λ m=>qc m.g)) (h3:md (ms.map Dm.g) 0 0=done++md (Gd.fn hd s::todo) t (cr done).length) (h4:t≤256 * done.length/\t=Bn done) (h5:∀ g ∈ Gd.fn hd s::todo,gOk g)
  (H:St W A0.own w (abx kp km pf cf pd cd 0 ms (done++[Gd.fn { hd with no:=((cr done).length:Int) } s]) (done++Gd.fn { hd with no:=((cr done).length:Int) } s::todo))) :
  One W A0 kp km pd cd ms ((done.length+1:Nat):Int) (t:Int) w:=by
 simp only[List.length_cons] at h1;refine⟨done++[Gd.fn { hd with no:=((cr done).length:Int) } s],todo,t,pf,cf,by simp,rfl,by simp;omega,by rw[<- h2];simp [qc],?_,⟨by simp;omega,by rw[oz,<- h4.2];simp [Bn]⟩,λ g hg=>h5 g (List.mem_cons_of_mem _ hg),by rw[List.append_assoc];exact H⟩;rw[h3,ff,List.append_assoc];simp [md,cr]
theorem Af [Inhabited G3o]{gs:List Gd}{g:Gd} (h:(mapOf gs (gnm g)).isSome=true):mapOf (gs++[g])=mapOf gs:=by rw[Cv,if_pos h]
theorem Hz [Inhabited G3o]{gs:List Gd}{g:Gd} (h:(mapOf gs (gnm g)).isSome=false):mapOf (gs++[g])=Sx.updS (mapOf gs) (gnm g) (some (qc g)):=by rw[Cv,if_neg (by rw[h];decide)]
end Go.Proofs.YtojogkljneonmaaGreatDoor
