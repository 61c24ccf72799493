/- The checker in memory: blocks. No condition. -/
import Derived.Test.YtojogkljneonmaaGreatDoorLangZa
set_option linter.unusedVariables false
set_option linter.unusedSimpArgs false
namespace Go.Lang
theorem Ht {lk:Lk}{Ls:Lcs}{n:Nat}{line:Int}{s:ByteArray}{p:Lcs×Nat} (h:pu lk Ls n line s= .ok p):p=(Ls++[(s,n)],n+1)/\n≠24:=by
 unfold pu at h;split at h
 ·cases h
 ·split at h
  ·cases h
  ·split at h
   ·cases h
   ·rename_i h3;cases h;exact⟨rfl,h3⟩
def Inv (Ls:Lcs) (n:Nat) (q:T×Lcs×Nat):Prop:=Ls <+: q.2.1/\q.2.1.length≤q.2.2/\q.2.2≤24/\n≤q.2.2
theorem fe (lk:Lk):∀ (x:T) (Ls:Lcs) (n:Nat) (q:T×Lcs×Nat),Ls.length≤n->n≤24->cst lk x Ls n= .ok q->Inv Ls n q
 | .letS t nm s w x,Ls,n,q,h1,h2,h=>by
  obtain⟨x', -,h⟩:=C.bind_ok h;obtain⟨p,hp,h⟩:=C.bind_ok h;obtain⟨rfl,h3⟩:=Ht hp;cases h;exact⟨List.prefix_append _ _,by simp;omega,by show n+1≤24;omega,by show n≤n+1;omega⟩
 | .setS t s w x,Ls,n,q,h1,h2,h=>by
  obtain⟨p, -,h⟩:=C.bind_ok h;obtain⟨x', -,h⟩:=C.bind_ok h;cases h;exact⟨List.prefix_rfl,h1,h2,Nat.le_refl _⟩
 | .putS t w z p x,Ls,n,q,h1,h2,h=>by
  obtain⟨p, -,h⟩:=C.bind_ok h;obtain⟨x', -,h⟩:=C.bind_ok h;obtain⟨y', -,h⟩:=C.bind_ok h;cases h;exact⟨List.prefix_rfl,h1,h2,Nat.le_refl _⟩
 | .ifS line c a b,Ls,n,q,h1,h2,h=>by
  obtain⟨c', -,h⟩:=C.bind_ok h;obtain⟨a',ha,h⟩:=C.bind_ok h;obtain⟨b',hb,h⟩:=C.bind_ok h;cases h;obtain⟨i1,i2,i3,i4⟩:=fe lk a Ls n a' h1 h2 ha;obtain⟨j1,j2,j3,j4⟩:=fe lk b _ _ b' i2 i3 hb;exact⟨i1.trans j1,j2,j3,Nat.le_trans i4 j4⟩
 | .whileS line c b,Ls,n,q,h1,h2,h=>by
  obtain⟨c', -,h⟩:=C.bind_ok h;obtain⟨b',hb,h⟩:=C.bind_ok h;cases h;exact fe lk b Ls n b' h1 h2 hb
 | .retS line x,Ls,n,q,h1,h2,h=>by
  obtain⟨c', -,h⟩:=C.bind_ok h;cases h;exact⟨List.prefix_rfl,h1,h2,Nat.le_refl _⟩
 | .prtS line x,Ls,n,q,h1,h2,h=>by
  obtain⟨c', -,h⟩:=C.bind_ok h;cases h;exact⟨List.prefix_rfl,h1,h2,Nat.le_refl _⟩
 | .doS line x,Ls,n,q,h1,h2,h=>by
  obtain⟨c', -,h⟩:=C.bind_ok h;cases h;exact⟨List.prefix_rfl,h1,h2,Nat.le_refl _⟩
 | .block line l,Ls,n,q,h1,h2,h=>by
  obtain⟨b',hb,h⟩:=C.bind_ok h;cases h;obtain⟨j1,j2,j3,j4⟩:=fe lk l Ls n b' h1 h2 hb;exact⟨List.prefix_rfl,by show Ls.length≤b'.2.2;omega,j3,j4⟩
 | .cons a b,Ls,n,q,h1,h2,h=>by
  obtain⟨a',ha,h⟩:=C.bind_ok h;obtain⟨b',hb,h⟩:=C.bind_ok h;cases h;obtain⟨i1,i2,i3,i4⟩:=fe lk a Ls n a' h1 h2 ha;obtain⟨j1,j2,j3,j4⟩:=fe lk b _ _ b' i2 i3 hb;exact⟨i1.trans j1,j2,j3,Nat.le_trans i4 j4⟩
 | .num ..,Ls,n,q,h1,h2,h=>by cases h;exact⟨List.prefix_rfl,h1,h2,Nat.le_refl _⟩
 | .name ..,Ls,n,q,h1,h2,h=>by cases h;exact⟨List.prefix_rfl,h1,h2,Nat.le_refl _⟩
 | .nil,Ls,n,q,h1,h2,h=>by cases h;exact⟨List.prefix_rfl,h1,h2,Nat.le_refl _⟩
 | .index ..,Ls,n,q,h1,h2,h=>by cases h;exact⟨List.prefix_rfl,h1,h2,Nat.le_refl _⟩
 | .call ..,Ls,n,q,h1,h2,h=>by cases h;exact⟨List.prefix_rfl,h1,h2,Nat.le_refl _⟩
 | .un ..,Ls,n,q,h1,h2,h=>by cases h;exact⟨List.prefix_rfl,h1,h2,Nat.le_refl _⟩
 | .bin ..,Ls,n,q,h1,h2,h=>by cases h;exact⟨List.prefix_rfl,h1,h2,Nat.le_refl _⟩
end Go.Lang
namespace Go.Proofs.YtojogkljneonmaaGreatDoor
open Go Go.Proofs.Tryz Go.Proofs Go.Sep Go.XHeap Go.RowKit Go.Lang
variable {W:World}{X:Cx}{S:Sp}{n:Nat}{Ls:Lcs}{lk:Lk}
theorem Eo {r:T}{A:Asn} (hr:r.ok 3=true) (h:isP r [] A):r= .nil:=by
 cases r with
 | nil=>rfl
 | cons x xs=>obtain⟨v,us,A1,As, -, -,e, -⟩:=h;cases e
 | num=>cases hr
 | name=>cases hr
 | index=>cases hr
 | call=>cases hr
 | un=>cases hr
 | bin=>cases hr
 | letS=>cases hr
 | setS=>cases hr
 | putS=>cases hr
 | ifS=>cases hr
 | whileS=>cases hr
 | retS=>cases hr
 | prtS=>cases hr
 | doS=>cases hr
 | block=>cases hr
theorem zv {r:T}{v:Value}{us:List Value}{A:Asn} (hr:r.ok 3=true) (h:isP r (v::us) A):∃ y ys A1 As,r= .cons y ys/\isP y [v] A1/\isP ys us (all As)/\A=all (A1::As)/\y.ok 2=true/\ys.ok 3=true:=by
 cases r with
 | nil=>obtain⟨e, -⟩:=h;cases e
 | cons x xs =>
  obtain⟨v',us',A1,As,h1,h2,e,rfl⟩:=h;cases e;exact⟨x,xs,A1,As,rfl,h1,h2,rfl,Xl hr⟩
 | num=>cases hr
 | name=>cases hr
 | index=>cases hr
 | call=>cases hr
 | un=>cases hr
 | bin=>cases hr
 | letS=>cases hr
 | setS=>cases hr
 | putS=>cases hr
 | ifS=>cases hr
 | whileS=>cases hr
 | retS=>cases hr
 | prtS=>cases hr
 | doS=>cases hr
 | block=>cases hr
theorem Xp [Inhabited G3o]{us:List Value}:∀ {r:T}{A:Asn},r.ok 3=true->isP r us A->us.length=r.len/\r.len≤r.sz:=by
 induction us with
 | nil=>intro r A hr h;have:=Eo hr h;subst this;exact⟨rfl,by simp [T.len]⟩
 | cons v us ih =>
  intro r A hr h;obtain⟨y,ys,A1,As,rfl, -,h2, -, -,h3⟩:=zv hr h;obtain⟨h4,h5⟩:=ih h3 h2;exact⟨by simp [T.len,h4],by simp only[T.len,T.sz];omega⟩
theorem Sl.pre {w:World}{e size n c i:Nat}{p:Option Addr}{xs:List Value} (h:Sl w e size (.slice p n c) n xs) (hi:i≤n):Sl w e size (.slice p i c) i (xs.take (i * size)):=by
 obtain⟨hl,h⟩:=h;have hm:i * size≤n * size:=Nat.mul_le_mul_right _ hi;refine⟨by rw[List.length_take,hl];omega,?_⟩;rcases h with ⟨hv,rfl⟩ | ⟨g,off,cap,cur,hv,hb,h1,h2,h3,h4⟩
 ·simp at hv;obtain⟨rfl,rfl⟩:=hv
  have:i=0:=by omega
  subst this;exact .inl ⟨rfl,rfl⟩
 ·simp at hv;obtain⟨rfl,rfl⟩:=hv;exact .inr ⟨g,off,c,cur,rfl,hb,by omega,h2,h3,by rw[<- h4,List.take_take,Nat.min_eq_left hm]⟩
theorem Kt {p:Option Addr}{n c n' c' q:Nat} (h:(Value.slice p n c).ownBlock=some q):(Value.slice p n' c').ownBlock=some q:=by
 cases p with
 | none=>exact h
 | some a=>exact h
def Zv (X:Cx) (A0:Asn) (W:World) (v:Value) (R0:C (T×Lcs×Nat)):Ending->World->Prop:=Wc A0 W R0 λ q e w'=>e= .returned (.tuple #[])/\∃ B' S',isP q.1 [v] B'/\Post A0 W (all [scA X S' q.2.2 q.2.1,B']) w'
theorem Wf [Inhabited G3o]{A0:Asn}{w:World}{v:Value}{R0:C (T×Lcs×Nat)}{q:T×Lcs×Nat}{B':Asn}{S':Sp} (hR:R0= .ok q) (hP:isP q.1 [v] B') (H:St W A0.own w [scA X S' q.2.2 q.2.1,B']):Zv X A0 W v R0 (.returned (.tuple #[])) w :=
 zt hR ⟨rfl,B',S',hP,(St.shut (L:=[_,_]) (L':=[]) H).post 0 rfl⟩
def Sth (lk:Lk) (X:Cx) (N:Nat):Prop:=∀ x:T,x.sz≤N->x.ok 2=true->∀ (W:World) (v:Value) (B:Asn) (S:Sp) (n:Nat) (Ls:Lcs),Ls.length≤n->n≤24->isP x [v] B->(all [scA X S n Ls,B]).at_ W ->
 Calls prog 97 #[pt X.ks,v] W (Zv X (all [scA X S n Ls,B]) W v (cst lk x Ls n))
theorem nk [Inhabited G3o]{N:Nat} (I:Sth lk X N) (hE:Hm lk X) (hN:N<4611686018427387904){line:Int}{l:T} (hs:l.sz≤N) (hl:l.ok 3=true){k:Nat}{B:Asn} (h1:Ls.length≤n) (h2:n≤24) (hP:isP (.block line l) [.iface 113 (pt k)] B) (h:(all [scA X S n Ls,B]).at_ W) :
  Calls prog 58 #[pt X.ks,pt k] W (Zv X (all [scA X S n Ls,B]) W (.iface 113 (pt k)) (cst lk (.block line l) Ls n)):=by
 obtain⟨kb,p,c,us,A1,hr0,e,rfl⟩:=hP;cases e;refine akk X.ks 0 k 0 ?_;have H:=ur (L:=[]) (St.open_ (L':=[]) (St.begin h));have H2:=St.open_ (L:=scL X S n Ls) H;refine⟨_,_,_,H2.ld 0 rfl (i:=2) rfl,_,_,_,H2.ld 5 rfl (i:=0) rfl,?_⟩;obtain⟨hl1,hl2⟩:=Xp hl hr0
 obtain⟨As,rfl⟩:∃ As,A1=all As:=by
  cases us with
  | nil=>have:=Eo hl hr0;subst this;exact⟨[],hr0.2⟩
  | cons u us=>obtain⟨y,ys,B1,Bs, -, -, -,e, -⟩:=zv hl hr0;exact⟨_,e⟩
 have hR0:cst lk (.block line l) Ls n=(cst lk l Ls n).bind λ l'=>.ok (.block line l'.1,Ls,l'.2.2):=rfl;generalize cst lk (.block line l) Ls n=R0 at *
 refine⟨λ x w=>∃ (i:Nat) (ts:List T) (us1 us2:List Value) (As1 As2:List Asn) (r:T) (S':Sp) (n':Nat) (Ls':Lcs),x=i/\us=us1++us2/\us1.length=i/\isP (jj ts .nil) us1 (all As1)/\isP r us2 (all As2)/\r.ok 3=true/\r.sz≤N/\Ls <+: Ls'/\Ls'.length≤n'/\n'≤24 /\
   St W (all [scA X S n Ls,all [blk k #[.slice p us.length c] 164,sl 161 1 (.slice p us.length c) us.length us,all As]]).own w [scA X S' n' Ls',blk k #[.slice p us.length c] 164,sl 161 1 (.slice p us.length c) us.length us,all As1,all As2] /\
   R0=(cst lk r Ls' n').bind λ r'=>.ok (.block line (jj ts r'.1),Ls,r'.2.2),λ x _=>((us.length:Int) - x).toNat,?_,λ _ x w hI=>?_⟩
 ·refine⟨0,[],[],us,[],As,l,S,n,Ls,rfl,rfl,rfl,⟨rfl,rfl⟩,hr0,hl,hs,List.prefix_rfl,h1,h2,?_,hR0⟩;have H11:=H.add (A:=all []) ⟨trivial,XTouch.refl _ _,λ q hq=>hq.elim⟩;exact H11.pick [0,1,2,4,3]
 obtain⟨i,ts,us1,us2,As1,As2,r,S',n',Ls',rfl,rfl,rfl,ht,hr,hro,hrs,hpre,g1,g2,H11,hR⟩:=hI;refine Sx.so (λ h5=>?_) (λ h5=>?_)
 ·have h5:=dt h5;rw[List.length_append] at h5
  cases us2 with
  | nil=>simp at h5
  | cons u us2 =>
   obtain⟨y,ys,B1,Bs,rfl,hy,hys,e,hyo,hyso⟩:=zv hro hr;rw[e] at H11;simp only[T.sz] at hrs;refine⟨⟨by omega,by rw[List.length_append,List.length_cons];omega⟩,?_⟩;refine mc (H11.nth 2 rfl) (i:=us1.length) (v:=u) (by simp) λ g o hc=>?_;rw[ix1];refine⟨_,hc,?_⟩;have H12:St W (all [scA X S n Ls,all [blk k #[.slice p (us1++u::us2).length c] 164,sl 161 1 (.slice p (us1++u::us2).length c) (us1++u::us2).length (us1++u::us2),all As]]).own w ((B1::Bs)++[scA X S' n' Ls',blk k #[.slice p (us1++u::us2).length c] 164,sl 161 1 (.slice p (us1++u::us2).length c) (us1++u::us2).length (us1++u::us2),all As1]):=St.open_ (H11.pick [4,0,1,2,3])
   have H13:=(St.shut (L:=Bs) (L':=[scA X S' n' Ls',blk k #[.slice p (us1++u::us2).length c] 164,sl 161 1 (.slice p (us1++u::us2).length c) (us1++u::us2).length (us1++u::us2),all As1,B1]) (H12.perm (by
    simp only[List.cons_append];refine(List.perm_append_singleton B1 _).symm.trans ?_
    simp))).pick [1,5,2,3,4,0]
   have H14:=St.shut (L:=[scA X S' n' Ls',B1]) H13;refine je H14 0 rfl (hR.trans (by rw[cst,C.bind_assoc])) (I y (by omega) hyo _ _ _ _ _ _ g1 g2 hy (H14.nth 0 rfl)) ?_;rintro q _ w4 hq hR ⟨rfl,B2,S2,hB2,hp3⟩;obtain⟨v1,v2,v3,v4⟩:=fe lk y _ _ q g1 g2 hq;have H15:=St.open_ (L:=[scA X S2 q.2.2 q.2.1,B2]) (H14.upd 0 rfl hp3);refine⟨rfl,?_⟩;rintro z4 rfl;rw[show IntKind.wrap .i64 ((us1.length:Nat)+1:Int)=((us1.length+1:Nat):Int) from We (b:=1) (by simp at hl1;omega)];obtain⟨As',hs1,hs2⟩:=ul hB2 ht;have H16:=hs2 _ _ _ _ (H15.pick [4,1,0,2,3,5]);refine⟨⟨_,ts++[q.1],us1++[u],us2,As',Bs,ys,S2,q.2.2,q.2.1,rfl,by simp,by simp,hs1,hys,hyso,by omega,hpre.trans v1,v2,v3,H16.pick [1,2,3,0,4],?_⟩,by simp only[List.length_append,List.length_cons];omega⟩;rw[hR,C.bind_assoc];congr 1;funext z;rw[fv];rfl
 ·have h5:=df h5;rw[List.length_append] at h5;have:us2=[]:=List.eq_nil_of_length_eq_zero (by omega);subst this;have hnil:=Eo hro hr;subst hnil;rw[List.append_nil] at H11 ⊢;refine H11.dr λ w5 H17=>?_;have H18:=St.open_ (L:=scL X S' n' Ls') H17;have hle:=hpre.length_le;obtain⟨ao,cp,hv, -, -,hcp, -⟩:=(H18.nth 1 rfl:Sl _ _ _ _ _ _).open1;obtain⟨ao2,cp2,hv2, -, -,hcp2, -⟩:=(H18.nth 2 rfl:Sl _ _ _ _ _ _).open1;simp at hv hv2;refine⟨_,_,_,H18.ld 0 rfl (i:=2) rfl,⟨by omega,by omega⟩,_,_,_,H18.ld 0 rfl (i:=3) rfl,⟨by omega,by omega⟩,?_⟩;refine H18.st 0 rfl (i:=2) (by simp) λ w6 H19=>?_;refine H19.st 0 rfl (i:=3) (by simp) λ w7 H20=>?_
  have hm1:(Ls'.map λ p=>Value.string p.1).take (Ls.length * 1)=Ls.map λ p=>Value.string p.1:=by
   rw[<- List.map_take,Nat.mul_one,<- List.prefix_iff_eq_take.1 hpre]
  have hm2:(Ls'.map λ p=>Value.int .i64 (p.2:Int)).take (Ls.length * 1)=Ls.map λ p=>Value.int .i64 (p.2:Int):=by
   rw[<- List.map_take,Nat.mul_one,<- List.prefix_iff_eq_take.1 hpre]
  have H21:=H20.conv 1 (A':=sl 9 1 (.slice S'.pl Ls.length S'.cl) Ls.length (Ls.map λ p:ByteArray×Nat=>Value.string p.1)) rfl (λ h=>by rw[<- hm1];exact Sl.pre h hle) (λ q hq=>Kt hq)
  have H22:=H21.conv 2 (A':=sl 3 1 (.slice S'.pi Ls.length S'.ci) Ls.length (Ls.map λ p:ByteArray×Nat=>Value.int .i64 (p.2:Int))) rfl (λ h=>by rw[<- hm2];exact Sl.pre h hle) (λ q hq=>Kt hq)
  have H23:St W (all [scA X S n Ls,all [blk k #[.slice p us1.length c] 164,sl 161 1 (.slice p us1.length c) us1.length us1,all As]]).own w7 (scL X S' n' Ls++[blk k #[.slice p us1.length c] 164,sl 161 1 (.slice p us1.length c) us1.length us1,all As1,all As2]):=by
   exact H22
  have H24:=St.shut (L:=scL X S' n' Ls) H23;exact Wf (q:=(.block line (jj ts .nil),Ls,n')) hR ⟨k,p,c,us1,all As1,ht,rfl,rfl⟩ (sn (L:=[]) (H24.take 4))
variable {W:World}{X:Cx}{S:Sp}{n:Nat}{Ls:Lcs}{lk:Lk}
theorem yg {a:T}{q:Value}{A:Asn} (ha:a.ok 2=true) (h:isP a [.iface 113 q] A):∃ line l k,a= .block line l/\q=pt k/\l.ok 3=true:=by
 cases a with
 | block line l=>obtain⟨k,p,c,us,A1, -,e, -⟩:=h;cases e;exact⟨line,l,k,rfl,rfl,by simpa [T.ok] using ha⟩
 | nil=>cases ha
 | cons=>cases ha
 | num=>cases ha
 | name=>cases ha
 | index=>cases ha
 | call=>cases ha
 | un=>cases ha
 | bin=>cases ha
 | letS=>obtain⟨k,k2,v,A1, -,e, -⟩:=h;cases e
 | setS=>obtain⟨k,k2,v,A1, -,e, -⟩:=h;cases e
 | putS=>obtain⟨k,k2,v,u,A1,A2, -, -,e, -⟩:=h;cases e
 | ifS=>obtain⟨k,v,k2,A1,A2, -, -,e, -⟩:=h;cases e
 | whileS=>obtain⟨k,v,k2,A1,A2, -, -,e, -⟩:=h;cases e
 | retS=>obtain⟨k,v,A1, -,e, -⟩:=h;cases e
 | prtS=>obtain⟨k,v,A1, -,e, -⟩:=h;cases e
 | doS=>obtain⟨k,v,A1, -,e, -⟩:=h;cases e
theorem cn {a b:Prop} (h:a):Sx.split true a b:=h
theorem be {a b:Prop} (h:b):Sx.split false a b:=h
theorem abl [Inhabited G3o] (hE:Hm lk X) (hZ:zu lk):∀ N,N<4611686018427387904->Sth lk X N:=by
 intro N
 induction N with
 | zero=>intro _ x hx;cases x <;> simp [T.sz] at hx
 | succ N ih =>
  intro hN x hsz hx W v B S n Ls g1 g2 hP h;have I:=ih (by omega);refine akm X.ks 0 v ?_;have H:=St.begin h
  have hn:Ls.length≤24:=by omega
  cases x with
  | letS t nm s w x =>
   obtain⟨k,k2,y,A1,h1,e,rfl⟩:=hP;cases e
   have hp:x.ok 0=true:=by simpa [T.ok] using hx
   simp only[T.sz] at hsz;refine bi ⟨_,rfl,?_⟩;have H4:=ur (L:=[]) (St.open_ (L':=[]) H);refine ptr_some ⟨_,H4.ld 1 rfl (i:=5) rfl,be (ptr_some ⟨_,H4.ld 1 rfl (i:=4) rfl,?_⟩)⟩;have H5:=St.shut (L:=[scA X S n Ls,A1]) (L':=[blk k (Qe t k2 y true).toArray 171,blk k2 (jd nm s w).toArray 221]) (H4.pick [0,3,1,2]);refine je H5 0 rfl (R0:=cst lk (.letS t nm s w x) Ls n) rfl (fp hE hZ hn (by omega) hp 0 (by omega) h1 (H5.nth 0 rfl)) ?_;rintro x' _ w3 - hR ⟨rfl,B',hB',hp2⟩;have H6:=St.open_ (L:=[scA X S n Ls,B']) (H5.upd 0 rfl hp2);refine⟨rfl,ptr_some ⟨_,H6.ld 2 rfl (i:=5) rfl,cn ?_⟩⟩;refine H6.dr λ w4 H7=>?_;refine ptr_some (ptr_some (ptr_some ⟨(tkL t).toArray,rfl,H7.lds 2 rfl (o:=0) (λ j u hj=>?_),_,H7.ld 2 rfl (i:=3) rfl,ptr_some ⟨nm.s,H7.ld 3 rfl (i:=1) rfl,_,H7.ld 2 rfl (i:=3) rfl,?_⟩⟩))
   ·rw[Nat.zero_add];unfold Qe;rw[List.getElem?_toArray] at hj ⊢;rw[List.getElem?_append_left (List.getElem?_eq_some_iff.1 hj).1];exact hj
   refine je H7 0 rfl hR (Hs hE g1 g2 t nm.s (H7.nth 0 rfl)) ?_;rintro q _ w5 hq hR ⟨rfl,S',hp3⟩;have H8:=H7.upd 0 rfl hp3;refine⟨_,rfl,⟨_,H8.ld 2 rfl (i:=3) rfl,rfl⟩,ptr_some (H8.st 3 rfl (i:=3) (by simp [jd,tkL]) λ w6 H9=>?_)⟩;have H10:St W (all [scA X S n Ls,all [blk k (Qe t k2 y true).toArray 171,blk k2 (jd nm s w).toArray 221,A1]]).own w6 [scA X S' q.2 q.1,B',blk k (Qe t k2 y true).toArray 171,blk k2 (jd nm (n:Int) w).toArray 221]:=H9;exact Wf (q:=(.letS t nm (n:Int) w x',q.1,q.2)) hR ⟨k,k2,y,B',hB',rfl,rfl⟩ (sn (Bs:=[blk k (Qe t k2 y true).toArray 171,blk k2 (jd nm (n:Int) w).toArray 221,B']) (L:=[]) (H10.pick [0,2,3,1]))
  | setS t s w x =>
   obtain⟨k,k2,y,A1,h1,e,rfl⟩:=hP;cases e
   have hp:x.ok 0=true:=by simpa [T.ok] using hx
   simp only[T.sz] at hsz;refine bi ⟨_,rfl,?_⟩;have H4:=ur (L:=[]) (St.open_ (L':=[]) H);refine ptr_some ⟨_,H4.ld 1 rfl (i:=5) rfl,cn (ptr_some ⟨_,H4.ld 1 rfl (i:=3) rfl,?_⟩)⟩;have H5:=St.shut (L:=[scA X S n Ls,blk k2 (jd t s w).toArray 221]) (L':=[blk k (Qe t k2 y false).toArray 171,A1]) (H4.pick [0,2,1,3]);refine je H5 0 rfl (R0:=cst lk (.setS t s w x) Ls n) rfl (Hn hE hn (H5.nth 0 rfl)) ?_;rintro q _ w3 - hR ⟨rfl,hp2⟩;have H6:=St.open_ (L:=[scA X S n Ls,blk k2 (jd t q.1 q.2).toArray 221]) (H5.upd 0 rfl hp2);refine⟨rfl,ptr_some ⟨_,H6.ld 2 rfl (i:=4) rfl,?_⟩⟩;have H7:=St.shut (L:=[scA X S n Ls,A1]) (L':=[blk k (Qe t k2 y false).toArray 171,blk k2 (jd t q.1 q.2).toArray 221]) (H6.pick [0,3,2,1]);refine je H7 0 rfl hR (fp hE hZ hn (by omega) hp 0 (by omega) h1 (H7.nth 0 rfl)) ?_;rintro x' _ w4 - hR ⟨rfl,B',hB',hp3⟩;have H8:=St.open_ (L:=[scA X S n Ls,B']) (H7.upd 0 rfl hp3);refine⟨rfl,ptr_some ⟨_,H8.ld 2 rfl (i:=5) rfl,be ?_⟩⟩;exact Wf (q:=(.setS t q.1 q.2 x',Ls,n)) hR ⟨k,k2,y,B',hB',rfl,rfl⟩ (sn (Bs:=[blk k (Qe t k2 y false).toArray 171,blk k2 (jd t q.1 q.2).toArray 221,B']) (L:=[]) (H8.pick [0,2,3,1]))
  | putS t w z p x =>
   obtain⟨k,k2,u,y,A1,A2,h1,h2,e,rfl⟩:=hP;cases e;obtain⟨hp,hx2⟩:p.ok 0=true/\x.ok 0=true:=by simpa [T.ok] using hx
   simp only[T.sz] at hsz;refine ag (by decide) (bi ⟨_,rfl,?_⟩);have H4:=ur (L:=[]) (St.open_ (L':=[]) H);refine ptr_some ⟨_,H4.ld 1 rfl (i:=0) rfl,?_⟩;have H5:=St.shut (L:=[scA X S n Ls,blk k2 (em t w z u).toArray 176]) (L':=[blk k #[pt k2,y] 179,A1,A2]) (H4.pick [0,2,1,3,4]);refine je H5 0 rfl (R0:=cst lk (.putS t w z p x) Ls n) rfl (Ct hE hZ hn (H5.nth 0 rfl)) ?_;rintro q _ w3 - hR ⟨rfl,hp2⟩;have H6:=St.open_ (L:=[scA X S n Ls,blk k2 (em t q.1 q.2 u).toArray 176]) (H5.upd 0 rfl hp2);refine⟨rfl,ptr_some ⟨_,H6.ld 2 rfl (i:=0) rfl,ptr_some ⟨_,H6.ld 1 rfl (i:=5) rfl,?_⟩⟩⟩;have H7:=St.shut (L:=[scA X S n Ls,A1]) (L':=[blk k #[pt k2,y] 179,blk k2 (em t q.1 q.2 u).toArray 176,A2]) (H6.pick [0,3,2,1,4]);refine je H7 0 rfl hR (fp hE hZ hn (by omega) hp 0 (by omega) h1 (H7.nth 0 rfl)) ?_;rintro p' _ w4 - hR ⟨rfl,B1,hB1,hp3⟩;have H8:=St.open_ (L:=[scA X S n Ls,B1]) (H7.upd 0 rfl hp3);refine⟨rfl,ptr_some ⟨_,H8.ld 2 rfl (i:=1) rfl,?_⟩⟩;have H9:=St.shut (L:=[scA X S n Ls,A2]) (L':=[blk k #[pt k2,y] 179,blk k2 (em t q.1 q.2 u).toArray 176,B1]) (H8.pick [0,4,2,3,1]);refine je H9 0 rfl hR (fp hE hZ hn (by omega) hx2 1 (by omega) h2 (H9.nth 0 rfl)) ?_;rintro x' _ w5 - hR ⟨rfl,B2,hB2,hp4⟩;have H10:=St.open_ (L:=[scA X S n Ls,B2]) (H9.upd 0 rfl hp4);exact⟨rfl,Wf (q:=(.putS t q.1 q.2 p' x',Ls,n)) hR ⟨k,k2,u,y,B1,B2,hB1,hB2,rfl,rfl⟩ (sn (Bs:=[blk k #[pt k2,y] 179,blk k2 (em t q.1 q.2 u).toArray 176,B1,B2]) (L:=[]) (H10.pick [0,2,3,4,1]))⟩
  | ifS line c a b =>
   obtain⟨k,y,k2,A1,A2,h1,h2,e,hb⟩:=hP;cases e;rw[T.ok,Bool.and_eq_true,Bool.and_eq_true,Bool.and_eq_true] at hx;obtain⟨⟨⟨-,hc⟩,ha⟩,hbo⟩:=hx;simp only[T.sz] at hsz;obtain⟨la,ll,k2',rfl,e2,hll⟩:=yg ha h2;refine ag (by decide) (ag (by decide) (bi ⟨_,rfl,?_⟩));simp only[T.sz] at hsz
   have main:∀ (z:Option Addr) (L:List Asn),B=all ([blk k #[y,pt k2,.pointer z] 183,A1,A2]++L)->((z=none/\b= .nil/\L=[])∨∃ k3 A3,z=some ⟨k3,0,none⟩/\isP b [.iface 113 (pt k3)] A3/\L=[A3]) ->
     Sx.ptr (some ⟨k,0,none⟩) (λ a21=>∃ v10:Value,W.cell? (Addr.add a21 0)=some v10 /\
      Calls prog 115 #[pt X.ks,v10,.int .i64 0] W (λ e9 W14=>(e9= .returned (.tuple #[])/\Sx.ptr (some ⟨k,0,none⟩) (λ a22=>∃ p13:Option Addr,W14.cell? (Addr.add a22 1)=some (.pointer p13) /\
       Calls prog 58 #[pt X.ks,.pointer p13] W14 (λ e10 W15=>(e10= .returned (.tuple #[])/\Sx.ptr (some ⟨k,0,none⟩) (λ a23=>∃ p14:Option Addr,W15.cell? (Addr.add a23 2)=some (.pointer p14) /\
        Sx.split p14.isSome (Sx.ptr (some ⟨k,0,none⟩) (λ a24=>∃ p15:Option Addr,W15.cell? (Addr.add a24 2)=some (.pointer p15) /\
         Calls prog 58 #[pt X.ks,.pointer p15] W15 (λ e11 W16=>(e11= .returned (.tuple #[])/\Zv X (all [scA X S n Ls,B]) W (.iface 181 (pt k)) (cst lk (.ifS line c (.block la ll) b) Ls n) (.returned (.tuple #[])) W16)∨∃ l9:List PanicEntry,e11= .panicked l9/\Zv X (all [scA X S n Ls,B]) W (.iface 181 (pt k)) (cst lk (.ifS line c (.block la ll) b) Ls n) (.panicked l9) W16)))
         (Zv X (all [scA X S n Ls,B]) W (.iface 181 (pt k)) (cst lk (.ifS line c (.block la ll) b) Ls n) (.returned (.tuple #[])) W15)))∨∃ l10:List PanicEntry,e10= .panicked l10/\Zv X (all [scA X S n Ls,B]) W (.iface 181 (pt k)) (cst lk (.ifS line c (.block la ll) b) Ls n) (.panicked l10) W15)))∨∃ l11:List PanicEntry,e9= .panicked l11/\Zv X (all [scA X S n Ls,B]) W (.iface 181 (pt k)) (cst lk (.ifS line c (.block la ll) b) Ls n) (.panicked l11) W14)):=by
    rintro z L rfl hz;have H4:St W (all [scA X S n Ls,all ([blk k #[y,pt k2,.pointer z] 183,A1,A2]++L)]).own W (scA X S n Ls::(([blk k #[y,pt k2,.pointer z] 183,A1,A2]++L)++[])):=ur (L:=[]) (St.open_ (L':=[]) H);rw[List.append_nil] at H4;refine ptr_some ⟨_,H4.ld 1 rfl (i:=0) rfl,?_⟩;have H5:=St.shut (L:=[scA X S n Ls,A1]) (L':=[blk k #[y,pt k2,.pointer z] 183,A2]++L) (H4.perm (List.Perm.cons _ (List.Perm.swap _ _ _)));refine je H5 0 rfl (R0:=cst lk (.ifS line c (.block la ll) b) Ls n) rfl (fp hE hZ hn (by omega) hc 0 (by omega) h1 (H5.nth 0 rfl)) ?_;rintro c' _ w3 - hR ⟨rfl,B1,hB1,hp1⟩;have H6:=St.open_ (L:=[scA X S n Ls,B1]) (L':=[blk k #[y,pt k2,.pointer z] 183,A2]++L) (H5.upd 0 rfl hp1);refine⟨rfl,ptr_some ⟨_,H6.ld 2 rfl (i:=1) rfl,?_⟩⟩;have H7:=St.shut (L:=[scA X S n Ls,A2]) (L':=[blk k #[y,pt k2,.pointer z] 183,B1]++L) (H6.perm (List.Perm.cons _ ((List.Perm.swap _ _ _).trans ((List.Perm.cons _ (List.Perm.swap _ _ _)).trans (List.Perm.swap _ _ _)))) |>.perm (List.Perm.cons _ (List.Perm.cons _ (List.Perm.refl _))));refine je H7 0 rfl hR (nk I hE (by omega) (by omega) hll g1 g2 h2 (H7.nth 0 rfl)) ?_;rintro q _ w4 hq hR ⟨rfl,B2,S2,hB2,hp2⟩;obtain⟨v1,v2,v3,v4⟩:=fe lk _ _ _ q g1 g2 hq;have H8:=St.open_ (L:=[scA X S2 q.2.2 q.2.1,B2]) (L':=[blk k #[y,pt k2,.pointer z] 183,B1]++L) (H7.upd 0 rfl hp2);refine⟨rfl,ptr_some ⟨_,H8.ld 2 rfl (i:=2) rfl,?_⟩⟩;rcases hz with ⟨rfl,rfl,rfl⟩ | ⟨k3,A3,rfl,hb3,rfl⟩
    ·refine be ?_;exact Wf (q:=(.ifS line c' q.1 .nil,q.2.1,q.2.2)) hR ⟨k,y,k2,B1,B2,hB1,hB2,rfl,.inl ⟨rfl,rfl⟩⟩ (sn (Bs:=[blk k #[y,pt k2,.pointer none] 183,B1,B2]) (L:=[]) (H8.pick [0,2,3,1]))
    ·refine cn (ptr_some ⟨_,H8.ld 2 rfl (i:=2) rfl,?_⟩)
     have hbo:b.ok 2=true:=by
      rcases Bool.or_eq_true_iff.1 hbo with h | h
      ·exact h
      ·cases b with
       | nil=>obtain⟨e, -⟩:=hb3;cases e
       | _=>cases h
     obtain⟨lb,lm,k3',rfl,e3,hlm⟩:=yg hbo hb3;simp only[T.sz] at hsz;have H9:=St.shut (L:=[scA X S2 q.2.2 q.2.1,A3]) (L':=[blk k #[y,pt k2,pt k3] 183,B1,B2]) (H8.pick [0,4,2,3,1]);refine je H9 0 rfl hR (nk I hE (by omega) (by omega) hlm v2 v3 hb3 (H9.nth 0 rfl)) ?_;rintro q2 _ w5 hq2 hR ⟨rfl,B3,S3,hB3,hp3⟩;have H10:=St.open_ (L:=[scA X S3 q2.2.2 q2.2.1,B3]) (L':=[blk k #[y,pt k2,pt k3] 183,B1,B2]) (H9.upd 0 rfl hp3);exact⟨rfl,Wf (q:=(.ifS line c' q.1 q2.1,q2.2.1,q2.2.2)) hR ⟨k,y,k2,B1,B2,hB1,hB2,rfl,.inr ⟨k3,B3,hB3,rfl⟩⟩ (sn (Bs:=[blk k #[y,pt k2,pt k3] 183,B1,B2,B3]) (L:=[]) (H10.pick [0,2,3,4,1]))⟩
   rcases hb with ⟨rfl,hB⟩ | ⟨k3,A3,hb3,hB⟩
   ·exact main none [] hB (.inl ⟨rfl,rfl,rfl⟩)
   ·exact main (some ⟨k3,0,none⟩) [A3] hB (.inr ⟨k3,A3,rfl,hb3,rfl⟩)
  | whileS line c b =>
   obtain⟨k,y,k2,A1,A2,h1,h2,e,rfl⟩:=hP;cases e;obtain⟨hc,hb⟩:c.ok 0=true/\b.ok 2=true:=by simpa [T.ok] using hx
   simp only[T.sz] at hsz;obtain⟨la,ll,k2',rfl,e2,hll⟩:=yg hb h2;simp only[T.sz] at hsz;refine ag (by decide) (ag (by decide) (ag (by decide) (bi ⟨_,rfl,?_⟩)));have H4:=ur (L:=[]) (St.open_ (L':=[]) H);refine ptr_some ⟨_,H4.ld 1 rfl (i:=0) rfl,?_⟩;have H5:=St.shut (L:=[scA X S n Ls,A1]) (L':=[blk k #[y,pt k2] 186,A2]) (H4.pick [0,2,1,3]);refine je H5 0 rfl (R0:=cst lk (.whileS line c (.block la ll)) Ls n) rfl (fp hE hZ hn (by omega) hc 0 (by omega) h1 (H5.nth 0 rfl)) ?_;rintro c' _ w3 - hR ⟨rfl,B1,hB1,hp1⟩;have H6:=St.open_ (L:=[scA X S n Ls,B1]) (L':=[blk k #[y,pt k2] 186,A2]) (H5.upd 0 rfl hp1);refine⟨rfl,ptr_some ⟨_,H6.ld 2 rfl (i:=1) rfl,?_⟩⟩;have H7:=St.shut (L:=[scA X S n Ls,A2]) (L':=[blk k #[y,pt k2] 186,B1]) (H6.pick [0,3,2,1]);refine je H7 0 rfl hR (nk I hE (by omega) (by omega) hll g1 g2 h2 (H7.nth 0 rfl)) ?_;rintro q _ w4 hq hR ⟨rfl,B2,S2,hB2,hp2⟩;have H8:=St.open_ (L:=[scA X S2 q.2.2 q.2.1,B2]) (L':=[blk k #[y,pt k2] 186,B1]) (H7.upd 0 rfl hp2);exact⟨rfl,Wf (q:=(.whileS line c' q.1,q.2.1,q.2.2)) hR ⟨k,y,k2,B1,B2,hB1,hB2,rfl,rfl⟩ (sn (Bs:=[blk k #[y,pt k2] 186,B1,B2]) (L:=[]) (H8.pick [0,2,3,1]))⟩
  | retS line x =>
   obtain⟨k,y,A1,h1,e,rfl⟩:=hP;cases e
   have hp:x.ok 0=true:=by simpa [T.ok] using hx
   simp only[T.sz] at hsz;refine ag (by decide) (ag (by decide) (ag (by decide) (ag (by decide) (bi ⟨_,rfl,?_⟩))));have H4:=ur (L:=[]) (St.open_ (L':=[]) H);refine ptr_some ⟨_,H4.ld 1 rfl (i:=0) rfl,?_⟩;have H5:=St.shut (L:=[scA X S n Ls,A1]) (L':=[blk k #[y] 189]) (H4.pick [0,2,1]);refine je H5 0 rfl (R0:=cst lk (.retS line x) Ls n) rfl (fp hE hZ hn (by omega) hp 0 (by omega) h1 (H5.nth 0 rfl)) ?_;rintro x' _ w3 - hR ⟨rfl,B1,hB1,hp1⟩;have H6:=St.open_ (L:=[scA X S n Ls,B1]) (L':=[blk k #[y] 189]) (H5.upd 0 rfl hp1);exact⟨rfl,Wf (q:=(.retS line x',Ls,n)) hR ⟨k,y,B1,hB1,rfl,rfl⟩ (sn (Bs:=[blk k #[y] 189,B1]) (L:=[]) (H6.pick [0,2,1]))⟩
  | prtS line x =>
   obtain⟨k,y,A1,h1,e,rfl⟩:=hP;cases e
   have hp:x.ok 0=true:=by simpa [T.ok] using hx
   simp only[T.sz] at hsz;refine ag (by decide) (ag (by decide) (ag (by decide) (ag (by decide) (ag (by decide) (bi ⟨_,rfl,?_⟩)))));have H4:=ur (L:=[]) (St.open_ (L':=[]) H);refine ptr_some ⟨_,H4.ld 1 rfl (i:=0) rfl,?_⟩;have H5:=St.shut (L:=[scA X S n Ls,A1]) (L':=[blk k #[y] 191]) (H4.pick [0,2,1]);refine je H5 0 rfl (R0:=cst lk (.prtS line x) Ls n) rfl (fp hE hZ hn (by omega) hp 0 (by omega) h1 (H5.nth 0 rfl)) ?_;rintro x' _ w3 - hR ⟨rfl,B1,hB1,hp1⟩;have H6:=St.open_ (L:=[scA X S n Ls,B1]) (L':=[blk k #[y] 191]) (H5.upd 0 rfl hp1);exact⟨rfl,Wf (q:=(.prtS line x',Ls,n)) hR ⟨k,y,B1,hB1,rfl,rfl⟩ (sn (Bs:=[blk k #[y] 191,B1]) (L:=[]) (H6.pick [0,2,1]))⟩
  | doS line x =>
   obtain⟨k,k2,A1,h1,e,rfl⟩:=hP;cases e
   have hp:x.ok 0=true:=by simpa [T.ok] using hx
   simp only[T.sz] at hsz;refine ag (by decide) (ag (by decide) (ag (by decide) (ag (by decide) (ag (by decide) (ag (by decide) (bi ⟨_,rfl,?_⟩))))));have H4:=ur (L:=[]) (St.open_ (L':=[]) H);refine ptr_some ⟨_,H4.ld 1 rfl (i:=0) rfl,?_⟩;have H5:=St.shut (L:=[scA X S n Ls,A1]) (L':=[blk k #[pt k2] 195]) (H4.pick [0,2,1]);refine je H5 0 rfl (R0:=cst lk (.doS line x) Ls n) rfl (fp hE hZ hn (by omega) hp 0 (by omega) h1 (H5.nth 0 rfl)) ?_;rintro x' _ w3 - hR ⟨rfl,B1,hB1,hp1⟩;have H6:=St.open_ (L:=[scA X S n Ls,B1]) (L':=[blk k #[pt k2] 195]) (H5.upd 0 rfl hp1);exact⟨rfl,Wf (q:=(.doS line x',Ls,n)) hR ⟨k,k2,B1,hB1,rfl,rfl⟩ (sn (Bs:=[blk k #[pt k2] 195,B1]) (L:=[]) (H6.pick [0,2,1]))⟩
  | block line l =>
   have hP':=hP;obtain⟨k,p,c,us,A1,h1,e,rfl⟩:=hP;cases e
   have hl:l.ok 3=true:=by simpa [T.ok] using hx
   simp only[T.sz] at hsz;refine ag (by decide) (ag (by decide) (ag (by decide) (ag (by decide) (ag (by decide) (ag (by decide) (ag (by decide) (bi ⟨_,rfl,?_⟩)))))));refine(nk I hE (by omega) (by omega) hl g1 g2 hP' h).mono ?_;intro e w2 he;generalize cst lk (.block line l) Ls n=R0 at *
   cases R0 with
   | ok q=>obtain⟨rfl,hr⟩:=he;exact .inl ⟨rfl,rfl,hr⟩
   | err line en=>obtain⟨b,rfl,hr⟩:=he;exact .inr ⟨_,rfl,b,rfl,hr⟩
  | num=>cases hx
  | name=>cases hx
  | index=>cases hx
  | call=>cases hx
  | un=>cases hx
  | bin=>cases hx
  | nil=>cases hx
  | cons=>cases hx
end Go.Proofs.YtojogkljneonmaaGreatDoor
namespace Go.Lang
def D.nm:D->ByteArray
 | .var _ n _ _=>n
 | .fn _ n _ _ _ _=>n
def ef:ByteArray:=ofL [109,97,105,110]
def count:List D->Nat->Nat->List D
 | [],_,_=>[]
 | .var t n _ z::r,tot,no=>.var t n (tot:Int) z::count r (tot+max 1 z.toNat) no
 | .fn t n ps s _ b::r,tot,no=>.fn t n ps s (no:Int) b::count r tot (no+1)
def total:List D->Nat
 | []=>0
 | .var _ _ _ z::r=>max 1 z.toNat+total r
 | .fn ..::r=>total r
def ajm (a:Nat):D->Gl
 | .var _ _ w z=>.var w z
 | .fn _ _ ps _ _ _=>.fn a ps.length
def de (ds:List D) (s:ByteArray):Option Nat:=ds.findIdx? λ d=>decide (d.nm=s)
def rq (ad:Nat->Nat) (ds:List D):Lk:=λ s=>(de ds s).bind λ i=>(ds[i]?).map (ajm (ad i))
def pz (lk:Lk) (line:Int):List ByteArray->Lcs->Nat->C (Lcs×Nat)
 | [],Ls,n=>.ok (Ls,n)
 | p::ps,Ls,n=>(pu lk Ls n line p).bind λ q=>pz lk line ps q.1 q.2
def Gh (lk:Lk) (dup:Bool):D->C D
 | .var t nm w z=>if dup then .err t.line 9 else if 512<w+max 1 z then .err t.line 1 else .ok (.var t nm w z)
 | .fn t nm ps _ no b=>if dup then .err t.line 9 else (pz lk t.line ps [] 0).bind λ q=>(cst lk b q.1 q.2).bind λ r=>.ok (.fn t nm ps (r.2.2:Int) no r.1)
def jp (lk:Lk) (ds0:List D):Nat->List D->C (List D)
 | _,[]=>.ok []
 | i,d::r=>(Gh lk (decide (de ds0 d.nm≠some i)) d).bind λ d'=>(jp lk ds0 (i+1) r).bind λ r'=>.ok (d'::r')
def check (ad:Nat->Nat) (ds:List D):C (List D×Nat) :=
 (jp (rq ad (count ds 0 0)) (count ds 0 0) 0 (count ds 0 0)).bind λ ds'=>match rq ad (count ds 0 0) ef with
  | some (.fn k np)=>if 0<np then .err 0 9 else .ok (ds',k)
  | _=>.err 0 9
end Go.Lang
namespace Go.Proofs.YtojogkljneonmaaGreatDoor
open Go Go.Proofs.Tryz Go.Proofs Go.Sep Go.XHeap Go.RowKit Go.Lang
variable {W:World}
def qc:Gd->Value
 | .var k _ _ _ _=>.iface 125 (pt k)
 | .fn h _=>.iface 63 (pt h.k)
def nl:Gd->Nat
 | .var k _ _ _ _=>k
 | .fn h _=>h.k
def gnm:Gd->ByteArray
 | .var _ _ nm _ _=>nm
 | .fn h _=>h.nm
structure Dm where
 g:Gd
 ps:List ByteArray
 bd:T
 B:Asn
def Dm.d (m:Dm):D:=match m.g with
 | .var _ t nm w z=>.var t nm w z
 | .fn h s=>.fn h.t h.nm m.ps s h.no m.bd
def Dm.Ok (m:Dm):Prop:=match m.g with
 | .var _ _ _ _ z=>0≤z/\z≤256
 | .fn h _=>h.np=m.ps.length/\isP m.bd [.iface 113 (pt h.kb)] m.B/\m.bd.ok 2=true/\m.bd.sz<1000000/\m.ps.length≤6
def rsA (m:Dm):Asn:=match m.g with
 | .var ..=>emp
 | .fn h _=>all [sl 9 1 (.slice h.p h.np h.c) h.np (Kr m.ps),m.B]
theorem aep (m:Dm):m.d.nm=gnm m.g:=by
 unfold Dm.d;cases m.g <;> rfl
def mapOf (gs:List Gd):ByteArray->Option Value:=λ s=>(gs.find? λ g=>decide (gnm g=s)).map qc
theorem Cv (gs:List Gd) (g:Gd):mapOf (gs++[g])=if (mapOf gs (gnm g)).isSome then mapOf gs else Sx.updS (mapOf gs) (gnm g) (some (qc g)):=by
 funext s;unfold mapOf;rw[List.find?_append]
 cases h:gs.find? λ x=>decide (gnm x=gnm g) with
 | some y =>
  simp only[Option.map_some,Option.isSome_some,if_true];by_cases e:gnm g=s
  ·subst e;rw[h];rfl
  ·have:([g].find? λ x=>decide (gnm x=s))=none:=by simp [e]
   rw[this];cases (gs.find? λ x=>decide (gnm x=s)) <;> rfl
 | none =>
  simp only[Option.map_none,Option.isSome_none,Bool.false_eq_true,if_false];unfold Sx.updS;by_cases e:gnm g=s
  ·subst e;rw[h,if_pos rfl];simp
  ·have:([g].find? λ x=>decide (gnm x=s))=none:=by simp [e]
   rw[this,if_neg (λ h=>e h.symm),Option.or_none]
def md:List Gd->Nat->Nat->List Gd
 | [],_,_=>[]
 | .var k t n _ z::r,tot,no=>.var k t n (tot:Int) z::md r (tot+max 1 z.toNat) no
 | .fn h s::r,tot,no=>.fn { h with no:=(no:Int) } s::md r tot (no+1)
def cr:List Gd->List Value
 | []=>[]
 | .var ..::r=>cr r
 | .fn h _::r=>pt h.k::cr r
theorem ff:∀ (a b:List Gd),cr (a++b)=cr a++cr b
 | [],b=>rfl
 | .var ..::r,b=>ff r b
 | .fn h _::r,b=>by simp [cr,ff r b]
theorem wa {α:Type}:∀ {L:List α}{i:Nat}{a:α},L[i]?=some a->L.Perm (a::L.eraseIdx i)
 | [],i,a,h=>by simp at h
 | x::L,0,a,h=>by simp at h;subst h;exact List.Perm.refl _
 | x::L,i+1,a,h=>by
  have h:L[i]?=some a:=by simpa using h
  exact((wa h).cons x).trans (List.Perm.swap _ _ _)
theorem aid [Inhabited G3o]{w0 w:World}{M:Nat->Prop}{L L':List Asn}{A:Asn}{i:Nat} (H:St w0 M w (all L::L')) (hi:L[i]?=some A):St w0 M w (A::all (L.eraseIdx i)::L') :=
 sn (Bs:=L.eraseIdx i) ((St.open_ H).perm ((wa hi).append_right L'))
theorem abm [Inhabited G3o]{w0 w:World}{M:Nat->Prop}{L L':List Asn}{A':Asn}{i:Nat} (H:St w0 M w (A'::all (L.eraseIdx i)::L')) (hi:i<L.length):St w0 M w (all (L.set i A')::L'):=by
 have h1:(L.set i A')[i]?=some A':=List.getElem?_set_self hi
 have h2:(L.set i A').eraseIdx i=L.eraseIdx i:=by rw[List.eraseIdx_set_eq]
 have:=wa h1;rw[h2] at this;exact St.shut ((ur (A:=A') (Bs:=L.eraseIdx i) (L:=L') H).perm ((this.append_right L').symm))
theorem Zw [Inhabited G3o]{w:World}{G:List Gd}{i c:Nat}{g g':Gd}{v:Value}{cs:Array Value}{t:TypeId} (h:(all (G.map hdA)).at_ w) (hi:G[i]?=some g) (hg:hdA g=blk (nl g) cs t) (hg':hdA g'=blk (nl g) (cs.setIfInBounds c v) t):Post (all (G.map hdA)) w (all ((G.set i g').map hdA)) (w.setCell ⟨nl g,c,none⟩ v):=by
 have hb:Blk w (nl g) cs t:=by have:=px h hi;rw[hg] at this;exact this
 have:=Rj (A:=hdA g) (A':=hdA g') (i:=i) h (by rw[List.getElem?_map,hi];rfl) (by rw[hg,hg'];exact Mj hb c v);rw[List.map_set];exact this
end Go.Proofs.YtojogkljneonmaaGreatDoor
