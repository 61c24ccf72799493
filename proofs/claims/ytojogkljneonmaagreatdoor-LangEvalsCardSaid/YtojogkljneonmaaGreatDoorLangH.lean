/- The parser's binary, unary and primary expressions. No condition. -/
import Derived.Test.YtojogkljneonmaaGreatDoorLangC
set_option linter.unusedVariables false
set_option linter.unusedSimpArgs false
namespace Go.Proofs.YtojogkljneonmaaGreatDoor
open Go Go.Proofs.Tryz Go.Proofs Go.Sep Go.XHeap Go.RowKit Go.Lang
variable {W:World}{b g n:Nat}{l:List Tok}
theorem Kq (s:ByteArray):ai s≤10:=by
 unfold ai
 repeat' split
 all_goals decide
theorem Xf [Inhabited G3o]{f:Nat} (I:∀ f'≤f,Ih f') (k:Nat) (hk:k≤11) (h:(bn b g l n).at_ W) (hn:n≤24) (hr:run (f+1) (.bin k) n l≠ .out):Calls prog 132 #[pt b,.int .i64 (k:Nat)] W (Ans (mv b) (bn b g l n) W (run (f+1) (.bin k) n l) (um b g n W (bn b g l n))):=by
 refine ahn b 0 k ?_;have H:=St.begin h
 have hrun:run (f+1) (.bin k) n l=(run f .un n l).bind λ x l=>run f (.loop k x) n l:=by rw[run]
 generalize hR:run (f+1) (.bin k) n l=R0 at *;refine((I f (Nat.le_refl _)).un (H.nth 0 rfl) hn (λ e=>hr (by rw[hrun,e];rfl))).mono ?_;intro e w2 he
 cases hu:run f .un n l with
 | out=>rw[hu] at hrun;exact absurd hrun hr
 | err line en =>
  rw[hu] at he hrun;obtain⟨q,rfl,hp⟩:=he;rw[show R0= .err line en from hrun];exact .inr ⟨_,rfl,_,rfl,(H.upd 0 rfl hp).post 0 rfl⟩
 | ok x l1 =>
  rw[hu] at he hrun;obtain⟨v,B,rfl,hB,hp⟩:=he;have H2:=St.open_ (L:=[_,_]) (H.upd 0 rfl hp);refine .inl ⟨_,rfl,?_⟩;refine⟨λ v w=>∃ x f' l1 B,isP x [v] B/\St W (bn b g l n).own w [bn b g l1 n,B]/\R0=run f' (.loop k x) n l1/\f'≤f,λ _ w=>ot b w,⟨x,f,l1,B,hB,H2,hrun,Nat.le_refl _⟩,λ _=>?_⟩;clear hu hrun hB H2 hp;rintro v w3 ⟨x,f',l1,B,hB,H3,hrun,hf⟩
  match f',hrun with
  | 0,hrun=>exact absurd hrun hr
  | f'+1,hrun =>
  unfold run at hrun;refine H3.callq (gx (H3.nth 0 rfl)) λ w4 H4=>?_;refine⟨_,rfl,_,rfl,?_⟩;refine Sx.so (λ h4=>?_) (λ h4=>?_)
  ·have hk3:(now l1).k=3:=by have:=beq_iff_eq.1 h4;omega
   refine H4.callq (gx (H4.nth 0 rfl)) λ w5 H5=>?_;refine⟨_,rfl,_,rfl,?_⟩;refine H5.callp (xe _) ?_;refine⟨_,rfl,?_⟩;refine Sx.so (λ h5=>?_) (λ h5=>?_)
   ·have h5:=dt h5;rw[if_pos ⟨hk3,by omega⟩] at hrun;have hlt:l1.tail.length<l1.length:=dn (by omega);refine H5.call 0 rfl (uj (H5.nth 0 rfl) (by omega)) λ w6 H6=>?_;refine⟨_,rfl,?_⟩;refine H6.al λ k1 w7 H7=>?_;refine H7.sts0 2 (n:=3) (vs:=(tkL (now l1)).toArray) rfl rfl rfl (by simpa using gf _) λ w8 H8=>?_;refine H8.dr λ w9 H9=>?_;refine⟨_,H9.ld 2 rfl (i:=1) rfl,_,rfl,H9.cells 2 rfl,_,H9.ld 2 rfl (i:=1) rfl,?_⟩;refine H9.callp (xe _) ?_;refine⟨_,rfl,⟨_,H9.ld 2 rfl (i:=1) rfl,rfl⟩,⟨_,rfl,H9.cells 2 rfl,rfl⟩,?_⟩;rintro z rfl;have hs:=Kq (now l1).s
    rw[show IntKind.wrap .i64 (((ai (now l1).s:Nat):Int)+1)=((ai (now l1).s+1:Nat):Int) by
     rw[show((ai (now l1).s:Nat):Int)+1=((ai (now l1).s+1:Nat):Int) by omega];exact Go.Bits.n64 (by omega)]
    refine((I f' (by omega)).bin _ (by omega) (H9.nth 0 rfl) hn (λ e=>hr (by rw[hrun,e];rfl))).mono ?_;intro e w10 he
    cases hy:run f' (.bin (ai (now l1).s+1)) n l1.tail with
    | out=>rw[hy] at hrun;exact absurd hrun hr
    | err line en =>
     rw[hy] at he hrun;obtain⟨q,rfl,hp⟩:=he;rw[show R0= .err line en from hrun];exact .inr ⟨_,rfl,_,rfl,(H9.upd 0 rfl hp).post 0 rfl⟩
    | ok y l2 =>
     rw[hy] at he hrun;obtain⟨u,B2,rfl,hB2,hp⟩:=he;have H10:=St.open_ (L:=[_,_]) (H9.upd 0 rfl hp);refine .inl ⟨_,rfl,⟨_,H10.ld 3 rfl (i:=1) rfl,rfl⟩,⟨_,rfl,H10.cells 3 rfl,rfl⟩,rfl,gh hB (gh hB2 ?_)⟩;rintro _ rfl;refine H10.al λ k3 w11 H11=>?_;have H12:=H11.pick [0,4,2,1];have H13:=(St.shut (L:=[_,_,_]) (L':=[_]) (H12.pick [1,2,3,0])).pick [1,0];have hle:=(zk _ _ _ _ _ _ hy).1;refine⟨⟨.bin (now l1) x y,f',l2,_,⟨k3,v,u,B,B2,hB,hB2,rfl,rfl⟩,H13,hrun,by omega⟩,?_⟩;show ot b w11<ot b w3;rw[fw (H13.nth 0 rfl),fw (H3.nth 0 rfl)];omega
   ·have h5:=df h5;rw[if_neg (by omega)] at hrun;rw[hrun];exact⟨_,_,rfl,hB,St.post (St.shut (L:=[_,_]) (L':=[]) H5) 0 rfl⟩
  ·have hk3:¬ (now l1).k=3:=λ e=>by rw[e] at h4;cases h4
   rw[if_neg (λ h=>hk3 h.1)] at hrun;rw[hrun];exact⟨_,_,rfl,hB,St.post (St.shut (L:=[_,_]) (L':=[]) H4) 0 rfl⟩
theorem Xg [Inhabited G3o]{f k k2:Nat}{s:ByteArray} (I:Ih f) (h:(all [bn b g l n,blk k #[pt b] 80,blk k2 #[.string s] 9]).at_ W) (hn:n≤24) (hs:is s l=true) (hone:oh l=true) (hr:run (f+1) .un n l≠ .out) :
  Calls prog 130 #[pt b,.func (.func 171) #[] #[pt k,pt k2]] W (Ans (mv b) (all [bn b g l n,blk k #[pt b] 80,blk k2 #[.string s] 9]) W (run (f+1) .un n l) (um b g n W (all [bn b g l n,blk k #[pt b] 80,blk k2 #[.string s] 9]))):=by
 refine aei b 0 k k2 ?_;have H:=St.open_ (L':=[]) (St.begin h);refine H.al λ k1 w2 H2=>?_;obtain⟨hG, -,off,c,H2⟩:=jx H2;refine⟨_,H2.ld 5 rfl (i:=0) rfl,ptr_some ⟨_,H2.ld 0 rfl (i:=1) rfl,?_⟩⟩;rintro z rfl;rw[zq hn];refine ptr_some (H2.st 0 rfl (i:=1) (by simp) λ w3 H3=>?_);have H3:St W _ w3 (Ro b g off c l (n+1)++[blk k #[pt b] 80,blk k2 #[.string s] 9,blk k1 #[pt b] 80]):=H3;refine⟨_,H3.ld 5 rfl (i:=0) rfl,ptr_some ⟨_,H3.ld 0 rfl (i:=1) rfl,?_⟩⟩;have H4:=ol hG (by omega) H3
 have hrun:run (f+1) .un n l=if 24≤n then .err (now l).line 3 else (run f .un (n+1) l.tail).bind λ x l'=>.ok (.un (now l) x) l':=by
  rw[run,if_pos hone]
 refine Sx.so (λ h4=>?_) (λ h4=>?_)
 ·have h4:=dt h4;refine⟨_,H4.ld 3 rfl (i:=0) rfl,?_⟩;rw[hrun,if_pos (by omega)];exact vw H4 0 rfl (gy 3 (H4.nth 0 rfl))
 ·have h4:=df h4;rw[if_neg (by omega)] at hrun;generalize hR:run (f+1) .un n l=R0 at *
  have hts:(now l).s=s:=by
   unfold is at hs;rw[Bool.and_eq_true] at hs;exact dt hs.2
  refine ahp k 0 k2 0 ?_;refine⟨_,H4.ld 1 rfl (i:=0) rfl,?_⟩;refine H4.call 0 rfl (uj (H4.nth 0 rfl) (kz hs)) λ w5 H5=>?_;refine⟨_,rfl,?_⟩;refine H5.al λ k3 w6 H6=>?_;refine H6.sts0 4 (n:=3) (vs:=(tkL (now l)).toArray) rfl rfl rfl (by simpa using gf _) λ w7 H7=>?_;refine H7.dr λ w8 H8=>?_;refine⟨_,H8.ld 1 rfl (i:=0) rfl,_,rfl,H8.cells 4 rfl,_,H8.ld 2 rfl (i:=0) rfl,?_⟩;refine(I.un (H8.nth 0 rfl) (by omega) (λ e=>hr (by rw[hrun,e];rfl))).mono ?_;intro e w9 he
  cases hb:run f .un (n+1) l.tail with
  | out=>rw[hb] at hrun;exact absurd hrun hr
  | ok x l1 =>
   rw[hb] at he hrun;obtain⟨v,B,rfl,hB,hp⟩:=he;have H9:=St.open_ (L:=[_,_]) (H8.upd 0 rfl hp);refine .inl ⟨_,rfl,⟨_,H9.ld 3 rfl (i:=0) rfl,rfl⟩,⟨_,rfl,H9.cells 5 rfl,rfl⟩,rfl,gh hB ?_⟩;rintro _ rfl;refine H9.al λ k4 w10 H10=>?_;refine .inl ⟨_,rfl,?_⟩;have H11:=St.shut (L:=[_,_]) (L':=[_]) ((St.shut (L:=[_,_]) (L':=[_,_]) (H10.pick [6,1,4,0])).pick [1,2,0]);refine(Hk (H11.nth 0 rfl)).mono ?_;rintro e u' w11 ⟨rfl,rfl,hp6⟩;have H12:=(St.open_ (L:=[_,_]) (H11.upd 0 rfl hp6)).pick [1,2];rw[show R0= .ok (.un (now l) x) l1 from hrun];exact .inl ⟨_,rfl,.inl ⟨rfl,_,_,rfl,⟨k4,v,B,hB,rfl,by rw[unC,hts];rfl⟩,St.post (St.shut (L:=[_,_]) (L':=[]) H12) 0 rfl⟩⟩
  | err line en =>
   rw[hb] at he hrun;obtain⟨q,rfl,hp⟩:=he;rw[show R0= .err line en from hrun];have H9:=(St.open_ (L:=[_,_]) (H8.upd 0 rfl hp)).pick [4,1,0];have H9:=St.shut (L:=[_,_]) (L':=[_]) H9;refine .inr ⟨_,rfl,.inr ⟨_,rfl,?_⟩⟩;refine(Cr (H9.nth 0 rfl)).mono ?_;rintro e u' w10 ⟨rfl,rfl,hp6⟩;have H10:=(St.open_ (L:=[_,_]) (H9.upd 0 rfl hp6)).pick [2,1];exact .inl ⟨_,rfl,.inr ⟨_,rfl,q,rfl,St.post (St.shut (L:=[_,_]) (L':=[]) H10) 0 rfl⟩⟩
def abb:List ByteArray:=[pn,Vy,Hb]
theorem abc [Inhabited G3o]{f:Nat} (I:Ih f) (h:(bn b g l n).at_ W) (hn:n≤24) (hr:run (f+1) .un n l≠ .out):Calls prog 144 #[pt b] W (Ans (mv b) (bn b g l n) W (run (f+1) .un n l) (um b g n W (bn b g l n))):=by
 refine aho b 0 ?_;refine(St.begin h).al λ k w2 H2=>?_;rintro _ rfl;refine⟨λ x w=>0≤x/\x≤3/\St W (bn b g l n).own w [bn b g l n,blk k #[pt b] 80]/\∀ j:Nat,(j:Int)<x->∀ s,abb[j]?=some s->is s l=false,λ x _=>(3 - x).toNat,⟨by omega,by omega,H2,λ j hj=>by omega⟩,λ _=>?_⟩;rintro x w3 ⟨h0,h3,H3,hno⟩;refine Sx.so (λ hx=>?_) (λ hx=>?_)
 ·have hx:=dt hx;obtain⟨j,rfl⟩:∃ j:Nat,x=j:=⟨x.toNat,by omega⟩;obtain⟨s,hs⟩:∃ s,abb[j]?=some s:=⟨abb[j]'(by show j<3;omega),List.getElem?_eq_getElem _⟩;refine⟨⟨by omega,by omega⟩,s,?_,?_⟩
  ·rw[show((j:Int).toNat * 1)=j by omega]
   match j,hs with
   | 0,hs=>cases hs;rfl
   | 1,hs=>cases hs;rfl
   | 2,hs=>cases hs;rfl
  ·refine H3.al λ k2 w4 H4=>?_;refine H4.st 2 rfl (i:=0) (by simp) λ w5 H5=>?_;have H5:St W _ w5 [bn b g l n,blk k #[pt b] 80,blk k2 #[.string s] 9]:=H5;refine⟨_,H5.ld 1 rfl (i:=0) rfl,_,H5.ld 2 rfl (i:=0) rfl,?_⟩;refine H5.callq (Cp s (H5.nth 0 rfl)) λ w6 H6=>?_;refine⟨_,rfl,?_⟩;refine Sx.so (λ h6=>?_) (λ h6=>?_)
   ·refine⟨_,H6.ld 1 rfl (i:=0) rfl,?_⟩
    have hone:oh l=true:=by
     unfold oh
     match j,hs with
     | 0,hs=>cases hs;rw[h6];rfl
     | 1,hs=>cases hs;rw[h6];simp
     | 2,hs=>cases hs;rw[h6];simp
    have H7:=St.shut (L:=[_,_,_]) (L':=[]) H6;refine(Xg I (H7.nth 0 rfl) hn h6 hone hr).mono ?_;intro e w8 he
    cases hb:run (f+1) .un n l with
    | out=>exact absurd hb hr
    | ok x l1 =>
     rw[hb] at he;obtain⟨v,B,rfl,hB,hp⟩:=he;exact .inl ⟨_,rfl,_,_,rfl,hB,(H7.upd 0 rfl hp).post 0 rfl⟩
    | err line en =>
     rw[hb] at he;obtain⟨q,rfl,hp⟩:=he;exact .inr ⟨_,rfl,_,rfl,(H7.upd 0 rfl hp).post 0 rfl⟩
   ·rintro z rfl
    rw[show IntKind.wrap .i64 ((j:Int)+1)=((j+1:Nat):Int) by
     rw[show((j:Int)+1)=((j+1:Nat):Int) by omega];exact Go.Bits.n64 (by omega)]
    refine⟨⟨by omega,by omega,H6.take 2,λ i hi s' hs'=>?_⟩,by show(3 - ((j+1:Nat):Int)).toNat<(3 - (j:Int)).toNat;omega⟩;by_cases e:i=j
    ·subst e;rw[hs] at hs';cases hs';exact h6
    ·exact hno i (by omega) s' hs'
 ·have hx:=df hx;refine⟨_,H3.ld 1 rfl (i:=0) rfl,?_⟩
  have hone:oh l=false:=by
   unfold oh;rw[hno 0 (by omega) pn rfl,hno 1 (by omega) Vy rfl,hno 2 (by omega) Hb rfl];rfl
  have hrun:run (f+1) .un n l=run f .prim n l:=by rw[run,hone];rfl
  rw[hrun] at hr ⊢;refine(I.prim (H3.nth 0 rfl) hn hr).mono ?_;intro e w8 he
  cases hb:run f .prim n l with
  | out=>exact absurd hb hr
  | ok x l1 =>
   rw[hb] at he;obtain⟨v,B,rfl,hB,hp⟩:=he;exact .inl ⟨_,rfl,_,_,rfl,hB,(H3.upd 0 rfl hp).post 0 rfl⟩
  | err line en =>
   rw[hb] at he;obtain⟨q,rfl,hp⟩:=he;exact .inr ⟨_,rfl,_,rfl,(H3.upd 0 rfl hp).post 0 rfl⟩
variable {W:World}{b g n:Nat}{l:List Tok}
def Wb (f n:Nat) (t:Tok) (l:List Tok):R T:=(run f .expr n l.tail).bind λ x l=>want cRB l λ l=>.ok (.index t 0 0 x) l
theorem Hl [Inhabited G3o]{f:Nat}{t:Tok} (I:Ih f) (h:(bn b g l n).at_ W) (hn:n≤24) (hi:is cLB l=true) (hr:Wb f n t l≠ .out):Calls prog 129 #[pt b,tkV t] W (Ans (mv b) (bn b g l n) W (Wb f n t l) (PtK 177 b g n W (bn b g l n))):=by
 refine ahv b 0 (tkL t).toArray ?_;refine(St.begin h).al λ k w2 H2=>?_;refine(gc (s:=cLB) (H2.nth 0 rfl) hi).mono ?_;rintro _ w3 ⟨rfl,hp⟩;have H3:=H2.upd 0 rfl hp;refine .inl ⟨rfl,?_⟩;refine H3.dr λ w4 H4=>?_;refine⟨_,rfl,H4.cells 1 rfl,?_⟩;generalize hR:Wb f n t l=R0 at *;have hrun:R0=(run f .expr n l.tail).bind λ x l=>want cRB l λ l=>.ok (.index t 0 0 x) l:=hR.symm;refine(I.expr (H4.nth 0 rfl) hn (λ e=>hr (by rw[hrun,e];rfl))).mono ?_;intro e w5 he
 cases hb:run f .expr n l.tail with
 | out=>rw[hb] at hrun;exact absurd hrun hr
 | err line en =>
  rw[hb] at he hrun;obtain⟨q,rfl,hp⟩:=he;rw[show R0= .err line en from hrun];exact .inr ⟨_,rfl,_,rfl,(H4.upd 0 rfl hp).post 0 rfl⟩
 | ok x l1 =>
  rw[hb] at he hrun;obtain⟨v,B,rfl,hB,hp⟩:=he;have H5:=St.open_ (L:=[_,_]) (H4.upd 0 rfl hp);refine .inl ⟨_,rfl,⟨_,rfl,H5.cells 2 rfl,rfl⟩,rfl,gh hB ?_⟩;rintro _ rfl;refine H5.al λ k2 w6 H6=>?_;have hrun:R0=want cRB l1 λ l=>.ok (.index t 0 0 x) l:=hrun;unfold want at hrun
  cases h3:is cRB l1 with
  | false =>
   rw[h3] at hrun;rw[show R0= .err (now l1).line 8 from hrun];exact Vz H6 0 rfl (ml (s:=cRB) (H6.nth 0 rfl) h3)
  | true =>
   rw[h3] at hrun;refine(gc (s:=cRB) (H6.nth 0 rfl) h3).mono ?_;rintro _ w7 ⟨rfl,hp⟩;have H7:=(H6.upd 0 rfl hp).pick [3,1,0];have H7:=(St.shut (L:=[_,_]) (L':=[_]) H7).pick [1,0];rw[show R0= .ok (.index t 0 0 x) l1.tail from hrun];exact .inl ⟨rfl,k2,_,rfl,⟨k2,v,B,hB,rfl,rfl⟩,St.post (St.shut (L:=[_,_]) (L':=[]) H7) 0 rfl⟩
def uq [Inhabited G3o] (b g n:Nat) (l:List Tok) (t:Tok) (kc kp k:Nat) (p:Option Addr) (c:Nat) (us:List Value) (As:List Asn):List Asn :=
 [bn b g l n,blk kc #[pt k] 193,blk kp #[pt b] 80,blk k (sk t none (.slice p us.length c)).toArray 214,sl 169 1 (.slice p us.length c) us.length us,all As]
theorem Rv [Inhabited G3o]{f:Nat}{t:Tok}{kc kp k c:Nat}{p:Option Addr}{us:List Value}{As:List Asn}{ts:List T} (I:Ih f) (hT:isP (jj ts .nil) us (all As)) (h:(all (uq b g n l t kc kp k p c us As)).at_ W) (hn:n≤24) (hlen:us.length≤8005) (hr:run f .expr n l≠ .out) :
  Calls prog 142 #[pt kc,pt kp] W (Ans (mv b) (all (uq b g n l t kc kp k p c us As)) W (run f .expr n l) λ x l' e w'=>e= .returned (.tuple #[])/\∃ v p' c' As',isP (jj (ts++[x]) .nil) (us++[v]) (all As')/\Post (all (uq b g n l t kc kp k p c us As)) W (all (uq b g n l' t kc kp k p' c' (us++[v]) As')) w'):=by
 refine ahu kc 0 kp 0 ?_;have H:=St.open_ (L':=[]) (St.begin h);refine H.dr λ w2 H2=>?_;refine⟨_,H2.ld 2 rfl (i:=0) rfl,_,H2.ld 1 rfl (i:=0) rfl,_,H2.ld 1 rfl (i:=0) rfl,ptr_some ⟨p,us.length,c,H2.ld 3 rfl (i:=4) rfl,?_⟩⟩;refine(I.expr (H2.nth 0 rfl) hn hr).mono ?_;intro e w3 he
 cases hb:run f .expr n l with
 | out=>exact absurd hb hr
 | err line en =>
  rw[hb] at he;obtain⟨q,rfl,hp⟩:=he;exact .inr ⟨_,rfl,_,rfl,(H2.upd 0 rfl hp).post 0 rfl⟩
 | ok x l1 =>
  rw[hb] at he;obtain⟨v,B,rfl,hB,hp⟩:=he;have H3:=St.open_ (L:=[_,_]) (H2.upd 0 rfl hp);refine .inl ⟨_,rfl,⟨p,_,c,H3.ld 4 rfl (i:=4) rfl,rfl⟩,⟨_,H3.ld 2 rfl (i:=0) rfl,rfl⟩,⟨_,H3.ld 2 rfl (i:=0) rfl,rfl⟩,gh hB ?_⟩;refine H3.al λ k5 w4 H4=>?_;refine⟨⟨p,_,c,H4.ld 4 rfl (i:=4) rfl,rfl⟩,⟨_,H4.ld 2 rfl (i:=0) rfl,rfl⟩,⟨_,H4.ld 2 rfl (i:=0) rfl,rfl⟩,?_⟩;refine H4.app 5 rfl [v] (.inr ⟨_,rfl,λ j u hj=>?_⟩) rfl (by simpa using Mn hB) (by show us.length+1≤maxLen;unfold maxLen;omega) (by omega) λ p' c' w5 H5=>?_
  ·match j,hj with
   | 0,hj=>cases hj;exact H4.ld 7 rfl (i:=0) rfl
  ·refine⟨⟨_,H5.ld 2 rfl (i:=0) rfl,rfl⟩,ptr_some (H5.st 4 rfl (i:=4) (by simp [sk,tkL]) λ w6 H6=>?_)⟩;refine⟨rfl,v,p',c',?_⟩;obtain⟨As',h1,h2⟩:=ul hB hT;have H7:=H6.pick [6,1,0,2,3,4,5];have H8:=(h2 _ _ _ _ H7).pick [1,2,3,4,5,0];refine⟨As',h1,?_⟩
   have e1:(us++[v]).length=us.length+1:=by simp
   have H9:St W (all (uq b g n l t kc kp k p c us As)).own w6 (uq b g n l1 t kc kp k p' c' (us++[v]) As'++[]):=by
    unfold uq;rw[e1];exact H8
   exact St.post (St.shut H9) 0 rfl
def xn (f n:Nat) (t:Tok) (l:List Tok):R T:=(run f .args n l.tail).bind λ xs l=>.ok (.call t none xs) l
theorem Ry [Inhabited G3o]{f:Nat}{t:Tok}{kc kp k:Nat} (I:∀ f'≤f,Ih f') (h:(all (uq b g n l t kc kp k none 0 [] [])).at_ W) (hn:n≤24) (hi:is cLP l=true) (hr:xn f n t l≠ .out) :
  Calls prog 54 #[pt b,.func (.func 142) #[] #[pt kc,pt kp]] W (Ans (mv b) (all (uq b g n l t kc kp k none 0 [] [])) W (xn f n t l) λ x l' e w'=>e= .returned (.tuple #[])/\∃ p c us As xs,x= .call t none xs/\isP xs us (all As)/\Post (all (uq b g n l t kc kp k none 0 [] [])) W (all (uq b g n l' t kc kp k p c us As)) w'):=by
 refine ahr b 0 kc kp ?_;have H:=St.open_ (L':=[]) (St.begin h);refine(gc (s:=cLP) (H.nth 0 rfl) hi).mono ?_;rintro _ w2 ⟨rfl,hp⟩;have H2:=H.upd 0 rfl hp;refine .inl ⟨rfl,?_⟩;have hG:=(ye (H.nth 0 rfl)).1;generalize hR:xn f n t l=R0 at *;have hrun:R0=(run f .args n l.tail).bind λ xs l=>.ok (.call t none xs) l:=hR.symm;refine(dq cRP (H2.nth 0 rfl)).mono ?_;rintro _ w3 ⟨rfl,hp⟩;have H3:=H2.upd 0 rfl hp;refine⟨_,rfl,?_⟩;have hlen0:l.length≤8001:=hG.2.2.2
 refine⟨λ more w=>∃ ts us As p c l1 f',isP (jj ts .nil) us (all As)/\St W (all (uq b g n l t kc kp k none 0 [] [])).own w (uq b g n l1 t kc kp k p c us As)/\us.length+l1.length≤8001/\f'≤f/\(match more with
  | true=>R0=(run f' .argl n l1).bind λ xs l'=>.ok (.call t none (jj ts xs)) l'
  | false=>R0= .ok (.call t none (jj ts .nil)) l1),λ more w=>match more with | true=>ot b w+1 | false=>0,?_,λ _=>?_⟩
 ·match f,I,hrun with
  | 0,_,hrun=>exact absurd hrun hr
  | f+1,I,hrun =>
  unfold run at hrun;have hl2:l.tail.length≤l.length:=kw l
  cases hi2:is cRP l.tail with
  | true =>
   rw[hi2] at hrun H3;have:=kw l.tail;exact⟨[],[],[],none,0,l.tail.tail,0,⟨rfl,rfl⟩,H3,by simp only[List.length_nil];omega,by omega,hrun⟩
  | false =>
   rw[hi2] at hrun H3;exact⟨[],[],[],none,0,l.tail,f,⟨rfl,rfl⟩,H3,by simp only[List.length_nil];omega,by omega,hrun⟩
 ·rintro more w4 ⟨ts,us,As,p,c,l1,f',hT,H4,hlen,hf,hm⟩;refine Sx.so (λ hm1=>?_) (λ hm1=>?_)
  ·subst hm1;have hm:R0=(run f' .argl n l1).bind λ xs l'=>.ok (.call t none (jj ts xs)) l':=hm
   match f',hf,hm with
   | 0,_,hm=>exact absurd hm hr
   | f'+1,hf,hm =>
   unfold run at hm;have H5:=St.shut (L':=[]) (by simpa using H4);refine(Rv (I f' (by omega)) hT (H5.nth 0 rfl) hn (by omega) (λ e=>hr (by rw[hm,e];rfl))).mono ?_;intro e w6 he
   cases hb:run f' .expr n l1 with
   | out=>rw[hb] at hm;exact absurd hm hr
   | err line en =>
    rw[hb] at he hm;obtain⟨q,rfl,hp⟩:=he;rw[show R0= .err line en from hm];exact .inr ⟨_,rfl,_,rfl,(H5.upd 0 rfl hp).post 0 rfl⟩
   | ok x l2 =>
    rw[hb] at he hm;obtain⟨rfl,v,p',c',As',hT',hp⟩:=he;have H6:=St.open_ (L':=[]) (H5.upd 0 rfl hp);have hle:=(zk _ _ _ _ _ _ hb).1;have hm:R0=(if is cRP l2 then R.ok (T.cons x .nil) l2.tail else want ej l2 λ l=>(run f' .argl n l).bind λ xs l=>.ok (.cons x xs) l).bind λ xs l'=>.ok (.call t none (jj ts xs)) l':=hm
    have hu:(us++[v]).length=us.length+1:=by simp
    refine .inl ⟨rfl,?_⟩;refine(dq cRP (H6.nth 0 rfl)).mono ?_;rintro _ w7 ⟨rfl,hp⟩;have H7:=H6.upd 0 rfl hp;refine⟨_,rfl,?_⟩;obtain⟨hG2, -⟩:=ye (H6.nth 0 rfl)
    cases hi2:is cRP l2 with
    | true =>
     rw[hi2] at hm;rw[if_pos hi2] at H7;have h8:=dn (l:=l2) (by rw[Ri hi2];omega);refine⟨⟨ts++[x],us++[v],As',p',c',l2.tail,0,hT',H7,by rw[hu];omega,by omega,?_⟩,by show 0<ot b w4+1;omega⟩;show R0= .ok (.call t none (jj (ts++[x]) .nil)) l2.tail;rw[fv];exact hm
    | false =>
     rw[hi2] at hm;rw[if_neg (by rw[hi2];exact Bool.false_ne_true)] at H7;have hm:R0=(want ej l2 λ l=>(run f' .argl n l).bind λ xs l=>.ok (.cons x xs) l).bind λ xs l'=>.ok (.call t none (jj ts xs)) l':=hm;unfold want at hm
     cases hi3:is ej l2 with
     | false =>
      rw[hi3] at hm;rw[show R0= .err (now l2).line 8 from hm];exact Vz H7 0 rfl (ml (s:=ej) (H7.nth 0 rfl) hi3)
     | true =>
      rw[hi3] at hm;refine(gc (s:=ej) (H7.nth 0 rfl) hi3).mono ?_;rintro _ w8 ⟨rfl,hp⟩;have H8:=H7.upd 0 rfl hp;have h8:=dn (l:=l2) (by rw[Ri hi3];omega);refine .inl ⟨rfl,⟨ts++[x],us++[v],As',p',c',l2.tail,f',hT',H8,by rw[hu];omega,by omega,?_⟩,?_⟩
      ·show R0=(run f' .argl n l2.tail).bind λ xs l'=>.ok (.call t none (jj (ts++[x]) xs)) l';rw[show R0=((run f' .argl n l2.tail).bind λ xs l=>.ok (.cons x xs) l).bind λ xs l'=>.ok (.call t none (jj ts xs)) l' from hm]
       cases run f' .argl n l2.tail with
       | ok xs l'=>show R.ok _ _=R.ok _ _;rw[fv]
       | err=>rfl
       | out=>rfl
      ·show ot b w8+1<ot b w4+1;rw[fw (H8.nth 0 rfl),fw (H4.nth 0 rfl)];omega
  ·subst hm1;have hm:R0= .ok (.call t none (jj ts .nil)) l1:=hm;rw[hm];exact⟨rfl,p,c,us,As,_,rfl,hT,St.post (St.shut (L':=[]) (by simpa using H4)) 0 rfl⟩
theorem Mo [Inhabited G3o]{f:Nat}{t:Tok} (I:∀ f'≤f,Ih f') (h:(bn b g l n).at_ W) (hn:n≤24) (hi:is cLP l=true) (hr:xn f n t l≠ .out):Calls prog 128 #[pt b,tkV t] W (Ans (mv b) (bn b g l n) W (xn f n t l) (PtK 193 b g n W (bn b g l n))):=by
 refine aht b 0 (tkL t).toArray ?_;refine(St.begin h).al λ k w2 H2=>?_;refine H2.al λ k2 w3 H3=>?_;refine⟨_,rfl,H3.cells 2 rfl,rfl,?_⟩;rintro _ rfl;refine H3.al λ k3 w4 H4=>?_;refine H4.al λ k4 w5 H5=>?_;refine H5.st 4 rfl (i:=0) (by simp) λ w6 H6=>?_;refine⟨_,H6.ld 1 rfl (i:=0) rfl,?_⟩
 have H7:St W (bn b g l n).own w6 ([bn b g l n,blk k4 #[pt k3] 193,blk k #[pt b] 80,blk k3 (sk t none (.slice none 0 0)).toArray 214]++[sl 169 1 (.slice none 0 0) 0 [],all []]):=by
  have:=((H6.pick [0,4,1,3]).add (A:=sl 169 1 (.slice none 0 0) 0 []) ⟨Sl.nil _ _ _,XTouch.refl _ _,λ q hq=>by cases hq⟩).add (A:=all []) ⟨trivial,XTouch.refl _ _,λ q hq=>hq.elim⟩;exact this
 have H7:=St.shut (L:=uq b g n l t k4 k k3 none 0 [] []) (L':=[]) H7;refine(Ry I (H7.nth 0 rfl) hn hi hr).mono ?_;intro e w8 he
 cases hb:xn f n t l with
 | out=>exact absurd hb hr
 | err line en =>
  rw[hb] at he;obtain⟨q,rfl,hp⟩:=he;exact .inr ⟨_,rfl,_,rfl,(H7.upd 0 rfl hp).post 0 rfl⟩
 | ok x l1 =>
  rw[hb] at he;obtain⟨rfl,p,c,us,As,xs,rfl,hT,hp⟩:=he;have H8:=St.open_ (L':=[]) (H7.upd 0 rfl hp);refine .inl ⟨rfl,_,H8.ld 1 rfl (i:=0) rfl,?_⟩;have H9:=(St.shut (L:=[_,_,_]) (L':=[_]) (H8.pick [3,4,5,0])).pick [1,0];exact⟨k3,_,rfl,⟨k3,p,c,us,_,hT,rfl,rfl⟩,St.post (St.shut (L:=[_,_]) (L':=[]) H9) 0 rfl⟩
variable {W:World}{b g n:Nat}{l:List Tok}
theorem ou {β:Type} (l:List Tok) (k:Int->List Tok->R β):number l k=(number l λ v l=>R.ok v l).bind k:=by
 unfold number;split
 ·rfl
 ·split <;> rfl
theorem qr {β:Type} (l:List Tok) (k:Tok->List Tok->R β):name l k=(name l λ v l=>R.ok v l).bind k:=by
 unfold name;split
 ·rfl
 ·split <;> rfl
theorem Rz [Inhabited G3o]{f:Nat} (I:∀ f'≤f,Ih f') (h:(bn b g l n).at_ W) (hn:n≤24) (hr:run (f+1) .prim n l≠ .out):Calls prog 172 #[pt b] W (Ans (mv b) (bn b g l n) W (run (f+1) .prim n l) (um b g n W (bn b g l n))):=by
 refine ahq b 0 ?_;generalize hR:run (f+1) .prim n l=R0 at *;have hrun:=hR.symm;unfold run at hrun;refine(St.begin h).callq (gx h) λ w2 H2=>?_;refine⟨_,rfl,_,rfl,?_⟩;refine Sx.so (λ h3=>?_) (λ h3=>?_)
 ·have hk:(now l).k=2:=by have:=beq_iff_eq.1 h3;omega
  rw[if_pos hk,ou] at hrun;refine(Cq (H2.nth 0 rfl)).mono ?_;intro e w3 he
  cases hb:(number l λ v l=>R.ok v l) with
  | out=>rw[hb] at hrun;exact absurd hrun hr
  | err line en =>
   rw[hb] at he hrun;obtain⟨q,rfl,hp⟩:=he;rw[show R0= .err line en from hrun];exact .inr ⟨_,rfl,_,rfl,(H2.upd 0 rfl hp).post 0 rfl⟩
  | ok v l1 =>
   rw[hb] at he hrun;obtain⟨rfl,hp⟩:=he;rw[show R0= .ok (.num v (now l).line) l1 from hrun];have H3:=(H2.upd 0 rfl hp).add (A:=emp) ⟨trivial,XTouch.refl _ _,λ q hq=>hq.elim⟩;exact .inl ⟨_,rfl,_,_,rfl,⟨rfl,rfl⟩,St.post (St.shut (L:=[_,_]) (L':=[]) H3) 0 rfl⟩
 ·have hk:¬ (now l).k=2:=λ e=>by rw[e] at h3;cases h3
  rw[if_neg hk] at hrun;refine(dq cLP (H2.nth 0 rfl)).mono ?_;rintro _ w3 ⟨rfl,hp⟩;have H3:=H2.upd 0 rfl hp;refine⟨_,rfl,?_⟩;refine Sx.so (λ h4=>?_) (λ h4=>?_)
  ·rw[if_pos h4] at hrun H3;refine((I f (Nat.le_refl _)).expr (H3.nth 0 rfl) hn (λ e=>hr (by rw[hrun,e];rfl))).mono ?_;intro e w5 he
   cases hb:run f .expr n l.tail with
   | out=>rw[hb] at hrun;exact absurd hrun hr
   | err line en =>
    rw[hb] at he hrun;obtain⟨q,rfl,hp⟩:=he;rw[show R0= .err line en from hrun];exact .inr ⟨_,rfl,_,rfl,(H3.upd 0 rfl hp).post 0 rfl⟩
   | ok x l1 =>
    rw[hb] at he hrun;obtain⟨v,B,rfl,hB,hp⟩:=he;have H5:=St.open_ (L:=[_,_]) (H3.upd 0 rfl hp);refine .inl ⟨_,rfl,?_⟩;have hrun:R0=want cRP l1 λ l=>.ok x l:=hrun;unfold want at hrun
    cases h5:is cRP l1 with
    | false =>
     rw[h5] at hrun;rw[show R0= .err (now l1).line 8 from hrun];exact Vz H5 0 rfl (ml (s:=cRP) (H5.nth 0 rfl) h5)
    | true =>
     rw[h5] at hrun;refine(gc (s:=cRP) (H5.nth 0 rfl) h5).mono ?_;rintro _ w7 ⟨rfl,hp⟩;have H7:=H5.upd 0 rfl hp;rw[show R0= .ok x l1.tail from hrun];exact .inl ⟨rfl,_,_,rfl,hB,St.post (St.shut (L:=[_,_]) (L':=[]) H7) 0 rfl⟩
  ·have h4':¬ is cLP l=true:=by rw[h4];exact Bool.false_ne_true
   rw[if_neg h4'] at hrun H3;rw[qr] at hrun;refine(oq (H3.nth 0 rfl)).mono ?_;intro e w4 he
   cases hb:(name l λ t l=>R.ok t l) with
   | out=>rw[hb] at hrun;exact absurd hrun hr
   | err line en =>
    rw[hb] at he hrun;obtain⟨q,rfl,hp⟩:=he;rw[show R0= .err line en from hrun];exact .inr ⟨_,rfl,_,rfl,(H3.upd 0 rfl hp).post 0 rfl⟩
   | ok t l1 =>
    rw[hb] at he hrun;obtain⟨rfl,hp⟩:=he;have H4:=H3.upd 0 rfl hp
    have hrun:R0=if is cLP l1 then xn f n t l1 else if is cLB l1 then Wb f n t l1 else .ok (.name t 0 0) l1:=hrun
    refine .inl ⟨_,rfl,?_⟩;refine H4.al λ k w5 H5=>?_;refine H5.sts0 1 (n:=3) (vs:=(tkL t).toArray) rfl rfl rfl (by simpa using gf _) λ w6 H6=>?_;refine H6.callq (Cp cLP (H6.nth 0 rfl)) λ w7 H7=>?_;refine⟨_,rfl,?_⟩;refine Sx.so (λ h5=>?_) (λ h5=>?_)
    ·rw[if_pos h5] at hrun;refine⟨_,rfl,H7.cells 1 rfl,?_⟩;rw[hrun] at hr ⊢;refine(Mo I (H7.nth 0 rfl) hn h5 hr).mono ?_;intro e w8 he
     cases hc:xn f n t l1 with
     | out=>exact absurd hc hr
     | err line en =>
      rw[hc] at he;obtain⟨q,rfl,hp⟩:=he;exact .inr ⟨_,rfl,_,rfl,(H7.upd 0 rfl hp).post 0 rfl⟩
     | ok x l2 =>
      rw[hc] at he;obtain⟨k,B,rfl,hB,hp⟩:=he;exact .inl ⟨_,rfl,_,_,rfl,hB,(H7.upd 0 rfl hp).post 0 rfl⟩
    ·rw[if_neg (by rw[h5];exact Bool.false_ne_true)] at hrun;refine H7.callq (Cp cLB (H7.nth 0 rfl)) λ w8 H8=>?_;refine⟨_,rfl,?_⟩;refine Sx.so (λ h6=>?_) (λ h6=>?_)
     ·rw[if_pos h6] at hrun;refine⟨_,rfl,H8.cells 1 rfl,?_⟩;rw[hrun] at hr ⊢;refine(Hl (I f (Nat.le_refl _)) (H8.nth 0 rfl) hn h6 hr).mono ?_;intro e w9 he
      cases hc:Wb f n t l1 with
      | out=>exact absurd hc hr
      | err line en =>
       rw[hc] at he;obtain⟨q,rfl,hp⟩:=he;exact .inr ⟨_,rfl,_,rfl,(H8.upd 0 rfl hp).post 0 rfl⟩
      | ok x l2 =>
       rw[hc] at he;obtain⟨k,B,rfl,hB,hp⟩:=he;exact .inl ⟨_,rfl,_,_,rfl,hB,(H8.upd 0 rfl hp).post 0 rfl⟩
     ·rw[if_neg (by rw[h6];exact Bool.false_ne_true)] at hrun;refine⟨_,rfl,H8.cells 1 rfl,rfl,?_⟩;rintro _ rfl;refine H8.al λ k3 w9 H9=>?_;rw[hrun];exact⟨_,_,rfl,⟨k3,rfl,rfl⟩,St.post (St.shut (L:=[_,_]) (L':=[]) (H9.pick [0,2])) 0 rfl⟩
variable {W:World}{b g n:Nat}{l:List Tok}
def ee (f n:Nat) (l:List Tok):R T:=(run f .expr n l).bind λ x l=>want cu l λ l=>.ok x l
theorem qs {β:Type} (s:ByteArray) (l:List Tok) (k:List Tok->R β):want s l k=(want s l λ l=>R.ok () l).bind λ _ l=>k l:=by
 unfold want;split <;> rfl
theorem lc {f n:Nat}{l:List Tok}{β:Type} (k:T->List Tok->R β):((run f .expr n l).bind λ x l=>want cu l λ l=>k x l)=(ee f n l).bind k:=by
 unfold ee
 cases run f .expr n l with
 | ok x l1=>show want cu l1 _=(want cu l1 _).bind k;unfold want;split <;> rfl
 | err=>rfl
 | out=>rfl
theorem iv [Inhabited G3o]{f:Nat} (I:Ih f) (h:(bn b g l n).at_ W) (hn:n≤24) (hr:ee f n l≠ .out):Calls prog 112 #[pt b] W (Ans (mv b) (bn b g l n) W (ee f n l) (um b g n W (bn b g l n))):=by
 refine ahw b 0 ?_;have H:=St.begin h;generalize hR:ee f n l=R0 at *;have hrun:R0=(run f .expr n l).bind λ x l=>want cu l λ l=>.ok x l:=hR.symm;refine(I.expr h hn (λ e=>hr (by rw[hrun,e];rfl))).mono ?_;intro e w5 he
 cases hb:run f .expr n l with
 | out=>rw[hb] at hrun;exact absurd hrun hr
 | err line en =>
  rw[hb] at he hrun;obtain⟨q,rfl,hp⟩:=he;rw[show R0= .err line en from hrun];exact .inr ⟨_,rfl,_,rfl,(H.upd 0 rfl hp).post 0 rfl⟩
 | ok x l1 =>
  rw[hb] at he hrun;obtain⟨v,B,rfl,hB,hp⟩:=he;have H5:=St.open_ (L:=[_,_]) (H.upd 0 rfl hp);refine .inl ⟨_,rfl,?_⟩;have hrun:R0=want cu l1 λ l=>.ok x l:=hrun;unfold want at hrun
  cases h5:is cu l1 with
  | false =>
   rw[h5] at hrun;rw[show R0= .err (now l1).line 8 from hrun];exact Vz H5 0 rfl (ml (s:=cu) (H5.nth 0 rfl) h5)
  | true =>
   rw[h5] at hrun;refine(gc (s:=cu) (H5.nth 0 rfl) h5).mono ?_;rintro _ w7 ⟨rfl,hp⟩;have H7:=H5.upd 0 rfl hp;rw[show R0= .ok x l1.tail from hrun];exact .inl ⟨rfl,_,_,rfl,hB,St.post (St.shut (L:=[_,_]) (L':=[]) H7) 0 rfl⟩
def abd (i x:T):T:=match i with | .index t w z p=>.putS t w z p x | _=>.nil
def zr (f n:Nat) (l:List Tok):R T:=(name l λ t l=>R.ok t l).bind λ t l =>
 if is cLP l then (xn f n t l).bind λ c l=>want cu l λ l=>.ok (.doS t.line c) l
 else if is cLB l then (Wb f n t l).bind λ i l=>want cEq l λ l=>(ee f n l).bind λ x l=>.ok (abd i x) l
 else want cEq l λ l=>(ee f n l).bind λ x l=>.ok (.setS t 0 0 x) l
theorem Xh [Inhabited G3o]{f n:Nat}{l:List Tok} (hk:(now l).k=1):run (f+1) .stmt n l=zr f n l:=by
 rw[run,if_pos hk,qr];unfold zr;congr 1;funext t l;split
 ·unfold xn;cases run f .args n l.tail <;> rfl
 ·split
  ·unfold Wb
   cases run f .expr n l.tail with
   | ok p l1 =>
    simp only[R.bind]
    cases h1:is cRB l1 with
    | false=>simp only[want,h1,Bool.false_eq_true,if_false]
    | true =>
     simp only[want,h1,if_true]
     cases h2:is cEq l1.tail with
     | false=>simp only[h2,Bool.false_eq_true,if_false]
     | true =>
      simp only[h2,if_true];exact lc (k:=λ x l=>R.ok (T.putS t 0 0 p x) l)
   | err=>rfl
   | out=>rfl
  ·congr 1;funext l;exact lc (k:=λ x l=>R.ok (T.setS t 0 0 x) l)
theorem Sa [Inhabited G3o]{f:Nat} (I:∀ f'≤f,Ih f') (h:(bn b g l n).at_ W) (hn:n≤24) (hr:zr f n l≠ .out):Calls prog 111 #[pt b] W (Ans (mv b) (bn b g l n) W (zr f n l) (um b g n W (bn b g l n))):=by
 refine ahx b 0 ?_;have H:=St.begin h;have I0:=I f (Nat.le_refl _);generalize hR:zr f n l=R0 at *;have hrun:=hR.symm;unfold zr at hrun;refine(oq h).mono ?_;intro e w2 he
 cases hb:(name l λ t l=>R.ok t l) with
 | out=>rw[hb] at hrun;exact absurd hrun hr
 | err line en =>
  rw[hb] at he hrun;obtain⟨q,rfl,hp⟩:=he;rw[show R0= .err line en from hrun];exact .inr ⟨_,rfl,_,rfl,(H.upd 0 rfl hp).post 0 rfl⟩
 | ok t l1 =>
  rw[hb] at he hrun;obtain⟨rfl,hp⟩:=he;have H2:=H.upd 0 rfl hp
  have hrun:R0=if is cLP l1 then (xn f n t l1).bind λ c l=>want cu l λ l=>.ok (.doS t.line c) l
   else if is cLB l1 then (Wb f n t l1).bind λ i l=>want cEq l λ l=>(ee f n l).bind λ x l=>.ok (abd i x) l
   else want cEq l1 λ l=>(ee f n l).bind λ x l=>.ok (.setS t 0 0 x) l:=hrun
  refine .inl ⟨_,rfl,?_⟩;refine H2.al λ k w3 H3=>?_;refine H3.sts0 1 (n:=3) (vs:=(tkL t).toArray) rfl rfl rfl (by simpa using gf _) λ w4 H4=>?_;refine H4.callq (Cp cLP (H4.nth 0 rfl)) λ w5 H5=>?_;refine⟨_,rfl,?_⟩;refine Sx.so (λ h5=>?_) (λ h5=>?_)
  ·rw[if_pos h5] at hrun;refine⟨_,rfl,H5.cells 1 rfl,?_⟩;refine(Mo I (H5.nth 0 rfl) hn h5 (λ e=>hr (by rw[hrun,e];rfl))).mono ?_;intro e w6 he
   cases hc:xn f n t l1 with
   | out=>rw[hc] at hrun;exact absurd hrun hr
   | err line en =>
    rw[hc] at he hrun;obtain⟨q,rfl,hp⟩:=he;rw[show R0= .err line en from hrun];exact .inr ⟨_,rfl,_,rfl,(H5.upd 0 rfl hp).post 0 rfl⟩
   | ok x l2 =>
    rw[hc] at he hrun;obtain⟨k2,B,rfl,hB,hp⟩:=he;have H6:=St.open_ (L:=[_,_]) (H5.upd 0 rfl hp);have hrun:R0=want cu l2 λ l=>.ok (.doS t.line x) l:=hrun;unfold want at hrun;refine .inl ⟨_,rfl,?_⟩
    cases h6:is cu l2 with
    | false =>
     rw[h6] at hrun;rw[show R0= .err (now l2).line 8 from hrun];exact Vz H6 0 rfl (ml (s:=cu) (H6.nth 0 rfl) h6)
    | true =>
     rw[h6] at hrun;refine(gc (s:=cu) (H6.nth 0 rfl) h6).mono ?_;rintro _ w7 ⟨rfl,hp⟩;have H7:=H6.upd 0 rfl hp;refine .inl ⟨rfl,?_⟩;rintro _ rfl;refine H7.al λ k3 w8 H8=>?_;rw[show R0= .ok (.doS t.line x) l2.tail from hrun];have H9:=(St.shut (L:=[_,_]) (L':=[_]) (H8.pick [3,1,0])).pick [1,0];exact⟨_,_,rfl,⟨k3,k2,B,hB,rfl,rfl⟩,St.post (St.shut (L:=[_,_]) (L':=[]) H9) 0 rfl⟩
  ·rw[if_neg (by rw[h5];exact Bool.false_ne_true)] at hrun;refine H5.callq (Cp cLB (H5.nth 0 rfl)) λ w6 H6=>?_;refine⟨_,rfl,?_⟩;refine Sx.so (λ h6=>?_) (λ h6=>?_)
   ·rw[if_pos h6] at hrun;refine⟨_,rfl,H6.cells 1 rfl,?_⟩;refine(Hl I0 (H6.nth 0 rfl) hn h6 (λ e=>hr (by rw[hrun,e];rfl))).mono ?_;intro e w7 he
    cases hc:Wb f n t l1 with
    | out=>rw[hc] at hrun;exact absurd hrun hr
    | err line en =>
     rw[hc] at he hrun;obtain⟨q,rfl,hp⟩:=he;rw[show R0= .err line en from hrun];exact .inr ⟨_,rfl,_,rfl,(H6.upd 0 rfl hp).post 0 rfl⟩
    | ok i l2 =>
     rw[hc] at he hrun;obtain⟨k2,B,rfl,hB,hp⟩:=he;have H7:=St.open_ (L:=[_,_]) (H6.upd 0 rfl hp);have hrun:R0=want cEq l2 λ l=>(ee f n l).bind λ x l=>.ok (abd i x) l:=hrun
     obtain⟨p,rfl⟩:∃ p,i= .index t 0 0 p:=by
      unfold Wb at hc;obtain⟨p,l3, -,h2⟩:=bind_ok hc;obtain⟨-,h3⟩:=am h2;cases h3;exact⟨p,rfl⟩
     unfold want at hrun;refine .inl ⟨_,rfl,?_⟩
     cases h7:is cEq l2 with
     | false =>
      rw[h7] at hrun;rw[show R0= .err (now l2).line 8 from hrun];exact Vz H7 0 rfl (ml (s:=cEq) (H7.nth 0 rfl) h7)
     | true =>
      rw[h7] at hrun;refine(gc (s:=cEq) (H7.nth 0 rfl) h7).mono ?_;rintro _ w8 ⟨rfl,hp⟩;have H8:=H7.upd 0 rfl hp;refine .inl ⟨rfl,?_⟩;have hrun:R0=(ee f n l2.tail).bind λ x l=>.ok (.putS t 0 0 p x) l:=hrun;refine(iv I0 (H8.nth 0 rfl) hn (λ e=>hr (by rw[hrun,e];rfl))).mono ?_;intro e w9 he
      cases hd:ee f n l2.tail with
      | out=>rw[hd] at hrun;exact absurd hrun hr
      | err line en =>
       rw[hd] at he hrun;obtain⟨q,rfl,hp⟩:=he;rw[show R0= .err line en from hrun];exact .inr ⟨_,rfl,_,rfl,(H8.upd 0 rfl hp).post 0 rfl⟩
      | ok x l3 =>
       rw[hd] at he hrun;obtain⟨v,B2,rfl,hB2,hp⟩:=he;have H9:=St.open_ (L:=[_,_]) (H8.upd 0 rfl hp);refine .inl ⟨_,rfl,gh hB2 ?_⟩;rintro _ rfl;refine H9.al λ k4 w10 H10=>?_;rw[show R0= .ok (.putS t 0 0 p x) l3 from hrun];obtain⟨k',u,A1,hA1,hv,rfl⟩:=hB
       obtain rfl:k2=k':=by
        simp only[List.cons.injEq,Value.iface.injEq,pt,Value.pointer.injEq,Option.some.injEq,Addr.mk.injEq] at hv;exact hv.1.2.1
       have H11:=St.open_ (L:=[_,_]) (H10.pick [2,4,1,0]);have H12:=(St.shut (L:=[_,_,_,_]) (L':=[_]) (H11.pick [2,0,1,3,4])).pick [1,0];exact⟨_,_,rfl,⟨k4,k2,u,v,A1,B2,hA1,hB2,rfl,rfl⟩,St.post (St.shut (L:=[_,_]) (L':=[]) H12) 0 rfl⟩
   ·rw[if_neg (by rw[h6];exact Bool.false_ne_true)] at hrun;unfold want at hrun
    cases h7:is cEq l1 with
    | false =>
     rw[h7] at hrun;rw[show R0= .err (now l1).line 8 from hrun];exact Vz H6 0 rfl (ml (s:=cEq) (H6.nth 0 rfl) h7)
    | true =>
     rw[h7] at hrun;refine(gc (s:=cEq) (H6.nth 0 rfl) h7).mono ?_;rintro _ w8 ⟨rfl,hp⟩;have H8:=H6.upd 0 rfl hp;refine .inl ⟨rfl,?_⟩;have hrun:R0=(ee f n l1.tail).bind λ x l=>.ok (.setS t 0 0 x) l:=hrun;refine H8.dr λ w9 H9=>?_;refine⟨_,rfl,H9.cells 1 rfl,_,rfl,H9.cells 1 rfl,rfl,?_⟩;rintro _ rfl;refine⟨?_,?_⟩
     ·refine H9.alb λ k5 w10 H10 _ hb10=>?_;refine⟨hb10,⟨_,rfl,H10.cells 1 rfl,rfl⟩,?_⟩;refine(iv I0 (H10.nth 0 rfl) hn (λ e=>hr (by rw[hrun,e];rfl))).mono ?_;intro e w11 he
      cases hd:ee f n l1.tail with
      | out=>rw[hd] at hrun;exact absurd hrun hr
      | err line en =>
       rw[hd] at he hrun;obtain⟨q,rfl,hp⟩:=he;rw[show R0= .err line en from hrun];exact .inr ⟨_,rfl,_,rfl,(H10.upd 0 rfl hp).post 0 rfl⟩
      | ok x l3 =>
       rw[hd] at he hrun;obtain⟨v,B,rfl,hB,hp⟩:=he;have H11:=St.open_ (L:=[_,_]) (H10.upd 0 rfl hp);refine .inl ⟨_,rfl,⟨_,rfl,H11.cells 2 rfl,rfl⟩,rfl,gh hB ?_⟩;rintro _ rfl;refine H11.al λ k6 w12 H12=>?_;rw[show R0= .ok (.setS t 0 0 x) l3 from hrun];have H13:=(St.shut (L:=[_,_,_]) (L':=[_]) (H12.pick [4,3,1,0])).pick [1,0];exact⟨_,_,rfl,⟨k6,k5,v,B,hB,rfl,rfl⟩,St.post (St.shut (L:=[_,_]) (L':=[]) H13) 0 rfl⟩
     ·refine(iv I0 (H9.nth 0 rfl) hn (λ e=>hr (by rw[hrun,e];rfl))).mono ?_;intro e w11 he
      cases hd:ee f n l1.tail with
      | out=>rw[hd] at hrun;exact absurd hrun hr
      | err line en =>
       rw[hd] at he hrun;obtain⟨q,rfl,hp⟩:=he;rw[show R0= .err line en from hrun];exact .inr ⟨_,rfl,_,rfl,(H9.upd 0 rfl hp).post 0 rfl⟩
      | ok x l3 =>
       rw[hd] at he hrun;obtain⟨v,B,rfl,hB,hp⟩:=he;have H11:=St.open_ (L:=[_,_]) (H9.upd 0 rfl hp);refine .inl ⟨_,rfl,⟨_,rfl,H11.cells 2 rfl,rfl⟩,⟨_,rfl,H11.cells 2 rfl,rfl⟩,?_⟩;refine H11.al λ k7 w12 H12=>?_;refine⟨⟨_,rfl,H12.cells 2 rfl,rfl⟩,rfl,gh hB ?_⟩;rintro _ rfl;refine H12.al λ k6 w13 H13=>?_;rw[show R0= .ok (.setS t 0 0 x) l3 from hrun];have H14:=(St.shut (L:=[_,_,_]) (L':=[_]) (H13.pick [4,3,1,0])).pick [1,0];exact⟨_,_,rfl,⟨k6,k7,v,B,hB,rfl,rfl⟩,St.post (St.shut (L:=[_,_]) (L':=[]) H14) 0 rfl⟩
end Go.Proofs.YtojogkljneonmaaGreatDoor
