/- The parser's blocks and statements; all of it by induction. No condition. -/
import Derived.Test.YtojogkljneonmaaGreatDoorLangH
import Derived.Test.YtojogkljneonmaaGreatDoorLangVd
import Derived.Test.YtojogkljneonmaaGreatDoorLangQ
set_option linter.unusedVariables false
set_option linter.unusedSimpArgs false
namespace Go.Proofs.YtojogkljneonmaaGreatDoor
open Go Go.Proofs.Tryz Go.Proofs Go.Sep Go.XHeap Go.RowKit Go.Lang
variable {W:World}{b g n:Nat}{l:List Tok}
def adx (f n:Nat) (line:Int) (l:List Tok):R T:=want cLC l λ l'=>(run f .stmts n l').bind λ xs l''=>.ok (.block line xs) l''
theorem Oy [Inhabited G3o]{f kp:Nat}{line:Int} (I:∀ f'≤f,Ih f') (h:(all [bn b g l n,blk kp #[pt b] 80]).at_ W) (hn:n≤24) (hr:adx f n line l≠ .out) :
  Calls prog 94 #[pt kp] W (Ans (mv b) (all [bn b g l n,blk kp #[pt b] 80]) W (adx f n line l) λ x l' e w'=>∃ k B,e= .returned (pt k)/\isP x [.iface 113 (pt k)] B/\Post (all [bn b g l n,blk kp #[pt b] 80]) W (all [bn b g l' n,blk kp #[pt b] 80,B]) w'):=by
 refine alm kp 0 ?_;have H:=St.open_ (L':=[]) (St.begin h);generalize hR:adx f n line l=R0 at *;have hrun:=hR.symm;unfold adx at hrun;rintro _ rfl;refine H.al λ k w2 H2=>?_;refine⟨_,H2.ld 1 rfl (i:=0) rfl,?_⟩;obtain⟨hG, -⟩:=ye (H2.nth 0 rfl);unfold want at hrun
 cases h5:is cLC l with
 | false =>
  rw[h5] at hrun;rw[show R0= .err (now l).line 8 from hrun];exact Vz H2 0 rfl (ml (s:=cLC) (H2.nth 0 rfl) h5)
 | true =>
  rw[h5] at hrun;refine(gc (s:=cLC) (H2.nth 0 rfl) h5).mono ?_;rintro _ w3 ⟨rfl,hp⟩;have H3:=H2.upd 0 rfl hp;refine .inl ⟨rfl,?_⟩;have hrun:R0=(run f .stmts n l.tail).bind λ xs l''=>.ok (.block line xs) l'':=hrun;have hlen0:l.length≤8001:=hG.2.2.2;have htl:=kw l;refine⟨λ w=>∃ ts us As p c l1 f',isP (jj ts .nil) us (all As)/\St W (all [bn b g l n,blk kp #[pt b] 80]).own w [bn b g l1 n,blk kp #[pt b] 80,blk k #[.slice p us.length c] 164,sl 161 1 (.slice p us.length c) us.length us,all As]/\us.length+l1.length≤8001/\f'≤f/\R0=(run f' .stmts n l1).bind λ xs l'=>.ok (.block line (jj ts xs)) l',λ w=>ot b w,?_,λ _=>?_⟩
  ·have H4:=(H3.add (A:=sl 161 1 (.slice none 0 0) 0 []) ⟨Sl.nil _ _ _,XTouch.refl _ _,λ q hq=>by cases hq⟩).add (A:=all []) ⟨trivial,XTouch.refl _ _,λ q hq=>hq.elim⟩;exact⟨[],[],[],none,0,l.tail,f,⟨rfl,rfl⟩,H4,by simp only[List.length_nil];omega,Nat.le_refl _,hrun⟩
  ·clear hrun H3 hp;rintro w4 ⟨ts,us,As,p,c,l1,f',hT,H4,hlen,hf,hm⟩;refine⟨_,H4.ld 1 rfl (i:=0) rfl,?_⟩;refine(dq cRC (H4.nth 0 rfl)).mono ?_;rintro _ w5 ⟨rfl,hp⟩;have H5:=H4.upd 0 rfl hp;refine⟨_,rfl,?_⟩
   match f',hf,hm with
   | 0,_,hm=>exact absurd hm hr
   | f'+1,hf,hm =>
   unfold run at hm;refine Sx.so (λ h6=>?_) (λ h6=>?_)
   ·have h6:is cRC l1=false:=by simpa using h6
    rw[h6] at hm;rw[if_neg (by rw[h6];exact Bool.false_ne_true)] at H5;have hm:R0=((run f' .stmt n l1).bind λ x l=>(run f' .stmts n l).bind λ xs l=>.ok (.cons x xs) l).bind λ xs l'=>.ok (.block line (jj ts xs)) l':=hm;refine H5.dr λ w6 H6=>?_;refine⟨_,H6.ld 1 rfl (i:=0) rfl,p,us.length,c,H6.ld 2 rfl (i:=0) rfl,?_⟩;refine((I f' (by omega)).stmt (H6.nth 0 rfl) hn (λ e=>hr (by rw[hm,e];rfl))).mono ?_;intro e w7 he
    cases hb:run f' .stmt n l1 with
    | out=>rw[hb] at hm;exact absurd hm hr
    | err line en =>
     rw[hb] at he hm;obtain⟨q,rfl,hp⟩:=he;rw[show R0= .err line en from hm];exact .inr ⟨_,rfl,_,rfl,(H6.upd 0 rfl hp).post 0 rfl⟩
    | ok x l2 =>
     rw[hb] at he hm;obtain⟨v,B,rfl,hB,hp⟩:=he;have hlt:=(zk _ _ _ _ _ _ hb).2 rfl;have H7:=St.open_ (L:=[_,_]) (H6.upd 0 rfl hp);refine .inl ⟨_,rfl,⟨p,_,c,H7.ld 3 rfl (i:=0) rfl,rfl⟩,gh hB ?_⟩;refine H7.al λ k6 w8 H8=>?_;refine⟨⟨p,_,c,H8.ld 3 rfl (i:=0) rfl,rfl⟩,?_⟩;refine H8.app 4 rfl [v] (.inr ⟨_,rfl,λ j u hj=>?_⟩) rfl (by simpa using Mn hB) (by show us.length+1≤maxLen;unfold maxLen;omega) (by omega) λ p' c' w9 H9=>?_
     ·match j,hj with
      | 0,hj=>cases hj;exact H8.ld 6 rfl (i:=0) rfl
     ·refine H9.st 3 rfl (i:=0) (by simp) λ w10 H10=>?_;obtain⟨As',h1,h2⟩:=ul hB hT;have H11:=H10.pick [5,1,0,2,3,4];have H12:=(h2 _ _ _ _ H11).pick [1,2,3,4,0]
      have e1:(us++[v]).length=us.length+1:=by simp
      have H13:St W (all [bn b g l n,blk kp #[pt b] 80]).own w10 [bn b g l2 n,blk kp #[pt b] 80,blk k #[.slice p' (us++[v]).length c'] 164,sl 161 1 (.slice p' (us++[v]).length c') (us++[v]).length (us++[v]),all As']:=by
       rw[e1];exact H12
      refine⟨⟨ts++[x],us++[v],As',p',c',l2,f',h1,H13,by rw[e1];omega,by omega,?_⟩,?_⟩
      ·rw[show R0=((run f' .stmts n l2).bind λ xs l=>.ok (.cons x xs) l).bind λ xs l'=>.ok (.block line (jj ts xs)) l' from hm]
       cases run f' .stmts n l2 with
       | ok xs l'=>show R.ok _ _=R.ok _ _;rw[fv]
       | err=>rfl
       | out=>rfl
      ·show ot b w10<ot b w4;rw[fw (H13.nth 0 rfl),fw (H4.nth 0 rfl)];omega
   ·have h6:is cRC l1=true:=by simpa using h6
    rw[h6] at hm;rw[if_pos h6] at H5;rw[show R0= .ok (.block line (jj ts .nil)) l1.tail from hm];have H6:=(St.shut (L:=[_,_,_]) (L':=[_,_]) (H5.pick [2,3,4,0,1])).pick [1,2,0];exact⟨k,_,rfl,⟨k,p,c,us,_,hT,rfl,rfl⟩,St.post (St.shut (L:=[_,_,_]) (L':=[]) H6) 0 rfl⟩
theorem Xi [Inhabited G3o]{f k:Nat} (I:∀ f'≤f,Ih f') (h:(all [bn b g l n,blk k #[pt b] 80]).at_ W) (hn:n≤24) (hr:run (f+1) .blk n l≠ .out) :
  Calls prog 93 #[pt b,.func (.func 94) #[] #[pt k]] W (Ans (mv b) (all [bn b g l n,blk k #[pt b] 80]) W (run (f+1) .blk n l) (PtK 113 b g n W (all [bn b g l n,blk k #[pt b] 80]))):=by
 refine alj b 0 k ?_;have H:=St.open_ (L':=[]) (St.begin h);refine H.al λ k1 w2 H2=>?_;obtain⟨hG, -,off,c,H2⟩:=jx H2;refine⟨_,H2.ld 4 rfl (i:=0) rfl,ptr_some ⟨_,H2.ld 0 rfl (i:=1) rfl,?_⟩⟩;rintro z rfl;rw[zq hn];refine ptr_some (H2.st 0 rfl (i:=1) (by simp) λ w3 H3=>?_);have H3:St W _ w3 (Ro b g off c l (n+1)++[blk k #[pt b] 80,blk k1 #[pt b] 80]):=H3;refine⟨_,H3.ld 4 rfl (i:=0) rfl,ptr_some ⟨_,H3.ld 0 rfl (i:=1) rfl,?_⟩⟩;have H4:=ol hG (by omega) H3;refine Sx.so (λ h4=>?_) (λ h4=>?_)
 ·have h4:=dt h4;refine⟨_,H4.ld 2 rfl (i:=0) rfl,?_⟩;rw[show run (f+1) .blk n l= .err (now l).line 3 by unfold run;rw[if_pos (by omega)]];exact vw H4 0 rfl (gy 3 (H4.nth 0 rfl))
 ·have h4:=df h4
  have hrun:run (f+1) .blk n l=adx f (n+1) (now l).line l:=by
   rw[run,if_neg (by omega)];rfl
  rw[hrun] at hr ⊢;have H4:=St.shut (L:=[_,_]) (L':=[_]) H4;refine(Oy I (H4.nth 0 rfl) (by omega) hr).mono ?_;intro e w5 he
  cases hb:adx f (n+1) (now l).line l with
  | out=>exact absurd hb hr
  | ok x l1 =>
   rw[hb] at he;obtain⟨k2,B,rfl,hB,hp⟩:=he;have H5:=(St.open_ (L:=[_,_,_]) (H4.upd 0 rfl hp)).pick [3,0,2];have H5:=St.shut (L:=[_,_]) (L':=[_]) H5;refine .inl ⟨_,rfl,?_⟩;refine(Rt (H5.nth 0 rfl)).mono ?_;rintro e u' w6 ⟨rfl,rfl,hp6⟩;have H6:=(St.open_ (L:=[_,_]) (H5.upd 0 rfl hp6)).pick [1,2];exact .inl ⟨_,rfl,.inl ⟨rfl,_,_,rfl,hB,St.post (St.shut (L:=[_,_]) (L':=[]) H6) 0 rfl⟩⟩
  | err line en =>
   rw[hb] at he;obtain⟨q,rfl,hp⟩:=he;have H5:=(St.open_ (L:=[_,_]) (H4.upd 0 rfl hp)).pick [2,1,0];have H5:=St.shut (L:=[_,_]) (L':=[_]) H5;refine .inr ⟨_,rfl,?_⟩;refine(Ox (H5.nth 0 rfl)).mono ?_;rintro e u' w6 ⟨rfl,rfl,hp6⟩;have H6:=(St.open_ (L:=[_,_]) (H5.upd 0 rfl hp6)).pick [2,1];exact .inl ⟨_,rfl,.inr ⟨_,rfl,q,rfl,St.post (St.shut (L:=[_,_]) (L':=[]) H6) 0 rfl⟩⟩
theorem Xj [Inhabited G3o]{f:Nat} (I:∀ f'≤f,Ih f') (h:(bn b g l n).at_ W) (hn:n≤24) (hr:run (f+1) .blk n l≠ .out):Calls prog 56 #[pt b] W (Ans (mv b) (bn b g l n) W (run (f+1) .blk n l) (PtK 113 b g n W (bn b g l n))):=by
 refine alk b 0 ?_;refine(St.begin h).al λ k w2 H2=>?_;refine⟨_,H2.ld 1 rfl (i:=0) rfl,?_⟩;have H2:=St.shut (L:=[_,_]) (L':=[]) H2;refine(Xi I (H2.nth 0 rfl) hn hr).mono ?_;intro e w5 he
 cases hb:run (f+1) .blk n l with
 | out=>exact absurd hb hr
 | ok x l1 =>
  rw[hb] at he;obtain⟨k2,B,rfl,hB,hp⟩:=he;exact .inl ⟨_,rfl,_,_,rfl,hB,(H2.upd 0 rfl hp).post 0 rfl⟩
 | err line en =>
  rw[hb] at he;obtain⟨q,rfl,hp⟩:=he;exact .inr ⟨_,rfl,_,rfl,(H2.upd 0 rfl hp).post 0 rfl⟩
variable {W:World}{b g n:Nat}{l:List Tok}
def Sb (f n:Nat) (t:Tok) (l:List Tok):R T:=(name l λ t l=>R.ok t l).bind λ nm l=>want cEq l λ l=>(ee f n l).bind λ x l=>.ok (.letS t nm 0 0 x) l
def ifR (f n:Nat) (line:Int) (l:List Tok):R T:=(run f .expr n l).bind λ c l=>(run f .blk n l).bind λ b l=>if is Kl l then (run f .blk n l.tail).bind λ e l=>.ok (.ifS line c b e) l else .ok (.ifS line c b .nil) l
def Zt (f n:Nat) (line:Int) (l:List Tok):R T:=(run f .expr n l).bind λ c l=>(run f .blk n l).bind λ b l=>.ok (.whileS line c b) l
theorem abe [Inhabited G3o]{f n:Nat}{l:List Tok} (hk:¬ (now l).k=1):run (f+1) .stmt n l=if is lx l then Sb f n (now l) l.tail
  else if is jm l then (ee f n l.tail).bind λ x l'=>.ok (.retS (now l).line x) l'
  else if is ng l then (ee f n l.tail).bind λ x l'=>.ok (.prtS (now l).line x) l'
  else if is dx l then Zt f n (now l).line l.tail
  else if is cIf l then ifR f n (now l).line l.tail
  else .err (now l).line 8:=by
 rw[run,if_neg hk];split
 ·unfold Sb;rw[qr];congr 1;funext nm l';congr 1;funext l';exact lc (k:=λ x l'=>R.ok (T.letS (now l) nm 0 0 x) l')
 ·split
  ·exact lc (k:=λ x l'=>R.ok (T.retS (now l).line x) l')
  ·split
   ·exact lc (k:=λ x l'=>R.ok (T.prtS (now l).line x) l')
   ·rfl
theorem mq [Inhabited G3o]{γ:Type}{P:Program}{fn:FuncId}{args:Array Value}{w0 w:World}{R0:R γ}{A0 A:Asn}{L:List Asn}{α β:Type}{r:R α}{Rp:Asn}{K:α->List Tok->Ending->World->Prop}{k:α->List Tok->R γ}{K0:γ->List Tok->Ending->World->Prop}{G:Ending->World->Prop}
  (H:St w0 A0.own w L) (i:Nat) (hi:L[i]?=some A) (hrun:R0=r.bind k) (hr:R0≠ .out) (hc:r≠ .out->Calls P fn args w (Ans Rp A w r K)) (hk:∀ x l,r= .ok x l->R0=k x l->∀ e w',K x l e w'->G e w') :
  Calls P fn args w (λ e w'=>G e w'∨∃ c:List PanicEntry,e= .panicked c/\Ans Rp A0 w0 R0 K0 (.panicked c) w'):=by
 refine(hc (λ e=>hr (by rw[hrun,e];rfl))).mono ?_;intro e w' he
 cases hb:r with
 | out=>rw[hb] at hrun;exact absurd hrun hr
 | err line en =>
  rw[hb] at he hrun;obtain⟨q,rfl,hp⟩:=he;rw[show R0= .err line en from hrun];exact .inr ⟨_,rfl,q,rfl,(H.upd i hi hp).post i (uk _ hi)⟩
 | ok x l =>
  rw[hb] at he hrun;exact .inl (hk x l hb hrun e w' he)
theorem Sd [Inhabited G3o]{f:Nat} (I:∀ f'≤f,Ih f') (h:(bn b g l n).at_ W) (hn:n≤24) (hr:run (f+1) .stmt n l≠ .out):Calls prog 95 #[pt b] W (Ans (mv b) (bn b g l n) W (run (f+1) .stmt n l) (um b g n W (bn b g l n))):=by
 refine aln b 0 ?_;have I0:=I f (Nat.le_refl _);refine(St.begin h).callq (gx h) λ w2 H2=>?_;refine⟨_,rfl,?_⟩;refine H2.al λ k w3 H3=>?_;refine H3.sts0 1 (n:=3) (vs:=(tkL (now l)).toArray) rfl rfl rfl (by simpa using gf _) λ w4 H4=>?_;refine⟨_,H4.ld 1 rfl (i:=0) rfl,?_⟩;refine Sx.so (λ h4=>?_) (λ h4=>?_)
 ·have hk:(now l).k=1:=by have:=beq_iff_eq.1 h4;omega
  rw[Xh hk] at hr ⊢;refine(Sa I (H4.nth 0 rfl) hn hr).mono ?_;intro e w5 he
  cases hb:zr f n l with
  | out=>exact absurd hb hr
  | ok x l1 =>
   rw[hb] at he;obtain⟨v,B,rfl,hB,hp⟩:=he;exact .inl ⟨_,rfl,_,_,rfl,hB,(H4.upd 0 rfl hp).post 0 rfl⟩
  | err line en =>
   rw[hb] at he;obtain⟨q,rfl,hp⟩:=he;exact .inr ⟨_,rfl,_,rfl,(H4.upd 0 rfl hp).post 0 rfl⟩
 have hk:¬ (now l).k=1:=λ e=>by rw[e] at h4;cases h4
 have hrun:=abe (f:=f) (n:=n) hk;generalize run (f+1) .stmt n l=R0 at *;refine(dq lx (H4.nth 0 rfl)).mono ?_;rintro _ w5 ⟨rfl,hp⟩;have H5:=H4.upd 0 rfl hp;refine⟨_,rfl,?_⟩;refine Sx.so (λ h5=>?_) (λ h5=>?_)
 ·rw[if_pos h5] at hrun H5;unfold Sb at hrun;refine mq (β:=Unit) H5 0 rfl hrun hr (λ _=>oq (H5.nth 0 rfl)) ?_;rintro nm l1 - hrun _ w6 ⟨rfl,hp⟩;have H6:=H5.upd 0 rfl hp;refine⟨_,rfl,?_⟩;refine H6.al λ k3 w7 H7=>?_;refine H7.sts0 2 (n:=3) (vs:=(tkL nm).toArray) rfl rfl rfl (by simpa using gf _) λ w8 H8=>?_;rw[qs] at hrun;refine mq (β:=Unit) H8 0 rfl hrun hr (λ _=>om cEq (H8.nth 0 rfl)) ?_;rintro _ l2 - hrun _ w9 ⟨rfl,hp⟩;have H9:=H8.upd 0 rfl hp;refine⟨rfl,?_⟩;refine H9.dr λ w10 H10=>?_;refine⟨_,rfl,H10.cells 1 rfl,_,rfl,H10.cells 2 rfl,rfl,?_⟩;rintro _ rfl;refine⟨?_,?_⟩
  ·refine H10.alb λ k5 w11 H11 _ hb11=>?_;refine⟨hb11,⟨_,rfl,H11.cells 1 rfl,rfl⟩,?_⟩;refine mq (β:=Unit) H11 0 rfl hrun hr (λ hr=>iv I0 (H11.nth 0 rfl) hn hr) ?_;rintro x l3 - hrun _ w12 ⟨v,B,rfl,hB,hp⟩;have H12:=St.open_ (L:=[_,_]) (H11.upd 0 rfl hp);refine⟨_,rfl,⟨_,rfl,H12.cells 2 rfl,rfl⟩,rfl,gh hB ?_⟩;rintro _ rfl;refine H12.al λ k6 w13 H13=>?_;rw[hrun];have H14:=(St.shut (L:=[_,_,_]) (L':=[_]) (H13.pick [5,4,1,0])).pick [1,0];exact⟨_,_,rfl,⟨k6,k5,v,B,hB,rfl,rfl⟩,St.post (St.shut (L:=[_,_]) (L':=[]) H14) 0 rfl⟩
  ·refine mq (β:=Unit) H10 0 rfl hrun hr (λ hr=>iv I0 (H10.nth 0 rfl) hn hr) ?_;rintro x l3 - hrun _ w12 ⟨v,B,rfl,hB,hp⟩;have H12:=St.open_ (L:=[_,_]) (H10.upd 0 rfl hp);refine⟨_,rfl,⟨_,rfl,H12.cells 3 rfl,rfl⟩,⟨_,rfl,H12.cells 2 rfl,rfl⟩,?_⟩;refine H12.al λ k7 w13 H13=>?_;refine⟨⟨_,rfl,H13.cells 2 rfl,rfl⟩,rfl,gh hB ?_⟩;rintro _ rfl;refine H13.al λ k6 w14 H14=>?_;rw[hrun];have H15:=(St.shut (L:=[_,_,_]) (L':=[_]) (H14.pick [5,4,1,0])).pick [1,0];exact⟨_,_,rfl,⟨k6,k7,v,B,hB,rfl,rfl⟩,St.post (St.shut (L:=[_,_]) (L':=[]) H15) 0 rfl⟩
 rw[if_neg (by rw[h5];exact Bool.false_ne_true)] at hrun H5;refine(dq jm (H5.nth 0 rfl)).mono ?_;rintro _ w6 ⟨rfl,hp⟩;have H6:=H5.upd 0 rfl hp;refine⟨_,rfl,?_⟩;refine Sx.so (λ h6=>?_) (λ h6=>?_)
 ·rw[if_pos h6] at hrun H6;refine mq (β:=Unit) H6 0 rfl hrun hr (λ hr=>iv I0 (H6.nth 0 rfl) hn hr) ?_;rintro x l3 - hrun _ w12 ⟨v,B,rfl,hB,hp⟩;have H12:=St.open_ (L:=[_,_]) (H6.upd 0 rfl hp);refine⟨_,rfl,gh hB ?_⟩;rintro _ rfl;refine H12.al λ k6 w13 H13=>?_;rw[hrun];have H14:=(St.shut (L:=[_,_]) (L':=[_]) (H13.pick [3,1,0])).pick [1,0];exact⟨_,_,rfl,⟨k6,v,B,hB,rfl,rfl⟩,St.post (St.shut (L:=[_,_]) (L':=[]) H14) 0 rfl⟩
 rw[if_neg (by rw[h6];exact Bool.false_ne_true)] at hrun H6;refine(dq ng (H6.nth 0 rfl)).mono ?_;rintro _ w7 ⟨rfl,hp⟩;have H7:=H6.upd 0 rfl hp;refine⟨_,rfl,?_⟩;refine Sx.so (λ h7=>?_) (λ h7=>?_)
 ·rw[if_pos h7] at hrun H7;refine mq (β:=Unit) H7 0 rfl hrun hr (λ hr=>iv I0 (H7.nth 0 rfl) hn hr) ?_;rintro x l3 - hrun _ w12 ⟨v,B,rfl,hB,hp⟩;have H12:=St.open_ (L:=[_,_]) (H7.upd 0 rfl hp);refine⟨_,rfl,gh hB ?_⟩;rintro _ rfl;refine H12.al λ k6 w13 H13=>?_;rw[hrun];have H14:=(St.shut (L:=[_,_]) (L':=[_]) (H13.pick [3,1,0])).pick [1,0];exact⟨_,_,rfl,⟨k6,v,B,hB,rfl,rfl⟩,St.post (St.shut (L:=[_,_]) (L':=[]) H14) 0 rfl⟩
 rw[if_neg (by rw[h7];exact Bool.false_ne_true)] at hrun H7;refine(dq dx (H7.nth 0 rfl)).mono ?_;rintro _ w8 ⟨rfl,hp⟩;have H8:=H7.upd 0 rfl hp;refine⟨_,rfl,?_⟩;refine Sx.so (λ h8=>?_) (λ h8=>?_)
 ·rw[if_pos h8] at hrun H8;unfold Zt at hrun;refine mq (β:=Unit) H8 0 rfl hrun hr (λ hr=>I0.expr (H8.nth 0 rfl) hn hr) ?_;rintro x l3 - hrun _ w12 ⟨v,B,rfl,hB,hp⟩;have H12:=St.open_ (L:=[_,_]) (H8.upd 0 rfl hp);refine⟨_,rfl,?_⟩;refine mq (β:=Unit) H12 0 rfl hrun hr (λ hr=>I0.blk (H12.nth 0 rfl) hn hr) ?_;rintro y l4 - hrun _ w13 ⟨k2,B2,rfl,hB2,hp⟩;have H13:=St.open_ (L:=[_,_]) (H12.upd 0 rfl hp);refine⟨_,rfl,gh hB ?_⟩;rintro _ rfl;refine H13.al λ k6 w14 H14=>?_;rw[hrun];have H15:=(St.shut (L:=[_,_,_]) (L':=[_]) (H14.pick [4,2,1,0])).pick [1,0];exact⟨_,_,rfl,⟨k6,v,k2,B,B2,hB,hB2,rfl,rfl⟩,St.post (St.shut (L:=[_,_]) (L':=[]) H15) 0 rfl⟩
 rw[if_neg (by rw[h8];exact Bool.false_ne_true)] at hrun H8;refine(dq cIf (H8.nth 0 rfl)).mono ?_;rintro _ w9 ⟨rfl,hp⟩;have H9:=H8.upd 0 rfl hp;refine⟨_,rfl,?_⟩;refine Sx.so (λ h9=>?_) (λ h9=>?_)
 ·rw[if_pos h9] at hrun H9;unfold ifR at hrun;refine mq (β:=Unit) H9 0 rfl hrun hr (λ hr=>I0.expr (H9.nth 0 rfl) hn hr) ?_;rintro x l3 - hrun _ w12 ⟨v,B,rfl,hB,hp⟩;have H12:=St.open_ (L:=[_,_]) (H9.upd 0 rfl hp);refine⟨_,rfl,gh hB ?_⟩;rintro _ rfl;refine H12.al λ k6 w13 H13=>?_;refine mq (β:=Unit) H13 0 rfl hrun hr (λ hr=>I0.blk (H13.nth 0 rfl) hn hr) ?_;rintro y l4 - hrun _ w14 ⟨k2,B2,rfl,hB2,hp⟩;have H14:=St.open_ (L:=[_,_]) (H13.upd 0 rfl hp);refine⟨_,rfl,?_⟩;refine H14.st 4 rfl (i:=1) (by simp [Value.cells]) λ w15 H15=>?_;refine(dq Kl (H15.nth 0 rfl)).mono ?_;rintro _ w16 ⟨rfl,hp⟩;have H16:=H15.upd 0 rfl hp;refine⟨_,rfl,?_⟩;refine Sx.so (λ h10=>?_) (λ h10=>?_)
  ·rw[if_pos h10] at hrun H16;refine mq (β:=Unit) H16 0 rfl hrun hr (λ hr=>I0.blk (H16.nth 0 rfl) hn hr) ?_;rintro z l5 - hrun _ w17 ⟨k3,B3,rfl,hB3,hp⟩;have H17:=St.open_ (L:=[_,_]) (H16.upd 0 rfl hp);refine⟨_,rfl,?_⟩;refine H17.st 5 rfl (i:=2) (by simp [Value.cells]) λ w18 H18=>?_;rw[hrun];have H19:=(St.shut (L:=[_,_,_,_]) (L':=[_]) (H18.pick [5,3,2,1,0])).pick [1,0];exact⟨_,_,rfl,⟨k6,v,k2,B,B2,hB,hB2,rfl,.inr ⟨k3,B3,hB3,rfl⟩⟩,St.post (St.shut (L:=[_,_]) (L':=[]) H19) 0 rfl⟩
  ·rw[if_neg (by rw[h10];exact Bool.false_ne_true)] at hrun H16;rw[hrun];have H19:=(St.shut (L:=[_,_,_]) (L':=[_]) (H16.pick [4,2,1,0])).pick [1,0];exact⟨_,_,rfl,⟨k6,v,k2,B,B2,hB,hB2,rfl,.inl ⟨rfl,rfl⟩⟩,St.post (St.shut (L:=[_,_]) (L':=[]) H19) 0 rfl⟩
 rw[if_neg (by rw[h9];exact Bool.false_ne_true)] at hrun H9;rw[hrun];exact vw H9 0 rfl (gy 8 (H9.nth 0 rfl))
theorem aek [Inhabited G3o]:∀ f,Ih f:=by
 intro f
 induction f using Nat.strongRecOn with
 | _ f ih =>
  match f with
  | 0=>exact⟨λ _ _ h=>absurd rfl h,λ _ _ _ _ h=>absurd rfl h,λ _ _ h=>absurd rfl h,λ _ _ h=>absurd rfl h,λ _ _ h=>absurd rfl h,λ _ _ h=>absurd rfl h⟩
  | f+1 =>
   have I:∀ f'≤f,Ih f':=λ f' hf=>ih f' (by omega);have I0:=I f (Nat.le_refl _);exact⟨Ru I0,Xf I,abc I0,Rz I,Xj I,Sd I⟩
variable {W:World}{b g n:Nat}{l:List Tok}
def Qf (t:Tok) (nm:ByteArray) (w z:Int):List Value:=tkL t++[.string nm,.int .i64 w,.int .i64 z]
def fnC (t:Tok) (nm:ByteArray) (ps bd:Value) (sl no:Int):List Value:=tkL t++[.string nm,ps,bd,.int .i64 sl,.int .i64 no]
def Kr (ps:List ByteArray):List Value:=ps.map .string
def agp:D->Value->Asn->Prop
 | .var t nm w z,v,A=>∃ k,v= .iface 125 (pt k)/\A=blk k (Qf t nm w z).toArray 127
 | .fn t nm ps s no bd,v,A=>∃ k kb p c B,isP bd [.iface 113 (pt kb)] B/\v= .iface 63 (pt k)/\A=all [blk k (fnC t nm (.slice p ps.length c) (pt kb) s no).toArray 115,sl 9 1 (.slice p ps.length c) ps.length (Kr ps),B]
theorem abf {d:D}{v:Value}{A:Asn} (h:agp d v A){φ:Prop} (hφ:φ):Sx.one v φ:=by
 cases d with
 | var=>obtain⟨k,rfl, -⟩:=h;exact hφ
 | fn=>obtain⟨k,kb,p,c,B, -,rfl, -⟩:=h;exact hφ
theorem Xk {d:D}{v:Value}{A:Asn} (h:agp d v A):v.oneCell'=true:=by
 cases d with
 | var=>obtain⟨k,rfl, -⟩:=h;rfl
 | fn=>obtain⟨k,kb,p,c,B, -,rfl, -⟩:=h;rfl
def tf [Inhabited G3o] (b g n:Nat) (l:List Tok) (t:Tok) (nm:ByteArray) (kp kf k:Nat) (p:Option Addr) (c:Nat) (ps:List ByteArray):List Asn :=
 [bn b g l n,blk kp #[pt b] 80,blk kf #[pt k] 63,blk k (fnC t nm (.slice p ps.length c) (.pointer none) 0 0).toArray 115,sl 9 1 (.slice p ps.length c) ps.length (Kr ps)]
def Bp (m:Nat) (l:List Tok):R ByteArray:=name l λ t l=>if m=6 then .err t.line 3 else .ok t.s l
theorem Se [Inhabited G3o]{t:Tok}{nm:ByteArray}{kp kf k c:Nat}{p:Option Addr}{ps:List ByteArray} (h:(all (tf b g n l t nm kp kf k p c ps)).at_ W) (hps:ps.length≤6) :
  Calls prog 55 #[pt kp,pt kf] W (Ans (mv b) (all (tf b g n l t nm kp kf k p c ps)) W (Bp ps.length l) λ s l' e w'=>e= .returned (.tuple #[])/\∃ p' c',Post (all (tf b g n l t nm kp kf k p c ps)) W (all (tf b g n l' t nm kp kf k p' c' (ps++[s]))) w'):=by
 refine akp kp 0 kf 0 ?_;have H:=St.open_ (L':=[]) (St.begin h);refine⟨_,H.ld 1 rfl (i:=0) rfl,?_⟩
 have hrun:Bp ps.length l=(name l λ t l=>R.ok t l).bind λ t l=>if ps.length=6 then .err t.line 3 else .ok t.s l:=by
  unfold Bp;unfold name;split
  ·rfl
  ·split <;> rfl
 generalize Bp ps.length l=R0 at *;refine(oq (H.nth 0 rfl)).mono ?_;intro e w2 he
 cases hb:(name l λ t l=>R.ok t l) with
 | out =>
  exfalso;unfold name at hb;split at hb
  ·cases hb
  ·split at hb <;> cases hb
 | err line en =>
  rw[hb] at he hrun;obtain⟨q,rfl,hp⟩:=he;rw[show R0= .err line en from hrun];exact .inr ⟨_,rfl,q,rfl,(H.upd 0 rfl hp).post 0 rfl⟩
 | ok u l1 =>
  rw[hb] at he hrun;obtain⟨rfl,hp⟩:=he;have H2:=H.upd 0 rfl hp
  have hrun:R0=if ps.length=6 then .err u.line 3 else .ok u.s l1:=hrun
  refine .inl ⟨_,rfl,?_⟩;refine H2.al λ k3 w3 H3=>?_;refine H3.sts0 5 (n:=3) (vs:=(tkL u).toArray) rfl rfl rfl (by simpa using gf _) λ w4 H4=>?_;refine H4.dr λ w5 H5=>?_;refine⟨_,H5.ld 2 rfl (i:=0) rfl,ptr_some ⟨p,ps.length,c,H5.ld 3 rfl (i:=4) rfl,_,H5.ld 5 rfl (i:=1) rfl,_,H5.ld 2 rfl (i:=0) rfl,?_⟩⟩;refine H5.alb λ k5 w6 H6 _ hb6=>?_;refine⟨hb6,⟨_,H6.ld 2 rfl (i:=0) rfl,rfl⟩,?_⟩;refine H6.app 4 rfl [.string u.s] (.inr ⟨_,rfl,λ j v hj=>?_⟩) rfl (by simp;rfl) (by show ps.length+1≤maxLen;unfold maxLen;omega) (by omega) λ p' c' w7 H7=>?_
  ·match j,hj with
   | 0,hj=>cases hj;exact H6.ld 6 rfl (i:=0) rfl
  refine⟨⟨_,H7.ld 2 rfl (i:=0) rfl,rfl⟩,ptr_some (H7.st 3 rfl (i:=4) (by simp [fnC,tkL]) λ w8 H8=>?_)⟩;refine⟨_,H8.ld 2 rfl (i:=0) rfl,ptr_some ?_⟩
  have e1:(ps++[u.s]).length=ps.length+1:=by simp
  have e2:Kr (ps++[u.s])=Kr ps++[.string u.s]:=by simp [Kr]
  have H9:St W (all (tf b g n l t nm kp kf k p c ps)).own w8 (tf b g n l1 t nm kp kf k p' c' (ps++[u.s])++[blk k3 (tkL u).toArray 87]):=by
   unfold tf;rw[e1,e2];exact H8.pick [0,1,2,3,4,5]
  refine⟨p',ps.length+1,c',by rw[<- e1];exact H9.ld 3 rfl (i:=4) rfl,?_⟩;refine Sx.so (λ h9=>?_) (λ h9=>?_)
  ·have h9:=dt h9;rw[if_pos (by omega)] at hrun;rw[hrun];refine⟨_,H9.ld 5 rfl (i:=2) rfl,?_⟩;exact vw H9 0 rfl (Ei (H9.nth 0 rfl) u.line 3)
  ·have h9:=df h9;rw[if_neg (by omega)] at hrun;rw[hrun];have H10:=St.shut (L:=tf b g n l1 t nm kp kf k p' c' (ps++[u.s])) (L':=[_]) H9;exact⟨rfl,p',c',H10.post 0 rfl⟩
theorem Sf (m:Nat) (hm:m≤6) (l:List Tok):params.paramL (6 - m) l=(Bp m l).bind λ s l=>if is cRP l then .ok [s] l.tail else want ej l λ l=>(params.paramL (6 - (m+1)) l).bind λ r l=>.ok (s::r) l:=by
 by_cases h6:m=6
 ·subst h6;show params.paramL 0 l=_;rw[params.paramL];unfold Bp;by_cases h1:(now l).k≠1
  ·simp only[name,if_pos h1,R.bind]
  ·by_cases h2:16<(now l).s.size
   ·simp only[name,if_neg h1,if_pos h2,R.bind]
   ·simp only[name,if_neg h1,if_neg h2,if_true,R.bind]
 ·rw[show 6 - m=(6 - (m+1))+1 by omega];rw[params.paramL];generalize 6 - (m+1)=q;unfold Bp;by_cases h1:(now l).k≠1
  ·rw[name,if_pos h1];show _=R.bind (name l _) _;rw[name,if_pos h1];rfl
  ·by_cases h2:16<(now l).s.size
   ·rw[name,if_neg h1,if_pos h2];show _=R.bind (name l _) _;rw[name,if_neg h1,if_pos h2];rfl
   ·rw[name,if_neg h1,if_neg h2];show _=R.bind (name l _) _;rw[name,if_neg h1,if_neg h2,if_neg h6];rfl
theorem Sg [Inhabited G3o]{t:Tok}{nm:ByteArray}{kp kf k:Nat} (h:(all (tf b g n l t nm kp kf k none 0 [])).at_ W) :
  Calls prog 54 #[pt b,.func (.func 55) #[] #[pt kp,pt kf]] W (Ans (mv b) (all (tf b g n l t nm kp kf k none 0 [])) W (want cLP l λ l=>params 6 l) λ ps l' e w'=>e= .returned (.tuple #[])/\∃ p c,Post (all (tf b g n l t nm kp kf k none 0 [])) W (all (tf b g n l' t nm kp kf k p c ps)) w'):=by
 refine ahs b 0 kp kf ?_;have H:=St.open_ (L':=[]) (St.begin h);generalize hR:(want cLP l λ l=>params 6 l)=R0 at *;have hrun:=hR.symm;unfold want at hrun
 cases hi:is cLP l with
 | false =>
  rw[hi] at hrun;rw[show R0= .err (now l).line 8 from hrun];exact Vz H 0 rfl (ml (s:=cLP) (H.nth 0 rfl) hi)
 | true =>
 rw[hi] at hrun;refine(gc (s:=cLP) (H.nth 0 rfl) hi).mono ?_;rintro _ w2 ⟨rfl,hp⟩;have H2:=H.upd 0 rfl hp;refine .inl ⟨rfl,?_⟩;have hrun:R0=params 6 l.tail:=hrun;refine(dq cRP (H2.nth 0 rfl)).mono ?_;rintro _ w3 ⟨rfl,hp⟩;have H3:=H2.upd 0 rfl hp;refine⟨_,rfl,?_⟩
 refine⟨λ more w=>∃ ps p c l1,St W (all (tf b g n l t nm kp kf k none 0 [])).own w (tf b g n l1 t nm kp kf k p c ps)/\ps.length≤6/\(match more with
  | true=>R0=(params.paramL (6 - ps.length) l1).bind λ r l'=>.ok (ps++r) l'
  | false=>R0= .ok ps l1),λ more w=>match more with | true=>ot b w+1 | false=>0,?_,λ _=>?_⟩
 ·have hrun:R0=if is cRP l.tail then .ok [] l.tail.tail else params.paramL 6 l.tail:=hrun
  cases hi2:is cRP l.tail with
  | true =>
   rw[hi2] at hrun;rw[if_pos hi2] at H3;exact⟨[],none,0,l.tail.tail,H3,by simp,hrun⟩
  | false =>
   rw[hi2] at hrun;rw[if_neg (by rw[hi2];exact Bool.false_ne_true)] at H3;refine⟨[],none,0,l.tail,H3,by simp,?_⟩;show R0=(params.paramL 6 l.tail).bind λ r l'=>.ok ([]++r) l';rw[show R0=params.paramL 6 l.tail from hrun];cases params.paramL 6 l.tail <;> rfl
 ·rintro more w4 ⟨ps,p,c,l1,H4,hps,hm⟩;refine Sx.so (λ hm1=>?_) (λ hm1=>?_)
  ·subst hm1;have hm:R0=(params.paramL (6 - ps.length) l1).bind λ r l'=>.ok (ps++r) l':=hm;have H5:=St.shut (L':=[]) (by simpa using H4);refine(Se (H5.nth 0 rfl) hps).mono ?_;intro e w6 he;have hnm:=Sf ps.length hps l1
   cases hb:Bp ps.length l1 with
   | out =>
    exfalso;unfold Bp name at hb;split at hb
    ·cases hb
    ·split at hb
     ·cases hb
     ·split at hb <;> cases hb
   | err line en =>
    rw[hb] at he hnm;rw[hnm] at hm;obtain⟨q,rfl,hp⟩:=he;rw[show R0= .err line en from hm];exact .inr ⟨_,rfl,_,rfl,(H5.upd 0 rfl hp).post 0 rfl⟩
   | ok s l2 =>
    rw[hb] at he hnm;rw[hnm] at hm;obtain⟨rfl,p',c',hp⟩:=he;have H6:=St.open_ (L':=[]) (H5.upd 0 rfl hp)
    have h6:ps.length≠6/\l2.length<l1.length:=by
     unfold Bp at hb;obtain⟨h1,h2⟩:=fq hb;by_cases h6:ps.length=6
     ·rw[if_pos h6] at h2;cases h2
     ·rw[if_neg h6] at h2;cases h2;exact⟨h6,dn (by omega)⟩
    have hu:(ps++[s]).length=ps.length+1:=by simp
    have hm:R0=(if is cRP l2 then R.ok [s] l2.tail else want ej l2 λ l=>(params.paramL (6 - (ps.length+1)) l).bind λ r l=>.ok (s::r) l).bind λ r l'=>.ok (ps++r) l':=hm;refine .inl ⟨rfl,?_⟩;refine(dq cRP (H6.nth 0 rfl)).mono ?_;rintro _ w7 ⟨rfl,hp⟩;have H7:=H6.upd 0 rfl hp;refine⟨_,rfl,?_⟩
    cases hi2:is cRP l2 with
    | true =>
     rw[hi2] at hm;rw[if_pos hi2] at H7;exact⟨⟨ps++[s],p',c',l2.tail,H7,by rw[hu];omega,hm⟩,by show 0<ot b w4+1;omega⟩
    | false =>
     rw[hi2] at hm;rw[if_neg (by rw[hi2];exact Bool.false_ne_true)] at H7;have hm:R0=(want ej l2 λ l=>(params.paramL (6 - (ps.length+1)) l).bind λ r l=>.ok (s::r) l).bind λ r l'=>.ok (ps++r) l':=hm;unfold want at hm
     cases hi3:is ej l2 with
     | false =>
      rw[hi3] at hm;rw[show R0= .err (now l2).line 8 from hm];exact Vz H7 0 rfl (ml (s:=ej) (H7.nth 0 rfl) hi3)
     | true =>
      rw[hi3] at hm;refine(gc (s:=ej) (H7.nth 0 rfl) hi3).mono ?_;rintro _ w8 ⟨rfl,hp⟩;have H8:=H7.upd 0 rfl hp;have h8:=dn (l:=l2) (by rw[Ri hi3];omega);refine .inl ⟨rfl,⟨ps++[s],p',c',l2.tail,H8,by rw[hu];omega,?_⟩,?_⟩
      ·show R0=(params.paramL (6 - (ps++[s]).length) l2.tail).bind λ r l'=>.ok (ps++[s]++r) l';rw[hu];rw[show R0=((params.paramL (6 - (ps.length+1)) l2.tail).bind λ r l=>.ok (s::r) l).bind λ r l'=>.ok (ps++r) l' from hm]
       cases params.paramL (6 - (ps.length+1)) l2.tail with
       | ok xs l'=>show R.ok _ _=R.ok _ _;simp
       | err=>rfl
       | out=>rfl
      ·show ot b w8+1<ot b w4+1;rw[fw (H8.nth 0 rfl),fw (H4.nth 0 rfl)];omega
  ·subst hm1;have hm:R0= .ok ps l1:=hm;rw[hm];exact⟨rfl,p,c,St.post (St.shut (L':=[]) (by simpa using H4)) 0 rfl⟩
def mpS (b:Nat) (f:ByteArray->Option Value):Asn:=⟨λ k=>k=b,λ w=>Sx.MpS w b f,λ h ht hn=>Sx.MpS.keep h ht (hn b rfl),λ h k e=>by subst e;exact Sx.MpS.lt h⟩
structure Fh where
 k:Nat
 t:Tok
 nm:ByteArray
 np:Nat
 p:Option Addr
 c:Nat
 kb:Nat
 no:Int
inductive Gd where
 | var (k:Nat) (t:Tok) (nm:ByteArray) (w z:Int)
 | fn (h:Fh) (sl:Int)
def hdA:Gd->Asn
 | .var k t nm w z=>blk k (Qf t nm w z).toArray 127
 | .fn h s=>blk h.k (fnC h.t h.nm (.slice h.p h.np h.c) (pt h.kb) s h.no).toArray 115
structure Sp where
 pl:Option Addr
 cl:Nat
 pi:Option Addr
 ci:Nat
structure Cx where
 ks:Nat
 kp:Nat
 km:Nat
 I:ByteArray->Option Value
 G:List Gd
 j:Nat
 h:Fh
def Cx.gs (X:Cx) (n:Nat):List Gd:=X.G.set X.j (.fn X.h (n:Int))
def scL (X:Cx) (S:Sp) (n:Nat) (Ls:Lcs):List Asn :=
 [blk X.ks #[pt X.kp,.map (some X.km),.slice S.pl Ls.length S.cl,.slice S.pi Ls.length S.ci,pt X.h.k] 138,
  sl 9 1 (.slice S.pl Ls.length S.cl) Ls.length (Ls.map λ p=>.string p.1),
  sl 3 1 (.slice S.pi Ls.length S.ci) Ls.length (Ls.map λ p=>.int .i64 (p.2:Int)),
  mpS X.km X.I,all ((X.gs n).map hdA)]
def scA (X:Cx) (S:Sp) (n:Nat) (Ls:Lcs):Asn:=all (scL X S n Ls)
def ajl (I:ByteArray->Option Value) (G:List Gd) (s:ByteArray):Option Gl->Prop
 | none=>I s=none
 | some (.var w z)=>∃ (i k:Nat) (t:Tok) (nm:ByteArray),I s=some (.iface 125 (pt k))/\G[i]?=some (Gd.var k t nm w z)
 | some (.fn k np)=>∃ (i:Nat) (h:Fh) (sl:Int),I s=some (.iface 63 (pt k))/\G[i]?=some (Gd.fn h sl)/\h.k=k/\h.np=np
def Hm (lk:Lk) (X:Cx):Prop:=X.j<X.G.length/\∀ n s,ajl X.I (X.gs n) s (lk s)
def alo (A:Asn) (w:World) (line en:Int) (e:Ending) (w':World):Prop:=∃ b,e= .panicked (pan b)/\Post A w (Ow b line en) w'
def Wc {α:Type} (A:Asn) (w:World) (r:C α) (K:α->Ending->World->Prop) (e:Ending) (w':World):Prop:=match r with
 | .ok x=>K x e w'
 | .err line en=>alo A w line en e w'
section
variable {P:Program}{f:FuncId}{args:Array Value}{w0 w:World}{M:Nat->Prop}{A A0:Asn}{L:List Asn}{α β:Type}{K:α->Ending->World->Prop}{K0:β->Ending->World->Prop}{line en:Int}{G:Ending->World->Prop}
theorem fx [Inhabited G3o] (H:St w0 A0.own w L) (line e:Int){R0:C β} (hR:R0= .err line e):Calls prog 52 #[.int .i64 line,.int .i64 e] w (λ en w'=>∃ c:List PanicEntry,en= .panicked c/\Wc A0 w0 R0 K0 (.panicked c) w'):=by
 subst hR;refine(Mm line e).mono ?_;rintro en w' ⟨q,rfl,hp⟩;exact⟨_,rfl,q,rfl,(H.add hp).post L.length (by simp)⟩
theorem je [Inhabited G3o] (H:St w0 A0.own w L) (k:Nat) (hk:L[k]?=some A){r:C α}{kk:α->C β}{R0:C β} (hR:R0=r.bind kk) (hc:Calls P f args w (Wc A w r K)) (h:∀ x e w',r= .ok x->R0=kk x->K x e w'->G e w') :
  Calls P f args w (λ e w'=>G e w'∨∃ c:List PanicEntry,e= .panicked c/\Wc A0 w0 R0 K0 (.panicked c) w'):=by
 refine hc.mono λ e w' h'=>?_
 cases r with
 | ok x=>exact .inl (h x e w' rfl hR h')
 | err line en =>
  obtain⟨q,rfl,hp⟩:=h';subst hR;exact .inr ⟨_,rfl,q,rfl,(H.upd k hk hp).post k (uk _ hk)⟩
end
variable {W:World}{X:Cx}{S:Sp}{n:Nat}{Ls:Lcs}{lk:Lk}
theorem Ks (s:ByteArray):∀ (L:Lcs) (i:Nat),(∀ j,j<i->∀ p,L[j]?=some p->p.1≠s)->(∀ p,L[i]?=some p->p.1=s->bf L s=(p.2:Int))/\(L.length≤i->bf L s= -1)
 | [],i,h=>⟨(λ p hp=>by simp at hp),(λ _=>rfl)⟩
 | q::L,0,h=>by
  refine⟨λ p hp he=>?_,λ h=>by simp at h⟩;simp at hp;subst hp;unfold bf;rw[List.find?_cons_of_pos (by simpa using he)]
 | q::L,i+1,h=>by
  have hq:=h 0 (by omega) q rfl;have h1:=Ks s L i (λ j hj p hp=>h (j+1) (by omega) p (by simpa using hp))
  have e:bf (q::L) s=bf L s:=by
   unfold bf;rw[List.find?_cons_of_neg (by simpa using hq)]
  rw[e];exact⟨(λ p hp=>h1.1 p (by simpa using hp)),(λ hl=>h1.2 (by simpa using hl))⟩
theorem mc {w:World}{e:TypeId}{p:Option Addr}{m c:Nat}{xs:List Value} (h:Sl w e 1 (.slice p m c) m xs){i:Nat}{v:Value} (hi:xs[i]?=some v){φ:Nat->Nat->Prop} (hφ:∀ g o,w.cell? ⟨g,o+i,none⟩=some v->φ g o):Sx.adr p φ:=by
 obtain⟨ao,cap,hv,hl, -, -, -,h1⟩:=h.open1;simp at hv;obtain⟨rfl,rfl⟩:=hv
 have hlt:i<m:=by have:=(List.getElem?_eq_some_iff.1 hi).1;omega
 obtain⟨g,off,rfl, -,h2⟩:=h1 (by omega);exact adr_some (hφ g off (by rw[(h2 i hlt).1];exact hi))
theorem rp [Inhabited G3o] (s:ByteArray) (hsz:Ls.length≤24) (h:(scA X S n Ls).at_ W):Calls prog 96 #[pt X.ks,.string s] W λ e w'=>e= .returned (.int .i64 (bf Ls s))/\w'=W:=by
 refine akl X.ks 0 s ?_;have H:St W (scA X S n Ls).own W (scL X S n Ls++[]):=St.open_ (St.begin h);refine⟨_,_,_,H.ld 0 rfl (i:=2) rfl,?_⟩;refine⟨λ x w=>w=W/\∃ i:Nat,x=i/\i≤Ls.length/\∀ j,j<i->∀ p,Ls[j]?=some p->p.1≠s,λ x _=>(Ls.length - x).toNat,⟨rfl,0,rfl,by omega,λ j hj=>by omega⟩,λ _ x w2 hI=>?_⟩;obtain⟨rfl,i,rfl,hi,hno⟩:=hI;refine Sx.so (λ h=>?_) (λ h=>?_)
 ·have h2:i<Ls.length:=by have:=dt h;omega
  have hg:Ls[i]?=some Ls[i]:=List.getElem?_eq_getElem h2;refine⟨⟨by omega,by omega⟩,?_⟩;refine mc (H.nth 1 rfl) (i:=i) (v:=.string Ls[i].1) (by rw[List.getElem?_map,hg];rfl) λ g o hc=>?_;rw[ix1];refine⟨_,hc,?_⟩
  try dsimp only
  rw[ab];refine Sx.so (λ h3=>?_) (λ h3=>?_)
  ·refine⟨_,_,_,H.ld 0 rfl (i:=3) rfl,⟨by omega,by omega⟩,?_⟩;refine mc (H.nth 2 rfl) (i:=i) (v:=.int .i64 (Ls[i].2:Int)) (by rw[List.getElem?_map,hg];rfl) λ g2 o2 hc2=>?_;rw[ix1];refine⟨_,hc2,?_,rfl⟩;rw[(Ks s Ls i hno).1 _ hg (dt h3)]
  ·rintro z rfl
   have hw:IntKind.wrap .i64 ((i:Nat)+1:Int)=((i+1:Nat):Int):=by rw[show((i:Nat)+1:Int)=((i+1:Nat):Int) by omega];exact Go.Bits.n64 (by omega)
   rw[hw];refine⟨⟨rfl,i+1,rfl,by omega,λ j hj p hp=>?_⟩,by show((Ls.length:Int) - ((i+1:Nat):Int)).toNat<((Ls.length:Int) - ((i:Nat):Int)).toNat;omega⟩;rcases Nat.lt_or_eq_of_le (Nat.lt_succ_iff.1 hj) with h7 | h7
   ·exact hno j h7 p hp
   ·subst h7;rw[hg] at hp;cases hp;exact df h3
 ·have h2:Ls.length≤i:=by have:=df h;omega
  exact⟨by rw[(Ks s Ls i hno).2 h2],rfl⟩
theorem px {w:World}{L:List Gd}{i:Nat}{g:Gd} (h:here (L.map hdA) w) (hi:L[i]?=some g):(hdA g).at_ w:=h.nth i (by rw[List.getElem?_map,hi];rfl)
theorem bi {t:TypeId}{v:Value}{a:Value->Prop}{b:Prop} (h:a v):Sx.tagOf (.iface t v) t a b:=by
 exact Sx.so (λ _=>h) (λ e=>by rw[Nat.beq_refl] at e;cases e)
theorem ag {t u:TypeId}{v:Value}{a:Value->Prop}{b:Prop} (hn:t≠u) (h:b):Sx.tagOf (.iface t v) u a b:=by
 exact Sx.so (λ e=>absurd (Nat.eq_of_beq_eq_true e) hn) (λ _=>h)
theorem Ek {u:TypeId}{a:Value->Prop}{b:Prop} (h:b):Sx.tagOf .nilIface u a b:=h
end Go.Proofs.YtojogkljneonmaaGreatDoor
namespace Go.Lang
def T.isNil:T->Bool
 | .nil=>true
 | _=>false
def T.ok:T->Nat->Bool
 | .num ..,k=>k==0
 | .name ..,k=>k==0
 | .index _ _ _ p,k=>k==0&&p.ok 0
 | .call _ _ xs,k=>k==0&&xs.ok 1
 | .un _ x,k=>k==0&&x.ok 0
 | .bin _ x y,k=>k==0&&x.ok 0&&y.ok 0
 | .nil,k=>k==1||k==3
 | .cons x xs,k=>(k==1&&x.ok 0&&xs.ok 1)||(k==3&&x.ok 2&&xs.ok 3)
 | .letS _ _ _ _ x,k=>k==2&&x.ok 0
 | .setS _ _ _ x,k=>k==2&&x.ok 0
 | .putS _ _ _ p x,k=>k==2&&p.ok 0&&x.ok 0
 | .ifS _ c a b,k=>k==2&&c.ok 0&&a.ok 2&&(b.ok 2||b.isNil)
 | .whileS _ c b,k=>k==2&&c.ok 0&&b.ok 2
 | .retS _ x,k=>k==2&&x.ok 0
 | .prtS _ x,k=>k==2&&x.ok 0
 | .doS _ x,k=>k==2&&x.ok 0
 | .block _ l,k=>k==2&&l.ok 3
end Go.Lang
namespace Go.Proofs.YtojogkljneonmaaGreatDoor
open Go Go.Proofs.Tryz Go.Proofs Go.Sep Go.XHeap Go.RowKit Go.Lang
variable {W:World}{X:Cx}{S:Sp}{n:Nat}{Ls:Lcs}{lk:Lk}
theorem zt {α:Type}{A:Asn}{w w':World}{R0:C α}{x:α}{K:α->Ending->World->Prop}{e:Ending} (h:R0= .ok x) (hk:K x e w'):Wc A w R0 K e w':=by subst h;exact hk
theorem mapp_some {k:Nat}{f:Nat->Prop} (h:f k):Sx.mapp (some k) f:=h
theorem Hn [Inhabited G3o]{t:Tok}{s w:Int}{k:Nat} (hE:Hm lk X) (hn:Ls.length≤24) (h:(all [scA X S n Ls,blk k (jd t s w).toArray 221]).at_ W) :
  Calls prog 114 #[pt X.ks,pt k] W (Wc (all [scA X S n Ls,blk k (jd t s w).toArray 221]) W (sj lk Ls t w) λ p e w'=>e= .returned (.tuple #[])/\Post (all [scA X S n Ls,blk k (jd t s w).toArray 221]) W (all [scA X S n Ls,blk k (jd t p.1 p.2).toArray 221]) w'):=by
 refine agy X.ks 0 k 0 ?_;have H:=St.open_ (L':=[]) (St.begin h);refine⟨_,H.ld 1 rfl (i:=1) rfl,?_⟩;refine(rp t.s hn (H.nth 0 rfl)).mono ?_;rintro _ w2 ⟨rfl,rfl⟩;refine⟨_,rfl,?_⟩;refine H.st 1 rfl (i:=3) (by simp [jd,tkL]) λ w3 H3=>?_;have H3:St w2 (all [scA X S n Ls,blk k (jd t s w).toArray 221]).own w3 [scA X S n Ls,blk k (jd t (bf Ls t.s) w).toArray 221]:=H3;refine⟨_,H3.ld 1 rfl (i:=3) rfl,?_⟩;unfold sj;refine Sx.so (λ h1=>?_) (λ h1=>?_)
 ·rw[if_pos (dt h1)];exact⟨rfl,(St.shut (L:=[_,_]) (L':=[]) H3).post 0 rfl⟩
 ·rw[if_neg (df h1)];have H4:=St.open_ (L:=scL X S n Ls) H3;refine⟨_,H4.ld 0 rfl (i:=1) rfl,_,H4.ld 5 rfl (i:=1) rfl,mapp_some ⟨X.I,H4.nth 3 rfl,_,rfl,?_⟩⟩;have hL:=hE.2 n t.s
  cases hlk:lk t.s with
  | none =>
   rw[hlk] at hL;rw[show X.I t.s=none from hL];refine Ek ?_;refine H4.drN λ w7 H7=>?_;exact⟨_,H7.ld 5 rfl (i:=2) rfl,fx H7 t.line 9 rfl⟩
  | some g =>
   rw[hlk] at hL
   cases g with
   | fn kf np =>
    obtain⟨i,hf,sl,hI, -⟩:=hL;rw[hI];refine ag (by decide) ?_;refine H4.drN λ w7 H7=>?_;exact⟨_,H7.ld 5 rfl (i:=2) rfl,fx H7 t.line 9 rfl⟩
   | var wd z =>
    obtain⟨i,kv,tv,nv,hI,hG⟩:=hL;rw[hI];refine bi ⟨_,rfl,?_⟩;refine H4.drN λ w7 H7=>?_;have hb:Blk w7 kv (Qf tv nv wd z).toArray 127:=px (H7.nth 4 rfl) hG;refine ptr_some ⟨z,hb.cell' (i:=5) rfl,?_⟩;refine Sx.so (λ h2=>?_) (λ h2=>?_)
    ·have h2:=dt h2;exact⟨_,H7.ld 5 rfl (i:=2) rfl,fx H7 t.line 9 (if_pos h2)⟩
    ·have h2:=df h2;refine ptr_some ⟨wd,hb.cell' (i:=4) rfl,?_⟩;refine H7.st 5 rfl (i:=4) (by simp [jd,tkL]) λ w8 H8=>?_;have H9:=St.shut (L:=scL X S n Ls) (L':=[blk k (jd t (bf Ls t.s) wd).toArray 221]) H8;exact zt (x:=(bf Ls t.s,wd)) (if_neg h2) ⟨rfl,(St.shut (L:=[scA X S n Ls,_]) (L':=[]) H9).post 0 rfl⟩
def zu (lk:Lk):Prop:=∀ s w z,lk s=some (.var w z)->0≤z/\z≤256
theorem Ct [Inhabited G3o]{t:Tok}{w z:Int}{v:Value}{k:Nat} (hE:Hm lk X) (hZ:zu lk) (hn:Ls.length≤24) (h:(all [scA X S n Ls,blk k (em t w z v).toArray 176]).at_ W) :
  Calls prog 116 #[pt X.ks,pt k] W (Wc (all [scA X S n Ls,blk k (em t w z v).toArray 176]) W (Km lk Ls t) λ p e w'=>e= .returned (.tuple #[])/\Post (all [scA X S n Ls,blk k (em t w z v).toArray 176]) W (all [scA X S n Ls,blk k (em t p.1 p.2 v).toArray 176]) w'):=by
 refine aha X.ks 0 k 0 ?_;have H:=St.open_ (L':=[]) (St.begin h);have H4:=St.open_ (L:=scL X S n Ls) H;refine⟨_,H4.ld 0 rfl (i:=1) rfl,_,H4.ld 5 rfl (i:=1) rfl,mapp_some ⟨X.I,H4.nth 3 rfl,_,rfl,?_⟩⟩;have hL:=hE.2 n t.s;unfold Km
 cases hlk:lk t.s with
 | none =>
  rw[hlk] at hL;rw[show X.I t.s=none from hL];refine Ek ?_;refine H4.drN λ w7 H7=>?_;exact⟨_,H7.ld 5 rfl (i:=2) rfl,fx H7 t.line 9 rfl⟩
 | some g =>
  rw[hlk] at hL
  cases g with
  | fn kf np =>
   obtain⟨i,hf,sl,hI, -⟩:=hL;rw[hI];refine ag (by decide) ?_;refine H4.drN λ w7 H7=>?_;exact⟨_,H7.ld 5 rfl (i:=2) rfl,fx H7 t.line 9 rfl⟩
  | var wd zz =>
   have hz:=hZ _ _ _ hlk;obtain⟨i,kv,tv,nv,hI,hG⟩:=hL;rw[hI];refine bi ⟨_,rfl,?_⟩;refine H4.drN λ w7 H7=>?_;have hb:Blk w7 kv (Qf tv nv wd zz).toArray 127:=px (H7.nth 4 rfl) hG;refine ptr_some ⟨zz,hb.cell' (i:=5) rfl,?_⟩;refine Sx.so (λ h2=>?_) (λ h2=>?_)
   ·have h2:=beq_iff_eq.1 h2;exact⟨_,H7.ld 5 rfl (i:=2) rfl,fx H7 t.line 9 (if_pos h2)⟩
   ·have h2:zz≠0:=beq_eq_false_iff_ne.1 h2;refine⟨_,H7.ld 5 rfl (i:=1) rfl,?_⟩;have H7':=St.shut (L:=scL X S n Ls) (L':=[_]) H7;refine(rp t.s hn (H7'.nth 0 rfl)).mono ?_;rintro _ w8 ⟨rfl,rfl⟩;refine⟨_,rfl,?_⟩;refine Sx.so (λ h3=>?_) (λ h3=>?_)
    ·have h3:=dt h3;exact⟨_,H7.ld 5 rfl (i:=2) rfl,fx H7 t.line 9 ((if_neg h2).trans (if_pos h3))⟩
    ·have h3:=df h3;refine H7.dr λ w9 H9=>?_;have hb:Blk w9 kv (Qf tv nv wd zz).toArray 127:=px (H9.nth 4 rfl) hG;refine ptr_some (ptr_some ⟨wd,hb.cell' (i:=4) rfl,zz,hb.cell' (i:=5) rfl,?_⟩);rintro z7 rfl
     rw[show IntKind.wrap .u32 zz=zz by
      obtain⟨m,rfl⟩:∃ m:Nat,zz=m:=⟨zz.toNat,by omega⟩
      exact Go.Bits.n32 (by omega)]
     refine H9.st 5 rfl (i:=3) (by simp [em,tkL]) λ w10 H10=>?_;refine H10.st 5 rfl (i:=4) (by simp [em,tkL]) λ w11 H11=>?_;have H12:=St.shut (L:=scL X S n Ls) (L':=[blk k (em t wd zz v).toArray 176]) H11;exact zt (x:=(wd,zz)) ((if_neg h2).trans (if_neg h3)) ⟨rfl,(St.shut (L:=[scA X S n Ls,_]) (L':=[]) H12).post 0 rfl⟩
end Go.Proofs.YtojogkljneonmaaGreatDoor
