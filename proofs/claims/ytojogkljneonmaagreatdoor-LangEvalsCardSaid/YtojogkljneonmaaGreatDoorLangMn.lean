/- The evaluator walked: every expression, if the parts are. No condition. -/
import Derived.Test.YtojogkljneonmaaGreatDoorLangMh
import Derived.Test.YtojogkljneonmaaGreatDoorLangMp
set_option linter.unusedVariables false
set_option linter.unusedSimpArgs false
namespace Go.Proofs.YtojogkljneonmaaGreatDoor
open Go Go.Proofs.Tryz Go.Proofs Go.Sep Go.XHeap Go.RowKit Go.Lang
variable {W0 W:World}{M:Nat->Prop}{L L1:List Asn}{X:Ev}{h h0:Eh}{s:Rn}{F:Ft}{nw:Nat}{f:Nat}
theorem Yl {w:World}{A B:Asn} (H:St W0 M w (A::B::L)):St W0 M w (A::L):=(H.swap).tail
set_option maxHeartbeats 1000000 in
theorem afg (C:Code X F nw) (ih:∀ f'≤f,Wk X F nw f'){x:T}{v:Value} (H:St W0 M W (rnA X h s::L)) (hw:wf F nw s.slots.length x 0) (hv:tV X.DA x [v]) (hg:Gd' nw s) (hne:go opE F (f+1) (.e x) s≠ .out) :
  Calls prog 71 #[pt X.k,v] W (ke X h W0 M L evK (go opE F (f+1) (.e x) s)):=by
 obtain⟨R0,hR⟩:∃ R,R=go opE F (f+1) (.e x) s:=⟨_,rfl⟩;rw[<- hR] at hne ⊢;refine alx X.k 0 v ?_;refine aac hg.2.1 H (λ hz=>.inr ⟨_,rfl,?_⟩) (λ hz w2 H2=>.inl ⟨rfl,?_⟩)
 ·rw[hR,Si hz];exact⟨rfl,Al H⟩
 obtain⟨s1,hs1⟩:∃ s1:Rn,s1={ s with steps:=s.steps - 1 }:=⟨_,rfl⟩
 have hg1:Gd' nw s1:=by rw[hs1];exact Ub hg
 have hsl:s1.slots.length=s.slots.length:=by rw[hs1]
 have hst:∀ k,s.step k=k s1:=λ k=>by rw[hs1];exact Hp hz
 rw[<- hs1] at H2;rw[<- hsl] at hw;clear hs1 hsl H hg;have I:=ih f (Nat.le_refl _)
 have nb:∀ {r:Rs Rn} {k:List UInt32->Rn->Rs Rn},R0=r.bind k->r≠ .out:=λ e h=>by rw[h] at e;exact hne e
 cases x with
 | num n l =>
  replace hR:=hR.trans (go_num.trans (hst _));cases hv;obtain⟨-,n0,n1⟩:=hw;refine bi ⟨_,rfl,?_⟩;rw[hR];refine⟨?_,h.po,h.co,H2⟩;show Ending.returned (.int .u32 n)= .returned (vU (uI n));rw[Ik ⟨n0,n1⟩]
 | name t sl wd =>
  replace hR:=hR.trans (go_name.trans (hst _));obtain⟨kn,e,hb⟩:=hv;cases e;obtain⟨-,hin⟩:=hw;rw[<- hg1.1] at hin;refine ag (by decide) (bi ⟨_,rfl,?_⟩);refine Ty hb hin H2 λ a w3 ha H3=>⟨_,rfl,ptr_some ⟨_,Nd ha hin H3,?_⟩⟩;rw[hR];exact⟨rfl,h.po,h.co,H3⟩
 | index t wd z p =>
  replace hR:=hR.trans (go_index.trans (hst _));obtain⟨kb,xv,hp,e,hb⟩:=hv;cases e;obtain⟨-,hin,hwp⟩:=hw;refine ag (by decide) (ag (by decide) (bi ⟨_,rfl,ptr_some ⟨_,(hb _ (bm H2)).cell' (i:=5) rfl,?_⟩⟩));rw[hR];refine vd id (I.e H2 hwp hp hg1 (nb hR)) (λ kv s2 w3 po co h1 H3=>?_) (λ _ _ h=>h);obtain⟨hg2, -, -, -, -⟩:=xx hg1 h1;rw[h1,ez]
  have hin2:inA s2.words.length wd z:=by rw[hg2.1];exact hin
  refine aad hb hin2 (by have:=C.nw;have:=hg2.1;omega) H3 (λ hz=>.inr ⟨_,rfl,?_⟩) (λ hz g o w4 e4 H4=>.inl ⟨_,rfl,ptr_some ⟨_,Nh H4 e4 ?_,?_⟩⟩)
  ·rw[if_pos hz];exact⟨rfl,Al H3⟩
  ·obtain⟨a1,a2,a3,a4⟩:=hin2;omega
  ·rw[if_neg hz];exact⟨rfl,po,co,H4⟩
 | un t x =>
  replace hR:=hR.trans (go_un.trans (hst _));obtain⟨kb,xv,hx,e,hb⟩:=hv;cases e;obtain⟨-,hwx⟩:=hw;refine ag (by decide) (ag (by decide) (ag (by decide) (ag (by decide) (bi ⟨_,rfl,ptr_some ⟨_,(hb _ (bm H2)).cell' (i:=4) rfl,?_⟩⟩))));rw[hR];refine vd id (I.e H2 hwx hx hg1 (nb hR)) (λ kv s2 w3 po co h1 H3=>?_) (λ _ _ h=>h);rw[h1,ez];refine ptr_some ⟨_,(hb _ (bm H3)).cell' (i:=3) rfl,aq (λ e1=>?_) (λ e1=>aq (λ e2=>?_) (λ e2=>?_))⟩
  ·refine⟨?_,po,co,H3⟩;show Ending.returned (.int .u32 (IntKind.wrap .u32 (0 - ((hd kv).toNat:Int))))= .returned (vU (unV t.s (hd kv)));rw[afe];unfold unV;rw[if_pos (show t.s=pn from e1)];rfl
  ·refine(Ua _ _).mono ?_;rintro _ w4 ⟨rfl,h4⟩;refine⟨_,rfl,?_,po,co,H3.quiet h4⟩;show Ending.returned (vU (tr (((hd kv).toNat:Int)==0)))= .returned (vU (unV t.s (hd kv)));unfold unV;rw[if_neg (show ¬ t.s=pn from e1),if_pos (show t.s=Vy from e2),u_z]
  ·refine⟨?_,po,co,H3⟩;show Ending.returned (.int .u32 (IntKind.wrap .u32 _))= .returned (vU (unV t.s (hd kv)));rw[aff];unfold unV;rw[if_neg (show ¬ t.s=pn from e1),if_neg (show ¬ t.s=Vy from e2)];rfl
 | bin t x y =>
  replace hR:=hR.trans (go_bin.trans (hst _));obtain⟨kb,u,v,hx,hy,e,hb⟩:=hv;cases e;obtain⟨-,hwx,hwy⟩:=hw;refine ag (by decide) (ag (by decide) (ag (by decide) (ag (by decide) (ag (by decide) (bi ⟨_,rfl,?_⟩)))));refine(Yk (K':=evK) C I hx hy hb hwx hwy H2 hg1 hR hne).mono λ e w3 he=>?_
  cases hr:R0 with
  | ok v s'=>rw[hr] at he;obtain⟨rfl,r⟩:=he;exact .inl ⟨_,rfl,rfl,r⟩
  | stop n s'=>rw[hr] at he;obtain⟨rfl,r⟩:=he;exact .inr ⟨_,rfl,rfl,r⟩
  | out=>exact absurd hr hne
 | call t fa xs =>
  replace hR:=hR.trans (go_call.trans (hst _));obtain⟨kb,p,c,us,hxs,e,hb⟩:=hv;cases e;obtain⟨-,⟨kf,n,bd,rfl,hF,hln⟩,hwx⟩:=hw;have hul:=Uc hxs hwx;have hn24:=(C.ok kf n bd hF).2;refine ag (by decide) (ag (by decide) (ag (by decide) (bi ⟨_,rfl,ptr_some ⟨_,_,_,(hb _ (bm H2)).1.cell' (i:=4) rfl,?_⟩⟩)));obtain⟨ns,hns⟩:∃ ns,ns=s1.slots.length:=⟨_,rfl⟩;rw[<- hns] at hwx
  refine⟨λ x p' n' c' w=>∃ (done:List UInt32) (rest:T) (pre ws:List Value) (f':Nat) (sc:Rn) (po:Option Addr) (co:Nat),x=(done.length:Nat)/\n'=done.length/\us=pre++ws/\pre.length=done.length/\tV X.DA rest ws/\wf F nw ns rest 1/\f'≤f/\Gd' nw sc/\sc.slots.length=ns /\
   St W0 M w (rnA X { h with po:=po,co:=co } sc::sl 32 1 (.slice p' done.length c') done.length (done.map vU)::L)/\R0=(go opE F f' (.al rest) sc).bind λ vs s=>go opE F f (.en kf (done++vs)) s,
   λ x _ _ _ _=>(us.length - x.toNat),?_,λ _ x p' n' c' w hI=>?_⟩
  ·refine⟨[],xs,[],us,f,s1,h.po,h.co,rfl,rfl,rfl,rfl,hxs,hwx,Nat.le_refl _,hg1,hns.symm,?_,hR⟩
   exact(H2.add (A:=sl 32 1 (.slice none 0 0) 0 []) ⟨Sl.nil _ _ _,XTouch.refl _ _,λ q hq=>by cases hq⟩).perm (by
    show(rnA X h s1::(L++[_])).Perm _
    exact List.Perm.cons _ (List.perm_append_singleton _ _))
  ·obtain⟨done,rest,pre,ws,f',sc,po,co,rfl,rfl,hus,hpre,hrest,hwr,hf',hgc,hsc,Hc,hRc⟩:=hI
   have hlen:us.length=done.length+ws.length:=by rw[hus,List.length_append,hpre]
   have hwl:=Uc hrest hwr
   have hdl:done.length≤24:=by omega
   refine Sx.so (λ hx=>?_) (λ hx=>?_)
   ·have hx:done.length<us.length:=by have:=dt hx;omega
    cases rest with
    | cons y ys =>
     obtain⟨yv,us',hy,hys,rfl⟩:=hrest
     obtain⟨-,hwy,hwys⟩:1=1/\wf F nw ns y 0/\wf F nw ns ys 1:=by
      rcases hwr with h | ⟨h, -⟩
      ·exact h
      ·cases h
     cases f' with
     | zero=>exact absurd hRc hne
     | succ f'' =>
     have hRc:R0=(go opE F f'' (.e y) sc).bind λ v s=>((go opE F f'' (.al ys) s).bind λ vs s=>.ok (hd v::vs) s).bind λ vs s=>go opE F f (.en kf (done++vs)) s:=by
      rw[hRc,ahz];exact bind_assoc _ _ _
     have hS:Sl w 169 1 (.slice p us.length c) us.length us:=(hb _ (bm Hc)).2;refine⟨⟨by omega,by omega⟩,?_⟩;obtain⟨g,off,e,hc1, -⟩:=lr hS hx;rw[e];refine adr_some ⟨yv,?_,?_⟩
     ·rw[ix1,hc1,hus,List.getElem?_append_right (by omega),hpre,Nat.sub_self];rfl
     rw[hRc];refine vd Yl ((ih f'' (by omega)).e Hc (by rw[hsc];exact hwy) hy hgc (nb hRc)) (λ kv s2 w3 po2 co2 h1 H3=>?_) (λ _ _ h=>h);obtain⟨hg2,hs2, -, -, -⟩:=xx hgc h1;refine H3.al λ ka w4 H4=>?_;refine H4.app 1 rfl [vU (hd kv)] (.inr ⟨_,rfl,λ j u hj=>?_⟩) rfl (by simp [vU,Value.oneCell']) (by unfold maxLen;omega) (by omega) λ p2 c2 w5 H5=>?_
     ·match j,hj with
      | 0,hj =>
       cases hj;have:=H4.nth (A:=blk ka #[vU (hd kv)] 32) (L.length+2) (by simp [vU]);exact Blk.cell' this (i:=0) rfl
     ·rintro z6 rfl;rw[afc (by omega)]
      have H6:St W0 M w5 (rnA X { h with po:=po2,co:=co2 } s2::sl 32 1 (.slice p2 (done++[hd kv]).length c2) (done++[hd kv]).length ((done++[hd kv]).map vU)::L):=by
       have h6:=H5.take (L.length+2);simp only[List.length_append,List.length_cons,List.length_nil,List.map_append,List.map_cons,List.map_nil];simpa using h6
      refine⟨⟨done++[hd kv],ys,pre++[yv],us',f'',s2,po2,co2,by simp,by simp,by simp [hus],by simp [hpre],hys,hwys,by omega,hg2,by omega,H6,?_⟩,?_⟩
      ·rw[h1,ez,bind_assoc];congr 1;funext vs s;show go opE F f (.en kf (done++(hd kv::vs))) s=_;rw[List.append_assoc];rfl
      ·simp only[Int.toNat_natCast];omega
    | nil =>
     have:ws=[]:=hrest;subst this;simp at hlen;omega
    | _=>cases hwr.1
   ·have hx:¬ done.length<us.length:=by have:=df hx;omega
    have hws:ws=[]:=List.eq_nil_of_length_eq_zero (by omega);subst hws
    cases rest with
    | nil =>
     cases f' with
     | zero=>exact absurd hRc hne
     | succ f'' =>
     have hRc:R0=go opE F f (.en kf done) sc:=by
      rw[hRc,ael,ez];rw[List.append_nil]
     refine ptr_some ⟨_,(hb _ (bm Hc)).1.cell' (i:=3) rfl,?_⟩;refine(I.en Hc hF (by simp at hlen;omega) hgc (by rw[<- hRc];exact hne)).mono λ e w3 he=>?_;rw[<- hRc] at he
     cases hr:R0 with
     | ok v s'=>rw[hr] at he;obtain⟨rfl,r⟩:=he;exact .inl ⟨_,rfl,rfl,r⟩
     | stop n s'=>rw[hr] at he;obtain⟨rfl,r⟩:=he;exact .inr ⟨_,rfl,rfl,r⟩
     | out=>exact absurd hr hne
    | cons y ys=>obtain⟨v,us', -, -,e⟩:=hrest;cases e
    | _=>cases hwr.1
 | nil=>rcases hw with e | e <;> cases e
 | cons x xs=>rcases hw with ⟨e, -⟩ | ⟨e, -⟩ <;> cases e
 | _=>cases hw.1
variable {W0 W:World}{M:Nat->Prop}{L L1:List Asn}{X:Ev}{h h0:Eh}{s:Rn}{F:Ft}{nw:Nat}{f:Nat}
theorem amm {w:World} (H:St W0 M w L) (i:Nat){e n m bytes:Nat}{p:Option Addr}{c:Nat}{olds:List Value}{u:Value} (hi:L[i]?=some (sl e 1 (.slice p n c) n olds)) (h4:n+m≤maxLen) (h5:(n+m) * bytes≤140737488355328)
  {φ:Option Addr->Nat->World->Prop} (hq:∀ p' c' w',St W0 M w' (L.set i (sl e 1 (.slice p' (n+m) c') (n+m) (olds++List.replicate m u)))->φ p' c' w') :
  ∃ olds:List Value,Sl w e 1 (.slice p n c) n olds/\((0:Int)≤((m:Nat):Int)/\n+Int.toNat ((m:Nat):Int)≤maxLen/\(n+Int.toNat ((m:Nat):Int)) * bytes≤140737488355328) /\
   ∀ (p':Option Addr) (c':Nat) (w':World),Sl w' e 1 (.slice p' (n+Int.toNat ((m:Nat):Int)) c') (n+Int.toNat ((m:Nat):Int)) (olds++List.replicate (Int.toNat ((m:Nat):Int)) u)->XTouch (λ b=>(Value.slice p n c).ownBlock=some b) w w'->(∀ b,(Value.slice p' (n+Int.toNat ((m:Nat):Int)) c').ownBlock=some b->(Value.slice p n c).ownBlock=some b∨w.heap.size≤b)->φ p' c' w':=by
 simp only[Int.toNat_natCast];exact⟨olds,H.nth i hi,⟨by omega,h4,h5⟩,λ p' c' w' a b d=>hq p' c' w' (H.upd i hi ⟨a,b,d⟩)⟩
theorem Lh {k n kb:Nat}{t:Tok}{nm:ByteArray}{ps:Value}{no:Int} (hn:n≤24) (hb:Blk W k (fnC t nm ps (pt kb) (n:Nat) no).toArray 115):Calls prog 39 #[pt k] W λ e w'=>e= .returned (.int .i64 ((10+n:Nat):Int))/\w'=W:=by
 refine alz k 0 ⟨_,hb.cell' (i:=6) rfl,?_⟩;rintro z rfl;refine⟨?_,rfl⟩;rw[show(10:Int)+((n:Nat):Int)=((10+n:Nat):Int) by omega,Go.Bits.n64 (by omega)]
theorem afh {a b:Nat} (h:b≤a) (ha:a≤100000):IntKind.wrap .i64 ((a:Int) - (b:Int))=((a - b:Nat):Int):=by
 rw[show((a:Int) - (b:Int))=((a - b:Nat):Int) by omega,Go.Bits.n64 (by omega)]
theorem aim {a b:Nat} (ha:a+b≤100000):IntKind.wrap .i64 ((a:Int)+(b:Int))=((a+b:Nat):Int):=by
 rw[show((a:Int)+(b:Int))=((a+b:Nat):Int) by omega,Go.Bits.n64 (by omega)]
theorem afi {A B C D E G:Asn}:(A::B::C::D::E::G::L).Perm (A::B::C::G::E::D::L) :=
 .cons _ (.cons _ (.cons _ (((List.Perm.swap G E L).cons D).trans ((List.Perm.swap G D (E::L)).trans ((List.Perm.swap E D L).cons G)))))
set_option maxHeartbeats 1000000 in
theorem acs (C:Code X F nw) (I:Wk X F nw f){p:Option Addr}{c:Nat}{args:List UInt32}{k n:Nat}{b:T} (H:St W0 M W (rnA X h s::sl 32 1 (.slice p args.length c) args.length (args.map vU)::L)) (hF:F k=some (n,b)) (hl:args.length≤n) (hg:Gd' nw s) (hne:go opE F (f+1) (.en k args) s≠ .out) :
  Calls prog 21 #[pt X.k,pt k,.slice p args.length c] W (ke X h W0 M L evK (go opE F (f+1) (.en k args) s)):=by
 obtain⟨kb,t,nm,ps,no,htb,hdr⟩:=C.hdr k n b hF;obtain⟨hwb,hn⟩:=C.ok k n b hF;obtain⟨g1,g2,g3,g4⟩:=hg;obtain⟨R0,hR⟩:∃ R,R=go opE F (f+1) (.en k args) s:=⟨_,rfl⟩;rw[<- hR] at hne ⊢;replace hR:=hR.trans (aem hF);have H1:=ik H;refine alt X.k 0 k 0 p args.length c (H1.dr λ w2 H2=>⟨_,H2.ld 0 rfl (i:=3) rfl,?_⟩);refine(Lh hn (hdr _ (H2.nth 4 rfl))).mono ?_;rintro _ _ ⟨rfl,rfl⟩;refine⟨_,rfl,⟨_,H2.ld 0 rfl (i:=3) rfl,rfl⟩,Sx.so (λ hz=>?_) (λ hz=>?_)⟩
 ·have hz:s.room<10+n:=by have:=dt hz;omega
  rw[if_pos hz] at hR;rw[hR];exact⟨rfl,Al (Yl (lq H2))⟩
 have hz:¬ s.room<10+n:=by have:=df hz;omega
 rw[if_neg hz] at hR;refine⟨_,_,_,H2.ld 0 rfl (i:=4) rfl,H2.dr λ w4 H4=>⟨_,H4.ld 0 rfl (i:=3) rfl,?_⟩⟩;refine(Lh hn (hdr _ (H4.nth 4 rfl))).mono ?_;rintro _ _ ⟨rfl,rfl⟩;refine⟨_,rfl,⟨_,H4.ld 0 rfl (i:=3) rfl,rfl⟩,?_⟩;rintro z7 rfl;rw[afh (a:=s.room) (b:=10+n) (by omega) (by omega)];refine H4.st 0 rfl (i:=3) (by simp [rnL]) λ w5 H5=>?_;refine⟨_,(hdr _ (H5.nth 4 rfl)).cell' (i:=6) rfl,?_⟩;rintro z9 rfl;rw[afh (a:=n) (b:=args.length) hl (by omega)];refine amm H5 5 rfl (by unfold maxLen;omega) (by omega) λ p2 c2 w6 H6=>?_;refine H6.st 0 rfl (i:=4) (by simp [rnL]) λ w7 H7=>?_;refine⟨_,(hdr _ (H7.nth 4 rfl)).cell' (i:=5) rfl,?_⟩;obtain⟨s1,hs1⟩:∃ s1:Rn,s1={ s with room:=s.room - (10+n),slots:=args++List.replicate (n - args.length) 0 }:=⟨_,rfl⟩
 have hsl:s1.slots.length=n:=by rw[hs1];simp;omega
 have hg1:Gd' nw s1:=by rw[hs1];exact⟨g1,g2,by show s.room - (10+n)≤512;omega,g4⟩
 have H8:St W0 M w7 (rnA X { h with ps:=p2,cs:=c2 } s1::sl 32 1 (.slice h.ps s.slots.length h.cs) s.slots.length (s.slots.map vU)::L):=by
  refine lq ?_
  have e1:s1.slots.length=args.length+(n - args.length):=by rw[hs1];simp
  have e2:s1.slots.map vU=args.map vU++List.replicate (n - args.length) (.int .u32 0):=by rw[hs1];simp [vU]
  unfold rnL;rw[e1,e2];rw[hs1];exact H7.perm afi
 rw[<- hs1] at hR
 have hne1:go opE F f (.s b) s1≠ .out:=λ e=>by rw[e] at hR;exact hne hR
 refine(I.s H8 (by rw[hsl];exact hwb) htb hg1 hne1).mono λ e w8 he=>?_
 cases hr:go opE F f (.s b) s1 with
 | out=>exact absurd hr hne1
 | stop m s3 =>
  rw[hr] at he hR;obtain⟨rfl,h',z1,z2,v,H9⟩:=he;refine .inr ⟨_,rfl,?_⟩;rw[hR];exact⟨rfl,h',z1,z2,v,Yl H9⟩
 | ok v s3 =>
  rw[hr] at he hR;obtain⟨rfl,po,co,H9⟩:=he;obtain⟨-, -, -,hroom, -, -⟩:=gk hr
  have hroom:s3.room=s.room - (10+n):=by rw[hroom,hs1]
  have H10:=ik H9;refine .inl ⟨_,_,rfl,H10.st 0 rfl (i:=4) (by simp [rnL]) λ w9 H11=>H11.dr λ w10 H12=>⟨_,H12.ld 0 rfl (i:=3) rfl,?_⟩⟩;refine(Lh hn (hdr _ (H12.nth 4 rfl))).mono ?_;rintro _ _ ⟨rfl,rfl⟩;refine⟨_,rfl,⟨_,H12.ld 0 rfl (i:=3) rfl,rfl⟩,?_⟩;rintro z14 rfl;rw[aim (a:=s3.room) (b:=10+n) (by omega)];refine H12.st 0 rfl (i:=3) (by simp [rnL]) λ w11 H13=>?_;rw[hR];have H14:St W0 M w11 (rnL X { h with po:=po,co:=co } { s3 with slots:=s.slots,room:=s3.room+(10+n) }++sl 32 1 (.slice p2 s3.slots.length c2) s3.slots.length (s3.slots.map vU)::L):=H13.perm afi;exact⟨rfl,po,co,Yl (lq H14)⟩
variable {W0 W:World}{M:Nat->Prop}{L L1:List Asn}{X:Ev}{h h0:Eh}{s:Rn}{F:Ft}{nw:Nat}{f:Nat}
theorem afj {fn:FuncId}{args:Array Value}{r1:Rs Rn}{k:List UInt32->Rn->Rs Rn}{K':List UInt32->Value}{φ:Int->Bool->World->Prop}{Ψ:Ending->World->Prop} (hL:∀ {w:World}{A:Asn},St W0 M w (A::L1)->St W0 M w (A::L))
  (hc:Calls prog fn args W (ke X h W0 M L1 stK r1)) (hok:∀ v s' w' po co,r1= .ok v s'->St W0 M w' (rnA X { h with po:=po,co:=co } s'::L1)->φ ((hd v).toNat:Int) (decide (v≠[])) w')
  (hΨ:∀ l w',ke X h0 W0 M L K' (r1.bind k) (.panicked l) w'->Ψ (.panicked l) w') :
  Calls prog fn args W λ e w'=>(∃ (z:Int) (t:Bool),e= .returned (.tuple #[.int .u32 z,.bool t])/\φ z t w')∨∃ l,e= .panicked l/\Ψ (.panicked l) w':=by
 refine hc.mono λ e w' he=>?_
 cases hr:r1 with
 | ok v s' =>
  rw[hr] at he;obtain⟨rfl,po,co,H⟩:=he;exact .inl ⟨_,_,rfl,hok v s' w' po co hr H⟩
 | stop n s' =>
  rw[hr] at he;obtain⟨rfl,h',z1,z2,v,H⟩:=he;refine .inr ⟨_,rfl,hΨ _ _ ?_⟩;rw[hr];exact⟨rfl,h',z1,z2,v,hL H⟩
 | out=>rw[hr] at he;exact he.elim
theorem aaf {fn:FuncId}{args:Array Value}{r1:Rs Rn} (hc:Calls prog fn args W (ke X h W0 M L stK r1)) (hne:r1≠ .out) :
  Calls prog fn args W λ e w'=>(∃ (z:Int) (t:Bool),e= .returned (.tuple #[.int .u32 z,.bool t])/\ke X h W0 M L stK r1 (.returned (.tuple #[.int .u32 z,.bool t])) w')∨∃ l,e= .panicked l/\ke X h W0 M L stK r1 (.panicked l) w':=by
 refine hc.mono λ e w' he=>?_
 cases hr:r1 with
 | ok v s'=>rw[hr] at he;obtain⟨rfl,r⟩:=he;exact .inl ⟨_,_,rfl,rfl,r⟩
 | stop n s'=>rw[hr] at he;obtain⟨rfl,r⟩:=he;exact .inr ⟨_,rfl,rfl,r⟩
 | out=>exact absurd hr hne
theorem act (x:UInt32):stK [x]= .tuple #[.int .u32 (x.toNat:Int),.bool true]:=by
 unfold stK;simp [vU,hd]
theorem mh {s':Rn}{po:Option Addr}{co:Nat} (H:St W0 M W (rnA X { h with po:=po,co:=co } s'::L)):ke X h W0 M L stK (.ok [] s') (.returned (.tuple #[.int .u32 0,.bool false])) W:=⟨rfl,po,co,H⟩
theorem w8u (v:UInt32):Value.int .u8 (IntKind.wrap .u8 (v.toNat:Int))=vB v.toUInt8:=by
 unfold vB;rw[Go.Bits.m8,UInt32.toNat_toUInt8]
def Am (k:Nat) (w:World):Nat:=match w.cell? ⟨k,2,none⟩ with
 | some (.int _ z)=>z.toNat
 | _=>0
theorem Ni (H:St W0 M W (rnA X h s::L)):Am X.k W=s.steps:=by
 unfold Am;rw[(ik H).ld 0 rfl (i:=2) rfl];simp
set_option maxHeartbeats 2000000 in
theorem afk (C:Code X F nw) (ih:∀ f'≤f,Wk X F nw f'){x:T}{v:Value} (H:St W0 M W (rnA X h s::L)) (hw:wf F nw s.slots.length x 2) (hv:tV X.DA x [v]) (hg:Gd' nw s) (hne:go opE F (f+1) (.s x) s≠ .out) :
  Calls prog 40 #[pt X.k,v] W (ke X h W0 M L stK (go opE F (f+1) (.s x) s)):=by
 obtain⟨R0,hR⟩:∃ R,R=go opE F (f+1) (.s x) s:=⟨_,rfl⟩;rw[<- hR] at hne ⊢;refine aly X.k 0 v ?_;refine aac hg.2.1 H (λ hz=>.inr ⟨_,rfl,?_⟩) (λ hz w2 H2=>.inl ⟨rfl,?_⟩)
 ·rw[hR,Sj hz];exact⟨rfl,Al H⟩
 obtain⟨s1,hs1⟩:∃ s1:Rn,s1={ s with steps:=s.steps - 1 }:=⟨_,rfl⟩
 have hg1:Gd' nw s1:=by rw[hs1];exact Ub hg
 have hsl:s1.slots.length=s.slots.length:=by rw[hs1]
 have hst:∀ k,s.step k=k s1:=λ k=>by rw[hs1];exact Hp hz
 rw[<- hs1] at H2;rw[<- hsl] at hw;clear hs1 hsl H hg;have I:=ih f (Nat.le_refl _)
 have nb:∀ {r:Rs Rn} {k:List UInt32->Rn->Rs Rn},R0=r.bind k->r≠ .out:=λ e h=>by rw[h] at e;exact hne e
 cases x with
 | block l xs =>
  replace hR:=hR.trans (go_block.trans (hst _));obtain⟨kb,p,c,us,hxs,e,hb⟩:=hv;cases e;obtain⟨-,hwx⟩:=hw;refine bi ⟨_,rfl,ptr_some ⟨_,_,_,(hb _ (bm H2)).1.cell' (i:=0) rfl,?_⟩⟩;obtain⟨ns,hns⟩:∃ ns,ns=s1.slots.length:=⟨_,rfl⟩;rw[<- hns] at hwx
  refine⟨λ x w=>∃ (rest:T) (pre ws:List Value) (f':Nat) (sc:Rn) (po:Option Addr) (co:Nat),x=(pre.length:Nat)/\us=pre++ws/\tV X.DA rest ws/\wf F nw ns rest 3/\f'≤f/\Gd' nw sc/\sc.slots.length=ns /\
   St W0 M w (rnA X { h with po:=po,co:=co } sc::L)/\R0=go opE F f' (.ss rest) sc,λ x _=>(us.length - x.toNat),?_,λ _ x w hI=>?_⟩
  ·exact⟨xs,[],us,f,s1,h.po,h.co,rfl,rfl,hxs,hwx,Nat.le_refl _,hg1,hns.symm,H2,hR⟩
  ·obtain⟨rest,pre,ws,f',sc,po,co,rfl,hus,hrest,hwr,hf',hgc,hsc,Hc,hRc⟩:=hI
   have hlen:us.length=pre.length+ws.length:=by rw[hus,List.length_append]
   have hS:Sl w 161 1 (.slice p us.length c) us.length us:=(hb _ (bm Hc)).2
   have hmax:us.length≤maxLen:=by obtain⟨_,_,_,_,q, -⟩:=hS.open1;exact q
   refine Sx.so (λ hx=>?_) (λ hx=>?_)
   ·have hx:pre.length<us.length:=by have:=dt hx;omega
    cases rest with
    | cons y ys =>
     obtain⟨yv,us',hy,hys,rfl⟩:=hrest
     obtain⟨-,hwy,hwys⟩:3=3/\wf F nw ns y 2/\wf F nw ns ys 3:=by
      rcases hwr with ⟨h, -⟩ | h
      ·cases h
      ·exact h
     cases f' with
     | zero=>exact absurd hRc hne
     | succ f'' =>
     rw[aia] at hRc;refine⟨⟨by omega,by omega⟩,?_⟩;obtain⟨g,off,e,hc1, -⟩:=lr hS hx;rw[e];refine adr_some ⟨yv,?_,?_⟩
     ·rw[ix1,hc1,hus,List.getElem?_append_right (by omega),Nat.sub_self];rfl
     rw[hRc];refine afj id ((ih f'' (by omega)).s Hc (by rw[hsc];exact hwy) hy hgc (nb hRc)) (λ kv s2 w3 po2 co2 h1 H3=>?_) (λ _ _ h=>h);obtain⟨hg2,hs2, -, -, -⟩:=xx hgc h1;rw[h1,ez] at hRc ⊢;refine Sx.so (λ hv=>?_) (λ hv=>?_)
     ·rw[if_neg (dt hv)];refine⟨?_,po2,co2,H3⟩;unfold stK;rw[hv];rfl
     ·have hv:kv=[]:=Decidable.not_not.1 (df hv);rw[if_pos hv] at hRc ⊢;rintro z6 rfl;rw[show((pre.length:Nat):Int)+1=((pre.length+1:Nat):Int) by omega,Go.Bits.n64 (by unfold maxLen at hmax;omega)];refine⟨⟨ys,pre++[yv],us',f'',s2,po2,co2,by simp,by simp [hus],hys,hwys,by omega,hg2,by omega,H3,rfl⟩,?_⟩;simp only[Int.toNat_natCast];omega
    | nil =>
     have:ws=[]:=hrest;subst this;simp at hlen;omega
    | _=>cases hwr.1
   ·have hx:¬ pre.length<us.length:=by have:=df hx;omega
    have hws:ws=[]:=List.eq_nil_of_length_eq_zero (by omega);subst hws
    cases rest with
    | nil =>
     cases f' with
     | zero=>exact absurd hRc hne
     | succ f'' =>
     rw[hRc,aen];exact mh Hc
    | cons y ys=>obtain⟨v,us', -, -,e⟩:=hrest;cases e
    | _=>cases hwr.1
 | letS t nm sl wd x =>
  replace hR:=hR.trans (go_let.trans (hst _));obtain⟨kb,kn,xv,hx,e,hb⟩:=hv;cases e;obtain⟨-,hin,hwx⟩:=hw;rw[<- hg1.1] at hin;refine ag (by decide) (bi ⟨_,rfl,H2.dr λ w3 H3=>ptr_some (ptr_some ⟨_,(hb _ (bm H3)).1.cell' (i:=3) rfl,_,(hb _ (bm H3)).1.cell' (i:=4) rfl,?_⟩)⟩);refine Ty (λ W h=>(hb W h).2) hin H3 λ a w4 ha H4=>⟨_,rfl,⟨_,(hb _ (bm H4)).1.cell' (i:=4) rfl,rfl⟩,?_⟩;rw[hR];refine vd id (I.e H4 hwx hx hg1 (nb hR)) (λ kv s2 w5 po co h1 H5=>ptr_some ?_) (λ _ _ h=>h);obtain⟨hg2,hs2, -, -, -⟩:=xx hg1 h1;rw[h1,ez];exact Nf (h:={ h with po:=po,co:=co }) ha (by rw[hg2.1,hs2,<- hg1.1];exact hin) H5 λ w6 H6=>mh H6
 | setS t sl wd x =>
  replace hR:=hR.trans (go_set.trans (hst _));obtain⟨kb,kn,xv,hx,e,hb⟩:=hv;cases e;obtain⟨-,hin,hwx⟩:=hw;rw[<- hg1.1] at hin;refine ag (by decide) (bi ⟨_,rfl,H2.dr λ w3 H3=>ptr_some (ptr_some ⟨_,(hb _ (bm H3)).1.cell' (i:=3) rfl,_,(hb _ (bm H3)).1.cell' (i:=4) rfl,?_⟩)⟩);refine Ty (λ W h=>(hb W h).2) hin H3 λ a w4 ha H4=>⟨_,rfl,⟨_,(hb _ (bm H4)).1.cell' (i:=4) rfl,rfl⟩,?_⟩;rw[hR];refine vd id (I.e H4 hwx hx hg1 (nb hR)) (λ kv s2 w5 po co h1 H5=>ptr_some ?_) (λ _ _ h=>h);obtain⟨hg2,hs2, -, -, -⟩:=xx hg1 h1;rw[h1,ez];exact Nf (h:={ h with po:=po,co:=co }) ha (by rw[hg2.1,hs2,<- hg1.1];exact hin) H5 λ w6 H6=>mh H6
 | putS t wd z p x =>
  replace hR:=hR.trans (go_put.trans (hst _));obtain⟨kb,ki,pv,xv,hp,hx,e,hb⟩:=hv;cases e;obtain⟨-,hin,hwp,hwx⟩:=hw;refine ag (by decide) (ag (by decide) (bi ⟨_,rfl,ptr_some ⟨_,(hb _ (bm H2)).1.cell' (i:=0) rfl,ptr_some ⟨_,(hb _ (bm H2)).2.cell' (i:=5) rfl,?_⟩⟩⟩));rw[hR];refine vd id (I.e H2 hwp hp hg1 (nb hR)) (λ kv s2 w3 po co h1 H3=>ptr_some ⟨_,(hb _ (bm H3)).1.cell' (i:=1) rfl,?_⟩) (λ _ _ h=>h);obtain⟨hg2,hs2, -, -, -⟩:=xx hg1 h1;rw[h1,ez] at hR ⊢;refine vd id (I.e H3 (by rw[hs2];exact hwx) hx hg2 (nb hR)) (λ xv s3 w4 po2 co2 h2 H4=>ptr_some ⟨_,(hb _ (bm H4)).1.cell' (i:=0) rfl,?_⟩) (λ _ _ h=>h);obtain⟨hg3,hs3, -, -, -⟩:=xx hg2 h2;rw[h2,ez]
  have hin3:inA s3.words.length wd z:=by rw[hg3.1];exact hin
  refine aad (λ W h=>(hb W h).2) hin3 (by have:=C.nw;have:=hg3.1;omega) H4 (λ hz=>.inr ⟨_,rfl,?_⟩) (λ hz g o w5 e5 H5=>.inl ⟨_,rfl,ptr_some (ail H5 e5 (by obtain⟨a1,a2,a3,a4⟩:=hin3;omega) λ w6 H6=>?_)⟩)
  ·rw[if_pos hz];exact⟨rfl,Al H4⟩
  ·rw[if_neg hz];exact mh H6
 | ifS l c a b =>
  replace hR:=hR.trans (go_if.trans (hst _));obtain⟨kb,cv,ka,hc,ha,e,hb⟩:=hv;cases e;obtain⟨-,hwc,hwa,hwb⟩:=hw
  have hb0:∃ q:Value,∀ W,X.DA.at_ W->Blk W kb #[cv,pt ka,q] 183:=by
   rcases hb with ⟨-,hb⟩ | ⟨-,k3, -,hb⟩
   ·exact⟨_,hb⟩
   ·exact⟨_,hb⟩
  obtain⟨q,hb0⟩:=hb0;refine ag (by decide) (ag (by decide) (ag (by decide) (bi ⟨_,rfl,ptr_some ⟨_,(hb0 _ (bm H2)).cell' (i:=0) rfl,?_⟩⟩)));rw[hR];refine vd id (I.e H2 hwc hc hg1 (nb hR)) (λ kv s2 w3 po co h1 H3=>?_) (λ _ _ h=>h);obtain⟨hg2,hs2, -, -, -⟩:=xx hg1 h1;rw[h1,ez] at hR ⊢;refine Sx.so (λ hz=>?_) (λ hz=>?_)
  ·rw[Qh] at hz
   have hz:hd kv≠0:=by simpa using hz
   rw[if_pos hz] at hR ⊢;refine ptr_some ⟨_,(hb0 _ (bm H3)).cell' (i:=1) rfl,?_⟩;exact aaf (h:=h) ((I.s H3 (by rw[hs2];exact hwa) ha hg2 (by rw[<- hR];exact hne)).mono λ e w he=>he) (by rw[<- hR];exact hne)
  ·rw[Qh] at hz
   have hz:¬ hd kv≠0:=by simpa using hz
   rw[if_neg hz] at hR ⊢;rcases hb with ⟨rfl,hb⟩ | ⟨hbn,k3,h3,hb⟩
   ·refine ptr_some ⟨_,(hb _ (bm H3)).cell' (i:=2) rfl,Sx.so (λ h=>by cases h) (λ _=>?_)⟩;rw[if_pos (show T.nil.isNil=true from rfl)];exact mh H3
   ·rw[if_neg (by rw[hbn];exact Bool.false_ne_true)] at hR ⊢
    have hwb:wf F nw s1.slots.length b 2:=by
     rcases hwb with h | h
     ·exact h
     ·rw[hbn] at h;cases h
    refine ptr_some ⟨_,(hb _ (bm H3)).cell' (i:=2) rfl,Sx.so (λ _=>?_) (λ h=>by cases h)⟩;refine ptr_some ⟨_,(hb _ (bm H3)).cell' (i:=2) rfl,?_⟩;exact aaf (h:=h) ((I.s H3 (by rw[hs2];exact hwb) h3 hg2 (by rw[<- hR];exact hne)).mono λ e w he=>he) (by rw[<- hR];exact hne)
 | whileS l c b =>
  replace hR:=hR.trans (go_while.trans (hst _));obtain⟨kb,cv,ka,hc,ha,e,hb⟩:=hv;cases e;obtain⟨-,hwc,hwb⟩:=hw;refine ag (by decide) (ag (by decide) (ag (by decide) (ag (by decide) (bi ⟨_,rfl,?_⟩))));obtain⟨ns,hns⟩:∃ ns,ns=s1.slots.length:=⟨_,rfl⟩;rw[<- hns] at hwc hwb;refine⟨λ w=>∃ (f':Nat) (sc:Rn) (po:Option Addr) (co:Nat),f'≤f/\Gd' nw sc/\sc.slots.length=ns/\St W0 M w (rnA X { h with po:=po,co:=co } sc::L)/\R0=go opE F f' (.w c b) sc,λ w=>Am X.k w,⟨f,s1,h.po,h.co,Nat.le_refl _,hg1,hns.symm,H2,hR⟩,λ _ w hI=>?_⟩;obtain⟨f',sc,po,co,hf',hgc,hsc,Hc,hRc⟩:=hI
  cases f' with
  | zero=>exact absurd hRc hne
  | succ f'' =>
  rw[alp] at hRc;refine ptr_some ⟨_,(hb _ (bm Hc)).cell' (i:=0) rfl,?_⟩;rw[hRc];refine vd id ((ih f'' (by omega)).e Hc (by rw[hsc];exact hwc) hc hgc (nb hRc)) (λ kv s2 w3 po2 co2 h1 H3=>?_) (λ _ _ h=>h);obtain⟨hg2,hs2,hst2, -, -⟩:=xx hgc h1;rw[h1,ez] at hRc ⊢;refine Sx.so (λ hz=>?_) (λ hz=>?_)
  ·rw[Qh] at hz
   have hz:¬ hd kv=0:=by simpa using hz
   rw[if_neg hz] at hRc ⊢;refine ptr_some ⟨_,(hb _ (bm H3)).cell' (i:=1) rfl,?_⟩;refine afj id ((ih f'' (by omega)).s H3 (by rw[hs2,hsc];exact hwb) ha hg2 (nb hRc)) (λ bv s3 w4 po3 co3 h2 H4=>?_) (λ _ _ h=>h);obtain⟨hg3,hs3,hst3, -, -⟩:=xx hg2 h2;rw[h2,ez] at hRc ⊢;refine Sx.so (λ hv=>?_) (λ hv=>?_)
   ·rw[if_neg (dt hv)];refine⟨?_,po3,co3,H4⟩;unfold stK;rw[hv];rfl
   ·have hv:bv=[]:=Decidable.not_not.1 (df hv);rw[if_pos hv] at hRc ⊢;refine⟨⟨f'',s3,po3,co3,by omega,hg3,by omega,H4,rfl⟩,?_⟩;show Am X.k w4<Am X.k w;rw[Ni H4,Ni Hc];simp only[Rq.cost] at hst2 hst3;omega
  ·rw[Qh] at hz
   have hz:hd kv=0:=by simpa using hz
   rw[if_pos hz];exact mh H3
 | retS l x =>
  replace hR:=hR.trans (go_ret.trans (hst _));obtain⟨kb,xv,hx,e,hb⟩:=hv;cases e;obtain⟨-,hwx⟩:=hw;refine ag (by decide) (ag (by decide) (ag (by decide) (ag (by decide) (ag (by decide) (bi ⟨_,rfl,ptr_some ⟨_,(hb _ (bm H2)).cell' (i:=0) rfl,?_⟩⟩)))));rw[hR];refine vd id (I.e H2 hwx hx hg1 (nb hR)) (λ kv s2 w3 po co h1 H3=>?_) (λ _ _ h=>h);rw[h1,ez];exact⟨by rw[act],po,co,H3⟩
 | prtS l x =>
  replace hR:=hR.trans (go_prt.trans (hst _));obtain⟨kb,xv,hx,e,hb⟩:=hv;cases e;obtain⟨-,hwx⟩:=hw;refine ag (by decide) (ag (by decide) (ag (by decide) (ag (by decide) (ag (by decide) (ag (by decide) (bi ⟨_,rfl,ptr_some ⟨_,(hb _ (bm H2)).cell' (i:=0) rfl,?_⟩⟩))))));rw[hR];refine vd id (I.e H2 hwx hx hg1 (nb hR)) (λ kv s2 w3 po co h1 H3=>?_) (λ _ _ h=>h);obtain⟨hg2, -,hst2, -, -⟩:=xx hg1 h1;rw[h1,ez];rintro z rfl;have H4:=ik H3;refine⟨_,_,_,H4.ld 0 rfl (i:=1) rfl,H4.al λ kc w4 H5=>?_⟩
  have hout:s2.out.length≤20000:=by have:=hg2.2.2.2;omega
  refine H5.app 2 rfl [vB (hd kv).toUInt8] (.inr ⟨_,rfl,λ j u hj=>?_⟩) rfl (by simp [vB,Value.oneCell']) (by unfold maxLen;omega) (by omega) λ p2 c2 w5 H6=>?_
  ·match j,hj with
   | 0,hj =>
    cases hj;have:=H5.nth (A:=blk kc #[.int .u8 (IntKind.wrap .u8 ((hd kv).toNat:Int))] 5) (L.length+5) (by simp [rnL]);rw[<- w8u];exact Blk.cell' this (i:=0) rfl
  ·refine H6.st 0 rfl (i:=1) (by simp [rnL]) λ w6 H7=>?_;have H8:=H7.take (L.length+5)
   have H9:St W0 M w6 (rnL X { h with po:=p2,co:=c2 } { s2 with out:=s2.out++[(hd kv).toUInt8] }++L):=by
    unfold rnL;simp only[List.length_append,List.length_cons,List.length_nil,List.map_append,List.map_cons,List.map_nil];simpa [rnL] using H8
   exact mh (lq H9)
 | doS l x =>
  replace hR:=hR.trans (go_do.trans (hst _));obtain⟨kb,kc,hx,e,hb⟩:=hv;cases e;obtain⟨-,hwx⟩:=hw;refine ag (by decide) (ag (by decide) (ag (by decide) (ag (by decide) (ag (by decide) (ag (by decide) (ag (by decide) (bi ⟨_,rfl,ptr_some ⟨_,(hb _ (bm H2)).cell' (i:=0) rfl,?_⟩⟩)))))));rw[hR];refine vd id (I.e H2 hwx hx hg1 (nb hR)) (λ kv s2 w3 po co h1 H3=>?_) (λ _ _ h=>h);rw[h1,ez];exact mh H3
 | nil=>rcases hw with e | e <;> cases e
 | cons x xs=>rcases hw with ⟨e, -⟩ | ⟨e, -⟩ <;> cases e
 | _=>cases hw.1
theorem afl (C:Code X F nw):∀ f:Nat,Wk X F nw f:=by
 intro f
 induction f using Nat.strongRecOn with
 | ind f ih =>
  cases f with
  | zero=>exact⟨λ _ _ _ _ h=>absurd rfl h,λ _ _ _ _ h=>absurd rfl h,λ _ _ _ _ h=>absurd rfl h⟩
  | succ f =>
   have ih':∀ f'≤f,Wk X F nw f':=λ f' h=>ih f' (by omega);exact⟨λ H hw hv hg hne=>afg C ih' H hw hv hg hne,λ H hw hv hg hne=>afk C ih' H hw hv hg hne,λ H hF hl hg hne=>acs C (ih' f (Nat.le_refl _)) H hF hl hg hne⟩
end Go.Proofs.YtojogkljneonmaaGreatDoor
namespace Go.Lang
variable {F:Ft}{nw:Nat}{lk:Lk}
theorem ve (ds0:List D):∀ (ds ds':List D) (i:Nat),jp lk ds0 i ds= .ok ds'->ds'.length=ds.length/\∀ (j:Nat) (d:D),ds[j]?=some d->∃ d' dup,ds'[j]?=some d'/\Gh lk dup d= .ok d'
 | [],ds',i,h=>by cases h;exact⟨rfl,λ j d h=>by simp at h⟩
 | d::r,ds',i,h=>by
  rw[jp] at h;obtain⟨d',hd,h⟩:=C.bind_ok h;obtain⟨r',hr,h⟩:=C.bind_ok h;cases h;obtain⟨a,b⟩:=ve ds0 r r' _ hr;refine⟨by simp [a],λ j x hx=>?_⟩
  cases j with
  | zero=>simp at hx;subst hx;exact⟨d',_,rfl,hd⟩
  | succ j=>exact b j x (by simpa using hx)
def Cd (t tot:Nat):D->Prop
 | .var _ _ w z=>(t:Int)≤w/\w+max 1 z≤tot/\0≤z/\z≤256
 | .fn _ _ ps _ _ b=>ps.length≤6/\b.ok 2=true/\b.sz<1000000/\b.nok
theorem vg:∀ (ds:List D) (t n:Nat),(∀ d ∈ ds,DOk d/\d.nok)->∀ d ∈ count ds t n,Cd t (t+total ds) d
 | [],t,n,h,d,hd=>by cases hd
 | .var tk nm w z::r,t,n,h,d,hd=>by
  obtain⟨⟨z0,z1⟩, -⟩:=h _ (List.mem_cons_self ..);rcases List.mem_cons.1 hd with rfl | hd
  ·exact⟨Int.le_refl _,by show(t:Int)+max 1 z≤((t+(max 1 z.toNat+total r):Nat):Int);omega,z0,z1⟩
  ·have:=vg r _ _ (λ d hd=>h d (List.mem_cons_of_mem _ hd)) d hd
   cases d with
   | var t2 n2 w2 z2 =>
    obtain⟨a,b,c,e⟩:=this;exact⟨by omega,by show w2+max 1 z2≤((t+(max 1 z.toNat+total r):Nat):Int);omega,c,e⟩
   | fn=>exact this
 | .fn tk nm ps s no b::r,t,n,h,d,hd=>by
  rcases List.mem_cons.1 hd with rfl | hd
  ·obtain⟨⟨-,a,b,c⟩,e⟩:=h _ (List.mem_cons_self ..);exact⟨a,b,c,e⟩
  ·have:=vg r _ _ (λ d hd=>h d (List.mem_cons_of_mem _ hd)) d hd
   cases d with
   | var t2 n2 w2 z2=>exact this
   | fn=>exact this
theorem pa (ds0:List D):∀ (ds ds':List D) (i t n:Nat),jp lk ds0 i (count ds t n)= .ok ds'->t≤512->t+total ds≤512
 | [],ds',i,t,n,h,ht=>ht
 | .var tk nm w z::r,ds',i,t,n,h,ht=>by
  rw[count,jp] at h;obtain⟨d',hd,h⟩:=C.bind_ok h;obtain⟨r',hr,h⟩:=C.bind_ok h;rw[Gh] at hd;split at hd
  ·cases hd
  split at hd
  ·cases hd
  ·have:=pa ds0 r r' _ _ _ hr (by omega);show t+(max 1 z.toNat+total r)≤512;omega
 | .fn tk nm ps s no b::r,ds',i,t,n,h,ht=>by
  rw[count,jp] at h;obtain⟨d',hd,h⟩:=C.bind_ok h;obtain⟨r',hr,h⟩:=C.bind_ok h;exact pa ds0 r r' _ _ _ hr ht
theorem rx {ad:Nat->Nat}{ds:List D}{q:List D×Nat} (h:check ad ds= .ok q):jp (rq ad (count ds 0 0)) (count ds 0 0) 0 (count ds 0 0)= .ok q.1/\∃ np,rq ad (count ds 0 0) ef=some (.fn q.2 np)/\np=0:=by
 unfold check at h;obtain⟨ds',hr,h⟩:=C.bind_ok h;split at h
 ·rename_i k np hm;split at h
  ·cases h
  ·cases h;exact⟨hr,np,hm,by omega⟩
 ·cases h
theorem acu {dup:Bool}{t:Tok}{nm:ByteArray}{ps:List ByteArray}{s no:Int}{b:T}{d':D} (hq:Gh lk dup (.fn t nm ps s no b)= .ok d'):∃ (n:Nat) (b':T),d'= .fn t nm ps (n:Int) no b'/\ps.length≤n/\n≤24:=by
 rw[Gh] at hq;split at hq
 ·cases hq
 obtain⟨p,hp,hq⟩:=C.bind_ok hq;obtain⟨r,hr,hq⟩:=C.bind_ok hq;cases hq;obtain⟨p1,p2⟩:=Fa ps t.line [] 0 p (λ p hp=>by cases hp) hp;obtain⟨p3,p4⟩:=rt ps t.line [] 0 p (by omega) (by simp) hp;have hinv:=fe lk b p.1 p.2 r p4 p3 hr;exact⟨r.2.2,r.1,rfl,by have:=hinv.2.2.2;omega,hinv.2.2.1⟩
end Go.Lang
namespace Go.Proofs.YtojogkljneonmaaGreatDoor
open Go Go.Proofs.Tryz Go.Proofs Go.Sep Go.XHeap Go.RowKit Go.Lang
def adz (k:Nat) (m:Dm):Bool:=match m.g with
 | .fn h _=>decide (h.k=k)
 | _=>false
def fnOf (m:Dm):Option (Nat×T):=match m.g with
 | .fn _ sl=>some (sl.toNat,m.bd)
 | _=>none
def Il (cur:List Dm):Ft:=λ k=>(cur.find? (adz k)).bind fnOf
theorem Ym {w:World}{G:List Gd} (h:(all (G.map hdA)).at_ w){i j:Nat}{gi gj:Gd} (hi:G[i]?=some gi) (hj:G[j]?=some gj) (e:nl gi=nl gj):i=j:=by
 by_cases hn:i=j
 ·exact hn
 ·have ho:∀ g:Gd,(hdA g).own (nl g):=by
   intro g;cases g <;> rfl
  exact absurd (e ▸ ho gj) (St.disj (L:=G.map hdA) h i j hn (by rw[List.getElem?_map,hi];rfl) (by rw[List.getElem?_map,hj];rfl) (nl gi) (ho gi))
theorem ft_at {w:World}{cur:List Dm} (h:(all ((cur.map Dm.g).map hdA)).at_ w){i:Nat}{m:Dm}{hh:Fh}{sl:Int} (hi:cur[i]?=some m) (hg:m.g= .fn hh sl):Il cur hh.k=some (sl.toNat,m.bd):=by
 unfold Il
 cases hf:cur.find? (adz hh.k) with
 | none =>
  have:=List.find?_eq_none.1 hf m (List.mem_of_getElem? hi);unfold adz at this;rw[hg] at this;simp at this
 | some m2 =>
  have h2:=List.find?_some hf;obtain⟨j,hj⟩:=List.getElem?_of_mem (List.mem_of_find?_eq_some hf)
  have hk:nl m.g=nl m2.g:=by
   rw[hg];unfold adz at h2
   cases hm:m2.g with
   | var=>rw[hm] at h2;cases h2
   | fn h2' s2=>rw[hm] at h2;have h2:=dt h2;show hh.k=h2'.k;omega
  obtain rfl:=Ym h (i:=i) (j:=j) (by rw[List.getElem?_map,hi];rfl) (by rw[List.getElem?_map,hj];rfl) hk;obtain rfl:=Option.some.inj (hi.symm.trans hj);show fnOf m=_;unfold fnOf;rw[hg]
theorem acv {cur:List Dm}{k n:Nat}{b:T} (h:Il cur k=some (n,b)):∃ (m:Dm) (hh:Fh) (sl:Int),m ∈ cur/\m.g= .fn hh sl/\hh.k=k/\n=sl.toNat/\b=m.bd:=by
 unfold Il at h
 cases hf:cur.find? (adz k) with
 | none=>rw[hf] at h;cases h
 | some m =>
  rw[hf] at h;have h2:=List.find?_some hf;unfold adz at h2;have h:fnOf m=some (n,b):=h;unfold fnOf at h
  cases hg:m.g with
  | var=>rw[hg] at h;cases h
  | fn hh sl =>
   rw[hg] at h h2;cases h;exact⟨m,hh,sl,List.mem_of_find?_eq_some hf,hg,dt h2,rfl,rfl⟩
theorem wj:∀ (ms:List Dm) (t n:Nat),Bn ((av ms t n).map Dm.g)=total (ms.map Dm.d)
 | [],_,_=>rfl
 | ⟨.var k tt nm w z,ps,bd,B⟩::r,t,n=>by
  show max 1 z.toNat+Bn ((av r _ _).map Dm.g)=max 1 z.toNat+total (r.map Dm.d);rw[wj r]
 | ⟨.fn h s,ps,bd,B⟩::r,t,n=>wj r _ _
theorem afm {w:World}{ms cur:List Dm}{q:List D×Nat} (hch:check (xu (av ms 0 0)) (ms.map Dm.d)= .ok q) (hd:∀ d ∈ ms.map Dm.d,DOk d/\d.nok) (hq:cur.map Dm.d=q.1) (hgz:(cur.map Dm.g).map gz=((av ms 0 0).map Dm.g).map gz) (h:(all ((cur.map Dm.g).map hdA)).at_ w) :
  LkF (Il cur) (total (ms.map Dm.d)) (rq (xu (av ms 0 0)) (count (ms.map Dm.d) 0 0)):=by
 obtain⟨hr, -⟩:=rx hch;have hcd:=vg (ms.map Dm.d) 0 0 hd;rw[Nat.zero_add] at hcd
 have hlen:cur.length=(av ms 0 0).length:=by
  have:=congrArg List.length hgz;simpa using this
 constructor
 ·intro s w z hs;unfold rq at hs
  cases hi:de (count (ms.map Dm.d) 0 0) s with
  | none=>rw[hi] at hs;cases hs
  | some i =>
   rw[hi,Option.bind_some] at hs
   cases hx:(count (ms.map Dm.d) 0 0)[i]? with
   | none=>rw[hx] at hs;cases hs
   | some d =>
    rw[hx] at hs;have:=hcd d (List.mem_of_getElem? hx)
    cases d with
    | var t nm w' z' =>
     cases hs;obtain⟨a,b,c,e⟩:=this;exact⟨by omega,c,e,b⟩
    | fn=>cases hs
 ·intro s k np hs;unfold rq at hs
  cases hi:de (count (ms.map Dm.d) 0 0) s with
  | none=>rw[hi] at hs;cases hs
  | some i =>
   rw[hi,Option.bind_some] at hs
   cases hx:(count (ms.map Dm.d) 0 0)[i]? with
   | none=>rw[hx] at hs;cases hs
   | some d =>
    rw[hx] at hs
    cases d with
    | var=>cases hs
    | fn t nm ps s0 no b =>
     cases hs;obtain⟨-,hco⟩:=ve _ _ _ _ hr;obtain⟨d',dup,hj,hcone⟩:=hco i _ hx;obtain⟨n,b',rfl,hn,hn24⟩:=acu hcone;rw[<- hq,List.getElem?_map] at hj
     cases hm:cur[i]? with
     | none=>rw[hm] at hj;cases hj
     | some m =>
      rw[hm] at hj;have hmd:m.d= .fn t nm ps (n:Int) no b':=Option.some.inj hj
      have hkey:xu (av ms 0 0) i=nl m.g:=by
       have e1:((cur.map Dm.g).map gz)[i]?=some (gz m.g):=by rw[List.getElem?_map,List.getElem?_map,hm];rfl
       rw[hgz,List.getElem?_map,List.getElem?_map] at e1;unfold xu
       cases hc:(av ms 0 0)[i]? with
       | none=>rw[hc] at e1;cases e1
       | some m0 =>
        rw[hc] at e1;have:gz m0.g=gz m.g:=Option.some.inj e1;show nl m0.g=nl m.g;exact(Tn this).2
      cases hg:m.g with
      | var k2 t2 nm2 w2 z2=>unfold Dm.d at hmd;rw[hg] at hmd;cases hmd
      | fn hh sl =>
       unfold Dm.d at hmd;rw[hg] at hmd;cases hmd;rw[hkey,hg];exact⟨n,m.bd,by have:=ft_at h hm hg;rw[show nl (.fn hh (n:Int))=hh.k from rfl];simpa using this,hn⟩
theorem Ud {w:World}{X:Ev}{ms cur:List Dm}{q:List D×Nat} (hch:check (xu (av ms 0 0)) (ms.map Dm.d)= .ok q) (hd:∀ d ∈ ms.map Dm.d,DOk d/\d.nok) (hq:cur.map Dm.d=q.1) (hgz:(cur.map Dm.g).map gz=((av ms 0 0).map Dm.g).map gz) (hfit:∀ m ∈ cur,m.Fit)
  (h:(all ((cur.map Dm.g).map hdA)).at_ w) (hX:∀ W,X.DA.at_ W->(all ((cur.map Dm.g).map hdA)).at_ W/\(all (cur.map rsA)).at_ W):Code X (Il cur) (total (ms.map Dm.d))/\FOk (Il cur) (total (ms.map Dm.d)) 1000000/\∃ n b,Il cur q.2=some (n,b):=by
 have L:=afm hch hd hq hgz h;obtain⟨hr,np,hmain, -⟩:=rx hch;have hcd:=vg (ms.map Dm.d) 0 0 hd;obtain⟨hlen,hco⟩:=ve _ _ _ _ hr
 have wd:∀ m ∈ cur,Wd (Il cur) (total (ms.map Dm.d)) m.d:=by
  intro m hm
  have:m.d ∈ q.1:=by rw[<- hq];exact List.mem_map.2 ⟨m,hm,rfl⟩
  obtain⟨j,hj⟩:=List.getElem?_of_mem this
  have hjl:j<(count (ms.map Dm.d) 0 0).length:=by rw[<- hlen];exact(List.getElem?_eq_some_iff.1 hj).1
  obtain⟨d',dup,hj',hc⟩:=hco j _ (List.getElem?_eq_getElem hjl);obtain rfl:=Option.some.inj (hj.symm.trans hj');have hcd':=hcd _ (List.getElem_mem hjl);refine abs L ?_ ?_ hc
  ·cases hd:(count (ms.map Dm.d) 0 0)[j] with
   | var=>rw[hd] at hcd';exact hcd'.1
   | fn=>rw[hd] at hcd';exact⟨hcd'.2.1,hcd'.2.2.1⟩
  ·cases hd:(count (ms.map Dm.d) 0 0)[j] with
   | var=>trivial
   | fn=>rw[hd] at hcd';exact hcd'.2.2.2
 have key:∀ k n b,Il cur k=some (n,b)->∃ (m:Dm) (hh:Fh),m ∈ cur/\m.g= .fn hh (n:Int)/\hh.k=k/\b=m.bd/\wf (Il cur) (total (ms.map Dm.d)) n b 2/\b.sz≤1000000/\n≤24:=by
  intro k n b hk;obtain⟨m,hh,sl,hm,hg,e1,e2,e3⟩:=acv hk;have hw:=wd m hm;unfold Dm.d at hw;rw[hg] at hw;obtain⟨n',e4,w1,w2,w3,w4⟩:=hw
  have e5:n=n':=by omega
  subst e5;subst e4;subst e3;exact⟨m,hh,hm,hg,e1,rfl,w1,w2,w4⟩
 refine⟨⟨λ k n b hk=>?_,λ k n b hk=>?_,?_⟩,λ k n b hk=>?_,?_⟩
 ·obtain⟨m,hh,hm,hg,e1,e3, -⟩:=key k n b hk;have hf:=hfit m hm;unfold Dm.Fit at hf;rw[hg] at hf;obtain⟨i,hi⟩:=List.getElem?_of_mem hm;refine⟨hh.kb,hh.t,hh.nm,.slice hh.p hh.np hh.c,hh.no,?_,λ W hW=>?_⟩
  ·rw[e3];refine aez _ _ _ hf.2 λ W hW=>?_;have h1:(rsA m).at_ W:=Sep.here.nth i (hX W hW).2 (by rw[List.getElem?_map,hi];rfl);unfold rsA at h1;rw[hg] at h1;exact at1 h1
  ·have h1:(hdA m.g).at_ W:=Sep.here.nth i (hX W hW).1 (by rw[List.getElem?_map,List.getElem?_map,hi];rfl);rw[hg] at h1;rw[<- e1];exact h1
 ·obtain⟨m,hh,hm,hg,e1,e3,w1,w2,w4⟩:=key k n b hk;exact⟨w1,w4⟩
 ·have:=pa _ (ms.map Dm.d) q.1 0 0 0 hr (by omega);omega
 ·obtain⟨m,hh,hm,hg,e1,e3,w1,w2,w4⟩:=key k n b hk;exact⟨w1,w2,w4⟩
 ·obtain⟨n,b,hF, -⟩:=L.f _ _ _ hmain;exact⟨n,b,hF⟩
end Go.Proofs.YtojogkljneonmaaGreatDoor
