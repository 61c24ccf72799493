/- The reference's checker: statements. No condition. -/
import Derived.Test.YtojogkljneonmaaGreatDoorLangTc
import Derived.Test.YtojogkljneonmaaGreatDoorLangZd
import Derived.Test.YtojogkljneonmaaGreatDoorLangVh
import Derived.Test.YtojogkljneonmaaGreatDoorLangMs
set_option linter.unusedVariables false
set_option linter.unusedSimpArgs false
namespace Go.Proofs.YtojogkljneonmaaGreatDoor
open Go Go.Proofs.Tryz Go.Proofs Go.Sep Go.XHeap Go.RowKit Go.Lang
variable {W w0 w:World}{M:Nat->Prop}{L:List Asn}{K:Kx}{S:Ck}
def CKr (K:Kx) (S:Ck) (W:World) (r:C (List ByteArray×Nat)) (w':World):Prop:=match r with
 | .ok q=>∃ p c,Post (ckA K S) W (ckA K { S with Ls:=q.1,p:=p,c:=c,n:=(q.2:Nat) }) w'
 | .err line en=>en≠0/\∃ S':Ck,S'.line=line/\S'.err=en/\S.Ls.length≤S'.Ls.length/\Post (ckA K S) W (ckA K S') w'
theorem Fz [Inhabited G3o]{φ:World->Prop}{n0:Nat} (H:St w0 M w (ckA K S::L)) (hle:n0≤S.Ls.length) (hq:∀ w',St w0 M w' (ckA K { S with Ls:=S.Ls.take n0 }::L)->φ w') :
  ∃ (p4:Option Addr) (k10 k11:Nat),w.cell? ⟨K.c,0+1,none⟩=some (.slice p4 k10 k11)/\((0:Int)≤((n0:Nat):Int)/\((n0:Nat):Int)≤(k11:Int))/\(∃ v,w.cell? ⟨K.c,0+1,none⟩=some v)/\w.frozen? ⟨K.c,0+1,none⟩=false/\∀ w',w'=w.setCell ⟨K.c,0+1,none⟩ (.slice p4 (((n0:Nat):Int)).toNat k11)->φ w':=by
 have H2:=St.open_ (L:=ckL K S) H;have hsl:Sl w 9 1 (.slice S.p S.Ls.length S.c) S.Ls.length (nx S.Ls):=H2.nth 1 rfl
 have hc:n0≤S.c:=by
  rcases hsl.2 with ⟨h,h0⟩ | ⟨g,off,cap,cur,hv,hb,h1,h2,h3,h4⟩
  ·omega
  ·simp at hv;omega
 refine⟨_,_,_,H2.ld 0 rfl (i:=1) rfl,⟨by omega,by omega⟩,?_⟩;refine H2.st 0 rfl (i:=1) (by simp) λ w' H3=>hq w' ?_;rw[Int.toNat_natCast] at H3
 have h1:(S.Ls.take n0).length=n0:=by rw[List.length_take];omega
 have H4:=H3.conv 1 rfl (A':=sl 9 1 (.slice S.p n0 S.c) n0 (nx (S.Ls.take n0))) (λ h=>by
  have:=Sl.pre h hle;rw[Nat.mul_one] at this;rw[show nx (S.Ls.take n0)=(nx S.Ls).take n0 by simp [nx,List.map_take]]
  exact this) (λ q hq=>Kt hq)
 refine St.shut (L:=ckL K { S with Ls:=S.Ls.take n0 }) ?_;unfold ckL;rw[h1];exact H4
theorem adh [Inhabited G3o]{S:Ck} (h0:S.err=0) (g:Gf) (Ls:List ByteArray) (k s:ByteArray) (ln v:Int) (ks r:Fo) (ns:List ByteArray) :
  (S.aft (eu g Ls 0 (.cons k s ln v ks ns r))).aft (if 8<ca (ay k s) ks 0+1 then .err ln 4 else .ok ())=S.aft (eu g Ls 1 (.cons k s ln v ks ns r)):=by
 have g1:Jd ((gu g Ls k s ln ks.len).bind λ _=>bx g Ls ks):=ji (kq _ _ _ _ _ _) λ _=>ja _ _ _
 have e0:eu g Ls 0 (.cons k s ln v ks ns r)=((gu g Ls k s ln ks.len).bind λ _=>bx g Ls ks).bind λ _=>if 8<ca (ay k s) ks 0+0 then .err ln 4 else .ok ():=by rw[C.bind_assoc];rfl
 have e1:eu g Ls 1 (.cons k s ln v ks ns r)=((gu g Ls k s ln ks.len).bind λ _=>bx g Ls ks).bind λ _=>if 8<ca (ay k s) ks 0+1 then .err ln 4 else .ok ():=by rw[C.bind_assoc];rfl
 rw[e0,e1,<- pm g1,<- pm g1];generalize S.aft ((gu g Ls k s ln ks.len).bind λ _=>bx g Ls ks)=S1;by_cases h8:8<ca (ay k s) ks 0+0
 ·rw[if_pos h8,if_pos (by omega)];by_cases h1:S1.err=0
  ·have e:S1.aft (.err ln 4)={ S1 with line:=ln,err:=4 }:=by unfold Ck.aft;rw[if_pos h1]
   rw[e];exact ey (show(4:Int)≠0 by decide) _
  ·rw[ey h1,ey h1]
 ·rw[if_neg h8,jh]
theorem Nr [Inhabited G3o]{g:Gf}{ln:Int}{nm:ByteArray}{p:Option Addr}{c n:Nat} (h0:S.err=0) (hn:S.n=(n:Nat)):match tg g S.Ls n ln nm with
  | .ok q=>S.dcl g ln nm p c={ S with Ls:=q.1,p:=p,c:=c,n:=(q.2:Nat) }
  | .err l e=>e≠0/\(S.dcl g ln nm p c).line=l/\(S.dcl g ln nm p c).err=e/\(S.dcl g ln nm p c).Ls=S.Ls++[nm]:=by
 unfold tg Ck.dcl;by_cases h1:((g nm).isSome||jy S.Ls nm)=true
 ·rw[if_pos h1,if_pos h1]
  have e:S.aft (.err ln 9)={ S with line:=ln,err:=9 }:=by unfold Ck.aft;rw[if_pos h0]
  rw[e,ey (by show(9:Int)≠0;decide)];exact⟨by decide,rfl,rfl,rfl⟩
 ·rw[if_neg h1,if_neg h1,jh];by_cases h2:24<n+1
  ·rw[if_pos h2,if_pos (by omega)];unfold Ck.aft;rw[if_pos h0];exact⟨by decide,rfl,rfl,rfl⟩
  ·rw[if_neg h2,if_neg (by omega),jh];show _=({ S with Ls:=S.Ls++[nm],p:=p,c:=c,n:=((n+1:Nat):Int) }:Ck);rw[hn];congr 1
theorem Yt [Inhabited G3o]{g:Gf}{ln:Int}{nm:ByteArray}{p:Option Addr}{c:Nat} (h0:S.err≠0):(S.dcl g ln nm p c).line=S.line/\(S.dcl g ln nm p c).err=S.err/\(S.dcl g ln nm p c).Ls=S.Ls++[nm]:=by
 unfold Ck.dcl;rw[ey h0,ey (by exact h0)];exact⟨rfl,rfl,rfl⟩
theorem Ns {S1 S:Ck}{n1:Int} (h1:S1.err=0) (h2:S.err=0) (h3:S1.n=n1) (h4:S1.line=S.line):S1={ S with Ls:=S1.Ls,p:=S1.p,c:=S1.c,n:=n1 }:=by
 cases S1;cases S;simp_all
def stI (K:Kx) (S:Ck) (W:World) (ks:Fo) (us:List Value) (full:C (List ByteArray×Nat)) (B:Asn) (x:Int) (w:World):Prop :=
 ∃ j:Nat,x=(j:Nat)/\j≤ks.len /\
  ((∃ (r:Fo) (ws:List Value) (S1:Ck) (n1:Nat),Suf K.DA ks us j r ws/\r.sz≤ks.sz/\fok r/\S1.err=0/\S1.n=(n1:Nat)/\(∃ ex,S1.Ls=S.Ls++ex)/\S1.Ls.length≤n1/\n1≤24/\S1.line=S.line/\full=gw (aj K.F) r S1.Ls n1/\St W (ckA K S).own w [ckA K S1,B]) ∨
   (∃ (S1:Ck) (line en:Int),full= .err line en/\S1.line=line/\S1.err=en/\en≠0/\S.Ls.length≤S1.Ls.length/\St W (ckA K S).own w [ckA K S1,B]))
set_option maxHeartbeats 2000000 in
theorem Pv [Inhabited G3o]:∀ (N:Nat) (ks:Fo),ks.sz<N->ks.sz≤1000000->∀ {W:World}{K:Kx}{S:Ck}{k s:ByteArray}{ln v:Int}{q q2:Option Addr}{c m2 c2 n:Nat}{us:List Value},KOk K->S.err=0->S.n=(n:Nat)->S.Ls.length≤n->n≤24 ->
  (k≠bh->ks≠ .nil/\(k=ly->ks.tl≠ .nil))->(k=bh->fok ks)->(k=cIf∨k=dx->fok ks.tl)->isV K.DA ks us->(∀ w,K.DA.at_ w->Sl w 52 6 (.slice q ks.len c) ks.len us)->(ckA K S).at_ W ->
  Calls prog 17 #[pt K.c,.agg (ae k s ln v (.slice q ks.len c) (.slice q2 m2 c2)).toArray] W λ e w'=>e= .returned (.tuple #[])/\CKr K S W (xp (aj K.F) k s ln ks S.Ls n) w':=by
 intro N
 induction N with
 | zero=>intro ks hN;omega
 | succ N ih =>
  intro ks hN hsz W K S k s ln v q q2 c m2 c2 n us hK hE hSn hLn hn24 hwf1 hwf2 hwf3 hV hsl h;refine amx K.c 0 _ ?_;refine(St.begin h).al λ k1 w2 H2=>?_;have H2:St W (ckA K S).own w2 [ckA K S,blk k1 (ae k s ln v (.slice q ks.len c) (.slice q2 m2 c2)).toArray 52]:=H2;refine⟨λ w=>k≠bh/\St W (ckA K S).own w [ckA K (S.aft (Qg (aj K.F) S.Ls k s ln)),blk k1 (ae k s ln v (.slice q ks.len c) (.slice q2 m2 c2)).toArray 52],?_,?_⟩
  ·refine⟨_,H2.ld 1 rfl (i:=0) rfl,?_⟩
   try dsimp only
   rw[ab,ab,ab];refine Sx.so (λ h6=>?_) (λ h6=>?_)
   ·have h6:k=bh:=dt h6
    have hfo:xp (aj K.F) k s ln ks S.Ls n=(gw (aj K.F) ks S.Ls n).bind λ p=>.ok (S.Ls,p.2):=by unfold xp;rw[if_pos h6]
    rw[hfo];refine⟨_,_,_,(St.open_ (L:=ckL K S) H2).ld 0 rfl (i:=1) rfl,?_⟩;refine⟨λ x w=>stI K S W ks us (gw (aj K.F) ks S.Ls n) (blk k1 (ae k s ln v (.slice q ks.len c) (.slice q2 m2 c2)).toArray 52) x w,λ x _=>ks.len - x.toNat,⟨0,rfl,Nat.zero_le _,.inl ⟨ks,us,S,n,Suf.start hV,Nat.le_refl _,hwf2 h6,hE,hSn,⟨[],by simp⟩,hLn,hn24,rfl,rfl,H2⟩⟩,?_⟩;rintro _ x w4 ⟨j,rfl,hj,⟨r,ws,S1,n1,hSuf,hrsz,hfk,hE1,hN1,⟨ex,hex⟩,hl1,hl2,hln,hfull,H4⟩ | ⟨S1,line,en,hfull,hSl,hSe,hen,hle,H4⟩⟩
    ·have hDA:K.DA.at_ w4:=(St.open_ (L:=ckL K S1) H4).nth 2 rfl;have hlen:=Fo.len_le ks;refine⟨_,_,_,H4.ld 1 rfl (i:=4) rfl,?_⟩
     cases r with
     | nil =>
      obtain⟨-,pre, -, -,hl⟩:=hSuf;simp only[Fo.len] at hl;refine Sx.so (λ h1=>by have:=dt h1;omega) (λ _=>?_);rw[lg] at hfull;refine Fz (n0:=S.Ls.length) H4 (by rw[hex,List.length_append];omega) λ w6 H6=>⟨rfl,?_⟩;rw[hfull];refine⟨S1.p,S1.c,?_⟩
      have e1:S1.Ls.take S.Ls.length=S.Ls:=by rw[hex];simp
      rw[e1] at H6;have e2:({ S1 with Ls:=S.Ls }:Ck)={ S with Ls:=S.Ls,p:=S1.p,c:=S1.c,n:=(n1:Nat) }:=Ns (S1:={ S1 with Ls:=S.Ls }) hE1 hE hN1 hln;rw[e2] at H6;exact H6.post 0 rfl
     | cons k2 s2 ln2 v2 kids ns rest =>
      obtain⟨q3,c3,us1,q4,c4,ws',h1,h3,hj2,h4,h5,hat⟩:=hSuf.next
      simp only[Fo.sz] at hrsz;refine Sx.so (λ _=>?_) (λ h1=>by have:=df h1;omega);refine pr H4 (Sx.so (λ _=>?_) (λ h0=>absurd hE1 (beq_eq_false_iff_ne.1 h0)));refine⟨_,_,_,H4.ld 1 rfl (i:=4) rfl,⟨by omega,by omega⟩,?_⟩;refine hat (hsl _ hDA) λ g o hc=>?_;rw[Int.toNat_natCast];refine⟨_,rfl,hc,?_⟩;rw[fok] at hfk;refine(ih kids (by omega) (by omega) hK hE1 hN1 hl1 hl2 hfk.1 hfk.2.1 hfk.2.2.1 h1 h4 (H4.nth 0 rfl)).mono ?_;rintro e w5 ⟨rfl,hp⟩;refine⟨rfl,?_⟩;rintro z rfl;rw[Jf (by omega)];rw[gl] at hfull
      cases hfo:xp (aj K.F) k2 s2 ln2 kids S1.Ls n1 with
      | err line en =>
       rw[hfo] at hp hfull;obtain⟨hen,S',a1,a2,a3,hp⟩:=hp;refine⟨⟨j+1,rfl,by omega,.inr ⟨S',line,en,hfull,a1,a2,hen,?_,H4.upd 0 rfl hp⟩⟩,by show ks.len - ((j+1:Nat):Int).toNat<ks.len - ((j:Nat):Int).toNat;omega⟩;rw[hex,List.length_append] at a3;omega
      | ok p =>
       rw[hfo] at hp hfull;obtain⟨p',c',hp⟩:=hp;have hpre:=wb (aj K.F) (Fo.sz (.cons k2 s2 ln2 v2 kids ns .nil)+1) (.cons k2 s2 ln2 v2 kids ns .nil) (by omega) S1.Ls p.1 n1 p.2 (by rw[gl,hfo];show gw _ .nil p.1 p.2=_;rw[lg]) hl1 hl2;obtain⟨⟨ex2,hex2⟩,b1,b2⟩:=hpre;refine⟨⟨j+1,rfl,by omega,.inl ⟨rest,ws',{ S1 with Ls:=p.1,p:=p',c:=c',n:=(p.2:Nat) },p.2,h3,by omega,hfk.2.2.2,hE1,rfl,⟨ex++ex2,by show p.1=_;rw[hex2,hex,List.append_assoc]⟩,b1,b2,hln,hfull,H4.upd 0 rfl hp⟩⟩,by show ks.len - ((j+1:Nat):Int).toNat<ks.len - ((j:Nat):Int).toNat;omega⟩
    ·refine⟨_,_,_,H4.ld 1 rfl (i:=4) rfl,?_⟩;refine Sx.so (λ _=>?_) (λ _=>?_)
     ·refine pr H4 (Sx.so (λ h0=>absurd (hSe.symm.trans (beq_iff_eq.1 h0)) hen) (λ _=>?_));refine Fz (n0:=S.Ls.length) H4 hle λ w6 H6=>⟨rfl,?_⟩;rw[hfull];exact⟨hen,{ S1 with Ls:=S1.Ls.take S.Ls.length },hSl,hSe,by show _≤(S1.Ls.take S.Ls.length).length;rw[List.length_take];omega,H6.post 0 rfl⟩
     ·refine Fz (n0:=S.Ls.length) H4 hle λ w6 H6=>⟨rfl,?_⟩;rw[hfull];exact⟨hen,{ S1 with Ls:=S1.Ls.take S.Ls.length },hSl,hSe,by show _≤(S1.Ls.take S.Ls.length).length;rw[List.length_take];omega,H6.post 0 rfl⟩
   have h6:¬ k=bh:=df h6;refine Sx.so (λ h7=>?_) (λ h7=>?_)
   ·have h7:k=xo:=dt h7
    have hf:Qg (aj K.F) S.Ls k s ln=fsc (aj K.F) S.Ls s ln:=by unfold Qg;rw[if_pos h7]
    refine⟨_,rfl,H2.cells 1 rfl,?_⟩;refine(Az hK (by omega) (H2.nth 0 rfl)).mono ?_;rintro e w3 ⟨rfl,hp⟩;rw[hf];exact⟨rfl,h6,H2.upd 0 rfl hp⟩
   have h7:¬ k=xo:=df h7;refine Sx.so (λ h8=>?_) (λ h8=>?_)
   ·have h8:k=ly:=dt h8
    have hf:Qg (aj K.F) S.Ls k s ln=Br (aj K.F) S.Ls s ln:=by unfold Qg;rw[if_neg h7,if_pos h8]
    refine⟨_,rfl,H2.cells 1 rfl,?_⟩;refine(Dl hK (by omega) (H2.nth 0 rfl)).mono ?_;rintro e w3 ⟨rfl,hp⟩;rw[hf];exact⟨rfl,h6,H2.upd 0 rfl hp⟩
   ·have h8:¬ k=ly:=df h8
    have hf:Qg (aj K.F) S.Ls k s ln= .ok ():=by unfold Qg;rw[if_neg h7,if_neg h8]
    rw[hf,jh];exact⟨h6,H2⟩
  ·rintro _ w3 ⟨hkb,H3⟩
   have hfo:xp (aj K.F) k s ln ks S.Ls n=(Qg (aj K.F) S.Ls k s ln).bind λ _=>(eu (aj K.F) S.Ls 0 ks).bind λ _ =>
     if k=lx then tg (aj K.F) S.Ls n ln s
     else if k=ly then (eu (aj K.F) S.Ls 1 ks.tl).bind λ _=>.ok (S.Ls,n)
     else if k=cIf∨k=dx then gw (aj K.F) ks.tl S.Ls n
     else .ok (S.Ls,n):=by unfold xp;rw[if_neg hkb]
   generalize xp (aj K.F) k s ln ks S.Ls n=R0 at *;rcases vj hE (Ur (aj K.F) S.Ls k s ln) with ⟨hpr,haf⟩ | ⟨l1,e1,hpr,he1,haf⟩
   rotate_left
   ·rw[haf] at H3;rw[hpr] at hfo;refine pr H3 (Sx.so (λ _=>⟨rfl,?_⟩) (λ h=>absurd (bne_eq_false_iff_eq.1 h) he1));rw[show R0= .err l1 e1 from hfo];exact⟨he1,{ S with line:=l1,err:=e1 },rfl,rfl,Nat.le_refl _,H3.post 0 rfl⟩
   rw[haf] at H3;rw[hpr] at hfo;refine pr H3 (Sx.so (λ h=>by rw[hE] at h;cases h) (λ _=>?_));obtain⟨hks,hput⟩:=hwf1 hkb
   cases ks with
   | nil=>exact absurd rfl hks
   | cons k2 s2 ln2 v2 kids ns rest =>
   obtain⟨q3,c3,us1,q4,c4,ws',h1,h3,hj2,h4,h5,hat⟩:=(Suf.start hV).next
   have hsz2:kids.sz+rest.sz+1≤1000000:=by simpa only[Fo.sz] using hsz
   have hDA:K.DA.at_ w3:=(St.open_ (L:=ckL K S) H3).nth 2 rfl;refine⟨_,_,_,H3.ld 1 rfl (i:=4) rfl,⟨by omega,by simp only[Fo.len];omega⟩,?_⟩;refine hat (hsl _ hDA) λ g o hc=>?_;refine⟨_,rfl,by rw[Nat.zero_mul] at hc;exact hc,?_⟩;refine(wn (rest:=rest) (ns:=ns) hK (by omega) (by omega) h1 h4 (H3.nth 0 rfl)).mono ?_;rintro e w4 ⟨rfl,hp⟩;have H4:=H3.upd 0 rfl hp;clear hp;refine⟨rfl,_,H4.ld 1 rfl (i:=0) rfl,?_⟩
   try dsimp only
   rw[ab,ab,ab,ab]
   have hfo:R0=(eu (aj K.F) S.Ls 0 (.cons k2 s2 ln2 v2 kids ns rest)).bind λ _ =>
     if k=lx then tg (aj K.F) S.Ls n ln s
     else if k=ly then (eu (aj K.F) S.Ls 1 rest).bind λ _=>.ok (S.Ls,n)
     else if k=cIf∨k=dx then gw (aj K.F) rest S.Ls n
     else .ok (S.Ls,n):=hfo
   rcases vj hE (Bb (aj K.F) S.Ls 0 (.cons k2 s2 ln2 v2 kids ns rest)) with ⟨hwh,haf2⟩ | ⟨l1,e1,hwh,he1,haf2⟩
   ·
    rw[haf2] at H4;rw[hwh] at hfo;have H4:St W (ckA K S).own w4 [ckA K S,blk k1 (ae k s ln v (.slice q (Fo.len (.cons k2 s2 ln2 v2 kids ns rest)) c) (.slice q2 m2 c2)).toArray 52]:=H4;refine Sx.so (λ h6=>?_) (λ h6=>?_)
    ·have h6:k=lx:=dt h6
     have hfo:R0=tg (aj K.F) S.Ls n ln s:=by rw[hfo];show ite _ _ _=_;rw[if_pos h6]
     refine⟨_,rfl,H4.cells 1 rfl,_,H4.ld 1 rfl (i:=1) rfl,?_⟩;refine(rf s hK (by omega) (by omega) (H4.nth 0 rfl)).mono ?_;rintro e w5 ⟨rfl,p',c',hp⟩;refine⟨rfl,rfl,?_⟩;have H5:=(H4.upd 0 rfl hp).post 0 rfl;have hd:=Nr (g:=aj K.F) (ln:=ln) (nm:=s) (p:=p') (c:=c') hE hSn;rw[hfo]
     cases hdd:tg (aj K.F) S.Ls n ln s with
     | ok qq =>
      rw[hdd] at hd;rw[hd] at H5;exact⟨p',c',H5⟩
     | err l e =>
      rw[hdd] at hd;obtain⟨a0,a1,a2,a3⟩:=hd;exact⟨a0,_,a1,a2,by rw[a3,List.length_append];omega,H5⟩
    have h6:¬ k=lx:=df h6;refine Sx.so (λ h7=>?_) (λ h7=>?_)
    ·have h7:k=ly:=dt h7
     have hfo:R0=(eu (aj K.F) S.Ls 1 rest).bind λ _=>.ok (S.Ls,n):=by rw[hfo];show ite _ _ _=_;rw[if_neg h6,if_pos h7]
     have hrest:rest≠ .nil:=hput h7
     cases rest with
     | nil=>exact absurd rfl hrest
     | cons k5 s5 ln5 v5 kids5 ns5 rest5 =>
     obtain⟨q6,c6,us6,q7,c7,ws6,g1,g3,gj2,g4,g5,gat⟩:=h3.next
     simp only[Fo.sz] at hsz2
     have hlen2:((1:Nat):Int)<((Fo.len (.cons k2 s2 ln2 v2 kids ns (.cons k5 s5 ln5 v5 kids5 ns5 rest5)):Nat):Int):=by simp only[Fo.len];omega
     refine⟨_,_,_,H4.ld 1 rfl (i:=4) rfl,⟨by omega,hlen2⟩,?_⟩;have hDA4:K.DA.at_ w4:=(St.open_ (L:=ckL K S) H4).nth 2 rfl;refine gat (hsl _ hDA4) λ g o hc=>?_;refine⟨_,rfl,by simpa using hc,?_⟩;refine H4.callq (Ba kids5.sz kids5 (Nat.le_refl _) (by omega) g1 g4 hDA4) λ w5 H5=>?_;refine⟨_,rfl,?_⟩;rintro z5 rfl;have hnl:=ut (ay k5 s5) kids5 0;refine⟨_,_,_,H5.ld 1 rfl (i:=4) rfl,⟨by omega,hlen2⟩,?_⟩;have hDA5:K.DA.at_ w5:=(St.open_ (L:=ckL K S) H5).nth 2 rfl;refine gat (hsl _ hDA5) λ g o hc=>?_;refine⟨_,rfl,by simpa using hc,?_⟩;refine(wn (rest:=rest5) (ns:=ns5) hK (by omega) (by omega) g1 g4 (H5.nth 0 rfl)).mono ?_;rintro e w6 ⟨rfl,hp⟩;have H6:=H5.upd 0 rfl hp;clear hp;rw[show IntKind.wrap .i64 (((ca (ay k5 s5) kids5 0:Nat):Int)+1)=((ca (ay k5 s5) kids5 0+1:Nat):Int) by rw[show((ca (ay k5 s5) kids5 0:Nat):Int)+1=((ca (ay k5 s5) kids5 0+1:Nat):Int) by omega];exact Go.Bits.n64 (by omega)];have hpa:=adh hE (aj K.F) S.Ls k5 s5 ln5 v5 kids5 rest5 ns5
     have fin:∀ {w:World} {L:List Asn},St W (ckA K S).own w (ckA K (S.aft (eu (aj K.F) S.Ls 1 (.cons k5 s5 ln5 v5 kids5 ns5 rest5)))::L)->CKr K S W R0 w:=by
      intro w L H;rcases vj hE (Bb (aj K.F) S.Ls 1 (.cons k5 s5 ln5 v5 kids5 ns5 rest5)) with ⟨a1,a2⟩ | ⟨l1,e1,a1,he1,a2⟩
      ·rw[a2] at H;rw[hfo,a1];refine⟨S.p,S.c,?_⟩;have e2:S={ S with Ls:=S.Ls,p:=S.p,c:=S.c,n:=(n:Nat) }:=Ns hE hE hSn rfl;have H7:=H.post 0 rfl;rw[e2] at H7;exact H7
      ·rw[a2] at H;rw[hfo,a1];exact⟨he1,{ S with line:=l1,err:=e1 },rfl,rfl,Nat.le_refl _,H.post 0 rfl⟩
     refine⟨rfl,Sx.so (λ h8=>?_) (λ h8=>?_)⟩
     ·have h8:8<ca (ay k5 s5) kids5 0+1:=by have:=dt h8;omega
      rw[if_pos h8] at hpa;refine⟨_,_,_,H6.ld 1 rfl (i:=4) rfl,⟨by omega,hlen2⟩,?_⟩;have hDA6:K.DA.at_ w6:=(St.open_ (L:=ckL K _) H6).nth 2 rfl;refine gat (hsl _ hDA6) λ g o hc=>?_;refine⟨_,rfl,by simpa using hc,?_⟩;refine(nz (H6.nth 0 rfl)).mono ?_;rintro en w7 ⟨rfl,hp⟩;have H7:=H6.upd 0 rfl hp;rw[hpa] at H7;exact⟨rfl,rfl,fin (L:=[_]) H7⟩
     ·have h8:¬ 8<ca (ay k5 s5) kids5 0+1:=by have:=df h8;omega
      rw[if_neg h8,jh] at hpa;rw[hpa] at H6;exact⟨rfl,fin (L:=[_]) H6⟩
    have h7:¬ k=ly:=df h7;refine⟨λ t w=>t=decide (k=cIf∨k=dx)/\St W (ckA K S).own w [ckA K S,blk k1 (ae k s ln v (.slice q (Fo.len (.cons k2 s2 ln2 v2 kids ns rest)) c) (.slice q2 m2 c2)).toArray 52],?_,?_⟩
    ·refine Sx.so (λ h8=>?_) (λ h8=>?_)
     ·have h8:k=cIf:=dt h8;exact⟨by rw[decide_eq_true (.inl h8)],H4⟩
     ·have h8:¬ k=cIf:=df h8;refine⟨?_,H4⟩;by_cases h9:k=dx
      ·rw[decide_eq_true (show k=⟨#[119,104,105,108,101]⟩ from h9),decide_eq_true (.inr h9)]
      ·rw[decide_eq_false (show ¬ k=⟨#[119,104,105,108,101]⟩ from h9),decide_eq_false (λ e=>e.elim h8 h9)]
    ·rintro _ t w5 ⟨rfl,H5⟩;refine Sx.so (λ h8=>?_) (λ h8=>?_)
     ·have h8:k=cIf∨k=dx:=dt h8
      have hfoR:R0=gw (aj K.F) rest S.Ls n:=by rw[hfo];show ite _ _ _=_;rw[if_neg h6,if_neg h7,if_pos h8]
      generalize hks2:Fo.cons k2 s2 ln2 v2 kids ns rest=ks at *
      have hrz:rest.sz≤ks.sz:=by rw[<- hks2];simp only[Fo.sz];omega
      have hfk0:fok rest:=by have:=hwf3 h8;rw[<- hks2] at this;exact this
      refine⟨λ x w=>stI K S W ks us R0 (blk k1 (ae k s ln v (.slice q ks.len c) (.slice q2 m2 c2)).toArray 52) x w,λ x _=>ks.len - x.toNat,⟨1,rfl,by omega,.inl ⟨rest,ws',S,n,h3,hrz,hfk0,hE,hSn,⟨[],by simp⟩,hLn,hn24,rfl,hfoR,H5⟩⟩,?_⟩;clear hfo hfoR;rintro _ x w4 ⟨j,rfl,hj,⟨r,ws,S1,n1,hSuf,hrsz,hfk,hE1,hN1,⟨ex,hex⟩,hl1,hl2,hln,hfull,H4⟩ | ⟨S1,line,en,hfull,hSl,hSe,hen,hle,H4⟩⟩
      ·have hDA:K.DA.at_ w4:=(St.open_ (L:=ckL K S1) H4).nth 2 rfl;have hlen:=Fo.len_le ks;refine⟨_,_,_,H4.ld 1 rfl (i:=4) rfl,?_⟩
       cases r with
       | nil =>
        obtain⟨-,pre, -, -,hl⟩:=hSuf;simp only[Fo.len] at hl;refine Sx.so (λ h1=>by have:=dt h1;omega) (λ _=>?_);rw[lg] at hfull;refine⟨rfl,?_⟩;rw[hfull];refine⟨S1.p,S1.c,?_⟩;have e2:S1={ S with Ls:=S1.Ls,p:=S1.p,c:=S1.c,n:=(n1:Nat) }:=Ns hE1 hE hN1 hln;have H6:=H4.post 0 rfl;rw[e2] at H6;exact H6
       | cons k2 s2 ln2 v2 kids ns rest =>
        obtain⟨q3,c3,us1,q4,c4,ws',h1,h3,hj2,h4,h5,hat⟩:=hSuf.next
        simp only[Fo.sz] at hrsz;refine Sx.so (λ _=>?_) (λ h1=>by have:=df h1;omega);refine pr H4 (Sx.so (λ _=>?_) (λ h0=>absurd hE1 (beq_eq_false_iff_ne.1 h0)));refine⟨_,_,_,H4.ld 1 rfl (i:=4) rfl,⟨by omega,by omega⟩,?_⟩;refine hat (hsl _ hDA) λ g o hc=>?_;rw[Int.toNat_natCast];refine⟨_,rfl,hc,?_⟩;rw[fok] at hfk;refine(ih kids (by omega) (by omega) hK hE1 hN1 hl1 hl2 hfk.1 hfk.2.1 hfk.2.2.1 h1 h4 (H4.nth 0 rfl)).mono ?_;rintro e w5 ⟨rfl,hp⟩;refine⟨rfl,?_⟩;rintro z rfl;rw[Jf (by omega)];rw[gl] at hfull
        cases hfo:xp (aj K.F) k2 s2 ln2 kids S1.Ls n1 with
        | err line en =>
         rw[hfo] at hp hfull;obtain⟨hen,S',a1,a2,a3,hp⟩:=hp;refine⟨⟨j+1,rfl,by omega,.inr ⟨S',line,en,hfull,a1,a2,hen,?_,H4.upd 0 rfl hp⟩⟩,by show ks.len - ((j+1:Nat):Int).toNat<ks.len - ((j:Nat):Int).toNat;omega⟩;rw[hex,List.length_append] at a3;omega
        | ok p =>
         rw[hfo] at hp hfull;obtain⟨p',c',hp⟩:=hp;have hpre:=wb (aj K.F) (Fo.sz (.cons k2 s2 ln2 v2 kids ns .nil)+1) (.cons k2 s2 ln2 v2 kids ns .nil) (by omega) S1.Ls p.1 n1 p.2 (by rw[gl,hfo];show gw _ .nil p.1 p.2=_;rw[lg]) hl1 hl2;obtain⟨⟨ex2,hex2⟩,b1,b2⟩:=hpre;refine⟨⟨j+1,rfl,by omega,.inl ⟨rest,ws',{ S1 with Ls:=p.1,p:=p',c:=c',n:=(p.2:Nat) },p.2,h3,by omega,hfk.2.2.2,hE1,rfl,⟨ex++ex2,by show p.1=_;rw[hex2,hex,List.append_assoc]⟩,b1,b2,hln,hfull,H4.upd 0 rfl hp⟩⟩,by show ks.len - ((j+1:Nat):Int).toNat<ks.len - ((j:Nat):Int).toNat;omega⟩
      ·refine⟨_,_,_,H4.ld 1 rfl (i:=4) rfl,?_⟩;refine Sx.so (λ _=>?_) (λ _=>?_)
       ·refine pr H4 (Sx.so (λ h0=>absurd (hSe.symm.trans (beq_iff_eq.1 h0)) hen) (λ _=>⟨rfl,?_⟩));rw[hfull];exact⟨hen,_,hSl,hSe,hle,H4.post 0 rfl⟩
       ·refine⟨rfl,?_⟩;rw[hfull];exact⟨hen,_,hSl,hSe,hle,H4.post 0 rfl⟩
     ·have h8:¬ (k=cIf∨k=dx):=df h8
      have hfo:R0= .ok (S.Ls,n):=by rw[hfo];show ite _ _ _=_;rw[if_neg h6,if_neg h7,if_neg h8]
      refine⟨rfl,?_⟩;rw[hfo];refine⟨S.p,S.c,?_⟩;have e2:S={ S with Ls:=S.Ls,p:=S.p,c:=S.c,n:=(n:Nat) }:=Ns hE hE hSn rfl;have H7:=H5.post 0 rfl;rw[e2] at H7;exact H7
   ·
    rw[haf2] at H4;rw[hwh] at hfo;have hfo:R0= .err l1 e1:=hfo;generalize hS1:({ S with line:=l1,err:=e1 }:Ck)=S1 at *
    have b1:S1.line=l1:=by rw[<- hS1]
    have b2:S1.err=e1:=by rw[<- hS1]
    have b3:S1.Ls=S.Ls:=by rw[<- hS1]
    have b4:S1.n=S.n:=by rw[<- hS1]
    have b5:S1.err≠0:=by rw[b2];exact he1
    have H4:St W (ckA K S).own w4 [ckA K S1,blk k1 (ae k s ln v (.slice q (Fo.len (.cons k2 s2 ln2 v2 kids ns rest)) c) (.slice q2 m2 c2)).toArray 52]:=H4
    have fin:∀ {w:World} {L:List Asn},St W (ckA K S).own w (ckA K S1::L)->CKr K S W R0 w:=by
     intro w L H;rw[hfo];exact⟨he1,_,b1,b2,by rw[b3];omega,H.post 0 rfl⟩
    refine Sx.so (λ h6=>?_) (λ h6=>?_)
    ·refine⟨_,rfl,H4.cells 1 rfl,_,H4.ld 1 rfl (i:=1) rfl,?_⟩;refine(rf s hK (by rw[b3];omega) (by rw[b4];omega) (H4.nth 0 rfl)).mono ?_;rintro e w5 ⟨rfl,p',c',hp⟩;refine⟨rfl,rfl,?_⟩;have H5:=(H4.upd 0 rfl hp).post 0 rfl;obtain⟨a1,a2,a3⟩:=Yt (g:=aj K.F) (ln:=ln) (nm:=s) (p:=p') (c:=c') b5;rw[hfo];exact⟨he1,_,a1.trans b1,a2.trans b2,by rw[a3,b3,List.length_append];omega,H5⟩
    have h6:¬ k=lx:=df h6;refine Sx.so (λ h7=>?_) (λ h7=>?_)
    ·have h7:k=ly:=dt h7;have hrest:rest≠ .nil:=hput h7
     cases rest with
     | nil=>exact absurd rfl hrest
     | cons k5 s5 ln5 v5 kids5 ns5 rest5 =>
     obtain⟨q6,c6,us6,q7,c7,ws6,g1,g3,gj2,g4,g5,gat⟩:=h3.next
     simp only[Fo.sz] at hsz2
     have hlen2:((1:Nat):Int)<((Fo.len (.cons k2 s2 ln2 v2 kids ns (.cons k5 s5 ln5 v5 kids5 ns5 rest5)):Nat):Int):=by simp only[Fo.len];omega
     refine⟨_,_,_,H4.ld 1 rfl (i:=4) rfl,⟨by omega,hlen2⟩,?_⟩;have hDA4:K.DA.at_ w4:=(St.open_ (L:=ckL K S1) H4).nth 2 rfl;refine gat (hsl _ hDA4) λ g o hc=>?_;refine⟨_,rfl,by simpa using hc,?_⟩;refine H4.callq (Ba kids5.sz kids5 (Nat.le_refl _) (by omega) g1 g4 hDA4) λ w5 H5=>?_;refine⟨_,rfl,?_⟩;rintro z5 rfl;refine⟨_,_,_,H5.ld 1 rfl (i:=4) rfl,⟨by omega,hlen2⟩,?_⟩;have hDA5:K.DA.at_ w5:=(St.open_ (L:=ckL K S1) H5).nth 2 rfl;refine gat (hsl _ hDA5) λ g o hc=>?_;refine⟨_,rfl,by simpa using hc,?_⟩;refine(wn (rest:=rest5) (ns:=ns5) hK (by rw[b3];omega) (by omega) g1 g4 (H5.nth 0 rfl)).mono ?_;rintro e w6 ⟨rfl,hp⟩;have H6:=H5.upd 0 rfl hp;rw[ey b5] at H6;refine⟨rfl,Sx.so (λ h8=>?_) (λ h8=>⟨rfl,fin (L:=[_]) H6⟩)⟩;refine⟨_,_,_,H6.ld 1 rfl (i:=4) rfl,⟨by omega,hlen2⟩,?_⟩;have hDA6:K.DA.at_ w6:=(St.open_ (L:=ckL K _) H6).nth 2 rfl;refine gat (hsl _ hDA6) λ g o hc=>?_;refine⟨_,rfl,by simpa using hc,?_⟩;refine(nz (H6.nth 0 rfl)).mono ?_;rintro en w7 ⟨rfl,hp⟩;have H7:=H6.upd 0 rfl hp;rw[ey b5] at H7;exact⟨rfl,rfl,fin (L:=[_]) H7⟩
    refine⟨λ t w=>St W (ckA K S).own w [ckA K S1,blk k1 (ae k s ln v (.slice q (Fo.len (.cons k2 s2 ln2 v2 kids ns rest)) c) (.slice q2 m2 c2)).toArray 52],Sx.so (λ _=>H4) (λ _=>H4),?_⟩;rintro _ t w5 H5;refine Sx.so (λ _=>?_) (λ _=>⟨rfl,fin (L:=[_]) H5⟩);refine⟨λ x w=>St W (ckA K S).own w [ckA K S1,blk k1 (ae k s ln v (.slice q (Fo.len (.cons k2 s2 ln2 v2 kids ns rest)) c) (.slice q2 m2 c2)).toArray 52],λ _ _=>0,H5,?_⟩;rintro _ x w6 H6;refine⟨_,_,_,H6.ld 1 rfl (i:=4) rfl,Sx.so (λ _=>?_) (λ _=>⟨rfl,fin (L:=[_]) H6⟩)⟩;exact pr H6 (Sx.so (λ h0=>absurd (beq_iff_eq.1 h0) b5) (λ _=>⟨rfl,fin (L:=[_]) H6⟩))
variable {W w0 w:World}{M:Nat->Prop}{L:List Asn}{K:Kx}{S:Ck}
theorem Ga {DA:Asn}{f:Fo}{us:List Value} (hV:isV DA f us):∀ j,j≤f.len->∃ ws,Suf DA f us j (f.drop j) ws:=by
 have key:∀ (j:Nat) (g:Fo) (vs:List Value),isV DA g vs->j≤g.len->∃ ws,isV DA (g.drop j) ws/\∃ pre,vs=pre++ws/\pre.length=j * 6/\j+(g.drop j).len=g.len:=by
  intro j
  induction j with
  | zero=>intro g vs h _;exact⟨vs,h,[],rfl,rfl,by show 0+g.len=g.len;omega⟩
  | succ j ih =>
   intro g vs h hj
   cases g with
   | nil=>simp only[Fo.len] at hj;omega
   | cons k s ln v ks ns r =>
    obtain⟨q,c,us1,q2,c2,ws,h1,h2,rfl,h3,h4⟩:=h;simp only[Fo.len] at hj;obtain⟨ws2,a,pre,b,c',d⟩:=ih r ws h2 (by omega);refine⟨ws2,a,ae k s ln v (.slice q ks.len c) (.slice q2 ns.length c2)++pre,by rw[b,List.append_assoc],?_,?_⟩
    ·rw[List.length_append,c'];show 6+j * 6=_;omega
    ·show j+1+(r.drop j).len=r.len+1;omega
 intro j hj;obtain⟨ws,a,b⟩:=key j f us hV hj;exact⟨ws,a,b⟩
theorem wq [Inhabited G3o]{DA:Asn}{F:Fo}{us:List Value}{p:Option Addr}{c m:Nat} (hsl:Sl W 52 6 (.slice p F.len c) F.len us) (hV:isV DA F us) (hm:m≤F.len) (hF:F.len≤8001) (hd:dok F) (c':Nat) :
  Calls prog 15 #[.slice p m c'] W λ e w'=>e= .returned (.int .i64 ((fwn m F:Nat):Int))/\w'=W:=by
 refine amy p m c' ?_;refine⟨λ i n w=>w=W/\∃ j:Nat,i=(j:Nat)/\j≤m/\n=((fwn j F:Nat):Int),λ i _ _=>m - i.toNat,⟨rfl,0,rfl,Nat.zero_le _,rfl⟩,?_⟩;rintro _ i n w2 ⟨rfl,j,rfl,hj,rfl⟩;refine Sx.so (λ h1=>?_) (λ h1=>?_)
 ·have h1:j<m:=by have:=dt h1;omega
  obtain⟨ws,hS⟩:=Ga hV j (by omega);obtain⟨k,s,ln,v,ks,ns,r,e1,e2,e3,e4,e5⟩:=uu j F (by omega) hd;rw[e1] at hS;obtain⟨q,c3,us1,q2,c2,ws', -, -, -, -, -,hat⟩:=hS.next
  rw[dok] at e5;have hv:=e5.1;have hle:=Zy j F hd
  have fin:∀ z:Int,z=((fwn (j+1) F:Nat):Int)->∀ z6,z6=IntKind.wrap .i64 (((j:Nat):Int)+1)->(w2=w2/\∃ j':Nat,z6=(j':Nat)/\j'≤m/\z=((fwn j' F:Nat):Int))/\m - z6.toNat<m - ((j:Nat):Int).toNat:=by
   rintro z rfl z6 rfl;rw[qd (by omega)];exact⟨⟨rfl,j+1,rfl,by omega,rfl⟩,by rw[Int.toNat_natCast,Int.toNat_natCast];omega⟩
  have hw:IntKind.wrap .i64 v=v:=by
   rw[show v=((v.toNat:Nat):Int) by omega];exact Go.Bits.n64 (by omega)
  refine⟨⟨by omega,by omega⟩,hat hsl λ g o hc=>?_⟩;rw[Int.toNat_natCast];refine⟨k,hc 0 (.string k) rfl,?_⟩
  try dsimp only
  rw[ab];refine Sx.so (λ h2=>?_) (λ h2=>?_)
  ·have h2:k=mb:=dt h2;refine⟨⟨by omega,by omega⟩,hat hsl λ g2 o2 hc2=>⟨v,hc2 3 (.int .u32 v) rfl,Sx.so (λ h3=>?_) (λ h3=>?_)⟩⟩
   ·have h3:v=0:=beq_iff_eq.1 h3;rintro z2 rfl;rw[show IntKind.wrap .i64 (((fwn j F:Nat):Int)+1)=((fwn j F+1:Nat):Int) by rw[show((fwn j F:Nat):Int)+1=((fwn j F+1:Nat):Int) by omega];exact Go.Bits.n64 (by omega)];refine⟨⟨by omega,by omega⟩,hat hsl λ g3 o3 hc3=>⟨v,hc3 3 (.int .u32 v) rfl,?_⟩⟩;rintro z4 rfl z5 rfl;refine fin _ ?_;rw[hw,h3,e4,h2,h3];show IntKind.wrap .i64 (((fwn j F+1:Nat):Int)+0)=_;rw[Int.add_zero,Go.Bits.n64 (by omega)];rfl
   ·have h3:¬ v=0:=beq_eq_false_iff_ne.1 h3;refine⟨⟨by omega,by omega⟩,hat hsl λ g3 o3 hc3=>⟨v,hc3 3 (.int .u32 v) rfl,?_⟩⟩;rintro z4 rfl z5 rfl;refine fin _ ?_;rw[hw,e4,show wv k v=v.toNat by unfold wv;rw[if_pos h2,if_neg h3]];rw[show((fwn j F:Nat):Int)+v=((fwn j F+v.toNat:Nat):Int) by omega];exact Go.Bits.n64 (by omega)
  ·have h2:¬ k=mb:=df h2;refine⟨⟨by omega,by omega⟩,hat hsl λ g3 o3 hc3=>⟨v,hc3 3 (.int .u32 v) rfl,?_⟩⟩;rintro z4 rfl z5 rfl;refine fin _ ?_;rw[hw,e4,show wv k v=v.toNat by unfold wv;rw[if_neg h2]];rw[show((fwn j F:Nat):Int)+v=((fwn j F+v.toNat:Nat):Int) by omega];exact Go.Bits.n64 (by omega)
 ·have h1:j=m:=by have:=df h1;omega
  rw[h1];exact⟨rfl,rfl⟩
structure Xw where
 b:Nat
 dp:Option Addr
 dc:Nat
 pw:Option Addr
 cw:Nat
 ds:List D
 us:List Value
 DA:Asn
structure Ws where
 words:List UInt32
 out:List UInt8
 steps:Int
 room:Int
 fault:Int
 over:Bool
 locals:List (ByteArray×UInt32)
 value:UInt32
 back:Bool
structure Hw where
 p:Option Addr
 c:Nat
def Xw.F (X:Xw):Fo:=toD X.ds .nil
def loC (p:ByteArray×UInt32):List Value:=[.string p.1,vU p.2]
theorem Lu (p:ByteArray×UInt32):(loC p).length=2:=rfl
def wsC (X:Xw) (h:Hw) (S:Ws):Array Value:=#[.slice X.dp X.F.len X.dc,.slice X.pw S.words.length X.cw,.string (ofL S.out),.int .i64 S.steps,.int .i64 S.room,.int .i64 S.fault,.bool S.over,.slice h.p S.locals.length h.c,vU S.value,.bool S.back]
def wsL (X:Xw) (h:Hw) (S:Ws):List Asn:=[blk X.b (wsC X h S) 75,sl 32 1 (.slice X.pw S.words.length X.cw) S.words.length (S.words.map vU),sl 120 2 (.slice h.p S.locals.length h.c) S.locals.length (S.locals.flatMap loC),X.DA]
def wsA (X:Xw) (h:Hw) (S:Ws):Asn:=all (wsL X h S)
def XOk (X:Xw):Prop:=(∀ w,X.DA.at_ w->Sl w 52 6 (.slice X.dp X.F.len X.dc) X.F.len X.us)/\isV X.DA X.F X.us/\X.F.len≤8001/\dok X.F
def Ws.stop (S:Ws):Bool:=S.fault !=0||S.over
def liv (r:Rw):Ws:=⟨r.words,r.out,(r.steps:Nat),(r.room:Nat),0,false,r.locals,0,false⟩
variable {W w0 w:World}{M:Nat->Prop}{L:List Asn}{X:Xw}{h:Hw}{S:Ws}
theorem ax (H:St w0 M w (wsA X h S::L)):St w0 M w (wsL X h S++L):=St.open_ H
theorem Us (h0:(wsA X h S).at_ W):St W (wsA X h S).own W (wsL X h S++[]):=St.open_ (St.begin h0)
theorem fy [Inhabited G3o] (h0:(wsA X h S).at_ W):Calls prog 44 #[pt X.b] W λ e w'=>e= .returned (.bool S.stop)/\w'=W:=by
 have H:=Us h0;refine ajv X.b 0 ⟨_,H.ld 0 rfl (i:=5) rfl,?_⟩;unfold Ws.stop;refine Sx.so (λ h1=>?_) (λ h1=>⟨_,H.ld 0 rfl (i:=6) rfl,?_⟩)
 ·rw[h1];exact⟨rfl,rfl⟩
 ·rw[h1];exact⟨rfl,rfl⟩
def Ws.step (S:Ws):Ws×Bool:=if S.stop then (S,false) else if S.steps=0 then ({ S with over:=true },false) else ({ S with steps:=S.steps - 1 },true)
theorem Jg [Inhabited G3o] (hs:S.stop=false->0≤S.steps/\S.steps≤20000) (h0:(wsA X h S).at_ W):Calls prog 74 #[pt X.b] W λ e w'=>e= .returned (.bool S.step.2)/\Post (wsA X h S) W (wsA X h S.step.1) w':=by
 refine ajw X.b 0 ?_;refine(fy h0).mono ?_;rintro _ _ ⟨rfl,rfl⟩;have H:=Us h0;refine⟨_,rfl,Sx.so (λ h1=>?_) (λ h1=>?_)⟩
 ·unfold Ws.step;rw[if_pos h1];exact⟨rfl,(St.shut (L:=wsL X h S) (L':=[]) H).post 0 rfl⟩
 ·unfold Ws.step;rw[if_neg (by rw[h1];exact Bool.false_ne_true)];have hs:=hs h1;refine⟨_,H.ld 0 rfl (i:=3) rfl,Sx.so (λ h2=>?_) (λ h2=>?_)⟩
  ·have h2:S.steps=0:=beq_iff_eq.1 h2;rw[if_pos h2];refine H.st 0 rfl (i:=6) (by simp [wsC]) λ w2 H2=>⟨rfl,?_⟩;exact(St.shut (L:=wsL X h { S with over:=true }) (L':=[]) H2).post 0 rfl
  ·have h2:¬ S.steps=0:=beq_eq_false_iff_ne.1 h2;rw[if_neg h2];refine⟨_,H.ld 0 rfl (i:=3) rfl,?_⟩;rintro z rfl
   have e:IntKind.wrap .i64 (S.steps - 1)=S.steps - 1:=by
    rw[show S.steps - 1=(((S.steps - 1).toNat:Nat):Int) by omega];exact Go.Bits.n64 (by omega)
   rw[e];refine H.st 0 rfl (i:=3) (by simp [wsC]) λ w2 H2=>⟨rfl,?_⟩;exact(St.shut (L:=wsL X h { S with steps:=S.steps - 1 }) (L':=[]) H2).post 0 rfl
theorem Gb (d:D):∃ k ln v ks ns,(∀ r,toD (d::r) .nil= .cons k d.nm ln v ks ns (toD r .nil))/\(match d with
  | .var _ _ _ z=>k=mb/\v=z
  | .fn _ _ ps _ _ b=>k=da/\v=0/\ks=toF b .nil/\ns=ps):=by
 cases d with
 | var t nm w z=>exact⟨_,_,_,_,_,λ r=>rfl,rfl,rfl⟩
 | fn t nm ps s no b=>exact⟨_,_,_,_,_,λ r=>rfl,rfl,rfl,rfl,rfl⟩
theorem Jh (d:D) (r:List D) (s:ByteArray):sq (d::r) s=if d.nm=s then some d else sq r s:=by
 unfold sq;by_cases e:d.nm=s
 ·rw[if_pos e];exact ig e
 ·rw[if_neg e];exact ii e
theorem Ji [Inhabited G3o]{s:ByteArray}{d:D} (hX:XOk X) (hd:sq X.ds s=some d) (h0:(wsA X h S).at_ W):Calls prog 41 #[pt X.b,.string s] W λ e w'=>im W w'/\∃ vs,e= .returned (.agg vs.toArray)/\isV X.DA (toD [d] .nil) vs/\vs.length=6/\∀ v ∈ vs,v.oneCell'=true:=by
 refine ajx X.b 0 s ?_;refine(St.nil W).al λ k w2 H2=>?_;have h2:=fc h0 H2.touch;have H:=Us h2;refine⟨λ i w=>w=w2/\∃ (j:Nat) (r:List D) (ws:List Value),i=(j:Nat)/\Suf X.DA X.F X.us j (toD r .nil) ws/\sq X.ds s=sq r s,λ i _=>X.F.len - i.toNat,⟨rfl,0,X.ds,X.us,rfl,Suf.start hX.2.1,rfl⟩,?_⟩;rintro _ i w3 ⟨rfl,j,r,ws,rfl,hS,hg⟩;have hsl:=hX.1 w3 (H.nth 3 rfl);refine⟨_,_,_,H.ld 0 rfl (i:=0) rfl,?_⟩
 cases r with
 | nil=>rw[hd] at hg;cases hg
 | cons d' r =>
  obtain⟨k1,ln,v,ks,ns,e1, -⟩:=Gb d';rw[e1] at hS;obtain⟨q,c,us1,q2,c2,ws',h1,h3,hj,h4,h5,hat⟩:=hS.next
  refine Sx.so (λ _=>?_) (λ h1=>by have:=df h1;omega);refine⟨_,_,_,H.ld 0 rfl (i:=0) rfl,⟨by omega,by omega⟩,?_⟩;refine hat hsl λ g o hc=>?_;rw[Int.toNat_natCast];refine⟨d'.nm,hc 1 (.string d'.nm) rfl,aq (λ h6=>?_) (λ h6=>?_)⟩
  ·refine⟨_,_,_,H.ld 0 rfl (i:=0) rfl,⟨by omega,by omega⟩,?_⟩;refine hat hsl λ g2 o2 hc2=>?_;refine⟨_,rfl,hc2,?_⟩;refine ah H2 (k:=0) (us:=ae k1 d'.nm ln v (.slice q ks.len c) (.slice q2 ns.length c2)) rfl rfl rfl af λ w8 H8=>⟨H8.touch,?_⟩;rw[hd,Jh,if_pos h6] at hg;cases hg;refine⟨_,rfl,?_,rfl,af⟩;rw[e1];exact⟨q,c,us1,q2,c2,[],h1,rfl,by simp,h4,h5⟩
  ·rintro z rfl;have hz:=hX.2.2.1;rw[qd (by omega)];refine⟨⟨rfl,j+1,r,ws',rfl,h3,?_⟩,by show _ - ((j+1:Nat):Int).toNat<_ - ((j:Nat):Int).toNat;omega⟩;rw[hg,Jh,if_neg h6]
end Go.Proofs.YtojogkljneonmaaGreatDoor
