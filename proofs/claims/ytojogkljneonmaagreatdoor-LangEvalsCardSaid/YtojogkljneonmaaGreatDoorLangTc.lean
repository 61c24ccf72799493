/- The reference's checker: names, expressions. No condition. -/
import Derived.Test.YtojogkljneonmaaGreatDoorLangRy
set_option linter.unusedVariables false
set_option linter.unusedSimpArgs false
namespace Go.Proofs.YtojogkljneonmaaGreatDoor
open Go Go.Proofs.Tryz Go.Proofs Go.Sep Go.XHeap Go.RowKit Go.Lang
variable {W w0 w:World}{M:Nat->Prop}{L:List Asn}{K:Kx}{S:Ck}
theorem mu {α:Type} (x:α):Jd (C.ok x):=λ l e h=>by cases h
theorem dv {α:Type}{l e:Int} (h:e≠0):Jd (C.err l e:C α):=λ l' e' h'=>by cases h';exact h
theorem ji [Inhabited G3o]{α β:Type}{r:C α}{k:α->C β} (h:Jd r) (hk:∀ x,Jd (k x)):Jd (r.bind k):=by
 cases r with
 | ok x=>exact hk x
 | err l e=>exact dv (h l e rfl)
theorem Nq [Inhabited G3o] (g:Gf) (Ls:List ByteArray) (s:ByteArray) (ln:Int):Jd (fsc g Ls s ln):=by
 unfold fsc;split
 ·exact mu _
 ·split
  ·split
   ·exact dv (by decide)
   ·split
    ·exact dv (by decide)
    ·exact mu _
  ·exact dv (by decide)
theorem Je [Inhabited G3o] (g:Gf) (Ls:List ByteArray) (s:ByteArray) (ln:Int):Jd (Br g Ls s ln):=by
 unfold Br;split
 ·exact dv (by decide)
 ·split
  ·split
   ·exact dv (by decide)
   ·split
    ·exact dv (by decide)
    ·exact mu _
  ·exact dv (by decide)
theorem Uq [Inhabited G3o] (g:Gf) (Ls:List ByteArray) (s:ByteArray) (ln:Int) (m:Nat):Jd (Jw g Ls s ln m):=by
 unfold Jw;split
 ·exact dv (by decide)
 ·split
  ·split
   ·exact dv (by decide)
   ·split
    ·exact dv (by decide)
    ·exact mu _
  ·exact dv (by decide)
theorem kq [Inhabited G3o] (g:Gf) (Ls:List ByteArray) (k s:ByteArray) (ln:Int) (m:Nat):Jd (gu g Ls k s ln m):=by
 unfold gu;split
 ·exact Nq _ _ _ _
 ·split
  ·exact Je _ _ _ _
  ·split
   ·exact Uq _ _ _ _ _
   ·exact mu _
theorem ja [Inhabited G3o] (g:Gf) (Ls:List ByteArray):∀ f:Fo,Jd (bx g Ls f)
 | .nil=>mu _
 | .cons k s ln v ks ns r=>by
  unfold bx;exact ji (kq _ _ _ _ _ _) λ _=>ji (ja g Ls ks) λ _=>ja g Ls r
theorem sd [Inhabited G3o]{φ:World->Prop}{k s:ByteArray}{ln v e:Int}{q q2:Option Addr}{m c m2 c2 b:Nat}{t:TypeId} (H:St w0 M w (ckA K S::L)) (i:Nat) (hi:(ckA K S::L)[i]?=some (blk b (ae k s ln v (.slice q m c) (.slice q2 m2 c2)).toArray t)) (hq:∀ w',St w0 M w' (ckA K (S.aft (.err ln e))::L)->φ w') :
  ∃ vs:Array Value,vs.size=6/\Sx.cellsAt w ⟨b,0,none⟩ vs/\Calls prog 14 #[pt K.c,.agg vs,.int .i64 e] w λ e3 w'=>e3= .returned (.tuple #[])/\φ w':=by
 refine⟨_,rfl,H.cells i hi,?_⟩;refine(nz (H.nth 0 rfl)).mono ?_;rintro en w' ⟨rfl,hp⟩;exact⟨rfl,hq w' (H.upd 0 rfl hp)⟩
section
variable {k s:ByteArray}{ln v:Int}{q q2:Option Addr}{m c m2 c2:Nat}
theorem Az [Inhabited G3o] (hK:KOk K) (hs:S.Ls.length≤100) (h:(ckA K S).at_ W):Calls prog 31 #[pt K.c,.agg (ae k s ln v (.slice q m c) (.slice q2 m2 c2)).toArray] W λ e w'=>e= .returned (.tuple #[])/\Post (ckA K S) W (ckA K (S.aft (fsc (aj K.F) S.Ls s ln))) w':=by
 refine amt K.c 0 _ ?_;refine(St.begin h).al λ k1 w2 H2=>?_;have H2:St W (ckA K S).own w2 [ckA K S,blk k1 (ae k s ln v (.slice q m c) (.slice q2 m2 c2)).toArray 52]:=H2;refine⟨_,H2.ld 1 rfl (i:=1) rfl,?_⟩;refine(lv s hK (H2.nth 0 rfl)).mono ?_;rintro e w3 ⟨hh,hg⟩;have H3:=H2.quiet hh
 have fail:∀ {w:World} {L:List Asn},fsc (aj K.F) S.Ls s ln= .err ln 9->St W (ckA K S).own w (ckA K S::blk k1 (ae k s ln v (.slice q m c) (.slice q2 m2 c2)).toArray 52::L) ->
   ∃ vs:Array Value,vs.size=6/\Sx.cellsAt w ⟨k1,0,none⟩ vs/\Calls prog 14 #[pt K.c,.agg vs,.int .i64 9] w λ e3 w'=>e3= .returned (.tuple #[])/\(.returned (.tuple #[]):Ending)= .returned (.tuple #[])/\Post (ckA K S) W (ckA K (S.aft (fsc (aj K.F) S.Ls s ln))) w':=by
  intro w L hf H;refine sd H 1 rfl λ w' H'=>⟨rfl,?_⟩;rw[hf];exact H'.post 0 rfl
 have done:∀ {w:World} {L:List Asn},fsc (aj K.F) S.Ls s ln= .ok ()->St W (ckA K S).own w (ckA K S::L)->(.returned (.tuple #[]):Ending)= .returned (.tuple #[])/\Post (ckA K S) W (ckA K (S.aft (fsc (aj K.F) S.Ls s ln))) w:=by
  intro w L hf H;rw[hf,jh];exact⟨rfl,H.post 0 rfl⟩
 cases hgl:aj K.F s with
 | none =>
  rw[hgl] at hg;subst hg;refine⟨_,_,rfl,?_⟩;refine H3.al λ k2 w4 H4=>?_;refine H4.sts0 2 (n:=6) (vs:=nodeZ.toArray) rfl rfl rfl cz λ w5 H5=>?_;refine⟨_,H5.ld 1 rfl (i:=1) rfl,?_⟩;refine H5.callq (iz s hs (H5.nth 0 rfl)) λ w6 H6=>?_;refine⟨_,rfl,?_⟩
  cases hl:jy S.Ls s with
  | true=>exact Sx.so (λ h=>by cases h) (λ _=>done (by unfold fsc;rw[hl];rfl) H6)
  | false=>exact Sx.so (λ _=>Sx.so (λ _=>fail (by unfold fsc;rw[hl,hgl];rfl) H6) (λ h=>by cases h)) (λ h=>by cases h)
 | some x =>
  obtain⟨k',v',m'⟩:=x;rw[hgl] at hg;obtain⟨nm,ln',q',mm,c',q2',c2',rfl⟩:=hg;refine⟨_,_,rfl,?_⟩;refine H3.al λ k2 w4 H4=>?_;refine H4.sts0 2 (n:=6) (vs:=(ae k' nm ln' v' (.slice q' mm c') (.slice q2' m' c2')).toArray) rfl rfl rfl af λ w5 H5=>?_;refine⟨_,H5.ld 1 rfl (i:=1) rfl,?_⟩;refine H5.callq (iz s hs (H5.nth 0 rfl)) λ w6 H6=>?_;refine⟨_,rfl,?_⟩
  cases hl:jy S.Ls s with
  | true=>exact Sx.so (λ h=>by cases h) (λ _=>done (by unfold fsc;rw[hl];rfl) H6)
  | false =>
   refine Sx.so (λ _=>Sx.so (λ h=>by cases h) (λ _=>?_)) (λ h=>by cases h);refine⟨_,H6.ld 2 rfl (i:=0) rfl,?_⟩
   try dsimp only
   rw[ab];by_cases hk:k'=mb
   ·refine Sx.so (λ h=>by rw[decide_eq_true (show k'=⟨#[118,97,114]⟩ from hk)] at h;cases h) (λ _=>?_);refine⟨_,H6.ld 2 rfl (i:=3) rfl,Sx.so (λ h=>?_) (λ h=>?_)⟩
    ·have h:0<v':=by have:=dt h;omega
     exact fail (by unfold fsc;rw[hl,hgl];simp only[Bool.false_eq_true,if_false];rw[if_neg (by simp [hk]),if_pos h]) H6
    ·have h:¬ 0<v':=by have:=df h;omega
     exact done (by unfold fsc;rw[hl,hgl];simp only[Bool.false_eq_true,if_false];rw[if_neg (by simp [hk]),if_neg h]) H6
   ·refine Sx.so (λ _=>?_) (λ h=>by rw[decide_eq_false (show ¬ k'=⟨#[118,97,114]⟩ from hk)] at h;cases h);exact fail (by unfold fsc;rw[hl,hgl];simp only[Bool.false_eq_true,if_false];rw[if_pos hk]) H6
theorem Dl [Inhabited G3o] (hK:KOk K) (hs:S.Ls.length≤100) (h:(ckA K S).at_ W):Calls prog 32 #[pt K.c,.agg (ae k s ln v (.slice q m c) (.slice q2 m2 c2)).toArray] W λ e w'=>e= .returned (.tuple #[])/\Post (ckA K S) W (ckA K (S.aft (Br (aj K.F) S.Ls s ln))) w':=by
 refine amu K.c 0 _ ?_;refine(St.begin h).al λ k1 w2 H2=>?_;have H2:St W (ckA K S).own w2 [ckA K S,blk k1 (ae k s ln v (.slice q m c) (.slice q2 m2 c2)).toArray 52]:=H2;refine⟨_,H2.ld 1 rfl (i:=1) rfl,?_⟩;refine(lv s hK (H2.nth 0 rfl)).mono ?_;rintro e w3 ⟨hh,hg⟩;have H3:=H2.quiet hh
 have fail:∀ {w:World} {L:List Asn},Br (aj K.F) S.Ls s ln= .err ln 9->St W (ckA K S).own w (ckA K S::blk k1 (ae k s ln v (.slice q m c) (.slice q2 m2 c2)).toArray 52::L) ->
   ∃ vs:Array Value,vs.size=6/\Sx.cellsAt w ⟨k1,0,none⟩ vs/\Calls prog 14 #[pt K.c,.agg vs,.int .i64 9] w λ e3 w'=>e3= .returned (.tuple #[])/\(.returned (.tuple #[]):Ending)= .returned (.tuple #[])/\Post (ckA K S) W (ckA K (S.aft (Br (aj K.F) S.Ls s ln))) w':=by
  intro w L hf H;refine sd H 1 rfl λ w' H'=>⟨rfl,?_⟩;rw[hf];exact H'.post 0 rfl
 have done:∀ {w:World} {L:List Asn},Br (aj K.F) S.Ls s ln= .ok ()->St W (ckA K S).own w (ckA K S::L)->(.returned (.tuple #[]):Ending)= .returned (.tuple #[])/\Post (ckA K S) W (ckA K (S.aft (Br (aj K.F) S.Ls s ln))) w:=by
  intro w L hf H;rw[hf,jh];exact⟨rfl,H.post 0 rfl⟩
 cases hgl:aj K.F s with
 | none =>
  rw[hgl] at hg;subst hg;refine⟨_,_,rfl,?_⟩;refine H3.al λ k2 w4 H4=>?_;refine H4.sts0 2 (n:=6) (vs:=nodeZ.toArray) rfl rfl rfl cz λ w5 H5=>?_;refine⟨_,H5.ld 1 rfl (i:=1) rfl,?_⟩;refine H5.callq (iz s hs (H5.nth 0 rfl)) λ w6 H6=>?_;refine⟨_,rfl,?_⟩
  cases hl:jy S.Ls s with
  | true=>exact Sx.so (λ _=>fail (by unfold Br;rw[hl];rfl) H6) (λ h=>by cases h)
  | false=>exact Sx.so (λ h=>by cases h) (λ _=>Sx.so (λ _=>fail (by unfold Br;rw[hl,hgl];rfl) H6) (λ h=>by cases h))
 | some x =>
  obtain⟨k',v',m'⟩:=x;rw[hgl] at hg;obtain⟨nm,ln',q',mm,c',q2',c2',rfl⟩:=hg;refine⟨_,_,rfl,?_⟩;refine H3.al λ k2 w4 H4=>?_;refine H4.sts0 2 (n:=6) (vs:=(ae k' nm ln' v' (.slice q' mm c') (.slice q2' m' c2')).toArray) rfl rfl rfl af λ w5 H5=>?_;refine⟨_,H5.ld 1 rfl (i:=1) rfl,?_⟩;refine H5.callq (iz s hs (H5.nth 0 rfl)) λ w6 H6=>?_;refine⟨_,rfl,?_⟩
  cases hl:jy S.Ls s with
  | true=>exact Sx.so (λ _=>fail (by unfold Br;rw[hl];rfl) H6) (λ h=>by cases h)
  | false =>
   refine Sx.so (λ h=>by cases h) (λ _=>Sx.so (λ h=>by cases h) (λ _=>?_));refine⟨_,H6.ld 2 rfl (i:=0) rfl,?_⟩
   try dsimp only
   rw[ab];by_cases hk:k'=mb
   ·refine Sx.so (λ h=>by rw[decide_eq_true (show k'=⟨#[118,97,114]⟩ from hk)] at h;cases h) (λ _=>?_);refine⟨_,H6.ld 2 rfl (i:=3) rfl,Sx.so (λ h=>?_) (λ h=>?_)⟩
    ·have h:v'=0:=beq_iff_eq.1 h;exact fail (by unfold Br;rw[hl,hgl];simp only[Bool.false_eq_true,if_false];rw[if_neg (by simp [hk]),if_pos h]) H6
    ·have h:¬ v'=0:=beq_eq_false_iff_ne.1 h;exact done (by unfold Br;rw[hl,hgl];simp only[Bool.false_eq_true,if_false];rw[if_neg (by simp [hk]),if_neg h]) H6
   ·refine Sx.so (λ _=>?_) (λ h=>by rw[decide_eq_false (show ¬ k'=⟨#[118,97,114]⟩ from hk)] at h;cases h);exact fail (by unfold Br;rw[hl,hgl];simp only[Bool.false_eq_true,if_false];rw[if_pos hk]) H6
end
theorem Jf {a:Nat} (h:a≤1000000):IntKind.wrap .i64 ((a:Nat)+1:Int)=((a+1:Nat):Int):=by
 rw[show((a:Nat)+1:Int)=((a+1:Nat):Int) by omega];exact Go.Bits.n64 (by omega)
theorem Ba [Inhabited G3o]{DA:Asn}:∀ (N:Nat) (ks:Fo),ks.sz≤N->ks.sz≤1000000->∀ {W:World}{k s:ByteArray}{ln v:Int}{q q2:Option Addr}{c m2 c2:Nat}{us:List Value},isV DA ks us->(∀ w,DA.at_ w->Sl w 52 6 (.slice q ks.len c) ks.len us)->DA.at_ W ->
  Calls prog 34 #[.agg (ae k s ln v (.slice q ks.len c) (.slice q2 m2 c2)).toArray] W λ e w'=>e= .returned (.int .i64 ((ca (ay k s) ks 0:Nat):Int))/\im W w':=by
 intro N
 induction N with
 | zero =>
  intro ks hN _ W k s ln v q q2 c m2 c2 us hV hsl h;refine ajo _ ?_;refine(St.nil W).al λ k1 w2 H2=>?_
  cases ks with
  | cons=>simp only[Fo.sz] at hN;omega
  | nil =>
   refine⟨λ i most w=>i=0/\most=1/\w=w2,λ _ _ _=>0,⟨rfl,rfl,rfl⟩,?_⟩;rintro _ i most w3 ⟨rfl,rfl,rfl⟩;refine⟨_,_,_,H2.ld 0 rfl (i:=4) rfl,Sx.so (λ h=>by cases (dt h)) (λ _=>⟨rfl,H2.touch⟩)⟩
 | succ N ih =>
  intro ks hN hsz W k s ln v q q2 c m2 c2 us hV hsl h;refine ajo _ ?_;refine(St.nil W).al λ k1 w2 H2=>?_;have H2:St W (λ _=>False) w2 [blk k1 (ae k s ln v (.slice q ks.len c) (.slice q2 m2 c2)).toArray 52]:=H2;have hle:=ut (ay k s) ks 0;refine⟨λ i most w=>∃ (j m:Nat) (r:Fo) (ws:List Value),i=(j:Nat)/\most=(m:Nat)/\Suf DA ks us j r ws/\r.sz≤ks.sz/\1≤m/\max m (ca (ay k s) r j)=ca (ay k s) ks 0/\St W (λ _=>False) w [blk k1 (ae k s ln v (.slice q ks.len c) (.slice q2 m2 c2)).toArray 52],λ i _ _=>ks.len - i.toNat,⟨0,1,ks,us,rfl,rfl,Suf.start hV,Nat.le_refl _,Nat.le_refl _,by have:=zw (ay k s) ks 0;omega,H2⟩,?_⟩;rintro _ i most w3 ⟨j,m,r,ws,rfl,rfl,hS,hrsz,hm1,hmx,H3⟩;have hDA:=fc h H3.touch;refine⟨_,_,_,H3.ld 0 rfl (i:=4) rfl,?_⟩
  cases r with
  | nil =>
   obtain⟨-,pre, -, -,hl⟩:=hS;simp only[Fo.len] at hl;refine Sx.so (λ h1=>by have:=dt h1;omega) (λ _=>⟨?_,H3.touch⟩)
   have hm2:m=ca (ay k s) ks 0:=by
    simp only[ca] at hmx;omega
   rw[hm2]
  | cons k2 s2 ln2 v2 kids ns rest =>
   obtain⟨q3,c3,us1,q4,c4,ws',h1,h3,hj,h4,h5,hat⟩:=hS.next
   simp only[Fo.sz] at hrsz;refine Sx.so (λ _=>?_) (λ h1=>by have:=df h1;omega);refine⟨_,_,_,H3.ld 0 rfl (i:=4) rfl,⟨by omega,by omega⟩,?_⟩;refine hat (hsl _ hDA) λ g o hc=>?_;rw[Int.toNat_natCast];refine⟨_,rfl,hc,?_⟩;refine H3.callq (ih kids (by omega) (by omega) h1 h4 hDA) λ w4 H4=>?_;have hzle:=ut (ay k2 s2) kids 0;generalize hz:ca (ay k2 s2) kids 0=z at *
   have hjl:j+rest.len+1=ks.len:=by
    obtain⟨-,pre, -, -,hl⟩:=hS;simp only[Fo.len] at hl;omega
   have hlen:=Fo.len_le ks
   have fin:∀ (mo:Nat),mo=max m (z+if ay k s then j else 0)->∀ z3,z3=IntKind.wrap .i64 (((j:Nat):Int)+1) ->
     (∃ (j' m':Nat) (r:Fo) (ws:List Value),z3=(j':Nat)/\((mo:Nat):Int)=(m':Nat)/\Suf DA ks us j' r ws/\r.sz≤ks.sz/\1≤m'/\max m' (ca (ay k s) r j')=ca (ay k s) ks 0/\St W (λ _=>False) w4 [blk k1 (ae k s ln v (.slice q ks.len c) (.slice q2 m2 c2)).toArray 52])/\ks.len - z3.toNat<ks.len - ((j:Nat):Int).toNat:=by
    rintro mo hmo z3 rfl;rw[Jf (by omega)];refine⟨⟨j+1,mo,rest,ws',rfl,rfl,h3,by omega,by omega,?_,H4⟩,by rw[Int.toNat_natCast,Int.toNat_natCast];omega⟩;rw[<- hmx,hmo];simp only[ca,hz];omega
   have plus:ay k s=true->∀ z2,z2=IntKind.wrap .i64 (((z:Nat):Int)+((j:Nat):Int))->z2=((z+j:Nat):Int):=by
    rintro - z2 rfl;rw[show((z:Nat):Int)+((j:Nat):Int)=((z+j:Nat):Int) by omega];exact Go.Bits.n64 (by omega)
   have big:ay k s=true->∀ z2,z2=IntKind.wrap .i64 (((z:Nat):Int)+((j:Nat):Int))->Sx.split (decide (z2 > ((m:Nat):Int))) (∀ z3,z3=IntKind.wrap .i64 (((j:Nat):Int)+1)->(∃ (j' m':Nat) (r:Fo) (ws:List Value),z3=(j':Nat)/\z2=(m':Nat)/\Suf DA ks us j' r ws/\r.sz≤ks.sz/\1≤m'/\max m' (ca (ay k s) r j')=ca (ay k s) ks 0/\St W (λ _=>False) w4 [blk k1 (ae k s ln v (.slice q ks.len c) (.slice q2 m2 c2)).toArray 52])/\ks.len - z3.toNat<ks.len - ((j:Nat):Int).toNat)
     (∀ z4,z4=IntKind.wrap .i64 (((j:Nat):Int)+1)->(∃ (j' m':Nat) (r:Fo) (ws:List Value),z4=(j':Nat)/\((m:Nat):Int)=(m':Nat)/\Suf DA ks us j' r ws/\r.sz≤ks.sz/\1≤m'/\max m' (ca (ay k s) r j')=ca (ay k s) ks 0/\St W (λ _=>False) w4 [blk k1 (ae k s ln v (.slice q ks.len c) (.slice q2 m2 c2)).toArray 52])/\ks.len - z4.toNat<ks.len - ((j:Nat):Int).toNat):=by
    intro hp z2 hz2;rw[plus hp z2 hz2];refine Sx.so (λ h=>fin (z+j) (by rw[if_pos hp];have:=dt h;omega)) (λ h=>fin m (by rw[if_pos hp];have:=df h;omega))
   have small:ay k s=false->Sx.split (decide (((z:Nat):Int) > ((m:Nat):Int))) (∀ z3,z3=IntKind.wrap .i64 (((j:Nat):Int)+1)->(∃ (j' m':Nat) (r:Fo) (ws:List Value),z3=(j':Nat)/\((z:Nat):Int)=(m':Nat)/\Suf DA ks us j' r ws/\r.sz≤ks.sz/\1≤m'/\max m' (ca (ay k s) r j')=ca (ay k s) ks 0/\St W (λ _=>False) w4 [blk k1 (ae k s ln v (.slice q ks.len c) (.slice q2 m2 c2)).toArray 52])/\ks.len - z3.toNat<ks.len - ((j:Nat):Int).toNat)
     (∀ z4,z4=IntKind.wrap .i64 (((j:Nat):Int)+1)->(∃ (j' m':Nat) (r:Fo) (ws:List Value),z4=(j':Nat)/\((m:Nat):Int)=(m':Nat)/\Suf DA ks us j' r ws/\r.sz≤ks.sz/\1≤m'/\max m' (ca (ay k s) r j')=ca (ay k s) ks 0/\St W (λ _=>False) w4 [blk k1 (ae k s ln v (.slice q ks.len c) (.slice q2 m2 c2)).toArray 52])/\ks.len - z4.toNat<ks.len - ((j:Nat):Int).toNat):=by
    intro hp;refine Sx.so (λ h=>fin z (by rw[hp];have:=dt h;simp only[Bool.false_eq_true,if_false];omega)) (λ h=>fin m (by rw[hp];have:=df h;simp only[Bool.false_eq_true,if_false];omega))
   clear fin plus;refine⟨_,rfl,_,H4.ld 0 rfl (i:=0) rfl,?_⟩
   try dsimp only
   rw[ab];refine Sx.so (λ h6=>?_) (λ h6=>?_)
   ·have h6:k=ip:=dt h6;exact big (by unfold ay;rw[h6];rfl)
   have h6:¬ k=ip:=df h6;refine⟨_,H4.ld 0 rfl (i:=0) rfl,?_⟩
   try dsimp only
   rw[ab];refine Sx.so (λ h7=>?_) (λ h7=>?_)
   ·have h7:k=sm:=dt h7;refine⟨_,H4.ld 0 rfl (i:=1) rfl,?_⟩
    try dsimp only
    rw[ab];refine Sx.so (λ h8=>?_) (λ h8=>?_)
    ·have h8:¬ s=ofL [38,38]:=λ e=>by rw[decide_eq_true (show s=⟨#[38,38]⟩ from e)] at h8;cases h8
     refine⟨_,H4.ld 0 rfl (i:=1) rfl,?_⟩
     try dsimp only
     rw[ab];refine Sx.so (λ h9=>?_) (λ h9=>?_)
     ·have h9:¬ s=ofL [124,124]:=λ e=>by rw[decide_eq_true (show s=⟨#[124,124]⟩ from e)] at h9;cases h9
      exact big (by unfold ay;rw[decide_eq_true h7,decide_eq_false h8,decide_eq_false h9,decide_eq_false h6];rfl)
     ·have h9:s=ofL [124,124]:=Decidable.byContradiction λ e=>by rw[decide_eq_false (show ¬ s=⟨#[124,124]⟩ from e)] at h9;cases h9
      exact small (by unfold ay;rw[decide_eq_true h9,decide_eq_false h6];simp)
    ·have h8:s=ofL [38,38]:=Decidable.byContradiction λ e=>by rw[decide_eq_false (show ¬ s=⟨#[38,38]⟩ from e)] at h8;cases h8
     exact small (by unfold ay;rw[decide_eq_true h8,decide_eq_false h6];simp)
   ·have h7:¬ k=sm:=df h7;exact small (by unfold ay;rw[decide_eq_false h7,decide_eq_false h6];rfl)
variable {W w0 w:World}{M:Nat->Prop}{L:List Asn}{K:Kx}{S:Ck}
section
variable {k s:ByteArray}{ln v:Int}{q q2:Option Addr}{m c m2 c2:Nat}
theorem pr {φ:Int->Prop} (H:St w0 M w (ckA K S::L)) (hq:φ S.err):∃ z:Int,w.cell? ⟨K.c,0+4,none⟩=some (.int .i64 z)/\φ z:=⟨_,(St.open_ (L:=ckL K S) H).ld 0 rfl (i:=4) rfl,hq⟩
theorem Pt [Inhabited G3o]:∀ (N:Nat) (ks:Fo),ks.sz<N->ks.sz≤1000000->∀ {W:World}{K:Kx}{S:Ck}{k s:ByteArray}{ln v:Int}{q q2:Option Addr}{c m2 c2:Nat}{us:List Value},KOk K->S.Ls.length≤100->isV K.DA ks us->(∀ w,K.DA.at_ w->Sl w 52 6 (.slice q ks.len c) ks.len us)->(ckA K S).at_ W ->
  Calls prog 66 #[pt K.c,.agg (ae k s ln v (.slice q ks.len c) (.slice q2 m2 c2)).toArray] W λ e w'=>e= .returned (.tuple #[])/\Post (ckA K S) W (ckA K (S.aft ((gu (aj K.F) S.Ls k s ln ks.len).bind λ _=>bx (aj K.F) S.Ls ks))) w':=by
 intro N
 induction N with
 | zero=>intro ks hN;omega
 | succ N ih =>
  intro ks hN hsz W K S k s ln v q q2 c m2 c2 us hK hs hV hsl h;refine amw K.c 0 _ ?_;refine(St.begin h).al λ k1 w2 H2=>?_;have H2:St W (ckA K S).own w2 [ckA K S,blk k1 (ae k s ln v (.slice q ks.len c) (.slice q2 m2 c2)).toArray 52]:=H2;refine⟨λ w=>St W (ckA K S).own w [ckA K (S.aft (gu (aj K.F) S.Ls k s ln ks.len)),blk k1 (ae k s ln v (.slice q ks.len c) (.slice q2 m2 c2)).toArray 52],?_,?_⟩
  ·
   refine⟨_,H2.ld 1 rfl (i:=0) rfl,?_⟩
   try dsimp only
   rw[ab,ab,ab];refine Sx.so (λ h6=>?_) (λ h6=>?_)
   ·have h6:k=sx:=dt h6
    have hf:gu (aj K.F) S.Ls k s ln ks.len=fsc (aj K.F) S.Ls s ln:=by unfold gu;rw[if_pos h6]
    refine⟨_,rfl,H2.cells 1 rfl,?_⟩;refine(Az hK hs (H2.nth 0 rfl)).mono ?_;rintro e w3 ⟨rfl,hp⟩;rw[hf];exact⟨rfl,H2.upd 0 rfl hp⟩
   have h6:¬ k=sx:=df h6;refine Sx.so (λ h7=>?_) (λ h7=>?_)
   ·have h7:k=jo:=dt h7
    have hf:gu (aj K.F) S.Ls k s ln ks.len=Br (aj K.F) S.Ls s ln:=by unfold gu;rw[if_neg h6,if_pos h7]
    refine⟨_,rfl,H2.cells 1 rfl,?_⟩;refine(Dl hK hs (H2.nth 0 rfl)).mono ?_;rintro e w3 ⟨rfl,hp⟩;rw[hf];exact⟨rfl,H2.upd 0 rfl hp⟩
   have h7:¬ k=jo:=df h7;refine Sx.so (λ h8=>?_) (λ h8=>?_)
   ·have h8:k=ip:=dt h8
    have hf:gu (aj K.F) S.Ls k s ln ks.len=Jw (aj K.F) S.Ls s ln ks.len:=by unfold gu;rw[if_neg h6,if_neg h7,if_pos h8]
    rw[hf]
    have fail:∀ {w:World} {L:List Asn},Jw (aj K.F) S.Ls s ln ks.len= .err ln 9->St W (ckA K S).own w (ckA K S::blk k1 (ae k s ln v (.slice q ks.len c) (.slice q2 m2 c2)).toArray 52::L) ->
      ∃ vs:Array Value,vs.size=6/\Sx.cellsAt w ⟨k1,0,none⟩ vs/\Calls prog 14 #[pt K.c,.agg vs,.int .i64 9] w λ e3 w'=>e3= .returned (.tuple #[])/\St W (ckA K S).own w' [ckA K (S.aft (Jw (aj K.F) S.Ls s ln ks.len)),blk k1 (ae k s ln v (.slice q ks.len c) (.slice q2 m2 c2)).toArray 52]:=by
     intro w L hf H;refine sd H 1 rfl λ w' H'=>?_;rw[hf];exact H'.pick [0,1]
    refine⟨_,H2.ld 1 rfl (i:=1) rfl,?_⟩;refine(lv s hK (H2.nth 0 rfl)).mono ?_;rintro e w3 ⟨hh,hg⟩;have H3:=H2.quiet hh
    cases hgl:aj K.F s with
    | none =>
     rw[hgl] at hg;subst hg;refine⟨_,_,rfl,?_⟩;refine H3.al λ k2 w4 H4=>?_;refine H4.sts0 2 (n:=6) (vs:=nodeZ.toArray) rfl rfl rfl cz λ w5 H5=>?_;refine⟨_,H5.ld 1 rfl (i:=1) rfl,?_⟩;refine H5.callq (iz s hs (H5.nth 0 rfl)) λ w6 H6=>?_;refine⟨_,rfl,?_⟩
     cases hl:jy S.Ls s with
     | true=>exact Sx.so (λ _=>fail (by unfold Jw;rw[hl];rfl) H6) (λ h=>by cases h)
     | false=>exact Sx.so (λ h=>by cases h) (λ _=>Sx.so (λ _=>fail (by unfold Jw;rw[hl,hgl];rfl) H6) (λ h=>by cases h))
    | some x =>
     obtain⟨k',v',m'⟩:=x;rw[hgl] at hg;obtain⟨nm,ln',q',mm,c',q2',c2',rfl⟩:=hg;refine⟨_,_,rfl,?_⟩;refine H3.al λ k2 w4 H4=>?_;refine H4.sts0 2 (n:=6) (vs:=(ae k' nm ln' v' (.slice q' mm c') (.slice q2' m' c2')).toArray) rfl rfl rfl af λ w5 H5=>?_;refine⟨_,H5.ld 1 rfl (i:=1) rfl,?_⟩;refine H5.callq (iz s hs (H5.nth 0 rfl)) λ w6 H6=>?_;refine⟨_,rfl,?_⟩
     cases hl:jy S.Ls s with
     | true=>exact Sx.so (λ _=>fail (by unfold Jw;rw[hl];rfl) H6) (λ h=>by cases h)
     | false =>
      refine Sx.so (λ h=>by cases h) (λ _=>Sx.so (λ h=>by cases h) (λ _=>?_));refine⟨_,H6.ld 2 rfl (i:=0) rfl,?_⟩
      try dsimp only
      rw[ab];by_cases hk:k'=da
      ·refine Sx.so (λ h=>by rw[decide_eq_true (show k'=⟨#[102,117,110,99]⟩ from hk)] at h;cases h) (λ _=>?_);refine⟨_,_,_,H6.ld 2 rfl (i:=5) rfl,_,_,_,H6.ld 1 rfl (i:=4) rfl,Sx.so (λ h=>?_) (λ h=>?_)⟩
       ·have h:m'≠ks.len:=λ e=>by rw[e] at h;simp at h
        exact fail (by unfold Jw;rw[hl,hgl];simp only[Bool.false_eq_true,if_false];rw[if_neg (by simp [hk]),if_pos h]) H6
       ·have h:m'=ks.len:=by have:=bne_eq_false_iff_eq.1 h;omega
        have hf:Jw (aj K.F) S.Ls s ln ks.len= .ok ():=by unfold Jw;rw[hl,hgl];simp only[Bool.false_eq_true,if_false];rw[if_neg (by simp [hk]),if_neg (by simp [h])]
        rw[hf,jh];exact H6.pick [0,1]
      ·refine Sx.so (λ _=>?_) (λ h=>by rw[decide_eq_false (show ¬ k'=⟨#[102,117,110,99]⟩ from hk)] at h;cases h);exact fail (by unfold Jw;rw[hl,hgl];simp only[Bool.false_eq_true,if_false];rw[if_pos hk]) H6
   ·have h8:¬ k=ip:=df h8
    have hf:gu (aj K.F) S.Ls k s ln ks.len= .ok ():=by unfold gu;rw[if_neg h6,if_neg h7,if_neg h8]
    rw[hf,jh];exact H2
  ·
   intro _ w3 H3;generalize hS1:S.aft (gu (aj K.F) S.Ls k s ln ks.len)=S1 at *
   have hL1:S1.Ls=S.Ls:=by rw[<- hS1,Up]
   have hfin:S.aft ((gu (aj K.F) S.Ls k s ln ks.len).bind λ _=>bx (aj K.F) S.Ls ks)=S1.aft (bx (aj K.F) S.Ls ks):=by rw[<- hS1,pm (kq _ _ _ _ _ _)]
   rw[hfin];have hlen:=Fo.len_le ks;refine⟨λ x w=>∃ (j:Nat) (r:Fo) (ws:List Value) (S2:Ck),x=(j:Nat)/\Suf K.DA ks us j r ws/\r.sz≤ks.sz/\S2.Ls=S.Ls/\S2.aft (bx (aj K.F) S.Ls r)=S1.aft (bx (aj K.F) S.Ls ks)/\St W (ckA K S).own w [ckA K S2,blk k1 (ae k s ln v (.slice q ks.len c) (.slice q2 m2 c2)).toArray 52],λ x _=>ks.len - x.toNat,⟨0,ks,us,S1,rfl,Suf.start hV,Nat.le_refl _,hL1,rfl,H3⟩,?_⟩;rintro _ x w4 ⟨j,r,ws,S2,rfl,hSuf,hrsz,hL2,hS2,H4⟩;have hDA:K.DA.at_ w4:=(St.open_ (L:=ckL K S2) H4).nth 2 rfl;refine⟨_,_,_,H4.ld 1 rfl (i:=4) rfl,?_⟩
   cases r with
   | nil =>
    obtain⟨-,pre, -, -,hl⟩:=hSuf;simp only[Fo.len] at hl;refine Sx.so (λ h1=>by have:=dt h1;omega) (λ _=>⟨rfl,?_⟩);rw[<- hS2,show bx (aj K.F) S.Ls .nil= .ok () by unfold bx;rfl,jh];exact H4.post 0 rfl
   | cons k2 s2 ln2 v2 kids ns rest =>
    obtain⟨q3,c3,us1,q4,c4,ws',h1,h3,hj,h4,h5,hat⟩:=hSuf.next
    simp only[Fo.sz] at hrsz;refine Sx.so (λ _=>?_) (λ h1=>by have:=df h1;omega);refine pr H4 (Sx.so (λ h0=>?_) (λ h0=>?_))
    ·refine⟨_,_,_,H4.ld 1 rfl (i:=4) rfl,⟨by omega,by omega⟩,?_⟩;refine hat (hsl _ hDA) λ g o hc=>?_;rw[Int.toNat_natCast];refine⟨_,rfl,hc,?_⟩;refine(ih kids (by omega) (by omega) hK (by rw[hL2];exact hs) h1 h4 (H4.nth 0 rfl)).mono ?_;rintro e w5 ⟨rfl,hp⟩;have H5:=H4.upd 0 rfl hp;refine⟨rfl,?_⟩;rintro z rfl;rw[Jf (by omega)];refine⟨⟨j+1,rest,ws',_,rfl,h3,by omega,by rw[Up,hL2],?_,H5⟩,by show _ - ((j+1:Nat):Int).toNat<_ - ((j:Nat):Int).toNat;omega⟩;rw[<- hS2,hL2,pm (ji (kq _ _ _ _ _ _) λ _=>ja _ _ _)];rw[show bx (aj K.F) S.Ls (.cons k2 s2 ln2 v2 kids ns rest)=((gu (aj K.F) S.Ls k2 s2 ln2 kids.len).bind λ _=>(bx (aj K.F) S.Ls kids).bind λ _=>bx (aj K.F) S.Ls rest) by rw[bx]];rw[C.bind_assoc]
    ·have h0:S2.err≠0:=beq_eq_false_iff_ne.1 h0;rw[<- hS2,ey h0];exact⟨rfl,H4.post 0 rfl⟩
theorem wn [Inhabited G3o]{ks rest:Fo}{ns:List ByteArray}{us:List Value} (hK:KOk K) (hs:S.Ls.length≤100) (hsz:ks.sz≤1000000) (hV:isV K.DA ks us) (hsl:∀ w,K.DA.at_ w->Sl w 52 6 (.slice q ks.len c) ks.len us) (h:(ckA K S).at_ W) :
  Calls prog 33 #[pt K.c,.agg (ae k s ln v (.slice q ks.len c) (.slice q2 m2 c2)).toArray] W λ e w'=>e= .returned (.tuple #[])/\Post (ckA K S) W (ckA K (S.aft (eu (aj K.F) S.Ls 0 (.cons k s ln v ks ns rest)))) w':=by
 refine amv K.c 0 _ ?_;refine(St.begin h).al λ k1 w2 H2=>?_;have H2:St W (ckA K S).own w2 [ckA K S,blk k1 (ae k s ln v (.slice q ks.len c) (.slice q2 m2 c2)).toArray 52]:=H2;refine⟨_,rfl,H2.cells 1 rfl,?_⟩;refine(Pt (ks.sz+1) ks (by omega) hsz hK hs hV hsl (H2.nth 0 rfl)).mono ?_;rintro e w3 ⟨rfl,hp⟩;have H3:=H2.upd 0 rfl hp;generalize hS1:S.aft ((gu (aj K.F) S.Ls k s ln ks.len).bind λ _=>bx (aj K.F) S.Ls ks)=S1 at *;have H3:St W (ckA K S).own w3 [ckA K S1,blk k1 (ae k s ln v (.slice q ks.len c) (.slice q2 m2 c2)).toArray 52]:=H3
 have hfin:S.aft (eu (aj K.F) S.Ls 0 (.cons k s ln v ks ns rest))=S1.aft (if 8<ca (ay k s) ks 0+0 then .err ln 4 else .ok ()):=by
  rw[<- hS1,pm (ji (kq _ _ _ _ _ _) λ _=>ja _ _ _),C.bind_assoc];rfl
 rw[hfin];refine⟨rfl,_,rfl,H3.cells 1 rfl,?_⟩;have hDA:K.DA.at_ w3:=(St.open_ (L:=ckL K S1) H3).nth 2 rfl;refine H3.callq (Ba ks.sz ks (Nat.le_refl _) hsz hV hsl hDA) λ w4 H4=>?_;refine⟨_,rfl,Sx.so (λ h8=>?_) (λ h8=>?_)⟩
 ·have h8:8<ca (ay k s) ks 0+0:=by have:=dt h8;omega
  rw[if_pos h8];exact sd H4 1 rfl λ w' H'=>⟨rfl,H'.post 0 rfl⟩
 ·have h8:¬ 8<ca (ay k s) ks 0+0:=by have:=df h8;omega
  rw[if_neg h8,jh];exact⟨rfl,H4.post 0 rfl⟩
end
variable {W w0 w:World}{M:Nat->Prop}{L:List Asn}{K:Kx}{S:Ck}
theorem vj [Inhabited G3o]{S:Ck}{r:C Unit} (h0:S.err=0) (hg:Jd r):(r= .ok ()/\S.aft r=S)∨∃ l e,r= .err l e/\e≠0/\S.aft r={ S with line:=l,err:=e }:=by
 cases r with
 | ok x=>exact .inl ⟨rfl,jh S⟩
 | err l e=>exact .inr ⟨l,e,rfl,hg l e rfl,by unfold Ck.aft;rw[if_pos h0]⟩
theorem Bb [Inhabited G3o] (g:Gf) (Ls:List ByteArray) (b:Nat) (f:Fo):Jd (eu g Ls b f):=by
 unfold eu
 cases f with
 | nil=>exact mu _
 | cons k s ln v ks ns r =>
  exact ji (kq _ _ _ _ _ _) λ _=>ji (ja _ _ _) λ _=>by
   split
   ·exact dv (by decide)
   ·exact mu _
theorem Ur [Inhabited G3o] (g:Gf) (Ls:List ByteArray) (k s:ByteArray) (ln:Int):Jd (Qg g Ls k s ln):=by
 unfold Qg;split
 ·exact Nq _ _ _ _
 ·split
  ·exact Je _ _ _ _
  ·exact mu _
def Ck.dcl (S:Ck) (g:Gf) (ln:Int) (nm:ByteArray) (p:Option Addr) (c:Nat):Ck :=
 Ck.aft { S.aft (if (g nm).isSome||jy S.Ls nm then .err ln 9 else .ok ()) with Ls:=S.Ls++[nm],p:=p,c:=c,n:=S.n+1 } (if 24<S.n+1 then .err ln 4 else .ok ())
section
variable {k s:ByteArray}{ln v:Int}{q q2:Option Addr}{m c m2 c2:Nat}
theorem afs (S:Ck) (r:C Unit):(S.aft r).p=S.p/\(S.aft r).c=S.c/\(S.aft r).n=S.n:=by
 unfold Ck.aft;split
 ·cases r <;> exact⟨rfl,rfl,rfl⟩
 ·exact⟨rfl,rfl,rfl⟩
theorem rf [Inhabited G3o] (nm:ByteArray) (hK:KOk K) (hs:S.Ls.length≤100) (hn:0≤S.n/\S.n≤100) (h:(ckA K S).at_ W):Calls prog 16 #[pt K.c,.agg (ae k s ln v (.slice q m c) (.slice q2 m2 c2)).toArray,.string nm] W λ e w'=>e= .returned (.tuple #[])/\∃ p c,Post (ckA K S) W (ckA K (S.dcl (aj K.F) ln nm p c)) w':=by
 refine ams K.c 0 _ nm ?_;refine(St.begin h).al λ k1 w2 H2=>?_;have H2:St W (ckA K S).own w2 [ckA K S,blk k1 (ae k s ln v (.slice q m c) (.slice q2 m2 c2)).toArray 52]:=H2;refine(lv nm hK (H2.nth 0 rfl)).mono ?_;rintro e w3 ⟨hh,hg⟩;have H3:=H2.quiet hh
 have main:∃ vs:List Value,ones vs/\e= .returned (.tuple #[.agg vs.toArray,.bool (aj K.F nm).isSome]):=by
  cases hgl:aj K.F nm with
  | none=>rw[hgl] at hg;exact⟨nodeZ,xj,hg⟩
  | some x =>
   obtain⟨k',v',m'⟩:=x;rw[hgl] at hg;obtain⟨nm',ln',q',mm,c',q2',c2',rfl⟩:=hg;exact⟨_,az,rfl⟩
 obtain⟨vs,ho,rfl⟩:=main;refine⟨_,_,rfl,?_⟩;refine H3.al λ k2 w4 H4=>?_;refine H4.sts0 2 (n:=6) (vs:=vs.toArray) rfl (ba ho) rfl (by simpa using ho.2) λ w5 H5=>?_;refine H5.callq (iz nm hs (H5.nth 0 rfl)) λ w6 H6=>?_;obtain⟨S1,hS1⟩:∃ S1,S1=S.aft (if (aj K.F nm).isSome||jy S.Ls nm then .err ln 9 else .ok ()):=⟨_,rfl⟩
 have e1:S1.Ls=S.Ls:=by rw[hS1,Up]
 have e2:=afs S (if (aj K.F nm).isSome||jy S.Ls nm then .err ln 9 else .ok ());rw[<- hS1] at e2;refine⟨_,rfl,λ w=>St W (ckA K S).own w [ckA K S1,blk k1 (ae k s ln v (.slice q m c) (.slice q2 m2 c2)).toArray 52],?_,?_⟩
 ·have fail:((aj K.F nm).isSome||jy S.Ls nm)=true->∃ vs:Array Value,vs.size=6/\Sx.cellsAt w6 ⟨k1,0,none⟩ vs/\Calls prog 14 #[pt K.c,.agg vs,.int .i64 9] w6 λ e3 w'=>e3= .returned (.tuple #[])/\St W (ckA K S).own w' [ckA K S1,blk k1 (ae k s ln v (.slice q m c) (.slice q2 m2 c2)).toArray 52]:=by
   intro hc;refine sd H6 1 rfl λ w' H'=>?_;rw[hS1,if_pos hc];exact H'.pick [0,1]
  refine Sx.so (λ h1=>fail (by rw[h1];rfl)) (λ h1=>Sx.so (λ h2=>fail (by rw[h2,Bool.or_true])) (λ h2=>?_));rw[h1,h2] at hS1;rw[hS1,show(if (false||false)=true then C.err ln 9 else C.ok ())=C.ok () from rfl,jh];exact H6.pick [0,1]
 ·rintro _ w7 H7;have H8:St W (ckA K S).own w7 (ckL K S1++[blk k1 (ae k s ln v (.slice q m c) (.slice q2 m2 c2)).toArray 52]):=St.open_ H7;refine⟨_,_,_,H8.ld 0 rfl (i:=1) rfl,?_⟩;refine H8.al λ k6 w8 H9=>?_;refine H9.app 1 rfl [.string nm] (.inr ⟨_,rfl,λ j u hj=>?_⟩) rfl (by intro u hu;rw[List.mem_singleton.1 hu];rfl) (by rw[e1];show _≤maxLen;unfold maxLen;omega) (by rw[e1];omega) λ p' c' w9 H10=>?_
  ·match j,hj with
   | 0,hj=>cases hj;exact H9.ld 4 rfl (i:=0) rfl
  refine H10.st 0 rfl (i:=1) (by simp) λ w10 H11=>?_;refine⟨_,H11.ld 0 rfl (i:=2) rfl,?_⟩;rintro z rfl;rw[e2.2.2]
  have hw:IntKind.wrap .i64 (S.n+1)=S.n+1:=by
   obtain⟨n,hn'⟩:∃ n:Nat,S.n=n:=⟨S.n.toNat,by omega⟩;rw[hn'];exact qd (by omega)
  rw[hw];refine H11.st 0 rfl (i:=2) (by simp) λ w11 H12=>?_;refine⟨_,H12.ld 0 rfl (i:=2) rfl,?_⟩;obtain⟨S2,hS2⟩:∃ S2:Ck,S2={ S1 with Ls:=S1.Ls++[nm],p:=p',c:=c',n:=S.n+1 }:=⟨_,rfl⟩
  have H13:St W (ckA K S).own w11 [ckA K S2,blk k1 (ae k s ln v (.slice q m c) (.slice q2 m2 c2)).toArray 52]:=by
   refine St.shut (L:=ckL K S2) ?_
   have h1:S2.Ls.length=S1.Ls.length+1:=by rw[hS2];simp
   have h2:nx S2.Ls=nx S1.Ls++[.string nm]:=by rw[hS2];simp [nx]
   unfold ckL;rw[h1,h2,hS2];exact H12.pick [0,1,2,3]
  have hfin:S.dcl (aj K.F) ln nm p' c'=S2.aft (if 24<S.n+1 then .err ln 4 else .ok ()):=by
   unfold Ck.dcl;rw[<- hS1,hS2,e1]
  refine Sx.so (λ h1=>?_) (λ h1=>?_)
  ·have h1:24<S.n+1:=by have:=dt h1;omega
   rw[if_pos h1] at hfin;exact sd H13 1 rfl λ w' H'=>⟨rfl,p',c',by rw[hfin];exact H'.post 0 rfl⟩
  ·have h1:¬ 24<S.n+1:=by have:=df h1;omega
   rw[if_neg h1,jh] at hfin;exact⟨rfl,p',c',by rw[hfin];exact H13.post 0 rfl⟩
end
end Go.Proofs.YtojogkljneonmaaGreatDoor
