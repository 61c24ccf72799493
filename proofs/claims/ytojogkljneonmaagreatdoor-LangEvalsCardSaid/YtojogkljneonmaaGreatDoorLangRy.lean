/- The reference's parser: declarations, walked. No condition. -/
import Derived.Test.YtojogkljneonmaaGreatDoorLangRu
import Derived.Test.YtojogkljneonmaaGreatDoorLangZj
import Derived.Test.YtojogkljneonmaaGreatDoorLangRx
import Derived.Test.YtojogkljneonmaaGreatDoorLangZi
set_option linter.unusedVariables false
set_option linter.unusedSimpArgs false
namespace Go.Proofs.YtojogkljneonmaaGreatDoor
open Go Go.Proofs.Tryz Go.Proofs Go.Sep Go.XHeap Go.RowKit Go.Lang
variable {W w0 w:World}{M:Nat->Prop}{L:List Asn}{R:Rx}{l:List Tok}{n:Nat}{line en:Int}
def Ys (t:Tok) (nm:ByteArray) (l:List Tok):Lang.R D :=
 if is cLB l then number l.tail λ v l''=>if v<1∨256<v then .err (now l.tail).line 3 else want cRB l'' λ l''=>want cu l'' λ l''=>.ok (.var t nm 0 v) l''
 else want cu l λ l=>.ok (.var t nm 0 0) l
theorem ade (f:Nat) (l:List Tok):zj f l=if is mb l then name l.tail λ nm l'=>Ys (now l) nm.s l'
  else want da l λ l'=>name l' λ nm l'=>want cLP l' λ l'=>(params 6 l').bind λ ps l'=>Wi f (now l) nm.s ps l':=by
 unfold zj;rfl
theorem Jc (k:Nat) (l:List Tok):params k l=if is cRP l then .ok [] l.tail else params.paramL k l:=rfl
theorem Ax {k:Nat}{l:List Tok}:params.paramL (k+1) l=name l λ t l=>if is cRP l then .ok [t.s] l.tail else want ej l λ l=>(params.paramL k l).bind λ r l=>.ok (t.s::r) l:=by rw[params.paramL]
theorem Ay {l:List Tok}:params.paramL 0 l=name l λ t _=>.err t.line 3:=by rw[params.paramL]
set_option maxHeartbeats 2000000 in
theorem Uo [Inhabited G3o]{f:Nat} (h:(rlA R l 0).at_ W) (hr:zj f l≠ .out):Calls prog 29 #[pt R.b] W (RD R W (rlA R l 0) (zj f l)):=by
 have hG:Good l:=h.1.2.1;have hrun:=ade f l;generalize zj f l=R0 at *;refine anf R.b 0 ?_;refine(St.begin h).al λ k w2 H2=>?_;refine Lm H2 ?_;refine H2.drN λ w3 H3=>?_;have H3:St W (rlA R l 0).own w3 [rlA R l 0,blk k nodeZ.toArray 52]:=H3;have htk:∀ s,is s l=true->(now l).k≠0:=λ s h=>kz h;generalize ht:now l=t at *;refine tw (s:=mb) (n:=0) (R0:=R0) (P:=λ x=>x=l) H3 (.inl ⟨l,rfl,rfl⟩) ?_ ?_
 ·rintro l0 w4 hi rfl H4;rw[if_pos hi] at hrun;refine⟨_,rfl,Sx.so (λ _=>?_) (λ h=>by cases h)⟩;rintro vs rfl;refine H4.al λ k7 w5 H5=>?_;refine H5.sts0 2 (n:=6) (vs:=(ae mb ⟨#[]⟩ t.line 0 (.slice none 0 0) (.slice none 0 0)).toArray) rfl rfl rfl af λ w6 H6=>?_;refine Fx (n:=0) (R0:=R0) (P:=λ x=>x=l0.tail) (P':=λ s l'=>R0=Ys t s l') H6 (.inl ⟨_,rfl,rfl⟩) (λ l' hp=>?_) ?_
  ·subst hp;exact⟨_,hrun,λ l'' h=>h⟩
  intro s Z7 w7 hZ7 H7;refine⟨_,rfl,?_⟩;refine H7.st 2 rfl (i:=1) (by simp [ae]) λ w8 H8=>?_;have H8:St W (rlA R l0 0).own w8 [Z7,blk k nodeZ.toArray 52,blk k7 (ae mb s t.line 0 (.slice none 0 0) (.slice none 0 0)).toArray 52]:=H8;refine tw (s:=cLB) H8 hZ7 ?_ ?_
  ·rintro l1 w9 hi hR H9;unfold Ys at hR;rw[if_pos hi] at hR;refine⟨_,rfl,Sx.so (λ _=>?_) (λ h=>by cases h)⟩;refine afr H9 λ a ha=>?_;have hG9:Good l1.tail:=(H9.nth 0 rfl).1.2.1;rw[ou] at hR;refine(Iz (H9.nth 0 rfl)).mono ?_;intro e w10 he
   cases hb:(number l1.tail λ v l=>Lang.R.ok v l) with
   | out=>rw[hb] at hR;exact absurd hR hr
   | err line en =>
    rw[hb] at he hR;obtain⟨rfl,hp⟩:=he;have H10:=H9.upd 0 rfl hp;refine⟨_,rfl,Au H10 (λ hen=>Sx.so (λ h=>absurd (beq_iff_eq.1 h) hen) (λ _=>?_))⟩;refine H10.st 2 rfl (i:=3) (by simp [ae]) λ w11 H11=>?_;refine H11.call 0 rfl (iy cRB (H11.nth 0 rfl)) λ w12 H12=>?_;refine⟨rfl,H12.call 0 rfl (iy cu (H12.nth 0 rfl)) λ w13 H13=>?_⟩;refine⟨rfl,ac H13 (k:=2) (us:=ae mb s t.line 0 (.slice none 0 0) (.slice none 0 0)) rfl rfl ?_⟩;exact ah H13 (k:=1) (us:=ae mb s t.line 0 (.slice none 0 0) (.slice none 0 0)) rfl rfl rfl af λ w14 H14=>Aw hR az H14
   | ok v l2 =>
    rw[hb] at he hR;obtain⟨-,rfl,hp⟩:=he;have H10:=H9.upd 0 rfl hp
    have hR:R0=if v<1∨256<v then .err (now l1.tail).line 3 else want cRB l2 λ l''=>want cu l'' λ l''=>.ok (.var t s 0 v) l'':=hR
    refine⟨_,rfl,ta H10 (Sx.so (λ _=>?_) (λ h=>by cases h))⟩;refine Sx.so (λ h5=>?_) (λ h5=>?_)
    ·rw[if_pos (.inl (dt h5))] at hR;refine Lp hG9 ha H10 λ w11 H11=>?_;refine H11.call 0 rfl (tu 3 (by decide) (H11.nth 0 rfl)) λ w12 H12=>?_;refine⟨_,rfl,?_⟩;refine H12.st 2 rfl (i:=3) (by simp [ae]) λ w13 H13=>?_;refine H13.call 0 rfl (iy cRB (H13.nth 0 rfl)) λ w14 H14=>?_;refine⟨rfl,H14.call 0 rfl (iy cu (H14.nth 0 rfl)) λ w15 H15=>?_⟩;refine⟨rfl,ac H15 (k:=2) (us:=ae mb s t.line v (.slice none 0 0) (.slice none 0 0)) rfl rfl ?_⟩;exact ah H15 (k:=1) (us:=ae mb s t.line v (.slice none 0 0) (.slice none 0 0)) rfl rfl rfl af λ w14 H14=>Aw hR az H14
    refine Sx.so (λ h6=>?_) (λ h6=>?_)
    ·rw[if_pos (.inr (dt h6))] at hR;refine Lp hG9 ha H10 λ w11 H11=>?_;refine H11.call 0 rfl (tu 3 (by decide) (H11.nth 0 rfl)) λ w12 H12=>?_;refine⟨_,rfl,?_⟩;refine H12.st 2 rfl (i:=3) (by simp [ae]) λ w13 H13=>?_;refine H13.call 0 rfl (iy cRB (H13.nth 0 rfl)) λ w14 H14=>?_;refine⟨rfl,H14.call 0 rfl (iy cu (H14.nth 0 rfl)) λ w15 H15=>?_⟩;refine⟨rfl,ac H15 (k:=2) (us:=ae mb s t.line v (.slice none 0 0) (.slice none 0 0)) rfl rfl ?_⟩;exact ah H15 (k:=1) (us:=ae mb s t.line v (.slice none 0 0) (.slice none 0 0)) rfl rfl rfl af λ w14 H14=>Aw hR az H14
    rw[if_neg (by have:=df h5;have:=df h6;omega)] at hR;refine H10.st 2 rfl (i:=3) (by simp [ae]) λ w11 H11=>?_;have H11:St W (rlA R l0 0).own w11 [rlA R l2 0,blk k nodeZ.toArray 52,blk k7 (ae mb s t.line v (.slice none 0 0) (.slice none 0 0)).toArray 52]:=H11;refine js (n:=0) (R0:=R0) (P:=λ x=>x=l2) (P':=λ l'=>R0=want cu l' λ l''=>.ok (.var t s 0 v) l'') H11 (.inl ⟨_,rfl,rfl⟩) (λ l' hp=>?_) ?_
    ·subst hp;exact⟨_,hR,λ l'' h=>h⟩
    intro Z12 w12 hZ12 H12;refine⟨rfl,?_⟩;refine js (P':=λ l'=>R0= .ok (.var t s 0 v) l') H12 hZ12 (λ l' hp=>⟨_,hp,λ l'' h=>h⟩) ?_;intro Z13 w13 hZ13 H13;refine⟨rfl,ac H13 (k:=2) (us:=ae mb s t.line v (.slice none 0 0) (.slice none 0 0)) rfl rfl ?_⟩;refine ah H13 (k:=1) (us:=ae mb s t.line v (.slice none 0 0) (.slice none 0 0)) rfl rfl rfl af λ w14 H14=>?_;rcases hZ13 with ⟨l3,hR,rfl⟩ | ⟨line,en,hR,rfl⟩
    ·obtain⟨B,hB,H15⟩:=Fw mb s t.line v H14;exact Yr hR az hB (H15.pick [1,0])
    ·exact Aw hR az H14
  ·intro Z9 w9 hZ9 H9;refine⟨_,rfl,Sx.so (λ h=>by cases h) (λ _=>?_)⟩;refine js (P':=λ l'=>R0= .ok (.var t s 0 0) l') H9 hZ9 (λ l' hp=>?_) ?_
   ·obtain⟨hi,hR⟩:=hp;unfold Ys at hR;rw[if_neg (by rw[hi];exact Bool.false_ne_true)] at hR;exact⟨_,hR,λ l'' h=>h⟩
   intro Z13 w13 hZ13 H13;refine⟨rfl,ac H13 (k:=2) (us:=ae mb s t.line 0 (.slice none 0 0) (.slice none 0 0)) rfl rfl ?_⟩;refine ah H13 (k:=1) (us:=ae mb s t.line 0 (.slice none 0 0) (.slice none 0 0)) rfl rfl rfl af λ w14 H14=>?_;rcases hZ13 with ⟨l3,hR,rfl⟩ | ⟨line,en,hR,rfl⟩
   ·obtain⟨B,hB,H15⟩:=Fw mb s t.line 0 H14;exact Yr hR az hB (H15.pick [1,0])
   ·exact Aw hR az H14
 intro Z4 w4 hZ4 H4;refine⟨_,rfl,Sx.so (λ h=>by cases h) (λ _=>?_)⟩;refine js (P':=λ l'=>l'.length<l.length/\R0=name l' λ nm l'=>want cLP l' λ l'=>(params 6 l').bind λ ps l'=>Wi f t nm.s ps l') H4 hZ4 (λ l' hp=>?_) ?_
 ·obtain⟨hi,rfl⟩:=hp;rw[if_neg (by rw[hi];exact Bool.false_ne_true)] at hrun;exact⟨_,hrun,λ hi h=>⟨dn (kz hi),h⟩⟩
 intro Z5 w5 hZ5 H5;refine⟨rfl,?_⟩;rintro vs rfl;refine H5.al λ k14 w6 H6=>?_;refine H6.sts0 2 (n:=6) (vs:=(ae da ⟨#[]⟩ t.line 0 (.slice none 0 0) (.slice none 0 0)).toArray) rfl rfl rfl af λ w7 H7=>?_;refine Fx (P':=λ s l'=>l'.length<l.length/\R0=want cLP l' λ l'=>(params 6 l').bind λ ps l'=>Wi f t s ps l') H7 hZ5 (λ l' hp=>?_) ?_
 ·obtain⟨hl,hR⟩:=hp;exact⟨_,hR,λ _ h=>⟨by have:=kw l';omega,h⟩⟩
 intro nm Z8 w8 hZ8 H8;refine⟨_,rfl,?_⟩;refine H8.st 2 rfl (i:=1) (by simp [ae]) λ w9 H9=>?_;have H9:St W (rlA R l 0).own w9 [Z8,blk k nodeZ.toArray 52,blk k14 (ae da nm t.line 0 (.slice none 0 0) (.slice none 0 0)).toArray 52]:=H9;refine js (P':=λ l'=>l'.length<l.length/\R0=(params 6 l').bind λ ps l'=>Wi f t nm ps l') H9 hZ8 (λ l' hp=>?_) ?_
 ·obtain⟨hl,hR⟩:=hp;exact⟨_,hR,λ _ h=>⟨by have:=kw l';omega,h⟩⟩
 intro Z10 w10 hZ10 H10;have H10:St W (rlA R l 0).own w10 [Z10,blk k nodeZ.toArray 52,blk k14 (ae da nm t.line 0 (.slice none 0 0) (.slice none 0 0)).toArray 52,sl 9 1 (.slice none 0 0) 0 []]:=H10.add (A:=sl 9 1 (.slice none 0 0) 0 []) ⟨Sl.nil _ _ _,XTouch.refl _ _,λ q hq=>by cases hq⟩;have hlL:l.length≤R.L.length:=(ny h).2.2;refine⟨rfl,?_⟩;refine tw (s:=cRP) H10 hZ10 ?_ ?_;intro l1 w11 hi hp H11;refine⟨_,rfl,λ e w=>ajs R f k k14 W l t nm R0 e w,λ _ w=>sr R w,?_,?_⟩
 ·obtain⟨hl,hR⟩:=hp;refine .inr (.inl ⟨rfl,[],l1.tail,none,0,?_,H11⟩);rw[hR];rw[Jc,if_pos hi];rfl
 rotate_left
 intro Z11 w11 hZ11 H11;refine⟨_,rfl,λ e w=>ajs R f k k14 W l t nm R0 e w,λ _ w=>sr R w,?_,?_⟩
 ·rcases hZ11 with ⟨l1,⟨hi,hl,hR⟩,rfl⟩ | ⟨line,en,hR,rfl⟩
  ·refine .inl ⟨rfl,[],l1,none,0,?_,by decide,by omega,H11⟩;rw[hR];rw[Jc,if_neg (by rw[hi];exact Bool.false_ne_true)];show _=(params.paramL 6 l1).bind _;cases params.paramL 6 l1 <;> rfl
  ·exact .inr (.inr ⟨line,en,nm,none,0,0,hR,H11.pick [0,1,2]⟩)
 all_goals
  clear H11 H10 H9 H8 H7 H6 H5 H4 H3 H2;rintro _ x w40 hI
  have hE:(x=true∨∃ line en,R0= .err line en/\(rdA R line en).at_ w40)->∃ (ps:List ByteArray) (p:Option Addr) (m c:Nat) (nm':ByteArray) (N Z:Asn),ZS R 0 R0 (λ l'=>R0=Wi f t nm ps l'/\nm'=nm/\m=ps.length/\N=sl 9 1 (.slice p ps.length c) ps.length (ps.map .string)) Z/\St W (rlA R l 0).own w40 [Z,blk k nodeZ.toArray 52,blk k14 (ae da nm' t.line 0 (.slice none 0 0) (.slice p m c)).toArray 52,N]:=by
   intro hx;rcases hI with ⟨rfl,ps,l1,p,c,hR, -, -,H⟩ | ⟨rfl,ps,l1,p,c,hR,H⟩ | ⟨line,en,nm',p,m,c,hR,H⟩
   ·rcases hx with hx | ⟨line,en, -,hx⟩
    ·cases hx
    ·have h1:=Dk hx;have h2:=ny (H.nth 0 rfl);have h3:=Nn (H.nth 0 rfl).1.2.1;omega
   ·exact⟨ps,p,_,c,nm,_,_,.inl ⟨l1,⟨hR,rfl,rfl,rfl⟩,rfl⟩,H⟩
   ·exact⟨[],p,m,c,nm',emp,_,.inr ⟨line,en,hR,rfl⟩,H.add (A:=emp) ⟨trivial,XTouch.refl _ _,λ q hq=>hq.elim⟩⟩
  cases x with
  | true =>
   refine Sx.so (λ h=>by cases h) (λ _=>?_);obtain⟨ps,p,m,c,nm',N,Z,hZ,H⟩:=hE (.inl rfl);refine pj (P':=λ us B l'=>∃ b,isF (toF b .nil) us B/\R0= .ok (.fn t nm ps 0 0 b) l'/\nm'=nm/\m=ps.length/\N=sl 9 1 (.slice p ps.length c) ps.length (ps.map .string)) (aal f).blk lu (by omega) hr H hZ (λ l' hp=>?_) ?_
   ·obtain⟨hR,a,b,d⟩:=hp;exact⟨_,hR,λ x us B l'' hF h=>⟨x,hF,h,a,b,d⟩⟩
   intro us B Z2 w5 ho hZ2 H5;refine⟨_,rfl,?_⟩;refine H5.al λ k25 w6 H6=>?_;refine H6.sts0 5 (n:=6) (vs:=us.toArray) rfl (ba ho) rfl (by simpa using ho.2) λ w7 H7=>?_;refine ac H7 (k:=5) rfl ho.1 ⟨ba ho,?_⟩;refine H7.al λ k27 w8 H8=>?_;refine H8.st 3 rfl (i:=4) (by simp [ae]) λ w9 H9=>?_;refine ac H9 (k:=3) (us:=ae da nm' t.line 0 (.slice (some ⟨k27,0,none⟩) 1 1) (.slice p m c)) rfl rfl ?_;refine ah H9 (k:=2) (us:=ae da nm' t.line 0 (.slice (some ⟨k27,0,none⟩) 1 1) (.slice p m c)) rfl rfl rfl af λ w10 H10=>?_;rcases hZ2 with ⟨l2,⟨b,hF,hR,rfl,rfl,rfl⟩,rfl⟩ | ⟨line,en,hR,rfl⟩
   ·have H11:=H10.pick [6,1,4,0];simp only[List.append_nil] at H11;obtain⟨B2,hB2,H12⟩:=aam da nm' t.line 0 hF (m:=1) (di hF ho.1).symm (by omega) H11;exact Yr hR az hB2 (H12.pick [1,0])
   ·exact Aw hR az H10
  | false =>
  refine Sx.so (λ _=>?_) (λ h=>by cases h);rcases hI with ⟨-,ps,l1,p,c,hR,hps,hlt,H⟩ | ⟨hx, -⟩ | ⟨line,en,nm',p,m,c,hR,H⟩
  rotate_left
  ·cases hx
  ·refine Au H (λ hen=>Sx.so (λ h=>absurd (beq_iff_eq.1 h) hen) (λ _=>?_));obtain⟨ps,p,m,c,nm',N,Z,hZ,H⟩:=hE (.inr ⟨line,en,hR,H.nth 0 rfl⟩);refine pj (P':=λ us B l'=>∃ b,isF (toF b .nil) us B/\R0= .ok (.fn t nm ps 0 0 b) l'/\nm'=nm/\m=ps.length/\N=sl 9 1 (.slice p ps.length c) ps.length (ps.map .string)) (aal f).blk lu (by omega) hr H hZ (λ l' hp=>?_) ?_
   ·obtain⟨hR,a,b,d⟩:=hp;exact⟨_,hR,λ x us B l'' hF h=>⟨x,hF,h,a,b,d⟩⟩
   intro us B Z2 w5 ho hZ2 H5;refine⟨_,rfl,?_⟩;refine H5.al λ k25 w6 H6=>?_;refine H6.sts0 5 (n:=6) (vs:=us.toArray) rfl (ba ho) rfl (by simpa using ho.2) λ w7 H7=>?_;refine ac H7 (k:=5) rfl ho.1 ⟨ba ho,?_⟩;refine H7.al λ k27 w8 H8=>?_;refine H8.st 3 rfl (i:=4) (by simp [ae]) λ w9 H9=>?_;refine ac H9 (k:=3) (us:=ae da nm' t.line 0 (.slice (some ⟨k27,0,none⟩) 1 1) (.slice p m c)) rfl rfl ?_;refine ah H9 (k:=2) (us:=ae da nm' t.line 0 (.slice (some ⟨k27,0,none⟩) 1 1) (.slice p m c)) rfl rfl rfl af λ w10 H10=>?_;rcases hZ2 with ⟨l2,⟨b,hF,hR,rfl,rfl,rfl⟩,rfl⟩ | ⟨line,en,hR,rfl⟩
   ·have H11:=H10.pick [6,1,4,0];simp only[List.append_nil] at H11;obtain⟨B2,hB2,H12⟩:=aam da nm' t.line 0 hF (m:=1) (di hF ho.1).symm (by omega) H11;exact Yr hR az hB2 (H12.pick [1,0])
   ·exact Aw hR az H10
  clear hE;refine ta H (Sx.so (λ _=>?_) (λ h=>by cases h));obtain⟨hg0,a,ha, -⟩:=du H;have hG1:Good l1:=hg0.2.1;have hat:a<R.L.length:=(List.getElem?_eq_some_iff.1 (cg ha hG1)).1;rcases wm l1 with ⟨a1,a2,a3⟩ | ⟨e1,a1,a2⟩
  ·have hG2:Good l1.tail:=qy hG1 (by omega);refine H.call 0 rfl (wl a1 a2 (H.nth 0 rfl)) λ w41 H41=>?_;refine⟨_,rfl,_,_,_,H41.ld 2 rfl (i:=5) rfl,?_⟩;refine H41.al λ k18 w42 H42=>?_;refine H42.app 3 rfl [.string (now l1).s] (.inr ⟨_,rfl,λ j v hj=>?_⟩) rfl (by intro u hu;rw[List.mem_singleton.1 hu];rfl) (by show ps.length+1≤maxLen;unfold maxLen;omega) (by omega) λ p' c' w43 H43=>?_
   ·match j,hj with
    | 0,hj=>cases hj;exact H42.ld 4 rfl (i:=0) rfl
   refine H43.st 2 rfl (i:=5) (by simp [ae]) λ w44 H44=>?_;have H44:St W (rlA R l 0).own w44 [rlA R l1.tail 0,blk k nodeZ.toArray 52,blk k14 (ae da nm t.line 0 (.slice none 0 0) (.slice p' (ps.length+1) c')).toArray 52,sl 9 1 (.slice p' (ps.length+1) c') (ps.length+1) (ps.map .string++[.string (now l1).s])]:=H44.pick [0,1,2,3];refine⟨_,_,_,H44.ld 2 rfl (i:=5) rfl,Sx.so (λ h6=>?_) (λ h6=>?_)⟩
   ·have h6:ps.length=6:=by have:=dt h6;omega
    rw[show 6 - ps.length=0 by omega,Ay,a3] at hR;refine afr H44 λ b hb=>?_;have hba:b=a+1:=Un hb (qx ha) hG2;subst hba;rintro z8 rfl;rw[show IntKind.wrap .i64 (((a+1:Nat):Int) - 1)=(a:Nat) by rw[show((a+1:Nat):Int) - 1=(a:Int) by omega];have:=hg0.1.2.2.2;exact Go.Bits.n64 (by omega)];refine Lp hG1 ha H44 λ w45 H45=>?_;refine H45.call 0 rfl (tu 3 (by decide) (H45.nth 0 rfl)) λ w46 H46=>?_;refine⟨_,rfl,?_⟩;refine H46.call 0 rfl (rb cRP (H46.nth 0 rfl)) λ w47 H47=>?_;refine⟨_,rfl,Sx.so (λ _=>?_) (λ h=>by cases h)⟩;refine H47.call 0 rfl (iy ej (H47.nth 0 rfl)) λ w48 H48=>?_;exact⟨rfl,.inr (.inr ⟨_,_,nm,p',ps.length+1,c',hR,H48.pick [0,1,2]⟩),il (H.nth 0 rfl) (H48.nth 0 rfl)⟩
   ·have h6:ps.length≤5:=by have:=df h6;omega
    rw[show 6 - ps.length=(6 - (ps.length+1))+1 by omega,Ax,a3] at hR
    have e1:(ps++[(now l1).s]).length=ps.length+1:=by simp
    have e2:(ps++[(now l1).s]).map Value.string=ps.map .string++[.string (now l1).s]:=by simp
    have ht1:=dn (l:=l1) (by omega);refine H44.call 0 rfl (qz cRP (H44.nth 0 rfl)) λ w45 H45=>?_
    cases hi2:is cRP l1.tail with
    | true =>
     rw[hi2] at H45 hR;refine⟨_,rfl,Sx.so (λ h=>by cases h) (λ _=>?_)⟩;have ht2:=dn (kz hi2);refine⟨.inr (.inl ⟨rfl,ps++[(now l1).s],l1.tail.tail,p',c',hR,?_⟩),mi (H.nth 0 rfl) (H45.nth 0 rfl) (by show l1.tail.tail.length<_;omega)⟩;rw[e1,e2];exact H45
    | false =>
     rw[hi2] at H45 hR;have hR:R0=(want ej l1.tail λ l=>(params.paramL (6 - (ps.length+1)) l).bind λ r l=>.ok ((now l1).s::r) l:Lang.R (List ByteArray)).bind (λ r l'=>Wi f t nm (ps++r) l'):=hR;refine⟨_,rfl,Sx.so (λ _=>?_) (λ h=>by cases h)⟩;unfold want at hR
     cases hc:is ej l1.tail with
     | true =>
      rw[hc] at hR;have ht2:=dn (kz hc);refine H45.call 0 rfl (pg hc (H45.nth 0 rfl)) λ w46 H46=>?_;refine⟨rfl,.inl ⟨rfl,ps++[(now l1).s],l1.tail.tail,p',c',?_,by rw[e1];omega,by omega,by rw[e1,e2];exact H46⟩,mi (H.nth 0 rfl) (H46.nth 0 rfl) (by show l1.tail.tail.length<_;omega)⟩;rw[hR,e1];show((params.paramL (6 - (ps.length+1)) l1.tail.tail).bind λ r l=>Lang.R.ok ((now l1).s::r) l).bind _=_
      cases params.paramL (6 - (ps.length+1)) l1.tail.tail with
      | ok r l3=>show Wi f t nm (ps++((now l1).s::r)) l3=Wi f t nm (ps++[(now l1).s]++r) l3;simp
      | err=>rfl
      | out=>rfl
     | false =>
      rw[hc] at hR;refine H45.call 0 rfl (ry hc (H45.nth 0 rfl)) λ w46 H46=>?_;exact⟨rfl,.inr (.inr ⟨_,_,nm,p',ps.length+1,c',hR,H46.pick [0,1,2]⟩),il (H.nth 0 rfl) (H46.nth 0 rfl)⟩
  ·have hR:R0= .err (now l1).line e1:=by
    rw[hR]
    cases hq:6 - ps.length with
    | zero=>rw[Ay,a2];rfl
    | succ q=>rw[Ax,a2];rfl
   refine(Lq (a2 _) (H.nth 0 rfl)).mono ?_;rintro e w41 ⟨rfl,a',⟨-,ha'⟩,hp⟩;obtain rfl:a'=a:=Un ha' ha hG1;have H41:=H.upd 0 rfl hp;refine⟨_,rfl,_,_,_,H41.ld 2 rfl (i:=5) rfl,?_⟩;refine H41.al λ k18 w42 H42=>?_;refine H42.app 3 rfl [.string ⟨#[]⟩] (.inr ⟨_,rfl,λ j v hj=>?_⟩) rfl (by intro u hu;rw[List.mem_singleton.1 hu];rfl) (by show ps.length+1≤maxLen;unfold maxLen;omega) (by omega) λ p' c' w43 H43=>?_
   ·match j,hj with
    | 0,hj=>cases hj;exact H42.ld 4 rfl (i:=0) rfl
   refine H43.st 2 rfl (i:=5) (by simp [ae]) λ w44 H44=>?_;have H44:St W (rlA R l 0).own w44 [rpA R a' (now l1).line e1 ((0:Nat):Int),blk k nodeZ.toArray 52,blk k14 (ae da nm t.line 0 (.slice none 0 0) (.slice p' (ps.length+1) c')).toArray 52]:=H44.pick [0,1,2]
   have hlen:l1.length=R.L.length - a':=by rw[<- ha',List.length_drop]
   refine⟨_,_,_,H44.ld 2 rfl (i:=5) rfl,Sx.so (λ h6=>?_) (λ h6=>?_)⟩
   ·have H45:=St.open_ (L:=rpL R a' (now l1).line e1 ((0:Nat):Int)) H44;refine⟨_,H45.ld 0 rfl (i:=1) rfl,?_⟩;rintro z8 rfl;rw[show IntKind.wrap .i64 (((a':Nat):Int) - 1)=((a' - 1:Nat):Int) by rw[show((a':Nat):Int) - 1=((a' - 1:Nat):Int) by omega];have:=hg0.1.2.2.2;exact Go.Bits.n64 (by omega)];refine H45.st 0 rfl (i:=1) (by simp) λ w45 H46=>?_;have H47:=St.shut (L:=rpL R (a' - 1) (now l1).line e1 ((0:Nat):Int)) H46;obtain⟨t',ht'⟩:∃ t',R.L[a' - 1]?=some t':=⟨_,List.getElem?_eq_getElem (by omega)⟩;refine H47.call 0 rfl (ls 3 ht' (H47.nth 0 rfl)) λ w46 H48=>?_;rw[if_neg a1,if_neg a1] at H48;have H49:=jr ⟨a1,hg0.1⟩ ht' H48;refine⟨_,rfl,?_⟩;refine H49.call 0 rfl (rb cRP (H49.nth 0 rfl)) λ w47 H50=>?_;refine⟨_,rfl,Sx.so (λ _=>?_) (λ h=>by cases h)⟩;refine H50.call 0 rfl (iy ej (H50.nth 0 rfl)) λ w48 H51=>?_;exact⟨rfl,.inr (.inr ⟨_,_,nm,p',ps.length+1,c',hR,H51.pick [0,1,2]⟩),il (H.nth 0 rfl) (H51.nth 0 rfl)⟩
   ·have H49:=jr ⟨a1,hg0.1⟩ (cg ha' hG1) H44;refine H49.call 0 rfl (rb cRP (H49.nth 0 rfl)) λ w47 H50=>?_;refine⟨_,rfl,Sx.so (λ _=>?_) (λ h=>by cases h)⟩;refine H50.call 0 rfl (iy ej (H50.nth 0 rfl)) λ w48 H51=>?_;exact⟨rfl,.inr (.inr ⟨_,_,nm,p',ps.length+1,c',hR,H51.pick [0,1,2]⟩),il (H.nth 0 rfl) (H51.nth 0 rfl)⟩
variable {W w0 w:World}{M:Nat->Prop}{L:List Asn}{R:Rx}{l:List Tok}{n:Nat}{line en:Int}
theorem Lr:∀ (ds es:List D),toD (ds++es) .nil=(toD ds .nil).app (toD es .nil)
 | [],es=>rfl
 | .var t nm w z::ds,es=>by
  show Fo.cons _ _ _ _ _ _ (toD (ds++es) .nil)=Fo.cons _ _ _ _ _ _ ((toD ds .nil).app (toD es .nil));rw[Lr ds es]
 | .fn t nm ps a b c::ds,es=>by
  show Fo.cons _ _ _ _ _ _ (toD (ds++es) .nil)=Fo.cons _ _ _ _ _ _ ((toD ds .nil).app (toD es .nil));rw[Lr ds es]
theorem Lt:∀ (ds:List D),(toD ds .nil).len=ds.length
 | []=>rfl
 | .var ..::ds=>by simp only[toD,Fo.len,Lt ds,List.length_cons]
 | .fn ..::ds=>by simp only[toD,Fo.len,Lt ds,List.length_cons]
theorem adf [Inhabited G3o]{φ:Int->Prop} (H:St w0 M w (rlA R l n::L)) (hq:φ ((kR (now l).k:Nat):Int)):∃ (p2:Option Addr) (k k2:Nat),w.cell? ⟨R.b,0,none⟩=some (.slice p2 k k2)/\∃ z:Int,w.cell? ⟨R.b,0+1,none⟩=some (.int .i64 z)/\((0:Int)≤z/\z<(k:Int))/\Sx.adr p2 λ k3 k4=>∃ x:Int,w.cell? ⟨k3,k4+z.toNat * 3,none⟩=some (.int .u8 x)/\φ x:=by
 obtain⟨h0,a,h1,H⟩:=du H;have H:=St.open_ H;have ht:=cg h1 h0.2.1;have hat:=(List.getElem?_eq_some_iff.1 ht).1;refine⟨_,_,_,H.ld 0 rfl (i:=0) rfl,_,H.ld 0 rfl (i:=1) rfl,⟨by omega,by omega⟩,adr_some ⟨((kR (now l).k:Nat):Int),?_,hq⟩⟩;exact tq (H.nth 1 rfl) ht 0 (.int .u8 ((kR (now l).k:Nat):Int)) rfl
def PK (W:World) (r:C (List D)) (e:Ending) (w':World):Prop:=match r with
 | .ok ds=>∃ p c us B,e= .returned (.tuple #[.slice p ds.length c,.int .i64 0,.int .i64 0])/\isF (toD ds .nil) us B/\Post emp W (all [sl 52 6 (.slice p ds.length c) ds.length us,B]) w'
 | .err line en=>en≠0/\e= .returned (.tuple #[.slice none 0 0,.int .i64 line,.int .i64 en])/\im W w'
def rpI [Inhabited G3o] (R:Rx) (f:Nat) (W:World) (R0:Lang.R (List D)) (p:Option Addr) (m c:Nat) (w:World):Prop :=
 (∃ ds l1 g' us B,isF (toD ds .nil) us B/\m=ds.length/\R0=(decls f g' l1).bind (λ r l'=>.ok (ds++r) l')/\ds.length+l1.length≤8001/\St W emp.own w [rlA R l1 0,sl 52 6 (.slice p m c) m us,B]) ∨
 (∃ line en,R0= .err line en/\St W emp.own w [rdA R line en])
theorem Ps [Inhabited G3o]{f g:Nat} (s:List UInt8) (hr:s.length≤8000->decls f g (lex s 1)≠ .out):Calls prog 13 #[.string (ofL s)] W (PK W (dl f g s)):=by
 refine ang (ofL s) ?_;refine Sx.so (λ hs=>?_) (λ hs=>?_)
 ·have hs:8000<s.length:=by have:=dt hs;rw[ak] at this;omega
  unfold dl;rw[if_pos hs];exact⟨by decide,rfl,XTouch.refl _ _⟩
 have hs:¬ 8000<s.length:=by have:=df hs;rw[ak] at this;omega
 have hr:=hr (by omega);refine(Lj s (by omega)).mono ?_;rintro _ w2 ⟨p,c,rfl,hp⟩;have H2:=(St.nil W).add hp;refine⟨_,_,_,rfl,?_⟩;rintro vs rfl;refine H2.al λ k3 w3 H3=>?_;have hgood:=yh (s:=s) (by omega) 1;obtain⟨t0,l0,hl0⟩:=hgood.cons
 obtain⟨gb,off,rfl⟩:∃ gb off,p=some ⟨gb,off,none⟩:=by
  have h1:Sl w3 96 3 (.slice p (lex s 1).length c) (lex s 1).length ((lex s 1).flatMap tkR):=H3.nth 0 rfl;rcases h1.2 with ⟨-,h2⟩ | ⟨gb,off,cap,cur,hv, -⟩
  ·rw[hl0] at h2;simp at h2
  ·simp at hv;exact⟨gb,off,hv.1⟩
 obtain⟨R,hRx⟩:∃ R:Rx,R=⟨k3,gb,off,c,lex s 1⟩:=⟨_,rfl⟩
 have H4:St W emp.own w3 [rlA R (lex s 1) 0]:=by
  have h1:St W emp.own w3 (rpL R 0 0 0 ((0:Nat):Int)++[]):=by rw[hRx];exact H3.pick [1,0]
  exact pb ⟨by rw[hRx];exact hgood,hgood,by omega⟩ (by rw[hRx];rfl) (St.shut (L:=rpL R 0 0 0 ((0:Nat):Int)) h1)
 have H5:St W emp.own w3 [rlA R (lex s 1) 0,sl 52 6 (.slice none 0 0) 0 [],all []]:=(H4.add (A:=sl 52 6 (.slice none 0 0) 0 []) ⟨Sl.nil _ _ _,XTouch.refl _ _,λ q hq=>by cases hq⟩).add (A:=all []) ⟨trivial,XTouch.refl _ _,λ q hq=>hq.elim⟩;obtain⟨R0,hR0⟩:∃ R0,R0=decls f g (lex s 1):=⟨_,rfl⟩
 have hpar:dl f g s=toC R0:=by
  unfold dl;rw[if_neg hs,hR0]
 have hout:R0≠ .out:=by rw[hR0];exact hr
 have hb:k3=R.b:=by rw[hRx]
 rw[hpar];subst hb;refine⟨λ p m c w=>rpI R f W R0 p m c w,λ _ _ _ w=>sr R w,.inl ⟨[],lex s 1,g,[],_,⟨rfl,rfl⟩,rfl,by rw[hR0];cases decls f g (lex s 1) <;> rfl,by have:=hgood.2.2.2;simpa using this,H5⟩,?_⟩;clear H5 H4 H3 H2 hp;rintro _ p m c4 w4 (⟨ds,l1,g',us,B,hF,hm,hR,hlen,H⟩ | ⟨line,en,hR,H⟩)
 ·refine ta H (Sx.so (λ _=>?_) (λ h=>by cases h));refine adf H ?_;refine H.drN λ w5 H5=>?_
  cases g' with
  | zero=>exact absurd (by rw[hR];rfl) hout
  | succ g' =>
  have hR:R0=((if (now l1).k=0 then .ok [] l1 else (zj f l1).bind λ d l=>(decls f g' l).bind λ ds l=>.ok (d::ds) l):Lang.R (List D)).bind (λ r l'=>.ok (ds++r) l'):=hR;refine Sx.so (λ hk=>?_) (λ hk=>?_)
  ·have hk:¬ (now l1).k=0:=λ e=>by
    rw[show((kR (now l1).k:Nat):Int)=101 from (pq (.inr (.inr (.inr ⟨rfl,rfl⟩)))).2 e] at hk;cases hk
   rw[if_neg hk] at hR;have hdne:zj f l1≠ .out:=λ e=>hout (by rw[hR,e];rfl);refine(Uo (H5.nth 0 rfl) hdne).mono ?_;intro e w6 he
   cases hd:zj f l1 with
   | out=>exact absurd hd hdne
   | err line en =>
    rw[hd] at he hR;obtain⟨vs,rfl,ho,hp⟩:=he;have H6:=H5.upd 0 rfl hp;refine⟨_,rfl,?_⟩;refine H6.al λ k11 w7 H7=>?_;refine H7.sts0 3 (n:=6) (vs:=vs.toArray) rfl (ba ho) rfl (by simpa using ho.2) λ w8 H8=>?_;refine ac H8 (k:=3) rfl ho.1 ⟨ba ho,?_⟩;refine H8.al λ k13 w9 H9=>?_;simp only[List.append_nil] at H9;refine H9.app 1 rfl vs (.inr ⟨_,rfl,λ j v hj=>?_⟩) (by rw[ho.1]) ho.2 (by show m+1≤maxLen;unfold maxLen;omega) (by omega) λ p' c' w10 H10=>?_
    ·rw[show(Addr.add ⟨k13,0,none⟩ j)=⟨k13,j,none⟩ by simp [Addr.add];intro e;exact e.symm];exact H9.ld 4 rfl (i:=j) (by simpa using hj)
    exact⟨.inr ⟨line,en,hR,H10.pick [0]⟩,il (H.nth 0 rfl) (H10.nth 0 rfl)⟩
   | ok d l2 =>
    rw[hd] at he hR;obtain⟨vs,B2,rfl,ho,hF2,hp⟩:=he;obtain⟨-,hlt⟩:=rr (by omega) hd;have H6:=St.open_ (L:=[_,_]) (H5.upd 0 rfl hp);have hR:R0=((decls f g' l2).bind λ ds l=>.ok (d::ds) l:Lang.R (List D)).bind (λ r l'=>.ok (ds++r) l'):=hR;refine⟨_,rfl,?_⟩;refine H6.al λ k11 w7 H7=>?_;refine H7.sts0 4 (n:=6) (vs:=vs.toArray) rfl (ba ho) rfl (by simpa using ho.2) λ w8 H8=>?_;refine ac H8 (k:=4) rfl ho.1 ⟨ba ho,?_⟩;refine H8.al λ k13 w9 H9=>?_;simp only[List.append_nil] at H9;refine H9.app 2 rfl vs (.inr ⟨_,rfl,λ j v hj=>?_⟩) (by rw[ho.1]) ho.2 (by show m+1≤maxLen;unfold maxLen;omega) (by omega) λ p' c' w10 H10=>?_
    ·rw[show(Addr.add ⟨k13,0,none⟩ j)=⟨k13,j,none⟩ by simp [Addr.add];intro e;exact e.symm];exact H9.ld 5 rfl (i:=j) (by simpa using hj)
    have H11:=H10.pick [3,1,0,2];obtain⟨C,hC,H12⟩:=ph hF hF2 H11;rw[<- Lr] at hC;have H13:St W emp.own w10 [rlA R l2 0,sl 52 6 (.slice p' (m+1) c') (m+1) (us++vs),C]:=H12.pick [1,2,0];refine⟨.inl ⟨ds++[d],l2,g',_,C,hC,by simp [hm],?_,by simp;omega,H13⟩,mi (H.nth 0 rfl) (H13.nth 0 rfl) hlt⟩;rw[hR]
    cases decls f g' l2 with
    | ok r l'=>show Lang.R.ok (ds++(d::r)) l'=Lang.R.ok (ds++[d]++r) l';simp
    | err a b=>rfl
    | out=>rfl
  ·have hk:(now l1).k=0:=(pq (.inr (.inr (.inr ⟨rfl,rfl⟩)))).1 (bne_eq_false_iff_eq.1 hk);rw[if_pos hk] at hR
   have hR:R0= .ok ds l1:=by rw[hR];show Lang.R.ok (ds++[]) l1=_;rw[List.append_nil]
   refine ta H5 (Sx.so (λ h=>by cases h) (λ _=>?_));rw[hR];subst hm;refine⟨p,c4,us,B,rfl,hF,?_⟩;exact St.new (St.shut (L:=[_,_]) (L':=[rlA R l1 0]) (H5.pick [1,2,0])) 0 rfl
 ·refine Au H (λ hen=>Sx.so (λ h=>absurd (beq_iff_eq.1 h) hen) (λ _=>?_));refine H.drN λ w5 H5=>?_;refine Au H5 (λ hen=>Sx.so (λ _=>?_) (λ h=>by rw[bne_eq_false_iff_eq] at h;exact absurd h hen));obtain⟨h0,a,z,t,h1,H6⟩:=pc H5;have H7:=St.open_ H6;refine⟨_,H7.ld 0 rfl (i:=2) rfl,_,H7.ld 0 rfl (i:=3) rfl,?_⟩;refine H5.drN λ w6 H8=>?_;rw[hR];exact⟨hen,rfl,H8.touch⟩
def isV (DA:Asn):Fo->List Value->Prop
 | .nil,vs=>vs=[]
 | .cons k s line val kids names rest,vs=>∃ q c us q2 c2 ws,isV DA kids us/\isV DA rest ws/\vs=ae k s line val (.slice q kids.len c) (.slice q2 names.length c2)++ws /\
   (∀ w,DA.at_ w->Sl w 52 6 (.slice q kids.len c) kids.len us)/\(∀ w,DA.at_ w->Sl w 9 1 (.slice q2 names.length c2) names.length (names.map .string))
theorem Fy {DA:Asn}:∀ {f:Fo}{us:List Value}{A:Asn},isF f us A->(∀ w,DA.at_ w->A.at_ w)->isV DA f us
 | .nil,us,A,h,_=>h.1
 | .cons k s line val kids names rest,us,A,h,hA=>by
  obtain⟨q,c,us1,Ak,q2,c2,ws,As,g1,g2,rfl,rfl⟩:=h;have h1:∀ w,DA.at_ w->here [sl 52 6 (.slice q kids.len c) kids.len us1,Ak,sl 9 1 (.slice q2 names.length c2) names.length (names.map .string)] w:=λ w hw=>(hA w hw).1;exact⟨q,c,us1,q2,c2,ws,Fy g1 (λ w hw=>(h1 w hw).nth 1 rfl),Fy g2 (λ w hw=>(hA w hw).2.2),rfl,λ w hw=>(h1 w hw).nth 0 rfl,λ w hw=>(h1 w hw).nth 2 rfl⟩
def Suf (DA:Asn) (f:Fo) (us:List Value) (j:Nat) (r:Fo) (ws:List Value):Prop:=isV DA r ws/\∃ pre,us=pre++ws/\pre.length=j * 6/\j+r.len=f.len
theorem Suf.start {DA:Asn}{f:Fo}{us:List Value} (h:isV DA f us):Suf DA f us 0 f us:=⟨h,[],rfl,rfl,by omega⟩
theorem adg {w:World}{e:TypeId}{n m c j:Nat}{p:Option Addr}{xs pre x post:List Value} (h:Sl w e n (.slice p m c) m xs) (hx:xs=pre++(x++post)) (hp:pre.length=j * n) (hl:x.length=n) (hn:0<n){φ:Nat->Nat->Prop}
  (hφ:∀ g o,Sx.cellsAt w ⟨g,o+j * n,none⟩ x.toArray->φ g o):Sx.adr p φ:=by
 obtain⟨hlen,h⟩:=h;rcases h with ⟨h,h0⟩ | ⟨g,off,cap,cur,hv,hb,h1,h2,h3,h4⟩
 ·subst h0;rw[hx] at hlen;simp only[List.length_append] at hlen;omega
 ·simp at hv;obtain⟨rfl,rfl⟩:=hv;refine adr_some (hφ g off (Go.Sx.cellsAt_of_blk hb _ λ i v hi=>?_))
  have hi2:x[i]?=some v:=by simpa using hi
  have hlt:i<n:=by have:=(List.getElem?_eq_some_iff.1 hi2).1;omega
  have hx2:xs[j * n+i]?=some v:=by
   rw[hx,List.getElem?_append_right (by omega),hp,show j * n+i - j * n=i by omega,List.getElem?_append_left (by omega)];exact hi2
  have hlt2:j * n+i<m * n:=by have:=(List.getElem?_eq_some_iff.1 hx2).1;omega
  rw[<- h4,List.getElem?_take,if_pos hlt2,List.getElem?_drop] at hx2;rw[<- Array.getElem?_toList,Nat.add_assoc];exact hx2
theorem Suf.next [Inhabited G3o]{DA:Asn}{f:Fo}{us ws:List Value}{j:Nat}{k s:ByteArray}{line val:Int}{kids rest:Fo}{names:List ByteArray} (h:Suf DA f us j (.cons k s line val kids names rest) ws) :
  ∃ q c us1 q2 c2 ws',isV DA kids us1/\Suf DA f us (j+1) rest ws'/\j<f.len/\(∀ w,DA.at_ w->Sl w 52 6 (.slice q kids.len c) kids.len us1)/\(∀ w,DA.at_ w->Sl w 9 1 (.slice q2 names.length c2) names.length (names.map .string)) /\
   ∀ {w:World} {p:Option Addr} {cp:Nat} {φ:Nat->Nat->Prop},Sl w 52 6 (.slice p f.len cp) f.len us->(∀ g o,Sx.cellsAt w ⟨g,o+j * 6,none⟩ (ae k s line val (.slice q kids.len c) (.slice q2 names.length c2)).toArray->φ g o)->Sx.adr p φ:=by
 obtain⟨hV,pre,hp,hl,hlen⟩:=h;obtain⟨q,c,us1,q2,c2,ws',h1,h2,rfl,h3,h4⟩:=hV;simp only[Fo.len] at hlen;refine⟨q,c,us1,q2,c2,ws',h1,⟨h2,pre++ae k s line val (.slice q kids.len c) (.slice q2 names.length c2),by rw[hp,List.append_assoc],?_,by omega⟩,by omega,h3,h4,λ hsl hφ=>adg hsl hp hl rfl (by decide) hφ⟩;rw[List.length_append,hl];show j * 6+6=_;omega
structure Ck where
 Ls:List ByteArray
 p:Option Addr
 c:Nat
 n:Int
 line:Int
 err:Int
structure Kx where
 c:Nat
 dp:Option Addr
 dc:Nat
 F:Fo
 us:List Value
 DA:Asn
def ckL (K:Kx) (S:Ck):List Asn:=[blk K.c #[.slice K.dp K.F.len K.dc,.slice S.p S.Ls.length S.c,.int .i64 S.n,.int .i64 S.line,.int .i64 S.err] 50,sl 9 1 (.slice S.p S.Ls.length S.c) S.Ls.length (nx S.Ls),K.DA]
def ckA (K:Kx) (S:Ck):Asn:=all (ckL K S)
def KOk (K:Kx):Prop:=(∀ w,K.DA.at_ w->Sl w 52 6 (.slice K.dp K.F.len K.dc) K.F.len K.us)/\isV K.DA K.F K.us/\K.F.len≤8001
def Ck.aft (S:Ck) (r:C Unit):Ck:=if S.err=0 then (match r with
 | .ok _=>S
 | .err l e=>{ S with line:=l,err:=e }) else S
theorem ey {S:Ck} (h:S.err≠0) (r:C Unit):S.aft r=S:=by unfold Ck.aft;rw[if_neg h]
theorem jh (S:Ck):S.aft (.ok ())=S:=by unfold Ck.aft;split <;> rfl
theorem Up (S:Ck) (r:C Unit):(S.aft r).Ls=S.Ls:=by
 unfold Ck.aft;split
 ·cases r <;> rfl
 ·rfl
def Jd {α:Type} (r:C α):Prop:=∀ l e,r= .err l e->e≠0
theorem pm [Inhabited G3o]{S:Ck}{r1 r2:C Unit} (h:Jd r1):(S.aft r1).aft r2=S.aft (r1.bind λ _=>r2):=by
 by_cases h0:S.err=0
 ·cases r1 with
  | ok x=>rw[show S.aft (.ok x)=S from jh S];rfl
  | err l e =>
   have h1:S.aft (.err l e)={ S with line:=l,err:=e }:=by unfold Ck.aft;rw[if_pos h0]
   rw[h1];show _=S.aft (.err l e);rw[h1];exact ey (h l e rfl) r2
 ·rw[ey h0,ey h0,ey h0]
variable {W w0 w:World}{M:Nat->Prop}{L:List Asn}{K:Kx}{S:Ck}
theorem nz [Inhabited G3o]{k s:ByteArray}{ln v e:Int}{q q2:Option Addr}{m c m2 c2:Nat} (h:(ckA K S).at_ W):Calls prog 14 #[pt K.c,.agg (ae k s ln v (.slice q m c) (.slice q2 m2 c2)).toArray,.int .i64 e] W λ en w'=>en= .returned (.tuple #[])/\Post (ckA K S) W (ckA K (S.aft (.err ln e))) w':=by
 refine amp K.c 0 _ e ?_;have H:St W (ckA K S).own W (ckL K S++[]):=St.open_ (St.begin h);refine H.al λ k2 w2 H2=>?_;refine⟨_,H2.ld 0 rfl (i:=4) rfl,Sx.so (λ h0=>?_) (λ h0=>?_)⟩
 ·have h0:S.err=0:=beq_iff_eq.1 h0;refine H2.st 0 rfl (i:=4) (by simp) λ w3 H3=>?_;refine⟨_,H3.ld 3 rfl (i:=2) rfl,?_⟩;refine H3.st 0 rfl (i:=3) (by simp) λ w4 H4=>⟨rfl,?_⟩;unfold Ck.aft;rw[if_pos h0];exact(St.shut (L:=ckL K { S with line:=ln,err:=e }) (L':=[_]) H4).post 0 rfl
 ·have h0:S.err≠0:=beq_eq_false_iff_ne.1 h0;rw[ey h0];exact⟨rfl,(St.shut (L:=ckL K S) (L':=[_]) H2).post 0 rfl⟩
theorem lv [Inhabited G3o] (s:ByteArray) (hK:KOk K) (h:(ckA K S).at_ W):Calls prog 18 #[pt K.c,.string s] W λ e w'=>im W w'/\match aj K.F s with
  | some (k,v,m)=>∃ nm ln q mm c q2 c2,e= .returned (.tuple #[.agg (ae k nm ln v (.slice q mm c) (.slice q2 m c2)).toArray,.bool true])
  | none=>e= .returned (.tuple #[.agg nodeZ.toArray,.bool false]):=by
 refine amq K.c 0 s ?_;refine(St.nil W).al λ k w2 H2=>?_;have h2:=fc h H2.touch;have H:St w2 (ckA K S).own w2 (ckL K S++[]):=St.open_ (St.begin h2);refine⟨λ i w=>w=w2/\∃ (j:Nat) (r:Fo) (ws:List Value),i=(j:Nat)/\Suf K.DA K.F K.us j r ws/\aj K.F s=aj r s,λ i _=>K.F.len - i.toNat,⟨rfl,0,K.F,K.us,rfl,Suf.start hK.2.1,rfl⟩,?_⟩;rintro _ i w3 ⟨rfl,j,r,ws,rfl,hS,hg⟩;have hsl:=hK.1 w3 (H.nth 2 rfl);refine⟨_,_,_,H.ld 0 rfl (i:=0) rfl,?_⟩
 cases r with
 | nil =>
  obtain⟨-,pre, -, -,hl⟩:=hS;simp only[Fo.len] at hl;refine Sx.so (λ h1=>by have:=dt h1;omega) (λ _=>?_);rintro vs rfl;refine ah H2 (k:=0) (us:=nodeZ) rfl rfl rfl cz λ w8 H8=>⟨H8.touch,?_⟩;rw[hg];rfl
 | cons k1 s1 ln v kids ns rest =>
  obtain⟨q,c,us1,q2,c2,ws',h1,h3,hj,h4,h5,hat⟩:=hS.next
  refine Sx.so (λ _=>?_) (λ h1=>by have:=df h1;omega);refine⟨_,_,_,H.ld 0 rfl (i:=0) rfl,⟨by omega,by omega⟩,?_⟩;refine hat hsl λ g o hc=>?_;rw[Int.toNat_natCast];refine⟨s1,hc 1 (.string s1) rfl,?_⟩
  try dsimp only
  rw[ab];refine Sx.so (λ h6=>?_) (λ h6=>?_)
  ·have h6:s1=s:=dt h6;refine⟨_,_,_,H.ld 0 rfl (i:=0) rfl,⟨by omega,by omega⟩,?_⟩;refine hat hsl λ g2 o2 hc2=>?_;refine⟨_,rfl,hc2,?_⟩;refine ah H2 (k:=0) (us:=ae k1 s1 ln v (.slice q kids.len c) (.slice q2 ns.length c2)) rfl rfl rfl af λ w8 H8=>⟨H8.touch,?_⟩;rw[hg,show aj (.cons k1 s1 ln v kids ns rest) s=some (k1,v,ns.length) by rw[aj,if_pos h6]];exact⟨_,_,_,_,_,_,_,rfl⟩
  ·have h6:¬ s1=s:=df h6;rintro z rfl;have hz:=hK.2.2;rw[qd (by omega)];refine⟨⟨rfl,j+1,rest,ws',rfl,h3,?_⟩,by show _ - ((j+1:Nat):Int).toNat<_ - ((j:Nat):Int).toNat;omega⟩;rw[hg,aj,if_neg h6]
theorem iz [Inhabited G3o] (s:ByteArray) (hs:S.Ls.length≤100) (h:(ckA K S).at_ W):Calls prog 30 #[pt K.c,.string s] W λ e w'=>e= .returned (.bool (jy S.Ls s))/\im W w':=by
 refine amr K.c 0 s ?_;have H:St W (ckA K S).own W (ckL K S++[]):=St.open_ (St.begin h);refine⟨λ i w=>w=W/\∃ j:Nat,i=(j:Nat)/\j≤S.Ls.length/\jy S.Ls s=jy (S.Ls.drop j) s,λ i _=>S.Ls.length - i.toNat,⟨rfl,0,rfl,Nat.zero_le _,rfl⟩,?_⟩;rintro _ i w3 ⟨rfl,j,rfl,hj,hg⟩;refine⟨_,_,_,H.ld 0 rfl (i:=1) rfl,Sx.so (λ h1=>?_) (λ h1=>?_)⟩
 ·have h1:j<S.Ls.length:=by have:=dt h1;omega
  refine⟨_,_,_,H.ld 0 rfl (i:=1) rfl,⟨by omega,by omega⟩,?_⟩;refine mc (H.nth 1 rfl) (i:=j) (v:=.string S.Ls[j]) (by simp [nx,h1]) λ g2 o2 hc=>?_;refine⟨S.Ls[j],by rw[ix1];exact hc,?_⟩
  try dsimp only
  rw[ab];rw[List.drop_eq_getElem_cons h1] at hg;refine Sx.so (λ h6=>?_) (λ h6=>?_)
  ·refine⟨?_,XTouch.refl _ _⟩;rw[hg];unfold jy;rw[List.any_cons,h6,Bool.true_or]
  ·rintro z rfl;rw[qd (by omega)];refine⟨⟨rfl,j+1,rfl,by omega,?_⟩,by show _ - ((j+1:Nat):Int).toNat<_ - ((j:Nat):Int).toNat;omega⟩;rw[hg];unfold jy;rw[List.any_cons,h6,Bool.false_or]
 ·have h1:j=S.Ls.length:=by have:=df h1;omega
  refine⟨?_,XTouch.refl _ _⟩;rw[hg,h1,List.drop_length];rfl
end Go.Proofs.YtojogkljneonmaaGreatDoor
