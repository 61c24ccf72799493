/- The reference's parser: statements that begin with a name. No condition. -/
import Derived.Test.YtojogkljneonmaaGreatDoorLangRp
set_option linter.unusedVariables false
set_option linter.unusedSimpArgs false
namespace Go.Proofs.YtojogkljneonmaaGreatDoor
open Go Go.Proofs.Tryz Go.Proofs Go.Sep Go.XHeap Go.RowKit Go.Lang
variable {W w0 w:World}{M:Nat->Prop}{L:List Asn}{R:Rx}{l:List Tok}{n:Nat}{line en:Int}
theorem ba {us:List Value} (ho:ones us):us.toArray.size=6:=by simpa using ho.1
theorem Jb [Inhabited G3o]{x:T}{us:List Value}{B:Asn}{q:Nat} (kd nm:ByteArray) (ln:Int) (ho:ones us) (hF:isF (toF x .nil) us B) (H:St w0 M w (blk q us.toArray 52::B::L)) :
  ∃ B',isF (.cons kd nm ln 0 (toF x .nil) [] .nil) (ae kd nm ln 0 (.slice (some ⟨q,0,none⟩) 1 1) (.slice none 0 0)) B'/\St w0 M w (B'::L) :=
 Av kd nm ln 0 hF (m:=1) (di hF ho.1).symm (by omega) H
theorem Um [Inhabited G3o]{x y:T}{us vs:List Value}{A B:Asn}{q:Nat} (kd nm:ByteArray) (ln:Int) (ho:ones us) (ho2:ones vs) (hF:isF (toF x .nil) us A) (hF2:isF (toF y .nil) vs B) (H:St w0 M w (A::B::blk q (us++vs).toArray 52::L)) :
  ∃ B',isF (.cons kd nm ln 0 (toF x (toF y .nil)) [] .nil) (ae kd nm ln 0 (.slice (some ⟨q,0,none⟩) 2 2) (.slice none 0 0)) B'/\St w0 M w (B'::L):=by
 obtain⟨C,hC,H2⟩:=ph hF hF2 H;rw[<- lf] at hC;refine Av kd nm ln 0 hC (m:=2) ?_ (by omega) (H2.perm (List.Perm.swap ..));rw[lf,Fo.app_len,<- di hF ho.1,<- di hF2 ho2.1]
def adc (f n:Nat) (t:Tok) (l:List Tok):Lang.R T :=
 if is cLP l then (run f .args n l.tail).bind λ xs l=>want cu l λ l=>.ok (.doS t.line (.call t none xs)) l
 else if is cLB l then (run f .expr n l.tail).bind λ p l=>want cRB l λ l=>want cEq l λ l=>(run f .expr n l).bind λ x l=>want cu l λ l=>.ok (.putS t 0 0 p x) l
 else want cEq l λ l=>(run f .expr n l).bind λ x l=>want cu l λ l=>.ok (.setS t 0 0 x) l
theorem Pq [Inhabited G3o]{f:Nat} (I:JE 119 .expr f) (Ia:JA f) (h:(rlA R l n).at_ W) (hn:n≤24) (hk:(now l).k=1) (hr:run (f+1) .stmt n l≠ .out):Calls prog 117 #[pt R.b] W (RK R n W (rlA R l n) (run (f+1) .stmt n l)):=by
 have hrun:run (f+1) .stmt n l=name l (adc f n):=by rw[run,if_pos hk];rfl
 generalize run (f+1) .stmt n l=R0 at *;refine aiy R.b 0 ?_;refine(St.begin h).al λ k w2 H2=>?_;refine H2.dr λ w3 H3=>?_;refine Iv H3 ?_;refine H3.alb λ k6 w4 H4 _ hb=>⟨hb,?_⟩;refine H4.sts0 2 (n:=3) (vs:=(tkR (now l)).toArray) rfl rfl rfl (by simpa using mr _) λ w5 H5=>?_;clear H2 H3 H4 hb;have H5:St W (rlA R l n).own w5 [rlA R l n,blk k nodeZ.toArray 52,blk k6 (tkR (now l)).toArray 96]:=H5;generalize ht:now l=t at *;refine Fx (n:=n) (R0:=R0) (P:=λ x=>x=l/\R0=name l (adc f n)) (P':=λ s l'=>s=t.s/\R0=adc f n t l') H5 (.inl ⟨l,⟨rfl,hrun⟩,rfl⟩) (λ l' hp=>?_) ?_
 ·obtain⟨rfl,hR⟩:=hp;exact⟨_,hR,λ l' h=>⟨by rw[ht],by rw[ht] at h;exact h⟩⟩
 intro s Z6 w6 hZ6 H6;refine⟨_,rfl,?_⟩;refine tw (s:=cLP) H6 hZ6 ?_ ?_
 ·rintro l1 w7 hi ⟨rfl,hR⟩ H7;unfold adc at hR;rw[if_pos hi] at hR;refine⟨_,rfl,Sx.so (λ _=>?_) (λ h=>by cases h)⟩;refine adb Ia hn hr H7 hR ?_;intro p m c us S B Z8 w8 hZ8 H8;refine⟨_,_,_,rfl,?_⟩;refine js (P':=λ l'=>∃ xs,isF (toF xs .nil) us B/\m=(toF xs .nil).len/\S=sl 52 6 (.slice p m c) m us/\R0= .ok (.doS t.line (.call t none xs)) l') H8 hZ8 (λ l' hp=>?_) ?_
  ·obtain⟨xs,a,b,d,hR⟩:=hp;exact⟨_,hR,λ l'' h=>⟨xs,a,b,d,h⟩⟩
  intro Z9 w9 hZ9 H9;refine⟨rfl,_,H9.ld 4 rfl (i:=2) rfl,_,H9.ld 4 rfl (i:=2) rfl,?_⟩;rintro vs2 rfl;refine⟨rfl,?_⟩;refine H9.al λ k10 w10 H10=>?_;rintro vs3 rfl;refine ah H10 (k:=3) (us:=ae abh ⟨#[]⟩ t.line 0 (.slice (some ⟨k10,0,none⟩) 1 1) (.slice none 0 0)) rfl rfl rfl af λ w11 H11=>?_;rcases hZ9 with ⟨l2,⟨xs,hF,rfl,rfl,hR⟩,rfl⟩ | ⟨line,en,hR,rfl⟩
  ·obtain⟨B2,hB2,H12⟩:=Pk ip t.s t.line 0 hF (H11.pick [1,2,5,0]);obtain⟨B3,hB3,H13⟩:=Jb (x:=.call t none xs) abh (ofL []) t.line az hB2 (H12.pick [1,0,2]);exact kg hR az hB3 (H13.pick [1,0])
  ·exact cq hR az H11
 intro Z7 w7 hZ7 H7;refine⟨_,rfl,Sx.so (λ h=>by cases h) (λ _=>?_)⟩;refine tw (s:=cLB) H7 hZ7 ?_ ?_
 ·rintro l1 w8 hi ⟨hi0,rfl,hR⟩ H8;unfold adc at hR;rw[if_neg (by rw[hi0];exact Bool.false_ne_true),if_pos hi] at hR;refine⟨_,rfl,Sx.so (λ _=>?_) (λ h=>by cases h)⟩;refine pj (P:=λ x=>x=l1.tail) (P':=λ us B l'=>∃ x,isF (toF x .nil) us B/\R0=want cRB l' λ l=>want cEq l λ l=>(run f .expr n l).bind λ y l=>want cu l λ l=>.ok (.putS t 0 0 x y) l) I rz hn hr H8 (.inl ⟨_,rfl,rfl⟩) (λ l' hp=>?_) ?_
  ·subst hp;exact⟨_,hR,λ x us B l' hF h=>⟨x,hF,h⟩⟩
  intro us B Z9 w9 ho hZ9 H9;refine⟨_,rfl,?_⟩;refine H9.al λ k12 w10 H10=>?_;refine H10.sts0 4 (n:=6) (vs:=us.toArray) rfl (ba ho) rfl (by simpa using ho.2) λ w11 H11=>?_;refine js (P':=λ l'=>∃ x,isF (toF x .nil) us B/\R0=want cEq l' λ l=>(run f .expr n l).bind λ y l=>want cu l λ l=>.ok (.putS t 0 0 x y) l) H11 hZ9 (λ l' hp=>?_) ?_
  ·obtain⟨x,a,hR⟩:=hp;exact⟨_,hR,λ l'' h=>⟨x,a,h⟩⟩
  intro Z12 w12 hZ12 H12;refine⟨rfl,?_⟩;refine js (P':=λ l'=>∃ x,isF (toF x .nil) us B/\R0=(run f .expr n l').bind λ y l=>want cu l λ l=>.ok (.putS t 0 0 x y) l) H12 hZ12 (λ l' hp=>?_) ?_
  ·obtain⟨x,a,hR⟩:=hp;exact⟨_,hR,λ l'' h=>⟨x,a,h⟩⟩
  intro Z13 w13 hZ13 H13;refine⟨rfl,_,H13.ld 3 rfl (i:=2) rfl,?_⟩;refine vi (P':=λ vs B2 l'=>∃ x y,isF (toF x .nil) us B/\isF (toF y .nil) vs B2/\R0= .ok (.putS t 0 0 x y) l') I hn hr H13 hZ13 (λ l' hp=>?_) ?_
  ·obtain⟨x,a,hR⟩:=hp;exact⟨_,hR,λ y vs B2 l'' hF h=>⟨x,y,a,hF,h⟩⟩
  intro q vs B2 Z14 w14 ho2 hZ14 H14;refine⟨_,rfl,?_⟩;refine H14.al λ k14 w15 H15=>?_;refine H15.sts0 7 (n:=6) (vs:=(ae ly ⟨#[]⟩ t.line 0 (.slice (some ⟨q,0,none⟩) 1 1) (.slice none 0 0)).toArray) rfl rfl rfl af λ w16 H16=>?_;refine H16.dr λ w17 H17=>?_;refine ac H17 (k:=7) (us:=ae ly ⟨#[]⟩ t.line 0 (.slice (some ⟨q,0,none⟩) 1 1) (.slice none 0 0)) rfl rfl ?_;refine⟨_,H17.ld 5 rfl (i:=2) rfl,ac H17 (k:=6) rfl ho.1 ?_⟩;refine H17.callq (Pp ho2 (H17.nth 1 rfl)) λ w18 H18=>?_;refine⟨_,rfl,ac H18 (k:=6) rfl ho.1 rfl,⟨_,H18.ld 5 rfl (i:=2) rfl,rfl⟩,ba ho,ba ho2,?_⟩;refine H18.al λ k16 w19 H19=>⟨⟨_,H19.ld 5 rfl (i:=2) rfl,rfl⟩,?_⟩;rintro vs11 rfl;refine ah H19 (k:=4) (us:=ae ly t.s t.line 0 (.slice (some ⟨k16,0,none⟩) 2 2) (.slice none 0 0)) rfl rfl rfl af λ w20 H20=>?_;rcases hZ14 with ⟨l2,⟨x,y,hF,hF2,hR⟩,rfl⟩ | ⟨line,en,hR,rfl⟩
  ·have H21:=H20.pick [3,2,8,0];simp only[List.append_nil] at H21;obtain⟨B3,hB3,H22⟩:=Um ly t.s t.line ho ho2 hF hF2 H21;exact kg hR az hB3 (H22.pick [1,0])
  ·exact cq hR az H20
 ·intro Z8 w8 hZ8 H8;refine⟨_,rfl,Sx.so (λ h=>by cases h) (λ _=>?_)⟩;refine js (P':=λ l'=>s=t.s/\R0=(run f .expr n l').bind λ y l=>want cu l λ l=>.ok (.setS t 0 0 y) l) H8 hZ8 (λ l' hp=>?_) ?_
  ·obtain⟨hi,hi0,rfl,hR⟩:=hp;unfold adc at hR;rw[if_neg (by rw[hi0];exact Bool.false_ne_true),if_neg (by rw[hi];exact Bool.false_ne_true)] at hR;exact⟨_,hR,λ l'' h=>⟨rfl,h⟩⟩
  intro Z9 w9 hZ9 H9;refine⟨rfl,_,H9.ld 2 rfl (i:=2) rfl,?_⟩;refine vi (P':=λ vs B2 l'=>s=t.s/\∃ y,isF (toF y .nil) vs B2/\R0= .ok (.setS t 0 0 y) l') I hn hr H9 hZ9 (λ l' hp=>?_) ?_
  ·obtain⟨rfl,hR⟩:=hp;exact⟨_,hR,λ y vs B2 l'' hF h=>⟨rfl,y,hF,h⟩⟩
  intro q vs B2 Z14 w14 ho2 hZ14 H14;refine⟨_,rfl,?_⟩;refine H14.al λ k14 w15 H15=>?_;refine H15.sts0 5 (n:=6) (vs:=(ae xo ⟨#[]⟩ t.line 0 (.slice (some ⟨q,0,none⟩) 1 1) (.slice none 0 0)).toArray) rfl rfl rfl af λ w16 H16=>?_;refine H16.st 5 rfl (i:=1) (by simp [ae]) λ w17 H17=>?_;refine ac H17 (k:=5) (us:=ae xo s t.line 0 (.slice (some ⟨q,0,none⟩) 1 1) (.slice none 0 0)) rfl rfl ?_;refine ah H17 (k:=3) (us:=ae xo s t.line 0 (.slice (some ⟨q,0,none⟩) 1 1) (.slice none 0 0)) rfl rfl rfl af λ w20 H20=>?_;rcases hZ14 with ⟨l2,⟨rfl,y,hF2,hR⟩,rfl⟩ | ⟨line,en,hR,rfl⟩
  ·obtain⟨B3,hB3,H22⟩:=Jb xo t.s t.line ho2 hF2 (H20.pick [1,2,0]);exact kg hR az hB3 (H22.pick [1,0])
  ·exact cq hR az H20
variable {W w0 w:World}{M:Nat->Prop}{L:List Asn}{R:Rx}{l:List Tok}{n:Nat}{line en:Int}
def ajr [Inhabited G3o] (R:Rx) (n f k k6:Nat) (W:World) (l:List Tok) (ln:Int) (R0:Lang.R T) (end_:Bool) (w:World):Prop :=
 (end_=false/\∃ ts f' l1 us B p m c,isF (toF (jj ts .nil) .nil) us B/\m=(toF (jj ts .nil) .nil).len/\R0=(run f' .stmts (n+1) l1).bind (λ xs l'=>.ok (.block ln (jj ts xs)) l')/\f'≤f/\m+l1.length≤8001/\is cRC l1=false /\
  St W (rlA R l n).own w [rlA R l1 (n+1),blk k nodeZ.toArray 52,blk k6 (ae bh ⟨#[]⟩ ln 0 (.slice p m c) (.slice none 0 0)).toArray 52,sl 52 6 (.slice p m c) m us,B]) ∨
 (end_=true/\∃ x l1 us B p m c,isF (toF x .nil) us B/\m=(toF x .nil).len/\R0= .ok (.block ln x) l1 /\
  St W (rlA R l n).own w [rlA R l1 (n+1),blk k nodeZ.toArray 52,blk k6 (ae bh ⟨#[]⟩ ln 0 (.slice p m c) (.slice none 0 0)).toArray 52,sl 52 6 (.slice p m c) m us,B]) ∨
 (∃ line en p m c,R0= .err line en/\St W (rlA R l n).own w [rdA R line en,blk k nodeZ.toArray 52,blk k6 (ae bh ⟨#[]⟩ ln 0 (.slice p m c) (.slice none 0 0)).toArray 52])
theorem Yq {f n:Nat}{l:List Tok} (hi:is cRC l=false):run (f+1) .stmts n l=(run f .stmt n l).bind λ x l=>(run f .stmts n l).bind λ xs l=>.ok (.cons x xs) l:=by
 rw[run,if_neg (by rw[hi];exact Bool.false_ne_true)]
theorem Lo [Inhabited G3o]{f:Nat} (I:∀ f'≤f,JE 103 .stmt f'):JE 65 .blk (f+1):=by
 intro W R n l h hn hr;have hG:Good l:=h.1.2.1
 have hrun:run (f+1) .blk n l=if 24≤n then .err (now l).line 3 else want cLC l λ l'=>(run f .stmts (n+1) l').bind λ xs l''=>.ok (.block (now l).line xs) l'':=by rw[run]
 generalize run (f+1) .blk n l=R0 at *;refine ajp R.b 0 ?_;refine(St.begin h).al λ k w2 H2=>?_;refine H2.dr λ w3 H3=>?_;refine Lm H3 ?_;rintro vs rfl;refine H3.alb λ k6 w4 H4 _ hb=>⟨hb,?_⟩;refine H4.sts0 2 (n:=6) (vs:=(ae bh ⟨#[]⟩ (now l).line 0 (.slice none 0 0) (.slice none 0 0)).toArray) rfl rfl rfl af λ w5 H5=>?_;clear H2 H3 H4 hb;have H5:St W (rlA R l n).own w5 [rlA R l n,blk k nodeZ.toArray 52,blk k6 (ae bh ⟨#[]⟩ (now l).line 0 (.slice none 0 0) (.slice none 0 0)).toArray 52]:=H5;generalize hln:(now l).line=ln at *;refine(rc (H5.nth 0 rfl) hn).mono ?_;rintro e w6 (⟨hn2,rfl,hp⟩ | ⟨hn2,rfl,hp⟩)
 rotate_left
 ·have H6:=H5.upd 0 rfl hp;rw[if_pos hn2] at hrun;rw[hln] at H6;refine⟨_,rfl,Sx.so (λ _=>?_) (λ h=>by cases h)⟩;refine ac H6 (k:=2) (us:=ae bh ⟨#[]⟩ ln 0 (.slice none 0 0) (.slice none 0 0)) rfl rfl ?_;exact ah H6 (k:=1) (us:=ae bh ⟨#[]⟩ ln 0 (.slice none 0 0) (.slice none 0 0)) rfl rfl rfl af λ w8 H8=>cq hrun az H8
 have H6:=H5.upd 0 rfl hp;rw[if_neg (by omega)] at hrun;refine⟨_,rfl,Sx.so (λ h=>by cases h) (λ _=>?_)⟩;refine js (n:=n+1) (R0:=R0) (P:=λ x=>x=l) (P':=λ l'=>R0=(run f .stmts (n+1) l').bind λ xs l''=>.ok (.block ln xs) l'') H6 (.inl ⟨l,rfl,rfl⟩) (λ l' hp=>?_) ?_
 ·subst hp;exact⟨_,hrun,λ l'' h=>h⟩
 intro Z7 w7 hZ7 H7;have H7:St W (rlA R l n).own w7 [Z7,blk k nodeZ.toArray 52,blk k6 (ae bh ⟨#[]⟩ ln 0 (.slice none 0 0) (.slice none 0 0)).toArray 52,sl 52 6 (.slice none 0 0) 0 [],all []]:=(H7.add (A:=sl 52 6 (.slice none 0 0) 0 []) ⟨Sl.nil _ _ _,XTouch.refl _ _,λ q hq=>by cases hq⟩).add (A:=all []) ⟨trivial,XTouch.refl _ _,λ q hq=>hq.elim⟩;refine⟨rfl,?_⟩;refine tw (s:=cRC) H7 hZ7 ?_ ?_;intro l1 w8 hi hR H8;refine⟨_,rfl,λ e w=>ajr R n f k k6 W l ln R0 e w,λ _ w=>sr R w,?_,?_⟩
 ·refine .inr (.inl ⟨rfl,.nil,l1.tail,[],_,none,0,0,⟨rfl,rfl⟩,rfl,?_,H8⟩);rw[hR]
  cases f with
  | zero=>exact absurd (by rw[hR];rfl) hr
  | succ f=>rw[run,if_pos hi];rfl
 rotate_left
 intro Z8 w8 hZ8 H8;refine⟨_,rfl,λ e w=>ajr R n f k k6 W l ln R0 e w,λ _ w=>sr R w,?_,?_⟩
 ·rcases hZ8 with ⟨l1,⟨hi,hR⟩,rfl⟩ | ⟨line,en,hR,rfl⟩
  ·refine .inl ⟨rfl,[],f,l1,[],_,none,0,0,⟨rfl,rfl⟩,rfl,hR,Nat.le_refl _,?_,hi,H8⟩;have:=(H8.nth 0 rfl).1.2.1.2.2.2;omega
  ·exact .inr (.inr ⟨line,en,none,0,0,hR,H8.pick [0,1,2]⟩)
 all_goals
  clear H7 H5 H6;rintro _ end_ w10 (⟨rfl,ts,f',l1,us,B,p,m,c,hF,hm,hR,hf,hml,hnc,H10⟩ | ⟨rfl,x,l1,us,B,p,m,c,hF,hm,hR,H10⟩ | ⟨line,en,p,m,c,hR,H10⟩)
  ·refine Sx.so (λ _=>?_) (λ h=>by cases h);refine ta H10 (Sx.so (λ _=>?_) (λ h=>by cases h))
   match f',hR with
   | 0,hR=>exact absurd hR hr
   | f'+1,hR =>
   have hR:R0=(run f' .stmt (n+1) l1).bind λ x l=>((run f' .stmts (n+1) l).bind λ xs l=>.ok (.cons x xs) l:Lang.R T).bind (λ xs l'=>.ok (.block ln (jj ts xs)) l'):=by
    rw[hR,Yq hnc];cases run f' .stmt (n+1) l1 <;> rfl
   have hlen:=λ (x:T) (l2:List Tok) (h:run f' .stmt (n+1) l1= .ok x l2)=>(zk _ _ _ _ _ _ h).2 rfl;obtain⟨re,hre⟩:∃ re,re=run f' .stmt (n+1) l1:=⟨_,rfl⟩;have hne:re≠ .out:=λ e=>hr (by rw[hR,<- hre,e];rfl);refine(I f' (by omega) (H10.nth 0 rfl) (by omega) (by rw[<- hre];exact hne)).mono ?_;intro e w11 he;rw[<- hre] at he hR hlen
   cases re with
   | out=>exact absurd rfl hne
   | err line en =>
    obtain⟨vs,rfl,ho,hp⟩:=he;have H11:=(H10.upd 0 rfl hp);refine⟨_,rfl,?_⟩;refine H11.al λ k9 w12 H12=>?_;refine H12.sts0 5 (n:=6) (vs:=vs.toArray) rfl (ba ho) rfl (by simpa using ho.2) λ w13 H13=>?_;refine⟨_,_,_,H13.ld 2 rfl (i:=4) rfl,ac H13 (k:=5) rfl ho.1 ⟨ba ho,?_⟩⟩;refine H13.al λ k13 w14 H14=>?_;simp only[List.append_nil] at H14;refine H14.app 3 rfl vs (.inr ⟨_,rfl,λ j v hj=>?_⟩) (by rw[ho.1]) ho.2 (by show m+1≤maxLen;unfold maxLen;omega) (by omega) λ p' c' w15 H15=>?_
    ·rw[show(Addr.add ⟨k13,0,none⟩ j)=⟨k13,j,none⟩ by simp [Addr.add];intro e;exact e.symm];exact H14.ld 6 rfl (i:=j) (by simpa using hj)
    refine H15.st 2 rfl (i:=4) (by simp [ae]) λ w16 H16=>?_;refine H16.call 0 rfl (rb cRC (H16.nth 0 rfl)) λ w17 H17=>?_;exact⟨_,rfl,.inr (.inr ⟨line,en,p',m+1,c',hR,H17.pick [0,1,2]⟩),il (H10.nth 0 rfl) (H17.nth 0 rfl)⟩
   | ok x l2 =>
    obtain⟨vs,B2,rfl,ho,hF2,hp⟩:=he;have hl2:=hlen x l2 rfl;have H11:=St.open_ (L:=[_,_]) (H10.upd 0 rfl hp);have hR:R0=((run f' .stmts (n+1) l2).bind λ xs l=>.ok (.cons x xs) l:Lang.R T).bind (λ xs l'=>.ok (.block ln (jj ts xs)) l'):=hR;refine⟨_,rfl,?_⟩;refine H11.al λ k9 w12 H12=>?_;refine H12.sts0 6 (n:=6) (vs:=vs.toArray) rfl (ba ho) rfl (by simpa using ho.2) λ w13 H13=>?_;refine⟨_,_,_,H13.ld 3 rfl (i:=4) rfl,ac H13 (k:=6) rfl ho.1 ⟨ba ho,?_⟩⟩;refine H13.al λ k13 w14 H14=>?_;simp only[List.append_nil] at H14;refine H14.app 4 rfl vs (.inr ⟨_,rfl,λ j v hj=>?_⟩) (by rw[ho.1]) ho.2 (by show m+1≤maxLen;unfold maxLen;omega) (by omega) λ p' c' w15 H15=>?_
    ·rw[show(Addr.add ⟨k13,0,none⟩ j)=⟨k13,j,none⟩ by simp [Addr.add];intro e;exact e.symm];exact H14.ld 7 rfl (i:=j) (by simpa using hj)
    refine H15.st 3 rfl (i:=4) (by simp [ae]) λ w16 H16=>?_;have H16:=H16.pick [5,1,0,2,3,4];obtain⟨C,hC,H17⟩:=ph hF hF2 H16;rw[<- yk] at hC
    have hm2:m+1=(toF (jj (ts++[x]) .nil) .nil).len:=by rw[yk,Fo.app_len,<- di hF2 ho.1,hm]
    have H18:St W (rlA R l n).own w16 [rlA R l2 (n+1),blk k nodeZ.toArray 52,blk k6 (ae bh ⟨#[]⟩ ln 0 (.slice p' (m+1) c') (.slice none 0 0)).toArray 52,sl 52 6 (.slice p' (m+1) c') (m+1) (us++vs),C]:=H17.pick [1,2,3,4,0];refine H18.call 0 rfl (qz cRC (H18.nth 0 rfl)) λ w19 H19=>?_
    cases hi:is cRC l2 with
    | true =>
     rw[hi] at H19;have ht:=dn (kz hi);refine⟨_,rfl,.inr (.inl ⟨rfl,_,l2.tail,_,C,p',m+1,c',hC,hm2,?_,H19⟩),mi (H10.nth 0 rfl) (H19.nth 0 rfl) (by show l2.tail.length<_;omega)⟩;rw[hR]
     cases f' with
     | zero=>exact absurd (by rw[hR];rfl) hr
     | succ f' =>
      rw[run,if_pos hi];show Lang.R.ok (T.block ln (jj ts (.cons x .nil))) l2.tail=_;rw[fv]
    | false =>
     rw[hi] at H19;refine⟨_,rfl,.inl ⟨rfl,ts++[x],f',l2,_,C,p',m+1,c',hC,hm2,?_,by omega,by omega,hi,H19⟩,mi (H10.nth 0 rfl) (H19.nth 0 rfl) (by show l2.length<_;omega)⟩;rw[hR]
     cases run f' .stmts (n+1) l2 with
     | ok xs l3=>show Lang.R.ok (T.block ln (jj ts (.cons x xs))) l3=Lang.R.ok (T.block ln (jj (ts++[x]) xs)) l3;rw[fv]
     | err=>rfl
     | out=>rfl
  ·refine Sx.so (λ h=>by cases h) (λ _=>?_);refine Iw H10 λ w11 H11=>?_;refine ac H11 (k:=2) (us:=ae bh ⟨#[]⟩ ln 0 (.slice p m c) (.slice none 0 0)) rfl rfl ?_;refine ah H11 (k:=1) (us:=ae bh ⟨#[]⟩ ln 0 (.slice p m c) (.slice none 0 0)) rfl rfl rfl af λ w12 H12=>?_;subst hm;obtain⟨B2,hB2,H13⟩:=Pk bh ⟨#[]⟩ ln 0 hF (H12.pick [3,4,0]);exact kg hR az hB2 (H13.pick [1,0])
  ·cases end_ with
   | true =>
    refine Sx.so (λ h=>by cases h) (λ _=>?_);refine Dj H10 λ w11 H11=>?_;refine ac H11 (k:=2) (us:=ae bh ⟨#[]⟩ ln 0 (.slice p m c) (.slice none 0 0)) rfl rfl ?_;exact ah H11 (k:=1) (us:=ae bh ⟨#[]⟩ ln 0 (.slice p m c) (.slice none 0 0)) rfl rfl rfl af λ w12 H12=>cq hR az H12
   | false =>
    refine Sx.so (λ _=>?_) (λ h=>by cases h);refine Au H10 (λ hen=>Sx.so (λ h=>absurd (beq_iff_eq.1 h) hen) (λ _=>?_));refine Dj H10 λ w11 H11=>?_;refine ac H11 (k:=2) (us:=ae bh ⟨#[]⟩ ln 0 (.slice p m c) (.slice none 0 0)) rfl rfl ?_;exact ah H11 (k:=1) (us:=ae bh ⟨#[]⟩ ln 0 (.slice p m c) (.slice none 0 0)) rfl rfl rfl af λ w12 H12=>cq hR az H12
variable {W w0 w:World}{M:Nat->Prop}{L:List Asn}{R:Rx}{l:List Tok}{n:Nat}{line en:Int}
set_option maxHeartbeats 2000000 in
theorem Pr [Inhabited G3o]{f:Nat} (I:JE 119 .expr f) (Ia:JA f) (Ib:JE 65 .blk f):JE 103 .stmt (f+1):=by
 intro W R n l h hn hr
 have hrun:run (f+1) .stmt n l=if (now l).k=1 then name l (adc f n)
  else if is lx l then name l.tail λ nm l'=>want cEq l' λ l'=>(run f .expr n l').bind λ x l'=>want cu l' λ l'=>.ok (.letS (now l) nm 0 0 x) l'
  else if is jm l then (run f .expr n l.tail).bind λ x l'=>want cu l' λ l'=>.ok (.retS (now l).line x) l'
  else if is ng l then (run f .expr n l.tail).bind λ x l'=>want cu l' λ l'=>.ok (.prtS (now l).line x) l'
  else if is dx l then (run f .expr n l.tail).bind λ c l'=>(run f .blk n l').bind λ b l'=>.ok (.whileS (now l).line c b) l'
  else if is cIf l then (run f .expr n l.tail).bind λ c l'=>(run f .blk n l').bind λ b l' =>
   if is Kl l' then (run f .blk n l'.tail).bind λ e l'=>.ok (.ifS (now l).line c b e) l' else .ok (.ifS (now l).line c b .nil) l'
  else .err (now l).line 8:=by rw[run];rfl
 refine aix R.b 0 ?_;refine(St.begin h).al λ k w2 H2=>?_;refine H2.dr λ w3 H3=>?_;refine Iv H3 ?_;refine H3.alb λ k6 w4 H4 _ hb=>⟨hb,?_⟩;refine H4.sts0 2 (n:=3) (vs:=(tkR (now l)).toArray) rfl rfl rfl (by simpa using mr _) λ w5 H5=>?_;clear H2 H3 H4 hb;have H5:St W (rlA R l n).own w5 [rlA R l n,blk k nodeZ.toArray 52,blk k6 (tkR (now l)).toArray 96]:=H5;refine⟨_,H5.ld 2 rfl (i:=0) rfl,Sx.so (λ h1=>?_) (λ h1=>?_)⟩
 ·have hk:(now l).k=1:=(pq (.inr (.inr (.inl ⟨rfl,rfl⟩)))).1 (beq_iff_eq.1 h1);have hpl:=Pq (f:=f) I Ia (H5.nth 0 rfl) hn hk hr;generalize run (f+1) .stmt n l=R0 at *;refine Bz (kk:=λ x l=>.ok x l) (r:=R0) H5 (by cases R0 <;> rfl) hr (λ _=>hpl) ?_ ?_
  ·intro x l' us B w9 hR ho hF H9;exact⟨_,rfl,ah H9 (k:=2) rfl rfl ho.1 ho.2 λ w8 H8=>kg hR ho hF H8⟩
  ·intro line en us w9 hR ho H9;exact⟨_,rfl,ah H9 (k:=1) rfl rfl ho.1 ho.2 λ w8 H8=>cq hR ho H8⟩
 have hk:¬ (now l).k=1:=λ e=>(beq_eq_false_iff_ne.1 h1) ((pq (.inr (.inr (.inl ⟨rfl,rfl⟩)))).2 e);generalize run (f+1) .stmt n l=R0 at *;rw[if_neg hk] at hrun;refine⟨_,H5.ld 2 rfl (i:=0) rfl,Sx.so (λ h2=>?_) (λ h2=>?_)⟩
 ·have hk3:¬ (now l).k=3:=λ e=>by
   rw[show((kR (now l).k:Nat):Int)=107 from (pq (.inl ⟨rfl,rfl⟩)).2 e] at h2;cases h2
  have hno:∀ s,¬ is s l=true:=λ s e=>hk3 (Ri e);rw[if_neg (hno _),if_neg (hno _),if_neg (hno _),if_neg (hno _),if_neg (hno _)] at hrun;refine H5.call 0 rfl (tu 8 (by decide) (H5.nth 0 rfl)) λ w6 H6=>?_;exact⟨_,rfl,ah H6 (k:=1) (us:=nodeZ) rfl rfl rfl cz λ w8 H8=>cq hrun xj H8⟩
 have hk3:(now l).k=3:=(pq (.inl ⟨rfl,rfl⟩)).1 (bne_eq_false_iff_eq.1 h2)
 have hk0:(now l).k≠0:=by omega
 have his:∀ s,is s l=decide ((now l).s=s):=λ s=>by unfold is;rw[hk3];simp
 clear h1 h2;generalize ht:now l=t at *;refine⟨_,H5.ld 2 rfl (i:=1) rfl,?_⟩;refine Sx.so (λ h3=>?_) (λ h3=>?_)
 ·have hs:t.s=lx:=dt ((ab _ _).symm.trans h3);rw[if_pos (by rw[his,decide_eq_true hs])] at hrun;refine tb (by rw[ht];exact hk0) H5 λ w6 H6=>?_;refine Fx (n:=n) (R0:=R0) (P:=λ x=>x=l.tail) (P':=λ s l'=>∃ nm:Tok,s=nm.s/\R0=want cEq l' λ l'=>(run f .expr n l').bind λ x l'=>want cu l' λ l'=>.ok (.letS t nm 0 0 x) l') H6 (.inl ⟨_,rfl,rfl⟩) (λ l' hp=>?_) ?_
  ·subst hp;exact⟨_,hrun,λ l'' h=>⟨_,rfl,h⟩⟩
  intro s Z7 w7 hZ7 H7;refine⟨_,rfl,?_⟩;refine js (P':=λ l'=>∃ nm:Tok,s=nm.s/\R0=(run f .expr n l').bind λ x l'=>want cu l' λ l'=>.ok (.letS t nm 0 0 x) l') H7 hZ7 (λ l' hp=>?_) ?_
  ·obtain⟨nm,a,hR⟩:=hp;exact⟨_,hR,λ l'' h=>⟨nm,a,h⟩⟩
  intro Z8 w8 hZ8 H8;refine⟨rfl,_,H8.ld 2 rfl (i:=2) rfl,?_⟩;refine vi (P':=λ vs B2 l'=>∃ nm:Tok,s=nm.s/\∃ y,isF (toF y .nil) vs B2/\R0= .ok (.letS t nm 0 0 y) l') I hn hr H8 hZ8 (λ l' hp=>?_) ?_
  ·obtain⟨nm,a,hR⟩:=hp;exact⟨_,hR,λ y vs B2 l'' hF h=>⟨nm,a,y,hF,h⟩⟩
  intro q vs B2 Z9 w9 ho2 hZ9 H9;refine⟨_,rfl,?_⟩;refine H9.al λ k10 w10 H10=>?_;refine H10.sts0 5 (n:=6) (vs:=(ae lx ⟨#[]⟩ t.line 0 (.slice (some ⟨q,0,none⟩) 1 1) (.slice none 0 0)).toArray) rfl rfl rfl af λ w11 H11=>?_;refine H11.st 5 rfl (i:=1) (by simp [ae]) λ w12 H12=>?_;refine ac H12 (k:=5) (us:=ae lx s t.line 0 (.slice (some ⟨q,0,none⟩) 1 1) (.slice none 0 0)) rfl rfl ?_;refine ah H12 (k:=3) (us:=ae lx s t.line 0 (.slice (some ⟨q,0,none⟩) 1 1) (.slice none 0 0)) rfl rfl rfl af λ w20 H20=>?_;rcases hZ9 with ⟨l2,⟨nm,rfl,y,hF2,hR⟩,rfl⟩ | ⟨line,en,hR,rfl⟩
  ·obtain⟨B3,hB3,H22⟩:=Jb lx nm.s t.line ho2 hF2 (H20.pick [1,2,0]);exact kg hR az hB3 (H22.pick [1,0])
  ·exact cq hR az H20
 have hs1:¬ t.s=lx:=df ((ab _ _).symm.trans h3);rw[if_neg (by rw[his,decide_eq_false hs1];exact Bool.false_ne_true)] at hrun;refine Sx.so (λ h4=>?_) (λ h4=>?_)
 ·have hs:t.s=jm:=dt ((ab _ _).symm.trans h4);rw[if_pos (by rw[his,decide_eq_true hs])] at hrun;refine tb (by rw[ht];exact hk0) H5 λ w6 H6=>?_;refine⟨_,H6.ld 2 rfl (i:=1) rfl,_,H6.ld 2 rfl (i:=2) rfl,?_⟩;refine vi (n:=n) (P:=λ x=>x=l.tail) (P':=λ vs B2 l'=>∃ y,isF (toF y .nil) vs B2/\R0= .ok (.retS t.line y) l') I hn hr H6 (.inl ⟨_,rfl,rfl⟩) (λ l' hp=>?_) ?_
  ·subst hp;exact⟨_,hrun,λ y vs B2 l'' hF h=>⟨y,hF,h⟩⟩
  intro q vs B2 Z9 w9 ho2 hZ9 H9;refine⟨_,rfl,ah H9 (k:=3) (us:=ae t.s ⟨#[]⟩ t.line 0 (.slice (some ⟨q,0,none⟩) 1 1) (.slice none 0 0)) rfl rfl rfl af λ w20 H20=>?_⟩;rcases hZ9 with ⟨l2,⟨y,hF2,hR⟩,rfl⟩ | ⟨line,en,hR,rfl⟩
  ·obtain⟨B3,hB3,H22⟩:=Jb jm ⟨#[]⟩ t.line ho2 hF2 (H20.pick [1,2,0]);rw[hs];exact kg hR az hB3 (H22.pick [1,0])
  ·exact cq hR az H20
 have hs2:¬ t.s=jm:=df ((ab _ _).symm.trans h4);rw[if_neg (by rw[his,decide_eq_false hs2];exact Bool.false_ne_true)] at hrun;refine Sx.so (λ h5=>?_) (λ h5=>?_)
 ·have hs:t.s=ng:=dt ((ab _ _).symm.trans h5);rw[if_pos (by rw[his,decide_eq_true hs])] at hrun;refine tb (by rw[ht];exact hk0) H5 λ w6 H6=>?_;refine⟨_,H6.ld 2 rfl (i:=1) rfl,_,H6.ld 2 rfl (i:=2) rfl,?_⟩;refine vi (n:=n) (P:=λ x=>x=l.tail) (P':=λ vs B2 l'=>∃ y,isF (toF y .nil) vs B2/\R0= .ok (.prtS t.line y) l') I hn hr H6 (.inl ⟨_,rfl,rfl⟩) (λ l' hp=>?_) ?_
  ·subst hp;exact⟨_,hrun,λ y vs B2 l'' hF h=>⟨y,hF,h⟩⟩
  intro q vs B2 Z9 w9 ho2 hZ9 H9;refine⟨_,rfl,ah H9 (k:=3) (us:=ae t.s ⟨#[]⟩ t.line 0 (.slice (some ⟨q,0,none⟩) 1 1) (.slice none 0 0)) rfl rfl rfl af λ w20 H20=>?_⟩;rcases hZ9 with ⟨l2,⟨y,hF2,hR⟩,rfl⟩ | ⟨line,en,hR,rfl⟩
  ·obtain⟨B3,hB3,H22⟩:=Jb ng ⟨#[]⟩ t.line ho2 hF2 (H20.pick [1,2,0]);rw[hs];exact kg hR az hB3 (H22.pick [1,0])
  ·exact cq hR az H20
 have hs3:¬ t.s=ng:=df ((ab _ _).symm.trans h5);rw[if_neg (by rw[his,decide_eq_false hs3];exact Bool.false_ne_true)] at hrun;refine Sx.so (λ h6=>?_) (λ h6=>?_)
 ·have hs:t.s=dx:=dt ((ab _ _).symm.trans h6);rw[if_pos (by rw[his,decide_eq_true hs])] at hrun;refine tb (by rw[ht];exact hk0) H5 λ w6 H6=>?_;refine pj (n:=n) (P:=λ x=>x=l.tail) (P':=λ us B l'=>∃ x,isF (toF x .nil) us B/\R0=(run f .blk n l').bind λ b l'=>.ok (.whileS t.line x b) l') I rz hn hr H6 (.inl ⟨_,rfl,rfl⟩) (λ l' hp=>?_) ?_
  ·subst hp;exact⟨_,hrun,λ x us B l'' hF h=>⟨x,hF,h⟩⟩
  intro us B Z7 w7 ho hZ7 H7;refine⟨_,rfl,?_⟩;refine H7.al λ k15 w8 H8=>?_;refine H8.sts0 4 (n:=6) (vs:=us.toArray) rfl (ba ho) rfl (by simpa using ho.2) λ w9 H9=>?_;refine pj (P':=λ vs B2 l'=>∃ x y,isF (toF x .nil) us B/\isF (toF y .nil) vs B2/\R0= .ok (.whileS t.line x y) l') Ib lu hn hr H9 hZ7 (λ l' hp=>?_) ?_
  ·obtain⟨x,a,hR⟩:=hp;exact⟨_,hR,λ y vs B2 l'' hF h=>⟨x,y,a,hF,h⟩⟩
  intro vs B2 Z10 w10 ho2 hZ10 H10;refine⟨_,rfl,?_⟩;refine H10.al λ k17 w11 H11=>?_;refine H11.sts0 6 (n:=6) (vs:=vs.toArray) rfl (ba ho2) rfl (by simpa using ho2.2) λ w12 H12=>?_;refine⟨_,H12.ld 4 rfl (i:=2) rfl,ac H12 (k:=5) rfl ho.1 (ac H12 (k:=6) rfl ho2.1 ⟨ba ho,ba ho2,?_⟩)⟩;refine H12.al λ k19 w13 H13=>?_;rintro vs17 rfl;refine ah H13 (k:=3) (us:=ae dx ⟨#[]⟩ t.line 0 (.slice (some ⟨k19,0,none⟩) 2 2) (.slice none 0 0)) rfl rfl rfl af λ w20 H20=>?_;rcases hZ10 with ⟨l2,⟨x,y,hF,hF2,hR⟩,rfl⟩ | ⟨line,en,hR,rfl⟩
  ·have H21:=H20.pick [2,1,7,0];simp only[List.append_nil] at H21;obtain⟨B3,hB3,H22⟩:=Um dx (ofL []) t.line ho ho2 hF hF2 H21;exact kg hR az hB3 (H22.pick [1,0])
  ·exact cq hR az H20
 have hs4:¬ t.s=dx:=df ((ab _ _).symm.trans h6);rw[if_neg (by rw[his,decide_eq_false hs4];exact Bool.false_ne_true)] at hrun;refine Sx.so (λ h7=>?_) (λ h7=>?_)
 ·have hs:t.s=cIf:=dt ((ab _ _).symm.trans h7);rw[if_pos (by rw[his,decide_eq_true hs])] at hrun;refine tb (by rw[ht];exact hk0) H5 λ w6 H6=>?_;refine pj (n:=n) (P:=λ x=>x=l.tail) (P':=λ us B l'=>∃ x,isF (toF x .nil) us B/\R0=(run f .blk n l').bind λ b l'=>if is Kl l' then (run f .blk n l'.tail).bind λ e l'=>.ok (.ifS t.line x b e) l' else .ok (.ifS t.line x b .nil) l') I rz hn hr H6 (.inl ⟨_,rfl,rfl⟩) (λ l' hp=>?_) ?_
  ·subst hp;exact⟨_,hrun,λ x us B l'' hF h=>⟨x,hF,h⟩⟩
  intro us B Z7 w7 ho hZ7 H7;refine⟨_,rfl,?_⟩;refine H7.al λ k21 w8 H8=>?_;refine H8.sts0 4 (n:=6) (vs:=us.toArray) rfl (ba ho) rfl (by simpa using ho.2) λ w9 H9=>?_;refine pj (P':=λ vs B2 l'=>∃ x y,isF (toF x .nil) us B/\isF (toF y .nil) vs B2/\R0=if is Kl l' then (run f .blk n l'.tail).bind λ e l'=>.ok (.ifS t.line x y e) l' else .ok (.ifS t.line x y .nil) l') Ib lu hn hr H9 hZ7 (λ l' hp=>?_) ?_
  ·obtain⟨x,a,hR⟩:=hp;exact⟨_,hR,λ y vs B2 l'' hF h=>⟨x,y,a,hF,h⟩⟩
  intro vs B2 Z10 w10 ho2 hZ10 H10;refine⟨_,rfl,?_⟩;refine H10.al λ k23 w11 H11=>?_;refine H11.sts0 6 (n:=6) (vs:=vs.toArray) rfl (ba ho2) rfl (by simpa using ho2.2) λ w12 H12=>?_;refine⟨_,H12.ld 4 rfl (i:=2) rfl,ac H12 (k:=5) rfl ho.1 (ac H12 (k:=6) rfl ho2.1 ⟨ba ho,ba ho2,?_⟩)⟩;refine H12.al λ k25 w13 H13=>?_;rintro vs23 rfl;refine H13.al λ k26 w14 H14=>?_;refine H14.sts0 8 (n:=6) (vs:=(ae cIf ⟨#[]⟩ t.line 0 (.slice (some ⟨k25,0,none⟩) 2 2) (.slice none 0 0)).toArray) rfl rfl rfl af λ w15 H15=>?_;refine tw (s:=Kl) H15 hZ10 ?_ ?_
  ·rintro l1 w16 hi ⟨x,y,hF,hF2,hR⟩ H16;rw[if_pos hi] at hR;refine⟨_,rfl,Sx.so (λ _=>?_) (λ h=>by cases h)⟩;refine pj (n:=n) (P:=λ x=>x=l1.tail) (P':=λ zs B3 l'=>∃ z,isF (toF z .nil) zs B3/\R0= .ok (.ifS t.line x y z) l') Ib lu hn hr H16 (.inl ⟨_,rfl,rfl⟩) (λ l' hp=>?_) ?_
   ·subst hp;exact⟨_,hR,λ z zs B3 l'' hF h=>⟨z,hF,h⟩⟩
   intro zs B3 Z17 w17 ho3 hZ17 H17;refine⟨_,rfl,?_⟩;refine H17.al λ k28 w18 H18=>?_;refine H18.sts0 10 (n:=6) (vs:=zs.toArray) rfl (ba ho3) rfl (by simpa using ho3.2) λ w19 H19=>?_;refine⟨_,_,_,H19.ld 9 rfl (i:=4) rfl,ac H19 (k:=10) rfl ho3.1 ⟨ba ho3,?_⟩⟩;refine H19.al λ k32 w20 H20=>?_;simp only[List.append_nil] at H20
   have H21:=H20.conv 8 rfl (A':=sl 52 6 (.slice (some ⟨k25,0,none⟩) 2 2) 2 (us++vs)) (λ h=>Nm (by rw[List.length_append,ho.1,ho2.1]) (by show 2≤maxLen;unfold maxLen;omega) h) (λ q hq=>by
    have:some k25=some q:=hq
    cases this;rfl)
   refine H21.app 8 rfl zs (.inr ⟨_,rfl,λ j v hj=>?_⟩) (by rw[ho3.1]) ho3.2 (by show 2+1≤maxLen;unfold maxLen;omega) (by omega) λ p' c' w22 H22=>?_
   ·rw[show(Addr.add ⟨k32,0,none⟩ j)=⟨k32,j,none⟩ by simp [Addr.add];intro e;exact e.symm];exact H21.ld 11 rfl (i:=j) (by simpa using hj)
   refine H22.st 9 rfl (i:=4) (by simp [ae]) λ w23 H23=>?_;refine ac H23 (k:=9) (us:=ae cIf ⟨#[]⟩ t.line 0 (.slice p' 3 c') (.slice none 0 0)) rfl rfl ?_;refine ah H23 (k:=4) (us:=ae cIf ⟨#[]⟩ t.line 0 (.slice p' 3 c') (.slice none 0 0)) rfl rfl rfl af λ w24 H24=>?_;rcases hZ17 with ⟨l2,⟨z,hF3,hR⟩,rfl⟩ | ⟨line,en,hR,rfl⟩
   ·obtain⟨C,hC,H25⟩:=ph hF hF2 (H24.pick [3,2,1,8,0]);obtain⟨D,hD,H26⟩:=ph hC hF3 H25
    have e3:((toF x .nil).app (toF y .nil)).app (toF z .nil)=toF x (toF y (toF z .nil)):=by
     rw[Fo.app_assoc,<- lf y,<- lf x]
    rw[e3] at hD
    have e4:(toF x (toF y (toF z .nil))).len=3:=by
     rw[<- e3,Fo.app_len,Fo.app_len,<- di hF ho.1,<- di hF2 ho2.1,<- di hF3 ho3.1]
    obtain⟨B4,hB4,H27⟩:=Pk (q:=p') (c:=c') cIf (ofL []) t.line 0 hD (by rw[e4];exact H26.pick [1,0,2]);rw[e4] at hB4;exact kg hR az hB4 (H27.pick [1,0])
   ·exact cq hR az H24
  ·intro Z16 w16 hZ16 H16;refine⟨_,rfl,Sx.so (λ h=>by cases h) (λ _=>?_)⟩;refine ac H16 (k:=8) (us:=ae cIf ⟨#[]⟩ t.line 0 (.slice (some ⟨k25,0,none⟩) 2 2) (.slice none 0 0)) rfl rfl ?_;refine ah H16 (k:=3) (us:=ae cIf ⟨#[]⟩ t.line 0 (.slice (some ⟨k25,0,none⟩) 2 2) (.slice none 0 0)) rfl rfl rfl af λ w20 H20=>?_;rcases hZ16 with ⟨l2,⟨hi,x,y,hF,hF2,hR⟩,rfl⟩ | ⟨line,en,hR,rfl⟩
   ·rw[if_neg (by rw[hi];exact Bool.false_ne_true)] at hR;have H21:=H20.pick [2,1,7,0];simp only[List.append_nil] at H21;obtain⟨B3,hB3,H22⟩:=Um cIf (ofL []) t.line ho ho2 hF hF2 H21;exact kg hR az hB3 (H22.pick [1,0])
   ·exact cq hR az H20
 have hs5:¬ t.s=cIf:=df ((ab _ _).symm.trans h7);rw[if_neg (by rw[his,decide_eq_false hs5];exact Bool.false_ne_true)] at hrun;refine H5.call 0 rfl (tu 8 (by decide) (H5.nth 0 rfl)) λ w6 H6=>?_;rw[ht] at H6;exact⟨_,rfl,ah H6 (k:=1) (us:=nodeZ) rfl rfl rfl cz λ w8 H8=>cq hrun xj H8⟩
structure JJ [Inhabited G3o] (f:Nat):Prop where
 bin:∀ k≤10,JB f k
 un:JE 147 .un f
 prim:JE 173 .prim f
 args:JA f
 expr:JE 119 .expr f
 blk:JE 65 .blk f
 stmt:JE 103 .stmt f
theorem aak [Inhabited G3o]{f:Nat} (I:∀ f'<f,∀ k≤10,JB f' k) (Iu:∀ f'<f,JE 147 .un f'):∀ d k,k+d=10->JB f k
 | 0,k,h=>Iy I Iu (by omega) (λ h2=>by omega)
 | d+1,k,h=>Iy I Iu (by omega) (λ h2=>aak I Iu d (k+1) (by omega))
theorem aal [Inhabited G3o]:∀ f,JJ f:=by
 intro f
 induction f using Nat.strongRecOn with
 | _ f ih =>
  have hb:∀ k≤10,JB f k:=λ k hk=>aak (λ f' h=>(ih f' h).bin) (λ f' h=>(ih f' h).un) (10 - k) k (by omega)
  match f with
  | 0=>exact⟨hb,λ _ _ h=>absurd rfl h,λ _ _ h=>absurd rfl h,λ _ _ h=>absurd rfl h,λ _ _ h=>absurd rfl h,λ _ _ h=>absurd rfl h,λ _ _ h=>absurd rfl h⟩
  | f+1 =>
   have J:=ih f (by omega);exact⟨hb,Yo J.un J.prim,Po J.expr J.args,Pn (λ f' h=>(ih f' (by omega)).expr),Pm (J.bin 0 (by omega)),Lo (λ f' h=>(ih f' (by omega)).stmt),Pr J.expr J.args J.blk⟩
variable {W w0 w:World}{M:Nat->Prop}{L:List Asn}{R:Rx}{l:List Tok}{n:Nat}{line en:Int}
def RD [Inhabited G3o] (R:Rx) (W:World) (A:Asn) (r:Lang.R D) (e:Ending) (w':World):Prop:=match r with
 | .ok d l'=>∃ us B,e= .returned (.agg us.toArray)/\ones us/\isF (toD [d] .nil) us B/\Post A W (all [rlA R l' 0,B]) w'
 | .err line en=>∃ us,e= .returned (.agg us.toArray)/\ones us/\Post A W (rdA R line en) w'
 | .out=>True
theorem Yr [Inhabited G3o]{A:Asn}{R0:Lang.R D}{d:D}{us:List Value}{B:Asn} (hR:R0= .ok d l) (ho:ones us) (hF:isF (toD [d] .nil) us B) (H:St W A.own w (rlA R l 0::B::L)):RD R W A R0 (.returned (.agg us.toArray)) w:=by
 subst hR;exact⟨us,B,rfl,ho,hF,St.post (St.shut (L:=[_,_]) (L':=L) H) 0 rfl⟩
theorem Aw [Inhabited G3o]{A:Asn}{R0:Lang.R D}{us:List Value} (hR:R0= .err line en) (ho:ones us) (H:St W A.own w (rdA R line en::L)):RD R W A R0 (.returned (.agg us.toArray)) w:=by
 subst hR;exact⟨us,rfl,ho,H.post 0 rfl⟩
theorem aam [Inhabited G3o]{f:Fo}{us:List Value}{B:Asn}{b m:Nat}{ns:List ByteArray}{q2:Option Addr}{c2:Nat} (kd nm:ByteArray) (ln v:Int) (hF:isF f us B) (hm:f.len=m) (hm2:m≤3) (H:St w0 M w (blk b us.toArray 52::B::sl 9 1 (.slice q2 ns.length c2) ns.length (ns.map .string)::L)) :
  ∃ B',isF (.cons kd nm ln v f ns .nil) (ae kd nm ln v (.slice (some ⟨b,0,none⟩) m m) (.slice q2 ns.length c2)) B'/\St w0 M w (B'::L):=by
 subst hm
 have H2:=H.conv 0 rfl (A':=sl 52 6 (.slice (some ⟨b,0,none⟩) f.len f.len) f.len us) (λ h=>Nm (Fv hF) (by show _≤maxLen;unfold maxLen;omega) h) (λ q hq=>by
  have:some b=some q:=hq
  cases this;rfl)
 exact⟨all [all [sl 52 6 (.slice (some ⟨b,0,none⟩) f.len f.len) f.len us,B,sl 9 1 (.slice q2 ns.length c2) ns.length (ns.map .string)]],⟨_,_,us,B,q2,c2,[],[],hF,⟨rfl,rfl⟩,by rw[List.append_nil],rfl⟩,St.shut (L:=[_]) (St.shut (L:=[_,_,_]) H2)⟩
theorem afr [Inhabited G3o]{φ:Int->Prop} (H:St w0 M w (rlA R l n::L)) (hq:∀ a:Nat,R.L.drop a=l->φ (a:Nat)):∃ z:Int,w.cell? ⟨R.b,0+1,none⟩=some (.int .i64 z)/\φ z:=by
 obtain⟨h0,a,h1,H⟩:=du H;exact⟨_,(St.open_ H).ld 0 rfl (i:=1) rfl,hq a h1⟩
theorem Lp [Inhabited G3o]{φ:World->Prop}{l2:List Tok}{a:Nat} (hG:Good l2) (ha:R.L.drop a=l2) (H:St w0 M w (rlA R l n::L)) (hq:∀ w',St w0 M w' (rlA R l2 n::L)->φ w'):(∃ v,w.cell? ⟨R.b,0+1,none⟩=some v)/\w.frozen? ⟨R.b,0+1,none⟩=false/\∀ w',w'=w.setCell ⟨R.b,0+1,none⟩ (.int .i64 (a:Nat))->φ w':=by
 obtain⟨h0,a2,h1,H⟩:=du H;have H:=St.open_ H;refine H.st 0 rfl (i:=1) (by simp) λ w4 H4=>hq w4 ?_;exact pb ⟨h0.1,hG,h0.2.2⟩ ha (St.shut (L:=rpL R a 0 0 n) H4)
theorem Un [Inhabited G3o]{a b:Nat}{l:List Tok} (ha:R.L.drop a=l) (hb:R.L.drop b=l) (hG:Good l):a=b:=by
 have h1:=congrArg List.length ha;have h2:=congrArg List.length hb;have:=Nn hG;simp only[List.length_drop] at h1 h2;omega
theorem Lq [Inhabited G3o]{e1:Int} (hn:name l (λ t l=>Lang.R.ok t l)= .err (now l).line e1) (h:(rlA R l n).at_ W):Calls prog 61 #[pt R.b] W λ e w'=>e= .returned (.string ⟨#[]⟩)/\∃ a,(e1≠0/\R.L.drop a=l)/\Post (rlA R l n) W (rpA R a (now l).line e1 (n:Nat)) w':=by
 obtain⟨h0,a,h1,H⟩:=du (St.begin h);unfold name at hn;refine(vh h0.1.2.2.2 (cg h1 h0.2.1) (H.nth 0 rfl)).mono ?_;rintro e w' (⟨-,h3,h4, -,hp⟩ | ⟨-,h3,rfl,hp⟩ | ⟨-,h3,h4,rfl,hp⟩ | ⟨h3, -⟩)
 ·rw[if_neg (λ e:¬ _=>e h3),if_neg h4] at hn;cases hn
 ·rw[if_pos h3] at hn;cases hn;exact⟨rfl,a,⟨by decide,h1⟩,(H.upd 0 rfl hp).post 0 rfl⟩
 ·rw[if_neg (λ e:¬ _=>e h3),if_pos h4] at hn;cases hn;exact⟨rfl,a,⟨by decide,h1⟩,(H.upd 0 rfl hp).post 0 rfl⟩
 ·exact absurd rfl h3
def Wi (f:Nat) (t:Tok) (nm:ByteArray) (ps:List ByteArray) (l:List Tok):Lang.R D:=(run f .blk 0 l).bind λ b l'=>.ok (.fn t nm ps 0 0 b) l'
def ajs [Inhabited G3o] (R:Rx) (f k k14:Nat) (W:World) (l:List Tok) (t:Tok) (nm:ByteArray) (R0:Lang.R D) (x:Bool) (w:World):Prop :=
 (x=false/\∃ ps l1 p c,R0=(params.paramL (6 - ps.length) l1).bind (λ r l'=>Wi f t nm (ps++r) l')/\ps.length≤6/\l1.length<R.L.length /\
  St W (rlA R l 0).own w [rlA R l1 0,blk k nodeZ.toArray 52,blk k14 (ae da nm t.line 0 (.slice none 0 0) (.slice p ps.length c)).toArray 52,sl 9 1 (.slice p ps.length c) ps.length (ps.map .string)]) ∨
 (x=true/\∃ ps l1 p c,R0=Wi f t nm ps l1 /\
  St W (rlA R l 0).own w [rlA R l1 0,blk k nodeZ.toArray 52,blk k14 (ae da nm t.line 0 (.slice none 0 0) (.slice p ps.length c)).toArray 52,sl 9 1 (.slice p ps.length c) ps.length (ps.map .string)]) ∨
 (∃ line en nm' p m c,R0= .err line en/\St W (rlA R l 0).own w [rdA R line en,blk k nodeZ.toArray 52,blk k14 (ae da nm' t.line 0 (.slice none 0 0) (.slice p m c)).toArray 52])
end Go.Proofs.YtojogkljneonmaaGreatDoor
