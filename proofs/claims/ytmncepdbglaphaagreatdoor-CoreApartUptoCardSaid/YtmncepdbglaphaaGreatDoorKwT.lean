/- A part of the walk. No condition. -/
import Derived.Test.YtmncepdbglaphaaGreatDoorKwS
set_option linter.unusedVariables false
set_option maxRecDepth 100000
namespace Go.Proofs.YtmncepdbglaphaaGreatDoor.ko
open Go.RowKit Go.XHeap Go.Sx Go.Sep Go.Proofs.Tryz
variable {W w:wD}{A:Ka}{M M':Km}{L:List Asn}{b j n:Nat}{f f' f1 f2 f3:Fl}{g:List Fl}{S:Nat->Prop}
def rtF (f:Fl):Rt:=⟨f.pc,f.word,if 0≤f.fresh then f.i.rd else 0,if 0≤f.fresh then f.value else 0, -1,0,f.next⟩
theorem aee (h:(ae A M).at_ W) (hs:Solo A) (hR:M.Rep A) (hI:Inv A.C n [] M.K) (hn:n+300≤1000000000000){r:List Fl} (hf:M.K.fls=f::r) (hb:M.fs[0]?=some b) :
  Calls prog 62 #[pZ A.x 0,pZ b 0] W λ e w=>∃ z:Nx A M (M.K.one A.C).1,e=eZ (.bool (M.K.one A.C).2)/\Sep.Post (ae A M) W (ae A z.1) w:=by
 have H:=au h;have hf0:=hI.hd0 hf;have hy:=hR.fl 0 b f hb hf0;have efl:=bi hf0
 have sy:∀ {P:Ko×Bool},M.K.one A.C=P->∀ {B:wD},(∃ z:Nx A M P.1,Sep.Post (ae A M) W (ae A z.1) B)->∀ {e:Ending},e=eZ (.bool P.2)->∃ z:Nx A M (M.K.one A.C).1,e=eZ (.bool (M.K.one A.C).2)/\Sep.Post (ae A M) W (ae A z.1) B:=by
  rintro P rfl B ⟨z,hz⟩ e he;exact⟨z,he,hz⟩
 have hone:M.K.one A.C=(if f.done=true then Ko.one1 A.C M.K else if (M.K.late A.C).2=true then Ko.one1 A.C (M.K.late A.C).1 else ((M.K.late A.C).1,false)):=by
  unfold Ko.one;rw[efl]
 refine aqj A.x 0 b 0 ⟨λ B=>∃ (M1:Km) (f1:Fl),M1.Rep A/\Kept M M1/\Inv A.C (n+2) [] M1.K/\Rdy M1.K f1 r/\M1.fs[0]?=some b/\M.K.one A.C=Ko.one1 A.C M1.K/\St W (ae A M).own B (M1.pieces A++[]),⟨f.done,(St.fl H hy).cell' rfl,aa (λ q=>?_) (λ q=>?_)⟩,λ _=>?_⟩
 ·have q:f.done=false:=by simpa using q
  rw[if_neg (by rw[q];decide)] at hone;have H:=St.shut (L':=[]) H;refine H.callx 0 rfl (Xk (H.nth 0 rfl) hs hR hI (by omega) hf hb q) λ z w2 H=>⟨_,rfl,aa (λ t=>?_) (λ t=>?_)⟩
  ·have t:(M.K.late A.C).2=false:=by simpa using t
   rw[if_neg (by rw[t];decide)] at hone;exact sy hone ⟨⟨z.1,z.2.1,z.2.2.1,z.2.2.2⟩,H.post 0 rfl⟩ rfl
  ·have t:(M.K.late A.C).2=true:=by simpa using t
   rw[if_pos t] at hone
   have hni:f.issued=false:=by
    cases x:f.issued
    ·rfl
    ·exfalso
     have:M.K.late A.C=(M.K,false):=by unfold Ko.late;simp only;rw[efl,if_pos x]
     rw[this] at t;cases t
   obtain⟨hI1,f',b1,b2,b3,b4,b5⟩:=hI.late (C:=A.C) (by omega) hf q hni;have hz:=z.2.2.1;rw[<- hz] at hI1 b1 b5 hone;have hb1:=z.2.2.2.at hR z.2.1 hI (hI1.hd0 b1) hf0 b2.seq hb;exact⟨z.1,f',z.2.1,z.2.2.2,hI1,⟨b1,.inr b3,λ _=>b5 t⟩,hb1,hone,H.open_⟩
 ·have q:f.done=true:=by simpa using q
  rw[if_pos q] at hone
  exact⟨M,f,hR,Kept.refl M,hI.up (by omega),⟨hf,.inl q,λ hni=>by
   have:=(hI.fo f (hI.mem hf0)).di q
   rw[hni] at this;cases this⟩,hb,hone,H⟩
 clear hone H;rintro w3 ⟨M1,f1,hR1,hk1,hI1,hd,hb1,hone,H⟩;have hf1:=hI1.hd0 hd.fls;have efl1:=bi hf1;have hy1:=hR1.fl 0 b f1 hb1 hf1;have hfm:f1 ∈ []++M1.K.fls:=hI1.mem hf1;have ho:=hI1.fo f1 hfm
 have hone1:M.K.one A.C=(if f1.cause≠ -1 then (M1.K.fail1 A.C f1,false) else (M1.K.done1 A.C f1,true)):=by
  rw[hone];unfold Ko.one1;rw[efl1]
 clear hone;refine⟨f1.cause,(St.fl H hy1).cell' rfl,aa (λ q=>?_) (λ q=>?_)⟩
 ·have q:f1.cause≠ -1:=by simpa using q
  rw[if_pos q] at hone1;exact Te (Q:=λ e w=>∃ z:Nx A M (M.K.one A.C).1,e=eZ (.bool (M.K.one A.C).2)/\Sep.Post (ae A M) W (ae A z.1) w) H hR1 hk1 hI1 (by omega) hd hb1 λ w' hz=>sy hone1 hz rfl
 have hcz:f1.cause= -1:=by simpa using q
 rw[if_neg (λ e=>e hcz),Xl] at hone1;clear q;obtain⟨f2,h1,er,kp,d2,c2,q2,m2⟩:=hI1.gone (C:=A.C) hd.fls hd.dn hd.mr;have hI6:=hI1.k6 (C:=A.C) hd hcz;have H:=St.shut (L':=[]) H;refine H.callx 0 rfl (Kq (H.nth 0 rfl) hR1 hI1 (by omega) hd.fls hb1 hd.dn hd.mr) λ z w4 H=>⟨rfl,?_⟩;obtain⟨⟨z,hzR,hzK,hzk⟩,hbn,i0,d0,t0,hy⟩:=z;replace H:=H.open_;replace H:St W (ae A M).own w4 (z.pieces A++[]):=H;replace hbn:b ∉ z.fs:=hbn;replace hy:(b,{ f1 with issued:=i0,done:=d0,ready:=t0 }) ∈ z.fl:=hy;have hkz:Kept M z:=hk1.trans hzk;obtain⟨K1,eK1⟩:∃ K1,M1.K.gone A.C=K1:=⟨_,rfl⟩;obtain⟨K6,eK6⟩:∃ K6,M1.K.k6 A.C f1=K6:=⟨_,rfl⟩
 have h6:(let K2:=if f1.mem then { K1 with q:=yu K1.q f1.seq } else K1
   let K3:=if 0≤f1.fresh then { K2 with nm:=K2.nm.release f1.old } else K2
   let K4:={ K3 with rs:=K3.rs.counted,at_:=f1.next }
   let K5:=if f1.bj then { K4 with pr:=K4.pr.learn f1.mh f1.mt f1.pc f1.i f1.taken f1.next } else K4
   K5.tell A.C 4 f1 (rtF f1))=K6:=by rw[<- eK6,<- eK1];rfl
 have e7:M1.K.k7 A.C f1=(if f1.spoils then K6.spoil A.C [f1.addr] else K6):=by rw[<- eK6];rfl
 rw[e7] at hone1;rw[eK1] at h1 er q2 hzK;rw[eK6] at hI6;clear e7 eK6 eK1
 have hq32:K1.q.length≤32:=by have:=h1.qo.len;have:=h1.cf.q;unfold Kc.Q at *;omega
 obtain⟨K2,eK2⟩:∃ K2,(if f1.mem then { K1 with q:=yu K1.q f1.seq } else K1)=K2:=⟨_,rfl⟩;have hD1:Dn A M W b { f1 with issued:=i0,done:=d0,ready:=t0 } K1 [] w4:=⟨z,hzR,hkz,hbn,hy,hzK,H⟩
 have hret:∀ {B:wD},Dn A M W b { f1 with issued:=i0,done:=d0,ready:=t0 } K1 [] B->f1.mem=true->∀ w5:wD,w5=B.drew->∃ p:OA,w5.cell? ⟨A.x,0+2,none⟩=some (.pointer p)/\∃ z9:Int,w5.cell? ⟨b,0,none⟩=some (.int .i64 z9)/\Calls prog 94 #[.pointer p,.int .i64 z9] w5 λ e7 W14=>∃ v2:Value,e7=eZ v2/\Dn A M W b { f1 with issued:=i0,done:=d0,ready:=t0 } K2 [] W14:=by
  rintro B ⟨z,hzR,hkz,hbn,hy,hzK,H⟩ hm w5 rfl;have H:=H.drew
  have he:lsq.ens z.q=K1.q:=by rw[hzR.q,hzK]
  have hr:=Xa (H.nth 4 rfl) (by rw[he];exact hq32) f1.seq;rw[he] at hr;refine⟨_,H.ld 0 rfl rfl,f1.seq,(St.fl H hy).cell' rfl,H.callx 4 rfl hr λ x w6 H=>⟨_,rfl,z.que (yu K1.q f1.seq) x.1.1,hzR.que x.1.2.2 x.1.2.1,hkz.trans (Kept.of rfl rfl),hbn,hy,?_,H⟩⟩;rw[<- eK2,if_pos hm];exact congrArg (λ K:Ko=>({ K with q:=yu K1.q f1.seq }:Ko)) hzK
 refine⟨λ B=>Dn A M W b { f1 with issued:=i0,done:=d0,ready:=t0 } K2 [] B,⟨f1.cls,(St.fl H hy).cell' rfl,aa (λ q=>?_) (λ q=>⟨f1.cls,(St.fl H hy).cell' rfl,aa (λ q2=>?_) (λ q2=>?_)⟩)⟩,λ _=>?_⟩
 ·have q:f1.cls=4:=by simpa using q
  exact hret hD1 (by unfold Fl.mem;rw[q];rfl)
 ·have q:f1.cls=5:=by simpa using q2
  exact hret hD1 (by unfold Fl.mem;rw[q];rfl)
 ·have q:¬ f1.cls=4:=by simpa using q
  have q2:¬ f1.cls=5:=by simpa using q2
  have e:K2=K1:=by rw[<- eK2,if_neg];unfold Fl.mem;rw[qM q,qM q2];decide
  rw[e];exact hD1
 clear hD1 hret H hy hbn hkz hzK hzR hzk;rintro w5 ⟨z,hzR,hkz,hbn,hy,hzK,H⟩
 have k2:K2.nm=K1.nm/\K2.evs=K1.evs/\K2.pr=K1.pr:=by rw[<- eK2];split <;> exact⟨rfl,rfl,rfl⟩
 refine H.dr λ w6 H=>⟨f1.pc,(St.fl H hy).cell' rfl,f1.word,(St.fl H hy).cell' rfl,f1.next,(St.fl H hy).cell' rfl,?_⟩;rintro vs3 rfl;refine H.alb λ k w7 H _ b7=>⟨b7,H.sts0 16 (vs:=(⟨f1.pc,f1.word,0,0, -1,0,f1.next⟩:Rt).vs) rfl rfl rfl (Zb _) λ w8 H=>?_⟩;have H:St W (ae A M).own w8 (z.pieces A++[blk k (⟨f1.pc,f1.word,0,0, -1,0,f1.next⟩:Rt).vs 55]):=H;obtain⟨K3,eK3⟩:∃ K3,(if 0≤f1.fresh then { K2 with nm:=K2.nm.release f1.old } else K2)=K3:=⟨_,rfl⟩;refine⟨λ B=>Dn A M W b { f1 with issued:=i0,done:=d0,ready:=t0 } K3 [blk k (rtF f1).vs 55] B,⟨f1.fresh,(St.fl H hy).cell' rfl,aa (λ q=>?_) (λ q=>?_)⟩,λ _=>?_⟩
 ·have q:0≤f1.fresh:=qB q
  have ert:rtF f1=⟨f1.pc,f1.word,f1.i.rd,f1.value, -1,0,f1.next⟩:=by unfold rtF;rw[if_pos q,if_pos q]
  rw[ert];refine⟨λ B=>St W (ae A M).own B (z.pieces A++[blk k (⟨f1.pc,f1.word,f1.i.rd,f1.value, -1,0,f1.next⟩:Rt).vs 55]),H.dr λ w9 H=>⟨f1.i.rd,(St.fl H hy).cell' rfl,⟨f1.value,(St.fl H hy).cell' rfl,Below.refl _ _,H.st 16 rfl (by show 2<7;omega) λ w10 H=>H.st 16 rfl (by show 3<7;omega) λ w11 H=>H⟩,H.st 16 rfl (by show 2<7;omega) λ w10 H=>⟨f1.value,(St.fl H hy).cell' rfl,H.st 16 rfl (by show 3<7;omega) λ w11 H=>H⟩⟩,λ _=>?_⟩;clear H;rintro w9 H;refine H.dr λ w10 H=>⟨_,H.ld 0 rfl rfl,f1.old,(St.fl H hy).cell' rfl,?_⟩;have hnm:=h1.nm;rw[er,Cp (by rw[kp.fresh];exact q),kp.old,<- k2.1,<- hzK] at hnm
  have h0:f1.old≠0:=by rw[<- kp.old];exact(h1.old_rng (f:=f2) (by simp) (by rw[kp.fresh];exact q)).2
  refine H.callx 3 rfl (rm.release_any (H.nth 3 rfl) hnm h0) λ zn w11 H=>⟨_,rfl,z.nms (z.K.nm.release f1.old) zn.1 zn.2,hzR.nms _ _ _,hkz.trans (Kept.of rfl rfl),hbn,hy,?_,H⟩;rw[<- eK3,if_pos q,<- hzK];rfl
 ·have q:¬ 0≤f1.fresh:=qE q
  have ert:rtF f1=⟨f1.pc,f1.word,0,0, -1,0,f1.next⟩:=by unfold rtF;rw[if_neg q,if_neg q]
  rw[ert];exact⟨z,hzR,hkz,hbn,hy,by rw[<- eK3,if_neg q];exact hzK,H⟩
 clear H hy hbn hkz hzK hzR;rintro w9 ⟨z,hzR,hkz,hbn,hy,hzK,H⟩
 have k3:K3.rs=K1.rs/\K3.evs=K1.evs/\K3.pr=K1.pr:=by
  refine⟨?_,?_,?_⟩
  ·rw[<- eK3,<- eK2];split <;> split <;> rfl
  ·rw[<- eK3,<- eK2];split <;> split <;> rfl
  ·rw[<- eK3,<- eK2];split <;> split <;> rfl
 refine⟨_,H.ld 0 rfl rfl,H.call 6 rfl (Pd (H.nth 6 rfl)) λ w10 H=>⟨rfl,?_⟩⟩;have H:St W (ae A M).own w10 ((z.rgs z.K.rs.counted).pieces A++[blk k (rtF f1).vs 55]):=H;refine⟨f1.next,(St.fl (M:=z.rgs z.K.rs.counted) H hy).cell' rfl,H.st 0 rfl (by show 27<34;omega) λ w11 H=>?_⟩;have H:St W (ae A M).own w11 (((z.rgs z.K.rs.counted).atp f1.next).pieces A++[blk k (rtF f1).vs 55]):=H;have hR4:((z.rgs z.K.rs.counted).atp f1.next).Rep A:=(hzR.rgs _).atp _;have hk4:Kept M ((z.rgs z.K.rs.counted).atp f1.next):=hkz.trans (Kept.of rfl rfl);have hy4:(b,{ f1 with issued:=i0,done:=d0,ready:=t0 }) ∈ ((z.rgs z.K.rs.counted).atp f1.next).fl:=hy;have hb4:b ∉ ((z.rgs z.K.rs.counted).atp f1.next).fs:=hbn;obtain⟨K4,eK4⟩:∃ K4:Ko,({ K3 with rs:=K3.rs.counted,at_:=f1.next }:Ko)=K4:=⟨_,rfl⟩
 have hK4:((z.rgs z.K.rs.counted).atp f1.next).K=K4:=by rw[<- eK4,<- hzK];rfl
 have k4:K4.evs=K1.evs/\K4.pr=K1.pr:=by rw[<- eK4];exact k3.2
 obtain⟨M4,hM4⟩:∃ M4,(z.rgs z.K.rs.counted).atp f1.next=M4:=⟨_,rfl⟩
 rw[hM4] at H hR4 hk4 hy4 hb4 hK4;clear hM4 hzR hkz hbn hy hzK;obtain⟨K5,eK5⟩:∃ K5:Ko,(if f1.bj then { K4 with pr:=K4.pr.learn f1.mh f1.mt f1.pc f1.i f1.taken f1.next } else K4)=K5:=⟨_,rfl⟩
 have k5:K5.evs=K1.evs:=by rw[<- eK5];split <;> exact k4.1
 have hlearn:f1.bj=true->∀ w12:wD,w12=w11.drew->∃ p7:OA,w12.cell? ⟨A.x,0+3,none⟩=some (.pointer p7)/\∃ vs4:AV,vs4.size=3/\Sx.cellsAt w12 ⟨b,0+9,none⟩ vs4/\∃ z22:Int,w12.cell? ⟨b,0+1,none⟩=some (.int .u32 z22)/\∃ vs5:AV,vs5.size=5/\Sx.cellsAt w12 ⟨b,0+3,none⟩ vs5/\∃ t3:Bool,w12.cell? ⟨b,0+19,none⟩=some (.bool t3)/\∃ z23:Int,w12.cell? ⟨b,0+18,none⟩=some (.int .u32 z23) /\
   Calls prog 97 #[.pointer p7,.agg vs4,.int .u32 z22,.agg vs5,.bool t3,.int .u32 z23] w12 λ e11 W32=>e11=eY #[]/\Dn A M W b { f1 with issued:=i0,done:=d0,ready:=t0 } K5 [blk k (rtF f1).vs 55] W32:=by
  rintro hbj w12 rfl;have H:=H.drew
  have hP:M4.K.pr.Ok:=by rw[hK4,k4.2];exact h1.pr
  refine⟨_,H.ld 0 rfl rfl,_,rfl,gv (St.fl H hy4),f1.pc,(St.fl H hy4).cell' rfl,f1.i.vs,rfl,je (f:={ f1 with issued:=i0,done:=d0,ready:=t0 }) (St.fl H hy4),f1.taken,(St.fl H hy4).cell' rfl,f1.next,(St.fl H hy4).cell' rfl,?_⟩;refine H.callx 5 rfl (ade (H.nth 5 rfl) hR4.pr hP (ur H).1 (ur H).2 f1.mh f1.mt f1.mv ho.pc f1.i f1.taken ho.next) λ x w13 H=>⟨rfl,M4.prd (M4.K.pr.learn f1.mh f1.mt f1.pc f1.i f1.taken f1.next) x.1.1 x.1.2,hR4.prd x.2,hk4.trans (Kept.of rfl rfl),hb4,hy4,?_,H⟩;rw[<- eK5,if_pos hbj,<- hK4];rfl
 refine⟨λ B=>Dn A M W b { f1 with issued:=i0,done:=d0,ready:=t0 } K5 [blk k (rtF f1).vs 55] B,⟨f1.cls,(St.fl H hy4).cell' rfl,aa (λ q=>hlearn ?_) (λ q=>⟨f1.cls,(St.fl H hy4).cell' rfl,aa (λ q2=>hlearn ?_) (λ q2=>?_)⟩)⟩,λ _=>?_⟩
 ·have q:f1.cls=2:=by simpa using q
  unfold Fl.bj;rw[q];rfl
 ·have q:f1.cls=3:=by simpa using q2
  unfold Fl.bj;rw[q];rfl
 ·have q:¬ f1.cls=2:=by simpa using q
  have q2:¬ f1.cls=3:=by simpa using q2
  have e:K5=K4:=by rw[<- eK5,if_neg];unfold Fl.bj;rw[qM q,qM q2];decide
  rw[e];exact⟨M4,hR4,hk4,hb4,hy4,hK4,H⟩
 clear hlearn H hy4 hb4 hk4 hK4 hR4;rintro w12 ⟨z,hzR,hkz,hbn,hy,hzK,H⟩
 have h5:K5.tell A.C 4 f1 (rtF f1)=K6:=by
  rw[<- h6];subst eK5 eK4 eK3 eK2;rfl
 refine⟨(rtF f1).vs,rfl,H.cells 16 rfl,?_⟩;have H:=H.shut;have hev:=h1.ev;refine H.callx 0 rfl (tj (H.nth 0 rfl) hzR (by rw[hzK,k5];omega) hy 4 (rtF f1)) λ y w13 H=>⟨rfl,?_⟩;have hyR:=y.2.1
 have hyK:y.1.K=K6:=by rw[y.2.2.1,hzK,<- h5];rfl
 have hyk:Kept M y.1:=hkz.trans y.2.2.2;have hyb:b ∉ y.1.fs:=λ e=>hbn (y.2.2.2.fs b e);have hyy:=y.2.2.2.old b _ hbn hy;obtain⟨y,y1,y2,y3⟩:=y;replace hyR:y.Rep A:=hyR;replace hyK:y.K=K6:=hyK;replace hyk:Kept M y:=hyk;replace hyb:b ∉ y.fs:=hyb;replace hyy:(b,{ f1 with issued:=i0,done:=d0,ready:=t0 }) ∈ y.fl:=hyy;replace H:=H.open_;replace H:St W (ae A M).own w13 (y.pieces A++[blk k (rtF f1).vs 55]):=H;clear y1 y2 y3 h6 hzR hkz hbn hy hzK;obtain⟨K7,eK7⟩:∃ K7,(if f1.spoils then K6.spoil A.C [f1.addr] else K6)=K7:=⟨_,rfl⟩;rw[eK7] at hone1
 have hI7:Inv A.C (n+2+3+64) [] K7:=by
  rw[<- eK7];split
  ·exact(hI6.spoil _).up (by omega)
  ·exact hI6.up (by omega)
 refine⟨λ B=>∃ L,Dn A M W b { f1 with issued:=i0,done:=d0,ready:=t0 } K7 L B,⟨f1.spoils,(St.fl H hyy).cell' rfl,aa (λ q=>?_) (λ q=>?_)⟩,λ _=>?_⟩
 ·have q:f1.spoils=true:=q;refine⟨f1.addr,(St.fl H hyy).cell' rfl,H.al λ k3 w14 H=>?_⟩;have hk3:Blk w14 k3 #[.int .u32 f1.addr] 47:=H.nth 17 rfl;have H:St W (ae A M).own w14 (y.pieces A++[blk k (rtF f1).vs 55,blk k3 #[.int .u32 f1.addr] 47]):=H;have H:=H.shut
  have hsl:Sl w14 47 1 (.slice (some ⟨k3,0,none⟩) [f1.addr].length 1) [f1.addr].length (u32s [f1.addr]) :=
   ⟨rfl,.inr ⟨k3,0,1,#[.int .u32 f1.addr],rfl,hk3,qY _,(by have:maxLen=2 ^ 63 - 1:=rfl;omega),qY _,rfl⟩⟩
  have sp:=spoil_any (M:=y) (ls:=[f1.addr]) (H.nth 0 rfl) hyR (by rw[hyK];exact hI6) (by omega) hsl (λ l hl=>by rw[qR] at hl;subst hl;exact ho.addr) (show 1≤1000 by decide);refine H.callx 0 rfl sp λ x w15 H=>⟨rfl,_,x.1,x.2.1,hyk.trans x.2.2.2,λ e=>hyb (x.2.2.2.fs b e),x.2.2.2.old b _ hyb hyy,?_,H.open_⟩;rw[x.2.2.1,hyK,<- eK7,if_pos q]
 ·have q:f1.spoils=false:=q;exact⟨_,y,hyR,hyk,hyb,hyy,by rw[hyK,<- eK7,if_neg (by rw[q];decide)],H⟩
 clear H hyR hyk hyb hyy hyK;rintro w14 ⟨L,z,hzR,hkz,hbn,hy,hzK,H⟩;refine⟨λ B=>∃ z:Nx A M (if f1.cls=7/\f1.next≠f1.guess then (K7.restore f1 f1.pc f1.i false).squash A.C f1.seq f1.next else K7),Sep.Post (ae A M) W (ae A z.1) B,⟨f1.cls,(St.fl H hy).cell' rfl,aa (λ q=>?_) (λ q=>?_)⟩,λ _=>?_⟩
 ·have q:f1.cls=7:=by simpa using q
  refine⟨f1.next,(St.fl H hy).cell' rfl,f1.guess,(St.fl H hy).cell' rfl,?_⟩;rintro w15 k4 rfl;have H:=H.drewN k4;refine aa (λ t=>?_) (λ t=>?_)
  ·have t:f1.next≠f1.guess:=by simpa using t
   rw[if_pos ⟨q,t⟩];refine H.dr λ w16 H=>⟨_,H.ld 0 rfl rfl,_,rfl,gv (St.fl H hy),f1.pc,(St.fl H hy).cell' rfl,f1.i.vs,rfl,je (f:={ f1 with issued:=i0,done:=d0,ready:=t0 }) (St.fl H hy),?_⟩
   have hIz:Inv A.C (n+2+3+64) [] z.K:=by rw[hzK];exact hI7
   refine gc H hzR hIz.pr f1.mh f1.mt ho.mv f1.pc f1.i false λ ps w17 hp H=>⟨rfl,H.dr λ w18 H=>?_⟩;refine⟨f1.seq,(St.fl (M:=z.prd _ ps z.pd) H hy).cell' rfl,f1.next,(St.fl (M:=z.prd _ ps z.pd) H hy).cell' rfl,?_⟩;have H:=H.shut;have hIp:Inv A.C (n+2+3+64) [] (z.prd (z.K.pr.back f1.mh f1.mt f1.mv f1.pc f1.i false) ps z.pd).K:=hIz.restore (f:=f1) ho.mv f1.pc f1.i false;refine H.callx 0 rfl (squash_any (H.nth 0 rfl) (hzR.prd hp) hIp (by omega) f1.seq f1.next) λ x w19 H=>⟨rfl,⟨x.1,x.2.1,?_,hkz.trans (x.2.2.2.pre rfl rfl)⟩,H.post 0 rfl⟩;rw[x.2.2.1,<- hzK];rfl
  ·have t:¬ f1.next≠f1.guess:=by simpa using t
   rw[if_neg (λ e=>t e.2)];exact⟨⟨z,hzR,hzK,hkz⟩,aq H⟩
 ·have q:¬ f1.cls=7:=by simpa using q
  rw[if_neg (λ e=>q e.1)];rintro w15 k5 rfl;exact⟨⟨z,hzR,hzK,hkz⟩,aq (H.drewN k5)⟩
 rintro w15 hz;exact sy hone1 hz rfl
def Km.adf (M:Km) (k:Nat) (f:Fl):Km:={ M with fl:=M.fl++[(k,f)] }
theorem Ze:∀ {l:Fls}{k:Nat},k ∈ l.map (·.1)->owns (l.map flA) k
 | x::l,k,h=>by
  rcases qp.1 h with h | h
  ·exact .inl h
  ·exact .inr (Ze h)
theorem Zf {k:Nat} (H:St W S w (M.pieces A++[blk k f.cells 162])):St W S w ((M.adf k f).pieces A++[])/\k ∉ M.fl.map (·.1):=by
 refine⟨?_,λ hk=>St.disj H.here 12 16 (by decide) rfl rfl k (Ze hk) rfl⟩;have H1:=H.pick [12,16,0,1,2,3,4,5,6,7,8,9,10,11,13,14,15];have H2:=St.push H1
 have e:M.fl.map flA++[blk k f.cells 162]=(M.fl++[(k,f)]).map flA:=by rw[qV];rfl
 rw[e] at H2;exact H2.pick [1,2,3,4,5,6,7,8,9,10,11,12,0,13,14,15]
theorem Km.Rep.adf (h:M.Rep A){k:Nat} (hk:k ∉ M.fl.map (·.1)) (f:Fl):(M.adf k f).Rep A:=by
 refine⟨h.win,h.q,h.qs,h.pr,?_,h.fd,h.fk,λ j b f2 hb hf=>qt _ (h.fl j b f2 hb hf),h.bus,h.gs,h.bg,h.oth⟩;show((M.fl++[(k,f)]).map (·.1)).Nodup;rw[qV,qmB];refine⟨h.fn,qcB.2 ⟨by simp,List.nodup_nil⟩,λ a ha c hc e=>?_⟩
 have hc:c=k:=by simpa using hc
 subst hc;subst e;exact hk ha
theorem Kept.adf (k:Nat) (f:Fl):Kept M (M.adf k f):=⟨λ _ h=>h,λ b f2 h=>⟨f2,qt _ h,rfl⟩,λ b f2 _ h=>qt _ h⟩
theorem Kw {M1:Km}{K1:Ko} (H:St W (ae A M).own w (M1.pieces A++[])) (hR:M1.Rep A) (hk:Kept M M1) (hI:Inv A.C n [] M1.K) (hn:n+1≤1000000000000) (hK:M1.K=K1){K':Ko} (hK':K1.trap A.C (Yl K1.at_) 2147483659 0=K') :
  ∃ z2:Int,w.cell? ⟨A.x,0+27,none⟩=some (.int .u32 z2)/\∀ vs4:AV,vs4=#[.int .i64 (-1),.int .u32 z2,.int .u32 0,.int .i64 0,.int .i64 0,.int .i64 0,.int .i64 0,.int .i64 0,.int .i64 0,.int .i64 0,.int .i64 0,.int .u32 0,.int .u32 0,.int .i64 0,.int .i64 0,.int .i64 0,.int .i64 0,.int .u32 0,.int .u32 0,.bool false,.int .i64 0,.int .u32 0,.bool false,.bool false,.int .i64 0,.bool false,.int .u32 0,.bool false] ->
   ∀ (k:Nat) (w2:wD),k=w.heap.size->w2=w.alloc (.cells (Value.cells (.agg vs4)) 162) ->
    Calls prog 61 #[pZ A.x 0,pZ k 0,.int .i64 2147483659,.int .u32 0] w2 λ e4 W8=>e4=eY #[]/\∃ z:Nx A M K',eY #[]=eY #[]/\Sep.Post (ae A M) W (ae A z.1) W8:=by
 refine⟨M1.K.at_,H.ld 0 rfl rfl,?_⟩;rintro vs4 rfl;refine H.al λ k w2 H=>?_;have H:St W (ae A M).own w2 (M1.pieces A++[blk k (Yl M1.K.at_).cells 162]):=H;obtain⟨H,hkn⟩:=Zf H;have hR2:=hR.adf hkn (Yl M1.K.at_);have H:=St.shut (L':=[]) H;have hIa:Inv A.C n [] (M1.adf k (Yl M1.K.at_)).K:=hI;refine H.callx 0 rfl (Fu (H.nth 0 rfl) hR2 hIa hn (f:=Yl M1.K.at_) (qL _ (qR.2 rfl)) hI.at_ 2147483659 0) λ y w3 H=>⟨rfl,⟨y.1,y.2.1,?_,hk.trans ((Kept.adf _ _).trans y.2.2.2)⟩,rfl,H.post 0 rfl⟩;rw[y.2.2.1,<- hK',<- hK];rfl
theorem yo (H:St W (ae A M).own w (M.pieces A++[])) (hs:Solo A) (hR:M.Rep A) (hI:Inv A.C n [] M.K) (hn:n+1200≤1000000000000){K':Ko} (hK':Ko.retireN A.C A.C.c.width.toNat M.K=K') :
  ∃ z5:Int,w.cell? ⟨A.x,0+8,none⟩=some (.int .i64 z5)/\∃ (I3:Int->wD->Prop) (I4:Int->wD->Nat),I3 0 w/\∀ (_:Nat->Value) (x2:Int) (W11:wD),I3 x2 W11->Sx.split (decide (x2<z5))
   (∃ (p9:OA) (k15 k16:Nat),W11.cell? ⟨A.x,0+28,none⟩=some (.slice p9 k15 k16)/\Sx.split ((k15:Int)==0)
    (∃ z:Nx A M K',eY #[]=eY #[]/\Sep.Post (ae A M) W (ae A z.1) W11)
    (∃ (p10:OA) (k17 k18:Nat),W11.cell? ⟨A.x,0+28,none⟩=some (.slice p10 k17 k18)/\((0:Int)≤0/\(0:Int)<(k17:Int))/\Sx.adr p10 λ k19 k20=>∃ p11:OA,W11.cell? ⟨k19,k20+0,none⟩=some (.pointer p11) /\
     Calls prog 62 #[pZ A.x 0,.pointer p11] W11 λ e6 W12=>∃ t4:Bool,e6=eZ (.bool t4)/\Sx.split (!t4)
      (∃ z:Nx A M K',eY #[]=eY #[]/\Sep.Post (ae A M) W (ae A z.1) W12)
      (∀ z6:Int,z6=IntKind.wrap .i64 (x2+1)->I3 z6 W12/\I4 z6 W12<I4 x2 W11)))
   (∃ z:Nx A M K',eY #[]=eY #[]/\Sep.Post (ae A M) W (ae A z.1) W11):=by
 have hwd:=hI.cf.wd;obtain⟨wd,hw⟩:∃ wd:Nat,A.C.c.width=wd:=⟨A.C.c.width.toNat,by omega⟩
 have hw4:wd≤4:=by omega
 rw[hw,qG] at hK';refine⟨A.C.c.width,H.ld 0 rfl rfl,λ x B=>∃ (m:Nat) (M1:Km),x=m/\m≤wd/\M1.Rep A/\Kept M M1/\Inv A.C (n+202 * m) [] M1.K/\Ko.retireN A.C (wd - m) M1.K=K'/\St W (ae A M).own B (M1.pieces A++[]),λ x _=>1000 - x.toNat,⟨0,M,rfl,qQ _,hR,Kept.refl M,hI,hK',H⟩,?_⟩;clear H hK';rintro _ x w2 ⟨m,M1,rfl,hm,hR1,hk1,hI1,hK',H⟩;refine aa (λ q=>?_) (λ q=>?_)
 rotate_left
 ·have q:=qE q
  have e:wd - m=0:=by omega
  rw[e] at hK';exact⟨⟨M1,hR1,hK',hk1⟩,rfl,aq H⟩
 have q:m<wd:=by have:=qB q;omega
 obtain⟨t,ht⟩:∃ t,wd - m=t+1:=⟨wd - m - 1,by omega⟩;rw[ht] at hK';refine⟨_,_,_,H.ld 0 rfl rfl,aa (λ q2=>?_) (λ q2=>?_)⟩
 ·have q2:M1.fs.length=0:=by
   have:((M1.fs.length:Nat):Int)=0:=by simpa using q2
   omega
  have e:Ko.retireN A.C (t+1) M1.K=M1.K:=by unfold Ko.retireN;rw[if_pos (by rw[<- hR1.fk];exact q2)]
  rw[e] at hK';exact⟨⟨M1,hR1,hK',hk1⟩,rfl,aq H⟩
 ·have q2:M1.fs.length≠0:=by
   have:¬ ((M1.fs.length:Nat):Int)=0:=by simpa using q2
   omega
  have hl:M1.K.fls.length≠0:=by rw[<- hR1.fk];exact q2
  obtain⟨f,r,hf⟩:=qOB (l:=M1.K.fls) (λ e=>hl (by rw[e];rfl));obtain⟨b,hb,hy⟩:=hR1.at (hI1.hd0 hf);obtain⟨g0,o,hp,hc⟩:=ti (H.nth 11 rfl) hb
  have e:Ko.retireN A.C (t+1) M1.K=if (M1.K.one A.C).2=false then (M1.K.one A.C).1 else Ko.retireN A.C t (M1.K.one A.C).1:=by
   conv=>lhs;unfold Ko.retireN
   rw[if_neg hl]
  rw[e] at hK';refine⟨_,_,_,H.ld 0 rfl rfl,⟨by decide,by omega⟩,?_⟩;rw[hp];refine adr_some ⟨_,hc,?_⟩;have H:=St.shut (L':=[]) H;refine H.callx 0 rfl (aee (H.nth 0 rfl) hs hR1 hI1 (by omega) hf hb) λ z w3 H=>⟨_,rfl,aa (λ t2=>?_) (λ t2=>?_)⟩
  ·have t2:(M1.K.one A.C).2=false:=by simpa using t2
   rw[if_pos t2] at hK';exact⟨⟨z.1,z.2.1,z.2.2.1.trans hK',hk1.trans z.2.2.2⟩,rfl,H.post 0 rfl⟩
  ·have t2:(M1.K.one A.C).2=true:=by simpa using t2
   rw[if_neg (by rw[t2];decide)] at hK';rintro z6 rfl;rw[w64 (by omega) (by omega)];have hI2:=hI1.one (C:=A.C) (by omega) hf;rw[<- z.2.2.1] at hI2 hK';refine⟨⟨m+1,z.1,by omega,by omega,z.2.1,hk1.trans z.2.2.2,hI2.up (by omega),?_,H.open_⟩,by show 1000 - ((m:Int)+1).toNat<1000 - (m:Int).toNat;omega⟩;rw[show wd - (m+1)=t by omega];exact hK'
theorem Hz (h:(ae A M).at_ W) (hs:Solo A) (hR:M.Rep A) (hI:Inv A.C n [] M.K) (hn:n+1200≤1000000000000) :
  Calls prog 39 #[pZ A.x 0] W λ e w=>∃ z:Nx A M (M.K.retire A.C),e=eY #[]/\Sep.Post (ae A M) W (ae A z.1) w:=by
 have H:=au h;refine apq A.x 0 ⟨M.K.line,H.ld 0 rfl rfl,aa (λ q=>⟨_,H.ld 0 rfl rfl,(Pe (H.nth 6 rfl)).mono ?_⟩) (λ q=>?_)⟩
 rotate_left
 ·have q:M.K.line=false:=q
  have e:M.K.retire A.C=Ko.retireN A.C A.C.c.width.toNat M.K:=by unfold Ko.retire;rw[if_neg (λ e=>by rw[q] at e;exact absurd e.1 (by decide))]
  rw[e];exact yo H hs hR hI hn rfl
 rintro e w2 ⟨rfl,rfl⟩;have q:M.K.line=true:=q;refine⟨_,rfl,aa (λ t=>?_) (λ t=>?_)⟩
 rotate_left
 ·have t:M.K.rs.inter=false:=t
  have e:M.K.retire A.C=Ko.retireN A.C A.C.c.width.toNat M.K:=by unfold Ko.retire;rw[if_neg (λ e=>by rw[t] at e;exact absurd e.2 (by decide))]
  rw[e];exact yo H hs hR hI hn rfl
 have e:M.K.retire A.C=M.K.irq A.C:=by unfold Ko.retire;rw[if_pos ⟨q,t⟩]
 rw[e];clear e;refine⟨_,_,_,H.ld 0 rfl rfl,aa (λ q2=>?_) (λ q2=>?_)⟩
 ·have q2:M.fs.length≠0:=by have:=qB q2;omega
  have hl:M.K.fls.length≠0:=by rw[<- hR.fk];exact q2
  obtain⟨f,r,hf⟩:=qOB (l:=M.K.fls) (λ e=>hl (by rw[e];rfl));have hf0:=hI.hd0 hf;have efl:=bi hf0;obtain⟨b,hb,hy⟩:=hR.at hf0;have ho:=hI.fo f (hI.mem hf0);refine H.dr λ w3 H=>?_;rintro vs rfl;obtain⟨g0,o,hp,hc⟩:=ti (H.nth 11 rfl) hb;refine⟨_,H.ld 0 rfl rfl,_,_,_,H.ld 0 rfl rfl,⟨by decide,by omega⟩,?_⟩;rw[hp];refine adr_some ⟨_,hc,ptr_some ⟨_,rfl,by rw[ac];exact gv (St.fl H hy),?_⟩⟩;refine gc H hR hI.pr f.mh f.mt ho.mv 0 zeroI false λ ps w4 hp H=>⟨rfl,?_⟩;exact Kw (M1:=M.prd (M.K.pr.back f.mh f.mt f.mv 0 zeroI false) ps M.pd) H (hR.prd hp) (Kept.of rfl rfl) (hI.restore (f:=f) ho.mv 0 zeroI false) (by omega) (K1:=M.K.restore f 0 zeroI false) rfl (by unfold Ko.irq;rw[if_neg hl,efl];rfl)
 ·have q2:M.fs.length=0:=by have:=qE q2;omega
  have hl:M.K.fls.length=0:=by rw[<- hR.fk];exact q2
  exact Kw H hR (Kept.refl M) hI (by omega) (K1:=M.K) rfl (by unfold Ko.irq;rw[if_pos hl])
def Km.idl (M:Km) (v:Bool):Km:={ M with K:={ M.K with idle:=v } }
theorem Km.Rep.idl (h:M.Rep A) (v:Bool):(M.idl v).Rep A:=⟨h.win,h.q,h.qs,h.pr,h.fn,h.fd,h.fk,h.fl,h.bus,h.gs,h.bg,h.oth⟩
theorem aef (hA:A.Ok) (H:St W S w (M.pieces A++L)):Sl w 47 1 (.slice A.cp A.C.code.length A.cc) A.C.code.length (u32s A.C.code) :=
 hA.code.keep (H.nth 1 rfl:(br A.B).at_ w).2 (λ q hq=>by have:=hA.low q hq;omega)
theorem Fy (H:St W S w (M.pieces A++L)):Tabs A.B.heap.size w:=(H.nth 1 rfl:(br A.B).at_ w).1
theorem Ia (h:(ae A M).at_ W) (hA:A.Ok) (hI:Inv A.C n g M.K) :
  Calls prog 113 #[pZ A.x 0] W λ e w=>∃ k:Nat,e=eZ (pZ k 0)/\Sep.Post (ae A M) W (all [ae A (M.idl (M.K.idle|| !A.C.there M.K.pc)),blk k (M.K.decoded A.C).cells 162]) w:=by
 have hpc:=hI.pc
 have fin:∀ {B:wD} {k:Nat} {i:Bool} {f:Fl} {L:List Asn},(M.K.idle|| !A.C.there M.K.pc)=i->M.K.decoded A.C=f->St W (ae A M).own B ((M.idl i).pieces A++(blk k f.cells 162::L))->∃ k':Nat,eZ (pZ k 0)=eZ (.pointer (some ⟨k',0,none⟩))/\Sep.Post (ae A M) W (all [ae A (M.idl (M.K.idle|| !A.C.there M.K.pc)),blk k' (M.K.decoded A.C).cells 162]) B:=by
  rintro B k i f L rfl rfl H;have H2:St W (ae A M).own B (ae A (M.idl (M.K.idle|| !A.C.there M.K.pc))::(blk k (M.K.decoded A.C).cells 162::L)):=St.shut H;exact⟨k,rfl,(St.shut (L:=[ae A (M.idl (M.K.idle|| !A.C.there M.K.pc)),blk k (M.K.decoded A.C).cells 162]) H2).post 0 rfl⟩
 have H:=au h;refine als A.x 0 ⟨M.K.pc,H.ld 0 rfl rfl,?_⟩;rintro vs rfl;refine H.al λ k w2 H=>?_;refine⟨_,_,_,H.ld 0 rfl rfl,M.K.pc,H.ld 0 rfl rfl,_,_,λ k4=>(Vi (aef hA (H.drewN k4)) hA.ok.code.2 M.K.pc hpc).mono λ e w3 hw=>⟨hw.1,k4,hw.2⟩,?_⟩;rintro w3 k6 rfl;have H:=H.drewN k6;refine aa (λ q=>?_) (λ q=>?_)
 ·have q:A.C.there M.K.pc=false:=by unfold Kc.there;simpa using q
  refine⟨M.K.pc,H.ld 0 rfl rfl,H.st 16 rfl (by show 20<28;omega) λ w4 H=>H.st 16 rfl (by show 21<28;omega) λ w5 H=>H.st 0 rfl (by show 33<34;omega) λ w6 H=>?_⟩;refine fin (i:=true) (f:={ fl0 M.K.pc with cause:=1,tval:=M.K.pc }) (L:=[]) (by rw[q];simp) ?_ H;unfold Ko.decoded;rw[if_pos q]
 have q1:M.K.pc / 4<A.C.code.length:=by simpa using q
 have q:A.C.there M.K.pc=true:=by unfold Kc.there;exact qI q1
 rw[if_pos q1]
 have ei:(M.K.idle|| !A.C.there M.K.pc)=M.K.idle:=by rw[q];simp
 have hx:=hI.word M.K.pc;obtain⟨x,ex⟩:∃ x,A.C.word M.K.pc=x:=⟨_,rfl⟩;have ex2:A.C.code.getD (M.K.pc / 4).toNat 0=x:=ex;rw[ex] at hx;rw[ex2]
 have hdec:M.K.decoded A.C=if Bp x=false then { fl0 M.K.pc with word:=x,cause:=2,tval:=x } else { fl0 M.K.pc with word:=x,i:=yy x,cls:=av (yy x).op }:=by
  unfold Ko.decoded;rw[if_neg (by rw[q];decide),ex]
 refine H.st 16 rfl (by show 2<28;omega) λ w4 H=>H.callq (Vh (Fy H) x hx) λ w5 H=>⟨_,_,rfl,H.al λ k7 w6 H=>H.sts0 17 (vs:=(yy x).vs) rfl rfl rfl (Ha _) λ w7 H=>aa (λ t=>?_) (λ t=>?_)⟩
 ·have t:Bp x=false:=by simpa using t
  rw[if_pos t] at hdec;exact H.st 16 rfl (by show 20<28;omega) λ w8 H=>H.st 16 rfl (by show 21<28;omega) λ w9 H=>fin (L:=[blk k7 (yy x).vs 157]) ei hdec H
 ·have t:Bp x=true:=by simpa using t
  rw[if_neg (by rw[t];decide)] at hdec;refine H.dr λ w8 H=>⟨(yy x).op,H.ld 17 rfl rfl,⟨(yy x).vs,rfl,H.cells 17 rfl,Below.refl _ _,H.callq (mm (Fy H) _) λ w9 H=>⟨_,rfl,?_⟩⟩,H.callq (mm (Fy H) _) λ w9 H=>⟨_,rfl,(yy x).vs,rfl,H.cells 17 rfl,?_⟩⟩
  ·exact H.sts 16 rfl rfl (by show 3+5≤28;omega) (Ha _) λ w10 H=>H.st 16 rfl (by show 8<28;omega) λ w11 H=>fin (L:=[blk k7 (yy x).vs 157]) ei hdec H
  ·exact H.sts 16 rfl rfl (by show 3+5≤28;omega) (Ha _) λ w10 H=>H.st 16 rfl (by show 8<28;omega) λ w11 H=>fin (L:=[blk k7 (yy x).vs 157]) ei hdec H
end Go.Proofs.YtmncepdbglaphaaGreatDoor.ko
