/- A part of the walk. No condition. -/
import Derived.Test.YtmncepdbglaphaaGreatDoorKwZ
set_option linter.unusedVariables false
set_option maxRecDepth 100000
namespace Go.Proofs.YtmncepdbglaphaaGreatDoor.ko
open Go.RowKit Go.XHeap Go.Sx Go.Sep Go.Proofs.Tryz
variable {W w:wD}{A:Ka}{M M' M1:Km}{L:List Asn}{b j n i:Nat}{f f' f1 f2 f3:Fl}{g:List Fl}{S:Nat->Prop}{s:Int}
theorem ot (H:St W S w (M.pieces A++L)) (hR:M.Rep A) (hI:Inv A.C n g M.K) (c most:Int){Q:Ending->wD->Prop}
  (hq:∀ (p:OA) (k:Nat) w',St W S w' ((M.pieces A++L)++[sl 3 1 (.slice p (M.K.ready c most).length k) (M.K.ready c most).length (win.intsV (M.K.ready c most))])->Q (eZ (.slice p (M.K.ready c most).length k)) w') :
  Calls prog 63 #[pZ A.wb 0,.int .i64 c,.int .i64 most] w Q:=by
 have hr:=win.ready_any hR.win.ok (H.nth 2 rfl) (WinR.regs hR.win hI) c most;rw[WinR.ready hR.win c most] at hr;exact H.calln hr λ z w' H=>hq z.1 z.2 w' H
theorem aeg (hR:M.Rep A) (hI:Inv A.C n g M.K){P:Int->Prop} (hD:Due M.K P i f s):∃ b,M.fs[i]?=some b/\M.ptr s=some ⟨b,0,none⟩:=by
 obtain⟨b,hb,hy⟩:=hR.at hD.at_;exact⟨b,hb,by rw[<- hD.seq];exact Km.ptr_at hR hI hD.at_ hb⟩
theorem ahi (hR:M.Rep A) (hI:Inv A.C n g M.K):M.fs.length≤64:=by
 rw[hR.fk];have:=hI.wn;have:=hI.cf.wn;unfold Kc.W at *;omega
theorem tq (H:St W S w (M.pieces A++L)) (hR:M.Rep A) (hI:Inv A.C n g M.K){P:Int->Prop} (hD:Due M.K P i f s) (hb:M.fs[i]?=some b) :
  Calls prog 55 #[pZ A.x 0,.int .i64 s] w λ e w'=>e=eZ (pZ b 0)/\w'=w:=by
 have:=find_any (H.shut.nth 0 rfl) hR (ahi hR hI) s;obtain⟨b',hb',hp⟩:=aeg hR hI hD;rw[hb] at hb';cases hb';rw[hp] at this;exact this
theorem Ga (H:St W S w (M.pieces A++L)) (hR:M.Rep A) (hI:Inv A.C n g M.K) (hn:n≤1000000000000){P:Int->Prop} (hD:Due M.K P i f s) (hm:f.mem=false) (hb:M.fs[i]?=some b){Q:Ending->wD->Prop}
  (hq:∀ (z:Nx A M (M.K.compute i)) w',St W S w' (z.1.pieces A++L)->(∀ (cy:Int) {L':List Asn} {w2:wD} {Q':Ending->wD->Prop},0≤cy/\cy≤10->St W S w2 (z.1.pieces A++L')->(∀ (y:Nx A M ((M.K.compute i).begin A.C i cy)) w3,St W S w3 (y.1.pieces A++L')->Q' (eY #[]) w3)->Calls prog 66 #[pZ A.x 0,pZ b 0,.int .i64 cy] w2 Q')->Q (eY #[]) w') :
  Calls prog 65 #[pZ A.x 0,pZ b 0] w Q:=by
 have H:=H.shut;refine H.callx 0 rfl (Hy (H.nth 0 rfl) hR hI hD.at_ hb hm) λ z w' H=>hq z w' H.open_ ?_;intro cy L' w2 Q' hcy H2 hq2;have hk:=Fl.comp_keep f (M.K.val f.a) (M.K.val f.b)
 have hI2:Inv A.C n g z.1.K:=by rw[z.2.2.1];exact hI.compute hD.at_ hm
 have hf2:z.1.K.fls[i]?=some (f.comp (M.K.val f.a) (M.K.val f.b)):=by rw[z.2.2.1];exact Al hD.at_
 have hb2:=z.2.2.2.at hR z.2.1 hI hf2 hD.at_ hk.1.seq hb
 have hhas:∀ p,z.1.K.has p=M.K.has p:=λ p=>by rw[z.2.2.1];rfl
 have H2:=H2.shut;refine H2.callx 0 rfl (ne (H2.nth 0 rfl) z.2.1 hI2 hn hf2 hb2 ⟨hk.2.2.trans hD.iss,hk.2.1.trans hD.don⟩ (by rw[hk.1.a,hk.1.b,hhas,hhas];exact⟨hD.a,hD.b⟩) hcy) λ y w3 H=>?_;refine hq2 ⟨y.1,y.2.1,?_,z.2.2.2.trans y.2.2.2⟩ w3 H.open_;rw[y.2.2.1,z.2.2.1]
theorem tr {l:LI}{m:Nat} (hm:m<l.length):l.drop m=l.getD m 0::l.drop (m+1):=by
 rw[qYB hm,qF,qC hm];rfl
theorem aeh (hI:Inv A.C n g M.K){P:Int->Prop} (hD:Due M.K P i f s):Ko.alu1 A.C M.K s=(M.K.compute i).begin A.C i 1:=by
 unfold Ko.alu1;rw[<- hD.seq,hI.at hD.at_]
theorem aei (hI:Inv A.C n g M.K){P:Int->Prop} (hD:Due M.K P i f s):Ko.mul1 A.C M.K s=(M.K.compute i).begin A.C i A.C.c.mul:=by
 unfold Ko.mul1;rw[<- hD.seq,hI.at hD.at_]
def Cz (K:Ko) (C:Kc) (m:Nat):LI:=([0,2,3].take m).flatMap λ c=>K.ready c C.c.units
theorem aej {p:OA}{k c:Nat}{xs:LV} (h:Sl w 3 1 (.slice p k c) k xs):(k=0/\p=none)∨∃ a,p=some a/\∀ j u,xs[j]?=some u->w.cell? (a.add j)=some u:=by
 obtain⟨ao,cap,hv,hl, -, -, -,hc⟩:=h.open1;cases hv;by_cases h0:k=0
 ·subst h0
  cases p with
  | none=>exact .inl ⟨rfl,rfl⟩
  | some a =>
   refine .inr ⟨a,rfl,λ j u hj=>?_⟩;obtain rfl:=qDC.1 hl;cases hj
 ·obtain⟨g,off,e, -,hcc⟩:=hc (by omega);refine .inr ⟨_,e,λ j u hj=>?_⟩;rw[ac,(hcc j (by have:=(qD.1 hj).1;omega)).1];exact hj
set_option maxHeartbeats 1000000 in
theorem Nc (h:(ae A M).at_ W) (hR:M.Rep A) (hI:Inv A.C n [] M.K) (hn:n+400≤1000000000000) :
  Calls prog 40 #[pZ A.x 0] W λ e w=>∃ z:Nz A (M.K.issue A.C),e=eY #[]/\Sep.Post (ae A M) W (ae A z.1) w:=by
 have hu:=hI.cf.u;obtain⟨U,hU⟩:∃ U:Nat,A.C.c.units=U:=⟨A.C.c.units.toNat,by omega⟩
 have hU4:U≤4:=by omega
 have rl:∀ c,(M.K.ready c A.C.c.units).length≤U:=λ c=>by have:=ja M.K c A.C.c.units;rw[hU,qG] at this;rw[hU];exact this
 have hacc:Cz M.K A.C 3=M.K.ready 0 A.C.c.units++M.K.ready 2 A.C.c.units++M.K.ready 3 A.C.c.units:=by
  unfold Cz;simp
 have hal:(Cz M.K A.C 3).length≤12:=by
  rw[hacc,qP,qP];have:=rl 0;have:=rl 2;have:=rl 3;omega
 have H:=au h;refine aqg A.x 0 ⟨λ p k c B=>k=(Cz M.K A.C 3).length/\St W (ae A M).own B (M.pieces A++[sl 3 1 (.slice p k c) k (win.intsV (Cz M.K A.C 3))]),H.al λ k w2 H=>?_,λ _=>?_⟩
 ·have H:St W (ae A M).own w2 ((M.pieces A++[blk k #[.int .i64 0,.int .i64 2,.int .i64 3] 158])++[sl 3 1 (.slice none 0 0) 0 []]):=H.add ⟨Sl.nil _ _ _,qH _ _,λ q e=>by cases e⟩;refine⟨λ x p k2 c B=>∃ m:Nat,x=m/\m≤3/\k2=(Cz M.K A.C m).length/\St W (ae A M).own B (M.pieces A++[blk k #[.int .i64 0,.int .i64 2,.int .i64 3] 158,sl 3 1 (.slice p k2 c) k2 (win.intsV (Cz M.K A.C m))]),λ x _ _ _ _=>10 - x.toNat,⟨0,rfl,by omega,rfl,H⟩,λ _=>?_⟩;clear H;rintro x p k2 c w3 ⟨m,rfl,hm,rfl,H⟩;refine aa (λ q=>?_) (λ q=>?_)
  ·have q:m<3:=by have:=qB q;omega
   obtain⟨cl,hcl,hacm⟩:∃ cl:Int,(#[Value.int .i64 0,.int .i64 2,.int .i64 3])[m]?=some (.int .i64 cl)/\Cz M.K A.C (m+1)=Cz M.K A.C m++M.K.ready cl A.C.c.units:=by
    have:m=0∨m=1∨m=2:=by omega
    rcases this with rfl | rfl | rfl
    ·exact⟨0,rfl,by unfold Cz;simp⟩
    ·exact⟨2,rfl,by unfold Cz;simp⟩
    ·exact⟨3,rfl,by unfold Cz;simp⟩
   have hacl:(Cz M.K A.C m).length≤12:=by
    have:m=0∨m=1∨m=2:=by omega
    have:=rl 0;have:=rl 2;rcases ‹m=0∨m=1∨m=2› with rfl | rfl | rfl
    ·unfold Cz;simp
    ·unfold Cz;simp;omega
    ·unfold Cz;simp;omega
   refine⟨⟨by omega,by omega⟩,cl,by rw[ix1];exact H.ld 16 (i:=0+m) rfl (by rw[qW];exact hcl),H.dr λ w4 H=>⟨_,H.ld 0 rfl rfl,A.C.c.units,H.ld 0 rfl rfl,ot H hR hI cl A.C.c.units λ p2 c2 w5 H=>⟨_,_,_,rfl,?_⟩⟩⟩;have hrc:=rl cl;have hsl:Sl w5 3 1 (.slice p2 (M.K.ready cl A.C.c.units).length c2) (M.K.ready cl A.C.c.units).length (win.intsV (M.K.ready cl A.C.c.units)):=H.nth 18 rfl;refine H.app 17 rfl _ (aej hsl) (by rw[qT];unfold win.intsV;rw[qd]) (λ v hv=>by unfold win.intsV at hv;obtain⟨a, -,rfl⟩:=qCB.1 hv;rfl) (by have:maxLen=2 ^ 63 - 1:=rfl;omega) (by omega) λ p' c' w6 H=>?_;rintro z3 rfl;rw[w64 (by omega) (by omega)];refine⟨⟨m+1,by omega,by omega,by rw[hacm,qP],?_⟩,by show 10 - ((m:Int)+1).toNat<10 - (m:Int).toNat;omega⟩
   have e:win.intsV (Cz M.K A.C m)++win.intsV (M.K.ready cl A.C.c.units)=win.intsV (Cz M.K A.C (m+1)):=by rw[hacm];unfold win.intsV;rw[qV]
   rw[<- e];exact H.take 18
  ·have q:¬ m<3:=by have:=qE q;omega
   have e3:m=3:=by omega
   subst e3;exact⟨rfl,H.pick [0,1,2,3,4,5,6,7,8,9,10,11,12,13,14,15,17]⟩
 clear H;rintro p k c w3 ⟨rfl,H⟩;obtain⟨l,hl⟩:∃ l,Cz M.K A.C 3=l:=⟨_,rfl⟩;rw[hl] at H hal hacc ⊢
 have hun:M.K.units A.C=(ow l).take U:=by unfold Ko.units;rw[<- hacc,hU,qG]
 have hil:(ow l).length=l.length:=List.length_mergeSort ..;refine H.call 16 rfl (Xm (H.nth 16 rfl) hal) λ w4 H=>⟨rfl,?_⟩;obtain⟨us,hus⟩:∃ us,M.K.units A.C=us:=⟨_,rfl⟩;obtain⟨hdu,hul⟩:=hI.units;rw[hus] at hdu hul hun
 have husl:us.length=min U l.length:=by rw[hun,qq,hil]
 obtain⟨K1,eK1⟩:∃ K1,us.foldl (Ko.alu1 A.C) M.K=K1:=⟨_,rfl⟩;obtain⟨K2,eK2⟩:∃ K2,(K1.ready 1 1).foldl (Ko.mul1 A.C) K1=K2:=⟨_,rfl⟩;obtain⟨K3,eK3⟩:∃ K3,(K2.ready 5 1).foldl (Ko.sto1 A.C) K2=K3:=⟨_,rfl⟩;obtain⟨K4,eK4⟩:∃ K4,K3.loads A.C (K3.ready 4 A.C.c.window)=K4:=⟨_,rfl⟩
 have hiss:M.K.issue A.C=K4:=by
  unfold Ko.issue;simp only;rw[hus,eK1,eK2,eK3,eK4]
 rw[hiss];clear hiss;refine⟨λ B=>∃ M1:Km,M1.Rep A/\Inv A.C (n+4) [] M1.K/\M1.K=K1/\St W (ae A M).own B (M1.pieces A++[]),⟨A.C.c.units,H.ld 0 rfl rfl,?_⟩,λ _=>?_⟩
 ·have hmin:(if A.C.c.units<((l.length:Nat):Int) then A.C.c.units else ((l.length:Nat):Int))=((us.length:Nat):Int):=by
   rw[hU,husl];split
   ·omega
   ·omega
  show _/\_;rw[hmin,qG]
  have hlc:l.length≤c:=by
   obtain⟨ao,cap,hv, -, -,h1, -⟩:=(H.nth 16 rfl:Sl w4 3 1 (.slice p l.length c) l.length (win.intsV (ow l))).open1;cases hv;exact h1
  refine⟨⟨by omega,by omega⟩,λ x B=>∃ (m:Nat) (M1:Km),x=m/\m≤us.length/\M1.Rep A/\Inv A.C (n+m) [] M1.K/\Dues M1.K Uc (us.drop m)/\(us.drop m).foldl (Ko.alu1 A.C) M1.K=K1/\St W (ae A M).own B (M1.pieces A++[sl 3 1 (.slice p l.length c) l.length (win.intsV (ow l))]),λ x _=>100 - x.toNat,⟨0,M,rfl,qQ _,hR,hI,hdu,eK1,H⟩,λ _=>?_⟩;clear H;rintro x w5 ⟨m,M1,rfl,hm,hR1,hI1,hd,hK,H⟩;refine aa (λ q=>?_) (λ q=>?_)
  ·have q:m<us.length:=by have:=qB q;omega
   obtain⟨g0,o,hp,hc, -⟩:=uv (c:=c) (l:=ow l) (k:=m) (by rw[hil];exact(H.nth 16 rfl:Sl w5 3 1 (.slice p l.length c) l.length (win.intsV (ow l)))) (by rw[hil];omega)
   have eus:us.getD m 0=(ow l).getD m 0:=by
    rw[hun,qF,qF,qa (by omega)]
   rw[tr q] at hd hK;rw[<- eus] at hc;obtain⟨i,f,hD⟩:=hd.2 _ (qg ..);obtain⟨b,hb, -⟩:=hR1.at hD.at_;refine⟨⟨by omega,by omega⟩,?_⟩;rw[hp];refine adr_some ⟨_,by rw[ix1];exact hc,(tq H hR1 hI1 hD hb).mono ?_⟩;rintro e w6 ⟨rfl,rfl⟩;refine⟨_,rfl,Ga H hR1 hI1 (by omega) hD (hD.cls.nomem rfl) hb λ z w7 H hbeg=>⟨rfl,hbeg 1 (by omega) H λ y w8 H=>⟨rfl,?_⟩⟩⟩;rintro z6 rfl;rw[w64 (by omega) (by omega)];have e1:=aeh hI1 hD;have hI2:=(hI1.alu1 (C:=A.C) hD.at_ hD.seq (hD.cls.nomem rfl));rw[e1] at hI2;rw[qKB,e1,<- y.2.2.1] at hK;have hd2:=hd.tail hI1 hD.at_ hD.seq hI2.2;rw[<- y.2.2.1] at hd2 hI2;rw[hp] at H;exact⟨⟨m+1,y.1,by omega,by omega,y.2.1,hI2.1,hd2,hK,H⟩,by show 100 - ((m:Int)+1).toNat<100 - (m:Int).toNat;omega⟩
  ·have q:m=us.length:=by have:=qE q;omega
   rw[q,List.drop_length] at hK;exact⟨M1,hR1,hI1.up (by omega),hK,H.take 16⟩
 clear H hdu hul hun husl eK1;rintro w5 ⟨M1,hR1,hI1,hK1,H⟩;refine⟨λ B=>∃ M2:Km,M2.Rep A/\Inv A.C (n+5) [] M2.K/\M2.K=K2/\St W (ae A M).own B (M2.pieces A++[]),⟨_,H.ld 0 rfl rfl,ot H hR1 hI1 1 1 λ p2 c2 w6 H=>⟨_,_,_,rfl,?_⟩⟩,λ _=>?_⟩
 ·have hdm:=hI1.ready 1 1;have hlm:=ja M1.K 1 1;rw[<- hK1] at eK2;obtain⟨ms,ems⟩:∃ ms,M1.K.ready 1 1=ms:=⟨_,rfl⟩;rw[ems] at H hdm hlm eK2 ⊢;have hlm:ms.length≤1:=hlm;refine⟨λ x B=>∃ (m:Nat) (M2:Km),x=m/\m≤ms.length/\M2.Rep A/\Inv A.C (n+4+m) [] M2.K/\Dues M2.K (·=1) (ms.drop m)/\(ms.drop m).foldl (Ko.mul1 A.C) M2.K=K2/\St W (ae A M).own B (M2.pieces A++[sl 3 1 (.slice p2 ms.length c2) ms.length (win.intsV ms)]),λ x _=>100 - x.toNat,⟨0,M1,rfl,qQ _,hR1,hI1,hdm,eK2,H⟩,λ _=>?_⟩;clear H;rintro x w7 ⟨m,M2,rfl,hm,hR2,hI2,hd,hK,H⟩;refine aa (λ q=>?_) (λ q=>?_)
  ·have q:m<ms.length:=by have:=qB q;omega
   obtain⟨g0,o,hp,hc, -⟩:=uv (H.nth 16 rfl:Sl w7 3 1 (.slice p2 ms.length c2) ms.length (win.intsV ms)) q;rw[tr q] at hd hK;obtain⟨i,f,hD⟩:=hd.2 _ (qg ..);obtain⟨b,hb, -⟩:=hR2.at hD.at_
   have hnm:f.mem=false:=by unfold Fl.mem;rw[hD.cls];decide
   refine⟨⟨by omega,by omega⟩,?_⟩;rw[hp];refine adr_some ⟨_,by rw[ix1];exact hc,(tq H hR2 hI2 hD hb).mono ?_⟩;rintro e w8 ⟨rfl,rfl⟩;have hmul:=hI.cf.m;refine⟨_,rfl,Ga H hR2 hI2 (by omega) hD hnm hb λ z w9 H hbeg=>⟨rfl,A.C.c.mul,H.ld 0 rfl rfl,hbeg A.C.c.mul (by omega) H λ y w10 H=>⟨rfl,?_⟩⟩⟩;rintro z6 rfl;rw[w64 (by omega) (by omega)];have e1:=aei hI2 hD;have hI3:=(hI2.mul1 (C:=A.C) hD.at_ hD.seq hnm);rw[e1] at hI3;rw[qKB,e1,<- y.2.2.1] at hK;have hd2:=hd.tail hI2 hD.at_ hD.seq hI3.2;rw[<- y.2.2.1] at hd2 hI3;rw[hp] at H;exact⟨⟨m+1,y.1,by omega,by omega,y.2.1,hI3.1,hd2,hK,H⟩,by show 100 - ((m:Int)+1).toNat<100 - (m:Int).toNat;omega⟩
  ·have q:m=ms.length:=by have:=qE q;omega
   rw[q,List.drop_length] at hK;exact⟨M2,hR2,hI2.up (by omega),hK,H.take 16⟩
 clear H hR1 hI1 hK1 eK2;rintro w6 ⟨M2,hR2,hI2,hK2,H⟩;refine⟨λ B=>∃ M3:Km,M3.Rep A/\Inv A.C (n+70) [] M3.K/\M3.K=K3/\St W (ae A M).own B (M3.pieces A++[]),⟨_,H.ld 0 rfl rfl,ot H hR2 hI2 5 1 λ p2 c2 w7 H=>⟨_,_,_,rfl,?_⟩⟩,λ _=>?_⟩
 ·have hdm:=hI2.ready 5 1;have hlm:=ja M2.K 5 1;rw[<- hK2] at eK3;obtain⟨ms,ems⟩:∃ ms,M2.K.ready 5 1=ms:=⟨_,rfl⟩;rw[ems] at H hdm hlm eK3 ⊢;have hlm:ms.length≤1:=hlm;refine⟨λ x B=>∃ (m:Nat) (M3:Km),x=m/\m≤ms.length/\M3.Rep A/\Inv A.C (n+5+65 * m) [] M3.K/\(m=0->Dues M3.K (·=5) ms)/\(ms.drop m).foldl (Ko.sto1 A.C) M3.K=K3/\St W (ae A M).own B (M3.pieces A++[sl 3 1 (.slice p2 ms.length c2) ms.length (win.intsV ms)]),λ x _=>100 - x.toNat,⟨0,M2,rfl,qQ _,hR2,hI2,λ _=>hdm,eK3,H⟩,λ _=>?_⟩;clear H;rintro x w8 ⟨m,M3,rfl,hm,hR3,hI3,hd,hK,H⟩;refine aa (λ q=>?_) (λ q=>?_)
  ·have q:m<ms.length:=by have:=qB q;omega
   obtain⟨g0,o,hp,hc, -⟩:=uv (H.nth 16 rfl:Sl w8 3 1 (.slice p2 ms.length c2) ms.length (win.intsV ms)) q;rw[tr q] at hK;obtain⟨i,f,hD⟩:=(hd (by omega)).2 (ms.getD m 0) (by rw[qF,qC q];exact qjB q);obtain⟨b,hb, -⟩:=hR3.at hD.at_;refine⟨⟨by omega,by omega⟩,?_⟩;rw[hp];refine adr_some ⟨_,by rw[ix1];exact hc,(tq H hR3 hI3 hD hb).mono ?_⟩;rintro e w9 ⟨rfl,rfl⟩;have H:=H.shut;refine⟨_,rfl,H.callx 0 rfl (Sz (H.nth 0 rfl) hR3 hI3 (by omega) hD.at_ hb hD.cls ⟨hD.iss,hD.don⟩ ⟨hD.a,hD.b⟩) λ y w10 H=>⟨rfl,?_⟩⟩;rintro z6 rfl;rw[w64 (by omega) (by omega)]
   have e1:Ko.sto1 A.C M3.K (ms.getD m 0)=M3.K.store A.C i:=by unfold Ko.sto1;rw[<- hD.seq,hI3.at hD.at_]
   have hI4:=hI3.store (C:=A.C) hD.at_ hD.cls;rw[qKB,e1,<- y.2.2.1] at hK;rw[<- y.2.2.1] at hI4;rw[hp] at H;exact⟨⟨m+1,y.1,by omega,by omega,y.2.1,hI4.up (by omega),λ e=>by omega,hK,H.open_⟩,by show 100 - ((m:Int)+1).toNat<100 - (m:Int).toNat;omega⟩
  ·have q:m=ms.length:=by have:=qE q;omega
   rw[q,List.drop_length] at hK;exact⟨M3,hR3,hI3.up (by omega),hK,H.take 16⟩
 clear H hR2 hI2 hK2 eK3;rintro w7 ⟨M3,hR3,hI3,hK3,H⟩;refine H.dr λ w8 H=>⟨_,H.ld 0 rfl rfl,A.C.c.window,H.ld 0 rfl rfl,ot H hR3 hI3 4 A.C.c.window λ p2 c2 w9 H=>⟨_,_,_,rfl,?_⟩⟩;have hdm:=hI3.ready 4 A.C.c.window;have hlm:=ja M3.K 4 A.C.c.window;have hwn:=hI.cf.wn;rw[<- hK3] at eK4;obtain⟨ms,ems⟩:∃ ms,M3.K.ready 4 A.C.c.window=ms:=⟨_,rfl⟩;rw[ems] at H hdm hlm eK4 ⊢
 have hlm:ms.length≤64:=by omega
 refine⟨λ x B=>∃ (m:Nat) (M4:Km),x=m/\m≤ms.length/\M4.Rep A/\Inv A.C (n+70+2 * m) [] M4.K/\Dues M4.K (·=4) (ms.drop m)/\M4.K.loads A.C (ms.drop m)=K4/\St W (ae A M).own B (M4.pieces A++[sl 3 1 (.slice p2 ms.length c2) ms.length (win.intsV ms)]),λ x _=>1000 - x.toNat,⟨0,M3,rfl,qQ _,hR3,hI3,hdm,eK4,H⟩,λ _=>?_⟩;clear H;rintro x w10 ⟨m,M4,rfl,hm,hR4,hI4,hd,hK,H⟩;refine aa (λ q=>?_) (λ q=>?_)
 ·have q:m<ms.length:=by have:=qB q;omega
  obtain⟨g0,o,hp,hc, -⟩:=uv (H.nth 16 rfl:Sl w10 3 1 (.slice p2 ms.length c2) ms.length (win.intsV ms)) q;rw[tr q] at hd hK;obtain⟨i,f,hD⟩:=hd.2 _ (qg ..);obtain⟨b,hb, -⟩:=hR4.at hD.at_
  have e1:M4.K.loads A.C (ms.getD m 0::ms.drop (m+1))=if (M4.K.load A.C i).2=true then (M4.K.load A.C i).1 else Ko.loads A.C (M4.K.load A.C i).1 (ms.drop (m+1)):=by
   conv=>lhs;unfold Ko.loads
   rw[<- hD.seq,hI4.at hD.at_]
  rw[e1] at hK;refine⟨⟨by omega,by omega⟩,?_⟩;rw[hp];refine adr_some ⟨_,by rw[ix1];exact hc,(tq H hR4 hI4 hD hb).mono ?_⟩;rintro e w11 ⟨rfl,rfl⟩;have H:=H.shut;refine⟨_,rfl,aa (λ _=>?_) (λ t=>by cases t)⟩;refine H.callx 0 rfl (load_any (H.nth 0 rfl) hR4 hI4 (by omega) hD.at_ hb hD.cls ⟨hD.iss,hD.don⟩ ⟨hD.a,hD.b⟩) λ y w12 H=>⟨_,rfl,aa (λ t=>?_) (λ t=>?_)⟩
  ·have t:(M4.K.load A.C i).2=true:=t;rw[if_pos t] at hK;exact⟨⟨y.1,y.2.1,y.2.2.1.trans hK⟩,rfl,H.post 0 rfl⟩
  ·have t:(M4.K.load A.C i).2=false:=t;rw[if_neg (by rw[t];decide)] at hK;rintro z6 rfl;rw[w64 (by omega) (by omega)];have hI5:=hI4.load (C:=A.C) (by omega) hD.at_ hD.cls hD.iss;have hd2:=hd.tail hI4 hD.at_ hD.seq (One.load (C:=A.C) M4.K i);rw[<- y.2.2.1] at hI5 hd2 hK;rw[hp] at H;exact⟨⟨m+1,y.1,by omega,by omega,y.2.1,hI5.up (by omega),hd2,hK,H.open_⟩,by show 1000 - ((m:Int)+1).toNat<1000 - (m:Int).toNat;omega⟩
 ·have q:m=ms.length:=by have:=qE q;omega
  rw[q,List.drop_length] at hK;exact⟨⟨M4,hR4,hK⟩,rfl,aq H⟩
theorem uw (H:St W (ae A M).own w [ae A M1]) (hs:Solo A) (hR:M1.Rep A) (hI:Inv A.C n [] M1.K) (hn:n+4≤1000000000000){K':Ko} (hK:M1.K.drain A.C=K') :
  Calls prog 42 #[pZ A.x 0] w λ e w'=>e=eY #[]/\∃ z:Nz A K',eY #[]=eY #[]/\Sep.Post (ae A M) W (ae A z.1) w' :=
 H.callx 0 rfl (drain_any (H.nth 0 rfl) hs hR hI hn) λ z w' H=>⟨rfl,⟨z.1,z.2.1,z.2.2.1.trans hK⟩,rfl,H.post 0 rfl⟩
theorem Nd (H:St W (ae A M).own w [ae A M1]) (hA:A.Ok) (hs:Solo A) (hR:M1.Rep A) (hI:Inv A.C n [] M1.K) (hn:n+500≤1000000000000){K':Ko} (hK:((M1.K.issue A.C).enter A.C).drain A.C=K') :
  Calls prog 40 #[pZ A.x 0] w λ e3 W4=>e3=eY #[]/\Calls prog 41 #[pZ A.x 0] W4 λ e4 W5=>e4=eY #[] /\
   Calls prog 42 #[pZ A.x 0] W5 λ e w'=>e=eY #[]/\∃ z:Nz A K',eY #[]=eY #[]/\Sep.Post (ae A M) W (ae A z.1) w':=by
 refine H.callx 0 rfl (Nc (H.nth 0 rfl) hR hI (by omega)) λ z w2 H=>⟨rfl,?_⟩;have hI2:=hI.issue (C:=A.C) (by omega);rw[<- z.2.2] at hI2 hK;refine H.callx 0 rfl (Nb (H.nth 0 rfl) hA z.2.1 hI2 (by omega)) λ y w3 H=>⟨rfl,?_⟩;have hI3:=hI2.enter (C:=A.C);rw[<- y.2.2] at hI3 hK;exact uw H hs y.2.1 hI3 (by omega) hK
theorem Xn (h:(ae A M).at_ W) (hA:A.Ok) (hs:Solo A) (hR:M.Rep A) (hI:Inv A.C n [] M.K) (hn:n+7000≤1000000000000) :
  Calls prog 28 #[pZ A.x 0] W λ e w=>∃ z:Nz A (M.K.step A.C),e=eY #[]/\Sep.Post (ae A M) W (ae A z.1) w:=by
 have H:=au h;obtain⟨K',hK'⟩:∃ K',M.K.step A.C=K':=⟨_,rfl⟩;rw[hK'];have H0:=St.begin h;refine aqi A.x 0 ⟨M.K.halted,H.ld 0 rfl rfl,aa (λ q=>?_) (λ q=>⟨M.K.halted,H.ld 0 rfl rfl,aa (λ q2=>?_) (λ _=>?_)⟩)⟩
 ·have q:M.K.halted=false:=by simpa using q
  have e:M.K.step A.C=(if ((M.K.complete A.C).retire A.C).halted=true then (M.K.complete A.C).retire A.C else (((M.K.complete A.C).retire A.C).issue A.C).enter A.C).drain A.C:=by unfold Ko.step;simp [q]
  rw[e] at hK';refine H0.callx 0 rfl (Fv (H0.nth 0 rfl) hR hI (by omega)) λ z w2 H=>⟨rfl,?_⟩;have hI1:=hI.complete (C:=A.C);rw[<- z.2.2.1] at hI1 hK';refine H.callx 0 rfl (Hz (H.nth 0 rfl) hs z.2.1 hI1 (by omega)) λ y w3 H=>⟨rfl,?_⟩;have hI2:=hI1.retire (C:=A.C) (by omega);rw[<- y.2.2.1] at hI2 hK';have H2:=au (H.nth 0 rfl);refine⟨y.1.K.halted,H2.ld 0 rfl rfl,aa (λ t=>?_) (λ t=>?_)⟩
  ·have t:y.1.K.halted=false:=by simpa using t
   rw[if_neg (by rw[t];decide)] at hK';exact Nd H hA hs y.2.1 hI2 (by omega) hK'
  ·have t:y.1.K.halted=true:=by simpa using t
   rw[if_pos t] at hK';exact uw H hs y.2.1 hI2 (by omega) hK'
 ·have q:M.K.halted=true:=by simpa using q
  rw[q] at q2;cases q2
 ·have q:M.K.halted=true:=by simpa using q
  have e:M.K.step A.C=M.K.drain A.C:=by unfold Ko.step;simp [q]
  rw[e] at hK';exact uw H0 hs hR hI (by omega) hK'
theorem Tg (h:(ae A M).at_ W) (hR:M.Rep A) (hI:Inv A.C n [] M.K) :
  Calls prog 29 #[pZ A.x 0] W λ e w=>e=eZ (.bool M.K.ended)/\Sep.Post (ae A M) W (ae A M) w:=by
 have H:=au h;have he:lsq.ens M.q=M.K.q:=hR.q;have hok:∀ e ∈ M.K.q,e.Ok:=hI.qo.ok;have old:=wc (H.nth 4 rfl) (by rw[he];exact hok);rw[he] at old;refine apr A.x 0 ⟨_,H.ld 0 rfl rfl,old.mono ?_⟩;rintro e w2 ⟨rfl,hh⟩;have H:=H.quiet hh;refine⟨_,_,rfl,H.al λ k w3 H=>H.sts0 16 (vs:=lsq.wrV (za M.K.q)) rfl (Cy _) rfl (Kv _) λ w4 H=>?_⟩;refine⟨M.K.halted,H.ld 0 rfl rfl,aa (λ q=>⟨?_,aq (L:=[blk k (lsq.wrV (za M.K.q)) 150]) H⟩) (λ q=>⟨?_,aq (L:=[blk k (lsq.wrV (za M.K.q)) 150]) H⟩)⟩
 ·unfold Ko.ended Ko.more;rw[show M.K.halted=true from q];rfl
 ·unfold Ko.ended;rw[show M.K.halted=false from q];rfl
def cnS (r:Int) (m:Int) (f:Fl):Int:=if 0≤f.fresh/\f.i.rd=r then f.old else m
theorem Da (h:(ae A M).at_ W) (hR:M.Rep A) (hI:Inv A.C n [] M.K){r:Int} (hr:0≤r/\r<32) :
  Calls prog 30 #[pZ A.x 0,.int .i64 r] W λ e w=>e=eZ (.int .u32 (M.K.committed r))/\w=W:=by
 have H:=au h;have h32:=hI.nm.n32;have hfl:=ahi hR hI
 have hlk:0≤M.K.nm.look r/\M.K.nm.look r<A.C.R:=by
  rw[look_reg hr];exact(hI.nm.un r.toNat (by omega)).1
 refine aqh A.x 0 r ⟨_,H.ld 0 rfl rfl,(rm.look_any (H.nth 3 rfl) h32 r).mono ?_⟩;rintro e w2 ⟨rfl,rfl⟩;refine⟨_,rfl,_,_,_,H.ld 0 rfl rfl,?_⟩;rintro z2 rfl;rw[w64 (by omega) (by omega)];refine⟨λ k3 name B=>∃ m:Nat,k3=(m:Int) - 1/\m≤M.fs.length/\name=(M.K.fls.drop m).reverse.foldl (cnS r) (M.K.nm.look r)/\(0≤name/\name<A.C.R)/\B=w2,λ k3 _ _=>(k3+1).toNat,⟨M.fs.length,rfl,qY _,by rw[hR.fk,List.drop_length];rfl,hlk,rfl⟩,λ _=>?_⟩;rintro k3 name w3 ⟨m,rfl,hm,hname,hrng,rfl⟩;refine aa (λ q=>?_) (λ q=>?_)
 ·have q:0<m:=by have:=qB q;omega
  obtain⟨t,rfl⟩:∃ t,m=t+1:=⟨m - 1,by omega⟩
  have htl:t<M.K.fls.length:=by rw[<- hR.fk];omega
  have hf:=qC htl;obtain⟨f,ef⟩:∃ f,M.K.fls[t]=f:=⟨_,rfl⟩;rw[ef] at hf;obtain⟨b,hb,hy⟩:=hR.at hf;obtain⟨g0,o,hp,hc⟩:=ti (H.nth 11 rfl) hb
  have ek:((t+1:Nat):Int) - 1=(t:Int):=by omega
  rw[ek];have hB:=St.fl H hy
  have hnext:(M.K.fls.drop t).reverse.foldl (cnS r) (M.K.nm.look r)=cnS r name f:=by
   rw[qYB htl,ef,List.reverse_cons,qwB,hname];rfl
  have ew:IntKind.wrap .i64 ((t:Int) - 1)=(t:Int) - 1:=w64 (by omega) (by omega);refine⟨_,_,_,H.ld 0 rfl rfl,⟨by omega,by omega⟩,?_⟩;rw[hp];refine adr_some ⟨_,by rw[ix1];exact hc,ptr_some ⟨f.fresh,by rw[ac];exact hB.cell' rfl,aa (λ q2=>ptr_some ⟨f.i.rd,hB.cell' rfl,aa (λ q3=>ptr_some ⟨f.old,by rw[ac];exact hB.cell' rfl,?_⟩) (λ q3=>?_)⟩) (λ q2=>?_)⟩⟩
  ·have q2:0≤f.fresh:=qB q2
   have q3:f.i.rd=r:=by simpa using q3
   rintro z6 rfl;rw[ew];have ho:=hI.old_rng (hI.mem hf) q2
   have e:cnS r name f=f.old:=by unfold cnS;rw[if_pos ⟨q2,q3⟩]
   exact⟨⟨t,rfl,by omega,by rw[hnext,e],ho.1,rfl⟩,by show((t:Int) - 1+1).toNat<((t:Int)+1).toNat;omega⟩
  ·have q3:¬ f.i.rd=r:=by simpa using q3
   rintro z6 rfl;rw[ew]
   have e:cnS r name f=name:=by unfold cnS;rw[if_neg (λ x=>q3 x.2)]
   exact⟨⟨t,rfl,by omega,by rw[hnext,e],hrng,rfl⟩,by show((t:Int) - 1+1).toNat<((t:Int)+1).toNat;omega⟩
  ·have q2:¬ 0≤f.fresh:=qE q2;rintro z6 rfl;rw[ew]
   have e:cnS r name f=name:=by unfold cnS;rw[if_neg (λ x=>q2 x.1)]
   exact⟨⟨t,rfl,by omega,by rw[hnext,e],hrng,rfl⟩,by show((t:Int) - 1+1).toNat<((t:Int)+1).toNat;omega⟩
 ·have q:m=0:=by have:=qE q;omega
  subst q;have hcn:name=M.K.cname r:=hname;refine⟨_,_,_,H.ld 0 rfl rfl,⟨hrng.1,hrng.2⟩,adr_some ⟨M.K.vals.getD name.toNat 0,?_,?_,rfl⟩⟩
  ·rw[qT,qW];refine H.ld 7 rfl (mi ?_);rw[qF,qC (by rw[hI.vl];omega)];rfl
  ·unfold Ko.committed;rw[<- hcn]
end Go.Proofs.YtmncepdbglaphaaGreatDoor.ko
namespace Go.Proofs.YtmncepdbglaphaaGreatDoor
open Go Go.Proofs Go.Proofs.Tryz Go.V
variable {W:wD}{Q:Ending->wD->Prop}
set_option maxHeartbeats 1000000
theorem aqk (y0:Int) (y1:OA) (arg1n:Nat) (arg1c:Nat) (y2:Int) (y3:AV) (y4:Nat) (Y4:Nat) (y5:Nat) (Y5:Nat)
 (hVC:alc W (Value.cells (Value.agg y3)) 32 λ k W2=>ldN W2 k 0 15 λ vs=>rV prog 20 #[.agg vs] W2 λ v W3=>Sx.isNil v λ t=>Sx.split (!t) (Q (eY #[.pointer none,v]) W3) (ldN W3 k 0 15 λ vs2=>Array.size vs2=15/\nN (List.toArray (Value.pointer none::Value.pointer none::Value.pointer none::Value.pointer none::Value.pointer none::Value.pointer none::Value.pointer none::Value.slice none 0 0::(Array.toList vs2++[Value.int .i64 y0,.slice y1 arg1n arg1c,.int .i64 y2,ou,ou,.slice none 0 0,oi,.bool false,.bool false,ou,.bool false]))) λ vs3=>alc W3 (Value.cells (Value.agg vs3)) 92 λ k2 W4=>sto W4 k2 (0+5) (pZ y4 Y4) λ W5=>sto W5 k2 (0+6) (pZ y5 Y5) λ W6=>rP prog 21 #[.int .i64 y0] W6 λ p W7=>sto W7 k2 (0+4) (Value.pointer p) λ W8=>alc W8 #[.nilIface,.nilIface,.nilIface,.nilIface] 94 λ k3 W9=>ldI .i64 W9 k (0+1) λ z=>ldI .i64 W9 k (0+3) λ z2=>Calls prog 22 #[.int .i64 z,.int .i64 (if 34 > z2 then 34 else z2)] W9 λ e3 W10=>∃ p2:OA,∃ v5:Value,e3=eY #[.pointer p2,v5]/\sto W10 k2 0 (Value.pointer p2) λ W11=>((0:Int)≤(0:Int)/\(0:Int)<(↑(4:Nat):Int))/\Sx.one v5 (sto W11 k3 0 v5 λ W12=>ldI .i64 W12 k (0+3) λ z3=>Calls prog 23 #[.int .i64 z3] W12 λ e4 W13=>∃ p3:OA,∃ v8:Value,e4=eY #[.pointer p3,v8]/\sto W13 k2 (0+1) (Value.pointer p3) λ W14=>((0:Int)≤(1:Int)/\(1:Int)<(↑(4:Nat):Int))/\Sx.one v8 (sto W14 k3 1 v8 λ W15=>ldI .i64 W15 k (0+2) λ z4=>Calls prog 24 #[.int .i64 z4] W15 λ e5 W16=>∃ p4:OA,∃ v11:Value,e5=eY #[.pointer p4,v11]/\sto W16 k2 (0+2) (Value.pointer p4) λ W17=>((0:Int)≤(2:Int)/\(2:Int)<(↑(4:Nat):Int))/\Sx.one v11 (sto W17 k3 2 v11 λ W18=>ldN W18 k (0+7) 5 λ vs4=>Calls prog 25 #[.agg vs4] W18 λ e6 W19=>∃ p5:OA,∃ v14:Value,e6=eY #[.pointer p5,v14]/\sto W19 k2 (0+3) (Value.pointer p5) λ W20=>((0:Int)≤(3:Int)/\(3:Int)<(↑(4:Nat):Int))/\Sx.one v14 (sto W20 k3 3 v14 λ W21=>ldN W21 k3 0 4 λ vs5=>∃ I:Int->wD->Prop,∃ I2:Int->wD->Nat,I 0 W21/\(wv (∀ x W22,I x W22->Sx.split (decide (x<4)) (((0:Int)≤x/\x<(↑4:Int))/\∃ v17:Value,vs5[x.toNat * 1]?=some v17/\Sx.isNil v17 λ t2=>Sx.split (!t2) (Q (eY #[.pointer none,v17]) W22) (nw .i64 (x+1) λ z5=>I z5 W22/\I2 z5 W22<I2 x W22)) (ldI .i64 W22 k (0+3) λ z6=>((0:Int)≤z6/\z6≤z6/\z6≤9223372036854775807/\(↑4:Int) * z6≤281474976710656)/\alc W22 (madeCells #[ou] (z6.toNat * 1)) 47 λ k4 W23=>sto W23 k2 (0+7) (Value.slice (some ⟨k4,0,none⟩) (z6.toNat) (z6.toNat)) λ W24=>Q (eY #[pZ k2 0,.nilIface]) W24))))))))) :
 Calls prog 16 #[.int .i64 y0,.slice y1 arg1n arg1c,.int .i64 y2,.agg y3,pZ y4 Y4,pZ y5 Y5] W Q :=
 Sx.sd func16 (.r (.r (.r (.r (.r (.r (.r (.r (.r (.r (.q (.r (.q (.node [(94,.int .i64)] [93,15,9] 0 .leaf .leaf)))))))))))))) hVC
theorem vc6 (code:OA) (coden:Nat) (codec:Nat) (data:OA) (datan:Nat) (datac:Nat) (c:AV) (lines:OA) (linesn:Nat) (linesc:Nat) (cycles:Int)
 (hVC:alc W (Value.cells (Value.agg c)) 32 λ k W2=>alc W2 #[.bool false,oi,.slice none 0 0,.string (.mk #[]),.slice none 0 0,.slice none 0 0] 38 λ k2 W3=>alc W3 #[.slice code coden codec] 24 λ k3 W4=>ldN W4 k 0 15 λ vs=>Array.size vs=15/\alc W4 (List.toArray (Array.toList vs++[])) 32 λ k4 W5=>alc W5 #[.slice lines linesn linesc] 26 λ k5 W6=>Calls prog 11 #[.slice (some ⟨k3,0,none⟩) 1 1,.slice data datan datac,.slice (some ⟨k4,0,none⟩) 1 1,.slice (some ⟨k5,0,none⟩) 1 1,.int .i64 cycles] W6 λ e W7=>∃ vs2:AV,∃ v:Value,e=eY #[.agg vs2,v]/\ct W7 k2 0 6 vs2 λ W8=>ldN W8 k2 0 6 λ vs3=>Q (eY #[.agg vs3,v]) W8) :
 Calls prog 6 #[.slice code coden codec,.slice data datan datac,.agg c,.slice lines linesn linesc,.int .i64 cycles] W Q :=
 Sx.sd func6 .leaf hVC
theorem vc5 (c:Int) (n:Int)
 (hVC:Sx.split (decide (c<0)) (nw .i64 (c+1) λ z=>n≠0/\nM (Int.tmod (IntKind.wrap .i64 (0 - z)) n) λ z2=>Q (eZ (.int .i64 z2)) W) (n≠0/\nM (Int.tmod c n) λ z3=>Q (eZ (.int .i64 z3)) W)) :
 Calls prog 5 #[.int .i64 c,.int .i64 n] W Q :=
 Sx.sd func5 .leaf hVC
theorem vc4 (s:AV)
 (hVC:alc W (Value.cells (Value.agg s)) 23 λ k W2=>alc W2 #[oi,oi,oi,oi,oi,oi,.bool false,oi,oi,oi,oi,oi,oi,oi,oi] 32 λ k2 W3=>ldI .i64 W3 k (0+7) λ z=>rI prog .i64 5 #[.int .i64 z,.int .i64 10] W3 λ z2 W4=>nw .i64 (1+z2) λ z3=>dw W4 λ W5=>ldI .i64 W5 k 0 λ z4=>∃ z5:Int,(Calls prog 5 #[.int .i64 z4,.int .i64 4] W5 λ e2 W6=>e2=eZ (.int .i64 z5)/\W6=W5)/\nw .i64 (1+z5) λ z6=>ldI .i64 W5 k (0+1) λ z7=>∃ z8:Int,(Calls prog 5 #[.int .i64 z7,.int .i64 63] W5 λ e3 W7=>e3=eZ (.int .i64 z8)/\W7=W5)/\nw .i64 (2+z8) λ z9=>ldI .i64 W5 k (0+2) λ z10=>∃ z11:Int,(Calls prog 5 #[.int .i64 z10,.int .i64 32] W5 λ e4 W8=>e4=eZ (.int .i64 z11)/\W8=W5)/\nw .i64 (1+z11) λ z12=>ldI .i64 W5 k (0+3) λ z13=>∃ z14:Int,(Calls prog 5 #[.int .i64 z13,.int .i64 95] W5 λ e5 W9=>e5=eZ (.int .i64 z14)/\W9=W5)/\nw .i64 (34+z14) λ z15=>ldI .i64 W5 k (0+4) λ z16=>∃ z17:Int,(Calls prog 5 #[.int .i64 z16,.int .i64 4] W5 λ e6 W10=>e6=eZ (.int .i64 z17)/\W10=W5)/\nw .i64 (1+z17) λ z18=>ldI .i64 W5 k (0+5) λ z19=>∃ z20:Int,(Calls prog 5 #[.int .i64 z19,.int .i64 10] W5 λ e7 W11=>e7=eZ (.int .i64 z20)/\W11=W5)/\nw .i64 (1+z20) λ z21=>ldB W5 k (0+14) λ t=>ldI .i64 W5 k (0+6) λ z22=>∃ z23:Int,(Calls prog 5 #[.int .i64 z22,.int .i64 4] W5 λ e8 W12=>e8=eZ (.int .i64 z23)/\W12=W5)/\ldI .i64 W5 k (0+8) λ z24=>nw .i64 (z3+1) λ z25=>∃ z26:Int,(Calls prog 5 #[.int .i64 z24,.int .i64 z25] W5 λ e9 W13=>e9=eZ (.int .i64 z26)/\W13=W5)/\ldI .i64 W5 k (0+9) λ z27=>∃ z28:Int,(Calls prog 5 #[.int .i64 z27,.int .i64 9] W5 λ e10 W14=>e10=eZ (.int .i64 z28)/\W14=W5)/\ldI .i64 W5 k (0+10) λ z29=>∃ z30:Int,(Calls prog 5 #[.int .i64 z29,.int .i64 16] W5 λ e11 W15=>e11=eZ (.int .i64 z30)/\W15=W5)/\nw .i64 (1+z30) λ z31=>nN (#[.int .i64 z23,.int .i64 z3,.int .i64 z26,.int .i64 z28,.int .i64 z31]) λ vs=>ldI .i64 W5 k (0+11) λ z32=>∃ z33:Int,(Calls prog 5 #[.int .i64 z32,.int .i64 5] W5 λ e12 W16=>e12=eZ (.int .i64 z33)/\W16=W5)/\(0:Int)≤z33/\nw .i64 (1 * 2 ^ min (z33.toNat) (IntKind.bits .i64)) λ z34=>ldI .i64 W5 k (0+12) λ z35=>∃ z36:Int,(Calls prog 5 #[.int .i64 z35,.int .i64 4] W5 λ e13 W17=>e13=eZ (.int .i64 z36)/\W17=W5)/\nw .i64 (1+z36) λ z37=>nN (#[.int .i64 z34,.int .i64 z37]) λ vs2=>ldI .i64 W5 k (0+13) λ z38=>∃ z39:Int,(Calls prog 5 #[.int .i64 z38,.int .i64 11] W5 λ e14 W18=>e14=eZ (.int .i64 z39)/\W18=W5)/\Array.size vs=5/\Array.size vs2=2/\nN (List.toArray (Value.int .i64 z6::Value.int .i64 z9::Value.int .i64 z12::Value.int .i64 z15::Value.int .i64 z18::Value.int .i64 z21::Value.bool t::(Array.toList vs++(Array.toList vs2++[Value.int .i64 z39])))) λ vs3=>ct W5 k2 0 15 vs3 λ W19=>ldN W19 k2 0 15 λ vs4=>Q (eZ (.agg vs4)) W19) :
 Calls prog 4 #[.agg s] W Q :=
 Sx.sd func4 (.r (.r (.q (.h 57)))) hVC
theorem vc7 (code:OA) (coden:Nat) (codec:Nat) (data:OA) (datan:Nat) (datac:Nat)
 (hVC:rB prog 12 #[.slice code coden codec,.int .i64 (↑datan:Int)] W λ t W2=>Q (eZ (.bool t)) W2) :
 Calls prog 7 #[.slice code coden codec,.slice data datan datac] W Q :=
 Sx.sd func7 .leaf hVC
theorem aql (code:OA) (coden:Nat) (codec:Nat) (data:Int)
 (hVC:Sx.split (decide ((↑coden:Int) ≥ 1)) (Sx.split (decide ((↑coden:Int)≤4096)) (Sx.split (decide (data ≥ 0)) (Sx.split (decide (data≤4096)) ((16:Int)≠(0:Int)/\nM (Int.tmod data 16) λ z=>Q (eZ (.bool (z==0))) W) (Q (eZ (.bool false)) W)) (Q (eZ (.bool false)) W)) (Q (eZ (.bool false)) W)) (Q (eZ (.bool false)) W)) :
 Calls prog 12 #[.slice code coden codec,.int .i64 data] W Q :=
 Sx.sd func12 .leaf hVC
end Go.Proofs.YtmncepdbglaphaaGreatDoor
