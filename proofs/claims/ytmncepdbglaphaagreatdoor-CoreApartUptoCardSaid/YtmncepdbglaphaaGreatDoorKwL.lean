/- A core. No condition. -/
import Derived.Test.YtmncepdbglaphaaGreatDoorKwG
set_option linter.unusedVariables false
set_option maxRecDepth 100000
namespace Go.Proofs.YtmncepdbglaphaaGreatDoor.ko
open Go.RowKit Go.XHeap Go.Sx Go.Sep Go.Proofs.Tryz
variable {W w:wD}{A:Ka}{M M':Km}{L:List Asn}{b j n:Nat}{f f' f1 f2:Fl}{g:List Fl}{S:Nat->Prop}
def Km.que (M:Km) (q:List lsq.En) (z:lsq.PQ):Km:={ M with K:={ M.K with q:=q },q:=z }
theorem Km.Rep.que (h:M.Rep A){q:List lsq.En}{z:lsq.PQ} (h1:lsq.ens z=q) (h2:z.size=M.q.size):(M.que q z).Rep A:=⟨h.win,h1,h2.trans h.qs,h.pr,h.fn,h.fd,h.fk,h.fl,h.bus,h.gs,h.bg,h.oth⟩
theorem Sw (q:List lsq.En) (s:Int) (a:Nat) (sz:Int):(dz q s a sz).1.length=q.length:=by
 unfold dz;split
 ·rfl
 ·dsimp only;split
  ·rfl
  ·split
   ·show(q.set _ _).length=_;rw[qJ]
   ·rfl
theorem Xh {q:List lsq.En}{s:Int}{a:Nat}{sz:Int} (h:0≤(dz q s a sz).2):∃ e ∈ q,e.seq=(dz q s a sz).2/\e.loaded=true:=by
 unfold dz at h ⊢;split at h
 ·exact absurd h (show ¬ (0:Int)≤ -1 by decide)
 ·dsimp only at h ⊢;split at h
  ·exact absurd h (show ¬ (0:Int)≤ -1 by decide)
  ·rename_i hp;rw[if_neg hp];split at h
   ·rename_i hc;rw[if_pos hc];dsimp only at h ⊢;unfold Ey at h ⊢;split at h
    ·rename_i hs;rw[if_pos hs];split at h
     ·rename_i x hx;refine⟨x,qhB (qkB hx),rfl,?_⟩;have:=List.find?_some hx;unfold lsq.aheadP at this;simp only[qU] at this;exact this.1
     ·exact absurd h (show ¬ (0:Int)≤ -1 by decide)
    ·exact absurd h (show ¬ (0:Int)≤ -1 by decide)
   ·exact absurd h (show ¬ (0:Int)≤ -1 by decide)
theorem Sz (h:(ae A M).at_ W) (hR:M.Rep A) (hI:Inv A.C n [] M.K) (hn:n+1≤1000000000000) (hf:M.K.fls[j]?=some f) (hb:M.fs[j]?=some b) (hc:f.cls=5) (hs:f.issued=false/\f.done=false) (hab:M.K.has f.a=true/\M.K.has f.b=true) :
  Calls prog 67 #[pZ A.x 0,pZ b 0] W λ e w=>∃ z:Nx A M (M.K.store A.C j),e=eY #[]/\Sep.Post (ae A M) W (ae A z.1) w:=by
 have hsr:=hI.src (hI.mem hf);have hil:=(qD.1 hf).1;have hva:=hI.valU f.a;have hvb:=hI.valU f.b;have hqo:∀ e ∈ M.K.q,e.Ok:=hI.qo.ok
 have hq32:M.K.q.length≤32:=by have:=hI.qo.len;have:=hI.cf.q;unfold Kc.Q at *;omega
 refine apj A.x 0 b 0 ((St.begin h).callx 0 rfl (ne h hR hI (by omega) hf hb hs hab (cy:=1) (by omega)) λ z1 w2 H=>⟨rfl,?_⟩);have hz1:=z1.2.2.1
 have hf1:z1.1.K.fls[j]?=some (f.beg (M.K.cycle+1)):=by
  rw[hz1];unfold Ko.begin;rw[bi hf];exact agu hf _
 have hv1:z1.1.K.vals=M.K.vals:=by rw[hz1];rfl
 have hb1:=z1.2.2.2.at hR z1.2.1 hI hf1 hf rfl hb
 have hval1:∀ p,z1.1.K.val p=M.K.val p:=λ p=>by unfold Ko.val;rw[hv1]
 refine H.callx 0 rfl (ut (H.nth 0 rfl) z1.2.1 (by rw[hv1];exact hI.vl) (f:=f.beg (M.K.cycle+1)) hsr.1.2 hf1 hb1) λ z2 w3 H=>⟨_,rfl,?_⟩;obtain⟨f3,hf3⟩:∃ f3,(f.beg (M.K.cycle+1)).reach (M.K.val f.a) A.C.dlen=f3:=⟨_,rfl⟩;rw[show z1.1.K.val (f.beg (M.K.cycle+1)).a=M.K.val f.a from hval1 f.a,hf3]
 have hz2:z2.1.K={ M.K with fls:=M.K.fls.set j f3,evs:=M.K.evs++[⟨A.C.num,M.K.cycle,2,f.seq,f.pc,Rt.z⟩] }:=by
  rw[z2.2.2.1,hz1,pz hf,hf3]
 have hst:M.K.store A.C j=if f3.cause≠ -1 then z2.1.K else (let r:=dz z2.1.K.q f3.seq f3.addr.toNat (alu.sizeF f3.i.op)
   let K2:={ z2.1.K with q:=jr r.1 f3.seq (z2.1.K.val f3.b).toNat }
   if 0≤r.2 then (match K2.fi r.2 with
    | some j=>K2.again A.C (K2.fl j)
    | none=>K2) else K2):=by
  unfold Ko.store;rw[pz hf,hf3,<- hz2];have:z2.1.K.fl j=f3:=bi (by rw[hz2];show(M.K.fls.set j f3)[j]?=_;rw[qO hil]);simp only;rw[this];rfl
 have hkp:=z1.2.2.2.trans z2.2.2.2;refine aa (λ q=>?_) (λ q=>?_)
 ·have q:f3.cause≠ -1:=by simpa using q
  refine⟨⟨z2.1,z2.2.1,?_,hkp⟩,rfl,H.post 0 rfl⟩;rw[hst,if_pos q]
 have q:f3.cause= -1:=by simpa using q
 rw[if_neg (λ e=>e q)] at hst;dsimp only at hst
 have hf2:z2.1.K.fls[j]?=some f3:=by rw[hz2];show(M.K.fls.set j f3)[j]?=_;rw[qO hil]
 have e3:f3.seq=f.seq/\f3.i=f.i/\f3.b=f.b:=by rw[<- hf3];exact⟨rfl,rfl,rfl⟩
 have hb2:=hkp.at hR z2.2.1 hI hf2 hf e3.1 hb;have hy2:=z2.2.1.fl j b f3 hb2 hf2
 have hq2:z2.1.K.q=M.K.q:=by rw[hz2]
 have hv2:z2.1.K.vals=M.K.vals:=by rw[hz2]
 have hval2:∀ p,z2.1.K.val p=M.K.val p:=λ p=>by unfold Ko.val;rw[hv2]
 have he2:lsq.ens z2.1.q=M.K.q:=by rw[z2.2.1.q,hq2]
 have hu3:U32 f3.addr:=by rw[<- hf3];exact Cm _ _ hva
 obtain⟨a3,ha3⟩:∃ a3:Nat,f3.addr=a3:=⟨f3.addr.toNat,by have:=hu3.1;omega⟩
 have ha3l:a3<4294967296:=by have:=hu3.2;omega
 have H:=H.open_;have H:St W (ae A M).own w3 (z2.1.pieces A++[]):=H;refine H.dr λ w4 H=>⟨_,H.ld 0 rfl rfl,f3.seq,(St.fl H hy2).cell' rfl,f3.addr,(St.fl H hy2).cell' rfl,f3.i.op,(St.fl H hy2).cell' rfl,H.callp (Ph f3.i.op w4) ⟨_,rfl,Below.refl _ _,?_⟩⟩;have had:=Yz (H.nth 4 rfl) (by rw[he2];exact hqo) (by rw[he2];exact hq32) f3.seq a3 ha3l (alu.sizeF f3.i.op);rw[<- ha3] at had;refine H.callx 4 rfl had λ z3 w5 H=>⟨_,_,rfl,H.dr λ w6 H=>?_⟩;have H:St W (ae A M).own w6 ((z2.1.que (dz M.K.q f3.seq a3 (alu.sizeF f3.i.op)).1 z3.1.1).pieces A++[]):=H;refine⟨_,H.ld 0 rfl rfl,f3.seq,(St.fl H hy2).cell' rfl,f3.b,(St.fl H hy2).cell' rfl,(value_any (H.shut.nth 0 rfl) (by show z2.1.K.vals.length=_;rw[hv2];exact hI.vl) (p:=f3.b) (by rw[e3.2.2];exact hsr.2.2)).mono ?_⟩;rintro e w7 ⟨rfl,rfl⟩;have hvv:(z2.1.que (dz M.K.q f3.seq a3 (alu.sizeF f3.i.op)).1 z3.1.1).K.val f3.b=M.K.val f3.b:=hval2 f3.b;rw[hvv]
 have hub:U32 (M.K.val f3.b):=by rw[e3.2.2];exact hvb
 obtain⟨d,hd⟩:∃ d:Nat,M.K.val f3.b=d:=⟨(M.K.val f3.b).toNat,by have:=hub.1;omega⟩;refine⟨_,rfl,Below.refl _ _,?_⟩;have hvl:=adm (H.nth 4 rfl) (by show(lsq.ens z3.1.1).length≤32;rw[z3.1.2.2,Sw,he2];exact hq32) f3.seq d;rw[<- hd] at hvl;refine H.callx 4 rfl hvl λ z4 w8 H=>⟨_,rfl,?_⟩;have hQ4:lsq.ens z4.1.1=jr (dz M.K.q f3.seq a3 (alu.sizeF f3.i.op)).1 f3.seq d:=z4.1.2.2.trans (by show jr (lsq.ens z3.1.1) f3.seq d=_;rw[z3.1.2.2,he2]);obtain⟨M4,hM4⟩:∃ M4:Km,M4=z2.1.que (jr (dz M.K.q f3.seq a3 (alu.sizeF f3.i.op)).1 f3.seq d) z4.1.1:=⟨_,rfl⟩
 have H:St W (ae A M).own w8 (M4.pieces A++[]):=by rw[hM4];exact H
 have hR4:M4.Rep A:=by rw[hM4];exact z2.2.1.que hQ4 (z4.1.2.1.trans z3.1.2.1)
 have hr:(dz (lsq.ens z2.1.q) f3.seq a3 (alu.sizeF f3.i.op)).2=(dz M.K.q f3.seq a3 (alu.sizeF f3.i.op)).2:=by rw[he2]
 rw[hr]
 have hK4:M4.K={ M.K with fls:=M.K.fls.set j f3,evs:=M.K.evs++[⟨A.C.num,M.K.cycle,2,f.seq,f.pc,Rt.z⟩],q:=jr (dz M.K.q f3.seq a3 (alu.sizeF f3.i.op)).1 f3.seq d }:=by
  rw[hM4];show({ z2.1.K with q:=_ }:Ko)=_;rw[hz2]
 have hI4:Inv A.C (n+1) [] M4.K:=by
  have:=Inv.storeQ hI hf hc (by rw[hf3];exact q);rw[hf3] at this;rw[hK4];rw[show d=(M.K.val f.b).toNat by rw[<- e3.2.2,hd,qG],e3.1,e3.2.1,show a3=f3.addr.toNat by rw[ha3,qG]];exact this
 have hk4:Kept M M4:=by rw[hM4];exact hkp.trans (Kept.of rfl rfl)
 have hst2:M.K.store A.C j=if 0≤(dz M.K.q f3.seq a3 (alu.sizeF f3.i.op)).2 then (match M4.K.fi (dz M.K.q f3.seq a3 (alu.sizeF f3.i.op)).2 with
   | some j=>M4.K.again A.C (M4.K.fl j)
   | none=>M4.K) else M4.K:=by
  rw[hst,hM4,hq2,hval2,ha3,hd,qG,qG];rfl
 clear hst hM4;refine aa (λ q1=>?_) (λ q1=>?_)
 ·have q1:0≤(dz M.K.q f3.seq a3 (alu.sizeF f3.i.op)).2:=qB q1;obtain⟨e,he,hes,hel⟩:=Xh q1
  have hr:e.retired=false:=by
   cases hr:e.retired
   ·rfl
   ·have:=((hqo e he).ret hr).1;rw[((hqo e he).load hel).2] at this;cases this
  obtain⟨fe,hfe, -,hme⟩:=hI.qo.ef e he hr;obtain⟨i,hi⟩:=qK.1 hfe;have hi:M.K.fls[i]?=some fe:=hi;have hil2:=(qD.1 hi).1
  have hl4:M4.K.fls.length=M.K.fls.length:=by rw[hK4];show(M.K.fls.set j f3).length=_;rw[qJ]
  have hi4:=qC (show i<M4.K.fls.length by rw[hl4];exact hil2);obtain⟨fb,hfb⟩:∃ fb,M4.K.fls[i]'(by rw[hl4];exact hil2)=fb:=⟨_,rfl⟩;rw[hfb] at hi4
  have hsb:fb.seq=fe.seq:=by
   have h1:M4.K.fls[i]?=(M.K.fls.set j f3)[i]?:=by rw[hK4]
   rw[hi4,qn] at h1;by_cases e0:j=i
   ·subst e0;rw[if_pos rfl,if_pos hil] at h1;cases h1;rw[hf] at hi;cases hi;exact e3.1
   ·rw[if_neg e0,hi] at h1;cases h1;rfl
  have hseq:(dz M.K.q f3.seq a3 (alu.sizeF f3.i.op)).2=fb.seq:=by rw[<- hes,hme.seq,hsb]
  rw[hseq] at hst2 ⊢;obtain⟨b4,hb4,hy4⟩:=hR4.at hi4;have hfs4:=Inv.fs hI4 hR4;have hfind:=find_any (H.shut.nth 0 rfl) hR4 hfs4 fb.seq;rw[Km.ptr_at hR4 hI4 hi4 hb4] at hfind;refine hfind.mono ?_;rintro e9 w9 ⟨rfl,rfl⟩;have H:=H.shut;refine⟨_,rfl,H.callx 0 rfl (Ft (H.nth 0 rfl) hR4 hI4 (by omega) hi4 hb4) λ z5 w10 H=>⟨rfl,⟨z5.1,z5.2.1,?_,hk4.trans z5.2.2.2⟩,rfl,H.post 0 rfl⟩⟩;rw[if_pos (by rw[<- hseq];exact q1),hI4.at hi4] at hst2;rw[hst2,z5.2.2.1];show _=M4.K.again A.C (M4.K.fl i);rw[bi hi4]
 ·have q1:¬ 0≤(dz M.K.q f3.seq a3 (alu.sizeF f3.i.op)).2:=qE q1;rw[if_neg q1] at hst2;exact⟨⟨M4,hR4,hst2.symm,hk4⟩,rfl,aq H⟩
end Go.Proofs.YtmncepdbglaphaaGreatDoor.ko
namespace Go.Proofs.YtmncepdbglaphaaGreatDoor
open Go Go.Proofs Go.Proofs.Tryz Go.V
variable {W:wD}{Q:Ending->wD->Prop}
set_option maxHeartbeats 1000000
theorem alr (y0:Nat) (Y0:Nat) (y1:Nat) (Y1:Nat)
 (hVC:ldI .i64 W y1 (Y1+3) λ z=>rI prog .i64 110 #[.int .i64 z] W λ z2 W2=>∃ I:wD->Prop,(ldB W2 y1 (Y1+25) λ t=>Sx.split (!t) (dw W2 λ W3=>ldP W3 y0 (Y0+2) λ p=>ldI .i64 W3 y1 Y1 λ z3=>ldI .u32 W3 y1 (Y1+26) λ z4=>Calls prog 109 #[.pointer p,.int .i64 z3,.int .u32 z4,.int .i64 z2] W3 λ e2 W4=>∃ z5:Int,∃ v:Value,e2=eY #[.int .i64 z5,v]/\sto W4 y1 (Y1+25) (Value.bool true) λ W5=>I W5) (I W2))/\(wv (∀ W6,I W6->∃ I2:OA->wD->Prop,(dw W6 λ W7=>ldP W7 y0 (Y0+2) λ p2=>ldI .i64 W7 y1 Y1 λ z6=>ldB W7 y0 (Y0+8+6) λ t2=>(Calls prog 161 #[.pointer p2,.int .i64 z6,.bool t2] W7 λ e3 W8=>∃ vs:AV,∃ v3:Value,e3=eY #[.agg vs,v3]/\alc W8 #[.bool false,oi,ou] 290 λ k W9=>ct W9 k 0 3 vs λ W10=>I2 (some ⟨k,0,none⟩) W10)/\alc W7 #[.bool false,oi,ou] 290 λ k3 W11=>bw W7 W11/\Calls prog 161 #[.pointer p2,.int .i64 z6,.bool t2] W11 λ e4 W12=>∃ vs2:AV,∃ v6:Value,e4=eY #[.agg vs2,v6]/\ct W12 k3 0 3 vs2 λ W13=>I2 (some ⟨k3,0,none⟩) W13)/\(wv (∀ x W14,I2 x W14->Sx.ptr x λ a=>ud W14 (a.add 0) λ t3=>Sx.split t3 (Q (eZ (.bool false)) W14) (∃ I3:Int->wD->Prop,(Sx.ptr x λ a2=>de .i64 W14 (a2.add 1) λ z7=>(0:Int)≤z2/\nw .i64 (1 * 2 ^ min (z2.toNat) (IntKind.bits .i64)) λ z8=>nw .i64 (z8 - 1) λ z9=>dn W14 λ W15 k5=>Sx.split (z7 !=z9) (dw W15 λ W16=>ldP W16 y0 (Y0+5) λ p3=>ldI .i64 W16 y0 (Y0+23) λ z10=>ldI .u32 W16 y1 (Y1+26) λ z11=>Calls prog 162 #[.pointer p3,.int .i64 z10,.int .u32 z11,.int .i64 z2] W16 λ e5 W17=>∃ z12:Int,∃ t4:Bool,e5=eY #[.int .u32 z12,.bool t4]/\Sx.split (!t4) (dw W17 λ W18=>ldP W18 y0 (Y0+5) λ p4=>ldI .i64 W18 y0 (Y0+23) λ z13=>ldI .u32 W18 y1 (Y1+26) λ z14=>rV prog 71 #[.pointer p4,.int .i64 z13,.int .u32 z14,.bool false] W18 λ v9 W19=>Q (eZ (.bool false)) W19) (I3 z12 W17)) (I3 0 W15))/\(wv (∀ x2 W20,I3 x2 W20->∃ I4:Int->wD->Prop,(∃ I5:Int->Int->wD->Prop,∃ I6:Int->Int->wD->Nat,I5 0 x2 W20/\(wv (∀ x3 x4 W21,I5 x3 x4 W21->Sx.split (decide (x3<z2)) (Sx.ptr x λ a3=>de .i64 W21 (a3.add 1) λ z15=>(0:Int)≤x3/\nM (Int.fdiv z15 (2 ^ min (x3.toNat) (IntKind.bits .i64))) λ z16=>nw .i64 (↑(BitVec.toNat (bZ .i64 z16 &&&bZ .i64 1)):Int) λ z17=>Sx.split (z17==1) (nw .i64 (8 * x3) λ z18=>(0:Int)≤z18/\nw .u32 (255 * 2 ^ min (z18.toNat) (IntKind.bits .u32)) λ z19=>nw .u32 (↑(BitVec.toNat (bZ .u32 x4 &&& ~~~bZ .u32 z19)):Int) λ z20=>Sx.ptr x λ a4=>de .u32 W21 (a4.add 2) λ z21=>nw .u32 (↑(BitVec.toNat (bZ .u32 z21 &&&bZ .u32 z19)):Int) λ z22=>nw .u32 (↑(BitVec.toNat (bZ .u32 z20 |||bZ .u32 z22)):Int) λ z23=>nw .i64 (x3+1) λ z24=>I5 z24 z23 W21/\I6 z24 z23 W21<I6 x3 x4 W21) (nw .i64 (x3+1) λ z25=>I5 z25 x4 W21/\I6 z25 x4 W21<I6 x3 x4 W21)) (I4 x4 W21))))/\(wv (∀ x5 W22,I4 x5 W22->ldI .i64 W22 y1 (Y1+3) λ z26=>rI prog .u32 163 #[.int .i64 z26,.int .u32 x5] W22 λ z27 W23=>sto W23 y1 (Y1+17) (Value.int .u32 z27) λ W24=>dw W24 λ W25=>ldP W25 y0 (Y0+2) λ p5=>ldI .i64 W25 y1 Y1 λ z28=>rV prog 164 #[.pointer p5,.int .i64 z28] W25 λ v11 W26=>Q (eZ (.bool true)) W26)))))))))) :
 Calls prog 112 #[pZ y0 Y0,pZ y1 Y1] W Q :=
 Sx.sd func112 (.r (.r (.node [] [0,1,5] 1 (.r (.q (.q (.h 1015)))) (.node [(6,.ptr)] [5,0,1] 1 (.h 1015) (.r (.r (.node [(8,.int .u32)] [5,6,1,0] 1 (.r (.q (.n (.h 1015) (.q (.r (.q (.q (.h 1014)))))))) (.node [(8,.int .u32)] [1,0] 1 (.r (.q (.node [(104,.int .i64),(8,.int .u32)] [103,6,1,0] 0 .leaf .leaf))) (.r (.q (.h 1010))))))))))) hVC
end Go.Proofs.YtmncepdbglaphaaGreatDoor
namespace Go.Proofs.YtmncepdbglaphaaGreatDoor.ko
open Go.RowKit Go.XHeap Go.Sx Go.Sep Go.Proofs.Tryz
variable {W w:wD}{A:Ka}{M M':Km}{L:List Asn}{b j n:Nat}{f f' f1 f2:Fl}{g:List Fl}{S:Nat->Prop}
theorem Ku:∀ (n raw:Nat),raw<2 ^ (8 * n)->((List.range n).map λ b=>raw / 2 ^ (8 * b) % 256 * 2 ^ (8 * b)).sum=raw
 | 0,raw,h=>by
  have h2:raw=0:=by omega
  rw[h2];rfl
 | n+1,raw,h=>by
  rw[List.range_succ,qV,List.sum_append];simp only[quB,List.map_nil,List.sum_cons,List.sum_nil,Nat.add_zero]
  have hp:2 ^ (8 * (n+1))=2 ^ (8 * n) * 256:=by rw[Nat.mul_add,Nat.pow_add]
  have hpos:=qMB (8 * n)
  have h1:raw / 2 ^ (8 * n)<256:=by
   rw[Nat.div_lt_iff_lt_mul hpos,Nat.mul_comm,<- hp];exact h
  rw[Nat.mod_eq_of_lt h1];have ih:=Ku n (raw % 2 ^ (8 * n)) (qIB _ hpos)
  have e:((List.range n).map λ b=>raw / 2 ^ (8 * b) % 256 * 2 ^ (8 * b))=((List.range n).map λ b=>raw % 2 ^ (8 * n) / 2 ^ (8 * b) % 256 * 2 ^ (8 * b)):=by
   apply qlB;intro b hb;have hb:=qNB.1 hb
   have e2:2 ^ (8 * n)=2 ^ (8 * b) * (2 ^ (8 * (n - b - 1)) * 256):=by
    have:8 * n=8 * b+(8 * (n - b - 1)+8):=by omega
    rw[this,Nat.pow_add,Nat.pow_add]
   have e3:raw % 2 ^ (8 * n) / 2 ^ (8 * b) % 256=raw / 2 ^ (8 * b) % 256:=by
    rw[e2,Nat.mod_mul_right_div_self,Nat.mod_mul_left_mod]
   rw[e3]
  rw[e,ih];have:=Nat.div_add_mod raw (2 ^ (8 * n));rw[Nat.mul_comm] at this;omega
theorem Xi:∀ k:Fin 4,∀ i:Fin 32,(255 * 2 ^ (8 * k.val)).testBit i.val=decide (8 * k.val≤i.val/\i.val<8 * k.val+8)/\(4294967295 - 255 * 2 ^ (8 * k.val)).testBit i.val= !decide (8 * k.val≤i.val/\i.val<8 * k.val+8):=by decide +kernel
def mrg (x v k:Nat):Nat:=(x &&&(4294967295 - 255 * 2 ^ (8 * k))) |||(v &&&(255 * 2 ^ (8 * k)))
theorem Ta {x v k:Nat} (hk:k<4) (hx:x<4294967296) (hv:v<4294967296) (i:Nat):(mrg x v k).testBit i=if 8 * k≤i/\i<8 * k+8 then v.testBit i else x.testBit i:=by
 unfold mrg;rw[Nat.testBit_or,Nat.testBit_and,Nat.testBit_and];by_cases hi:i<32
 ·obtain⟨h1,h2⟩:=Xi ⟨k,hk⟩ ⟨i,hi⟩;rw[h1,h2];by_cases h:8 * k≤i/\i<8 * k+8
  ·rw[qI h,if_pos h];simp
  ·rw[qM h,if_neg h];simp
 ·have hx2:x.testBit i=false:=Nat.testBit_lt_two_pow (qaB (show x<2 ^ 32 from hx) (qX (show 0<2 by decide) (show 32≤i by omega)));have hv2:v.testBit i=false:=Nat.testBit_lt_two_pow (qaB (show v<2 ^ 32 from hv) (qX (show 0<2 by decide) (show 32≤i by omega)));rw[hx2,hv2];simp
theorem ahe {x v k n:Nat} (hk:k<n) (hn:n≤4) (hx:x<2 ^ (8 * n)) (hv:v<4294967296):mrg x v k<2 ^ (8 * n):=by
 have h32:2 ^ (8 * n)≤2 ^ 32:=qX (by decide) (by omega);refine Nat.lt_pow_two_of_testBit _ λ i hi=>?_;rw[Ta (by omega) (by omega) hv,if_neg (by omega)];exact Nat.testBit_lt_two_pow (qaB hx (qX (by decide) hi))
theorem wg (x c i:Nat):(x / 2 ^ (8 * c) % 256).testBit i=(decide (i<8)&&x.testBit (8 * c+i)):=by
 rw[show 256=2 ^ 8 by decide,Nat.testBit_mod_two_pow,Nat.testBit_div_two_pow];congr 2;omega
theorem Xj {x v k:Nat} (hk:k<4) (hx:x<4294967296) (hv:v<4294967296) (c:Nat):mrg x v k / 2 ^ (8 * c) % 256=if c=k then v / 2 ^ (8 * c) % 256 else x / 2 ^ (8 * c) % 256:=by
 apply Nat.eq_of_testBit_eq;intro i;rw[wg,Ta hk hx hv];by_cases hi:i<8
 ·by_cases h:c=k
  ·subst h;rw[if_pos (by omega),if_pos rfl,wg]
  ·rw[if_neg (by omega),if_neg h,wg]
 ·have z:∀ y:Nat,(y / 2 ^ (8 * c) % 256).testBit i=false:=λ y=>by rw[wg,qM hi];rfl
  rw[qM hi,qbB];by_cases h:c=k
  ·rw[if_pos h,z]
  ·rw[if_neg h,z]
structure Mg (n mask value raw k x:Nat):Prop where
 lt:x<2 ^ (8 * n)
 by_:∀ c,c<n->x / 2 ^ (8 * c) % 256=if c<k/\mask / 2 ^ c % 2=1 then value / 2 ^ (8 * c) % 256 else raw / 2 ^ (8 * c) % 256
theorem Mg.zero {n mask value raw:Nat} (h:raw<2 ^ (8 * n)):Mg n mask value raw 0 raw:=⟨h,λ c _=>by rw[if_neg (by omega)]⟩
theorem Mg.skip {n mask value raw k x:Nat} (h:Mg n mask value raw k x) (hb:¬ mask / 2 ^ k % 2=1):Mg n mask value raw (k+1) x:=⟨h.lt,λ c hc=>by
 rw[h.by_ c hc];by_cases e:c=k
 ·subst e;rw[if_neg (λ e=>hb e.2),if_neg (λ e=>hb e.2)]
 ·by_cases h1:c<k/\mask / 2 ^ c % 2=1
  ·rw[if_pos h1,if_pos ⟨by omega,h1.2⟩]
  ·rw[if_neg h1,if_neg (λ e2=>h1 ⟨by omega,e2.2⟩)]⟩
theorem Mg.put {n mask value raw k x:Nat} (h:Mg n mask value raw k x) (hk:k<n) (hn:n≤4) (hv:value<4294967296) (hb:mask / 2 ^ k % 2=1):Mg n mask value raw (k+1) (mrg x value k):=by
 have h32:2 ^ (8 * n)≤2 ^ 32:=qX (by decide) (by omega);have hx:=h.lt;refine⟨ahe hk hn h.lt hv,λ c hc=>?_⟩;rw[Xj (by omega) (by omega) hv,h.by_ c hc];by_cases e:c=k
 ·subst e;rw[if_pos rfl,if_pos ⟨by omega,hb⟩]
 ·rw[if_neg e];by_cases h1:c<k/\mask / 2 ^ c % 2=1
  ·rw[if_pos h1,if_pos ⟨by omega,h1.2⟩]
  ·rw[if_neg h1,if_neg (λ e2=>h1 ⟨by omega,e2.2⟩)]
theorem Mg.end_ {n mask value raw x:Nat} (h:Mg n mask value raw n x):x=ia n mask value raw:=by
 rw[<- Ku n x h.lt];unfold ia;congr 1;apply qlB;intro c hc;have hc:=qNB.1 hc;rw[h.by_ c hc];by_cases h1:mask / 2 ^ c % 2=1
 ·rw[if_pos ⟨hc,h1⟩,if_pos h1]
 ·rw[if_neg (λ e=>h1 e.2),if_neg h1]
def Km.bs (M:Km) (S':cbus.PB):Km:={ M with K:={ M.K with bus:=bNorm S' },S:=S' }
theorem Km.Rep.bs (h:M.Rep A){S':cbus.PB} (hg:ahc S') (hl:S'.Cs.length=M.S.Cs.length):(M.bs S').Rep A:=⟨h.win,h.q,h.qs,h.pr,h.fn,h.fd,h.fk,h.fl,rfl,hg,h.bg.trans hl.symm,h.oth⟩
theorem Fw (H:St W S w (M.pieces A++L)) (hR:M.Rep A) (hI:Inv A.C n g M.K) (hn:n+1≤1000000000000) (a:Nat) (ha:a<4294967296) (sz:Int){Q:Ending->wD->Prop}
  (hq:∀ w',St W S w' ((M.bs (M.S.readN A.C.num a sz)).pieces A++L)->(M.bs (M.S.readN A.C.num a sz)).Rep A->(M.bs (M.S.readN A.C.num a sz)).K={ M.K with bus:=M.K.bus.readN A.C.num a sz }->Q (eY #[.int .u32 (M.K.bus.readV A.C.num a sz),.bool (M.K.bus.readT A.C.num a sz)]) w') :
  Calls prog 162 #[pZ A.bb 0,.int .i64 A.C.num,.int .u32 a,.int .i64 sz] w Q:=by
 have hok:=Inv.bok hI hR;obtain⟨h1,h2⟩:=cbus.breadN_ok hok (by omega) A.C.num a sz;have:=cbus.bread_any (H.nth 13 rfl) hok (by omega) hR.bg A.C.num a ha sz;rw[hR.bus,Wt,Ws] at hq;refine H.call 13 rfl this λ w' H=>hq w' H (hR.bs (Mm h1) h2) ?_;show({ M.K with bus:=bNorm (M.S.readN A.C.num a sz) }:Ko)=_;rw[Wu]
theorem Cx (H:St W S w (M.pieces A++L)) (hR:M.Rep A) (hI:Inv A.C n g M.K) (a:Nat) (ha:a<4294967296) (wr:Bool){Q:Ending->wD->Prop}
  (hq:∀ v w',St W S w' ((M.bs (M.S.askN A.C.num a wr)).pieces A++L)->(M.bs (M.S.askN A.C.num a wr)).Rep A->(M.bs (M.S.askN A.C.num a wr)).K={ M.K with bus:=M.K.bus.askN A.C.num a wr }->Q (eZ v) w') :
  Calls prog 71 #[pZ A.bb 0,.int .i64 A.C.num,.int .u32 a,.bool wr] w Q:=by
 have hok:=Inv.bok hI hR;obtain⟨h1,h2⟩:=cbus.askN_ok hok A.C.num a ha wr;have:=cbus.ask_any (H.nth 13 rfl) hok hR.bg A.C.num a ha wr;rw[hR.bus] at hq;refine H.call 13 rfl this λ w' H=>hq _ w' H (hR.bs (Mm h1) h2) ?_;show({ M.K with bus:=bNorm (M.S.askN A.C.num a wr) }:Ko)=_;rw[adg]
theorem Zd (d:Fd):∀ v ∈ (fdV d).toList,v.oneCell'=true:=by
 intro v hv
 cases d <;> simp [fdV] at hv <;> rcases hv with rfl | rfl | rfl <;> rfl
theorem Tb (d:Fd):(fdV d).size=3:=by cases d <;> rfl
theorem Mv (H:St W (ae A M).own w (M.pieces A++[])) (hR:M.Rep A) (hI:Inv A.C n g M.K) (hf:M.K.fls[j]?=some f) (hb:M.fs[j]?=some b){I:wD->Prop}
  (hq:∀ (y:Nx A M (M.K.placeL j)) w',y.1.fs=M.fs->St W (ae A M).own w' (y.1.pieces A++[])->I w') :
  ∃ t:Bool,w.cell? ⟨b,0+25,none⟩=some (.bool t)/\Sx.split (!t) (∀ W3:wD,W3=w.drew->∃ p:OA,W3.cell? ⟨A.x,0+2,none⟩=some (.pointer p)/\∃ z3:Int,W3.cell? ⟨b,0,none⟩=some (.int .i64 z3)/\∃ z4:Int,W3.cell? ⟨b,0+26,none⟩=some (.int .u32 z4) /\
   Calls prog 109 #[.pointer p,.int .i64 z3,.int .u32 z4,.int .i64 (alu.sizeF f.i.op)] W3 λ e2 W4=>∃ (z5:Int) (v:Value),e2=eY #[.int .i64 z5,v]/\(∃ v2,W4.cell? ⟨b,0+25,none⟩=some v2)/\W4.frozen? ⟨b,0+25,none⟩=false/\∀ W5:wD,W5=W4.setCell ⟨b,0+25,none⟩ (.bool true)->I W5) (I w):=by
 have hy:=hR.fl j b f hb hf;have hu:=hI.fo f (hI.mem hf);have he:lsq.ens M.q=M.K.q:=hR.q
 have hq32:M.K.q.length≤32:=by have:=hI.qo.len;have:=hI.cf.q;unfold Kc.Q at *;omega
 obtain⟨a,ha⟩:∃ a:Nat,f.addr=a:=⟨f.addr.toNat,by have:=hu.addr.1;omega⟩
 have ha2:a<4294967296:=by have:=hu.addr.2;omega
 refine⟨f.placed,(St.fl H hy).cell' rfl,aa (λ q=>?_) (λ q=>?_)⟩
 ·have q:f.placed=false:=by simpa using q
  refine H.dr λ w3 H=>⟨_,H.ld 0 rfl rfl,f.seq,(St.fl H hy).cell' rfl,f.addr,(St.fl H hy).cell' rfl,?_⟩;have had:=Yz (H.nth 4 rfl) (by rw[he];exact hI.qo.ok) (by rw[he];exact hq32) f.seq a ha2 (alu.sizeF f.i.op);rw[<- ha] at had;refine H.callx 4 rfl had λ z w4 H=>⟨_,_,rfl,?_⟩;have H:St W (ae A M).own w4 ((M.que (dz M.K.q f.seq a (alu.sizeF f.i.op)).1 z.1.1).pieces A++[]):=H;have hR2:(M.que (dz M.K.q f.seq a (alu.sizeF f.i.op)).1 z.1.1).Rep A:=hR.que (by rw[z.1.2.2,he]) z.1.2.1;refine th H hR.fn hy { f with placed:=true } rfl (by decide) λ w5 H=>?_;refine hq ⟨{ (M.que (dz M.K.q f.seq a (alu.sizeF f.i.op)).1 z.1.1).setB b { f with placed:=true } with K:=(M.que (dz M.K.q f.seq a (alu.sizeF f.i.op)).1 z.1.1).K.setf j { f with placed:=true } },hR2.setf (f:=f) hb hf rfl,?_,Kept.setf (f':={ f with placed:=true }) hR.fn hb hy rfl rfl rfl⟩ w5 rfl H;unfold Ko.placeL;rw[bi hf];dsimp only;rw[if_neg (by rw[q];decide),ha,qG];rfl
 ·have q:f.placed=true:=by simpa using q
  refine hq ⟨M,hR,?_,Kept.refl M⟩ w rfl H;unfold Ko.placeL;rw[bi hf];dsimp only;rw[if_pos q]
theorem ahf {q:List lsq.En}{s:Int}{bold:Bool}{m v:Nat} (h:iy q s bold= .got m v):v<4294967296/\m<16:=by
 unfold iy at h;split at h
 ·cases h
 ·split at h
  ·cases h
  ·split at h
   ·cases h
   ·cases h;refine⟨agr _ _,?_⟩;unfold lsq.maskF lsq.maskB;split <;> split <;> split <;> split <;> omega
theorem ym (h:(ae A M).at_ W) (hR:M.Rep A) (hI:Inv A.C n g M.K) (hn:n+1≤1000000000000) (hf:M.K.fls[j]?=some f) (hb:M.fs[j]?=some b) (hc:f.cls=4) (hfit:Fit f) (hni:f.issued=false) :
  Calls prog 112 #[pZ A.x 0,pZ b 0] W λ e w=>∃ z:Nx A M (M.K.fetched A.C j).1,e=eZ (.bool (M.K.fetched A.C j).2)/\Sep.Post (ae A M) W (ae A z.1) w:=by
 have hy:=hR.fl j b f hb hf;have H:=au h;obtain⟨hI1,kq,eq,hk,hx,hmr,hpl,hst⟩:=hI.placeL hf hc hfit hni;have hf1:=Fe (K:=M.K) hf;have hsz:=Ri hfit.1;obtain⟨nn,hnn⟩:∃ nn:Nat,alu.sizeF f.i.op=nn:=⟨(alu.sizeF f.i.op).toNat,by have:=hfit.1;omega⟩
 have hn4:nn≤4:=by rw[hnn] at hsz;simpa using hsz
 have hu:=hI.fo f (hI.mem hf);obtain⟨a,ha⟩:∃ a:Nat,f.addr=a:=⟨f.addr.toNat,by have:=hu.addr.1;omega⟩
 have ha2:a<4294967296:=by have:=hu.addr.2;omega
 refine alr A.x 0 b 0 ⟨f.i.op,(St.fl H hy).cell' rfl,H.callp (Ph f.i.op W) ⟨_,rfl,?_⟩⟩;refine⟨λ B=>∃ y:Nx A M (M.K.placeL j),y.1.fs=M.fs/\St W (ae A M).own B (y.1.pieces A++[]),Mv H hR hI hf hb (λ y w' h1 h2=>⟨y,h1,h2⟩),λ _=>?_⟩;clear H;rintro w6 ⟨y,hyfs,H⟩;obtain⟨K1,hK1⟩:∃ K1,M.K.placeL j=K1:=⟨_,rfl⟩;have hyR:=y.2.1;have hyK:y.1.K=K1:=y.2.2.1.trans hK1;have hkp:=y.2.2.2;rw[hK1] at hI1 hk hx hf1
 have hfy:y.1.K.fls[j]?=some f.pl:=by rw[hyK];exact hf1
 have hby:y.1.fs[j]?=some b:=by rw[hyfs];exact hb
 have hyy:=hyR.fl j b f.pl hby hfy
 have hIy:Inv A.C n g y.1.K:=by rw[hyK];exact hI1
 have he:lsq.ens y.1.q=K1.q:=by rw[hyR.q,hyK]
 have hq32:K1.q.length≤32:=by have:=hI1.qo.len;have:=hI1.cf.q;unfold Kc.Q at *;omega
 have hfl1:K1.fl j=f.pl:=bi hf1
 have hfet:M.K.fetched A.C j=match iy K1.q f.seq A.C.c.bold with
   | .wait=>(K1,false)
   | .none=>(if K1.bus.readT A.C.num a nn=false then ({ K1 with bus:=(K1.bus.readN A.C.num a nn).askN A.C.num a false },false)
    else (({ K1 with bus:=K1.bus.readN A.C.num a nn }:Ko).got j (K1.bus.readV A.C.num a nn),true))
   | .got mask value=>(if (mask:Int)≠2 ^ nn - 1 then
     (if K1.bus.readT A.C.num a nn=false then ({ K1 with bus:=(K1.bus.readN A.C.num a nn).askN A.C.num a false },false)
     else (({ K1 with bus:=K1.bus.readN A.C.num a nn }:Ko).got j (ia nn mask value (K1.bus.readV A.C.num a nn)),true))
    else (K1.got j (ia nn mask value 0),true)):=by
  unfold Ko.fetched;rw[hK1];dsimp only;rw[hfl1]
  show(match iy K1.q f.seq A.C.c.bold with
   | .wait=>_
   | .none=>(if K1.bus.readT A.C.num f.addr.toNat (alu.sizeF f.i.op)=false then ({ K1 with bus:=(K1.bus.readN A.C.num f.addr.toNat (alu.sizeF f.i.op)).askN A.C.num f.addr.toNat false },false)
    else (({ K1 with bus:=K1.bus.readN A.C.num f.addr.toNat (alu.sizeF f.i.op) }:Ko).got j (K1.bus.readV A.C.num f.addr.toNat (alu.sizeF f.i.op)),true))
   | .got mask value=>(if (mask:Int)≠2 ^ (alu.sizeF f.i.op).toNat - 1 then
     (if K1.bus.readT A.C.num f.addr.toNat (alu.sizeF f.i.op)=false then ({ K1 with bus:=(K1.bus.readN A.C.num f.addr.toNat (alu.sizeF f.i.op)).askN A.C.num f.addr.toNat false },false)
     else (({ K1 with bus:=K1.bus.readN A.C.num f.addr.toNat (alu.sizeF f.i.op) }:Ko).got j (ia (alu.sizeF f.i.op).toNat mask value (K1.bus.readV A.C.num f.addr.toNat (alu.sizeF f.i.op))),true))
    else (K1.got j (ia (alu.sizeF f.i.op).toNat mask value 0),true)))=_
  rw[hnn,ha,qG,qG]
 have hsrch:iy K1.q f.seq A.C.c.bold≠ .none:=by
  rw[Am hk hx hpl hst];split
  ·intro e;cases e
  ·split <;> (intro e;cases e)
 obtain⟨fd,hfd⟩:∃ fd,iy K1.q f.seq A.C.c.bold=fd:=⟨_,rfl⟩
 have srch:∀ {B:wD} {L:List Asn},St W (ae A M).own B (y.1.pieces A++L)->Calls prog 161 #[pZ A.qb 0,.int .i64 f.seq,.bool A.C.c.bold] B λ e w=>(∃ v:Value,e=eY #[.agg (fdV fd),v])/\ba B w:=by
  intro B L H;have:=Wy (H.nth 4 rfl) (by rw[he];exact hI1.qo.ok) (by rw[he];exact hq32) f.seq A.C.c.bold;rw[he,hfd] at this;exact this
 rw[hfd] at hfet hsrch;refine⟨λ x B=>∃ k:Nat,x=some ⟨k,0,none⟩/\St W (ae A M).own B (y.1.pieces A++[blk k (fdV fd) 290]),H.dr λ w7 H=>⟨_,H.ld 0 rfl rfl,f.seq,(St.fl H hyy).cell' rfl,A.C.c.bold,H.ld 0 rfl rfl,?_,?_⟩,λ _=>?_⟩
 ·refine(srch H).mono ?_;rintro e w8 ⟨⟨v,rfl⟩,hh⟩;have H:=H.quiet hh;exact⟨_,_,rfl,H.al λ k w9 H=>H.sts0 16 (vs:=fdV fd) rfl (Tb fd) rfl (Zd fd) λ w10 H=>⟨k,rfl,H⟩⟩
 ·refine H.alb λ k w9 H _ b9=>⟨b9,(srch (L:=[blk k _ 290]) H).mono ?_⟩;rintro e w10 ⟨⟨v,rfl⟩,hh⟩;have H:=H.quiet hh;exact⟨_,_,rfl,H.sts0 16 (vs:=fdV fd) rfl (Tb fd) rfl (Zd fd) λ w11 H=>⟨k,rfl,H⟩⟩
 clear H;rintro x w14 ⟨k,rfl,H⟩
 cases fd with
 | none=>exact absurd rfl hsrch
 | wait =>
  refine ptr_some ⟨true,by rw[ac];exact H.ld 16 rfl rfl,aa (λ _=>?_) (λ q=>by cases q)⟩;rw[hfet];exact⟨⟨y.1,hyR,hyK,hkp⟩,rfl,aq H⟩
 | got mask value =>
 obtain⟨hval,hmask⟩:=ahf hfd;refine ptr_some ⟨false,by rw[ac];exact H.ld 16 rfl rfl,aa (λ q=>by cases q) (λ _=>?_)⟩;obtain⟨full,hfull⟩:∃ full:Bool,full= !decide ((mask:Int)≠2 ^ nn - 1):=⟨_,rfl⟩;dsimp only at hfet
 obtain⟨rv,hrv⟩:∃ rv:Nat,rv=if full=true then 0 else K1.bus.readV A.C.num a nn:=⟨_,rfl⟩
 obtain⟨Kr,hKr⟩:∃ Kr:Ko,Kr=if full=true then K1 else { K1 with bus:=K1.bus.readN A.C.num a nn }:=⟨_,rfl⟩
 have hnn2:(nn:Int)=1∨(nn:Int)=2∨(nn:Int)=4:=by rw[<- hnn];exact hfit.1
 have hrvl:rv<2 ^ (8 * nn):=by
  rw[hrv];split
  ·exact qMB _
  ·have:=Hn hI1.bu A.C.num a hnn2;simpa using this
 have hgot:(full=true∨K1.bus.readT A.C.num a nn=true)->M.K.fetched A.C j=(Kr.got j (ia nn mask value rv),true):=by
  intro hor;rw[hfet,hKr,hrv]
  cases hb:full with
  | true =>
   rw[hb] at hfull
   have:¬ (mask:Int)≠2 ^ nn - 1:=by simpa using hfull.symm
   rw[if_neg this,if_pos rfl,if_pos rfl]
  | false =>
   rw[hb] at hfull hor
   have h1:(mask:Int)≠2 ^ nn - 1:=by simpa using hfull.symm
   have h2:K1.bus.readT A.C.num a nn=true:=hor.resolve_left (by decide);rw[if_pos h1,if_neg (by rw[h2];decide),if_neg (by decide),if_neg (by decide)]
 have hKrf:Kr.fls=K1.fls/\Kr.q=K1.q:=by rw[hKr];split <;> exact⟨rfl,rfl⟩
 refine⟨λ x B=>x=(rv:Nat)/\(full=true∨K1.bus.readT A.C.num a nn=true)/\∃ z:Nx A M Kr,z.1.fs=M.fs/\St W (ae A M).own B (z.1.pieces A++[blk k (fdV (.got mask value)) 290]),?_,λ _=>?_⟩
 ·refine ptr_some ⟨(mask:Nat),by rw[ac];exact H.ld 16 rfl rfl,by omega,?_⟩;rintro z8 rfl z9 rfl;rw[hnn,Bits.one_shl (by omega),Bits.sub_pow,Bits.n64 (by have:2 ^ nn≤2 ^ 4:=qX (by decide) hn4;omega)];rintro w15 k5 rfl;have H:=H.drewN k5
  have hcmp:((mask:Int)≠2 ^ nn - 1)↔((mask:Int)≠((2 ^ nn - 1:Nat):Int)):=by rw[<- Bits.sub_pow];norm_cast
  refine aa (λ q=>?_) (λ q=>?_)
  ·have q:(mask:Int)≠2 ^ nn - 1:=hcmp.2 (by simpa using q)
   have hff:full=false:=by rw[hfull];simp [q]
   rw[hff,if_neg (by decide)] at hKr;rw[hff,if_neg (by decide)] at hrv;refine H.dr λ w16 H=>⟨_,H.ld 0 rfl rfl,A.C.num,H.ld 0 rfl rfl,f.addr,(St.fl H hyy).cell' rfl,?_⟩;rw[ha];refine Fw H hyR hIy hn a ha2 (nn:Int) λ w17 H hR2 hK2=>⟨_,_,rfl,aa (λ q2=>?_) (λ q2=>?_)⟩
   ·have q2:K1.bus.readT A.C.num a nn=false:=by rw[<- hyK];simpa using q2
    have hy2:(b,f.pl) ∈ (y.1.bs (y.1.S.readN A.C.num a (nn:Int))).fl:=hyy;refine H.dr λ w18 H=>⟨_,H.ld 0 rfl rfl,A.C.num,H.ld 0 rfl rfl,f.addr,(St.fl H hy2).cell' rfl,?_⟩;rw[ha]
    have hI2:Inv A.C (n+1) g (y.1.bs (y.1.S.readN A.C.num a (nn:Int))).K:=by rw[hK2];exact hIy.bread (by omega) a (nn:Int)
    refine Cx H hR2 hI2 a ha2 false λ v w19 H hR3 hK3=>⟨_,rfl,?_⟩;rw[hfet,if_pos q,if_pos q2];refine⟨⟨_,hR3,?_,hkp.trans (Kept.of rfl rfl)⟩,rfl,aq H⟩;rw[hK3,hK2,hyK]
   ·have q2:K1.bus.readT A.C.num a nn=true:=by rw[<- hyK];simpa using q2
    refine⟨by rw[hrv,hyK],.inr q2,⟨_,hR2,by rw[hK2,hyK,hKr],hkp.trans (Kept.of rfl rfl)⟩,hyfs,H⟩
  ·have q:¬ (mask:Int)≠2 ^ nn - 1:=λ e=>by have:=hcmp.1 e;simp at q;exact this (by exact_mod_cast q)
   have hff:full=true:=by rw[hfull];simp [q]
   rw[hff,if_pos rfl] at hKr;rw[hff,if_pos rfl] at hrv;exact⟨by rw[hrv];rfl,.inl hff,⟨y.1,hyR,by rw[hyK,hKr],hkp⟩,hyfs,H⟩
 clear H;rintro x w20 ⟨rfl,hor,z,hzfs,H⟩;have hzR:=z.2.1;have hzK:=z.2.2.1;have hgot:=hgot hor;have hkf:w20.cell? ⟨k,1,none⟩=some (.int .i64 (mask:Nat)):=H.ld 16 rfl rfl;have hkv:w20.cell? ⟨k,2,none⟩=some (.int .u32 (value:Nat)):=H.ld 16 rfl rfl;refine⟨λ x B=>x=(ia nn mask value rv:Nat)/\B=w20,?_,λ _=>?_⟩
 ·refine⟨λ x3 x4 B=>∃ (c v:Nat),x3=c/\x4=v/\c≤nn/\Mg nn mask value rv c v/\B=w20,λ x3 _ _=>nn - x3.toNat,⟨0,rv,rfl,rfl,qQ _,Mg.zero hrvl,rfl⟩,λ _=>?_⟩;rintro x3 x4 w21 ⟨c,v,rfl,rfl,hcn,hmg,rfl⟩;rw[hnn];refine aa (λ q=>?_) (λ q=>?_)
  ·have q:=qB q
   have hcl:c<nn:=by omega
   have hv32:v<4294967296:=qaB hmg.lt (show 2 ^ (8 * nn)≤2 ^ 32 from qX (by decide) (by omega))
   have nxt:∀ {v':Nat},Mg nn mask value rv (c+1) v'->∀ z:Int,z=IntKind.wrap .i64 ((c:Int)+1)->(∃ (c' v2:Nat),z=c'/\(v':Int)=v2/\c'≤nn/\Mg nn mask value rv c' v2/\w21=w21)/\nn - z.toNat<nn - (c:Int).toNat:=by
    rintro v' hm2 z rfl;rw[w64 (by omega) (by omega)];exact⟨⟨c+1,v',by omega,rfl,by omega,hm2,rfl⟩,by show nn - ((c:Int)+1).toNat<nn - (c:Int).toNat;omega⟩
   refine ptr_some ⟨(mask:Nat),by rw[ac];exact hkf,by omega,?_⟩;rintro z16 rfl z17 rfl
   have hm:min ((c:Int).toNat) (IntKind.bits .i64)=c:=by rw[qG];exact qPB (by show c≤64;omega)
   have hmd:mask / 2 ^ c≤mask:=Nat.div_le_self _ _
   have hbit:IntKind.wrap .i64 (((bZ .i64 (Int.fdiv ((mask:Nat):Int) (2 ^ min ((c:Int).toNat) (IntKind.bits .i64))) &&&bZ .i64 1).toNat:Nat):Int)=((mask / 2 ^ c % 2:Nat):Int):=by
    rw[hm,Bits.shr];have:=Bits.land64 (x:=mask / 2 ^ c) (y:=1) (by omega) (by decide);rw[show((1:Nat):Int)=1 from rfl] at this;rw[this,Nat.and_one_is_mod]
   rw[hbit];refine aa (λ q2=>?_) (λ q2=>?_)
   ·have q2:mask / 2 ^ c % 2=1:=by
     have:((mask / 2 ^ c % 2:Nat):Int)=1:=by simpa using q2
     omega
    rintro z18 rfl;rw[w64 (by omega) (by omega)];refine⟨by omega,?_⟩;rintro z19 rfl z20 rfl
    have hsh:IntKind.wrap .u32 (255 * 2 ^ min ((8 * (c:Int)).toNat) (IntKind.bits .u32))=((255 * 2 ^ (8 * c):Nat):Int):=by
     have e1:(8 * (c:Int)).toNat=8 * c:=by omega
     rw[e1,qPB (by show 8 * c≤32;omega)];have h24:2 ^ (8 * c)≤2 ^ 24:=qX (by decide) (by omega);rw[show(255:Int) * 2 ^ (8 * c)=((255 * 2 ^ (8 * c):Nat):Int) by push_cast;rfl];exact Bits.n32 (by omega)
    have h24:2 ^ (8 * c)≤2 ^ 24:=qX (by decide) (by omega);rw[hsh,Bits.andNot32 hv32 (by omega)];refine ptr_some ⟨(value:Nat),by rw[ac];exact hkv,?_⟩;rintro z22 rfl z23 rfl;rw[Bits.land32 hval (by omega)];have hl1:v &&&(4294967295 - 255 * 2 ^ (8 * c))<4294967296:=qBC Nat.and_le_left hv32;have hl2:value &&&255 * 2 ^ (8 * c)<4294967296:=qBC Nat.and_le_left hval;rw[Bits.lor32 hl1 hl2];exact nxt (hmg.put hcl hn4 hval q2)
   ·have q2:¬ mask / 2 ^ c % 2=1:=λ e=>by rw[e] at q2;simp at q2
    exact nxt (hmg.skip q2)
  ·have q:=qE q;obtain rfl:c=nn:=by omega
   exact⟨by rw[hmg.end_],rfl⟩
 rintro x w22 ⟨rfl,rfl⟩
 have hKrf1:Kr.fls[j]?=some f.pl:=by rw[hKrf.1];exact hf1
 have hfz:z.1.K.fls[j]?=some f.pl:=by rw[hzK];exact hKrf1
 have hbz:z.1.fs[j]?=some b:=by rw[hzfs];exact hb
 have hyz:=hzR.fl j b f.pl hbz hfz;have hmu:U32 ((ia nn mask value rv:Nat):Int):=Rg (Co _ _ _ _ hn4);have hfnz:(z.1.fl.map (·.1)).Nodup:=hzR.fn;refine⟨f.i.op,(St.fl H hyz).cell' rfl,H.callp (abr f.i.op hmu w22) ⟨_,rfl,?_⟩⟩;refine th H hfnz hyz { f.pl with value:=alu.widenF f.i.op (ia nn mask value rv:Nat) } rfl (by decide) λ w24 H=>H.dr λ w25 H=>⟨_,H.ld 0 rfl rfl,f.seq,(St.fl H (im hyz _)).cell' rfl,?_⟩
 have hez:lsq.ens z.1.q=Kr.q:=by rw[hzR.q,hzK]
 have hld:=Wz (H.nth 4 rfl) (by show ∀ e ∈ lsq.ens z.1.q,e.Ok;rw[hez,hKrf.2];exact hI1.qo.ok) (by show(lsq.ens z.1.q).length≤32;rw[hez,hKrf.2];exact hq32) f.seq;refine H.callx 4 rfl hld λ zq w26 H=>⟨_,rfl,?_⟩;have hzq:lsq.ens zq.1.1=lr Kr.q f.seq:=zq.1.2.2.trans (by show lr (lsq.ens z.1.q) f.seq=_;rw[hez]);rw[hgot]
 have e1:Kr.got j (ia nn mask value rv:Nat)=({ z.1.K.setf j { f.pl with value:=alu.widenF f.i.op (ia nn mask value rv:Nat) } with q:=lr Kr.q f.seq }:Ko):=by
  unfold Ko.got;rw[bi hKrf1,hzK];rfl
 have hR2:=(hzR.setf (f':={ f.pl with value:=alu.widenF f.i.op (ia nn mask value rv:Nat) }) hbz hfz rfl).que (q:=lr Kr.q f.seq) (z:=zq.1.1) hzq zq.1.2.1;exact⟨⟨_,hR2,e1.symm,z.2.2.2.trans (Kept.setf (f':={ f.pl with value:=alu.widenF f.i.op (ia nn mask value rv:Nat) }) hzR.fn hbz hyz rfl rfl rfl)⟩,rfl,aq (L:=[blk k (fdV (.got mask value)) 290]) H⟩
theorem load_any (h:(ae A M).at_ W) (hR:M.Rep A) (hI:Inv A.C n g M.K) (hn:n+1≤1000000000000) (hf:M.K.fls[j]?=some f) (hb:M.fs[j]?=some b) (hc:f.cls=4) (hs:f.issued=false/\f.done=false) (hab:M.K.has f.a=true/\M.K.has f.b=true) :
  Calls prog 68 #[pZ A.x 0,pZ b 0] W λ e w=>∃ z:Nx A M (M.K.load A.C j).1,e=eZ (.bool (M.K.load A.C j).2)/\Sep.Post (ae A M) W (ae A z.1) w:=by
 have hsr:=hI.src (hI.mem hf);have hva:=hI.valU f.a;have ho:=hI.fo f (hI.mem hf);refine apk A.x 0 b 0 ((St.begin h).callx 0 rfl (ut h hR hI.vl hsr.1.2 hf hb) λ z1 w2 H=>⟨_,rfl,?_⟩);obtain⟨hI1,hf1⟩:=hI.reachL hf hs.1;obtain⟨f1,hff⟩:∃ f1,f.reach (M.K.val f.a) A.C.dlen=f1:=⟨_,rfl⟩;rw[hff] at hf1 ⊢;have hz1:=z1.2.2.1;rw[<- hz1] at hI1 hf1
 have e1:f1.seq=f.seq/\f1.a=f.a/\f1.b=f.b/\f1.issued=f.issued/\f1.done=f.done/\f1.cls=f.cls:=by rw[<- hff];exact⟨rfl,rfl,rfl,rfl,rfl,rfl⟩
 have hb1:=z1.2.2.2.at hR z1.2.1 hI hf1 hf e1.1 hb
 have has1:z1.1.K.has f1.a=true/\z1.1.K.has f1.b=true:=by rw[e1.2.1,e1.2.2.1,hz1];exact hab
 have hfl1:(M.K.reach A.C j).fl j=f1:=by rw[<- hz1];exact bi hf1
 have hmod:M.K.load A.C j=if f1.cause= -1 then (if ((M.K.reach A.C j).fetched A.C j).2=false then (((M.K.reach A.C j).fetched A.C j).1,false) else (((M.K.reach A.C j).fetched A.C j).1.begin A.C j 1,true)) else ((M.K.reach A.C j).begin A.C j 1,true):=by
  unfold Ko.load;dsimp only;rw[hfl1]
 refine aa (λ q=>?_) (λ q=>?_)
 ·have q:f1.cause= -1:=by simpa using q
  rw[if_pos q] at hmod
  have hfit:Fit f1:=by
   rw[<- hff] at q ⊢;exact iq hI.cf ho hva (by rw[hc];decide) q
  refine H.callx 0 rfl (ym (H.nth 0 rfl) z1.2.1 hI1 hn hf1 hb1 (e1.2.2.2.2.2.trans hc) hfit (e1.2.2.2.1.trans hs.1)) λ z2 w3 H=>⟨_,rfl,?_⟩;obtain⟨hI2,⟨f2,hf2,hk2,hi2,hd2,hc2⟩,hgot2⟩:=hI1.fetched (by omega) hf1 (e1.2.2.2.2.2.trans hc) hfit (e1.2.2.2.1.trans hs.1);refine aa (λ q2=>?_) (λ q2=>?_)
  ·have q2:(z1.1.K.fetched A.C j).2=false:=by simpa using q2
   have q3:((M.K.reach A.C j).fetched A.C j).2=false:=by rw[<- hz1];exact q2
   rw[if_pos q3] at hmod;rw[hmod];exact⟨⟨z2.1,z2.2.1,by rw[z2.2.2.1,hz1],z1.2.2.2.trans z2.2.2.2⟩,rfl,H.post 0 rfl⟩
  ·have q2:(z1.1.K.fetched A.C j).2=true:=by simpa using q2
   have q3:¬ ((M.K.reach A.C j).fetched A.C j).2=false:=by rw[<- hz1,q2];decide
   rw[if_neg q3] at hmod;have hz2:=z2.2.2.1;rw[<- hz2] at hI2 hf2;have hb2:=z2.2.2.2.at z1.2.1 z2.2.1 hI1 hf2 hf1 hk2.seq hb1;have hone:=One.fetched (C:=A.C) z1.1.K j
   have has2:z2.1.K.has f2.a=true/\z2.1.K.has f2.b=true:=by
    rw[hk2.a,hk2.b]
    have:∀ p,z2.1.K.has p=z1.1.K.has p:=λ p=>by unfold Ko.has;rw[hz2,hone.rdy]
    rw[this,this];exact has1
   refine H.callx 0 rfl (ne (H.nth 0 rfl) z2.2.1 hI2 (by omega) hf2 hb2 ⟨hi2.trans (e1.2.2.2.1.trans hs.1),hd2.trans (e1.2.2.2.2.1.trans hs.2)⟩ has2 (cy:=1) (by omega)) λ z3 w4 H=>⟨rfl,?_⟩;rw[hmod];exact⟨⟨z3.1,z3.2.1,by rw[z3.2.2.1,hz2,hz1],(z1.2.2.2.trans z2.2.2.2).trans z3.2.2.2⟩,rfl,H.post 0 rfl⟩
 ·have q:¬ f1.cause= -1:=by simpa using q
  rw[if_neg q] at hmod;refine H.callx 0 rfl (ne (H.nth 0 rfl) z1.2.1 hI1 (by omega) hf1 hb1 ⟨e1.2.2.2.1.trans hs.1,e1.2.2.2.2.1.trans hs.2⟩ has1 (cy:=1) (by omega)) λ z3 w4 H=>⟨rfl,?_⟩;rw[hmod];exact⟨⟨z3.1,z3.2.1,by rw[z3.2.2.1,hz1],z1.2.2.2.trans z3.2.2.2⟩,rfl,H.post 0 rfl⟩
end Go.Proofs.YtmncepdbglaphaaGreatDoor.ko
