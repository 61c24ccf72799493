/- A part of the walk. No condition. -/
import Derived.Test.YtmncepdbglaphaaGreatDoorPmA
set_option linter.unusedVariables false
set_option maxRecDepth 100000
namespace Go.Proofs.YtmncepdbglaphaaGreatDoor.ko
open Go.RowKit Go.XHeap Go.Sx Go.Sep Go.Proofs.Tryz
variable {W w:wD}{b TB:Nat}{P:Prd}{S:pm.PS}{D:pm.Dir}
def Kb (i:Ins):pm.In:=⟨i.op,i.rd,i.rs1,i.rs2,i.imm⟩
def aot (P:Prd):pm.Dir->Prop
 | .fixed b=>(P.kind=0∨P.kind=1)/\b=decide (P.kind=1)
 | .tab mix _ _ l=>(P.kind=if mix=true then 3 else 2)/\l=P.tab
structure PrR (P:Prd) (S:pm.PS) (D:pm.Dir):Prop where
 dir:aot P D
 pg:∃ t,pm.Pg S D P.tgts t
 h:S.hist=P.hist
 m:S.mask=P.mask
 st:S.stack=P.stack
 tp:S.top=P.top
theorem Prd.Ok.hist_u (h:P.Ok):P.hist<4294967296/\P.mask<4294967296:=by
 obtain⟨k,hk,e⟩:=h.msk;have h1:=h.h1;have:(2:Nat) ^ k≤2 ^ 10:=qX (by decide) hk
 have:((2:Int) ^ k)=(((2:Nat) ^ k:Nat):Int):=by norm_cast
 omega
theorem um (n p:Nat):tix n (p:Int)=p / 4 % n:=by
 unfold tix;rw[show((p:Int) / 4).toNat=p / 4 by omega]
theorem Yw (hR:PrR P S D) (hP:P.Ok) (p:Nat) (hp:p<4294967296) (i:Ins){h:Int} (h0:0≤h) (h1:h<4294967296):D.guess p h.toNat i.imm=P.dir p i h:=by
 have hd:=hR.dir;obtain⟨t,hg⟩:=hR.pg;have hk:=hg.dok;unfold Prd.dir
 cases D with
 | fixed b =>
  obtain⟨e,rfl⟩:=hd;rw[if_neg (by omega)];rfl
 | tab mix cb k l =>
  obtain⟨e,rfl⟩:=hd;obtain⟨k1,k2, -⟩:=hk;rw[if_pos (by cases mix <;> simp at e <;> omega)];show decide (P.tab.getD (pm.ixOf mix k p h.toNat) 0 > 1)=_
  have:pm.ixOf mix k p h.toNat=tix P.tab.length (P.key p h):=by
   rw[k2];unfold pm.ixOf Prd.key
   cases mix with
   | false =>
    rw[if_neg (show ¬ false=true by decide),if_neg (show ¬ P.kind=3 by simp at e;omega),um]
   | true =>
    rw[if_pos rfl,if_pos (show P.kind=3 by simpa using e)]
    have hm:akd (p:Int) h=(((p ^^^ (h.toNat * 4 % 4294967296):Nat)):Int):=by
     have:=pm.mix_pc (pc:=p) (h:=h.toNat) hp (by omega);rw[Int.toNat_of_nonneg h0] at this;exact this
    rw[hm,um]
  rw[this]
theorem Hs (i:Ins):(Kb i).rets=rets i:=rfl
theorem Wo (i:Ins):(Kb i).calls=calls i:=rfl
theorem PrR.on (hR:PrR P S D) (hP:P.Ok) (pc:Int) (i:Ins) (t:Bool):PrR (P.on pc i t) (S.on pc (Kb i) t) D:=by
 have hO:=hP.on pc i t;have hu:=hO.hist_u;have h0:=hO.h0;obtain⟨k,hg⟩:=hR.pg;have hst:=hR.st;have htp:=hR.tp;have hh:=hR.h;have hm:=hR.m;unfold Prd.on at hu h0 ⊢;unfold pm.PS.on;rw[Hs,Wo];show PrR _ (if av i.op=2 then _ else _) D;by_cases c1:av i.op=2
 ·rw[if_pos c1] at hu h0 ⊢;rw[if_pos c1]
  have e:pm.nh S.hist S.mask t=nh P.hist P.mask t:=by rw[hh,hm];rfl
  exact⟨hR.dir,⟨k,hg.dir,hg.dok,hg.tc,hg.tn,hg.tl,hg.tb,by show 0≤pm.nh _ _ _;rw[e];exact h0,by show pm.nh _ _ _<_;rw[e];exact hu.1⟩,e,hm,hst,htp⟩
 ·rw[if_neg c1,if_neg c1];by_cases c2:rets i=true
  ·rw[if_pos c2,if_pos c2];exact⟨hR.dir,⟨k,hg.dir,hg.dok,hg.tc,hg.tn,hg.tl,hg.tb,hg.h0,hg.h1⟩,hh,hm,hst,by show(S.top+S.stack.length - 1) % S.stack.length=_;rw[hst,htp]⟩
  ·rw[if_neg c2,if_neg c2];by_cases c3:calls i=true
   ·rw[if_pos c3,if_pos c3];exact⟨hR.dir,⟨k,hg.dir,hg.dok,hg.tc,hg.tn,hg.tl,hg.tb,hg.h0,hg.h1⟩,hh,hm,by show S.stack.set ((S.top+1) % S.stack.length) _=_;rw[hst,htp];rfl,by show(S.top+1) % S.stack.length=_;rw[hst,htp]⟩
   ·rw[if_neg c3,if_neg c3];exact hR
theorem ada (hR:PrR P S D) (hP:P.Ok) (p:Nat) (hp:p<4294967296) (i:Ins):S.nextG D P.tgts p (Kb i)=P.next p i:=by
 have hu:=hP.hist_u;have hd:=Yw hR hP p hp i hP.h0 hu.1;unfold pm.PS.nextG Prd.next
 rw[Hs,hR.h];show(if av i.op=2 then if D.guess p P.hist.toNat i.imm=true then _ else _ else _)=_;rw[hd,hR.st,hR.tp]
 have e:pm.tgtAt P.tgts p=P.tgt p:=by
  unfold pm.tgtAt Prd.tgt;rw[um]
 rw[e]
 have key:∀ (a:Bool) (c:Prop) [Decidable c] (x y:Int),(if a=true/\c then x else y)=if a=true then (if c then x else y) else y:=by
  intro a c _ x y;cases a <;> by_cases h:c <;> simp [h]
 rw[key];rfl
theorem Wp (hR:PrR P S D) (hP:P.Ok) (p:Nat) (hp:p<4294967296) (i:Ins):S.takes D p (Kb i)=P.tk p i:=by
 have hu:=hP.hist_u;unfold pm.PS.takes Prd.tk;rw[hR.h];show(av i.op==2&&D.guess p P.hist.toNat i.imm)=_;rw[Yw hR hP p hp i hP.h0 hu.1];congr 1
def zb (mh mt mv:Int):AV:=#[.int .i64 mh,.int .i64 mt,.int .u32 mv]
theorem adb (h:(pm.pgA b S D).at_ W) (hR:PrR P S D) (hP:P.Ok) (hT:Tabs TB W) (hlo:∀ k,(pm.pgA b S D).own k->TB≤k){pc:Int} (hp:U32 pc) (i:Ins) :
  Calls prog 122 #[pZ b 0,.int .u32 pc,.agg i.vs] W λ e w=>∃ z:{ z:pm.PS // PrR (P.on pc i (P.tk pc i)) z D },e=eY #[.int .u32 (P.next pc i),.agg (zb P.hist P.top P.val)]/\Sep.Post (pm.pgA b S D) W (pm.pgA b z.1 D) w:=by
 obtain⟨p,rfl⟩:∃ p:Nat,pc=p:=⟨pc.toNat,by have:=hp.1;omega⟩
 have hp2:p<4294967296:=by have:=hp.2;omega
 obtain⟨t,hg⟩:=hR.pg;refine(pm.guessG h hg hT hlo p hp2 (Kb i)).mono ?_;rintro e w ⟨rfl,hw⟩;rw[Wp hR hP p hp2] at hw;refine⟨⟨_,hR.on hP p i (P.tk p i)⟩,?_,hw⟩;rw[ada hR hP p hp2]
 have:S.mark=zb P.hist P.top P.val:=by
  unfold pm.PS.mark zb Prd.val;rw[hR.h,hR.tp,hR.st]
 rw[this]
theorem wa (hR:PrR P S D) (mh mt:Int):S.whole mh mt=P.whole mh mt:=by
 unfold pm.PS.whole Prd.whole;rw[hR.m,hR.st];show(if (decide (mh ≥ 0)&&decide (mh≤P.mask))=true then _ else _)=_;have e1:decide (mh ≥ 0)=decide (0≤mh):=rfl;have e2:decide (mt ≥ 0)=decide (0≤mt):=rfl;rw[e1,e2];cases (decide (0≤mh)&&decide (mh≤P.mask)) <;> rfl
theorem PrR.back (hR:PrR P S D) (hP:P.Ok) (mh mt:Int){mv:Int} (hv:U32 mv) (pc:Int) (i:Ins) (t:Bool):PrR (P.back mh mt mv pc i t) (S.restored mh mt mv pc (Kb i) t) D:=by
 unfold Prd.back pm.PS.restored;rw[wa hR];by_cases hw:P.whole mh mt=true
 ·rw[if_pos hw,if_pos hw];have hw2:=hw;rw[<- wa hR] at hw2;obtain⟨g0,g1,g2,g3⟩:=pm.whole_iff hw2;rw[hR.m] at g1;rw[hR.st] at g3;obtain⟨k,hg⟩:=hR.pg;have hu:=hP.hist_u
  have hO:({ P with hist:=mh,top:=mt.toNat,stack:=P.stack.set mt.toNat mv }:Prd).Ok:=⟨by show mt.toNat<(P.stack.set _ _).length;rw[qJ];exact g3,by show(P.stack.set _ _).length≤16;rw[qJ];exact hP.len,g0,g1,hP.msk,hP.tg,λ v hv2=>by
   rcases qZ hv2 with e | rfl
   ·exact hP.stk v e
   ·exact hv,hP.tgu,hP.kind,hP.tab,hP.cnt⟩
  have h1:PrR ({ P with hist:=mh,top:=mt.toNat,stack:=P.stack.set mt.toNat mv }:Prd) (S.back mh mt.toNat mv) D:=by
   refine⟨?_,⟨k,hg.dir,hg.dok,hg.tc,hg.tn,hg.tl,hg.tb,g0,by show mh<_;omega⟩,rfl,hR.m,by show S.stack.set _ _=P.stack.set _ _;rw[hR.st],rfl⟩;have hd:=hR.dir;cases D <;> exact hd
  exact h1.on hO pc i t
 ·rw[if_neg hw,if_neg hw];exact hR
theorem Rs (h:(pm.pgA b S D).at_ W) (hR:PrR P S D) (hP:P.Ok) (hT:Tabs TB W) (hlo:∀ k,(pm.pgA b S D).own k->TB≤k) (mh mt:Int){mv:Int} (hv:U32 mv) (pc:Int) (i:Ins) (t:Bool) :
  Calls prog 58 #[pZ b 0,.agg (zb mh mt mv),.int .u32 pc,.agg i.vs,.bool t] W λ e w=>∃ z:{ z:pm.PS // PrR (P.back mh mt mv pc i t) z D },e=eY #[]/\Sep.Post (pm.pgA b S D) W (pm.pgA b z.1 D) w:=by
 have H:St W (pm.pgA b S D).own W [pm.predA b S,pm.dirA D]:=(St.begin h).open_;refine(pm.restoreG (H.nth 0 rfl) hT (λ k hk=>hlo k (.inl hk)) mh mt mv pc (Kb i) t).mono ?_;rintro e w ⟨rfl,hw⟩;have H:=H.upd 0 rfl hw;exact⟨⟨_,hR.back hP mh mt hv pc i t⟩,rfl,(St.shut H).post 0 rfl⟩
theorem adc {n:Int} (h:0≤n/\n≤3) (t:Bool):pm.bump n t=cnt n t:=by
 unfold pm.bump cnt;cases t
 ·by_cases e:0<n
  ·simp [e]
  ·simp [e]
 ·by_cases e:n<3
  ·simp [e]
  ·simp [e]
theorem PrR.learn (hR:PrR P S D) (hP:P.Ok) (mh mt:Int) (p:Nat) (hp:p<4294967296) (i:Ins) (t:Bool){to:Int} (ht:U32 to):PrR (P.learn mh mt p i t to) (S.tgts (S.learnT P.tgts mh mt p (Kb i) to)) (S.learnD D mh mt p (Kb i) t):=by
 obtain⟨k,hg⟩:=hR.pg;have self:S.tgts P.tgts=S:=pm.tgts_self hg.tc;have hO:=hP.learn mh mt (pc:=p) ⟨by omega,by omega⟩ i t ht;unfold Prd.learn at hO ⊢;unfold pm.PS.learnT pm.PS.learnD;rw[wa hR,Hs];show PrR _ (S.tgts (if P.whole mh mt=true then if av i.op=2 then _ else if i.op=4 then _ else _ else _)) (if P.whole mh mt=true then if av i.op=2 then _ else _ else _);by_cases hw:P.whole mh mt=true
 ·rw[if_neg (by rw[hw];decide)] at hO ⊢;rw[if_pos hw,if_pos hw];have hw2:=hw;rw[<- wa hR] at hw2;obtain⟨g0,g1,g2,g3⟩:=pm.whole_iff hw2;rw[hR.m] at g1;have hu:=hP.hist_u;by_cases c1:av i.op=2
  ·rw[if_pos c1] at hO ⊢;rw[if_pos c1,if_pos c1,self];have hd:=hR.dir;have hk:=hg.dok
   cases D with
   | fixed b =>
    rw[if_neg (by obtain⟨e, -⟩:=hd;omega)];exact hR
   | tab mix cb c l =>
    obtain⟨e,rfl⟩:=hd;have hk2:=hk;obtain⟨k1,k2,k3⟩:=hk2
    have hkd:P.kind=2∨P.kind=3:=by cases mix <;> simp at e <;> omega
    rw[if_pos hkd] at hO ⊢
    have hix:pm.ixOf mix c p mh.toNat=tix P.tab.length (P.key p mh):=by
     rw[k2];unfold pm.ixOf Prd.key
     cases mix with
     | false =>
      rw[if_neg (show ¬ false=true by decide),if_neg (show ¬ P.kind=3 by simp at e;omega),um]
     | true =>
      rw[if_pos rfl,if_pos (show P.kind=3 by simpa using e)]
      have hm:akd (p:Int) mh=(((p ^^^ (mh.toNat * 4 % 4294967296):Nat)):Int):=by
       have:=pm.mix_pc (pc:=p) (h:=mh.toNat) hp (by omega);rw[Int.toNat_of_nonneg g0] at this;exact this
      rw[hm,um]
    have hlt:tix P.tab.length (P.key p mh)<P.tab.length:=by
     rw[<- hix,k2];unfold pm.ixOf;exact qIB _ (qMB c)
    have hb:pm.bump (P.tab.getD (tix P.tab.length (P.key p mh)) 0) t=cnt (P.tab.getD (tix P.tab.length (P.key p mh)) 0) t:=by
     refine adc (k3 _ ?_) t;rw[qF,qC hlt];exact qjB hlt
    have el:(pm.Dir.tab mix cb c P.tab).learn p mh.toNat t= .tab mix cb c (P.tab.set (tix P.tab.length (P.key p mh)) (cnt (P.tab.getD (tix P.tab.length (P.key p mh)) 0) t)):=by
     show pm.Dir.tab mix cb c (P.tab.set (pm.ixOf mix c p mh.toNat) (pm.bump (P.tab.getD (pm.ixOf mix c p mh.toNat) 0) t))=_;rw[hix,hb]
    have hok:=pm.Dir.ok_learn hk p mh.toNat t;rw[el] at hok ⊢;exact⟨⟨e,rfl⟩,⟨k,by rw[hg.dir];cases mix <;> rfl,hok,hg.tc,hg.tn,hg.tl,hg.tb,hg.h0,hg.h1⟩,hR.h,hR.m,hR.st,hR.tp⟩
  ·rw[if_neg c1] at hO ⊢;rw[if_neg c1,if_neg c1];by_cases c2:i.op=4
   ·rw[if_pos c2];by_cases c3:rets i=true
    ·rw[if_pos c3,self,if_neg (by rw[c3];rintro⟨-,e⟩;cases e)];exact hR
    ·rw[if_neg c3,if_pos ⟨c2,by simpa using c3⟩];rw[um];exact⟨by have hd:=hR.dir;cases D <;> exact hd,⟨k,hg.dir,hg.dok,rfl,hg.tn,by show(P.tgts.set _ _).length=_;rw[qJ];exact hg.tl,hg.tb,hg.h0,hg.h1⟩,hR.h,hR.m,hR.st,hR.tp⟩
   ·rw[if_neg c2,self,if_neg (λ e=>c2 e.1)];exact hR
 ·rw[if_pos (by simpa using hw),if_neg hw,if_neg hw,self];exact hR
theorem ade (h:(pm.pgA b S D).at_ W) (hR:PrR P S D) (hP:P.Ok) (hT:Tabs TB W) (hlo:∀ k,(pm.pgA b S D).own k->TB≤k) (mh mt mv:Int){pc:Int} (hp:U32 pc) (i:Ins) (t:Bool){to:Int} (ht:U32 to) :
  Calls prog 97 #[pZ b 0,.agg (zb mh mt mv),.int .u32 pc,.agg i.vs,.bool t,.int .u32 to] W λ e w=>∃ z:{ z:pm.PS×pm.Dir // PrR (P.learn mh mt pc i t to) z.1 z.2 },e=eY #[]/\Sep.Post (pm.pgA b S D) W (pm.pgA b z.1.1 z.1.2) w:=by
 obtain⟨p,rfl⟩:∃ p:Nat,pc=p:=⟨pc.toNat,by have:=hp.1;omega⟩
 have hp2:p<4294967296:=by have:=hp.2;omega
 obtain⟨k,hg⟩:=hR.pg;refine(pm.learnG h hg hT hlo mh mt mv (by rw[hR.m];exact hP.hist_u.2) p hp2 (Kb i) t to).mono ?_;rintro e w ⟨rfl,hw⟩;exact⟨⟨(S.tgts (S.learnT P.tgts mh mt p (Kb i) to),S.learnD D mh mt p (Kb i) t),hR.learn hP mh mt p hp2 i t ht⟩,rfl,hw⟩
variable (C:cbus.CS) (S:cbus.PB)
theorem Ml (i j:Nat):cNorm (C.touched i j)=(cNorm C).touched i j:=by
 show cNorm (match (C.set_ i)[j]? with | some y=>C.tick.put i j { y with used:=C.clock+1 } | none=>C)=(match (C.set_ i)[j]? with | some y=>(cNorm C).tick.put i j { y with used:=C.clock+1 } | none=>cNorm C);cases (C.set_ i)[j]? <;> rfl
theorem Wq (a:Nat) (sz:Int) (d j:Nat):cNorm (C.wrote a sz d j)=(cNorm C).wrote a sz d j:=by
 show cNorm (match (C.set_ (C.ix a))[j]? with | some y=>C.tick.put (C.ix a) j { y with used:=C.clock+1,state:=3,bytes:=cbus.wrN y.bytes (a % 16) d sz.toNat } | none=>C)=(match (C.set_ (C.ix a))[j]? with | some y=>(cNorm C).tick.put (C.ix a) j { y with used:=C.clock+1,state:=3,bytes:=cbus.wrN y.bytes (a % 16) d sz.toNat } | none=>cNorm C);cases (C.set_ (C.ix a))[j]? <;> rfl
theorem Wr (a:Nat) (sz:Int):cNorm (C.readN a sz)=(cNorm C).readN a sz:=by
 show cNorm (match C.hit a sz 1 with | some j=>C.touched (C.ix a) j | none=>C)=(match C.hit a sz 1 with | some j=>(cNorm C).touched (C.ix a) j | none=>cNorm C)
 cases C.hit a sz 1 with
 | none=>rfl
 | some j=>exact Ml C _ j
theorem Ru (a:Nat) (sz:Int) (d:Nat):cNorm (C.writeN a sz d)=(cNorm C).writeN a sz d:=by
 show cNorm (match C.hit a sz 2 with | some j=>C.wrote a sz d j | none=>C)=(match C.hit a sz 2 with | some j=>(cNorm C).wrote a sz d j | none=>cNorm C)
 cases C.hit a sz 2 with
 | none=>rfl
 | some j=>exact Wq C a sz d j
theorem Rv (a s:Nat):cNorm (C.lowN a s)=(cNorm C).lowN a s:=by
 show cNorm (match C.look a with | some j=>if s<C.stateAt a then C.lowered a j s else C | none=>C)=(match C.look a with | some j=>if s<C.stateAt a then (cNorm C).lowered a j s else cNorm C | none=>cNorm C)
 cases C.look a with
 | none=>rfl
 | some j =>
  dsimp only;split <;> rfl
theorem Rw (k:Nat):(bNorm S).C k=cNorm (S.C k):=by
 show(S.Cs.map cNorm).getD k cbus.noCS=cNorm (S.Cs.getD k cbus.noCS);rw[qF,qF,qS];cases S.Cs[k]? <;> rfl
theorem ig:(bNorm S).Cs.length=S.Cs.length:=qd ..
theorem jc (c:Int) (a:Nat):(bNorm S).within c a=S.within c a:=by
 unfold cbus.PB.within;rw[ig];rfl
theorem Ht (k:Nat) (C:cbus.CS):bNorm (S.setC k C)=(bNorm S).setC k (cNorm C):=by
 unfold bNorm cbus.PB.setC;dsimp only;rw[qtB]
theorem Ws (c:Int) (a:Nat) (sz:Int):(bNorm S).readT c a sz=S.readT c a sz:=by
 unfold cbus.PB.readT;rw[jc,Rw];rfl
theorem Wt (c:Int) (a:Nat) (sz:Int):(bNorm S).readV c a sz=S.readV c a sz:=by
 unfold cbus.PB.readV;rw[jc,Rw];rfl
theorem Wu (c:Int) (a:Nat) (sz:Int):bNorm (S.readN c a sz)=(bNorm S).readN c a sz:=by
 unfold cbus.PB.readN;rw[jc,Rw];split
 ·rw[Ht,Wr]
 ·rfl
theorem Rx (c:Int) (a:Nat) (sz:Int):(bNorm S).writeT c a sz=S.writeT c a sz:=by
 unfold cbus.PB.writeT;rw[jc,Rw];rfl
theorem Fi (c:Int) (a:Nat) (sz:Int) (d:Nat):bNorm (S.writeN c a sz d)=(bNorm S).writeN c a sz d:=by
 unfold cbus.PB.writeN;rw[jc,Rw];split
 ·rw[Ht,Ru]
 ·rfl
theorem Kd (c:Int) (a:Nat):(bNorm S).state c a=S.state c a:=by
 unfold cbus.PB.state;rw[jc,Rw];rfl
theorem adg (c:Int) (a:Nat) (w:Bool):bNorm (S.askN c a w)=(bNorm S).askN c a w:=by
 unfold cbus.PB.askN cbus.PB.askE;rw[jc,Kd]
 have key:∀ (E:Nat) (X Y:cbus.PB),bNorm (if E=0 then X else Y)=if E=0 then bNorm X else bNorm Y:=λ E X Y=>by split <;> rfl
 exact key _ (S.asked c a w) S
theorem Ry (k:Nat) (C:cbus.CS) (y:cbus.Way):bNorm (S.move k C y)=(bNorm S).move k (cNorm C) y:=by
 unfold cbus.PB.move;rw[<- Ht];rfl
def yi (X:cbus.LS):cbus.LS:={ X with S:=bNorm X.S }
theorem adh (c a:Nat) (w:Bool) (X:cbus.LS) (k:Nat):(yi X).step c a w k=yi (X.step c a w k):=by
 rw[cbus.step_def,cbus.step_def];have e:(yi X).S.C k=cNorm (X.S.C k):=Rw _ k;rw[e];have e1:(cNorm (X.S.C k)).stateAt a=(X.S.C k).stateAt a:=rfl;rw[e1];split
 ·rfl
 ·split
  ·unfold yi;dsimp only;rw[Ry,Rv];rfl
  ·rfl
theorem Yx (c a:Nat) (w:Bool):∀ k,cbus.LS.run c a w (bNorm S) k=yi (cbus.LS.run c a w S k)
 | 0=>rfl
 | k+1=>by
  show(cbus.LS.run c a w (bNorm S) k).step c a w k=yi ((cbus.LS.run c a w S k).step c a w k);rw[Yx c a w k,adh]
theorem Wv (a:Nat) (bs:LN) (s:Nat):cNorm (C.fillN a bs s)=(cNorm C).fillN a bs s:=by
 show cNorm (if (C.look a).isSome=true then C else C.filled a bs s)=(if (C.look a).isSome=true then cNorm C else (cNorm C).filled a bs s);split <;> rfl
theorem adi (c a:Nat) (w:Bool):(bNorm S).done c a w=yi (S.done c a w):=by
 unfold cbus.PB.done;rw[ig,Yx];generalize cbus.LS.run c a w S S.Cs.length=X;have e:(yi X).S.C c=cNorm (X.S.C c):=Rw _ c;dsimp only;rw[e,<- Rv];unfold yi;dsimp only;rw[Ry,Wv];rfl
theorem adj:(bNorm S).turn=bNorm S.turn:=by
 have e:(bNorm S).next=S.next:=by
  have e1:(bNorm S).turnAt=S.turnAt:=by
   funext k;unfold cbus.PB.turnAt;rw[ig];rfl
  unfold cbus.PB.next
  rw[e1,ig];rfl
 unfold cbus.PB.turn;rw[e];show(if S.now=none then _ else _)=bNorm (if S.now=none then _ else _);split <;> rfl
theorem adk:(bNorm S).tick=yi S.tick:=by
 unfold cbus.PB.tick;rw[adj];show(match S.turn.now with | none=>_ | some c=>_)=_
 cases S.turn.now with
 | none=>rfl
 | some c =>
  dsimp only;show(if 0<S.turn.left then _ else _)=_;split
  ·rfl
  ·show(match S.turn.asks c with | none=>_ | some x=>_)=_
   cases S.turn.asks c with
   | none=>rfl
   | some x =>
    dsimp only;show(bNorm (S.turn.taken c)).done c x.1 x.2=_;rw[adi]
theorem adl:(bNorm S).data=S.data:=by
 unfold cbus.PB.data cbus.PB.upto;rw[ig]
 have e:∀ j,((bNorm S).C j).ways=(S.C j).ways:=λ j=>by rw[Rw];rfl
 simp only[e];rfl
def ahc (S:cbus.PB):Prop:=∀ k,k<S.Cs.length->(S.C k).gs.length=(S.C k).S
variable {C S}
theorem Mm {m:Nat} (h:S.Ok m):ahc S:=λ k hk=>(h.cs k hk).ok.gl
theorem akw {m:Nat} (h:S.Ok m):(bNorm S).Ok m:=by
 refine⟨by rw[ig];exact h.n,λ k hk=>?_,h.l16,h.len,h.byte,h.cyc,λ k a w e=>?_,?_,λ k e=>?_,h.left⟩
 ·rw[ig] at hk;rw[Rw];have g:=h.cs k hk;exact⟨⟨g.ok.pow,by show(List.replicate (S.C k).S 0).length=_;rw[qi];rfl,g.ok.sl,g.ok.n0,g.ok.n1,g.ok.len,g.ok.way,g.ok.clk⟩,g.clk,g.line⟩
 ·rw[ig];exact h.asks k a w e
 ·rw[ig];exact h.last
 ·rw[ig];exact h.now k e
theorem Ww {m:Nat} (h:(bNorm S).Ok m) (hg:ahc S):S.Ok m:=by
 refine⟨by rw[<- ig S];exact h.n,λ k hk=>?_,h.l16,h.len,h.byte,h.cyc,λ k a w e=>?_,?_,λ k e=>?_,h.left⟩
 ·have g:=h.cs k (by rw[ig];exact hk);rw[Rw] at g;exact⟨⟨g.ok.pow,hg k hk,g.ok.sl,g.ok.n0,g.ok.n1,g.ok.len,g.ok.way,g.ok.clk⟩,g.clk,g.line⟩
 ·rw[<- ig S];exact h.asks k a w e
 ·rw[<- ig S];exact h.last
 ·rw[<- ig S];exact h.now k e
variable {C:Kc}{n m:Nat}{K:Ko}{i k:Nat}{c:Cf}
structure Cf.Whole (c:Cf):Prop where
 wd:1≤c.width/\c.width≤4
 wn:2≤c.window/\c.window≤64
 q:1≤c.queue/\c.queue≤32
 r:34≤c.regs/\c.regs≤128
 u:1≤c.units/\c.units≤4
 m:1≤c.mul/\c.mul≤10
 kind:0≤c.kind/\c.kind≤3
 bits:1≤c.bits/\c.bits≤10
 hist:0≤c.hist/\c.hist≤c.bits
 tgts:0≤c.tgts/\c.tgts≤8
 rets:1≤c.rets/\c.rets≤16
 sets:c.sets=1∨c.sets=2∨c.sets=4∨c.sets=8∨c.sets=16
 ways:1≤c.ways/\c.ways≤4
 bus:0≤c.bus/\c.bus≤10
def P0 (c:Cf):Prd:=⟨c.kind,if c.kind=2∨c.kind=3 then List.replicate (2 ^ c.bits.toNat) 1 else [],0,((2 ^ c.hist.toNat - 1:Nat):Int),List.replicate (2 ^ c.tgts.toNat) (0,0,false),List.replicate c.rets.toNat 0,0⟩
theorem akx (h:c.Whole):(P0 c).Ok:=by
 have h1:=h.kind;have h2:=h.bits;have h3:=h.hist;have h4:=h.tgts;have h5:=h.rets;have hp:1≤2 ^ c.hist.toNat:=Nat.one_le_two_pow;refine⟨by show 0<(List.replicate _ _).length;rw[qi];omega,by show(List.replicate _ _).length≤16;rw[qi];omega,Int.le_refl _,by show(0:Int)≤((2 ^ c.hist.toNat - 1:Nat):Int);omega,⟨c.hist.toNat,by omega,?_⟩,⟨c.tgts.toNat,by omega,qi ..⟩,λ v hv=>?_,λ x hx=>?_,h1,λ hk=>⟨c.bits.toNat,by omega,?_⟩,λ v hv=>?_⟩
 ·show((2 ^ c.hist.toNat - 1:Nat):Int)=2 ^ c.hist.toNat - 1;rw[Int.ofNat_sub hp];norm_cast
 ·rw[(qSB.1 hv).2];exact u0
 ·rw[(qSB.1 hx).2];exact⟨u0,u0⟩
 ·show(if c.kind=2∨c.kind=3 then List.replicate (2 ^ c.bits.toNat) (1:Int) else []).length=_;rw[if_pos (show c.kind=2∨c.kind=3 from hk),qi]
 ·have hv:v ∈ (if c.kind=2∨c.kind=3 then List.replicate (2 ^ c.bits.toNat) (1:Int) else []):=hv;split at hv
  ·rw[(qSB.1 hv).2];decide
  ·cases hv
theorem aou (h:c.Whole) (cb tb sb:Nat):PrR (P0 c) (pm.S0 (pm.D0 c.kind.toNat c.bits.toNat cb) c.hist.toNat c.tgts.toNat c.rets.toNat tb sb) (pm.D0 c.kind.toNat c.bits.toNat cb):=by
 have h1:=h.kind;have h2:=h.bits;have h3:=h.hist;have h4:=h.tgts;have h5:=h.rets
 have hk:c.kind=0∨c.kind=1∨c.kind=2∨c.kind=3:=by omega
 refine⟨?_,⟨c.tgts.toNat,rfl,?_,rfl,rfl,qi ..,by omega,Int.le_refl _,by show(0:Int)<4294967296;decide⟩,rfl,rfl,rfl,rfl⟩
 ·rcases hk with e | e | e | e
  ·have:pm.D0 c.kind.toNat c.bits.toNat cb= .fixed false:=by rw[e];rfl
   rw[this];exact⟨.inl e,by show false=decide (c.kind=1);rw[e];rfl⟩
  ·have:pm.D0 c.kind.toNat c.bits.toNat cb= .fixed true:=by rw[e];rfl
   rw[this];exact⟨.inr e,by show true=decide (c.kind=1);rw[e];rfl⟩
  ·have:pm.D0 c.kind.toNat c.bits.toNat cb= .tab false cb c.bits.toNat (List.replicate (2 ^ c.bits.toNat) 1):=by rw[e];rfl
   rw[this];exact⟨e,by show _=(if c.kind=2∨c.kind=3 then List.replicate (2 ^ c.bits.toNat) (1:Int) else []);rw[if_pos (.inl e)]⟩
  ·have:pm.D0 c.kind.toNat c.bits.toNat cb= .tab true cb c.bits.toNat (List.replicate (2 ^ c.bits.toNat) 1):=by rw[e];rfl
   rw[this];exact⟨e,by show _=(if c.kind=2∨c.kind=3 then List.replicate (2 ^ c.bits.toNat) (1:Int) else []);rw[if_pos (.inr e)]⟩
 ·have ho:∀ mix:Bool,(pm.Dir.tab mix cb c.bits.toNat (List.replicate (2 ^ c.bits.toNat) 1)).ok:=λ mix=>⟨by omega,qi ..,λ x hx=>by rw[(qSB.1 hx).2];decide⟩;rcases hk with e | e | e | e
  ·have:pm.D0 c.kind.toNat c.bits.toNat cb= .fixed false:=by rw[e];rfl
   rw[this];trivial
  ·have:pm.D0 c.kind.toNat c.bits.toNat cb= .fixed true:=by rw[e];rfl
   rw[this];trivial
  ·have:pm.D0 c.kind.toNat c.bits.toNat cb= .tab false cb c.bits.toNat (List.replicate (2 ^ c.bits.toNat) 1):=by rw[e];rfl
   rw[this];exact ho false
  ·have:pm.D0 c.kind.toNat c.bits.toNat cb= .tab true cb c.bits.toNat (List.replicate (2 ^ c.bits.toNat) 1):=by rw[e];rfl
   rw[this];exact ho true
def K0 (C:Kc) (B:cbus.PB):Ko :=
 { rdy:=List.replicate C.R true,nxt:=0,pc:=0,at_:=0,fls:=[],cycle:=0,line:=false,halted:=false,resv:=0,idle:=false,nm:=rm.Nm0 C.R C.R,q:=[],pr:=P0 C.c,rs:=⟨wr C.num,0,λ _=>none⟩,vals:=List.replicate C.R 0,evs:=[],out:=[],bus:=B,wr:=[] }
theorem Yy (hC:C.Ok) (hw:C.c.Whole){B:cbus.PB} (hB:B.Ok 0) (hn:C.num<B.Cs.length) (hl:(B.len:Int)=C.dlen):Inv C 0 [] (K0 C B):=by
 have hR:34≤C.R/\C.R≤128:=by have:=hC.r;unfold Kc.R;omega
 refine { cf:=hC,nm:=rm.nm0_ok hR,lk:=trivial,rl:=qi ..,rd:=λ p hp=>⟨λ h=>?_,λ ⟨f,hf,_⟩=>(by cases hf)⟩,vl:=qi ..,vu:=λ v hv=>?_,fo:=λ f hf=>(by cases hf),gd:=λ f hf=>(by cases hf),sq:=List.Pairwise.nil,sb:=λ f hf=>(by cases hf),wn:=qQ _,qo:=⟨qQ _,λ e he=>(by cases he),List.Pairwise.nil,λ e he=>(by cases he),λ e he=>(by cases he),λ e he=>(by cases he),λ f hf=>(by cases hf)⟩,rs:=⟨zz _,u0,λ n v e=>(by cases e),λ n v e=>(by cases e)⟩,pr:=akx hw,pc:=u0,at_:=u0,rv:=u0,bu:=hB,bn:=hn,bl:=hl,ev:=qY _,ou:=qY _,wr:=qY _,nx:=qY _,cy:=⟨Int.le_refl _,by show(0:Int)≤1000000;decide⟩ }
 ·have h:(List.replicate C.R true).getD p.toNat false=false:=h;rw[qF,qEC,if_pos (by have:=hp.1;have:=hp.2;omega)] at h;cases h
 ·rw[(qSB.1 hv).2];exact u0
def Ko.cyc (C:Kc) (ls:LI) (K:Ko) (t:Int):Ko:=({ K with bus:=K.bus.tick.S }:Ko).turn C t ls K.bus.tick.out
theorem Inv.tick (h:Inv C n [] K) (hn:n+1≤1000000000000):Inv C (n+1) [] { K with bus:=K.bus.tick.S }:=by
 obtain⟨h1,h2,h3,h4⟩:=cbus.tick_ok' h.bu (by omega);exact(h.up (Nat.le_succ n)).bus h1 h2 h3
theorem Inv.tock (h:Inv C n [] K){t:Int} (ht:0≤t/\t≤1000000) (ls:LI):Inv C n [] (K.tock t ls):={ h with cy:=ht }
theorem Inv.cyc (h:Inv C n [] K) (hn:n+7000≤1000000000000){t:Int} (ht:0≤t/\t≤1000000) (ls:LI):Inv C (n+6100) [] (K.cyc C ls t) :=
 ((((h.tick (by omega)).tock ht ls).snoop K.bus.tick.out).step (by omega)).up (by omega)
def Ko.run (C:Kc) (ls:LI):Nat->Ko->Nat->Ko×Nat×Bool
 | 0,K,t=>(K,t,false)
 | n+1,K,t=>if (K.cyc C ls t).ended=true then (K.cyc C ls t,t+1,true) else Ko.run C ls n (K.cyc C ls t) (t+1)
end Go.Proofs.YtmncepdbglaphaaGreatDoor.ko
