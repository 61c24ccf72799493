/- A part of the walk. No condition. -/
import Derived.Test.YtmncepdbglaphaaGreatDoorPmVc
set_option linter.unusedVariables false
set_option maxRecDepth 100000
namespace Go.Proofs.YtmncepdbglaphaaGreatDoor.pm
open Go.RowKit Go.XHeap Go.Sx Go.Sep Go.Proofs.Tryz
variable {TB:Nat}
def u32s (l:LI):LV:=l.map (.int .u32)
theorem Cq (l:LI):(u32s l).length=l.length:=by simp [u32s]
def nh1 (h:Int):Int:=IntKind.wrap .i64 (h * 2 ^ min 1 (IntKind.bits .i64))
def nh2 (h:Int):Int:=IntKind.wrap .i64 ((bZ .i64 h |||bZ .i64 1).toNat:Int)
def nh3 (h m:Int):Int:=IntKind.wrap .i64 ((bZ .i64 h &&&bZ .i64 m).toNat:Int)
def nh (h m:Int) (taken:Bool):Int:=nh3 (if taken then nh2 (nh1 h) else nh1 h) m
theorem within_any (W:wD) (n lo hi:Int):Calls prog 33 #[.int .i64 n,.int .i64 lo,.int .i64 hi] W λ e w=>e=eZ (.bool (decide (n ≥ lo)&&decide (n≤hi)))/\w=W:=by
 refine aop n lo hi (aa (λ q=>⟨by rw[q];rfl,rfl⟩) (λ q=>⟨by rw[q];rfl,rfl⟩))
structure PS where
 dir:Value
 hist:Int
 mask:Int
 tb:Nat
 tn:Nat
 tcap:Nat
 tc:AV
 sb:Nat
 scap:Nat
 stack:LI
 top:Nat
def PS.own (b:Nat) (S:PS) (k:Nat):Prop:=k=b∨k=S.tb∨k=S.sb
structure PredAt (w:wD) (b:Nat) (S:PS):Prop where
 root:Blk w b #[S.dir,.int .i64 S.hist,.int .i64 S.mask,.slice (some ⟨S.tb,0,none⟩) S.tn S.tcap,.slice (some ⟨S.sb,0,none⟩) S.stack.length S.scap,.int .i64 S.top] 133
 tgt:Blk w S.tb S.tc 269
 stk:Blk w S.sb (u32s S.stack).toArray 47
 d1:b≠S.tb
 d2:b≠S.sb
 d3:S.tb≠S.sb
 tlt:S.top<S.stack.length
 slen:S.stack.length≤16
theorem PredAt.keep {w w':wD}{b:Nat}{S:PS}{T:Nat->Prop} (h:PredAt w b S) (ht:XTouch T w w') (hn:∀ k,S.own b k->¬ T k):PredAt w' b S :=
 ⟨h.root.keep ht (hn _ (.inl rfl)),h.tgt.keep ht (hn _ (.inr (.inl rfl))),h.stk.keep ht (hn _ (.inr (.inr rfl))),h.d1,h.d2,h.d3,h.tlt,h.slen⟩
theorem PredAt.lt {w:wD}{b:Nat}{S:PS} (h:PredAt w b S):∀ k,S.own b k->k<w.heap.size:=by
 rintro k (rfl | rfl | rfl)
 ·exact h.root.lt
 ·exact h.tgt.lt
 ·exact h.stk.lt
theorem PredAt.drew {w:wD}{b:Nat}{S:PS} (h:PredAt w b S):PredAt w.drew b S:=h.keep ((qH (λ _=>False) w).drew) (λ _ _ e=>e)
theorem PredAt.setHist {w:wD}{b:Nat}{S:PS} (h:PredAt w b S) (v:Int):PredAt (w.setCell ⟨b,1,none⟩ (.int .i64 v)) b { S with hist:=v }:=by
 have ht:=(qH (λ k=>k=b) w).setCell (p:=⟨b,1,none⟩) (.inl rfl) (.int .i64 v);exact⟨h.root.set 1 (.int .i64 v),h.tgt.keep ht (λ e=>h.d1 e.symm),h.stk.keep ht (λ e=>h.d2 e.symm),h.d1,h.d2,h.d3,h.tlt,h.slen⟩
theorem PredAt.setTop {w:wD}{b:Nat}{S:PS} (h:PredAt w b S) (v:Nat) (hv:v<S.stack.length):PredAt (w.setCell ⟨b,5,none⟩ (.int .i64 v)) b { S with top:=v }:=by
 have ht:=(qH (λ k=>k=b) w).setCell (p:=⟨b,5,none⟩) (.inl rfl) (.int .i64 v);exact⟨h.root.set 5 (.int .i64 v),h.tgt.keep ht (λ e=>h.d1 e.symm),h.stk.keep ht (λ e=>h.d2 e.symm),h.d1,h.d2,h.d3,hv,h.slen⟩
theorem PredAt.setStack {w:wD}{b:Nat}{S:PS} (h:PredAt w b S) (i:Nat) (v:Int):PredAt (w.setCell ⟨S.sb,i,none⟩ (.int .u32 v)) b { S with stack:=S.stack.set i v }:=by
 have ht:=(qH (λ k=>k=S.sb) w).setCell (p:=⟨S.sb,i,none⟩) (.inl rfl) (.int .u32 v)
 have e:(u32s S.stack).toArray.setIfInBounds i (.int .u32 v)=(u32s (S.stack.set i v)).toArray:=by
  apply qLB.1;simp [u32s,qtB]
 have e2:(S.stack.set i v).length=S.stack.length:=by simp
 refine⟨?_,h.tgt.keep ht h.d3,?_,h.d1,h.d2,h.d3,by show S.top<(S.stack.set i v).length;rw[e2];exact h.tlt,by show(S.stack.set i v).length≤16;rw[e2];exact h.slen⟩
 ·rw[e2];exact h.root.keep ht h.d2
 ·have:=h.stk.set i (.int .u32 v);rw[e] at this;exact this
structure In where
 op:Int
 rd:Int
 rs1:Int
 x:Int
 imm:Int
def In.cells (i:In):AV:=#[.int .i64 i.op,.int .i64 i.rd,.int .i64 i.rs1,.int .i64 i.x,.int .i64 i.imm]
def In.rets (i:In):Bool:=i.op==4&&(i.rs1==1&&i.rd==0)
def In.calls (i:In):Bool:=av i.op==3&&i.rd==1
theorem ra (W:wD) (i:In):Calls prog 131 #[.agg i.cells] W λ e w=>e=eZ (.bool i.rets)/\XTouch (λ _=>False) W w:=by
 refine akk i.cells ?_;rintro k w2 rfl rfl;have hb:Blk (W.alloc (.cells i.cells 157)) W.heap.size i.cells 157:=Blk.new W _ _;have ht:XTouch (λ _=>False) W (W.alloc (.cells i.cells 157)):=(qH _ W).alloc _;have ez:(i.op==4)=(i.op==4):=rfl;refine⟨i.op,hb.cell' rfl,aa (λ q=>?_) (λ q=>⟨by unfold In.rets;rw[<- ez,q];rfl,ht⟩)⟩;refine⟨i.rs1,hb.cell' rfl,aa (λ q2=>?_) (λ q2=>⟨by unfold In.rets;rw[<- ez,q,q2];rfl,ht⟩)⟩;exact⟨i.rd,hb.cell' rfl,by unfold In.rets;rw[<- ez,q,q2];rfl,ht⟩
theorem Rk {W:wD} (hT:Tabs TB W) (i:In):Calls prog 132 #[.agg i.cells] W λ e w=>e=eZ (.bool i.calls)/\XTouch (λ _=>False) W w:=by
 refine akl i.cells ?_;rintro k w2 rfl rfl;have hb:Blk (W.alloc (.cells i.cells 157)) W.heap.size i.cells 157:=Blk.new W _ _;have ht:XTouch (λ _=>False) W (W.alloc (.cells i.cells 157)):=(qH _ W).alloc _;refine⟨i.op,hb.cell' rfl,(mm (hT.keep ht (λ _ e=>e.elim)) i.op).mono ?_⟩;rintro e w3 ⟨rfl,ht3⟩;have hT3:=ht.trans ht3 (λ _ _ e=>e);refine⟨_,rfl,aa (λ q=>⟨i.rd,(hb.keep ht3 (λ e=>e)).cell' rfl,by unfold In.calls;rw[q];rfl,hT3⟩) (λ q=>⟨by unfold In.calls;rw[q];rfl,hT3⟩)⟩
theorem gu {n lo hi:Int} (h1:lo≤n) (h2:n≤hi):(decide (n ≥ lo)&&decide (n≤hi))=true:=by simp;omega
def PS.on (S:PS) (pc:Int) (i:In) (taken:Bool):PS :=
 if av i.op=2 then { S with hist:=nh S.hist S.mask taken }
 else if i.rets then { S with top:=(S.top+S.stack.length - 1) % S.stack.length }
 else if i.calls then { S with top:=(S.top+1) % S.stack.length,stack:=S.stack.set ((S.top+1) % S.stack.length) (IntKind.wrap .u32 (pc+4)) }
 else S
theorem Jv {W:wD}{b:Nat}{S:PS} (h:PredAt W b S) (hT:Tabs TB W) (hlo:∀ k,S.own b k->TB≤k) (pc:Int) (i:In) (taken:Bool) :
  Calls prog 87 #[pZ b 0,.int .u32 pc,.agg i.cells,.bool taken] W λ e w=>e=eY #[]/\PredAt w b (S.on pc i taken)/\XTouch (S.own b) W w:=by
 have hlen:=h.slen;have htl:=h.tlt;refine aor b 0 pc i.cells taken ?_;rintro k w2 rfl rfl;have hb:Blk (W.alloc (.cells i.cells 157)) W.heap.size i.cells 157:=Blk.new W _ _;have ht:XTouch (λ _=>False) W (W.alloc (.cells i.cells 157)):=(qH _ W).alloc _;have hp:=h.keep ht (λ _ _ e=>e);have hT2:=hT.keep ht (λ _ e=>e.elim);refine⟨_,_,_,hp.root.cell' rfl,i.op,hb.cell' rfl,(mm hT2 i.op).mono ?_⟩;rintro e w3 ⟨rfl,ht3⟩;have hp3:=hp.keep ht3 (λ _ _ e=>e);have hT3:=hT2.keep ht3 (λ _ e=>e.elim);have hb3:=hb.keep ht3 (λ e=>e);have hX3:XTouch (S.own b) W w3:=(ht.trans ht3 (λ _ _ e=>e)).mono (λ _ _ e=>e.elim);refine⟨_,rfl,aa (λ q=>?_) (λ q=>?_)⟩
 ·have q:av i.op=2:=by simpa using q
  have eon:S.on pc i taken={ S with hist:=nh S.hist S.mask taken }:=by unfold PS.on;rw[if_pos q]
  rw[eon];refine⟨S.hist,hp3.root.cell' rfl,by decide,?_⟩;rintro z4 rfl;refine⟨⟨_,hp3.root.cell' rfl⟩,hp3.root.frozen _,?_⟩;rintro w4 rfl;have hp4:=hp3.setHist (nh1 S.hist);have hX4:=hX3.setCell (p:=⟨b,1,none⟩) (.inl (.inl rfl)) (.int .i64 (nh1 S.hist));refine aa (λ q=>?_) (λ q=>?_)
  ·subst q;refine⟨nh1 S.hist,hp4.root.cell' rfl,?_⟩;rintro z6 rfl;refine⟨⟨_,hp4.root.cell' rfl⟩,hp4.root.frozen _,?_⟩;rintro w5 rfl w6 rfl;have hp5:=(hp4.setHist (nh2 (nh1 S.hist))).drew;have hX5:=(hX4.setCell (p:=⟨b,1,none⟩) (.inl (.inl rfl)) (.int .i64 (nh2 (nh1 S.hist)))).drew;refine⟨nh2 (nh1 S.hist),hp5.root.cell' rfl,S.mask,hp5.root.cell' rfl,?_⟩;rintro z9 rfl;refine⟨⟨_,hp5.root.cell' rfl⟩,hp5.root.frozen _,?_⟩;rintro w7 rfl;exact⟨rfl,hp5.setHist _,hX5.setCell (p:=⟨b,1,none⟩) (.inl (.inl rfl)) _⟩
  ·subst q;rintro w8 rfl;have hp5:=hp4.drew;have hX5:=hX4.drew;refine⟨nh1 S.hist,hp5.root.cell' rfl,S.mask,hp5.root.cell' rfl,?_⟩;rintro z9 rfl;refine⟨⟨_,hp5.root.cell' rfl⟩,hp5.root.frozen _,?_⟩;rintro w7 rfl;exact⟨rfl,hp5.setHist _,hX5.setCell (p:=⟨b,1,none⟩) (.inl (.inl rfl)) _⟩
 ·have q:¬ av i.op=2:=by simpa using q
  refine⟨i.cells,rfl,fv hb3,(ra w3 i).mono ?_⟩;rintro e w10 ⟨rfl,ht10⟩;have hp10:=hp3.keep ht10 (λ _ _ e=>e);have hT10:=hT3.keep ht10 (λ _ e=>e.elim);have hb10:=hb3.keep ht10 (λ e=>e);have hX10:XTouch (S.own b) W w10:=hX3.trans ht10 (λ _ _ e=>e.elim);refine⟨_,rfl,aa (λ q2=>?_) (λ q2=>?_)⟩
  ·have eon:S.on pc i taken={ S with top:=(S.top+S.stack.length - 1) % S.stack.length }:=by unfold PS.on;rw[if_neg q,if_pos q2]
   rw[eon];refine⟨S.top,hp10.root.cell' rfl,?_⟩;rintro z14 rfl z15 rfl;rw[w64 (e:=(S.top:Int)+S.stack.length) (by omega) (by omega),w64 (by omega) (by omega)];refine⟨by omega,?_⟩;rintro z16 hz16
   have ez:z16=(((S.top+S.stack.length - 1) % S.stack.length:Nat):Int):=by
    rw[hz16,show(S.top:Int)+S.stack.length - 1=((S.top+S.stack.length - 1:Nat):Int) by omega];rw[Int.tmod_eq_emod_of_nonneg (by omega)];rfl
   subst ez;refine⟨⟨_,hp10.root.cell' rfl⟩,hp10.root.frozen _,?_⟩;rintro w11 rfl;exact⟨rfl,hp10.setTop _ (qIB _ (by omega)),hX10.setCell (p:=⟨b,5,none⟩) (.inl (.inl rfl)) _⟩
  ·refine⟨i.cells,rfl,fv hb10,(Rk hT10 i).mono ?_⟩;rintro e w12 ⟨rfl,ht12⟩;have hp12:=hp10.keep ht12 (λ _ _ e=>e);have hX12:XTouch (S.own b) W w12:=hX10.trans ht12 (λ _ _ e=>e.elim);refine⟨_,rfl,aa (λ q3=>?_) (λ q3=>?_)⟩
   ·have eon:S.on pc i taken={ S with top:=(S.top+1) % S.stack.length,stack:=S.stack.set ((S.top+1) % S.stack.length) (IntKind.wrap .u32 (pc+4)) }:=by unfold PS.on;rw[if_neg q,if_neg (by rw[q2];decide),if_pos q3]
    rw[eon];refine⟨S.top,hp12.root.cell' rfl,?_⟩;rintro z18 rfl;rw[w64 (by omega) (by omega)];refine⟨by omega,?_⟩;rintro z19 hz19
    have ez:z19=(((S.top+1) % S.stack.length:Nat):Int):=by
     rw[hz19,show(S.top:Int)+1=((S.top+1:Nat):Int) by omega];rw[Int.tmod_eq_emod_of_nonneg (by omega)];rfl
    subst ez;have hm:=qIB (S.top+1) (show 0<S.stack.length by omega);refine⟨⟨_,hp12.root.cell' rfl⟩,hp12.root.frozen _,?_⟩;rintro w13 rfl w14 rfl;have hp14:=(hp12.setTop _ hm).drew;have hX14:=(hX12.setCell (p:=⟨b,5,none⟩) (.inl (.inl rfl)) (.int .i64 (((S.top+1) % S.stack.length:Nat):Int))).drew;refine⟨_,_,_,hp14.root.cell' rfl,_,hp14.root.cell' rfl,?_⟩;rintro z21 rfl;refine⟨⟨Int.natCast_nonneg _,Int.ofNat_lt.2 hm⟩,?_⟩;generalize (S.top+1) % S.stack.length=m at hm hp14 hX14;show(∃ v,World.cell? _ ⟨S.sb,0+((m:Nat):Int).toNat * 1,none⟩=some v)/\World.frozen? _ ⟨S.sb,0+((m:Nat):Int).toNat * 1,none⟩=false/\_;rw[show 0+((m:Nat):Int).toNat * 1=m by omega];refine⟨?_,hp14.stk.frozen _,?_⟩
    ·rw[hp14.stk.cell];exact⟨_,qh (by simp [Cq];exact hm)⟩
    rintro w15 rfl;exact⟨rfl,hp14.setStack m _,hX14.setCell (p:=⟨S.sb,m,none⟩) (.inl (.inr (.inr rfl))) _⟩
   ·have eon:S.on pc i taken=S:=by unfold PS.on;rw[if_neg q,if_neg (by rw[q2];decide),if_neg (by rw[q3];decide)]
    rw[eon];exact⟨rfl,hp12,hX12⟩
def PS.mark (S:PS):AV:=#[.int .i64 S.hist,.int .i64 S.top,.int .u32 (S.stack.getD S.top 0)]
def akv:AV:=#[.int .i64 0,.int .i64 0,.int .u32 0]
theorem Jw (S:PS):∀ v ∈ S.mark.toList,v.oneCell'=true:=by
 intro v hv;simp only[PS.mark,qp,qFB,or_false] at hv;rcases hv with rfl | rfl | rfl <;> rfl
theorem Ys (S:PS) (pc:Int) (i:In) (t:Bool) (b q:Nat):(S.on pc i t).own b q↔S.own b q:=by
 unfold PS.on;split
 ·exact Iff.rfl
 ·split
  ·exact Iff.rfl
  ·split
   ·exact Iff.rfl
   ·exact Iff.rfl
def ly (mh:Int) (mt:Nat) (mv:Int):AV:=#[.int .i64 mh,.int .i64 mt,.int .u32 mv]
theorem Rl {W:wD}{b:Nat}{S:PS} (h:PredAt W b S) (mh:Int) (mt:Nat) (mv:Int) (h1:0≤mh) (h2:mh≤S.mask) (h3:mt<S.stack.length) :
  Calls prog 86 #[pZ b 0,.agg (ly mh mt mv)] W λ e w=>e=eZ (.bool true)/\XTouch (λ _=>False) W w:=by
 have hlen:=h.slen;refine ami b 0 _ ?_;rintro k w2 rfl rfl;have hb:Blk (W.alloc (.cells (ly mh mt mv) 160)) W.heap.size (ly mh mt mv) 160:=Blk.new W _ _;have ht:XTouch (λ _=>False) W (W.alloc (.cells (ly mh mt mv) 160)):=(qH _ W).alloc _;have hp:=h.keep ht (λ _ _ e=>e);refine⟨mh,hb.cell' rfl,S.mask,hp.root.cell' rfl,true,λ k2=>(within_any _ mh 0 S.mask).mono ?_,?_⟩
 ·rintro e w ⟨rfl,rfl⟩;exact⟨by rw[gu h1 h2],k2,rfl⟩
 refine aa (λ _=>?_) (λ q=>by cases q);refine⟨mt,hb.cell' rfl,_,_,_,hp.root.cell' rfl,?_⟩;rintro z4 hz4;rw[w64 (by omega) (by omega)] at hz4;subst hz4;refine⟨true,λ k6=>(within_any _ mt 0 _).mono ?_,?_⟩
 ·rintro e w ⟨rfl,rfl⟩;exact⟨by rw[gu (by omega) (by omega)],k6,rfl⟩
 rintro w5 k8 rfl;exact⟨rfl,ht.drewN k8⟩
def PS.back (S:PS) (mh:Int) (mt:Nat) (mv:Int):PS:={ S with hist:=mh,top:=mt,stack:=S.stack.set mt mv }
theorem Hr {W:wD}{b:Nat}{S:PS} (h:PredAt W b S) (hT:Tabs TB W) (hlo:∀ k,S.own b k->TB≤k) (mh:Int) (mt:Nat) (mv:Int) (h1:0≤mh) (h2:mh≤S.mask) (h3:mt<S.stack.length) (pc:Int) (i:In) (taken:Bool) :
  Calls prog 58 #[pZ b 0,.agg (ly mh mt mv),.int .u32 pc,.agg i.cells,.bool taken] W λ e w=>e=eY #[]/\PredAt w b ((S.back mh mt mv).on pc i taken)/\XTouch (S.own b) W w:=by
 have hlen:=h.slen;have hown:=h.lt;refine amh b 0 _ pc i.cells taken ?_;rintro k w2 rfl rfl k2 w3 rfl rfl;have hm:Blk ((W.alloc (.cells (ly mh mt mv) 160)).alloc (.cells i.cells 157)) W.heap.size (ly mh mt mv) 160:=(Blk.new W _ _).alloc _
 have hs:(W.alloc (.cells (ly mh mt mv) 160)).heap.size=W.heap.size+1:=by simp
 have hi:Blk ((W.alloc (.cells (ly mh mt mv) 160)).alloc (.cells i.cells 157)) (W.heap.size+1) i.cells 157:=by
  have:=Blk.new (W.alloc (.cells (ly mh mt mv) 160)) i.cells 157;rw[hs] at this;exact this
 have ht:XTouch (λ _=>False) W ((W.alloc (.cells (ly mh mt mv) 160)).alloc (.cells i.cells 157)):=((qH _ W).alloc _).alloc _;have es:(W.alloc (.cells (Value.agg (ly mh mt mv)).cells 160)).heap.size=W.heap.size+1:=hs;have ew:(W.alloc (.cells (Value.agg (ly mh mt mv)).cells 160)).alloc (.cells (Value.agg i.cells).cells 157)=(W.alloc (.cells (ly mh mt mv) 160)).alloc (.cells i.cells 157):=rfl;rw[es,ew];generalize (W.alloc (.cells (ly mh mt mv) 160)).alloc (.cells i.cells 157)=w3 at hm hi ht;clear es ew hs;have hp3:=h.keep ht (λ _ _ e=>e);refine⟨ly mh mt mv,rfl,fv hm,(Rl hp3 mh mt mv h1 h2 h3).mono ?_⟩;rintro e w4 ⟨rfl,ht4⟩;refine⟨true,rfl,aa (λ q=>by cases q) (λ _=>?_)⟩;rintro w5 rfl;have hX:XTouch (λ _=>False) W w4.drew:=(ht.trans ht4 (λ _ _ e=>e)).drew;have hm5:=(hm.keep ht4 (λ e=>e)).drew;have hi5:=(hi.keep ht4 (λ e=>e)).drew;have hp5:=h.keep hX (λ _ _ e=>e);have hT5:=hT.keep hX (λ _ e=>e.elim);generalize w4.drew=w5 at hX hm5 hi5 hp5 hT5;refine⟨mh,hm5.cell' rfl,?_⟩
 have nn:∀ q,W.heap.size≤q->¬ S.own b q:=λ q hq e=>by have:=hown _ e;omega
 have hp6:=hp5.setHist mh;have hX6:=(qH (S.own b) w5).setCell (p:=⟨b,1,none⟩) (.inl (.inl rfl)) (.int .i64 mh);have hp7:=(hp6.setTop mt h3);have hX7:=(hX6.setCell (p:=⟨b,5,none⟩) (.inl (.inl rfl)) (.int .i64 mt)).drew;have hm6:=hm5.keep hX6 (nn _ (by omega));have hp8:=hp7.drew;have hm8:=hm5.keep hX7 (nn _ (by omega));have hi8:=hi5.keep hX7 (nn _ (by omega));have hp9:=hp8.setStack mt mv;have hX9:=hX7.setCell (p:=⟨S.sb,mt,none⟩) (.inl (.inr (.inr rfl))) (.int .u32 mv);have hi9:=hi5.keep hX9 (nn _ (by omega));have hT9:=hT5.keep hX9 hlo;have last:=Jv hp9 hT9 hlo pc i taken;refine⟨⟨mt,hm5.cell' rfl,Below.refl _ _,⟨_,hp5.root.cell' rfl⟩,hp5.root.frozen _,?_⟩,⟨_,hp5.root.cell' rfl⟩,hp5.root.frozen _,?_⟩
 ·rintro w6 rfl;refine⟨⟨_,hp6.root.cell' rfl⟩,hp6.root.frozen _,?_⟩;rintro w7 rfl w8 rfl;refine⟨_,_,_,hp8.root.cell' rfl,mt,hp8.root.cell' rfl,mv,hm8.cell' rfl,⟨by omega,Int.ofNat_lt.2 h3⟩,?_⟩;show(∃ v,World.cell? _ ⟨S.sb,0+((mt:Nat):Int).toNat * 1,none⟩=some v)/\World.frozen? _ ⟨S.sb,0+((mt:Nat):Int).toNat * 1,none⟩=false/\_;rw[show 0+((mt:Nat):Int).toNat * 1=mt by omega];refine⟨?_,hp8.stk.frozen _,?_⟩
  ·rw[hp8.stk.cell];exact⟨_,qh (by simp [Cq];exact h3)⟩
  rintro w9 rfl;refine⟨i.cells,rfl,fv hi9,last.mono ?_⟩;rintro e w10 ⟨rfl,hp10,ht10⟩;exact⟨rfl,rfl,hp10,(hX.mono (λ _ _ e=>e.elim)).trans (hX9.trans ht10 (λ _ _ e=>e)) (λ _ _ e=>e)⟩
 ·rintro w6 rfl;refine⟨mt,hm6.cell' rfl,⟨_,hp6.root.cell' rfl⟩,hp6.root.frozen _,?_⟩;rintro w7 rfl w8 rfl;refine⟨_,_,_,hp8.root.cell' rfl,mt,hp8.root.cell' rfl,mv,hm8.cell' rfl,⟨by omega,Int.ofNat_lt.2 h3⟩,?_⟩;show(∃ v,World.cell? _ ⟨S.sb,0+((mt:Nat):Int).toNat * 1,none⟩=some v)/\World.frozen? _ ⟨S.sb,0+((mt:Nat):Int).toNat * 1,none⟩=false/\_;rw[show 0+((mt:Nat):Int).toNat * 1=mt by omega];refine⟨?_,hp8.stk.frozen _,?_⟩
  ·rw[hp8.stk.cell];exact⟨_,qh (by simp [Cq];exact h3)⟩
  rintro w9 rfl;refine⟨i.cells,rfl,fv hi9,last.mono ?_⟩;rintro e w10 ⟨rfl,hp10,ht10⟩;exact⟨rfl,rfl,hp10,(hX.mono (λ _ _ e=>e.elim)).trans (hX9.trans ht10 (λ _ _ e=>e)) (λ _ _ e=>e)⟩
theorem Rm (W:wD) (cb b c pc:Nat) (hb:b≤62) (hp:pc<4294967296) :
  Calls prog 242 #[.slice (some ⟨cb,0,none⟩) (2 ^ b) c,.int .u32 pc] W λ e w=>e=eZ (.pointer (some ⟨cb,pc / 4 % 2 ^ b,none⟩))/\w=W:=by
 refine ako _ _ _ _ ⟨by decide,?_⟩;rintro z rfl z2 rfl z3 rfl z4 rfl;have e1:Int.fdiv (pc:Int) (2 ^ min 2 (IntKind.bits .u32))=((pc / 4:Nat):Int):=Bits.shr pc 2;have hpow:2 ^ b≤2 ^ 62:=qX (by decide) hb;have hpos:=qMB b;rw[e1,Bits.n64 (x:=pc / 4) (by omega),w64 (e:=((2 ^ b:Nat):Int) - 1) (by omega) (by omega),Bits.mask64 (by omega) hb];have hlt:=qIB (pc / 4) (qMB b);refine⟨⟨by omega,by omega⟩,adr_some ?_⟩;rw[ix1,qW];exact⟨rfl,rfl⟩
theorem Mj (W:wD) (c:Int):Calls prog 243 #[.int .u8 c] W λ e w=>e=eZ (.bool (decide (c > 1)))/\w=W:=akm c ⟨rfl,rfl⟩
theorem Yt (W:wD) (cb b c pc:Nat) (hb:b≤62) (hp:pc<4294967296) (l:LI) (hl:l.length=2 ^ b) (hB:Blk W cb (gn .u8 l) 172) (cs:AV) (hi:Int) :
  Calls prog 240 #[.slice (some ⟨cb,0,none⟩) (2 ^ b) c,.int .u32 pc,.agg cs,.int .i64 hi] W λ e w=>e=eZ (.bool (decide (l.getD (pc / 4 % 2 ^ b) 0 > 1)))/\ba W w:=by
 refine akp _ _ _ _ _ _ ((St.nil W).al λ k w2 H=>?_);refine H.callp (Rm _ cb b c pc hb hp) ⟨_,rfl,ptr_some ?_⟩;refine⟨_,(hB.keep H.touch (λ e=>e)).cell' (mi (getD_at ?_)),H.callp (Mj _ _) ⟨_,rfl,rfl,H.touch⟩⟩;rw[hl];exact qIB _ (qMB b)
def bump (n:Int) (t:Bool):Int:=if t&&decide (n<3) then n+1 else if !t&&decide (n > 0) then n - 1 else n
theorem set_self {l:LI}{i:Nat}{n:Int} (h:l[i]?=some n):l.set i n=l:=by
 apply qEB;intro j;rw[qn];split
 ·rename_i e;subst e;rw[h];simp [(qD.1 h).1]
 ·rfl
theorem agv {W:wD}{cb i:Nat}{l:LI} (h:Blk W cb (gn .u8 l) 172){n:Int} (hi:l[i]?=some n) (h0:0≤n) (h3:n≤3) (t:Bool) :
  Calls prog 244 #[pZ cb i,.bool t] W λ e w=>e=eY #[]/\Post (blk cb (gn .u8 l) 172) W (blk cb (gn .u8 (l.set i (bump n t))) 172) w:=by
 have H:=St.begin (A:=blk cb (gn .u8 l) 172) h;have hg:=mi (κ:=.u8) hi
 have hs:i<(gn .u8 l).size:=by rw[iv];exact(qD.1 hi).1
 have same:bump n t=n->(eY #[]=eY #[]/\Post (blk cb (gn .u8 l) 172) W (blk cb (gn .u8 (l.set i (bump n t))) 172) W):=λ e=>by
  rw[e,set_self hi];exact⟨rfl,H.post 0 rfl⟩
 have up:∀ z:Int,z=bump n t->∀ w',St W (blk cb (gn .u8 l) 172).own w' [blk cb ((gn .u8 l).setIfInBounds i (.int .u8 z)) 172]->(eY #[]=eY #[]/\Post (blk cb (gn .u8 l) 172) W (blk cb (gn .u8 (l.set i (bump n t))) 172) w'):=by
  rintro z rfl w' H;rw[ru] at H;exact⟨rfl,H.post 0 rfl⟩
 refine akn cb i t (aa (λ q=>?_) (λ q=>?_))
 ·subst q;refine⟨n,H.ld 0 rfl hg,aa (λ q2=>⟨n,H.ld 0 rfl hg,?_⟩) (λ q2=>aa (λ q3=>by cases q3) (λ _=>same (by unfold bump;rw[q2];rfl)))⟩;rintro z rfl;refine H.st 0 rfl hs (up _ ?_);rw[w8];unfold bump;rw[q2];show(n+1) % 256=n+1;omega
 ·subst q;refine aa (λ _=>⟨n,H.ld 0 rfl hg,aa (λ q2=>⟨n,H.ld 0 rfl hg,?_⟩) (λ q2=>same (by unfold bump;rw[q2];rfl))⟩) (λ q3=>by cases q3);rintro z rfl;refine H.st 0 rfl hs (up _ ?_);rw[w8];unfold bump;rw[q2];have:=qB q2;show(n - 1) % 256=n - 1;omega
theorem Yu {W:wD}{cb b c pc:Nat} (hb:b≤62) (hp:pc<4294967296){l:LI} (hl:l.length=2 ^ b) (h3:∀ x ∈ l,0≤x/\x≤3) (h:Blk W cb (gn .u8 l) 172) (hi:Int) (t:Bool) :
  Calls prog 241 #[.slice (some ⟨cb,0,none⟩) (2 ^ b) c,.int .u32 pc,.int .i64 hi,.bool t] W λ e w=>e=eY #[]/\Post (blk cb (gn .u8 l) 172) W (blk cb (gn .u8 (l.set (pc / 4 % 2 ^ b) (bump (l.getD (pc / 4 % 2 ^ b) 0) t))) 172) w:=by
 have hlt:pc / 4 % 2 ^ b<l.length:=by rw[hl];exact qIB _ (qMB b)
 have hx:=h3 _ (qN (getD_at hlt));refine akq _ _ _ _ _ _ ((St.nil W).callp (Rm W cb b c pc hb hp) ⟨_,rfl,?_⟩);refine(agv h (getD_at hlt) hx.1 hx.2 t).mono ?_;rintro e w ⟨rfl,hP⟩;exact⟨rfl,rfl,hP⟩
def ixOf (mix:Bool) (b pc h:Nat):Nat:=(if mix then (pc ^^^ (h * 4 % 4294967296)) else pc) / 4 % 2 ^ b
theorem mix_pc {pc h:Nat} (hp:pc<4294967296) (hh:h<4294967296):IntKind.wrap .u32 ((bZ .u32 (pc:Int) ^^^ bZ .u32 (IntKind.wrap .u32 (IntKind.wrap .u32 (h:Int) * 2 ^ min 2 (IntKind.bits .u32)))).toNat:Int)=((pc ^^^ (h * 4 % 4294967296):Nat):Int):=by
 have e:IntKind.wrap .u32 (IntKind.wrap .u32 (h:Int) * 2 ^ min 2 (IntKind.bits .u32))=((h * 4 % 4294967296:Nat):Int):=by
  rw[Bits.n32 hh];exact Bits.m32 (h * 4)
 rw[e];exact Bits.lxor32 hp (qIB _ (by decide))
theorem Yv {pc h:Nat} (hp:pc<4294967296):pc ^^^ (h * 4 % 4294967296)<4294967296:=Nat.xor_lt_two_pow (n:=32) hp (qIB _ (by decide))
theorem agw (W:wD) (cb b c pc h:Nat) (hb:b≤62) (hp:pc<4294967296) (hh:h<4294967296) (l:LI) (hl:l.length=2 ^ b) (hB:Blk W cb (gn .u8 l) 172) (cs:AV) (hcs:cs.size=5) :
  Calls prog 245 #[.agg #[.slice (some ⟨cb,0,none⟩) (2 ^ b) c],.int .u32 pc,.agg cs,.int .i64 h] W λ e w=>e=eZ (.bool (decide (l.getD (ixOf true b pc h) 0 > 1)))/\ba W w:=by
 refine akr _ _ _ _ ((St.nil W).al λ k w2 H=>H.al λ k2 w3 H=>?_);refine⟨_,_,_,H.ld 0 rfl rfl,?_⟩;rintro z rfl;refine⟨by decide,?_⟩;rintro z2 rfl z3 rfl;rw[mix_pc hp hh];refine⟨cs,hcs,H.cells 1 rfl,H.callq (Yt _ cb b c _ hb (Yv hp) l hl (hB.keep H.touch (λ e=>e)) _ _) λ w' H=>⟨_,rfl,rfl,H.touch⟩⟩
theorem agx {W:wD}{cb b c pc h:Nat} (hb:b≤62) (hp:pc<4294967296) (hh:h<4294967296){l:LI} (hl:l.length=2 ^ b) (h3:∀ x ∈ l,0≤x/\x≤3) (hB:Blk W cb (gn .u8 l) 172) (t:Bool) :
  Calls prog 246 #[.agg #[.slice (some ⟨cb,0,none⟩) (2 ^ b) c],.int .u32 pc,.int .i64 h,.bool t] W λ e w=>e=eY #[]/\Post (blk cb (gn .u8 l) 172) W (blk cb (gn .u8 (l.set (ixOf true b pc h) (bump (l.getD (ixOf true b pc h) 0) t))) 172) w:=by
 refine aks _ _ _ _ ((St.begin (A:=blk cb (gn .u8 l) 172) hB).al λ k w2 H=>?_);refine⟨_,_,_,H.ld 1 rfl rfl,?_⟩;rintro z rfl;refine⟨by decide,?_⟩;rintro z2 rfl z3 rfl;rw[mix_pc hp hh];exact H.call 0 rfl (Yu hb (Yv hp) hl h3 (H.blk 0 rfl) _ t) λ w' H=>⟨rfl,rfl,H.post 0 rfl⟩
theorem agy (W:wD) (b:Bool) (pc:Int) (cs:AV) (imm:Int) (hcs:cs[4]?=some (.int .i64 imm)) (hi:Int):Calls prog 247 #[.agg #[.bool b],.int .u32 pc,.agg cs,.int .i64 hi] W λ e w=>e=eZ (.bool (b&&decide (imm<0)))/\ba W w:=by
 refine akt _ pc cs hi ((St.nil W).al λ k w2 H=>H.al λ k2 w3 H=>?_);refine⟨b,H.ld 0 rfl rfl,aa (λ q=>?_) (λ q=>?_)⟩
 ·subst q;exact⟨imm,H.ld 1 rfl hcs,rfl,H.touch⟩
 ·subst q;exact⟨rfl,H.touch⟩
theorem agz (W:wD) (b:Bool) (pc hi:Int) (t:Bool):Calls prog 248 #[.agg #[.bool b],.int .u32 pc,.int .i64 hi,.bool t] W λ e w=>e=eY #[]/\ba W w :=
 aku _ _ _ _ ((St.nil W).al λ k w2 H=>⟨rfl,H.touch⟩)
inductive Dir where
 | fixed (b:Bool)
 | tab (mix:Bool) (cb b:Nat) (l:LI)
def Dir.val:Dir->Value
 | .fixed b=>.iface 140 (.agg #[.bool b])
 | .tab false cb b l=>.iface 135 (.slice (some ⟨cb,0,none⟩) (2 ^ b) (2 ^ b))
 | .tab true cb b l=>.iface 138 (.agg #[.slice (some ⟨cb,0,none⟩) (2 ^ b) (2 ^ b)])
def dirA:Dir->Asn
 | .fixed _=>emp
 | .tab _ cb _ l=>blk cb (gn .u8 l) 172
def Dir.ok:Dir->Prop
 | .fixed _=>True
 | .tab _ _ b l=>b≤62/\l.length=2 ^ b/\∀ x ∈ l,0≤x/\x≤3
def Dir.guess (D:Dir) (pc h:Nat) (imm:Int):Bool:=match D with
 | .fixed b=>b&&decide (imm<0)
 | .tab mix _ b l=>decide (l.getD (ixOf mix b pc h) 0 > 1)
def Dir.learn (D:Dir) (pc h:Nat) (t:Bool):Dir:=match D with
 | .fixed b=>.fixed b
 | .tab mix cb b l=>.tab mix cb b (l.set (ixOf mix b pc h) (bump (l.getD (ixOf mix b pc h) 0) t))
theorem acy {n:Int}{t:Bool} (h:0≤n/\n≤3):0≤bump n t/\bump n t≤3:=by
 unfold bump;cases t <;> simp <;> split <;> omega
theorem Dir.ok_learn {D:Dir} (h:D.ok) (pc h':Nat) (t:Bool):(D.learn pc h' t).ok:=by
 cases D with
 | fixed b=>trivial
 | tab mix cb b l =>
  obtain⟨h1,h2,h3⟩:=h;refine⟨h1,by rw[qJ];exact h2,λ x hx=>?_⟩;rcases qZ hx with e | e
  ·exact h3 x e
  ·subst e;exact acy (h3 _ (qN (getD_at (by rw[h2];exact qIB _ (qMB b)))))
theorem aha {W:wD}{D:Dir} (ho:D.ok) (hD:(dirA D).at_ W) (pc h:Nat) (hp:pc<4294967296) (hh:h<4294967296) (cs:AV) (hs:cs.size=5) (imm:Int) (hcs:cs[4]?=some (.int .i64 imm)) :
  ∃ f all,Sx.meth prog D.val "oocore/predict.guess" #[.int .u32 pc,.agg cs,.int .i64 h] W f all/\Calls prog f all W λ e w=>e=eZ (.bool (D.guess pc h imm))/\ba W w:=by
 cases D with
 | fixed b=>exact⟨247,#[.agg #[.bool b],.int .u32 pc,.agg cs,.int .i64 h],by show Eq _ _;kernel_rfl,agy W b pc cs imm hcs h⟩
 | tab mix cb b l =>
  obtain⟨h1,h2,h3⟩:=ho
  cases mix with
  | false=>exact⟨240,#[.slice (some ⟨cb,0,none⟩) (2 ^ b) (2 ^ b),.int .u32 pc,.agg cs,.int .i64 h],by show Eq _ _;kernel_rfl,Yt W cb b _ pc h1 hp l h2 hD cs h⟩
  | true=>exact⟨245,#[.agg #[.slice (some ⟨cb,0,none⟩) (2 ^ b) (2 ^ b)],.int .u32 pc,.agg cs,.int .i64 h],by show Eq _ _;kernel_rfl,agw W cb b _ pc h h1 hp hh l h2 hD cs hs⟩
theorem ahb {W:wD}{D:Dir} (ho:D.ok) (hD:(dirA D).at_ W) (pc h:Nat) (hp:pc<4294967296) (hh:h<4294967296) (t:Bool) :
  ∃ f all,Sx.meth prog D.val "oocore/predict.learn" #[.int .u32 pc,.int .i64 h,.bool t] W f all/\Calls prog f all W λ e w=>e=eY #[]/\Post (dirA D) W (dirA (D.learn pc h t)) w:=by
 cases D with
 | fixed b=>exact⟨248,#[.agg #[.bool b],.int .u32 pc,.int .i64 h,.bool t],by show Eq _ _;kernel_rfl,(agz W b pc h t).mono λ e w h=>⟨h.1,trivial,h.2,λ _ e=>e.elim⟩⟩
 | tab mix cb b l =>
  obtain⟨h1,h2,h3⟩:=ho
  cases mix with
  | false=>exact⟨241,#[.slice (some ⟨cb,0,none⟩) (2 ^ b) (2 ^ b),.int .u32 pc,.int .i64 h,.bool t],by show Eq _ _;kernel_rfl,Yu h1 hp h2 h3 hD h t⟩
  | true=>exact⟨246,#[.agg #[.slice (some ⟨cb,0,none⟩) (2 ^ b) (2 ^ b)],.int .u32 pc,.int .i64 h,.bool t],by show Eq _ _;kernel_rfl,agx h1 hp hh h2 h3 hD t⟩
def predA (b:Nat) (S:PS):Asn:=⟨S.own b,λ w=>PredAt w b S,λ h ht hn=>h.keep ht hn,λ h=>h.lt⟩
abbrev Tgt:=Int×Int×Bool
def Di (x:Tgt):LV:=[.int .u32 x.1,.int .u32 x.2.1,.bool x.2.2]
def pgA (b:Nat) (S:PS) (D:Dir):Asn:=all [predA b S,dirA D]
structure Pg (S:PS) (D:Dir) (T:List Tgt) (tb:Nat):Prop where
 dir:S.dir=D.val
 dok:D.ok
 tc:S.tc=rows Di T
 tn:S.tn=2 ^ tb
 tl:T.length=2 ^ tb
 tb:tb≤62
 h0:0≤S.hist
 h1:S.hist<4294967296
theorem Cr (T:List Tgt):∀ x ∈ T,(Di x).length=3:=λ _ _=>rfl
theorem Fg {W:wD}{b:Nat}{S:PS} (h:PredAt W b S) (t:Nat) (htn:S.tn=2 ^ t) (ht:t≤62) (pc:Nat) (hp:pc<4294967296) :
  Calls prog 143 #[pZ b 0,.int .u32 pc] W λ e w=>e=eZ (.pointer (some ⟨S.tb,pc / 4 % 2 ^ t * 3,none⟩))/\ba W w:=by
 refine akj _ _ _ ⟨_,_,_,h.root.cell' rfl,by decide,?_⟩;rintro z rfl z2 rfl;refine⟨_,_,_,h.root.cell' rfl,?_⟩;rintro z3 rfl z4 rfl;have e1:Int.fdiv (pc:Int) (2 ^ min 2 (IntKind.bits .u32))=((pc / 4:Nat):Int):=Bits.shr pc 2;have hpow:2 ^ t≤2 ^ 62:=qX (by decide) ht;have hpos:=qMB t;rw[htn,e1,Bits.n64 (x:=pc / 4) (by omega),w64 (e:=((2 ^ t:Nat):Int) - 1) (by omega) (by omega),Bits.mask64 (by omega) ht];have hlt:=qIB (pc / 4) hpos;refine⟨⟨by omega,by omega⟩,adr_some ?_⟩;rw[show 0+((pc / 4 % 2 ^ t:Nat):Int).toNat * 3=pc / 4 % 2 ^ t * 3 by omega];rintro w2 k rfl;exact⟨rfl,(qH _ _).drewN k⟩
def PS.whole (S:PS) (mh mt:Int):Bool:=if decide (mh ≥ 0)&&decide (mh≤S.mask) then decide (mt ≥ 0)&&decide (mt≤(S.stack.length:Int) - 1) else false
def Rn (mh mt mv:Int):AV:=#[.int .i64 mh,.int .i64 mt,.int .u32 mv]
theorem whole_any {W:wD}{b:Nat}{S:PS} (h:PredAt W b S) (mh mt mv:Int) :
  Calls prog 86 #[pZ b 0,.agg (Rn mh mt mv)] W λ e w=>e=eZ (.bool (S.whole mh mt))/\ba W w:=by
 have hlen:=h.slen;refine ami b 0 _ ((St.nil W).al λ k w2 H=>?_);have hp:=h.keep H.touch (λ _ _ e=>e);refine⟨mh,H.ld 0 rfl rfl,S.mask,hp.root.cell' rfl,_,λ k2=>(within_any _ mh 0 S.mask).mono (λ e w h=>⟨h.1,k2,h.2⟩),?_⟩;refine aa (λ q=>?_) (λ q=>?_)
 ·refine⟨mt,H.ld 0 rfl rfl,_,_,_,hp.root.cell' rfl,?_⟩;rintro z4 rfl;rw[w64 (by omega) (by omega)];refine⟨_,λ k2=>(within_any _ mt 0 _).mono (λ e w h=>⟨h.1,k2,h.2⟩),H.drN λ w' H=>⟨?_,H.touch⟩⟩;unfold PS.whole;rw[if_pos q]
 ·refine H.drN λ w' H=>⟨?_,H.touch⟩;unfold PS.whole;rw[if_neg (by rw[q];decide)]
def PS.takes (S:PS) (D:Dir) (pc:Nat) (i:In):Bool:=(av i.op==2)&&D.guess pc S.hist.toNat i.imm
def tgtAt (T:List Tgt) (pc:Nat):Tgt:=T.getD (pc / 4 % T.length) (0,0,false)
def PS.nextG (S:PS) (D:Dir) (T:List Tgt) (pc:Nat) (i:In):Int :=
 if av i.op=2 then if D.guess pc S.hist.toNat i.imm then IntKind.wrap .u32 (pc+IntKind.wrap .u32 i.imm) else IntKind.wrap .u32 (pc+4)
 else if i.op=3 then IntKind.wrap .u32 (pc+IntKind.wrap .u32 i.imm)
 else if i.rets then S.stack.getD S.top 0
 else if i.op=4 then if (tgtAt T pc).2.2 then if (tgtAt T pc).1=pc then (tgtAt T pc).2.1 else IntKind.wrap .u32 (pc+4) else IntKind.wrap .u32 (pc+4)
 else IntKind.wrap .u32 (pc+4)
theorem Ro {w:wD}{b:Nat}{S:PS} (h:PredAt w b S) (hT:Tabs TB w) (hlo:∀ k,S.own b k->TB≤k) (pc:Int) (i:In) (t:Bool) :
  Calls prog 87 #[pZ b 0,.int .u32 pc,.agg i.cells,.bool t] w λ e w'=>e=eY #[]/\Sep.Post (predA b S) w (predA b (S.on pc i t)) w' :=
 (Jv h hT hlo pc i t).mono λ e w' h=>⟨h.1,h.2.1,h.2.2,λ q hq=>.inl ((Ys S pc i t b q).1 hq)⟩
theorem guessG {W:wD}{b:Nat}{S:PS}{D:Dir}{T:List Tgt}{t:Nat} (h:(pgA b S D).at_ W) (hg:Pg S D T t) (hT:Tabs TB W) (hlo:∀ k,(pgA b S D).own k->TB≤k) (pc:Nat) (hp:pc<4294967296) (i:In) :
  Calls prog 122 #[pZ b 0,.int .u32 pc,.agg i.cells] W λ e w=>e=eY #[.int .u32 (S.nextG D T pc i),.agg S.mark]/\Sep.Post (pgA b S D) W (pgA b (S.on pc i (S.takes D pc i)) D) w:=by
 have hlo':∀ k,S.own b k->TB≤k:=λ k hk=>hlo k (.inl hk);have P:∀ {w:wD} {L:List Asn},St W (pgA b S D).own w (predA b S::L)->PredAt w b S:=λ H=>H.nth 0 rfl;have TT:∀ {w:wD} {L:List Asn},St W (pgA b S D).own w L->Tabs TB w:=λ H=>hT.keep H.touch hlo;have H:St W (pgA b S D).own W [predA b S,dirA D]:=(St.begin h).open_;obtain⟨hN,eN⟩:∃ n:Nat,S.hist=n:=⟨S.hist.toNat,by have:=hg.h0;omega⟩
 have hN1:hN<4294967296:=by have:=hg.h1;omega
 refine aki b 0 pc i.cells (H.al λ k w2 H=>H.al λ k2 w3 H=>H.dr λ w4 H=>?_);have hlen:=(P H).slen;have htl:=(P H).tlt;refine⟨S.hist,(P H).root.cell' rfl,S.top,(P H).root.cell' rfl,_,_,_,(P H).root.cell' rfl,S.top,(P H).root.cell' rfl,⟨by omega,by omega⟩,adr_some ?_⟩;rw[ix1,qW];refine⟨S.stack.getD S.top 0,(P H).stk.cell' (mi (κ:=.u32) (getD_at htl)),?_⟩;rintro vs rfl;refine H.alb λ k7 w5 H _ hB=>⟨hB,H.sts0 4 rfl rfl rfl (Jw S) λ w6 H=>?_⟩;rintro z5 rfl;refine⟨λ x z w=>x=S.takes D pc i/\z=S.nextG D T pc i/\St W (pgA b S D).own w [predA b S,dirA D,blk k i.cells 157,blk k2 akv 160,blk k7 S.mark 160],?_,λ _=>?_⟩
 ·refine⟨i.op,H.ld 2 rfl rfl,H.callq (mm (TT H) i.op) λ w7 H=>⟨_,rfl,aa (λ q=>?_) (λ q=>?_)⟩⟩
  ·have q':av i.op=2:=by simpa using q
   have et:S.takes D pc i=D.guess pc S.hist.toNat i.imm:=by unfold PS.takes;rw[q',show((2:Int)==2)=true from rfl,qoB]
   have eh:S.hist.toNat=hN:=by omega
   refine H.dr λ w8 H=>⟨S.dir,(P H).root.cell' rfl,i.cells,rfl,H.cells 2 rfl,S.hist,(P H).root.cell' rfl,?_⟩;obtain⟨f,all,hm,hc⟩:=aha hg.dok (H.nth 1 rfl) pc hN hp hN1 i.cells rfl i.imm rfl;rw[hg.dir,eN]
   have nn:∀ {φ:Value->Prop},φ D.val->Sx.notNil D.val φ:=λ {φ} h=>by
    cases D with
    | fixed b=>exact h
    | tab mix cb b l=>cases mix <;> exact h
   refine nn ⟨f,all,hm,H.callq hc λ w9 H=>⟨_,rfl,aa (λ q2=>?_) (λ q2=>?_)⟩⟩
   ·refine⟨i.imm,H.ld 2 rfl rfl,?_⟩;rintro z10 rfl z11 rfl;refine⟨by rw[et,eh],?_,H⟩;unfold PS.nextG;rw[if_pos q',eh,if_pos q2]
   ·refine⟨by rw[et,eh],?_,H⟩;unfold PS.nextG;rw[if_pos q',eh,if_neg (by rw[q2];decide)]
  ·have q':¬ av i.op=2:=by simpa using q
   have et:S.takes D pc i=false:=by unfold PS.takes;rw[q,qbB]
   rw[et];refine⟨i.op,H.ld 2 rfl rfl,aa (λ q2=>?_) (λ q2=>?_)⟩
   ·have q2:(i.op:Int)=3:=by simpa using q2
    refine⟨i.imm,H.ld 2 rfl rfl,?_⟩;rintro z14 rfl z15 rfl;refine⟨rfl,?_,H⟩;unfold PS.nextG;rw[if_neg q',if_pos (by omega)]
   ·have q2:¬ (i.op:Int)=3:=by simpa using q2
    refine⟨i.cells,rfl,H.cells 2 rfl,H.callq (ra _ i) λ w10 H=>⟨_,rfl,aa (λ q3=>?_) (λ q3=>?_)⟩⟩
    ·refine⟨_,H.ld 4 rfl rfl,rfl,?_,H⟩;unfold PS.nextG;rw[if_neg q',if_neg (by omega),if_pos q3]
    ·refine⟨i.op,H.ld 2 rfl rfl,aa (λ q4=>?_) (λ q4=>?_)⟩
     ·have q4:(i.op:Int)=4:=by simpa using q4
      refine H.callq (Fg (P H) t hg.tn hg.tb pc hp) λ w11 H=>⟨_,rfl,ptr_some ?_⟩
      have hj:T[pc / 4 % 2 ^ t]?=some (tgtAt T pc):=by
       unfold tgtAt;rw[hg.tl,qF,qC (by rw[hg.tl];exact qIB _ (qMB t))];rfl
      have eN':S.nextG D T pc i=if (tgtAt T pc).2.2 then if (tgtAt T pc).1=pc then (tgtAt T pc).2.1 else IntKind.wrap .u32 (pc+4) else IntKind.wrap .u32 (pc+4):=by
       unfold PS.nextG;rw[if_neg q',if_neg (by omega),if_neg (by rw[q3];decide),if_pos (by omega)]
      have cell:∀ {w:wD} {L:List Asn},St W (pgA b S D).own w (predA b S::L)->∀ (r:Nat) (v:Value),r<3->(Di (tgtAt T pc))[r]?=some v->w.cell? ⟨S.tb,pc / 4 % 2 ^ t * 3+r,none⟩=some v:=λ H r v hr hv=>by
       refine(P H).tgt.cell' ?_;rw[hg.tc];exact Be (Cr T) hj hr hv
      rw[eN'];refine⟨_,cell H 2 _ (by omega) rfl,aa (λ q5=>?_) (λ q5=>?_)⟩
      ·rw[if_pos q5];refine ptr_some ⟨_,cell H 0 _ (by omega) rfl,aa (λ q6=>?_) (λ q6=>?_)⟩
       ·rw[if_pos (by simpa using q6)];exact ptr_some ⟨_,cell H 1 _ (by omega) rfl,rfl,rfl,H⟩
       ·rw[if_neg (by simpa using q6)];exact⟨rfl,rfl,H⟩
      ·rw[if_neg (by rw[q5];decide)];exact⟨rfl,rfl,H⟩
     ·have q4:¬ (i.op:Int)=4:=by simpa using q4
      refine⟨rfl,?_,H⟩;unfold PS.nextG;rw[if_neg q',if_neg (by omega),if_neg (by rw[q3];decide),if_neg (by omega)]
 ·rintro x z w12 ⟨rfl,rfl,H⟩;refine⟨i.cells,rfl,H.cells 2 rfl,H.call 0 rfl (Ro (P H) (TT H) hlo' pc i _) λ w13 H=>⟨rfl,H.dr λ w14 H=>?_⟩⟩;refine⟨S.mark,rfl,H.cells 4 rfl,H.sts0 3 rfl rfl rfl (Jw S) λ w15 H=>⟨S.mark,rfl,H.cells 3 rfl,rfl,?_⟩⟩;have H:St W (pgA b S D).own w15 (all [predA b (S.on pc i (S.takes D pc i)),dirA D]::[blk k i.cells 157,blk k2 S.mark 160,blk k7 S.mark 160]):=St.shut H;exact H.post 0 rfl
def PS.restored (S:PS) (mh mt mv:Int) (pc:Int) (i:In) (t:Bool):PS:=if S.whole mh mt then (S.back mh mt.toNat mv).on pc i t else S
theorem whole_iff {S:PS}{mh mt:Int} (h:S.whole mh mt=true):0≤mh/\mh≤S.mask/\0≤mt/\mt.toNat<S.stack.length:=by
 unfold PS.whole at h;split at h
 ·rename_i e;simp at e h;omega
 ·cases h
theorem Fh (b:Nat) (S:PS) (mh mt mv pc:Int) (i:In) (t:Bool) (q:Nat):(S.restored mh mt mv pc i t).own b q↔S.own b q:=by
 unfold PS.restored;split
 ·exact Ys (S.back mh mt.toNat mv) pc i t b q
 ·exact Iff.rfl
theorem restoreG {W:wD}{b:Nat}{S:PS} (h:PredAt W b S) (hT:Tabs TB W) (hlo:∀ k,S.own b k->TB≤k) (mh mt mv pc:Int) (i:In) (t:Bool) :
  Calls prog 58 #[pZ b 0,.agg (Rn mh mt mv),.int .u32 pc,.agg i.cells,.bool t] W λ e w=>e=eY #[]/\Sep.Post (predA b S) W (predA b (S.restored mh mt mv pc i t)) w:=by
 by_cases hw:S.whole mh mt=true
 ·obtain⟨g0,g1,g2,g3⟩:=whole_iff hw
  have em:Rn mh mt mv=ly mh mt.toNat mv:=by unfold Rn ly;rw[show((mt.toNat:Nat):Int)=mt by omega]
  rw[em];refine(Hr h hT hlo mh mt.toNat mv g0 g1 g3 pc i t).mono λ e w hh=>⟨hh.1,?_,hh.2.2,λ q hq=>.inl ((Fh b S mh mt mv pc i t q).1 hq)⟩;unfold PS.restored;rw[if_pos hw];exact hh.2.1
 ·have H:=St.begin (A:=predA b S) h;refine amh b 0 _ pc i.cells t (H.al λ k w2 H=>H.al λ k2 w3 H=>⟨_,rfl,H.cells 1 rfl,?_⟩);refine H.callq (whole_any (H.nth 0 rfl:PredAt _ b S) mh mt mv) λ w4 H=>⟨_,rfl,aa (λ _=>⟨rfl,?_⟩) (λ q=>absurd (by simpa using q) hw)⟩
  have:S.restored mh mt mv pc i t=S:=by unfold PS.restored;rw[if_neg hw]
  rw[this];exact H.post 0 rfl
def PS.learnD (S:PS) (D:Dir) (mh mt:Int) (pc:Nat) (i:In) (t:Bool):Dir:=if S.whole mh mt then if av i.op=2 then D.learn pc mh.toNat t else D else D
def PS.learnT (S:PS) (T:List Tgt) (mh mt:Int) (pc:Nat) (i:In) (to:Int):List Tgt:=if S.whole mh mt then if av i.op=2 then T else if i.op=4 then if i.rets then T else T.set (pc / 4 % T.length) ((pc:Int),to,true) else T else T
def PS.tgts (S:PS) (T:List Tgt):PS:={ S with tc:=rows Di T }
theorem tgts_self {S:PS}{T:List Tgt} (h:S.tc=rows Di T):S.tgts T=S:=by unfold PS.tgts;rw[<- h]
theorem Wm {w:wD}{b:Nat}{S:PS}{T T':List Tgt} (h:PredAt w b (S.tgts T)){o:Nat}{vs:LV} (he:bv (rows Di T) o vs=rows Di T') (hl:o+vs.length≤(rows Di T).size):Sep.Post (predA b (S.tgts T)) w (predA b (S.tgts T')) (w.setCells S.tb o vs):=by
 have ht:=bh (b:=S.tb) vs w o;have hb:Blk (w.setCells S.tb o vs) S.tb (rows Di T') 269:=he ▸ cv vs w (rows Di T) o h.tgt hl;refine⟨⟨h.root.keep ht h.d1,hb,h.stk.keep ht (λ e=>h.d3 e.symm),h.d1,h.d2,h.d3,h.tlt,h.slen⟩,ht.mono (λ q _ e=>.inr (.inl e)),λ q hq=>.inl hq⟩
theorem learnG {W:wD}{b:Nat}{S:PS}{D:Dir}{T:List Tgt}{tb:Nat} (h:(pgA b S D).at_ W) (hg:Pg S D T tb) (hT:Tabs TB W) (hlo:∀ k,(pgA b S D).own k->TB≤k) (mh mt mv:Int) (hm:S.mask<4294967296) (pc:Nat) (hp:pc<4294967296) (i:In) (t:Bool) (to:Int) :
  Calls prog 97 #[pZ b 0,.agg (Rn mh mt mv),.int .u32 pc,.agg i.cells,.bool t,.int .u32 to] W λ e w=>e=eY #[]/\Sep.Post (pgA b S D) W (pgA b (S.tgts (S.learnT T mh mt pc i to)) (S.learnD D mh mt pc i t)) w:=by
 have P:∀ {w:wD} {L:List Asn},St W (pgA b S D).own w (predA b S::L)->PredAt w b S:=λ H=>H.nth 0 rfl;have TT:∀ {w:wD} {L:List Asn},St W (pgA b S D).own w L->Tabs TB w:=λ H=>hT.keep H.touch hlo;have H:St W (pgA b S D).own W [predA b S,dirA D]:=(St.begin h).open_
 have fin:∀ {w:wD} {S':PS} {D':Dir} {L:List Asn},St W (pgA b S D).own w (predA b S'::dirA D'::L)->Sep.Post (pgA b S D) W (pgA b S' D') w:=λ {w S' D' L} H=>by
  have H:St W (pgA b S D).own w (all [predA b S',dirA D']::L):=St.shut H;exact H.post 0 rfl
 refine aoq b 0 _ pc i.cells t to (H.al λ k w2 H=>H.al λ k2 w3 H=>⟨_,rfl,H.cells 2 rfl,?_⟩);refine H.callq (whole_any (P H) mh mt mv) λ w4 H=>⟨_,rfl,aa (λ q=>⟨rfl,?_⟩) (λ q=>?_)⟩
 ·have q:S.whole mh mt=false:=by simpa using q
  unfold PS.learnT PS.learnD;rw[if_neg (by rw[q];decide),if_neg (by rw[q];decide),tgts_self hg.tc];exact fin H
 have q:S.whole mh mt=true:=by simpa using q
 obtain⟨g0,g1,g2,g3⟩:=whole_iff q
 have eT:S.learnT T mh mt pc i to=if av i.op=2 then T else if i.op=4 then if i.rets then T else T.set (pc / 4 % T.length) ((pc:Int),to,true) else T:=by unfold PS.learnT;rw[if_pos q]
 have eD:S.learnD D mh mt pc i t=if av i.op=2 then D.learn pc mh.toNat t else D:=by unfold PS.learnD;rw[if_pos q]
 rw[eT,eD];refine⟨i.op,H.ld 3 rfl rfl,H.callq (mm (TT H) i.op) λ w5 H=>⟨_,rfl,aa (λ q2=>?_) (λ q2=>?_)⟩⟩
 ·have q2:av i.op=2:=by simpa using q2
  rw[if_pos q2,if_pos q2,tgts_self hg.tc];refine H.dr λ w6 H=>⟨S.dir,(P H).root.cell' rfl,mh,H.ld 2 rfl rfl,?_⟩;obtain⟨n,en⟩:∃ n:Nat,mh=n:=⟨mh.toNat,by omega⟩;obtain⟨f,all,hme,hc⟩:=ahb hg.dok (H.nth 1 rfl) pc n hp (by omega) t;rw[hg.dir,en,qG];refine⟨f,all,hme,H.call 1 rfl hc λ w7 H=>⟨_,rfl,rfl,?_⟩⟩;exact fin H
 ·have q2:¬ av i.op=2:=by simpa using q2
  rw[if_neg q2,if_neg q2];refine⟨i.op,H.ld 3 rfl rfl,aa (λ q3=>?_) (λ q3=>?_)⟩
  ·have q3:(i.op:Int)=4:=by simpa using q3
   rw[if_pos (by omega)];refine⟨i.cells,rfl,H.cells 3 rfl,H.callq (ra _ i) λ w8 H=>⟨_,rfl,aa (λ q4=>?_) (λ q4=>⟨rfl,?_⟩)⟩⟩
   ·have q4:i.rets=false:=by simpa using q4
    rw[if_neg (by rw[q4];decide)];refine H.callq (Fg (P H) tb hg.tn hg.tb pc hp) λ w9 H=>⟨_,rfl,?_⟩;rintro vs rfl
    have hlt:pc / 4 % 2 ^ tb<T.length:=by rw[hg.tl];exact qIB _ (qMB tb)
    have hsz:pc / 4 % 2 ^ tb * 3+3≤(rows Di T).size:=by rw[kj (Cr T)];omega
    refine ptr_some (adr_some ⟨rfl,λ j hj=>⟨⟨_,(P H).tgt.cell' (qh (by rw[hg.tc];omega))⟩,(P H).tgt.frozen _⟩,?_,?_⟩)
    ·intro v hv;simp only[qp,qFB,or_false] at hv;rcases hv with rfl | rfl | rfl <;> rfl
    ·rintro w10 rfl
     have hP:PredAt w9 b (S.tgts T):=by rw[tgts_self hg.tc];exact P H
     have:=Wm hP (lf (Cr T) (pc / 4 % 2 ^ tb) ((pc:Int),to,true) hlt rfl) (by show _+3≤_;omega);rw[tgts_self hg.tc] at this;rw[hg.tl];have H:=H.upd 0 rfl this;exact⟨rfl,fin H⟩
   ·rw[if_pos (by simpa using q4),tgts_self hg.tc];exact fin H
  ·have q3:¬ (i.op:Int)=4:=by simpa using q3
   rw[if_neg (by omega),tgts_self hg.tc];exact⟨rfl,fin H⟩
theorem acz (a b:Nat) (hb:0<b) (x y:Int):(List.replicate a x++List.replicate b y).set a x=List.replicate (a+1) x++List.replicate (b - 1) y:=by
 obtain⟨c,rfl⟩:∃ c,b=c+1:=⟨b - 1,by omega⟩;rw[List.set_append_right _ _ (by simp),qi,Nat.sub_self,List.replicate_succ,List.set_cons_zero,List.replicate_succ',ql];rfl
theorem Jy (W:wD) (B:Nat) (hB:B≤10) :
  Calls prog 34 #[.int .i64 B] W λ e w=>∃ cb,e=eZ (.slice (some ⟨cb,0,none⟩) (2 ^ B) (2 ^ B))/\Sep.Post emp W (blk cb (gn .u8 (List.replicate (2 ^ B) 1)) 172) w:=by
 have hpow:2 ^ B≤2 ^ 10:=qX (by decide) hB;have hpos:=qMB B;refine aos _ ⟨by omega,?_⟩;rintro z rfl;rw[Bits.one_shl (by omega)];refine⟨⟨by omega,by omega,by omega,by omega⟩,?_⟩;rw[show(((2 ^ B:Nat):Int).toNat)=2 ^ B from qG _,qT,iw];refine(St.nil W).al λ k w2 H=>?_;refine⟨λ x w=>∃ m:Nat,x=m/\m≤2 ^ B/\St W (λ _=>False) w [blk k (gn .u8 (List.replicate m 1++List.replicate (2 ^ B - m) 0)) 172],λ x _=>2 ^ B - x.toNat,⟨0,rfl,by omega,by rw[List.replicate_zero,qr,Nat.sub_zero];exact H⟩,λ _=>?_⟩;rintro x w3 ⟨m,rfl,hm,H⟩;refine aa (λ q=>?_) (λ q=>?_)
 ·have q:=qB q;refine⟨⟨by omega,q⟩,?_⟩;rw[ix1,qW];refine H.st 0 rfl (by rw[iv];simp;omega) λ w4 H=>?_;rintro z2 rfl;rw[w64 (by omega) (by omega)];refine⟨⟨m+1,by omega,by omega,?_⟩,by show 2 ^ B - ((m:Int)+1).toNat<2 ^ B - (m:Int).toNat;omega⟩;rw[ru,acz _ _ (by omega)] at H;exact H
 ·have q:=qE q;obtain rfl:m=2 ^ B:=by omega
  rw[Nat.sub_self,List.replicate_zero,qqB] at H;exact⟨k,rfl,H.new 0 rfl⟩
def S0 (D:Dir) (h t r tb sb:Nat):PS:=⟨D.val,0,((2 ^ h - 1:Nat):Int),tb,2 ^ t,2 ^ t,rows Di (List.replicate (2 ^ t) (0,0,false)),sb,r,List.replicate r 0,0⟩
def D0 (κ B cb:Nat):Dir:=if κ=2 then .tab false cb B (List.replicate (2 ^ B) 1) else if κ=3 then .tab true cb B (List.replicate (2 ^ B) 1) else .fixed (decide (κ=1))
def cfgC (κ B h t r:Int):AV:=#[.int .i64 κ,.int .i64 B,.int .i64 h,.int .i64 t,.int .i64 r]
def Wn (v:Value) (h t r tb sb:Nat):AV:=#[v,.int .i64 0,.int .i64 ((2 ^ h - 1:Nat):Int),.slice (some ⟨tb,0,none⟩) (2 ^ t) (2 ^ t),.slice (some ⟨sb,0,none⟩) r r,.int .i64 0]
theorem Rr {W w:wD}{M:Nat->Prop}{D:Dir}{h t r b tb sb:Nat}{L:List Asn} (h1:1≤r) (h2:r≤16)
  (H:St W M w ([blk b (Wn D.val h t r tb sb) 133,blk tb (rows Di (List.replicate (2 ^ t) (0,0,false))) 269,blk sb (gn .u32 (List.replicate r 0)) 47]++L)) :
  St W M w (predA b (S0 D h t r tb sb)::L):=by
 refine H.fold (λ h=>⟨?_,h.2.2.1,h.2.2.2.2.1,λ e=>h.2.1 b rfl (.inl e),λ e=>h.2.1 b rfl (.inr (.inl e)),λ e=>h.2.2.2.1 tb rfl (.inl e),?_,?_⟩) (λ q hq=>?_)
 ·have:=h.1;show Blk w b #[D.val,.int .i64 0,.int .i64 _,.slice (some ⟨tb,0,none⟩) (2 ^ t) (2 ^ t),.slice (some ⟨sb,0,none⟩) (List.replicate r (0:Int)).length r,.int .i64 0] 133;rw[qi];exact this
 ·show 0<(List.replicate r (0:Int)).length;rw[qi];omega
 ·show(List.replicate r (0:Int)).length≤16;rw[qi];omega
 ·rcases hq with rfl | rfl | rfl
  ·exact .inl rfl
  ·exact .inr (.inl rfl)
  ·exact .inr (.inr (.inl rfl))
def Ct (W:wD) (κ B h t r:Nat) (e:Ending) (w:wD):Prop:=∃ b cb tb sb:Nat,e=eY #[pZ b 0,.nilIface]/\Sep.Post emp W (pgA b (S0 (D0 κ B cb) h t r tb sb) (D0 κ B cb)) w
theorem Jz {W w:wD}{κ B h t r k tb sb b:Nat} (hκ:κ≤3) (hB:B≤10) (h1:1≤r) (h2:r≤16)
  (H:St W (λ _=>False) w [blk b (Wn .nilIface h t r tb sb) 133,blk tb (rows Di (List.replicate (2 ^ t) (0,0,false))) 269,blk sb (gn .u32 (List.replicate r 0)) 47,blk k (cfgC κ B h t r) 28]) :
  ∃ z:Int,w.cell? ⟨k,0,none⟩=some (.int .i64 z) /\
   Sx.split (z==2)
    (∃ z2:Int,w.cell? ⟨k,0+1,none⟩=some (.int .i64 z2) /\
     Calls prog 34 #[.int .i64 z2] w λ e w2=>∃ p:OA,∃ k5 k6:Nat,e=eZ (.slice p k5 k6)/\(∃ v,w2.cell? ⟨b,0,none⟩=some v)/\w2.frozen? ⟨b,0,none⟩=false/\∀ w3:wD,w3=w2.setCell ⟨b,0,none⟩ (.iface 135 (.slice p k5 k6)) ->
      Ct W κ B h t r (eY #[pZ b 0,.nilIface]) w3)
    (Sx.split (z==3)
     (∃ z2:Int,w.cell? ⟨k,0+1,none⟩=some (.int .i64 z2) /\
      Calls prog 34 #[.int .i64 z2] w λ e w2=>∃ p:OA,∃ k5 k6:Nat,e=eZ (.slice p k5 k6)/\∀ vs:AV,vs=#[.slice p k5 k6]->(∃ v,w2.cell? ⟨b,0,none⟩=some v)/\w2.frozen? ⟨b,0,none⟩=false/\∀ w3:wD,w3=w2.setCell ⟨b,0,none⟩ (.iface 138 (.agg vs)) ->
       Ct W κ B h t r (eY #[pZ b 0,.nilIface]) w3)
     (∃ z2:Int,w.cell? ⟨k,0,none⟩=some (.int .i64 z2)/\∀ vs:AV,vs=#[.bool (z2==1)]->(∃ v,w.cell? ⟨b,0,none⟩=some v)/\w.frozen? ⟨b,0,none⟩=false/\∀ w3:wD,w3=w.setCell ⟨b,0,none⟩ (.iface 140 (.agg vs)) ->
       Ct W κ B h t r (eY #[pZ b 0,.nilIface]) w3)):=by
 have fin:∀ {w:wD} {D:Dir} {L:List Asn},St W (λ _=>False) w ([blk b (Wn D.val h t r tb sb) 133,blk tb (rows Di (List.replicate (2 ^ t) (0,0,false))) 269,blk sb (gn .u32 (List.replicate r 0)) 47]++(dirA D::L))->Sep.Post emp W (pgA b (S0 D h t r tb sb) D) w:=λ {w D L} H=>by
  have H:St W (λ _=>False) w (all [predA b (S0 D h t r tb sb),dirA D]::L):=St.shut (Rr h1 h2 H);exact H.new 0 rfl
 refine⟨κ,H.ld 3 rfl rfl,aa (λ q=>?_) (λ q=>?_)⟩
 ·have q:κ=2:=by
   have:(κ:Int)=2:=by simpa using q
   omega
  refine⟨B,H.ld 3 rfl rfl,H.calln (Jy w B hB) λ cb w2 H=>⟨_,_,_,rfl,H.st 0 rfl (by show 0<6;omega) λ w3 H=>⟨b,cb,tb,sb,rfl,?_⟩⟩⟩
  have e:D0 κ B cb= .tab false cb B (List.replicate (2 ^ B) 1):=by unfold D0;rw[if_pos q]
  rw[e];exact fin (H.pick [0,1,2,4])
 refine aa (λ q2=>?_) (λ q2=>?_)
 ·have q2:κ=3:=by
   have:(κ:Int)=3:=by simpa using q2
   omega
  refine⟨B,H.ld 3 rfl rfl,H.calln (Jy w B hB) λ cb w2 H=>⟨_,_,_,rfl,?_⟩⟩;rintro vs rfl;refine H.st 0 rfl (by show 0<6;omega) λ w3 H=>⟨b,cb,tb,sb,rfl,?_⟩
  have e:D0 κ B cb= .tab true cb B (List.replicate (2 ^ B) 1):=by unfold D0;rw[if_neg (by omega),if_pos q2]
  rw[e];exact fin (H.pick [0,1,2,4])
 ·have q:¬ (κ:Int)=2:=by simpa using q
  have q2:¬ (κ:Int)=3:=by simpa using q2
  refine⟨κ,H.ld 3 rfl rfl,?_⟩;rintro vs rfl;refine H.st 0 rfl (by show 0<6;omega) λ w3 H=>⟨b,0,tb,sb,rfl,?_⟩
  have e:D0 κ B 0= .fixed ((κ:Int)==1):=by
   unfold D0;rw[if_neg (by omega),if_neg (by omega)];congr 1;rw[Bool.eq_iff_iff];simp;omega
  rw[e];have H:St W (λ _=>False) w3 ([blk b (Wn (Dir.fixed ((κ:Int)==1)).val h t r tb sb) 133,blk tb (rows Di (List.replicate (2 ^ t) (0,0,false))) 269,blk sb (gn .u32 (List.replicate r 0)) 47]++(emp::[])):=(H.pick [0,1,2]).add ⟨trivial,qH _ _,λ _ e=>e.elim⟩;exact fin H
theorem amj (n:Nat) (h:n≤10):IntKind.wrap .i64 (1 * 2 ^ min ((n:Int).toNat) (IntKind.bits .i64))=((2 ^ n:Nat):Int):=Bits.one_shl (by omega)
theorem new_good (W:wD) (κ B h t r:Nat) (hκ:κ≤3) (hB0:1≤B) (hB:B≤10) (hh:h≤B) (ht:t≤8) (h1:1≤r) (h2:r≤16) :
  Calls prog 25 #[.agg (cfgC κ B h t r)] W (Ct W κ B h t r):=by
 refine aoo _ ((St.nil W).al λ k w2 H=>⟨κ,H.ld 0 rfl rfl,H.callp (within_any _ κ 0 3) ⟨_,rfl,aa (λ q=>?_) (λ _=>?_)⟩⟩)
 ·rw[gu (by omega) (by omega)] at q;cases q
 refine⟨B,H.ld 0 rfl rfl,H.callp (within_any _ B 1 10) ⟨_,rfl,aa (λ q=>?_) (λ _=>?_)⟩⟩
 ·rw[gu (by omega) (by omega)] at q;cases q
 refine⟨h,H.ld 0 rfl rfl,B,H.ld 0 rfl rfl,H.callp (within_any _ h 0 _) ⟨_,rfl,aa (λ q=>?_) (λ _=>?_)⟩⟩
 ·rw[gu (by omega) (by split <;> omega)] at q;cases q
 refine⟨t,H.ld 0 rfl rfl,H.callp (within_any _ t 0 8) ⟨_,rfl,aa (λ q=>?_) (λ _=>?_)⟩⟩
 ·rw[gu (by omega) (by omega)] at q;cases q
 refine⟨r,H.ld 0 rfl rfl,H.callp (within_any _ r 1 16) ⟨_,rfl,aa (λ q=>?_) (λ _=>?_)⟩⟩
 ·rw[gu (by omega) (by omega)] at q;cases q
 have hp1:2 ^ h≤2 ^ 10:=qX (by decide) (by omega);have hp2:2 ^ t≤2 ^ 8:=qX (by decide) ht;have hq1:=qMB h;have hq2:=qMB t;refine H.dr λ w8 H=>⟨h,H.ld 0 rfl rfl,by omega,?_⟩;rintro z8 rfl z9 rfl;refine⟨t,H.ld 0 rfl rfl,by omega,?_⟩;rintro z11 rfl;refine⟨r,H.ld 0 rfl rfl,?_⟩
 try dsimp only
 rw[amj h (by omega),amj t (by omega),w64 (e:=((2 ^ h:Nat):Int) - 1) (by omega) (by omega),Bits.sub_pow,qG,qG];have e1:madeCells #[Value.int IntKind.u32 0,Value.int IntKind.u32 0,Value.bool false] (2 ^ t * 3)=rows Di (List.replicate (2 ^ t) (0,0,false)):=xh (f:=Di) (x0:=(0,0,false)) rfl (by decide) _
 have e2:madeCells #[Value.int IntKind.u32 0] (r * 1)=gn .u32 (List.replicate r 0):=by rw[qT];exact iw r
 rw[e1,e2];refine⟨⟨⟨by omega,by omega,by omega,by omega⟩,H.alb λ k2 w9 H _ b9=>⟨b9,⟨by omega,by omega,by omega,by omega⟩,H.alb λ k3 w10 H _ b10=>?_⟩⟩,⟨by omega,by omega,by omega,by omega⟩,H.alb λ k2 w9 H _ b9=>⟨b9,⟨by omega,by omega,by omega,by omega⟩,H.alb λ k3 w10 H _ b10=>?_⟩⟩
 ·have b10:=b9.trans (b10.mono b9.size);refine⟨b10,?_⟩;rintro vs rfl;refine H.alb λ k4 w11 H _ b11=>⟨b10.trans (b11.mono b10.size),Jz hκ hB h1 h2 (H.pick [3,1,2,0])⟩
 ·have b10:=b9.trans (b10.mono b9.size);refine⟨b10,?_⟩;rintro vs rfl;refine H.alb λ k4 w11 H _ b11=>⟨b10.trans (b11.mono b10.size),Jz hκ hB h1 h2 (H.pick [3,2,1,0])⟩
def fits (κ B h t r:Int):Prop:=(0≤κ/\κ≤3)/\(1≤B/\B≤10)/\(0≤h/\h≤10/\h≤B)/\(0≤t/\t≤8)/\1≤r/\r≤16
end Go.Proofs.YtmncepdbglaphaaGreatDoor.pm
