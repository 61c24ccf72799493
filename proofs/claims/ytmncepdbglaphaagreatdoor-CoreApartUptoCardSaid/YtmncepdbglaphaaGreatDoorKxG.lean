/- A core is made. No condition. -/
import Derived.Test.YtmncepdbglaphaaGreatDoorKwVk
set_option linter.unusedVariables false
set_option maxRecDepth 100000
namespace Go.Proofs.YtmncepdbglaphaaGreatDoor.ko
open Go.RowKit Go.XHeap Go.Sx Go.Sep Go.Proofs.Tryz
variable {W w:wD}{L:List Asn}{c:Cf}
theorem Ib (n:Int) (W:wD):Calls prog 21 #[.int .i64 n] W λ e w=>∃ x:Nat×Nat,e=eZ (pZ x.1 0)/\Sep.Post emp W (dj x.1 x.2 ⟨wr n,0,λ _=>none⟩) w:=by
 refine amr n ?_;rintro z rfl;refine(St.nil W).mkm .i64 λ k w2 H=>?_;rintro vs rfl;refine H.al λ k2 w3 H=>⟨(k2,k),rfl,?_⟩;have H:=H.pick [1,0];exact(St.shut (L':=[]) H).new 0 rfl
theorem Xo (n lo hi:Int) (W:wD):Calls prog 13 #[.int .i64 n,.int .i64 lo,.int .i64 hi] W λ e w=>e=eZ (.bool (decide (lo≤n)&&decide (n≤hi)))/\w=W :=
 aov n lo hi (aa (λ q=>⟨by have:decide (lo≤n)=true:=q;rw[this];rfl,rfl⟩) (λ q=>⟨by have:decide (lo≤n)=false:=q;rw[this];rfl,rfl⟩))
theorem tt {n lo hi:Int} (h:lo≤n/\n≤hi) (W:wD):Calls prog 13 #[.int .i64 n,.int .i64 lo,.int .i64 hi] W λ e w=>e=eZ (.bool true)/\w=W:=by
 have:=Xo n lo hi W;rw[qI h.1,qI h.2] at this;exact this
theorem Th (hc:c.Whole) (W:wD):Calls prog 20 #[.agg c.cells.toArray] W λ e w=>e=eZ .nilIface/\ba W w:=by
 refine aow c.cells.toArray ((St.nil W).al λ k w2 H=>⟨c.width,H.ld 0 rfl rfl,H.callp (tt hc.wd _) ⟨_,rfl,aa (λ q=>by cases q) (λ _=>?_)⟩⟩);refine⟨c.units,H.ld 0 rfl rfl,H.callp (tt hc.u _) ⟨_,rfl,aa (λ q=>by cases q) (λ _=>?_)⟩⟩;refine⟨c.mul,H.ld 0 rfl rfl,H.callp (tt hc.m _) ⟨_,rfl,aa (λ q=>by cases q) (λ _=>?_)⟩⟩;exact⟨c.bus,H.ld 0 rfl rfl,H.callp (tt hc.bus _) ⟨_,rfl,aa (λ q=>by cases q) (λ _=>⟨rfl,H.quiet'⟩)⟩⟩
structure Mk where
 x:Nat
 wb:Nat
 w:win.WS
 nb:Nat
 ub:Nat
 np:OA
 nc:Nat
 qb:Nat
 gb:Nat
 cb:Nat
 tgb:Nat
 sb:Nat
 rb:Nat
 mb:Nat
 vb:Nat
def root0 (c:Cf) (num:Nat) (cp:OA) (n cc:Nat) (dlen:Int) (bb tb:Nat) (pr pw pn pq pp:OA) (vs:Value):AV:=#[.pointer pw,.pointer pn,.pointer pq,.pointer pp,.pointer pr,pZ bb 0,pZ tb 0,vs,
 .int .i64 c.width,.int .i64 c.window,.int .i64 c.queue,.int .i64 c.regs,.int .i64 c.units,.int .i64 c.mul,.bool c.bold,.int .i64 c.kind,.int .i64 c.bits,.int .i64 c.hist,.int .i64 c.tgts,.int .i64 c.rets,.int .i64 c.sets,.int .i64 c.ways,.int .i64 c.bus,
 .int .i64 num,.slice cp n cc,.int .i64 dlen,.int .u32 0,.int .u32 0,.slice none 0 0,.int .i64 0,.bool false,.bool false,.int .u32 0,.bool false]
def cfC (c:Cf):AV:=#[.int .i64 c.width,.int .i64 c.window,.int .i64 c.queue,.int .i64 c.regs,.int .i64 c.units,.int .i64 c.mul,.bool c.bold,.int .i64 c.kind,.int .i64 c.bits,.int .i64 c.hist,.int .i64 c.tgts,.int .i64 c.rets,.int .i64 c.sets,.int .i64 c.ways,.int .i64 c.bus]
theorem Ti (c:Cf):c.cells.toArray=cfC c:=rfl
def Mk.root (y:Mk) (c:Cf) (num:Nat) (cp:OA) (n cc:Nat) (dlen:Int) (bb tb:Nat):AV:=root0 c num cp n cc dlen bb tb (some ⟨y.rb,0,none⟩) (some ⟨y.wb,0,none⟩) (some ⟨y.nb,0,none⟩) (some ⟨y.qb,0,none⟩) (some ⟨y.gb,0,none⟩) (.slice (some ⟨y.vb,0,none⟩) c.regs.toNat c.regs.toNat)
def Mk.dir (y:Mk) (c:Cf):pm.Dir:=pm.D0 c.kind.toNat c.bits.toNat y.cb
def Mk.ps (y:Mk) (c:Cf):pm.PS:=pm.S0 (y.dir c) c.hist.toNat c.tgts.toNat c.rets.toNat y.tgb y.sb
def Mk.pieces (y:Mk) (c:Cf) (num:Nat) (cp:OA) (n cc:Nat) (dlen:Int) (bb tb:Nat):List Asn:=[blk y.x (y.root c num cp n cc dlen bb tb) 92,win.winA y.wb y.w,rm.nmA y.nb y.ub y.np y.nc (rm.Nm0 c.regs.toNat c.regs.toNat),lsq.qA y.qb ⟨c.queue.toNat,none,0,[]⟩,pm.pgA y.gb (y.ps c) (y.dir c),dj y.rb y.mb ⟨wr num,0,λ _=>none⟩,blk y.vb (gn .u32 (List.replicate c.regs.toNat 0)) 47]
set_option maxHeartbeats 1000000 in
theorem Ic (hc:c.Whole) (W:wD) (num:Nat) (cp:OA) (n cc:Nat) (dlen:Int) (bb tb:Nat) :
  Calls prog 16 #[.int .i64 num,.slice cp n cc,.int .i64 dlen,.agg c.cells.toArray,pZ bb 0,pZ tb 0] W λ e w=>∃ y:{ y:Mk // y.w.Fresh c.window.toNat c.regs.toNat },e=eY #[pZ y.1.x 0,.nilIface]/\Sep.Post emp W (all (y.1.pieces c num cp n cc dlen bb tb)) w:=by
 have h1:=hc.wn;have h2:=hc.q;have h3:=hc.r;have h4:=hc.kind;have h5:=hc.bits;have h6:=hc.hist;have h7:=hc.tgts;have h8:=hc.rets
 have eW:((c.window.toNat:Nat):Int)=c.window:=by omega
 have eQ:((c.queue.toNat:Nat):Int)=c.queue:=by omega
 have eR:((c.regs.toNat:Nat):Int)=c.regs:=by omega
 have eM:(if 34 > c.regs then 34 else c.regs)=c.regs:=by rw[if_neg (by omega)]
 rw[Ti];refine aqk num cp n cc dlen (cfC c) bb 0 tb 0 ((St.nil W).al λ k w2 H=>⟨cfC c,rfl,H.cells 0 rfl,?_⟩);rw[<- Ti];refine H.callq (Th hc w2) λ w3 H=>⟨_,rfl,jk (aa (λ q=>by cases q) (λ _=>⟨cfC c,rfl,H.cells 0 rfl,rfl,?_⟩))⟩;rintro vs3 rfl;refine H.al λ k2 w4 H=>H.st 1 rfl (by show 5<34;omega) λ w5 H=>H.st 1 rfl (by show 6<34;omega) λ w6 H=>?_;refine H.calln (Ib num w6) λ rx w7 H=>⟨_,rfl,H.st 1 rfl (by show 4<34;omega) λ w8 H=>H.al λ k3 w9 H=>?_⟩;have H:St W (λ _=>False) w9 [blk k (cfC c) 32,blk k2 (root0 c num cp n cc dlen bb tb (some ⟨rx.1,0,none⟩) none none none none (.slice none 0 0)) 92,dj rx.1 rx.2 ⟨wr num,0,λ _=>none⟩,blk k3 #[.nilIface,.nilIface,.nilIface,.nilIface] 94]:=H;refine⟨c.window,H.ld 0 rfl rfl,c.regs,H.ld 0 rfl rfl,?_⟩;show Calls _ _ _ _ _;rw[eM];have hwin:=win.wnew_good w9 c.window.toNat c.regs.toNat (by rw[eW,eR];exact⟨by omega,by omega,by omega,by omega⟩);rw[eW,eR] at hwin;refine H.calln hwin λ wx w10 H=>⟨_,_,rfl,H.st 1 rfl (by show 0<34;omega) λ w11 H=>⟨⟨by decide,by decide⟩,H.st 3 rfl (by show 0<4;omega) λ w12 H=>?_⟩⟩;have hnm:=rm.rnew_any w12 c.regs.toNat (by omega);rw[eR] at hnm;refine⟨c.regs,H.ld 0 rfl rfl,H.calln hnm λ nx w13 H=>⟨_,_,rfl,H.st 1 rfl (by show 1<34;omega) λ w14 H=>⟨⟨by decide,by decide⟩,H.st 3 rfl (by show 1<4;omega) λ w15 H=>?_⟩⟩⟩;have hqn:=lsq.qnew_good w15 c.queue.toNat (by omega);rw[eQ] at hqn;refine⟨c.queue,H.ld 0 rfl rfl,H.calln hqn λ qx w16 H=>⟨_,_,rfl,H.st 1 rfl (by show 2<34;omega) λ w17 H=>⟨⟨by decide,by decide⟩,H.st 3 rfl (by show 2<4;omega) λ w18 H=>?_⟩⟩⟩
 have hpn:Calls prog 25 #[.agg (pm.cfgC c.kind c.bits c.hist c.tgts c.rets)] w18 λ e w=>∃ z:(Nat×Nat)×(Nat×Nat),e=eY #[pZ z.1.1 0,.nilIface]/\Sep.Post emp w18 (pm.pgA z.1.1 (pm.S0 (pm.D0 c.kind.toNat c.bits.toNat z.1.2) c.hist.toNat c.tgts.toNat c.rets.toNat z.2.1 z.2.2) (pm.D0 c.kind.toNat c.bits.toNat z.1.2)) w:=by
  have:=pm.new_good w18 c.kind.toNat c.bits.toNat c.hist.toNat c.tgts.toNat c.rets.toNat (by omega) (by omega) (by omega) (by omega) (by omega) (by omega) (by omega);rw[show((c.kind.toNat:Nat):Int)=c.kind by omega,show((c.bits.toNat:Nat):Int)=c.bits by omega,show((c.hist.toNat:Nat):Int)=c.hist by omega,show((c.tgts.toNat:Nat):Int)=c.tgts by omega,show((c.rets.toNat:Nat):Int)=c.rets by omega] at this;exact this.mono λ e w ⟨b,cb,tb,sb,h1,h2⟩=>⟨((b,cb),(tb,sb)),h1,h2⟩
 refine⟨pm.cfgC c.kind c.bits c.hist c.tgts c.rets,rfl,H.lds 0 rfl (λ i u hu=>?_),H.calln hpn λ px w19 H=>⟨_,_,rfl,H.st 1 rfl (by show 3<34;omega) λ w20 H=>⟨⟨by decide,by decide⟩,H.st 3 rfl (by show 3<4;omega) λ w21 H=>?_⟩⟩⟩
 ·rcases i with _ | _ | _ | _ | _ | i
  ·exact hu
  ·exact hu
  ·exact hu
  ·exact hu
  ·exact hu
  ·cases hu
 refine⟨#[.nilIface,.nilIface,.nilIface,.nilIface],rfl,H.cells 3 rfl,λ i A=>∃ m:Nat,i=m/\m≤4/\A=w21,λ i _=>4 - i.toNat,⟨0,rfl,by decide,rfl⟩,λ _=>?_⟩;rintro i w22 ⟨m,rfl,hm,rfl⟩;refine aa (λ q=>?_) (λ q=>?_)
 ·have q:=qB q;refine⟨⟨by omega,q⟩,.nilIface,?_,jk (aa (λ q=>by cases q) (λ _=>?_))⟩
  ·rw[qT,qG];rcases(by omega:m=0∨m=1∨m=2∨m=3) with rfl | rfl | rfl | rfl <;> rfl
  ·rintro z5 rfl;rw[w64 (by omega) (by omega)];exact⟨⟨m+1,by omega,by omega,rfl⟩,by show 4 - ((m:Int)+1).toNat<4 - (m:Int).toNat;omega⟩
 ·refine⟨c.regs,H.ld 0 rfl rfl,⟨by omega,by omega,by omega,by omega⟩,H.al λ k4 w23 H=>H.st 1 rfl (by show 7<34;omega) λ w24 H=>?_⟩;rw[qT,iw] at H;refine⟨⟨⟨k2,wx.1.1,wx.1.2,nx.1.1,nx.1.2,nx.2.1,nx.2.2,qx,px.1.1,px.1.2,px.2.1,px.2.2,rx.1,rx.2,k4⟩,wx.2⟩,rfl,?_⟩;have H:=H.pick [1,4,5,6,7,2,8];exact(St.shut (L':=[]) H).new 0 rfl
end Go.Proofs.YtmncepdbglaphaaGreatDoor.ko
namespace Go.Proofs.YtmncepdbglaphaaGreatDoor
open Go Go.Proofs Go.Proofs.Tryz Go.V
variable {W:wD}{Q:Ending->wD->Prop}
set_option maxHeartbeats 1000000
theorem aqm (y0:OA) (arg0n:Nat) (arg0c:Nat) (y1:OA) (arg1n:Nat) (arg1c:Nat) (y2:Int)
 (hVC:alc W #[.bool false,oi,.slice none 0 0,.string (.mk #[]),.slice none 0 0,.slice none 0 0] 38 λ k W2=>ixs 0 arg0n y0 λ k2 k3=>ldP W2 k2 (k3+0) λ p=>Sx.ptr p λ a=>∃ p2:OA,World.cell? W2 (Addr.add (Addr.add a 0) 6)=some (.pointer p2)/\∃ I:wD->Prop,(sto W2 k (0+1) (Value.int .i64 0) λ W3=>∃ I2:wD->Prop,∃ I3:wD->Nat,I2 W3/\(wv (∀ W4,I2 W4->ldI .i64 W4 k (0+1) λ z=>Sx.split (decide (z<y2)) (ldB W4 k 0 λ t=>Sx.split (!t) (ixs 0 arg0n y0 λ k4 k5=>ldP W4 k4 (k5+0) λ p3=>Sx.ptr p3 λ a2=>∃ p4:OA,World.cell? W4 (Addr.add (Addr.add a2 0) 5)=some (.pointer p4)/\rL prog 26 #[.pointer p4] W4 λ p5 k6 k7 W5=>sto W5 k 0 (Value.bool true) λ W6=>∃ I4:Int->wD->Prop,∃ I5:Int->wD->Nat,I4 0 W6/\(wv (∀ x W7,I4 x W7->Sx.split (decide (x<(↑arg0n:Int))) (ixs x arg0n y0 λ k8 k9=>ldP W7 k8 (k9+x.toNat * 1) λ p6=>ldI .i64 W7 k (0+1) λ z2=>Sx.ptr p6 λ a3=>rh W7 (a3.add 29) (Value.int .i64 z2) λ W8=>ixs x arg1n y1 λ k10 k11=>ldL W8 k10 (k11+x.toNat * 1) λ p7 k12 k13=>∃ I6:Int->wD->Prop,∃ I7:Int->wD->Nat,I6 0 W8/\(wv (∀ x2 W9,I6 x2 W9->Sx.split (decide (x2<(↑k12:Int))) (ixs x2 k12 p7 λ k14 k15=>ldI .i64 W9 k14 (k15+x2.toNat * 1) λ z3=>dw W9 λ W10=>Sx.ptr p6 λ a4=>ud W10 (a4.add 30) λ t2=>ldI .i64 W10 k (0+1) λ z4=>Sx.ptr p6 λ a5=>rh W10 (a5.add 30) (Value.bool (!(t2==(z3==z4)))) λ W11=>nw .i64 (x2+1) λ z5=>I6 z5 W11/\I7 z5 W11<I7 x2 W9) (rU prog 27 #[.pointer p6,.slice p5 k6 k7] W9 λ W12=>rU prog 28 #[.pointer p6] W12 λ W13=>ldB W13 k 0 λ t3=>Sx.split t3 (rB prog 29 #[.pointer p6] W13 λ t4 W14=>sto W14 k 0 (Value.bool t4) λ W15=>nw .i64 (x+1) λ z6=>I4 z6 W15/\I5 z6 W15<I5 x W7) (sto W13 k 0 (Value.bool false) λ W16=>nw .i64 (x+1) λ z7=>I4 z7 W16/\I5 z7 W16<I5 x W7))))) (ldI .i64 W7 k (0+1) λ z8=>nw .i64 (z8+1) λ z9=>sto W7 k (0+1) (Value.int .i64 z9) λ W17=>I2 W17/\I3 W17<I3 W4)))) (I W4)) (I W4))))/\(wv (∀ W18,I W18->∃ I8:Int->wD->Prop,∃ I9:Int->wD->Nat,I8 0 W18/\(wv (∀ x3 W19,I8 x3 W19->Sx.split (decide (x3<(↑arg0n:Int))) (ixs x3 arg0n y0 λ k16 k17=>ldP W19 k16 (k17+x3.toNat * 1) λ p8=>alc W19 #[ou,ou,ou,ou,ou,ou,ou,ou,ou,ou,ou,ou,ou,ou,ou,ou,ou,ou,ou,ou,ou,ou,ou,ou,ou,ou,ou,ou,ou,ou,ou,ou] 58 λ k18 W20=>∃ I10:Int->wD->Prop,∃ I11:Int->wD->Nat,I10 0 W20/\(wv (∀ x4 W21,I10 x4 W21->Sx.split (decide (x4<32)) (rI prog .u32 30 #[.pointer p8,.int .i64 x4] W21 λ z10 W22=>((0:Int)≤x4/\x4<(↑32:Int))/\sto W22 k18 (0+x4.toNat * 1) (Value.int .u32 z10) λ W23=>nw .i64 (x4+1) λ z11=>I10 z11 W23/\I11 z11 W23<I11 x4 W21) (ldL W21 k (0+4) λ p9 k19 k20=>ldN W21 k18 0 32 λ vs=>Array.size vs=32/\alc W21 (List.toArray (Array.toList vs++[])) 58 λ k21 W24=>apn W24 58 32 p9 k19 k20 1 (some ⟨k21,0,none⟩) 128 λ p10 k23 W25=>sto W25 k (0+4) (Value.slice p10 (k19+1) k23) λ W26=>nw .i64 (x3+1) λ z12=>I8 z12 W26/\I9 z12 W26<I9 x3 W19)))) (∃ I12:wD->Prop,(dw W19 λ W27=>Sx.ptr p2 λ a7=>Sx.ptr p2 λ a8=>ixs 0 arg0n y0 λ k26 k27=>ldP W27 k26 (k27+0) λ p11=>Sx.ptr p11 λ a9=>∃ p12:OA,World.cell? W27 (Addr.add (Addr.add a9 0) 5)=some (.pointer p12)/\(zu W27 (a7.add 0) λ p13 k28 k29=>bw W27 W27/\(zu W27 (a8.add 1) λ p14 k30 k31=>bw W27 W27/\(∃ l3:LI,Sx.Bts W27 p14 k30 l3/\bw W27 W27/\rL prog 31 #[.pointer p12] W27 λ p15 k32 k33 W28=>sto W28 k (0+2) (Value.slice p13 k28 k29) λ W29=>sto W29 k (0+3) (Value.string (Sx.bstr l3)) λ W30=>sto W30 k (0+5) (Value.slice p15 k32 k33) λ W31=>I12 W31)/\rL prog 31 #[.pointer p12] W27 λ p16 k34 k35 W32=>(∃ l4:LI,Sx.Bts W32 p14 k30 l4/\sto W32 k (0+2) (Value.slice p13 k28 k29) λ W33=>sto W33 k (0+3) (Value.string (Sx.bstr l4)) λ W34=>sto W34 k (0+5) (Value.slice p16 k34 k35) λ W35=>I12 W35)/\sto W32 k (0+2) (Value.slice p13 k28 k29) λ W36=>∃ l5:LI,Sx.Bts W36 p14 k30 l5/\sto W36 k (0+3) (Value.string (Sx.bstr l5)) λ W37=>sto W37 k (0+5) (Value.slice p16 k34 k35) λ W38=>I12 W38)/\rL prog 31 #[.pointer p12] W27 λ p17 k36 k37 W39=>(zu W39 (a8.add 1) λ p18 k38 k39=>(∃ l6:LI,Sx.Bts W39 p18 k38 l6/\sto W39 k (0+2) (Value.slice p13 k28 k29) λ W40=>sto W40 k (0+3) (Value.string (Sx.bstr l6)) λ W41=>sto W41 k (0+5) (Value.slice p17 k36 k37) λ W42=>I12 W42)/\sto W39 k (0+2) (Value.slice p13 k28 k29) λ W43=>∃ l7:LI,Sx.Bts W43 p18 k38 l7/\sto W43 k (0+3) (Value.string (Sx.bstr l7)) λ W44=>sto W44 k (0+5) (Value.slice p17 k36 k37) λ W45=>I12 W45)/\sto W39 k (0+2) (Value.slice p13 k28 k29) λ W46=>zu W46 (a8.add 1) λ p19 k40 k41=>∃ l8:LI,Sx.Bts W46 p19 k40 l8/\sto W46 k (0+3) (Value.string (Sx.bstr l8)) λ W47=>sto W47 k (0+5) (Value.slice p17 k36 k37) λ W48=>I12 W48)/\(zu W27 (a8.add 1) λ p20 k42 k43=>bw W27 W27/\(zu W27 (a7.add 0) λ p21 k44 k45=>bw W27 W27/\(∃ l9:LI,Sx.Bts W27 p20 k42 l9/\bw W27 W27/\rL prog 31 #[.pointer p12] W27 λ p22 k46 k47 W49=>sto W49 k (0+2) (Value.slice p21 k44 k45) λ W50=>sto W50 k (0+3) (Value.string (Sx.bstr l9)) λ W51=>sto W51 k (0+5) (Value.slice p22 k46 k47) λ W52=>I12 W52)/\rL prog 31 #[.pointer p12] W27 λ p23 k48 k49 W53=>(∃ l10:LI,Sx.Bts W53 p20 k42 l10/\sto W53 k (0+2) (Value.slice p21 k44 k45) λ W54=>sto W54 k (0+3) (Value.string (Sx.bstr l10)) λ W55=>sto W55 k (0+5) (Value.slice p23 k48 k49) λ W56=>I12 W56)/\sto W53 k (0+2) (Value.slice p21 k44 k45) λ W57=>∃ l11:LI,Sx.Bts W57 p20 k42 l11/\sto W57 k (0+3) (Value.string (Sx.bstr l11)) λ W58=>sto W58 k (0+5) (Value.slice p23 k48 k49) λ W59=>I12 W59)/\(∃ l12:LI,Sx.Bts W27 p20 k42 l12/\bw W27 W27/\(zu W27 (a7.add 0) λ p24 k50 k51=>bw W27 W27/\rL prog 31 #[.pointer p12] W27 λ p25 k52 k53 W60=>sto W60 k (0+2) (Value.slice p24 k50 k51) λ W61=>sto W61 k (0+3) (Value.string (Sx.bstr l12)) λ W62=>sto W62 k (0+5) (Value.slice p25 k52 k53) λ W63=>I12 W63)/\rL prog 31 #[.pointer p12] W27 λ p26 k54 k55 W64=>zu W64 (a7.add 0) λ p27 k56 k57=>sto W64 k (0+2) (Value.slice p27 k56 k57) λ W65=>sto W65 k (0+3) (Value.string (Sx.bstr l12)) λ W66=>sto W66 k (0+5) (Value.slice p26 k54 k55) λ W67=>I12 W67)/\rL prog 31 #[.pointer p12] W27 λ p28 k58 k59 W68=>(zu W68 (a7.add 0) λ p29 k60 k61=>(∃ l13:LI,Sx.Bts W68 p20 k42 l13/\sto W68 k (0+2) (Value.slice p29 k60 k61) λ W69=>sto W69 k (0+3) (Value.string (Sx.bstr l13)) λ W70=>sto W70 k (0+5) (Value.slice p28 k58 k59) λ W71=>I12 W71)/\sto W68 k (0+2) (Value.slice p29 k60 k61) λ W72=>∃ l14:LI,Sx.Bts W72 p20 k42 l14/\sto W72 k (0+3) (Value.string (Sx.bstr l14)) λ W73=>sto W73 k (0+5) (Value.slice p28 k58 k59) λ W74=>I12 W74)/\∃ l15:LI,Sx.Bts W68 p20 k42 l15/\zu W68 (a7.add 0) λ p30 k62 k63=>sto W68 k (0+2) (Value.slice p30 k62 k63) λ W75=>sto W75 k (0+3) (Value.string (Sx.bstr l15)) λ W76=>sto W76 k (0+5) (Value.slice p28 k58 k59) λ W77=>I12 W77)/\rL prog 31 #[.pointer p12] W27 λ p31 k64 k65 W78=>(zu W78 (a7.add 0) λ p32 k66 k67=>(zu W78 (a8.add 1) λ p33 k68 k69=>(∃ l16:LI,Sx.Bts W78 p33 k68 l16/\sto W78 k (0+2) (Value.slice p32 k66 k67) λ W79=>sto W79 k (0+3) (Value.string (Sx.bstr l16)) λ W80=>sto W80 k (0+5) (Value.slice p31 k64 k65) λ W81=>I12 W81)/\sto W78 k (0+2) (Value.slice p32 k66 k67) λ W82=>∃ l17:LI,Sx.Bts W82 p33 k68 l17/\sto W82 k (0+3) (Value.string (Sx.bstr l17)) λ W83=>sto W83 k (0+5) (Value.slice p31 k64 k65) λ W84=>I12 W84)/\sto W78 k (0+2) (Value.slice p32 k66 k67) λ W85=>zu W85 (a8.add 1) λ p34 k70 k71=>∃ l18:LI,Sx.Bts W85 p34 k70 l18/\sto W85 k (0+3) (Value.string (Sx.bstr l18)) λ W86=>sto W86 k (0+5) (Value.slice p31 k64 k65) λ W87=>I12 W87)/\zu W78 (a8.add 1) λ p35 k72 k73=>(zu W78 (a7.add 0) λ p36 k74 k75=>(∃ l19:LI,Sx.Bts W78 p35 k72 l19/\sto W78 k (0+2) (Value.slice p36 k74 k75) λ W88=>sto W88 k (0+3) (Value.string (Sx.bstr l19)) λ W89=>sto W89 k (0+5) (Value.slice p31 k64 k65) λ W90=>I12 W90)/\sto W78 k (0+2) (Value.slice p36 k74 k75) λ W91=>∃ l20:LI,Sx.Bts W91 p35 k72 l20/\sto W91 k (0+3) (Value.string (Sx.bstr l20)) λ W92=>sto W92 k (0+5) (Value.slice p31 k64 k65) λ W93=>I12 W93)/\∃ l21:LI,Sx.Bts W78 p35 k72 l21/\zu W78 (a7.add 0) λ p37 k76 k77=>sto W78 k (0+2) (Value.slice p37 k76 k77) λ W94=>sto W94 k (0+3) (Value.string (Sx.bstr l21)) λ W95=>sto W95 k (0+5) (Value.slice p31 k64 k65) λ W96=>I12 W96)/\(wv (∀ W97,I12 W97->ldN W97 k 0 6 λ vs2=>ct W97 k 0 6 vs2 λ W98=>ldN W98 k 0 6 λ vs3=>Q (eZ (.agg vs3)) W98)))))))) :
 Calls prog 17 #[.slice y0 arg0n arg0c,.slice y1 arg1n arg1c,.int .i64 y2] W Q :=
 Sx.sd func17 (.r (.r (.node [] [0,6,7] 1 (.r (.n (.node [] [6,2,0,1,7] 0 (.r (.n (.n (.r (.r (.r (.n (.node [(49,.int .i64)] [48,47,6,1,8,2,0,7] 0 (.r (.r (.n (.n (.r (.r (.n (.r (.n (.node [(64,.int .i64)] [63,62,10,6,8,49,48,47,1,2,0,7] 0 (.r (.r (.q (.q (.r (.h 13)))))) .leaf) .leaf)) .leaf))) .leaf) .leaf))) .leaf) .leaf)))) .leaf) .leaf)) .leaf) .leaf)) (.n (.r (.n (.node [(96,.int .i64)] [95,94,6,7,0] 0 (.r (.r (.n (.n (.r (.r (.q (.r (.q (.node [(100,.int .i64)] [14,15,6,96,95,94,7,0] 0 .leaf .leaf)))))) .leaf) .leaf))) .leaf) .leaf)) (.node [] [6] 1 (.h 1017) .leaf))))) hVC
end Go.Proofs.YtmncepdbglaphaaGreatDoor
namespace Go.Proofs.YtmncepdbglaphaaGreatDoor.ko
open Go.RowKit Go.XHeap Go.Sx Go.Sep Go.Proofs.Tryz
variable {W w:wD}{A:Ka}{M M1 M2:Km}{L:List Asn}{n m:Nat}{S:Nat->Prop}
def vp (en:Bool) (cy:Int) (ev out rg da:Value):AV:=#[.bool en,.int .i64 cy,ev,out,rg,da]
theorem ux (en:Bool) (cy:Int){ev out rg da:Value} (h1:ev.oneCell'=true) (h2:out.oneCell'=true) (h3:rg.oneCell'=true) (h4:da.oneCell'=true):∀ v ∈ (vp en cy ev out rg da).toList,v.oneCell'=true:=by
 intro v hv;simp only[vp,qp,qFB,or_false] at hv;rcases hv with rfl | rfl | rfl | rfl | rfl | rfl
 ·rfl
 ·rfl
 ·exact h1
 ·exact h2
 ·exact h3
 ·exact h4
def ge:Value:=.slice none 0 0
def jf:Value:=.string (ByteArray.mk #[])
def msr (n k:Nat) (w:wD):Nat:=match w.cell? ⟨k,1,none⟩ with
 | some (.int _ z)=>((n:Int) - z).toNat
 | _=>0
theorem Zg {n k:Nat}{z:Int}{κ:IntKind} (h:w.cell? ⟨k,1,none⟩=some (.int κ z)):msr n k w=((n:Int) - z).toNat:=by unfold msr;rw[h]
def Km.tk (M:Km) (t:Int) (l:Bool):Km:={ M with K:={ M.K with cycle:=t,line:=l } }
theorem Km.Rep.tk (h:M.Rep A) (t:Int) (l:Bool):(M.tk t l).Rep A:=⟨h.win,h.q,h.qs,h.pr,h.fn,h.fd,h.fk,h.fl,h.bus,h.gs,h.bg,h.oth⟩
theorem Tj (ls:LI) (t:Int) (l:Bool){m:Nat} (hm:m<ls.length):vo (ls.take (m+1)) t l=(vo (ls.take m) t l !=(ls.getD m 0==t)):=by
 unfold vo;rw[qdB hm,qwB,qF,qC hm];rfl
theorem Tk {P1 P2:Asn} (H:St W S w (M.pieces A++[P1,P2])) (hR:M.Rep A) (hI:Inv A.C n [] M.K) (hn:n+1≤1000000000000){Q:Ending->wD->Prop}
  (hq:∀ (p:OA) (c:Nat) w',St W S w' ((M.bs M.S.tick.S).pieces A++[P1,P2,cbus.outA p c M.K.bus.tick.out])->(M.bs M.S.tick.S).Rep A->(M.bs M.S.tick.S).K={ M.K with bus:=M.K.bus.tick.S }->M.K.bus.tick.out.length≤4/\(∀ x ∈ M.K.bus.tick.out,x.addr<4294967296)->Q (eZ (.slice p M.K.bus.tick.out.length c)) w') :
  Calls prog 26 #[pZ A.bb 0] w Q:=by
 have hok:=Inv.bok hI hR;obtain⟨h1,h2,h3,h4⟩:=cbus.tick_ok' hok (by omega);have hadr:=cbus.tick_addr hok
 have et:M.K.bus.tick=yi M.S.tick:=by rw[hR.bus,adk]
 have eo:M.K.bus.tick.out=M.S.tick.out:=by rw[et];rfl
 rw[eo] at hq;refine H.callx 13 rfl (cbus.tick_any (H.nth 13 rfl) hok (by omega) hR.bg) λ z w' H=>?_;have H:=St.open_ (H.pick [13,0,1,2,3,4,5,6,7,8,9,10,11,12,14,15,16,17]);have H:=H.pick [2,3,4,5,6,7,8,9,10,11,12,13,14,0,15,16,17,18,1];refine hq z.1 z.2 w' ?_ (hR.bs (Mm h1) h2) ?_ ⟨h4,hadr⟩
 ·exact H
 ·show({ M.K with bus:=bNorm M.S.tick.S }:Ko)=_;rw[et];rfl
structure RO where
 ep:OA
 ec:Nat
 rp:OA
 rc:Nat
 dp:OA
 dc:Nat
def ni (K:Ko):LI:=(List.range 32).map λ i:Nat=>K.committed (i:Int)
def Xp (R:Ko×Nat×Bool) (ro:RO):AV:=vp R.2.2 (R.2.1:Nat) (.slice ro.ep R.1.evs.length ro.ec) (.string (Sx.bstr R.1.out)) (.slice ro.rp 1 ro.rc) (.slice ro.dp R.1.bus.data.length ro.dc)
def Xq (R:Ko×Nat×Bool) (ro:RO):List Asn:=[sl 57 12 (.slice ro.ep R.1.evs.length ro.ec) R.1.evs.length (R.1.evs.flatMap Ev.cells),sl 58 32 (.slice ro.rp 1 ro.rc) 1 (u32s (ni R.1)),sl 5 1 (.slice ro.dp R.1.bus.data.length ro.dc) R.1.bus.data.length (cbus.u8n R.1.bus.data)]
def afd (A:Ka) (M:Km) (lb:Nat) (lv:Value):List Asn:=[ae A M,blk lb #[lv] 26]
theorem ahj {p:OA}{m c:Nat}{l:LI} (h:Sl w 5 1 (.slice p m c) m (zd l)):Sx.Bts w p m l:=by
 obtain⟨ao,cap,hv,hl, -, -, -,hc⟩:=h.open1;cases hv;unfold zd at hl;rw[qd] at hl;refine⟨hl,λ h0=>?_⟩;obtain⟨g,off,e, -,hcc⟩:=hc h0;refine⟨g,off,e,λ i x hx=>?_⟩;rw[(hcc i (by rw[<- hl];exact(qD.1 hx).1)).1];unfold zd;rw[qS,hx];rfl
theorem Xr (l:LI) (k:Nat) (v:Int):(u32s (l.set k v)).toArray=(u32s l).toArray.setIfInBounds k (.int .u32 v):=by
 unfold u32s;rw[qtB];simp
def Ty (K:Ko) (m:Nat):LI:=(List.range 32).map λ i:Nat=>if i<m then K.committed (i:Int) else 0
theorem ahk (K:Ko) (m:Nat):(Ty K m).length=32:=by unfold Ty;simp
theorem ahl (K:Ko){m:Nat} (hm:m<32):(Ty K m).set m (K.committed (m:Int))=Ty K (m+1) :=
 rm.map_set_range _ _ 32 m _ hm (if_pos (Nat.lt_succ_self m)) (λ i hi=>by
  by_cases h:i<m
  ·rw[if_pos h,if_pos (by omega)]
  ·rw[if_neg h,if_neg (by omega)])
theorem ahm (K:Ko):Ty K 32=ni K:=by
 unfold Ty ni;apply qlB;intro i hi;rw[if_pos (qNB.1 hi)]
set_option maxHeartbeats 4000000 in
theorem Tl {lb lc:Nat}{lp:OA}{ls:LI} (h:(all (afd A M lb (.slice lp ls.length lc))).at_ W) (hA:A.Ok) (hs:Solo A) (hL:Sl A.B 3 1 (.slice lp ls.length lc) ls.length (win.intsV ls)) (hlow:∀ q,(Value.slice lp ls.length lc).ownBlock=some q->q<A.B.heap.size) (hR:M.Rep A) (hI:Inv A.C 0 [] M.K) (hn:n≤1000) (hls:ls.length≤1000000000) :
  Calls prog 17 #[.slice A.sp 1 A.sc,.slice (some ⟨lb,0,none⟩) 1 1,.int .i64 n] W λ e w=>∃ ro:RO,e=eZ (.agg (Xp (Ko.run A.C ls n M.K 0) ro))/\Sep.Post (all (afd A M lb (.slice lp ls.length lc))) W (all (br A.B::Xq (Ko.run A.C ls n M.K 0) ro)) w:=by
 obtain⟨S,hS⟩:∃ S,(all (afd A M lb (.slice lp ls.length lc))).own=S:=⟨_,rfl⟩;obtain⟨R,hRun⟩:∃ R,Ko.run A.C ls n M.K 0=R:=⟨_,rfl⟩
 have H:St W S W (M.pieces A++[blk lb #[.slice lp ls.length lc] 26]):=by rw[<- hS];exact((St.begin h).open_:St W _ W (afd A M lb (.slice lp ls.length lc)++[])).open_
 have hcl:A.cores.length=1:=by rw[hs.cores];rfl
 obtain⟨g,o,hsp, -⟩:=ti (H.nth 14 rfl) (show A.cores[0]?=some A.x by rw[hs.cores];rfl)
 have cX:∀ {B:wD} {M1:Km} {L:List Asn},St W S B (M1.pieces A++L)->B.cell? ⟨g,o+0,none⟩=some (pZ A.x 0):=λ H=>by
  obtain⟨g',o',e,hc⟩:=ti (H.nth 14 rfl) (show A.cores[0]?=some A.x by rw[hs.cores];rfl);rw[hsp] at e;cases e;exact hc
 have ad:∀ {φ:Nat->Nat->Prop},φ g o->Sx.adr A.sp φ:=λ h=>by rw[hsp];exact adr_some h
 have lsl:∀ {B:wD} {M1:Km} {L:List Asn},St W S B (M1.pieces A++L)->Sl B 3 1 (.slice lp ls.length lc) ls.length (win.intsV ls):=λ H=>hL.keep (H.nth 1 rfl:(br A.B).at_ _).2 (λ q hq=>by have:=hlow q hq;omega);refine aqm A.sp 1 A.sc (some ⟨lb,0,none⟩) 1 1 n (H.al λ k w2 H=>⟨⟨by decide,by decide⟩,ad ⟨_,cX (L:=[blk lb #[.slice lp ls.length lc] 26,blk k _ 38]) H,ptr_some ⟨some ⟨A.tb,0,none⟩,by rw[ac,ac];exact H.ld 0 rfl rfl,?_⟩⟩⟩);have H:St W S w2 (M.pieces A++[blk lb #[.slice lp ls.length lc] 26,blk k (vp false 0 ge jf ge ge) 38]):=H;refine⟨λ B=>∃ (M1:Km) (m:Nat),M1.Rep A/\Inv A.C m [] M1.K/\m≤6100000/\R.1=M1.K/\St W S B (M1.pieces A++[blk lb #[.slice lp ls.length lc] 26,blk k (vp R.2.2 (R.2.1:Nat) ge jf ge ge) 38]),H.st 17 rfl (by show 1<6;omega) λ w3 H=>?_,λ _=>?_⟩
 ·refine⟨λ B=>∃ (M1:Km) (cy:Nat) (en:Bool),cy≤n/\M1.Rep A/\Inv A.C (6100 * cy) [] M1.K/\(if en=true then R=(M1.K,cy,true) else Ko.run A.C ls (n - cy) M1.K cy=R)/\St W S B (M1.pieces A++[blk lb #[.slice lp ls.length lc] 26,blk k (vp en (cy:Nat) ge jf ge ge) 38]),msr n k,⟨M,0,false,qQ _,hR,hI,by rw[if_neg (by decide)];exact hRun,H⟩,λ _=>?_⟩;clear H;rintro w4 ⟨M1,cy,en,hcy,hR1,hI1,hrun,H⟩;refine⟨(cy:Int),H.ld 17 rfl rfl,aa (λ q=>?_) (λ q=>?_)⟩
  rotate_left
  ·have q:cy=n:=by have:=qE q;omega
   cases en
   ·rw[if_neg (by decide),q,Nat.sub_self] at hrun;have hrun:R=(M1.K,n,false):=hrun.symm;refine⟨M1,6100 * cy,hR1,hI1,by omega,by rw[hrun],?_⟩;rw[hrun,<- q];exact H
   ·rw[if_pos rfl] at hrun;refine⟨M1,6100 * cy,hR1,hI1,by omega,by rw[hrun],?_⟩;rw[hrun];exact H
  have q:cy<n:=by have:=qB q;omega
  refine⟨en,H.ld 17 rfl rfl,aa (λ q2=>?_) (λ q2=>?_)⟩
  rotate_left
  ·have hen:en=true:=by simpa using q2
   subst hen;rw[if_pos rfl] at hrun;refine⟨M1,6100 * cy,hR1,hI1,by omega,by rw[hrun],?_⟩;rw[hrun];exact H
  have hen:en=false:=by simpa using q2
  subst hen;rw[if_neg (by decide)] at hrun;have c4:w4.cell? ⟨k,1,none⟩=some (.int .i64 cy):=H.ld 17 rfl rfl;refine⟨⟨by decide,by decide⟩,ad ⟨_,cX H,ptr_some ⟨some ⟨A.bb,0,none⟩,by rw[ac,ac];exact H.ld 0 rfl rfl,?_⟩⟩⟩;refine Tk H hR1 hI1 (by omega) λ sp sc w5 H hR2 hK2 hout=>⟨_,_,_,rfl,H.st 17 rfl (by show 0<6;omega) λ w6 H=>?_⟩;have hI2:=hI1.tick (by omega);rw[<- hK2] at hI2;obtain⟨sn,hsn⟩:∃ sn,M1.K.bus.tick.out=sn:=⟨_,rfl⟩;rw[hsn] at hout H ⊢
  have hcyc:M1.K.cyc A.C ls cy=((M1.bs M1.S.tick.S).K.turn A.C cy ls sn):=by unfold Ko.cyc;rw[hK2,hsn]
  obtain⟨M2,hM2⟩:∃ M2,M1.bs M1.S.tick.S=M2:=⟨_,rfl⟩;rw[hM2] at hI2 hR2 hcyc H;have H:St W S w6 (M2.pieces A++[blk lb #[.slice lp ls.length lc] 26,blk k (vp true (cy:Nat) ge jf ge ge) 38,cbus.outA sp sc sn]):=H
  have hrun2:Ko.run A.C ls (n - cy) M1.K cy=if (M1.K.cyc A.C ls cy).ended=true then (M1.K.cyc A.C ls cy,cy+1,true) else Ko.run A.C ls (n - (cy+1)) (M1.K.cyc A.C ls cy) (cy+1):=by
   obtain⟨t,ht⟩:∃ t,n - cy=t+1:=⟨n - cy - 1,by omega⟩;rw[ht,show n - (cy+1)=t by omega];rfl
  rw[hrun2] at hrun;obtain⟨Kc,hKc⟩:∃ Kc,M1.K.cyc A.C ls cy=Kc:=⟨_,rfl⟩;have hI3:=hI1.cyc (by omega) (t:=cy) (by omega) ls;rw[hKc] at hrun hcyc hI3;clear hM2 hK2 hrun2 hKc;refine⟨λ i B=>(i=0/\B=w6)∨(i=1/\∃ z:Nz A Kc,St W S B (z.1.pieces A++[blk lb #[.slice lp ls.length lc] 26,blk k (vp Kc.ended (cy:Nat) ge jf ge ge) 38])),λ i _=>1 - i.toNat,.inl ⟨rfl,rfl⟩,λ _=>?_⟩;rintro i w7 (⟨rfl,rfl⟩ | ⟨rfl,z,H2⟩)
  ·refine aa (λ _=>⟨⟨by decide,by decide⟩,ad ⟨_,cX H,(cy:Int),H.ld 17 rfl rfl,ptr_some ?_⟩⟩) (λ q=>absurd (qE q) (by decide));rw[ac];refine H.st 0 rfl (by show 29<34;omega) λ w8 H=>?_;refine⟨⟨by decide,by decide⟩,adr_some ⟨_,_,_,H.ld 16 rfl rfl,λ x B=>∃ m:Nat,x=m/\m≤ls.length/\St W S B ((M2.tk cy (vo (ls.take m) cy M2.K.line)).pieces A++[blk lb #[.slice lp ls.length lc] 26,blk k (vp true (cy:Nat) ge jf ge ge) 38,cbus.outA sp sc sn]),λ x _=>ls.length - x.toNat,⟨0,rfl,qQ _,H⟩,λ _=>?_⟩⟩;clear H;rintro x w9 ⟨m,rfl,hm,H⟩;refine aa (λ q3=>?_) (λ q3=>?_)
   ·have q3:m<ls.length:=by have:=qB q3;omega
    obtain⟨g0,o0,hp,hc, -⟩:=uv (lsl H) q3;have hp:=hp;subst hp;refine⟨⟨by omega,by omega⟩,adr_some ⟨ls.getD m 0,by rw[ix1];exact hc,H.dr λ w10 H=>ptr_some ⟨vo (ls.take m) cy M2.K.line,by rw[ac];exact H.ld 0 rfl rfl,(cy:Int),H.ld 17 rfl rfl,ptr_some ?_⟩⟩⟩;rw[ac];refine H.st 0 rfl (by show 30<34;omega) λ w11 H=>?_;rintro z5 rfl;rw[w64 (by omega) (by omega)];refine⟨⟨m+1,by omega,by omega,?_⟩,by show ls.length - ((m:Int)+1).toNat<ls.length - (m:Int).toNat;omega⟩
    have e:(!(vo (ls.take m) cy M2.K.line==(ls.getD m 0==(cy:Int))))=vo (ls.take (m+1)) cy M2.K.line:=by rw[Tj ls cy M2.K.line q3];rfl
    rw[<- e];exact H
   ·have q3:m=ls.length:=by have:=qE q3;omega
    rw[q3,List.take_length] at H;have hI4:Inv A.C (6100 * cy+1) [] (M2.tk cy (vo ls cy M2.K.line)).K:=hI2.tock (t:=cy) (by omega) ls;have hR4:=hR2.tk cy (vo ls cy M2.K.line);have hK4:(M2.tk cy (vo ls cy M2.K.line)).K=M2.K.tock cy ls:=rfl;obtain⟨M4,hM4⟩:∃ M4,M2.tk cy (vo ls cy M2.K.line)=M4:=⟨_,rfl⟩;rw[hM4] at H hI4 hR4 hK4;have H:St W S w9 (ae A M4::[blk lb #[.slice lp ls.length lc] 26,blk k (vp true (cy:Nat) ge jf ge ge) 38,cbus.outA sp sc sn]):=H.shut
    have hcyc2:Kc=(M4.K.snoop A.C sn).step A.C:=by rw[hcyc,hK4];rfl
    have hsno:=Sr (M:=M4) (H.nth 0 rfl) hR4 hI4 (by omega) (p:=sp) (c:=sc) (l:=sn) (H.nth 3 rfl) hout.2 (by omega);refine H.callx 0 rfl hsno λ y w10 H=>⟨rfl,?_⟩;have hI5:=hI4.snoop (C:=A.C) sn;rw[<- y.2.2.1] at hI5 hcyc2;refine H.callx 0 rfl (Xn (H.nth 0 rfl) hA hs y.2.1 hI5 (by omega)) λ x w11 H=>⟨rfl,true,H.ld 2 rfl rfl,aa (λ _=>?_) (λ q=>by cases q)⟩;have hxK:x.1.K=Kc:=x.2.2.trans hcyc2.symm
    have hI6:Inv A.C (6100 * cy+6100) [] x.1.K:=by rw[hxK];exact hI3
    refine H.call 0 rfl (Tg (H.nth 0 rfl) x.2.1 hI6) λ w12 H=>⟨_,rfl,H.st 2 rfl (by show 0<6;omega) λ w13 H=>?_⟩;rintro z6 rfl;rw[hxK] at H;exact⟨.inr ⟨by decide,⟨x.1,x.2.1,hxK⟩,(H.take 3).open_⟩,by show 1 - (IntKind.wrap .i64 (0+1)).toNat<1 - (0:Int).toNat;decide⟩
  ·refine aa (λ q=>absurd (qB q) (by decide)) (λ _=>⟨(cy:Int),H2.ld 17 rfl rfl,?_⟩);rintro z9 rfl;rw[w64 (by omega) (by omega)];refine H2.st 17 rfl (by show 1<6;omega) λ w8 H=>?_;have H:St W S w8 (z.1.pieces A++[blk lb #[.slice lp ls.length lc] 26,blk k (vp Kc.ended ((cy+1:Nat):Int) ge jf ge ge) 38]):=H;have c8:w8.cell? ⟨k,1,none⟩=some (.int .i64 ((cy+1:Nat):Int)):=H.ld 17 rfl rfl;refine⟨⟨z.1,cy+1,Kc.ended,by omega,z.2.1,by rw[z.2.2];exact hI3.up (by omega),?_,H⟩,?_⟩
   ·rw[z.2.2];cases he:Kc.ended
    ·rw[if_neg (by decide)];rw[if_neg (by rw[he];decide)] at hrun;exact hrun
    ·rw[if_pos rfl];rw[if_pos he] at hrun;exact hrun.symm
   ·rw[Zg c8,Zg c4];omega
 clear H;rintro w18 ⟨M1,m,hR1,hI1,hm,hRK,H⟩;obtain⟨RK,cy,en⟩:=R;have hRK:RK=M1.K:=hRK;subst hRK;rw[hRun];have H:St W S w18 (M1.pieces A++[blk lb #[.slice lp ls.length lc] 26,blk k (vp en (cy:Nat) ge jf ge ge) 38]):=H;refine⟨λ i B=>(i=0/\B=w18)∨(i=1/\∃ (p2:OA) (c2:Nat),St W S B (M1.pieces A++[blk lb #[.slice lp ls.length lc] 26,blk k (vp en (cy:Nat) ge jf (.slice p2 1 c2) ge) 38,sl 58 32 (.slice p2 1 c2) 1 (u32s (ni M1.K))])),λ i _=>1 - i.toNat,.inl ⟨rfl,rfl⟩,λ _=>?_⟩;rintro i w19 (⟨rfl,rfl⟩ | ⟨rfl,p2,c2,H2⟩)
 ·refine aa (λ _=>⟨⟨by decide,by decide⟩,ad ⟨_,cX H,H.al λ k18 w20 H=>?_⟩⟩) (λ q=>absurd (qE q) (by decide));refine⟨λ i B=>∃ m:Nat,i=m/\m≤32/\St W S B (M1.pieces A++[blk lb #[.slice lp ls.length lc] 26,blk k (vp en (cy:Nat) ge jf ge ge) 38,blk k18 (u32s (Ty M1.K m)).toArray 58]),λ i _=>32 - i.toNat,⟨0,rfl,by decide,H⟩,λ _=>?_⟩;clear H;rintro i w21 ⟨m,rfl,hm,H⟩
  have hsz:(u32s (Ty M1.K m)).toArray.size=32:=by unfold u32s;simp [ahk]
  refine aa (λ q=>?_) (λ q=>?_)
  ·have q:m<32:=by have:=qB q;omega
   refine H.callp (Da (H.shut.nth 0 rfl) hR1 hI1 (r:=m) (by omega)) ⟨_,rfl,⟨by omega,by omega⟩,?_⟩;rw[ix1,qW];refine H.st 18 rfl (by rw[hsz];exact q) λ w23 H=>?_;rw[<- Xr,ahl M1.K q] at H;rintro z rfl;rw[w64 (by omega) (by omega)];exact⟨⟨m+1,by omega,by omega,H⟩,by show 32 - ((m:Int)+1).toNat<32 - (m:Int).toNat;omega⟩
  ·have q:m=32:=by have:=qE q;omega
   subst q;rw[ahm] at H hsz
   have hone:∀ v ∈ u32s (ni M1.K),v.oneCell'=true:=λ v hv=>by
    unfold u32s at hv;obtain⟨a, -,rfl⟩:=qCB.1 hv;rfl
   have hll:(u32s (ni M1.K)).length=1 * 32:=by rw[<- qnB,hsz]
   refine⟨_,_,_,H.ld 17 rfl rfl,(u32s (ni M1.K)).toArray,hsz,H.cells 18 rfl,hsz,H.al λ k21 w24 H=>?_⟩;have H:=H.add (A:=sl 58 32 (.slice none 0 0) 0 []) ⟨Sl.nil _ _ _,qH _ _,λ q e=>by cases e⟩;refine H.app 20 (m:=1) rfl (u32s (ni M1.K)) (.inr ⟨_,rfl,λ j u hj=>by rw[ac];exact H.ld 19 (i:=0+j) rfl (by simpa using hj)⟩) hll hone (by decide) (by decide) λ p' c' w25 H=>H.st 17 rfl (by show 4<6;omega) λ w26 H=>?_;rintro z12 rfl;exact⟨.inr ⟨by decide,p',c',H.pick [0,1,2,3,4,5,6,7,8,9,10,11,12,13,14,15,16,17,20]⟩,by show 1 - (IntKind.wrap .i64 (0+1)).toNat<1 - (0:Int).toNat;decide⟩
 ·refine aa (λ q=>absurd (qB q) (by decide)) (λ _=>?_);have hok:=Inv.bok hI1 hR1;have hdl:M1.S.data.length=M1.S.len:=cbus.upto_len hok _ (qY _)
  have hdat:M1.K.bus.data=M1.S.data:=by rw[hR1.bus,adl]
  have ldE:∀ {B:wD} {L:List Asn},St W S B (M1.pieces A++L)->B.cell? ((⟨A.tb,0,none⟩:Addr).add 0)=some (.slice M1.ep M1.K.evs.length M1.ec):=λ H=>by rw[ac];exact H.ld 8 rfl rfl
  have ldO:∀ {B:wD} {L:List Asn},St W S B (M1.pieces A++L)->B.cell? ((⟨A.tb,0,none⟩:Addr).add 1)=some (.slice M1.op M1.K.out.length M1.oc):=λ H=>by rw[ac];exact H.ld 8 rfl rfl
  have bts:∀ {B:wD} {L:List Asn},St W S B (M1.pieces A++L)->Sx.Bts B M1.op M1.K.out.length M1.K.out:=λ H=>ahj (H.nth 10 rfl);have dat:∀ {B:wD} {L:List Asn},St W S B (M1.pieces A++L)->Calls prog 31 #[pZ A.bb 0] B λ e w=>∃ z:OA×Nat,e=eZ (.slice z.1 M1.S.len z.2)/\Sep.Post emp B (cbus.memA z.1 z.2 M1.S.data) w:=λ H=>cbus.data_any (H.nth 13 rfl) hok hR1.bg;refine⟨λ B=>∃ z:OA×Nat,St W S B (M1.pieces A++[blk lb #[.slice lp ls.length lc] 26,blk k (vp en (cy:Nat) (.slice M1.ep M1.K.evs.length M1.ec) (.string (Sx.bstr M1.K.out)) (.slice p2 1 c2) (.slice z.1 M1.S.len z.2)) 38,sl 58 32 (.slice p2 1 c2) 1 (u32s (ni M1.K)),cbus.memA z.1 z.2 M1.S.data]),H2.dr λ w27 H=>Sep.ptr_some (Sep.ptr_some ⟨⟨by decide,by decide⟩,ad ⟨_,cX H,Sep.ptr_some ⟨some ⟨A.bb,0,none⟩,by rw[ac,ac];exact H.ld 0 rfl rfl,?_⟩⟩⟩),λ _=>?_⟩
  ·repeat' first
    | exact⟨z,H⟩
    | refine H.st 17 rfl (qaB (by decide:_<6) (qY 6)) λ w H=>?_
    | refine H.calln (dat H) λ z w H=>⟨_,_,_,rfl,?_⟩
    | refine⟨M1.K.out,bts H,?_⟩
    | refine⟨Below.refl _ _,?_⟩
    | refine⟨_,_,_,ldE H,?_⟩
    | refine⟨_,_,_,ldO H,?_⟩
    | refine⟨?_,?_⟩
  clear H2;rintro w31 ⟨z,H⟩
  have ero:vp en (cy:Nat) (.slice M1.ep M1.K.evs.length M1.ec) (.string (Sx.bstr M1.K.out)) (.slice p2 1 c2) (.slice z.1 M1.S.len z.2)=Xp (M1.K,cy,en) ⟨M1.ep,M1.ec,p2,c2,z.1,z.2⟩:=by unfold Xp;rw[hdat,hdl]
  refine⟨_,rfl,H.cells 17 rfl,H.sts0 17 rfl rfl rfl (ux en cy rfl rfl rfl rfl) λ w32 H=>⟨_,rfl,H.cells 17 rfl,⟨⟨M1.ep,M1.ec,p2,c2,z.1,z.2⟩,by rw[ero],?_⟩⟩⟩;have H:=H.pick [1,9,18,19]
  have H:St W S w32 ((br A.B::Xq (M1.K,cy,en) ⟨M1.ep,M1.ec,p2,c2,z.1,z.2⟩)++[]):=by
   unfold Xq;dsimp only;rw[hdat];exact H
  rw[<- hS] at H;exact(St.shut H).post 0 rfl
end Go.Proofs.YtmncepdbglaphaaGreatDoor.ko
