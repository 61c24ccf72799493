/- A part of the walk. No condition. -/
import Derived.Test.YtmncepdbglaphaaGreatDoorKxG
import Derived.Laws.StructEq
import Derived.ChangeKeysEq
set_option linter.unusedVariables false
set_option maxRecDepth 100000
namespace Go.Proofs.YtmncepdbglaphaaGreatDoor
open Go Go.Proofs Go.Proofs.Tryz Go.V
variable {W:wD}{Q:Ending->wD->Prop}
set_option maxHeartbeats 1000000
theorem aqn (y0:OA) (arg0n:Nat) (arg0c:Nat) (y1:OA) (arg1n:Nat) (arg1c:Nat) (y2:OA) (arg2n:Nat) (arg2c:Nat) (y3:OA) (arg3n:Nat) (arg3c:Nat) (y4:Int)
 (hVC:alc W #[.bool false,oi,.slice none 0 0,.string (.mk #[]),.slice none 0 0,.slice none 0 0] 38 λ k W2=>Sx.split (decide ((↑arg0n:Int)<1)) (nN (#[.bool false,oi,.slice none 0 0,.string (.mk #[]),.slice none 0 0,.slice none 0 0]) λ vs=>ct W2 k 0 6 vs λ W3=>ldN W3 k 0 6 λ vs2=>Q (eY #[.agg vs2,.iface 60 (Value.int .i64 3)]) W3) (Sx.split (decide ((↑arg0n:Int) > 2)) (nN (#[.bool false,oi,.slice none 0 0,.string (.mk #[]),.slice none 0 0,.slice none 0 0]) λ vs3=>ct W2 k 0 6 vs3 λ W4=>ldN W4 k 0 6 λ vs4=>Q (eY #[.agg vs4,.iface 60 (Value.int .i64 3)]) W4) (Sx.split ((↑arg2n:Int) !=(↑arg0n:Int)) (nN (#[.bool false,oi,.slice none 0 0,.string (.mk #[]),.slice none 0 0,.slice none 0 0]) λ vs5=>ct W2 k 0 6 vs5 λ W5=>ldN W5 k 0 6 λ vs6=>Q (eY #[.agg vs6,.iface 60 (Value.int .i64 3)]) W5) (Sx.split ((↑arg3n:Int) !=(↑arg0n:Int)) (nN (#[.bool false,oi,.slice none 0 0,.string (.mk #[]),.slice none 0 0,.slice none 0 0]) λ vs7=>ct W2 k 0 6 vs7 λ W6=>ldN W6 k 0 6 λ vs8=>Q (eY #[.agg vs8,.iface 60 (Value.int .i64 3)]) W6) (rB prog 13 #[.int .i64 y4,oi,.int .i64 1000000] W2 λ t W7=>Sx.split (!t) (nN (#[.bool false,oi,.slice none 0 0,.string (.mk #[]),.slice none 0 0,.slice none 0 0]) λ vs9=>ct W7 k 0 6 vs9 λ W8=>ldN W8 k 0 6 λ vs10=>Q (eY #[.agg vs10,.iface 60 (Value.int .i64 3)]) W8) (∃ I:OA->Nat->Nat->wD->Prop,(∃ I2:Int->OA->Nat->Nat->wD->Prop,∃ I3:Int->OA->Nat->Nat->wD->Nat,I2 0 none 0 0 W7/\(wv (∀ x x2 k7 k8 W9,I2 x x2 k7 k8 W9->Sx.split (decide (x<(↑arg0n:Int))) (ixs x arg0n y0 λ k9 k10=>ldL W9 k9 (k10+x.toNat * 1) λ p k11 k12=>rV prog 14 #[.slice p k11 k12,.int .i64 (↑arg1n:Int)] W9 λ v11 W10=>Sx.isNil v11 λ t2=>Sx.split (!t2) (nN (#[.bool false,oi,.slice none 0 0,.string (.mk #[]),.slice none 0 0,.slice none 0 0]) λ vs11=>ct W10 k 0 6 vs11 λ W11=>ldN W11 k 0 6 λ vs12=>Q (eY #[.agg vs12,v11]) W11) (ixs x arg2n y2 λ k14 k15=>ldN W10 k14 (k15+x.toNat * 15+12) 2 λ vs13=>Array.size vs13=2/\alc W10 (List.toArray (Array.toList vs13++[])) 30 λ k16 W12=>apn W12 30 2 x2 k7 k8 1 (some ⟨k16,0,none⟩) 16 λ p2 k18 W13=>nw .i64 (x+1) λ z=>I2 z p2 (k7+1) k18 W13/\I3 z p2 (k7+1) k18 W13<I3 x x2 k7 k8 W9)) (I x2 k7 k8 W9))))/\(wv (∀ x3 k21 k22 W14,I x3 k21 k22 W14->ixs 0 arg2n y2 λ k23 k24=>ldI .i64 W14 k23 (k24+0+14) λ z2=>Calls prog 15 #[.slice x3 k21 k22,.int .i64 z2,.slice y1 arg1n arg1c] W14 λ e3 W15=>∃ p3:OA,∃ v16:Value,e3=eY #[.pointer p3,v16]/\Sx.isNil v16 λ t3=>Sx.split (!t3) (nN (#[.bool false,oi,.slice none 0 0,.string (.mk #[]),.slice none 0 0,.slice none 0 0]) λ vs14=>ct W15 k 0 6 vs14 λ W16=>ldN W16 k 0 6 λ vs15=>Q (eY #[.agg vs15,v16]) W16) (nN (#[.slice none 0 0,.slice none 0 0,.slice none 0 0]) λ vs16=>alc W15 (Value.cells (Value.agg vs16)) 69 λ k26 W17=>∃ I4:OA->Nat->Nat->wD->Prop,(∃ I5:Int->OA->Nat->Nat->wD->Prop,∃ I6:Int->OA->Nat->Nat->wD->Nat,I5 0 none 0 0 W17/\(wv (∀ x4 x5 k27 k28 W18,I5 x4 x5 k27 k28 W18->Sx.split (decide (x4<(↑arg0n:Int))) (ixs x4 arg0n y0 λ k29 k30=>ldL W18 k29 (k30+x4.toNat * 1) λ p4 k31 k32=>ixs x4 arg2n y2 λ k33 k34=>ldN W18 k33 (k34+x4.toNat * 15) 15 λ vs17=>Calls prog 16 #[.int .i64 x4,.slice p4 k31 k32,.int .i64 (↑arg1n:Int),.agg vs17,.pointer p3,pZ k26 0] W18 λ e4 W19=>∃ p5:OA,∃ v19:Value,e4=eY #[.pointer p5,v19]/\Sx.isNil v19 λ t4=>Sx.split (!t4) (nN (#[.bool false,oi,.slice none 0 0,.string (.mk #[]),.slice none 0 0,.slice none 0 0]) λ vs18=>ct W19 k 0 6 vs18 λ W20=>ldN W20 k 0 6 λ vs19=>Q (eY #[.agg vs19,v19]) W20) (alc W19 #[.pointer p5] 70 λ k36 W21=>apn W21 70 1 x5 k27 k28 1 (some ⟨k36,0,none⟩) 8 λ p6 k38 W22=>nw .i64 (x4+1) λ z3=>I5 z3 p6 (k27+1) k38 W22/\I6 z3 p6 (k27+1) k38 W22<I6 x4 x5 k27 k28 W18)) (I4 x5 k27 k28 W18))))/\(wv (∀ x6 k41 k42 W23,I4 x6 k41 k42 W23->sto W23 k26 (0+2) (Value.slice x6 k41 k42) λ W24=>rQ prog 17 #[.slice x6 k41 k42,.slice y3 arg3n arg3c,.int .i64 y4] W24 λ vs20 W25=>ct W25 k 0 6 vs20 λ W26=>ldN W26 k 0 6 λ vs21=>Q (eY #[.agg vs21,.nilIface]) W26))))))))))) :
 Calls prog 11 #[.slice y0 arg0n arg0c,.slice y1 arg1n arg1c,.slice y2 arg2n arg2c,.slice y3 arg3n arg3c,.int .i64 y4] W Q :=
 Sx.sd func11 (.r (.r (.r (.node [(12,.slice)] [2,1,10,0,3,4] 1 (.r (.q (.node [(55,.int .i64),(12,.slice)] [54,53,1,10,2,0,3,4] 0 .leaf .leaf))) (.r (.r (.r (.r (.node [(19,.slice)] [18,3,4,10] 1 (.r (.q (.node [(95,.int .i64),(19,.slice)] [94,93,1,2,16,18,10,3,4] 0 .leaf .leaf))) .leaf))))))))) hVC
end Go.Proofs.YtmncepdbglaphaaGreatDoor
namespace Go.Proofs.YtmncepdbglaphaaGreatDoor.ko
open Go.RowKit Go.XHeap Go.Sx Go.Sep Go.Proofs.Tryz
variable {W w:wD}{L:List Asn}{c:Cf}
def repZ:AV:=vp false 0 ge jf ge ge
theorem Kx:∀ v ∈ repZ.toList,v.oneCell'=true:=ux _ _ rfl rfl rfl rfl
theorem Ky {φ:Bool->Prop} (h:φ false):Sx.isNil (errV 1) φ:=h
def Kc0 (c:Cf) (code:LI) (data:LN):Kc:=⟨c,0,code,data.length⟩
def As (c:Cf) (code:LI) (data:LN) (ls:LI) (n:Nat):Ko×Nat×Bool:=Ko.run (Kc0 c code data) ls n (K0 (Kc0 c code data) (cbus.PB.zero c.sets c.ways c.bus data)) 0
structure Given (B:wD) (cp dp lp:OA) (cc dc lc:Nat) (code:LI) (data:LN) (ls:LI):Prop where
 hcode:Sl B 47 1 (.slice cp code.length cc) code.length (u32s code)
 hdata:Sl B 5 1 (.slice dp data.length dc) data.length (cbus.u8n data)
 hls:Sl B 3 1 (.slice lp ls.length lc) ls.length (win.intsV ls)
 cu:∀ v ∈ code,U32 v
 du:∀ v ∈ data,v<256
 ll:ls.length≤1000000000
def Tz (B:wD) (ab sb lb cc lc:Nat) (cp lp:OA) (nc nl:Nat) (c:Cf):List Asn:=[br B,blk ab #[.slice cp nc cc] 24,blk sb (cfC c) 32,blk lb #[.slice lp nl lc] 26]
theorem aek {B:wD}{t:TI}{sz n:Nat}{v:Value}{xs:LV} (h:Sl B t sz v n xs) (ht:(br B).at_ w):Sl w t sz v n xs:=h.keep ht.2 (λ q hq=>by have:=h.lt q hq;omega)
def Ka0 (y:Mk) (c:Cf) (B:wD) (code:LI) (data:LN) (cp sp:OA) (cc sc bb tb:Nat):Ka:=⟨Kc0 c code data,B,y.x,cp,cc,y.wb,y.nb,y.ub,y.qb,y.gb,y.rb,y.mb,bb,tb,y.vb,sp,sc,[y.x],[]⟩
def Km0 (y:Mk) (c:Cf) (code:LI) (data:LN) (BP:cbus.BP) (SB:cbus.PB):Km:=⟨K0 (Kc0 c code data) (bNorm SB),y.w,y.np,y.nc,⟨c.queue.toNat,none,0,[]⟩,y.ps c,y.dir c,[],[],none,0,none,0,none,0,BP,SB,[]⟩
theorem Zh (hc:c.Whole){code:LI}{data:LN} (hi:bk code.length data.length=true) (hu:∀ v ∈ code,U32 v):(Kc0 c code data).Ok:=by
 have hi:=qB hi;exact⟨hc.wd,hc.wn,hc.q,hc.r,hc.u,hc.m,qQ _,hi.1,hu,hi.2⟩
theorem ael (hc:c.Whole){y:Mk} (hy:y.w.Fresh c.window.toNat c.regs.toNat){code:LI}{data:LN}{BP:cbus.BP}{SB:cbus.PB} (hg:ahc SB) (hb:BP.gs.length=SB.Cs.length){B:wD}{cp sp:OA}{cc sc bb tb:Nat}:(Km0 y c code data BP SB).Rep (Ka0 y c B code data cp sp cc sc bb tb) :=
 { win:=⟨hy.ok,hy.s,hy.r,hy.n,hy.next,hy.ready,λ k f hf=>(by cases hf)⟩,q:=rfl,qs:=rfl,pr:=aou hc _ _ _,fn:=List.nodup_nil,fd:=List.nodup_nil,fk:=rfl,fl:=λ j b f hb=>(by cases hb),bus:=rfl,gs:=hg,bg:=hb,oth:=rfl }
set_option maxHeartbeats 4000000 in
theorem Tm {B:wD}{cp dp lp:OA}{ab sb lb cc dc lc n:Nat}{code:LI}{data:LN}{ls:LI} (hc:c.Whole) (hG:Given B cp dp lp cc dc lc code data ls) (h:(all (Tz B ab sb lb cc lc cp lp code.length ls.length c)).at_ W) (hn:n≤1000) :
  Calls prog 11 #[.slice (some ⟨ab,0,none⟩) 1 1,.slice dp data.length dc,.slice (some ⟨sb,0,none⟩) 1 1,.slice (some ⟨lb,0,none⟩) 1 1,.int .i64 n] W λ e w =>
   if bk code.length data.length=true then ∃ ro:RO,e=eY #[.agg (Xp (As c code data ls n) ro),.nilIface]/\Sep.Post (all (Tz B ab sb lb cc lc cp lp code.length ls.length c)) W (all (br B::Xq (As c code data ls n) ro)) w
   else e=eY #[.agg repZ,errV 1]/\Sep.Post (all (Tz B ab sb lb cc lc cp lp code.length ls.length c)) W (br B) w:=by
 obtain⟨S,hS⟩:∃ S,(all (Tz B ab sb lb cc lc cp lp code.length ls.length c)).own=S:=⟨_,rfl⟩
 have H:St W S W (Tz B ab sb lb cc lc cp lp code.length ls.length c++[]):=by rw[<- hS];exact(St.begin h).open_
 refine aqn _ 1 1 dp data.length dc _ 1 1 _ 1 1 n (H.al λ k w2 H=>aa (λ q=>absurd (qB q) (by decide)) (λ _=>aa (λ q=>absurd (qB q) (by decide)) (λ _=>aa (λ q=>by cases q) (λ _=>aa (λ q=>by cases q) (λ _=>?_)))));have H:St W S w2 (Tz B ab sb lb cc lc cp lp code.length ls.length c++[blk k repZ 38]):=H;refine H.callp (tt (by omega) _) ⟨_,rfl,aa (λ q=>by cases q) (λ _=>?_)⟩;refine⟨λ p m cs B'=>m=1/\bk code.length data.length=true/\St W S B' (Tz B ab sb lb cc lc cp lp code.length ls.length c++[blk k repZ 38,sl 30 2 (.slice p 1 cs) 1 (cbus.shapeC c.sets c.ways).toList]),⟨λ i p m cs B'=>(i=0/\p=none/\m=0/\cs=0/\B'=w2)∨(i=1/\m=1/\bk code.length data.length=true/\St W S B' (Tz B ab sb lb cc lc cp lp code.length ls.length c++[blk k repZ 38,sl 30 2 (.slice p 1 cs) 1 (cbus.shapeC c.sets c.ways).toList])),λ i _ _ _ _=>1 - i.toNat,.inl ⟨rfl,rfl,rfl,rfl,rfl⟩,λ _=>?_⟩,λ _=>?_⟩
 ·rintro i p m cs w9 (⟨rfl,rfl,rfl,rfl,rfl⟩ | ⟨rfl,rfl,hi,H2⟩)
  rotate_left
  ·exact aa (λ q=>absurd (qB q) (by decide)) (λ _=>⟨rfl,hi,H2⟩)
  refine aa (λ _=>⟨⟨by decide,by decide⟩,adr_some ⟨_,_,_,H.ld 1 rfl rfl,H.callp (Pi cp code.length cc ((data.length:Nat):Int) _) ⟨_,rfl,?_⟩⟩⟩) (λ q=>absurd (qE q) (by decide));cases hi:bk code.length data.length
  ·rw[if_neg (by decide)];refine Ky (aa (λ _=>?_) (λ q=>by cases q));rintro vs rfl;refine H.sts0 4 rfl rfl rfl Kx λ w3 H=>⟨repZ,rfl,H.cells 4 rfl,?_⟩;show ite _ _ _;rw[if_neg (by decide)];rw[<- hS] at H;exact⟨rfl,H.post 0 rfl⟩
  rw[if_pos rfl];refine jk (aa (λ q=>by cases q) (λ _=>⟨⟨by decide,by decide⟩,adr_some ⟨cbus.shapeC c.sets c.ways,rfl,H.lds 2 rfl (o:=12) (λ i u hu=>?_),rfl,H.al λ k16 w12 H=>?_⟩⟩))
  ·rcases i with _ | _ | i
   ·exact hu
   ·exact hu
   ·cases hu
  have H:=H.add (A:=sl 30 2 (.slice none 0 0) 0 []) ⟨Sl.nil _ _ _,qH _ _,λ q e=>by cases e⟩;refine H.app 6 (m:=1) rfl (cbus.shapeC c.sets c.ways).toList (.inr ⟨_,rfl,λ j u hj=>by rw[ac];exact H.ld 5 (i:=0+j) rfl (by simpa using hj)⟩) rfl (cbus.shape_one _ _) (by decide) (by decide) λ p' c' w13 H=>?_;rintro z rfl;exact⟨.inr ⟨by decide,rfl,rfl,H.pick [0,1,2,3,4,6]⟩,by show 1 - (IntKind.wrap .i64 (0+1)).toNat<1 - (0:Int).toNat;decide⟩
 clear H;rintro p m cs w14 ⟨rfl,hi,H⟩;have hio:=qB hi;refine⟨⟨by decide,by decide⟩,adr_some ⟨c.bus,H.ld 2 rfl rfl,?_⟩⟩
 have hSh:cbus.ShapesAt w14 p [(c.sets,c.ways)]:=by
  intro i y hi
  cases i with
  | succ i=>cases hi
  | zero =>
   cases hi;have hs:Sl w14 30 2 (.slice p 1 cs) 1 (cbus.shapeC c.sets c.ways).toList:=H.nth 5 rfl;obtain⟨hl,hc⟩:=hs;rcases hc with ⟨-,h0⟩ | ⟨g,off,cap,cur,hv,hb,h1,h2,h3,h4⟩
   ·cases h0
   ·cases hv;refine⟨g,off,rfl,hb.lt,yl hb λ i u hu=>?_⟩
    have hu:(cbus.shapeC c.sets c.ways).toList[i]?=some u:=by simpa using hu
    rw[<- h4] at hu
    have hi2:i<2:=by
     have:=(qD.1 hu).1;rw[qq] at this;omega
    rw[qa (by omega),qAB] at hu;simpa using hu
 have hdm:(cbus.memA dp dc data).at_ w14:=aek hG.hdata (H.nth 0 rfl);refine(cbus.bnew_any (l:=[(c.sets,c.ways)]) (data:=data) (dc:=dc) (pc:=cs) (cyc:=c.bus) hSh (cbus.bytes_of hdm) (cbus.memA_ptr hdm)).mono ?_
 have good:¬ cbus.cfgBad [(c.sets,c.ways)] c.bus:=by
  rintro(hb | hb | hb | hb | ⟨y,hy,hb⟩)
  ·exact absurd hb (by simp)
  ·exact absurd hb (by simp)
  ·have:=hc.bus;omega
  ·have:=hc.bus;omega
  ·obtain rfl:y=(c.sets,c.ways):=by simpa using hy
   have:=hc.ways;exact hb ⟨hc.sets,this⟩
 have hdl:¬ (data.length % 16≠0∨data.length > 4096):=by omega
 rintro e w15 (⟨hb,rfl,hh⟩ | ⟨hb,hd,rfl,hh⟩ | ⟨hb,hd,bb,BP,SB,hFr,hgs,rfl,hp⟩)
 ·exact absurd hb good
 ·exact absurd hd hdl
 have H:=H.add hp;have hOk:SB.Ok 0:=cbus.fresh_ok hFr hb hd hG.du;refine⟨_,_,rfl,jk (aa (λ q=>by cases q) (λ _=>?_))⟩;rintro vs rfl;refine H.al λ tb w17 H=>?_
 refine⟨λ p m cs B'=>m=1/\∃ y:{ y:Mk // y.w.Fresh c.window.toNat c.regs.toNat },St W S B' ([br B,blk lb #[.slice lp ls.length lc] 26,blk k repZ 38,cbus.busA bb BP SB,blk tb #[ge,ge,ge] 69,sl 70 1 (.slice p 1 cs) 1 [pZ y.1.x 0]]++y.1.pieces c 0 cp code.length cc data.length bb tb),
  ⟨λ i p m cs B'=>(i=0/\p=none/\m=0/\cs=0/\B'=w17)∨(i=1/\m=1/\∃ y:{ y:Mk // y.w.Fresh c.window.toNat c.regs.toNat },St W S B' ([br B,blk lb #[.slice lp ls.length lc] 26,blk k repZ 38,cbus.busA bb BP SB,blk tb #[ge,ge,ge] 69,sl 70 1 (.slice p 1 cs) 1 [pZ y.1.x 0]]++y.1.pieces c 0 cp code.length cc data.length bb tb)),λ i _ _ _ _=>1 - i.toNat,.inl ⟨rfl,rfl,rfl,rfl,rfl⟩,λ _=>?_⟩,λ _=>?_⟩
 ·rintro i p5 m cc5 w18 (⟨rfl,rfl,rfl,rfl,rfl⟩ | ⟨rfl,rfl,y,H2⟩)
  rotate_left
  ·exact aa (λ q=>absurd (qB q) (by decide)) (λ _=>⟨rfl,y,H2⟩)
  refine aa (λ _=>⟨⟨by decide,by decide⟩,adr_some ⟨_,_,_,H.ld 1 rfl rfl,⟨by decide,by decide⟩,adr_some ⟨cfC c,rfl,H.cells 2 rfl,?_⟩⟩⟩) (λ q=>absurd (qE q) (by decide));have hnew:=Ic hc w18 0 cp code.length cc data.length bb tb;rw[Ti] at hnew;refine H.calln hnew λ y w19 H=>⟨_,_,rfl,jk (aa (λ q=>by cases q) (λ _=>H.al λ k36 w21 H=>?_))⟩;have H:=H.add (A:=sl 70 1 (.slice none 0 0) 0 []) ⟨Sl.nil _ _ _,qH _ _,λ q e=>by cases e⟩;refine H.app 10 (m:=1) rfl [pZ y.1.x 0] (.inr ⟨_,rfl,λ j u hj=>H.cells 9 rfl j u (by simpa using hj)⟩) rfl (by intro u hu;simp at hu;subst hu;rfl) (by decide) (by decide) λ p' c' w22 H=>?_;rintro z rfl;have H:=(H.pick [8,0,3,4,6,7,10]).open_;exact⟨.inr ⟨by decide,rfl,y,H.pick [7,8,9,10,11,12,0,1,2,3,4,5,6]⟩,by show 1 - (IntKind.wrap .i64 (0+1)).toNat<1 - (0:Int).toNat;decide⟩
 clear H;rintro p6 m cc6 w23 ⟨rfl,y,H⟩;refine H.st 4 rfl (by show 2<3;omega) λ w24 H=>?_;have H:=H.add (A:=sl 57 12 (.slice none 0 0) 0 []) ⟨Sl.nil _ _ _,qH _ _,λ q e=>by cases e⟩;have H:=H.add (A:=sl 5 1 (.slice none 0 0) 0 []) ⟨Sl.nil _ _ _,qH _ _,λ q e=>by cases e⟩;have H:=H.add (A:=sl 154 1 (.slice none 0 0) 0 []) ⟨Sl.nil _ _ _,qH _ _,λ q e=>by cases e⟩;have H:=H.add (A:=alq []) ⟨trivial,qH _ _,λ q e=>e.elim⟩;have H:=H.add (A:=all []) ⟨trivial,qH _ _,λ q e=>e.elim⟩;have H:=H.pick [6,0,7,8,9,10,11,12,4,13,14,15,16,3,5,17,1,2]
 have hdlen:(SB.len:Int)=data.length:=by unfold cbus.PB.len;rw[hFr.mem]
 have hcn:(bNorm SB).Cs.length=1:=by rw[ig,hFr.n];rfl
 have hC:=Zh hc hi hG.cu;have hR:=ael hc y.2 (Mm hOk) hgs (code:=code) (data:=data) (B:=B) (cp:=cp) (sp:=p6) (cc:=cc) (sc:=cc6) (bb:=bb) (tb:=tb);have hI:Inv (Kc0 c code data) 0 [] (K0 (Kc0 c code data) (bNorm SB)):=Yy hC hc (akw hOk) (by rw[hcn];exact Nat.zero_lt_one) hdlen;have hAok:(Ka0 y.1 c B code data cp p6 cc cc6 bb tb).Ok:=⟨hC,hG.hcode,hG.hcode.lt,λ b hb=>.inl (qR.1 hb),(show 1≤2 by decide),λ o ho=>by cases ho⟩;have H:St W S w24 (all (afd (Ka0 y.1 c B code data cp p6 cc cc6 bb tb) (Km0 y.1 c code data BP SB) lb (.slice lp ls.length lc))::[blk k repZ 38]):=St.shut (L:=afd (Ka0 y.1 c B code data cp p6 cc cc6 bb tb) (Km0 y.1 c code data BP SB) lb (.slice lp ls.length lc)) H.shut;have hdrv:=Tl (H.nth 0 rfl) hAok ⟨rfl,rfl⟩ hG.hls hG.hls.lt hR hI hn hG.ll
 have e0:Ko.run (Ka0 y.1 c B code data cp p6 cc cc6 bb tb).C ls n (Km0 y.1 c code data BP SB).K 0=As c code data ls n:=by
  show Ko.run (Kc0 c code data) ls n (K0 (Kc0 c code data) (bNorm SB)) 0=_;rw[cbus.fresh_zero hFr];rfl
 rw[e0] at hdrv;refine H.callx 0 rfl hdrv λ ro w25 H=>⟨_,rfl,H.sts0 1 rfl rfl rfl (ux _ _ rfl rfl rfl rfl) λ w26 H=>⟨Xp (As c code data ls n) ro,rfl,H.cells 1 rfl,?_⟩⟩;show ite _ _ _;rw[if_pos hi];rw[<- hS] at H;exact⟨ro,rfl,H.post 0 rfl⟩
variable {W w:wD}
theorem Zi (c:Cf):∀ v ∈ (cfC c).toList,v.oneCell'=true:=by
 intro v hv;unfold cfC at hv;simp only[qp,qFB,or_false] at hv;rcases hv with rfl | rfl | rfl | rfl | rfl | rfl | rfl | rfl | rfl | rfl | rfl | rfl | rfl | rfl | rfl <;> rfl
theorem Xs {B w:wD}{X:Asn}{L:List Asn}{S:Nat->Prop} (hS:∀ q,S q->q<B.heap.size) (H:St B S w (br B::X::L)):Sep.Post emp B X w :=
 ⟨H.nth 1 rfl,(H.nth 0 rfl:(br B).at_ w).2.mono (λ k hk h=>by have h:B.heap.size≤k:=h;omega),λ q hq=>.inr (by
  rcases H.mine q (.inr (.inl hq)) with h | h
  ·exact absurd hq (St.disj H.here 0 1 (by decide) rfl rfl q (hS q h))
  ·exact h)⟩
theorem aem {c:Cf} (hc:c.Whole) (hT:Tab W) (hC:vd W 0 codeL){cp dp lp:OA}{cc dc lc n:Nat}{code:LI}{data:LN}{ls:LI} (hG:Given W cp dp lp cc dc lc code data ls) (hn:n≤1000) :
  Calls prog 6 #[.slice cp code.length cc,.slice dp data.length dc,.agg (cfC c),.slice lp ls.length lc,.int .i64 n] W λ e w =>
   if bk code.length data.length=true then ∃ ro:RO,e=eY #[.agg (Xp (As c code data ls n) ro),.nilIface]/\Sep.Post emp W (all (Xq (As c code data ls n) ro)) w
   else e=eY #[.agg repZ,errV 1]/\ba W w:=by
 have hTA:(br W).at_ W:=⟨⟨W,rfl,hT,hC,qH _ _⟩,qH _ _⟩;refine vc6 cp code.length cc dp data.length dc (cfC c) lp ls.length lc n ((St.begin hTA).al λ k w2 H=>H.al λ k2 w3 H=>H.al λ k3 w4 H=>⟨cfC c,rfl,H.cells 1 rfl,rfl,H.al λ k4 w5 H=>H.al λ k5 w6 H=>?_⟩);have H:St W (br W).own w6 (Tz W k3 k4 k5 cc lc cp lp code.length ls.length c++[blk k2 repZ 38]):=H.pick [0,3,4,5,2];have H:=H.shut;refine(Tm hc hG (H.nth 0 rfl) hn).mono ?_;intro e w7 hp;cases hi:bk code.length data.length
 ·rw[if_neg (by rw[hi];decide)] at hp;obtain⟨rfl,hp⟩:=hp;have H:=H.upd 0 rfl hp;refine⟨_,_,rfl,H.sts0 1 rfl rfl rfl Kx λ w8 H=>⟨repZ,rfl,H.cells 1 rfl,?_⟩⟩;show ite _ _ _;rw[if_neg (by decide)];exact⟨rfl,(H.nth 0 rfl:(br W).at_ w8).2.mono (λ k hk h=>by have h:W.heap.size≤k:=h;omega)⟩
 ·rw[if_pos hi] at hp;obtain⟨ro,rfl,hp⟩:=hp;have H:=H.upd 0 rfl hp;refine⟨_,_,rfl,H.sts0 1 rfl rfl rfl (ux _ _ rfl rfl rfl rfl) λ w8 H=>⟨Xp (As c code data ls n) ro,rfl,H.cells 1 rfl,?_⟩⟩;show ite _ _ _;rw[if_pos rfl];have H:=H.open_;have H:=H.pick [1,2,3,0,4];exact⟨ro,rfl,Xs (λ q h=>h) (H.shut.swap)⟩
theorem whole_any (p:OA) (n c:Nat) (d:OA) (m dc:Nat) (W:wD):Calls prog 7 #[.slice p n c,.slice d m dc] W λ e w=>e=eZ (.bool (bk n m))/\w=W:=by
 have img:Calls prog 12 #[.slice p n c,.int .i64 (m:Int)] W λ e w=>e=eZ (.bool (bk n m))/\w=W:=by
  refine aql p n c m (aa (λ q=>aa (λ q2=>aa (λ q3=>aa (λ q4=>⟨by decide,?_⟩) (λ q4=>⟨?_,rfl⟩)) (λ q3=>⟨?_,rfl⟩)) (λ q2=>⟨?_,rfl⟩)) (λ q=>⟨?_,rfl⟩))
  ·have q:=qB q;have q2:=qB q2;have q4:=qB q4;have em:Int.tmod (m:Int) 16=((m % 16:Nat):Int):=rfl;rintro z rfl;refine⟨?_,rfl⟩;congr 2;rw[em];unfold bk;by_cases t:m % 16=0
   ·rw[qI (by omega),t];rfl
   ·rw[qM (by omega)];simp;omega
  ·have q4:=qE q4;unfold bk;rw[qM (by omega)]
  ·have q3:=qE q3;omega
  ·have q2:=qE q2;unfold bk;rw[qM (by omega)]
  ·have q:=qE q;unfold bk;rw[qM (by omega)]
 exact vc7 p n c d m dc (img.mono λ e w h=>⟨_,h.1,rfl,h.2⟩)
def pkv (c n:Int):Int:=if c<0 then (-(c+1)).tmod n else c.tmod n
theorem aw (c n:Int) (hn:0<n):0≤pkv c n/\pkv c n<n:=by
 unfold pkv;split
 ·exact⟨Int.tmod_nonneg _ (by omega),Int.tmod_lt_of_pos _ hn⟩
 ·exact⟨Int.tmod_nonneg _ (by omega),Int.tmod_lt_of_pos _ hn⟩
def I64 (c:Int):Prop:= -9223372036854775808≤c/\c≤9223372036854775807
theorem cj (W:wD) (c n:Int) (h0:I64 c) (hn:0<n):Calls prog 5 #[.int .i64 c,.int .i64 n] W λ e w=>e=eZ (.int .i64 (pkv c n))/\w=W:=by
 have h0':=h0.1;refine vc5 c n (aa (λ h=>?_) (λ h=>?_))
 ·have hc:c<0:=qB h;rintro z rfl;refine⟨by omega,?_⟩;rintro z2 rfl;rw[w64 (e:=c+1) (by omega) (by omega),w64 (e:=0 - (c+1)) (by omega) (by omega)];refine⟨?_,rfl⟩;unfold pkv;rw[if_pos hc,Int.zero_sub]
 ·have hc:¬ c<0:=qE h;refine⟨by omega,?_⟩;rintro z3 rfl;refine⟨?_,rfl⟩;unfold pkv;rw[if_neg hc]
structure Su where
 width:Int
 window:Int
 queue:Int
 regs:Int
 units:Int
 mul:Int
 kind:Int
 bits:Int
 hist:Int
 tgts:Int
 rets:Int
 sets:Int
 ways:Int
 cyc:Int
 bold:Bool
def Su.cells (s:Su):AV:=#[.int .i64 s.width,.int .i64 s.window,.int .i64 s.queue,.int .i64 s.regs,.int .i64 s.units,.int .i64 s.mul,.int .i64 s.kind,.int .i64 s.bits,.int .i64 s.hist,.int .i64 s.tgts,.int .i64 s.rets,.int .i64 s.sets,.int .i64 s.ways,.int .i64 s.cyc,.bool s.bold]
structure Su.rng (s:Su):Prop where
 width:I64 s.width
 window:I64 s.window
 queue:I64 s.queue
 regs:I64 s.regs
 units:I64 s.units
 mul:I64 s.mul
 kind:I64 s.kind
 bits:I64 s.bits
 hist:I64 s.hist
 tgts:I64 s.tgts
 rets:I64 s.rets
 sets:I64 s.sets
 ways:I64 s.ways
 cyc:I64 s.cyc
def Su.cf (s:Su):Cf:=⟨1+pkv s.width 4,2+pkv s.window 63,1+pkv s.queue 32,34+pkv s.regs 95,1+pkv s.units 4,1+pkv s.mul 10,s.bold,pkv s.kind 4,1+pkv s.bits 10,pkv s.hist (1+pkv s.bits 10+1),pkv s.tgts 9,1+pkv s.rets 16,2 ^ (pkv s.sets 5).toNat,1+pkv s.ways 4,pkv s.cyc 11⟩
theorem Su.cf_whole (s:Su):s.cf.Whole:=by
 have b1:=aw s.width 4 (by decide);have b2:=aw s.window 63 (by decide);have b3:=aw s.queue 32 (by decide);have b4:=aw s.regs 95 (by decide);have b5:=aw s.units 4 (by decide);have b6:=aw s.mul 10 (by decide);have b7:=aw s.kind 4 (by decide);have b8:=aw s.bits 10 (by decide);have b9:=aw s.hist (1+pkv s.bits 10+1) (by omega);have b10:=aw s.tgts 9 (by decide);have b11:=aw s.rets 16 (by decide);have b12:=aw s.sets 5 (by decide);have b13:=aw s.ways 4 (by decide);have b14:=aw s.cyc 11 (by decide);refine⟨?_,?_,?_,?_,?_,?_,?_,?_,?_,?_,?_,?_,?_,?_⟩ <;> simp only[Su.cf]
 case refine_12 =>
  obtain h | h | h | h | h:pkv s.sets 5=0∨pkv s.sets 5=1∨pkv s.sets 5=2∨pkv s.sets 5=3∨pkv s.sets 5=4:=by omega
  all_goals (rw[h];decide)
 all_goals omega
theorem Xt {z:Int} (h0:0≤z) (h5:z<5):IntKind.wrap .i64 (1 * 2 ^ min z.toNat (IntKind.bits .i64))=2 ^ z.toNat:=by
 obtain h | h | h | h | h:z=0∨z=1∨z=2∨z=3∨z=4:=by omega
 all_goals (subst h;decide)
theorem Nf (s:Su) (hs:s.rng) (W:wD):Calls prog 4 #[.agg s.cells] W λ e w=>e=eZ (.agg (cfC s.cf))/\ba W w:=by
 have b1:=aw s.width 4 (by decide);have b2:=aw s.window 63 (by decide);have b3:=aw s.queue 32 (by decide);have b4:=aw s.regs 95 (by decide);have b5:=aw s.units 4 (by decide);have b6:=aw s.mul 10 (by decide);have b8:=aw s.bits 10 (by decide);have b11:=aw s.rets 16 (by decide);have b12:=aw s.sets 5 (by decide);have b13:=aw s.ways 4 (by decide);refine vc4 s.cells ((St.nil W).al λ k w2 H=>H.al λ k2 w3 H=>⟨s.bits,H.ld 0 rfl rfl,H.callp (cj _ s.bits 10 hs.bits (by decide)) ⟨_,rfl,?_⟩⟩);rintro z3 rfl;rw[w64 (e:=1+pkv s.bits 10) (by omega) (by omega)];refine H.dr λ w5 H=>⟨s.width,H.ld 0 rfl rfl,_,cj _ s.width 4 hs.width (by decide),?_⟩;rintro z6 rfl;refine⟨s.window,H.ld 0 rfl rfl,_,cj _ s.window 63 hs.window (by decide),?_⟩;rintro z9 rfl;refine⟨s.queue,H.ld 0 rfl rfl,_,cj _ s.queue 32 hs.queue (by decide),?_⟩;rintro z12 rfl;refine⟨s.regs,H.ld 0 rfl rfl,_,cj _ s.regs 95 hs.regs (by decide),?_⟩;rintro z15 rfl;refine⟨s.units,H.ld 0 rfl rfl,_,cj _ s.units 4 hs.units (by decide),?_⟩;rintro z18 rfl;refine⟨s.mul,H.ld 0 rfl rfl,_,cj _ s.mul 10 hs.mul (by decide),?_⟩;rintro z21 rfl;refine⟨s.bold,H.ld 0 rfl rfl,s.kind,H.ld 0 rfl rfl,_,cj _ s.kind 4 hs.kind (by decide),s.hist,H.ld 0 rfl rfl,?_⟩;rintro z25 rfl;rw[w64 (e:=1+pkv s.bits 10+1) (by omega) (by omega)];refine⟨_,cj _ s.hist (1+pkv s.bits 10+1) hs.hist (by omega),s.tgts,H.ld 0 rfl rfl,_,cj _ s.tgts 9 hs.tgts (by decide),s.rets,H.ld 0 rfl rfl,_,cj _ s.rets 16 hs.rets (by decide),?_⟩;rintro z31 rfl;rintro vs rfl;refine⟨s.sets,H.ld 0 rfl rfl,_,cj _ s.sets 5 hs.sets (by decide),b12.1,?_⟩;rintro z34 rfl;rw[Xt b12.1 b12.2];refine⟨s.ways,H.ld 0 rfl rfl,_,cj _ s.ways 4 hs.ways (by decide),?_⟩;rintro z37 rfl;rintro vs2 rfl;refine⟨s.cyc,H.ld 0 rfl rfl,_,cj _ s.cyc 11 hs.cyc (by decide),rfl,rfl,?_⟩;rintro vs3 rfl;rw[w64 (e:=1+pkv s.width 4) (by omega) (by omega),w64 (e:=2+pkv s.window 63) (by omega) (by omega),w64 (e:=1+pkv s.queue 32) (by omega) (by omega),w64 (e:=34+pkv s.regs 95) (by omega) (by omega),w64 (e:=1+pkv s.units 4) (by omega) (by omega),w64 (e:=1+pkv s.mul 10) (by omega) (by omega),w64 (e:=1+pkv s.rets 16) (by omega) (by omega),w64 (e:=1+pkv s.ways 4) (by omega) (by omega)];exact H.sts0 (vs:=(cfC s.cf)) 1 rfl rfl rfl (Zi s.cf) λ w6 H=>⟨(cfC s.cf),rfl,H.cells 1 rfl,rfl,H.quiet'⟩
end Go.Proofs.YtmncepdbglaphaaGreatDoor.ko
namespace Go.Proofs.YtmncepdbglaphaaGreatDoor
open Go Go.Proofs Go.Proofs.Tryz Go.V
variable {W:wD}{Q:Ending->wD->Prop}
set_option maxHeartbeats 1000000
theorem vc8 (r:AV)
 (hVC:alc W (Value.cells (Value.agg r)) 38 λ k W2=>alc W2 #[.bool false,oi,.slice none 0 0,.string (.mk #[]),.slice none 0 0,.slice none 0 0] 38 λ k2 W3=>ldB W3 k 0 λ t=>ldI .i64 W3 k (0+1) λ z=>ldS W3 k (0+3) λ s=>nN (#[.bool t,.int .i64 z,.slice none 0 0,.string s,.slice none 0 0,.slice none 0 0]) λ vs=>alc W3 #[.bool false,oi,.slice none 0 0,.string (.mk #[]),.slice none 0 0,.slice none 0 0] 38 λ k3 W4=>ct W4 k3 0 6 vs λ W5=>ldL W5 k3 (0+2) λ p k5 k6=>ldL W5 k (0+2) λ p2 k7 k8=>apn W5 57 12 p k5 k6 k7 p2 80 λ p3 k10 W6=>sto W6 k3 (0+2) (Value.slice p3 (k5+k7) k10) λ W7=>ldL W7 k3 (0+4) λ p4 k13 k14=>ldL W7 k (0+4) λ p5 k15 k16=>apn W7 58 32 p4 k13 k14 k15 p5 128 λ p6 k18 W8=>sto W8 k3 (0+4) (Value.slice p6 (k13+k15) k18) λ W9=>ldL W9 k3 (0+5) λ p7 k21 k22=>ldL W9 k (0+5) λ p8 k23 k24=>apn W9 5 1 p7 k21 k22 k23 p8 1 λ p9 k26 W10=>sto W10 k3 (0+5) (Value.slice p9 (k21+k23) k26) λ W11=>ldN W11 k3 0 6 λ vs2=>ct W11 k2 0 6 vs2 λ W12=>ldN W12 k2 0 6 λ vs3=>Q (eZ (.agg vs3)) W12) :
 Calls prog 8 #[.agg r] W Q :=
 Sx.sd func8 .leaf hVC
theorem aqo (y0:AV) (y1:AV)
 (hVC:alc W (Value.cells (Value.agg y0)) 38 λ k W2=>alc W2 (Value.cells (Value.agg y1)) 38 λ k2 W3=>ldB W3 k 0 λ t=>ldB W3 k2 0 λ t2=>Sx.split (!t==t2) (Q (eZ (.bool false)) W3) (ldI .i64 W3 k (0+1) λ z=>ldI .i64 W3 k2 (0+1) λ z2=>Sx.split (z !=z2) (Q (eZ (.bool false)) W3) (ldS W3 k (0+3) λ s=>ldS W3 k2 (0+3) λ s2=>Sx.split (!s.toList==s2.toList) (Q (eZ (.bool false)) W3) (ldL W3 k (0+2) λ p k3 k4=>ldL W3 k2 (0+2) λ p2 k5 k6=>Sx.split ((↑k3:Int) !=(↑k5:Int)) (Q (eZ (.bool false)) W3) (ldL W3 k (0+4) λ p3 k7 k8=>ldL W3 k2 (0+4) λ p4 k9 k10=>Sx.split ((↑k7:Int) !=(↑k9:Int)) (Q (eZ (.bool false)) W3) (ldL W3 k (0+5) λ p5 k11 k12=>ldL W3 k2 (0+5) λ p6 k13 k14=>Sx.split ((↑k11:Int) !=(↑k13:Int)) (Q (eZ (.bool false)) W3) (∃ I:Int->wD->Prop,∃ I2:Int->wD->Nat,I 0 W3/\(wv (∀ x W4,I x W4->ldL W4 k (0+2) λ p7 k15 k16=>Sx.split (decide (x<(↑k15:Int))) (ldL W4 k (0+2) λ p8 k17 k18=>ixs x k17 p8 λ k19 k20=>ldN W4 k19 (k20+x.toNat * 12) 12 λ vs=>ldL W4 k2 (0+2) λ p9 k21 k22=>ixs x k21 p9 λ k23 k24=>ldN W4 k23 (k24+x.toNat * 12) 12 λ vs2=>∃ t3:Bool,(∀ W5:wD,Sem.run prog (do eqGuard BinOp.neq 57 (Operand.tmp 65) (Operand.tmp 70) (Value.agg vs) (Value.agg vs2);binOp BinOp.neq 57 (Value.agg vs) (Value.agg vs2)) W5=Result.ok (Value.bool t3) W5)/\dn W4 λ W6 k25=>Sx.split t3 (Q (eZ (.bool false)) W6) (nw .i64 (x+1) λ z3=>I z3 W6/\I2 z3 W6<I2 x W4)) (∃ I3:Int->wD->Prop,∃ I4:Int->wD->Nat,I3 0 W4/\(wv (∀ x2 W7,I3 x2 W7->ldL W7 k (0+4) λ p10 k26 k27=>Sx.split (decide (x2<(↑k26:Int))) (ldL W7 k (0+4) λ p11 k28 k29=>ixs x2 k28 p11 λ k30 k31=>ldN W7 k30 (k31+x2.toNat * 32) 32 λ vs3=>ldL W7 k2 (0+4) λ p12 k32 k33=>ixs x2 k32 p12 λ k34 k35=>ldN W7 k34 (k35+x2.toNat * 32) 32 λ vs4=>∃ t4:Bool,(∀ W8:wD,Sem.run prog (do eqGuard BinOp.neq 58 (Operand.tmp 83) (Operand.tmp 88) (Value.agg vs3) (Value.agg vs4);binOp BinOp.neq 58 (Value.agg vs3) (Value.agg vs4)) W8=Result.ok (Value.bool t4) W8)/\dn W7 λ W9 k36=>Sx.split t4 (Q (eZ (.bool false)) W9) (nw .i64 (x2+1) λ z4=>I3 z4 W9/\I4 z4 W9<I4 x2 W7)) (∃ I5:Int->wD->Prop,∃ I6:Int->wD->Nat,I5 0 W7/\(wv (∀ x3 W10,I5 x3 W10->ldL W10 k (0+5) λ p13 k37 k38=>Sx.split (decide (x3<(↑k37:Int))) (ldL W10 k (0+5) λ p14 k39 k40=>ixs x3 k39 p14 λ k41 k42=>ldI .u8 W10 k41 (k42+x3.toNat * 1) λ z5=>ldL W10 k2 (0+5) λ p15 k43 k44=>ixs x3 k43 p15 λ k45 k46=>ldI .u8 W10 k45 (k46+x3.toNat * 1) λ z6=>dn W10 λ W11 k47=>Sx.split (z5 !=z6) (Q (eZ (.bool false)) W11) (nw .i64 (x3+1) λ z7=>I5 z7 W11/\I6 z7 W11<I6 x3 W10)) (Q (eZ (.bool true)) W10)))))))))))))))) :
 Calls prog 10 #[.agg y0,.agg y1] W Q :=
 Sx.sd func10 (.r (.r (.n (.r (.q (.node [(5,.int .i64)] [2,3] 0 .leaf .leaf))) (.n (.r (.q (.node [(6,.int .i64)] [2,3] 0 .leaf .leaf))) (.q (.r (.q (.node [(7,.int .i64)] [2,3] 0 .leaf .leaf)))))))) hVC
theorem vc9 (y0:AV)
 (hVC:alc W (Value.cells (Value.agg y0)) 38 λ k W2=>∃ I:Int->wD->Prop,∃ I2:Int->wD->Nat,I 0 W2/\(wv (∀ x W3,I x W3->ldL W3 k (0+2) λ p k2 k3=>Sx.split (decide (x<(↑k2:Int))) (ldL W3 k (0+2) λ p2 k4 k5=>nN (#[.int .i64 77,oi,oi,oi,ou,ou,ou,oi,ou,oi,ou,ou]) λ vs=>ixs x k4 p2 λ k6 k7=>Array.size vs=12/\(∀ k8:Nat,k8<12->(∃ v:Value,World.cell? W3 ⟨k6,(k7+x.toNat * 12+k8),none⟩=some v)/\World.frozen? W3 ⟨k6,(k7+x.toNat * 12+k8),none⟩=false)/\(∀ v2:Value,v2 ∈ Array.toList vs->Value.oneCell' v2=true)/\nM (World.setCells W3 k6 (k7+x.toNat * 12) (Array.toList vs)) λ W4=>nw .i64 (x+1) λ z=>I z W4/\I2 z W4<I2 x W3) (∃ I3:Int->wD->Prop,∃ I4:Int->wD->Nat,I3 0 W3/\(wv (∀ x2 W5,I3 x2 W5->ldL W5 k (0+4) λ p3 k9 k10=>Sx.split (decide (x2<(↑k9:Int))) (ldL W5 k (0+4) λ p4 k11 k12=>nN (#[.int .u32 7,.int .u32 7,.int .u32 7,ou,ou,ou,ou,ou,ou,ou,ou,ou,ou,ou,ou,ou,ou,ou,ou,ou,ou,ou,ou,ou,ou,ou,ou,ou,ou,ou,ou,ou]) λ vs2=>ixs x2 k11 p4 λ k13 k14=>Array.size vs2=32/\(∀ k15:Nat,k15<32->(∃ v3:Value,World.cell? W5 ⟨k13,(k14+x2.toNat * 32+k15),none⟩=some v3)/\World.frozen? W5 ⟨k13,(k14+x2.toNat * 32+k15),none⟩=false)/\(∀ v4:Value,v4 ∈ Array.toList vs2->Value.oneCell' v4=true)/\nM (World.setCells W5 k13 (k14+x2.toNat * 32) (Array.toList vs2)) λ W6=>nw .i64 (x2+1) λ z2=>I3 z2 W6/\I4 z2 W6<I4 x2 W5) (∃ I5:Int->wD->Prop,∃ I6:Int->wD->Nat,I5 0 W5/\(wv (∀ x3 W7,I5 x3 W7->ldL W7 k (0+5) λ p5 k16 k17=>Sx.split (decide (x3<(↑k16:Int))) (dw W7 λ W8=>ldL W8 k (0+5) λ p6 k18 k19=>ldL W8 k (0+5) λ p7 k20 k21=>ixs x3 k20 p7 λ k22 k23=>ldI .u8 W8 k22 (k23+x3.toNat * 1) λ z3=>nw .u8 (z3+101) λ z4=>ixs x3 k18 p6 λ k24 k25=>sto W8 k24 (k25+x3.toNat * 1) (Value.int .u8 z4) λ W9=>nw .i64 (x3+1) λ z5=>I5 z5 W9/\I6 z5 W9<I6 x3 W7) (ldL W7 k (0+2) λ p8 k26 k27=>ldL W7 k (0+4) λ p9 k28 k29=>ldL W7 k (0+5) λ p10 k30 k31=>∃ I7:Int->OA->Nat->Nat->OA->Nat->Nat->OA->Nat->Nat->wD->Prop,∃ I8:Int->OA->Nat->Nat->OA->Nat->Nat->OA->Nat->Nat->wD->Nat,I7 0 p8 k26 k27 p9 k28 k29 p10 k30 k31 W7/\(wv (∀ x4 x5 k32 k33 x6 k34 k35 x7 k36 k37 W10,I7 x4 x5 k32 k33 x6 k34 k35 x7 k36 k37 W10->Sx.split (decide (x4<70)) (nN (#[.int .i64 78,oi,oi,oi,ou,ou,ou,oi,ou,oi,ou,ou]) λ vs3=>Array.size vs3=12/\alc W10 (List.toArray (Array.toList vs3++[])) 57 λ k38 W11=>apn W11 57 12 x5 k32 k33 1 (some ⟨k38,0,none⟩) 80 λ p11 k40 W12=>nN (#[.int .u32 8,.int .u32 8,.int .u32 8,ou,ou,ou,ou,ou,ou,ou,ou,ou,ou,ou,ou,ou,ou,ou,ou,ou,ou,ou,ou,ou,ou,ou,ou,ou,ou,ou,ou,ou]) λ vs4=>Array.size vs4=32/\alc W12 (List.toArray (Array.toList vs4++[])) 58 λ k43 W13=>apn W13 58 32 x6 k34 k35 1 (some ⟨k43,0,none⟩) 128 λ p12 k45 W14=>alc W14 #[.int .u8 238] 5 λ k48 W15=>apn W15 5 1 x7 k36 k37 1 (some ⟨k48,0,none⟩) 1 λ p13 k50 W16=>nw .i64 (x4+1) λ z6=>I7 z6 p11 (k32+1) k40 p12 (k34+1) k45 p13 (k36+1) k50 W16/\I8 z6 p11 (k32+1) k40 p12 (k34+1) k45 p13 (k36+1) k50 W16<I8 x4 x5 k32 k33 x6 k34 k35 x7 k36 k37 W10) (ldL W10 k (0+2) λ p14 k53 k54=>nw .i64 ((↑k32:Int) - (↑k53:Int)) λ z7=>nw .i64 (z7+(↑k34:Int)) λ z8=>ldL W10 k (0+4) λ p15 k55 k56=>nw .i64 (z8 - (↑k55:Int)) λ z9=>nw .i64 (z9+(↑k36:Int)) λ z10=>ldL W10 k (0+5) λ p16 k57 k58=>nw .i64 (z10 - (↑k57:Int)) λ z11=>Q (eZ (.int .i64 z11)) W10))))))))))))) :
 Calls prog 9 #[.agg y0] W Q :=
 Sx.sd func9 (.r (.n (.r (.q (.node [(3,.int .i64)] [1] 0 .leaf .leaf))) (.n (.r (.q (.node [(4,.int .i64)] [1] 0 .leaf .leaf))) (.n (.r (.q (.node [(5,.int .i64)] [1] 0 (.r (.q (.q (.h 11)))) .leaf))) (.r (.r (.r (.q (.r (.q (.node [(9,.int .i64),(6,.slice),(7,.slice),(8,.slice)] [1] 0 .leaf .leaf))))))))))) hVC
end Go.Proofs.YtmncepdbglaphaaGreatDoor
namespace Go.SEq
variable {P:Program}{w:wD}
def Scal (P:Program) (t:TI) (v:Value):Prop:=(∃ k x,P.underlying t=some (.int k)/\v= .int k x)∨(∃ b,P.underlying t=some .bool/\v= .bool b)
theorem Ng {t:TI}{v:Value} (h:Scal P t v):(isAgg t).run P w= .ok false w:=by
 rcases h with ⟨k,x,h, -⟩ | ⟨b,h, -⟩ <;> simp [isAgg,underlying,h,program,Sem.run_bind,Sem.run]
theorem part_scal {t:TI}{v:Value}{xs:AV}{o:Nat} (h:Scal P t v) (hx:xs[o]?=some v):(part t xs o).run P w= .ok v w:=by
 unfold part;rw[Sem.run_bind,Ng h];simp [Result.andThen,hx]
theorem eq_scal {d:Nat}{t:TI}{u v:Value} (hu:Scal P t u) (hv:Scal P t v):∃ b,(Op.equalIn (d+1) t u v).run P w= .ok b w/\(b=true↔u=v):=by
 rcases hu with ⟨k,x,h,rfl⟩ | ⟨b,h,rfl⟩
 ·rcases hv with ⟨k',y,h',rfl⟩ | ⟨b,h', -⟩
  ·rw[h] at h';cases h';exact⟨_,run_equalIn_int w d t k k x y h,by simp⟩
  ·rw[h] at h';cases h'
 ·rcases hv with ⟨k',y,h', -⟩ | ⟨b',h',rfl⟩
  ·rw[h] at h';cases h'
  ·exact⟨_,run_equalIn_bool w d t b b' h,by simp⟩
theorem Au {d k:Nat}{e:TI}{xs:AV}:∀ (is:LN),(∀ j ∈ is,∃ v,xs[j * k]?=some v/\Scal P e v)->(Op.eqItems (d+1) e k xs xs is).run P w= .ok true w
 | [],_=>by simp [Op.eqItems]
 | j::is,h=>by
  obtain⟨v,hv,sv⟩:=h j (by simp);obtain⟨b,hb,hiff⟩:=eq_scal (d:=d) (w:=w) sv sv;have hb1:b=true:=hiff.2 rfl;subst hb1;simp only[Op.eqItems,Sem.run_bind,part_scal sv hv,Result.andThen_ok,hb];simpa using Au is λ j hj=>h j (by simp [hj])
theorem array_same {t e:TI}{n:Nat}{i:TypeInfo}{xs:AV} (hu:P.underlying t=some (.array n e)) (hi:P.info? e=some i) (h:∀ j,j<n->∃ v,xs[j * P.cellsOf e]?=some v/\Scal P e v) :
  ∀ w,(Op.equalIn 10000 t (.agg xs) (.agg xs)).run P w= .ok true w:=λ w=>by
 rw[run_equalIn_array w 9999 xs xs hu hi];exact Au _ λ j hj=>h j (qNB.1 hj)
theorem neq_run {t:TI}{xs ys:AV}{b:Bool} (hg:P.eqGuardType P.depth t=false) (h:∀ w,(Op.equalIn 10000 t (.agg xs) (.agg ys)).run P w= .ok b w) (ox oy:Operand) (w:wD) :
  (do eqGuard .neq t ox oy (.agg xs) (.agg ys);binOp .neq t (.agg xs) (.agg ys):Sem Value).run P w= .ok (.bool (!b)) w:=by
 rw[Sem.run_bind,run_eqGuard_agg w .neq t ox oy xs ys hg];simp only[Result.andThen_ok];rw[run_neq_struct,h w];rfl
end Go.SEq
