/- A part of the walk. No condition. -/
import Derived.Test.YtmncepdbglaphaaGreatDoorKwT
import Derived.Shelf.Sort.Plain
import Derived.Shelf.Slices.In.SortNone
import Derived.Test.YtmncepdbglaphaaGreatDoorProg
set_option maxRecDepth 100000
namespace Go.Proofs.YtmncepdbglaphaaGreatDoor.ko
open Go.RowKit Go.XHeap Go.Sx Go.Sep Go.Proofs.Tryz
variable {W w:wD}{A:Ka}{M M':Km}{L:List Asn}{b j n:Nat}{f f' f1 f2 f3:Fl}{g:List Fl}{S:Nat->Prop}
abbrev Nz (A:Ka) (K':Ko):={ M':Km // M'.Rep A/\M'.K=K' }
theorem Fz (C:Kc) (K:Ko):∃ (wd:Int) (i:Ins) (cl ca tv:Int),K.decoded C={ fl0 K.pc with word:=wd,i:=i,cls:=cl,cause:=ca,tval:=tv }:=by
 unfold Ko.decoded;split
 ·exact⟨_,_,_,_,_,rfl⟩
 ·split
  ·exact⟨_,_,_,_,_,rfl⟩
  ·exact⟨_,_,_,_,_,rfl⟩
def Km.tkn (M:Km) (f:Fl) (k:Nat) (np:OA) (nc:Nat) (z:lsq.PQ) (ps:pm.PS) (p:OA) (c:Nat):Km :=
 { M with K:={ M.K with nm:=if f.wrs then M.K.nm.take f.i.rd else M.K.nm,nxt:=M.K.nxt+1,rdy:=if f.wrs then M.K.rdy.set M.K.nm.fresh.toNat false else M.K.rdy,q:=if f.mem then M.K.q++[lsq.newEn M.K.nxt (decide (f.cls=5))] else M.K.q,pr:=M.K.pr.on f.pc f.i (M.K.pr.tk f.pc f.i),pc:=(M.K.named f).guess,fls:=M.K.fls++[M.K.named f] },nfp:=np,nfc:=nc,q:=z,ps:=ps,w:=M.w.entered (M.K.named f).cls (M.K.named f).a (M.K.named f).b (M.K.named f).fresh,fs:=M.fs++[k],fp:=p,fc:=c,fl:=M.fl++[(k,M.K.named f)] }
theorem Km.Rep.tkn (h:M.Rep A){k:Nat} (hk:k ∉ M.fl.map (·.1)){np:OA}{nc:Nat}{z:lsq.PQ}{ps:pm.PS}{p:OA}{c:Nat} (hl:M.K.fls.length<A.C.W) (hx:M.K.nxt+1<4611686018427387904) (hf:f.issued=false/\f.done=false) (hfr:f.wrs=true->0≤M.K.nm.fresh)
  (hz:lsq.ens z=if f.mem then M.K.q++[lsq.newEn M.K.nxt (decide (f.cls=5))] else M.K.q) (hzs:z.size=M.q.size) (hps:PrR (M.K.pr.on f.pc f.i (M.K.pr.tk f.pc f.i)) ps M.pd):(M.tkn f k np nc z ps p c).Rep A:=by
 have hkf:k ∉ M.fs:=λ e=>by
  obtain⟨j,hj⟩:=qK.1 e;have hjl:=(qD.1 hj).1;have hf:=qC (show j<M.K.fls.length by rw[<- h.fk];exact hjl);exact hk (qCB.2 ⟨_,h.fl j k _ hj hf,rfl⟩)
 have key:(M.fl++[(k,M.K.named f)]).map (·.1)=M.fl.map (·.1)++[k]:=by rw[qV];rfl
 refine⟨?_,hz,hzs.trans h.qs,hps,?_,?_,?_,?_,h.bus,h.gs,h.bg,h.oth⟩
 ·have hw:=h.win.entered (f:=M.K.named f) hl hx (by unfold dh Fl.st;show win.Slot.mk _ _ _ _ (if f.done=true then 2 else if f.issued=true then 1 else 0) _=_;rw[hf.1,hf.2];rfl)
  have e:(if 0≤(M.K.named f).fresh then M.K.rdy.set (M.K.named f).fresh.toNat false else M.K.rdy)=(if f.wrs then M.K.rdy.set M.K.nm.fresh.toNat false else M.K.rdy):=by
   show(if 0≤(if f.wrs then M.K.nm.fresh else -1) then M.K.rdy.set (if f.wrs then M.K.nm.fresh else -1).toNat false else M.K.rdy)=_;by_cases q:f.wrs=true
   ·rw[if_pos q,if_pos q,if_pos (hfr q)]
   ·rw[if_neg q,if_neg q,if_neg (by decide)]
  rw[e] at hw;exact hw
 ·show((M.fl++[(k,M.K.named f)]).map (·.1)).Nodup;rw[key,qmB]
  exact⟨h.fn,qcB.2 ⟨by simp,List.nodup_nil⟩,λ a ha c hc e=>by
   have hc:c=k:=by simpa using hc
   subst hc;subst e
   exact hk ha⟩
 ·show(M.fs++[k]).Nodup;rw[qmB]
  exact⟨h.fd,qcB.2 ⟨by simp,List.nodup_nil⟩,λ a ha c hc e=>by
   have hc:c=k:=by simpa using hc
   subst hc;subst e
   exact hkf ha⟩
 ·show(M.fs++[k]).length=(M.K.fls++[M.K.named f]).length;rw[qP,qP,h.fk];rfl
 ·intro j b f2 hb hf2;have hb:(M.fs++[k])[j]?=some b:=hb;have hf2:(M.K.fls++[M.K.named f])[j]?=some f2:=hf2;show(b,f2) ∈ M.fl++[(k,M.K.named f)];by_cases hj:j<M.fs.length
  ·rw[qk hj] at hb;rw[qk (by rw[<- h.fk];exact hj)] at hf2;exact qt _ (h.fl j b f2 hb hf2)
  ·rw[qf (by omega)] at hb;rw[qf (by rw[<- h.fk];omega),<- h.fk] at hf2;obtain⟨i,hi⟩:∃ i,j - M.fs.length=i:=⟨_,rfl⟩;rw[hi] at hb hf2;rcases i with _ | i
   ·cases hb;cases hf2;exact qL _ (qR.2 rfl)
   ·cases hb
theorem Tf (h:(ae A M).at_ W) (hA:A.Ok) (hR:M.Rep A) (hI:Inv A.C n [] M.K) (hn:n+10≤1000000000000) :
  Calls prog 69 #[pZ A.x 0] W λ e w=>∃ z:Nz A (M.K.take A.C).1,e=eZ (.bool (M.K.take A.C).2)/\Sep.Post (ae A M) W (ae A z.1) w:=by
 have sy:∀ {P:Ko×Bool},M.K.take A.C=P->∀ {B:wD},(∃ z:Nz A P.1,Sep.Post (ae A M) W (ae A z.1) B)->∀ {e:Ending},e=eZ (.bool P.2)->∃ z:Nz A (M.K.take A.C).1,e=eZ (.bool (M.K.take A.C).2)/\Sep.Post (ae A M) W (ae A z.1) B:=by
  rintro P rfl B ⟨z,hz⟩ e he;exact⟨z,he,hz⟩
 have hr:=hI.decoded (C:=A.C);obtain⟨wd,i,cl,ca,tv,hfd⟩:=Fz A.C M.K;obtain⟨f,ef⟩:∃ f,M.K.decoded A.C=f:=⟨_,rfl⟩;refine aqf A.x 0 ((St.begin h).callx 0 rfl (Ia h hA hI) λ k w2 H=>⟨_,rfl,?_⟩);rw[ef] at H hr hfd;obtain⟨i0,ei0⟩:∃ i0,(M.K.idle|| !A.C.there M.K.pc)=i0:=⟨_,rfl⟩
 have htk:M.K.take A.C=if ({ M.K with idle:=i0 }:Ko).full A.C f=true then ({ M.K with idle:=false },false) else (({ M.K with idle:=i0 }:Ko).taken A.C f,true):=by
  unfold Ko.take;simp only;rw[ef,ei0]
 have hI1:Inv A.C n [] (M.idl (M.K.idle|| !A.C.there M.K.pc)).K:={ hI with };have hR1:(M.idl (M.K.idle|| !A.C.there M.K.pc)).Rep A:=hR.idl _;rw[ei0] at hI1 hR1 H;have H:St W (ae A M).own w2 ((M.idl i0).pieces A++[blk k f.cells 162]):=St.open_ (St.open_ (L':=[]) H)
 have htk:M.K.take A.C=if (M.idl i0).K.full A.C f=true then ({ (M.idl i0).K with idle:=false },false) else ((M.idl i0).K.taken A.C f,true):=htk
 obtain⟨M1,eM1⟩:∃ M1,M.idl i0=M1:=⟨_,rfl⟩;rw[eM1] at htk hI1 hR1 H
 have hpc1:M1.K.pc=M.K.pc:=by rw[<- eM1];rfl
 rw[<- hpc1] at hfd;clear ei0 ef hpc1 hR
 have hcls:f.cls=cl/\f.i=i/\f.a= -1/\f.b= -1/\f.fresh= -1/\f.old=0/\f.seq=0/\f.pc=M1.K.pc:=by rw[hfd];exact⟨rfl,rfl,rfl,rfl,rfl,rfl,rfl,rfl⟩
 have h32:=hI1.nm.n32;have he:lsq.ens M1.q=M1.K.q:=hR1.q;have hQ:M1.q.size=A.C.Q:=hR1.qs;have hcf:=hI1.cf;refine⟨λ x B=>x=f.mem/\St W (ae A M).own B (M1.pieces A++[blk k f.cells 162]),ptr_some ⟨f.cls,by rw[ac];exact H.ld 16 rfl rfl,aa (λ q=>⟨?_,H⟩) (λ q=>ptr_some ⟨f.cls,by rw[ac];exact H.ld 16 rfl rfl,?_,H⟩)⟩,λ _=>?_⟩
 ·have q:f.cls=4:=by simpa using q
  unfold Fl.mem;rw[qI q];rfl
 ·have q:¬ f.cls=4:=by simpa using q
  unfold Fl.mem;rw[qM q,Bool.false_or];by_cases t:f.cls=5
  ·rw[t];rfl
  ·rw[qM t];simpa using t
 clear H;rintro x w3 ⟨rfl,H⟩;refine⟨λ x B=>x=f.wrs/\St W (ae A M).own B (M1.pieces A++[blk k f.cells 162]),ptr_some ⟨f.i.op,H.ld 16 rfl rfl,H.callq (Vg (Fy H) f.i.op) λ w4 H=>⟨_,rfl,aa (λ q=>ptr_some ⟨f.i.rd,H.ld 16 rfl rfl,?_,H⟩) (λ q=>⟨?_,H⟩)⟩⟩,λ _=>?_⟩
 ·have q:pf f.i.op=true:=q;unfold Fl.wrs;rw[q,qoB]
 ·have q:pf f.i.op=false:=q;unfold Fl.wrs;rw[q,qbB]
 clear H;rintro x w4 ⟨rfl,H⟩;refine⟨λ B=>M1.K.full A.C f=false/\St W (ae A M).own B (M1.pieces A++[blk k f.cells 162]),⟨λ x B=>x=M1.K.full A.C f/\St W (ae A M).own B (M1.pieces A++[blk k f.cells 162]),⟨_,H.ld 0 rfl rfl,_,λ k2=>(win.wlen_any ((H.drewN k2).nth 2 rfl)).mono λ e w hw=>⟨hw.1,k2,hw.2⟩,A.C.c.window,H.ld 0 rfl rfl,?_⟩,λ _=>?_⟩,λ _=>?_⟩
 ·have hwn:M1.w.n=M1.K.fls.length:=hR1.win.n;refine aa (λ q=>?_) (λ q=>?_)
  ·have q:((M1.w.n:Nat):Int)=A.C.c.window:=by simpa using q
   rintro w5 k3 rfl;refine⟨?_,H.drewN k3⟩;unfold Ko.full;rw[qI (show(M1.K.fls.length:Int)=A.C.c.window by omega)];rfl
  have q:¬ ((M1.w.n:Nat):Int)=A.C.c.window:=by simpa using q
  have efull:M1.K.full A.C f=((f.mem&&decide ((M1.K.q.length:Int)=A.C.c.queue))||(f.wrs&&decide (M1.K.nm.free.length=0))):=by
   unfold Ko.full;rw[qM (show ¬ (M1.K.fls.length:Int)=A.C.c.window by omega),Bool.false_or]
  have freec:∀ k4:Nat,Calls prog 117 #[pZ A.nb 0] (w4.drewN k4) λ e w=>e=eZ (.int .i64 M1.K.nm.free.length)/\∃ k5,w=w4.drewN k5:=λ k4=>(rm.free_any ((H.drewN k4).nth 3 rfl) h32).mono λ e w hw=>⟨hw.1,k4,hw.2⟩;refine aa (λ qm=>⟨_,H.ld 0 rfl rfl,_,λ k4=>(ale ((H.drewN k4).nth 4 rfl)).mono λ e w hw=>⟨hw.1,k4,hw.2⟩,A.C.c.queue,H.ld 0 rfl rfl,aa (λ q2=>?_) (λ q2=>aa (λ q3=>⟨_,H.ld 0 rfl rfl,_,freec,?_⟩) (λ q3=>?_))⟩) (λ qm=>aa (λ q3=>⟨_,H.ld 0 rfl rfl,_,freec,?_⟩) (λ q3=>?_))
  ·have q2:(M1.K.q.length:Int)=A.C.c.queue:=by rw[<- he];simpa using q2
   rintro w5 k3 rfl;refine⟨?_,H.drewN k3⟩;rw[efull,show f.mem=true from qm,qI q2];rfl
  ·have q2:¬ (M1.K.q.length:Int)=A.C.c.queue:=by rw[<- he];simpa using q2
   rintro w5 k3 rfl;refine⟨?_,H.drewN k3⟩;rw[efull,qM q2,Bool.and_false,Bool.false_or,show f.wrs=true from q3,qoB];by_cases t:M1.K.nm.free.length=0
   ·rw[t];rfl
   ·rw[qM t];simp;intro e;exact t (by rw[e];rfl)
  ·have q2:¬ (M1.K.q.length:Int)=A.C.c.queue:=by rw[<- he];simpa using q2
   rintro w5 k3 rfl;refine⟨?_,H.drewN k3⟩;rw[efull,qM q2,Bool.and_false,Bool.false_or,show f.wrs=false from q3,qbB]
  ·rintro w5 k3 rfl;refine⟨?_,H.drewN k3⟩;rw[efull,show f.mem=false from qm,qbB,Bool.false_or,show f.wrs=true from q3,qoB];by_cases t:M1.K.nm.free.length=0
   ·rw[t];rfl
   ·rw[qM t];simp;intro e;exact t (by rw[e];rfl)
  ·rintro w5 k3 rfl;refine⟨?_,H.drewN k3⟩;rw[efull,show f.mem=false from qm,qbB,Bool.false_or,show f.wrs=false from q3,qbB]
 ·clear H;rintro x w5 ⟨rfl,H⟩;refine aa (λ q=>?_) (λ q=>⟨q,H⟩);have q:M1.K.full A.C f=true:=q;rw[if_pos q] at htk;refine H.st 0 rfl (by show 33<34;omega) λ w6 H=>sy htk ⟨⟨M1.idl false,hR1.idl _,rfl⟩,?_⟩ rfl;exact aq (M':=M1.idl false) (L:=[blk k f.cells 162]) H
 clear H;rintro w5 ⟨hfull,H⟩;rw[if_neg (by rw[hfull];decide)] at htk
 have hroom:M1.K.fls.length<A.C.W/\(f.mem=true->M1.K.q.length<A.C.Q)/\(f.wrs=true->M1.K.nm.free≠[]):=by
  have hf:=hfull;unfold Ko.full at hf;simp only[Bool.or_eq_false_iff,Bool.and_eq_false_imp,decide_eq_false_iff_not] at hf;obtain⟨f1,f2,f3⟩:=hf;have hwn:=hcf.wn;have hqn:=hcf.q;have h2:=hI1.wn;have h3:=hI1.qo.len;refine⟨by unfold Kc.W at h2 ⊢;omega,λ e=>?_,λ e e2=>f3 e (by rw[e2];rfl)⟩;have:=f2 e;unfold Kc.Q at h3 ⊢;omega
 have hI2:=hI1.taken (C:=A.C) hr hroom.1 hroom.2.1 hroom.2.2;obtain⟨G,eG⟩:∃ G,M1.K.named f=G:=⟨_,rfl⟩
 have hGm:G ∈ []++(M1.K.taken A.C f).fls:=by
  show G ∈ M1.K.fls++[M1.K.named f];rw[eG];exact qL _ (qR.2 rfl)
 have hsr:=hI2.src hGm;have hfrs:=hI2.fresh hGm
 have hGf:G={ f with a:=G.a,b:=G.b,fresh:=G.fresh,old:=G.old,seq:=M1.K.nxt,guess:=M1.K.pr.next f.pc f.i,mh:=M1.K.pr.hist,mt:=M1.K.pr.top,mv:=M1.K.pr.val }:=by rw[<- eG];rfl
 have g1:G.fresh=if f.wrs then M1.K.nm.fresh else -1:=by rw[<- eG];rfl
 have g2:G.old=if f.wrs then M1.K.nm.look f.i.rd else 0:=by rw[<- eG];rfl
 have g4:G.a=if (cw f.i.op).1 then M1.K.nm.look f.i.rs1 else -1:=by rw[<- eG];rfl
 have g5:G.b=if (cw f.i.op).2 then M1.K.nm.look f.i.rs2 else -1:=by rw[<- eG];rfl
 obtain⟨ga,ega⟩:∃ ga,G.a=ga:=⟨_,rfl⟩;obtain⟨gb,egb⟩:∃ gb,G.b=gb:=⟨_,rfl⟩;obtain⟨gf,egf⟩:∃ gf,G.fresh=gf:=⟨_,rfl⟩;obtain⟨go,ego⟩:∃ go,G.old=go:=⟨_,rfl⟩;rw[ega,egb,egf,ego] at hGf;rw[ega] at g4;rw[egb] at g5;rw[egf] at g1;rw[ego] at g2;rw[ega,egb] at hsr;rw[egf] at hfrs;refine ptr_some ⟨f.i.op,H.ld 16 rfl rfl,H.callq (Pf (Fy H) f.i.op) λ w6 H=>⟨_,_,rfl,λ B=>St W (ae A M).own B (M1.pieces A++[blk k ({ f with a:=ga }:Fl).cells 162]),aa (λ q=>?_) (λ q=>?_),λ _=>?_⟩⟩
 ·have q:(cw f.i.op).1=true:=q;rw[if_pos q] at g4;refine H.dr λ w7 H=>⟨_,H.ld 0 rfl rfl,ptr_some ⟨f.i.rs1,H.ld 16 rfl rfl,ga,?_,ptr_some ?_⟩⟩
  ·rw[g4];exact rm.look_any (H.nth 3 rfl) h32 f.i.rs1
  ·rw[ac];exact H.st 16 rfl (by show 13<28;omega) λ w8 H=>H
 ·have q:(cw f.i.op).1=false:=q;rw[if_neg (by rw[q];decide)] at g4
  have e:({ f with a:=ga }:Fl)=f:=by rw[g4,<- hcls.2.2.1]
  rw[e];exact H
 clear H;intro w7 H;refine⟨λ B=>St W (ae A M).own B (M1.pieces A++[blk k ({ f with a:=ga,b:=gb }:Fl).cells 162]),aa (λ q=>?_) (λ q=>?_),λ _=>?_⟩
 ·have q:(cw f.i.op).2=true:=q;rw[if_pos q] at g5;refine H.dr λ w7 H=>⟨_,H.ld 0 rfl rfl,ptr_some ⟨f.i.rs2,H.ld 16 rfl rfl,gb,?_,ptr_some ?_⟩⟩
  ·rw[g5];exact rm.look_any (H.nth 3 rfl) h32 f.i.rs2
  ·rw[ac];exact H.st 16 rfl (by show 14<28;omega) λ w8 H=>H
 ·have q:(cw f.i.op).2=false:=q;rw[if_neg (by rw[q];decide)] at g5
  have e:({ f with a:=ga,b:=gb }:Fl)={ f with a:=ga }:=by rw[g5,<- hcls.2.2.2.1]
  rw[e];exact H
 clear H;intro w8 H;obtain⟨N,eN⟩:∃ N,(if f.wrs then M1.K.nm.take f.i.rd else M1.K.nm)=N:=⟨_,rfl⟩;refine⟨λ B=>∃ (p:OA) (c:Nat),St W (ae A M).own B ((M1.nms N p c).pieces A++[blk k ({ f with a:=ga,b:=gb,fresh:=gf,old:=go }:Fl).cells 162]),aa (λ q=>?_) (λ q=>?_),λ _=>?_⟩
 ·have q:f.wrs=true:=q;rw[if_pos q] at g1 g2 eN
  have hrd:0<f.i.rd/\f.i.rd<32:=by
   have:=q;unfold Fl.wrs at this;simp only[qU,decide_eq_true_eq] at this;exact⟨this.2,hr.io.1.2⟩
  have htake:=rm.take_any (H.nth 3 rfl) hI1.nm hrd (hroom.2.2 q);rw[eN,<- g1,<- g2] at htake;refine H.dr λ w9 H=>ptr_some ⟨_,H.ld 0 rfl rfl,f.i.rd,H.ld 16 rfl rfl,?_⟩;have htake:=rm.take_any (H.nth 3 rfl) hI1.nm hrd (hroom.2.2 q);rw[eN,<- g1,<- g2] at htake;refine H.callx 3 rfl htake λ zn w10 H=>⟨_,_,_,rfl,ptr_some ?_⟩;rw[ac];refine H.st 16 rfl (by show 15<28;omega) λ w11 H=>ptr_some ?_;rw[ac];exact H.st 16 rfl (by show 16<28;omega) λ w12 H=>⟨zn.1,zn.2,H⟩
 ·have q:f.wrs=false:=q;rw[if_neg (by rw[q];decide)] at g1 g2 eN
  have e:({ f with a:=ga,b:=gb,fresh:=gf,old:=go }:Fl)={ f with a:=ga,b:=gb }:=by rw[g1,g2,<- hcls.2.2.2.2.1,<- hcls.2.2.2.2.2.1]
  have eN2:M1.nms N M1.nfp M1.nfc=M1:=by rw[<- eN];rfl
  refine⟨M1.nfp,M1.nfc,?_⟩;rw[e,eN2];exact H
 clear H;rintro w9 ⟨np,nc,H⟩;have hok:=hR1.win.ok;have hcr:=Fb f.i.op
 have hfr2 : -1≤gf/\gf<A.C.R:=by
  by_cases q:0≤gf
  ·have:=(hfrs q).1;exact⟨by omega,this.2⟩
  ·have:gf= -1:=by
    rw[g1] at q ⊢;split at q
    ·rename_i q2;rw[if_pos q2] at g1
     have hun:=hI1.nm.uf M1.K.nm.fresh (by
      obtain⟨p,ps,hp⟩:=qOB (hroom.2.2 q2);unfold Nms.fresh
      rw[hp];exact qg ..)
     exact absurd hun.1.1 q
    ·rename_i q2;rw[if_neg q2]
   rw[this];have:=hcf.r;unfold Kc.R;omega
 have hreg:∀ x:Int, -1≤x/\x<A.C.R->M1.w.regOk x=true:=λ x hx=>by
  unfold win.WS.regOk;rw[hR1.win.R,qI hx.1,qI hx.2];rfl
 have henter:M1.w.enterOk f.cls ga gb gf:=by
  refine⟨by rw[hr.cls];exact hcr.1,by rw[hr.cls];exact hcr.2,?_⟩;simp only[List.all_cons,List.all_nil,Bool.and_true];rw[hreg ga hsr.1,hreg gb hsr.2,hreg gf hfr2];rfl
 have hnS:¬ M1.w.n=M1.w.S:=by rw[hR1.win.n,hR1.win.S];have:=hroom.1;omega
 have hnx:=hI1.nx
 have hwe:Calls prog 120 #[pZ A.wb 0,.agg (win.entryC f.cls ga gb gf)] w9.drew λ e w=>e=eY #[.int .i64 M1.K.nxt,.nilIface]/\Sep.Post (win.winA A.wb M1.w) w9.drew (win.winA A.wb (M1.w.entered f.cls ga gb gf)) w:=by
  refine(win.enter_any hok (H.drew.nth 2 rfl) (by rw[hR1.win.nx];omega) f.cls ga gb gf).mono λ e w hp=>?_;unfold win.EnterPost at hp;rw[if_pos henter,if_neg hnS,hR1.win.nx] at hp;exact hp
 intro w10 hw10;subst hw10;have H:=H.drew;refine ptr_some (ptr_some (ptr_some (ptr_some ⟨_,H.ld 0 rfl rfl,f.cls,by rw[ac];exact H.ld 16 rfl rfl,ga,by rw[ac];exact H.ld 16 rfl rfl,gb,by rw[ac];exact H.ld 16 rfl rfl,gf,by rw[ac];exact H.ld 16 rfl rfl,?_⟩)));rintro vs rfl;refine H.call 2 rfl hwe λ w11 H=>⟨_,_,rfl,ptr_some ?_⟩;rw[ac];refine H.st 16 rfl (by show 0<28;omega) λ w12 H=>?_;obtain⟨M4,eM4⟩:∃ M4:Km,M4={ M1.nms N np nc with w:=M1.w.entered f.cls ga gb gf }:=⟨_,rfl⟩
 have H:St W (ae A M).own w12 (M4.pieces A++[blk k ({ f with a:=ga,b:=gb,fresh:=gf,old:=go,seq:=M1.K.nxt }:Fl).cells 162]):=by rw[eM4];exact H
 have hq4:M4.q=M1.q/\M4.ps=M1.ps/\M4.pd=M1.pd:=by rw[eM4];exact⟨rfl,rfl,rfl⟩
 refine⟨λ B=>∃ z:lsq.PQ,z.size=M1.q.size/\lsq.ens z=(if f.mem then M1.K.q++[lsq.newEn M1.K.nxt (decide (f.cls=5))] else M1.K.q)/\St W (ae A M).own B (({ M4 with q:=z }:Km).pieces A++[blk k ({ f with a:=ga,b:=gb,fresh:=gf,old:=go,seq:=M1.K.nxt }:Fl).cells 162]),aa (λ q=>?_) (λ q=>?_),λ _=>?_⟩
 ·have q:f.mem=true:=q;refine H.dr λ w13 H=>ptr_some (ptr_some ⟨_,H.ld 0 rfl rfl,M1.K.nxt,by rw[ac];exact H.ld 16 rfl rfl,f.cls,by rw[ac];exact H.ld 16 rfl rfl,?_⟩)
  have e5:(f.cls==5)=decide (f.cls=5):=by
   by_cases t:f.cls=5
   ·rw[t];rfl
   ·rw[qM t];simpa using t
  have hqq:=adp (H.nth 4 rfl) (s:=M1.K.nxt) (by rw[hq4.1,he,hQ];exact hroom.2.1 q) (by rw[hq4.1,hQ];have:=hcf.q;unfold Kc.Q;omega) (by omega) (by rw[hq4.1,he];exact λ e h=>hI1.qo.nx e h) (decide (f.cls=5));rw[<- e5] at hqq;refine H.callx 4 rfl hqq λ z w14 H=>⟨_,rfl,z.1,by rw[z.2.1,hq4.1],?_,H⟩;rw[z.2.2,hq4.1,he,if_pos q,e5]
 ·have q:f.mem=false:=q;refine⟨M4.q,by rw[hq4.1],?_,H⟩;rw[hq4.1,he,if_neg (by rw[q];decide)]
 clear H hwe;rintro w13 ⟨z,hzs,hze,H⟩;refine H.dr λ w14 H=>ptr_some (ptr_some ⟨_,H.ld 0 rfl rfl,f.pc,by rw[ac];exact H.ld 16 rfl rfl,f.i.vs,rfl,H.lds 16 rfl ?_,?_⟩)
 ·intro j u hj;rcases j with _ | _ | _ | _ | _ | j
  ·exact hj
  ·exact hj
  ·exact hj
  ·exact hj
  ·exact hj
  ·cases hj
 have hgs:=adb (D:=M1.pd) (S:=M1.ps) (by have:=H.nth 5 rfl;rw[show({ M4 with q:=z }:Km).ps=M1.ps from hq4.2.1,show({ M4 with q:=z }:Km).pd=M1.pd from hq4.2.2] at this;exact this) hR1.pr hI1.pr (ur H).1 (by have:=(ur H).2;rw[show({ M4 with q:=z }:Km).ps=M1.ps from hq4.2.1,show({ M4 with q:=z }:Km).pd=M1.pd from hq4.2.2] at this;exact this) hr.pc f.i;refine H.callx 5 (by show some (pm.pgA A.gb M4.ps M4.pd)=_;rw[hq4.2.1,hq4.2.2]) hgs λ y w15 H=>⟨_,_,rfl,ptr_some ?_⟩;rw[ac];refine H.st 16 rfl (by show 12<28;omega) λ w16 H=>ptr_some ?_;refine H.sts 16 rfl (o:=0+9) rfl (by show 9+3≤28;omega) (λ v hv=>by simp [zb] at hv;rcases hv with rfl | rfl | rfl <;> rfl) λ w17 H=>?_
 have H:St W (ae A M).own w17 (({ M4 with q:=z,ps:=y.1,pd:=M1.pd }:Km).pieces A++[blk k G.cells 162]):=by
  rw[hGf];exact H
 have hwn:=hcf.wn;have hfl:=hroom.1
 have hfsl:M1.fs.length≤64:=by rw[hR1.fk];unfold Kc.W at hfl;omega
 have cs:∀ {B:wD} {k6:Nat} {M2:Km} {G:Fl},St W (ae A M).own B ((M2.pieces A++[blk k G.cells 162])++[blk k6 #[pZ k 0] 154])->∀ j u,[pZ k 0][j]?=some u->B.cell? ((⟨k6,0,none⟩:Addr).add j)=some u:=by
  intro B k6 M2 G H j u hj;rw[ac];refine H.ld 17 (i:=0+j) rfl ?_;rcases j with _ | j
  ·exact hj
  ·cases hj
 refine ptr_some ⟨G.guess,by rw[ac];exact H.ld 16 rfl rfl,H.st 0 rfl (by show 26<34;omega) λ w18 H=>⟨_,_,_,H.ld 0 rfl rfl,H.al λ k18 w19 H=>?_⟩⟩;have H:St W (ae A M).own w19 ((({ M4 with q:=z,ps:=y.1,pd:=M1.pd,K:={ M4.K with pc:=G.guess } }:Km).pieces A++[blk k G.cells 162])++[blk k18 #[pZ k 0] 154]):=H
 have e4:M4.fs=M1.fs:=by rw[eM4];rfl
 refine H.app 11 rfl _ (.inr ⟨_,rfl,cs H⟩) rfl (λ v hv=>by rw[qR] at hv;subst hv;rfl) (by have:maxLen=2 ^ 63 - 1:=rfl;show M4.fs.length+1≤_;rw[e4];omega) (by show(M4.fs.length+1) * 8≤_;rw[e4];omega) λ p' c' w20 H=>H.st 0 rfl (by show 28<34;omega) λ w21 H=>?_;rintro vs4 rfl
 have e1:M4.fs.length+1=(M1.fs++[k]).length:=by rw[e4,qP];rfl
 have e2:Dj M4.fs++[pZ k 0]=Dj (M1.fs++[k]):=by rw[e4];unfold Dj;rw[qV];rfl
 have H:St W (ae A M).own w21 (({ M4 with q:=z,ps:=y.1,pd:=M1.pd,K:={ M4.K with pc:=G.guess },fs:=M1.fs++[k],fp:=p',fc:=c' }:Km).pieces A++[blk k G.cells 162,blk k18 #[pZ k 0] 154]):=by
  unfold Km.pieces Km.root adz;dsimp only;rw[<- e2,<- e1];exact H
 have HL:=H.take 17
 have H:St W (ae A M).own w21 (({ M1.tkn f k np nc z y.1 p' c' with fl:=M1.fl }:Km).pieces A++[blk k G.cells 162]):=by
  subst eM4 eN ega egb egf ego eG;exact HL
 obtain⟨H,hkn⟩:=Zf H
 have hRf:(M1.tkn f k np nc z y.1 p' c').Rep A:=hR1.tkn hkn hroom.1 (by omega) ⟨hr.iss,hr.don⟩ (λ q=>by
  have hun:=hI1.nm.uf M1.K.nm.fresh (by
   obtain⟨p,ps,hp⟩:=qOB (hroom.2.2 q);unfold Nms.fresh
   rw[hp];exact qg ..)
  exact hun.1.1) hze hzs y.2
 have H:St W (ae A M).own w21 ((M1.tkn f k np nc z y.1 p' c').pieces A++[]):=by
  rw[<- eG] at H;exact H
 have H:=H.shut;have hev:=hI1.ev
 have hym:(k,G) ∈ (M1.tkn f k np nc z y.1 p' c').fl:=by rw[<- eG];exact qL _ (qR.2 rfl)
 refine H.callx 0 rfl (tj (H.nth 0 rfl) hRf (by show M1.K.evs.length≤_;omega) hym 1 Rt.z) λ x w22 H=>⟨rfl,sy htk ⟨⟨x.1,x.2.1,?_⟩,H.post 0 rfl⟩ rfl⟩;rw[x.2.2.1,<- eG];rfl
theorem Nb (h:(ae A M).at_ W) (hA:A.Ok) (hR:M.Rep A) (hI:Inv A.C n [] M.K) (hn:n+30≤1000000000000) :
  Calls prog 41 #[pZ A.x 0] W λ e w=>∃ z:Nz A (M.K.enter A.C),e=eY #[]/\Sep.Post (ae A M) W (ae A z.1) w:=by
 have hwd:=hI.cf.wd;obtain⟨wd,hw⟩:∃ wd:Nat,A.C.c.width=wd:=⟨A.C.c.width.toNat,by omega⟩
 have hw4:wd≤4:=by omega
 have hK':Ko.enterN A.C wd M.K=M.K.enter A.C:=by unfold Ko.enter;rw[hw,qG]
 obtain⟨K',eK'⟩:∃ K',M.K.enter A.C=K':=⟨_,rfl⟩;rw[eK'] at hK' ⊢;have H:=au h;refine apo A.x 0 ⟨A.C.c.width,H.ld 0 rfl rfl,λ x B=>∃ (m:Nat) (M1:Km),x=m/\m≤wd/\M1.Rep A/\Inv A.C (n+2 * m) [] M1.K/\Ko.enterN A.C (wd - m) M1.K=K'/\St W (ae A M).own B (M1.pieces A++[]),λ x _=>1000 - x.toNat,⟨0,M,rfl,qQ _,hR,hI,hK',H⟩,?_⟩;clear H hK';rintro _ x w2 ⟨m,M1,rfl,hm,hR1,hI1,hK',H⟩;refine aa (λ q=>?_) (λ q=>?_)
 rotate_left
 ·have q:=qE q
  have e:wd - m=0:=by omega
  rw[e] at hK';exact⟨⟨M1,hR1,hK'⟩,rfl,aq H⟩
 have q:m<wd:=by have:=qB q;omega
 obtain⟨t,ht⟩:∃ t,wd - m=t+1:=⟨wd - m - 1,by omega⟩;rw[ht] at hK'
 have e:Ko.enterN A.C (t+1) M1.K=if M1.K.idle=true then M1.K else if (M1.K.take A.C).2=false then (M1.K.take A.C).1 else Ko.enterN A.C t (M1.K.take A.C).1:=by
  conv=>lhs;unfold Ko.enterN
 rw[e] at hK';refine⟨M1.K.idle,H.ld 0 rfl rfl,aa (λ q2=>?_) (λ q2=>?_)⟩
 ·rw[if_pos q2] at hK';exact⟨⟨M1,hR1,hK'⟩,rfl,aq H⟩
 ·rw[if_neg (by rw[q2];decide)] at hK';have H:=St.shut (L':=[]) H;refine H.callx 0 rfl (Tf (H.nth 0 rfl) hA hR1 hI1 (by omega)) λ z w3 H=>⟨_,rfl,aa (λ t2=>?_) (λ t2=>?_)⟩
  ·have t2:(M1.K.take A.C).2=false:=by simpa using t2
   rw[if_pos t2] at hK';exact⟨⟨z.1,z.2.1,z.2.2.trans hK'⟩,rfl,H.post 0 rfl⟩
  ·have t2:(M1.K.take A.C).2=true:=by simpa using t2
   rw[if_neg (by rw[t2];decide)] at hK';rintro z6 rfl;rw[w64 (by omega) (by omega)];have hI2:=hI1.take (C:=A.C);rw[<- z.2.2] at hI2 hK';refine⟨⟨m+1,z.1,by omega,by omega,z.2.1,hI2.up (by omega),?_,H.open_⟩,by show 1000 - ((m:Int)+1).toNat<1000 - (m:Int).toNat;omega⟩;rw[show wd - (m+1)=t by omega];exact hK'
end Go.Proofs.YtmncepdbglaphaaGreatDoor.ko
namespace Go.Proofs
open Go.Shelf
def Tryz.lays189_ren:Go.Shelf.Ren:=⟨λ | 189=>64 | 125=>101 | 257=>100 | 128=>154 | 129=>155 | 294=>145 | 295=>146 | 296=>147 | 297=>148 | 298=>149 | 299=>150 | 216=>151 | 300=>152 | 301=>153 | 328=>177 | 329=>178 | 330=>179 | 331=>180 | 332=>181 | 215=>182 | 343=>216 | n=>n,λ | 28=>26 | 3=>3 | 46=>169 | 0=>0 | 51=>47 | 53=>206 | 4=>4 | 183=>274 | 182=>273 | 131=>279 | 5=>5 | 9=>9 | 218=>312 | 222=>316 | 228=>329 | 229=>287 | n=>n,λ | n=>n⟩
theorem Tryz.lays189:Go.Proofs.Lays.n189 Tryz.prog Tryz.lays189_ren:={
 mixed:=by kernel_rfl
 f125:=Tryz.func101.trans (congrArg some (by kernel_rfl))
 f128:=Tryz.func154.trans (congrArg some (by kernel_rfl))
 f129:=Tryz.func155.trans (congrArg some (by kernel_rfl))
 f189:=Tryz.func64.trans (congrArg some (by kernel_rfl))
 f215:=Tryz.func182.trans (congrArg some (by kernel_rfl))
 f216:=Tryz.func151.trans (congrArg some (by kernel_rfl))
 f257:=Tryz.func100.trans (congrArg some (by kernel_rfl))
 f294:=Tryz.func145.trans (congrArg some (by kernel_rfl))
 f295:=Tryz.func146.trans (congrArg some (by kernel_rfl))
 f296:=Tryz.func147.trans (congrArg some (by kernel_rfl))
 f297:=Tryz.func148.trans (congrArg some (by kernel_rfl))
 f298:=Tryz.func149.trans (congrArg some (by kernel_rfl))
 f299:=Tryz.func150.trans (congrArg some (by kernel_rfl))
 f300:=Tryz.func152.trans (congrArg some (by kernel_rfl))
 f301:=Tryz.func153.trans (congrArg some (by kernel_rfl))
 f328:=Tryz.func177.trans (congrArg some (by kernel_rfl))
 f329:=Tryz.func178.trans (congrArg some (by kernel_rfl))
 f330:=Tryz.func179.trans (congrArg some (by kernel_rfl))
 f331:=Tryz.func180.trans (congrArg some (by kernel_rfl))
 f332:=Tryz.func181.trans (congrArg some (by kernel_rfl))
 f343:=Tryz.func216.trans (congrArg some (by kernel_rfl))
 t0:=Tryz.underlying0
 a0:=Tryz.isAgg0
 z0:=Tryz.sizeOf0
 v0:=Tryz.zeroValue0
 t3:=Tryz.underlying3
 a3:=Tryz.isAgg3
 z3:=Tryz.sizeOf3
 v3:=Tryz.zeroValue3
 t4:=Tryz.underlying4
 a4:=Tryz.isAgg4
 z4:=Tryz.sizeOf4
 v4:=Tryz.zeroValue4
 t5:=Tryz.underlying5
 a5:=Tryz.isAgg5
 z5:=Tryz.sizeOf5
 v5:=Tryz.zeroValue5
 t9:=Tryz.underlying9
 a9:=Tryz.isAgg9
 z9:=Tryz.sizeOf9
 v9:=Tryz.zeroValue9
 t28:=Tryz.underlying26
 a28:=Tryz.isAgg26
 z28:=Tryz.sizeOf26
 v28:=Tryz.zeroValue26
 t46:=Tryz.underlying169
 a46:=Tryz.isAgg169
 z46:=Tryz.sizeOf169
 v46:=Tryz.zeroValue169
 t51:=Tryz.underlying47
 a51:=Tryz.isAgg47
 z51:=Tryz.sizeOf47
 v51:=Tryz.zeroValue47
 t53:=Tryz.underlying206
 a53:=Tryz.isAgg206
 z53:=Tryz.sizeOf206
 v53:=Tryz.zeroValue206
 t131:=Tryz.underlying279
 a131:=Tryz.isAgg279
 z131:=Tryz.sizeOf279
 v131:=Tryz.zeroValue279
 t182:=Tryz.underlying273
 a182:=Tryz.isAgg273
 z182:=Tryz.sizeOf273
 v182:=Tryz.zeroValue273
 t183:=Tryz.underlying274
 a183:=Tryz.isAgg274
 z183:=Tryz.sizeOf274
 v183:=Tryz.zeroValue274
 t218:=Tryz.underlying312
 a218:=Tryz.isAgg312
 z218:=Tryz.sizeOf312
 v218:=Tryz.zeroValue312
 t222:=Tryz.underlying316
 a222:=Tryz.isAgg316
 z222:=Tryz.sizeOf316
 v222:=Tryz.zeroValue316
 t228:=Tryz.underlying329
 a228:=Tryz.isAgg329
 z228:=Tryz.sizeOf329
 v228:=Tryz.zeroValue329
 t229:=Tryz.underlying287
 a229:=Tryz.isAgg287
 z229:=Tryz.sizeOf287
 v229:=Tryz.zeroValue287 }
open Go.Sort Go.RowKit in
theorem Tryz.slices_Sort_int (blk off cap:Nat) (zs:LI) (w:wD) (hH:Holds (Value.int .i64) w blk off zs.toArray) (hblk:blk<w.heap.size) (hsz:zs.length<4611686018427387904) :
  Calls Tryz.prog 64 #[.slice (some ⟨blk,off,none⟩) zs.length cap] w λ e w' =>
   e= .returned (.tuple #[])/\∃ n os,w'=grow (putRow (Value.int .i64) (Sort.ahead w n) blk off (zs.mergeSort λ x y=>decide (x≤y)).toArray) os:=Any.slices_Sort_int Tryz.lays189 blk off cap zs w hH hblk hsz
open Go.RowKit Go.Sort in
theorem Tryz.slices_Sort_int_none (p:OA) (cap:Nat) (w:wD) :
  Calls Tryz.prog 64 #[.slice p 0 cap] w λ e w'=>e= .returned (.tuple #[])/\w'=w:=Any.slices_Sort_int_none Tryz.lays189 p cap w
end Go.Proofs
namespace Go.Proofs.YtmncepdbglaphaaGreatDoor.ko
open Go.RowKit Go.XHeap Go.Sx Go.Sep Go.Sort
variable {W w:wD}{L:List Asn}
theorem uv {p:OA}{c:Nat}{l:LI} (h:Sl w 3 1 (.slice p l.length c) l.length (win.intsV l)){k:Nat} (hk:k<l.length):∃ g o,p=some ⟨g,o,none⟩/\(w.cell? ⟨g,o+k,none⟩=some (.int .i64 (l.getD k 0))/\w.frozen? ⟨g,o+k,none⟩=false):=by
 obtain⟨ao,cap,hv, -, -, -, -,hc⟩:=h.open1;cases hv;obtain⟨g,off,rfl, -,hcc⟩:=hc (by omega);refine⟨g,off,rfl,?_,(hcc k hk).2⟩;rw[(hcc k hk).1,qF,qC hk];unfold win.intsV;rw[qS,qC hk];rfl
theorem Xm {p:OA}{c:Nat}{l:LI} (h:(sl 3 1 (.slice p l.length c) l.length (win.intsV l)).at_ W) (hl:l.length≤12) :
  Calls Tryz.prog 64 #[.slice p l.length c] W λ e w=>e=eY #[]/\Sep.Post (sl 3 1 (.slice p l.length c) l.length (win.intsV l)) W (sl 3 1 (.slice p l.length c) l.length (win.intsV (ow l))) w:=by
 have hn:(ow l).length=l.length:=by unfold ow;exact List.length_mergeSort l
 rcases(show Sl W 3 1 (.slice p l.length c) l.length (win.intsV l) from h).2 with ⟨-,e2⟩ | ⟨g,off,cap,cur,hv,hb,h1,h2,h3, -⟩
 ·obtain rfl:l=[]:=qDC.1 e2;refine(Tryz.slices_Sort_int_none p c W).mono ?_;rintro e w ⟨rfl,rfl⟩;have e0:ow []=[]:=qDC.1 hn;rw[e0];exact⟨rfl,h,qH _ _,λ q hq=>.inl hq⟩
 ·cases hv;refine(Tryz.slices_Sort_int g off c l W (λ j hj=>?_) hb.lt (by omega)).mono ?_
  ·have hj:j<l.length:=by simpa using hj
   obtain⟨g',o',hp,hc,hf⟩:=uv h hj;cases hp;refine⟨hc.trans ?_,hf⟩;simp [List.getD,hj]
  ·rintro e w ⟨rfl,n,os,rfl⟩;have hg:g<W.heap.size:=hb.lt
   have eb:(grow (putRow (Value.int .i64) (Sort.ahead W n) g off (ow l).toArray) os).heap[g]?=some (.cells (putCells (Value.int .i64) off (ow l).toArray cur) 3 (0,0)):=by
    rw[heap_grow_old _ _ (by simpa using hg)];simp [putRow,mapBlock,Sort.ahead,Array.getElem?_modify,show W.heap[g]?=_ from hb,onCells]
   refine⟨rfl,⟨by unfold win.intsV;rw[qd,qT,hn],.inr ⟨g,off,c,_,rfl,eb,h1,h2,by simpa [putCells] using h3,?_⟩⟩,⟨rfl,rfl,rfl,by simp [grow,putRow,mapBlock,Sort.ahead],λ k hk hne=>?_⟩,λ q hq=>.inl hq⟩
   ·rw[qT] at h3 ⊢;apply qEB;intro j;unfold win.intsV;by_cases hj:j<l.length
    ·rw[qa hj,qAB,qeB,qS];simp [putCells,hj,hn,show off+j<cur.size by omega]
    ·rw[List.getElem?_take_eq_none (by omega),List.getElem?_eq_none (by rw[qd];omega)]
   ·rw[heap_grow_old _ _ (by simpa using hk)];have:g≠k:=λ e=>hne (by show some g=some k;rw[e]);simp [putRow,mapBlock,Sort.ahead,Array.getElem?_modify,this]
end Go.Proofs.YtmncepdbglaphaaGreatDoor.ko
