/- A core. No condition. -/
import Derived.Test.YtmncepdbglaphaaGreatDoorKbS
set_option linter.unusedVariables false
set_option maxRecDepth 100000
namespace Go.Proofs.YtmncepdbglaphaaGreatDoor.ko
open Go.RowKit Go.XHeap Go.Sx Go.Sep Go.Proofs.Tryz
variable {W w:wD}{A:Ka}{M M':Km}{L:List Asn}{b j n:Nat}{f f' f1 f2:Fl}{g:List Fl}{S:Nat->Prop}
theorem ng {M2:Km} (H:St W (ae A M).own w ((M2.setB b f').pieces A++L)) (hR:M2.Rep A) (hk:Kept M M2) (hb:M2.fs[j]?=some b) (hf:M2.K.fls[j]?=some f) (hs:dh f'=dh f){K':Ko} (hK:M2.K.setf j f'=K') :
  ∃ z:Nx A M K',Sep.Post (ae A M) W (ae A z.1) w :=
 ⟨⟨{ M2.setB b f' with K:=M2.K.setf j f' },hR.setf hb hf hs,hK,hk.trans (Kept.setf (f':=f') hR.fn hb (hR.fl j b f hb hf) (congrArg win.Slot.seq hs) rfl rfl)⟩,aq (M':={ M2.setB b f' with K:=M2.K.setf j f' }) H⟩
def Km.rgs (M:Km) (R:RS):Km:={ M with K:={ M.K with rs:=R } }
theorem Km.Rep.rgs (h:M.Rep A) (R:RS):(M.rgs R).Rep A:=⟨h.win,h.q,h.qs,h.pr,h.fn,h.fd,h.fk,h.fl,h.bus,h.gs,h.bg,h.oth⟩
def Km.rsv (M:Km) (v:Int):Km:={ M with K:={ M.K with resv:=v } }
theorem Km.Rep.rsv (h:M.Rep A) (v:Int):(M.rsv v).Rep A:=⟨h.win,h.q,h.qs,h.pr,h.fn,h.fd,h.fk,h.fl,h.bus,h.gs,h.bg,h.oth⟩
theorem My (h:(ae A M).at_ W) (hR:M.Rep A) (hI:Inv A.C n [] M.K) (hf:M.K.fls[0]?=some f) (hb:M.fs[0]?=some b) :
  Calls prog 139 #[pZ A.x 0,pZ b 0] W λ e w=>∃ z:Nx A M M.K.system.1,e=eZ (.bool M.K.system.2)/\Sep.Post (ae A M) W (ae A z.1) w:=by
 have H:=au h;have he:lsq.ens M.q=M.K.q:=hR.q;have hok:∀ e ∈ M.K.q,e.Ok:=hI.qo.ok;have hy:=hR.fl 0 b f hb hf;have hn:=hR.fn;have hsr:=hI.src (hI.mem hf);have efl:=bi hf;have old:=wc (H.nth 4 rfl) (by rw[he];exact hok);rw[he] at old
 have sy:∀ {P:Ko×Bool},M.K.system=P->∀ {B:wD},(∃ z:Nx A M P.1,Sep.Post (ae A M) W (ae A z.1) B)->∀ {e:Ending},e=eZ (.bool P.2)->∃ z:Nx A M M.K.system.1,e=eZ (.bool M.K.system.2)/\Sep.Post (ae A M) W (ae A z.1) B:=by
  rintro P rfl B ⟨z,hz⟩ e he;exact⟨z,he,hz⟩
 have hsys:M.K.system=(if f.i.op=57 then (M.K, !M.K.more)
  else if f.i.op=58 then (M.K.setf 0 { f with cause:=11 },true)
  else if f.i.op=59 then (M.K.setf 0 { f with cause:=3,tval:=f.pc },true)
  else if f.i.op=60 then ({ M.K.setf 0 { f with next:=M.K.rs.back.at 833 } with rs:=M.K.rs.back },true)
  else if f.i.op=61 then (M.K,true)
  else ({ M.K.setf 0 (if (M.K.rs.access f.i.op f.i.rs1 f.i.imm (M.K.val f.a)).2.1 then { f with value:=(M.K.rs.access f.i.op f.i.rs1 f.i.imm (M.K.val f.a)).1 } else { f with value:=(M.K.rs.access f.i.op f.i.rs1 f.i.imm (M.K.val f.a)).1,cause:=2,tval:=f.word }) with rs:=(M.K.rs.access f.i.op f.i.rs1 f.i.imm (M.K.val f.a)).2.2 },true)):=by
  unfold Ko.system;simp only;rw[efl]
 refine akz A.x 0 b 0 ⟨f.i.op,(St.fl H hy).cell' rfl,aa (λ q=>?_) (λ q=>?_)⟩
 ·have q:f.i.op=57:=by simpa using q
  rw[if_pos q] at hsys;refine⟨_,H.ld 0 rfl rfl,old.mono ?_⟩;rintro e w2 ⟨rfl,hh⟩;have H:=H.quiet hh;refine⟨_,_,rfl,H.al λ k w3 H=>H.sts0 16 (vs:=lsq.wrV (za M.K.q)) rfl (Cy _) rfl (Kv _) λ w4 H=>?_⟩;exact sy hsys ⟨⟨M,hR,rfl,Kept.refl M⟩,aq (L:=[blk k (lsq.wrV (za M.K.q)) 150]) H⟩ rfl
 have q57:¬ f.i.op=57:=by simpa using q
 rw[if_neg q57] at hsys;refine aa (λ q=>?_) (λ q=>?_)
 ·have q:f.i.op=58:=by simpa using q
  rw[if_pos q] at hsys;exact th H hn hy { f with cause:=11 } rfl (by decide) λ w2 H=>sy hsys (ng H hR (Kept.refl M) hb hf rfl rfl) rfl
 have q58:¬ f.i.op=58:=by simpa using q
 rw[if_neg q58] at hsys;refine aa (λ q=>?_) (λ q=>?_)
 ·have q:f.i.op=59:=by simpa using q
  rw[if_pos q] at hsys;exact⟨f.pc,(St.fl H hy).cell' rfl,th H hn hy { f with cause:=3 } rfl (by decide) λ w2 H=>nf H hn hy { f with cause:=3,tval:=f.pc } rfl (by decide) λ w3 H=>sy hsys (ng H hR (Kept.refl M) hb hf rfl rfl) rfl⟩
 have q59:¬ f.i.op=59:=by simpa using q
 rw[if_neg q59] at hsys;refine aa (λ q=>?_) (λ q=>?_)
 ·have q:f.i.op=60:=by simpa using q
  rw[if_pos q] at hsys;refine⟨_,H.ld 0 rfl rfl,H.call 6 rfl (Ve (H.nth 6 rfl)) λ w2 H=>⟨_,rfl,?_⟩⟩;have H:St W (ae A M).own w2 ((M.rgs M.K.rs.back).pieces A++[]):=H;exact th H hn hy { f with next:=M.K.rs.back.at 833 } rfl (by decide) λ w3 H=>sy hsys (ng (M2:=M.rgs M.K.rs.back) H (hR.rgs _) (Kept.of rfl rfl) hb hf rfl rfl) rfl
 have q60:¬ f.i.op=60:=by simpa using q
 rw[if_neg q60] at hsys;refine aa (λ q=>?_) (λ q=>?_)
 ·have q:f.i.op=61:=by simpa using q
  rw[if_pos q] at hsys;exact sy hsys ⟨⟨M,hR,rfl,Kept.refl M⟩,aq H⟩ rfl
 have q61:¬ f.i.op=61:=by simpa using q
 rw[if_neg q61] at hsys;obtain⟨x,hx⟩:∃ x,M.K.rs.access f.i.op f.i.rs1 f.i.imm (M.K.val f.a)=x:=⟨_,rfl⟩;rw[hx] at hsys;refine H.dr λ w2 H=>⟨_,H.ld 0 rfl rfl,f.i.vs,rfl,je (St.fl H hy),f.a,(St.fl H hy).cell' rfl,(value_any (H.shut.nth 0 rfl) hI.vl hsr.1.2).mono ?_⟩;rintro e w3 ⟨rfl,rfl⟩;have acc:=Mx (H.nth 6 rfl) f.i (M.K.val f.a);rw[hx] at acc;refine⟨_,rfl,Below.refl _ _,H.call 6 rfl acc λ w4 H=>⟨_,_,rfl,?_⟩⟩;have H:St W (ae A M).own w4 ((M.rgs x.2.2).pieces A++[]):=H;refine th H hn hy { f with value:=x.1 } rfl (by decide) λ w5 H=>aa (λ q=>?_) (λ q=>?_)
 ·have q:x.2.1=false:=by simpa using q
  rw[if_neg (by rw[q];decide)] at hsys;refine⟨f.word,ci (M:=M.rgs x.2.2) H hy rfl,nf (M:=M.rgs x.2.2) H hn hy { f with value:=x.1,cause:=2 } rfl (by decide) λ w6 H=>nf (M:=M.rgs x.2.2) H hn hy { f with value:=x.1,cause:=2,tval:=f.word } rfl (by decide) λ w7 H=>sy hsys (ng (M2:=M.rgs x.2.2) H (hR.rgs _) (Kept.of rfl rfl) hb hf rfl rfl) rfl⟩
 ·have q:x.2.1=true:=by simpa using q
  rw[if_pos q] at hsys;exact sy hsys (ng (M2:=M.rgs x.2.2) H (hR.rgs _) (Kept.of rfl rfl) hb hf rfl rfl) rfl
theorem Mz (H:St W S w (M.pieces A++L)) (hR:M.Rep A) (hI:Inv A.C n g M.K) (a:Nat) (ha:a<4294967296) :
  Calls prog 125 #[pZ A.bb 0,.int .i64 A.C.num,.int .u32 a] w λ e w'=>e=eZ (.int .i64 (M.K.bus.state A.C.num a))/\ba w w':=by
 have hok:=Inv.bok hI hR;have:=cbus.bstate_any (H.nth 13 rfl) hok hR.bg A.C.num a ha;rw[hR.bus,Kd];exact this
theorem Na (h:(ae A M).at_ W) (hs:Solo A) (hR:M.Rep A) (hI:Inv A.C n [] M.K) (hn:n+2≤1000000000000) (hf:M.K.fls[0]?=some f) (hb:M.fs[0]?=some b) :
  Calls prog 138 #[pZ A.x 0,pZ b 0] W λ e w=>∃ z:Nx A M (M.K.atomic A.C).1,e=eZ (.bool (M.K.atomic A.C).2)/\Sep.Post (ae A M) W (ae A z.1) w:=by
 have H:=au h;have hy:=hR.fl 0 b f hb hf;have hfn:=hR.fn;have hsr:=hI.src (hI.mem hf);have hu:=hI.fo f (hI.mem hf);have hvb:=hI.valU f.b;have efl:=bi hf;obtain⟨a,ha⟩:∃ a:Nat,f.addr=a:=⟨f.addr.toNat,by have:=hu.addr.1;omega⟩
 have ha2:a<4294967296:=by have:=hu.addr.2;omega
 have hat:f.addr.toNat=a:=by omega
 have sy:∀ {P:Ko×Bool},M.K.atomic A.C=P->∀ {B:wD},(∃ z:Nx A M P.1,Sep.Post (ae A M) W (ae A z.1) B)->∀ {e:Ending},e=eZ (.bool P.2)->∃ z:Nx A M (M.K.atomic A.C).1,e=eZ (.bool (M.K.atomic A.C).2)/\Sep.Post (ae A M) W (ae A z.1) B:=by
  rintro P rfl B ⟨z,hz⟩ e he;exact⟨z,he,hz⟩
 obtain⟨lv,hlv⟩:∃ lv:Nat,(if f.i.op≠46 then 2 else 1)=lv:=⟨_,rfl⟩;obtain⟨old,hold⟩:∃ old:Nat,M.K.bus.readV A.C.num a 4=old:=⟨_,rfl⟩;have holdu:U32 (old:Int):=Rg (by rw[<- hold];exact Hn hI.bu A.C.num a (sz:=4) (by decide));obtain⟨nv,hnv⟩:∃ nv:Nat,alu.swapF f.i.op old (M.K.val f.b)=nv:=⟨(alu.swapF f.i.op old (M.K.val f.b)).toNat,by have:=(Yo f.i.op holdu hvb).1;omega⟩
 have hnv2:nv<4294967296:=by have:=(Yo f.i.op holdu hvb).2;omega
 have hat0:M.K.atomic A.C=(if M.K.bus.state A.C.num a<lv then ({ M.K with bus:=M.K.bus.askN A.C.num a (decide (f.i.op≠46)) },false)
  else if f.i.op=46 then ({ ({ M.K with bus:=M.K.bus.readN A.C.num a 4 }:Ko).setf 0 { f with value:=old } with resv:=a },true)
  else if f.i.op=47 then
   (if M.K.resv=a then
    ({ ({ M.K with bus:=M.K.bus.readN A.C.num a 4 }:Ko).setf 0 { f with value:=0,spoils:=true } with resv:=0,bus:=(M.K.bus.readN A.C.num a 4).writeN A.C.num a 4 nv,wr:=M.K.wr++[(a:Int)] },true)
   else ({ ({ M.K with bus:=M.K.bus.readN A.C.num a 4 }:Ko).setf 0 { f with value:=1 } with resv:=0 },true))
  else ({ ({ M.K with bus:=M.K.bus.readN A.C.num a 4 }:Ko).setf 0 { f with value:=old,spoils:=true } with bus:=(M.K.bus.readN A.C.num a 4).writeN A.C.num a 4 nv,wr:=M.K.wr++[(a:Int)] },true)):=by
  unfold Ko.atomic;simp only;rw[efl,hat,ha,hold];unfold agn;rw[hnv,qG];by_cases q:f.i.op=46
  ·rw[<- hlv,qM (λ e=>e q),if_neg (by decide:¬ false=true),if_neg (λ e:f.i.op≠46=>e q)]
  ·rw[<- hlv,qI (show f.i.op≠46 from q),if_pos rfl,if_pos (show f.i.op≠46 from q)]
 have hne:(f.i.op !=46)=decide (f.i.op≠46):=by
  by_cases q:f.i.op=46
  ·rw[q];rfl
  ·rw[qI (show f.i.op≠46 from q)];simpa using q
 refine alv A.x 0 b 0 ⟨f.i.op,(St.fl H hy).cell' rfl,λ x B=>x=(lv:Int)/\St W (ae A M).own B (M.pieces A++[]),aa (λ q=>⟨?_,H⟩) (λ q=>⟨?_,H⟩),λ _=>?_⟩
 ·have q:f.i.op≠46:=by simpa using q
  rw[<- hlv,if_pos q];rfl
 ·have q:f.i.op=46:=by simpa using q
  rw[<- hlv,if_neg (λ e=>e q)];rfl
 rintro x w2 ⟨rfl,H⟩;refine H.dr λ w3 H=>⟨_,H.ld 0 rfl rfl,_,H.ld 0 rfl rfl,f.addr,(St.fl H hy).cell' rfl,?_⟩;rw[ha];refine(Mz H hR hI a ha2).mono ?_;rintro e w4 ⟨rfl,hh⟩;have H:=H.quiet hh;refine⟨_,rfl,aa (λ q=>?_) (λ q=>?_)⟩
 ·have q:M.K.bus.state A.C.num a<lv:=by have:=qB q;omega
  rw[if_pos q] at hat0;refine H.dr λ w5 H=>⟨_,H.ld 0 rfl rfl,_,H.ld 0 rfl rfl,f.addr,(St.fl H hy).cell' rfl,?_⟩;rw[ha,hne];exact Cx H hR hI a ha2 _ λ v w6 H hR2 hK2=>⟨_,rfl,sy hat0 ⟨⟨_,hR2,hK2,Kept.of rfl rfl⟩,aq H⟩ rfl⟩
 have q:¬ M.K.bus.state A.C.num a<lv:=by have:=qE q;omega
 rw[if_neg q] at hat0;refine H.dr λ w5 H=>⟨_,H.ld 0 rfl rfl,_,H.ld 0 rfl rfl,f.addr,(St.fl H hy).cell' rfl,?_⟩;rw[ha];refine Fw H hR hI (by omega) a ha2 4 λ w6 H hR2 hK2=>⟨_,_,rfl,?_⟩;rw[hold];obtain⟨M2,hM2⟩:∃ M2,M.bs (M.S.readN A.C.num a 4)=M2:=⟨_,rfl⟩
 have hI2:Inv A.C (n+1) [] M2.K:=by rw[<- hM2,hK2];exact hI.bread (by omega) _ _
 have hk2:Kept M M2:=by rw[<- hM2];exact Kept.of rfl rfl
 have hf2:M2.K.fls[0]?=some f:=by rw[<- hM2];exact hf
 have hb2:M2.fs[0]?=some b:=by rw[<- hM2];exact hb
 rw[hM2] at H hR2 hK2;have hy2:=hR2.fl 0 b f hb2 hf2;have hn2:=hR2.fn
 have hrv:M2.K.resv=M.K.resv:=by rw[hK2]
 have hbu:M.K.bus.readN A.C.num a 4=M2.K.bus:=by rw[hK2]
 rw[<- hK2,hbu] at hat0;clear hM2;refine th H hn2 hy2 { f with value:=old } rfl (by decide) λ w7 H=>?_;obtain⟨wf,hwf⟩:∃ wf:Bool,wf=decide (f.i.op≠46/\(f.i.op=47->M.K.resv=a)):=⟨_,rfl⟩
 refine⟨λ x B=>∃ (r v:Int),f.i.op≠46/\St W (ae A M).own B (((M2.rsv r).setB b { f with value:=v }).pieces A++[]) /\
   (if x=true then M.K.atomic A.C=({ (M2.K.setf 0 { f with value:=v,spoils:=true }) with resv:=r,bus:=M2.K.bus.writeN A.C.num a 4 nv,wr:=M.K.wr++[(a:Int)] },true) else M.K.atomic A.C=({ M2.K.setf 0 { f with value:=v } with resv:=r },true)),⟨f.i.op,ci H hy2 rfl,aa (λ t=>?_) (λ t=>aa (λ t2=>?_) (λ t2=>?_))⟩,λ _=>?_⟩
 ·have t:f.i.op=46:=by simpa using t
  rw[if_pos t] at hat0;refine⟨f.addr,ci H hy2 rfl,?_⟩;rw[ha];refine H.st 0 rfl (by show 32<34;omega) λ w8 H=>?_;exact sy hat0 (ng (M2:=M2.rsv a) H (hR2.rsv _) (hk2.trans (Kept.of rfl rfl)) hb2 hf2 rfl rfl) rfl
 ·have t:¬ f.i.op=46:=by simpa using t
  have t2:f.i.op=47:=by simpa using t2
  rw[if_neg t,if_pos t2] at hat0;refine⟨M2.K.resv,H.ld 0 rfl rfl,f.addr,ci H hy2 rfl,?_⟩;rintro w8 k rfl;have H:=H.drewN k;refine H.st 0 rfl (by show 32<34;omega) λ w9 H=>?_;have H:St W (ae A M).own w9 (((M2.rsv 0).setB b { f with value:=(old:Int) }).pieces A++[]):=H;refine nf (M:=M2.rsv 0) H hn2 hy2 { f with value:=1 } rfl (by decide) λ w10 H=>aa (λ t3=>?_) (λ t3=>?_)
  ·have t4:M.K.resv=a:=by rw[<- hrv,<- ha];simpa using t3
   rw[if_pos t4] at hat0;refine nf (M:=M2.rsv 0) H hn2 hy2 { f with value:=0 } rfl (by decide) λ w11 H=>⟨0,0,t,H,?_⟩;rw[if_pos t3];exact hat0
  ·have t4:¬ M.K.resv=a:=by rw[<- hrv,<- ha];simpa using t3
   rw[if_neg t4] at hat0;refine⟨0,1,t,H,?_⟩;rw[if_neg (by rw[t3];decide)];exact hat0
 ·have t:¬ f.i.op=46:=by simpa using t
  have t2:¬ f.i.op=47:=by simpa using t2
  rw[if_neg t,if_neg t2] at hat0;refine⟨M2.K.resv,old,t,H,?_⟩;rw[if_pos (by simpa using t)];exact hat0
 rintro x w8 ⟨r,v,hop,H,hx⟩
 refine aa (λ t=>?_) (λ t=>by
  have t:x=false:=t;rw[if_neg (by rw[t];decide)] at hx
  exact sy hx (ng (M2:=M2.rsv r) H (hR2.rsv _) (hk2.trans (Kept.of rfl rfl)) hb2 hf2 rfl rfl) rfl)
 have t:x=true:=t;rw[if_pos t] at hx;refine H.dr λ w9 H=>⟨_,H.ld 0 rfl rfl,_,H.ld 0 rfl rfl,f.addr,ci (M:=M2.rsv r) H hy2 rfl,f.i.op,ci (M:=M2.rsv r) H hy2 rfl,f.b,ci (M:=M2.rsv r) H hy2 rfl,?_⟩;have hvl:((M2.rsv r).setB b { f with value:=v }).K.vals.length=A.C.R:=hI2.vl;refine(value_any (M:=(M2.rsv r).setB b { f with value:=v }) (H.shut.nth 0 rfl) hvl hsr.2.2).mono ?_;rintro e w10 ⟨rfl,rfl⟩
 have ev:((M2.rsv r).setB b { f with value:=v }).K.val f.b=M.K.val f.b:=by
  show M2.K.val f.b=_;rw[hK2];rfl
 rw[ev];refine⟨_,rfl,Below.refl _ _,H.callp (afy f.i.op holdu hvb w10) ⟨_,rfl,Below.refl _ _,?_⟩⟩;rw[ha,hnv];have hok2:=Inv.bok hI2 hR2;obtain⟨g1,g2⟩:=cbus.bwriteN_ok hok2 (by omega) A.C.num a 4 nv;refine H.call 13 rfl (cbus.bwrite_any (H.nth 13 rfl) hok2 (by omega) hR2.bg A.C.num a ha2 4 nv hnv2) λ w11 H=>⟨_,rfl,H.dr λ w12 H=>?_⟩;have H:St W (ae A M).own w12 (((((M2.rsv r).bs (M2.S.writeN A.C.num a 4 nv)).wrt a).setB b { f with value:=v }).pieces A++[]):=H;have hR3:(((M2.rsv r).bs (M2.S.writeN A.C.num a 4 nv)).wrt a).Rep A:=((hR2.rsv r).bs (Mm g1) g2).wrt hs a;refine⟨_,H.ld 0 rfl rfl,_,H.ld 0 rfl rfl,f.addr,ci H hy2 rfl,?_⟩;rw[ha];refine(Fx (H.shut.nth 0 rfl) hs a).mono ?_;rintro e w13 ⟨rfl,rfl⟩;refine⟨rfl,nf H hn2 hy2 { f with value:=v,spoils:=true } rfl (by decide) λ w14 H=>sy hx (ng H hR3 (hk2.trans (Kept.of rfl rfl)) hb2 hf2 rfl ?_) rfl⟩;show({ (M2.K.setf 0 { f with value:=v,spoils:=true }) with resv:=r,bus:=bNorm (M2.S.writeN A.C.num a 4 nv),wr:=M2.K.wr++[(a:Int)] }:Ko)=_;rw[Fi,<- hR2.bus,show M2.K.wr=M.K.wr by rw[hK2]]
theorem Xk (h:(ae A M).at_ W) (hs:Solo A) (hR:M.Rep A) (hI:Inv A.C n [] M.K) (hn:n+2≤1000000000000){r:List Fl} (hf:M.K.fls=f::r) (hb:M.fs[0]?=some b) (hd:f.done=false) :
  Calls prog 92 #[pZ A.x 0,pZ b 0] W λ e w=>∃ z:Nx A M (M.K.late A.C).1,e=eZ (.bool (M.K.late A.C).2)/\Sep.Post (ae A M) W (ae A z.1) w:=by
 have H:=au h;have hf0:=hI.hd0 hf;have hy:=hR.fl 0 b f hb hf0;have hfn:=hR.fn;have efl:=bi hf0;have ho:=hI.fo f (hI.mem hf0);have hsr:=hI.src (hI.mem hf0)
 have sy:∀ {P:Ko×Bool},M.K.late A.C=P->∀ {B:wD},(∃ z:Nx A M P.1,Sep.Post (ae A M) W (ae A z.1) B)->∀ {e:Ending},e=eZ (.bool P.2)->∃ z:Nx A M (M.K.late A.C).1,e=eZ (.bool (M.K.late A.C).2)/\Sep.Post (ae A M) W (ae A z.1) B:=by
  rintro P rfl B ⟨z,hz⟩ e he;exact⟨z,he,hz⟩
 refine aph A.x 0 b 0 ⟨f.issued,(St.fl H hy).cell' rfl,aa (λ q=>?_) (λ q=>⟨f.pc,(St.fl H hy).cell' rfl,?_⟩)⟩
 ·have q:f.issued=true:=q
  have hl:M.K.late A.C=(M.K,false):=by unfold Ko.late;simp only;rw[efl,if_pos q]
  exact sy hl ⟨⟨M,hR,rfl,Kept.refl M⟩,aq H⟩ rfl
 have hni:f.issued=false:=q;rintro z2 rfl;obtain⟨f1,ef1⟩:∃ f1,({ f with next:=p4 f.pc }:Fl)=f1:=⟨_,rfl⟩
 have k1:Keep f f1:=by rw[<- ef1];exact⟨rfl,rfl,rfl,rfl,rfl,rfl,rfl⟩
 have o1:FlOk f1:=by rw[<- ef1];exact { ho with next:=zz _,fw:=ho.fw }
 have d1:f1.done=false/\f1.issued=false/\f1.placed=f.placed/\f1.cause=f.cause:=by rw[<- ef1];exact⟨hd,hni,rfl,rfl⟩
 have sl1:dh f1=dh f:=by rw[<- ef1];rfl
 refine th H hfn hy f1 (by rw[<- ef1];rfl) (by decide) λ w2 H=>?_;obtain⟨hI1,hfl1⟩:=hI.set0 hf k1 (d1.1.trans hd.symm) (d1.2.1.trans hni.symm) hni d1.2.2.1 o1;have hR1:({ M.setB b f1 with K:=M.K.setf 0 f1 }:Km).Rep A:=hR.setf hb hf0 sl1;have hk1:Kept M { M.setB b f1 with K:=M.K.setf 0 f1 }:=Kept.setf (f':=f1) hfn hb hy k1.seq rfl rfl;have H:St W (ae A M).own w2 (({ M.setB b f1 with K:=M.K.setf 0 f1 }:Km).pieces A++[]):=H;have hb1:({ M.setB b f1 with K:=M.K.setf 0 f1 }:Km).fs[0]?=some b:=hb;obtain⟨M1,hM1⟩:∃ M1:Km,({ M.setB b f1 with K:=M.K.setf 0 f1 }:Km)=M1:=⟨_,rfl⟩
 have hK1:M.K.setf 0 f1=M1.K:=by rw[<- hM1]
 rw[hM1] at H hR1 hk1 hb1;rw[hK1] at hI1 hfl1
 have hl:M.K.late A.C=(if f.cause≠ -1 then (M1.K,true) else if f.cls=4 then (if ((M1.K.reach A.C 0).fl 0).cause≠ -1 then (M1.K.reach A.C 0,true) else (M1.K.reach A.C 0).fetched A.C 0)
   else if f.cls=6 then (if M1.K.more=true then (M1.K,false) else if ((M1.K.reach A.C 0).fl 0).cause≠ -1 then (M1.K.reach A.C 0,true) else (M1.K.reach A.C 0).atomic A.C)
   else if f.cls=7 then M1.K.system else (M1.K,false)):=by
  unfold Ko.late;simp only;rw[efl,if_neg (by rw[hni];decide),ef1,hK1]
 clear hM1;have h10:=hI1.hd0 hfl1;have hy1:=hR1.fl 0 b f1 hb1 h10;obtain⟨hI2,h20⟩:=hI1.reachL h10 d1.2.1;obtain⟨fr,efr⟩:∃ fr,f1.reach (M1.K.val f1.a) A.C.dlen=fr:=⟨_,rfl⟩
 have kr:Keep f1 fr:=by rw[<- efr];exact Fl.reach_keep _ _ _
 have dr:fr.done=false/\fr.issued=false:=by rw[<- efr];exact⟨d1.1,d1.2.1⟩
 have rc:=λ {B:wD} (hB:(ae A M1).at_ B)=>ut hB hR1 hI1.vl (by rw[k1.a];exact hsr.1.2) h10 hb1;rw[efr] at h20 rc;have efl2:=bi h20;rw[efl2] at hl;have same:∀ {B:wD} {L:List Asn},St W (ae A M).own B (M1.pieces A++L)->∃ z:Nx A M M1.K,Sep.Post (ae A M) W (ae A z.1) B:=λ H=>⟨⟨M1,hR1,rfl,hk1⟩,aq H⟩;refine⟨f1.cause,(St.fl H hy1).cell' rfl,aa (λ q=>?_) (λ q=>?_)⟩
 ·have q:f.cause≠ -1:=by rw[<- d1.2.2.2];simpa using q
  rw[if_pos q] at hl;exact sy hl (same H) rfl
 have q:¬ f.cause≠ -1:=by rw[<- d1.2.2.2];simpa using q
 rw[if_neg q] at hl;clear q;refine⟨f1.cls,(St.fl H hy1).cell' rfl,aa (λ q=>?_) (λ q=>aa (λ q2=>?_) (λ q2=>aa (λ q3=>?_) (λ q3=>?_)))⟩
 ·have q:f.cls=4:=by rw[<- k1.cls];simpa using q
  rw[if_pos q] at hl;have H:=St.shut (L':=[]) H;refine H.callx 0 rfl (rc (H.nth 0 rfl)) λ z1 w3 H=>⟨_,rfl,aa (λ t=>?_) (λ t=>?_)⟩
  ·have t:fr.cause≠ -1:=by simpa using t
   rw[if_pos t] at hl;exact sy hl ⟨⟨z1.1,z1.2.1,z1.2.2.1,hk1.trans z1.2.2.2⟩,H.post 0 rfl⟩ rfl
  ·have t:fr.cause= -1:=by simpa using t
   rw[if_neg (λ e=>e t)] at hl;have hz1:=z1.2.2.1;rw[<- hz1] at hI2 h20 hl;have hb2:=z1.2.2.2.at hR1 z1.2.1 hI1 h20 h10 kr.seq hb1
   have fit:Fit fr:=by rw[<- efr] at t ⊢;exact iq hI.cf o1 (hI1.valU _) (by rw[k1.cls,q];decide) t
   have ft:=ym (H.nth 0 rfl) z1.2.1 hI2 (by omega) h20 hb2 (by rw[kr.cls,k1.cls];exact q) fit dr.2;exact H.callx 0 rfl ft λ z2 w4 H=>⟨_,rfl,sy hl ⟨⟨z2.1,z2.2.1,z2.2.2.1,hk1.trans (z1.2.2.2.trans z2.2.2.2)⟩,H.post 0 rfl⟩ rfl⟩
 ·have q:¬ f.cls=4:=by rw[<- k1.cls];simpa using q
  have q2:f.cls=6:=by rw[<- k1.cls];simpa using q2
  rw[if_neg q,if_pos q2] at hl;have old:=wc (H.nth 4 rfl) (by rw[hR1.q];exact hI1.qo.ok);rw[hR1.q] at old;refine⟨_,H.ld 0 rfl rfl,old.mono ?_⟩;rintro e w3 ⟨rfl,hh⟩;have H:=H.quiet hh;refine⟨_,_,rfl,H.al λ k w4 H=>H.sts0 16 (vs:=lsq.wrV (za M1.K.q)) rfl (Cy _) rfl (Kv _) λ w5 H=>?_⟩;have H:St W (ae A M).own w5 (M1.pieces A++[blk k (lsq.wrV (za M1.K.q)) 150]):=H;refine aa (λ t=>?_) (λ t=>?_)
  ·have t:M1.K.more=true:=t;rw[if_pos t] at hl;exact sy hl (same H) rfl
  have t:M1.K.more=false:=t;rw[if_neg (by rw[t];decide)] at hl;clear t;have H:=H.shut;refine H.callx 0 rfl (rc (H.nth 0 rfl)) λ z1 w3 H=>⟨_,rfl,aa (λ t=>?_) (λ t=>?_)⟩
  ·have t:fr.cause≠ -1:=by simpa using t
   rw[if_pos t] at hl;exact sy hl ⟨⟨z1.1,z1.2.1,z1.2.2.1,hk1.trans z1.2.2.2⟩,H.post 0 rfl⟩ rfl
  ·have t:fr.cause= -1:=by simpa using t
   rw[if_neg (λ e=>e t)] at hl;have hz1:=z1.2.2.1;rw[<- hz1] at hI2 h20 hl;have hb2:=z1.2.2.2.at hR1 z1.2.1 hI1 h20 h10 kr.seq hb1;exact H.callx 0 rfl (Na (H.nth 0 rfl) hs z1.2.1 hI2 hn h20 hb2) λ z2 w4 H=>⟨_,rfl,sy hl ⟨⟨z2.1,z2.2.1,z2.2.2.1,hk1.trans (z1.2.2.2.trans z2.2.2.2)⟩,H.post 0 rfl⟩ rfl⟩
 ·have q:¬ f.cls=4:=by rw[<- k1.cls];simpa using q
  have q2:¬ f.cls=6:=by rw[<- k1.cls];simpa using q2
  have q3:f.cls=7:=by rw[<- k1.cls];simpa using q3
  rw[if_neg q,if_neg q2,if_pos q3] at hl;have H:=St.shut (L':=[]) H;exact H.callx 0 rfl (My (H.nth 0 rfl) hR1 hI1 h10 hb1) λ z2 w4 H=>⟨_,rfl,sy hl ⟨⟨z2.1,z2.2.1,z2.2.2.1,hk1.trans z2.2.2.2⟩,H.post 0 rfl⟩ rfl⟩
 ·have q:¬ f.cls=4:=by rw[<- k1.cls];simpa using q
  have q2:¬ f.cls=6:=by rw[<- k1.cls];simpa using q2
  have q3:¬ f.cls=7:=by rw[<- k1.cls];simpa using q3
  rw[if_neg q,if_neg q2,if_neg q3] at hl;exact sy hl (same H) rfl
end Go.Proofs.YtmncepdbglaphaaGreatDoor.ko
namespace Go.Proofs.YtmncepdbglaphaaGreatDoor
open Go Go.Proofs Go.Proofs.Tryz Go.V
variable {W:wD}{Q:Ending->wD->Prop}
set_option maxHeartbeats 1000000
theorem aqj (y0:Nat) (Y0:Nat) (y1:Nat) (Y1:Nat)
 (hVC:∃ I:wD->Prop,(ldB W y1 (Y1+23) λ t=>Sx.split (!t) (rB prog 92 #[pZ y0 Y0,pZ y1 Y1] W λ t2 W2=>Sx.split (!t2) (Q (eZ (.bool false)) W2) (I W2)) (I W))/\(wv (∀ W3,I W3->ldI .i64 W3 y1 (Y1+20) λ z=>Sx.split (z != -1) (rU prog 93 #[pZ y0 Y0,pZ y1 Y1] W3 λ W4=>dw W4 λ W5=>nN (#[oi,oi,oi,oi,oi]) λ vs=>ldP W5 y0 (Y0+3) λ p=>ldN W5 y1 (Y1+9) 3 λ vs2=>rU prog 58 #[.pointer p,.agg vs2,ou,.agg vs,.bool false] W5 λ W6=>dw W6 λ W7=>ldI .i64 W7 y1 (Y1+20) λ z2=>ldI .u32 W7 y1 (Y1+21) λ z3=>rU prog 61 #[pZ y0 Y0,pZ y1 Y1,.int .i64 z2,.int .u32 z3] W7 λ W8=>ldI .i64 W8 y1 (Y1+15) λ z4=>Sx.split (decide (z4 ≥ 0)) (dw W8 λ W9=>ldP W9 y0 (Y0+1) λ p2=>ldI .i64 W9 y1 (Y1+3+1) λ z5=>ldI .i64 W9 y1 (Y1+15) λ z6=>ldI .i64 W9 y1 (Y1+16) λ z7=>rV prog 90 #[.pointer p2,.int .i64 z5,.int .i64 z6,.int .i64 z7] W9 λ v W10=>Q (eZ (.bool false)) W10) (Q (eZ (.bool false)) W8)) (rU prog 93 #[pZ y0 Y0,pZ y1 Y1] W3 λ W11=>∃ I2:wD->Prop,(ldI .i64 W11 y1 (Y1+8) λ z8=>Sx.split (z8==4) (dw W11 λ W12=>ldP W12 y0 (Y0+2) λ p3=>ldI .i64 W12 y1 Y1 λ z9=>rV prog 94 #[.pointer p3,.int .i64 z9] W12 λ v2 W13=>I2 W13) (ldI .i64 W11 y1 (Y1+8) λ z10=>Sx.split (z10==5) (dw W11 λ W14=>ldP W14 y0 (Y0+2) λ p4=>ldI .i64 W14 y1 Y1 λ z11=>rV prog 94 #[.pointer p4,.int .i64 z11] W14 λ v3 W15=>I2 W15) (I2 W11)))/\(wv (∀ W16,I2 W16->dw W16 λ W17=>ldI .u32 W17 y1 (Y1+1) λ z12=>ldI .u32 W17 y1 (Y1+2) λ z13=>ldI .u32 W17 y1 (Y1+18) λ z14=>nN (#[.int .u32 z12,.int .u32 z13,oi,ou,.int .i64 (-1),ou,.int .u32 z14]) λ vs3=>alc W17 #[ou,ou,oi,ou,oi,ou,ou] 55 λ k W18=>bw W17 W18/\ct W18 k 0 7 vs3 λ W19=>∃ I3:wD->Prop,(ldI .i64 W19 y1 (Y1+15) λ z15=>Sx.split (decide (z15 ≥ 0)) (∃ I4:wD->Prop,(dw W19 λ W20=>ldI .i64 W20 y1 (Y1+3+1) λ z16=>(ldI .u32 W20 y1 (Y1+17) λ z17=>bw W20 W20/\sto W20 k (0+2) (Value.int .i64 z16) λ W21=>sto W21 k (0+3) (Value.int .u32 z17) λ W22=>I4 W22)/\sto W20 k (0+2) (Value.int .i64 z16) λ W23=>ldI .u32 W23 y1 (Y1+17) λ z18=>sto W23 k (0+3) (Value.int .u32 z18) λ W24=>I4 W24)/\(wv (∀ W25,I4 W25->dw W25 λ W26=>ldP W26 y0 (Y0+1) λ p5=>ldI .i64 W26 y1 (Y1+16) λ z19=>rV prog 95 #[.pointer p5,.int .i64 z19] W26 λ v10 W27=>I3 W27))) (I3 W19))/\(wv (∀ W28,I3 W28->ldP W28 y0 (Y0+4) λ p6=>rU prog 96 #[.pointer p6] W28 λ W29=>ldI .u32 W29 y1 (Y1+18) λ z20=>sto W29 y0 (Y0+27) (Value.int .u32 z20) λ W30=>∃ I5:wD->Prop,(ldI .i64 W30 y1 (Y1+8) λ z21=>Sx.split (z21==2) (dw W30 λ W31=>ldP W31 y0 (Y0+3) λ p7=>ldN W31 y1 (Y1+9) 3 λ vs4=>ldI .u32 W31 y1 (Y1+1) λ z22=>ldN W31 y1 (Y1+3) 5 λ vs5=>ldB W31 y1 (Y1+19) λ t3=>ldI .u32 W31 y1 (Y1+18) λ z23=>rU prog 97 #[.pointer p7,.agg vs4,.int .u32 z22,.agg vs5,.bool t3,.int .u32 z23] W31 λ W32=>I5 W32) (ldI .i64 W30 y1 (Y1+8) λ z24=>Sx.split (z24==3) (dw W30 λ W33=>ldP W33 y0 (Y0+3) λ p8=>ldN W33 y1 (Y1+9) 3 λ vs6=>ldI .u32 W33 y1 (Y1+1) λ z25=>ldN W33 y1 (Y1+3) 5 λ vs7=>ldB W33 y1 (Y1+19) λ t4=>ldI .u32 W33 y1 (Y1+18) λ z26=>rU prog 97 #[.pointer p8,.agg vs6,.int .u32 z25,.agg vs7,.bool t4,.int .u32 z26] W33 λ W34=>I5 W34) (I5 W30)))/\(wv (∀ W35,I5 W35->ldN W35 k 0 7 λ vs8=>rU prog 74 #[pZ y0 Y0,.int .i64 4,pZ y1 Y1,.agg vs8] W35 λ W36=>∃ I6:wD->Prop,(ldB W36 y1 (Y1+27) λ t5=>Sx.split t5 (ldI .u32 W36 y1 (Y1+26) λ z27=>alc W36 #[.int .u32 z27] 47 λ k3 W37=>rU prog 37 #[pZ y0 Y0,.slice (some ⟨k3,0,none⟩) 1 1] W37 λ W38=>I6 W38) (I6 W36))/\(wv (∀ W39,I6 W39->∃ I7:wD->Prop,(ldI .i64 W39 y1 (Y1+8) λ z28=>Sx.split (z28==7) (ldI .u32 W39 y1 (Y1+18) λ z29=>ldI .u32 W39 y1 (Y1+12) λ z30=>dn W39 λ W40 k4=>Sx.split (z29 !=z30) (dw W40 λ W41=>ldP W41 y0 (Y0+3) λ p9=>ldN W41 y1 (Y1+9) 3 λ vs9=>ldI .u32 W41 y1 (Y1+1) λ z31=>ldN W41 y1 (Y1+3) 5 λ vs10=>rU prog 58 #[.pointer p9,.agg vs9,.int .u32 z31,.agg vs10,.bool false] W41 λ W42=>dw W42 λ W43=>ldI .i64 W43 y1 Y1 λ z32=>ldI .u32 W43 y1 (Y1+18) λ z33=>rU prog 59 #[pZ y0 Y0,.int .i64 z32,.int .u32 z33] W43 λ W44=>I7 W44) (I7 W40)) (dn W39 λ W45 k5=>I7 W45))/\(wv (∀ W46,I7 W46->Q (eZ (.bool true)) W46)))))))))))))) :
 Calls prog 62 #[pZ y0 Y0,pZ y1 Y1] W Q :=
 Sx.sd func62 (.r (.node [] [1,0] 1 .leaf (.n (.r (.n (.r (.n (.h 1011) (.n (.h 1011) (.q (.r (.q (.h 1019))))))) .leaf)) (.r (.node [] [1,0] 1 (.r (.q (.h 1010))) (.n (.h 1015) (.node [] [0,1,5] 1 (.r (.q (.node [] [0,1,5] 1 (.h 1011) (.h 1010)))) (.r (.r (.node [] [0,1,5] 1 (.r (.q (.h 1026))) (.r (.node [] [1,0] 1 .leaf (.node [] [] 1 (.r (.q (.n (.h 1018) (.h 1010)))) .leaf))))))))))))) hVC
end Go.Proofs.YtmncepdbglaphaaGreatDoor
namespace Go.Proofs.YtmncepdbglaphaaGreatDoor.ko
open Go.RowKit Go.XHeap Go.Sx Go.Sep Go.Proofs.Tryz
variable {C:Kc}{n m:Nat}{g:List Fl}{K K' K2 K0:Ko}{f f':Fl}{i k:Nat}{q q':List lsq.En}{e e':lsq.En}{r:List Fl}
def Ko.k6 (C:Kc) (K:Ko) (f:Fl):Ko :=
 let K1:=K.gone C
 let K2:=if f.mem then { K1 with q:=yu K1.q f.seq } else K1
 let K3:=if 0≤f.fresh then { K2 with nm:=K2.nm.release f.old } else K2
 let K4:={ K3 with rs:=K3.rs.counted,at_:=f.next }
 let K5:=if f.bj then { K4 with pr:=K4.pr.learn f.mh f.mt f.pc f.i f.taken f.next } else K4
 K5.tell C 4 f ⟨f.pc,f.word,if 0≤f.fresh then f.i.rd else 0,if 0≤f.fresh then f.value else 0, -1,0,f.next⟩
def Ko.k7 (C:Kc) (K:Ko) (f:Fl):Ko:=if f.spoils then (K.k6 C f).spoil C [f.addr] else K.k6 C f
theorem Xl (K:Ko) (f:Fl):K.done1 C f=if f.cls=7/\f.next≠f.guess then ((K.k7 C f).restore f f.pc f.i false).squash C f.seq f.next else K.k7 C f:=rfl
theorem Inv.k6 (h:Inv C n [] K) (hR:Rdy K f r) (hc:f.cause= -1):Inv C (n+3) [] (K.k6 C f):=by
 have hfm:f ∈ []++K.fls:=by rw[qr,hR.fls];exact qg ..
 have ho:=h.fo f hfm;obtain⟨f2,h1,er,kp,d2,c2,q2,m2⟩:=h.gone (C:=C) hR.fls hR.dn hR.mr;have o2:=h1.fo f2 (by simp);have i2:f2.issued=true:=o2.di d2;unfold Ko.k6;obtain⟨K1,e1⟩:∃ K1,K.gone C=K1:=⟨_,rfl⟩;rw[e1] at h1 er q2 ⊢;simp only
 have hq3:QOk (if f.mem then yu K1.q f.seq else K1.q) [] K1.fls C.Q K1.nxt:=by
  have emem:f2.mem=f.mem:=by unfold Fl.mem;rw[kp.cls]
  by_cases hm:f.mem=true
  ·rw[if_pos hm];obtain⟨e,he,hmr⟩:=h.qo.fe f (by rw[hR.fls];exact qg ..) hm;have hmr2:=m2 e he hmr;rw[<- kp.seq];refine h1.qo.ret h1.sq (by rw[q2];exact he) hmr2 ?_
   have hm2:f2.cls=4∨f2.cls=5:=by rw[<- emem] at hm;unfold Fl.mem at hm;simpa using hm
   rcases hm2 with h4 | h5
   ·exact .inr ⟨by rw[hmr2.st,h4];rfl,hmr2.ld h4 i2 (c2.trans hc)⟩
   ·have:=hmr2.sv h5 i2 (c2.trans hc);exact .inl ⟨by rw[hmr2.st,h5];rfl,this.1,this.2⟩
  ·rw[if_neg hm];exact h1.qo.skip (by rw[emem];simpa using hm)
 have h3:=h1.free1 hq3
 have e3:(if 0≤f.fresh then { (if f.mem=true then { K1 with q:=yu K1.q f.seq } else K1) with nm:=(if f.mem=true then { K1 with q:=yu K1.q f.seq } else K1).nm.release f.old } else (if f.mem=true then { K1 with q:=yu K1.q f.seq } else K1)) =
   ({ K1 with q:=if f.mem then yu K1.q f.seq else K1.q,nm:=if 0≤f2.fresh then K1.nm.release f2.old else K1.nm }:Ko):=by
  rw[kp.fresh,kp.old];split <;> split <;> rfl
 rw[e3];obtain⟨K3,eK3⟩:∃ K3,({ K1 with q:=if f.mem then yu K1.q f.seq else K1.q,nm:=if 0≤f2.fresh then K1.nm.release f2.old else K1.nm }:Ko)=K3:=⟨_,rfl⟩;rw[eK3] at h3 ⊢;have h4:Inv C (n+2) [] { K3 with rs:=K3.rs.counted,at_:=f.next }:={ h3 with rs:=Jq h3.rs,at_:=ho.next }
 have h5:Inv C (n+2) [] (if f.bj then { ({ K3 with rs:=K3.rs.counted,at_:=f.next }:Ko) with pr:=K3.pr.learn f.mh f.mt f.pc f.i f.taken f.next } else { K3 with rs:=K3.rs.counted,at_:=f.next }):=by
  split
  ·exact { h4 with pr:=h4.pr.learn _ _ ho.pc _ _ ho.next }
  ·exact h4
 exact h5.tell (C:=C) 4 f ⟨f.pc,f.word,if 0≤f.fresh then f.i.rd else 0,if 0≤f.fresh then f.value else 0, -1,0,f.next⟩
theorem Inv.undo1 (h:Inv C n [f] K) (hf:K.fls=[]) (h0:0≤f.fresh):NmOk C.R K.nm ([]++[f.old])/\(0<f.i.rd/\f.i.rd<32)/\K.nm.names.getD f.i.rd.toNat 0=f.fresh/\f.old≠0:=by
 have hnm:=h.nm;have hlk:=h.lk;rw[hf] at hnm hlk;rw[Cp h0] at hnm;have hlf:Lnk K.nm.names f:=hlk.1;obtain⟨hw1,hw2⟩:=hlf.w h0;exact⟨hnm,hw1,hw2,(h.old_rng (f:=f) (by simp) h0).2⟩
variable {W w:wD}{A:Ka}{M M':Km}{L:List Asn}{b j n:Nat}{f f' f1 f2 f3:Fl}{g:List Fl}{S:Nat->Prop}
def Dn (A:Ka) (M:Km) (W:wD) (b:Nat) (f:Fl) (K:Ko) (L:List Asn) (B:wD):Prop:=∃ M2:Km,M2.Rep A/\Kept M M2/\b ∉ M2.fs/\(b,f) ∈ M2.fl/\M2.K=K/\St W (ae A M).own B (M2.pieces A++L)
def Km.nms (M:Km) (N:Nms) (p:OA) (c:Nat):Km:={ M with K:={ M.K with nm:=N },nfp:=p,nfc:=c }
theorem Km.Rep.nms (h:M.Rep A) (N:Nms) (p:OA) (c:Nat):(M.nms N p c).Rep A:=⟨h.win,h.q,h.qs,h.pr,h.fn,h.fd,h.fk,h.fl,h.bus,h.gs,h.bg,h.oth⟩
def Km.atp (M:Km) (v:Int):Km:={ M with K:={ M.K with at_:=v } }
theorem Km.Rep.atp (h:M.Rep A) (v:Int):(M.atp v).Rep A:=⟨h.win,h.q,h.qs,h.pr,h.fn,h.fd,h.fk,h.fl,h.bus,h.gs,h.bg,h.oth⟩
theorem Te {M1:Km} (H:St W (ae A M).own w (M1.pieces A++[])) (hR:M1.Rep A) (hk:Kept M M1) (hI:Inv A.C n [] M1.K) (hn:n+200≤1000000000000){r:List Fl} (hd:Rdy M1.K f r) (hb:M1.fs[0]?=some b){Q:Ending->wD->Prop}
  (hq:∀ w',(∃ z:Nx A M (M1.K.fail1 A.C f),Sep.Post (ae A M) W (ae A z.1) w')->Q (eZ (.bool false)) w') :
  Calls prog 93 #[pZ A.x 0,pZ b 0] w λ e2 W4=>e2=eY #[]/\∀ W5:wD,W5=W4.drew->∀ vs:AV,vs=#[.int .i64 0,.int .i64 0,.int .i64 0,.int .i64 0,.int .i64 0]->∃ p:OA,W5.cell? ⟨A.x,0+3,none⟩=some (.pointer p)/\∃ vs2:AV,vs2.size=3/\Sx.cellsAt W5 ⟨b,0+9,none⟩ vs2 /\
   Calls prog 58 #[.pointer p,.agg vs2,.int .u32 0,.agg vs,.bool false] W5 λ e3 W6=>e3=eY #[]/\∀ W7:wD,W7=W6.drew->∃ z2:Int,W7.cell? ⟨b,0+20,none⟩=some (.int .i64 z2)/\∃ z3:Int,W7.cell? ⟨b,0+21,none⟩=some (.int .u32 z3) /\
    Calls prog 61 #[pZ A.x 0,pZ b 0,.int .i64 z2,.int .u32 z3] W7 λ e4 W8=>e4=eY #[]/\∃ z4:Int,W8.cell? ⟨b,0+15,none⟩=some (.int .i64 z4)/\Sx.split (decide (z4 ≥ 0))
     (∀ W9:wD,W9=W8.drew->∃ p2:OA,W9.cell? ⟨A.x,0+1,none⟩=some (.pointer p2)/\∃ z5:Int,W9.cell? ⟨b,0+3+1,none⟩=some (.int .i64 z5)/\∃ z6:Int,W9.cell? ⟨b,0+15,none⟩=some (.int .i64 z6)/\∃ z7:Int,W9.cell? ⟨b,0+16,none⟩=some (.int .i64 z7) /\
      Calls prog 90 #[.pointer p2,.int .i64 z5,.int .i64 z6,.int .i64 z7] W9 λ e5 W10=>∃ v:Value,e5=eZ v/\Q (eZ (.bool false)) W10)
     (Q (eZ (.bool false)) W8):=by
 have hfm:f ∈ []++M1.K.fls:=by rw[qr,hd.fls];exact qg ..
 have ho:=hI.fo f hfm;obtain⟨f2,h1,er,kp,d2,c2,q2,m2⟩:=hI.gone (C:=A.C) hd.fls hd.dn hd.mr;have H:=St.shut (L':=[]) H;refine H.callx 0 rfl (Kq (H.nth 0 rfl) hR hI (by omega) hd.fls hb hd.dn hd.mr) λ z w2 H=>⟨rfl,?_⟩;obtain⟨⟨z,hzR,hzK,hzk⟩,hbn,i0,d0,t0,hy⟩:=z;have H:=H.open_;have H:St W (ae A M).own w2 (z.pieces A++[]):=H;have hbn:b ∉ z.fs:=hbn;have hy:(b,{ f with issued:=i0,done:=d0,ready:=t0 }) ∈ z.fl:=hy;obtain⟨f3,hf3⟩:∃ f3:Fl,({ f with issued:=i0,done:=d0,ready:=t0 }:Fl)=f3:=⟨_,rfl⟩
 have c3:f3.cells[9]?=some (.int .i64 f.mh)/\f3.mh=f.mh/\f3.mt=f.mt/\f3.mv=f.mv/\f3.cause=f.cause/\f3.tval=f.tval/\f3.fresh=f.fresh/\f3.old=f.old/\f3.i=f.i/\f3.pc=f.pc/\f3.seq=f.seq/\f3.word=f.word:=by rw[<- hf3];exact⟨rfl,rfl,rfl,rfl,rfl,rfl,rfl,rfl,rfl,rfl,rfl,rfl⟩
 rw[hf3] at hy
 have h1z:Inv A.C (n+2) [f2] z.K:=by rw[hzK];exact h1
 refine H.dr λ w3 H=>?_;rintro vs rfl;refine⟨_,H.ld 0 rfl rfl,_,rfl,gv (St.fl H hy),?_⟩;rw[c3.2.1,c3.2.2.1,c3.2.2.2.1];refine gc H hzR h1z.pr f.mh f.mt ho.mv 0 zeroI false λ ps w4 hp H=>⟨rfl,H.dr λ w5 H=>?_⟩;have hR2:=hzR.prd hp;have hI2:Inv A.C (n+2) [f2] (z.prd (z.K.pr.back f.mh f.mt f.mv 0 zeroI false) ps z.pd).K:=h1z.restore (f:=f) ho.mv 0 zeroI false
 have hK2:(z.prd (z.K.pr.back f.mh f.mt f.mv 0 zeroI false) ps z.pd).K=(M1.K.gone A.C).restore f 0 zeroI false:=by rw[<- hzK];rfl
 refine⟨f3.cause,(St.fl (M:=z.prd _ ps z.pd) H hy).cell' rfl,f3.tval,(St.fl (M:=z.prd _ ps z.pd) H hy).cell' rfl,?_⟩;have hyp:(b,f3) ∈ (z.prd (z.K.pr.back f.mh f.mt f.mv 0 zeroI false) ps z.pd).fl:=hy;have hbp:b ∉ (z.prd (z.K.pr.back f.mh f.mt f.mv 0 zeroI false) ps z.pd).fs:=hbn;have hkp:Kept M (z.prd (z.K.pr.back f.mh f.mt f.mv 0 zeroI false) ps z.pd):=hk.trans (hzk.trans (Kept.of rfl rfl));obtain⟨M2,hM2⟩:∃ M2,z.prd (z.K.pr.back f.mh f.mt f.mv 0 zeroI false) ps z.pd=M2:=⟨_,rfl⟩;rw[hM2] at H hR2 hI2 hK2 hyp hbp hkp;clear hM2;have H:=St.shut (L':=[]) H;refine H.callx 0 rfl (Fu (H.nth 0 rfl) hR2 hI2 (by omega) hyp (by rw[c3.2.2.2.2.2.2.2.2.2.1];exact ho.pc) f3.cause f3.tval) λ y w6 H=>⟨rfl,?_⟩;have H:=H.open_;have hy4:(b,f3) ∈ y.1.fl:=y.2.2.2.old b f3 hbp hyp
 have hyK:y.1.K=((M1.K.gone A.C).restore f 0 zeroI false).trap A.C f f.cause f.tval:=by
  rw[y.2.2.1,hK2,c3.2.2.2.2.1,c3.2.2.2.2.2.1,<- hf3];rfl
 have hfl:y.1.K.fls=[]:=by
  rw[hyK,(Hq _ _ _ _).1];exact(h1.restore (f:=f) ho.mv 0 zeroI false).live0
 have hIy:Inv A.C (n+2+65) [f2] y.1.K:=by
  rw[hyK];exact(h1.restore (f:=f) ho.mv 0 zeroI false).trap (f:=f) ho.pc f.cause f.tval
 have hfail:M1.K.fail1 A.C f=if 0≤f.fresh then { y.1.K with nm:=y.1.K.nm.undo f.i.rd f.fresh f.old } else y.1.K:=by
  rw[hyK];rfl
 refine⟨f3.fresh,(St.fl H hy4).cell' rfl,aa (λ q=>?_) (λ q=>?_)⟩
 ·have q:0≤f.fresh:=by rw[<- c3.2.2.2.2.2.2.1];exact qB q
  rw[if_pos q] at hfail;have hu:=hIy.undo1 hfl (by rw[kp.fresh];exact q);rw[kp.old,kp.i,kp.fresh] at hu;refine H.dr λ w7 H=>⟨_,H.ld 0 rfl rfl,f3.i.rd,(St.fl H hy4).cell' rfl,f3.fresh,(St.fl H hy4).cell' rfl,f3.old,(St.fl H hy4).cell' rfl,?_⟩;rw[c3.2.2.2.2.2.2.1,c3.2.2.2.2.2.2.2.1,c3.2.2.2.2.2.2.2.2.1];refine H.callx 3 rfl (rm.undo_any (H.nth 3 rfl) hu.1 hu.2.1 hu.2.2.1 hu.2.2.2) λ zn w8 H=>⟨_,rfl,hq w8 ⟨⟨y.1.nms (y.1.K.nm.undo f.i.rd f.fresh f.old) zn.1 zn.2,y.2.1.nms _ _ _,hfail.symm,hkp.trans (y.2.2.2.trans (Kept.of rfl rfl))⟩,aq H⟩⟩
 ·have q:¬ 0≤f.fresh:=by rw[<- c3.2.2.2.2.2.2.1];exact qE q
  rw[if_neg q] at hfail;exact hq w6 ⟨⟨y.1,y.2.1,hfail.symm,hkp.trans y.2.2.2⟩,aq H⟩
end Go.Proofs.YtmncepdbglaphaaGreatDoor.ko
