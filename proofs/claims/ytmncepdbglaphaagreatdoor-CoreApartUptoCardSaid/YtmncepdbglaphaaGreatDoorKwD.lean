/- A part of the walk. No condition. -/
import Derived.Test.YtmncepdbglaphaaGreatDoorKwB
set_option maxRecDepth 100000
namespace Go.Proofs.YtmncepdbglaphaaGreatDoor.ko
open Go.RowKit Go.XHeap Go.Sx Go.Sep Go.Proofs.Tryz
variable {W w:wD}{A:Ka}{M M':Km}{L:List Asn}{b j n:Nat}{f f':Fl}{g:List Fl}{S:Nat->Prop}
theorem aqc (h:A.C.Ok):(A.C.W:Int)=A.C.c.window/\A.C.W≤64:=by
 have:=h.wn;unfold Kc.W;omega
theorem Inv.fs (hI:Inv A.C n g M.K) (hR:M.Rep A):M.fs.length≤64:=by
 have:=aqc hI.cf;have:=hI.wn;rw[hR.fk];omega
theorem turn_ok {v:win.WS}{s:Int}{a to k:Nat}{e:Ending}{wb:Nat} (hk:v.turn s a to=some k) (h:win.TurnPost W wb v s a to e w):e=eZ .nilIface/\Sep.Post (win.winA wb v) W (win.winA wb (v.turned k to)) w:=by
 unfold win.TurnPost at h;rw[hk] at h;exact h
theorem ne (h:(ae A M).at_ W) (hR:M.Rep A) (hI:Inv A.C n g M.K) (hn:n≤1000000000000) (hf:M.K.fls[j]?=some f) (hb:M.fs[j]?=some b) (hs:f.issued=false/\f.done=false) (hab:M.K.has f.a=true/\M.K.has f.b=true){cy:Int} (hc:0≤cy/\cy≤10) :
  Calls prog 66 #[pZ A.x 0,pZ b 0,.int .i64 cy] W λ e w=>∃ z:Nx A M (M.K.begin A.C j cy),e=eY #[]/\Sep.Post (ae A M) W (ae A z.1) w:=by
 have H:=au h;have hy:=hR.fl j b f hb hf;have hcy:=hI.cy
 have hst:f.st=0:=by unfold Fl.st;rw[hs.1,hs.2];rfl
 refine aoz A.x 0 b 0 cy ⟨M.K.cycle,H.ld 0 rfl rfl,?_⟩;rintro z2 rfl;rw[w64 (by omega) (by omega)];refine th H hR.fn hy { f with issued:=true } rfl (by decide) λ w2 H=>?_;refine th H (by show((ko.setB M.fl b _).map (·.1)).Nodup;rw[yk];exact hR.fn) (im hy _) (f.beg (M.K.cycle+cy)) rfl (by decide) λ w3 H=>H.dr λ w4 H=>?_
 have e2:(M.setB b { f with issued:=true }).setB b (f.beg (M.K.cycle+cy))=M.setB b (f.beg (M.K.cycle+cy)):=by
  unfold Km.setB ko.setB;dsimp only;rw[List.map_map];congr 1;apply qlB;intro y _;show(if (if y.1=b then (b,_) else y).1=b then (b,_) else (if y.1=b then (b,_) else y))=_;by_cases e:y.1=b
  ·rw[if_pos e,if_pos rfl,if_pos e]
  ·rw[if_neg e,if_neg e]
 rw[e2] at H;have hy3:(b,f.beg (M.K.cycle+cy)) ∈ (M.setB b (f.beg (M.K.cycle+cy))).fl:=im hy _;refine⟨_,H.ld 0 rfl rfl,f.seq,(St.fl H hy3).cell' rfl,H.call 2 rfl ((win.issue_any hR.win.ok (H.nth 2 rfl) (hR.win.regs hI) f.seq).mono λ e w hp=>turn_ok (hR.win.turn hI hf hst (λ _=>⟨hst,hab⟩)) hp) λ w5 H=>⟨_,rfl,?_⟩⟩;rintro vs rfl
 have hw:WinR A.C (M.K.fls.set j (f.beg (M.K.cycle+cy))) M.K.nxt M.K.rdy (M.w.turned j 1):=hR.win.turned hf (by decide) (by
  unfold dh Fl.st Fl.beg
  rw[hs.2];rfl)
 have hR2:=hR.setw hb hf hw;have H:St W (ae A M).own w5 (({ M.setB b (f.beg (M.K.cycle+cy)) with K:=M.K.setf j (f.beg (M.K.cycle+cy)),w:=M.w.turned j 1 }:Km).pieces A++[]):=H;have H:=St.shut (L':=[]) H;have hev:=hI.ev;refine H.callx 0 rfl (tj (H.nth 0 rfl) hR2 (by show M.K.evs.length≤_;omega) hy3 2 Rt.z) λ z w6 H=>⟨rfl,?_⟩
 have hk:(M.K.setf j (f.beg (M.K.cycle+cy))).tell A.C 2 (f.beg (M.K.cycle+cy)) Rt.z=M.K.begin A.C j cy:=by
  unfold Ko.begin;rw[bi hf];rfl
 exact⟨⟨z.1,z.2.1,z.2.2.1.trans hk,Kept.trans (Kept.setf (M':={ M.setB b (f.beg (M.K.cycle+cy)) with K:=M.K.setf j (f.beg (M.K.cycle+cy)),w:=M.w.turned j 1 }) (f':=f.beg (M.K.cycle+cy)) hR.fn hb hy rfl rfl rfl) z.2.2.2⟩,rfl,H.post 0 rfl⟩
theorem done_ok {v:win.WS}{s:Int}{a to k:Nat}{e:Ending}{wb:Nat} (hk:v.turn s a to=some k) (h:win.TurnPost W wb v s a to e w):e=eZ .nilIface/\Sep.Post (win.winA wb v) W (win.winA wb (v.turned k to)) w:=turn_ok hk h
theorem Km.Rep.vals (h:M.Rep A) (l:LI):({ M with K:={ M.K with vals:=l } }:Km).Rep A:=⟨h.win,h.q,h.qs,h.pr,h.fn,h.fd,h.fk,h.fl,h.bus,h.gs,h.bg,h.oth⟩
theorem Km.Rep.wake (h:M.Rep A) (p:Nat):({ M with K:={ M.K with rdy:=M.K.rdy.set p true },w:=M.w.woken p }:Km).Rep A:=⟨h.win.woken p,h.q,h.qs,h.pr,h.fn,h.fd,h.fk,h.fl,h.bus,h.gs,h.bg,h.oth⟩
theorem Fs (H:St W (ae A M).own w ((M').pieces A++[])) (hR:M'.Rep A){p:Int} (hp:rng A.C.R p){Q:Ending->wD->Prop}
  (hq:∀ w',St W (ae A M).own w' (({ M' with K:={ M'.K with rdy:=M'.K.rdy.set p.toNat true },w:=M'.w.woken p.toNat }:Km).pieces A++[])->Q (eZ .nilIface) w') :
  Calls prog 85 #[pZ A.wb 0,.int .i64 p] w Q:=by
 obtain⟨q,rfl⟩:∃ q:Nat,p=q:=⟨p.toNat,by have:=hp.1;omega⟩
 have hq2:q<M'.w.R:=by have:=hp.2;rw[hR.win.R];omega
 exact H.call 2 rfl (win.wake_good hR.win.ok (H.nth 2 rfl) q hq2) λ w' H=>hq w' H
theorem Aq (h:(ae A M).at_ W) (hR:M.Rep A) (hI:Inv A.C n g M.K) (hn:n≤1000000000000) (hf:M.K.fls[j]?=some f) (hb:M.fs[j]?=some b) (hs:f.issued=true/\f.done=false) :
  Calls prog 57 #[pZ A.x 0,pZ b 0] W λ e w=>∃ z:Nx A M (M.K.finish A.C j),e=eY #[]/\Sep.Post (ae A M) W (ae A z.1) w:=by
 have H:=au h;have hy:=hR.fl j b f hb hf
 have hst:f.st=1:=by unfold Fl.st;rw[hs.1,hs.2];rfl
 have hev:=hI.ev;refine apa A.x 0 b 0 (th H hR.fn hy f.fin rfl (by decide) λ w2 H=>H.dr λ w4 H=>?_);have hy3:(b,f.fin) ∈ (M.setB b f.fin).fl:=im hy _;refine⟨_,H.ld 0 rfl rfl,f.seq,(St.fl H hy3).cell' rfl,H.call 2 rfl ((win.done_any hR.win.ok (H.nth 2 rfl) (hR.win.regs hI) f.seq).mono λ e w hp=>turn_ok (hR.win.turn hI hf hst (λ e=>by cases e)) hp) λ w5 H=>⟨_,rfl,?_⟩⟩;have hw:WinR A.C (M.K.fls.set j f.fin) M.K.nxt M.K.rdy (M.w.turned j 2):=hR.win.turned hf (by decide) rfl;have hR2:=hR.setw hb hf hw;obtain⟨M2,hM2⟩:∃ M2:Km,M2={ M.setB b f.fin with K:=M.K.setf j f.fin,w:=M.w.turned j 2 }:=⟨_,rfl⟩;rw[<- hM2] at hR2
 have H:St W (ae A M).own w5 (M2.pieces A++[]):=by rw[hM2];exact H
 have hy4:(b,f.fin) ∈ M2.fl:=by rw[hM2];exact hy3
 have hK2:Kept M M2:=by rw[hM2];exact Kept.setf (f':=f.fin) hR.fn hb hy rfl rfl rfl
 have hvl:M2.K.vals.length=A.C.R:=by rw[hM2];exact hI.vl
 have hev2:M2.K.evs.length≤1500000000000:=by rw[hM2];show M.K.evs.length≤_;omega
 have e2:M2.K=M.K.setf j f.fin:=by rw[hM2]
 have hfin:M.K.finish A.C j=(((M2.K.put f).rouse f.fresh).tell A.C 3 f.fin Rt.z):=by
  unfold Ko.finish;rw[bi hf,e2];rfl
 clear hM2;have hu:=hI.fo f (hI.mem hf)
 have fin:∀ {B:wD} {M3:Km},St W (ae A M).own B (M3.pieces A++[])->M3.Rep A->M3.K.evs=M2.K.evs->M3.fl=M2.fl->M3.fs=M2.fs->M3.K=(M2.K.put f).rouse f.fresh ->
   ∀ vs,vs=#[Value.int .u32 0,.int .u32 0,.int .i64 0,.int .u32 0,.int .i64 0,.int .u32 0,.int .u32 0] ->
   Calls prog 74 #[pZ A.x 0,.int .i64 3,pZ b 0,.agg vs] B λ e w=>e=eY #[]/\∃ z:Nx A M (M.K.finish A.C j),eY #[]=eY #[]/\Sep.Post (ae A M) W (ae A z.1) w:=by
  rintro B M3 H hR3 e1 e3 e4 e5 vs rfl;have H:=St.shut (L':=[]) H;refine H.callx 0 rfl (tj (H.nth 0 rfl) hR3 (by rw[e1];exact hev2) (by rw[e3];exact hy4) 3 Rt.z) λ z w6 H=>⟨rfl,?_⟩;refine⟨⟨z.1,z.2.1,z.2.2.1.trans (by rw[hfin,e5]),(hK2.trans (Kept.of e4 e3)).trans z.2.2.2⟩,rfl,H.post 0 rfl⟩
 have fr:∀ {B:wD},St W (ae A M).own B (M2.pieces A++[])->B.cell? ⟨b,15,none⟩=some (.int .i64 f.fresh):=λ H=>(St.fl H hy4).cell' rfl;refine⟨f.fresh,by exact fr H,aa (λ q=>?_) (λ q=>?_)⟩
 ·have q:0≤f.fresh:=qB q;have hrg:=(hI.fresh (hI.mem hf) q).1;have hrg2:=hrg;unfold rng at hrg2;refine⟨f.cause,(St.fl H hy4).cell' rfl,aa (λ q2=>?_) (λ q2=>?_)⟩
  ·have q2:f.cause= -1:=by simpa using q2
   refine H.dr λ w6 H=>⟨_,_,_,H.ld 0 rfl rfl,f.fresh,by exact fr H,f.value,(St.fl H hy4).cell' rfl,⟨q,hrg2.2⟩,adr_some ?_⟩;rw[qT,qW];refine H.st 7 rfl (by rw[iv,hvl];omega) λ w7 H=>?_;rw[ru] at H;have H:St W (ae A M).own w7 (({ M2 with K:={ M2.K with vals:=M2.K.vals.set f.fresh.toNat f.value } }:Km).pieces A++[]):=H;have hR3:=hR2.vals (M2.K.vals.set f.fresh.toNat f.value);refine⟨f.fresh,(St.fl H hy4).cell' rfl,aa (λ _=>H.dr λ w8 H=>⟨_,H.ld 0 rfl rfl,f.fresh,(St.fl H hy4).cell' rfl,Fs H hR3 hrg λ w9 H=>⟨_,rfl,?_⟩⟩) (λ q3=>absurd q (qE q3))⟩;refine fin H (hR3.wake _) rfl rfl rfl ?_;unfold Ko.put Ko.rouse Ko.wake;rw[if_pos q,if_pos ⟨q,q2⟩]
  ·have q2:¬ f.cause= -1:=by simpa using q2
   refine⟨f.fresh,by exact fr H,aa (λ _=>H.dr λ w8 H=>⟨_,H.ld 0 rfl rfl,f.fresh,by exact fr H,Fs H hR2 hrg λ w9 H=>⟨_,rfl,?_⟩⟩) (λ q3=>absurd q (qE q3))⟩;refine fin H (hR2.wake _) rfl rfl rfl ?_;unfold Ko.put Ko.rouse Ko.wake;rw[if_pos q,if_neg (λ e=>q2 e.2)]
 ·have q:¬ 0≤f.fresh:=qE q;refine⟨f.fresh,by exact fr H,aa (λ q3=>absurd (qB q3) q) (λ _=>?_)⟩;refine fin H hR2 rfl rfl rfl ?_;unfold Ko.put Ko.rouse;rw[if_neg q,if_neg (λ e=>q e.1)]
theorem aea {p:OA}{m k c:Nat}{r:LV}{e:Nat} (h:Sl w e 1 (.slice p m c) m r) (hk:k≤m):Sl w e 1 (.slice p k c) k (r.take k):=by
 have hl:=h.1;refine⟨by rw[qq];omega,?_⟩;rcases h.2 with ⟨hv,h0⟩ | ⟨g,off,cap,cur,hv,hb,h1,h2,h3,h4⟩
 ·cases hv;obtain rfl:k=0:=by omega
  exact .inl ⟨rfl,by omega⟩
 ·cases hv;refine .inr ⟨g,off,_,cur,rfl,hb,by omega,h2,h3,?_⟩;rw[<- h4,List.take_take,qT,qT,qPB hk]
theorem aeb {p:OA}{n m c q:Nat}:(Value.slice p n c).ownBlock=some q->(Value.slice p m c).ownBlock=some q:=by
 intro h
 cases p with
 | none=>simp [Value.ownBlock] at h
 | some a=>simpa [Value.ownBlock] using h
def Km.sq (M:Km) (K:Ko) (v:win.WS) (q:lsq.PQ) (y:(OA×Nat)×(OA×Nat)):Km:={ M with K:=K,w:=v,q:=q,nfp:=y.1.1,nfc:=y.1.2,ep:=y.2.1,ec:=y.2.2 }
def Ko.dropped (C:Kc) (K:Ko) (after:Int) (ds:List Fl):Ko:={ K with q:=K.q.filter (lsq.keepP after),nm:=ds.foldl ck K.nm,rdy:=ds.foldl db K.rdy,evs:=K.evs++ds.map (Fc C K.cycle) }
theorem So (hI:Inv A.C n g M.K) (after:Int):M.K.live after=M.K.fls.take (M.K.live after).length/\(M.K.live after).length≤M.K.fls.length:=by
 have h:=ib hI.sqk after;have e:M.K.fls=M.K.live after++M.K.dead after:=h;constructor
 ·conv=>rhs;rw[e]
  rw[List.take_left'];rfl
 ·conv=>rhs;rw[e]
  rw[qP];omega
theorem Sp (hI:Inv A.C n g M.K) (after:Int){ds r:List Fl} (he:(M.K.dead after).reverse=ds++f::r) :
  f ∈ M.K.fls/\(0≤f.fresh->∃ os,NmOk A.C.R (ds.foldl ck M.K.nm) (os++[f.old])/\(0<f.i.rd/\f.i.rd<32)/\(ds.foldl ck M.K.nm).names.getD f.i.rd.toNat 0=f.fresh/\f.old≠0/\rng A.C.R f.fresh):=by
 have hd:M.K.dead after=r.reverse++f::ds.reverse:=by
  have:=congrArg List.reverse he;rw[qQB,List.reverse_append,List.reverse_cons,ql] at this;exact this
 have hsp:M.K.fls=M.K.live after++M.K.dead after:=ib hI.sqk after
 have e1:g++M.K.fls=(g++M.K.live after++r.reverse++[f])++ds.reverse:=by
  rw[hsp,hd];simp
 have hm:f ∈ M.K.fls:=by rw[hsp,hd];simp
 refine⟨hm,λ h0=>?_⟩;have hnm:=hI.nm;have hlk:=hI.lk;rw[e1] at hnm hlk;obtain⟨h1,h2, -⟩:=pv (R:=A.C.R) (l1:=g++M.K.live after++r.reverse++[f]) ds hnm hlk;have hl2:=(Lk_app.1 (Lk_app.1 hlk).1).2;have hlf:Lnk (gh (gh M.K.nm.names ds.reverse) []) f:=hl2.1;rw[<- h2] at hlf;obtain⟨hw1,hw2⟩:=hlf.w h0
 have eo:olds (g++M.K.live after++r.reverse++[f])=olds (g++M.K.live after++r.reverse)++[f.old]:=by
  rw[js];congr 1;unfold olds;rw[qj,if_pos (qI h0)];rfl
 rw[eo] at h1;have hmem:f ∈ g++M.K.fls:=qL _ hm;exact⟨_,h1,hw1,hw2,(hI.old_rng hmem h0).2,(hI.fresh hmem h0).1⟩
theorem tm (C:Kc) (K:Ko) (after:Int) (ds:List Fl) (f:Fl):K.dropped C after (ds++[f])=Ko.drop1 C (K.dropped C after ds) f:=by
 unfold Ko.dropped Ko.drop1;rw[qwB,qwB,qV,<- ql];by_cases h:0≤f.fresh
 ·rw[if_pos h];show({ K with q:=_,nm:=ck (ds.foldl ck K.nm) f,rdy:=db (ds.foldl db K.rdy) f,evs:=_ }:Ko)=_;unfold ck db;rw[if_pos h,if_pos h];rfl
 ·rw[if_neg h];show({ K with q:=_,nm:=ck (ds.foldl ck K.nm) f,rdy:=db (ds.foldl db K.rdy) f,evs:=_ }:Ko)=_;unfold ck db;rw[if_neg h,if_neg h];rfl
theorem squash_any (h:(ae A M).at_ W) (hR:M.Rep A) (hI:Inv A.C n g M.K) (hn:n≤1000000000000) (after pc:Int) :
  Calls prog 59 #[pZ A.x 0,.int .i64 after,.int .u32 pc] W λ e w=>∃ z:Nx A M (M.K.squash A.C after pc),e=eY #[]/\Sep.Post (ae A M) W (ae A z.1) w:=by
 have H:=au h;have hev:=hI.ev
 have hq32:(lsq.ens M.q).length≤32:=by rw[hR.q];have:=hI.qo.len;have:=hI.cf.q;unfold Kc.Q at *;omega
 have hfs:=Inv.fs hI hR;obtain⟨hsq1,hsq2⟩:=hR.win.sqL after hI.sqk;obtain⟨hlv1,hlv2⟩:=So hI after;refine apd A.x 0 after pc ⟨_,H.ld 0 rfl rfl,H.callx 4 rfl (Xb (H.nth 4 rfl) hq32 after) λ zq w2 H=>⟨rfl,_,H.ld 0 rfl rfl,H.callx 2 rfl (win.squash_any hR.win.ok (H.nth 2 rfl) after) λ z w3 H=>⟨_,_,_,rfl,?_⟩⟩⟩;have H:=(H.pick [2,0,1,3,4,5,6,7,8,9,10,11,12,13,14,15]).open_;have H:=H.pick [2,3,0,4,5,6,7,8,9,10,11,12,13,14,15,16,1];obtain⟨l,hl0⟩:∃ l,M.w.sqL after M.w.n=l:=⟨_,rfl⟩;rw[hl0] at H hsq1 ⊢;rw[hsq2] at H;obtain⟨ds,hds⟩:∃ ds,(M.K.dead after).reverse=ds:=⟨_,rfl⟩;rw[hds] at hsq1
 have hll:l.length=ds.length:=by rw[hsq1,qd]
 have hdl:ds.length≤64:=by
  have e:M.K.fls=M.K.live after++M.K.dead after:=ib hI.sqk after;have:=congrArg List.length e;rw[qP] at this;have:=hR.fk;rw[<- hds,List.length_reverse];omega
 have hw0:WinR A.C (M.K.live after) M.K.nxt M.K.rdy (M.w.cut (M.K.live after).length):=by
  have:=hR.win.cut hlv2;rw[<- hlv1] at this;exact this
 have H:St W (ae A M).own w3 ((M.sq (M.K.dropped A.C after []) (M.w.cut (M.K.live after).length) zq.1 ((M.nfp,M.nfc),(M.ep,M.ec))).pieces A++[sl 3 1 (.slice z.1 l.length z.2) l.length (win.intsV l)]):=by
  unfold Ko.dropped;rw[show([]:List Fl).map (Fc A.C M.K.cycle)=[] from rfl,qqB];exact H
 refine⟨λ i B=>∃ (m:Nat) (v:win.WS) (y:(OA×Nat)×(OA×Nat)),i=m/\m≤l.length/\WinR A.C (M.K.live after) M.K.nxt (M.K.dropped A.C after (ds.take m)).rdy v/\St W (ae A M).own B ((M.sq (M.K.dropped A.C after (ds.take m)) v zq.1 y).pieces A++[sl 3 1 (.slice z.1 l.length z.2) l.length (win.intsV l)]),λ i _=>l.length - i.toNat,⟨0,_,_,rfl,qQ _,hw0,H⟩,λ _=>?_⟩;clear H;rintro i w4 ⟨m,v,y,rfl,hm,hv,H⟩;refine aa (λ q=>?_) (λ q=>?_)
 ·have q:=qB q
  have hml:m<l.length:=by omega
  have hmd:m<ds.length:=by omega
  obtain⟨f,hf⟩:∃ f,ds[m]?=some f:=⟨_,qC hmd⟩
  have hs:l[m]?=some f.seq:=by rw[hsq1,qS,hf];rfl
  have hsplit:ds=ds.take m++f::ds.drop (m+1):=by
   have h1:ds.drop m=f::ds.drop (m+1):=by
    rw[qYB hmd];congr 1;exact(qD.1 hf).2
   rw[<- h1,qzB]
  obtain⟨hfm,hnx⟩:=Sp hI after (hds.trans hsplit)
  have htk:ds.take (m+1)=ds.take m++[f]:=by
   rw[qfB,hf];rfl
  obtain⟨j,hj⟩:=qK.1 hfm;obtain⟨b,hb,hy⟩:=hR.at hj;obtain⟨ao,cap,hvv,hlen, -, -, -,hc⟩:=(H.nth 16 rfl:Sl w4 3 1 (.slice z.1 l.length z.2) l.length (win.intsV l)).open1;cases hvv;obtain⟨g0,off,hp, -,hcc⟩:=hc (by omega)
  have hcell:w4.cell? ⟨g0,off+m,none⟩=some (.int .i64 f.seq):=by
   rw[(hcc m hml).1];unfold win.intsV;rw[qS,hs];rfl
  rw[hp];refine⟨⟨by omega,q⟩,adr_some ⟨f.seq,by rw[ix1];exact hcell,?_⟩⟩;rw[hp] at H
  have hptr:(M.sq (M.K.dropped A.C after (ds.take m)) v zq.1 y).ptr f.seq=some ⟨b,0,none⟩:=by
   have:=Km.ptr_at hR hI hj hb;exact this
  have hfind:=Kp (M:=M.sq (M.K.dropped A.C after (ds.take m)) v zq.1 y) (H.shut.nth 0 rfl) hR.fk hR.at hfs f.seq;rw[hptr] at hfind;refine hfind.mono ?_;rintro e w5 ⟨rfl,rfl⟩;have cf:∀ {B:wD} {M2:Km} {L:List Asn} {i:Nat} {x:Value},St W (ae A M).own B (M2.pieces A++L)->M2.fl=M.fl->f.cells[i]?=some x->B.cell? ⟨b,i,none⟩=some x:=λ H e hx=>(St.fl H (by rw[e];exact hy)).cell' hx
  have tell:∀ {B:wD} {M2:Km} {v2:win.WS} {y2:(OA×Nat)×(OA×Nat)},M2=M.sq M2.K v2 zq.1 y2->St W (ae A M).own B (M2.pieces A++[sl 3 1 (.slice (some ⟨g0,off,none⟩) l.length z.2) l.length (win.intsV l)])->M2.K.evs=(M.K.dropped A.C after (ds.take m)).evs->M2.K.tell A.C 5 f Rt.z=M.K.dropped A.C after (ds.take (m+1))->M2.K.cycle=M.K.cycle->WinR A.C (M.K.live after) M.K.nxt (M.K.dropped A.C after (ds.take (m+1))).rdy v2 ->
    ∀ vs,vs=#[Value.int .u32 0,.int .u32 0,.int .i64 0,.int .u32 0,.int .i64 0,.int .u32 0,.int .u32 0] ->
    Calls prog 74 #[pZ A.x 0,.int .i64 5,pZ b 0,.agg vs] B λ e w=>e=eY #[]/\∀ z7:Int,z7=IntKind.wrap .i64 ((m:Int)+1)->(∃ (m':Nat) (v:win.WS) (y:(OA×Nat)×(OA×Nat)),z7=m'/\m'≤l.length/\WinR A.C (M.K.live after) M.K.nxt (M.K.dropped A.C after (ds.take m')).rdy v/\St W (ae A M).own w ((M.sq (M.K.dropped A.C after (ds.take m')) v zq.1 y).pieces A++[sl 3 1 (.slice (some ⟨g0,off,none⟩) l.length z.2) l.length (win.intsV l)]))/\l.length - z7.toNat<l.length - (m:Int).toNat:=by
   rintro B M2 v2 y2 e0 H e1 e2 e4 hv2 vs rfl;have H:=H.shut
   have hy2:(b,f) ∈ M2.fl:=by rw[e0];exact hy
   have hlen2:M2.K.evs.length≤1500000000000:=by
    rw[e1];show(M.K.evs++(ds.take m).map (Fc A.C M.K.cycle)).length≤_;rw[qP,qd,qq];omega
   refine H.callx 0 rfl (Kn (M:=M2) (H.nth 0 rfl) hlen2 hy2 5 Rt.z) λ ze w6 H=>⟨rfl,?_⟩;rintro z7 rfl;rw[w64 (by omega) (by omega)];refine⟨⟨m+1,v2,(y2.1,ze),by omega,by omega,hv2,?_⟩,by show l.length - ((m:Int)+1).toNat<l.length - (m:Int).toNat;omega⟩;have H:=H.open_
   have e3:M2.told ⟨A.C.num,M2.K.cycle,5,f.seq,f.pc,Rt.z⟩ ze.1 ze.2=M.sq (M.K.dropped A.C after (ds.take (m+1))) v2 zq.1 (y2.1,ze):=by
    rw[<- e2,e0];rfl
   rw[<- e3];exact H
  refine⟨_,rfl,ptr_some ⟨f.fresh,by rw[ac];exact cf H rfl rfl,aa (λ q2=>?_) (λ q2=>?_)⟩⟩
  ·have q2:0≤f.fresh:=qB q2;obtain⟨os,hnm,hrd,hnn,hold,hrg⟩:=hnx q2;refine H.dr λ w6 H=>ptr_some (ptr_some (ptr_some ⟨_,H.ld 0 rfl rfl,f.i.rd,cf H rfl rfl,f.fresh,by rw[ac];exact cf H rfl rfl,f.old,by rw[ac];exact cf H rfl rfl,?_⟩));refine H.callx 3 rfl (rm.undo_any (H.nth 3 rfl) hnm hrd hnn hold) λ zn w7 H=>⟨_,rfl,H.dr λ w8 H=>ptr_some ?_⟩;obtain⟨q3,hq3⟩:∃ q3:Nat,f.fresh=q3:=⟨f.fresh.toNat,by omega⟩;refine⟨_,H.ld 0 rfl rfl,f.fresh,by rw[ac];exact(Sj (H.nth 12 rfl) hy).cell' rfl,?_⟩
   have hr2:q3<v.R:=by have:=hrg.2;rw[hv.R];omega
   have hwk:=win.wake_good hv.ok (H.nth 2 rfl) q3 hr2;rw[<- hq3] at hwk;refine H.call 2 rfl hwk λ w9 H=>⟨_,rfl,?_⟩
   have hrdy:(M.K.dropped A.C after (ds.take (m+1))).rdy=(M.K.dropped A.C after (ds.take m)).rdy.set f.fresh.toNat true:=by
    rw[htk,tm];unfold Ko.drop1;rw[if_pos q2];rfl
   refine tell (M2:=M.sq ({ M.K.dropped A.C after (ds.take m) with nm:=(M.K.dropped A.C after (ds.take m)).nm.undo f.i.rd f.fresh f.old,rdy:=(M.K.dropped A.C after (ds.take m)).rdy.set f.fresh.toNat true }) (v.woken q3) zq.1 (zn,y.2)) (v2:=v.woken q3) (y2:=(zn,y.2)) rfl ?_ rfl ?_ rfl ?_
   ·exact H
   ·rw[htk,tm];unfold Ko.drop1;rw[if_pos q2];rfl
   ·rw[hrdy,hq3];exact hv.woken q3
  ·have q2:¬ 0≤f.fresh:=qE q2;refine tell (M2:=M.sq (M.K.dropped A.C after (ds.take m)) v zq.1 y) (v2:=v) (y2:=y) rfl H rfl ?_ rfl ?_
   ·rw[htk,tm];unfold Ko.drop1;rw[if_neg q2];rfl
   ·rw[htk,tm];unfold Ko.drop1;rw[if_neg q2];exact hv
 ·have q:=qE q;have hmd:ds.take m=ds:=qGB (by omega);rw[hmd] at hv H
  have hsq:M.K.squash A.C after pc={ M.K.dropped A.C after ds with fls:=M.K.live after,pc:=pc,idle:=false }:=by
   rw[yf,hds];rfl
  have fin:∀ {B:wD} {M2:Km} {L:List Asn},M2={ M.sq (M.K.squash A.C after pc) v zq.1 y with fs:=M.fs.take (M.K.live after).length }->St W (ae A M).own B (M2.pieces A++L)->∃ z:Nx A M (M.K.squash A.C after pc),eY #[]=eY #[]/\Sep.Post (ae A M) W (ae A z.1) B:=by
   rintro B M2 L rfl H;refine⟨⟨{ M.sq (M.K.squash A.C after pc) v zq.1 y with fs:=M.fs.take (M.K.live after).length },⟨?_,zq.2.2.trans ?_,zq.2.1.trans hR.qs,?_,hR.fn,hR.fd.sublist (List.take_sublist _ _),?_,?_,?_,hR.gs,hR.bg,?_⟩,rfl,⟨λ c hc=>qRB hc,λ c f2 hc=>⟨f2,hc,rfl⟩,λ c f2 _ hc=>hc⟩⟩,rfl,aq H⟩
   ·show WinR A.C (M.K.squash A.C after pc).fls (M.K.squash A.C after pc).nxt (M.K.squash A.C after pc).rdy v;rw[hsq];exact hv
   ·show _=(M.K.squash A.C after pc).q;rw[hsq,hR.q];rfl
   ·show PrR (M.K.squash A.C after pc).pr M.ps M.pd;rw[hsq];exact hR.pr
   ·show(M.fs.take (M.K.live after).length).length=(M.K.squash A.C after pc).fls.length;rw[hsq,qq,hR.fk];show _=(M.K.live after).length;omega
   ·intro j c f2 hc hj;have hc:(M.fs.take (M.K.live after).length)[j]?=some c:=hc;have hj:(M.K.squash A.C after pc).fls[j]?=some f2:=hj;rw[hsq] at hj;have hj:(M.K.live after)[j]?=some f2:=hj;have hjl:=(qD.1 hj).1;rw[qa hjl] at hc;rw[hlv1,qa hjl] at hj;exact hR.fl j c f2 hc hj
   ·show(M.K.squash A.C after pc).bus=bNorm M.S;rw[hsq];exact hR.bus
   ·show M.oth=A.oth.map λ o=>o.brk (M.K.squash A.C after pc).wr;rw[hsq];exact hR.oth
  refine⟨_,_,_,H.ld 0 rfl rfl,λ i B=>∃ k:Nat,i=k/\k≤M.fs.length/\(∀ i f,i<k->M.K.fls[i]?=some f->¬ after<f.seq)/\B=w4,λ i _=>M.fs.length - i.toNat,⟨0,rfl,qQ _,λ i f hi=>by omega,rfl⟩,λ _=>?_⟩;rintro i w5 ⟨k,rfl,hk,hno,rfl⟩;have hfk:=hR.fk;have hsp:M.K.fls=M.K.live after++M.K.dead after:=ib hI.sqk after
  have hle:k≤(M.K.live after).length∨(M.K.live after).length<k:=by omega
  have hkl:k≤(M.K.live after).length:=by
   rcases hle with h | h
   ·exact h
   ·exfalso
    have hlt:(M.K.live after).length<M.K.fls.length:=by omega
    have hf:=qC hlt;refine hno _ _ h hf ?_
    have hmem:M.K.fls[(M.K.live after).length] ∈ M.K.dead after:=by
     have h2:M.K.fls[(M.K.live after).length]?=(M.K.dead after)[0]?:=by
      conv=>lhs;rw[hsp]
      rw[qf (qY _),Nat.sub_self]
     rw[hf] at h2;exact qN h2.symm
    have:=(qrB.1 hmem).2;simpa using this
  refine aa (λ q2=>?_) (λ q2=>?_)
  ·have q2:k<M.fs.length:=by have:=qB q2;show k<M.fs.length;exact Int.ofNat_lt.1 this
   have hf:=qC (show k<M.K.fls.length by omega);obtain⟨b,hb,hy⟩:=hR.at hf;obtain⟨g0,o,hp,hc⟩:=ti (H.nth 11 rfl) hb;have hp:M.fp=some ⟨g0,o,none⟩:=hp;rw[show(M.sq (M.K.dropped A.C after ds) v zq.1 y).fp=some ⟨g0,o,none⟩ from hp];refine⟨⟨by omega,by show(k:Int)<((M.fs.length:Nat):Int);omega⟩,adr_some ⟨_,by rw[ix1];exact hc,ptr_some ⟨M.K.fls[k].seq,by rw[ac];exact(St.fl H hy).cell' rfl,aa (λ q3=>?_) (λ q3=>?_)⟩⟩⟩
   ·have q3:after<M.K.fls[k].seq:=qB q3
    have hkk:k=(M.K.live after).length:=by
     rcases Nat.lt_or_ge k (M.K.live after).length with h | h
     ·exfalso
      have h2:M.K.fls[k] ∈ M.K.live after:=by
       have h3:(M.K.live after)[k]?=some M.K.fls[k]:=by
        rw[hlv1,qa h];exact hf
       exact qN h3
      have:=(qrB.1 h2).2;simp at this;omega
     ·omega
    have hcap:M.fs.length≤M.fc:=by
     obtain⟨ao,cap,hv2,hlen2, -,hle2, -, -⟩:=(H.nth 11 rfl:Sl w5 154 1 (.slice M.fp M.fs.length M.fc) M.fs.length (Dj M.fs)).open1;cases hv2;exact hle2
    refine⟨_,_,_,H.ld 0 rfl rfl,⟨by omega,by show(k:Int)≤((M.fc:Nat):Int);omega⟩,H.st 0 rfl (by show 28<34;omega) λ w6 H=>H.st 0 rfl (by show 26<34;omega) λ w7 H=>H.st 0 rfl (by show 33<34;omega) λ w8 H=>?_⟩
    have hlt:(M.fs.take k).length=k:=by rw[qq];omega
    have H:=H.conv 11 (A':=sl 154 1 (.slice M.fp k M.fc) k (Dj (M.fs.take k))) rfl (λ hs=>by
     have:=aea (k:=k) hs (show k≤M.fs.length by omega);unfold Dj at this ⊢;rw[List.map_take]
     exact this) (λ q hq=>aeb hq)
    rw[show((k:Int)).toNat=k from qG k] at H;refine fin (M2:={ M.sq (M.K.squash A.C after pc) v zq.1 y with fs:=M.fs.take k }) (by rw[hkk]) (L:=[sl 3 1 (.slice z.1 l.length z.2) l.length (win.intsV l)]) ?_;rw[hsq];unfold Km.pieces Km.root;rw[hlt];exact H
   ·have q3:¬ after<M.K.fls[k].seq:=qE q3;rintro z8 rfl;rw[w64 (by omega) (by omega)];refine⟨⟨k+1,by omega,by omega,λ i f hi hif=>?_,rfl⟩,by show M.fs.length - ((k:Int)+1).toNat<M.fs.length - (k:Int).toNat;omega⟩;by_cases e:i=k
    ·subst e;rw[hf] at hif;cases hif;exact q3
    ·exact hno i f (by omega) hif
  ·have q2:¬ k<M.fs.length:=by have:=qE q2;exact λ h=>this (Int.ofNat_lt.2 h)
   have hkk:M.fs.take (M.K.live after).length=M.fs:=qGB (by omega)
   have hll2:M.K.live after=M.K.fls:=by rw[hlv1,qGB (by omega)]
   refine H.st 0 rfl (by show 26<34;omega) λ w7 H=>H.st 0 rfl (by show 33<34;omega) λ w8 H=>?_;refine fin (M2:={ M.sq (M.K.squash A.C after pc) v zq.1 y with fs:=M.fs }) (by rw[hkk]) (L:=[sl 3 1 (.slice z.1 l.length z.2) l.length (win.intsV l)]) ?_;rw[hsq];exact H
end Go.Proofs.YtmncepdbglaphaaGreatDoor.ko
