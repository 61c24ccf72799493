/- A part of the walk. No condition. -/
import Derived.Test.YtmncepdbglaphaaGreatDoorKwD
set_option linter.unusedVariables false
set_option maxRecDepth 100000
namespace Go.Proofs.YtmncepdbglaphaaGreatDoor.ko
open Go.RowKit Go.XHeap Go.Sx Go.Sep Go.Proofs.Tryz
variable {W w:wD}{A:Ka}{M M':Km}{L:List Asn}{b j n:Nat}{f f':Fl}{g:List Fl}{S:Nat->Prop}
def Km.prd (M:Km) (P:Prd) (ps:pm.PS) (pd:pm.Dir):Km:={ M with K:={ M.K with pr:=P },ps:=ps,pd:=pd }
theorem Km.Rep.prd (h:M.Rep A){P:Prd}{ps:pm.PS}{pd:pm.Dir} (hp:PrR P ps pd):(M.prd P ps pd).Rep A:=⟨h.win,h.q,h.qs,hp,h.fn,h.fd,h.fk,h.fl,h.bus,h.gs,h.bg,h.oth⟩
theorem ur (H:St W S w (M.pieces A++L)):Tabs A.B.heap.size w/\(∀ k,(pm.pgA A.gb M.ps M.pd).own k->A.B.heap.size≤k) :=
 ⟨(H.nth 1 rfl:(br A.B).at_ w).1,λ k hk=>Nat.le_of_not_lt λ hlt=>St.disj H.here 5 1 (by decide) rfl rfl k hk hlt⟩
theorem gc (H:St W S w (M.pieces A++L)) (hR:M.Rep A) (hP:M.K.pr.Ok) (mh mt:Int){mv:Int} (hv:U32 mv) (pc:Int) (i:Ins) (t:Bool){Q:Ending->wD->Prop}
  (hq:∀ (ps:pm.PS) w',PrR (M.K.pr.back mh mt mv pc i t) ps M.pd->St W S w' ((M.prd (M.K.pr.back mh mt mv pc i t) ps M.pd).pieces A++L)->Q (eY #[]) w') :
  Calls prog 58 #[pZ A.gb 0,.agg (zb mh mt mv),.int .u32 pc,.agg i.vs,.bool t] w Q :=
 H.callx 5 rfl (Rs (H.nth 5 rfl) hR.pr hP (ur H).1 (ur H).2 mh mt hv pc i t) λ z w' H=>hq z.1 w' z.2 H
theorem gv (hb:Blk w b f.cells 162):Sx.cellsAt w ⟨b,0+9,none⟩ (zb f.mh f.mt f.mv):=by
 refine yl hb λ i u hu=>?_;rcases i with _ | _ | _ | i
 ·exact hu
 ·exact hu
 ·exact hu
 ·cases hu
theorem Ft (h:(ae A M).at_ W) (hR:M.Rep A) (hI:Inv A.C n g M.K) (hn:n≤1000000000000) (hf:M.K.fls[j]?=some f) (hb:M.fs[j]?=some b) :
  Calls prog 54 #[pZ A.x 0,pZ b 0] W λ e w=>∃ z:Nx A M (M.K.again A.C f),e=eY #[]/\Sep.Post (ae A M) W (ae A z.1) w:=by
 have hy:=hR.fl j b f hb hf;have ho:=hI.fo f (hI.mem hf);have hsb:=hI.sb f (hI.mem hf);have hnx:=hI.nx;refine ape A.x 0 b 0 ((au h).dr λ w2 H=>?_);rintro vs rfl;refine⟨_,H.ld 0 rfl rfl,_,rfl,gv (St.fl H hy),f.pc,(St.fl H hy).cell' rfl,?_⟩;refine gc H hR hI.pr f.mh f.mt ho.mv f.pc zeroI false λ ps w3 hp H=>⟨rfl,H.dr λ w4 H=>?_⟩;have hR2:=hR.prd hp;refine⟨f.seq,(St.fl (M:=M.prd _ ps M.pd) H hy).cell' rfl,?_⟩;rintro z3 rfl;rw[w64 (by omega) (by omega)];refine⟨f.pc,(St.fl (M:=M.prd _ ps M.pd) H hy).cell' rfl,?_⟩;have H:=St.shut (L':=[]) H;have hI2:Inv A.C n g (M.prd (M.K.pr.back f.mh f.mt f.mv f.pc zeroI false) ps M.pd).K:=hI.restore ho.mv f.pc zeroI false;exact H.callx 0 rfl (squash_any (H.nth 0 rfl) hR2 hI2 hn (f.seq - 1) f.pc) λ z w5 H=>⟨rfl,⟨z.1,z.2.1,z.2.2.1,z.2.2.2.pre rfl rfl⟩,rfl,H.post 0 rfl⟩
theorem Zb (r:Rt):∀ v ∈ r.vs.toList,v.oneCell'=true:=by
 intro v hv;simp only[Rt.vs,qp,qFB,or_false] at hv;rcases hv with rfl | rfl | rfl | rfl | rfl | rfl | rfl <;> rfl
theorem Fu (h:(ae A M).at_ W) (hR:M.Rep A) (hI:Inv A.C n g M.K) (hn:n+1≤1000000000000) (hy:(b,f) ∈ M.fl) (hp:U32 f.pc) (cause tval:Int) :
  Calls prog 61 #[pZ A.x 0,pZ b 0,.int .i64 cause,.int .u32 tval] W λ e w=>∃ z:Nx A M (M.K.trap A.C f cause tval),e=eY #[]/\Sep.Post (ae A M) W (ae A z.1) w:=by
 obtain⟨h1,h2⟩:=Re (cause:=cause) (tval:=tval) hI.rs hp;have a1:Inv A.C n g { M.K with rs:=(M.K.rs.trap f.pc cause tval).2.2 }:={ hI with rs:=h1 };have a2:=a1.tell (C:=A.C) 4 f ⟨f.pc,f.word,0,0,cause,tval,(M.K.rs.trap f.pc cause tval).1⟩;have a3:Inv A.C (n+1) g { (({ M.K with rs:=(M.K.rs.trap f.pc cause tval).2.2 }:Ko).tell A.C 4 f ⟨f.pc,f.word,0,0,cause,tval,(M.K.rs.trap f.pc cause tval).1⟩) with halted:= !(M.K.rs.trap f.pc cause tval).2.1 }:={ a2 with };have hev:=hI.ev;refine apc A.x 0 b 0 cause tval ((au h).dr λ w2 H=>⟨f.pc,(St.fl H hy).cell' rfl,f.word,(St.fl H hy).cell' rfl,?_⟩);rintro vs rfl;refine H.alb λ k w3 H _ b3=>⟨b3,H.sts0 16 (vs:=(⟨f.pc,f.word,0,0,cause,tval,0⟩:Rt).vs) rfl rfl rfl (Zb _) λ w4 H=>H.dr λ w5 H=>?_⟩;refine⟨_,H.ld 0 rfl rfl,f.pc,(St.fl H hy).cell' rfl,H.call 6 rfl (Vf (H.nth 6 rfl) f.pc cause tval) λ w6 H=>⟨_,_,rfl,H.st 16 rfl (by show 6<7;omega) λ w7 H=>⟨(⟨f.pc,f.word,0,0,cause,tval,(M.K.rs.trap f.pc cause tval).1⟩:Rt).vs,rfl,H.cells 16 rfl,?_⟩⟩⟩;have hR1:({ M with K:={ M.K with rs:=(M.K.rs.trap f.pc cause tval).2.2 } }:Km).Rep A:=⟨hR.win,hR.q,hR.qs,hR.pr,hR.fn,hR.fd,hR.fk,hR.fl,hR.bus,hR.gs,hR.bg,hR.oth⟩;have H:St W (ae A M).own w7 (({ M with K:={ M.K with rs:=(M.K.rs.trap f.pc cause tval).2.2 } }:Km).pieces A++[blk k (⟨f.pc,f.word,0,0,cause,tval,(M.K.rs.trap f.pc cause tval).1⟩:Rt).vs 55]):=H;have H:=H.shut;refine H.callx 0 rfl (tj (M:={ M with K:={ M.K with rs:=(M.K.rs.trap f.pc cause tval).2.2 } }) (H.nth 0 rfl) hR1 (by show M.K.evs.length≤_;omega) hy 4 ⟨f.pc,f.word,0,0,cause,tval,(M.K.rs.trap f.pc cause tval).1⟩) λ z w8 H=>⟨rfl,?_⟩;have H:=H.open_;refine H.st 0 rfl (by show 31<34;omega) λ w9 H=>?_;have hz:=z.2.2.1;have hR2:=z.2.1;have H:St W (ae A M).own w9 (({ z.1 with K:={ z.1.K with halted:= !(M.K.rs.trap f.pc cause tval).2.1 } }:Km).pieces A++[blk k (⟨f.pc,f.word,0,0,cause,tval,(M.K.rs.trap f.pc cause tval).1⟩:Rt).vs 55]):=H;have hR3:({ z.1 with K:={ z.1.K with halted:= !(M.K.rs.trap f.pc cause tval).2.1 } }:Km).Rep A:=⟨hR2.win,hR2.q,hR2.qs,hR2.pr,hR2.fn,hR2.fd,hR2.fk,hR2.fl,hR2.bus,hR2.gs,hR2.bg,hR2.oth⟩;have H:=H.shut
 have hI3:Inv A.C (n+1) g ({ z.1 with K:={ z.1.K with halted:= !(M.K.rs.trap f.pc cause tval).2.1 } }:Km).K:=by
  show Inv A.C (n+1) g { z.1.K with halted:= !(M.K.rs.trap f.pc cause tval).2.1 };rw[hz];exact a3
 refine H.callx 0 rfl (squash_any (H.nth 0 rfl) hR3 hI3 hn (-1) (M.K.rs.trap f.pc cause tval).1) λ y w10 H=>⟨rfl,?_⟩;have H:=H.open_;refine H.st 0 rfl (by show 27<34;omega) λ w11 H=>?_;have hR4:=y.2.1;refine⟨⟨{ y.1 with K:={ y.1.K with at_:=(M.K.rs.trap f.pc cause tval).1 } },⟨hR4.win,hR4.q,hR4.qs,hR4.pr,hR4.fn,hR4.fd,hR4.fk,hR4.fl,hR4.bus,hR4.gs,hR4.bg,hR4.oth⟩,?_,?_⟩,rfl,aq H⟩
 ·show { y.1.K with at_:=(M.K.rs.trap f.pc cause tval).1 }=_;rw[y.2.2.1];show({ (({ z.1.K with halted:= !(M.K.rs.trap f.pc cause tval).2.1 }:Ko).squash A.C (-1) (M.K.rs.trap f.pc cause tval).1) with at_:=(M.K.rs.trap f.pc cause tval).1 }:Ko)=_;rw[hz];rfl
 ·exact((Kept.of rfl rfl:Kept M { M with K:={ M.K with rs:=(M.K.rs.trap f.pc cause tval).2.2 } }).trans z.2.2.2).trans ((Kept.of rfl rfl:Kept z.1 { z.1 with K:={ z.1.K with halted:= !(M.K.rs.trap f.pc cause tval).2.1 } }).trans (y.2.2.2.trans (Kept.of rfl rfl)))
theorem aec {t:TI}{p:OA}{m c:Nat}{y:Value}{r:LV} (h:Sl w t 1 (.slice p (m+1) c) (m+1) (y::r)):Sl w t 1 (.slice (Sx.sub p c 1 1) m (c - 1)) m r:=by
 obtain⟨ao,cap,hv, -, -, -, -,hc⟩:=h.open1;cases hv;obtain⟨g,off,rfl, -, -⟩:=hc (by omega);have:=h.tail1
 have e:Sx.sub (some ⟨g,off,none⟩) c 1 1=some ⟨g,if c=1 then off else off+1,none⟩:=by
  unfold Sx.sub;by_cases h1:c=1
  ·rw[if_pos h1,if_pos (by omega)]
  ·rw[if_neg h1,if_neg (by omega),Option.map_some,ac,qT]
 rw[e];exact this
theorem Sq {v:win.WS}{wb:Nat}{e:Ending} (hn:v.n≠0/\(v.slot 0).st=2) (h:win.RetirePost W wb v e w):e=eY #[.int .i64 (v.slot 0).seq,.nilIface]/\Sep.Post (win.winA wb v) W (win.winA wb v.retired) w:=by
 unfold win.RetirePost at h;rw[if_pos hn] at h;exact h
abbrev Gn (A:Ka) (M:Km) (K':Ko) (b:Nat) (f:Fl):={ z:Nx A M K' // b ∉ z.1.fs/\∃ (i d:Bool) (t:Int),(b,{ f with issued:=i,done:=d,ready:=t }) ∈ z.1.fl }
theorem Ar {z:Km}{f0:Fl} (he:∃ (i d:Bool) (t:Int),f={ f0 with issued:=i,done:=d,ready:=t }) (H:St W (ae A M).own w (z.pieces A++[])) (hR:z.Rep A) {r:List Fl} {bs:LN} (hf:z.K.fls=f::r) (hd:f.done=true) (hb:z.fs=b::bs) (hk:Kept M z) {K':Ko} (hK:K'={ z.K with fls:=z.K.fls.tail }) :
  ∃ p:OA,w.cell? ⟨A.x,0,none⟩=some (.pointer p)/\Calls prog 140 #[.pointer p] w λ e3 W4=>∃ (s:Int) (v:Value),e3=eY #[.int .i64 s,v]/\∃ (p2:OA) (k k2:Nat),W4.cell? ⟨A.x,0+28,none⟩=some (.slice p2 k k2)/\((0:Int)≤1/\(1:Int)≤(k:Int))/\(∃ u,W4.cell? ⟨A.x,0+28,none⟩=some u)/\W4.frozen? ⟨A.x,0+28,none⟩=false/\∀ W5:wD,W5=W4.setCell ⟨A.x,0+28,none⟩ (.slice (Sx.sub p2 k2 1 1) (k - 1) (k2 - 1)) ->
   ∃ z':Gn A M K' b f0,eY #[]=eY #[]/\Sep.Post (ae A M) W (ae A z'.1.1) W5:=by
 have hfl:=hf;obtain⟨i0,d0,t0,he⟩:=he;have hfm:(b,f) ∈ z.fl:=hR.fl 0 b f (by rw[hb];rfl) (by rw[hf];rfl);rw[he] at hfm
 have hbn:b ∉ bs:=by
  have:=hR.fd;rw[hb] at this;exact(qcB.1 this).1
 have hn:z.w.n≠0/\(z.w.slot 0).st=2:=by
  refine⟨by rw[hR.win.n,hf];simp,?_⟩;rw[hR.win.sl 0 f (by rw[hf];rfl)];show f.st=2;unfold Fl.st;rw[if_pos hd]
 refine⟨_,H.ld 0 rfl rfl,H.call 2 rfl ((win.retire_any hR.win.ok (H.nth 2 rfl)).mono λ e w hp=>Sq hn hp) λ w4 H=>⟨_,_,rfl,_,_,_,H.ld 0 rfl rfl,⟨by omega,by show(1:Int)≤((z.fs.length:Nat):Int);rw[hb,qy];omega⟩,H.st 0 rfl (by show 28<34;omega) λ w5 H=>?_⟩⟩
 have hl1:z.fs.length - 1=bs.length:=by rw[hb];rfl
 have H:=H.conv 11 (A':=sl 154 1 (.slice (Sx.sub z.fp z.fc 1 1) bs.length (z.fc - 1)) bs.length (Dj bs)) rfl (λ hs=>by
  rw[hb] at hs
  exact aec hs) (λ q hq=>rm.own_tail hq)
 rw[hl1] at H;refine⟨⟨⟨{ z with K:={ z.K with fls:=z.K.fls.tail },w:=z.w.retired,fs:=bs,fp:=Sx.sub z.fp z.fc 1 1,fc:=z.fc - 1 },⟨?_,hR.q,hR.qs,hR.pr,hR.fn,?_,?_,?_,hR.bus,hR.gs,hR.bg,hR.oth⟩,hK.symm,hk.trans ⟨λ c hc=>by rw[hb];exact qXB _ hc,λ c f2 hc=>⟨f2,hc,rfl⟩,λ c f2 _ hc=>hc⟩⟩,hbn,i0,d0,t0,hfm⟩,rfl,aq H⟩
 ·have:=hR.win;unfold Za at this;rw[hf] at this;rw[hf];exact this.retired
 ·have:=hR.fd;rw[hb] at this;exact(qcB.1 this).2
 ·have:=hR.fk;rw[hb,hf] at this;rw[hf];exact Nat.succ.inj this
 ·intro j c f2 hc hj;refine hR.fl (j+1) c f2 (by rw[hb];exact hc) ?_;rw[hf] at hj ⊢;exact hj
theorem Inv.hasR (hI:Inv A.C n [] M.K) (hf:M.K.fls[0]?=some f):M.K.has f.a=true/\M.K.has f.b=true:=by
 cases hl:M.K.fls with
 | nil=>rw[hl] at hf;cases hf
 | cons f0 r =>
  rw[hl] at hf;cases hf;exact hI.able hl
theorem Kept.at {z:Km} (hk:Kept M z) (hR:M.Rep A) (hz:z.Rep A) (hI:Inv A.C n g M.K){i:Nat} (hf:z.K.fls[i]?=some f') (hj:M.K.fls[j]?=some f) (he:f'.seq=f.seq) (hb:M.fs[j]?=some b):z.fs[i]?=some b:=by
 obtain⟨c,hc,hcy⟩:=hz.at hf;obtain⟨k,hk2⟩:=qK.1 (hk.fs c (qN hc));have hkl:=(qD.1 hk2).1;have hfk:=qC (show k<M.K.fls.length by rw[<- hR.fk];exact hkl);obtain⟨f2,h2,e2⟩:=hk.fl c _ (hR.fl k c _ hk2 hfk);have e3:=Sk hz.fn h2 hcy;subst e3;obtain rfl:=yb hI.sqk hfk hj (e2.symm.trans he);rw[hk2] at hb;cases hb;exact hc
theorem Kq (h:(ae A M).at_ W) (hR:M.Rep A) (hI:Inv A.C n [] M.K) (hn:n+2≤1000000000000){r:List Fl} (hf:M.K.fls=f::r) (hb:M.fs[0]?=some b) (hd:f.done=true∨f.issued=false) (hm:f.issued=false->∀ e ∈ M.K.q,MR e f->MR e (f.beg (M.K.cycle+0))) :
  Calls prog 93 #[pZ A.x 0,pZ b 0] W λ e w=>∃ z:Gn A M (M.K.gone A.C) b f,e=eY #[]/\Sep.Post (ae A M) W (ae A z.1.1) w:=by
 have hf0:M.K.fls[0]?=some f:=by rw[hf];rfl
 have hy:=hR.fl 0 b f hb hf0;have H:=au h;have h0:M.K.fl 0=f:=bi hf0
 have bs_of:∀ {z:Km},z.fs[0]?=some b->∃ bs,z.fs=b::bs:=by
  intro z hb
  cases hl:z.fs with
  | nil=>rw[hl] at hb;cases hb
  | cons b0 bs=>rw[hl] at hb;cases hb;exact⟨bs,rfl⟩
 refine apb A.x 0 b 0 ⟨f.done,(St.fl H hy).cell' rfl,aa (λ q=>?_) (λ q=>?_)⟩
 ·have hdn:f.done=false:=by simpa using q
  have hni:f.issued=false:=hd.resolve_left (by rw[hdn];decide);refine⟨f.issued,(St.fl H hy).cell' rfl,aa (λ _=>?_) (λ q2=>by rw[hni] at q2;cases q2)⟩;have H:=St.shut (L':=[]) H;refine H.callx 0 rfl (ne (H.nth 0 rfl) hR hI (by omega) hf0 hb ⟨hni,hdn⟩ (Inv.hasR hI hf0) (cy:=0) (by omega)) λ z1 w2 H=>⟨rfl,?_⟩;have hI1:=hI.beg (C:=A.C) hf0 0 (hm hni)
  have e1:(M.K.begin A.C 0 0).fls=(f.beg (M.K.cycle+0))::r:=by
   show M.K.fls.set 0 _=_;rw[h0,hf];rfl
  have hz1:=z1.2.2.1
  have ef1:z1.1.K.fls[0]?=some (f.beg (M.K.cycle+0)):=by rw[hz1,e1];rfl
  have hb1:=z1.2.2.2.at hR z1.2.1 hI ef1 hf0 rfl hb
  have hI1':Inv A.C (n+1) [] z1.1.K:=by rw[hz1];exact hI1
  refine H.callx 0 rfl (Aq (H.nth 0 rfl) z1.2.1 hI1' (by omega) ef1 hb1 ⟨rfl,hdn⟩) λ z2 w3 H=>⟨rfl,?_⟩;have hz2:=z2.2.2.1
  have e2:z2.1.K.fls=(f.beg (M.K.cycle+0)).fin::r:=by
   rw[hz2]
   have:(z1.1.K.finish A.C 0).fls=z1.1.K.fls.set 0 (z1.1.K.fl 0).fin:=by
    unfold Ko.finish Ko.rouse Ko.put Ko.wake Ko.tell Ko.setf;split <;> split <;> rfl
   rw[this,bi ef1,hz1,e1];rfl
  have hb2:=z2.2.2.2.at z1.2.1 z2.2.1 hI1' (i:=0) (f':=(f.beg (M.K.cycle+0)).fin) (by rw[e2];rfl) ef1 rfl hb1;obtain⟨bs,hbs⟩:=bs_of hb2
  have he0:M.K.gone A.C={ z2.1.K with fls:=z2.1.K.fls.tail }:=by
   unfold Ko.gone Ko.end0;rw[h0,if_neg (by rw[hdn];decide),if_neg (by rw[hni];decide),hz2,hz1]
  exact Ar (f0:=f) ⟨_,_,_,rfl⟩ H.open_ z2.2.1 e2 rfl hbs (z1.2.2.2.trans z2.2.2.2) he0
 ·have hdn:f.done=true:=by simpa using q
  obtain⟨bs,hbs⟩:=bs_of hb
  have he0:M.K.gone A.C={ M.K with fls:=M.K.fls.tail }:=by
   unfold Ko.gone Ko.end0;rw[h0,if_pos hdn]
  exact Ar (f0:=f) ⟨_,_,_,rfl⟩ H hR hf hdn hbs (Kept.refl M) he0
theorem Xe {l:Int} (h:0≤M.K.spoilAt l):∃ e ∈ M.K.q,M.K.spoilAt l=e.seq/\lsq.spoilP l.toNat e=true:=by
 unfold Ko.spoilAt at h ⊢
 cases hq:M.K.q.find? (lsq.spoilP l.toNat) with
 | none=>rw[hq] at h;exact absurd h (show ¬ (0:Int)≤ -1 by decide)
 | some e=>exact⟨e,qkB hq,rfl,List.find?_some hq⟩
theorem Xf (hI:Inv A.C n [] M.K){l:Int} (h:0≤M.K.spoilAt l):∃ (i:Nat) (f:Fl),M.K.fls[i]?=some f/\f.seq=M.K.spoilAt l:=by
 obtain⟨e,he,h1,h2⟩:=Xe h;have ho:=hI.qo.ok e he
 have hl:e.loaded=true:=by
  unfold lsq.spoilP at h2;simp only[qU] at h2;exact h2.1
 have hr:e.retired=false:=by
  cases hr:e.retired
  ·rfl
  ·have:=(ho.ret hr).1;rw[(ho.load hl).2] at this;cases this
 obtain⟨f,hf, -,hm⟩:=hI.qo.ef e he hr;obtain⟨i,hi⟩:=qK.1 hf;exact⟨i,f,hi,by rw[h1,hm.seq]⟩
def Gc (K:Ko) (o l:Int):Int:=if 0≤K.spoilAt l/\(o<0∨K.spoilAt l<o) then K.spoilAt l else o
theorem Kt (K:Ko) (ls:LI):K.eldest ls=ls.foldl (Gc K) (-1):=rfl
theorem spoil_any (h:(ae A M).at_ W) (hR:M.Rep A) (hI:Inv A.C n [] M.K) (hn:n≤1000000000000){p:OA}{c:Nat}{ls:LI} (hs:Sl W 47 1 (.slice p ls.length c) ls.length (u32s ls)) (hu:∀ l ∈ ls,U32 l) (hlen:ls.length≤1000) :
  Calls prog 37 #[pZ A.x 0,.slice p ls.length c] W λ e w=>∃ z:Nx A M (M.K.spoil A.C ls),e=eY #[]/\Sep.Post (ae A M) W (ae A z.1) w:=by
 have hq32:(lsq.ens M.q).length≤32:=by rw[hR.q];have:=hI.qo.len;have:=hI.cf.q;unfold Kc.Q at *;omega
 have hqo:∀ e ∈ lsq.ens M.q,e.Ok:=by rw[hR.q];exact hI.qo.ok
 refine apf A.x 0 p ls.length c ⟨λ i o B=>∃ m:Nat,i=m/\m≤ls.length/\o=(ls.take m).foldl (Gc M.K) (-1)/\ba W B,λ i _ _=>ls.length - i.toNat,⟨0,rfl,qQ _,rfl,qH _ _⟩,λ _=>?_⟩;rintro i o w2 ⟨m,rfl,hm,rfl,hh⟩;have hA2:(ae A M).at_ w2:=(ae A M).keep h hh (λ _ _ e=>e);refine aa (λ q=>?_) (λ q=>?_)
 ·have q:=qB q
  have hml:m<ls.length:=by omega
  have hs2:=hs.keep hh (λ _ _ e=>e);obtain⟨ao,cap,hv, -, -, -, -,hc⟩:=hs2.open1;cases hv;obtain⟨g0,off,rfl, -,hcc⟩:=hc (by omega)
  have hcell:w2.cell? ⟨g0,off+m,none⟩=some (.int .u32 ls[m]):=by
   rw[(hcc m hml).1];unfold u32s;rw[qS,qC hml];rfl
  have hul:=hu ls[m] (qjB hml);obtain⟨l,hl⟩:∃ l:Nat,ls[m]=l:=⟨ls[m].toNat,by have:=hul.1;omega⟩
  have hl2:l<4294967296:=by have:=hul.2;omega
  have H:=au hA2
  have htk:(ls.take (m+1)).foldl (Gc M.K) (-1)=Gc M.K ((ls.take m).foldl (Gc M.K) (-1)) ls[m]:=by
   rw[qdB hml,qwB];rfl
  have hat:ald ((lsq.ens M.q).find? (lsq.spoilP l))=M.K.spoilAt ls[m]:=by
   unfold Ko.spoilAt;rw[hR.q,hl,qG];cases M.K.q.find? (lsq.spoilP l) <;> rfl
  have hsp:=ado (H.nth 4 rfl) hqo hq32 l hl2;rw[hat] at hsp;rw[hl] at hcell;refine⟨⟨by omega,q⟩,adr_some ⟨_,by rw[ix1];exact hcell,_,H.ld 0 rfl rfl,hsp.mono ?_⟩⟩;rintro e w3 ⟨rfl,hh3⟩;have hh4:ba W w3:=hh.trans hh3 (λ _ _ e=>e)
  have nxt:∀ z3:Int,z3=IntKind.wrap .i64 ((m:Int)+1)->∀ o2:Int,o2=Gc M.K ((ls.take m).foldl (Gc M.K) (-1)) ls[m]->(∃ m':Nat,z3=m'/\m'≤ls.length/\o2=(ls.take m').foldl (Gc M.K) (-1)/\ba W w3)/\ls.length - z3.toNat<ls.length - (m:Int).toNat:=by
   rintro z3 rfl o2 rfl;rw[w64 (by omega) (by omega)];exact⟨⟨m+1,by omega,by omega,htk.symm,hh4⟩,by show ls.length - ((m:Int)+1).toNat<ls.length - (m:Int).toNat;omega⟩
  refine⟨_,rfl,aa (λ q1=>?_) (λ q1=>?_)⟩
  ·have q1:0≤M.K.spoilAt ls[m]:=qB q1;refine aa (λ q2=>?_) (λ q2=>aa (λ q3=>?_) (λ q3=>?_))
   ·have q2:=qB q2;exact λ z3 hz=>nxt z3 hz _ (by unfold Gc;rw[if_pos ⟨q1,.inl q2⟩])
   ·have q3:=qB q3;exact λ z3 hz=>nxt z3 hz _ (by unfold Gc;rw[if_pos ⟨q1,.inr q3⟩])
   ·have q2:=qE q2;have q3:=qE q3;exact λ z3 hz=>nxt z3 hz _ (by unfold Gc;rw[if_neg (λ e=>e.2.elim q2 q3)])
  ·have q1:¬ 0≤M.K.spoilAt ls[m]:=qE q1;exact λ z3 hz=>nxt z3 hz _ (by unfold Gc;rw[if_neg (λ e=>q1 e.1)])
 ·have q:=qE q;have hmd:ls.take m=ls:=qGB (by omega);rw[hmd,<- Kt]
  have hin:0≤M.K.eldest ls->∃ l,M.K.eldest ls=M.K.spoilAt l:=by
   have key:∀ (ls:LI) (o:Int),ls.foldl (Gc M.K) o=o∨∃ l,ls.foldl (Gc M.K) o=M.K.spoilAt l:=by
    intro ls
    induction ls with
    | nil=>exact λ o=>.inl rfl
    | cons l ls ih =>
     intro o;rw[qKB];rcases ih (Gc M.K o l) with e | e
     ·rw[e];unfold Gc;split
      ·exact .inr ⟨l,rfl⟩
      ·exact .inl rfl
     ·exact .inr e
   intro h0;rcases key ls (-1) with e | e
   ·rw[Kt,e] at h0;exact absurd h0 (show ¬ (0:Int)≤ -1 by decide)
   ·exact e
  have H0:=St.begin h;refine aa (λ q1=>?_) (λ q1=>?_)
  ·have q1:0≤M.K.eldest ls:=qB q1;obtain⟨l,hl⟩:=hin q1;obtain⟨i,f,hf,hfs⟩:=Xf hI (l:=l) (by rw[<- hl];exact q1);rw[<- hl] at hfs;obtain⟨b,hb,hy⟩:=hR.at hf;have hfind:=find_any hA2 hR (Inv.fs hI hR) (M.K.eldest ls);rw[<- hfs,Km.ptr_at hR hI hf hb] at hfind;rw[<- hfs];refine hfind.mono ?_;rintro e w3 ⟨rfl,rfl⟩;have H:=H0.quiet hh;refine⟨_,rfl,H.callx 0 rfl (Ft (H.nth 0 rfl) hR hI hn hf hb) λ z w4 H=>⟨rfl,z.cast ?_,rfl,H.post 0 rfl⟩⟩;unfold Ko.spoil;rw[if_pos q1,<- hfs,hI.at hf];show M.K.again A.C f=M.K.again A.C (M.K.fl i);rw[bi hf]
  ·have q1:¬ 0≤M.K.eldest ls:=qE q1;refine⟨⟨M,hR,?_,Kept.refl M⟩,rfl,Si h hh⟩;unfold Ko.spoil;rw[if_neg q1]
end Go.Proofs.YtmncepdbglaphaaGreatDoor.ko
namespace Go.Proofs.YtmncepdbglaphaaGreatDoor
open Go Go.Proofs Go.Proofs.Tryz Go.V
variable {W:wD}{Q:Ending->wD->Prop}
set_option maxHeartbeats 1000000
theorem aqd (y0:Nat) (Y0:Nat)
 (hVC:ldL W y0 (Y0+28) λ p k k2=>rL prog 56 #[.slice p k k2] W λ p2 k3 k4 W2=>∃ I:Int->wD->Prop,∃ I2:Int->wD->Nat,I 0 W2/\(wv (∀ x W3,I x W3->Sx.split (decide (x<(↑k3:Int))) (ixs x k3 p2 λ k5 k6=>ldP W3 k5 (k6+x.toNat * 1) λ p3=>∃ I3:wD->Prop,(Sx.ptr p3 λ a=>ud W3 (a.add 22) λ t=>Sx.split (!t) (dn W3 λ W4 k7=>nw .i64 (x+1) λ z=>I z W4/\I2 z W4<I2 x W3) (Sx.ptr p3 λ a2=>ud W3 (a2.add 23) λ t2=>Sx.split t2 (dn W3 λ W5 k8=>nw .i64 (x+1) λ z2=>I z2 W5/\I2 z2 W5<I2 x W3) (Sx.ptr p3 λ a3=>de .i64 W3 (a3.add 24) λ z3=>ldI .i64 W3 y0 (Y0+29) λ z4=>Sx.split (decide (z3 > z4)) (dn W3 λ W6 k9=>nw .i64 (x+1) λ z5=>I z5 W6/\I2 z5 W6<I2 x W3) (Sx.ptr p3 λ a4=>de .i64 W3 (a4.add 0) λ z6=>∃ p4:OA,(∀ k10:Nat,Calls prog 55 #[pZ y0 Y0,.int .i64 z6] (World.drewN W3 k10) λ e2 W7=>e2=eZ (.pointer p4)/\∃ k11:Nat,W7=World.drewN W3 k11)/\Sx.eqPtr true p4 p3 (dn W3 λ W8 k12=>Sx.split (Option.isSome p4) (nw .i64 (x+1) λ z7=>I z7 W8/\I2 z7 W8<I2 x W3) (I3 W8)) (dn W3 λ W9 k13=>I3 W9) (dn W3 λ W10 k14=>nw .i64 (x+1) λ z8=>I z8 W10/\I2 z8 W10<I2 x W3)))))/\(wv (∀ W11,I3 W11->rU prog 57 #[pZ y0 Y0,.pointer p3] W11 λ W12=>Sx.ptr p3 λ a5=>de .i64 W12 (a5.add 8) λ z9=>Sx.split (z9==2) (Sx.ptr p3 λ a6=>de .i64 W12 (a6.add 20) λ z10=>Sx.split (z10== -1) (Sx.ptr p3 λ a7=>de .u32 W12 (a7.add 18) λ z11=>Sx.ptr p3 λ a8=>de .u32 W12 (a8.add 12) λ z12=>dn W12 λ W13 k15=>Sx.split (z11 !=z12) (dw W13 λ W14=>Sx.ptr p3 λ a9=>Sx.ptr p3 λ a10=>Sx.ptr p3 λ a11=>Sx.ptr p3 λ a12=>ldP W14 y0 (Y0+3) λ p5=>aey W14 (a9.add 9) 3 λ vs=>de .u32 W14 (a10.add 1) λ z13=>aey W14 (a11.add 3) 5 λ vs2=>ud W14 (a12.add 19) λ t3=>rU prog 58 #[.pointer p5,.agg vs,.int .u32 z13,.agg vs2,.bool t3] W14 λ W15=>dw W15 λ W16=>Sx.ptr p3 λ a13=>Sx.ptr p3 λ a14=>de .i64 W16 (a13.add 0) λ z14=>de .u32 W16 (a14.add 18) λ z15=>rU prog 59 #[pZ y0 Y0,.int .i64 z14,.int .u32 z15] W16 λ W17=>nw .i64 (x+1) λ z16=>I z16 W17/\I2 z16 W17<I2 x W3) (nw .i64 (x+1) λ z17=>I z17 W13/\I2 z17 W13<I2 x W3)) (dn W12 λ W18 k16=>nw .i64 (x+1) λ z18=>I z18 W18/\I2 z18 W18<I2 x W3)) (Sx.ptr p3 λ a15=>de .i64 W12 (a15.add 8) λ z19=>Sx.split (z19==3) (Sx.ptr p3 λ a16=>de .i64 W12 (a16.add 20) λ z20=>Sx.split (z20== -1) (Sx.ptr p3 λ a17=>de .u32 W12 (a17.add 18) λ z21=>Sx.ptr p3 λ a18=>de .u32 W12 (a18.add 12) λ z22=>dn W12 λ W19 k17=>Sx.split (z21 !=z22) (dw W19 λ W20=>Sx.ptr p3 λ a19=>Sx.ptr p3 λ a20=>Sx.ptr p3 λ a21=>Sx.ptr p3 λ a22=>ldP W20 y0 (Y0+3) λ p6=>aey W20 (a19.add 9) 3 λ vs3=>de .u32 W20 (a20.add 1) λ z23=>aey W20 (a21.add 3) 5 λ vs4=>ud W20 (a22.add 19) λ t4=>rU prog 58 #[.pointer p6,.agg vs3,.int .u32 z23,.agg vs4,.bool t4] W20 λ W21=>dw W21 λ W22=>Sx.ptr p3 λ a23=>Sx.ptr p3 λ a24=>de .i64 W22 (a23.add 0) λ z24=>de .u32 W22 (a24.add 18) λ z25=>rU prog 59 #[pZ y0 Y0,.int .i64 z24,.int .u32 z25] W22 λ W23=>nw .i64 (x+1) λ z26=>I z26 W23/\I2 z26 W23<I2 x W3) (nw .i64 (x+1) λ z27=>I z27 W19/\I2 z27 W19<I2 x W3)) (dn W12 λ W24 k18=>nw .i64 (x+1) λ z28=>I z28 W24/\I2 z28 W24<I2 x W3)) (dn W12 λ W25 k19=>nw .i64 (x+1) λ z29=>I z29 W25/\I2 z29 W25<I2 x W3))))) (Q e0 W3)))) :
 Calls prog 38 #[pZ y0 Y0] W Q :=
 Sx.sd func38 (.r (.n (.node [(10,.int .i64)] [9,8,0] 0 (.r (.r (.n (.n (.r (.node [] [0,3,10,9,8] 1 .leaf (.r (.r (.q (.n (.h 1022) (.h 1010))))))) .leaf) .leaf))) .leaf) .leaf)) hVC
end Go.Proofs.YtmncepdbglaphaaGreatDoor
