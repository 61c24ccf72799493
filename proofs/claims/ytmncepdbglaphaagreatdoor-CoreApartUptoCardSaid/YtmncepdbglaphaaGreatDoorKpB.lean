/- A part of the walk. No condition. -/
import Derived.Test.YtmncepdbglaphaaGreatDoorKpN
set_option maxRecDepth 100000
namespace Go.Proofs.YtmncepdbglaphaaGreatDoor.rm
open Go.RowKit Go.XHeap Go.Sx Go.Sep Go.Proofs.Tryz
open ko (Nms NmOk rng)
def fg (ub:Nat) (fp:OA) (fc:Nat) (N:Nms):AV:=(bx N.names++[Value.slice (some ⟨ub,0,none⟩) N.uses.length N.uses.length,Value.slice fp N.free.length fc]).toArray
def nmP (b ub:Nat) (fp:OA) (fc:Nat) (N:Nms):List Asn:=[blk b (fg ub fp fc N) 124,blk ub (gn .u8 N.uses) 125,sl 3 1 (.slice fp N.free.length fc) N.free.length (bx N.free)]
def nmA (b ub:Nat) (fp:OA) (fc:Nat) (N:Nms):Asn:=all (nmP b ub fp fc N)
variable {W w:wD}{b ub R:Nat}{fp fp':OA}{fc fc':Nat}{N N':Nms}{olds:LI}{L:List Asn}
theorem xz (h:(nmA b ub fp fc N).at_ W):St W (nmA b ub fp fc N).own W (nmP b ub fp fc N++[]):=(St.begin h).open_
theorem Hj (H:St W (nmA b ub fp fc N).own w (nmP b ub fp' fc' N'++L)):Sep.Post (nmA b ub fp fc N) W (nmA b ub fp' fc' N') w:=(St.shut H).post 0 rfl
theorem Hk (h:N.names.length=32){k:Nat} (hk:k<32):(fg ub fp fc N)[k]?=some (.int .i64 (N.names.getD k 0)):=by
 unfold fg;rw[qTB,qk (by rw[bz,h];exact hk)];unfold bx;rw[qS,qC (by omega),qF,qC (by omega)];rfl
theorem jw (h:N.names.length=32):(fg ub fp fc N)[32]?=some (.slice (some ⟨ub,0,none⟩) N.uses.length N.uses.length):=by
 unfold fg;rw[qTB,qf (by rw[bz,h];exact qY _),bz,h];rfl
theorem pu (h:N.names.length=32):(fg ub fp fc N)[33]?=some (.slice fp N.free.length fc):=by
 unfold fg;rw[qTB,qf (by rw[bz,h];decide),bz,h];rfl
theorem ky (h:N.names.length=32):(fg ub fp fc N).size=34:=by
 unfold fg;rw[qnB,qP,bz,h];rfl
theorem Jl (h:N.names.length=32){k:Nat} (hk:k<32) (v:Int):(fg ub fp fc N).setIfInBounds k (.int .i64 v)=fg ub fp fc { N with names:=N.names.set k v }:=by
 apply qLB.1;unfold fg;rw[qsB,List.set_append_left _ _ (by rw[bz,h];exact hk)];unfold bx;rw[qtB]
theorem sm (h:N.names.length=32) (p:OA) (c:Nat) (l:LI):(fg ub fp fc N).setIfInBounds 33 (.slice p l.length c)=fg ub p c { N with free:=l }:=by
 apply qLB.1;unfold fg;rw[qsB,List.set_append_right _ _ (by rw[bz,h];decide),bz,h];rfl
theorem Hl (r:Int) (W:wD):Calls prog 75 #[.int .i64 r] W λ e w=>e=eZ (.bool (decide (0<r/\r<32)))/\w=W:=by
 refine amn r (aa (λ q=>?_) (λ q=>?_))
 ·have q:0<r:=qB q;refine⟨?_,rfl⟩;by_cases h:r<32
  ·rw[qI h,qI ⟨q,h⟩]
  ·rw[qM h,qM (λ e=>h e.2)]
 ·have q:¬ 0<r:=qE q;exact⟨by rw[qM (λ e=>q e.1)],rfl⟩
theorem look_any (h:(nmA b ub fp fc N).at_ W) (h32:N.names.length=32) (r:Int):Calls prog 44 #[pZ b 0,.int .i64 r] W λ e w=>e=eZ (.int .i64 (N.look r))/\w=W:=by
 have H:=xz h
 have cell:∀ (h0:0≤r) (h1:r<32),W.cell? ⟨b,0+r.toNat * 1,none⟩=some (.int .i64 (N.names.getD r.toNat 0)):=λ h0 h1=>by
  rw[qT,qW];exact H.ld 0 rfl (Hk h32 (by omega))
 refine amm b 0 r (aa (λ q=>?_) (λ q=>?_))
 ·have q:r≠0:=by simpa using q
  refine(Hl r W).mono ?_;rintro e w ⟨rfl,rfl⟩;refine⟨_,rfl,aa (λ q2=>?_) (λ q2=>?_)⟩
  ·have q2:¬ (0<r/\r<32):=λ e=>by rw[qI e] at q2;cases q2
   refine⟨?_,rfl⟩;unfold Nms.look;rw[if_pos ⟨q,q2⟩]
  ·have q2:0<r/\r<32:=Decidable.byContradiction λ e=>by rw[qM e] at q2;cases q2
   refine⟨⟨by omega,q2.2⟩,_,cell (by omega) q2.2,?_,rfl⟩;unfold Nms.look;rw[if_neg (λ e=>e.2 q2)]
 ·have q:r=0:=by simpa using q
  subst q;exact⟨⟨by decide,by decide⟩,_,cell (by decide) (by decide),rfl,rfl⟩
theorem free_any (h:(nmA b ub fp fc N).at_ W) (h32:N.names.length=32):Calls prog 117 #[pZ b 0] W λ e w=>e=eZ (.int .i64 N.free.length)/\w=W :=
 aid b 0 ⟨_,_,_,(xz h).ld 0 rfl (pu h32),rfl,rfl⟩
theorem We {p:OA}{m c:Nat}{y:Value}{r:LV} (h:Sl w 3 1 (.slice p (m+1) c) (m+1) (y::r)):Sl w 3 1 (.slice (Sx.sub p c 1 1) m (c - 1)) m r:=by
 obtain⟨ao,cap,hv, -, -, -, -,hc⟩:=h.open1;cases hv;obtain⟨g,off,rfl, -, -⟩:=hc (by omega);have:=h.tail1
 have e:Sx.sub (some ⟨g,off,none⟩) c 1 1=some ⟨g,if c=1 then off else off+1,none⟩:=by
  unfold Sx.sub;by_cases h1:c=1
  ·rw[if_pos h1,if_pos (by omega)]
  ·rw[if_neg h1,if_neg (by omega),Option.map_some,ac,qT]
 rw[e];exact this
theorem own_tail {p:OA}{n m c c' k q:Nat}:(Value.slice (Sx.sub p c k 1) m c').ownBlock=some q->(Value.slice p n c).ownBlock=some q:=by
 intro h
 cases p with
 | none=>unfold Sx.sub at h;split at h <;> simp [Value.ownBlock] at h
 | some a =>
  unfold Sx.sub at h;split at h
  ·simpa [Value.ownBlock] using h
  ·simp [Value.ownBlock,Addr.add] at h
   have e:(if k=0 then a else { block:=a.block,off:=a.off+k }).block=a.block:=by split <;> rfl
   rw[e] at h;simpa [Value.ownBlock] using h
theorem ya {v:Int}{k:Nat} (H:St W (nmA b ub fp fc N).own w (nmP b ub fp' fc' N'++L)) (hk:k<N'.uses.length){φ:wD->Prop} (hq:∀ w',St W (nmA b ub fp fc N).own w' (nmP b ub fp' fc' { N' with uses:=N'.uses.set k v }++L)->φ w') :
  (∃ u,w.cell? ⟨ub,k,none⟩=some u)/\w.frozen? ⟨ub,k,none⟩=false/\∀ w',w'=w.setCell ⟨ub,k,none⟩ (.int .u8 v)->φ w':=by
 refine H.st 1 rfl (by rw[iv];exact hk) λ w' H=>hq w' ?_;rw[ru] at H
 have e:fg ub fp' fc' { N' with uses:=N'.uses.set k v }=fg ub fp' fc' N':=by unfold fg;rw[qJ]
 unfold nmP;rw[e];exact H
theorem Jm {v:Int}{k:Nat} (H:St W (nmA b ub fp fc N).own w (nmP b ub fp' fc' N'++L)) (h32:N'.names.length=32) (hk:k<32){φ:wD->Prop} (hq:∀ w',St W (nmA b ub fp fc N).own w' (nmP b ub fp' fc' { N' with names:=N'.names.set k v }++L)->φ w') :
  (∃ u,w.cell? ⟨b,k,none⟩=some u)/\w.frozen? ⟨b,k,none⟩=false/\∀ w',w'=w.setCell ⟨b,k,none⟩ (.int .i64 v)->φ w':=by
 refine H.st 0 rfl (by rw[ky h32];omega) λ w' H=>hq w' ?_;rw[Jl h32 hk] at H;exact H
theorem Qt {p:OA}{m c:Nat}{l:LI}{x:Int}{r:LI} (h:Sl w 3 1 (.slice p m c) m (bx l)) (e:l=x::r):∃ g o,p=some ⟨g,o,none⟩/\w.cell? ⟨g,o+0,none⟩=some (.int .i64 x):=by
 obtain⟨ao,cap,hv,hl, -, -, -,hc⟩:=h.open1;cases hv;subst e
 have hm:m=r.length+1:=by rw[<- hl];unfold bx;simp
 obtain⟨g,off,e, -,hcc⟩:=hc (by omega);exact⟨g,off,e,(hcc 0 (by omega)).1⟩
theorem take_any (h:(nmA b ub fp fc N).at_ W) (hN:NmOk R N olds){r:Int} (hr:0<r/\r<32) (hf:N.free≠[]) :
  Calls prog 119 #[pZ b 0,.int .i64 r] W λ e w=>∃ z:OA×Nat,e=eY #[.int .i64 N.fresh,.int .i64 (N.look r),.nilIface]/\Sep.Post (nmA b ub fp fc N) W (nmA b ub z.1 z.2 (N.take r)) w:=by
 obtain⟨p,ps,hp⟩:∃ p ps,N.free=p::ps:=qOB hf
 have ep:N.fresh=p:=by unfold Nms.fresh;rw[hp];rfl
 have h32:=hN.n32;have hR:=hN.uR;have hpr:=(hN.uf p (by rw[hp];exact qg ..)).1;have hlr:=(hN.un r.toNat (by omega)).1;have el:N.look r=N.names.getD r.toNat 0:=ko.look_reg (by omega);unfold rng at hpr hlr;have H:=xz h
 have hlen:N.free.length=ps.length+1:=by rw[hp];rfl
 refine aic b 0 r ((Hl r W).mono ?_);rintro e w ⟨rfl,rfl⟩;refine⟨_,rfl,aa (λ q=>by rw[qI hr] at q;cases q) (λ _=>⟨_,_,_,H.ld 0 rfl (pu h32),aa (λ q=>?_) (λ _=>?_)⟩)⟩
 ·have:(N.free.length:Int)=0:=by simpa using q
  omega
 obtain⟨g,o,hfp,hc⟩:=Qt (H.nth 2 rfl) hp;refine⟨_,_,_,H.ld 0 rfl (pu h32),⟨by decide,by omega⟩,?_⟩;rw[hfp];refine adr_some ⟨p,hc,⟨by omega,hr.2⟩,_,by rw[qT,qW];exact H.ld 0 rfl (Hk h32 (by omega)),H.drN λ w2 H=>⟨_,_,_,H.ld 0 rfl (pu h32),⟨by decide,by omega⟩,?_⟩⟩;rw[<- hfp];refine H.st 0 rfl (by rw[ky h32];decide) λ w3 H=>⟨⟨by omega,hr.2⟩,?_⟩
 have hl1:N.free.length - 1=ps.length:=by omega
 rw[hl1,sm h32] at H
 have H:=H.conv 2 (A':=sl 3 1 (.slice (Sx.sub fp fc 1 1) ps.length (fc - 1)) ps.length (bx ps)) rfl (λ hs=>by
  rw[hlen,hp] at hs
  exact We hs) (λ q hq=>own_tail hq)
 rw[qT,qW];refine Jm H h32 (by omega) λ w4 H=>H.dr λ w5 H=>?_
 have h32':({ N with free:=ps,names:=N.names.set r.toNat p }:Nms).names.length=32:=by show(N.names.set _ _).length=32;rw[qJ];exact h32
 refine⟨_,_,_,H.ld 0 rfl (jw h32'),_,_,_,H.ld 0 rfl (jw h32'),⟨by omega,by show p<((N.uses.length:Nat):Int);omega⟩,adr_some ?_⟩;rw[qT,qW];refine ya H (by show p.toNat<N.uses.length;omega) λ w6 H=>⟨⟨by omega,by show N.names.getD r.toNat 0<((N.uses.length:Nat):Int);omega⟩,adr_some ?_⟩;rw[qT,qW];refine ya H (by show(N.names.getD r.toNat 0).toNat<(N.uses.set _ _).length;rw[qJ];omega) λ w7 H=>⟨(Sx.sub fp fc 1 1,fc - 1),by rw[ep,el],?_⟩
 have e:N.take r={ N with free:=ps,names:=N.names.set r.toNat p,uses:=(N.uses.set p.toNat 1).set (N.names.getD r.toNat 0).toNat 2 }:=by
  unfold Nms.take;rw[ep,el,hp];rfl
 rw[e];exact Hj (L:=[]) H
theorem undo_any (h:(nmA b ub fp fc N).at_ W){old fresh:Int} (hN:NmOk R N (olds++[old])){r:Int} (hr:0<r/\r<32) (hn:N.names.getD r.toNat 0=fresh) (h0:old≠0) :
  Calls prog 90 #[pZ b 0,.int .i64 r,.int .i64 fresh,.int .i64 old] W λ e w=>∃ z:OA×Nat,e=eZ .nilIface/\Sep.Post (nmA b ub fp fc N) W (nmA b ub z.1 z.2 (N.undo r fresh old)) w:=by
 have h32:=hN.n32;have hR:=hN.uR;obtain⟨ho,hu⟩:=hN.uo old (by simp);have hfr:=(hN.un r.toNat (by omega)).1;rw[hn] at hfr;have hlen:=hN.len;have hr1:=hN.r1;unfold rng at ho hfr;have H:=xz h;refine amo b 0 r fresh old ((Hl r W).mono ?_);rintro e w ⟨rfl,rfl⟩;refine⟨_,rfl,aa (λ q=>by rw[qI hr] at q;cases q) (λ _=>aa (λ q=>absurd (qB q) (by omega)) (λ _=>⟨_,_,_,H.ld 0 rfl (jw h32),aa (λ q=>absurd (qB q) (by omega)) (λ _=>⟨⟨by omega,hr.2⟩,_,by rw[qT,qW];exact H.ld 0 rfl (Hk h32 (by omega)),?_⟩)⟩))⟩;rw[hn];refine aa (λ q=>by simp at q) (λ _=>⟨_,_,_,H.ld 0 rfl (jw h32),⟨by omega,by omega⟩,adr_some ⟨N.uses.getD old.toNat 0,?_,?_⟩⟩)
 ·rw[qT,qW];exact H.ld 1 rfl (mi (by rw[qF,qC (by omega)];rfl))
 rw[hu];refine aa (λ q=>by simp at q) (λ _=>⟨⟨by omega,hr.2⟩,?_⟩);rw[qT,qW];refine Jm H h32 (by omega) λ w4 H=>H.dr λ w5 H=>?_
 have h32':({ N with names:=N.names.set r.toNat old }:Nms).names.length=32:=by show(N.names.set _ _).length=32;rw[qJ];exact h32
 refine⟨_,_,_,H.ld 0 rfl (jw h32'),_,_,_,H.ld 0 rfl (jw h32'),⟨by omega,by show fresh<((N.uses.length:Nat):Int);omega⟩,adr_some ?_⟩;rw[qT,qW];refine ya H (by show fresh.toNat<N.uses.length;omega) λ w6 H=>⟨⟨by omega,by show old<((N.uses.length:Nat):Int);omega⟩,adr_some ?_⟩;rw[qT,qW];refine ya H (by show old.toNat<(N.uses.set _ _).length;rw[qJ];omega) λ w7 H=>⟨_,_,_,H.ld 0 rfl (pu h32'),H.al λ k w8 H=>?_⟩;have hs:Sl w8 3 1 (.slice fp N.free.length fc) N.free.length (bx N.free):=H.nth 2 rfl;have hg:(Value.slice fp N.free.length fc).ownBlock≠some k:=λ e=>St.disj H.here 2 3 (by decide) rfl rfl k e rfl;refine(Gt fresh hs k (H.blk 3 rfl) hg (by omega)).mono ?_;rintro e w9 ⟨v',rfl,hsl,ht,hown⟩
 obtain⟨p',c',rfl⟩:∃ p' c',v'= .slice p' (N.free.length+1) c':=by
  obtain⟨ao,cap,hv, -⟩:=hsl.open1;exact⟨_,_,hv⟩
 refine⟨_,_,_,rfl,?_⟩;have H:=H.upd 2 (A':=sl 3 1 (.slice p' (N.free.length+1) c') (N.free.length+1) (bx (fresh::N.free))) rfl ⟨hsl,ht,hown⟩;refine H.st 0 rfl (Nat.lt_of_lt_of_eq (by decide:0+33<34) (ky (by exact h32')).symm) λ w10 H=>⟨(p',c'),rfl,?_⟩;rw[show N.free.length+1=(fresh::N.free).length from rfl,sm (by exact h32')] at H;exact Hj (N':=N.undo r fresh old) (L:=[blk k #[.int .i64 fresh] 3]) H
theorem release_any (h:(nmA b ub fp fc N).at_ W){p:Int} (hN:NmOk R N (p::olds)) (h0:p≠0) :
  Calls prog 95 #[pZ b 0,.int .i64 p] W λ e w=>∃ z:OA×Nat,e=eZ .nilIface/\Sep.Post (nmA b ub fp fc N) W (nmA b ub z.1 z.2 (N.release p)) w:=by
 have h32:=hN.n32;have hR:=hN.uR;obtain⟨ho,hu⟩:=hN.uo p (by simp);have hlen:=hN.len;have hr1:=hN.r1;unfold rng at ho;have H:=xz h;refine amp b 0 p (aa (λ q=>absurd (qB q) (by omega)) (λ _=>⟨_,_,_,H.ld 0 rfl (jw h32),aa (λ q=>absurd (qB q) (by omega)) (λ _=>⟨_,_,_,H.ld 0 rfl (jw h32),⟨by omega,by omega⟩,adr_some ⟨N.uses.getD p.toNat 0,?_,?_⟩⟩)⟩))
 ·rw[qT,qW];exact H.ld 1 rfl (mi (by rw[qF,qC (by omega)];rfl))
 rw[hu];refine aa (λ q=>by simp at q) (λ _=>⟨_,_,_,H.ld 0 rfl (jw h32),⟨by omega,by omega⟩,adr_some ?_⟩);rw[qT,qW];refine ya H (by omega) λ w2 H=>⟨_,_,_,H.ld 0 rfl (pu h32),H.al λ k w3 H=>?_⟩;refine H.app 2 rfl [.int .i64 p] (.inr ⟨_,rfl,λ j u hj=>H.cells 3 rfl j u (by simpa using hj)⟩) rfl (by intro u hu;simp at hu;subst hu;rfl) (by have:maxLen=2 ^ 63 - 1:=rfl;show N.free.length+1≤maxLen;omega) (by show(N.free.length+1) * 8≤_;omega) λ p' c' w4 H=>?_;refine H.st 0 rfl (Nat.lt_of_lt_of_eq (by decide:0+33<34) (ky (by exact h32)).symm) λ w5 H=>⟨(p',c'),rfl,?_⟩
 have el:N.free.length+1=(N.free++[p]).length:=by rw[qP];rfl
 have ei:bx N.free++[.int .i64 p]=bx (N.free++[p]):=by unfold bx;rw[qV];rfl
 rw[el,ei,sm (N:={ N with uses:=N.uses.set p.toNat 0 }) h32] at H;exact Hj (N':=N.release p) (L:=[blk k #[.int .i64 p] 3]) H
variable {W w:wD}
def Nm0 (R m:Nat):Nms:=⟨(List.range 32).map λ i=>if i<m then (i:Int) else 0,(List.range R).map λ i=>if i<m/\i<32 then (1:Int) else 0,(List.range' 32 (m - 32)).map Int.ofNat⟩
theorem map_set_range {α:Type} (f g:Nat->α) (n m:Nat) (v:α) (hm:m<n) (hv:g m=v) (ho:∀ i,i≠m->g i=f i):((List.range n).map f).set m v=(List.range n).map g:=by
 apply qEB;intro i;rw[qn,qd,List.length_range,qS,qS];by_cases h:m=i
 ·grind
 ·grind
theorem rnew_any (W:wD) (R:Nat) (hR:34≤R/\R≤128):Calls prog 23 #[.int .i64 R] W λ e w=>∃ z:(Nat×Nat)×(OA×Nat),e=eY #[pZ z.1.1 0,.nilIface]/\Sep.Post emp W (nmA z.1.1 z.1.2 z.2.1 z.2.2 (Nm0 R R)) w:=by
 refine aml R (aa (λ q=>absurd (qB q) (by omega)) (λ _=>aa (λ q=>absurd (qB q) (by omega)) (λ _=>?_)));refine⟨⟨by omega,by omega,by omega,by omega⟩,(St.nil W).al λ ub w2 H=>?_⟩;rintro vs rfl;refine H.al λ kb w3 H=>?_;rw[qG,qT,iw] at H
 have e0:fg ub none 0 (Nm0 R 0)=#[.int .i64 0,.int .i64 0,.int .i64 0,.int .i64 0,.int .i64 0,.int .i64 0,.int .i64 0,.int .i64 0,.int .i64 0,.int .i64 0,.int .i64 0,.int .i64 0,.int .i64 0,.int .i64 0,.int .i64 0,.int .i64 0,.int .i64 0,.int .i64 0,.int .i64 0,.int .i64 0,.int .i64 0,.int .i64 0,.int .i64 0,.int .i64 0,.int .i64 0,.int .i64 0,.int .i64 0,.int .i64 0,.int .i64 0,.int .i64 0,.int .i64 0,.int .i64 0,.slice (some ⟨ub,0,none⟩) R R,.slice none 0 0]:=by
  unfold fg Nm0 bx;rw[qd,List.length_range];rfl
 have e1:List.replicate R (0:Int)=(Nm0 R 0).uses:=by
  unfold Nm0;apply List.ext_getElem (by simp);intro i h1 h2;simp
 have H:St W (λ _=>False) w3 [blk ub (gn .u8 (Nm0 R 0).uses) 125,blk kb (fg ub none 0 (Nm0 R 0)) 124]:=by rw[e0,<- e1];exact H
 have H:St W (λ _=>False) w3 (nmP kb ub none 0 (Nm0 R 0)):=(H.pick [1,0]).add (A:=sl 3 1 (.slice none 0 0) 0 []) ⟨Sl.nil _ _ _,qH _ _,λ q e=>by cases e⟩
 have h32:∀ m,(Nm0 R m).names.length=32:=λ m=>by unfold Nm0;simp
 have hus:∀ m,(Nm0 R m).uses.length=R:=λ m=>by unfold Nm0;simp
 refine⟨λ x A=>∃ (m:Nat) (p:OA) (c:Nat),x=m/\m≤R/\St W (λ _=>False) A (nmP kb ub p c (Nm0 R m)),λ x _=>R - x.toNat,⟨0,none,0,rfl,by omega,H⟩,λ _=>?_⟩;clear H;rintro x w4 ⟨m,p,c,rfl,hm,H⟩;refine aa (λ q3=>aa (λ q4=>?_) (λ q4=>?_)) (λ q3=>?_)
 ·have q3:m<R:=by have:=qB q3;omega
  have q4:m<32:=by have:=qB q4;omega
  refine H.dr λ w5 H=>⟨_,_,_,H.ld 0 rfl (jw (h32 m)),⟨by omega,by omega⟩,?_⟩;rw[ix1,qW];refine H.st 0 rfl (by rw[ky (h32 m)];omega) λ w6 H=>⟨⟨by omega,by rw[hus];omega⟩,adr_some ?_⟩;rw[Jl (h32 m) q4] at H;rw[ix1,qW];refine H.st 1 rfl (by rw[iv,hus];omega) λ w7 H=>?_;rw[ru] at H;rintro z rfl;rw[w64 (by omega) (by omega)]
  have e2:(Nm0 R (m+1))={ { Nm0 R m with names:=(Nm0 R m).names.set m (m:Int) } with uses:=(Nm0 R m).uses.set m 1 }:=by
   unfold Nm0;congr 1
   ·exact(map_set_range (λ i=>if i<m then (i:Int) else 0) (λ i=>if i<m+1 then (i:Int) else 0) 32 m (m:Int) q4 (if_pos (Nat.lt_succ_self m)) (λ i hi=>by
     by_cases h:i<m
     ·rw[if_pos h,if_pos (by omega)]
     ·rw[if_neg h,if_neg (by omega)])).symm
   ·exact(map_set_range (λ i=>if i<m/\i<32 then (1:Int) else 0) (λ i=>if i<m+1/\i<32 then (1:Int) else 0) R m 1 q3 (if_pos ⟨Nat.lt_succ_self m,q4⟩) (λ i hi=>by
     by_cases h:i<m/\i<32
     ·rw[if_pos h,if_pos ⟨by omega,h.2⟩]
     ·rw[if_neg h,if_neg (λ e=>h ⟨by omega,e.2⟩)])).symm
   ·rw[show m+1 - 32=0 by omega,show m - 32=0 by omega]
  refine⟨⟨m+1,p,c,by omega,by omega,?_⟩,by show R - ((m:Int)+1).toNat<R - (m:Int).toNat;omega⟩;rw[e2];have el:({ { Nm0 R m with names:=(Nm0 R m).names.set m (m:Int) } with uses:=(Nm0 R m).uses.set m 1 }:Nms).uses.length=(Nm0 R m).uses.length:=qJ ..;unfold nmP fg at H ⊢;rw[el];exact H
 ·have q3:m<R:=by have:=qB q3;omega
  have q4:32≤m:=by have:=qE q4;omega
  have hfl:(Nm0 R m).free.length=m - 32:=by unfold Nm0;simp
  refine⟨_,_,_,H.ld 0 rfl (pu (h32 m)),H.al λ k9 w8 H=>?_⟩;refine H.app 2 rfl [.int .i64 m] (.inr ⟨_,rfl,λ j u hj=>H.cells 3 rfl j u (by simpa using hj)⟩) rfl (by intro u hu;simp at hu;subst hu;rfl) (by have:maxLen=2 ^ 63 - 1:=rfl;omega) (by omega) λ p' c' w9 H=>?_;refine H.st 0 rfl (by rw[ky (h32 m)];omega) λ w10 H=>?_
  have e3:(Nm0 R m).free.length+1=((Nm0 R m).free++[(m:Int)]).length:=by rw[qP];rfl
  have e4:bx (Nm0 R m).free++[.int .i64 m]=bx ((Nm0 R m).free++[(m:Int)]):=by unfold bx;rw[qV];rfl
  rw[e3,sm (h32 m),e4] at H
  have e2:Nm0 R (m+1)={ Nm0 R m with free:=(Nm0 R m).free++[(m:Int)] }:=by
   unfold Nm0;congr 1
   ·show List.map _ _=List.map _ _;apply qlB;intro i hi;have:=qNB.1 hi;rw[if_pos (by omega),if_pos (by omega)]
   ·show List.map _ _=List.map _ _;apply qlB;intro i hi;by_cases h:i<32
    ·rw[if_pos ⟨by omega,h⟩,if_pos ⟨by omega,h⟩]
    ·rw[if_neg (λ e=>h e.2),if_neg (λ e=>h e.2)]
   ·rw[show m+1 - 32=(m - 32)+1 by omega,List.range'_concat,qV];congr 1;show[Int.ofNat (32+1 * (m - 32))]=_;rw[show 32+1 * (m - 32)=m by omega];rfl
  rintro z rfl;rw[w64 (by omega) (by omega)];refine⟨⟨m+1,p',c',by omega,by omega,?_⟩,by show R - ((m:Int)+1).toNat<R - (m:Int).toNat;omega⟩;rw[e2];exact H.take 3
 ·have q3:=qE q3
  have hE:m=R:=by omega
  subst hE;exact⟨((kb,ub),(p,c)),rfl,(St.shut (L':=[]) (by simpa using H)).new 0 rfl⟩
theorem nm0_ok {R:Nat} (hR:34≤R/\R≤128):NmOk R (Nm0 R R) []:=by
 have hn:∀ i,i<32->(Nm0 R R).names.getD i 0=(i:Int):=λ i hi=>by
  unfold Nm0;dsimp only;rw[qF,qS,List.getElem?_range hi];simp;omega
 have hu:∀ i,i<R->(Nm0 R R).uses.getD i 0=if i<32 then 1 else 0:=λ i hi=>by
  unfold Nm0;dsimp only;rw[qF,qS,List.getElem?_range hi];simp [hi]
 refine⟨by unfold Nm0;simp,by unfold Nm0;simp,λ i j hi hj h=>?_,hn 0 (by decide),List.nodup_nil,?_,λ i hi=>?_,λ p hp=>by simp at hp,λ p hp=>?_,?_,hR⟩
 ·grind
 ·unfold Nm0;dsimp only;rw[List.Nodup,List.pairwise_map];exact(List.nodup_range').imp (λ h e=>h (Int.ofNat.inj e))
 ·rw[hn i hi,qG,hu i (by omega),if_pos hi];exact⟨⟨by omega,by omega⟩,rfl⟩
 ·obtain⟨i,hi,rfl⟩:=qCB.1 hp;have hi:=List.mem_range'_1.1 hi
  have hi2:i<R:=by omega
  refine⟨⟨by show(0:Int)≤(i:Int);omega,by show(i:Int)<R;omega⟩,?_⟩;show(Nm0 R R).uses.getD i 0=0;rw[hu i hi2,if_neg (by omega)]
 ·unfold Nm0;simp;omega
end Go.Proofs.YtmncepdbglaphaaGreatDoor.rm
namespace Go.Proofs.YtmncepdbglaphaaGreatDoor.cbus
open Go.RowKit Go.XHeap Go.Sx Go.Sep Go.Proofs.Tryz
variable {W w:wD}{b m:Nat}{B:BP}{S S':PB}{L:List Asn}
theorem fresh_ok {l:List (Int×Int)}{cyc:Int}{data:LN} (h:S.Fresh l cyc data) (hg:¬ cfgBad l cyc) (hd:¬ (data.length % 16≠0∨data.length > 4096)) (hb:∀ x ∈ data,x<256):S.Ok 0:=by
 have hn1:¬ l.length<1:=λ e=>hg (.inl e);have hn2:¬ l.length > 2:=λ e=>hg (.inr (.inl e));have hc2:¬ cyc > 10:=λ e=>hg (.inr (.inr (.inr (.inl e))));have hcy:=h.cyc
 have hlen:S.len=data.length:=by unfold PB.len;rw[h.mem]
 refine⟨by rw[h.n];omega,λ k hk=>?_,by rw[hlen];omega,by rw[hlen];omega,by rw[h.mem];exact hb,by omega,λ k a w e=>?_,by rw[h.last,h.n];omega,λ k e=>?_,by rw[h.left];omega⟩
 ·rw[h.n] at hk;have hf:=h.cs k l[k] (qC hk);refine⟨hf.ok,by rw[hf.clock];omega,λ s hs y hy hv=>?_⟩;rw[hf.sets] at hs;have:=List.eq_of_mem_replicate hs;subst this;have:=List.eq_of_mem_replicate hy;subst this;exact absurd rfl hv
 ·rw[h.asks] at e;cases e
 ·rw[h.now] at e;cases e
variable {W w:wD}{b m:Nat}{S S':PB}{L:List Asn}
theorem Jn (core a:Nat) (wr:Bool) (ha:a<4294967296):∀ k,∀ x ∈ (LS.run core a wr S k).out,x.addr<4294967296
 | 0,x,hx=>(qFB hx).elim
 | k+1,x,hx=>by
  have ih:=Jn core a wr ha k;have e:LS.run core a wr S (k+1)=(LS.run core a wr S k).step core a wr k:=rfl;rw[e,step_def] at hx;split at hx
  ·grind
  ·grind
theorem Qu (ho:S.Ok m){core a:Nat} (hk:core<S.Cs.length) (hl:bm S.len a) (wr:Bool):∀ x ∈ (S.done core a wr).out,x.addr<4294967296:=by
 have hr:=Ah ho core a wr S.Cs.length (qY _);have hlen:=ho.len;unfold bm at hl
 have ha:a<4294967296:=by omega
 have h1:=Jn (S:=S) core a wr ha S.Cs.length
 have hkx:core<(LS.run core a wr S S.Cs.length).S.Cs.length:=by rw[hr.same.n];exact hk
 have hg:=sj (hr.ok.cs core hkx) a 0 (by omega);have hy:=(xx hg a).1.line;unfold PB.done;dsimp only;intro x hx;rcases qc.1 hx with hx | hx
 ·grind
 ·grind
theorem tick_addr (ho:S.Ok m):∀ x ∈ S.tick.out,x.addr<4294967296:=by
 have h1:=turn_ok ho;unfold PB.tick
 cases hnow:S.turn.now with
 | none=>intro x hx;exact(qFB hx).elim
 | some c =>
  dsimp only;obtain⟨hc,hs⟩:=h1.now c hnow;split
  ·grind
  ·cases ha:S.turn.asks c with
   | none=>rw[ha] at hs;cases hs
   | some x=>exact Qu (Ce h1 hc) hc (h1.asks c x.1 x.2 ha).2 x.2
def PB.zero (sets ways:Int) (cyc:Int) (mem:LN):PB:=⟨[⟨sets.toNat,0,0,0,List.replicate sets.toNat 0,ways.toNat,List.replicate sets.toNat (List.replicate ways.toNat zeroWay),0⟩],mem,cyc.toNat,λ _=>none,0,none,0⟩
theorem fresh_zero {sets ways cyc:Int}{mem:LN} (h:S.Fresh [(sets,ways)] cyc mem):ko.bNorm S=PB.zero sets ways cyc mem:=by
 have h0:=h.cs 0 (sets,ways) rfl;obtain⟨Cs,m0,cy,ak,la,no,le⟩:=S;have hn:=h.n;have hm:=h.mem;have hc:=h.cyc;have ha:=h.asks;have hl:=h.last;have hno:=h.now;have hle:=h.left;simp only[qy,List.length_nil] at hn hm hc ha hl hno hle
 match Cs,hn,h0 with
 | [C],hn,h0 =>
  obtain⟨s1,s2,s3,s4,s5,s6,s7,s8⟩:=C;have e1:=h0.s;have e2:=h0.n;have e3:=h0.sets;have e4:=h0.clock;simp only[PB.C,List.getD_cons_zero] at e1 e2 e3 e4;subst e1 e2 e3 e4 hm ha hno hle;unfold ko.bNorm PB.zero ko.cNorm;simp only[quB,List.map_nil];rw[show cyc.toNat=cy by omega,show la=0 by omega]
end Go.Proofs.YtmncepdbglaphaaGreatDoor.cbus
namespace Go.Proofs.YtmncepdbglaphaaGreatDoor.ko
open Go.RowKit Go.XHeap Go.Sx Go.Sep Go.Proofs.Tryz
structure Kc where
 c:Cf
 num:Nat
 code:LI
 dlen:Int
structure Ko where
 rdy:List Bool
 nxt:Nat
 pc:Int
 at_:Int
 fls:List Fl
 cycle:Int
 line:Bool
 halted:Bool
 resv:Int
 idle:Bool
 nm:Nms
 q:List lsq.En
 pr:Prd
 rs:RS
 vals:LI
 evs:List Ev
 out:LI
 bus:cbus.PB
 wr:LI
variable (C:Kc) (K:Ko)
def Ko.fi (s:Int):Option Nat:=K.fls.findIdx? λ f=>f.seq==s
def Ko.fl (i:Nat):Fl:=K.fls.getD i default
def Ko.setf (i:Nat) (f:Fl):Ko:={ K with fls:=K.fls.set i f }
def Ko.val (p:Int):Int:=if p<0 then 0 else K.vals.getD p.toNat 0
def Ko.tell (kind:Int) (f:Fl) (r:Rt):Ko:={ K with evs:=K.evs++[⟨C.num,K.cycle,kind,f.seq,f.pc,r⟩] }
def Ko.wake (p:Int):Ko:={ K with rdy:=K.rdy.set p.toNat true }
def Fl.st (f:Fl):Nat:=if f.done then 2 else if f.issued then 1 else 0
def Ko.has (p:Int):Bool:=decide (p<0)||K.rdy.getD p.toNat false
def Ko.may (c:Int) (f:Fl):Bool:=f.cls==c&&(decide (f.st=0)&&K.has f.a&&K.has f.b)
def Ko.ready (c:Int) (most:Int):LI:=((K.fls.filter (K.may c)).map (·.seq)).take most.toNat
def Fl.fin (f:Fl):Fl:={ f with done:=true }
def Ko.put (f:Fl):Ko:=if 0≤f.fresh/\f.cause= -1 then { K with vals:=K.vals.set f.fresh.toNat f.value } else K
def Ko.rouse (p:Int):Ko:=if 0≤p then K.wake p else K
def Ko.finish (i:Nat):Ko:=((((K.setf i (K.fl i).fin).put (K.fl i)).rouse (K.fl i).fresh).tell C 3 (K.fl i) Rt.z)
def Fl.beg (f:Fl) (t:Int):Fl:={ f with issued:=true,ready:=t }
def Ko.begin (i:Nat) (cy:Int):Ko:=(K.setf i ((K.fl i).beg (K.cycle+cy))).tell C 2 (K.fl i) Rt.z
def Ko.drop1 (K:Ko) (f:Fl):Ko:=(if 0≤f.fresh then ({ K with nm:=K.nm.undo f.i.rd f.fresh f.old }:Ko).wake f.fresh else K).tell C 5 f Rt.z
def Ko.squash (after pc:Int):Ko :=
 let dead:=K.fls.filter λ f=>decide (after<f.seq);let K1:=dead.reverse.foldl (Ko.drop1 C) { K with q:=K.q.filter (lsq.keepP after) }
 { K1 with fls:=K.fls.filter (λ f=> !decide (after<f.seq)),pc:=pc,idle:=false }
def Ko.restore (f:Fl) (pc:Int) (i:Ins) (t:Bool):Ko:={ K with pr:=K.pr.back f.mh f.mt f.mv pc i t }
def Ko.again (f:Fl):Ko:=(K.restore f f.pc zeroI false).squash C (f.seq - 1) f.pc
def Ko.spoilAt (l:Int):Int:=match K.q.find? (lsq.spoilP l.toNat) with
 | some e=>e.seq
 | none=> -1
def Ko.eldest (ls:LI):Int:=ls.foldl (λ o l=>if 0≤K.spoilAt l/\(o<0∨K.spoilAt l<o) then K.spoilAt l else o) (-1)
def Ko.spoil (ls:LI):Ko:=if 0≤K.eldest ls then (match K.fi (K.eldest ls) with
 | some i=>K.again C (K.fl i)
 | none=>K) else K
def Ko.snoop (l:List cbus.Sn):Ko:=K.spoil C ((l.filter λ s=>decide (s.core=C.num)&&decide (s.to=0)).map λ s=>(s.addr:Int))
def Fl.bj (f:Fl):Bool:=decide (f.cls=2)||decide (f.cls=3)
def Ko.comp1 (K:Ko) (s:Int):Ko:=match K.fi s with
 | none=>K
 | some i =>
  let f:=K.fl i
  if f.issued=false∨f.done=true∨K.cycle<f.ready then K
  else
   let K1:=K.finish C i
   if f.bj=true/\f.cause= -1/\f.next≠f.guess then (K1.restore f f.pc f.i f.taken).squash C f.seq f.next else K1
def Ko.complete:Ko:=(K.fls.map (·.seq)).foldl (Ko.comp1 C) K
def p4 (x:Int):Int:=wr (x+4)
def Fl.fault (f:Fl):Fl:=if ik f.next 3≠0 then { f with cause:=0,tval:=f.next } else f
def Fl.comp (f:Fl) (a b:Int):Fl :=
 if f.cls=2 then ({ f with taken:=alu.takenF f.i.op a b,next:=if alu.takenF f.i.op a b then ui f.i.op f.i.imm f.pc a else p4 f.pc }:Fl).fault
 else if f.cls=3 then ({ f with value:=p4 f.pc,taken:=true,next:=ui f.i.op f.i.imm f.pc a }:Fl).fault
 else ({ f with next:=p4 f.pc,value:=alu.execF f.i.op (ov f.i.op f.i.imm f.pc a b).1 (ov f.i.op f.i.imm f.pc a b).2 }:Fl).fault
def Ko.compute (i:Nat):Ko:=K.setf i ((K.fl i).comp (K.val (K.fl i).a) (K.val (K.fl i).b))
def Fl.reach (f:Fl) (a dlen:Int):Fl:={ f with addr:=fq f.i.op f.i.imm a,next:=p4 f.pc,cause:=ff f.i.op (fq f.i.op f.i.imm a) dlen,tval:=fq f.i.op f.i.imm a }
def Ko.reach (i:Nat):Ko:=K.setf i ((K.fl i).reach (K.val (K.fl i).a) C.dlen)
def qix (q:List lsq.En) (s:Int):Option Nat:=q.findIdx? (lsq.findP s)
def ic (e:lsq.En) (a sz:Nat):lsq.En:={ e with placed:=true,addr:=a,size:=sz }
def Ey (q:List lsq.En) (s:Int) (a sz k:Nat) (e:lsq.En):Int:=if e.store=true then (match (q.drop (k+1)).find? (lsq.aheadP s a sz) with
 | some x=>x.seq
 | none=> -1) else -1
def dz (q:List lsq.En) (s:Int) (a:Nat) (sz:Int):List lsq.En×Int:=match qix q s with
 | none=>(q, -1)
 | some k=>let e:=q.getD k default
  if e.placed=true then (q, -1) else if (sz=1∨sz=2∨sz=4)/\(a:Int) % sz=0 then (q.set k (ic e a sz.toNat),Ey q s a sz.toNat k e) else (q, -1)
def jr (q:List lsq.En) (s:Int) (d:Nat):List lsq.En:=match qix q s with
 | none=>q
 | some k=>let e:=q.getD k default
  if e.store=false∨e.valued=true then q else q.set k { e with valued:=true,data:=d }
def Cj (q:List lsq.En) (s:Int):Option Nat:=match qix q s with
 | none=>none
 | some k=>let e:=q.getD k default
  if e.store=true∨e.placed=false then none else some k
inductive Fd where
 | none
 | wait
 | got (mask value:Nat)
def lq (q:List lsq.En) (k:Nat):lsq.Src:=lsq.srcs (q.take k) (q.getD k default).addr (q.getD k default).size
def iy (q:List lsq.En) (s:Int) (bold:Bool):Fd:=match Cj q s with
 | none=>.none
 | some k=>if (!bold&&(q.take k).any lsq.unplaced)=true then .wait else if lsq.waitF (lq q k)=true then .wait else .got (lsq.maskF (lq q k)) (lsq.valF (q.getD k default).addr (lq q k))
def lr (q:List lsq.En) (s:Int):List lsq.En:=match Cj q s with
 | none=>q
 | some k=>if (q.getD k default).loaded=true∨lsq.waitF (lq q k)=true then q else q.set k ((q.getD k default).withFr (lq q k))
def za (q:List lsq.En):Option lsq.En:=match q with
 | e::_=>if e.retired=true then some e else none
 | []=>none
def yu (q:List lsq.En) (s:Int):List lsq.En:=match q.findIdx? (λ e=> !e.retired) with
 | none=>q
 | some k=>let e:=q.getD k default
  if e.seq≠s then q else if e.store=true/\e.placed=true/\e.valued=true then q.set k { e with retired:=true } else if e.loaded=true then q.eraseIdx k else q
def iz (q:List lsq.En):List lsq.En:=match za q with
 | none=>q
 | some o=>(q.drop 1).map λ e=>lsq.drainB o.seq e 4
def Ko.store (i:Nat):Ko :=
 let K1:=(K.begin C i 1).reach C i;let f:=K1.fl i
 if f.cause≠ -1 then K1
 else
  let r:=dz K1.q f.seq f.addr.toNat (alu.sizeF f.i.op);let K2:={ K1 with q:=jr r.1 f.seq (K1.val f.b).toNat }
  if 0≤r.2 then (match K2.fi r.2 with
   | some j=>K2.again C (K2.fl j)
   | none=>K2) else K2
def ia (n:Nat) (mask value raw:Nat):Nat:=((List.range n).map λ k=>(if mask / 2 ^ k % 2=1 then value / 2 ^ (8 * k) % 256 else raw / 2 ^ (8 * k) % 256) * 2 ^ (8 * k)).sum
def Ko.placeL (i:Nat):Ko :=
 let f:=K.fl i
 if f.placed=true then K else ({ K with q:=(dz K.q f.seq f.addr.toNat (alu.sizeF f.i.op)).1 }:Ko).setf i { f with placed:=true }
def Ko.got (i:Nat) (raw:Int):Ko:=({ K with q:=lr K.q (K.fl i).seq }:Ko).setf i { K.fl i with value:=alu.widenF (K.fl i).i.op raw }
def Ko.fetched (i:Nat):Ko×Bool :=
 let K1:=K.placeL i;let f:=K1.fl i;let n:=alu.sizeF f.i.op
 match iy K1.q f.seq C.c.bold with
 | .wait=>(K1,false)
 | .none =>
  if K1.bus.readT C.num f.addr.toNat n=false then ({ K1 with bus:=(K1.bus.readN C.num f.addr.toNat n).askN C.num f.addr.toNat false },false)
  else (({ K1 with bus:=K1.bus.readN C.num f.addr.toNat n }:Ko).got i (K1.bus.readV C.num f.addr.toNat n),true)
 | .got mask value =>
  if (mask:Int)≠2 ^ n.toNat - 1 then
   (if K1.bus.readT C.num f.addr.toNat n=false then ({ K1 with bus:=(K1.bus.readN C.num f.addr.toNat n).askN C.num f.addr.toNat false },false)
   else (({ K1 with bus:=K1.bus.readN C.num f.addr.toNat n }:Ko).got i (ia n.toNat mask value (K1.bus.readV C.num f.addr.toNat n)),true))
  else (K1.got i (ia n.toNat mask value 0),true)
def Ko.load (i:Nat):Ko×Bool :=
 let K1:=K.reach C i
 if (K1.fl i).cause= -1 then
  (if (K1.fetched C i).2=false then ((K1.fetched C i).1,false) else ((K1.fetched C i).1.begin C i 1,true))
 else (K1.begin C i 1,true)
def ow (l:LI):LI:=l.mergeSort (λ a b=>decide (a≤b))
def Ko.alu1 (K:Ko) (s:Int):Ko:=match K.fi s with
 | some i=>(K.compute i).begin C i 1
 | none=>K
def Ko.mul1 (K:Ko) (s:Int):Ko:=match K.fi s with
 | some i=>(K.compute i).begin C i C.c.mul
 | none=>K
def Ko.sto1 (K:Ko) (s:Int):Ko:=match K.fi s with
 | some i=>K.store C i
 | none=>K
def Ko.loads (K:Ko):LI->Ko
 | []=>K
 | s::r=>match K.fi s with
  | some i=>if (K.load C i).2=true then (K.load C i).1 else Ko.loads (K.load C i).1 r
  | none=>Ko.loads K r
def Ko.units:LI:=let l:=ow (K.ready 0 C.c.units++K.ready 2 C.c.units++K.ready 3 C.c.units);l.take C.c.units.toNat
def Ko.issue:Ko :=
 let K1:=(K.units C).foldl (Ko.alu1 C) K;let K2:=(K1.ready 1 1).foldl (Ko.mul1 C) K1;let K3:=(K2.ready 5 1).foldl (Ko.sto1 C) K2
 K3.loads C (K3.ready 4 C.c.window)
def fl0 (pc:Int):Fl:=⟨0,pc,0,zeroI,7,0,0,0,0, -1, -1, -1,0,0,0,false, -1,0,false,false,0,false,0,false⟩
def Kc.there (pc:Int):Bool:=decide (pc / 4<C.code.length)
def Kc.word (pc:Int):Int:=C.code.getD (pc / 4).toNat 0
def Ko.decoded:Fl :=
 if C.there K.pc=false then { fl0 K.pc with cause:=1,tval:=K.pc }
 else if Bp (C.word K.pc)=false then { fl0 K.pc with word:=C.word K.pc,cause:=2,tval:=C.word K.pc }
 else { fl0 K.pc with word:=C.word K.pc,i:=yy (C.word K.pc),cls:=av (yy (C.word K.pc)).op }
def Fl.mem (f:Fl):Bool:=decide (f.cls=4)||decide (f.cls=5)
def Fl.wrs (f:Fl):Bool:=pf f.i.op&&decide (0<f.i.rd)
def Ko.full (f:Fl):Bool:=decide ((K.fls.length:Int)=C.c.window)||((f.mem&&decide ((K.q.length:Int)=C.c.queue))||(f.wrs&&decide (K.nm.free.length=0)))
def Ko.named (f:Fl):Fl :=
 { f with a:=if (cw f.i.op).1 then K.nm.look f.i.rs1 else -1,b:=if (cw f.i.op).2 then K.nm.look f.i.rs2 else -1,fresh:=if f.wrs then K.nm.fresh else -1,old:=if f.wrs then K.nm.look f.i.rd else 0,seq:=K.nxt,guess:=K.pr.next f.pc f.i,mh:=K.pr.hist,mt:=K.pr.top,mv:=K.pr.val }
def Ko.taken (f:Fl):Ko :=
 let g:=K.named f
 ({ K with nm:=if f.wrs then K.nm.take f.i.rd else K.nm,nxt:=K.nxt+1,rdy:=if f.wrs then K.rdy.set K.nm.fresh.toNat false else K.rdy,q:=if f.mem then K.q++[lsq.newEn K.nxt (decide (f.cls=5))] else K.q,pr:=K.pr.on f.pc f.i (K.pr.tk f.pc f.i),pc:=g.guess,fls:=K.fls++[g] }:Ko).tell C 1 g Rt.z
def Ko.take:Ko×Bool :=
 let f:=K.decoded C;let K1:={ K with idle:=K.idle|| !C.there K.pc }
 if K1.full C f=true then ({ K1 with idle:=false },false) else (K1.taken C f,true)
def Ko.enterN:Nat->Ko->Ko
 | 0,K=>K
 | n+1,K=>if K.idle=true then K else if (K.take C).2=false then (K.take C).1 else Ko.enterN n (K.take C).1
def Ko.enter:Ko:=Ko.enterN C C.c.width.toNat K
def Ko.trap (f:Fl) (cause tval:Int):Ko :=
 let to:=(K.rs.trap f.pc cause tval).1;let K1:=({ K with rs:=(K.rs.trap f.pc cause tval).2.2 }:Ko).tell C 4 f ⟨f.pc,f.word,0,0,cause,tval,to⟩
 { ({ K1 with halted:= !(K.rs.trap f.pc cause tval).2.1 }:Ko).squash C (-1) to with at_:=to }
def Ko.end0:Ko:=if (K.fl 0).done=true then K else if (K.fl 0).issued=true then K.finish C 0 else (K.begin C 0 0).finish C 0
def Ko.gone:Ko:={ K.end0 C with fls:=(K.end0 C).fls.tail }
def Ko.done1 (f:Fl):Ko :=
 let K1:=K.gone C
 let K2:=if f.mem then { K1 with q:=yu K1.q f.seq } else K1
 let K3:=if 0≤f.fresh then { K2 with nm:=K2.nm.release f.old } else K2
 let K4:={ K3 with rs:=K3.rs.counted,at_:=f.next }
 let K5:=if f.bj then { K4 with pr:=K4.pr.learn f.mh f.mt f.pc f.i f.taken f.next } else K4
 let K6:=K5.tell C 4 f ⟨f.pc,f.word,if 0≤f.fresh then f.i.rd else 0,if 0≤f.fresh then f.value else 0, -1,0,f.next⟩
 let K7:=if f.spoils then K6.spoil C [f.addr] else K6
 if f.cls=7/\f.next≠f.guess then (K7.restore f f.pc f.i false).squash C f.seq f.next else K7
def Ko.fail1 (f:Fl):Ko :=
 let K1:=((K.gone C).restore f 0 zeroI false).trap C f f.cause f.tval
 if 0≤f.fresh then { K1 with nm:=K1.nm.undo f.i.rd f.fresh f.old } else K1
def agn (op old b:Int):Int:=alu.swapF op old b
def Ko.more:Bool:=(za K.q).isSome
def Ko.atomic:Ko×Bool :=
 let f:=K.fl 0;let write:=decide (f.i.op≠46)
 if K.bus.state C.num f.addr.toNat<(if write then 2 else 1) then ({ K with bus:=K.bus.askN C.num f.addr.toNat write },false)
 else
  let old:Int:=K.bus.readV C.num f.addr.toNat 4;let K1:={ K with bus:=K.bus.readN C.num f.addr.toNat 4 }
  if f.i.op=46 then ({ K1.setf 0 { f with value:=old } with resv:=f.addr },true)
  else if f.i.op=47 then
   (if K.resv=f.addr then
    ({ K1.setf 0 { f with value:=0,spoils:=true } with resv:=0,bus:=K1.bus.writeN C.num f.addr.toNat 4 (agn f.i.op old (K.val f.b)).toNat,wr:=K.wr++[f.addr] },true)
   else ({ K1.setf 0 { f with value:=1 } with resv:=0 },true))
  else ({ K1.setf 0 { f with value:=old,spoils:=true } with bus:=K1.bus.writeN C.num f.addr.toNat 4 (agn f.i.op old (K.val f.b)).toNat,wr:=K.wr++[f.addr] },true)
def Ko.system:Ko×Bool :=
 let f:=K.fl 0
 if f.i.op=57 then (K, !K.more)
 else if f.i.op=58 then (K.setf 0 { f with cause:=11 },true)
 else if f.i.op=59 then (K.setf 0 { f with cause:=3,tval:=f.pc },true)
 else if f.i.op=60 then ({ K.setf 0 { f with next:=K.rs.back.at 833 } with rs:=K.rs.back },true)
 else if f.i.op=61 then (K,true)
 else
  let r:=K.rs.access f.i.op f.i.rs1 f.i.imm (K.val f.a)
  ({ K.setf 0 (if r.2.1 then { f with value:=r.1 } else { f with value:=r.1,cause:=2,tval:=f.word }) with rs:=r.2.2 },true)
def Ko.late:Ko×Bool :=
 let f:=K.fl 0
 if f.issued=true then (K,false)
 else
  let K1:=K.setf 0 { f with next:=p4 f.pc }
  if f.cause≠ -1 then (K1,true)
  else if f.cls=4 then (if ((K1.reach C 0).fl 0).cause≠ -1 then (K1.reach C 0,true) else (K1.reach C 0).fetched C 0)
  else if f.cls=6 then (if K1.more=true then (K1,false) else if ((K1.reach C 0).fl 0).cause≠ -1 then (K1.reach C 0,true) else (K1.reach C 0).atomic C)
  else if f.cls=7 then K1.system
  else (K1,false)
def Ko.one1 (K:Ko):Ko×Bool:=if (K.fl 0).cause≠ -1 then (K.fail1 C (K.fl 0),false) else (K.done1 C (K.fl 0),true)
def Ko.one:Ko×Bool :=
 if (K.fl 0).done=true then Ko.one1 C K
 else if (K.late C).2=true then Ko.one1 C (K.late C).1 else ((K.late C).1,false)
def Ko.retireN:Nat->Ko->Ko
 | 0,K=>K
 | n+1,K=>if K.fls.length=0 then K else if (K.one C).2=false then (K.one C).1 else Ko.retireN n (K.one C).1
def Yl (at_:Int):Fl:={ fl0 at_ with seq:= -1,cls:=0,a:=0,b:=0,fresh:=0,cause:=0 }
def Ko.irq:Ko:=(if K.fls.length=0 then K else K.restore (K.fl 0) 0 zeroI false).trap C (Yl K.at_) 2147483659 0
def Ko.retire:Ko:=if K.line=true/\K.rs.inter=true then K.irq C else Ko.retireN C C.c.width.toNat K
def Ko.drain:Ko:=match za K.q with
 | none=>K
 | some e =>
  let d:=e.data % 2 ^ (8 * e.size)
  if 131072≤e.addr then ({ K with out:=K.out++[((d % 256:Nat):Int)],q:=iz K.q,wr:=K.wr++[(e.addr:Int)] }:Ko).tell C 6 (fl0 0) Rt.z
  else if K.bus.writeT C.num e.addr e.size=true then ({ K with bus:=K.bus.writeN C.num e.addr e.size d,q:=iz K.q,wr:=K.wr++[(e.addr:Int)] }:Ko).tell C 6 (fl0 0) Rt.z
  else { K with bus:=(K.bus.writeN C.num e.addr e.size d).askN C.num e.addr true }
def Ko.step:Ko :=
 let K1:=if K.halted=true then K else (K.complete C).retire C
 let K2:=if K1.halted=true then K1 else (K1.issue C).enter C
 K2.drain C
def Ko.ended:Bool:=K.halted&& !K.more
def Ko.cname (n:Int):Int:=K.fls.reverse.foldl (λ m f=>if 0≤f.fresh/\f.i.rd=n then f.old else m) (K.nm.look n)
def Ko.committed (n:Int):Int:=K.vals.getD (K.cname n).toNat 0
end Go.Proofs.YtmncepdbglaphaaGreatDoor.ko
