/- A core. No condition. -/
import Derived.Test.YtmncepdbglaphaaGreatDoorKwVf
set_option linter.unusedVariables false
set_option maxRecDepth 100000
namespace Go.Proofs.YtmncepdbglaphaaGreatDoor.ko
open Go.RowKit Go.XHeap Go.Sx Go.Sep Go.Proofs.Tryz
variable {W w:wD}{A:Ka}{M M':Km}{L:List Asn}{b j n:Nat}{f f':Fl}{g:List Fl}{S:Nat->Prop}
theorem aed (l:LN):∀ u ∈ Dj l,u.oneCell'=true:=by
 intro u hu;unfold Dj at hu;obtain⟨a, -,rfl⟩:=qCB.1 hu;rfl
theorem Xg {p:OA}{n c:Nat}{xs:LV} (h:Sl W 154 1 (.slice p n c) n xs) (hn:n≤100) (h1:∀ u ∈ xs,u.oneCell'=true) :
  Calls prog 56 #[.slice p n c] W λ e w=>∃ z:OA×Nat,e=eZ (.slice z.1 n z.2)/\Sep.Post emp W (sl 154 1 (.slice z.1 n z.2) n xs) w:=by
 obtain⟨ao,cap,hv,hl, -, -, -,hc⟩:=h.open1;cases hv;refine apm p n c (aa (λ q=>?_) (λ q=>?_))
 ·have q:p=none:=by simpa using q
  have h0:n=0:=by
   refine Nat.eq_zero_of_not_pos λ h=>?_;obtain⟨g,off,e, -⟩:=hc h;rw[q] at e;cases e
  subst h0;obtain rfl:=qDC.1 hl;exact⟨(none,0),rfl,Sl.nil _ _ _,qH _ _,λ q e=>by cases e⟩
 ·refine(St.nil W).al λ k w2 H=>?_
  have H:=H.conv 0 (A':=sl 154 1 (.slice (some ⟨k,0,none⟩) 0 0) 0 []) rfl (λ hb=>⟨rfl,.inr ⟨k,0,0,#[],rfl,hb,qY _,qQ _,qQ _,rfl⟩⟩) (λ q e=>by
   exact(Option.some.inj e).symm)
  have hp:∃ a,p=some a:=by
   cases p with
   | none=>cases q
   | some a=>exact⟨a,rfl⟩
  obtain⟨a,rfl⟩:=hp;have h2:Sl w2 154 1 (.slice (some a) n c) n xs:=h.keep H.touch (λ _ _ e=>e);obtain⟨ao,cap,hv, -, -, -, -,hc2⟩:=h2.open1;cases hv;refine H.app 0 (m:=n) (bytes:=8) rfl xs ?_ (by rw[qT];exact hl) h1 (by have:maxLen=2 ^ 63 - 1:=rfl;omega) (by omega) λ p' c' w3 H=>⟨(p',c'),by rw[qW],?_⟩
  ·by_cases h0:n=0
   ·subst h0;obtain rfl:=qDC.1 hl;exact .inr ⟨a,rfl,λ j u hj=>by cases hj⟩
   ·obtain⟨g,off,e, -,hcc⟩:=hc2 (by omega);refine .inr ⟨a,rfl,λ j u hj=>?_⟩;cases e;rw[ac]
    have hj2:j<n:=by rw[<- hl];exact(qD.1 hj).1
    rw[(hcc j hj2).1];exact hj
  ·have e:sl 154 1 (.slice p' n c') n xs=sl 154 1 (.slice p' (0+n) c') (0+n) ([]++xs):=by rw[qW];rfl
   rw[e];exact H.new 0 rfl
theorem je (hb:Blk w b f.cells 162):Sx.cellsAt w ⟨b,0+3,none⟩ f.i.vs:=by
 refine yl hb λ i u hu=>?_;rcases i with _ | _ | _ | _ | _ | i
 ·exact hu
 ·exact hu
 ·exact hu
 ·exact hu
 ·exact hu
 ·cases hu
theorem Mr {i:Nat} (hf:M.K.fls[i]?=some f):(M.K.finish A.C i).fls[i]?=some f.fin:=by
 have:(M.K.finish A.C i).fls=M.K.fls.set i (M.K.fl i).fin:=by
  unfold Ko.finish Ko.rouse Ko.put Ko.wake Ko.tell Ko.setf;split <;> split <;> rfl
 rw[this,bi hf,qO (qD.1 hf).1]
def Ko.upto (C:Kc) (K:Ko) (m:Nat):Ko:=((K.fls.take m).map (·.seq)).foldl (Ko.comp1 C) K
theorem Fv (h:(ae A M).at_ W) (hR:M.Rep A) (hI:Inv A.C n g M.K) (hn:n+5000≤1000000000000) :
  Calls prog 38 #[pZ A.x 0] W λ e w=>∃ z:Nx A M (M.K.complete A.C),e=eY #[]/\Sep.Post (ae A M) W (ae A z.1) w:=by
 have H:=au h;have hfs:=Inv.fs hI hR;have hfk:=hR.fk;refine aqd A.x 0 ⟨_,_,_,H.ld 0 rfl rfl,H.calln (Xg (H.nth 11 rfl) (by omega) (aed _)) λ zc w2 H=>⟨_,_,_,rfl,?_⟩⟩;obtain⟨cl,hcl⟩:∃ cl,sl 154 1 (.slice zc.1 M.fs.length zc.2) M.fs.length (Dj M.fs)=cl:=⟨_,rfl⟩;rw[hcl] at H;have H:St W (ae A M).own w2 (M.pieces A++[cl]):=H;refine⟨λ i B=>∃ (m:Nat) (y:Nx A M (M.K.upto A.C m)),i=m/\m≤M.fs.length/\St W (ae A M).own B (y.1.pieces A++[cl]),λ i _=>M.fs.length - i.toNat,⟨0,⟨M,hR,rfl,Kept.refl M⟩,rfl,qQ _,H⟩,λ _=>?_⟩;clear H;rintro i w3 ⟨m,y,rfl,hm,H⟩;refine aa (λ q=>?_) (λ q=>?_)
 rotate_left
 ·have q:=qE q;have hmd:M.K.fls.take m=M.K.fls:=qGB (by omega);refine⟨y.cast ?_,rfl,aq H⟩;unfold Ko.upto Ko.complete;rw[hmd]
 have q:=qB q
 have hml:m<M.K.fls.length:=by omega
 have hf0:=qC hml;obtain⟨b,hb,hy⟩:=hR.at hf0;obtain⟨f0,hf0e⟩:∃ f0,M.K.fls[m]=f0:=⟨_,rfl⟩;rw[hf0e] at hf0 hy;have hyR:=y.2.1;have hyK:=y.2.2.1;have hkp:=y.2.2.2
 have hIm:Inv A.C (n+65 * m) g y.1.K:=by
  rw[hyK];have:=hI.comps ((M.K.fls.take m).map (·.seq));rw[qd,qq,qPB (by omega)] at this;exact this
 have hup:M.K.upto A.C (m+1)=Ko.comp1 A.C y.1.K f0.seq:=by
  rw[hyK];unfold Ko.upto;rw[qdB hml,qV,qwB,hf0e];rfl
 have nxt:∀ {B:wD} (z:Nx A M (M.K.upto A.C (m+1))),St W (ae A M).own B (z.1.pieces A++[cl])->∀ x:Int,x=IntKind.wrap .i64 ((m:Int)+1)->(∃ (m':Nat) (y:Nx A M (M.K.upto A.C m')),x=m'/\m'≤M.fs.length/\St W (ae A M).own B (y.1.pieces A++[cl]))/\M.fs.length - x.toNat<M.fs.length - (m:Int).toNat:=by
  rintro B z H x rfl;rw[w64 (by omega) (by omega)];exact⟨⟨m+1,z,by omega,by omega,H⟩,by show M.fs.length - ((m:Int)+1).toNat<M.fs.length - (m:Int).toNat;omega⟩
 have skip:M.K.upto A.C (m+1)=y.1.K->∀ {B:wD},St W (ae A M).own B (y.1.pieces A++[cl])->∀ x:Int,x=IntKind.wrap .i64 ((m:Int)+1)->(∃ (m':Nat) (y:Nx A M (M.K.upto A.C m')),x=m'/\m'≤M.fs.length/\St W (ae A M).own B (y.1.pieces A++[cl]))/\M.fs.length - x.toNat<M.fs.length - (m:Int).toNat :=
  λ e B H=>nxt (⟨y.1,hyR,e.symm,hkp⟩:Nx A M (M.K.upto A.C (m+1))) H
 obtain⟨f1,hy1,hs1⟩:=hkp.fl b f0 hy;have hB:∀ {B:wD} {i:Nat} {v:Value},St W (ae A M).own B (y.1.pieces A++[cl])->f1.cells[i]?=some v->B.cell? ⟨b,i,none⟩=some v:=λ H hv=>(St.fl H hy1).cell' hv
 obtain⟨g0,off,hp,hc⟩:∃ g0 off,zc.1=some ⟨g0,off,none⟩/\w3.cell? ⟨g0,off+m,none⟩=some (pZ b 0):=by
  have hs:Sl w3 154 1 (.slice zc.1 M.fs.length zc.2) M.fs.length (Dj M.fs):=by
   have:=H.nth 16 rfl;rw[<- hcl] at this;exact this
  exact ti hs hb
 rw[hp]
 have hfind:(∃ i,y.1.K.fls[i]?=some f1/\y.1.fs[i]?=some b/\y.1.K.fi f0.seq=some i/\y.1.ptr f1.seq=some ⟨b,0,none⟩)∨(y.1.K.fi f0.seq=none/\y.1.ptr f1.seq=none):=by
  cases hfi:y.1.K.fi f0.seq with
  | none=>exact .inr ⟨rfl,by unfold Km.ptr;rw[hs1,hfi]⟩
  | some i =>
   obtain⟨f2,hf2,hs2⟩:=Cl hfi;have hb2:=hkp.at hR hyR hI hf2 hf0 hs2 hb;have:=Sk hyR.fn (hyR.fl i b f2 hb2 hf2) hy1;subst this;exact .inl ⟨i,hf2,hb2,rfl,Km.ptr_at hyR hIm hf2 hb2⟩
 have hI5:∀ i,y.1.K.fls[i]?=some f1->y.1.K.fi f0.seq=some i->(f1.issued=false∨f1.done=true∨y.1.K.cycle<f1.ready)->M.K.upto A.C (m+1)=y.1.K:=by
  intro i hi hfi hc;rw[hup];unfold Ko.comp1;rw[hfi];dsimp only;rw[bi hi,if_pos hc]
 have hno:y.1.K.fi f0.seq=none->M.K.upto A.C (m+1)=y.1.K:=by
  intro hfi;rw[hup];unfold Ko.comp1;rw[hfi]
 have hskip:(f1.issued=false∨f1.done=true∨y.1.K.cycle<f1.ready)->M.K.upto A.C (m+1)=y.1.K:=λ hc=>by
  rcases hfind with ⟨i,h1, -,h3, -⟩ | ⟨h1, -⟩
  ·exact hI5 i h1 h3 hc
  ·exact hno h1
 refine⟨⟨by omega,q⟩,adr_some ⟨_,by rw[ix1];exact hc,?_⟩⟩;refine⟨λ B=>(∃ i,y.1.K.fls[i]?=some f1/\y.1.fs[i]?=some b/\y.1.K.fi f0.seq=some i)/\f1.issued=true/\f1.done=false/\¬ y.1.K.cycle<f1.ready/\St W (ae A M).own B (y.1.pieces A++[cl]),?_,λ _=>?_⟩
 ·refine ptr_some ⟨f1.issued,by rw[ac];exact hB H rfl,aa (λ q1=>?_) (λ q1=>?_)⟩
  ·have q1:f1.issued=false:=by simpa using q1
   rintro w4 k7 rfl;exact skip (hskip (.inl q1)) (H.drewN k7)
  have q1:f1.issued=true:=by simpa using q1
  refine ptr_some ⟨f1.done,by rw[ac];exact hB H rfl,aa (λ q2=>?_) (λ q2=>?_)⟩
  ·rintro w4 k7 rfl;exact skip (hskip (.inr (.inl q2))) (H.drewN k7)
  refine ptr_some ⟨f1.ready,by rw[ac];exact hB H rfl,y.1.K.cycle,H.ld 0 rfl rfl,aa (λ q3=>?_) (λ q3=>?_)⟩
  ·have q3:y.1.K.cycle<f1.ready:=qB q3;rintro w4 k7 rfl;exact skip (hskip (.inr (.inr q3))) (H.drewN k7)
  have q3:¬ y.1.K.cycle<f1.ready:=qE q3;refine ptr_some ⟨f1.seq,by rw[ac];exact hB H rfl,y.1.ptr f1.seq,λ k10=>(find_any ((H.drewN k10).shut.nth 0 rfl) hyR (Inv.fs hIm hyR) f1.seq).mono λ e w hw=>⟨hw.1,k10,hw.2⟩,?_⟩;rcases hfind with ⟨i,h1,h2,h3,h4⟩ | ⟨h1,h4⟩
  ·rw[h4];refine(show Sx.eqPtr _ _ _ _ _ _↔_ from Iff.rfl).2 ⟨rfl,?_⟩;rintro w4 k7 rfl;exact⟨⟨i,h1,h2,h3⟩,q1,q2,q3,H.drewN k7⟩
  ·rw[h4];refine(show Sx.eqPtr _ _ _ _ _ _↔_ from Iff.rfl).2 ?_;rintro w4 k7 rfl;exact skip (hno h1) (H.drewN k7)
 ·clear H hc;rintro w4 ⟨⟨i,hf1,hb1,hfi⟩,q1,q2,q3,H⟩;have H:=H.shut;have hu:=hIm.fo f1 (hIm.mem hf1);refine H.callx 0 rfl (Aq (H.nth 0 rfl) hyR hIm (by omega) hf1 hb1 ⟨q1,q2⟩) λ z1 w5 H=>⟨rfl,?_⟩;have hz1:=z1.2.2.1
  have hI1:Inv A.C (n+65 * m+1) g z1.1.K:=by rw[hz1];exact hIm.finish hf1 q1
  have hfz:z1.1.K.fls[i]?=some f1.fin:=by rw[hz1];exact Mr hf1
  have hbz:=z1.2.2.2.at hyR z1.2.1 hIm hfz hf1 rfl hb1;have hyz:=z1.2.1.fl i b _ hbz hfz;have H:St W (ae A M).own w5 (z1.1.pieces A++[cl]):=H.open_
  have hC:∀ {B:wD} {z:Km} {i:Nat} {v:Value},z.fl=z1.1.fl->St W (ae A M).own B (z.pieces A++[cl])->f1.cells[i]?=some v->i≠23->B.cell? ⟨b,i,none⟩=some v:=by
   intro B z i v he H hv hi;refine(St.fl H (by rw[he];exact hyz)).cell' ?_;have e1:f1.fin.cells=f1.cells.setIfInBounds 23 (.bool true):=rfl;rw[e1,Array.getElem?_setIfInBounds,if_neg (λ e=>hi e.symm)];exact hv
  have hcomp:M.K.upto A.C (m+1)=if f1.bj=true/\f1.cause= -1/\f1.next≠f1.guess then ((y.1.K.finish A.C i).restore f1 f1.pc f1.i f1.taken).squash A.C f1.seq f1.next else y.1.K.finish A.C i:=by
   rw[hup];unfold Ko.comp1;rw[hfi];dsimp only;rw[bi hf1,if_neg (by rintro(e | e | e);rw[q1] at e;cases e;rw[q2] at e;cases e;exact q3 e)]
  have last:¬ (f1.bj=true/\f1.cause= -1/\f1.next≠f1.guess)->∀ {B:wD},St W (ae A M).own B (z1.1.pieces A++[cl])->∀ x:Int,x=IntKind.wrap .i64 ((m:Int)+1)->(∃ (m':Nat) (y:Nx A M (M.K.upto A.C m')),x=m'/\m'≤M.fs.length/\St W (ae A M).own B (y.1.pieces A++[cl]))/\M.fs.length - x.toNat<M.fs.length - (m:Int).toNat:=by
   intro hc B H;rw[if_neg hc] at hcomp;exact nxt (⟨z1.1,z1.2.1,by rw[hz1,hcomp],hkp.trans z1.2.2.2⟩:Nx A M (M.K.upto A.C (m+1))) H
  refine ptr_some ⟨f1.cls,by rw[ac];exact hC rfl H rfl (by decide),aa (λ c1=>?_) (λ c1=>?_)⟩
  ·have hbj:f1.bj=true:=by
    have:f1.cls=2:=by simpa using c1
    unfold Fl.bj;rw[this];rfl
   refine ptr_some ⟨f1.cause,by rw[ac];exact hC rfl H rfl (by decide),aa (λ c3=>?_) (λ c3=>?_)⟩
   rotate_left
   ·have c3:¬ f1.cause= -1:=by simpa using c3
    rintro w6 k7 rfl;exact last (λ e=>c3 e.2.1) (H.drewN k7)
   have c3:f1.cause= -1:=by simpa using c3
   refine ptr_some ⟨f1.next,by rw[ac];exact hC rfl H rfl (by decide),ptr_some ⟨f1.guess,by rw[ac];exact hC rfl H rfl (by decide),?_⟩⟩;rintro w6 k7 rfl;have H:=H.drewN k7;refine aa (λ c4=>?_) (λ c4=>?_)
   rotate_left
   ·have c4:f1.next=f1.guess:=by simpa using c4
    exact last (λ e=>e.2.2 c4) H
   have c4:f1.next≠f1.guess:=by simpa using c4
   rw[if_pos ⟨hbj,c3,c4⟩] at hcomp;refine H.dr λ w7 H=>ptr_some (ptr_some (ptr_some (ptr_some ⟨_,H.ld 0 rfl rfl,zb f1.mh f1.mt f1.mv,rfl,?_,f1.pc,?_,f1.i.vs,rfl,?_,f1.taken,?_,?_⟩)))
   ·rw[ac];exact gv (f:=f1.fin) (St.fl H hyz)
   ·rw[ac];exact hC rfl H rfl (by decide)
   ·rw[ac];exact je (f:=f1.fin) (St.fl H hyz)
   ·rw[ac];exact hC rfl H rfl (by decide)
   refine gc H z1.2.1 hI1.pr f1.mh f1.mt hu.mv f1.pc f1.i f1.taken λ ps w8 hp2 H=>⟨rfl,H.dr λ w9 H=>ptr_some (ptr_some ⟨f1.seq,?_,f1.next,?_,?_⟩)⟩
   ·rw[ac];exact hC (z:=z1.1.prd _ ps z1.1.pd) rfl H rfl (by decide)
   ·rw[ac];exact hC (z:=z1.1.prd _ ps z1.1.pd) rfl H rfl (by decide)
   have hR2:=z1.2.1.prd hp2;have hI2:Inv A.C (n+65 * m+1) g (z1.1.prd (z1.1.K.pr.back f1.mh f1.mt f1.mv f1.pc f1.i f1.taken) ps z1.1.pd).K:=hI1.restore hu.mv f1.pc f1.i f1.taken;have H:=H.shut;refine H.callx 0 rfl (squash_any (H.nth 0 rfl) hR2 hI2 (by omega) f1.seq f1.next) λ z2 w10 H=>⟨rfl,?_⟩;refine nxt (⟨z2.1,z2.2.1,?_,(hkp.trans z1.2.2.2).trans (z2.2.2.2.pre rfl rfl)⟩:Nx A M (M.K.upto A.C (m+1))) H.open_;rw[z2.2.2.1,hcomp];exact congrArg (λ K:Ko=>(K.restore f1 f1.pc f1.i f1.taken).squash A.C f1.seq f1.next) hz1
  ·have c1:¬ f1.cls=2:=by simpa using c1
   refine ptr_some ⟨f1.cls,by rw[ac];exact hC rfl H rfl (by decide),aa (λ c2=>?_) (λ c2=>?_)⟩
   ·have hbj:f1.bj=true:=by
     have:f1.cls=3:=by simpa using c2
     unfold Fl.bj;rw[this];rfl
    refine ptr_some ⟨f1.cause,by rw[ac];exact hC rfl H rfl (by decide),aa (λ c3=>?_) (λ c3=>?_)⟩
    rotate_left
    ·have c3:¬ f1.cause= -1:=by simpa using c3
     rintro w6 k7 rfl;exact last (λ e=>c3 e.2.1) (H.drewN k7)
    have c3:f1.cause= -1:=by simpa using c3
    refine ptr_some ⟨f1.next,by rw[ac];exact hC rfl H rfl (by decide),ptr_some ⟨f1.guess,by rw[ac];exact hC rfl H rfl (by decide),?_⟩⟩;rintro w6 k7 rfl;have H:=H.drewN k7;refine aa (λ c4=>?_) (λ c4=>?_)
    rotate_left
    ·have c4:f1.next=f1.guess:=by simpa using c4
     exact last (λ e=>e.2.2 c4) H
    have c4:f1.next≠f1.guess:=by simpa using c4
    rw[if_pos ⟨hbj,c3,c4⟩] at hcomp;refine H.dr λ w7 H=>ptr_some (ptr_some (ptr_some (ptr_some ⟨_,H.ld 0 rfl rfl,zb f1.mh f1.mt f1.mv,rfl,?_,f1.pc,?_,f1.i.vs,rfl,?_,f1.taken,?_,?_⟩)))
    ·rw[ac];exact gv (f:=f1.fin) (St.fl H hyz)
    ·rw[ac];exact hC rfl H rfl (by decide)
    ·rw[ac];exact je (f:=f1.fin) (St.fl H hyz)
    ·rw[ac];exact hC rfl H rfl (by decide)
    refine gc H z1.2.1 hI1.pr f1.mh f1.mt hu.mv f1.pc f1.i f1.taken λ ps w8 hp2 H=>⟨rfl,H.dr λ w9 H=>ptr_some (ptr_some ⟨f1.seq,?_,f1.next,?_,?_⟩)⟩
    ·rw[ac];exact hC (z:=z1.1.prd _ ps z1.1.pd) rfl H rfl (by decide)
    ·rw[ac];exact hC (z:=z1.1.prd _ ps z1.1.pd) rfl H rfl (by decide)
    have hR2:=z1.2.1.prd hp2;have hI2:Inv A.C (n+65 * m+1) g (z1.1.prd (z1.1.K.pr.back f1.mh f1.mt f1.mv f1.pc f1.i f1.taken) ps z1.1.pd).K:=hI1.restore hu.mv f1.pc f1.i f1.taken;have H:=H.shut;refine H.callx 0 rfl (squash_any (H.nth 0 rfl) hR2 hI2 (by omega) f1.seq f1.next) λ z2 w10 H=>⟨rfl,?_⟩;refine nxt (⟨z2.1,z2.2.1,?_,(hkp.trans z1.2.2.2).trans (z2.2.2.2.pre rfl rfl)⟩:Nx A M (M.K.upto A.C (m+1))) H.open_;rw[z2.2.2.1,hcomp];exact congrArg (λ K:Ko=>(K.restore f1 f1.pc f1.i f1.taken).squash A.C f1.seq f1.next) hz1
   ·have c2:¬ f1.cls=3:=by simpa using c2
    rintro w6 k7 rfl;exact last (λ e=>by have:=e.1;unfold Fl.bj at this;simp [c1,c2] at this) (H.drewN k7)
def cg (num:Nat) (l:List cbus.Sn):LI:=(l.filter λ s=>decide (s.core=num)&&decide (s.to=0)).map λ s=>(s.addr:Int)
theorem snoop_one (x:cbus.Sn):∀ v ∈ x.cells,v.oneCell'=true:=by
 intro v hv;simp only[cbus.Sn.cells,qp,qFB,or_false] at hv;rcases hv with rfl | rfl | rfl | rfl <;> rfl
theorem Sr (h:(ae A M).at_ W) (hR:M.Rep A) (hI:Inv A.C n [] M.K) (hn:n≤1000000000000){p:OA}{c:Nat}{l:List cbus.Sn} (hs:Sl W 147 4 (.slice p l.length c) l.length (l.flatMap cbus.Sn.cells)) (hu:∀ s ∈ l,s.addr<4294967296) (hlen:l.length≤100) :
  Calls prog 27 #[pZ A.x 0,.slice p l.length c] W λ e w=>∃ z:Nx A M (M.K.snoop A.C l),e=eY #[]/\Sep.Post (ae A M) W (ae A z.1) w:=by
 refine apg A.x 0 p l.length c ⟨λ i q k k2 B=>∃ m:Nat,i=m/\m≤l.length/\k=(cg A.C.num (l.take m)).length/\St W (λ _=>False) B [sl 47 1 (.slice q k k2) k (u32s (cg A.C.num (l.take m)))],λ i _ _ _ _=>l.length - i.toNat,⟨0,rfl,qQ _,rfl,?_⟩,λ _=>?_⟩
 ·exact(St.nil W).add (A:=sl 47 1 (.slice none 0 0) 0 []) ⟨Sl.nil _ _ _,qH _ _,λ q hq=>by cases hq⟩
 rintro i q k k2 w2 ⟨m,rfl,hm,rfl,H⟩;have hh:ba W w2:=H.quiet';have hA2:(ae A M).at_ w2:=(ae A M).keep h hh (λ _ _ e=>e);refine aa (λ q1=>?_) (λ q1=>?_)
 ·have q1:=qB q1
  have hml:m<l.length:=by omega
  obtain⟨s,hse⟩:∃ s,l[m]=s:=⟨_,rfl⟩
  have hls:l[m]?=some s:=by rw[qC hml,hse]
  obtain⟨hcap,g0,o,rfl,hcc⟩:=cbus.sl_cells (hs.keep hh (λ _ _ e=>e)) (by omega)
  have htk:l.take (m+1)=l.take m++[s]:=by rw[qdB hml,hse]
  have hcells:Sx.cellsAt w2 ⟨g0,o+(m:Int).toNat * 4,none⟩ s.cells.toArray:=by
   intro j v hj;rw[ac,qG,Nat.add_assoc];refine hcc _ v ?_
   have hj4:j<4:=by
    have:=(qUB.1 hj).1;exact this
   have key:∀ (l:List cbus.Sn) (m:Nat),l[m]?=some s->(l.flatMap cbus.Sn.cells)[m * 4+j]?=s.cells[j]?:=by
    intro l
    induction l with
    | nil=>intro m hm;cases hm
    | cons x l ih =>
     intro m hm;rw[List.flatMap_cons]
     cases m with
     | zero =>
      cases hm;rw[qk (by show 0 * 4+j<4;omega),Nat.zero_mul,qW]
     | succ m =>
      rw[qf (by show 4≤_;omega)]
      have:(m+1) * 4+j - x.cells.length=m * 4+j:=by show(m+1) * 4+j - 4=_;omega
      rw[this];exact ih m hm
   rw[key l m hls];simpa using hj
  have nxt:∀ {B:wD} {q2:OA} {k3 k4:Nat},k3=(cg A.C.num (l.take (m+1))).length->St W (λ _=>False) B [sl 47 1 (.slice q2 k3 k4) k3 (u32s (cg A.C.num (l.take (m+1))))]->∀ x:Int,x=IntKind.wrap .i64 ((m:Int)+1)->(∃ m':Nat,x=m'/\m'≤l.length/\k3=(cg A.C.num (l.take m')).length/\St W (λ _=>False) B [sl 47 1 (.slice q2 k3 k4) k3 (u32s (cg A.C.num (l.take m')))])/\l.length - x.toNat<l.length - (m:Int).toNat:=by
   rintro B q2 k3 k4 hk H x rfl;rw[w64 (by omega) (by omega)];exact⟨⟨m+1,by omega,by omega,hk,H⟩,by show l.length - ((m:Int)+1).toNat<l.length - (m:Int).toNat;omega⟩
  have hrt:∀ {B:wD} {L:List Asn},St W (λ _=>False) B L->B.cell? ⟨A.x,0+23,none⟩=some (.int .i64 A.C.num):=λ H=>(au ((ae A M).keep h H.touch (λ _ _ e=>e))).ld 0 rfl rfl;refine⟨⟨by omega,q1⟩,adr_some ⟨s.cells.toArray,rfl,hcells,H.al λ k5 w3 H=>?_⟩⟩;refine H.sts0 1 (vs:=s.cells.toArray) rfl rfl rfl (λ v hv=>snoop_one s v (by simpa using hv)) λ w4 H=>⟨(s.core:Nat),H.ld 1 rfl rfl,A.C.num,hrt H,aa (λ c1=>?_) (λ c1=>?_)⟩
  ·have c1:s.core=A.C.num:=by
    have:(s.core:Int)=(A.C.num:Int):=by simpa using c1
    omega
   refine⟨(s.to:Nat),H.ld 1 rfl rfl,?_⟩;rintro w5 k7 rfl;have H:=H.drewN k7;refine aa (λ c2=>?_) (λ c2=>?_)
   ·have c2:s.to=0:=by
     have:(s.to:Int)=0:=by simpa using c2
     omega
    have hln:cg A.C.num (l.take (m+1))=cg A.C.num (l.take m)++[(s.addr:Int)]:=by
     unfold cg;rw[htk,qBB,qV,qj,if_pos (by rw[c1,c2];simp)];rfl
    have hll:(cg A.C.num (l.take m)).length≤100:=by
     unfold cg;rw[qd];refine qVB (List.length_filter_le _ _) ?_;rw[qq];omega
    refine⟨(s.addr:Nat),H.ld 1 rfl rfl,H.al λ k8 w6 H=>?_⟩;refine H.app 0 rfl [.int .u32 (s.addr:Nat)] (.inr ⟨_,rfl,λ j u hj=>H.cells 2 rfl j u (by simpa using hj)⟩) rfl (by intro u hu;simp at hu;subst hu;rfl) (by have:maxLen=2 ^ 63 - 1:=rfl;omega) (by omega) λ p' c' w7 H=>?_;have H:=H.take 1;refine nxt (by rw[hln,qP];rfl) ?_;rw[hln]
    have e:u32s (cg A.C.num (l.take m)++[(s.addr:Int)])=u32s (cg A.C.num (l.take m))++[.int .u32 (s.addr:Nat)]:=by unfold u32s;rw[qV];rfl
    rw[e];exact H
   ·have c2:¬ s.to=0:=λ e=>by rw[e] at c2;simp at c2
    have hln:cg A.C.num (l.take (m+1))=cg A.C.num (l.take m):=by
     unfold cg;rw[htk,qBB,qV,qj,if_neg (by simp [c2])];simp
    refine nxt (by rw[hln]) ?_;rw[hln];exact H.take 1
  ·have c1:¬ s.core=A.C.num:=λ e=>by rw[e] at c1;simp at c1
   rintro w5 k7 rfl;have H:=H.drewN k7
   have hln:cg A.C.num (l.take (m+1))=cg A.C.num (l.take m):=by
    unfold cg;rw[htk,qBB,qV,qj,if_neg (by simp [c1])];simp
   refine nxt (by rw[hln]) ?_;rw[hln];exact H.take 1
 ·have q1:=qE q1;have hmd:l.take m=l:=qGB (by omega);rw[hmd] at H ⊢;have H0:=(St.begin h).quiet hh
  have hll:(cg A.C.num l).length≤1000:=by
   unfold cg;rw[qd];exact qVB (List.length_filter_le _ _) (by omega)
  have hul:∀ x ∈ cg A.C.num l,U32 x:=by
   intro x hx;unfold cg at hx;obtain⟨s,hs1,rfl⟩:=qCB.1 hx;have:=hu s (qrB.1 hs1).1;exact⟨by omega,by omega⟩
  exact H0.callx 0 rfl (spoil_any (H0.nth 0 rfl) hR hI hn (H.nth 0 rfl) hul hll) λ z w9 H=>⟨rfl,z,rfl,H.post 0 rfl⟩
variable {W w:wD}{A:Ka}{M M':Km}{L:List Asn}{b j n:Nat}{f f' f1 f2:Fl}{g:List Fl}{S:Nat->Prop}
theorem Inv.storeQ {C:Kc}{K:Ko}{i:Nat} (h:Inv C n g K) (hi:K.fls[i]?=some f) (hc:f.cls=5) (hz0:((f.beg (K.cycle+1)).reach (K.val f.a) C.dlen).cause= -1) :
  Inv C (n+1) g { K with fls:=K.fls.set i ((f.beg (K.cycle+1)).reach (K.val f.a) C.dlen),evs:=K.evs++[⟨C.num,K.cycle,2,f.seq,f.pc,Rt.z⟩],q:=jr (dz K.q f.seq ((f.beg (K.cycle+1)).reach (K.val f.a) C.dlen).addr.toNat (alu.sizeF f.i.op)).1 f.seq (K.val f.b).toNat }:=by
 have hfm:=h.mem hi;have ho:=h.fo f hfm
 have hm:f.mem=true:=by unfold Fl.mem;rw[qI hc,Bool.or_true]
 have hva:=h.valU f.a;have hvb:=h.valU f.b;obtain⟨f1,ef1⟩:∃ f1,(f.beg (K.cycle+1)).reach (K.val f.a) C.dlen=f1:=⟨_,rfl⟩
 have k1:Keep f f1:=by rw[<- ef1];exact⟨rfl,rfl,rfl,rfl,rfl,rfl,rfl⟩
 have o0:FlOk (f.beg (K.cycle+1)):={ ho with di:=λ _=>rfl,fw:=ho.fw }
 have o1:FlOk f1:=by rw[<- ef1];exact o0.reach hva C.dlen
 have d1:f1.done=f.done:=by rw[<- ef1];rfl
 have c1:f1.cls=5:=by rw[k1.cls];exact hc
 have addE:∀ {q:List lsq.En},Inv C n g { K with fls:=K.fls.set i f1,q:=q }->Inv C (n+1) g { K with fls:=K.fls.set i f1,q:=q,evs:=K.evs++[⟨C.num,K.cycle,2,f.seq,f.pc,Rt.z⟩] }:=λ hh=>hh.tell 2 f Rt.z;have hil:=(qD.1 hi).1;rw[ef1] at hz0 ⊢;have hz:f1.cause= -1:=hz0
 have hfit:Fit f1:=by rw[<- ef1] at hz ⊢;exact iq h.cf o0 hva (by rw[show(f.beg (K.cycle+1)).cls=5 from hc];decide) hz
 obtain⟨k,e,hk,hmr,hx⟩:=h.qo.idx (qK.2 ⟨i,hi⟩) hm;have ee:e ∈ K.q:=qK.2 ⟨k,hk⟩;have oe:=h.qo.ok e ee
 have hx1:qix K.q f1.seq=some k:=by rw[k1.seq];exact hx
 obtain⟨z1, -, -, -,z5⟩:=yg o1.addr hfit.1 hfit.2
 have hst:e.store=true:=by rw[hmr.st];exact qI hc
 have hQ:∃ e2,jr (dz K.q f1.seq f1.addr.toNat (alu.sizeF f1.i.op)).1 f1.seq (K.val f1.b).toNat=K.q.set k e2/\e2.seq=e.seq/\e2.retired=false/\e2.Ok/\e2.store=e.store/\e2.placed=true/\e2.valued=true:=by
  rw[Cn hk hx1 hfit.1 z1]
  have dok:(K.val f1.b).toNat<4294967296:=by have:=h.valU f1.b;unfold U32 at this;omega
  by_cases hp:e.placed=true
  ·rw[if_pos hp];simp only;rw[sx hk hx1];by_cases hv:e.valued=true
   ·rw[if_pos (.inr hv)];refine⟨e,?_,rfl,hmr.nr,oe,rfl,hp,hv⟩;apply qEB;intro j;rw[qn];split
    ·rename_i ej;subst ej;rw[if_pos (qD.1 hk).1,hk]
    ·rfl
   ·rw[if_neg (by rintro(x | x);(rw[hst] at x;cases x);exact hv x)];exact⟨_,rfl,rfl,hmr.nr,{ oe with data:=dok,ret:=λ x=>by have x:e.retired=true:=x;rw[hmr.nr] at x;cases x },rfl,hp,rfl⟩
  ·rw[if_neg hp];simp only
   have hp:e.placed=false:=by cases x:e.placed;rfl;exact absurd x hp
   have hkl:=(qD.1 hk).1
   have hk2:(K.q.set k (ic e f1.addr.toNat (alu.sizeF f1.i.op).toNat))[k]?=some (ic e f1.addr.toNat (alu.sizeF f1.i.op).toNat):=by rw[qO hkl]
   have hx2:qix (K.q.set k (ic e f1.addr.toNat (alu.sizeF f1.i.op).toNat)) f1.seq=some k:=by
    have:=Hp (e':=ic e f1.addr.toNat (alu.sizeF f1.i.op).toNat) h.qo.srt hk rfl hmr.nr;rw[hmr.seq,<- k1.seq] at this;exact this
   have oe2:=yh oe hmr.nr (.inl (lu oe hp)) hp o1.addr hfit.1 hfit.2;rw[sx hk2 hx2];by_cases hv:e.valued=true
   ·rw[if_pos (.inr hv)];exact⟨_,rfl,rfl,hmr.nr,oe2,rfl,rfl,hv⟩
   ·rw[if_neg (by rintro(x | x);(rw[show(ic e f1.addr.toNat (alu.sizeF f1.i.op).toNat).store=e.store from rfl,hst] at x;cases x);exact hv x),qWB];exact⟨_,rfl,rfl,hmr.nr,{ oe2 with data:=dok,ret:=λ x=>by have x:e.retired=true:=x;rw[hmr.nr] at x;cases x },rfl,rfl,rfl⟩
 obtain⟨e2,hq2,s2,r2,o2,t2,p2,v2⟩:=hQ;have hmr2:MR e2 f1:=⟨by rw[s2,k1.seq];exact hmr.seq,r2,by rw[t2,k1.cls];exact hmr.st,λ y=>absurd (c1.symm.trans y) (by decide),λ y=>absurd (c1.symm.trans y) (by decide),λ _ _ _=>⟨p2,v2⟩⟩;have hI:=addE (h.upd hi k1 d1 o1 (h.qo.set2 h.sqk hk hi hm hmr s2 r2 o2 k1 hmr2))
 have hq3:jr (dz K.q f.seq f1.addr.toNat (alu.sizeF f.i.op)).1 f.seq (K.val f.b).toNat=K.q.set k e2:=by
  rw[<- hq2,k1.seq,k1.i,k1.b]
 rw[hq3];exact hI
theorem Ms:(M.setB b f1).setB b f2=M.setB b f2:=by
 unfold Km.setB ko.setB;dsimp only;rw[List.map_map];congr 1;apply qlB;intro y _;show(if (if y.1=b then (b,f1) else y).1=b then (b,f2) else (if y.1=b then (b,f1) else y))=_;by_cases e:y.1=b
 ·rw[if_pos e,if_pos rfl,if_pos e]
 ·rw[if_neg e,if_neg e]
theorem nf (H:St W S w ((M.setB b f1).pieces A++L)) (hn:(M.fl.map (·.1)).Nodup) (hy:(b,f) ∈ M.fl){i:Nat}{v:Value} (f2:Fl) (hc:f1.cells.setIfInBounds i v=f2.cells) (hi:i<28){φ:wD->Prop} (hq:∀ w',St W S w' ((M.setB b f2).pieces A++L)->φ w') :
  (∃ u,w.cell? ⟨b,i,none⟩=some u)/\w.frozen? ⟨b,i,none⟩=false/\∀ w',w'=w.setCell ⟨b,i,none⟩ v->φ w':=by
 refine th H (by show((ko.setB M.fl b _).map (·.1)).Nodup;rw[yk];exact hn) (im hy f1) f2 hc hi λ w' H=>hq w' ?_;rw[Ms] at H;exact H
theorem ci (H:St W S w ((M.setB b f1).pieces A++L)) (hy:(b,f) ∈ M.fl){i:Nat}{v:Value} (hv:f1.cells[i]?=some v):w.cell? ⟨b,i,none⟩=some v:=(St.fl H (im hy f1)).cell' hv
theorem Ss (H:St W S w ((M.setB b f1).pieces A++L)) (hy:(b,f) ∈ M.fl){i:Ins} (he:f1.i=i):Sx.cellsAt w ⟨b,0+3,none⟩ i.vs:=he ▸ je (St.fl H (im hy f1))
theorem Zc (H:St W (ae A M).own w ((M.setB b f').pieces A++L)) (hR:M.Rep A) (hb:M.fs[j]?=some b) (hf:M.K.fls[j]?=some f) (hs:dh f'=dh f){K':Ko} (hK:M.K.setf j f'=K') :
  ∃ z:Nx A M K',Sep.Post (ae A M) W (ae A z.1) w :=
 ⟨⟨{ M.setB b f' with K:=M.K.setf j f' },hR.setf hb hf hs,hK,Kept.setf (f':=f') hR.fn hb (hR.fl j b f hb hf) (congrArg win.Slot.seq hs) rfl rfl⟩,aq (M':={ M.setB b f' with K:=M.K.setf j f' }) H⟩
theorem oq (H:St W S w ((M.setB b f1).pieces A++L)) (hn:(M.fl.map (·.1)).Nodup) (hy:(b,f) ∈ M.fl){Q:wD->Prop} (hq:∀ w',St W S w' ((M.setB b f1.fault).pieces A++L)->Q w') :
  ∃ z:Int,w.cell? ⟨b,0+18,none⟩=some (.int .u32 z)/\∀ z2:Int,z2=IntKind.wrap .u32 (((BitVec.toNat (bZ .u32 z &&&bZ .u32 3)):Nat):Int)->Sx.split (z2 !=0)
   (∃ z3:Int,w.cell? ⟨b,0+18,none⟩=some (.int .u32 z3)/\(∃ v,w.cell? ⟨b,0+20,none⟩=some v)/\w.frozen? ⟨b,0+20,none⟩=false/\∀ w2:wD,w2=w.setCell ⟨b,0+20,none⟩ (.int .i64 0) ->
    (∃ v,w2.cell? ⟨b,0+21,none⟩=some v)/\w2.frozen? ⟨b,0+21,none⟩=false/\∀ w3:wD,w3=w2.setCell ⟨b,0+21,none⟩ (.int .u32 z3)->Q w3) (Q w):=by
 refine⟨f1.next,ci H hy rfl,?_⟩;rintro z2 rfl;refine aa (λ q=>?_) (λ q=>?_)
 ·have q2:(ik f1.next 3 !=0)=true:=q
  have q:ik f1.next 3≠0:=by simpa using q2
  refine⟨f1.next,ci H hy rfl,?_⟩;refine nf H hn hy { f1 with cause:=0 } rfl (by decide) λ w2 H=>?_;refine nf H hn hy { f1 with cause:=0,tval:=f1.next } rfl (by decide) λ w3 H=>hq w3 ?_;unfold Fl.fault;rw[if_pos q];exact H
 ·have q2:(ik f1.next 3 !=0)=false:=q
  have q:ik f1.next 3=0:=by simpa using q2
  refine hq w ?_;unfold Fl.fault;rw[if_neg (λ e=>e q)];exact H
theorem Sv (f:Fl) (a b:Int):dh (f.comp a b)=dh f:=by
 obtain⟨h1,h2,h3⟩:=Fl.comp_keep f a b;unfold dh Fl.st;rw[h1.cls,h1.a,h1.b,h1.fresh,h1.seq,h2,h3]
theorem Hy (h:(ae A M).at_ W) (hR:M.Rep A) (hI:Inv A.C n g M.K) (hf:M.K.fls[j]?=some f) (hb:M.fs[j]?=some b) (hm:f.mem=false) :
  Calls prog 65 #[pZ A.x 0,pZ b 0] W λ e w=>∃ z:Nx A M (M.K.compute j),e=eY #[]/\Sep.Post (ae A M) W (ae A z.1) w:=by
 have H:=au h;have hy:=hR.fl j b f hb hf;have hsr:=hI.src (hI.mem hf);have hva:=hI.valU f.a;have hvb:=hI.valU f.b;have hpc:=(hI.fo f (hI.mem hf)).pc;have hcr:=Fb f.i.op;have hcls:=(hI.fo f (hI.mem hf)).cls;have hn:=hR.fn
 have hK:M.K.setf j (f.comp (M.K.val f.a) (M.K.val f.b))=M.K.compute j:=by unfold Ko.compute;rw[bi hf]
 have val:∀ {B:wD} (k:Nat) {p:Int},St W (ae A M).own B (M.pieces A++[])->p<A.C.R->Calls prog 102 #[pZ A.x 0,.int .i64 p] (B.drewN k) λ e w=>e=eZ (.int .u32 (M.K.val p))/\∃ k2,w=B.drewN k2:=λ k p H hp=>(value_any ((H.drewN k).shut.nth 0 rfl) hI.vl hp).mono λ e w hw=>⟨hw.1,k,hw.2⟩
 have fin:∀ {B:wD} {L:List Asn},St W (ae A M).own B ((M.setB b (f.comp (M.K.val f.a) (M.K.val f.b))).pieces A++L)->∃ z:Nx A M (M.K.compute j),eY #[]=eY #[]/\Sep.Post (ae A M) W (ae A z.1) B:=λ H=>by
  obtain⟨z,hz⟩:=Zc H hR hb hf (Sv _ _ _) hK;exact⟨z,rfl,hz⟩
 have tb:∀ {B:wD} {M2:Km} {L:List Asn},St W (ae A M).own B (M2.pieces A++L)->Tabs A.B.heap.size B:=λ H=>(H.nth 1 rfl:(br A.B).at_ _).1;refine api A.x 0 b 0 ⟨f.a,(St.fl H hy).cell' rfl,M.K.val f.a,λ k=>val k H hsr.1.2,f.b,(St.fl H hy).cell' rfl,M.K.val f.b,λ k=>val k H hsr.2.2,?_⟩;rintro w4 k5 rfl;have H:=H.drewN k5;refine⟨f.pc,(St.fl H hy).cell' rfl,?_⟩;rintro z6 rfl;refine th H hn hy { f with next:=p4 f.pc } rfl (by decide) λ w5 H=>⟨f.cls,ci H hy rfl,aa (λ c1=>?_) (λ c1=>aa (λ c2=>?_) (λ c2=>?_))⟩
 ·have c1:f.cls=2:=by simpa using c1
  refine⟨f.i.op,ci H hy rfl,H.callp (abq f.i.op hva hvb w5) ⟨_,rfl,?_⟩⟩;refine nf H hn hy { f with next:=p4 f.pc,taken:=alu.takenF f.i.op (M.K.val f.a) (M.K.val f.b) } rfl (by decide) λ w7 H=>⟨_,ci H hy rfl,aa (λ q=>?_) (λ q=>?_)⟩
  ·refine H.dr λ w8 H=>⟨f.i.vs,rfl,Ss H hy rfl,f.pc,ci H hy rfl,H.callq (Iu f.i f.pc (M.K.val f.a) w8) λ w9 H=>⟨_,rfl,?_⟩⟩;refine nf H hn hy { f with next:=ui f.i.op f.i.imm f.pc (M.K.val f.a),taken:=alu.takenF f.i.op (M.K.val f.a) (M.K.val f.b) } rfl (by decide) λ w10 H=>oq H hn hy λ w11 H=>fin (L:=[]) ?_;unfold Fl.comp;rw[if_pos c1,if_pos q];exact H
  ·refine oq H hn hy λ w11 H=>fin (L:=[]) ?_;unfold Fl.comp;have q:alu.takenF f.i.op (M.K.val f.a) (M.K.val f.b)=false:=q;rw[if_pos c1,if_neg (by rw[q];decide)];exact H
 ·have c1:¬ f.cls=2:=by simpa using c1
  have c2:f.cls=3:=by simpa using c2
  refine⟨p4 f.pc,ci H hy rfl,?_⟩;refine nf H hn hy { f with next:=p4 f.pc,value:=p4 f.pc } rfl (by decide) λ w7 H=>?_;refine nf H hn hy { f with next:=p4 f.pc,value:=p4 f.pc,taken:=true } rfl (by decide) λ w8 H=>H.dr λ w9 H=>⟨f.i.vs,rfl,Ss H hy rfl,f.pc,ci H hy rfl,H.callq (Iu f.i f.pc (M.K.val f.a) w9) λ w10 H=>⟨_,rfl,?_⟩⟩;refine nf H hn hy { f with next:=ui f.i.op f.i.imm f.pc (M.K.val f.a),value:=p4 f.pc,taken:=true } rfl (by decide) λ w11 H=>oq H hn hy λ w12 H=>fin (L:=[]) ?_;unfold Fl.comp;rw[if_neg c1,if_pos c2];exact H
 ·have c1:¬ f.cls=2:=by simpa using c1
  have c2:¬ f.cls=3:=by simpa using c2
  have hop:=Ra f.i.op f.i.imm hpc hva hvb;refine H.dr λ w6 H=>⟨f.i.vs,rfl,Ss H hy rfl,f.pc,ci H hy rfl,H.callq (Vj (tb H) f.i f.pc (M.K.val f.a) (M.K.val f.b)) λ w7 H=>⟨_,_,rfl,f.i.op,ci H hy rfl,H.callq (afx f.i.op hop.1 hop.2 w7) λ w8 H=>⟨_,rfl,?_⟩⟩⟩;refine nf H hn hy { f with next:=p4 f.pc,value:=alu.execF f.i.op (ov f.i.op f.i.imm f.pc (M.K.val f.a) (M.K.val f.b)).1 (ov f.i.op f.i.imm f.pc (M.K.val f.a) (M.K.val f.b)).2 } rfl (by decide) λ w9 H=>oq H hn hy λ w10 H=>fin (L:=[]) ?_;unfold Fl.comp;rw[if_neg c1,if_neg c2];exact H
theorem Mu (f:Fl) (a d:Int):dh (f.reach a d)=dh f:=rfl
theorem ut (h:(ae A M).at_ W) (hR:M.Rep A) (hvl:M.K.vals.length=A.C.R) (ha:f.a<A.C.R) (hf:M.K.fls[j]?=some f) (hb:M.fs[j]?=some b) :
  Calls prog 108 #[pZ A.x 0,pZ b 0] W λ e w=>∃ z:Nx A M (M.K.reach A.C j),e=eZ (.bool ((f.reach (M.K.val f.a) A.C.dlen).cause== -1))/\Sep.Post (ae A M) W (ae A z.1) w:=by
 have hy:=hR.fl j b f hb hf;have hn:=hR.fn
 have hK:M.K.setf j (f.reach (M.K.val f.a) A.C.dlen)=M.K.reach A.C j:=by unfold Ko.reach;rw[bi hf]
 have tb:∀ {B:wD} {M2:Km} {L:List Asn},St W (ae A M).own B (M2.pieces A++L)->Tabs A.B.heap.size B:=λ H=>(H.nth 1 rfl:(br A.B).at_ _).1;refine ala A.x 0 b 0 ((au h).dr λ w2 H=>⟨f.i.vs,rfl,je (St.fl H hy),f.a,(St.fl H hy).cell' rfl,(value_any (H.shut.nth 0 rfl) hvl ha).mono ?_⟩);rintro e w3 ⟨rfl,rfl⟩;refine⟨_,rfl,Below.refl _ _,H.callq (Pj (tb H) f.i (M.K.val f.a)) λ w4 H=>⟨_,rfl,?_⟩⟩;refine th H hn hy { f with addr:=fq f.i.op f.i.imm (M.K.val f.a) } rfl (by decide) λ w5 H=>⟨f.pc,ci H hy rfl,?_⟩;rintro z5 rfl;refine nf H hn hy { f with addr:=fq f.i.op f.i.imm (M.K.val f.a),next:=p4 f.pc } rfl (by decide) λ w6 H=>H.dr λ w7 H=>⟨f.i.op,ci H hy rfl,fq f.i.op f.i.imm (M.K.val f.a),ci H hy rfl,A.C.dlen,H.ld 0 rfl rfl,H.callq (Pk (tb H) f.i.op (fq f.i.op f.i.imm (M.K.val f.a)) A.C.dlen) λ w8 H=>⟨_,rfl,?_⟩⟩;refine nf H hn hy { f with addr:=fq f.i.op f.i.imm (M.K.val f.a),next:=p4 f.pc,cause:=ff f.i.op (fq f.i.op f.i.imm (M.K.val f.a)) A.C.dlen } rfl (by decide) λ w9 H=>⟨fq f.i.op f.i.imm (M.K.val f.a),ci H hy rfl,?_⟩;refine nf H hn hy (f.reach (M.K.val f.a) A.C.dlen) rfl (by decide) λ w10 H=>⟨ff f.i.op (fq f.i.op f.i.imm (M.K.val f.a)) A.C.dlen,ci H hy rfl,?_⟩;obtain⟨z,hz⟩:=Zc H hR hb hf (Mu _ _ _) hK;exact⟨z,rfl,hz⟩
end Go.Proofs.YtmncepdbglaphaaGreatDoor.ko
