/- A part of the walk. No condition. -/
import Derived.Test.YtmncepdbglaphaaGreatDoorKpX
set_option linter.unusedVariables false
namespace Go.Proofs.YtmncepdbglaphaaGreatDoor.ko
open Go.RowKit Go.XHeap Go.Sx Go.Sep Go.Proofs.Tryz
variable {C:Kc}{n m:Nat}{g:List Fl}{K:Ko}{f f':Fl}{i:Nat}
def db (r:List Bool) (f:Fl):List Bool:=if 0≤f.fresh then r.set f.fresh.toNat true else r
def Fc (C:Kc) (cy:Int) (f:Fl):Ev:=⟨C.num,cy,5,f.seq,f.pc,Rt.z⟩
theorem agt:∀ (ds:List Fl) (K:Ko),ds.foldl (Ko.drop1 C) K={ K with nm:=ds.foldl ck K.nm,rdy:=ds.foldl db K.rdy,evs:=K.evs++ds.map (Fc C K.cycle) }
 | [],K=>by simp
 | f::ds,K=>by
  rw[qKB,agt ds];unfold Ko.drop1;by_cases e:0≤f.fresh
  ·rw[if_pos e];simp only[qKB,ck,db,if_pos e,Ko.tell,Ko.wake,quB,ql,List.singleton_append];rfl
  ·rw[if_neg e];simp only[qKB,ck,db,if_neg e,Ko.tell,quB,ql,List.singleton_append];rfl
theorem py:∀ (ds:List Fl) (r:List Bool),(ds.foldl db r).length=r.length
 | [],_=>rfl
 | f::ds,r=>by
  rw[qKB,py ds];unfold db;split
  ·rw[qJ]
  ·rfl
theorem ye {R:Nat}:∀ (ds:List Fl) (r:List Bool),r.length=R->(∀ f ∈ ds,0≤f.fresh->rng R f.fresh)->∀ p,rng R p ->
  ((ds.foldl db r).getD p.toNat false=false↔r.getD p.toNat false=false/\∀ f ∈ ds,f.fresh≠p)
 | [],r,_,_,p,_=>by simp
 | f::ds,r,hr,hf,p,hp=>by
  have hl:(db r f).length=R:=by
   have:=py [f] r;rw[qKB,List.foldl_nil] at this;rw[this];exact hr
  rw[qKB,ye ds _ hl (λ x hx=>hf x (qXB _ hx)) p hp]
  have e:(db r f).getD p.toNat false=false↔r.getD p.toNat false=false/\f.fresh≠p:=by
   unfold db;by_cases h0:0≤f.fresh
   ·have hfr:=hf f (qg ..) h0;rw[if_pos h0,yd,hr];by_cases e:f.fresh=p
    ·subst e;rw[if_pos ⟨rfl,by unfold rng at hp;omega⟩];simp
    ·rw[if_neg (λ x=>by have:=x.1;unfold rng at hp hfr;omega)];simp [e]
   ·rw[if_neg h0]
    have:f.fresh≠p:=by unfold rng at hp;omega
    simp [this]
  rw[e,and_assoc];simp
theorem ib {l:List Fl} (h:l.Pairwise (λ a b=>a.seq<b.seq)) (after:Int):l=l.filter (λ f=> !decide (after<f.seq))++l.filter (λ f=>decide (after<f.seq)):=by
 induction l with
 | nil=>rfl
 | cons f l ih =>
  have hp:=List.pairwise_cons.1 h;by_cases e:after<f.seq
  ·have e1:∀ x ∈ l,after<x.seq:=λ x hx=>Int.lt_trans e (hp.1 x hx);have e2:l.filter (λ f=> !decide (after<f.seq))=[]:=List.filter_eq_nil_iff.2 (λ x hx=>by simp [e1 x hx]);have e3:l.filter (λ f=>decide (after<f.seq))=l:=List.filter_eq_self.2 (λ x hx=>qI (e1 x hx));rw[qj,qj,if_neg (by simp [e]),if_pos (qI e),e2,e3];rfl
  ·rw[qj,qj,if_pos (by simp [e]),if_neg (by simp [e]),qAC,<- ih hp.2]
def Ko.live (K:Ko) (after:Int):List Fl:=K.fls.filter (λ f=> !decide (after<f.seq))
def Ko.dead (K:Ko) (after:Int):List Fl:=K.fls.filter (λ f=>decide (after<f.seq))
theorem yf (K:Ko) (after pc:Int):K.squash C after pc={ K with q:=K.q.filter (lsq.keepP after),nm:=(K.dead after).reverse.foldl ck K.nm,rdy:=(K.dead after).reverse.foldl db K.rdy,evs:=K.evs++(K.dead after).reverse.map (Fc C K.cycle),fls:=K.live after,pc:=pc,idle:=false }:=by
 unfold Ko.squash;simp only;rw[agt];rfl
theorem keepP_iff {after:Int}{e:lsq.En}:lsq.keepP after e=true↔(e.retired=true∨e.seq≤after):=by
 unfold lsq.keepP;cases e.retired <;> simp
theorem Inv.squash (h:Inv C n g K) (after:Int){pc:Int} (hpc:U32 pc):Inv C (n+64) g (K.squash C after pc):=by
 have hs:=ib h.sqk after;have hs:K.fls=K.live after++K.dead after:=hs
 have hlive:∀ x,x ∈ K.live after↔x ∈ K.fls/\x.seq≤after:=λ x=>by unfold Ko.live;simp [qrB]
 have hdead:∀ x,x ∈ K.dead after↔x ∈ K.fls/\after<x.seq:=λ x=>by unfold Ko.dead;simp [qrB]
 have hlen:(K.dead after).length≤64:=by
  have h1:(K.dead after).length≤K.fls.length:=List.length_filter_le _ _;have h2:=h.wn;have h3:=h.cf.wn;unfold Kc.W at h2;omega
 have eg:g++K.fls=(g++K.live after)++K.dead after:=by rw[ql,<- hs]
 have hd:=pv (R:=C.R) (l1:=g++K.live after) (K.dead after).reverse (N:=K.nm) (by rw[qQB,<- eg];exact h.nm) (by rw[qQB,<- eg];exact h.lk);rw[qQB] at hd;obtain⟨hd1,hd2,hd3⟩:=hd;have hlk:=h.lk;rw[eg,Lk_app] at hlk;have hfr:∀ x ∈ (K.dead after).reverse,0≤x.fresh->rng C.R x.fresh:=λ x hx h0=>(h.fresh (qL _ ((hdead x).1 (List.mem_reverse.1 hx)).1) h0).1
 have hsub:∀ x ∈ g++K.live after,x ∈ g++K.fls:=λ x hx=>by rw[eg];exact qt _ hx
 rw[yf];refine { h with nm:=hd1,lk:=by show Lk ((K.dead after).reverse.foldl ck K.nm).names (g++K.live after);rw[hd2];exact hlk.1,rl:=by show((K.dead after).reverse.foldl db K.rdy).length=_;rw[py];exact h.rl,rd:=λ p hp=>?_,fo:=λ x hx=>h.fo x (hsub x hx),sq:=?_,sb:=λ x hx=>h.sb x (hsub x hx),wn:=?_,qo:=?_,pc:=hpc,bu:=cbus.Ok.mono h.bu (Nat.le_add_right _ _),ev:=?_,ou:=qVB h.ou (Nat.le_add_right _ _),wr:=qVB h.wr (Nat.le_add_right _ _),nx:=qVB h.nx (Nat.le_add_right _ _) }
 ·show((K.dead after).reverse.foldl db K.rdy).getD p.toNat false=false↔∃ f ∈ K.live after,f.fresh=p/\f.done=false;rw[ye _ _ h.rl hfr p hp,h.rd p hp];constructor
  ·rintro⟨⟨x,hx,e1,e2⟩,hn⟩;refine⟨x,(hlive x).2 ⟨hx,?_⟩,e1,e2⟩;refine Int.not_lt.1 λ hlt=>?_;exact hn x (List.mem_reverse.2 ((hdead x).2 ⟨hx,hlt⟩)) e1
  ·rintro⟨x,hx,e1,e2⟩;refine⟨⟨x,((hlive x).1 hx).1,e1,e2⟩,λ y hy e=>?_⟩;have hy:=List.mem_reverse.1 hy
   have h0:0≤y.fresh:=by rw[e];exact hp.1
   have h0x:0≤x.fresh:=by rw[e1];exact hp.1
   have hyf:y.fresh ∈ ((K.dead after).reverse.foldl ck K.nm).free:=by rw[hd3];exact qt _ (Ak hy h0)
   have hu:=(hd1.uf _ hyf).2;rw[e,<- e1] at hu
   have hl2:Lk ((K.dead after).reverse.foldl ck K.nm).names (g++K.live after):=by rw[hd2];exact hlk.1
   rcases Jo hd1.n32 hl2 x (qL _ hx) h0x with hm | hm
   ·have:=(hd1.mem hm).2;omega
   ·have:=(hd1.uo _ hm).2;omega
 ·have:=h.sq;rw[eg] at this;exact(List.pairwise_append.1 this).1
 ·exact qVB (List.length_filter_le _ _) h.wn
 ·have hq:=h.qo
  have hk:∀ e,e ∈ K.q.filter (lsq.keepP after)↔e ∈ K.q/\(e.retired=true∨e.seq≤after):=λ e=>by rw[qrB,keepP_iff]
  refine⟨qVB (List.length_filter_le _ _) hq.len,λ e he=>hq.ok e ((hk e).1 he).1,hq.srt.filter _,λ e he hr x hx=>hq.old e ((hk e).1 he).1 hr x (hsub x hx),λ e he=>hq.nx e ((hk e).1 he).1,λ e he hr=>?_,λ x hx hxm=>?_⟩
  ·obtain⟨he,hor⟩:=(hk e).1 he;obtain⟨x,hx,hxm,hmr⟩:=hq.ef e he hr;refine⟨x,?_,hxm,hmr⟩;rcases qc.1 hx with hx | hx
   ·exact qt _ hx
   ·refine qL _ ((hlive x).2 ⟨hx,?_⟩);rcases hor with hor | hor
    ·rw[hor] at hr;cases hr
    ·rw[<- hmr.seq];exact hor
  ·obtain⟨hx,hs⟩:=(hlive x).1 hx;obtain⟨e,he,hmr⟩:=hq.fe x hx hxm;exact⟨e,(hk e).2 ⟨he,.inr (by rw[hmr.seq];exact hs)⟩,hmr⟩
 ·show(K.evs++_).length≤n+64;rw[qP,qd,List.length_reverse];have:=h.ev;omega
theorem Inv.restore (h:Inv C n g K) (hf:U32 f.mv) (pc:Int) (i:Ins) (t:Bool):Inv C n g (K.restore f pc i t):={ h with pr:=h.pr.back hf pc i t }
theorem Inv.again (h:Inv C n g K) (hf:FlOk f):Inv C (n+64) g (K.again C f):=(h.restore hf.mv f.pc zeroI false).squash _ hf.pc
theorem Inv.spoil (h:Inv C n g K) (ls:LI):Inv C (n+64) g (K.spoil C ls):=by
 unfold Ko.spoil;split
 ·split
  ·rename_i i hi;obtain⟨f,hf, -⟩:=Cl hi;rw[bi hf];exact h.again (h.fo f (h.mem hf))
  ·exact h.up (Nat.le_add_right _ _)
 ·exact h.up (Nat.le_add_right _ _)
theorem Inv.snoop (h:Inv C n g K) (l:List cbus.Sn):Inv C (n+64) g (K.snoop C l):=h.spoil _
theorem Inv.comp1 (h:Inv C n g K) (s:Int):Inv C (n+65) g (K.comp1 C s):=by
 unfold Ko.comp1;split
 ·exact h.up (Nat.le_add_right _ _)
 ·rename_i i hi;obtain⟨f,hf, -⟩:=Cl hi;simp only;rw[bi hf];split
  ·exact h.up (Nat.le_add_right _ _)
  ·rename_i hn
   have his:f.issued=true:=by
    cases e:f.issued
    ·exact absurd (.inl e) hn
    ·rfl
   have h1:=h.finish (C:=C) hf his;split
   ·exact(h1.restore (h.fo f (h.mem hf)).mv f.pc f.i f.taken).squash f.seq (h.fo f (h.mem hf)).next
   ·exact h1.up (by omega)
theorem Inv.comps (h:Inv C n g K):∀ (l:LI),Inv C (n+65 * l.length) g (l.foldl (Ko.comp1 C) K):=by
 intro l
 induction l generalizing n K with
 | nil=>exact h
 | cons s l ih =>
  rw[qKB];exact(ih (h.comp1 s)).up (by rw[qy];omega)
theorem Inv.complete (h:Inv C n g K):Inv C (n+65 * 64) g (K.complete C):=by
 have h2:=h.wn;have h3:=h.cf.wn;unfold Kc.W at h2;exact(h.comps _).up (by rw[qd];omega)
variable {C:Kc}{n m:Nat}{g:List Fl}{K:Ko}{f f':Fl}{i k:Nat}{q:List lsq.En}{e e':lsq.En}{l:List Fl}{S nx:Nat}
theorem su (h:q.Pairwise (λ a b=>a.seq<b.seq)){i j:Nat}{e e':lsq.En} (hi:q[i]?=some e) (hj:q[j]?=some e') (es:e.seq=e'.seq):i=j:=by
 obtain⟨h1,rfl⟩:=qD.1 hi;obtain⟨h2,rfl⟩:=qD.1 hj;rcases Nat.lt_trichotomy i j with h3 | h3 | h3
 ·have:=qZB.1 h i j h1 h2 h3;omega
 ·exact h3
 ·have:=qZB.1 h j i h2 h1 h3;omega
theorem Yq (h:q.Pairwise (λ a b=>a.seq<b.seq)) (hk:q[k]?=some e) (hr:e.retired=false):qix q e.seq=some k:=by
 have hk':=qD.1 hk;unfold qix;rw[qv];refine⟨hk'.1,by rw[hk'.2];unfold lsq.findP;simp [hr],λ j hj=>?_⟩;have hjl:j<q.length:=Nat.lt_trans hj hk'.1;intro ht
 have ht:q[j].seq=e.seq:=by
  unfold lsq.findP at ht;simp only[qU,beq_iff_eq] at ht;exact ht.1
 have:=su h (qC hjl) hk ht;omega
theorem getD_at {q:List lsq.En} (hk:q[k]?=some e):q.getD k default=e:=by grind
theorem QOk.idx (h:QOk q g l S nx) (hf:f ∈ l) (hm:f.mem=true):∃ k e,q[k]?=some e/\MR e f/\qix q f.seq=some k:=by
 obtain⟨e,he,hmr⟩:=h.fe f hf hm;obtain⟨k,hk⟩:=qu he;exact⟨k,e,hk,hmr,by rw[<- hmr.seq];exact Yq h.srt hk hmr.nr⟩
theorem Ho (h:q.Pairwise (λ a b=>a.seq<b.seq)) (hk:q[k]?=some e) (es:e'.seq=e.seq):(q.set k e').Pairwise (λ a b=>a.seq<b.seq):=by
 have:∀ q:List lsq.En,q.Pairwise (λ a b=>a.seq<b.seq)↔(q.map (·.seq)).Pairwise (· < ·):=λ q=>by rw[List.pairwise_map]
 rw[this]
 have e1:(q.set k e').map (·.seq)=q.map (·.seq):=by
  apply qEB;intro j;rw[qS,qS,qn];by_cases ej:k=j
  ·subst ej;rw[if_pos rfl,if_pos (qD.1 hk).1,hk];show some e'.seq=some e.seq;rw[es]
  ·rw[if_neg ej]
 rw[e1,<- this];exact h
theorem QOk.set2 (h:QOk q g l S nx) (hls:l.Pairwise (λ a b=>a.seq<b.seq)) (hk:q[k]?=some e) (hi:l[i]?=some f) (hm:f.mem=true) (hmr:MR e f) (es:e'.seq=e.seq) (er:e'.retired=false) (ho:e'.Ok) (hkp:Keep f f') (hmr':MR e' f'):QOk (q.set k e') g (l.set i f') S nx:=by
 have hil:=(qD.1 hi).1;have hkl:=(qD.1 hk).1;have eq:e ∈ q:=qK.2 ⟨k,hk⟩;have fm:f ∈ l:=qK.2 ⟨i,hi⟩
 have emem:f'.mem=f.mem:=by unfold Fl.mem;rw[hkp.cls]
 have fm':f' ∈ l.set i f':=qK.2 ⟨i,by rw[qO hil]⟩
 have qm:∀ x ∈ q.set k e',x=e'∨(x ∈ q/\x.seq≠e.seq):=by
  intro x hx;obtain⟨j,hj⟩:=qu hx;by_cases ej:k=j
  ·subst ej;rw[qO hkl] at hj;cases hj;exact .inl rfl
  ·rw[qz ej] at hj;exact .inr ⟨qK.2 ⟨j,hj⟩,λ es=>ej (su h.srt hk hj es.symm)⟩
 have qe:e' ∈ q.set k e':=qK.2 ⟨k,by rw[qO hkl]⟩
 have lm:∀ x ∈ g++l,x.seq≠f.seq->x ∈ g++l.set i f':=by
  intro x hx hn;rcases qc.1 hx with hx | hx
  ·exact qt _ hx
  ·obtain⟨j,hj⟩:=qu hx
   have ej:i≠j:=by rintro rfl;rw[hi] at hj;cases hj;exact hn rfl
   exact qL _ (qK.2 ⟨j,by rw[qz ej];exact hj⟩)
 refine⟨by rw[qJ];exact h.len,λ x hx=>?_,Ho h.srt hk es,λ x hx hr y hy=>?_,λ x hx=>?_,λ x hx hr=>?_,λ y hy hym=>?_⟩
 ·rcases qm x hx with rfl | hx
  ·exact ho
  ·exact h.ok x hx.1
 ·rcases qm x hx with rfl | hx
  ·rw[er] at hr;cases hr
  ·rcases qc.1 hy with hy | hy
   ·exact h.old x hx.1 hr y (qt _ hy)
   ·rcases qZ hy with hy | rfl
    ·exact h.old x hx.1 hr y (qL _ hy)
    ·rw[hkp.seq];exact h.old x hx.1 hr f (qL _ fm)
 ·rcases qm x hx with rfl | hx
  ·rw[es];exact h.nx e eq
  ·exact h.nx x hx.1
 ·rcases qm x hx with rfl | hx
  ·exact⟨f',qL _ fm',by rw[emem];exact hm,hmr'⟩
  ·obtain⟨y,hy,hym,hy2⟩:=h.ef x hx.1 hr;exact⟨y,lm y hy (by rw[<- hy2.seq,<- hmr.seq];exact hx.2),hym,hy2⟩
 ·obtain⟨j,hj⟩:=qu hy;by_cases ej:i=j
  ·subst ej;rw[qO hil] at hj;cases hj;exact⟨e',qe,hmr'⟩
  ·rw[qz ej] at hj;obtain⟨x,hx,hx2⟩:=h.fe y (qK.2 ⟨j,hj⟩) hym;obtain⟨j2,hj2⟩:=qu hx
   have ek:k≠j2:=by
    rintro rfl;rw[hk] at hj2;cases hj2;exact ej (yb hls hi hj (hmr.seq.symm.trans hx2.seq))
   exact⟨x,qK.2 ⟨j2,by rw[qz ek];exact hj2⟩,hx2⟩
theorem agu (h:K.fls[i]?=some f) (f':Fl):(K.setf i f').fls[i]?=some f':=by
 show(K.fls.set i f')[i]?=_;rw[qO (qD.1 h).1]
theorem Inv.valU (h:Inv C n g K) (p:Int):U32 (K.val p):=by
 unfold Ko.val;split
 ·exact⟨Int.le_refl _,by decide⟩
 ·rw[qF];cases e:K.vals[p.toNat]?
  ·exact⟨Int.le_refl _,by decide⟩
  ·exact h.vu _ (qN e)
theorem MR.nomem {e:lsq.En} (h:MR e f) (hk:Keep f f') (hm:f.mem=false):MR e f':=by
 have h4:¬ f'.cls=4:=by rw[hk.cls];intro x;unfold Fl.mem at hm;rw[qI x] at hm;cases hm
 have h5:¬ f'.cls=5:=by rw[hk.cls];intro x;unfold Fl.mem at hm;rw[qI x,Bool.or_true] at hm;cases hm
 exact⟨by rw[hk.seq];exact h.seq,h.nr,by rw[hk.cls];exact h.st,λ x=>absurd x h4,λ x=>absurd x h4,λ x=>absurd x h5⟩
theorem Fl.fault_keep (f:Fl):Keep f f.fault/\f.fault.done=f.done/\f.fault.issued=f.issued:=by
 unfold Fl.fault;split <;> exact⟨⟨rfl,rfl,rfl,rfl,rfl,rfl,rfl⟩,rfl,rfl⟩
theorem Keep.trans {f0:Fl} (h:Keep f f0) (h':Keep f0 f'):Keep f f' :=
 ⟨h'.seq.trans h.seq,h'.fresh.trans h.fresh,h'.old.trans h.old,h'.i.trans h.i,h'.a.trans h.a,h'.b.trans h.b,h'.cls.trans h.cls⟩
theorem Fl.comp_keep (f:Fl) (a b:Int):Keep f (f.comp a b)/\(f.comp a b).done=f.done/\(f.comp a b).issued=f.issued:=by
 have key:∀ x:Fl,Keep f x->x.done=f.done->x.issued=f.issued->Keep f x.fault/\x.fault.done=f.done/\x.fault.issued=f.issued:=λ x h1 h2 h3 =>
  ⟨h1.trans (Fl.fault_keep x).1,(Fl.fault_keep x).2.1.trans h2,(Fl.fault_keep x).2.2.trans h3⟩
 unfold Fl.comp;split
 ·exact key _ ⟨rfl,rfl,rfl,rfl,rfl,rfl,rfl⟩ rfl rfl
 ·split
  ·exact key _ ⟨rfl,rfl,rfl,rfl,rfl,rfl,rfl⟩ rfl rfl
  ·exact key _ ⟨rfl,rfl,rfl,rfl,rfl,rfl,rfl⟩ rfl rfl
theorem FlOk.fault (h:FlOk f):FlOk f.fault:=by
 unfold Fl.fault;split
 ·exact { h with tval:=h.next,cz:=⟨by show(-1:Int)≤0;decide,by show(0:Int)≤20;decide⟩,fw:=h.fw }
 ·exact h
theorem FlOk.comp (h:FlOk f){a b:Int} (ha:U32 a) (hb:U32 b):FlOk (f.comp a b):=by
 unfold Fl.comp;split
 ·refine FlOk.fault { h with next:=?_,fw:=h.fw };split
  ·exact Yn _ _
  ·exact zz _
 ·split
  ·exact FlOk.fault { h with value:=zz _,next:=Yn _ _,fw:=h.fw }
  ·exact FlOk.fault { h with next:=zz _,value:=agq _ (Ra _ _ h.pc ha hb).1 (Ra _ _ h.pc ha hb).2,fw:=h.fw }
theorem Inv.compute (h:Inv C n g K) (hi:K.fls[i]?=some f) (hm:f.mem=false):Inv C n g (K.compute i):=by
 have hk:=Fl.comp_keep f (K.val f.a) (K.val f.b);unfold Ko.compute;rw[bi hi];exact h.setf hi hk.1 hk.2.1 ((h.fo f (h.mem hi)).comp (h.valU _) (h.valU _)) (λ e _ x=>x.nomem hk.1 hm)
theorem Al (hi:K.fls[i]?=some f):(K.compute i).fls[i]?=some (f.comp (K.val f.a) (K.val f.b)):=by
 unfold Ko.compute;rw[bi hi];exact agu hi _
theorem Inv.compbeg (h:Inv C n g K) (hi:K.fls[i]?=some f) (hm:f.mem=false) (cy:Int):Inv C (n+1) g ((K.compute i).begin C i cy):=by
 have hk:=Fl.comp_keep f (K.val f.a) (K.val f.b);refine(h.compute hi hm).beg (Al hi) cy (λ e _ x=>x.beg (.inl ?_) _);unfold Fl.mem at hm ⊢;rw[hk.1.cls];exact hm
theorem Fl.reach_keep (f:Fl) (a d:Int):Keep f (f.reach a d):=⟨rfl,rfl,rfl,rfl,rfl,rfl,rfl⟩
theorem FlOk.reach (h:FlOk f){a:Int} (ha:U32 a) (d:Int):FlOk (f.reach a d) :=
 { h with addr:=Cm _ _ ha,next:=zz _,tval:=Cm _ _ ha,cz:=⟨(Fa _ _ _).1,Int.le_trans (Fa _ _ _).2 (by decide)⟩,fw:=h.fw }
def Fit (f:Fl):Prop:=(alu.sizeF f.i.op=1∨alu.sizeF f.i.op=2∨alu.sizeF f.i.op=4)/\f.addr % alu.sizeF f.i.op=0
theorem iq (hC:C.Ok) (h:FlOk f){a:Int} (ha:U32 a) (hc:4≤f.cls/\f.cls≤6) (hz:(f.reach a C.dlen).cause= -1):Fit (f.reach a C.dlen) :=
 Rc ⟨hC.dl.1,hC.dl.2.1⟩ (by have:=h.cls;rw[this] at hc;exact hc) (Cm _ _ ha) hz
theorem yg {a sz:Int} (ha:U32 a) (hs:sz=1∨sz=2∨sz=4) (h:a % sz=0):((a.toNat:Int)) % sz=0/\a.toNat+sz.toNat≤4294967296/\sz.toNat≠0/\(sz.toNat=0∨sz.toNat=1∨sz.toNat=2∨sz.toNat=4)/\a.toNat<4294967296:=by
 obtain⟨a0,a1⟩:=ha;rw[Int.toNat_of_nonneg a0];rcases hs with rfl | rfl | rfl
 ·refine⟨h,?_,by decide,by decide,by omega⟩;omega
 ·refine⟨h,?_,by decide,by decide,by omega⟩;omega
 ·refine⟨h,?_,by decide,by decide,by omega⟩;omega
theorem yh (h:e.Ok) (hr:e.retired=false) (hl:e.loaded=false∨e.placed=true) (hp:e.placed=false){a sz:Int} (ha:U32 a) (hs:sz=1∨sz=2∨sz=4) (hf:a % sz=0):(ic e a.toNat sz.toNat).Ok:=by
 obtain⟨-,f2,f3,f4,f5⟩:=yg ha hs hf;refine { h with addr:=f5,size:=f4,fits:=f2,siz:=λ _=>f3,free:=λ x=>(by cases x),load:=λ x=>?_,ret:=λ x=>?_ }
 ·rcases hl with hl | hl
  ·have x:e.loaded=true:=x;rw[hl] at x;cases x
  ·rw[hp] at hl;cases hl
 ·have x:e.retired=true:=x;rw[hr] at x;cases x
theorem lu (h:e.Ok) (hp:e.placed=false):e.loaded=false:=by
 cases hl:e.loaded
 ·rfl
 ·rw[(h.load hl).1] at hp;cases hp
theorem Cn (hk:q[k]?=some e){s:Int} (hx:qix q s=some k){a:Nat}{sz:Int} (hs:sz=1∨sz=2∨sz=4) (ha:(a:Int) % sz=0) :
  dz q s a sz=if e.placed=true then (q, -1) else (q.set k (ic e a sz.toNat),Ey q s a sz.toNat k e):=by
 unfold dz;rw[hx];simp only;rw[getD_at hk];split
 ·rfl
 ·grind
theorem sx (hk:q[k]?=some e){s:Int} (hx:qix q s=some k) (d:Nat):jr q s d=if e.store=false∨e.valued=true then q else q.set k { e with valued:=true,data:=d }:=by
 unfold jr;rw[hx];simp only;rw[getD_at hk]
theorem Jr (hk:q[k]?=some e){s:Int} (hx:qix q s=some k):Cj q s=if e.store=true∨e.placed=false then none else some k:=by
 unfold Cj;rw[hx];simp only;rw[getD_at hk]
theorem Hp (h:q.Pairwise (λ a b=>a.seq<b.seq)) (hk:q[k]?=some e) (es:e'.seq=e.seq) (er:e'.retired=false):qix (q.set k e') e.seq=some k:=by
 rw[<- es];exact Yq (Ho h hk es) (by rw[qO (qD.1 hk).1]) er
theorem pz (hi:K.fls[i]?=some f):(K.begin C i 1).reach C i={ K with fls:=K.fls.set i ((f.beg (K.cycle+1)).reach (K.val f.a) C.dlen),evs:=K.evs++[⟨C.num,K.cycle,2,f.seq,f.pc,Rt.z⟩] }:=by
 have e1:(K.begin C i 1).fls[i]?=some (f.beg (K.cycle+1)):=by
  unfold Ko.begin;rw[bi hi];exact agu hi _
 unfold Ko.reach;rw[bi e1];unfold Ko.begin;rw[bi hi];show({ K with fls:=(K.fls.set i (f.beg (K.cycle+1))).set i _,evs:=_ }:Ko)=_;rw[qWB];rfl
theorem Inv.store (h:Inv C n g K) (hi:K.fls[i]?=some f) (hc:f.cls=5):Inv C (n+65) g (K.store C i):=by
 have hfm:=h.mem hi;have ho:=h.fo f hfm
 have hm:f.mem=true:=by unfold Fl.mem;rw[qI hc,Bool.or_true]
 have hva:=h.valU f.a;have hvb:=h.valU f.b;obtain⟨f1,ef1⟩:∃ f1,(f.beg (K.cycle+1)).reach (K.val f.a) C.dlen=f1:=⟨_,rfl⟩
 have k1:Keep f f1:=by rw[<- ef1];exact⟨rfl,rfl,rfl,rfl,rfl,rfl,rfl⟩
 have o0:FlOk (f.beg (K.cycle+1)):={ ho with di:=λ _=>rfl,fw:=ho.fw }
 have o1:FlOk f1:=by rw[<- ef1];exact o0.reach hva C.dlen
 have d1:f1.done=f.done:=by rw[<- ef1];rfl
 have c1:f1.cls=5:=by rw[k1.cls];exact hc
 unfold Ko.store;rw[pz hi,ef1];have hil:=(qD.1 hi).1;have e1:({ K with fls:=K.fls.set i f1,evs:=K.evs++[⟨C.num,K.cycle,2,f.seq,f.pc,Rt.z⟩] }:Ko).fl i=f1:=bi (by show(K.fls.set i f1)[i]?=_;rw[qO hil]);simp only;rw[e1];have addE:∀ {q:List lsq.En},Inv C n g { K with fls:=K.fls.set i f1,q:=q }->Inv C (n+1) g { K with fls:=K.fls.set i f1,q:=q,evs:=K.evs++[⟨C.num,K.cycle,2,f.seq,f.pc,Rt.z⟩] }:=λ hh=>hh.tell 2 f Rt.z;split
 ·rename_i hz;refine(addE (h.upd hi k1 d1 o1 (h.qo.setf hi k1 λ e _ x=>?_))).up (by omega);exact⟨by rw[k1.seq];exact x.seq,x.nr,by rw[k1.cls];exact x.st,λ y=>absurd (c1.symm.trans y) (by decide),λ y=>absurd (c1.symm.trans y) (by decide),λ _ _ y=>absurd y hz⟩
 ·rename_i hz;have hz:f1.cause= -1:=Decidable.not_not.1 hz
  have hfit:Fit f1:=by rw[<- ef1] at hz ⊢;exact iq h.cf o0 hva (by rw[show(f.beg (K.cycle+1)).cls=5 from hc];decide) hz
  obtain⟨k,e,hk,hmr,hx⟩:=h.qo.idx (qK.2 ⟨i,hi⟩) hm;have ee:e ∈ K.q:=qK.2 ⟨k,hk⟩;have oe:=h.qo.ok e ee
  have hx1:qix K.q f1.seq=some k:=by rw[k1.seq];exact hx
  obtain⟨z1, -, -, -,z5⟩:=yg o1.addr hfit.1 hfit.2
  have hst:e.store=true:=by rw[hmr.st];exact qI hc
  have hQ:∃ e2,jr (dz K.q f1.seq f1.addr.toNat (alu.sizeF f1.i.op)).1 f1.seq (K.val f1.b).toNat=K.q.set k e2/\e2.seq=e.seq/\e2.retired=false/\e2.Ok/\e2.store=e.store/\e2.placed=true/\e2.valued=true:=by
   rw[Cn hk hx1 hfit.1 z1]
   have dok:(K.val f1.b).toNat<4294967296:=by have:=h.valU f1.b;unfold U32 at this;omega
   by_cases hp:e.placed=true
   ·rw[if_pos hp];simp only;rw[sx hk hx1];by_cases hv:e.valued=true
    ·rw[if_pos (.inr hv)];refine⟨e,?_,rfl,hmr.nr,oe,rfl,hp,hv⟩;apply qEB;intro j;rw[qn];split
     ·rename_i ej;subst ej;rw[if_pos (qD.1 hk).1,hk]
     ·rfl
    ·rw[if_neg (by rintro(x | x);(rw[hst] at x;cases x);exact hv x)];exact⟨_,rfl,rfl,hmr.nr,{ oe with data:=dok,ret:=λ x=>by have x:e.retired=true:=x;rw[hmr.nr] at x;cases x },rfl,hp,rfl⟩
   ·rw[if_neg hp];simp only
    have hp:e.placed=false:=by cases x:e.placed;rfl;exact absurd x hp
    have hkl:=(qD.1 hk).1
    have hk2:(K.q.set k (ic e f1.addr.toNat (alu.sizeF f1.i.op).toNat))[k]?=some (ic e f1.addr.toNat (alu.sizeF f1.i.op).toNat):=by rw[qO hkl]
    have hx2:qix (K.q.set k (ic e f1.addr.toNat (alu.sizeF f1.i.op).toNat)) f1.seq=some k:=by
     have:=Hp (e':=ic e f1.addr.toNat (alu.sizeF f1.i.op).toNat) h.qo.srt hk rfl hmr.nr;rw[hmr.seq,<- k1.seq] at this;exact this
    have oe2:=yh oe hmr.nr (.inl (lu oe hp)) hp o1.addr hfit.1 hfit.2;rw[sx hk2 hx2];by_cases hv:e.valued=true
    ·rw[if_pos (.inr hv)];exact⟨_,rfl,rfl,hmr.nr,oe2,rfl,rfl,hv⟩
    ·rw[if_neg (by rintro(x | x);(rw[show(ic e f1.addr.toNat (alu.sizeF f1.i.op).toNat).store=e.store from rfl,hst] at x;cases x);exact hv x),qWB];exact⟨_,rfl,rfl,hmr.nr,{ oe2 with data:=dok,ret:=λ x=>by have x:e.retired=true:=x;rw[hmr.nr] at x;cases x },rfl,rfl,rfl⟩
  obtain⟨e2,hq2,s2,r2,o2,t2,p2,v2⟩:=hQ;have hmr2:MR e2 f1:=⟨by rw[s2,k1.seq];exact hmr.seq,r2,by rw[t2,k1.cls];exact hmr.st,λ y=>absurd (c1.symm.trans y) (by decide),λ y=>absurd (c1.symm.trans y) (by decide),λ _ _ _=>⟨p2,v2⟩⟩;have hI:=addE (h.upd hi k1 d1 o1 (h.qo.set2 h.sqk hk hi hm hmr s2 r2 o2 k1 hmr2));rw[show Ko.val { K with fls:=K.fls.set i f1,evs:=K.evs++[⟨C.num,K.cycle,2,f.seq,f.pc,Rt.z⟩] } f1.b=K.val f1.b from rfl,hq2];split
  ·split
   ·rename_i j hj;obtain⟨fj,hfj, -⟩:=Cl hj;rw[bi hfj];exact(hI.again (hI.fo fj (hI.mem hfj))).up (by omega)
   ·exact hI.up (by omega)
  ·exact hI.up (by omega)
theorem Yr (g:Nat->Nat) (hg:∀ k,g k<256):∀ n,((List.range n).map λ k=>g k * 2 ^ (8 * k)).sum<2 ^ (8 * n)
 | 0=>by simp
 | n+1=>by
  rw[List.range_succ,qV,List.sum_append];have ih:=Yr g hg n;have h1:=hg n
  have e:2 ^ (8 * (n+1))=256 * 2 ^ (8 * n):=by grind
  rw[e];simp only[quB,List.map_nil,List.sum_cons,List.sum_nil,Nat.add_zero];have h2:g n * 2 ^ (8 * n)≤255 * 2 ^ (8 * n):=qiB _ (by omega);omega
theorem Co (n mask value raw:Nat) (hn:n≤4):ia n mask value raw<4294967296:=by
 have h:=Yr (λ k=>if mask / 2 ^ k % 2=1 then value / 2 ^ (8 * k) % 256 else raw / 2 ^ (8 * k) % 256) (λ k=>by
  show(if _ then _ else _)<256
  split <;> exact qIB _ (by decide)) n
 have h2:2 ^ (8 * n)≤2 ^ 32:=qX (by decide) (by omega);exact qaB h h2
theorem Rg {x:Nat} (h:x<4294967296):U32 (x:Int):=⟨Int.natCast_nonneg _,by omega⟩
theorem Inv.bus (h:Inv C n g K){B:cbus.PB} (h1:B.Ok n) (h2:B.Cs.length=K.bus.Cs.length) (h3:B.len=K.bus.len):Inv C n g { K with bus:=B } :=
 { h with bu:=h1,bn:=by show C.num<B.Cs.length;rw[h2];exact h.bn,bl:=by show(B.len:Int)=_;rw[h3];exact h.bl }
theorem Inv.bread (h:Inv C n g K) (hn:n≤1000000000000) (a:Nat) (sz:Int):Inv C (n+1) g { K with bus:=K.bus.readN C.num a sz }:=by
 obtain⟨h1,h2,h3⟩:=Wj h.bu hn C.num a sz;exact(h.up (Nat.le_succ n)).bus h1 h2 h3
theorem Inv.bwrite (h:Inv C n g K) (hn:n≤1000000000000) (a:Nat) (sz:Int) (d:Nat):Inv C (n+1) g { K with bus:=K.bus.writeN C.num a sz d }:=by
 obtain⟨h1,h2,h3⟩:=Rd h.bu hn C.num a sz d;exact(h.up (Nat.le_succ n)).bus h1 h2 h3
theorem Inv.bask (h:Inv C n g K) (a:Nat) (ha:a<4294967296) (w:Bool):Inv C n g { K with bus:=K.bus.askN C.num a w }:=by
 obtain⟨h1,h2,h3⟩:=acu h.bu C.num a ha w;exact h.bus h1 h2 h3
def Fl.pl (f:Fl):Fl:={ f with placed:=true }
theorem Fe (hi:K.fls[i]?=some f):(K.placeL i).fls[i]?=some f.pl:=by
 unfold Ko.placeL;simp only;rw[bi hi];split
 ·rename_i hp;rw[hi];congr 1;unfold Fl.pl;cases f;simp only at hp;subst hp;rfl
 ·exact agu (K:={ K with q:=_ }) hi _
theorem Inv.placeL (h:Inv C n g K) (hi:K.fls[i]?=some f) (hc:f.cls=4) (hf:Fit f) (hni:f.issued=false) :
  Inv C n g (K.placeL i)/\∃ k e,(K.placeL i).q[k]?=some e/\qix (K.placeL i).q f.seq=some k/\MR e f.pl/\e.placed=true/\e.store=false:=by
 have hm:f.mem=true:=by unfold Fl.mem;rw[qI hc];rfl
 have ho:=h.fo f (h.mem hi);obtain⟨k,e,hk,hmr,hx⟩:=h.qo.idx (qK.2 ⟨i,hi⟩) hm;have ee:e ∈ K.q:=qK.2 ⟨k,hk⟩;have oe:=h.qo.ok e ee
 have hst:e.store=false:=by rw[hmr.st];exact qM (by omega)
 obtain⟨z1, -, -, -,z5⟩:=yg ho.addr hf.1 hf.2;have hpl:=hmr.pl hc;unfold Ko.placeL;simp only;rw[bi hi];by_cases hp:f.placed=true
 ·rw[if_pos hp];refine⟨h,k,e,hk,hx,?_,by rw[hpl];exact hp,hst⟩
  have:f.pl=f:=by unfold Fl.pl;cases f;simp only at hp;subst hp;rfl
  rw[this];exact hmr
 ·rw[if_neg hp]
  have hp:f.placed=false:=by cases x:f.placed;rfl;exact absurd x hp
  have hpe:e.placed=false:=by rw[hpl];exact hp
  rw[Cn hk hx hf.1 z1,if_neg (by rw[hpe];decide)];have kp:Keep f f.pl:=⟨rfl,rfl,rfl,rfl,rfl,rfl,rfl⟩;have hl:=lu oe hpe;have oe2:=yh oe hmr.nr (.inl hl) hpe ho.addr hf.1 hf.2;have hmr2:MR (ic e f.addr.toNat (alu.sizeF f.i.op).toNat) f.pl:=⟨hmr.seq,hmr.nr,hmr.st,λ _=>rfl,λ _ y=>(by rw[show f.pl.issued=f.issued from rfl,hni] at y;cases y),λ y=>absurd (hc.symm.trans y) (by decide)⟩;refine⟨h.upd hi kp rfl { ho with fw:=ho.fw } (h.qo.set2 h.sqk hk hi hm hmr rfl hmr.nr oe2 kp hmr2),k,ic e f.addr.toNat (alu.sizeF f.i.op).toNat,?_,?_,hmr2,rfl,hst⟩
  ·show(K.q.set k _)[k]?=_;rw[qO (qD.1 hk).1]
  ·have:=Hp (e':=ic e f.addr.toNat (alu.sizeF f.i.op).toNat) h.qo.srt hk rfl hmr.nr;rw[hmr.seq] at this;exact this
theorem Am {s:Int} (hk:q[k]?=some e) (hx:qix q s=some k) (hp:e.placed=true) (hs:e.store=false) (bold:Bool) :
  iy q s bold=if (!bold&&(q.take k).any lsq.unplaced)=true then .wait else if lsq.waitF (lq q k)=true then .wait else .got (lsq.maskF (lq q k)) (lsq.valF e.addr (lq q k)):=by
 unfold iy;rw[Jr hk hx,if_neg (by grind)];simp only;rw[getD_at hk]
theorem Mh {s:Int} (hk:q[k]?=some e) (hx:qix q s=some k) (hp:e.placed=true) (hs:e.store=false) (hw:lsq.waitF (lq q k)=false) :
  lr q s=if e.loaded=true then q else q.set k (e.withFr (lq q k)):=by
 unfold lr;rw[Jr hk hx,if_neg (by grind)];simp only;rw[getD_at hk];by_cases h:e.loaded=true
 ·grind
 ·grind
theorem Rh (h:e.Ok) (hp:e.placed=true) (hs:e.store=false) (F:lsq.Src):(e.withFr F).Ok :=
 { h with load:=λ _=>⟨hp,hs⟩ }
structure Got (K K':Ko) (i:Nat) (f f':Fl):Prop where
 at_:K'.fls[i]?=some f'
 keep:Keep f f'
 iss:f'.issued=f.issued
 done:f'.done=f.done
 cause:f'.cause=f.cause
 ld:∀ e ∈ K'.q,MR e f'->e.loaded=true
theorem Inv.got (h:Inv C n g K) (hi:K.fls[i]?=some f) (hc:f.cls=4) (hni:f.issued=false){k:Nat}{e:lsq.En} (hk:K.q[k]?=some e) (hx:qix K.q f.seq=some k) (hmr:MR e f) (hp:e.placed=true) (hs:e.store=false) (hw:lsq.waitF (lq K.q k)=false){raw:Int} (hr:U32 raw) :
  Inv C n g (K.got i raw)/\∃ f',Got K (K.got i raw) i f f':=by
 have hm:f.mem=true:=by unfold Fl.mem;rw[qI hc];rfl
 have ho:=h.fo f (h.mem hi);have ee:e ∈ K.q:=qK.2 ⟨k,hk⟩;have oe:=h.qo.ok e ee;unfold Ko.got;rw[bi hi,Mh hk hx hp hs hw];obtain⟨f2,ef2⟩:∃ f2,({ f with value:=alu.widenF f.i.op raw }:Fl)=f2:=⟨_,rfl⟩
 have k2:Keep f f2:=by rw[<- ef2];exact⟨rfl,rfl,rfl,rfl,rfl,rfl,rfl⟩
 have o2:FlOk f2:=by rw[<- ef2];exact { ho with value:=act _ hr,fw:=ho.fw }
 have d2:f2.done=f.done/\f2.issued=f.issued/\f2.cause=f.cause/\f2.placed=f.placed:=by grind
 rw[ef2]
 have base:∀ e2:lsq.En,e2.seq=e.seq->e2.retired=false->e2.Ok->e2.store=e.store->e2.placed=e.placed->e2.loaded=true->∀ q2,q2=K.q.set k e2 ->
   Inv C n g (({ K with q:=q2 }:Ko).setf i f2)/\∃ f',Got K (({ K with q:=q2 }:Ko).setf i f2) i f f':=by
  rintro e2 s2 r2 oe2 t2 p2 l2 q2 rfl;have hmr2:MR e2 f2:=⟨by rw[s2,k2.seq];exact hmr.seq,r2,by rw[t2,k2.cls];exact hmr.st,λ y=>by rw[p2,d2.2.2.2];exact hmr.pl hc,λ _ _ _=>l2,λ y=>absurd (hc.symm.trans (k2.cls.symm.trans y)) (by decide)⟩;have hI:=h.upd hi k2 d2.1 o2 (h.qo.set2 h.sqk hk hi hm hmr s2 r2 oe2 k2 hmr2);refine⟨hI,f2,⟨?_,k2,d2.2.1,d2.1,d2.2.2.1,λ x hxq hxm=>?_⟩⟩
  ·show(K.fls.set i f2)[i]?=_;rw[qO (qD.1 hi).1]
  ·obtain⟨j,hj⟩:=qu (show x ∈ K.q.set k e2 from hxq);have hkl:=(qD.1 hk).1;by_cases ej:k=j
   ·subst ej;rw[qO hkl] at hj;cases hj;exact l2
   ·rw[qz ej] at hj;exact absurd (su h.qo.srt hk hj (by rw[hmr.seq,hxm.seq,k2.seq])) ej
 by_cases hl:e.loaded=true
 ·rw[if_pos hl];refine base e rfl hmr.nr oe rfl rfl hl K.q ?_;apply qEB;intro j;rw[qn];split
  ·rename_i ej;subst ej;rw[if_pos (qD.1 hk).1,hk]
  ·rfl
 ·rw[if_neg hl];exact base (e.withFr (lq K.q k)) rfl hmr.nr (Rh oe hp hs _) rfl rfl rfl _ rfl
theorem Ri {sz:Int} (h:sz=1∨sz=2∨sz=4):sz.toNat≤4:=by omega
theorem Inv.fetched (h:Inv C n g K) (hn:n≤1000000000000) (hi:K.fls[i]?=some f) (hc:f.cls=4) (hf:Fit f) (hni:f.issued=false) :
  Inv C (n+1) g (K.fetched C i).1/\(∃ f',(K.fetched C i).1.fls[i]?=some f'/\Keep f f'/\f'.issued=f.issued/\f'.done=f.done/\f'.cause=f.cause)/\((K.fetched C i).2=true->∃ f',Got K (K.fetched C i).1 i f f'):=by
 obtain⟨h1,k,e,hk,hx,hmr,hp,hs⟩:=h.placeL hi hc hf hni;have hi1:=Fe hi;have ho:=h.fo f (h.mem hi);have ha:f.addr.toNat<4294967296:=(yg ho.addr hf.1 hf.2).2.2.2.2;have hsz:=Ri hf.1;unfold Ko.fetched;obtain⟨K1,e1⟩:∃ K1,K.placeL i=K1:=⟨_,rfl⟩;rw[e1] at h1 hk hx hi1 ⊢;simp only;rw[bi hi1];have ew:f.pl.seq=f.seq/\f.pl.addr=f.addr/\f.pl.i=f.i:=⟨rfl,rfl,rfl⟩;rw[ew.1,ew.2.1,ew.2.2,Am hk hx hp hs];have pk:Keep f f.pl:=⟨rfl,rfl,rfl,rfl,rfl,rfl,rfl⟩;have same:∃ f',K1.fls[i]?=some f'/\Keep f f'/\f'.issued=f.issued/\f'.done=f.done/\f'.cause=f.cause:=⟨f.pl,hi1,pk,rfl,rfl,rfl⟩
 have fin:∀ {m:Nat} {K2:Ko} {raw:Int},Inv C m g K2->m≤n+1->K2.fls=K1.fls->K2.q=K1.q->lsq.waitF (lq K1.q k)=false->U32 raw ->
   Inv C (n+1) g (K2.got i raw)/\(∃ f',(K2.got i raw).fls[i]?=some f'/\Keep f f'/\f'.issued=f.issued/\f'.done=f.done/\f'.cause=f.cause)/\(true=true->∃ f',Got K (K2.got i raw) i f f'):=by
  intro m K2 raw hK hm e2 e3 hw hr;obtain⟨a1,f',a2⟩:=hK.got (f:=f.pl) (k:=k) (e:=e) (by rw[e2];exact hi1) hc hni (by grind) (by grind) hmr hp hs (by grind) hr;exact⟨a1.up hm,⟨f',a2.at_,pk.trans a2.keep,a2.iss,a2.done,a2.cause⟩,λ _=>⟨f',⟨a2.at_,pk.trans a2.keep,a2.iss,a2.done,a2.cause,a2.ld⟩⟩⟩
 by_cases w1:(!C.c.bold&&(K1.q.take k).any lsq.unplaced)=true
 ·rw[if_pos w1];exact⟨h1.up (Nat.le_succ n),same,λ x=>by cases x⟩
 ·rw[if_neg w1];by_cases w2:lsq.waitF (lq K1.q k)=true
  ·rw[if_pos w2];exact⟨h1.up (Nat.le_succ n),same,λ x=>by cases x⟩
  ·rw[if_neg w2]
   have w2:lsq.waitF (lq K1.q k)=false:=by cases x:lsq.waitF (lq K1.q k);rfl;exact absurd x w2
   simp only;by_cases w3:((lsq.maskF (lq K1.q k):Nat):Int)≠2 ^ (alu.sizeF f.i.op).toNat - 1
   ·rw[if_pos w3];by_cases w4:K1.bus.readT C.num f.addr.toNat (alu.sizeF f.i.op)=false
    ·rw[if_pos w4];exact⟨(h1.bread hn f.addr.toNat (alu.sizeF f.i.op)).bask (K:={ K1 with bus:=K1.bus.readN C.num f.addr.toNat (alu.sizeF f.i.op) }) f.addr.toNat ha false,same,λ x=>by cases x⟩
    ·rw[if_neg w4];exact fin (h1.bread hn f.addr.toNat (alu.sizeF f.i.op)) (qY _) rfl rfl w2 (Rg (Co _ _ _ _ hsz))
   ·rw[if_neg w3];exact fin h1 (Nat.le_succ n) rfl rfl w2 (Rg (Co _ _ _ _ hsz))
theorem Inv.reachL (h:Inv C n g K) (hi:K.fls[i]?=some f) (hni:f.issued=false):Inv C n g (K.reach C i)/\(K.reach C i).fls[i]?=some (f.reach (K.val f.a) C.dlen):=by
 have ho:=h.fo f (h.mem hi);unfold Ko.reach;rw[bi hi];refine⟨h.setf hi (Fl.reach_keep _ _ _) rfl (ho.reach (h.valU _) _) (λ e _ x=>⟨x.seq,x.nr,x.st,x.pl,λ _ y=>?_,λ _ y=>?_⟩),agu hi _⟩
 ·rw[show(f.reach (K.val f.a) C.dlen).issued=f.issued from rfl,hni] at y;cases y
 ·rw[show(f.reach (K.val f.a) C.dlen).issued=f.issued from rfl,hni] at y;cases y
theorem Inv.load (h:Inv C n g K) (hn:n≤1000000000000) (hi:K.fls[i]?=some f) (hc:f.cls=4) (hni:f.issued=false):Inv C (n+2) g (K.load C i).1:=by
 obtain⟨h1,hi1⟩:=h.reachL hi hni;have ho:=h.fo f (h.mem hi);unfold Ko.load;obtain⟨K1,e1⟩:∃ K1,K.reach C i=K1:=⟨_,rfl⟩;rw[e1] at h1 hi1 ⊢;simp only;rw[bi hi1];split
 ·rename_i hz;have hfit:=iq h.cf ho (h.valU f.a) (by rw[hc];decide) hz;obtain⟨a1, -,a2⟩:=h1.fetched hn hi1 hc hfit hni;split
  ·exact a1.up (by omega)
  ·rename_i hb;obtain⟨f',hG⟩:=a2 (by simpa using hb);exact(a1.beg hG.at_ 1 (λ e he x=>{ x with ld:=λ _ _ _=>hG.ld e he x,sv:=λ y=>absurd (hc.symm.trans (hG.keep.cls.symm.trans y)) (by decide) })).up (by omega)
 ·rename_i hz;exact(h1.beg hi1 1 (λ e _ x=>x.beg (.inr hz) _)).up (by omega)
end Go.Proofs.YtmncepdbglaphaaGreatDoor.ko
