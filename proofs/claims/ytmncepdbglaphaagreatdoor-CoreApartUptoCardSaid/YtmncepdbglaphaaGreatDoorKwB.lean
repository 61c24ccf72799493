/- A part of the walk. No condition. -/
import Derived.Test.YtmncepdbglaphaaGreatDoorWinH
import Derived.Test.YtmncepdbglaphaaGreatDoorKwQ
import Derived.Test.YtmncepdbglaphaaGreatDoorKxE
set_option linter.unusedVariables false
set_option maxRecDepth 100000
namespace Go.Proofs.YtmncepdbglaphaaGreatDoor.win
open Go.RowKit Go.XHeap Go.Sx Go.Sep Go.Proofs.Tryz
variable {W w':wD}{b:Nat}{w v:WS}
def blkOf (p:OA) (k:Nat):Prop:=∃ a,p=some a/\a.block=k
theorem own_blk {p:OA}{n c k:Nat}:(Value.slice p n c).ownBlock=some k↔blkOf p k:=by
 cases p with
 | none=>exact⟨λ h=>by(simp [Value.ownBlock] at h),λ ⟨a,h,_⟩=>by cases h⟩
 | some a=>exact⟨λ h=>⟨a,rfl,by simpa [Value.ownBlock] using h⟩,λ ⟨a',h,e⟩=>by cases h;simpa [Value.ownBlock] using e⟩
def WS.sqN (w:WS) (after:Int):Nat->Nat
 | 0=>0
 | n+1=>if after<(w.slot n).seq then w.sqN after n else n+1
def WS.sqL (w:WS) (after:Int):Nat->LI
 | 0=>[]
 | n+1=>if after<(w.slot n).seq then (w.slot n).seq::w.sqL after n else []
theorem adw {w:WS}{after:Int}{n:Nat} (h:after<(w.slot n).seq):w.sqN after (n+1)=w.sqN after n:=by
 show(if after<(w.slot n).seq then w.sqN after n else n+1)=_;rw[if_pos h]
theorem adx {w:WS}{after:Int}{n:Nat} (h:after<(w.slot n).seq):w.sqL after (n+1)=(w.slot n).seq::w.sqL after n:=by
 show(if after<(w.slot n).seq then (w.slot n).seq::w.sqL after n else [])=_;rw[if_pos h]
def WS.cut (w:WS) (m:Nat):WS:={ w with n:=m }
theorem cut_ok (ho:w.Ok){m:Nat} (hm:m≤w.n):(w.cut m).Ok:=⟨ho.s0,ho.s1,ho.ring,ho.head,qVB hm ho.n,ho.next,ho.r0,ho.r1,ho.ready,ho.st⟩
def amk (b:Nat) (w:WS) (l:LI) (z:OA×Nat):Asn:=all [winA b w,sl 3 1 (.slice z.1 l.length z.2) l.length (intsV l)]
theorem squash_any (ho:w.Ok) (h:(winA b w).at_ W) (after:Int):Calls prog 89 #[pZ b 0,.int .i64 after] W λ e w2=>∃ z:OA×Nat,e=eZ (.slice z.1 (w.sqL after w.n).length z.2)/\Sep.Post (winA b w) W (amk b (w.cut (w.sqN after w.n)) (w.sqL after w.n) z) w2:=by
 have hs1:=ho.s1;have hn:=ho.n;have H0:=(gx h).add (A:=sl 3 1 (.slice none 0 0) 0 []) ⟨Sl.nil _ _ _,qH _ _,λ q hq=>by cases hq⟩;refine apv b 0 after ⟨λ p k c A=>∃ (m:Nat) (l:LI),k=l.length/\m≤w.n/\l.length+m=w.n/\l++w.sqL after m=w.sqL after w.n/\w.sqN after m=w.sqN after w.n/\St W (winA b w).own A ((w.cut m).pieces b++[sl 3 1 (.slice p l.length c) l.length (intsV l)]),λ _ k _ _=>w.n - k,⟨w.n,[],rfl,qY _,by simp,by simp,rfl,H0⟩,λ _=>?_⟩;clear H0;rintro p k c A ⟨m,l,rfl,hm,hlm,hl,hN,H⟩
 have fin:∀ (B:wD) (n:Nat),B=A.drewN n->(m=0∨∃ i,m=i+1/\¬ after<(w.slot i).seq)->∃ z:OA×Nat,eZ (.slice p l.length c)=eZ (.slice z.1 (w.sqL after w.n).length z.2)/\Sep.Post (winA b w) W (amk b (w.cut (w.sqN after w.n)) (w.sqL after w.n) z) B:=by
  rintro B n rfl hc
  have e1:w.sqL after m=[]/\w.sqN after m=m:=by
   rcases hc with rfl | ⟨i,rfl,hi⟩
   ·exact⟨rfl,rfl⟩
   ·unfold WS.sqL WS.sqN;rw[if_neg hi,if_neg hi];exact⟨rfl,rfl⟩
  rw[e1.1,qqB] at hl;rw[<- hl,<- hN,e1.2];exact⟨(p,c),rfl,((St.shut (H.drewN n)).shut (L:=[winA b (w.cut m),_]) (L':=[])).post 0 rfl⟩
 refine⟨(m:Nat),H.ld 0 rfl rfl,aa (λ q=>?_) (λ q=>?_)⟩
 ·have q:=qB q;obtain⟨i,rfl⟩:∃ i,m=i+1:=⟨m - 1,by omega⟩;refine⟨((i+1:Nat):Int),H.ld 0 rfl rfl,?_⟩;rintro z3 rfl;rw[w64 (by omega) (by omega),show(((i+1:Nat):Int) - 1)=(i:Nat) by omega];have hcur:(winA b (w.cut (i+1))).at_ A:=(here_append.1 H.here).1;refine(Fk (cut_ok ho hm) hcur i (by omega)).mono ?_;rintro e B ⟨rfl,n3,rfl⟩;have HB:=H.drewN n3;have hg:Blk (A.drewN n3) w.g (rows Slot.cells w.ring) 230:=HB.nth 1 rfl;refine⟨_,rfl,ptr_some ⟨(w.slot i).seq,?_,aa (λ q1=>?_) (λ q1=>fin _ n3 rfl (.inr ⟨i,rfl,λ e=>by have:=qE q1;omega⟩))⟩⟩
  ·rw[ac];exact dt ho hg i (q:=5) (by omega) rfl
  have q1:after<(w.slot i).seq:=by have:=qB q1;omega
  refine⟨((i+1:Nat):Int),HB.ld 0 rfl rfl,?_⟩;rintro z6 rfl;rw[w64 (by omega) (by omega),show(((i+1:Nat):Int) - 1)=(i:Nat) by omega];refine HB.st 0 rfl (by show 2<5;omega) λ C HC=>?_;refine⟨(i:Nat),HC.ld 0 rfl rfl,?_⟩;have hcur2:(winA b (w.cut i)).at_ C:=(here_append.1 HC.here).1;refine(Fk (cut_ok ho (by omega)) hcur2 i (by omega)).mono ?_;rintro e D ⟨rfl,n5,rfl⟩;have HD:=HC.drewN n5;have hg2:Blk (C.drewN n5) w.g (rows Slot.cells w.ring) 230:=HD.nth 1 rfl;refine⟨_,rfl,ptr_some ⟨(w.slot i).seq,?_,HD.al λ k E HE=>HE.app 3 rfl [.int .i64 (w.slot i).seq] (.inr ⟨_,rfl,λ j u hj=>HE.cells 4 rfl j u (by simpa using hj)⟩) rfl (by intro u hu;simp at hu;subst hu;rfl) (by have:maxLen=2 ^ 63 - 1:=rfl;omega) (by omega) λ p2 c2 F HF=>?_⟩⟩
  ·rw[ac];exact dt ho hg2 i (q:=5) (by omega) rfl
  have e2:l.length+1=(l++[(w.slot i).seq]).length:=by simp
  have e3:intsV l++[Value.int .i64 (w.slot i).seq]=intsV (l++[(w.slot i).seq]):=by simp [intsV]
  refine⟨⟨i,l++[(w.slot i).seq],e2,by omega,by rw[<- e2];omega,?_,?_,?_⟩,by show w.n - (l.length+1)<w.n - l.length;omega⟩
  ·rw[<- hl];show _=l++w.sqL after (i+1);rw[adx q1];simp
  ·rw[<- hN];show _=w.sqN after (i+1);rw[adw q1]
  ·rw[e2,e3] at HF;exact HF.take 4
 ·have q:=qE q;exact fin A 0 (by cases A;rfl) (.inl (by omega))
end Go.Proofs.YtmncepdbglaphaaGreatDoor.win
namespace Go.Proofs.YtmncepdbglaphaaGreatDoor.ko
open Go.RowKit Go.XHeap Go.Sx Go.Sep Go.Proofs.Tryz
variable {W w':wD}{b:Nat}{C:Kc}{K:Ko}{w:win.WS}{n i:Nat}{g:List Fl}{f f':Fl}
def dh (f:Fl):win.Slot:=⟨f.cls,f.a,f.b,f.fresh,f.st,f.seq⟩
structure WinR (C:Kc) (ls:List Fl) (nx:Nat) (rdy:List Bool) (w:win.WS):Prop where
 ok:w.Ok
 S:w.S=C.W
 R:w.R=C.R
 n:w.n=ls.length
 nx:w.next=nx
 rdy:w.ready=rdy
 sl:∀ k f,ls[k]?=some f->w.slot k=dh f
abbrev Za (C:Kc) (K:Ko) (w:win.WS):Prop:=WinR C K.fls K.nxt K.rdy w
theorem Fp {v:win.WS} (ho:v.Ok){j k:Nat} (hj:j<v.S) (hk:k<v.S) (h:j≠k):v.ix j≠v.ix k:=by
 have hh:=ho.head
 have key:∀ i,i<v.S->v.ix i=if v.head+i<v.S then v.head+i else v.head+i - v.S:=λ i hi=>by
  unfold win.WS.ix;split
  ·rename_i e;exact Nat.mod_eq_of_lt e
  ·rename_i e;rw[Nat.mod_eq_sub_mod (by omega),Nat.mod_eq_of_lt (by omega)]
 rw[key j hj,key k hk];split <;> split <;> omega
theorem WinR.regs (h:Za C K w) (hI:Inv C n g K):∀ k,k<w.n->(w.slot k).regs w.R:=by
 intro k hk;rw[h.n] at hk;have hf:=qC hk;rw[h.sl k _ hf,h.R];have:=hI.src (hI.mem hf);exact⟨this.1.2,this.2.2⟩
theorem WinR.find (h:Za C K w) (hI:Inv C n g K) (hi:K.fls[i]?=some f):w.find f.seq=some i:=by
 have hil:=(qD.1 hi).1;unfold win.WS.find;rw[qyB];refine⟨by rw[h.sl i f hi];exact beq_self_eq_true _,i,by rw[List.length_range,h.n];exact hil,by simp,λ j hj=>?_⟩;rw[List.getElem_range];have hf:=qC (show j<K.fls.length by omega);rw[h.sl j _ hf]
 have:(dh K.fls[j]).seq≠f.seq:=λ e=>by
  have:=yb hI.sqk hf hi e;omega
 simpa using this
theorem WinR.has (h:Za C K w) (p:Int):w.has p=K.has p:=by unfold win.WS.has Ko.has;rw[h.rdy]
theorem WinR.turn (h:Za C K w) (hI:Inv C n g K) (hi:K.fls[i]?=some f){a to:Nat} (ha:f.st=a) (hab:to=1->f.st=0/\K.has f.a=true/\K.has f.b=true):w.turn f.seq a to=some i:=by
 unfold win.WS.turn;rw[h.find hI hi];dsimp only;rw[h.sl i f hi];refine if_pos ⟨ha,λ e=>?_⟩;obtain⟨h1,h2,h3⟩:=hab e;unfold win.WS.able;rw[h.has,h.has];show(decide (f.st=0)&&K.has f.a&&K.has f.b)=true;rw[h1,h2,h3];rfl
theorem Hx (ho:w.Ok) (hn:w.n≤w.S){k to j:Nat} (hk:k<w.n) (hj:j<w.n):(w.turned k to).slot j=if j=k then { w.slot k with st:=to } else w.slot j:=by
 show(w.ring.set (w.ix k) { w.slot k with st:=to }).getD (w.ix j) default=_;rw[qF,qn];by_cases e:j=k
 ·subst e;rw[if_pos rfl,if_pos (ho.ix_lt j),if_pos rfl];rfl
 ·rw[if_neg (Fp ho (by omega) (by omega) (λ x=>e x.symm)),if_neg e];unfold win.WS.slot;rw[qF]
theorem WinR.turned {ls:List Fl}{nx:Nat}{rdy:List Bool} (h:WinR C ls nx rdy w) (hi:ls[i]?=some f){to:Nat} (ht:to<256) (hf:dh f'={ dh f with st:=to }):WinR C (ls.set i f') nx rdy (w.turned i to):=by
 have hil:=(qD.1 hi).1;refine⟨win.turned_ok h.ok i ht,h.S,h.R,by rw[qJ];exact h.n,h.nx,h.rdy,λ k f2 hk=>?_⟩;have hkl:=(qD.1 hk).1;rw[qJ] at hkl;rw[Hx h.ok h.ok.n (by rw[h.n];exact hil) (by rw[h.n];exact hkl)];rw[qn] at hk;by_cases e:k=i
 ·subst e;rw[if_pos rfl,if_pos hil] at hk;cases hk;rw[if_pos rfl,h.sl k f hi,hf]
 ·rw[if_neg (Ne.symm e)] at hk;rw[if_neg e];exact h.sl k f2 hk
theorem WinR.setf {ls:List Fl}{nx:Nat}{rdy:List Bool} (h:WinR C ls nx rdy w) (hi:ls[i]?=some f) (hf:dh f'=dh f):WinR C (ls.set i f') nx rdy w:=by
 have hil:=(qD.1 hi).1;refine⟨h.ok,h.S,h.R,by rw[qJ];exact h.n,h.nx,h.rdy,λ k f2 hk=>?_⟩;rw[qn] at hk;by_cases e:i=k
 ·subst e;rw[if_pos rfl,if_pos hil] at hk;cases hk;rw[hf];exact h.sl i f hi
 ·rw[if_neg e] at hk;exact h.sl k f2 hk
theorem WinR.woken {ls:List Fl}{nx:Nat}{rdy:List Bool} (h:WinR C ls nx rdy w) (p:Nat):WinR C ls nx (rdy.set p true) (w.woken p) :=
 ⟨⟨h.ok.s0,h.ok.s1,h.ok.ring,h.ok.head,h.ok.n,h.ok.next,h.ok.r0,h.ok.r1,by show(w.ready.set p true).length=w.R;rw[qJ];exact h.ok.ready,h.ok.st⟩,h.S,h.R,h.n,h.nx,by show w.ready.set p true=_;rw[h.rdy],h.sl⟩
theorem WinR.cut {ls:List Fl}{nx:Nat}{rdy:List Bool} (h:WinR C ls nx rdy w){m:Nat} (hm:m≤ls.length):WinR C (ls.take m) nx rdy (w.cut m) :=
 ⟨win.cut_ok h.ok (by rw[h.n];exact hm),h.S,h.R,by show m=_;rw[qq,qPB hm],h.nx,h.rdy,λ k f hk=>by
  have hkl:=(qD.1 hk).1;rw[qq] at hkl;rw[qa (by omega)] at hk
  exact h.sl k f hk⟩
theorem WinR.retired {nx:Nat}{rdy:List Bool}{r:List Fl} (h:WinR C (f::r) nx rdy w):WinR C r nx rdy w.retired:=by
 have hn:=h.n;refine⟨win.retired_ok h.ok,h.S,h.R,by show w.n - 1=_;rw[h.n];rfl,h.nx,h.rdy,λ k f2 hk=>?_⟩
 have e:w.retired.ix k=w.ix (k+1):=by
  show((w.head+1) % w.S+k) % w.S=(w.head+(k+1)) % w.S;rw[Nat.mod_add_mod];congr 1;omega
 have e2:w.retired.slot k=w.slot (k+1):=by
  unfold win.WS.slot;rw[e];rfl
 rw[e2];exact h.sl (k+1) f2 (by simpa using hk)
theorem WinR.entered {ls:List Fl}{nx:Nat}{rdy:List Bool} (h:WinR C ls nx rdy w) (hl:ls.length<C.W) (hx:nx+1<4611686018427387904) (hf:dh f=⟨f.cls,f.a,f.b,f.fresh,0,nx⟩) :
  WinR C (ls++[f]) (nx+1) (if 0≤f.fresh then rdy.set f.fresh.toNat false else rdy) (w.entered f.cls f.a f.b f.fresh):=by
 have hn:=h.n;have hS:=h.S;refine⟨win.entered_ok h.ok (by omega) (by rw[h.nx];exact hx) _ _ _ _,h.S,h.R,by show w.n+1=_;rw[qP,h.n];rfl,by show w.next+1=_;rw[h.nx],by show(if 0≤f.fresh then w.ready.set _ false else w.ready)=_;rw[h.rdy],λ k f2 hk=>?_⟩;have e1:(w.entered f.cls f.a f.b f.fresh).ix k=w.ix k:=rfl;have hi:=h.ok.ix_lt w.n;have hkl:=(qD.1 hk).1;rw[qP] at hkl;have hkl:k<ls.length+1:=hkl;unfold win.WS.slot;rw[e1];show(w.ring.set (w.ix w.n) _).getD (w.ix k) default=_;by_cases e:k=w.n
 ·subst e;rw[hn,qf (qY _),Nat.sub_self] at hk;cases hk;rw[qF,qO hi,hf,<- h.nx];rfl
 ·rw[qF,qz (Ne.symm (Fp h.ok (by omega) (by omega) e)),<- qF];rw[qk (by omega)] at hk;exact h.sl k f2 hk
theorem ady {α:Type}{P:List α->Prop} (nil:P []) (app:∀ (ls:List α) (x:α),P ls->P (ls++[x])) (ls:List α):P ls:=by
 have:∀ l:List α,P l.reverse:=by
  intro l
  induction l with
  | nil=>exact nil
  | cons x l ih=>rw[List.reverse_cons];exact app _ x ih
 have h:=this ls.reverse;rwa [qQB] at h
theorem Fq {α:Type} (p:α->Bool) (F:Nat->Bool):∀ (ls:List α) (hF:∀ k x,ls[k]?=some x->F k=p x) (G:Nat->Int) (s:α->Int) (hG:∀ k x,ls[k]?=some x->G k=s x),((List.range ls.length).filter F).map G=(ls.filter p).map s:=by
 intro ls
 induction ls using ady with
 | nil=>intros;rfl
 | app ls x ih =>
  intro hF G s hG;rw[qP,List.length_singleton,List.range_succ,qBB,qBB,qV,qV,ih (λ k y hk=>hF k y (by rw[qk (qD.1 hk).1];exact hk)) G s (λ k y hk=>hG k y (by rw[qk (qD.1 hk).1];exact hk))]
  have hx:(ls++[x])[ls.length]?=some x:=by rw[qf (qY _),Nat.sub_self];rfl
  have e1:=hF _ _ hx;have e2:=hG _ _ hx;rw[qj,qj,e1];cases p x
  ·rfl
  ·show _++[G ls.length]=_++[s x];rw[e2]
theorem WinR.ready (h:Za C K w) (c most:Int):w.readyL c most=K.ready c most:=by
 unfold win.WS.readyL win.WS.rdy Ko.ready;rw[h.n];rw[Fq (K.may c) (w.may c) K.fls (λ k f hk=>?_) _ (·.seq) (λ k f hk=>by rw[h.sl k f hk];rfl)];unfold win.WS.may win.WS.able Ko.may;rw[h.sl k f hk,h.has,h.has];show((dh f).cls==c&&(decide ((dh f).st=0)&&_&&_))=_;rfl
theorem WinR.sqL (h:Za C K w) (after:Int) (hs:K.fls.Pairwise (λ a b=>a.seq<b.seq)):w.sqL after w.n=(K.dead after).reverse.map (·.seq)/\w.sqN after w.n=(K.live after).length:=by
 have key:∀ m,m≤K.fls.length->(∀ f ∈ K.fls.drop m,after<f.seq)->w.sqL after m=(((K.fls.take m).filter (λ f=>decide (after<f.seq))).reverse).map (·.seq)/\w.sqN after m=((K.fls.take m).filter (λ f=> !decide (after<f.seq))).length:=by
  intro m
  induction m with
  | zero=>intro _ _;exact⟨rfl,rfl⟩
  | succ m ih =>
   intro hm hd;have hf:=qC (show m<K.fls.length by omega)
   have es:(w.slot m).seq=K.fls[m].seq:=by rw[h.sl m _ hf];rfl
   have et:K.fls.take (m+1)=K.fls.take m++[K.fls[m]]:=by rw[qdB (by omega)]
   rw[et,qBB,qBB,List.reverse_append,qV,qP];unfold win.WS.sqL win.WS.sqN;rw[es];by_cases hq:after<K.fls[m].seq
   ·obtain⟨h1,h2⟩:=ih (by omega) (by
     rw[qYB (by omega)];intro f hf;rcases qp.1 hf with rfl | hf
     ·exact hq
     ·exact hd f hf)
    rw[if_pos hq,if_pos hq,h1,h2,qj,if_pos (qI hq),qj,if_neg (by rw[qI hq];decide)];exact⟨rfl,rfl⟩
   ·rw[if_neg hq,if_neg hq,qj,if_neg (by simpa using hq),qj,if_pos (by simpa using hq)]
    have hall:∀ f ∈ K.fls.take m,¬ after<f.seq:=by
     intro f hf hlt;obtain⟨j,hj,rfl⟩:=qGC hf;rw[qq] at hj;rw[List.getElem_take] at hlt;have:=qZB.1 hs j m (by omega) (by omega) (by omega);omega
    have e1:(K.fls.take m).filter (λ f=>decide (after<f.seq))=[]:=List.filter_eq_nil_iff.2 λ f hf=>by simpa using hall f hf
    have e2:(K.fls.take m).filter (λ f=> !decide (after<f.seq))=K.fls.take m:=List.filter_eq_self.2 λ f hf=>by simpa using hall f hf
    rw[e1,e2,qq];refine⟨rfl,?_⟩;show m+1=min m K.fls.length+1;omega
 obtain⟨h1,h2⟩:=key K.fls.length (qY _) (by rw[List.drop_length];intro f hf;cases hf);rw[List.take_length] at h1 h2;rw[h.n];exact⟨h1,h2⟩
def br (B:wD):Asn:=⟨λ k=>k<B.heap.size,λ w=>Tabs B.heap.size w/\XTouch (λ k=>B.heap.size≤k) B w,λ h ht hn=>⟨by
 obtain⟨W0,hB,hT,hC,h0⟩:=h.1
 exact⟨W0,hB,hT,hC,h0.trans ht (λ k _ e=>Nat.le_of_not_lt λ hk=>hn k hk e)⟩,h.2.trans ht (λ k _ e=>Nat.le_of_not_lt λ hk=>hn k hk e)⟩,λ h k hk=>qaB hk h.2.size⟩
def Fl.cells (f:Fl):AV:=#[.int .i64 f.seq,.int .u32 f.pc,.int .u32 f.word,.int .i64 f.i.op,.int .i64 f.i.rd,.int .i64 f.i.rs1,.int .i64 f.i.rs2,.int .i64 f.i.imm,.int .i64 f.cls,.int .i64 f.mh,.int .i64 f.mt,.int .u32 f.mv,.int .u32 f.guess,.int .i64 f.a,.int .i64 f.b,.int .i64 f.fresh,.int .i64 f.old,.int .u32 f.value,.int .u32 f.next,.bool f.taken,.int .i64 f.cause,.int .u32 f.tval,.bool f.issued,.bool f.done,.int .i64 f.ready,.bool f.placed,.int .u32 f.addr,.bool f.spoils]
abbrev Fls:=List (Nat×Fl)
def flA (x:Nat×Fl):Asn:=blk x.1 x.2.cells 162
def alq (l:Fls):Asn:=all (l.map flA)
def Dj (l:LN):LV:=l.map λ b=>pZ b 0
def Cf.cells (c:Cf):LV:=[.int .i64 c.width,.int .i64 c.window,.int .i64 c.queue,.int .i64 c.regs,.int .i64 c.units,.int .i64 c.mul,.bool c.bold,.int .i64 c.kind,.int .i64 c.bits,.int .i64 c.hist,.int .i64 c.tgts,.int .i64 c.rets,.int .i64 c.sets,.int .i64 c.ways,.int .i64 c.bus]
def Ev.cells (e:Ev):LV:=[.int .i64 e.core,.int .i64 e.cycle,.int .i64 e.kind,.int .i64 e.seq,.int .u32 e.pc,.int .u32 e.r.pc,.int .u32 e.r.word,.int .i64 e.r.rd,.int .u32 e.r.value,.int .i64 e.r.cause,.int .u32 e.r.tval,.int .u32 e.r.next]
def zd (l:LI):LV:=l.map (.int .u8)
structure Oth where
 b:Nat
 cs:AV
 num:Int
 resv:Int
def Oth.cells (o:Oth):AV:=o.cs.setIfInBounds 32 (.int .u32 o.resv)
structure Oth.Ok (o:Oth):Prop where
 sz:o.cs.size=34
 num:o.cs[23]?=some (.int .i64 o.num)
def aqb (o:Oth):Asn:=blk o.b o.cells 92
def Oth.brk1 (o:Oth) (a:Int):Oth:=if o.resv=Eb a 3 then { o with resv:=0 } else o
def Oth.brk (o:Oth) (ws:LI):Oth:=ws.foldl Oth.brk1 o
structure Ka where
 C:Kc
 B:wD
 x:Nat
 cp:OA
 cc:Nat
 wb:Nat
 nb:Nat
 ub:Nat
 qb:Nat
 gb:Nat
 rb:Nat
 mb:Nat
 bb:Nat
 tb:Nat
 vb:Nat
 sp:OA
 sc:Nat
 cores:LN
 oth:List Oth
structure Ka.Ok (A:Ka):Prop where
 ok:A.C.Ok
 code:Sl A.B 47 1 (.slice A.cp A.C.code.length A.cc) A.C.code.length (u32s A.C.code)
 low:∀ q,(Value.slice A.cp A.C.code.length A.cc).ownBlock=some q->q<A.B.heap.size
 cores:∀ b ∈ A.cores,b=A.x∨∃ o ∈ A.oth,o.b=b
 len:A.cores.length≤2
 oth:∀ o ∈ A.oth,o.Ok/\o.num≠A.C.num
structure Km where
 K:Ko
 w:win.WS
 nfp:OA
 nfc:Nat
 q:lsq.PQ
 ps:pm.PS
 pd:pm.Dir
 fl:Fls
 fs:LN
 fp:OA
 fc:Nat
 ep:OA
 ec:Nat
 op:OA
 oc:Nat
 bp:cbus.BP
 S:cbus.PB
 oth:List Oth
def adz (A:Ka) (K:Ko) (fp:OA) (fn fc:Nat):LV:=[pZ A.wb 0,pZ A.nb 0,pZ A.qb 0,pZ A.gb 0,pZ A.rb 0,pZ A.bb 0,pZ A.tb 0,.slice (some ⟨A.vb,0,none⟩) A.C.R A.C.R,
 .int .i64 A.C.c.width,.int .i64 A.C.c.window,.int .i64 A.C.c.queue,.int .i64 A.C.c.regs,.int .i64 A.C.c.units,.int .i64 A.C.c.mul,.bool A.C.c.bold,.int .i64 A.C.c.kind,.int .i64 A.C.c.bits,.int .i64 A.C.c.hist,.int .i64 A.C.c.tgts,.int .i64 A.C.c.rets,.int .i64 A.C.c.sets,.int .i64 A.C.c.ways,.int .i64 A.C.c.bus,
 .int .i64 A.C.num,.slice A.cp A.C.code.length A.cc,.int .i64 A.C.dlen,.int .u32 K.pc,.int .u32 K.at_,.slice fp fn fc,.int .i64 K.cycle,.bool K.line,.bool K.halted,.int .u32 K.resv,.bool K.idle]
def Km.root (A:Ka) (M:Km):AV:=(adz A M.K M.fp M.fs.length M.fc).toArray
def Km.pieces (A:Ka) (M:Km):List Asn:=[blk A.x (M.root A) 92,br A.B,win.winA A.wb M.w,rm.nmA A.nb A.ub M.nfp M.nfc M.K.nm,lsq.qA A.qb M.q,pm.pgA A.gb M.ps M.pd,dj A.rb A.mb M.K.rs,blk A.vb (gn .u32 M.K.vals) 47,blk A.tb #[.slice M.ep M.K.evs.length M.ec,.slice M.op M.K.out.length M.oc,.slice A.sp A.cores.length A.sc] 69,sl 57 12 (.slice M.ep M.K.evs.length M.ec) M.K.evs.length (M.K.evs.flatMap Ev.cells),sl 5 1 (.slice M.op M.K.out.length M.oc) M.K.out.length (zd M.K.out),sl 154 1 (.slice M.fp M.fs.length M.fc) M.fs.length (Dj M.fs),alq M.fl,cbus.busA A.bb M.bp M.S,sl 70 1 (.slice A.sp A.cores.length A.sc) A.cores.length (Dj A.cores),all (M.oth.map aqb)]
def ae (A:Ka) (M:Km):Asn:=all (M.pieces A)
structure Km.Rep (A:Ka) (M:Km):Prop where
 win:Za A.C M.K M.w
 q:lsq.ens M.q=M.K.q
 qs:M.q.size=A.C.Q
 pr:PrR M.K.pr M.ps M.pd
 fn:(M.fl.map (·.1)).Nodup
 fd:M.fs.Nodup
 fk:M.fs.length=M.K.fls.length
 fl:∀ (j b:Nat) (f:Fl),M.fs[j]?=some b->M.K.fls[j]?=some f->(b,f) ∈ M.fl
 bus:M.K.bus=bNorm M.S
 gs:ahc M.S
 bg:M.bp.gs.length=M.S.Cs.length
 oth:M.oth=A.oth.map λ o=>o.brk M.K.wr
structure Kept (M M':Km):Prop where
 fs:∀ b ∈ M'.fs,b ∈ M.fs
 fl:∀ b f,(b,f) ∈ M.fl->∃ f',(b,f') ∈ M'.fl/\f'.seq=f.seq
 old:∀ b f,b ∉ M.fs->(b,f) ∈ M.fl->(b,f) ∈ M'.fl
theorem Kept.refl (M:Km):Kept M M:=⟨λ _ h=>h,λ b f h=>⟨f,h,rfl⟩,λ _ _ _ h=>h⟩
theorem Kept.of {M M':Km} (h1:M'.fs=M.fs) (h2:M'.fl=M.fl):Kept M M':=⟨λ _ h=>h1 ▸ h,λ b f h=>⟨f,h2 ▸ h,rfl⟩,λ _ _ _ h=>h2 ▸ h⟩
theorem Kept.trans {M M' M'':Km} (h:Kept M M') (h':Kept M' M''):Kept M M'' :=
 ⟨λ b hb=>h.fs b (h'.fs b hb),λ b f hf=>by
  obtain⟨f1,h1,e1⟩:=h.fl b f hf;obtain⟨f2,h2,e2⟩:=h'.fl b f1 h1
  exact⟨f2,h2,e2.trans e1⟩,λ b f hb hf=>h'.old b f (λ e=>hb (h.fs b e)) (h.old b f hb hf)⟩
theorem Kept.pre {M M1 M2:Km} (h:Kept M1 M2) (h1:M1.fs=M.fs) (h2:M1.fl=M.fl):Kept M M2:=(Kept.of h1 h2).trans h
abbrev Nx (A:Ka) (M:Km) (K':Ko):={ M':Km // M'.Rep A/\M'.K=K'/\Kept M M' }
def Nx.then {A:Ka}{M:Km}{K1 K2:Ko} (z:Nx A M K1) (y:Nx A z.1 K2):Nx A M K2:=⟨y.1,y.2.1,y.2.2.1,z.2.2.2.trans y.2.2.2⟩
def Nx.cast {A:Ka}{M:Km}{K1 K2:Ko} (z:Nx A M K1) (e:K1=K2):Nx A M K2:=⟨z.1,z.2.1,z.2.2.1.trans e,z.2.2.2⟩
variable {W w:wD}{A:Ka}{M M':Km}{L:List Asn}{b j n:Nat}{f f':Fl}{g:List Fl}{S:Nat->Prop}
theorem au (h:(ae A M).at_ W):St W (ae A M).own W (M.pieces A++[]):=(St.begin h).open_
theorem aq (H:St W (ae A M).own w (M'.pieces A++L)):Sep.Post (ae A M) W (ae A M') w:=(St.shut H).post 0 rfl
theorem Si (h:(ae A M).at_ W) (hh:ba W w):Sep.Post (ae A M) W (ae A M) w:=⟨(ae A M).keep h hh (λ _ _ e=>e),hh.mono (λ _ _ e=>e.elim),λ q hq=>.inl hq⟩
theorem Sj {l:Fls} (h:(alq l).at_ W) (hy:(b,f) ∈ l):Blk W b f.cells 162:=by
 obtain⟨k,hk⟩:=qK.1 hy
 have:(l.map flA)[k]?=some (flA (b,f)):=by simp [hk]
 exact here.nth k h this
theorem St.fl (H:St W S w (M.pieces A++L)) (hy:(b,f) ∈ M.fl):Blk w b f.cells 162:=Sj (H.nth 12 rfl) hy
theorem Sk {l:Fls} (hn:(l.map (·.1)).Nodup) (h:(b,f) ∈ l) (h':(b,f') ∈ l):f=f':=by
 obtain⟨i,hi⟩:=qK.1 h;obtain⟨k,hk⟩:=qK.1 h';obtain⟨hil,hi'⟩:=qD.1 hi;obtain⟨hkl,hk'⟩:=qD.1 hk;have:i=k:=(List.getElem_inj hn (h₀:=by rw[qd];exact hil) (h₁:=by rw[qd];exact hkl)).1 (by rw[List.getElem_map,List.getElem_map,hi',hk']);subst this;rw[hi] at hk;cases hk;rfl
def setB (l:Fls) (b:Nat) (f:Fl):Fls:=l.map λ y=>if y.1=b then (b,f) else y
theorem yk (l:Fls) (b:Nat) (f:Fl):(setB l b f).map (·.1)=l.map (·.1):=by
 unfold setB;rw[List.map_map];apply qlB;intro y _;show(if y.1=b then (b,f) else y).1=y.1;split
 ·rename_i e;exact e.symm
 ·rfl
theorem im {l:Fls} (h:(b,f) ∈ l) (f':Fl):(b,f') ∈ setB l b f':=qCB.2 ⟨(b,f),h,if_pos rfl⟩
theorem uq {l:Fls}{c:Nat}{f2:Fl} (h:(c,f2) ∈ l) (hc:c≠b) (f':Fl):(c,f2) ∈ setB l b f':=qCB.2 ⟨(c,f2),h,if_neg hc⟩
theorem Xd {l:Fls} (hn:(l.map (·.1)).Nodup){k:Nat} (hk:l[k]?=some (b,f)) (f':Fl):setB l b f'=l.set k (b,f'):=by
 apply qEB;intro i;unfold setB;rw[qS,qn];have hkl:=(qD.1 hk).1;by_cases e:k=i
 ·subst e;rw[if_pos rfl,if_pos hkl,hk];exact congrArg some (if_pos rfl)
 ·rw[if_neg e]
  cases hi:l[i]? with
  | none=>rfl
  | some y =>
   show some (if y.1=b then (b,f') else y)=some y;rw[if_neg];intro e2;apply e;have hil:=(qD.1 hi).1;refine(List.getElem_inj hn (h₀:=by rw[qd];exact hkl) (h₁:=by rw[qd];exact hil)).1 ?_;rw[List.getElem_map,List.getElem_map,(qD.1 hk).2,(qD.1 hi).2];exact e2.symm
def Km.setB (M:Km) (b:Nat) (f:Fl):Km:={ M with fl:=ko.setB M.fl b f }
theorem th (H:St W S w (M.pieces A++L)) (hn:(M.fl.map (·.1)).Nodup) (hy:(b,f) ∈ M.fl){i:Nat}{v:Value} (f':Fl) (hc:f.cells.setIfInBounds i v=f'.cells) (hi:i<28){φ:wD->Prop} (hq:∀ w',St W S w' ((M.setB b f').pieces A++L)->φ w') :
  (∃ u,w.cell? ⟨b,i,none⟩=some u)/\w.frozen? ⟨b,i,none⟩=false/\∀ w',w'=w.setCell ⟨b,i,none⟩ v->φ w':=by
 have hb:Blk w b f.cells 162:=St.fl H hy;have hs:i<f.cells.size:=hi;refine⟨⟨_,hb.cell' (qh hs)⟩,hb.frozen i,?_⟩;rintro w' rfl;obtain⟨k,hk⟩:=qK.1 hy
 have hk2:(M.fl.map flA)[k]?=some (blk b f.cells 162):=by rw[qS,hk];rfl
 have hp:=Gr (H.nth 12 rfl:Sep.here (M.fl.map flA) w) hk2 (Io hb i v);rw[hc] at hp
 have e:(M.fl.map flA).set k (blk b f'.cells 162)=(ko.setB M.fl b f').map flA:=by rw[Xd hn hk,qtB];rfl
 rw[e] at hp;exact hq _ (H.upd 12 rfl hp)
theorem yl {cs vs:AV}{t:TI}{o:Nat} (h:Blk w b cs t) (hv:∀ j u,vs[j]?=some u->cs[o+j]?=some u):Sx.cellsAt w ⟨b,o,none⟩ vs :=
 (St.begin (A:=blk b cs t) h).lds 0 rfl hv
theorem Km.Rep.at (h:M.Rep A){f:Fl} (hj:M.K.fls[j]?=some f):∃ b,M.fs[j]?=some b/\(b,f) ∈ M.fl:=by
 have hl:=(qD.1 hj).1;have hb:=qC (show j<M.fs.length by rw[h.fk];exact hl);exact⟨_,hb,h.fl j _ f hb hj⟩
theorem ti {p:OA}{m c:Nat}{l:LN}{t:TI} (h:Sl w t 1 (.slice p m c) m (Dj l)) (hk:l[j]?=some b) :
  ∃ g o,p=some ⟨g,o,none⟩/\w.cell? ⟨g,o+j,none⟩=some (pZ b 0):=by
 obtain⟨ao,cap,hv,hl, -, -, -,hc⟩:=h.open1;cases hv;have hjl:=(qD.1 hk).1
 have hm:m=l.length:=by rw[<- hl];unfold Dj;rw[qd]
 obtain⟨g,off,e, -,hcc⟩:=hc (by omega);refine⟨g,off,e,?_⟩;rw[(hcc j (by omega)).1];unfold Dj;rw[qS,hk];rfl
theorem Km.Rep.setw (h:M.Rep A) (hb:M.fs[j]?=some b) (hf:M.K.fls[j]?=some f){w':win.WS} (hw:WinR A.C (M.K.fls.set j f') M.K.nxt M.K.rdy w'):({ M.setB b f' with K:=M.K.setf j f',w:=w' }:Km).Rep A:=by
 have hm:=h.fl j b f hb hf;refine⟨hw,h.q,h.qs,h.pr,by show((ko.setB M.fl b f').map (·.1)).Nodup;rw[yk];exact h.fn,h.fd,by show _=(M.K.fls.set j f').length;rw[qJ];exact h.fk,λ k c f2 hc hk=>?_,h.bus,h.gs,h.bg,h.oth⟩;have hk:(M.K.fls.set j f')[k]?=some f2:=hk;have hc:M.fs[k]?=some c:=hc;rw[qn] at hk;by_cases e:j=k
 ·subst e;rw[if_pos rfl,if_pos (qD.1 hf).1] at hk;cases hk;rw[hb] at hc;cases hc;exact im hm f'
 ·rw[if_neg e] at hk;refine uq (h.fl k c f2 hc hk) (λ e2=>e ?_) f';subst e2;have h1:=(qD.1 hb).1;have h2:=(qD.1 hc).1;exact(List.getElem_inj h.fd (h₀:=h1) (h₁:=h2)).1 ((qD.1 hb).2.trans (qD.1 hc).2.symm)
theorem Km.Rep.setf (h:M.Rep A) (hb:M.fs[j]?=some b) (hf:M.K.fls[j]?=some f) (hs:dh f'=dh f):({ M.setB b f' with K:=M.K.setf j f' }:Km).Rep A:=h.setw hb hf (h.win.setf hf hs)
theorem Kept.setf (hn:(M.fl.map (·.1)).Nodup) (hb:M.fs[j]?=some b) (hy:(b,f) ∈ M.fl) (hs:f'.seq=f.seq) (e1:M'.fs=M.fs) (e2:M'.fl=ko.setB M.fl b f'):Kept M M':=by
 refine⟨λ c hc=>e1 ▸ hc,λ c f2 hc=>?_,λ c f2 hn hc=>by rw[e2];exact uq hc (λ e=>hn (e ▸ qN hb)) f'⟩;rw[e2];by_cases e:c=b
 ·subst e;refine⟨f',im hc f',?_⟩;rw[hs,Sk hn hy hc]
 ·exact⟨f2,uq hc e f',rfl⟩
theorem Inv.bok (hI:Inv A.C n g M.K) (h:M.Rep A):M.S.Ok n:=by
 have:=hI.bu;rw[h.bus] at this;exact Ww this h.gs
theorem Km.Rep.ev (h:M.Rep A){K':Ko}{M':Km} (e1:K'={ M.K with evs:=K'.evs }) (e2:M'={ M with K:=K',ep:=M'.ep,ec:=M'.ec }):M'.Rep A:=by
 rw[e2,e1];exact⟨h.win,h.q,h.qs,h.pr,h.fn,h.fd,h.fk,h.fl,h.bus,h.gs,h.bg,h.oth⟩
def ev0:AV:=#[.int .i64 0,.int .i64 0,.int .i64 0,.int .i64 0,.int .u32 0,.int .u32 0,.int .u32 0,.int .i64 0,.int .u32 0,.int .i64 0,.int .u32 0,.int .u32 0]
theorem Kl (e:Ev):∀ v ∈ e.cells,v.oneCell'=true:=by
 intro v hv;simp only[Ev.cells,qp,qFB,or_false] at hv;rcases hv with rfl | rfl | rfl | rfl | rfl | rfl | rfl | rfl | rfl | rfl | rfl | rfl <;> rfl
theorem Sm (e:Ev):∀ v ∈ e.cells.toArray.toList,v.oneCell'=true:=λ v hv=>Kl e v (by simpa using hv)
def Km.told (M:Km) (e:Ev) (p:OA) (c:Nat):Km:={ M with K:={ M.K with evs:=M.K.evs++[e] },ep:=p,ec:=c }
theorem lx (l:List Ev) (e:Ev):l.length+1=(l++[e]).length:=by rw[qP];rfl
theorem ol (l:List Ev) (e:Ev):l.flatMap Ev.cells++e.cells=(l++[e]).flatMap Ev.cells:=by rw[List.flatMap_append,List.flatMap_singleton]
theorem Kn (h:(ae A M).at_ W) (hn:M.K.evs.length≤1500000000000) (hy:(b,f) ∈ M.fl) (kind:Int) (r:Rt) :
  Calls prog 74 #[pZ A.x 0,.int .i64 kind,pZ b 0,.agg r.vs] W λ e w=>∃ z:OA×Nat,e=eY #[]/\Sep.Post (ae A M) W (ae A (M.told ⟨A.C.num,M.K.cycle,kind,f.seq,f.pc,r⟩ z.1 z.2)) w:=by
 have fl:∀ {B:wD} {L:List Asn},St W (ae A M).own B (M.pieces A++L)->Blk B b f.cells 162:=λ H=>St.fl H hy;refine aox A.x 0 kind b 0 r.vs ((au h).al λ k w2 H=>H.dr λ w3 H=>?_);refine⟨A.C.num,H.ld 0 rfl rfl,M.K.cycle,H.ld 0 rfl rfl,r.vs,rfl,H.cells 16 rfl,rfl,?_⟩;rintro vs2 rfl;refine H.alb λ k2 w4 H _ b4=>⟨b4,?_⟩;refine H.sts0 17 (vs:=(Ev.cells ⟨A.C.num,M.K.cycle,kind,0,0,r⟩).toArray) rfl rfl rfl (Sm _) λ w5 H=>?_;refine⟨λ B=>St W (ae A M).own B (M.pieces A++[blk k r.vs 55,blk k2 (Ev.cells ⟨A.C.num,M.K.cycle,kind,f.seq,f.pc,r⟩).toArray 57]),H.dr λ w6 H=>?_,λ _=>?_⟩
 ·refine⟨f.seq,(fl H).cell' rfl,⟨f.pc,(fl H).cell' rfl,Below.refl _ _,H.st 17 rfl (by show 3<12;omega) λ w7 H=>H.st 17 rfl (by show 4<12;omega) λ w8 H=>H⟩,H.st 17 rfl (by show 3<12;omega) λ w7 H=>⟨f.pc,(fl H).cell' rfl,H.st 17 rfl (by show 4<12;omega) λ w8 H=>H⟩⟩
 intro w11 H;obtain⟨ev,hev⟩:∃ ev:Ev,ev=⟨A.C.num,M.K.cycle,kind,f.seq,f.pc,r⟩:=⟨_,rfl⟩;rw[<- hev] at H ⊢
 have hn1:M.K.evs.length+1≤maxLen:=by have:maxLen=2 ^ 63 - 1:=rfl;omega
 have hn2:(M.K.evs.length+1) * 80≤140737488355328:=by omega
 have one:=Kl ev
 have cs:∀ {B:wD} {k6:Nat} {L:List Asn},St W (ae A M).own B ((M.pieces A++[blk k r.vs 55,blk k2 ev.cells.toArray 57])++[blk k6 ev.cells.toArray 57])->∀ j u,ev.cells[j]?=some u->B.cell? ((⟨k6,0,none⟩:Addr).add j)=some u:=by
  intro B k6 L H j u hj;rw[ac];exact H.ld 18 (i:=0+j) rfl (by simpa using hj)
 have fin:∀ {B:wD} {L:List Asn} {p':OA} {c':Nat},St W (ae A M).own B ((M.told ev p' c').pieces A++L)->∃ z:OA×Nat,eY #[]=eY #[]/\Sep.Post (ae A M) W (ae A (M.told ev z.1 z.2)) B:=λ {B L p' c'} H=>⟨(p',c'),rfl,aq H⟩;have H:=H.drew;intro w12 hw12;subst hw12;generalize w11.drew=w12 at H;refine⟨_,H.ld 0 rfl rfl,ptr_some ⟨_,_,_,by rw[ac];exact H.ld 8 rfl rfl,ev.cells.toArray,rfl,H.cells 17 rfl,⟨_,H.ld 0 rfl rfl,Below.refl _ _,rfl,H.alb λ k6 w13 H _ b13=>⟨b13,?_⟩⟩,rfl,H.alb λ k6 w13 H _ b13=>⟨b13,⟨_,H.ld 0 rfl rfl,b13,?_⟩,?_⟩⟩⟩
 ·refine H.app 9 rfl ev.cells (.inr ⟨_,rfl,cs (L:=[]) H⟩) rfl one hn1 hn2 λ p' c' w14 H=>ptr_some ?_;rw[ac];rw[lx M.K.evs ev,ol] at H;rw[lx M.K.evs ev];exact H.st 8 rfl (by show 0<3;omega) λ w15 H=>fin (p':=p') (c':=c') H
 ·refine H.app 9 rfl ev.cells (.inr ⟨_,rfl,cs (L:=[]) H⟩) rfl one hn1 hn2 λ p' c' w14 H=>ptr_some ?_;rw[ac];rw[lx M.K.evs ev,ol] at H;rw[lx M.K.evs ev];exact H.st 8 rfl (by show 0<3;omega) λ w15 H=>fin (p':=p') (c':=c') H
 ·refine H.app 9 rfl ev.cells (.inr ⟨_,rfl,cs (L:=[]) H⟩) rfl one hn1 hn2 λ p' c' w14 H=>⟨_,H.ld 0 rfl rfl,ptr_some ?_⟩;rw[ac];rw[lx M.K.evs ev,ol] at H;rw[lx M.K.evs ev];exact H.st 8 rfl (by show 0<3;omega) λ w15 H=>fin (p':=p') (c':=c') H
theorem tj (h:(ae A M).at_ W) (hR:M.Rep A) (hn:M.K.evs.length≤1500000000000) (hy:(b,f) ∈ M.fl) (kind:Int) (r:Rt) :
  Calls prog 74 #[pZ A.x 0,.int .i64 kind,pZ b 0,.agg r.vs] W λ e w=>∃ z:Nx A M (M.K.tell A.C kind f r),e=eY #[]/\Sep.Post (ae A M) W (ae A z.1) w :=
 (Kn h hn hy kind r).mono λ e w ⟨z,h1,h2⟩=>⟨⟨M.told ⟨A.C.num,M.K.cycle,kind,f.seq,f.pc,r⟩ z.1 z.2,hR.ev (K':={ M.K with evs:=M.K.evs++[⟨A.C.num,M.K.cycle,kind,f.seq,f.pc,r⟩] }) rfl rfl,rfl,Kept.of rfl rfl⟩,h1,h2⟩
def Km.ptr (M:Km) (s:Int):OA:=match M.K.fi s with
 | some i=>some ⟨M.fs.getD i 0,0,none⟩
 | none=>none
theorem Kp (h:(ae A M).at_ W) (hfk:M.fs.length=M.K.fls.length) (hat:∀ {j:Nat}{f:Fl},M.K.fls[j]?=some f->∃ b,M.fs[j]?=some b/\(b,f) ∈ M.fl) (hl:M.fs.length≤64) (s:Int) :
  Calls prog 55 #[pZ A.x 0,.int .i64 s] W λ e w=>e=eZ (.pointer (M.ptr s))/\w=W:=by
 have H:=au h;refine aoy A.x 0 s ⟨_,_,_,H.ld 0 rfl rfl,λ z w=>∃ m:Nat,z=m/\m≤M.fs.length/\(∀ i f,i<m->M.K.fls[i]?=some f->f.seq≠s)/\w=W,λ z _=>1000 - z.toNat,⟨0,rfl,by omega,λ i f hi=>by omega,rfl⟩,λ _=>?_⟩;rintro z w ⟨m,rfl,hm,hno,rfl⟩;refine aa (λ q=>?_) (λ q=>?_)
 ·have q:=qB q
  have hml:m<M.K.fls.length:=by omega
  have hf:=qC hml;obtain⟨b,hb,hfl⟩:=hat hf;obtain⟨g,o,hp,hc⟩:=ti (H.nth 11 rfl) hb;rw[hp];have hB:=St.fl H hfl;refine⟨⟨by omega,q⟩,adr_some ⟨_,by rw[ix1];exact hc,ptr_some ⟨M.K.fls[m].seq,by rw[ac];exact hB.cell' rfl,aa (λ q2=>?_) (λ q2=>?_)⟩⟩⟩
  ·have q2:M.K.fls[m].seq=s:=by simpa using q2
   have hfi:M.K.fi s=some m:=by
    unfold Ko.fi;rw[qv];refine⟨hml,by simpa using q2,λ j hj=>?_⟩;have:=hno j _ hj (qC (by omega));simpa using this
   refine⟨?_,rfl⟩;unfold Km.ptr;rw[hfi];show _=eZ (.pointer (some ⟨M.fs.getD m 0,0,none⟩));rw[qF,hb];rfl
  ·have q2:¬ M.K.fls[m].seq=s:=by simpa using q2
   rintro z2 rfl;rw[w64 (by omega) (by omega)];refine⟨⟨m+1,by omega,by omega,λ i f hi hif=>?_,rfl⟩,by show 1000 - ((m:Int)+1).toNat<1000 - (m:Int).toNat;omega⟩;by_cases e:i=m
   ·subst e;rw[hf] at hif;cases hif;exact q2
   ·exact hno i f (by omega) hif
 ·have q:=qE q
  have hfi:M.K.fi s=none:=by
   unfold Ko.fi;rw[qxB];intro x hx;obtain⟨i,hi⟩:=qK.1 hx;have hil:=(qD.1 hi).1;have:=hno i x (by omega) hi;simpa using this
  refine⟨?_,rfl⟩;unfold Km.ptr;rw[hfi]
theorem find_any (h:(ae A M).at_ W) (hR:M.Rep A) (hl:M.fs.length≤64) (s:Int) :
  Calls prog 55 #[pZ A.x 0,.int .i64 s] W λ e w=>e=eZ (.pointer (M.ptr s))/\w=W:=Kp h hR.fk hR.at hl s
theorem Km.ptr_at (hR:M.Rep A) (hI:Inv A.C n g M.K) (hf:M.K.fls[j]?=some f) (hb:M.fs[j]?=some b):M.ptr f.seq=some ⟨b,0,none⟩:=by
 unfold Km.ptr;rw[hI.at hf];show some _=_;rw[qF,hb];rfl
theorem value_any (h:(ae A M).at_ W) (hvl:M.K.vals.length=A.C.R){p:Int} (hp:p<A.C.R) :
  Calls prog 102 #[pZ A.x 0,.int .i64 p] W λ e w=>e=eZ (.int .u32 (M.K.val p))/\w=W:=by
 have H:=au h;refine aky A.x 0 p (aa (λ q=>?_) (λ q=>?_))
 ·have q:=qB q;refine⟨?_,rfl⟩;unfold Ko.val;rw[if_pos q]
 ·have q:=qE q;refine⟨_,_,_,H.ld 0 rfl rfl,⟨by omega,hp⟩,adr_some ⟨M.K.val p,?_,rfl,rfl⟩⟩;rw[qT,qW];refine H.ld 7 rfl (mi ?_);unfold Ko.val;rw[if_neg q,qF,qC (by omega)];rfl
end Go.Proofs.YtmncepdbglaphaaGreatDoor.ko
