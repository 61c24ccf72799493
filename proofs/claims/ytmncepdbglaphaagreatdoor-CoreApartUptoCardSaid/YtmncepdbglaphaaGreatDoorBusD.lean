/- A part of the walk. No condition. -/
import Derived.Test.YtmncepdbglaphaaGreatDoorBusB
set_option maxRecDepth 100000
namespace Go.Proofs.YtmncepdbglaphaaGreatDoor.cbus
open Go.RowKit Go.XHeap Go.Sx Go.Sep Go.Proofs.Tryz
structure Sn where
 core:Nat
 addr:Nat
 from_:Nat
 to:Nat
def Sn.cells (s:Sn):LV:=[.int .i64 (s.core:Nat),.int .u32 (s.addr:Nat),.int .i64 (s.from_:Nat),.int .i64 (s.to:Nat)]
def outA (p:OA) (c:Nat) (l:List Sn):Asn:=sl 147 4 (.slice p l.length c) l.length (l.flatMap Sn.cells)
structure LS where
 S:PB
 out:List Sn
 mine:Nat
def yz (w:Bool):Nat:=if w then 0 else 1
def LS.step (core a:Nat) (w:Bool) (X:LS) (k:Nat):LS :=
 if k=core∨(X.S.C k).stateAt a=0 then X
 else if yz w<(X.S.C k).stateAt a then
  ⟨{ X.S.setC k ((X.S.C k).lowN a (yz w)) with mem:=keepM X.S.mem ((X.S.C k).lowY a (yz w)) },X.out++[⟨k,a,(X.S.C k).stateAt a,yz w⟩],if w then X.mine else 1⟩
 else { X with mine:=if w then X.mine else 1 }
def LS.run (core a:Nat) (w:Bool) (S:PB):Nat->LS
 | 0=>⟨S,[],2⟩
 | k+1=>(LS.run core a w S k).step core a w k
variable {W w:wD}{b m:Nat}{B:BP}{S S':PB}{L:List Asn}
structure Same (S S':PB):Prop where
 n:S'.Cs.length=S.Cs.length
 len:S'.len=S.len
 cyc:S'.cyc=S.cyc
 asks:S'.asks=S.asks
 last:S'.last=S.last
 now:S'.now=S.now
 left:S'.left=S.left
theorem Same.refl (S:PB):Same S S:=⟨rfl,rfl,rfl,rfl,rfl,rfl,rfl⟩
theorem Same.trans {S S' S'':PB} (h:Same S S') (h':Same S' S''):Same S S'':=⟨h'.n.trans h.n,h'.len.trans h.len,h'.cyc.trans h.cyc,h'.asks.trans h.asks,h'.last.trans h.last,h'.now.trans h.now,h'.left.trans h.left⟩
def PB.move (S:PB) (k:Nat) (C:CS) (y:Way):PB:={ S.setC k C with mem:=keepM S.mem y }
theorem Em {k:Nat}{C:CS}{y:Way} (hy:y.Ok) (hl:y.state≠0->bm S.len y.line):Same S (S.move k C y) :=
 ⟨qJ,my hy hl,rfl,rfl,rfl,rfl,rfl⟩
theorem Qm (ho:S.Ok m){k:Nat} (hk:k<S.Cs.length){C:CS}{m':Nat} (hm:m≤m') (hC:C.Good S.len m'){y:Way} (hy:y.Ok) (hl:y.state≠0->bm S.len y.line):(S.move k C y).Ok m':=by
 have h1:=Hg ho hk hm hC;have e:(S.move k C y).len=S.len:=my hy hl;exact⟨h1.n,λ j hj=>by rw[e];exact h1.cs j hj,by rw[e];exact ho.l16,by rw[e];exact ho.len,Mc hy ho.byte,ho.cyc,λ j a w h=>by rw[e];exact h1.asks j a w h,h1.last,h1.now,ho.left⟩
theorem step_def (core a:Nat) (wr:Bool) (X:LS) (k:Nat):X.step core a wr k =
 if k=core∨(X.S.C k).stateAt a=0 then X
 else if yz wr<(X.S.C k).stateAt a then ⟨X.S.move k ((X.S.C k).lowN a (yz wr)) ((X.S.C k).lowY a (yz wr)),X.out++[⟨k,a,(X.S.C k).stateAt a,yz wr⟩],if wr then X.mine else 1⟩
 else { X with mine:=if wr then X.mine else 1 }:=rfl
structure LS.Ok (X:LS) (S:PB) (m k:Nat):Prop where
 ok:X.S.Ok m
 same:Same S X.S
 out:X.out.length≤k
 mine:X.mine=1∨X.mine=2
theorem Yk (wr:Bool):yz wr≤1:=by unfold yz;split <;> omega
theorem Ah (ho:S.Ok m) (core a:Nat) (wr:Bool):∀ k,k≤S.Cs.length->(LS.run core a wr S k).Ok S m k
 | 0,_=>⟨ho,Same.refl S,qY _,.inr rfl⟩
 | k+1,hk=>by
  have ih:=Ah ho core a wr k (by omega);show((LS.run core a wr S k).step core a wr k).Ok S m (k+1);generalize LS.run core a wr S k=X at ih
  have hkx:k<X.S.Cs.length:=by rw[ih.same.n];omega
  have hmine:(if wr then X.mine else 1)=1∨(if wr then X.mine else 1)=2:=by
   cases wr
   ·exact .inl rfl
   ·exact ih.mine
  rw[step_def];split
  ·exact⟨ih.ok,ih.same,by have:=ih.out;omega,ih.mine⟩
  ·split
   ·have hg:=ih.ok.cs k hkx;obtain⟨h1,h2⟩:=Qi hg a (yz wr);exact⟨Qm ih.ok hkx (qY _) (sj hg a _ (by have:=Yk wr;omega)) h1 h2,ih.same.trans (Em h1 h2),by have:=ih.out;simp;omega,hmine⟩
   ·exact⟨ih.ok,ih.same,by have:=ih.out;show X.out.length≤k+1;omega,hmine⟩
def PB.done (S:PB) (core a:Nat) (wr:Bool):LS :=
 let X:=LS.run core a wr S S.Cs.length;let C1:=(X.S.C core).lowN a 0;let g:=C1.goneOf a
 ⟨X.S.move core (C1.fillN a ((X.S.mem.drop (a - 65536)).take 16) X.mine) g,(if g.state≠0 then X.out++[⟨core,g.line,g.state,0⟩] else X.out)++[⟨core,a,(X.S.C core).stateAt a,X.mine⟩],X.mine⟩
theorem done_ok (ho:S.Ok m) (hm:m+1<4611686018427387904){core a:Nat} (hk:core<S.Cs.length) (hl:bm S.len a) (wr:Bool):(S.done core a wr).Ok S (m+1) (S.Cs.length+2):=by
 have hr:=Ah ho core a wr S.Cs.length (qY _);unfold PB.done;generalize LS.run core a wr S S.Cs.length=X at hr;dsimp only
 have hkx:core<X.S.Cs.length:=by rw[hr.same.n];exact hk
 have hg:=sj (hr.ok.cs core hkx) a 0 (by omega);obtain⟨h1,h2⟩:=xx hg a;have hlen:=hr.ok.len
 have hlx:bm X.S.len a:=by rw[hr.same.len];exact hl
 have hl2:=hlx;unfold bm at hl2;unfold PB.len at hl2 hlen;refine⟨Qm hr.ok hkx (Nat.le_succ _) (Ma hg hm (by omega) hlx (by simp;omega) (λ x hx=>hr.ok.byte x (qhB (qRB hx))) (by have:=hr.mine;omega)) h1 h2,hr.same.trans (Em h1 h2),?_,hr.mine⟩;have:=hr.out;split <;> simp <;> omega
theorem snoop_one (x:Sn):∀ v ∈ x.cells,v.oneCell'=true:=by
 intro v hv;simp only[Sn.cells,qp,qFB,or_false] at hv;rcases hv with rfl | rfl | rfl | rfl <;> rfl
def PB.keepN (S:PB) (y:Way):PB:={ S with mem:=keepM S.mem y }
theorem Eo (hA:(busA b B S).at_ W) (ho:S.len≤4096){y:Way} (hy:y.Ok) (hL:y.state≠0->bm S.len y.line) :
  Calls prog 46 #[pZ b 0,.agg y.lineC.toArray] W λ e w=>e=eY #[]/\Sep.Post (busA b B S) W (busA b B (S.keepN y)) w:=by
 have H:=az hA;refine(Jh (H.blk 0 rfl) rfl (H.nth 4 rfl) (λ e=>(Sep.St.disj (agl hA) 0 4 (by decide) rfl rfl b rfl) e) ho hy hL).mono ?_;rintro e w ⟨rfl,hp⟩;refine⟨rfl,Cc (L:=[]) ?_⟩;have e2:(S.keepN y).len=S.len:=my hy hL;unfold BP.pieces BP.root;rw[e2];exact H.upd 4 rfl hp
theorem kw (hA:(busA b B S).at_ W) (hB:B.gs.length=S.Cs.length){k:Nat} (hk:k<S.Cs.length):(af (B.gs.getD k 0) (S.C k)).at_ W:=((az hA).nth 2 rfl).nth k (mu hB hk)
theorem xy {M:Nat->Prop} (H:St W M w L) (k:Nat){p:OA}{c:Nat}{out:List Sn} (hk:L[k]?=some (outA p c out)) (x:Sn) (hlen:out.length≤100){φ:OA->Nat->wD->Prop}
  (hq:∀ p' c' w',St W M w' (L.set k (outA p' c' (out++[x])))->φ p' c' w'):∀ vs:AV,vs=x.cells.toArray->vs.size=4/\∀ (kb:Nat) (wb:wD),kb=w.heap.size->wb=w.alloc (.cells (vs.toList++[]).toArray 147) ->
   ∃ olds news:LV,Sl wb 147 4 (.slice p out.length c) out.length olds/\(((1:Nat)=(0:Nat)/\some (⟨kb,0,none⟩:Addr)=none)∨∃ a,some (⟨kb,0,none⟩:Addr)=some a/\∀ j u,news[j]?=some u->wb.cell? (a.add j)=some u)/\news.length=4/\(∀ u ∈ news,u.oneCell'=true)/\out.length+1≤maxLen/\(out.length+1) * 32≤140737488355328 /\
   ∀ (p':OA) (c':Nat) (w':wD),Sl w' 147 4 (.slice p' (out.length+1) c') (out.length+1) (olds++news)->XTouch (λ b=>(Value.slice p out.length c).ownBlock=some b) wb w'->(∀ b,(Value.slice p' (out.length+1) c').ownBlock=some b->(Value.slice p out.length c).ownBlock=some b∨wb.heap.size≤b)->Sl w' 147 4 (.slice p out.length c) out.length olds->((p'=p/\c'=c)∨((NilP p∨c<out.length+1)/\∀ b,(Value.slice p' (out.length+1) c').ownBlock=some b->wb.heap.size≤b))->φ p' c' w':=by
 rintro vs rfl;have hkl:k<L.length:=(qD.1 hk).1;refine⟨rfl,H.al λ kb wb H=>?_⟩
 have hk2:(L++[blk kb (x.cells.toArray.toList++[]).toArray 147])[k]?=some (outA p c out):=by rw[qk hkl];exact hk
 have hk3:(L++[blk kb (x.cells.toArray.toList++[]).toArray 147])[L.length]?=some (blk kb (x.cells.toArray.toList++[]).toArray 147):=by simp
 refine H.app k (m:=1) (bytes:=32) hk2 x.cells (.inr ⟨_,rfl,λ j u hj=>H.cells L.length hk3 j u (by simpa using hj)⟩) rfl (snoop_one x) (by have:maxLen=2 ^ 63 - 1:=rfl;omega) (by omega) λ p' c' w' H=>hq p' c' w' ?_;rw[List.set_append_left _ _ hkl] at H;have H:=H.sub
 have e:outA p' c' (out++[x])=sl 147 4 (.slice p' (out.length+1) c') (out.length+1) (out.flatMap Sn.cells++x.cells):=by
  unfold outA;simp
 rw[e];exact H
theorem Qn {C:CS}{a s:Nat} (h:¬ s<C.stateAt a):C.lowN a s=C:=by
 unfold CS.lowN;split
 ·rw[if_neg h]
 ·rfl
theorem Ep {k:Nat} (hk:k<S.Cs.length):S.setC k (S.C k)=S:=by
 unfold PB.setC PB.C
 have:S.Cs.set k (S.Cs.getD k noCS)=S.Cs:=by
  rw[qF,qC hk];exact List.set_getElem_self hk
 rw[this]
theorem Ji (ho:S.Ok m) (core a:Nat) (wr:Bool){k:Nat} (hk:k≤S.Cs.length) (hl:bm S.len a):bm (LS.run core a wr S k).S.len a:=by
 rw[(Ah ho core a wr k hk).same.len];exact hl
theorem Md (hA:(busA b B S).at_ W) (ho:S.Ok m) (hm:m+1<4611686018427387904) (hB:B.gs.length=S.Cs.length){core a:Nat} (hk:core<S.Cs.length) (hl:bm S.len a) (wr:Bool) :
  Calls prog 36 #[pZ b 0,.int .i64 core,.agg #[.int .u32 a,.bool wr]] W λ e w=>∃ z:OA×Nat,e=eZ (.slice z.1 (S.done core a wr).out.length z.2)/\Sep.Post (busA b B S) W (all [busA b B (S.done core a wr).S,outA z.1 z.2 (S.done core a wr).out]) w:=by
 have hn:=ho.n;have hlen:=ho.len;have hl2:=hl;unfold bm at hl2
 have ha:a<4294967296:=by omega
 have ha16:a % 16=0:=hl2.1;refine aob b 0 core _ ((St.begin hA).al λ ka w2 H=>?_);have H:St W (busA b B S).own w2 [busA b B S,blk ka #[.int .u32 a,.bool wr] 143]:=H;refine⟨λ x w=>x=(yz wr:Nat)/\St W (busA b B S).own w [busA b B S,blk ka #[.int .u32 a,.bool wr] 143],⟨wr,H.ld 1 rfl rfl,aa (λ q=>⟨by simp at q;rw[q];rfl,H⟩) (λ q=>⟨by simp at q;rw[q];rfl,H⟩)⟩,λ _=>?_⟩;clear H;rintro x w3 ⟨rfl,H⟩;have hB0:=hB;refine⟨λ x8 x9 k17 k18 w=>x8=((LS.run core a wr S S.Cs.length).mine:Nat)/\k17=(LS.run core a wr S S.Cs.length).out.length/\St W (busA b B S).own w [busA b B (LS.run core a wr S S.Cs.length).S,blk ka #[.int .u32 a,.bool wr] 143,outA x9 k18 (LS.run core a wr S S.Cs.length).out],?_,λ _=>?_⟩
 ·refine⟨_,_,_,((az (H.nth 0 rfl)).ld 0 rfl rfl),?_⟩
  refine⟨λ x2 x3 k4 k5 x4 w=>∃ k:Nat,x2=k/\k≤S.Cs.length/\x4=((LS.run core a wr S k).mine:Nat)/\k4=(LS.run core a wr S k).out.length/\St W (busA b B S).own w [busA b B (LS.run core a wr S k).S,blk ka #[.int .u32 a,.bool wr] 143,outA x3 k5 (LS.run core a wr S k).out],
   λ x2 _ _ _ _ _=>S.Cs.length - x2.toNat,⟨0,rfl,qQ _,rfl,rfl,?_⟩,λ _=>?_⟩
  ·exact H.add (A:=outA none 0 []) ⟨Sl.nil _ _ _,qH _ _,λ q e=>by cases e⟩
  have hsl:=(az (H.nth 0 rfl)).nth 1 rfl;obtain⟨g,off,hp, -⟩:=jq hsl hB (k:=0) (by omega);clear H;rintro x2 x3 k4 k5 x4 w4 ⟨k,rfl,hkn,rfl,rfl,H⟩;have hr:=Ah ho core a wr k hkn;have hlx:=Ji ho core a wr hkn hl;have hout:=hr.out;refine aa (λ q=>?_) (λ q=>?_)
  rotate_left
  ·have q:=qE q;obtain rfl:k=S.Cs.length:=by omega
   exact⟨rfl,rfl,H⟩
  have q:=qB q
  have hkl:k<S.Cs.length:=by omega
  have hkx:k<(LS.run core a wr S k).S.Cs.length:=by rw[hr.same.n];exact hkl
  have hBx:B.gs.length=(LS.run core a wr S k).S.Cs.length:=by rw[hr.same.n];exact hB
  have erun:LS.run core a wr S (k+1)=(LS.run core a wr S k).step core a wr k:=rfl;refine⟨λ p n c mine w=>mine=((LS.run core a wr S (k+1)).mine:Nat)/\n=(LS.run core a wr S (k+1)).out.length/\St W (busA b B S).own w [busA b B (LS.run core a wr S (k+1)).S,blk ka #[.int .u32 a,.bool wr] 143,outA p c (LS.run core a wr S (k+1)).out],?_,λ _=>?_⟩
  rotate_left
  ·rintro x6 k15 k16 x7 w13 ⟨rfl,rfl,H⟩ z5 rfl;rw[w64 (by omega) (by omega)];exact⟨⟨k+1,by omega,by omega,rfl,rfl,H⟩,by show S.Cs.length - ((k:Int)+1).toNat<S.Cs.length - (k:Int).toNat;omega⟩
  rw[erun];generalize LS.run core a wr S k=X at *;obtain⟨g',off',hp',hcell⟩:=jq ((az (H.nth 0 rfl)).nth 1 rfl) hBx hkx;rw[hp] at hp';cases hp';refine⟨⟨by omega,q⟩,adr_eq hp ⟨_,by rw[ix1];exact hcell,_,H.ld 1 rfl rfl,?_⟩⟩;refine H.callq (xu (hr.ok.cs k hkx).ok (kw (H.nth 0 rfl) hBx hkx) a ha) λ w5 H=>⟨_,rfl,?_⟩;rw[step_def];refine aa (λ q1=>?_) (λ q1=>aa (λ q2=>?_) (λ q2=>?_))
  ·have q1:(k:Int)=(core:Int):=by simpa using q1
   rw[if_pos (.inl (by omega))];exact⟨rfl,rfl,H⟩
  ·have q2:((X.S.C k).stateAt a:Int)=0:=by simpa using q2
   rw[if_pos (.inr (by omega))];exact⟨rfl,rfl,H⟩
  have q1:¬ (k:Int)=(core:Int):=by simpa using q1
  have q2:¬ ((X.S.C k).stateAt a:Int)=0:=by simpa using q2
  rw[if_neg (by omega)];refine⟨λ mine w=>mine=((if wr then X.mine else 1:Nat):Int)/\St W (busA b B S).own w [busA b B X.S,blk ka #[.int .u32 a,.bool wr] 143,outA x3 k5 X.out],⟨wr,H.ld 1 rfl rfl,aa (λ q=>⟨by simp at q;rw[q];rfl,H⟩) (λ q=>⟨by simp at q;rw[q];rfl,H⟩)⟩,λ _=>?_⟩;clear H;rintro x5 w6 ⟨rfl,H⟩;have hg:=hr.ok.cs k hkx;refine⟨_,H.ld 1 rfl rfl,(Qh hg (kw (H.nth 0 rfl) hBx hkx) a ha ha16 (yz wr) (by have:=Yk wr;omega)).mono ?_⟩;rintro e w7 ⟨rfl,hpost⟩;have H:=H.upd 0 rfl (mw (H.nth 0 rfl) hBx hkx hpost);obtain⟨hy1,hy2⟩:=Qi hg a (yz wr)
  have h18:((X.S.C k).lowY a (yz wr)).lineC.toArray.size=18:=by simpa using jp hy1
  refine⟨_,_,rfl,H.al λ k8 w8 H=>H.sts0 3 rfl h18 rfl (dy _ _ _) λ w9 H=>?_⟩;by_cases q3:yz wr<(X.S.C k).stateAt a
  ·rw[if_pos q3]
   have e0:errV ((X.S.C k).lowE a (yz wr))= .nilIface:=by unfold CS.lowE;rw[if_pos q3];rfl
   rw[e0];refine jk (aa (λ _=>⟨_,h18,H.cells 3 rfl,?_⟩) (λ q=>by cases q));refine H.call 0 rfl (Eo (H.nth 0 rfl) (by exact hr.ok.len) hy1 hy2) λ w10 H=>⟨rfl,_,H.ld 1 rfl rfl,?_⟩;exact xy H 2 rfl ⟨k,a,(X.S.C k).stateAt a,yz wr⟩ (by omega) λ p' c' w' H=>⟨rfl,by simp,H.take 3⟩
  ·rw[if_neg q3]
   have e0:errV ((X.S.C k).lowE a (yz wr))=errN 7:=by unfold CS.lowE;rw[if_neg q3];rfl
   rw[e0];refine Dx (aa (λ q=>by cases q) (λ _=>⟨rfl,rfl,?_⟩));rw[Qn q3,Ep hkx] at H;exact H.take 3
 ·clear H;rintro x8 x9 k17 k18 w14 ⟨rfl,rfl,H⟩;have hr:=Ah ho core a wr S.Cs.length (qY _);have hlx:=Ji ho core a wr (qY _) hl;have hout:=hr.out;have hdok:=done_ok ho hm hk hl wr;unfold PB.done at hdok ⊢;generalize LS.run core a wr S S.Cs.length=X at *;dsimp only at hdok ⊢
  have hkx:core<X.S.Cs.length:=by rw[hr.same.n];exact hk
  have hBx:B.gs.length=X.S.Cs.length:=by rw[hr.same.n];exact hB
  have hg:=hr.ok.cs core hkx;obtain⟨g,off,hp,hcell⟩:=jq ((az (H.nth 0 rfl)).nth 1 rfl) hBx hkx;have hmine:=hr.mine;refine⟨_,_,_,(az (H.nth 0 rfl)).ld 0 rfl rfl,⟨by omega,by omega⟩,adr_eq hp ⟨_,by rw[ix1];exact hcell,_,H.ld 1 rfl rfl,?_⟩⟩;refine H.callq (xu hg.ok (kw (H.nth 0 rfl) hBx hkx) a ha) λ w15 H=>⟨_,rfl,?_⟩;have hC1:=sj hg a 0 (by omega);refine⟨λ w=>St W (busA b B S).own w [busA b B (X.S.setC core ((X.S.C core).lowN a 0)),blk ka #[.int .u32 a,.bool wr] 143,outA x9 k18 X.out],aa (λ q=>?_) (λ q=>?_),λ _=>?_⟩
  ·refine⟨_,H.ld 1 rfl rfl,(Qh hg (kw (H.nth 0 rfl) hBx hkx) a ha ha16 0 (by omega)).mono ?_⟩;rintro e w16 ⟨rfl,hpost⟩;exact⟨_,_,rfl,H.upd 0 rfl (mw (H.nth 0 rfl) hBx hkx hpost)⟩
  ·have q:((X.S.C core).stateAt a:Int)=0:=by simpa using q
   rw[Qn (by omega),Ep hkx];exact H
  clear H;intro w17 H
  have hkx':core<(X.S.setC core ((X.S.C core).lowN a 0)).Cs.length:=by rw[show(X.S.setC core ((X.S.C core).lowN a 0)).Cs.length=X.S.Cs.length from qJ];exact hkx
  have hB':B.gs.length=(X.S.setC core ((X.S.C core).lowN a 0)).Cs.length:=by rw[show(X.S.setC core ((X.S.C core).lowN a 0)).Cs.length=X.S.Cs.length from qJ];exact hBx
  have eC:(X.S.setC core ((X.S.C core).lowN a 0)).C core=(X.S.C core).lowN a 0:=by rw[Yj hkx,if_pos rfl]
  have ell:∀ C:CS,(X.S.setC core ((X.S.C core).lowN a 0)).setC core C=X.S.setC core C:=by
   intro C;unfold PB.setC;simp
  have hl3:=hlx;unfold bm PB.len at hl3;have hlen2:=hr.ok.len;unfold PB.len at hlen2
  have hb16:((X.S.mem.drop (a - 65536)).take 16).length=16:=by
   have:a - 65536+16≤X.S.mem.length:=by omega
   generalize a - 65536=d at this;simp;omega
  have hb2:∀ x ∈ (X.S.mem.drop (a - 65536)).take 16,x<256:=λ x hx=>hr.ok.byte x (qhB (qRB hx))
  have u16:(u8n ((X.S.mem.drop (a - 65536)).take 16)).toArray.size=16:=by simpa [kv] using hb16
  obtain⟨hy1,hy2⟩:=xx hC1 a
  have h18:(((X.S.C core).lowN a 0).goneOf a).lineC.toArray.size=18:=by simpa using jp hy1
  have hgo:∀ {w:wD} {L:List Asn},St W (busA b B S).own w (busA b B (X.S.setC core ((X.S.C core).lowN a 0))::L)->Calls prog 51 #[.pointer (some ⟨B.gs.getD core 0,0,none⟩),.int .u32 a,.agg (u8n ((X.S.mem.drop (a - 65536)).take 16)).toArray,.int .i64 X.mine] w λ e w' =>
    e=eY #[.agg (((X.S.C core).lowN a 0).goneOf a).lineC.toArray,.bool (decide ((((X.S.C core).lowN a 0).goneOf a).state≠0)),errV (((X.S.C core).lowN a 0).fillE a)]/\St W (busA b B S).own w' (busA b B (X.S.setC core (((X.S.C core).lowN a 0).fillN a ((X.S.mem.drop (a - 65536)).take 16) X.mine))::L):=by
   intro w L H;have hc:=kw (H.nth 0 rfl) hB' hkx';rw[eC] at hc;refine(agk hC1 hm hc a ha ha16 _ hb16 hb2 X.mine (by omega) (by omega)).mono ?_;rintro e w' ⟨rfl,hpost⟩;have hp2:=mw (C:=((X.S.C core).lowN a 0).fillN a ((X.S.mem.drop (a - 65536)).take 16) X.mine) (H.nth 0 rfl) hB' hkx' (by rw[eC];exact hpost);rw[ell] at hp2;exact⟨rfl,H.upd 0 rfl hp2⟩
  obtain⟨hdc,hm2⟩:=El ((az (H.nth 0 rfl)).nth 4 rfl);obtain⟨g2,off2,hdp, -⟩:=hm2 (by show 0<X.S.mem.length;omega)
  have hmem:∀ {w:wD} {L:List Asn},St W (busA b B S).own w (busA b B (X.S.setC core ((X.S.C core).lowN a 0))::L)->Calls prog 52 #[pZ b 0,.int .u32 a] w λ e w'=>e=eZ (.slice (some ⟨g2,off2+(a - 65536),none⟩) 16 (B.dc - (a - 65536)))/\w'=w :=
   λ H=>Ag (l:=X.S.mem) ((az (H.nth 0 rfl)).blk 0 rfl) rfl hdp hdc hlen2 hlx
  have hcells:∀ {w:wD} {L:List Asn},St W (busA b B S).own w (busA b B (X.S.setC core ((X.S.C core).lowN a 0))::L)->cellsAt w ⟨g2,off2+(a - 65536),none⟩ (u8n ((X.S.mem.drop (a - 65536)).take 16)).toArray:=by
   intro w L H i v hi;obtain⟨-,hm3⟩:=El ((az (H.nth 0 rfl)).nth 4 rfl);obtain⟨g',off',e,h4⟩:=hm3 (by show 0<X.S.mem.length;omega);rw[hdp] at e;cases e;rw[ac]
   have hi16:i<16:=by
    have:=(qUB.1 hi).1;omega
   have:=(h4 (a - 65536+i) (by show _<X.S.mem.length;omega)).1;rw[Nat.add_assoc,this];rw[qTB] at hi;unfold u8n at hi;rw[qS,qa hi16,qAB] at hi;rw[<- hi,qF]
   have hlt:a - 65536+i<X.S.mem.length:=by omega
   show some (Value.int .u8 ((X.S.mem[a - 65536+i]?.getD 0:Nat):Int))=_;rw[qC hlt];rfl
  refine⟨λ t q w=>∃ kg:Nat,t=decide ((((X.S.C core).lowN a 0).goneOf a).state≠0)/\q=some ⟨kg,0,none⟩/\St W (busA b B S).own w [busA b B (X.S.setC core (((X.S.C core).lowN a 0).fillN a ((X.S.mem.drop (a - 65536)).take 16) X.mine)),blk ka #[.int .u32 a,.bool wr] 143,outA x9 k18 X.out,blk kg (((X.S.C core).lowN a 0).goneOf a).lineC.toArray 167],H.dr λ w18 H=>⟨_,H.ld 1 rfl rfl,_,H.ld 1 rfl rfl,?_,?_⟩,λ _=>?_⟩
  ·refine(hmem H).mono ?_;rintro e w19 ⟨rfl,rfl⟩;refine⟨_,_,_,rfl,RowKit.Below.refl _ _,qY _,ptr_some ⟨_,u16,hcells H,?_,?_⟩⟩
   ·refine(hgo H).mono ?_;rintro e w20 ⟨rfl,H⟩;exact⟨_,_,_,rfl,H.al λ kg w21 H=>H.sts0 3 rfl h18 rfl (dy _ _ _) λ w22 H=>⟨kg,rfl,rfl,H⟩⟩
   ·refine H.alb λ kg w23 H _ hb=>⟨hb,(hgo H).mono ?_⟩;rintro e w24 ⟨rfl,H⟩;exact⟨_,_,_,rfl,H.sts0 3 rfl h18 rfl (dy _ _ _) λ w22 H=>⟨kg,rfl,rfl,H⟩⟩
  ·have hcell0:=hcells H;refine H.alb λ kg w26 H _ hb=>⟨hb,(hmem H).mono ?_⟩;rintro e w27 ⟨rfl,rfl⟩;refine⟨_,_,_,rfl,hb,qY _,ptr_some ⟨_,u16,hcell0,(hgo H).mono ?_⟩⟩;rintro e w28 ⟨rfl,H⟩;exact⟨_,_,_,rfl,H.sts0 3 rfl h18 rfl (dy _ _ _) λ w22 H=>⟨kg,rfl,rfl,H⟩⟩
  clear H;rintro x10 x11 w30 ⟨kg,rfl,rfl,H⟩
  have hout2:(if (((X.S.C core).lowN a 0).goneOf a).state≠0 then X.out++[⟨core,(((X.S.C core).lowN a 0).goneOf a).line,(((X.S.C core).lowN a 0).goneOf a).state,0⟩] else X.out).length≤100:=by
   split
   ·simp;omega
   ·omega
  refine⟨λ p n c w=>n=(if (((X.S.C core).lowN a 0).goneOf a).state≠0 then X.out++[⟨core,(((X.S.C core).lowN a 0).goneOf a).line,(((X.S.C core).lowN a 0).goneOf a).state,0⟩] else X.out).length /\
   St W (busA b B S).own w [busA b B (X.S.move core (((X.S.C core).lowN a 0).fillN a ((X.S.mem.drop (a - 65536)).take 16) X.mine) (((X.S.C core).lowN a 0).goneOf a)),blk ka #[.int .u32 a,.bool wr] 143,outA p c (if (((X.S.C core).lowN a 0).goneOf a).state≠0 then X.out++[⟨core,(((X.S.C core).lowN a 0).goneOf a).line,(((X.S.C core).lowN a 0).goneOf a).state,0⟩] else X.out)],aa (λ q=>?_) (λ q=>?_),λ _=>?_⟩
  ·have q:=qB q;rw[if_pos q];refine ptr_some ⟨_,h18,H.cells 3 rfl,?_⟩;refine H.call 0 rfl (Eo (H.nth 0 rfl) (by exact hr.ok.len) hy1 hy2) λ w31 H=>⟨rfl,ptr_some ⟨_,by rw[ac];exact H.ld 3 rfl rfl,ptr_some ⟨_,by rw[ac];exact H.ld 3 rfl rfl,?_⟩⟩⟩;exact xy H 2 rfl ⟨core,(((X.S.C core).lowN a 0).goneOf a).line,(((X.S.C core).lowN a 0).goneOf a).state,0⟩ (by omega) λ p' c' w' H=>⟨by simp,H.take 3⟩
  ·have q:=qE q;rw[if_neg q]
   have e:X.S.move core (((X.S.C core).lowN a 0).fillN a ((X.S.mem.drop (a - 65536)).take 16) X.mine) (((X.S.C core).lowN a 0).goneOf a)=X.S.setC core (((X.S.C core).lowN a 0).fillN a ((X.S.mem.drop (a - 65536)).take 16) X.mine):=by
    unfold PB.move keepM;rw[if_neg (by omega)];rfl
   rw[e];exact⟨rfl,H.take 3⟩
  ·clear H;rintro x12 k38 k39 w34 ⟨rfl,H⟩;refine⟨_,H.ld 1 rfl rfl,?_⟩;refine xy H 2 rfl ⟨core,a,(X.S.C core).stateAt a,X.mine⟩ hout2 λ p' c' w' H=>⟨(p',c'),by simp,?_⟩;exact(St.fold (Ls:=[_,_]) (L:=[]) (A:=all [_,_]) (H.pick [0,2]) id (λ q h=>h)).post 0 rfl
def PB.turn (S:PB):PB:=if S.now=none then { S with now:=S.next,left:=S.cyc } else S
def PB.taken (S:PB) (c:Nat):PB:={ S with asks:=λ k=>if k=c then none else S.asks k,last:=c,now:=none }
def PB.tick (S:PB):LS:=match S.turn.now with
 | none=>⟨S.turn,[],0⟩
 | some c=>if 0<S.turn.left then ⟨{ S.turn with left:=S.turn.left - 1 },[],0⟩ else match S.turn.asks c with
  | none=>⟨S.turn,[],0⟩
  | some x=>(S.turn.taken c).done c x.1 x.2
theorem turn_ok (ho:S.Ok m):S.turn.Ok m:=by
 unfold PB.turn;split
 ·exact⟨ho.n,ho.cs,ho.l16,ho.len,ho.byte,ho.cyc,ho.asks,ho.last,λ k h=>ack ho h,ho.cyc⟩
 ·exact ho
theorem Ce (ho:S.Ok m){c:Nat} (hc:c<S.Cs.length):(S.taken c).Ok m:=by
 refine⟨ho.n,ho.cs,ho.l16,ho.len,ho.byte,ho.cyc,λ k a w h=>?_,hc,λ k h=>(by cases h),ho.left⟩;unfold PB.taken at h;dsimp only at h;split at h
 ·cases h
 ·exact ho.asks k a w h
theorem Er:S.turn.Cs.length=S.Cs.length:=by unfold PB.turn;split <;> rfl
theorem Ok.mono (ho:S.Ok m){m':Nat} (h:m≤m'):S.Ok m':=⟨ho.n,λ k hk=>(ho.cs k hk).mono h,ho.l16,ho.len,ho.byte,ho.cyc,ho.asks,ho.last,ho.now,ho.left⟩
theorem tick_ok' (ho:S.Ok m) (hm:m+1<4611686018427387904):S.tick.S.Ok (m+1)/\S.tick.S.Cs.length=S.Cs.length/\S.tick.S.len=S.len/\S.tick.out.length≤4:=by
 have h1:=turn_ok ho;have hn:=ho.n
 have ht:S.turn.len=S.len:=by unfold PB.turn;split <;> rfl
 unfold PB.tick
 cases hnow:S.turn.now with
 | none=>exact⟨Ok.mono h1 (by omega),Er,ht,qQ _⟩
 | some c =>
  dsimp only;obtain⟨hc,hs⟩:=h1.now c hnow;split
  ·have hl:=h1.left;exact⟨Ok.mono (S:={ S.turn with left:=S.turn.left - 1 }) (m:=m) ⟨h1.n,h1.cs,h1.l16,h1.len,h1.byte,h1.cyc,h1.asks,h1.last,h1.now,by show S.turn.left - 1≤10;omega⟩ (by omega),Er,ht,qQ _⟩
  ·cases ha:S.turn.asks c with
   | none=>rw[ha] at hs;cases hs
   | some x =>
    dsimp only;have hl:=(h1.asks c x.1 x.2 ha).2;have hd:=done_ok (Ce h1 hc) hm (core:=c) (a:=x.1) hc hl x.2;refine⟨hd.ok,hd.same.n.trans Er,hd.same.len.trans ht,?_⟩;have:=hd.out;have e:(S.turn.taken c).Cs.length=S.Cs.length:=Er;omega
theorem tick_any (hA:(busA b B S).at_ W) (ho:S.Ok m) (hm:m+1<4611686018427387904) (hB:B.gs.length=S.Cs.length) :
  Calls prog 26 #[pZ b 0] W λ e w=>∃ z:OA×Nat,e=eZ (.slice z.1 S.tick.out.length z.2)/\Sep.Post (busA b B S) W (all [busA b B S.tick.S,outA z.1 z.2 S.tick.out]) w:=by
 have H:=St.begin hA;have h1:=turn_ok ho
 have upd_busy:∀ {w:wD} {cs:AV} {S':PB},St W (busA b B S).own w ([blk b cs 77,sl 78 1 (.slice B.p S.Cs.length B.c) S.Cs.length B.ptrs,all (List.zipWith af B.gs S.Cs),mp .i64 B.mb (Ca S'.asks),memA B.dp B.dc S.mem]++[])->S'.Cs=S.Cs->S'.mem=S.mem->B.root S'=cs->St W (busA b B S).own w [busA b B S']:=by
  intro w cs S' H e1 e2 e3
  have:busA b B S'=all [blk b cs 77,sl 78 1 (.slice B.p S.Cs.length B.c) S.Cs.length B.ptrs,all (List.zipWith af B.gs S.Cs),mp .i64 B.mb (Ca S'.asks),memA B.dp B.dc S.mem]:=by
   unfold busA BP.pieces;rw[e1,e2,e3]
  rw[this];exact H.shut
 refine anx b 0 ⟨λ w=>St W (busA b B S).own w [busA b B S.turn],?_,λ _=>?_⟩
 ·refine⟨_,(az (H.nth 0 rfl)).ld 0 rfl rfl,aa (λ q=>?_) (λ q=>?_)⟩
  ·have q:S.now=none:=by
    cases hq:S.now with
    | none=>rfl
    | some k=>rw[hq] at q;simp [ach] at q
   have et:S.turn={ S with now:=S.next,left:=S.cyc }:=by unfold PB.turn;rw[if_pos q]
   rw[et]
   have fin:∀ {w:wD} {φ:wD->Prop},St W (busA b B S).own w [busA b B S]->(∀ w',St W (busA b B S).own w' [busA b B { S with now:=S.next,left:=S.cyc }]->φ w') ->
     (∃ v,w.cell? ⟨b,0+5,none⟩=some v)/\w.frozen? ⟨b,0+5,none⟩=false/\∀ w4:wD,w4=w.setCell ⟨b,0+5,none⟩ (.int .i64 (ach S.next))->(∃ v,w4.cell? ⟨b,0+6,none⟩=some v)/\w4.frozen? ⟨b,0+6,none⟩=false/\∀ w5:wD,w5=w4.setCell ⟨b,0+6,none⟩ (.int .i64 (S.cyc:Nat))->φ w5:=by
    intro w φ H hφ;have H:St W (busA b B S).own w (B.pieces b S++[]):=H.open_;exact H.st 0 rfl (by show 5<7;decide) λ w4 H=>H.st 0 rfl (by show 6<7;decide) λ w5 H=>hφ w5 (upd_busy H rfl rfl rfl)
   refine H.dr λ w2 H=>⟨?_,_,(az (H.nth 0 rfl)).ld 0 rfl rfl,RowKit.Below.refl _ _,?_⟩
   ·refine H.callq (Jg (H.nth 0 rfl) ho) λ w3 H=>⟨_,rfl,_,(az (H.nth 0 rfl)).ld 0 rfl rfl,fin H λ w' H=>H⟩
   ·exact H.callq (Jg (H.nth 0 rfl) ho) λ w3 H=>⟨_,rfl,fin H λ w' H=>H⟩
  ·have q:¬ S.now=none:=by
    intro e;rw[e] at q;cases q
   have et:S.turn=S:=by unfold PB.turn;rw[if_neg q]
   rw[et];exact H
 ·clear H;intro w9 H;have hA1:=H.nth 0 rfl
  have hBt:B.gs.length=S.turn.Cs.length:=by rw[Er];exact hB
  have nilout:∀ {S':PB} {w:wD},S.tick=⟨S',[],0⟩->St W (busA b B S).own w [busA b B S']->∃ z:OA×Nat,eZ (.slice none 0 0)=eZ (.slice z.1 S.tick.out.length z.2)/\Sep.Post (busA b B S) W (all [busA b B S.tick.S,outA z.1 z.2 S.tick.out]) w:=by
   intro S' w e H;rw[e];have H:St W (busA b B S).own w ([busA b B S',outA none 0 []]++[]):=H.add (A:=outA none 0 []) ⟨Sl.nil _ _ _,qH _ _,λ q e=>by cases e⟩;exact⟨(none,0),rfl,H.shut.post 0 rfl⟩
  refine⟨_,(az hA1).ld 0 rfl rfl,aa (λ q=>?_) (λ q=>?_)⟩
  ·have q:S.turn.now=none:=by
    cases hq:S.turn.now with
    | none=>rfl
    | some k=>rw[hq] at q;simp [ach] at q
   exact nilout (by unfold PB.tick;rw[q]) H
  obtain⟨c,hnow⟩:∃ c,S.turn.now=some c:=by
   cases hq:S.turn.now with
   | none=>rw[hq] at q;cases q
   | some k=>exact⟨k,rfl⟩
  obtain⟨hc,hs⟩:=h1.now c hnow;have hleft:=h1.left;refine⟨_,(az hA1).ld 0 rfl rfl,aa (λ q2=>?_) (λ q2=>?_)⟩
  ·have q2:=qB q2;refine⟨_,(az hA1).ld 0 rfl rfl,?_⟩;rintro z9 rfl;rw[show(S.turn.left:Int) - 1=((S.turn.left - 1:Nat):Int) by omega,Bits.n64 (by omega)];have H:St W (busA b B S).own w9 (B.pieces b S.turn++[]):=H.open_;refine H.st 0 rfl (by show 6<7;decide) λ w10 H=>?_;refine nilout (S':={ S.turn with left:=S.turn.left - 1 }) (by unfold PB.tick;rw[hnow];dsimp only;rw[if_pos (by omega)]) ?_;exact H.shut
  ·have q2:=qE q2;obtain⟨x,hx⟩:∃ x,S.turn.asks c=some x:=Option.isSome_iff_exists.1 hs
   have eask:Ca S.turn.asks (c:Int)=some (.agg #[.int .u32 (x.1:Nat),.bool x.2]):=by rw[Cb,hx];rfl
   have H:St W (busA b B S).own w9 (B.pieces b S.turn++[]):=H.open_;refine⟨_,H.ld 0 rfl (by show some (Value.int .i64 (ach S.turn.now))=_;rw[hnow]),_,H.ld 0 rfl rfl,?_⟩;refine⟨_,H.look 3 rfl,#[.int .u32 (x.1:Nat),.bool x.2],?_,?_⟩
   ·show(Ca S.turn.asks (c:Int)).getD _=_;rw[eask];rfl
   refine H.al λ k2 w11 H=>H.sts0 5 rfl rfl rfl (Qj _ _) λ w12 H=>⟨_,H.ld 0 rfl rfl,⟨_,H.look 3 rfl,H.put 3 rfl λ w13 H=>?_⟩⟩;refine H.st 0 rfl (by show 4<7;decide) λ w14 H=>H.st 0 rfl (by show 5<7;decide) λ w15 H=>⟨_,rfl,H.cells 5 rfl,?_⟩;have eu:upd (Ca S.turn.asks) (c:Int) none=Ca (S.turn.taken c).asks:=Qk S.turn.asks c none;have H:St W (busA b B S).own w15 ([blk b (B.root (S.turn.taken c)) 77,sl 78 1 (.slice B.p S.turn.Cs.length B.c) S.turn.Cs.length B.ptrs,all (List.zipWith af B.gs S.turn.Cs),mp .i64 B.mb (upd (Ca S.turn.asks) (c:Int) none),memA B.dp B.dc S.turn.mem]++[blk k2 #[.int .u32 (x.1:Nat),.bool x.2] 143]):=H;rw[eu] at H;have H:St W (busA b B S).own w15 [busA b B (S.turn.taken c),blk k2 #[.int .u32 (x.1:Nat),.bool x.2] 143]:=H.shut;have hl:=(h1.asks c x.1 x.2 hx).2;refine H.callx 0 rfl (Md (H.nth 0 rfl) (Ce h1 hc) hm hBt (core:=c) hc hl x.2) λ z w16 H=>⟨_,_,_,rfl,z,?_,?_⟩
   ·have e:S.tick=(S.turn.taken c).done c x.1 x.2:=by unfold PB.tick;rw[hnow];dsimp only;rw[if_neg (by omega),hx]
    rw[e]
   ·have e:S.tick=(S.turn.taken c).done c x.1 x.2:=by unfold PB.tick;rw[hnow];dsimp only;rw[if_neg (by omega),hx]
    rw[e];exact(H.take 1).post 0 rfl
end Go.Proofs.YtmncepdbglaphaaGreatDoor.cbus
