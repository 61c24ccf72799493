/- The bus, part A. No condition. -/
import Derived.Test.YtmncepdbglaphaaGreatDoorCacheF
set_option linter.unusedVariables false
set_option maxRecDepth 100000
namespace Go.Proofs.YtmncepdbglaphaaGreatDoor.cbus
open Go.RowKit Go.XHeap Go.Sx Go.Sep Go.Proofs.Tryz
structure PB where
 Cs:List CS
 mem:LN
 cyc:Nat
 asks:Nat->Option (Nat×Bool)
 last:Nat
 now:Option Nat
 left:Nat
structure BP where
 p:OA
 c:Nat
 gs:LN
 dp:OA
 dc:Nat
 mb:Nat
def noCS:CS:=⟨0,0,0,0,[],0,[],0⟩
def PB.C (S:PB) (k:Nat):CS:=S.Cs.getD k noCS
def PB.len (S:PB):Nat:=S.mem.length
def ach:Option Nat->Int
 | none=> -1
 | some k=>k
def Wa:Option (Nat×Bool)->Option Value:=Option.map λ a=>.agg #[.int .u32 (a.1:Nat),.bool a.2]
def Ca (f:Nat->Option (Nat×Bool)):Int->Option Value:=λ z=>if 0≤z then Wa (f z.toNat) else none
theorem Cb (f:Nat->Option (Nat×Bool)) (k:Nat):Ca f k=Wa (f k):=by unfold Ca;rw[if_pos (by omega),qG]
structure PB.Ok (S:PB) (m:Nat):Prop where
 n:S.Cs.length=1∨S.Cs.length=2
 cs:∀ k,k<S.Cs.length->(S.C k).Good S.len m
 l16:S.len % 16=0
 len:S.len≤4096
 byte:∀ x ∈ S.mem,x<256
 cyc:S.cyc≤10
 asks:∀ k a w,S.asks k=some (a,w)->k<S.Cs.length/\bm S.len a
 last:S.last<S.Cs.length
 now:∀ k,S.now=some k->k<S.Cs.length/\(S.asks k).isSome=true
 left:S.left≤10
def BP.root (B:BP) (S:PB):AV:=#[.slice B.p S.Cs.length B.c,.int .i64 S.cyc,.slice B.dp S.len B.dc,.map (some B.mb),.int .i64 S.last,.int .i64 (ach S.now),.int .i64 S.left]
def BP.ptrs (B:BP):LV:=B.gs.map λ g=>pZ g 0
def memA (p:OA) (c:Nat) (l:LN):Asn:=sl 5 1 (.slice p l.length c) l.length (u8n l)
def BP.pieces (b:Nat) (B:BP) (S:PB):List Asn:=[blk b (B.root S) 77,sl 78 1 (.slice B.p S.Cs.length B.c) S.Cs.length B.ptrs,all (List.zipWith af B.gs S.Cs),mp .i64 B.mb (Ca S.asks),memA B.dp B.dc S.mem]
def busA (b:Nat) (B:BP) (S:PB):Asn:=all (B.pieces b S)
variable {W w:wD}{b m:Nat}{B:BP}{S S':PB}{L:List Asn}
theorem az (h:(busA b B S).at_ W):St W (busA b B S).own W (B.pieces b S++[]):=(St.begin h).open_
theorem Cc (H:St W (busA b B S).own w (B.pieces b S'++L)):Sep.Post (busA b B S) W (busA b B S') w:=(St.shut H).post 0 rfl
theorem Cd (h:(busA b B S).at_ W) (hh:ba W w):Sep.Post (busA b B S) W (busA b B S) w:=⟨(busA b B S).keep h hh (λ _ _ e=>e),hh.mono (λ _ _ e=>e.elim),λ q hq=>.inl hq⟩
theorem agl (h:(busA b B S).at_ W):here (B.pieces b S) W:=h
theorem kv (l:LN):(u8n l).length=l.length:=by simp [u8n]
theorem mu (hB:B.gs.length=S.Cs.length){k:Nat} (hk:k<S.Cs.length):(List.zipWith af B.gs S.Cs)[k]?=some (af (B.gs.getD k 0) (S.C k)):=by
 unfold PB.C;rw[List.getElem?_zipWith,qF,qF,qC (by omega),qC hk];rfl
theorem Mb {gs:LN}{Cs:List CS} (k:Nat) (hk:k<gs.length) (C:CS):(List.zipWith af gs Cs).set k (af (gs.getD k 0) C)=List.zipWith af gs (Cs.set k C):=by
 have hg:gs[k]?=some (gs.getD k 0):=by rw[qF,qC hk];rfl
 apply qEB;intro j;rw[qn,List.getElem?_zipWith,List.getElem?_zipWith,qn];by_cases e:k=j
 ·subst e;rw[if_pos rfl,if_pos rfl,hg];by_cases hl:k<Cs.length
  ·rw[if_pos hl,if_pos (by simp;omega)]
  ·rw[if_neg hl,if_neg (by simp;omega)]
 ·rw[if_neg e,if_neg e]
theorem jq (hs:Sl w 78 1 (.slice B.p S.Cs.length B.c) S.Cs.length B.ptrs) (hB:B.gs.length=S.Cs.length){k:Nat} (hk:k<S.Cs.length) :
  ∃ g off,B.p=some ⟨g,off,none⟩/\w.cell? ⟨g,off+k,none⟩=some (.pointer (some ⟨B.gs.getD k 0,0,none⟩)):=by
 obtain⟨ao,cap,hv,hl, -, -, -,hc⟩:=hs.open1;obtain⟨g,off,rfl, -,hc⟩:=hc (by omega);simp only[Value.slice.injEq] at hv;refine⟨g,off,hv.1,?_⟩;rw[(hc k hk).1];unfold BP.ptrs;rw[qS,qC (by omega),qF,qC (by omega)];rfl
theorem El {p:OA}{c:Nat}{l:LN} (hs:(memA p c l).at_ w):l.length≤c/\(0<l.length->∃ g off,p=some ⟨g,off,none⟩/\∀ i,i<l.length->w.cell? ⟨g,off+i,none⟩=some (.int .u8 (l.getD i 0:Nat))/\w.frozen? ⟨g,off+i,none⟩=false):=by
 obtain⟨ao,cap,hv,hl, -,h2, -,hc⟩:=Sl.open1 hs;cases hv;refine⟨h2,λ h0=>?_⟩;obtain⟨g,off,rfl, -,hc⟩:=hc h0;refine⟨g,off,rfl,λ i hi=>⟨?_,(hc i hi).2⟩⟩;rw[(hc i hi).1];unfold u8n;rw[qS,qC hi,qF,qC hi];rfl
def PB.within (S:PB) (core:Int) (a:Nat):Bool:=decide (0≤core/\core<S.Cs.length/\65536≤a/\a<65536+S.len)
theorem within_any (hA:(busA b B S).at_ W) (ho:S.Ok m) (core:Int) (a:Nat) (ha:a<4294967296) :
  Calls prog 123 #[pZ b 0,.int .i64 core,.int .u32 a] W λ e w=>e=eZ (.bool (S.within core a))/\w=W:=by
 have H:=az hA;have hlen:=ho.len;refine ajt b 0 core a (aa (λ q=>⟨_,_,_,H.ld 0 rfl rfl,aa (λ q2=>?_) (λ q2=>?_)⟩) (λ q=>?_))
 ·have q:=qB q;have q2:=qB q2;rintro z rfl;refine⟨_,_,_,H.ld 0 rfl rfl,?_⟩;rintro z2 rfl;refine⟨?_,rfl⟩;rw[Bits.n32 (by omega),aez];congr 2;unfold PB.within;rw[decide_eq_decide];omega
 ·have q2:=qE q2;refine⟨?_,rfl⟩;unfold PB.within;rw[qM (by omega)]
 ·have q:=qE q;refine⟨?_,rfl⟩;unfold PB.within;rw[qM (by omega)]
theorem within_true {core:Int}{a:Nat} (h:S.within core a=true):0≤core/\core<S.Cs.length/\65536≤a/\a<65536+S.len:=qB h
theorem Qj (a:Nat) (t:Bool):∀ v ∈ (#[.int .u32 (a:Nat),.bool t]:AV).toList,v.oneCell'=true:=by
 intro v hv;simp only[qp,qFB,or_false] at hv;rcases hv with rfl | rfl <;> rfl
theorem aci (f:Nat->Option (Nat×Bool)) (z:Int):∃ (a:Nat) (t:Bool),(Ca f z).getD (.agg #[.int .u32 0,.bool false])= .agg #[.int .u32 (a:Nat),.bool t]:=by
 unfold Ca Wa;split
 ·cases f z.toNat with
  | none=>exact⟨0,false,rfl⟩
  | some x=>exact⟨x.1,x.2,rfl⟩
 ·exact⟨0,false,rfl⟩
def PB.busy (S:PB) (core:Int):Bool:=(Ca S.asks core).isSome
theorem Jf (hA:(busA b B S).at_ W) (core:Int) :
  Calls prog 48 #[pZ b 0,.int .i64 core] W λ e w=>e=eZ (.bool (S.busy core))/\ba W w:=by
 have H:=az hA;obtain⟨a,t,hat⟩:=aci S.asks core;refine anu b 0 core ⟨_,H.ld 0 rfl rfl,?_⟩;refine⟨_,H.look 3 rfl,_,hat,?_⟩;have H:=St.nil W;refine H.al λ k w2 H=>H.sts0 0 rfl rfl rfl (Qj a t) λ w3 H=>⟨rfl,H.touch⟩
def PB.state (S:PB) (core:Int) (a:Nat):Nat:=if S.within core a then (S.C core.toNat).stateAt a else 0
theorem bstate_any (hA:(busA b B S).at_ W) (ho:S.Ok m) (hB:B.gs.length=S.Cs.length) (core:Int) (a:Nat) (ha:a<4294967296) :
  Calls prog 125 #[pZ b 0,.int .i64 core,.int .u32 a] W λ e w=>e=eZ (.int .i64 (S.state core a))/\ba W w:=by
 have H:=az hA;refine aju b 0 core a ((within_any hA ho core a ha).mono ?_);rintro e w2 ⟨rfl,rfl⟩;refine⟨_,rfl,aa (λ q=>?_) (λ q=>?_)⟩
 ·have q:S.within core a=false:=by simpa using q
  refine⟨?_,qH _ _⟩;unfold PB.state;rw[q];rfl
 ·have q:S.within core a=true:=by simpa using q
  obtain⟨q1,q2, -⟩:=within_true q;obtain⟨k,rfl⟩:∃ k:Nat,core=k:=⟨core.toNat,by omega⟩
  have hk:k<S.Cs.length:=by omega
  obtain⟨g,off,hp,hc⟩:=jq (H.nth 1 rfl) hB hk;refine⟨_,_,_,H.ld 0 rfl rfl,⟨q1,q2⟩,?_⟩;refine adr_eq hp ⟨_,by rw[ix1];exact hc,(xu (ho.cs k hk).ok ((H.nth 2 rfl).nth k (mu hB hk)) a ha).mono ?_⟩;rintro e w ⟨rfl,hh⟩;refine⟨_,rfl,?_,hh⟩;unfold PB.state;rw[q,qG];rfl
def PB.setC (S:PB) (k:Nat) (C:CS):PB:={ S with Cs:=S.Cs.set k C }
theorem mw (hA:(busA b B S).at_ W) (hB:B.gs.length=S.Cs.length){k:Nat} (hk:k<S.Cs.length){C:CS} (hp:Sep.Post (af (B.gs.getD k 0) (S.C k)) W (af (B.gs.getD k 0) C) w):Sep.Post (busA b B S) W (busA b B (S.setC k C)) w:=by
 have H:=az hA;have H:=H.upd 2 rfl (Gr (H.nth 2 rfl) (mu hB hk) hp);rw[Mb k (by omega)] at H;refine Cc (L:=[]) ?_;have e:(S.setC k C).Cs.length=S.Cs.length:=qJ;unfold BP.pieces BP.root;rw[e];exact H
theorem Yj {k j:Nat} (hk:k<S.Cs.length) (C:CS):(S.setC k C).C j=if k=j then C else S.C j:=by
 unfold PB.C PB.setC;dsimp only;rw[qF,qn];by_cases e:k=j
 ·rw[if_pos e,if_pos e,if_pos hk];rfl
 ·rw[if_neg e,if_neg e,qF]
theorem Hg (ho:S.Ok m){k:Nat} (hk:k<S.Cs.length){C:CS}{m':Nat} (hm:m≤m') (hC:C.Good S.len m'):(S.setC k C).Ok m':=by
 have e:(S.setC k C).Cs.length=S.Cs.length:=qJ;refine⟨by rw[e];exact ho.n,λ j hj=>?_,ho.l16,ho.len,ho.byte,ho.cyc,λ j a w h=>by rw[e];exact ho.asks j a w h,by rw[e];exact ho.last,λ j h=>by rw[e];exact ho.now j h,ho.left⟩;rw[Yj hk];split
 ·exact hC
 ·exact(ho.cs j (by omega)).mono hm
def PB.readT (S:PB) (core:Int) (a:Nat) (sz:Int):Bool:=if S.within core a then (S.C core.toNat).readT a sz else false
def PB.readV (S:PB) (core:Int) (a:Nat) (sz:Int):Nat:=if S.within core a then (S.C core.toNat).readV a sz else 0
def PB.readN (S:PB) (core:Int) (a:Nat) (sz:Int):PB:=if S.within core a then S.setC core.toNat ((S.C core.toNat).readN a sz) else S
theorem bread_any (hA:(busA b B S).at_ W) (ho:S.Ok m) (hm:m+1<4611686018427387904) (hB:B.gs.length=S.Cs.length) (core:Int) (a:Nat) (ha:a<4294967296) (sz:Int) :
  Calls prog 162 #[pZ b 0,.int .i64 core,.int .u32 a,.int .i64 sz] W λ e w=>e=eY #[.int .u32 (S.readV core a sz),.bool (S.readT core a sz)]/\Sep.Post (busA b B S) W (busA b B (S.readN core a sz)) w:=by
 have H:=az hA;refine ajv b 0 core a sz ((within_any hA ho core a ha).mono ?_);rintro e w2 ⟨rfl,rfl⟩;refine⟨_,rfl,aa (λ q=>?_) (λ q=>?_)⟩
 ·have q:S.within core a=false:=by simpa using q
  unfold PB.readT PB.readV PB.readN;rw[q];exact⟨rfl,Cd hA (qH _ _)⟩
 ·have q:S.within core a=true:=by simpa using q
  obtain⟨q1,q2, -⟩:=within_true q;obtain⟨k,rfl⟩:∃ k:Nat,core=k:=⟨core.toNat,by omega⟩
  have hk:k<S.Cs.length:=by omega
  obtain⟨g,off,hp,hc⟩:=jq (H.nth 1 rfl) hB hk;refine⟨_,_,_,H.ld 0 rfl rfl,⟨q1,q2⟩,?_⟩;refine adr_eq hp ⟨_,by rw[ix1];exact hc,(agj (ho.cs k hk) hm ((H.nth 2 rfl).nth k (mu hB hk)) a ha sz).mono ?_⟩;rintro e w ⟨rfl,hp⟩;unfold PB.readT PB.readV PB.readN;rw[q,qG];exact⟨_,_,rfl,rfl,mw hA hB hk hp⟩
theorem breadN_ok (ho:S.Ok m) (hm:m+1<4611686018427387904) (core:Int) (a:Nat) (sz:Int):(S.readN core a sz).Ok (m+1)/\(S.readN core a sz).Cs.length=S.Cs.length:=by
 unfold PB.readN;split
 ·rename_i q;obtain⟨q1,q2, -⟩:=within_true q;exact⟨Hg ho (by omega) (by omega) (Lz (ho.cs _ (by omega)) hm a sz),qJ⟩
 ·exact⟨⟨ho.n,λ k hk=>(ho.cs k hk).mono (by omega),ho.l16,ho.len,ho.byte,ho.cyc,ho.asks,ho.last,ho.now,ho.left⟩,rfl⟩
def PB.writeT (S:PB) (core:Int) (a:Nat) (sz:Int):Bool:=if S.within core a then (S.C core.toNat).writeT a sz else false
def PB.writeN (S:PB) (core:Int) (a:Nat) (sz:Int) (d:Nat):PB:=if S.within core a then S.setC core.toNat ((S.C core.toNat).writeN a sz d) else S
theorem bwrite_any (hA:(busA b B S).at_ W) (ho:S.Ok m) (hm:m+1<4611686018427387904) (hB:B.gs.length=S.Cs.length) (core:Int) (a:Nat) (ha:a<4294967296) (sz:Int) (d:Nat) (hd:d<4294967296) :
  Calls prog 70 #[pZ b 0,.int .i64 core,.int .u32 a,.int .i64 sz,.int .u32 d] W λ e w=>e=eZ (.bool (S.writeT core a sz))/\Sep.Post (busA b B S) W (busA b B (S.writeN core a sz d)) w:=by
 have H:=az hA;refine aoc b 0 core a sz d ((within_any hA ho core a ha).mono ?_);rintro e w2 ⟨rfl,rfl⟩;refine⟨_,rfl,aa (λ q=>?_) (λ q=>?_)⟩
 ·obtain⟨q1,q2, -⟩:=within_true q;obtain⟨k,rfl⟩:∃ k:Nat,core=k:=⟨core.toNat,by omega⟩
  have hk:k<S.Cs.length:=by omega
  obtain⟨g,off,hp,hc⟩:=jq (H.nth 1 rfl) hB hk;refine⟨_,_,_,H.ld 0 rfl rfl,⟨q1,q2⟩,?_⟩;refine adr_eq hp ⟨_,by rw[ix1];exact hc,(acg (ho.cs k hk) hm ((H.nth 2 rfl).nth k (mu hB hk)) a ha sz d hd).mono ?_⟩;rintro e w ⟨rfl,hp⟩;unfold PB.writeT PB.writeN;rw[q,qG];exact⟨_,rfl,rfl,mw hA hB hk hp⟩
 ·unfold PB.writeT PB.writeN;rw[q];exact⟨rfl,Cd hA (qH _ _)⟩
theorem bwriteN_ok (ho:S.Ok m) (hm:m+1<4611686018427387904) (core:Int) (a:Nat) (sz:Int) (d:Nat):(S.writeN core a sz d).Ok (m+1)/\(S.writeN core a sz d).Cs.length=S.Cs.length:=by
 unfold PB.writeN;split
 ·rename_i q;obtain⟨q1,q2, -⟩:=within_true q;exact⟨Hg ho (by omega) (by omega) (Hf (ho.cs _ (by omega)) hm a sz d),qJ⟩
 ·exact⟨⟨ho.n,λ k hk=>(ho.cs k hk).mono (by omega),ho.l16,ho.len,ho.byte,ho.cyc,ho.asks,ho.last,ho.now,ho.left⟩,rfl⟩
def PB.askE (S:PB) (core:Int) (a:Nat) (wr:Bool):Nat:=if S.within core a then (if S.busy core=true∨(if wr then 2 else 1)≤S.state core a then 7 else 0) else 3
def PB.asked (S:PB) (core:Int) (a:Nat) (wr:Bool):PB:={ S with asks:=λ k=>if k=core.toNat then some (a / 16 * 16,wr) else S.asks k }
def PB.askN (S:PB) (core:Int) (a:Nat) (wr:Bool):PB:=if S.askE core a wr=0 then S.asked core a wr else S
theorem Qk (f:Nat->Option (Nat×Bool)) (k:Nat) (v:Option (Nat×Bool)):upd (Ca f) (k:Int) (Wa v)=Ca λ j=>if j=k then v else f j:=by
 funext z;unfold upd;by_cases e:z=(k:Int)
 ·rw[if_pos e,e,Cb,if_pos rfl]
 ·rw[if_neg e];unfold Ca;split
  ·show Wa (f z.toNat)=Wa (if z.toNat=k then v else f z.toNat);rw[if_neg (by omega)]
  ·rfl
theorem ask_any (hA:(busA b B S).at_ W) (ho:S.Ok m) (hB:B.gs.length=S.Cs.length) (core:Int) (a:Nat) (ha:a<4294967296) (wr:Bool) :
  Calls prog 71 #[pZ b 0,.int .i64 core,.int .u32 a,.bool wr] W λ e w=>e=eZ (errV (S.askE core a wr))/\Sep.Post (busA b B S) W (busA b B (S.askN core a wr)) w:=by
 have no:∀ {n:Nat} {w:wD},S.askE core a wr=n->n≠0->ba W w->eZ (errN n)=eZ (errV (S.askE core a wr))/\Sep.Post (busA b B S) W (busA b B (S.askN core a wr)) w:=by
  intro n w h1 h2 h3;unfold PB.askN;rw[h1,if_neg h2];exact⟨by unfold errV;rw[if_neg h2],Cd hA h3⟩
 refine anv b 0 core a wr ((within_any hA ho core a ha).mono ?_);rintro e w2 ⟨rfl,rfl⟩;refine⟨_,rfl,aa (λ q=>?_) (λ q=>?_)⟩
 ·have q:S.within core a=false:=by simpa using q
  exact no (n:=3) (by unfold PB.askE;rw[q];rfl) (by decide) (qH _ _)
 ·have q:S.within core a=true:=by simpa using q
  obtain⟨q1,q2, -⟩:=within_true q;obtain⟨k,rfl⟩:∃ k:Nat,core=k:=⟨core.toNat,by omega⟩;have main:∀ (lst:Nat),(if wr then 2 else 1)=lst->Calls prog 48 #[pZ b 0,.int .i64 k] w2 λ e2 W3=>∃ t2:Bool,e2=eZ (.bool t2)/\split t2 (eZ (errN 7)=eZ (errV (S.askE k a wr))/\Sep.Post (busA b B S) w2 (busA b B (S.askN k a wr)) W3)
    (Calls prog 125 #[pZ b 0,.int .i64 k,.int .u32 a] W3 λ e3 W4=>∃ z:Int,e3=eZ (.int .i64 z)/\split (decide (z ≥ lst)) (eZ (errN 7)=eZ (errV (S.askE k a wr))/\Sep.Post (busA b B S) w2 (busA b B (S.askN k a wr)) W4)
     (∃ p:Option Nat,W4.cell? ⟨b,0+3,none⟩=some (.map p)/\∀ z2:Int,z2=IntKind.wrap .u32 (bZ .u32 (a:Int) &&& ~~~bZ .u32 15).toNat->∀ vs:AV,vs=#[.int .u32 z2,.bool wr]->mapp p λ k4=>∃ I:Int->Option Value,Mp W4 .i64 k4 I /\
      ∀ W5:wD,Mp W5 .i64 k4 (upd I (k:Int) (some (.agg vs)))->XTouch (λ q=>q=k4) W4 W5->(eZ .nilIface=eZ (errV (S.askE k a wr))/\Sep.Post (busA b B S) w2 (busA b B (S.askN k a wr)) W5))):=by
   intro lst hlst;refine(Jf hA k).mono ?_;rintro e2 W3 ⟨rfl,hh⟩;refine⟨_,rfl,aa (λ q3=>?_) (λ q3=>?_)⟩
   ·exact no (n:=7) (by unfold PB.askE;rw[if_pos q,if_pos (.inl q3)]) (by decide) hh
   ·refine(bstate_any ((busA b B S).keep hA hh (λ _ _ e=>e)) ho hB k a ha).mono ?_;rintro e3 W4 ⟨rfl,hh2⟩;have hh2:ba w2 W4:=hh.trans hh2 (λ _ _ e=>e);refine⟨_,rfl,aa (λ q4=>?_) (λ q4=>?_)⟩
    ·have q4:=qB q4;exact no (n:=7) (by unfold PB.askE;rw[if_pos q,if_pos (.inr (by rw[hlst];omega))]) (by decide) hh2
    ·have q4:=qE q4
     have e0:S.askE k a wr=0:=by
      unfold PB.askE;rw[if_pos q,if_neg];rintro(e | e)
      ·rw[e] at q3;cases q3
      ·rw[hlst] at e;omega
     have H:=(az hA).quiet hh2;refine⟨_,H.ld 0 rfl rfl,?_⟩;rintro z2 rfl vs rfl;rw[agi ha];refine⟨_,H.look 3 rfl,H.put 3 rfl λ W5 H=>?_⟩;unfold PB.askN;rw[e0,if_pos rfl];refine⟨rfl,Cc (L:=[]) ?_⟩;have H:St w2 (busA b B S).own W5 ([blk b (B.root S) 77,sl 78 1 (.slice B.p S.Cs.length B.c) S.Cs.length B.ptrs,all (List.zipWith af B.gs S.Cs),mp .i64 B.mb (upd (Ca S.asks) (k:Int) (Wa (some (a / 16 * 16,wr)))),memA B.dp B.dc S.mem]++[]):=H;rw[Qk] at H;exact H
  exact aa (λ qw=>main 2 (by rw[if_pos qw])) (λ qw=>main 1 (by rw[qw];rfl))
theorem askN_ok (ho:S.Ok m) (core:Int) (a:Nat) (ha:a<4294967296) (wr:Bool):(S.askN core a wr).Ok m/\(S.askN core a wr).Cs.length=S.Cs.length:=by
 unfold PB.askN;split
 ·rename_i q
  have hw:S.within core a=true:=by
   unfold PB.askE at q;by_cases e:S.within core a=true
   ·exact e
   ·rw[if_neg e] at q;cases q
  obtain⟨q1,q2,q3,q4⟩:=within_true hw;have h16:=ho.l16;refine⟨⟨ho.n,ho.cs,ho.l16,ho.len,ho.byte,ho.cyc,λ k a2 w2 h=>?_,ho.last,λ k h=>?_,ho.left⟩,rfl⟩
  ·dsimp only[PB.asked] at h;split at h
   ·rename_i e;cases h;refine⟨by show k<S.Cs.length;omega,?_⟩;show bm S.len _;unfold bm;omega
   ·exact ho.asks k a2 w2 h
  ·have:=ho.now k h;refine⟨this.1,?_⟩;show(ite _ _ _:Option (Nat×Bool)).isSome=true;split
   ·rfl
   ·exact this.2
 ·exact⟨ho,rfl⟩
def PB.turnAt (S:PB) (k:Nat):Nat:=(S.last+1+k) % S.Cs.length
def PB.next (S:PB):Option Nat:=((List.range S.Cs.length).find? λ k=>(S.asks (S.turnAt k)).isSome).map S.turnAt
theorem acj {k:Nat} (hk:k<S.Cs.length) (he:(S.asks (S.turnAt k)).isSome=true) (hnot:∀ j,j<k->(S.asks (S.turnAt j)).isSome=false):S.next=some (S.turnAt k):=by
 unfold PB.next
 have:(List.range S.Cs.length).find? (λ k=>(S.asks (S.turnAt k)).isSome)=some k:=by
  rw[qyB];refine⟨he,k,by simpa using hk,by simp,λ j hj=>?_⟩;have:=hnot j hj;simp only[List.getElem_range];rw[this];rfl
 rw[this];rfl
theorem Ql (hnot:∀ j,j<S.Cs.length->(S.asks (S.turnAt j)).isSome=false):S.next=none:=by
 unfold PB.next
 rw[List.find?_eq_none.2 (λ k hk=>by rw[hnot k (qNB.1 hk)];decide)];rfl
theorem ack (ho:S.Ok m){k:Nat} (h:S.next=some k):k<S.Cs.length/\(S.asks k).isSome=true:=by
 unfold PB.next at h
 obtain⟨j,hj,rfl⟩:=Option.map_eq_some_iff.1 h;have h1:=List.find?_some hj;have hn:=ho.n;exact⟨qIB _ (by omega),h1⟩
theorem Jg (hA:(busA b B S).at_ W) (ho:S.Ok m) :
  Calls prog 35 #[pZ b 0] W λ e w=>e=eZ (.int .i64 (ach S.next))/\ba W w:=by
 have hn:=ho.n;have hlast:=ho.last;have H:=az hA;refine anw b 0 ⟨_,_,_,H.ld 0 rfl rfl,λ x w=>∃ k:Nat,x=k/\k≤S.Cs.length/\(∀ j,j<k->(S.asks (S.turnAt j)).isSome=false)/\ba W w,λ x _=>S.Cs.length - x.toNat,⟨0,rfl,qQ _,λ j hj=>by omega,qH _ _⟩,λ _=>?_⟩;rintro x w ⟨k,rfl,hk,hnot,hh⟩;refine aa (λ q=>?_) (λ q=>?_)
 ·have q:=qB q;have H:=H.quiet hh;refine⟨_,H.ld 0 rfl rfl,?_⟩;rintro z2 rfl z3 rfl;refine⟨_,_,_,H.ld 0 rfl rfl,by omega,?_⟩;rintro z4 rfl w3 k5 rfl
  have et:Int.tmod (IntKind.wrap .i64 (IntKind.wrap .i64 ((S.last:Int)+1)+(k:Int))) (S.Cs.length:Int)=(S.turnAt k:Nat):=by
   rw[w64 (e:=(S.last:Int)+1) (by omega) (by omega),w64 (by omega) (by omega)];rw[show(S.last:Int)+1+(k:Int)=((S.last+1+k:Nat):Int) by omega,Bits.tmod];rfl
  rw[et];have hA2:(busA b B S).at_ (w.drewN k5):=(busA b B S).keep ((busA b B S).keep hA hh (λ _ _ e=>e)) ((qH (λ _=>False) w).drewN k5) (λ _ _ e=>e);refine(Jf hA2 _).mono ?_;rintro e w4 ⟨rfl,hh2⟩;have hh4:ba W w4:=(hh.drewN k5).trans hh2 (λ _ _ e=>e)
  have eb:S.busy (S.turnAt k:Nat)=(S.asks (S.turnAt k)).isSome:=by
   unfold PB.busy;rw[Cb];unfold Wa;cases S.asks (S.turnAt k) <;> rfl
  refine⟨_,rfl,aa (λ q3=>?_) (λ q3=>?_)⟩
  ·rw[eb] at q3;rw[acj (by omega) q3 hnot];exact⟨rfl,hh4⟩
  ·rw[eb] at q3;rintro z5 rfl;rw[w64 (by omega) (by omega)];refine⟨⟨k+1,by omega,by omega,λ j hj=>?_,hh4⟩,by show S.Cs.length - ((k:Int)+1).toNat<S.Cs.length - (k:Int).toNat;omega⟩;by_cases e:j=k
   ·rw[e];exact q3
   ·exact hnot j (by omega)
 ·have q:=qE q;rw[Ql λ j hj=>hnot j (by omega)];exact⟨rfl,hh⟩
def putL (l:LN) (o:Nat) (v:LN):LN:=l.take o++v++l.drop (o+v.length)
def keepM (l:LN) (y:Way):LN:=if y.state=3 then putL l (y.line - 65536) y.bytes else l
theorem Wb {l v:LN}{o:Nat} (h:o+v.length≤l.length):(putL l o v).length=l.length:=by simp [putL];omega
theorem my {l:LN}{y:Way} (ho:y.Ok) (hl:y.state≠0->bm l.length y.line):(keepM l y).length=l.length:=by
 unfold keepM;split
 ·rename_i e;have h:=hl (by omega);exact Wb (by rw[ho.len];unfold bm at h;omega)
 ·rfl
theorem Mc {l:LN}{y:Way} (ho:y.Ok) (hl:∀ x ∈ l,x<256):∀ x ∈ keepM l y,x<256:=by
 unfold keepM;split
 ·intro x hx;unfold putL at hx;simp only[qc] at hx;rcases hx with (hx | hx) | hx
  ·exact hl x (qRB hx)
  ·exact ho.byte x hx
  ·exact hl x (qhB hx)
 ·exact hl
theorem acl {e:TI}{g off n c o:Nat}{xs vs:LV} (hs:Sl w e 1 (.slice (some ⟨g,off,none⟩) n c) n xs) (hl:o+vs.length≤n) :
  Sep.Post (sl e 1 (.slice (some ⟨g,off,none⟩) n c) n xs) w (sl e 1 (.slice (some ⟨g,off,none⟩) n c) n (xs.take o++vs++xs.drop (o+vs.length))) (w.setCells g (off+o) vs):=by
 obtain⟨hl0,h⟩:=hs;rcases h with ⟨h, -⟩ | ⟨g',off',cap,cur,hv,hb,h1,h2,h3,h4⟩
 ·cases h
 ·simp only[Value.slice.injEq,Option.some.injEq,Addr.mk.injEq,and_true,true_and] at hv;obtain⟨⟨rfl,rfl⟩,rfl⟩:=hv
  have hsz:(off+o)+vs.length≤cur.size:=by omega
  refine⟨⟨by simp;omega,.inr ⟨g,off,c,bv cur (off+o) vs,rfl,cv vs w cur _ hb hsz,h1,h2,by rw[xg _ _ _ hsz];exact h3,?_⟩⟩,(bh vs w _).mono (λ q _ e=>by subst e;rfl),λ q e=>.inl e⟩;apply qEB;intro i;by_cases hi:i<n
  ·rw[qa (by omega),qAB,qeB,ue _ _ _ hsz]
   have hx:xs[i]?=cur[off+i]?:=by
    rw[<- h4,qa (by omega),qAB,qeB]
   by_cases c1:i<o
   ·rw[if_neg (by omega),qk (by simp;omega),qk (by simp;omega),qa c1,hx]
   ·by_cases c2:i<o+vs.length
    ·rw[if_pos ⟨by omega,by omega⟩,qk (by simp;omega),qf (by simp;omega)];congr 1;simp;omega
    ·rw[if_neg (by omega),qf (by simp;omega),qAB,<- hx];congr 1;simp;omega
  ·rw[List.getElem?_eq_none (by simp;omega),List.getElem?_eq_none (by simp;omega)]
theorem Ag {cs:AV}{p:OA}{c g off:Nat}{l:LN} (hr:Blk W b cs 77) (h2:cs[2]?=some (.slice p l.length c)) (hp:p=some ⟨g,off,none⟩) (hc:l.length≤c) (hl:l.length≤4096){ln:Nat} (hL:bm l.length ln) :
  Calls prog 52 #[pZ b 0,.int .u32 ln] W λ e w=>e=eZ (.slice (some ⟨g,off+(ln - 65536),none⟩) 16 (c - (ln - 65536)))/\w=W:=by
 unfold bm at hL;obtain⟨d,hd⟩:∃ d,d=ln - 65536:=⟨_,rfl⟩;rw[<- hd];refine anz b 0 ln ?_;rintro z rfl z2 rfl;rw[show(ln:Int) - 65536=(d:Int) by omega,Bits.n32 (by omega),Bits.n64 (by omega)];refine⟨_,_,_,hr.cell' h2,?_⟩;rintro z3 rfl;rw[show(d:Int)+16=((d+16:Nat):Int) by omega,Bits.n64 (by omega)];refine⟨⟨by omega,by omega,by omega⟩,?_,rfl⟩;unfold sub;rw[qG,qG,if_neg (by omega),hp,qT,show d+16 - d=16 by omega,Option.map_some,ac]
theorem Jh {cs:AV}{p:OA}{c:Nat}{l:LN} (hr:Blk W b cs 77) (h2:cs[2]?=some (.slice p l.length c)) (hm:(memA p c l).at_ W) (hnb:¬ (memA p c l).own b) (hl:l.length≤4096){y:Way} (hy:y.Ok) (hL:y.state≠0->bm l.length y.line) :
  Calls prog 46 #[pZ b 0,.agg y.lineC.toArray] W λ e w=>e=eY #[]/\Sep.Post (memA p c l) W (memA p c (keepM l y)) w:=by
 have hlen:=hy.len;refine aoa b 0 _ ((St.begin hm).al λ k w2 H=>?_);have H:St W (memA p c l).own w2 [memA p c l,blk k y.lineC.toArray 167]:=H;refine⟨_,H.ld 1 rfl rfl,aa (λ q=>?_) (λ q=>?_)⟩
 ·have q:(y.state:Int)=3:=by simpa using q
  have q:y.state=3:=by omega
  have hL:=hL (by omega);obtain⟨hc,hm2⟩:=El (H.nth 0 rfl);obtain⟨g,off,rfl, -⟩:=hm2 (by unfold bm at hL;omega);refine H.dr λ w3 H=>⟨_,H.ld 1 rfl rfl,_,_,_,(Ag (hr.keep H.touch hnb) h2 rfl hc hl hL),?_⟩;refine⟨u8n y.bytes,by rw[kv,hlen];rfl,?_,.inr ⟨⟨_,rfl,?_⟩,_,_,rfl,?_⟩,?_⟩
  ·intro v hv;obtain⟨x, -,rfl⟩:=qCB.1 hv;rfl
  ·intro j u hu;rw[ac];refine H.ld 1 rfl ?_;rw[show 0+2+j=j+1+1 by omega,qTB];unfold Way.lineC lineC;simpa using hu
  ·intro j hj;rw[kv,hlen] at hj;obtain⟨-,hm3⟩:=El (H.nth 0 rfl);obtain⟨g',off',e,h4⟩:=hm3 (by unfold bm at hL;omega);cases e;have:=h4 (y.line - 65536+j) (by unfold bm at hL;omega);rw[<- Nat.add_assoc] at this;exact⟨⟨_,this.1⟩,this.2⟩
  ·rintro w4 rfl;refine⟨rfl,?_⟩;have H:=H.upd 0 rfl (acl (o:=y.line - 65536) (vs:=u8n y.bytes) (H.nth 0 rfl) (by rw[kv,hlen];unfold bm at hL;omega))
   have e:keepM l y=putL l (y.line - 65536) y.bytes:=by unfold keepM;rw[if_pos q]
   have hle:=my hy (l:=l) (λ _=>hL)
   have e2:memA (some ⟨g,off,none⟩) c (keepM l y)=sl 5 1 (.slice (some ⟨g,off,none⟩) l.length c) l.length ((u8n l).take (y.line - 65536)++u8n y.bytes++(u8n l).drop (y.line - 65536+(u8n y.bytes).length)):=by
    unfold memA;rw[hle,e];generalize y.line - 65536=d
    have:u8n (putL l d y.bytes)=(u8n l).take d++u8n y.bytes++(u8n l).drop (d+(u8n y.bytes).length):=by
     unfold putL u8n;simp
    rw[this]
   rw[e2];exact H.post 0 rfl
 ·have q:¬ (y.state:Int)=3:=by simpa using q
  have q:y.state≠3:=by omega
  refine⟨rfl,?_⟩
  have e:keepM l y=l:=by unfold keepM;rw[if_neg q]
  rw[e];exact H.post 0 rfl
end Go.Proofs.YtmncepdbglaphaaGreatDoor.cbus
