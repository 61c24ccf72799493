/- A part of the walk. No condition. -/
import Derived.Test.YtmncepdbglaphaaGreatDoorLsqC
set_option linter.unusedVariables false
set_option maxRecDepth 100000
namespace Go.Proofs.YtmncepdbglaphaaGreatDoor.lsq
open Go.RowKit Go.XHeap Go.Sx Go.Sep Go.Proofs.Tryz
variable {W w':wD}{b:Nat}{q v:PQ}
inductive RetR where
 | err (n:Int)
 | ret (k:Nat)
 | del (k:Nat)
def retE (s:Int) (k:Nat) (e:En):RetR:=if e.seq≠s then .err 5 else if (e.store&&e.placed&&e.valued)=true then .ret k else if e.loaded=true then .del k else .err 7
def retireR (s:Int) (es:Ens):RetR:=match fu (λ e=> !e.retired) es with
 | none=>.err 5
 | some k=>match es[k]? with
  | none=>.err 5
  | some x=>retE s k x.2
def RetirePost (W:wD) (b:Nat) (q:PQ) (s:Int) (e:Ending) (w:wD):Prop:=match retireR s q.es with
 | .err n=>e=eZ (errN n)/\Sep.Post (qA b q) W (qA b q) w
 | .ret k=>e=eZ .nilIface/\∃ x,q.es[k]?=some x/\Sep.Post (qA b q) W (qA b { q with es:=q.es.set k (x.1,{ x.2 with retired:=true }) }) w
 | .del k=>e=eZ .nilIface/\∃ (p:OA) (c:Nat),Sep.Post (qA b q) W (qA b { q with p:=p,cap:=c,es:=q.es.eraseIdx k }) w
theorem Vq {A:wD}{x:Nat×En} (hb:Blk A x.1 x.2.cells 198):Calls prog 142 #[pZ x.1 0] A λ e w=>e=eZ (.bool (!x.2.retired))/\ba A w :=
 ajb x.1 0 ⟨x.2.retired,hb.cell' rfl,rfl,qH _ _⟩
theorem ajs {A:wD}{k:Nat} (hn:q.es.length≤32) (hk:k<q.es.length) (H:St W (qA b q).own A (q.pieces b++[])){φ:wD->Prop}
  (hq:∀ p c w,Sep.Post (qA b q) W (qA b { q with p:=p,cap:=c,es:=q.es.eraseIdx k }) w->φ w) :
  ∃ p6 k11 k12,A.cell? ⟨b,0+1,none⟩=some (.slice p6 k11 k12)/\∀ z3:Int,z3=IntKind.wrap .i64 ((k:Int)+1)->Calls prog 126 #[.slice p6 k11 k12,.int .i64 (k:Nat),.int .i64 z3] A λ e2 W4=>∃ p7 k13 k14,e2=eZ (.slice p7 k13 k14) /\
   (∃ u,W4.cell? ⟨b,0+1,none⟩=some u)/\W4.frozen? ⟨b,0+1,none⟩=false/\∀ W5:wD,W5=W4.setCell ⟨b,0+1,none⟩ (.slice p7 k13 k14)->φ W5:=by
 refine⟨_,_,_,H.ld 0 rfl rfl,?_⟩;rintro z3 rfl;rw[w64 (by omega) (by omega)];refine H.callx (E:=λ z:OA×Nat=>eZ (.slice z.1 (q.es.length - 1) z.2)) 1 rfl (Pn (H.nth 1 rfl) hn hk) λ z B H=>⟨_,_,_,rfl,?_⟩;refine H.st 0 rfl (by show 1<2;omega) λ C H=>hq z.1 z.2 C ?_
 have hl:(q.es.eraseIdx k).length=q.es.length - 1:=by rw[List.length_eraseIdx,if_pos hk]
 refine agd (L:=[]) (List.eraseIdx_sublist _ _) ?_;rw[hl];exact H
theorem retire_any (h:(qA b q).at_ W) (hn:q.es.length≤32) (s:Int):Calls prog 94 #[pZ b 0,.int .i64 s] W (RetirePost W b q s):=by
 have H:=fz h;refine ann b 0 s ⟨_,_,_,H.ld 0 rfl rfl,(ajo (H.nth 1 rfl) hn (λ e=> !e.retired) λ i x B hx hh=>Vq ((bf (H.nth 2 rfl) hx).keep hh (λ e=>e))).mono ?_⟩;rintro e A ⟨rfl,hh⟩
 have bad:∀ n,retireR s q.es= .err n->RetirePost W b q s (eZ (errN n)) A:=λ n e=>by unfold RetirePost;rw[e];exact⟨rfl,Ed h hh⟩
 have H:St W (qA b q).own A (q.pieces b++[]):=H.quiet hh
 cases hp:fu (λ e=> !e.retired) q.es with
 | none=>exact⟨-1,rfl,aa (λ _=>bad 5 (by unfold retireR;rw[hp])) (λ q=>by simp at q)⟩
 | some k =>
  obtain⟨x,hx, -, -⟩:=pos_some hp;have hkl:=(qD.1 hx).1;obtain⟨g,o,hpp,hc⟩:=ptr_at (H.nth 1 rfl) hx;have hB:=bf (H.nth 2 rfl) hx
  have hr:retireR s q.es=retE s k x.2:=by unfold retireR;rw[hp];show(match q.es[k]? with | none=>_ | some x=>_)=_;rw[hx]
  refine⟨((k:Nat):Int),rfl,aa (λ q=>?_) (λ _=>?_)⟩
  ·have:=qB q;omega
  refine⟨_,_,_,H.ld 0 rfl rfl,⟨by omega,by omega⟩,adr_eq hpp ⟨_,hc,ptr_some ⟨x.2.seq,by rw[ac];exact hB.cell' rfl,aa (λ q1=>bad 5 (by rw[hr];unfold retE;rw[if_pos (by simpa using q1)])) (λ q1=>?_)⟩⟩⟩
  have q1:¬ x.2.seq≠s:=by simpa using q1
  have tail:(x.2.store&&x.2.placed&&x.2.valued)=false->Sx.ptr (some ⟨x.1,0,none⟩) λ a=>∃ t:Bool,A.cell? (a.add 7)=some (.bool t)/\Sx.split t (∃ p6 k11 k12,A.cell? ⟨b,0+1,none⟩=some (.slice p6 k11 k12)/\∀ z3:Int,z3=IntKind.wrap .i64 ((k:Int)+1)->Calls prog 126 #[.slice p6 k11 k12,.int .i64 (k:Nat),.int .i64 z3] A λ e2 W4=>∃ p7 k13 k14,e2=eZ (.slice p7 k13 k14) /\
   (∃ u,W4.cell? ⟨b,0+1,none⟩=some u)/\W4.frozen? ⟨b,0+1,none⟩=false/\∀ W5:wD,W5=W4.setCell ⟨b,0+1,none⟩ (.slice p7 k13 k14)->RetirePost W b q s (eZ .nilIface) W5) (RetirePost W b q s (eZ (errN 7)) A):=by
   intro hno;refine ptr_some ⟨x.2.loaded,by rw[ac];exact hB.cell' rfl,aa (λ q2=>?_) (λ q2=>?_)⟩
   ·refine ajs hn hkl H λ p c w hP=>?_;unfold RetirePost;rw[hr];unfold retE;rw[if_neg q1,if_neg (by rw[hno];decide),if_pos q2];exact⟨rfl,p,c,hP⟩
   ·exact bad 7 (by rw[hr];unfold retE;rw[if_neg q1,if_neg (by rw[hno];decide),if_neg (by rw[q2];decide)])
  refine⟨_,_,_,H.ld 0 rfl rfl,⟨by omega,by omega⟩,adr_eq hpp ⟨_,hc,ptr_some ⟨x.2.store,by rw[ac];exact hB.cell' rfl,aa (λ q2=>?_) (λ q2=>tail (by rw[q2];rfl))⟩⟩⟩;refine ptr_some ⟨x.2.placed,by rw[ac];exact hB.cell' rfl,aa (λ q3=>?_) (λ q3=>tail (by rw[q2,q3];rfl))⟩;refine ptr_some ⟨x.2.valued,by rw[ac];exact hB.cell' rfl,aa (λ q4=>?_) (λ q4=>tail (by rw[q2,q3,q4];rfl))⟩;refine ptr_some ?_;rw[ac];refine H.ent 2 rfl hx { x.2 with retired:=true } (by omega) rfl λ C H=>?_;unfold RetirePost;rw[hr];unfold retE;rw[if_neg q1,if_pos (by rw[q2,q3,q4];rfl)];exact⟨rfl,x,hx,vw hx (L:=[]) H⟩
def oldestOf (es:Ens):Option En:=match es with
 | x::_=>if x.2.retired then some x.2 else none
 | []=>none
theorem pi (x:Nat×En) (r:Ens):oldestOf (x::r)=if x.2.retired then some x.2 else none:=rfl
def wrV:Option En->AV
 | some e=>#[.int .u32 e.addr,.int .i64 e.size,.int .u32 ((e.data % 2 ^ (8 * e.size):Nat):Int)]
 | none=>#[.int .u32 0,.int .i64 0,.int .u32 0]
def AllOk (es:Ens):Prop:=∀ x ∈ es,x.2.Ok
theorem oldest_any (h:(qA b q).at_ W) (ho:AllOk q.es):Calls prog 43 #[pZ b 0] W λ e w=>e=eY #[.agg (wrV (oldestOf q.es)),.bool (oldestOf q.es).isSome]/\ba W w:=by
 refine anr b 0 ((St.nil W).al λ k A H=>?_);have R:=fz ((qA b q).keep h H.touch (λ _ _ e=>e))
 have out:∀ {B:wD} (vs:AV) (t:Bool),vs.size=3->(∀ v ∈ vs.toList,v.oneCell'=true)->St W No B [blk k #[.int .u32 0,.int .i64 0,.int .u32 0] 150]->vs=wrV (oldestOf q.es)->t=(oldestOf q.es).isSome ->
   vs.size=3/\(∀ j:Nat,j<3->(∃ v,B.cell? ⟨k,0+j,none⟩=some v)/\B.frozen? ⟨k,0+j,none⟩=false)/\(∀ v:Value,v ∈ vs.toList->v.oneCell'=true)/\∀ w':wD,w'=B.setCells k 0 vs.toList->∃ vs2:AV,vs2.size=3/\cellsAt w' ⟨k,0,none⟩ vs2/\(eY #[.agg vs2,.bool t]=eY #[.agg (wrV (oldestOf q.es)),.bool (oldestOf q.es).isSome]/\ba W w'):=by
  intro B vs t hs h1 H e1 e2;refine H.sts0 0 rfl hs rfl h1 λ C H=>⟨vs,hs,H.cells 0 rfl,?_,H.touch⟩;rw[e1,e2]
 have one0:∀ v ∈ (#[Value.int .u32 0,.int .i64 0,.int .u32 0]:AV).toList,v.oneCell'=true:=by intro v hv;simp at hv;rcases hv with rfl | rfl | rfl <;> rfl
 refine⟨_,_,_,R.ld 0 rfl rfl,aa (λ q0=>?_) (λ q0=>?_)⟩
 ·have q0:q.es=[]:=qHB (by
   have:((q.es.length:Nat):Int)=0:=by simpa using q0
   omega)
  rintro vs rfl;exact out _ false rfl one0 H (by rw[q0];rfl) (by rw[q0];rfl)
 have q0:q.es.length≠0:=λ e=>by rw[e] at q0;simp at q0
 obtain⟨x,r,hes⟩:∃ x r,q.es=x::r:=by
  match hq:q.es with
  | []=>rw[hq] at q0;exact absurd rfl q0
  | x::r=>exact⟨x,r,rfl⟩
 have hx:q.es[0]?=some x:=by rw[hes];rfl
 have hxo:=ho x (qN hx);obtain⟨g,o,hpp,hc⟩:=ptr_at (R.nth 1 rfl) hx;have hB:=bf (R.nth 2 rfl) hx;refine⟨_,_,_,R.ld 0 rfl rfl,⟨by omega,by omega⟩,adr_eq hpp ⟨_,hc,ptr_some ⟨x.2.retired,by rw[ac];exact hB.cell' rfl,aa (λ q1=>?_) (λ q1=>?_)⟩⟩⟩
 ·have q1:x.2.retired=false:=by simpa using q1
  have e:oldestOf q.es=none:=by rw[hes,pi,q1];rfl
  rintro vs rfl;exact out _ false rfl one0 H (by rw[e];rfl) (by rw[e];rfl)
 ·have q1:x.2.retired=true:=by simpa using q1
  have e:oldestOf q.es=some x.2:=by rw[hes,pi,q1];rfl
  refine⟨_,_,_,R.ld 0 rfl rfl,⟨by omega,by omega⟩,adr_eq hpp ⟨_,hc,?_⟩⟩;refine H.dr λ B H=>?_;have R:=fz ((qA b q).keep h H.touch (λ _ _ e=>e));have hB:=bf (R.nth 2 rfl) hx;refine ptr_some ⟨x.2.addr,by rw[ac];exact hB.cell' rfl,ptr_some ⟨x.2.size,by rw[ac];exact hB.cell' rfl,ptr_some ⟨x.2.data,by rw[ac];exact hB.cell' rfl,ptr_some ⟨x.2.size,by rw[ac];exact hB.cell' rfl,?_⟩⟩⟩⟩
  have hsz:x.2.size=1∨x.2.size=2∨x.2.size=4:=by
   have h1:=hxo.siz (hxo.ret q1).2.1;rcases hxo.size with h2 | h2
   ·exact absurd h2 h1
   ·exact h2
  have hd:=hxo.data;rintro z5 rfl;rw[w64 (e:=8 * (x.2.size:Int)) (by omega) (by omega)];rintro z6 rfl;rw[w64 (e:=32 - 8 * (x.2.size:Int)) (by omega) (by omega)];refine⟨by omega,?_⟩;rintro z7 rfl;refine ptr_some ⟨x.2.size,by rw[ac];exact hB.cell' rfl,?_⟩;rintro z9 rfl;rw[w64 (e:=8 * (x.2.size:Int)) (by omega) (by omega)];rintro z10 rfl;rw[w64 (e:=32 - 8 * (x.2.size:Int)) (by omega) (by omega)];refine⟨by omega,?_⟩;rintro z11 rfl;rintro vs rfl;refine out _ true rfl (by intro v hv;simp at hv;rcases hv with rfl | rfl | rfl <;> rfl) H ?_ (by rw[e];rfl);rw[e];unfold wrV
  have key:(IntKind.wrap .u32 ((x.2.data:Int) * 2 ^ min (32 - 8 * (x.2.size:Int)).toNat (IntKind.bits .u32))).fdiv (2 ^ min (32 - 8 * (x.2.size:Int)).toNat (IntKind.bits .u32))=((x.2.data % 2 ^ (8 * x.2.size):Nat):Int):=by
   rw[aez];have hbits:IntKind.bits .u32=32:=rfl;rw[hbits];rcases hsz with e | e | e
   ·rw[e];show(((x.2.data:Int) * 16777216) % 4294967296).fdiv 16777216=((x.2.data % 256:Nat):Int);rw[qgB _ (by decide)];omega
   ·rw[e];show(((x.2.data:Int) * 65536) % 4294967296).fdiv 65536=((x.2.data % 65536:Nat):Int);rw[qgB _ (by decide)];omega
   ·rw[e];show(((x.2.data:Int) * 1) % 4294967296).fdiv 1=((x.2.data % 4294967296:Nat):Int);rw[qgB _ (by decide)];omega
  rw[key]
def En.setFr (e:En) (b:Nat) (x:Int):En:=match b with
 | 0=>{ e with f0:=x }
 | 1=>{ e with f1:=x }
 | 2=>{ e with f2:=x }
 | _=>{ e with f3:=x }
theorem Br (e:En){b:Nat} (h:b<4):e.cells[8+b]?=some (.int .i64 (e.fr b)):=by
 match b,h with
 | 0,_=>rfl
 | 1,_=>rfl
 | 2,_=>rfl
 | 3,_=>rfl
theorem Hb (e:En){b:Nat} (h:b<4) (x:Int):(e.setFr b x).cells=e.cells.setIfInBounds (8+b) (.int .i64 x):=by
 match b,h with
 | 0,_=>rfl
 | 1,_=>rfl
 | 2,_=>rfl
 | 3,_=>rfl
def drainB (s:Int) (e:En):Nat->En
 | 0=>e
 | b+1=>let e':=drainB s e b
  if e'.loaded=true/\e'.fr b=s then e'.setFr b (-1) else e'
theorem abv {α:Type}{l1 l2:List α}{y:α}{j:Nat} (h:l1.length=j):(l1++y::l2)[j]?=some y:=by
 rw[qf (by omega),h,Nat.sub_self];rfl
theorem abw {α:Type}{l1 l2:List α}{y z:α}{j:Nat} (h:l1.length=j):(l1++y::l2).set j z=l1++z::l2:=by
 rw[List.set_append_right _ _ (by omega),h,Nat.sub_self];rfl
def drained (s:Int) (l:Ens):Ens:=l.map λ x=>(x.1,drainB s x.2 4)
def DrainPost (W:wD) (b:Nat) (q:PQ) (e:Ending) (w:wD):Prop:=match oldestOf q.es with
 | none=>e=eZ (errN 7)/\Sep.Post (qA b q) W (qA b q) w
 | some o=>e=eZ .nilIface/\∃ (p:OA) (c:Nat),Sep.Post (qA b q) W (qA b { q with p:=p,cap:=c,es:=drained o.seq (q.es.drop 1) }) w
theorem Po {es es':Ens} (h:es.map (·.1)=es'.map (·.1)):ptrs es=ptrs es':=by
 have:∀ l:Ens,ptrs l=(l.map (·.1)).map λ k=>pZ k 0:=λ l=>by simp [ptrs]
 rw[this,this,h]
theorem drain_any (h:(qA b q).at_ W) (ho:AllOk q.es) (hn:q.es.length≤32):Calls prog 72 #[pZ b 0] W (DrainPost W b q):=by
 refine ano b 0 ((oldest_any h ho).mono ?_);rintro e A ⟨rfl,hh⟩;have H:St W (qA b q).own A (q.pieces b++[]):=(fz h).quiet hh;refine⟨_,_,rfl,?_⟩;refine H.al λ k B H=>?_
 have hsz:(wrV (oldestOf q.es)).size=3:=by cases oldestOf q.es <;> rfl
 refine H.sts0 3 rfl hsz rfl ?_ λ C H=>?_
 ·intro v hv
  cases hq:oldestOf q.es with
  | none=>rw[hq] at hv;simp [wrV] at hv;rcases hv with rfl | rfl | rfl <;> rfl
  | some e=>rw[hq] at hv;simp [wrV] at hv;rcases hv with rfl | rfl | rfl <;> rfl
 cases hq:oldestOf q.es with
 | none =>
  refine aa (λ _=>?_) (λ q=>by cases q);unfold DrainPost;rw[hq];exact⟨rfl,Ab H⟩
 | some o =>
  refine aa (λ q=>by cases q) (λ _=>?_)
  obtain⟨x,r,hes,hxr,rfl⟩:∃ x r,q.es=x::r/\x.2.retired=true/\o=x.2:=by
   match he:q.es with
   | []=>rw[he] at hq;cases hq
   | x::r =>
    rw[he] at hq;rw[pi] at hq
    cases hr:x.2.retired with
    | true =>
     rw[hr] at hq;have hq:some x.2=some o:=hq;exact⟨x,r,rfl,hr,by simpa using hq.symm⟩
    | false=>rw[hr] at hq;cases hq
  have hx:q.es[0]?=some x:=by rw[hes];rfl
  have hpos:0<q.es.length:=by rw[hes];exact Nat.succ_pos _
  obtain⟨g,oo,hpp,hc⟩:=ptr_at (H.nth 1 rfl) hx;have hc:C.cell? ⟨g,oo+0,none⟩=some (pZ x.1 0):=hc;have hB:=bf (H.nth 2 rfl) hx;refine⟨_,_,_,H.ld 0 rfl rfl,⟨by omega,by omega⟩,adr_eq hpp ⟨_,hc,ptr_some ⟨x.2.seq,by rw[ac];exact hB.cell' rfl,?_⟩⟩⟩;refine⟨_,_,_,H.ld 0 rfl rfl,?_⟩;refine H.callx (E:=λ z:OA×Nat=>eZ (.slice z.1 (q.es.length - 1) z.2)) 1 rfl (Pn (i:=0) (H.nth 1 rfl) hn hpos) λ z D H=>⟨_,_,_,rfl,?_⟩;refine H.st 0 rfl (by show 1<2;omega) λ E H=>⟨_,_,_,H.ld 0 rfl rfl,?_⟩
  have her:q.es.eraseIdx 0=r:=by rw[hes];rfl
  have hrl:q.es.length - 1=r.length:=by rw[hes];rfl
  have hsub:r.Sublist q.es:=by rw[hes];exact List.sublist_cons_self _ _
  have hs:=Iw (W:=E) hsub
  have H:=H.conv 2 rfl (A':=df r) hs.2 hs.1
  rw[her,hrl] at H;rw[hrl];have H:=H.take 3
  have hr32:r.length≤32:=by omega
  refine⟨λ i A=>∃ j:Nat,i=j/\j≤r.length/\St W (qA b q).own A [blk b #[.int .i64 q.size,.slice z.1 r.length z.2] 128,sl 199 1 (.slice z.1 r.length z.2) r.length (ptrs r),df (drained x.2.seq (r.take j)++r.drop j)],λ i _=>r.length - i.toNat,⟨0,rfl,qQ _,by rw[List.take_zero,List.drop_zero];exact H⟩,λ _=>?_⟩;clear H;rintro i F ⟨j,rfl,hj,H⟩;refine aa (λ q1=>?_) (λ q1=>?_)
  ·have q1:=qB q1
   have hjl:j<r.length:=by omega
   have hy:=qC hjl;obtain⟨g,oo,hpp,hc⟩:=ptr_at (H.nth 1 rfl) hy;obtain⟨y,hyy⟩:∃ y,y=r[j]:=⟨_,rfl⟩;rw[<- hyy] at hc hy
   have hdr:r.drop j=y::r.drop (j+1):=by rw[hyy];exact qYB hjl
   have hdl:(drained x.2.seq (r.take j)).length=j:=by unfold drained;rw[qd,qq];omega
   rw[hdr] at H;refine⟨⟨by omega,q1⟩,adr_eq hpp ⟨_,hc,?_⟩⟩;refine⟨λ i A=>∃ c:Nat,i=c/\c≤4/\St W (qA b q).own A [blk b #[.int .i64 q.size,.slice z.1 r.length z.2] 128,sl 199 1 (.slice z.1 r.length z.2) r.length (ptrs r),df (drained x.2.seq (r.take j)++(y.1,drainB x.2.seq y.2 c)::r.drop (j+1))],λ i _=>4 - i.toNat,⟨0,rfl,by omega,H⟩,λ _=>?_⟩;clear H;rintro i G ⟨c,rfl,hc4,H⟩;refine aa (λ q2=>?_) (λ q2=>?_)
   ·have q2:=qB q2
    have hc4:c<4:=by omega
    have hm:=abv (l2:=r.drop (j+1)) (y:=(y.1,drainB x.2.seq y.2 c)) hdl;have hB:=bf (H.nth 2 rfl) hm
    have next:∀ {A:wD},St W (qA b q).own A [blk b #[.int .i64 q.size,.slice z.1 r.length z.2] 128,sl 199 1 (.slice z.1 r.length z.2) r.length (ptrs r),df (drained x.2.seq (r.take j)++(y.1,drainB x.2.seq y.2 (c+1))::r.drop (j+1))]->∀ z3:Int,z3=IntKind.wrap .i64 ((c:Int)+1)->(∃ c:Nat,z3=c/\c≤4/\St W (qA b q).own A [blk b #[.int .i64 q.size,.slice z.1 r.length z.2] 128,sl 199 1 (.slice z.1 r.length z.2) r.length (ptrs r),df (drained x.2.seq (r.take j)++(y.1,drainB x.2.seq y.2 c)::r.drop (j+1))])/\4 - z3.toNat<4 - (c:Int).toNat:=by
     rintro A H z3 rfl;rw[w64 (by omega) (by omega)];exact⟨⟨c+1,by omega,by omega,H⟩,by omega⟩
    have e8:∀ o:Nat,o=0->(o+8+(c:Int).toNat * 1)=8+c:=λ o e=>by omega
    refine ptr_some ⟨(drainB x.2.seq y.2 c).loaded,by rw[ac];exact hB.cell' rfl,aa (λ q3=>?_) (λ q3=>?_)⟩
    ·refine ptr_some ⟨⟨by omega,by omega⟩,(drainB x.2.seq y.2 c).fr c,by rw[e8 _ rfl];exact hB.cell' (Br _ hc4),aa (λ q4=>?_) (λ q4=>?_)⟩
     ·have q4:(drainB x.2.seq y.2 c).fr c=x.2.seq:=by simpa using q4
      refine ptr_some ⟨⟨by omega,by omega⟩,?_⟩;rw[e8 _ rfl];refine H.ent 2 rfl hm ((drainB x.2.seq y.2 c).setFr c (-1)) (by omega) (Hb _ hc4 _) λ A H=>next ?_
      rw[abw hdl] at H
      have:drainB x.2.seq y.2 (c+1)=(drainB x.2.seq y.2 c).setFr c (-1):=by
       show(if _ then _ else _)=_;rw[if_pos ⟨q3,q4⟩]
      rw[this];exact H
     ·have q4:¬ (drainB x.2.seq y.2 c).fr c=x.2.seq:=by simpa using q4
      refine next ?_
      have:drainB x.2.seq y.2 (c+1)=drainB x.2.seq y.2 c:=by
       show(if _ then _ else _)=_;rw[if_neg (λ e=>q4 e.2)]
      rw[this];exact H
    ·refine next ?_
     have:drainB x.2.seq y.2 (c+1)=drainB x.2.seq y.2 c:=by
      show(if _ then _ else _)=_;rw[if_neg (λ e=>by rw[q3] at e;cases e.1)]
     rw[this];exact H
   ·have q2:=qE q2;obtain rfl:c=4:=by omega
    rintro z6 rfl;rw[w64 (by omega) (by omega)];refine⟨⟨j+1,by omega,by omega,?_⟩,by show r.length - ((j:Int)+1).toNat<r.length - (j:Int).toNat;omega⟩
    have:drained x.2.seq (r.take (j+1))=drained x.2.seq (r.take j)++[(y.1,drainB x.2.seq y.2 4)]:=by
     unfold drained;rw[qfB,hy,qV];rfl
    rw[this,ql];exact H
  ·have q1:=qE q1;obtain rfl:j=r.length:=by omega
   rw[List.take_length,List.drop_length,qqB] at H;unfold DrainPost;rw[hq];refine⟨rfl,z.1,z.2,Ab (L:=[]) ?_⟩
   have hd1:q.es.drop 1=r:=by rw[hes];rfl
   show St W (qA b q).own F ([blk b #[.int .i64 q.size,.slice z.1 (drained x.2.seq (q.es.drop 1)).length z.2] 128,sl 199 1 (.slice z.1 (drained x.2.seq (q.es.drop 1)).length z.2) (drained x.2.seq (q.es.drop 1)).length (ptrs (drained x.2.seq (q.es.drop 1))),df (drained x.2.seq (q.es.drop 1))]++[]);rw[hd1]
   have e1:(drained x.2.seq r).length=r.length:=by unfold drained;rw[qd]
   have e2:ptrs (drained x.2.seq r)=ptrs r:=Po (by unfold drained;rw[List.map_map];rfl);rw[e1,e2];exact H
def vn (e a:Nat):Int:=((e:Int) - a+2147483648) % 4294967296 - 2147483648
def km (e a:Nat):Int:=if vn e a > 0 then vn e a else 0
def se (e es a s:Nat):Int:=if vn e a+es<s then vn e a+es else s
theorem Pp {e es a s:Nat} (h1:e+es≤4294967296) (h2:a+s≤4294967296) (hs:s≤4) (hes:es≤4) (b:Nat):(km e a≤b/\(b:Int)<se e es a s)↔(b<s/\e≤a+b/\a+b<e+es):=by
 unfold km se vn;split <;> split <;> omega
theorem Pq (e a:Nat):0≤km e a:=by unfold km;split <;> omega
theorem Pr (e es a s:Nat):se e es a s≤s:=by unfold se;split <;> omega
theorem Vr {A:wD}{x:Nat×En} (hb:Blk A x.1 x.2.cells 198) (ho:x.2.Ok) (a s:Nat) (ha:a<4294967296) (hs:s≤4) :
  Calls prog 160 #[pZ x.1 0,.int .u32 a,.int .i64 s] A λ e w=>e=eY #[.int .i64 (km x.2.addr a),.int .i64 (se x.2.addr x.2.size a s)]/\∃ n,w=A.drewN n:=by
 have h1:=ho.addr
 have h2:x.2.size≤4:=by rcases ho.size with e | e | e | e <;> omega
 refine aje x.1 0 a s ⟨x.2.addr,hb.cell' rfl,?_⟩;rintro z2 rfl z3 rfl z4 rfl;refine⟨x.2.size,hb.cell' rfl,?_⟩;rintro z6 rfl w n rfl
 have e3:IntKind.wrap .i32 (IntKind.wrap .u32 ((x.2.addr:Int) - a))=vn x.2.addr a:=by
  rw[aez,IntKind.wrap_i32];unfold vn;omega
 have hd : -2147483648≤vn x.2.addr a/\vn x.2.addr a<2147483648:=by unfold vn;omega
 rw[e3,w64 (e:=vn x.2.addr a) (by omega) (by omega),w64 (e:=vn x.2.addr a+(x.2.size:Int)) (by omega) (by omega)];exact⟨rfl,n,rfl⟩
theorem Ef {A:wD}{x:Nat×En} (hb:Blk A x.1 x.2.cells 198) (ho:x.2.Ok) (a s:Nat) (ha:a<4294967296) (hs:s≤4) (k:Nat) :
  Calls prog 160 #[pZ x.1 0,.int .u32 a,.int .i64 s] (A.drewN k) λ e w=>e=eY #[.int .i64 (km x.2.addr a),.int .i64 (se x.2.addr x.2.size a s)]/\∃ n,w=A.drewN n :=
 (Vr (hb.drewN k) ho a s ha hs).mono λ e w ⟨h1,n,h2⟩=>⟨h1,k+n,by rw[h2,World.drewN_drewN]⟩
theorem Ps {A:wD}{g o n c:Nat}{f:Nat->Int} (hf:∀ i,i<n->A.cell? ⟨g,o+i,none⟩=some (.int .i64 (f i))) (hn:n≤4) (s:Int) (k:Nat) :
  Calls prog 127 #[.slice (some ⟨g,o,none⟩) n c,.int .i64 s] (A.drewN k) λ e w=>∃ z:Int,e=eZ (.int .i64 z)/\(decide (z ≥ 0)=(List.range n).any λ i=>s==f i)/\w=A.drewN k:=by
 refine ajl (some ⟨g,o,none⟩) n c s ⟨λ i B=>∃ j:Nat,i=j/\j≤n/\B=A.drewN k/\∀ i,i<j->¬ s=f i,λ i _=>n - i.toNat,⟨0,rfl,qQ _,rfl,λ i hi=>by omega⟩,λ _=>?_⟩;rintro i B ⟨j,rfl,hj,rfl,hnot⟩;refine aa (λ q=>?_) (λ q=>?_)
 ·have q:=qB q;refine⟨⟨by omega,q⟩,adr_some ⟨f j,by rw[ix1];exact hf j (by omega),aa (λ q1=>?_) (λ q1=>?_)⟩⟩
  ·refine⟨j,rfl,?_,rfl⟩;rw[qI (by omega)];exact(List.any_eq_true.2 ⟨j,qNB.2 (by omega),q1⟩).symm
  ·rintro z rfl;rw[w64 (by omega) (by omega)];refine⟨⟨j+1,by omega,by omega,rfl,λ i hi=>?_⟩,by show n - ((j:Int)+1).toNat<n - (j:Int).toNat;omega⟩;by_cases e:i=j
   ·subst e;simpa using q1
   ·exact hnot i (by omega)
 ·have q:=qE q;refine⟨-1,rfl,?_,rfl⟩;rw[qM (by omega)];refine(Bool.eq_false_iff.2 λ h=>?_).symm;obtain⟨i,hi,he⟩:=List.any_eq_true.1 h;exact hnot i (by have:=qNB.1 hi;omega) (by simpa using he)
theorem Eg {A:wD}{g o n c:Nat}{f:Nat->Int} (hf:∀ i,i<n->A.cell? ⟨g,o+i,none⟩=some (.int .i64 (f i))) (hn:n≤4) (s:Int) (k:Nat) :
  Calls prog 83 #[.slice (some ⟨g,o,none⟩) n c,.int .i64 s] (A.drewN k) λ e w=>e=eZ (.bool ((List.range n).any λ i=>s==f i))/\∃ k,w=A.drewN k :=
 ans (some ⟨g,o,none⟩) n c s ((Ps hf hn s k).mono λ e w ⟨z,h1,h2,h3⟩=>⟨z,h1,by rw[h2],k,h3⟩)
theorem xor16 {a l:Nat}:(a ^^^ l)<16↔a / 16=l / 16:=by
 have e:(a ^^^ l) / 2 ^ 4=a / 2 ^ 4 ^^^ l / 2 ^ 4:=Nat.xor_div_two_pow;constructor
 ·intro h
  have h0:a / 16 ^^^ l / 16=0:=by rw[<- e];omega
  have:=congrArg (λ x=>x ^^^ l / 16) h0;simpa [Nat.xor_assoc] using this
 ·intro h;rw[h,Nat.xor_self] at e;omega
def spoilP (l:Nat) (e:En):Bool:=e.loaded&&(decide (e.addr / 16=l / 16)&&(List.range e.size).any λ b=>(-1:Int)==e.fr b)
def seqOf:Option (Nat×En)->Int
 | some x=>x.2.seq
 | none=> -1
theorem Iy {a l:Nat} (ha:a<4294967296) (hl:l<4294967296):IntKind.wrap .u32 (((bZ .u32 (a:Int) ^^^ bZ .u32 (l:Int)).toNat:Nat):Int)=((a ^^^ l:Nat):Int):=by
 have h:a ^^^ l<2 ^ 32:=Nat.xor_lt_two_pow (by omega) (by omega)
 have e1:(bZ .u32 (a:Int) ^^^ bZ .u32 (l:Int)).toNat=a ^^^ l:=by
  show(BitVec.ofInt 32 (a:Int) ^^^ BitVec.ofInt 32 (l:Int)).toNat=_;rw[BitVec.toNat_xor,BitVec.toNat_ofInt,BitVec.toNat_ofInt]
  have f1:((a:Int) % ((2 ^ 32:Nat):Int)).toNat=a:=by omega
  have f2:((l:Int) % ((2 ^ 32:Nat):Int)).toNat=l:=by omega
  rw[f1,f2]
 rw[e1,aez];omega
theorem Vs {x:Nat} (hx:x<16):IntKind.wrap .u32 (((bZ .u32 (x:Int) &&& ~~~bZ .u32 15).toNat:Nat):Int)=0:=by
 have:∀ y:Fin 16,IntKind.wrap .u32 (((bZ .u32 ((y.val:Nat):Int) &&& ~~~bZ .u32 15).toNat:Nat):Int)=0:=by decide
 exact this ⟨x,hx⟩
theorem spoil_any (h:(qA b q).at_ W) (ho:AllOk q.es) (hn:q.es.length≤32) (l:Nat) (hl:l<4294967296):Calls prog 53 #[pZ b 0,.int .u32 l] W λ e w=>e=eZ (.int .i64 (seqOf (q.es.find? λ x=>spoilP l x.2)))/\ba W w:=by
 have R:=fz h;refine anp b 0 l ⟨_,_,_,R.ld 0 rfl rfl,λ i A=>∃ j:Nat,i=j/\j≤q.es.length/\ba W A/\(∀ (i:Nat) (y:Nat×En),i<j->q.es[i]?=some y->spoilP l y.2=false),λ i _=>q.es.length - i.toNat,⟨0,rfl,qQ _,qH _ _,λ i y hi=>by omega⟩,λ _=>?_⟩;clear R;rintro i A ⟨j,rfl,hj,hh,hnot⟩;have R:=fz ((qA b q).keep h hh (λ _ _ e=>e));refine aa (λ q1=>?_) (λ q1=>?_)
 ·have q1:=qB q1
  have hjl:j<q.es.length:=by omega
  have hx:=qC hjl;obtain⟨x,hxe⟩:∃ x,x=q.es[j]:=⟨_,rfl⟩;rw[<- hxe] at hx;have hxo:=ho x (qN hx)
  have hsz:x.2.size≤4:=by rcases hxo.size with e | e | e | e <;> omega
  obtain⟨g,o,hpp,hc⟩:=ptr_at (R.nth 1 rfl) hx;have hB:=bf (R.nth 2 rfl) hx
  have miss:spoilP l x.2=false->∀ (B:wD),ba W B->∀ z8:Int,z8=IntKind.wrap .i64 ((j:Int)+1)->(∃ j:Nat,z8=j/\j≤q.es.length/\ba W B/\(∀ (i:Nat) (y:Nat×En),i<j->q.es[i]?=some y->spoilP l y.2=false))/\q.es.length - z8.toNat<q.es.length - (j:Int).toNat:=by
   rintro hm B hB z8 rfl;rw[w64 (by omega) (by omega)];refine⟨⟨j+1,by omega,by omega,hB,λ i y hi hy=>?_⟩,by omega⟩;by_cases e:i=j
   ·subst e;rw[hx] at hy;cases hy;exact hm
   ·exact hnot i y (by omega) hy
  refine⟨⟨by omega,q1⟩,adr_eq hpp ⟨_,hc,ptr_some ⟨x.2.loaded,by rw[ac];exact hB.cell' rfl,aa (λ q2=>?_) (λ q2 B n hB'=>?_)⟩⟩⟩
  ·refine ptr_some ⟨x.2.addr,by rw[ac];exact hB.cell' rfl,?_⟩;rintro z2 rfl;rw[Iy hxo.addr hl];refine aa (λ q3=>?_) (λ q3 B n hB'=>?_)
   ·have q3:x.2.addr ^^^ l<16:=by have:=qB q3;omega
    have hline:=xor16.1 q3;refine ptr_some ⟨x.2.addr,by rw[ac];exact hB.cell' rfl,?_⟩;rintro z4 rfl;rw[Iy hxo.addr hl];rintro z5 rfl;rw[Vs q3];refine aa (λ _=>?_) (λ q=>by simp at q);have hfr:∀ i,i<x.2.size->A.cell? ⟨x.1,8+i,none⟩=some (.int .i64 (x.2.fr i)):=λ i hi=>hB.cell' (Br _ (by omega));refine ptr_some (ptr_some ⟨x.2.size,by rw[ac];exact hB.cell' rfl,⟨by omega,by omega⟩,((List.range x.2.size).any λ i=>(-1:Int)==x.2.fr i),λ k5=>?_,?_⟩)
    ·rw[ac,qG,qW];exact Eg hfr hsz (-1) k5
    ·rintro B n rfl;have hh2:ba W (A.drewN n):=hh.drewN n;refine aa (λ q4=>?_) (λ q4=>?_)
     ·refine ptr_some ⟨x.2.seq,by rw[ac];exact(hB.drewN n).cell' rfl,?_,hh2⟩
      have:q.es.find? (λ x=>spoilP l x.2)=some x:=by
       rw[qyB];refine⟨by unfold spoilP;rw[q2,qI hline,q4];rfl,j,hjl,hxe.symm,λ i hi=>?_⟩;rw[hnot i _ hi (qC (by omega))];rfl
      rw[this];rfl
     ·exact miss (by unfold spoilP;rw[q4,Bool.and_false,Bool.and_false]) _ hh2
   ·subst hB'
    have q3:¬ x.2.addr ^^^ l<16:=λ e=>by have:=qE q3;omega
    exact miss (by unfold spoilP;rw[qM (λ e=>q3 (xor16.2 e)),qbB,Bool.and_false]) _ (hh.drewN n)
  ·subst hB';exact miss (by unfold spoilP;rw[q2,qbB]) _ (hh.drewN n)
 ·have q1:=qE q1;refine⟨?_,hh⟩
  have:q.es.find? (λ x=>spoilP l x.2)=none:=by
   rw[List.find?_eq_none];intro x hx;obtain⟨i,hi,rfl⟩:=qGC hx;rw[hnot i _ (by omega) (qC hi)];decide
  rw[this];rfl
inductive AddR where
 | err (n:Int)
 | ok (k:Nat)
def addrR (s:Int) (a:Nat) (sz:Int) (es:Ens):AddR:=match fu (findP s) es with
 | none=>.err 7
 | some k=>match es[k]? with
  | none=>.err 7
  | some x=>if x.2.placed=true then .err 7 else if (sz=1∨sz=2∨sz=4)/\(a:Int) % sz=0 then .ok k else .err 3
def aheadP (s:Int) (a sz:Nat) (e:En):Bool:=e.loaded&&(List.range e.size).any λ c=>decide (a≤e.addr+c/\e.addr+c<a+sz)&&decide (e.fr c<s)
def aheadR (s:Int) (a sz:Nat) (k:Nat) (es:Ens) (e:En):Int:=if e.store=true then seqOf ((es.drop (k+1)).find? λ x=>aheadP s a sz x.2) else -1
def AddrPost (W:wD) (b:Nat) (q:PQ) (s:Int) (a:Nat) (sz:Int) (e:Ending) (w:wD):Prop:=match addrR s a sz q.es with
 | .err n=>e=eY #[.int .i64 (-1),errN n]/\Sep.Post (qA b q) W (qA b q) w
 | .ok k=>∃ x,q.es[k]?=some x/\e=eY #[.int .i64 (aheadR s a sz.toNat k q.es x.2),.nilIface]/\Sep.Post (qA b q) W (qA b { q with es:=q.es.set k (x.1,{ x.2 with placed:=true,addr:=a,size:=sz.toNat }) }) w
theorem addr_any (h:(qA b q).at_ W) (ho:AllOk q.es) (hn:q.es.length≤32) (s:Int) (a:Nat) (ha:a<4294967296) (sz:Int) :
  Calls prog 109 #[pZ b 0,.int .i64 s,.int .u32 a,.int .i64 sz] W (AddrPost W b q s a sz):=by
 refine ajm b 0 s a sz ((find_any h hn s).mono ?_);rintro e A ⟨rfl,hh⟩
 have bad:∀ n,addrR s a sz q.es= .err n->AddrPost W b q s a sz (eY #[.int .i64 (-1),errN n]) A:=λ n e=>by unfold AddrPost;rw[e];exact⟨rfl,Ed h hh⟩
 have H:St W (qA b q).own A (q.pieces b++[]):=(fz h).quiet hh
 cases hp:fu (findP s) q.es with
 | none=>exact⟨-1,rfl,aa (λ _=>bad 7 (by unfold addrR;rw[hp])) (λ q=>by simp at q)⟩
 | some k =>
  obtain⟨x,hx, -, -⟩:=pos_some hp;have hkl:=(qD.1 hx).1;obtain⟨g,o,hpp,hc⟩:=ptr_at (H.nth 1 rfl) hx;have hB:=bf (H.nth 2 rfl) hx
  have hr:addrR s a sz q.es=if x.2.placed=true then .err 7 else if (sz=1∨sz=2∨sz=4)/\(a:Int) % sz=0 then .ok k else .err 3:=by unfold addrR;rw[hp];show(match q.es[k]? with | none=>_ | some x=>_)=_;rw[hx]
  refine⟨((k:Nat):Int),rfl,aa (λ q=>?_) (λ _=>?_)⟩
  ·have:=qB q;omega
  refine⟨_,_,_,H.ld 0 rfl rfl,⟨by omega,by omega⟩,adr_eq hpp ⟨_,hc,ptr_some ⟨x.2.placed,by rw[ac];exact hB.cell' rfl,aa (λ q1=>bad 7 (by rw[hr,if_pos q1])) (λ q1=>?_)⟩⟩⟩
  have hsize:∀ z:Nat,sz=z->(z=1∨z=2∨z=4)->∀ z2:Int,z2=IntKind.wrap .u32 sz->z2≠0/\∀ z3:Int,z3=Int.tmod a z2->Sx.split (z3 !=0) (AddrPost W b q s a sz (eY #[.int .i64 (-1),errN 3]) A) ((sz=1∨sz=2∨sz=4)/\(a:Int) % sz=0/\A=A):=by
   rintro z rfl hz z2 rfl;rw[w32 (by omega) (by omega)];refine⟨by omega,?_⟩;rintro z3 rfl;rw[Int.tmod_eq_emod_of_nonneg (by omega)];refine aa (λ q2=>?_) (λ q2=>?_)
   ·have q2:¬ (a:Int) % (z:Nat)=0:=by simpa using q2
    exact bad 3 (by rw[hr,if_neg (by rw[q1];decide),if_neg (λ e=>q2 e.2)])
   ·have q2:(a:Int) % (z:Nat)=0:=by simpa using q2
    exact⟨by omega,q2,rfl⟩
  refine⟨λ B=>(sz=1∨sz=2∨sz=4)/\(a:Int) % sz=0/\B=A,?_,λ _=>?_⟩
  ·refine aa (λ q2=>aa (λ q3=>aa (λ q4=>?_) (λ q4=>?_)) (λ q3=>?_)) (λ q2=>?_)
   ·have q2:¬ sz=1:=by simpa using q2
    have q3:¬ sz=2:=by simpa using q3
    have q4:¬ sz=4:=by simpa using q4
    exact bad 3 (by rw[hr,if_neg (by rw[q1];decide),if_neg (by rintro⟨e | e | e, -⟩;exact q2 e;exact q3 e;exact q4 e)])
   ·exact hsize 4 (by simpa using q4) (by omega)
   ·exact hsize 2 (by simpa using q3) (by omega)
   ·exact hsize 1 (by simpa using q2) (by omega)
  ·rintro B ⟨hsz,hal,rfl⟩;obtain⟨z,rfl⟩:∃ z:Nat,sz=z:=⟨sz.toNat,by omega⟩
   have hz4:z=1∨z=2∨z=4:=by omega
   have hfit:a+z≤4294967296:=by
    have hal:a % z=0:=by omega
    rcases hz4 with rfl | rfl | rfl <;> omega
   refine⟨_,_,_,H.ld 0 rfl rfl,⟨by omega,by omega⟩,adr_eq hpp ⟨_,hc,ptr_some ?_⟩⟩;rw[ac];refine H.ent 2 rfl hx { x.2 with placed:=true } (by omega) rfl λ C H=>ptr_some ?_;rw[ac]
   have hx2:∀ e2:En,(q.es.set k (x.1,e2))[k]?=some (x.1,e2):=λ e2=>by rw[qO hkl]
   refine H.ent 2 rfl (hx2 _) { x.2 with placed:=true,addr:=a } (by omega) rfl λ D H=>ptr_some ?_;rw[qWB,qWB] at H;rw[ac];refine H.ent 2 rfl (hx2 _) { x.2 with placed:=true,addr:=a,size:=z } (by omega) rfl λ E H=>?_;rw[qWB,qWB] at H;obtain⟨x',hx'⟩:∃ x':En,x'={ x.2 with placed:=true,addr:=a,size:=z }:=⟨_,rfl⟩
   have H:St W (qA b q).own E ([blk b q.root 128,sl 199 1 (.slice q.p q.es.length q.cap) q.es.length (ptrs q.es),df (q.es.set k (x.1,x'))]++[]):=by rw[hx'];exact H
   have hB:=bf (H.nth 2 rfl) (hx2 x')
   have hok':x'.Ok:=by
    have hxo:=ho x (qN hx);rw[hx'];exact⟨ha,hxo.data,by show z=0∨z=1∨z=2∨z=4;omega,hfit,λ _=>by show z≠0;omega,(λ e=>by cases e),λ e=>⟨rfl,(hxo.load e).2⟩,λ e=>⟨(hxo.ret e).1,rfl,(hxo.ret e).2.2⟩,hxo.pos⟩
   have fin:∀ {F:wD},St W (qA b q).own F ([blk b q.root 128,sl 199 1 (.slice q.p q.es.length q.cap) q.es.length (ptrs q.es),df (q.es.set k (x.1,x'))]++[])->∀ r:Int,r=aheadR s a z k q.es x.2->AddrPost W b q s a ((z:Nat):Int) (eY #[.int .i64 r,.nilIface]) F:=by
    intro F H r hr2;unfold AddrPost;rw[hr,if_neg (by rw[q1];decide),if_pos ⟨hsz,hal⟩];refine⟨x,hx,by rw[hr2,qG],?_⟩;rw[qG,<- hx'];exact vw hx (L:=[]) H
   refine ptr_some ⟨x.2.store,by rw[ac];exact hB.cell' (by rw[hx'];rfl),aa (λ q2=>?_) (λ q2=>?_)⟩
   ·have q2:x.2.store=false:=by simpa using q2
    exact fin H (-1) (by unfold aheadR;rw[q2];rfl)
   have q2:x.2.store=true:=by simpa using q2
   refine⟨_,_,_,H.ld 0 rfl rfl,?_⟩;rintro z8 rfl;rw[w64 (by omega) (by omega),show((k:Nat):Int)+1=((k+1:Nat):Int) by omega];refine⟨⟨by omega,by omega⟩,?_⟩;rw[qG];refine⟨λ i F=>∃ j:Nat,i=j/\j≤q.es.length - (k+1)/\(∀ (i:Nat) (y:Nat×En),i<j->q.es[k+1+i]?=some y->aheadP s a z y.2=false)/\St W (qA b q).own F ([blk b q.root 128,sl 199 1 (.slice q.p q.es.length q.cap) q.es.length (ptrs q.es),df (q.es.set k (x.1,x'))]++[]),λ i _=>q.es.length - i.toNat,⟨0,rfl,qQ _,λ i y hi=>by omega,H⟩,λ _=>?_⟩;clear H hB hpp hc;rintro i F ⟨j,rfl,hj,hnot,H⟩;refine aa (λ q3=>?_) (λ q3=>?_)
   ·have q3:=qB q3
    have hjl:k+1+j<q.es.length:=by omega
    have hy:=qC hjl;obtain⟨y,hye⟩:∃ y,y=q.es[k+1+j]:=⟨_,rfl⟩;rw[<- hye] at hy;have hyo:=ho y (qN hy)
    have hysz:y.2.size≤4:=by rcases hyo.size with e | e | e | e <;> omega
    have hy2:(q.es.set k (x.1,x'))[k+1+j]?=some y:=by rw[qz (by omega)];exact hy
    have hadr:∀ {f:Nat->Nat->Prop},(∀ g o,F.cell? ⟨g,o+((j:Nat):Int).toNat * 1,none⟩=some (pZ y.1 0)->f g o)->Sx.adr (Sx.sub q.p q.cap (k+1) 1) f:=by
     intro f hf;have hs:Sl F 199 1 (.slice q.p q.es.length q.cap) q.es.length (ptrs q.es):=H.nth 1 rfl;obtain⟨hle, -,g,o,hpp,hcell⟩:=sa hs (by omega);rw[hpp];unfold Sx.sub;rw[if_neg (by omega),Option.map_some,ac];refine adr_some (hf g _ ?_);rw[ix1,qT,Nat.add_assoc];exact hcell _ _ (by simp [ptrs,hy])
    refine⟨⟨by omega,q3⟩,hadr λ g o hc=>⟨_,hc,?_⟩⟩;have hB:=bf (H.nth 2 rfl) hy2;have hBx:=bf (H.nth 2 rfl) (hx2 x');refine ptr_some ⟨y.2.addr,by rw[ac];exact hB.cell' rfl,ptr_some ⟨y.2.size,by rw[ac];exact hB.cell' rfl,_,_,λ k13=>Ef hBx hok' y.2.addr y.2.size hyo.addr hysz k13,?_⟩⟩;rintro G n rfl;have H:=H.drewN n
    have ex1:x'.addr=a:=by rw[hx']
    have ex2:x'.size=z:=by rw[hx']
    have hin:=λ c=>Pp (e:=a) (es:=z) (a:=y.2.addr) (s:=y.2.size) hfit hyo.fits hysz (by omega) c;show ∃ I4 I5,_;rw[ex1,ex2];have hlo:=Pq a y.2.addr;have hhi:=Pr a z y.2.addr y.2.size;refine⟨λ i F=>∃ c:Nat,i=c/\km a y.2.addr≤c/\(c:Int)≤max (km a y.2.addr) (se a z y.2.addr y.2.size)/\(y.2.loaded=true->∀ c2:Nat,c2<c->km a y.2.addr≤c2->¬ y.2.fr c2<s)/\St W (qA b q).own F ([blk b q.root 128,sl 199 1 (.slice q.p q.es.length q.cap) q.es.length (ptrs q.es),df (q.es.set k (x.1,x'))]++[]),λ i _=>100 - i.toNat,⟨(km a y.2.addr).toNat,by omega,by omega,by omega,λ _ c2 h1 h2=>by omega,H⟩,λ _=>?_⟩;clear H hB hBx hadr hc;rintro i G ⟨c,rfl,hc1,hc2,hcn,H⟩;have hB:=bf (H.nth 2 rfl) hy2
    have miss:aheadP s a z y.2=false->∀ z16:Int,z16=IntKind.wrap .i64 ((j:Int)+1)->(∃ j:Nat,z16=j/\j≤q.es.length - (k+1)/\(∀ (i:Nat) (y:Nat×En),i<j->q.es[k+1+i]?=some y->aheadP s a z y.2=false)/\St W (qA b q).own G ([blk b q.root 128,sl 199 1 (.slice q.p q.es.length q.cap) q.es.length (ptrs q.es),df (q.es.set k (x.1,x'))]++[]))/\q.es.length - z16.toNat<q.es.length - (j:Int).toNat:=by
     rintro hm z16 rfl;rw[w64 (by omega) (by omega)];refine⟨⟨j+1,by omega,by omega,λ i y' hi hy'=>?_,H⟩,by omega⟩;by_cases e:i=j
     ·subst e;rw[hy] at hy';cases hy';exact hm
     ·exact hnot i y' (by omega) hy'
    refine ptr_some ⟨y.2.loaded,by rw[ac];exact hB.cell' rfl,aa (λ q4=>aa (λ q5=>?_) (λ q5=>?_)) (λ q4=>?_)⟩
    ·have q5:=qB q5
     have hc4:c<4:=by omega
     refine ptr_some ⟨⟨by omega,by omega⟩,y.2.fr c,?_,aa (λ q6=>?_) (λ q6=>?_)⟩
     ·show G.cell? ⟨y.1,0+8+(c:Int).toNat * 1,none⟩=_;rw[show 0+8+(c:Int).toNat * 1=8+c by omega];exact hB.cell' (Br _ hc4)
     ·have q6:=qB q6;refine ptr_some ⟨y.2.seq,by rw[ac];exact hB.cell' rfl,fin H _ ?_⟩;unfold aheadR;rw[if_pos q2]
      have:(q.es.drop (k+1)).find? (λ x=>aheadP s a z x.2)=some y:=by
       rw[qyB];have hin2:=(hin c).1 ⟨hc1,q5⟩;refine⟨?_,j,by rw[List.length_drop];omega,by rw[List.getElem_drop,hye],λ i hi=>?_⟩
       ·unfold aheadP;rw[q4,qoB];refine List.any_eq_true.2 ⟨c,qNB.2 hin2.1,?_⟩;rw[qI hin2.2,qI q6];rfl
       ·rw[List.getElem_drop,hnot i _ hi (qC (by omega))];rfl
      rw[this];rfl
     ·have q6:=qE q6;rintro z11 rfl;rw[w64 (by omega) (by omega)];refine⟨⟨c+1,by omega,by omega,by omega,λ hl c2 h1 h2=>?_,H⟩,by show 100 - ((c:Int)+1).toNat<100 - (c:Int).toNat;omega⟩;by_cases e:c2=c
      ·subst e;exact q6
      ·exact hcn hl c2 (by omega) h2
    ·have q5:=qE q5;refine miss ?_;unfold aheadP;rw[q4,qoB];refine Bool.eq_false_iff.2 λ h=>?_;obtain⟨c2,h1,h2⟩:=List.any_eq_true.1 h;rw[qU,decide_eq_true_iff,decide_eq_true_iff] at h2;have hin2:=(hin c2).2 ⟨qNB.1 h1,h2.1⟩;exact hcn q4 c2 (by omega) hin2.1 h2.2
    ·exact miss (by unfold aheadP;rw[q4,qbB])
   ·have q3:=qE q3;refine fin H (-1) ?_;unfold aheadR;rw[if_pos q2]
    have:(q.es.drop (k+1)).find? (λ x=>aheadP s a z x.2)=none:=by
     rw[List.find?_eq_none];intro y hy;obtain⟨i,hi,rfl⟩:=qGC hy;rw[List.length_drop] at hi;rw[List.getElem_drop,hnot i _ (by omega) (qC (by omega))];decide
    rw[this];rfl
end Go.Proofs.YtmncepdbglaphaaGreatDoor.lsq
