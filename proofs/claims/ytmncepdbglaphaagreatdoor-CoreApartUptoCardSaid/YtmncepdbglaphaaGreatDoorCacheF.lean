/- A part of the walk. No condition. -/
import Derived.Test.YtmncepdbglaphaaGreatDoorCacheB
set_option linter.unusedVariables false
set_option maxRecDepth 100000
namespace Go.Proofs.YtmncepdbglaphaaGreatDoor.cbus
open Go.RowKit Go.XHeap Go.Sx Go.Sep Go.Proofs.Tryz
def Ek:LN:=List.replicate 16 0
def zeroLine:LV:=lineC 0 0 Ek
def zeroWay:Way:=⟨0,0,0,Ek⟩
def errN (n:Int):Value:=.iface 60 (.int .i64 n)
theorem jp {y:Way} (h:y.Ok):y.lineC.length=18:=by simp [Way.lineC,lineC,jv,h.len]
theorem zero_ok:zeroWay.Ok:=⟨by decide,by decide,rfl,by decide⟩
theorem Qc {w:wD}{C:CS} (h:C.Ok) (hs:here (setsA C.gs C.sets) w){i j:Nat}{y:Way} (hi:i<C.S) (hj:j<(C.set_ i).length) (hy:y.bytes.length=16) :
  Sep.Post (all (setsA C.gs C.sets)) w (all (setsA C.gs (C.put i j y).sets)) (w.setCells (C.g i) (j * 19) y.cells):=by
 have hl:y.cells.length=19:=by simp [Way.cells,jv,hy]
 have hsz:=kj (f:=Way.cells) (sf h (CS.set_mem h hi))
 have hle:j * 19+19≤(C.set_ i).length * 19:=by
  have:=qiB 19 (show j+1≤(C.set_ i).length from hj);rw[Nat.add_mul] at this;omega
 refine Jc h hs hi ?_;have:=Oe (Bs h hs hi) (j * 19) y.cells (by rw[hl,hsz];exact hle);rw[lf (sf h (CS.set_mem h hi)) j y hj hl] at this;exact this
theorem vf {w:wD}{C:CS} (h:C.Ok) (hs:here (setsA C.gs C.sets) w){i j:Nat} (hi:i<C.S) (hj:j<(C.set_ i).length):∀ q:Nat,q<19->(∃ v,w.cell? ⟨C.g i,j * 19+q,none⟩=some v)/\w.frozen? ⟨C.g i,j * 19+q,none⟩=false :=
 λ q hq=>mq h hs hi (qC hj) hq
theorem Qd (y:Way):∀ v ∈ y.cells.toArray.toList,v.oneCell'=true:=by
 intro v hv;simp only[Way.cells,qp] at hv;rcases hv with rfl | rfl | rfl | hv
 ·rfl
 ·rfl
 ·rfl
 ·exact Hd _ v hv
def vic (l:List Way):Nat->Nat
 | 0=>0
 | m+1=>if (l.getD m default).used<(l.getD (vic l m) default).used then m else vic l m
theorem Je {l:List Way} (h:0<l.length):∀ m,m≤l.length->vic l m<l.length
 | 0,_=>h
 | m+1,hm=>by
  unfold vic;split
  ·omega
  ·exact Je h m (by omega)
def CS.vict (C:CS) (a:Nat):Nat:=vic (C.set_ (C.ix a)) C.N
def CS.vway (C:CS) (a:Nat):Way:=(C.set_ (C.ix a)).getD (C.vict a) default
def CS.filled (C:CS) (a:Nat) (bs:LN) (s:Nat):CS:=C.tick.put (C.ix a) (C.vict a) ⟨a,s,C.clock+1,bs⟩
def ob (W:wD) (b:Nat) (C:CS) (a:Nat) (bs:LN) (s:Int) (e:Ending) (w:wD):Prop :=
 if a % 16≠0∨s<1∨s > 3 then e=eY #[.agg zeroLine.toArray,.bool false,errN 3]/\Sep.Post (af b C) W (af b C) w
 else if (C.look a).isSome then e=eY #[.agg zeroLine.toArray,.bool false,errN 7]/\Sep.Post (af b C) W (af b C) w
 else e=eY #[.agg (if (C.vway a).state≠0 then (C.vway a).lineC else zeroLine).toArray,.bool (decide ((C.vway a).state≠0)),.nilIface]/\Sep.Post (af b C) W (af b (C.filled a bs s.toNat)) w
theorem Yi {a:Nat} (ha:a<4294967296):IntKind.wrap .u32 ((bZ .u32 (a:Int) &&&bZ .u32 15).toNat:Int)=((a % 16:Nat):Int):=by
 have:=Bits.land32 ha (show 15<4294967296 by decide);rw[show((15:Nat):Int)=15 from rfl] at this;rw[this,show a &&&15=a % 2 ^ 4 from Bits.mask a 4]
theorem Vx {W:wD}{b:Nat}{C:CS} (ho:C.Ok) (hc:C.clock+1<4611686018427387904) (h:(af b C).at_ W) (a:Nat) (ha:a<4294967296) (bs:LN) (hb:bs.length=16) (hb2:∀ x ∈ bs,x<256) (s:Int) :
  Calls prog 51 #[pZ b 0,.int .u32 a,.agg (u8n bs).toArray,.int .i64 s] W (ob W b C a bs s):=by
 have hi:=ho.ix_lt a;have hN:(C.set_ (C.ix a)).length=C.N:=ho.len _ (CS.set_mem ho hi);have hn0:=ho.n0;have hn1:=ho.n1
 have zl:∀ {w:wD} {k2:Nat} {L:List Asn} {Φ:AV->wD->Prop},St W (af b C).own w (af b C::blk k2 zeroLine.toArray 167::L)->(∀ w',St W (af b C).own w' (af b C::blk k2 zeroLine.toArray 167::L)->Φ zeroLine.toArray w') ->
   ∃ vs:AV,vs.size=18/\cellsAt w ⟨k2,0,none⟩ vs/\vs.size=18/\(∀ j:Nat,j<18->(∃ v,w.cell? ⟨k2,0+j,none⟩=some v)/\w.frozen? ⟨k2,0+j,none⟩=false)/\(∀ v:Value,v ∈ vs.toList->v.oneCell'=true)/\∀ w':wD,w'=w.setCells k2 0 vs.toList->∃ vs2:AV,vs2.size=18/\cellsAt w' ⟨k2,0,none⟩ vs2/\Φ vs2 w' :=
  λ H hq=>⟨_,rfl,H.cells 1 rfl,H.sts0 1 rfl rfl rfl (dy 0 0 Ek) λ w' H=>⟨_,rfl,H.cells 1 rfl,hq w' H⟩⟩
 have H:=St.begin (A:=af b C) h;refine aog b 0 a _ s (H.al λ k w2 H=>H.al λ k2 w3 H=>?_);have H:St W (af b C).own w3 [af b C,blk k2 zeroLine.toArray 167,blk k (u8n bs).toArray 165]:=H.pick [0,2,1]
 have bad:a % 16≠0∨s<1∨s > 3->∀ w',St W (af b C).own w' [af b C,blk k2 zeroLine.toArray 167,blk k (u8n bs).toArray 165]->ob W b C a bs s (eY #[.agg zeroLine.toArray,.bool false,errN 3]) w':=λ e w' H=>by
  unfold ob;rw[if_pos e];exact⟨rfl,H.post 0 rfl⟩
 refine⟨λ w=>w=w3/\¬ (a % 16≠0∨s<1∨s > 3),?_,λ _=>?_⟩
 ·rintro z rfl;rw[Yi ha];refine aa (λ q=>zl H (bad (.inl ?_))) (λ q=>aa (λ q2=>zl H (bad (.inr (.inl (qB q2))))) (λ q2=>aa (λ q3=>zl H (bad (.inr (.inr (qB q3))))) (λ q3=>⟨rfl,?_⟩)))
  ·have:((a % 16:Nat):Int)≠0:=by simpa using q
   omega
  ·have q:((a % 16:Nat):Int)=0:=by simpa using q
   have q2:=qE q2;have q3:=qE q3;omega
 rintro w7 ⟨rfl,hgood⟩
 have hFP:∀ e w,ob W b C a bs s e w=if (C.look a).isSome then e=eY #[.agg zeroLine.toArray,.bool false,errN 7]/\Sep.Post (af b C) W (af b C) w
   else e=eY #[.agg (if (C.vway a).state≠0 then (C.vway a).lineC else zeroLine).toArray,.bool (decide ((C.vway a).state≠0)),.nilIface]/\Sep.Post (af b C) W (af b (C.filled a bs s.toNat)) w:=λ e w=>by
  unfold ob;rw[if_neg hgood]
 refine⟨λ w=>C.look a=none/\St W (af b C).own w [af b C,blk k2 zeroLine.toArray 167,blk k (u8n bs).toArray 165],H.callq (find_any ho (H.nth 0 rfl) a ha) λ w8 H=>⟨_,rfl,aa (λ q=>zl H λ w' H=>?_) (λ q=>⟨?_,H⟩)⟩,λ _=>?_⟩
 ·rw[hFP,if_pos (by cases hl:C.look a with
   | none=>rw[hl] at q;cases q
   | some j=>rfl)]
  exact⟨rfl,H.post 0 rfl⟩
 ·cases hl:C.look a with
  | none=>rfl
  | some j=>rw[hl] at q;cases q
 rintro w10 ⟨hl,H⟩;simp only[hFP,hl];clear hFP;refine H.callq (set_any ho (H.nth 0 rfl) a ha) λ w11 H=>⟨_,_,_,rfl,⟨by omega,by omega⟩,adr_some ?_⟩;have H:St W (af b C).own w11 [blk b C.root 111,sl 112 1 (.slice (some ⟨C.bs,C.bo,none⟩) C.S C.cap) C.S C.rowL,all (setsA C.gs C.sets),blk k2 zeroLine.toArray 167,blk k (u8n bs).toArray 165]:=H.open_;have hv:=Je (l:=C.set_ (C.ix a)) (by omega) C.N (by omega);refine⟨λ p w=>p=some ⟨C.g (C.ix a),C.vict a * 19,none⟩/\St W (af b C).own w [blk b C.root 111,sl 112 1 (.slice (some ⟨C.bs,C.bo,none⟩) C.S C.cap) C.S C.rowL,all (setsA C.gs C.sets),blk k2 zeroLine.toArray 167,blk k (u8n bs).toArray 165],⟨λ x p w=>∃ m:Nat,x=m/\m≤C.N/\p=some ⟨C.g (C.ix a),vic (C.set_ (C.ix a)) m * 19,none⟩/\St W (af b C).own w [blk b C.root 111,sl 112 1 (.slice (some ⟨C.bs,C.bo,none⟩) C.S C.cap) C.S C.rowL,all (setsA C.gs C.sets),blk k2 zeroLine.toArray 167,blk k (u8n bs).toArray 165],λ x _ _=>C.N - x.toNat,⟨0,rfl,by omega,rfl,H⟩,λ _=>?_⟩,λ _=>?_⟩
 ·clear H;rintro x x2 w12 ⟨m,rfl,hm,rfl,H⟩;refine aa (λ q=>?_) (λ q=>?_)
  ·have q:=qB q;have hS:here (setsA C.gs C.sets) w12:=H.nth 2 rfl
   have e19:0+((m:Nat):Int).toNat * 19=m * 19:=by omega
   have hvm:=Je (l:=C.set_ (C.ix a)) (by omega) m (by omega)
   have hg1:(C.set_ (C.ix a))[m]?=some ((C.set_ (C.ix a)).getD m default):=by rw[qF,qC (by omega)];rfl
   have hg2:(C.set_ (C.ix a))[vic (C.set_ (C.ix a)) m]?=some ((C.set_ (C.ix a)).getD (vic (C.set_ (C.ix a)) m) default):=by rw[qF,qC hvm];rfl
   refine⟨λ x w=>x=decide (((C.set_ (C.ix a)).getD m default).used<((C.set_ (C.ix a)).getD (vic (C.set_ (C.ix a)) m) default).used)/\St W (af b C).own w [blk b C.root 111,sl 112 1 (.slice (some ⟨C.bs,C.bo,none⟩) C.S C.cap) C.S C.rowL,all (setsA C.gs C.sets),blk k2 zeroLine.toArray 167,blk k (u8n bs).toArray 165],⟨⟨by omega,q⟩,adr_some ?_⟩,λ _=>?_⟩
   ·rw[e19];refine⟨_,dx ho hS hi hg1 (q:=2) (by omega) rfl,ptr_some ⟨(((C.set_ (C.ix a)).getD (vic (C.set_ (C.ix a)) m) default).used:Nat),?_,H.drN λ w13 H=>⟨?_,H⟩⟩⟩
    ·rw[ac];exact dx ho hS hi hg2 (q:=2) (by omega) rfl
    ·rw[Bool.eq_iff_iff];simp
   ·rintro x3 w14 ⟨rfl,H⟩;refine aa (λ q2=>⟨⟨by omega,q⟩,adr_some ?_⟩) (λ q2=>?_)
    ·have q2:=qB q2;rw[e19];rintro z4 rfl;rw[w64 (by omega) (by omega)];exact⟨⟨m+1,by omega,by omega,by unfold vic;rw[if_pos q2],H⟩,by show C.N - ((m:Int)+1).toNat<C.N - (m:Int).toNat;omega⟩
    ·have q2:=qE q2;rintro z4 rfl;rw[w64 (by omega) (by omega)];exact⟨⟨m+1,by omega,by omega,by rw[show vic (C.set_ (C.ix a)) (m+1)=vic (C.set_ (C.ix a)) m from by rw[vic,if_neg q2]],H⟩,by show C.N - ((m:Int)+1).toNat<C.N - (m:Int).toNat;omega⟩
  ·have q:=qE q;obtain rfl:m=C.N:=by omega
   exact⟨rfl,H⟩
 clear H;rintro x4 w15 ⟨rfl,H⟩
 have hvy:(C.set_ (C.ix a))[C.vict a]?=some (C.vway a):=by unfold CS.vway;rw[qF,qC (show C.vict a<_ from hv)];rfl
 have hyo:=ho.way _ (CS.set_mem ho hi) _ (qN hvy);have hS:here (setsA C.gs C.sets) w15:=H.nth 2 rfl;refine⟨λ x w=>x=decide ((C.vway a).state≠0)/\St W (af b C).own w [blk b C.root 111,sl 112 1 (.slice (some ⟨C.bs,C.bo,none⟩) C.S C.cap) C.S C.rowL,all (setsA C.gs C.sets),blk k2 (if (C.vway a).state≠0 then (C.vway a).lineC else zeroLine).toArray 167,blk k (u8n bs).toArray 165],ptr_some ⟨(C.vway a).state,?_,aa (λ q=>?_) (λ q=>?_)⟩,λ _=>?_⟩
 ·rw[ac];exact dx ho hS hi hvy (q:=1) (by omega) rfl
 ·have q':(C.vway a).state≠0:=by
   have:((C.vway a).state:Int)≠0:=by simpa using q
   omega
  have H2:St W (af b C).own w15 (af b C::[blk k2 zeroLine.toArray 167,blk k (u8n bs).toArray 165]):=St.shut H;refine H2.callq (Pw ho (H2.nth 0 rfl) hi hvy) λ w16 H=>⟨_,rfl,H.sts0 1 rfl (by simp [jp hyo]) rfl (dy _ _ _) λ w17 H=>⟨?_,?_⟩⟩
  ·rw[q,qI q']
  ·rw[if_pos q'];exact H.open_
 ·have q':(C.vway a).state=0:=by
   have:((C.vway a).state:Int)=0:=by simpa using q
   omega
  refine⟨?_,?_⟩
  ·rw[q,qM (by simp [q'])]
  ·rw[if_neg (by simp [q'])];exact H
 clear H hS;rintro x5 w18 ⟨rfl,H⟩;have hS:here (setsA C.gs C.sets) w18:=H.nth 2 rfl;refine⟨(u8n bs).toArray,by simp [jv,hb],H.cells 4 rfl,by simp [jv,hb],?_⟩;rintro vs11 rfl;refine ptr_some (adr_some ?_)
 have e:List.toArray (Value.int .u32 a::Value.int .i64 s::Value.int .i64 0::((u8n bs).toArray.toList++[]))=(Way.cells ⟨a,s.toNat,0,bs⟩).toArray:=by
  rw[show s=((s.toNat:Nat):Int) by omega];simp [Way.cells]
 rw[e];refine⟨by simp [Way.cells,jv,hb],vf ho hS hi hv,Qd _,?_⟩;rintro w19 rfl;have H:=H.upd 2 rfl (Qc ho hS hi hv (y:=⟨a,s.toNat,0,bs⟩) hb);have hoC:(C.put (C.ix a) (C.vict a) ⟨a,s.toNat,0,bs⟩).Ok:=Ei ho hi ⟨ha,by show s.toNat≤3;omega,hb,hb2⟩;have H:St W (af b C).own _ (af b (C.put (C.ix a) (C.vict a) ⟨a,s.toNat,0,bs⟩)::[blk k2 (if (C.vway a).state≠0 then (C.vway a).lineC else zeroLine).toArray 167,blk k (u8n bs).toArray 165]):=St.shut H
 have hjp:((C.put (C.ix a) (C.vict a) ⟨a,s.toNat,0,bs⟩).set_ (C.ix a))[C.vict a]?=some ⟨a,s.toNat,0,bs⟩:=by rw[Bt ho hi];exact qO hv
 refine H.call 0 rfl (Ej hoC (H.nth 0 rfl) hi hjp) λ w20 H=>⟨rfl,?_⟩
 have et:(C.put (C.ix a) (C.vict a) ⟨a,s.toNat,0,bs⟩).touched (C.ix a) (C.vict a)=C.filled a bs s.toNat:=by
  rw[gt hjp];exact Bz (C:=C.tick) (Bu ho hc) hi _ _ _
 rw[et] at H
 have hsz:(if (C.vway a).state≠0 then (C.vway a).lineC else zeroLine).toArray.size=18:=by
  split
  ·simp [jp hyo]
  ·rfl
 refine⟨_,hsz,H.cells 1 rfl,H.sts0 1 rfl hsz hsz ?_ λ w21 H=>⟨_,hsz,H.cells 1 rfl,?_⟩⟩
 ·split
  ·exact dy _ _ _
  ·exact dy 0 0 Ek
 ·rw[if_neg (by decide)];exact⟨rfl,H.post 0 rfl⟩
def CS.lowered (C:CS) (a j:Nat) (s:Nat):CS:=C.put (C.ix a) j (if s=0 then zeroWay else { (C.set_ (C.ix a)).getD j default with state:=s })
def ku (W:wD) (b:Nat) (C:CS) (a:Nat) (s:Int) (e:Ending) (w:wD):Prop :=
 if a % 16≠0∨s<0∨s > 2 then e=eY #[.agg zeroLine.toArray,errN 3]/\Sep.Post (af b C) W (af b C) w
 else match C.look a with
  | some j=>if (C.stateAt a:Int)≤s then e=eY #[.agg zeroLine.toArray,errN 7]/\Sep.Post (af b C) W (af b C) w
   else e=eY #[.agg ((C.set_ (C.ix a)).getD j default).lineC.toArray,.nilIface]/\Sep.Post (af b C) W (af b (C.lowered a j s.toNat)) w
  | none=>e=eY #[.agg zeroLine.toArray,errN 7]/\Sep.Post (af b C) W (af b C) w
theorem Qe {W:wD}{b:Nat}{C:CS} (ho:C.Ok) (h:(af b C).at_ W) (a:Nat) (ha:a<4294967296) (s:Int) :
  Calls prog 50 #[pZ b 0,.int .u32 a,.int .i64 s] W (ku W b C a s):=by
 have hi:=ho.ix_lt a
 have zl:∀ {w:wD} {k2:Nat} {L:List Asn} {Φ:AV->wD->Prop},St W (af b C).own w (af b C::blk k2 zeroLine.toArray 167::L)->(∀ w',St W (af b C).own w' (af b C::blk k2 zeroLine.toArray 167::L)->Φ zeroLine.toArray w') ->
   ∀ vs:AV,vs=zeroLine.toArray->vs.size=18/\(∀ j:Nat,j<18->(∃ v,w.cell? ⟨k2,0+j,none⟩=some v)/\w.frozen? ⟨k2,0+j,none⟩=false)/\(∀ v:Value,v ∈ vs.toList->v.oneCell'=true)/\∀ w':wD,w'=w.setCells k2 0 vs.toList->∃ vs2:AV,vs2.size=18/\cellsAt w' ⟨k2,0,none⟩ vs2/\Φ vs2 w' :=
  λ H hq vs e=>by subst e;exact H.sts0 1 rfl rfl rfl (dy 0 0 Ek) λ w' H=>⟨_,rfl,H.cells 1 rfl,hq w' H⟩
 refine aoh b 0 a s ((St.begin (A:=af b C) h).al λ k w2 H=>?_);have H:St W (af b C).own w2 [af b C,blk k zeroLine.toArray 167]:=H
 have bad:a % 16≠0∨s<0∨s > 2->∀ w',St W (af b C).own w' [af b C,blk k zeroLine.toArray 167]->ku W b C a s (eY #[.agg zeroLine.toArray,errN 3]) w':=λ e w' H=>by
  unfold ku;rw[if_pos e];exact⟨rfl,H.post 0 rfl⟩
 refine⟨λ w=>w=w2/\¬ (a % 16≠0∨s<0∨s > 2),?_,λ _=>?_⟩
 ·rintro z rfl;rw[Yi ha];refine aa (λ q=>zl H (bad (.inl ?_))) (λ q=>aa (λ q2=>zl H (bad (.inr (.inl (qB q2))))) (λ q2=>aa (λ q3=>zl H (bad (.inr (.inr (qB q3))))) (λ q3=>⟨rfl,?_⟩)))
  ·have:((a % 16:Nat):Int)≠0:=by simpa using q
   omega
  ·have q:((a % 16:Nat):Int)=0:=by simpa using q
   have q2:=qE q2;have q3:=qE q3;omega
 rintro w6 ⟨rfl,hgood⟩
 have hLP:∀ e w,ku W b C a s e w=match C.look a with
  | some j=>if (C.stateAt a:Int)≤s then e=eY #[.agg zeroLine.toArray,errN 7]/\Sep.Post (af b C) W (af b C) w
   else e=eY #[.agg ((C.set_ (C.ix a)).getD j default).lineC.toArray,.nilIface]/\Sep.Post (af b C) W (af b (C.lowered a j s.toNat)) w
  | none=>e=eY #[.agg zeroLine.toArray,errN 7]/\Sep.Post (af b C) W (af b C) w:=λ e w=>by unfold ku;rw[if_neg hgood]
 refine H.callq (find_any ho (H.nth 0 rfl) a ha) λ w7 H=>⟨_,rfl,?_⟩
 cases hl:C.look a with
 | none =>
  refine⟨λ w=>False,aa (λ _=>zl H λ w' H=>?_) (λ q=>by cases q),λ _=>λ w hw=>hw.elim⟩;rw[hLP,hl];exact⟨rfl,H.post 0 rfl⟩
 | some j =>
  obtain⟨y,hy,hy1,hy2⟩:=look_some hl
  have hst:C.stateAt a=y.state:=by
   unfold CS.stateAt;rw[hl];simp only;rw[qF,hy];rfl
  have ey:(C.set_ (C.ix a)).getD j default=y:=by rw[qF,hy];rfl
  have hyo:=ho.way _ (CS.set_mem ho hi) y (qN hy);have hjl:=(qD.1 hy).1;simp only[hLP,hl,hst,ey];have hS7:here (setsA C.gs C.sets) w7:=(show here (C.pieces b) w7 from H.nth 0 rfl).nth 2 rfl;refine⟨λ w=>w=w7/\¬ (y.state:Int)≤s,aa (λ q=>by cases q) (λ _=>ptr_some ⟨y.state,?_,aa (λ q=>zl H λ w' H=>?_) (λ q=>⟨rfl,qE q⟩)⟩),λ _=>?_⟩
  ·rw[ac];exact dx ho hS7 hi hy (q:=1) (by omega) rfl
  ·rw[if_pos (qB q)];exact⟨rfl,H.post 0 rfl⟩
  rintro w10 ⟨rfl,hlt⟩;refine H.callq (Pw ho (H.nth 0 rfl) hi hy) λ w11 H=>⟨_,rfl,H.al λ k7 w12 H=>H.sts0 2 rfl (by simp [jp hyo]) rfl (dy _ _ _) λ w13 H=>?_⟩;have H:St W (af b C).own w13 (C.pieces b++[blk k zeroLine.toArray 167,blk k7 y.lineC.toArray 167]):=St.open_ H;have hS:here (setsA C.gs C.sets) w13:=H.nth 2 rfl;have hth:=mq ho hS hi hy (q:=1) (by omega);refine⟨λ w=>St W (af b C).own w ((C.lowered a j s.toNat).pieces b++[blk k zeroLine.toArray 167,blk k7 y.lineC.toArray 167]),ptr_some ⟨?_,?_,?_⟩,λ _=>?_⟩
  ·rw[ac];exact hth.1
  ·rw[ac];exact hth.2
  ·rintro w14 rfl;rw[ac]
   have hpw:=vy ho hS hi hy (q:=1) (by omega) (y':={ y with state:=s.toNat }) (v:=.int .i64 s) (by
    unfold Way.cells
    rw[show((s.toNat:Nat):Int)=s by omega];rfl)
   have H:=H.upd 2 rfl hpw;have hoC:(C.put (C.ix a) j { y with state:=s.toNat }).Ok:=Ei ho hi ⟨hyo.line,by show s.toNat≤3;omega,hyo.len,hyo.byte⟩;refine aa (λ q=>?_) (λ q=>?_)
   ·have q:s=0:=by simpa using q
    rintro vs12 rfl;have hS2:here (setsA (C.put (C.ix a) j { y with state:=s.toNat }).gs (C.put (C.ix a) j { y with state:=s.toNat }).sets) _:=H.nth 2 rfl
    have hjl2:j<((C.put (C.ix a) j { y with state:=s.toNat }).set_ (C.ix a)).length:=by rw[Bt ho hi,qJ];exact hjl
    refine ptr_some (adr_some ⟨rfl,vf hoC hS2 hi hjl2,Qd zeroWay,?_⟩);rintro w15 rfl;have H:=H.upd 2 rfl (Qc hoC hS2 hi hjl2 (y:=zeroWay) rfl)
    have e:C.lowered a j s.toNat=(C.put (C.ix a) j { y with state:=s.toNat }).put (C.ix a) j zeroWay:=by
     rw[Bz ho hi];unfold CS.lowered;rw[if_pos (by omega)]
    rw[e];exact H
   ·have q:¬ s=0:=by simpa using q
    have e:C.lowered a j s.toNat=C.put (C.ix a) j { y with state:=s.toNat }:=by unfold CS.lowered;rw[if_neg (by omega),ey]
    rw[e];exact H
  ·rintro w16 H
   have hsz:y.lineC.toArray.size=18:=by simp [jp hyo]
   have H:St W (af b C).own w16 (af b (C.lowered a j s.toNat)::[blk k zeroLine.toArray 167,blk k7 y.lineC.toArray 167]):=St.shut H;exact⟨_,hsz,H.cells 2 rfl,H.sts0 1 rfl hsz rfl (dy _ _ _) λ w17 H=>⟨_,hsz,H.cells 1 rfl,by rw[if_neg hlt];exact⟨rfl,H.post 0 rfl⟩⟩⟩
def pt (S N:Int):Prop:=(S=1∨S=2∨S=4∨S=8∨S=16)/\1≤N/\N≤4
instance (S N:Int):Decidable (pt S N):=inferInstanceAs (Decidable (_/\_))
def shapeC (S N:Int):AV:=#[.int .i64 S,.int .i64 N]
structure CS.Fresh (C:CS) (S N:Nat):Prop where
 ok:C.Ok
 s:C.S=S
 n:C.N=N
 sets:C.sets=List.replicate S (List.replicate N zeroWay)
 clock:C.clock=0
theorem Qf:∀ S:Nat,S≤16->1≤S->((S &&&(S - 1)=0)↔(S=1∨S=2∨S=4∨S=8∨S=16)):=by decide
theorem Vy (W:wD) (S N:Int) (h:¬ pt S N) :
  Calls prog 18 #[.agg (shapeC S N)] W λ e w=>e=eY #[.pointer none,errN 2]/\ba W w:=by
 refine amg _ ((St.nil W).al λ k w2 H=>⟨S,H.ld 0 rfl rfl,aa (λ _=>⟨rfl,H.touch⟩) (λ q1=>⟨S,H.ld 0 rfl rfl,aa (λ _=>⟨rfl,H.touch⟩) (λ q2=>?_)⟩)⟩);have q1:=qE q1;have q2:=qE q2;obtain⟨s,rfl⟩:∃ s:Nat,S=s:=⟨S.toNat,by omega⟩;refine⟨s,H.ld 0 rfl rfl,s,H.ld 0 rfl rfl,?_⟩;rintro z5 rfl z6 rfl;rw[w64 (e:=(s:Int) - 1) (by omega) (by omega),show((s:Int) - 1)=((s - 1:Nat):Int) by omega,Bits.land64 (by omega) (by omega)];refine aa (λ _=>⟨rfl,H.touch⟩) (λ q3=>?_)
 have q3:((s &&&(s - 1):Nat):Int)=0:=by simpa using q3
 refine⟨N,H.ld 0 rfl rfl,aa (λ _=>⟨rfl,H.touch⟩) (λ q4=>⟨N,H.ld 0 rfl rfl,aa (λ _=>⟨rfl,H.touch⟩) (λ q5=>?_)⟩)⟩;have q4:=qE q4;have q5:=qE q5;have:=(Qf s (by omega) (by omega)).1 (by omega);exact absurd (show pt (s:Int) N from ⟨by omega,by omega,by omega⟩) h
theorem Qg (W:wD) (S N:Nat) (h:pt S N) :
  Calls prog 18 #[.agg (shapeC S N)] W λ e w=>∃ x:{ x:Nat×CS // x.2.Fresh S N },e=eY #[pZ x.1.1 0,.nilIface]/\Sep.Post emp W (af x.1.1 x.1.2) w:=by
 obtain⟨hS,hN1,hN2⟩:=h
 have hpow:∃ s,s≤4/\S=2 ^ s:=by
  have:S=1∨S=2∨S=4∨S=8∨S=16:=by omega
  rcases this with rfl | rfl | rfl | rfl | rfl
  ·exact⟨0,by decide,rfl⟩
  ·exact⟨1,by decide,rfl⟩
  ·exact⟨2,by decide,rfl⟩
  ·exact⟨3,by decide,rfl⟩
  ·exact⟨4,by decide,rfl⟩
 refine amg _ ((St.nil W).al λ k w2 H=>⟨S,H.ld 0 rfl rfl,aa (λ q=>absurd (qB q) (by omega)) (λ _=>⟨S,H.ld 0 rfl rfl,aa (λ q=>absurd (qB q) (by omega)) (λ _=>?_)⟩)⟩);refine⟨S,H.ld 0 rfl rfl,S,H.ld 0 rfl rfl,?_⟩;rintro z5 rfl z6 rfl;rw[w64 (e:=(S:Int) - 1) (by omega) (by omega),show((S:Int) - 1)=((S - 1:Nat):Int) by omega,Bits.land64 (by omega) (by omega),(Qf S (by omega) (by omega)).2 (by omega)];refine aa (λ q=>by simp at q) (λ _=>⟨N,H.ld 0 rfl rfl,aa (λ q=>absurd (qB q) (by omega)) (λ _=>⟨N,H.ld 0 rfl rfl,aa (λ q=>absurd (qB q) (by omega)) (λ _=>?_)⟩)⟩);rintro vs rfl;refine H.al λ k2 w3 H=>⟨S,H.ld 0 rfl rfl,?_⟩;have e19:∀ n:Nat,madeCells #[.int .u32 0,.int .i64 0,.int .i64 0,.int .u8 0,.int .u8 0,.int .u8 0,.int .u8 0,.int .u8 0,.int .u8 0,.int .u8 0,.int .u8 0,.int .u8 0,.int .u8 0,.int .u8 0,.int .u8 0,.int .u8 0,.int .u8 0,.int .u8 0,.int .u8 0] (n * 19)=rows Way.cells (List.replicate n zeroWay):=λ n=>xh (f:=Way.cells) (x0:=zeroWay) rfl (by decide) n;have H0:St W (λ _=>False) w3 [blk k (shapeC S N) 30,blk k2 #[.slice none 0 0,.int .i64 0] 111]:=H;have H0:=H0.add (A:=sl 112 1 (.slice none 0 0) 0 []) ⟨Sl.nil _ _ _,qH _ _,λ q hq=>by cases hq⟩;have H0:=H0.add (A:=all (setsA [] [])) ⟨trivial,qH _ _,λ q hq=>hq.elim⟩;refine⟨λ x w=>∃ (m:Nat) (gs:LN) (p:OA) (c:Nat),x=m/\m≤S/\gs.length=m/\St W (λ _=>False) w [blk k (shapeC S N) 30,blk k2 #[.slice p m c,.int .i64 0] 111,sl 112 1 (.slice p m c) m (gs.map λ g=>.slice (some ⟨g,0,none⟩) N N),all (setsA gs (List.replicate m (List.replicate N zeroWay)))],λ x _=>S - x.toNat,⟨0,[],none,0,rfl,by omega,rfl,H0⟩,λ _=>?_⟩;clear H H0;rintro x w4 ⟨m,gs,p,c,rfl,hm,hgs,H⟩;refine aa (λ q=>?_) (λ q=>?_)
 ·have q:=qB q;refine H.dr λ w5 H=>⟨_,_,_,H.ld 1 rfl rfl,N,H.ld 0 rfl rfl,⟨by omega,by omega,by omega,by omega⟩,?_⟩;rw[qG,e19];refine H.alb λ k5 w6 H _ b6=>⟨b6,H.alb λ k6 w7 H _ b7=>⟨b6.trans (b7.mono b6.size),?_⟩⟩;refine H.app 2 rfl [.slice (some ⟨k5,0,none⟩) N N] (.inr ⟨_,rfl,λ j u hj=>H.cells 5 rfl j u (by simpa using hj)⟩) rfl (by intro u hu;simp at hu;subst hu;rfl) (by have:maxLen=2 ^ 63 - 1:=rfl;omega) (by omega) λ p2 k8 w8 H=>?_;refine H.st 1 rfl (by show 0<2;omega) λ w9 H=>?_;rintro z11 rfl;rw[w64 (by omega) (by omega)];refine⟨⟨m+1,gs++[k5],p2,k8,by omega,by omega,by simp [hgs],?_⟩,by show S - ((m:Int)+1).toNat<S - (m:Int).toNat;omega⟩;have H:St W (λ _=>False) w9 [all (setsA gs (List.replicate m (List.replicate N zeroWay))),acb k5 (List.replicate N zeroWay),blk k (shapeC S N) 30,blk k2 #[.slice p2 (m+1) k8,.int .i64 0] 111,sl 112 1 (.slice p2 (m+1) k8) (m+1) ((gs.map λ g=>.slice (some ⟨g,0,none⟩) N N)++[.slice (some ⟨k5,0,none⟩) N N])]:=H.pick [3,4,0,1,2];have H:=H.push
  have e1:setsA gs (List.replicate m (List.replicate N zeroWay))++[acb k5 (List.replicate N zeroWay)]=setsA (gs++[k5]) (List.replicate (m+1) (List.replicate N zeroWay)):=by
   unfold setsA;rw[List.replicate_succ',List.zipWith_append (by simp [hgs])];rfl
  have e2:(gs.map λ g=>Value.slice (some ⟨g,0,none⟩) N N)++[.slice (some ⟨k5,0,none⟩) N N]=(gs++[k5]).map λ g=>.slice (some ⟨g,0,none⟩) N N:=by simp
  rw[e1,e2] at H;exact H.pick [1,2,3,0]
 ·have q:=qE q;obtain rfl:m=S:=by omega
  have hsl:Sl w4 112 1 (.slice p m c) m (gs.map λ g=>.slice (some ⟨g,0,none⟩) N N):=H.nth 2 rfl;obtain⟨ao,cap,hv, -, -, -, -,hc⟩:=hsl.open1;cases hv;obtain⟨g,off,rfl, -, -⟩:=hc (by omega);refine⟨⟨(k2,⟨m,g,off,c,gs,N,List.replicate m (List.replicate N zeroWay),0⟩),⟨⟨hpow,hgs,by simp,by show 1≤N;omega,by show N≤4;omega,λ s hs=>by rw[(qSB.1 hs).2];simp,λ s hs y hy=>?_,by show 0<_;decide⟩,rfl,rfl,rfl,rfl⟩⟩,rfl,?_⟩
  ·rw[(qSB.1 hs).2] at hy;rw[(qSB.1 hy).2];exact zero_ok
  ·have H:St W (λ _=>False) w4 ((CS.mk m g off c gs N (List.replicate m (List.replicate N zeroWay)) 0).pieces k2++[]):=H.pick [1,2,3];exact(St.shut H).new 0 rfl
theorem sl_cells {w:wD}{e:TI}{size:Nat}{p:OA}{m c:Nat}{xs:LV} (h:Sl w e size (.slice p m c) m xs) (hm:0<m):m≤c/\∃ g o,p=some ⟨g,o,none⟩/\∀ j v,xs[j]?=some v->w.cell? ⟨g,o+j,none⟩=some v:=by
 obtain⟨hl,h⟩:=h;rcases h with ⟨-,rfl⟩ | ⟨g,off,cap,cur,hv,hb,h1,h2,h3,h4⟩
 ·omega
 ·cases hv;refine⟨h1,g,off,rfl,λ j v hj=>hb.cell' ?_⟩;have hjl:=(qD.1 hj).1;rw[<- h4] at hj;rw[<- qeB,<- hj,qa (by omega),qAB]
theorem adr_eq {p:OA}{g o:Nat}{f:Nat->Nat->Prop} (e:p=some ⟨g,o,none⟩) (h:f g o):Sx.adr p f:=by subst e;exact h
def bm (len L:Nat):Prop:=L % 16=0/\65536≤L/\L+16≤65536+len
structure CS.Good (C:CS) (len m:Nat):Prop where
 ok:C.Ok
 clk:C.clock≤m
 line:∀ s ∈ C.sets,∀ y ∈ s,y.state≠0->bm len y.line
theorem CS.Good.mono {C:CS}{len m m':Nat} (h:C.Good len m) (hm:m≤m'):C.Good len m':=⟨h.ok,qVB h.clk hm,h.line⟩
theorem vz {C:CS}{len m i j:Nat}{y:Way} (h:C.Good len m) (hi:i<C.S) (hy:y.Ok) (hl:y.state≠0->bm len y.line):(C.put i j y).Good len m:=by
 refine⟨Ei h.ok hi hy,h.clk,λ s hs z hz=>?_⟩;have hm:s ∈ C.sets∨s=(C.set_ i).set j y:=qZ hs;rcases hm with hm | rfl
 ·exact h.line s hm z hz
 ·rcases qZ hz with hz | rfl
  ·exact h.line _ (CS.set_mem h.ok hi) z hz
  ·exact hl
theorem xw {C:CS}{len m:Nat} (h:C.Good len m) (hm:m+1<4611686018427387904):C.tick.Good len (m+1):=⟨Bu h.ok (by have:=h.clk;omega),by show C.clock+1≤m+1;have:=h.clk;omega,h.line⟩
variable {C:CS}{W:wD}{b b2 len m:Nat}
def Way.valid (y:Way):Bool:=y.state !=0
theorem acf (ho:C.Ok) (a:Nat):(C.set_ (C.ix a))[C.vict a]?=some (C.vway a):=by
 have hi:=ho.ix_lt a;have hN:(C.set_ (C.ix a)).length=C.N:=ho.len _ (CS.set_mem ho hi);have hn:=ho.n0;have hv:C.vict a<(C.set_ (C.ix a)).length:=Je (by omega) C.N (by omega);unfold CS.vway;rw[qF,qC hv];rfl
def errV (n:Nat):Value:=if n=0 then .nilIface else errN n
def CS.wayOf (C:CS) (a:Nat):Way:=match C.look a with | some j=>(C.set_ (C.ix a)).getD j default | none=>zeroWay
theorem wayOf_at {a j:Nat} (h:C.look a=some j):(C.set_ (C.ix a))[j]?=some (C.wayOf a)/\(C.wayOf a).state≠0/\(C.wayOf a).line=a / 16 * 16/\C.stateAt a=(C.wayOf a).state:=by
 obtain⟨y,h1,h2,h3⟩:=look_some h
 have e:C.wayOf a=y:=by unfold CS.wayOf;rw[h];show(C.set_ (C.ix a)).getD j default=y;rw[qF,h1];rfl
 have e2:C.stateAt a=y.state:=by
  unfold CS.stateAt;rw[h];simp only[qF,h1];rfl
 rw[e];exact⟨h1,h2,h3,e2⟩
theorem Af {a:Nat} (h:C.look a=none):C.stateAt a=0:=by unfold CS.stateAt;rw[h]
theorem wayOf_ok (h:C.Good len m){a j:Nat} (hj:C.look a=some j):(C.wayOf a).Ok/\bm len (C.wayOf a).line:=by
 obtain⟨h1,h2, -⟩:=wayOf_at hj;have hm:=CS.set_mem h.ok (h.ok.ix_lt a);exact⟨h.ok.way _ hm _ (qN h1),h.line _ hm _ (qN h1) h2⟩
def CS.readN (C:CS) (a:Nat) (sz:Int):CS:=match C.hit a sz 1 with | some j=>C.touched (C.ix a) j | none=>C
def CS.readV (C:CS) (a:Nat) (sz:Int):Nat:=match C.hit a sz 1 with | some j=>C.val a sz j | none=>0
def CS.readT (C:CS) (a:Nat) (sz:Int):Bool:=(C.hit a sz 1).isSome
theorem hit_look {a:Nat}{sz:Int}{l j:Nat} (h:C.hit a sz l=some j):C.look a=some j:=by
 unfold CS.hit at h;split at h
 ·exact h
 ·cases h
theorem agj (h:C.Good len m) (hm:m+1<4611686018427387904) (hA:(af b C).at_ W) (a:Nat) (ha:a<4294967296) (sz:Int) :
  Calls prog 211 #[pZ b 0,.int .u32 a,.int .i64 sz] W λ e w=>e=eY #[.int .u32 (C.readV a sz),.bool (C.readT a sz)]/\Sep.Post (af b C) W (af b (C.readN a sz)) w:=by
 refine(read_any h.ok (by have:=h.clk;omega) hA a ha sz).mono λ e w hp=>?_;unfold Bw at hp;unfold CS.readV CS.readT CS.readN
 cases hh:C.hit a sz 1 with
 | none=>rw[hh] at hp;exact hp
 | some j=>rw[hh] at hp;exact hp
theorem Lz (h:C.Good len m) (hm:m+1<4611686018427387904) (a:Nat) (sz:Int):(C.readN a sz).Good len (m+1):=by
 unfold CS.readN
 cases hh:C.hit a sz 1 with
 | none=>exact h.mono (by omega)
 | some j =>
  obtain⟨h1,h2, -, -⟩:=wayOf_at (hit_look hh);obtain⟨g1,g2⟩:=wayOf_ok h (hit_look hh);show(C.touched (C.ix a) j).Good len (m+1);rw[gt h1];exact vz (xw h hm) (h.ok.ix_lt a) ⟨g1.line,g1.state,g1.len,g1.byte⟩ (λ _=>g2)
def CS.writeN (C:CS) (a:Nat) (sz:Int) (d:Nat):CS:=match C.hit a sz 2 with | some j=>C.wrote a sz d j | none=>C
def CS.writeT (C:CS) (a:Nat) (sz:Int):Bool:=(C.hit a sz 2).isSome
theorem acg (h:C.Good len m) (hm:m+1<4611686018427387904) (hA:(af b C).at_ W) (a:Nat) (ha:a<4294967296) (sz:Int) (d:Nat) (hd:d<4294967296) :
  Calls prog 124 #[pZ b 0,.int .u32 a,.int .i64 sz,.int .u32 d] W λ e w=>e=eZ (.bool (C.writeT a sz))/\Sep.Post (af b C) W (af b (C.writeN a sz d)) w:=by
 refine(Qb h.ok (by have:=h.clk;omega) hA a ha sz d hd).mono λ e w hp=>?_;unfold xv at hp;unfold CS.writeT CS.writeN
 cases hh:C.hit a sz 2 with
 | none=>rw[hh] at hp;exact hp
 | some j=>rw[hh] at hp;exact hp
theorem Vz {a j d:Nat}{sz:Int}{y:Way} (h:(C.set_ (C.ix a))[j]?=some y):C.wrote a sz d j=C.tick.put (C.ix a) j { y with used:=C.clock+1,state:=3,bytes:=wrN y.bytes (a % 16) d sz.toNat }:=by unfold CS.wrote;rw[h]
theorem Hf (h:C.Good len m) (hm:m+1<4611686018427387904) (a:Nat) (sz:Int) (d:Nat):(C.writeN a sz d).Good len (m+1):=by
 unfold CS.writeN
 cases hh:C.hit a sz 2 with
 | none=>exact h.mono (by omega)
 | some j =>
  obtain⟨h1,h2, -, -⟩:=wayOf_at (hit_look hh);obtain⟨g1,g2⟩:=wayOf_ok h (hit_look hh);show(C.wrote a sz d j).Good len (m+1);rw[Vz h1];exact vz (xw h hm) (h.ok.ix_lt a) ⟨g1.line,by show 3≤3;decide,by show(wrN _ _ _ _).length=16;rw[He];exact g1.len,Bx g1.byte _ _ _⟩ (λ _=>g2)
def CS.lowN (C:CS) (a s:Nat):CS:=match C.look a with | some j=>if s<C.stateAt a then C.lowered a j s else C | none=>C
def CS.lowY (C:CS) (a s:Nat):Way:=if s<C.stateAt a then C.wayOf a else zeroWay
def CS.lowE (C:CS) (a s:Nat):Nat:=if s<C.stateAt a then 0 else 7
theorem Qh (h:C.Good len m) (hA:(af b C).at_ W) (a:Nat) (ha:a<4294967296) (h16:a % 16=0) (s:Nat) (hs:s≤2) :
  Calls prog 50 #[pZ b 0,.int .u32 a,.int .i64 s] W λ e w=>e=eY #[.agg (C.lowY a s).lineC.toArray,errV (C.lowE a s)]/\Sep.Post (af b C) W (af b (C.lowN a s)) w:=by
 refine(Qe h.ok hA a ha s).mono λ e w hp=>?_;unfold ku at hp;rw[if_neg (by omega)] at hp;unfold CS.lowN CS.lowY CS.lowE
 cases hl:C.look a with
 | none =>
  rw[hl] at hp;rw[Af hl,if_neg (by omega),if_neg (by omega)];exact hp
 | some j =>
  rw[hl] at hp;dsimp only at hp ⊢;by_cases q:s<C.stateAt a
  ·rw[if_neg (by omega)] at hp;rw[if_pos q,if_pos q,if_pos q];unfold CS.wayOf;rw[hl];exact hp
  ·rw[if_pos (by omega)] at hp;rw[if_neg q,if_neg q,if_neg q];exact hp
theorem sj (h:C.Good len m) (a s:Nat) (hs:s≤2):(C.lowN a s).Good len m:=by
 unfold CS.lowN
 cases hl:C.look a with
 | none=>exact h
 | some j =>
  dsimp only;split
  ·obtain⟨h1,h2, -, -⟩:=wayOf_at hl;obtain⟨g1,g2⟩:=wayOf_ok h hl
   have ey:(C.set_ (C.ix a)).getD j default=C.wayOf a:=by rw[qF,h1];rfl
   unfold CS.lowered;rw[ey];refine vz h (h.ok.ix_lt a) ?_ ?_
   ·split
    ·exact zero_ok
    ·exact⟨g1.line,by show s≤3;omega,g1.len,g1.byte⟩
   ·split
    ·intro e;exact absurd rfl e
    ·exact λ _=>g2
  ·exact h
def CS.fillN (C:CS) (a:Nat) (bs:LN) (s:Nat):CS:=if (C.look a).isSome then C else C.filled a bs s
def CS.goneOf (C:CS) (a:Nat):Way:=if (C.look a).isSome then zeroWay else if (C.vway a).state≠0 then C.vway a else zeroWay
def CS.fillE (C:CS) (a:Nat):Nat:=if (C.look a).isSome then 7 else 0
theorem agk (h:C.Good len m) (hm:m+1<4611686018427387904) (hA:(af b C).at_ W) (a:Nat) (ha:a<4294967296) (h16:a % 16=0) (bs:LN) (hb:bs.length=16) (hb2:∀ x ∈ bs,x<256) (s:Nat) (h1:1≤s) (h3:s≤3) :
  Calls prog 51 #[pZ b 0,.int .u32 a,.agg (u8n bs).toArray,.int .i64 s] W λ e w=>e=eY #[.agg (C.goneOf a).lineC.toArray,.bool (decide ((C.goneOf a).state≠0)),errV (C.fillE a)]/\Sep.Post (af b C) W (af b (C.fillN a bs s)) w:=by
 refine(Vx h.ok (by have:=h.clk;omega) hA a ha bs hb hb2 s).mono λ e w hp=>?_;unfold ob at hp;rw[if_neg (by omega)] at hp;unfold CS.goneOf CS.fillN CS.fillE;by_cases q:(C.look a).isSome=true
 ·rw[if_pos q] at hp;rw[if_pos q,if_pos q,if_pos q];exact hp
 ·rw[if_neg q] at hp;rw[if_neg q,if_neg q,if_neg q];by_cases q2:(C.vway a).state≠0
  ·rw[if_pos q2] at hp;rw[if_pos q2];exact hp
  ·rw[if_neg q2] at hp;rw[if_neg q2]
   have e0:(C.vway a).state=0:=by omega
   rw[e0] at hp;exact hp
theorem xx (h:C.Good len m) (a:Nat):(C.goneOf a).Ok/\((C.goneOf a).state≠0->bm len (C.goneOf a).line):=by
 unfold CS.goneOf;have hm:=CS.set_mem h.ok (h.ok.ix_lt a);have hv:=qN (acf h.ok a);split
 ·exact⟨zero_ok,λ e=>absurd rfl e⟩
 ·split
  ·exact⟨h.ok.way _ hm _ hv,h.line _ hm _ hv⟩
  ·exact⟨zero_ok,λ e=>absurd rfl e⟩
theorem Qi (h:C.Good len m) (a s:Nat):(C.lowY a s).Ok/\((C.lowY a s).state≠0->bm len (C.lowY a s).line):=by
 unfold CS.lowY;split
 ·cases hl:C.look a with
  | none=>rename_i q;rw[Af hl] at q;omega
  | some j=>have:=wayOf_ok h hl;exact⟨this.1,λ _=>this.2⟩
 ·exact⟨zero_ok,λ e=>absurd rfl e⟩
theorem Ma (h:C.Good len m) (hm:m+1<4611686018427387904){a:Nat} (ha:a<4294967296) (hl:bm len a){bs:LN} (hb:bs.length=16) (hb2:∀ x ∈ bs,x<256){s:Nat} (h3:s≤3):(C.fillN a bs s).Good len (m+1):=by
 unfold CS.fillN;split
 ·exact h.mono (by omega)
 ·exact vz (xw h hm) (h.ok.ix_lt a) ⟨ha,h3,hb,hb2⟩ (λ _=>hl)
end Go.Proofs.YtmncepdbglaphaaGreatDoor.cbus
