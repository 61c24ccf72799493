/- proofs -/
import Derived.Test.YtojogkljneonmaaGreatDoorSx
import Derived.Laws.BytesString
set_option linter.unusedVariables false
set_option linter.unusedSimpArgs false
namespace Go.Sx
open Go.RowKit Go.XHeap
structure Is (D:List Deferred) (n:Nat) (F:Fr) (a:Act):Prop where
 size:a.tmps.size=n
 defers:a.defers=D
 at_:∀ t,a.tmps.getD t undef=F.get t
variable {D:List Deferred}
theorem Is.eval {n:Nat}{F:Fr}{a:Act} (h:Is D n F a):a.eval=ev F:=by
 funext x
 cases x with
 | tmp t=>exact h.at_ t
 | _=>rfl
theorem ud (u:Nat) (v:Value) (l:List (Nat×Value)) (f:Nat->Value) (t:Nat):look ((u,v)::l) f t=if u=t then v else look l f t:=by
 show(bif Nat.beq u t then v else look l f t)=_;by_cases h:u=t
 ·subst h;rw[Nat.beq_refl,if_pos rfl];rfl
 ·have:Nat.beq u t=false:=by
   cases hb:Nat.beq u t with
   | false=>rfl
   | true=>exact absurd (Nat.eq_of_beq_eq_true hb) h
  rw[this,if_neg h];rfl
theorem Mf (a:Array Value) (d t:Nat) (v:Value):(a.setIfInBounds d v).getD t undef=if d=t/\d<a.size then v else a.getD t undef:=by
 simp only[Array.getD_eq_getD_getElem?,Array.getElem?_setIfInBounds];by_cases h:d=t
 ·subst h;by_cases h2:d<a.size
  ·simp [h2]
  ·simp [h2]
 ·simp [h]
theorem Is.put {n:Nat}{F:Fr}{a:Act} (h:Is D n F a) (d:Option Tmp) (v:Value):Is D n (F.put n d v) (a.put d v):=by
 cases d with
 | none=>exact h
 | some d =>
  unfold Fr.put Act.put;refine⟨?_,?_,?_⟩
  ·simpa using h.size
  ·exact h.defers
  ·intro t;show(a.tmps.setIfInBounds d v).getD t undef=_;rw[Mf,h.size,h.at_ t];show _=(bif Nat.blt d n then (⟨(d,v)::F.l,F.f⟩:Fr) else F).get t;by_cases hd:d<n
   ·have hb:Nat.blt d n=true:=Nat.ble_eq_true_of_le hd;rw[hb];show _=look ((d,v)::F.l) F.f t;rw[ud];by_cases e:d=t
    ·rw[if_pos ⟨e,hd⟩,if_pos e]
    ·rw[if_neg (λ q=>e q.1),if_neg e];rfl
   ·have hb:Nat.blt d n=false:=by
     cases hq:Nat.blt d n with
     | false=>rfl
     | true=>exact absurd (Nat.le_of_ble_eq_true hq) hd
    rw[hb,if_neg (λ q=>hd q.2)];rfl
theorem Is.know {n:Nat}{F:Fr}{a:Act} (h:Is D n F a){x:Operand}{b:Bool} (hx:ev F x= .bool b):Is D n (F.know x b) a:=by
 cases x with
 | tmp t =>
  refine⟨h.size,h.defers,λ u=>?_⟩;show _=look ((t,.bool b)::F.l) F.f u;rw[ud];by_cases e:t=u
  ·subst e;rw[if_pos rfl,h.at_];exact hx
  ·rw[if_neg e];exact h.at_ u
 | _=>exact h
theorem Sh.ex_some {s:Sh}{φ:Value->Prop} (h:s.ex φ):∃ v,φ v:=by
 cases s <;> simp only[Sh.ex] at h
 case slice=>obtain⟨p,n,c,h⟩:=h;exact⟨_,h⟩
 all_goals (obtain⟨x,h⟩:=h;exact⟨_,h⟩)
theorem ptr_some {p:Option Addr}{k:Addr->Prop} (h:ptr p k):∃ a,p=some a/\k a:=by
 cases p with
 | none=>exact h.elim
 | some a=>exact⟨a,rfl,h⟩
theorem adr_some {p:Option Addr}{k:Nat->Nat->Prop} (h:adr p k):∃ g o,p=some ⟨g,o,none⟩/\k g o:=by
 unfold adr at h;split at h
 ·exact⟨_,_,rfl,h⟩
 ·exact h.elim
theorem au {v:Value}{k:IntKind->Int->Prop} (h:asInt v k):∃ κ x,v= .int κ x/\k κ x:=by
 cases v <;> first | exact⟨_,_,rfl,h⟩ | exact h.elim
theorem yr {v:Value}{k:Bool->Prop} (h:asBool v k):∃ b,v= .bool b/\k b:=by
 cases v <;> first | exact⟨_,rfl,h⟩ | exact h.elim
theorem ir {v:Value}{k:Option Addr->Prop} (h:Jx v k):∃ p,v= .pointer p/\k p:=by
 cases v <;> first | exact⟨_,rfl,h⟩ | exact h.elim
theorem cj {v:Value}{k:Option Addr->Nat->Nat->Prop} (h:jl v k):∃ p n c,v= .slice p n c/\k p n c:=by
 cases v <;> first | exact⟨_,_,_,rfl,h⟩ | exact h.elim
theorem ne {v:Value}{k:Array Value->Prop} (h:asAgg v k):∃ vs,v= .agg vs/\k vs:=by
 cases v <;> first | exact⟨_,rfl,h⟩ | exact h.elim
theorem Mg {v:Value}{k:Prop} (h:one v k):v.oneCell'=true/\v.cells=#[v]/\k:=by
 cases v <;> first | exact⟨rfl,rfl,h⟩ | exact h.elim
theorem rk {b:Bool}{y n:Prop} (h:split b y n):(b=true/\y)∨(b=false/\n):=by
 cases b
 ·exact .inr ⟨rfl,h⟩
 ·exact .inl ⟨rfl,h⟩
theorem Ob {v:Value}{k:Bool->Prop} (h:isNil v k):(v= .nilIface/\k true)∨(∃ t x,v= .iface t x/\k false):=by
 cases v <;> first | exact .inl ⟨rfl,h⟩ | exact .inr ⟨_,_,rfl,h⟩ | exact h.elim
theorem ql {P:Program}{α:Type}:∀ (s:Sem α){x:α},qi P s=some x->∀ w:World,s.run P w= .ok x w
 | .pure a,x,h,w=>by simp only[qi,Option.some.injEq] at h;subst h;rfl
 | .program k,x,h,w=>by simp only[qi] at h;exact ql (k P) h w
 | .mark m k,x,h,w=>by simp only[qi] at h;exact ql k h w
 | .load ..,x,h,w | .store ..,x,h,w | .new ..,x,h,w | .shape ..,x,h,w | .freeze ..,x,h,w | .frozen ..,x,h,w | .getObj ..,x,h,w | .setObj ..,x,h,w | .choose ..,x,h,w | .sys ..,x,h,w | .halt ..,x,h,w=>by simp [qi] at h
theorem yu {P:Program}{s:Sem Next}{k:Value->Prop} (h:ua P s k):∃ v,(∀ w:World,s.run P w= .ok (.value v) w)/\k v:=by
 unfold ua at h;split at h
 ·rename_i v hv;exact⟨v,ql s hv,h⟩
 ·exact h.elim
theorem Keeps.refl (w:World):Keeps w w:=⟨λ _ _ h=>h,λ _ _ _ h=>h,λ _ _=>rfl,λ _ _ h=>h⟩
theorem Kc (w:World) (m:Nat):Keeps w (w.drewN m):=⟨λ _ _ h=>h,λ _ _ _ h=>h,λ _ _=>rfl,λ _ _ h=>h⟩
theorem Kd {w w':World} (h:Below w.heap.size w w'):Keeps w w':=⟨λ p v hp=>by rw[h.cell (World.block_lt_of_cell? _ _ hp)];exact hp,λ b es c hb=>by rw[h.block b (Array.getElem?_eq_some_iff.1 hb).1];exact hb,λ p hp=>by unfold World.frozen?;rw[h.block p.block hp],λ b o hb=>by rw[h.block b (Array.getElem?_eq_some_iff.1 hb).1];exact hb⟩
theorem Bo {s:Sh}{w:World}{a:Addr}{k:Value->Prop} (h:ub s w a k):∃ v,w.cell? a=some v/\k v/\(match s with | .agg=>False | _=>True):=by
 cases s <;> simp only[ub] at h
 case slice=>obtain⟨p,n,c,h1,h2⟩:=h;exact⟨_,h1,h2,trivial⟩
 all_goals (obtain⟨x,h1,h2⟩:=h;exact⟨_,h1,h2,trivial⟩)
def agu:TypeDesc->Bool | .struct _ | .array _ _=>true | _=>false
theorem Dv {P:Program}{t:TypeId}:(ob P t= .agg/\∃ d,P.underlying t=some d/\agu d=true)∨(ob P t≠ .agg/\∀ d,P.underlying t=some d->agu d=false):=by
 unfold ob
 cases h:P.underlying t with
 | none=>exact .inr ⟨by simp,λ d hd=>by cases hd⟩
 | some d =>
  cases d <;> first
   | exact .inl ⟨rfl,_,rfl,rfl⟩
   | exact .inr ⟨by simp,λ d hd=>by cases hd;rfl⟩
theorem ue {P:Program}{t:TypeId}{d:TypeDesc} (h:P.underlying t=some d) (w:World):(isAgg t).run P w= .ok (agu d) w:=by
 unfold isAgg;rw[Sem.run_bind,run_underlying h w];cases d <;> rfl
theorem qm {P:Program}{t:TypeId}{i:TypeInfo} (h:P.info? t=some i):P.cellsOf t=i.size:=by simp [Program.cellsOf,h]
theorem cm {P:Program}{t:TypeId}{i:TypeInfo} (h:P.info? t=some i) (w:World):(sizeOf t).run P w= .ok (P.cellsOf t) w:=by
 rw[qm h];simp [sizeOf,typeInfo,program,Sem.run_bind,Sem.run,h]
theorem uf {P:Program}{t:TypeId}{d:TypeDesc} (h:P.underlying t=some d):∃ i,P.info? t=some i:=by
 cases hi:P.info? t with
 | some i=>exact⟨i,rfl⟩
 | none=>simp [Program.underlying,hi] at h
theorem Ke {P:Program}{t:TypeId}{a:Addr}{w:World}{k:Value->Prop} (d:TypeDesc) (hd:P.underlying t=some d)
  (h:match ob P t with | .agg=>∃ vs:Array Value,vs.size=P.cellsOf t/\cellsAt w a vs/\k (.agg vs) | s=>ub s w a k) :
  ∃ v,(∀ w',Keeps w w'->(loadVar t a).run P w'= .ok v w')/\k v:=by
 obtain⟨i,hi⟩:=uf hd;rcases Dv (P:=P) (t:=t) with ⟨h1,d',hd',hagg⟩ | ⟨h1,hagg⟩
 ·rw[h1] at h;obtain⟨vs,hs,hc,hk⟩:=h;obtain rfl:d=d':=by rw[hd] at hd';exact Option.some.inj hd'
  refine⟨_,λ w' hkp=>?_,hk⟩;unfold loadVar;rw[Sem.run_bind,ue hd,hagg]
  have hl:=run_loadCells_list (P:=P) w' a vs.toList (λ j v hv=>by
   have:=hc j v (by simpa using hv)
   exact hkp.1 _ _ this)
  simp [Sem.run_bind,cm hi,<- hs];simp at hl;rw[hl];rfl
 ·have h2:∃ v,w.cell? a=some v/\k v:=by
   generalize hs:ob P t=s at h h1
   cases s <;> first
    | exact absurd rfl h1
    | (obtain⟨v,q1,q2, -⟩:=Bo h;exact⟨v,q1,q2⟩)
  obtain⟨v,hc,hk⟩:=h2;refine⟨v,λ w' hkp=>?_,hk⟩;unfold loadVar;rw[Sem.run_bind,ue hd,hagg d hd];have hc':w'.cell? a=some v:=hkp.1 _ _ hc;simp [hc']
theorem Gp {P:Program}{t:TypeId}{v:Value}{w:World}{k:Value->Prop} (h:Mc P t v w k):∃ u,(∀ w',Keeps w w'->(Instr.loadAt t v).run P w'= .ok u w')/\k u:=by
 obtain⟨p,e1,h1⟩:=ir h;obtain⟨a,e2,h2⟩:=ptr_some h1;subst e1 e2;clear h h1
 cases hd:P.underlying t with
 | none=>rw[hd] at h2;exact h2.elim
 | some d =>
  rw[hd] at h2;obtain⟨u,q1,q2⟩:=Ke d hd h2;refine⟨u,λ w' hkp=>?_,q2⟩;simp [Instr.loadAt,Instr.sureAddr,Sem.run_bind,q1 w' hkp]
theorem Gq {P:Program}{t:TypeId}{x:Value}{w:World} (vs:Array Value) (g o:Nat) (hx:x.cells=vs) (hs:vs.size=P.cellsOf t) (h0:∃ i,P.info? t=some i) (hc:∀ j:Nat,j<P.cellsOf t->(∃ u,w.cell? ⟨g,o+j,none⟩=some u)/\w.frozen? ⟨g,o+j,none⟩=false) (h1:∀ v ∈ vs.toList,v.oneCell'=true) :
  (Instr.storeAt t (.pointer (some ⟨g,o,none⟩)) x).run P w= .ok () (w.setCells g o vs.toList):=by
 obtain⟨i,hi⟩:=h0
 have:=run_storeCells_cells (P:=P) g o vs.toList 0 w (λ j hj=>by
  obtain⟨⟨u,hu⟩, -⟩:=hc j (by simp at hj;omega)
  simp [hu]) (λ j hj=>by simpa using (hc j (by simp at hj;omega)).2) h1
 simp [Instr.storeAt,Instr.sureAddr,storeVar,Sem.run_bind,cm hi,hx,hs];simpa using this
theorem Od {P:Program}{t:TypeId}{v x:Value}{w:World}{k:World->Prop} (h:Qq P t v x w k):∃ w',(Instr.storeAt t v x).run P w= .ok () w'/\k w':=by
 obtain⟨p,e1,h1⟩:=ir h;obtain⟨a,e2,h2⟩:=ptr_some h1;subst e1 e2;clear h h1
 have one_case:∀ (h3:bif Nat.beq (P.cellsOf t) 1 then one x ((∃ u,w.cell? a=some u)/\w.frozen? a=false/\∀ w':World,w'=w.setCell a x->k w') else False),∃ w',(Instr.storeAt t (.pointer (some a)) x).run P w= .ok () w'/\k w':=by
  intro h3
  cases hb:Nat.beq (P.cellsOf t) 1 with
  | false=>rw[hb] at h3;exact h3.elim
  | true =>
   rw[hb] at h3;have hsz:=Nat.eq_of_beq_eq_true hb;obtain⟨q1,q2,⟨u,hu⟩,q3,q4⟩:=Mg h3;refine⟨_,?_,q4 _ rfl⟩
   have h0:∃ i,P.info? t=some i:=by
    cases hi:P.info? t with
    | some i=>exact⟨i,rfl⟩
    | none=>simp [Program.cellsOf,hi] at hsz
   have hsp:a.spot=none:=World.cell?_spot hu;obtain⟨g,o,sp⟩:=a;obtain rfl:sp=none:=hsp
   have:=Gq (P:=P) (t:=t) (x:=x) (w:=w) #[x] g o q2 (by simp [hsz]) h0 (λ j hj=>by
    obtain rfl:j=0:=by omega
    exact⟨⟨u,hu⟩,q3⟩) (by simp [q1])
   exact this
 generalize hsh:ob P t=s at h2;cases s
 case agg =>
  obtain⟨g,o,e,h3⟩:=adr_some h2;obtain⟨vs,e2,hs,hc,h1,hk⟩:=ne h3;cases e;subst e2;refine⟨_,?_,hk _ rfl⟩;rcases Dv (P:=P) (t:=t) with ⟨-,d,hd, -⟩ | ⟨hn, -⟩
  ·exact Gq vs g o rfl hs (uf hd) hc h1
  ·exact absurd hsh hn
 all_goals exact one_case h2
def Kf (P:Program) (s:Sem Next) (w:World) (v:Value):Prop:=∀ w',Keeps w w'->s.run P w'= .ok (.value v) w'
theorem fm {κ:IntKind}{e:Int}{k:Value->Prop} (h:named κ e k):k (.int κ e):=h e rfl
theorem aay {c:Bool}{A B:Prop} (h:bif c then A else B):(c=true/\A)∨B:=by
 cases c
 ·exact .inr h
 ·exact .inl ⟨rfl,h⟩
theorem ap {b:Bool}{p:Prop} (h:bif b then p else False):b=true/\p:=by
 cases b
 ·exact h.elim
 ·exact⟨rfl,h⟩
theorem ct {op:BinOp} (h1:op≠ .eql) (h2:op≠ .neq) (t:TypeId) (x y:Operand) (a b:Value):eqGuard op t x y a b=pure ():=by
 cases op <;> first | exact absurd rfl h1 | exact absurd rfl h2 | rfl
theorem Kg (op:BinOp) (t:TypeId) (x y:Operand) (a b:Option Addr):eqGuard op t x y (.pointer a) (.pointer b)=pure ():=by
 cases op <;> rfl
theorem Dw (op:BinOp) (t:TypeId) (x y:Operand) (a b:Option Addr) (n c n' c':Nat):eqGuard op t x y (.slice a n c) (.slice b n' c')=pure ():=by
 cases op <;> rfl
theorem yw (op:BinOp) (t:TypeId) (x y:Operand) (h:Qn y=true) (v:Value):eqGuard op t x y v .nilIface=pure ():=by
 cases y <;> first | (cases h;done) | skip
 cases op <;> cases v <;> first | rfl | (cases x <;> rfl)
theorem Gr {P:Program}{t e:TypeId} (h:P.underlying t=some (.pointer e)) (p:Option Addr) (w:World):(Op.equal t (.pointer p) (.pointer none)).run P w= .ok p.isNone w:=by
 unfold Op.equal;rw[show Op.maxDepth=9999+1 from rfl];unfold Op.equalIn;rw[Sem.run_bind,run_underlying h];cases p <;> rfl
theorem yx {P:Program}{t e:TypeId} (h:P.underlying t=some (.slice e)) (p:Option Addr) (n c n' c':Nat) (w:World):(Op.equal t (.slice p n c) (.slice none n' c')).run P w= .ok p.isNone w:=by
 unfold Op.equal;rw[show Op.maxDepth=9999+1 from rfl];unfold Op.equalIn;rw[Sem.run_bind,run_underlying h];cases p <;> rfl
theorem Gs {P:Program}{t:TypeId} {ms} (h:P.underlying t=some (.interface ms)) (w:World):(Op.equal t .nilIface .nilIface).run P w= .ok true w:=by
 unfold Op.equal;rw[show Op.maxDepth=9999+1 from rfl];unfold Op.equalIn;rw[Sem.run_bind,run_underlying h];rfl
theorem yy {P:Program}{t:TypeId} {ms} (h:P.underlying t=some (.interface ms)) (u:TypeId) (x:Value) (w:World):(Op.equal t (.iface u x) .nilIface).run P w= .ok false w:=by
 unfold Op.equal;rw[show Op.maxDepth=9999+1 from rfl];unfold Op.equalIn;rw[Sem.run_bind,run_underlying h];rfl
def Jv (op:BinOp) (t:TypeId) (ox oy:Operand) (x y:Value):Sem Value:=do eqGuard op t ox oy x y;binOp op t x y
theorem Qy {P:Program}{op:BinOp}{t:TypeId}{ox oy:Operand}{x y:Value}{pos:Bool}{k:Value->Prop}{dflt:Prop} (hop:(op= .eql/\pos=true)∨(op= .neq/\pos=false)) (h:agk P op t ox oy x y pos k dflt) :
  dflt∨∃ v,(∀ w,(Jv op t ox oy x y).run P w= .ok v w)/\k v:=by
 unfold agk at h;split at h
 ·split at h
  ·rename_i ms hm;obtain⟨hc,h⟩:=ap h;rcases Ob h with ⟨e,hk⟩ | ⟨u,z,e,hk⟩
   ·subst e;refine .inr ⟨_,λ w=>?_,hk⟩;unfold Jv;rw[yw _ _ _ _ hc];rcases hop with ⟨rfl,rfl⟩ | ⟨rfl,rfl⟩
    ·simp [binOp,Sem.run_bind,Gs hm]
    ·simp [binOp,Sem.run_bind,Gs hm]
   ·subst e;refine .inr ⟨_,λ w=>?_,hk⟩;unfold Jv;rw[yw _ _ _ _ hc];rcases hop with ⟨rfl,rfl⟩ | ⟨rfl,rfl⟩
    ·simp [binOp,Sem.run_bind,yy hm]
    ·simp [binOp,Sem.run_bind,yy hm]
  ·exact h.elim
 ·obtain⟨p,rfl,h⟩:=ir h;split at h
  ·rename_i e he;unfold Qm at h;split at h
   rotate_left
   ·exact h.elim
   refine .inr ⟨_,λ w=>?_,h⟩;unfold Jv;rw[Kg];rcases hop with ⟨rfl,rfl⟩ | ⟨rfl,rfl⟩
   ·simp [binOp,Sem.run_bind,Gr he]
   ·simp [binOp,Sem.run_bind,Gr he]
  ·exact h.elim
 ·obtain⟨p,n,c,rfl,h⟩:=cj h;split at h
  ·rename_i e he;refine .inr ⟨_,λ w=>?_,h⟩;unfold Jv;rw[Dw];rcases hop with ⟨rfl,rfl⟩ | ⟨rfl,rfl⟩
   ·simp [binOp,Sem.run_bind,yx he]
   ·simp [binOp,Sem.run_bind,yx he]
  ·exact h.elim
 ·obtain⟨xs,rfl,b,h1,h2⟩:=ne h;exact .inr ⟨_,h1,h2⟩
 ·exact .inl h
theorem Wt {P:Program}{op:BinOp}{t:TypeId}{ox oy:Operand}{x y:Value}{k:Value->Prop}{dflt:Prop} (h:Qo P op t ox oy x y k dflt) :
  dflt∨∃ v,(∀ w,(Jv op t ox oy x y).run P w= .ok v w)/\k v:=by
 unfold Qo at h;split at h
 case h_12=>exact Qy (.inl ⟨rfl,rfl⟩) h
 case h_13=>exact Qy (.inr ⟨rfl,rfl⟩) h
 case h_14=>exact .inl h
 case h_10 =>
  obtain⟨κ,a,rfl,h1⟩:=au h;obtain⟨κ',b,rfl,hb,h2⟩:=au h1;refine .inr ⟨_,λ w=>?_,fm h2⟩;unfold Jv;rw[ct (by simp) (by simp)];simp [binOp,Op.shift,show ¬ b<0 by omega]
 case h_11 =>
  obtain⟨κ,a,rfl,h1⟩:=au h;obtain⟨κ',b,rfl,hb,h2⟩:=au h1;refine .inr ⟨_,λ w=>?_,fm h2⟩;unfold Jv;rw[ct (by simp) (by simp)];simp [binOp,Op.shift,show ¬ b<0 by omega]
 case h_4 =>
  obtain⟨κ,a,rfl,h1⟩:=au h;obtain⟨κ',b,rfl,h2⟩:=au h1;obtain⟨e,hb,h3⟩:=ap h2;obtain rfl:=of_decide_eq_true e;refine .inr ⟨_,λ w=>?_,fm h3⟩;unfold Jv;rw[ct (by simp) (by simp)];simp [binOp,Op.intDiv,hb]
 case h_5 =>
  obtain⟨κ,a,rfl,h1⟩:=au h;obtain⟨κ',b,rfl,h2⟩:=au h1;obtain⟨e,hb,h3⟩:=ap h2;obtain rfl:=of_decide_eq_true e;refine .inr ⟨_,λ w=>?_,fm h3⟩;unfold Jv;rw[ct (by simp) (by simp)];simp [binOp,Op.intDiv,hb]
 case h_1 =>
  split at h
  ·obtain⟨e,h3⟩:=ap h;obtain rfl:=of_decide_eq_true e;refine .inr ⟨_,λ w=>?_,fm h3⟩;unfold Jv;rw[ct (by simp) (by simp)];simp [binOp,Op.intArith]
  ·rename_i a b;obtain⟨hs,h3⟩:=h;refine .inr ⟨_,λ w=>?_,h3 _ rfl⟩;unfold Jv;rw[ct (by simp) (by simp)]
   have hs':¬ ((a.size+b.size:Nat):Int) > IntKind.i64.max:=by
    show ¬ ((a.size+b.size:Nat):Int) > 9223372036854775807;omega
   simp only[Sem.run_bind,Sem.run_pure,Result.andThen_ok,binOp,Op.stringOp];rw[if_neg hs'];rfl
  ·exact .inl h
 case h_2 =>
  split at h
  ·obtain⟨e,h3⟩:=ap h;obtain rfl:=of_decide_eq_true e;refine .inr ⟨_,λ w=>?_,fm h3⟩;unfold Jv;rw[ct (by simp) (by simp)];simp [binOp,Op.intArith]
  ·exact .inl h
 case h_3 =>
  split at h
  ·obtain⟨e,h3⟩:=ap h;obtain rfl:=of_decide_eq_true e;refine .inr ⟨_,λ w=>?_,fm h3⟩;unfold Jv;rw[ct (by simp) (by simp)];simp [binOp,Op.intArith]
  ·exact .inl h
 all_goals
  obtain⟨κ,a,rfl,h1⟩:=au h;obtain⟨κ',b,rfl,h2⟩:=au h1;obtain⟨e,h3⟩:=ap h2;obtain rfl:=of_decide_eq_true e;refine .inr ⟨_,λ w=>?_,fm h3⟩;unfold Jv;rw[ct (by simp) (by simp)];simp [binOp,Op.intBits]
theorem dj {P:Program}{t:TypeId} (h:jb P t=true):(∃ i,P.info? t=some i)/\∃ d,P.underlying t=some d:=by
 unfold jb at h;rw[Bool.and_eq_true] at h;exact⟨Option.isSome_iff_exists.1 h.1,Option.isSome_iff_exists.1 h.2⟩
theorem Gt {P:Program}{t:TypeId} (ht:jb P t=true){vs:Array Value}{off:Nat}{k:Value->Prop} (h:rh (ob P t) vs off (P.cellsOf t) k):∃ v,(∀ w,(part t vs off).run P w= .ok v w)/\k v:=by
 obtain⟨⟨i,hi⟩,d,hd⟩:=dj ht;rcases Dv (P:=P) (t:=t) with ⟨h1,d',hd',hagg⟩ | ⟨h1,hagg⟩
 ·rw[h1] at h;obtain⟨us,rfl,hk⟩:=h;obtain rfl:d=d':=by rw[hd] at hd';exact Option.some.inj hd'
  refine⟨_,λ w=>?_,hk⟩;unfold part;rw[Sem.run_bind,ue hd,hagg];simp [Sem.run_bind,cm hi]
 ·have h2:∃ v,vs[off]?=some v/\k v:=by
   generalize hs:ob P t=s at h h1;cases s <;> simp only[rh] at h
   case agg=>exact absurd rfl h1
   case slice=>obtain⟨p,n,c,q1,q2⟩:=h;exact⟨_,q1,q2⟩
   all_goals (obtain⟨x,q1,q2⟩:=h;exact⟨_,q1,q2⟩)
  obtain⟨v,hv,hk⟩:=h2;refine⟨v,λ w=>?_,hk⟩;unfold part;rw[Sem.run_bind,ue hd,hagg d hd];simp [hv]
theorem Kh {P:Program}{t:TypeId}{f:Nat}{fd:Field} (h:vm P t f=some fd) (h0:P.cellsOf fd.type≠0) (a:Addr) (w:World):(Instr.fieldAt t (.pointer (some a)) f).run P w= .ok (.pointer (some (a.add fd.offset))) w:=by
 unfold vm at h;split at h
 ·rename_i fs hu;split at h
  ·rename_i fd' hf
   cases ht:jb P fd'.type with
   | false=>rw[ht] at h;cases h
   | true =>
    rw[ht] at h;cases h;obtain⟨⟨i,hi⟩, -⟩:=dj ht;unfold Instr.fieldAt;rw[Sem.run_bind,run_underlying hu];simp [Sem.run_bind,hf,Instr.sureAddr,fieldPlace,cm hi,h0]
  ·cases h
 ·cases h
theorem Qz {P:Program}{t:TypeId}{f:Nat}{fd:Field} (h:vm P t f=some fd){vs:Array Value}{k:Value->Prop} (hg:rh (ob P fd.type) vs fd.offset (P.cellsOf fd.type) k):∃ v,(∀ w,(Instr.field t (.agg vs) f).run P w= .ok v w)/\k v:=by
 unfold vm at h;split at h
 ·rename_i fs hu;split at h
  ·rename_i fd' hf
   cases ht:jb P fd'.type with
   | false=>rw[ht] at h;cases h
   | true =>
    rw[ht] at h;cases h;obtain⟨v,h1,h2⟩:=Gt ht hg;refine⟨v,λ w=>?_,h2⟩;unfold Instr.field;rw[Sem.run_bind,run_underlying hu];simp [Sem.run_bind,hf,Go.asAgg,h1 w]
  ·cases h
 ·cases h
theorem wz {P:Program}{t:TypeId}{n:Nat}{e:TypeId} (h:Ce P t=some (some n,e)):P.underlying t=some (.array n e)/\jb P e=true:=by
 unfold Ce at h;split at h
 ·rename_i n' e' hu
  cases ht:jb P e' with
  | false=>rw[ht] at h;cases h
  | true=>rw[ht] at h;cases h;exact⟨hu,ht⟩
 ·rename_i e' hu
  cases ht:jb P e' with
  | false=>rw[ht] at h;cases h
  | true=>rw[ht] at h;cases h
 ·cases h
theorem Gu {P:Program}{t:TypeId}{e:TypeId} (h:Ce P t=some (none,e)):P.underlying t=some (.slice e)/\jb P e=true:=by
 unfold Ce at h;split at h
 ·rename_i n' e' hu
  cases ht:jb P e' with
  | false=>rw[ht] at h;cases h
  | true=>rw[ht] at h;cases h
 ·rename_i e' hu
  cases ht:jb P e' with
  | false=>rw[ht] at h;cases h
  | true=>rw[ht] at h;cases h;exact⟨hu,ht⟩
 ·cases h
theorem Dx (g o n:Nat):(⟨g,o,none⟩:Addr).add n=⟨g,o+n,none⟩:=by
 unfold Addr.add;by_cases h:n=0
 ·subst h;rfl
 ·rw[if_neg h]
theorem Dy {P:Program}{t e:TypeId}{n:Nat} (h:P.underlying t=some (.array n e)) (ht:jb P e=true) (g o:Nat) (κ:IntKind) (i:Int) (h0:0≤i) (h1:i<n) (w:World) :
  (Instr.indexAt t (.pointer (some ⟨g,o,none⟩)) (.int κ i)).run P w= .ok (.pointer (some ⟨g,o+i.toNat * P.cellsOf e,none⟩)) w:=by
 obtain⟨⟨j,hj⟩, -⟩:=dj ht;unfold Instr.indexAt;simp only[Go.asIntOf,Sem.run_bind,Sem.run_pure,Result.andThen_ok,run_underlying h,Instr.sureAddr];simp [h0,h1,Sem.run_bind,cm hj,Dx]
theorem Dz {P:Program}{t e:TypeId}{n c:Nat} (h:P.underlying t=some (.slice e)) (ht:jb P e=true) (g o:Nat) (κ:IntKind) (i:Int) (h0:0≤i) (h1:i<n) (w:World) :
  (Instr.indexAt t (.slice (some ⟨g,o,none⟩) n c) (.int κ i)).run P w= .ok (.pointer (some ⟨g,o+i.toNat * P.cellsOf e,none⟩)) w:=by
 obtain⟨⟨j,hj⟩, -⟩:=dj ht;unfold Instr.indexAt;simp only[Go.asIntOf,Sem.run_bind,Sem.run_pure,Result.andThen_ok,run_underlying h];simp [h0,h1,Sem.run_bind,cm hj,Dx]
theorem Ki {P:Program}{t e:TypeId}{n:Nat} (h:P.underlying t=some (.array n e)) (ht:jb P e=true){vs:Array Value} (κ:IntKind) (i:Int) (h0:0≤i) (h1:i<n){k:Value->Prop} (hg:rh (ob P e) vs (i.toNat * P.cellsOf e) (P.cellsOf e) k) :
  ∃ v,(∀ w,(Instr.index t (.agg vs) (.int κ i)).run P w= .ok v w)/\k v:=by
 obtain⟨⟨j,hj⟩, -⟩:=dj ht;obtain⟨v,q1,q2⟩:=Gt ht hg;refine⟨v,λ w=>?_,q2⟩;unfold Instr.index;simp only[Go.asIntOf,Sem.run_bind,Sem.run_pure,Result.andThen_ok,run_underlying h];simp [h0,h1,Sem.run_bind,cm hj,q1 w]
theorem Gv {P:Program}{t:TypeId} (h:P.underlying t=some .string){s:ByteArray} (κ:IntKind) (i:Int) (h0:0≤i){b:UInt8} (hb:s[i.toNat]?=some b) (w:World) :
  (Instr.index t (.string s) (.int κ i)).run P w= .ok (.int .u8 b.toNat) w:=by
 unfold Instr.index;simp only[Go.asIntOf,Sem.run_bind,Sem.run_pure,Result.andThen_ok,run_underlying h];simp [h0,hb]
theorem fb {P:Program}{κ:IntKind}{i:Int}{y:Nat} (h0:0≤i) (h1:i≤y) (c:BoundsCode) (w:World):(Instr.sliceBound (.int κ i) y c).run P w= .ok i.toNat w:=by
 unfold Instr.sliceBound;simp only[Go.asIntOf,Sem.run_bind,Sem.run_pure,Result.andThen_ok];simp [h0,h1]
theorem xc {P:Program}{p:Option Addr}{len cap size:Nat}{lo hi mx:Option Value}{k:Value->Prop} (sl:Bool) (hlc:len≤cap∨sl=true) (h:uc P p len cap size lo hi mx k) :
  ∃ l h' m,(∀ w,(Instr.sliceBounds sl len cap lo hi mx).run P w= .ok (l,h',m) w)/\k (.slice (sub p m l size) (h' - l) (m - l)):=by
 have s0:∀ m,sub p m 0 size=p:=by
  intro m;unfold sub;split
  ·rfl
  ·cases p <;> simp [Addr.add]
 unfold uc at h;split at h
 ·refine⟨0,len,cap,λ w=>?_,by rw[s0];exact h⟩;simp [Instr.sliceBounds]
 ·obtain⟨κ,x,rfl,⟨h0,h1⟩,hk⟩:=au h;refine⟨0,x.toNat,cap,λ w=>?_,by rw[s0];exact hk⟩;unfold Instr.sliceBounds;simp only[Sem.run_bind,Sem.run_pure,Result.andThen_ok,fb h0 h1]
 ·obtain⟨κ,x,rfl,⟨h0,h1⟩,hk⟩:=au h;refine⟨x.toNat,len,cap,λ w=>?_,hk⟩;unfold Instr.sliceBounds;simp only[Sem.run_bind,Sem.run_pure,Result.andThen_ok,fb h0 h1]
 ·obtain⟨κ,x,rfl,h2⟩:=au h;obtain⟨κ',y,rfl,⟨h0,h1,h3⟩,hk⟩:=au h2;refine⟨x.toNat,y.toNat,cap,λ w=>?_,hk⟩;unfold Instr.sliceBounds;simp only[Sem.run_bind,Sem.run_pure,Result.andThen_ok,fb (show 0≤y by omega) h3,fb (y:=y.toNat) h0 (by omega)]
 ·obtain⟨κ,x,rfl,h2⟩:=au h;obtain⟨κ',y,rfl,h3⟩:=au h2;obtain⟨κ'',z,rfl,⟨h0,h1,h4,h5⟩,hk⟩:=au h3;refine⟨x.toNat,y.toNat,z.toNat,λ w=>?_,hk⟩;unfold Instr.sliceBounds;simp only[Sem.run_bind,Sem.run_pure,Result.andThen_ok,fb (show 0≤z by omega) h5,fb (y:=z.toNat) (show 0≤y by omega) (by omega),fb (y:=y.toNat) h0 (by omega)]
 ·exact h.elim
theorem Ea {x:Option Value}{d:Nat}{k:Nat->Prop} (h:bnd x d k):(x=none/\k d)∨∃ κ i,x=some (.int κ i)/\0≤i/\k i.toNat:=by
 cases x with
 | none=>exact .inl ⟨rfl,h⟩
 | some v =>
  obtain⟨κ,i,rfl,h0,hk⟩:=au h;exact .inr ⟨κ,i,rfl,h0,hk⟩
theorem Wu (us:List Value):∀ (pre mid post:List Value) (q:Nat),mid.length=us.length ->
  (us.zipIdx q).foldl (λ (cs:Array Value) (x:Value×Nat)=>cs.setIfInBounds ((pre.length - q)+x.2) x.1) (pre++mid++post).toArray=(pre++us++post).toArray∨pre.length<q:=by
 induction us with
 | nil=>intro pre mid post q h;left;have:mid=[]:=List.eq_nil_of_length_eq_zero (by simpa using h);subst this;simp
 | cons u us ih =>
  intro pre mid post q h;by_cases hq:pre.length<q
  ·exact .inr hq
  left
  match mid,h with
  | m::mid,h =>
   simp only[List.zipIdx_cons,List.foldl_cons]
   have e1:((pre++m::mid++post).toArray.setIfInBounds (pre.length - q+q) u)=((pre++[u])++mid++post).toArray:=by
    rw[show pre.length - q+q=pre.length by omega];simp [List.setIfInBounds_toArray]
   rw[e1];rcases ih (pre++[u]) mid post (q+1) (by simpa using h) with h2 | h2
   ·simp only[List.length_append,List.length_singleton] at h2;rw[show pre.length+1 - (q+1)=pre.length - q by omega] at h2;rw[h2];simp
   ·simp at h2;omega
theorem Ra (us:Array Value) (pre mid post:List Value) (h:mid.length=us.size) :
  us.zipIdx.foldl (λ (cs:Array Value) (x:Value×Nat)=>cs.setIfInBounds (pre.length+x.2) x.1) (pre++mid++post).toArray=(pre++us.toList++post).toArray:=by
 rcases Wu us.toList pre mid post 0 (by simpa using h) with h1 | h1
 ·simp only[Nat.sub_zero] at h1;rw[<- h1,<- Array.foldl_toList];simp
 ·omega
theorem Eb (place:Nat->Option (Nat×Nat)) (parts0:List (Nat×Value)):∀ (ns:List Nat) (j:Nat) (z:List Value) (κ:List Value->Prop) (pre:List Value) (parts:List (Nat×Value)) (N:Nat),
  z.length=ns.foldr (· + ·) 0->my N j (parts.map (·.1))=true->N≤j+ns.length->(∀ i,j≤i->parts0.find? (λ q=>Nat.beq q.1 i)=parts.find? (λ q=>Nat.beq q.1 i)) ->
  (∀ q n,ns[q]?=some n->place (j+q)=some (pre.length+(ns.take q).foldr (· + ·) 0,n))->asm ns j z parts0 κ ->
  ∃ r,κ r/\Instr.fill place (pre++z).toArray parts=some (pre++r).toArray:=by
 intro ns
 induction ns with
 | nil =>
  intro j z κ pre parts N hz hr hN hf hp h;have:z=[]:=List.eq_nil_of_length_eq_zero (by simpa using hz);subst this
  have hpn:parts=[]:=by
   cases parts with
   | nil=>rfl
   | cons x r =>
    simp only[List.map_cons,my,Bool.and_eq_true] at hr;have h1:=Nat.le_of_ble_eq_true hr.1.1;have h2:x.1+1≤N:=Nat.le_of_ble_eq_true hr.1.2;simp at hN;omega
  subst hpn;exact⟨[],h,by simp [Instr.fill]⟩
 | cons n ns ih =>
  intro j z κ pre parts N hz hr hN hf hp h;simp only[List.foldr_cons] at hz
  have hzn:(z.take n).length=n:=by simp;omega
  have hzd:(z.drop n).length=ns.foldr (· + ·) 0:=by simp;omega
  have hp':∀ (pre':List Value),pre'.length=pre.length+n->∀ q m,ns[q]?=some m->place (j+1+q)=some (pre'.length+(ns.take q).foldr (· + ·) 0,m):=by
   intro pre' hl q m hm;have:=hp (q+1) m (by simpa using hm);rw[show j+(q+1)=j+1+q by omega] at this;rw[this,hl];simp [Nat.add_assoc]
  have hstay:∀ (x:Nat×Value) (r:List (Nat×Value)),parts=x::r->x.1=j->(∀ i,j+1≤i->parts0.find? (λ q=>Nat.beq q.1 i)=r.find? (λ q=>Nat.beq q.1 i))/\my N (j+1) (r.map (·.1))=true:=by
   intro x r e ex;subst e;refine⟨λ i hi=>?_,?_⟩
   ·rw[hf i (by omega)]
    have:Nat.beq x.1 i=false:=by
     cases hb:Nat.beq x.1 i with
     | false=>rfl
     | true=>have:=Nat.eq_of_beq_eq_true hb;omega
    simp [List.find?_cons,this]
   ·simp only[List.map_cons,my,Bool.and_eq_true] at hr;rw[ex] at hr;exact hr.2
  have h0:=hp 0 n rfl;simp only[Nat.add_zero,List.take_zero,List.foldr_nil] at h0;have hfj:=hf j (Nat.le_refl _);unfold asm at h;by_cases hhead:∃ x r,parts=x::r/\x.1=j
  ·obtain⟨⟨i,v⟩,r,rfl,rfl⟩:=hhead;obtain⟨hs1,hs2⟩:=hstay _ _ rfl rfl
   have:parts0.find? (λ q=>Nat.beq q.1 i)=some (i,v):=by rw[hfj];simp [List.find?_cons,Nat.beq_refl]
   rw[this] at h
   have main:∀ (us:Array Value) (κ':List Value->Prop),v.cells=us->us.size=n->asm ns (i+1) (z.drop n) parts0 κ'->(∀ r',κ' r'->κ (us.toList++r'))->∃ r',κ r'/\Instr.fill place (pre++z).toArray ((i,v)::r)=some (pre++r').toArray:=by
    intro us κ' hv hus ha hk;obtain⟨r',h1,h2⟩:=ih (i+1) (z.drop n) κ' (pre++us.toList) r N hzd hs2 (by simp at hN;omega) hs1 (hp' _ (by simp [hus])) ha;refine⟨us.toList++r',hk r' h1,?_⟩;unfold Instr.fill;rw[h0];dsimp only;have e:=Ra us pre (z.take n) (z.drop n) (by rw[hzn,hus]);rw[List.append_assoc pre,List.take_append_drop] at e;rw[hv,hus]
    have hle:¬ (pre.length+n > (pre++z).toArray.size):=by simp;omega
    simp only[ne_eq,not_true_eq_false,decide_false,Bool.false_or,decide_eq_true_eq,hle,if_false];have e':us.zipIdx.foldl (λ cs x=>match x with | (c,j)=>cs.setIfInBounds (pre.length+j) c) (pre++z).toArray=(pre++us.toList++z.drop n).toArray:=e;rw[e'];rw[h2];simp
   cases v with
   | agg vs =>
    obtain⟨q1,q2⟩:=h;exact main vs _ rfl q1 q2 (λ r' hr'=>hr')
   | _ =>
    obtain⟨q1,q2⟩:=ap h;have:=Nat.eq_of_beq_eq_true q1;exact main #[_] _ rfl (by simp [this]) q2 (λ r' hr'=>hr')
  ·have hnone:parts.find? (λ q=>Nat.beq q.1 j)=none/\my N (j+1) (parts.map (·.1))=true:=by
    cases parts with
    | nil=>exact⟨rfl,rfl⟩
    | cons x r =>
     simp only[List.map_cons,my,Bool.and_eq_true] at hr;obtain⟨⟨r1,r2⟩,r3⟩:=hr;have hx:=Nat.le_of_ble_eq_true r1;have hne:x.1≠j:=λ e=>hhead ⟨x,r,rfl,e⟩
     have later:∀ (l:List Nat) (lo:Nat),my N lo l=true->∀ y ∈ l,lo≤y:=by
      intro l
      induction l with
      | nil=>intro lo _ y hy;cases hy
      | cons a l ih2 =>
       intro lo hl y hy;simp only[my,Bool.and_eq_true] at hl;have:=Nat.le_of_ble_eq_true hl.1.1;rcases List.mem_cons.1 hy with rfl | hy
       ·exact this
       ·have:=ih2 _ hl.2 y hy;omega
     refine⟨?_,?_⟩
     ·rw[List.find?_eq_none];intro y hy hb;have:=Nat.eq_of_beq_eq_true hb;rcases List.mem_cons.1 hy with rfl | hy
      ·exact hne this
      ·have:=later _ _ r3 y.1 (List.mem_map_of_mem hy);omega
     ·simp only[List.map_cons,my,Bool.and_eq_true];exact⟨⟨Nat.ble_eq_true_of_le (by omega),r2⟩,r3⟩
   rw[hfj,hnone.1] at h;obtain⟨r',h1,h2⟩:=ih (j+1) (z.drop n) _ (pre++z.take n) parts N hzd hnone.2 (by simp at hN;omega) (λ i hi=>hf i (by omega)) (hp' _ (by simp [hzn])) h;refine⟨z.take n++r',h1,?_⟩;rw[List.append_assoc,List.take_append_drop] at h2;rw[h2];simp
theorem sizes_ok:∀ (a:Nat) (os ns:List Nat),na a os ns=true->os.length=ns.length/\∀ (q:Nat) (o:Nat),os[q]?=some o->o=a+(ns.take q).foldr (· + ·) 0
 | a,[],[],_=>⟨rfl,λ q o h=>by simp at h⟩
 | a,o::os,n::ns,h=>by
  simp only[na,Bool.and_eq_true] at h;have h1:=Nat.eq_of_beq_eq_true h.1;obtain⟨h2,h3⟩:=sizes_ok (a+n) os ns h.2;refine⟨by simp [h2],λ q o' hq=>?_⟩
  cases q with
  | zero=>simp at hq;subst hq;simp [h1]
  | succ q =>
   have:=h3 q o' (by simpa using hq);simp [this,Nat.add_assoc]
 | _,[],_::_,h=>by simp [na] at h
 | _,_::_,[],h=>by simp [na] at h
theorem Cg {P:Program} (l:List Field) (h:∀ f ∈ l,∃ i,P.info? f.type=some i) (w:World):(l.mapM (λ f=>do pure (f.offset,<- sizeOf f.type):Field->Sem (Nat×Nat))).run P w= .ok (l.map λ f=>(f.offset,P.cellsOf f.type)) w:=by
 induction l with
 | nil=>rfl
 | cons f l ih =>
  obtain⟨i,hi⟩:=h f (.head _)
  have e:(do pure (f.offset,<- sizeOf f.type):Sem (Nat×Nat)).run P w= .ok (f.offset,P.cellsOf f.type) w:=by
   rw[Sem.run_bind,cm hi];rfl
  rw[List.mapM_cons,Sem.run_bind,e];simp only[Result.andThen_ok];rw[Sem.run_bind,ih (λ g hg=>h g (.tail _ hg))];rfl
theorem Gw:∀ {z:List Value}{off:Nat}{v:Value}{κ:List Value->Prop},agl z off v κ->off<z.length/\κ (z.set off v)
 | [],_,_,_,h=>h.elim
 | _::r,0,v,κ,h=>⟨Nat.succ_pos _,h⟩
 | a::r,n+1,v,κ,h=>by
  obtain⟨h1,h2⟩:=Gw (z:=r) h;exact⟨Nat.succ_lt_succ h1,h2⟩
theorem Gy {place:Nat->Option (Nat×Nat)}:∀ {parts:List (Nat×Value)}{z:List Value}{κ:List Value->Prop},aeb place z parts κ->∃ r,κ r/\Instr.fill place z.toArray parts=some r.toArray
 | [],z,κ,h=>⟨z,h,rfl⟩
 | (i,v)::r,z,κ,h=>by
  unfold aeb at h;split at h
  ·rename_i off sz hp;obtain⟨hc,h⟩:=ap h;have hsz:=Nat.eq_of_beq_eq_true hc;subst hsz
   have main:v.cells=#[v]->agl z off v (λ z'=>aeb place z' r κ)->∃ r',κ r'/\Instr.fill place z.toArray ((i,v)::r)=some r'.toArray:=by
    intro hv h;obtain⟨h1,h2⟩:=Gw h;obtain⟨r',h3,h4⟩:=Gy h2;refine⟨r',h3,?_⟩;unfold Instr.fill;rw[hp];dsimp only;rw[hv]
    have hle:¬ (off+1 > z.length):=by omega
    have e:(#[v]:Array Value).zipIdx.foldl (λ cs x=>match x with | (c,j)=>cs.setIfInBounds (off+j) c) z.toArray=(z.set off v).toArray:=by
     simp
    rw[e,h4];simp [hle]
   obtain⟨-,hv,h⟩:=Mg h;exact main hv h
  ·exact h.elim
theorem Ch:∀ (gs:List (Nat×Bool)) (j:Nat) (z:List Value) (parts:List (Nat×Value)) (κ:List Value->Prop),Zp gs j z parts κ->asm (gs.map (·.1)) j z parts κ
 | [],j,z,parts,κ,h=>h
 | (n,g)::gs,j,z,parts,κ,h=>by
  unfold Zp at h;rw[List.map_cons];unfold asm
  cases hf:parts.find? (λ q=>Nat.beq q.1 j) with
  | none=>rw[hf] at h;exact Ch _ _ _ _ _ h
  | some q =>
   obtain⟨i,v⟩:=q;rw[hf] at h;dsimp only at h ⊢
   cases g with
   | true =>
    obtain⟨vs,rfl,h1,h2⟩:=ne h;exact⟨h1,Ch _ _ _ _ _ h2⟩
   | false =>
    obtain⟨hb,h⟩:=ap h
    cases v <;> first
     | exact h.elim
     | (rw[hb];exact Ch _ _ _ _ _ h)
theorem Oe {P:Program}{t:TypeId}{parts:Array (Nat×Value)}{k:Value->Prop} (h:Jy P t parts.toList k):∃ v,(∀ w,(Instr.build t parts).run P w= .ok v w)/\k v:=by
 unfold Jy at h;split at h
 ·rename_i i hi;split at h
  ·rename_i z hz;split at h
   ·rename_i fs hu;rcases aay h with ⟨hc,ha⟩ | hb
    rotate_left
    ·obtain⟨h4,ha⟩:=ap hb;have hth:∀ f ∈ fs.toList,∃ i,P.info? f.type=some i:=λ f hf=>(dj (List.all_eq_true.1 h4 f hf)).1;obtain⟨r,hk,hfill⟩:=Gy ha;refine⟨_,λ w=>?_,hk _ rfl⟩;unfold Instr.build
     have hz':(zeroValue t).run P w= .ok (.agg z) w:=by simp [zeroValue,typeInfo,program,Sem.run_bind,Sem.run,hi,hz]
     rw[Sem.run_bind,hz'];simp only[Result.andThen_ok];rw[Sem.run_bind,run_underlying hu];simp only[Result.andThen_ok];rw[Sem.run_bind,Array.mapM_eq_mapM_toList];rw[map_eq_pure_bind,Sem.run_bind,Cg _ hth w];simp only[Result.andThen_ok,Sem.run_pure]
     have e:(λ x=>(List.map (λ f=>(f.offset,P.cellsOf f.type)) fs.toList).toArray[x]?)=λ (j:Nat)=>(fs.toList[j]?).map λ (f:Field)=>(f.offset,P.cellsOf f.type):=by
      funext j;simp
     rw[e]
     have hfill':Instr.fill (λ j=>(fs.toList[j]?).map λ (f:Field)=>(f.offset,P.cellsOf f.type)) (Value.agg z).cells parts.toList=some r.toArray:=by simpa [Value.cells] using hfill
     rw[hfill'];rfl
    simp only[Bool.and_eq_true] at hc;obtain⟨⟨⟨h1,h2⟩,h3⟩,h4⟩:=hc;have h3:=Nat.eq_of_beq_eq_true h3;obtain⟨q1,q2⟩:=sizes_ok _ _ _ h2;have hth:∀ f ∈ fs.toList,∃ i,P.info? f.type=some i:=λ f hf=>(dj (List.all_eq_true.1 h4 f hf)).1
    obtain⟨r,hk,hfill⟩:=Eb (λ j=>(fs[j]?).map λ f=>(f.offset,P.cellsOf f.type)) parts.toList _ 0 z.toList _ [] parts.toList fs.size (by simpa using h3) h1 (by simp) (λ _ _=>rfl) (by
     intro q n hq;rw[List.getElem?_map] at hq
     cases hf:fs.toList[q]? with
     | none=>rw[hf] at hq;simp at hq
     | some f =>
      rw[hf] at hq;simp at hq;subst hq;have:=q2 q f.offset (by rw[List.getElem?_map,hf];rfl)
      have hf':fs[q]?=some f:=by simpa using hf
      simp [hf',this]) (by have:=Ch _ _ _ _ _ ha;rw[List.map_map] at this;exact this)
    refine⟨_,λ w=>?_,hk _ rfl⟩;unfold Instr.build
    have hz':(zeroValue t).run P w= .ok (.agg z) w:=by simp [zeroValue,typeInfo,program,Sem.run_bind,Sem.run,hi,hz]
    rw[Sem.run_bind,hz'];simp only[Result.andThen_ok];rw[Sem.run_bind,run_underlying hu];simp only[Result.andThen_ok];rw[Sem.run_bind,Array.mapM_eq_mapM_toList];rw[map_eq_pure_bind,Sem.run_bind,Cg _ hth w];simp only[Result.andThen_ok,Sem.run_pure]
    have e:(λ x=>(List.map (λ f=>(f.offset,P.cellsOf f.type)) fs.toList).toArray[x]?)=λ (j:Nat)=>(fs[j]?).map λ (f:Field)=>(f.offset,P.cellsOf f.type):=by
     funext j;simp
    rw[e]
    have hfill':Instr.fill (λ j=>(fs[j]?).map λ (f:Field)=>(f.offset,P.cellsOf f.type)) (Value.agg z).cells parts.toList=some r.toArray:=by simpa [Value.cells] using hfill
    rw[hfill'];rfl
   ·rename_i n e hu;obtain⟨hc,ha⟩:=ap h;simp only[Bool.and_eq_true] at hc;obtain⟨⟨h1,h2⟩,h3⟩:=hc;have h2:=Nat.eq_of_beq_eq_true h2;obtain⟨⟨ie,hie⟩, -⟩:=dj h3
    have sum_rep:∀ (m s:Nat),(List.replicate m s).foldr (· + ·) 0=m * s:=by
     intro m s
     induction m with
     | zero=>simp
     | succ m ih=>rw[List.replicate_succ,List.foldr_cons,ih,Nat.succ_mul,Nat.add_comm]
    have ha:=Ch _ _ _ _ _ ha;rw[List.map_replicate] at ha
    obtain⟨r,hk,hfill⟩:=Eb (λ j=>some (j * P.cellsOf e,P.cellsOf e)) parts.toList _ 0 z.toList _ [] parts.toList n (by simp [sum_rep,h2]) h1 (by simp) (λ _ _=>rfl) (by
     intro q m hq;rw[List.getElem?_replicate] at hq;split at hq
     ·rename_i hlt;cases hq;rw[List.take_replicate,sum_rep,Nat.min_eq_left (by omega)];simp
     ·cases hq) ha
    refine⟨_,λ w=>?_,hk _ rfl⟩;unfold Instr.build
    have hz':(zeroValue t).run P w= .ok (.agg z) w:=by simp [zeroValue,typeInfo,program,Sem.run_bind,Sem.run,hi,hz]
    rw[Sem.run_bind,hz'];simp only[Result.andThen_ok];rw[Sem.run_bind,run_underlying hu];simp only[Result.andThen_ok];rw[Sem.run_bind,cm hie];simp only[Result.andThen_ok]
    have hfill':Instr.fill (λ j=>some (j * P.cellsOf e,P.cellsOf e)) (Value.agg z).cells parts.toList=some r.toArray:=by simpa [Value.cells] using hfill
    rw[hfill'];rfl
   ·exact h.elim
  ·exact h.elim
 ·exact h.elim
theorem nf {v:Value}{k:Option Nat->Prop} (h:Nz v k):∃ p,v= .map p/\k p:=by
 cases v <;> first | exact⟨_,rfl,h⟩ | exact h.elim
theorem mapp_some {p:Option Nat}{k:Nat->Prop} (h:mapp p k):∃ b,p=some b/\k b:=by
 cases p with
 | none=>exact h.elim
 | some b=>exact⟨b,rfl,h⟩
theorem vp {P:Program}{t:TypeId}{κ:IntKind}{e:TypeId} (h:mapOf P t=some (κ,e)):∃ kt,P.underlying t=some (.map kt e)/\P.underlying kt=some (.int κ):=by
 unfold mapOf at h;split at h
 ·rename_i kt e' h1;split at h
  ·rename_i κ' h2;cases h;exact⟨kt,h1,h2⟩
  ·cases h
 ·cases h
theorem tc {P:Program}{e:TypeId}{z:Value} (h:Cc P e=some z) (w:World):(zeroValue e).run P w= .ok z w:=by
 unfold Cc at h;obtain⟨i,hi,hz⟩:=Option.bind_eq_some_iff.1 h;simp [zeroValue,typeInfo,program,Sem.run_bind,Sem.run,hi,hz]
theorem Mp.keeps {w w':World}{κ:IntKind}{b:Nat}{f:Int->Option Value} (h:Mp w κ b f) (hk:Keeps w w'):Mp w' κ b f:=by
 obtain⟨es,clock,hb,hm⟩:=h;exact⟨es,clock,hk.2.1 _ _ _ hb,hm⟩
theorem MpS.keeps {w w':World}{b:Nat}{f:ByteArray->Option Value} (h:MpS w b f) (hk:Keeps w w'):MpS w' b f:=by
 obtain⟨es,clock,hb,hm⟩:=h;exact⟨es,clock,hk.2.1 _ _ _ hb,hm⟩
theorem Ci {v:Value}{k:ByteArray->Prop} (h:aau v k):∃ s,v= .string s/\k s:=by
 cases v <;> first | exact⟨_,rfl,h⟩ | exact h.elim
theorem yz {P:Program}{t e:TypeId} (h:Mb P t=some e):∃ kt,P.underlying t=some (.map kt e)/\P.underlying kt=some .string:=by
 unfold Mb at h;split at h
 ·rename_i kt e' hu;split at h
  ·rename_i hk;cases h;exact⟨kt,hu,hk⟩
  ·cases h
 ·cases h
theorem Rb {P:Program}{t:TypeId}{m key:Value}{ok:Bool}{w:World}{k:Value->Prop} (h:Qp P t m key ok w k):∃ v,(∀ w',Keeps w w'->(Instr.lookup t m key ok).run P w'= .ok v w')/\k v:=by
 unfold Qp at h;split at h
 ·rename_i κ e hm;split at h
  ·rename_i z hz;obtain⟨p,rfl,g1⟩:=nf h;obtain⟨b,rfl,g2⟩:=mapp_some g1;obtain⟨κ',x,rfl,g3⟩:=au g2;obtain⟨hk,f,hf,g4⟩:=ap g3;obtain rfl:=of_decide_eq_true hk;obtain⟨v,rfl,g5⟩:=Sh.ex_some g4;obtain⟨kt,h1,h2⟩:=vp hm;exact⟨_,λ w' hw=>Wl h1 h2 (hf.keeps hw) (tc hz) ok,g5⟩
  ·exact h.elim
 ·split at h
  ·rename_i e hm;split at h
   ·rename_i z hz;obtain⟨p,rfl,g1⟩:=nf h;obtain⟨b,rfl,g2⟩:=mapp_some g1;obtain⟨x,rfl,f,hf,g4⟩:=Ci g2;obtain⟨v,rfl,g5⟩:=Sh.ex_some g4;obtain⟨kt,h1,h2⟩:=yz hm;exact⟨_,λ w' hw=>Qk h1 h2 (hf.keeps hw) (tc hz) ok,g5⟩
   ·exact h.elim
  ·exact h.elim
theorem Wv {P:Program}{t:TypeId}{m key v:Value}{w:World}{k:World->Prop} (h:aaw P t m key v w k):∃ w',(Instr.mapUpdate t m key v).run P w= .ok () w'/\k w':=by
 unfold aaw at h;split at h
 ·rename_i κ e hm;obtain⟨p,rfl,g1⟩:=nf h;obtain⟨b,rfl,g2⟩:=mapp_some g1;obtain⟨κ',x,rfl,g3⟩:=au g2;obtain⟨hk,f,hf,g4⟩:=ap g3;obtain rfl:=of_decide_eq_true hk;obtain⟨kt,h1,h2⟩:=vp hm;obtain⟨w',q1,q2,q3⟩:=aas (v:=v) (x:=x) h1 h2 hf;exact⟨w',q1,g4 w' q2 q3⟩
 ·split at h
  ·rename_i e hm;obtain⟨p,rfl,g1⟩:=nf h;obtain⟨b,rfl,g2⟩:=mapp_some g1;obtain⟨x,rfl,f,hf,g4⟩:=Ci g2;obtain⟨kt,h1,h2⟩:=yz hm;obtain⟨w',q1,q2,q3⟩:=Wm (v:=v) (x:=x) h1 h2 hf;exact⟨w',q1,g4 w' q2 q3⟩
  ·exact h.elim
theorem Ww {P:Program}{t ty:TypeId}{ts:Array TypeId}{m key:Value}{w:World}{k:World->Prop} (h0:ts[0]?=some t) (h:aax P t m key w k):∃ w',(Builtin.delete_ ts ty #[m,key]).run P w= .ok (.tuple #[]) w'/\k w':=by
 unfold aax at h;split at h
 ·rename_i κ e hm;obtain⟨p,rfl,g1⟩:=nf h;obtain⟨b,rfl,g2⟩:=mapp_some g1;obtain⟨κ',x,rfl,g3⟩:=au g2;obtain⟨hk,f,hf,g4⟩:=ap g3;obtain rfl:=of_decide_eq_true hk;obtain⟨kt,h1,h2⟩:=vp hm;obtain⟨w',q1,q2,q3⟩:=aat (ty:=ty) (x:=x) h0 h1 h2 hf;exact⟨w',q1,g4 w' q2 q3⟩
 ·exact h.elim
theorem Wx {P:Program}{s d:TypeId}{v:Value}{w:World}{k:Value->Prop} (h:aav P s v w k) (e2:ob P d= .str):∃ l:List Int,(∀ w',Keeps w w'->(convert s d v).run P w'= .ok (.string (bstr l)) w')/\k (.string (bstr l)):=by
 unfold aav at h
 have f2:P.underlying d=some .string:=by
  unfold ob at e2
  cases hu:P.underlying d with
  | none=>rw[hu] at e2;cases e2
  | some d1=>rw[hu] at e2;cases d1 <;> first | rfl | cases e2
 split at h
 ·rename_i e hs;split at h
  ·rename_i κ he;obtain⟨hκ,h⟩:=ap h;obtain rfl:=of_decide_eq_true hκ
   have f3:P.underlying e=some (.int .u8):=by
    unfold ob at he
    cases hu:P.underlying e with
    | none=>rw[hu] at he;cases he
    | some d1=>rw[hu] at he;cases d1 <;> first | (cases he;rfl) | cases he
   obtain⟨p,n,c,rfl,h⟩:=cj h
   ·obtain⟨l,⟨hl,hc⟩,hk⟩:=h;refine⟨l,λ w' hw=>?_,hk⟩;rw[run_convert_bytes_string w' s d e p n c hs f3 f2];by_cases h0:0<n
    ·obtain⟨g,off,rfl,hq⟩:=hc h0;refine run_bytesToString w' _ n c l ?_
     have:=run_loadCells_list (P:=P) w' ⟨g,off,none⟩ (l.map (Value.int .u8)) (λ j v hv=>by
      rw[List.getElem?_map] at hv
      cases hx:l[j]? with
      | none=>rw[hx] at hv;cases hv
      | some x=>rw[hx] at hv;cases hv;rw[show(⟨g,off,none⟩:Addr).add j=⟨g,off+j,none⟩ by simp [Addr.add]];exact hw.1 _ _ (hq j x hx))
     rw[List.length_map,hl] at this;exact this
    ·obtain rfl:n=0:=by omega
     obtain rfl:l=[]:=List.eq_nil_of_length_eq_zero hl
     cases p with
     | none=>simp [Conv.bytesToString,bstr,Sem.run_pure]
     | some a=>exact run_bytesToString w' a 0 c [] rfl
  ·exact h.elim
 ·exact h.elim
theorem Gz {P:Program}{t:TypeId}{d:TypeDesc} (hu:P.underlying t=some d) (h1:∀ ms,P.underlying t≠some (.interface ms)){z:Value} (hz:Cc P t=some z){x:Value} (hx:x= .nilIface∨∃ u p,x= .iface u p/\u≠t) (xt:TypeId) (w:World) :
  (Instr.typeAssert x xt t true).run P w= .ok (.tuple #[z,.bool false]) w:=by
 have hz':=tc hz;unfold Instr.typeAssert;rw[Sem.run_bind,run_underlying hu,Result.andThen_ok];rcases hx with rfl | ⟨u,p,rfl,hne⟩
 ·cases d with
  | interface ms=>exact absurd hu (h1 ms)
  | _=>simp [Sem.run_bind,hz']
 ·cases d with
  | interface ms=>exact absurd hu (h1 ms)
  | _=>simp [Sem.run_bind,hz',hne]
theorem Og {P:Program}{t:TypeId}{d:TypeDesc} (hu:P.underlying t=some d) (h1:∀ ms,P.underlying t≠some (.interface ms)) (v:Value) (ok:Bool) (xt:TypeId) (w:World) :
  (Instr.typeAssert (.iface t v) xt t ok).run P w= .ok (match ok with | true=>.tuple #[v,.bool true] | false=>v) w:=by
 unfold Instr.typeAssert;rw[Sem.run_bind,run_underlying hu,Result.andThen_ok]
 cases d with
 | interface ms=>exact absurd hu (h1 ms)
 | _=>cases ok <;> simp
theorem Kj {P:Program}{t:TypeId}{ok:Bool}{x:Value}{k:Value->Prop} (h:Dq P t ok x k):∃ v,(∀ (xt:TypeId) (w:World),(Instr.typeAssert x xt t ok).run P w= .ok v w)/\k v:=by
 unfold Dq at h;split at h
 ·exact h.elim
 ·exact h.elim
 ·rename_i d h1 hu;have h1':∀ ms,P.underlying t≠some (.interface ms):=λ ms e=>h1 ms (by rw[hu] at e;exact Option.some.inj e);split at h
  ·rename_i z hz;unfold tagOf at h;split at h
   ·rename_i u p;rcases rk h with ⟨hb,h⟩ | ⟨hb,h⟩
    ·obtain rfl:=Nat.eq_of_beq_eq_true hb;obtain⟨v,rfl,hk⟩:=Sh.ex_some h;exact⟨_,λ xt w=>Og hu h1' _ ok xt w,hk⟩
    ·have hne:u≠t:=λ e=>by rw[e,Nat.beq_refl] at hb;cases hb
     cases ok with
     | false=>exact h.elim
     | true=>exact⟨_,λ xt w=>Gz hu h1' hz (.inr ⟨u,p,rfl,hne⟩) xt w,h⟩
   ·cases ok with
    | false=>exact h.elim
    | true=>exact⟨_,λ xt w=>Gz hu h1' hz (.inl rfl) xt w,h⟩
   ·exact h.elim
  ·exact h.elim
theorem kr {P:Program}{o:Oper}{F:Fr}{w:World}{k:Value->Prop} (h:jt P o F w k):∃ v,Kf P (execOp (ev F) o) w v/\k v:=by
 have pure_case:ua P (execOp (ev F) o) k->∃ v,Kf P (execOp (ev F) o) w v/\k v:=λ h=>by
  obtain⟨v,h1,h2⟩:=yu h;exact⟨v,λ m _=>h1 _,h2⟩
 have lift:∀ {s:Sem Value} {v:Value},(execOp (ev F) o=do pure (.value (← s)))->(∀ w',Keeps w w'->s.run P w'= .ok v w')->Kf P (execOp (ev F) o) w v:=by
  intro s v he hs m hm;rw[he,Sem.run_bind,hs m hm];rfl
 obtain⟨dst,op,type,pos,after,guard⟩:=o;unfold jt at h;split at h
 case h_1 x ho=>dsimp only at ho;subst ho;exact⟨_,λ m _=>rfl,h⟩
 case h_2 x ho=>dsimp only at ho;subst ho;exact⟨_,λ m _=>rfl,h⟩
 case h_3 c a b ho =>
  dsimp only at ho;subst ho;obtain⟨t,ht,h⟩:=yr h;rcases rk h with ⟨rfl,hk⟩ | ⟨rfl,hk⟩
  ·refine⟨_,λ m _=>?_,hk⟩;simp [execOp,ht,Go.asBool,Sem.run_bind]
  ·refine⟨_,λ m _=>?_,hk⟩;simp [execOp,ht,Go.asBool,Sem.run_bind]
 case h_4 t a ho =>
  dsimp only at ho;subst ho;obtain⟨u,h1,h2⟩:=Gp h;exact⟨u,lift rfl h1,h2⟩
 case h_5 x ho =>
  dsimp only at ho;subst ho;unfold Zo at h;split at h
  ·rename_i p hp;obtain⟨a,rfl,hk⟩:=ptr_some h;refine⟨_,λ m _=>?_,hk⟩;simp [execOp,hp]
  ·rename_i t p hp;exact⟨_,λ m _=>by simp [execOp,hp],h⟩
  ·rename_i f a b hp;exact⟨_,λ m _=>by simp [execOp,hp],h⟩
  ·exact h.elim
 case h_6 op t x y yt ho =>
  dsimp only at ho;subst ho
  have bin_case:Qo P op t x y (ev F x) (ev F y) k (ua P (execOp (ev F) ⟨dst,.binOp op t x y yt,type,pos,after,guard⟩) k)->∃ v,Kf P (execOp (ev F) ⟨dst,.binOp op t x y yt,type,pos,after,guard⟩) w v/\k v:=by
   intro h;rcases Wt h with h | ⟨v,h1,h2⟩
   ·exact pure_case h
   ·exact⟨v,lift (s:=Jv op t x y (ev F x) (ev F y)) rfl (λ m _=>h1 _),h2⟩
  split at h
  ·cases hi:aji (ev F y) with
   | true =>
    rw[hi] at h;obtain⟨b,h1,h2⟩:=h;exact⟨_,lift (s:=binOpS op t x y (ev F x) (ev F y)) rfl h1,h2⟩
   | false=>rw[hi] at h;exact bin_case h
  ·exact bin_case h
 case h_7 s d x ho =>
  dsimp only at ho;subst ho;split at h
  ·rename_i κ1 κ2 e1 e2;obtain⟨κ,n,hx,hk⟩:=au h
   have f1:∃ d1,P.underlying s=some d1:=by
    unfold ob at e1
    cases hu:P.underlying s with
    | none=>rw[hu] at e1;cases e1
    | some d1=>exact⟨d1,rfl⟩
   have f2:P.underlying d=some (.int κ2):=by
    unfold ob at e2
    cases hu:P.underlying d with
    | none=>rw[hu] at e2;cases e2
    | some d1=>rw[hu] at e2;cases d1 <;> first | (cases e2;rfl) | cases e2
   obtain⟨d1,f1⟩:=f1
   have f1':P.underlying s=some (.int κ1):=by
    unfold ob at e1;rw[f1] at e1;cases d1 <;> first | (cases e1;exact f1) | cases e1
   refine⟨_,lift (s:=convert s d (ev F x)) rfl (λ m _=>?_),fm hk⟩;unfold convert;rw[Sem.run_bind,run_underlying f1',Result.andThen_ok,Sem.run_bind,run_underlying f2,hx];rfl
  ·rename_i e1 e2;obtain⟨l,h1,h2⟩:=Wx (d:=d) h e2;exact⟨_,lift (s:=convert s d (ev F x)) rfl h1,h2⟩
  ·exact pure_case h
 case h_8 t x f ho =>
  dsimp only at ho;subst ho;split at h
  ·rename_i fd hf
   cases hb:Nat.beq (P.cellsOf fd.type) 0 with
   | true=>rw[hb] at h;exact h.elim
   | false =>
    rw[hb] at h;obtain⟨p,hx,h1⟩:=ir h;obtain⟨a,rfl,hk⟩:=ptr_some h1;refine⟨_,lift (s:=Instr.fieldAt t (ev F x) f) rfl (λ m _=>?_),hk⟩;rw[hx];exact Kh hf (λ e=>by rw[e] at hb;cases hb) a _
  ·exact h.elim
 case h_9 t x f ho =>
  dsimp only at ho;subst ho;split at h
  ·rename_i fd hf;obtain⟨vs,hx,h1⟩:=ne h;obtain⟨v,h2,hk⟩:=Qz hf h1;refine⟨v,lift (s:=Instr.field t (ev F x) f) rfl (λ m _=>?_),hk⟩;rw[hx];exact h2 _
  ·exact h.elim
 case h_10 t x ix ho =>
  dsimp only at ho;subst ho;split at h
  ·rename_i n e he;obtain⟨hu,ht⟩:=wz he;obtain⟨p,hx,h1⟩:=ir h;obtain⟨κ,i,hi,⟨h0,h2⟩,h3⟩:=au h1;obtain⟨g,off,rfl,hk⟩:=adr_some h3;refine⟨_,lift (s:=Instr.indexAt t (ev F x) (ev F ix)) rfl (λ m _=>?_),hk⟩;rw[hx,hi];exact Dy hu ht g off κ i h0 h2 _
  ·rename_i e he;obtain⟨hu,ht⟩:=Gu he;obtain⟨p,n,c,hx,h1⟩:=cj h;obtain⟨κ,i,hi,⟨h0,h2⟩,h3⟩:=au h1;obtain⟨g,off,rfl,hk⟩:=adr_some h3;refine⟨_,lift (s:=Instr.indexAt t (ev F x) (ev F ix)) rfl (λ m _=>?_),hk⟩;rw[hx,hi];exact Dz hu ht g off κ i h0 h2 _
  ·exact h.elim
 case h_11 t x ix ho =>
  dsimp only at ho;subst ho;split at h
  ·rename_i n e he;obtain⟨hu,ht⟩:=wz he;obtain⟨vs,hx,h1⟩:=ne h;obtain⟨κ,i,hi,⟨h0,h2⟩,h3⟩:=au h1;obtain⟨v,h4,hk⟩:=Ki hu ht κ i h0 h2 h3;refine⟨v,lift (s:=Instr.index t (ev F x) (ev F ix)) rfl (λ m _=>?_),hk⟩;rw[hx,hi];exact h4 _
  ·split at h
   ·rename_i hu;split at h
    ·rename_i s hx;obtain⟨κ,i,hi,b,h0,hb,hk⟩:=au h;refine⟨_,lift (s:=Instr.index t (ev F x) (ev F ix)) rfl (λ m _=>?_),hk⟩;rw[hx,hi];exact Gv hu κ i h0 hb _
    ·exact h.elim
   ·exact h.elim
 case h_12 t x lo hi mx ho =>
  dsimp only at ho;subst ho;split at h
  ·rename_i e hu;obtain⟨p,n,c,hx,h1⟩:=cj h;obtain⟨ht,h2⟩:=ap h1;obtain⟨⟨i,hi'⟩, -⟩:=dj ht;obtain⟨l,hh,m',hrun,hk⟩:=xc true (.inr rfl) h2;refine⟨_,lift (s:=Instr.sliceAt t (ev F x) (lo.map (ev F)) (hi.map (ev F)) (mx.map (ev F))) rfl (λ m _=>?_),hk⟩;unfold Instr.sliceAt;rw[Sem.run_bind,run_underlying hu];simp only[Result.andThen_ok];unfold Instr.slice;rw[Sem.run_bind,run_underlying hu];simp only[Result.andThen_ok,hx];rw[Sem.run_bind,hrun];simp only[Result.andThen_ok];rw[Sem.run_bind,cm hi'];rfl
  ·rename_i n e hu;obtain⟨p,hx,h1⟩:=ir h;obtain⟨a,rfl,h2⟩:=ptr_some h1;obtain⟨ht,h3⟩:=ap h2;obtain⟨⟨i,hi'⟩, -⟩:=dj ht;obtain⟨l,hh,m',hrun,hk⟩:=xc false (.inl (Nat.le_refl _)) h3;refine⟨_,lift (s:=Instr.sliceAt t (ev F x) (lo.map (ev F)) (hi.map (ev F)) (mx.map (ev F))) rfl (λ m _=>?_),hk⟩;unfold Instr.sliceAt;rw[Sem.run_bind,run_underlying hu];simp only[Result.andThen_ok,hx];rw[Sem.run_bind];simp only[Instr.sureAddr,Sem.run_pure,Result.andThen_ok];rw[Sem.run_bind,hrun];simp only[Result.andThen_ok];rw[Sem.run_bind,cm hi'];simp only[Result.andThen_ok,Sem.run_pure];unfold sub;split <;> rfl
  ·rename_i hu;split at h
   ·rename_i s hx
    have hrun:∃ l hh,(∀ w,(Instr.sliceBounds false s.size s.size (lo.map (ev F)) (hi.map (ev F)) none).run P w= .ok (l,hh,s.size) w)/\k (.string (s.extract l hh)):=by
     rcases Ea h with ⟨e1,h1⟩ | ⟨κ,i,e1,h0,h1⟩
     ·rcases Ea h1 with ⟨e2,h2,hk⟩ | ⟨κ2,i2,e2,h02,h2,hk⟩
      ·exact⟨0,s.size,λ w=>by rw[e1,e2];simp [Instr.sliceBounds],hk⟩
      ·refine⟨0,i2.toNat,λ w=>?_,hk⟩;rw[e1,e2];unfold Instr.sliceBounds;simp only[Sem.run_bind,Sem.run_pure,Result.andThen_ok,fb h02 (show i2≤(s.size:Int) by omega)]
     ·rcases Ea h1 with ⟨e2,h2,hk⟩ | ⟨κ2,i2,e2,h02,h2,hk⟩
      ·refine⟨i.toNat,s.size,λ w=>?_,hk⟩;rw[e1,e2];unfold Instr.sliceBounds;simp only[Sem.run_bind,Sem.run_pure,Result.andThen_ok,fb h0 (show i≤(s.size:Int) by omega)]
      ·refine⟨i.toNat,i2.toNat,λ w=>?_,hk⟩;rw[e1,e2];unfold Instr.sliceBounds;simp only[Sem.run_bind,Sem.run_pure,Result.andThen_ok,fb h02 (show i2≤(s.size:Int) by omega),fb (y:=i2.toNat) h0 (by omega)]
    obtain⟨l,hh,hr,hk⟩:=hrun;refine⟨_,lift (s:=Instr.sliceAt t (ev F x) (lo.map (ev F)) (hi.map (ev F)) none) rfl (λ m _=>?_),hk⟩;unfold Instr.sliceAt;rw[Sem.run_bind,run_underlying hu];simp only[Result.andThen_ok];unfold Instr.slice;rw[Sem.run_bind,run_underlying hu];simp only[Result.andThen_ok,hx];simp only[Option.isSome_none,Bool.false_eq_true,if_false];simp only[Sem.run_bind,Sem.run_pure,Result.andThen_ok,hr]
   ·exact h.elim
  ·exact h.elim
 case h_13 t parts ho =>
  dsimp only at ho;subst ho;obtain⟨v,h1,h2⟩:=Oe (parts:=parts.map λ (i,x)=>(i,ev F x)) (by simpa using h);exact⟨v,lift (s:=Instr.build t (parts.map λ (i,x)=>(i,ev F x))) rfl (λ m _=>h1 _),h2⟩
 case h_14 t x ix ok ho =>
  dsimp only at ho;subst ho;obtain⟨v,h1,h2⟩:=Rb h;exact⟨v,lift (s:=Instr.lookup t (ev F x) (ev F ix) ok) rfl h1,h2⟩
 case h_15 t x ho =>
  dsimp only at ho;subst ho;split at h
  ·rename_i n e hu;obtain⟨p,len,c,hx,hle,hk⟩:=cj h;refine⟨_,lift (s:=Instr.arrayAt t (ev F x)) rfl (λ m _=>?_),hk⟩;unfold Instr.arrayAt;rw[Sem.run_bind,run_underlying hu,hx];simp only[Result.andThen_ok,Nat.not_lt.2 hle,if_false];rfl
  ·exact h.elim
 case h_16 x xt t ok ho =>
  dsimp only at ho;subst ho;obtain⟨v,h1,h2⟩:=Kj h;exact⟨v,lift (s:=Instr.typeAssert (ev F x) xt t ok) rfl (λ m _=>h1 xt _),h2⟩
 case h_17=>exact pure_case h
theorem Oh {P:Program}{o:Oper}{F:Fr}{w:World}{k:Value->Prop} (ho:qj P o.op=true) (h:jt P o F w k):∃ v,(∀ w',(execOp (ev F) o).run P w'= .ok (.value v) w')/\k v:=by
 have key:∀ w',jt P o F w'=jt P o F w:=by
  intro w';obtain⟨dst,op,type,pos,after,guard⟩:=o
  cases op with
  | convert s d x =>
   unfold qj at ho;dsimp only at ho;unfold jt;dsimp only
   cases hs:ob P s <;> rw[hs] at ho <;> first | (cases ob P d <;> rfl) | cases ho
  | binOp op t x y yt =>
   unfold qj at ho;dsimp only at ho;unfold jt;dsimp only
   cases hs:ob P t <;> rw[hs] at ho <;> first | rfl | cases ho
  | _=>first | rfl | cases ho
 have h':jt P o F { w with heap:=#[] } k:=by rw[key];exact h
 obtain⟨v,h1,h2⟩:=kr h';exact⟨v,λ w'=>h1 w' ⟨λ p v hp=>by simp [World.cell?] at hp,λ b es c hb=>by simp at hb,λ p hp=>by simp at hp,λ b o hb=>by simp at hb⟩,h2⟩
theorem vq {P:Program}:∀ (ts:List TypeId) (acc:List Value){φ:Value->Prop},Jz P ts acc φ->∃ v,φ v
 | [],[],φ,h=>⟨_,h⟩
 | [t],[],φ,h=>Sh.ex_some h
 | [],a::acc,φ,h=>⟨_,h⟩
 | [t],a::acc,φ,h=>by
  obtain⟨v,h⟩:=Sh.ex_some (show(ob P t).ex _ from h);exact vq [] _ h
 | t::u::ts,acc,φ,h=>by
  have h':(ob P t).ex λ v=>Jz P (u::ts) (acc++[v]) φ:=by
   cases acc <;> exact h
  obtain⟨v,h⟩:=Sh.ex_some h';exact vq (u::ts) _ h
theorem jc {P:Program} {f:FuncId} {fn:Func} (hf:P.funcs[f]?=some fn) (hb:fn.body.isSome=true) (hn:(fn.name != "runtime.NumGoroutine")=true) (args:Array Value) (w:World) :
  (callFunc f args).run P w= .ok (.enter f args) w:=by
 unfold callFunc;rw[Sem.run_bind];simp only[program,Sem.run,Result.andThen_ok,hf]
 have h1:(fn.name== "runtime.NumGoroutine")=false:=by simpa using hn
 rw[h1];simp only[Bool.false_eq_true,if_false]
 cases hbd:fn.body with
 | none=>rw[hbd] at hb;cases hb
 | some c=>simp [Sem.run]
def aaz (P:Program) (Z:List PanicEntry->World->Prop) (s:Sem Next) (w:World) (k:Value->World->Prop):Prop :=
 (∃ v w',s.run P w= .ok (.value v) w'/\k v w')∨(∃ w',s.run P w= .ok .skip w'/\k undef w') ∨
 (∃ f args,s.run P w= .ok (.enter f args) w/\Calls P f args w λ e w'=>(∃ v,e= .returned v/\k v w')∨∃ c,e= .panicked c/\Z c w') ∨
 (∃ v w',s.run P w= .halt (.panic v) w'/\Z [{ v,recovered:=false }] w')
theorem Cj (P:Program) (t:TypeId) (v:Value) (w:World):(newVar t v).run P w= .ok ⟨w.heap.size,0,none⟩ (w.alloc (.cells v.cells t)):=rfl
theorem Oi {P:Program}{pk:List Nat}{Z:List PanicEntry->World->Prop}{f:FuncId}{args:Array Value}{w:World}{k:Value->World->Prop} (h:Ka P pk Z f args w k) :
  (callFunc f args).run P w= .ok (.enter f args) w/\Calls P f args w λ e w'=>(∃ v,e= .returned v/\k v w')∨∃ c,e= .panicked c/\Z c w':=by
 unfold Ka at h;split at h
 ·rename_i fn hf;obtain⟨hb,hc⟩:=ap h;rw[Bool.and_eq_true] at hb
  cases hp0:pk.any (Nat.beq (f+1000000)) with
  | true =>
   rw[hp0] at hc;exact⟨jc hf hb.1 hb.2 args w,hc.mono λ e w' he=>.inr he⟩
  | false =>
  rw[hp0] at hc
  cases hp:pk.any (Nat.beq f) with
  | true =>
   rw[hp] at hc;refine⟨jc hf hb.1 hb.2 args w,hc.mono ?_⟩;rintro e w' (he | he)
   ·exact .inl (vq _ _ he)
   ·exact .inr he
  | false =>
   rw[hp] at hc;refine⟨jc hf hb.1 hb.2 args w,hc.mono ?_⟩;intro e w' he;exact .inl (vq _ _ he)
 ·exact h.elim
theorem Rc {P:Program}{t ty:TypeId}{ts:Array TypeId}{s x:Value}{w:World}{k:Value->World->Prop} (ht:ts[0]?=some t) (h:Qr P t s x w k):∃ (v:Value) (w':World),(Builtin.copy_ ts ty #[s,x]).run P w= .ok v w'/\k v w':=by
 unfold Qr at h;split at h
 ·rename_i e hu;obtain⟨hth,ha⟩:=ap h;clear h;obtain⟨⟨i,hi⟩, -⟩:=dj hth;obtain⟨p,n,c,rfl,hb⟩:=cj ha;clear ha;obtain⟨q,m,d,rfl,h⟩:=cj hb;clear hb
  have start:∀ (cells:Array Value) (w':World),(Builtin.firstCells (P.cellsOf e) (Nat.min m n) (.slice q m d)).run P w= .ok cells w->(match p with | some a=>storeCells a cells.toList | none=>pure ():Sem Unit).run P w= .ok () w' ->
    (Builtin.copy_ ts ty #[.slice p n c,.slice q m d]).run P w= .ok (.int .i64 (Nat.min m n:Nat)) w':=by
   intro cells w' h1 h2;unfold Builtin.copy_;have i2:(#[Value.slice p n c,Value.slice q m d]:Array Value)[0]?=some (Value.slice p n c):=rfl;have i3:(#[Value.slice p n c,Value.slice q m d]:Array Value)[1]?=some (Value.slice q m d):=rfl;simp only[ht,i2,i3,Sem.run_bind,run_underlying hu,Result.andThen_ok,cm hi,Sem.run_pure,Builtin.lenOf];rw[h1];simp only[Result.andThen_ok]
   cases p with
   | none =>
    cases h2;rfl
   | some a =>
    dsimp only at h2 ⊢;rw[Sem.run_bind,h2];rfl
  obtain⟨news,hl,h1,hor,hk⟩:=h;refine⟨_,_,?_,hk _ rfl⟩;rcases hor with rfl | ⟨⟨a,rfl,hc⟩,g,o,rfl,hd⟩
  ·refine start #[] _ ?_ ?_
   ·have h0:Nat.min m n * P.cellsOf e=0:=by simpa using hl.symm
    cases q with
    | none=>rfl
    | some a=>simp [Builtin.firstCells,loadCells,loadCellsFrom,h0]
   ·cases p <;> rfl
  ·refine start news.toArray _ ?_ ?_
   ·have:=run_loadCells_list (P:=P) w a news hc;simp only[Builtin.firstCells];rw[<- hl];exact this
   ·have:=run_storeCells_cells (P:=P) g o news 0 w (λ j hj=>by
     obtain⟨⟨u,hu⟩, -⟩:=hd j hj
     simp [hu]) (λ j hj=>by simpa using (hd j hj).2) h1
    simpa [Gm] using this
 ·exact h.elim
theorem Oj {P:Program}{t ty:TypeId}{ts:Array TypeId}{x:Value}{w:World}{k:Value->World->Prop} (ht:ts[0]?=some t) (h:Kb P t x w k):∃ (v:Value) (w':World),(Builtin.clear_ ts ty #[x]).run P w= .ok v w'/\k v w':=by
 unfold Kb at h;split at h
 ·rename_i e hu;split at h
  ·rename_i i hi;split at h
   ·rename_i z hz;split at h
    ·rename_i u hcu;obtain⟨hone,ha⟩:=ap h;clear h;obtain⟨p,n,c,rfl,hor,hk⟩:=cj ha;clear ha
     have hz':(zeroValue e).run P w= .ok z w:=by simp [zeroValue,typeInfo,program,Sem.run_bind,Sem.run,hi,hz]
     have hzc:(Builtin.zeroCells z.cells n).toList=List.replicate n u:=by
      have hzc1:z.cells=#[u]:=Array.toList_inj.1 hcu;unfold Builtin.zeroCells;rw[hzc1];apply List.ext_getElem?;intro j;by_cases hj:j<n
      ·simp [hj,Nat.mod_one]
      ·simp [hj]
     refine⟨_,_,?_,hk _ rfl⟩;have i2:(#[Value.slice p n c]:Array Value)[0]?=some (Value.slice p n c):=rfl;unfold Builtin.clear_;simp only[ht,i2,Sem.run_bind,run_underlying hu,Result.andThen_ok];rcases hor with rfl | ⟨g,o,rfl,hd⟩
     ·cases p with
      | none=>rfl
      | some a=>rfl
     ·by_cases hn:n=0
      ·subst hn;rfl
      ·obtain⟨m,rfl⟩:∃ m,n=m+1:=⟨n - 1,by omega⟩;simp only[Sem.run_bind,hz',Result.andThen_ok,Sem.run_pure];rw[hzc]
       have:=run_storeCells_cells (P:=P) g o (List.replicate (m+1) u) 0 w (λ j hj=>by
        obtain⟨⟨v,hv⟩, -⟩:=hd j (by simpa using hj)
        simp [hv]) (λ j hj=>by simpa using (hd j (by simpa using hj)).2) (λ v hv=>by rw[(List.mem_replicate.1 hv).2];exact hone)
       have h2:(storeCells ⟨g,o,none⟩ (List.replicate (m+1) u)).run P w= .ok () (Gm (some ⟨g,o,none⟩) w (List.replicate (m+1) u)):=by simpa [Gm] using this
       rw[h2];rfl
    ·exact h.elim
   ·exact h.elim
  ·exact h.elim
 ·exact h.elim
theorem Rd {P:Program}{pk:List Nat}{Z:List PanicEntry->World->Prop}{o:Oper}{F:Fr}{w:World}{k:Value->World->Prop} (ha:∀ c,o.op= .call c->∀ b,c.callee= .builtin b->b≠ .append) (h:Wo P pk Z o F w k):aaz P Z (execOp (ev F) o) w k:=by
 have read_case:jt P o F w (λ v=>k v w)->aaz P Z (execOp (ev F) o) w k:=λ h=>by
  obtain⟨v,h1,h2⟩:=kr h;exact .inl ⟨v,w,h1 w (Keeps.refl w),h2⟩
 obtain⟨dst,op,type,pos,after,guard⟩:=o;unfold Wo at h;split at h
 case h_1 t a x ho =>
  dsimp only at ho;subst ho;obtain⟨w',h1,h2⟩:=Od h;refine .inr (.inl ⟨w',?_,h2⟩);show(do Instr.storeAt t (ev F a) (ev F x);pure .skip:Sem Next).run P w=_;rw[Sem.run_bind,h1];rfl
 case h_2 e ho =>
  dsimp only at ho;subst ho;split at h
  ·rename_i i hi;split at h
   ·rename_i z hz;refine .inl ⟨_,_,?_,h _ _ rfl rfl⟩;show(do pure (.value (← Instr.alloc e true (.tuple #[]))):Sem Next).run P w=_
    have hz':(zeroValue e).run P w= .ok z w:=by simp [zeroValue,typeInfo,program,Sem.run_bind,Sem.run,hi,hz]
    rw[Sem.run_bind];unfold Instr.alloc;rw[Sem.run_bind,hz'];simp only[Result.andThen_ok];rw[Sem.run_bind,Cj];rfl
   ·exact h.elim
  ·exact h.elim
 case h_3 e x ho =>
  dsimp only at ho;subst ho;refine .inl ⟨_,_,?_,h _ _ rfl rfl⟩;show(do pure (.value (← Instr.box e (ev F x))):Sem Next).run P w=_;rw[Sem.run_bind];unfold Instr.box;rw[Sem.run_bind,Cj];rfl
 case h_4 t l c ho =>
  dsimp only at ho;subst ho;unfold Zq at h;split at h
  ·rename_i e hu;split at h
   ·rename_i i hi;split at h
    ·rename_i z hz;obtain⟨κ,x,hx,h1⟩:=au h;obtain⟨κ',y,hy,⟨h0,h2,h3,h4⟩,h5⟩:=au h1;refine .inl ⟨_,_,?_,h5 _ _ rfl rfl⟩;show(do pure (.value (← Instr.makeSlice t (ev F l) (ev F c))):Sem Next).run P w=_;rw[Sem.run_bind,hx,hy,run_make w t e i z hu hi hz κ κ' x y h0 h2 h4 h3];rfl
    ·exact h.elim
   ·exact h.elim
  ·exact h.elim
 case h_5 t ho =>
  dsimp only at ho;subst ho;exact .inl ⟨_,_,rfl,h _ _ rfl rfl⟩
 case h_6 t m x v ho =>
  dsimp only at ho;subst ho;obtain⟨w',h1,h2⟩:=Wv h;refine .inr (.inl ⟨w',?_,h2⟩);show(do Instr.mapUpdate t (ev F m) (ev F x) (ev F v);pure .skip:Sem Next).run P w=_;rw[Sem.run_bind,h1];rfl
 case h_7 t len parts ho =>
  dsimp only at ho;subst ho;split at h
  ·rename_i e hu;split at h
   ·rename_i i hi;split at h
    ·rename_i z hz;obtain⟨hc,h⟩:=ap h;simp only[Bool.and_eq_true] at hc;obtain⟨hle,hrise⟩:=hc
     have sum_rep:∀ (m s:Nat),(List.replicate m s).foldr (· + ·) 0=m * s:=by
      intro m s
      induction m with
      | zero=>simp
      | succ m ih=>rw[List.replicate_succ,List.foldr_cons,ih,Nat.succ_mul,Nat.add_comm]
     have h:=Ch _ _ _ _ _ h;rw[List.map_replicate] at h
     obtain⟨r,h,hf0⟩:=Eb (λ j=>some (j * i.size,i.size)) _ _ 0 _ _ [] (parts.toList.map λ (j,x)=>(j,ev F x)) len (by simp [sum_rep]) (by simpa [List.map_map,Function.comp_def] using hrise) (by simp) (λ _ _=>rfl) (by
      intro q m hq;rw[List.getElem?_replicate] at hq;split at hq
      ·rename_i hlt;cases hq;rw[List.take_replicate,sum_rep,Nat.min_eq_left (by omega)];simp
      ·cases hq) h
     have hf:Instr.fill (λ j=>some (j * i.size,i.size)) ((Array.range (len * i.size)).map (z.cells[· % z.cells.size]!)) (parts.toList.map λ (j,x)=>(j,ev F x))=some r.toArray:=by
      rw[List.nil_append,List.nil_append,Array.toArray_toList] at hf0;exact hf0
     generalize r.toArray=cells at h hf;by_cases htriv:True
     ·refine .inl ⟨_,_,?_,h _ _ rfl rfl⟩;show(do pure (.value (← Instr.buildSlice t len (parts.map λ (i,x)=>(i,ev F x)))):Sem Next).run P w=_
      have hz':∀ w,(zeroValue e).run P w= .ok z w:=λ w=>by simp [zeroValue,typeInfo,program,Sem.run_bind,Sem.run,hi,hz]
      have hs:(sizeOf e).run P w= .ok i.size w:=by rw[cm hi,qm hi]
      have hle':¬ (len * i.size > 2 ^ 24):=by
       have:=Nat.le_of_ble_eq_true hle;omega
      rw[Sem.run_bind];unfold Instr.buildSlice;rw[Sem.run_bind,run_underlying hu];simp only[Result.andThen_ok];rw[Sem.run_bind,hs];simp only[Result.andThen_ok,hle',if_false]
      have hfill:∀ (zc:Array Value),(len * i.size=0->zc=#[])->(len * i.size≠0->zc=z.cells)->Instr.fill (λ j=>some (j * i.size,i.size)) ((Array.range (len * i.size)).map (zc[· % zc.size]!)) (parts.map λ (i,x)=>(i,ev F x)).toList=some cells:=by
       intro zc q1 q2;by_cases h0:len * i.size=0
       ·rw[h0] at hf ⊢
        have r0:∀ g:Nat->Value,(Array.range 0).map g=#[]:=λ g=>by simp [Array.range]
        rw[r0] at hf ⊢;simpa using hf
       ·rw[q2 h0];simpa using hf
      by_cases h0:len * i.size=0
      ·have:=hfill #[] (λ _=>rfl) (λ q=>absurd h0 q);simp only[h0,if_true] at this ⊢;rw[Sem.run_bind];simp only[Sem.run_pure,Result.andThen_ok];rw[this];rfl
      ·have:=hfill z.cells (λ q=>absurd q h0) (λ _=>rfl);simp only[h0,if_false] at this ⊢;rw[Sem.run_bind,hz'];simp only[Sem.run_pure,Result.andThen_ok,Sem.run_bind];rw[this];rfl
     ·exact absurd trivial htriv
    ·exact h.elim
   ·exact h.elim
  ·exact h.elim
 case h_8 c ho =>
  dsimp only at ho;subst ho;split at h
  ·rename_i hc;exact absurd rfl (ha c rfl _ hc)
  ·rename_i hc;split at h
   ·rename_i s x t r e1 e2
    obtain⟨v,w',h1,h2⟩:=Rc (ts:=c.argTypes) (ty:=type) (by
     have:c.argTypes.toList[0]?=some t:=by rw[e2];rfl
     simpa using this) h
    refine .inl ⟨v,w',?_,h2⟩;show(do let d ← resolve (ev F) c type;invoke d.target d.args:Sem Next).run P w=_;unfold resolve;rw[hc,Sem.run_bind,Sem.run_pure,Result.andThen_ok];unfold invoke
    have ea:c.args.map (ev F)=#[ev F s,ev F x]:=by
     apply Array.toList_inj.1;simp [e1]
    show(do pure (.value (← Builtin.copy_ c.argTypes type (c.args.map (ev F)))):Sem Next).run P w=_;rw[ea,Sem.run_bind,h1];rfl
   ·exact h.elim
  ·rename_i hc;split at h
   ·rename_i s x t r e1 e2
    obtain⟨w',h1,h2⟩:=Ww (ts:=c.argTypes) (ty:=type) (by
     have:c.argTypes.toList[0]?=some t:=by rw[e2];rfl
     simpa using this) h
    refine .inl ⟨_,w',?_,h2⟩;show(do let d ← resolve (ev F) c type;invoke d.target d.args:Sem Next).run P w=_;unfold resolve;rw[hc,Sem.run_bind,Sem.run_pure,Result.andThen_ok];unfold invoke
    have ea:c.args.map (ev F)=#[ev F s,ev F x]:=by
     apply Array.toList_inj.1;simp [e1]
    show(do pure (.value (← Builtin.delete_ c.argTypes type (c.args.map (ev F)))):Sem Next).run P w=_;rw[ea,Sem.run_bind,h1];rfl
   ·exact h.elim
  ·rename_i hc;split at h
   ·rename_i x t r e1 e2
    obtain⟨v,w',h1,h2⟩:=Oj (ts:=c.argTypes) (ty:=type) (by
     have:c.argTypes.toList[0]?=some t:=by rw[e2];rfl
     simpa using this) h
    refine .inl ⟨v,w',?_,h2⟩;show(do let d ← resolve (ev F) c type;invoke d.target d.args:Sem Next).run P w=_;unfold resolve;rw[hc,Sem.run_bind,Sem.run_pure,Result.andThen_ok];unfold invoke
    have ea:c.args.map (ev F)=#[ev F x]:=by
     apply Array.toList_inj.1;simp [e1]
    show(do pure (.value (← Builtin.clear_ c.argTypes type (c.args.map (ev F)))):Sem Next).run P w=_;rw[ea,Sem.run_bind,h1];rfl
   ·exact h.elim
  ·obtain⟨v,h1,h2⟩:=yu h;exact .inl ⟨v,w,h1 w,h2⟩
  ·rename_i x hc;split at h
   ·rename_i f first captured hx
    obtain⟨h1,h2⟩:=Oi h;refine .inr (.inr (.inl ⟨f,_,?_,h2⟩));show(do let d ← resolve (ev F) c type;invoke d.target d.args:Sem Next).run P w=_;unfold resolve;rw[hc];simp only[hx,Deferred.ofValue];rw[Sem.run_bind];simp only[Sem.run_pure,Result.andThen_ok,invoke];exact h1
   ·exact h.elim
  ·rename_i r name hc;obtain⟨f,args,h1,h2⟩:=h;refine .inr (.inr (.inl ⟨f,args,?_,h2.mono λ e w' he=>.inl (Sh.ex_some he)⟩));show(do let d ← resolve (ev F) c type;invoke d.target d.args:Sem Next).run P w=_;unfold resolve;rw[hc,Sem.run_bind,Sem.run_pure,Result.andThen_ok];unfold invoke
   have e1:(#[ev F r]++c.args.map (ev F))[0]?=some (ev F r):=by rw[Array.getElem?_append_left (by exact Nat.zero_lt_one)];rfl
   have e2:(#[ev F r]++c.args.map (ev F)).extract 1 (#[ev F r]++c.args.map (ev F)).size=c.args.map (ev F):=by
    apply Array.toList_inj.1;simp;exact List.take_of_length_le (by simp)
   rw[e1];simp only[e2];exact h1
 case h_9 x ho =>
  dsimp only at ho;subst ho;split at h
  ·rename_i t v hv;refine .inr (.inr (.inr ⟨_,w,?_,h⟩));show(do pure (.value (← Instr.panic (ev F x))):Sem Next).run P w=_;rw[hv];rfl
  ·exact h.elim
 case h_10=>exact read_case h
theorem Wy {e:TypeId}{g:Nat}:∀ (vs:List Value) (o:Nat) (W:World) (C:Array Value),Blk W g C e->o+vs.length≤C.size->∃ C',Blk (W.setCells g o vs) g C' e/\C'.size=C.size/\C'.toList.take o=C.toList.take o/\(C'.toList.drop o).take vs.length=vs/\XTouch (λ k=>k=g) W (W.setCells g o vs):=by
 intro vs
 induction vs with
 | nil=>intro o W C hB hle;exact⟨C,hB,rfl,rfl,by simp,XTouch.refl _ _⟩
 | cons x r ih =>
  intro o W C hB hle;obtain⟨C',c1,c2,c3,c4,c5⟩:=ih (o+1) _ _ (hB.set o x) (by simp at hle ⊢;omega);refine⟨C',c1,by simpa using c2,?_,?_,((XTouch.refl (λ k=>k=g) W).setCell (p:=⟨g,o,none⟩) (.inl rfl) x).trans c5 (λ k _ h=>h)⟩
  ·have:=congrArg (List.take o) c3;simp only[List.take_take,Nat.min_eq_left (Nat.le_succ o)] at this;rw[this,Array.toList_setIfInBounds,List.take_set_of_le (Nat.le_refl _)]
  ·have ho:o<C'.size:=by simp at hle c2;omega
   rw[List.drop_eq_getElem_cons (by simpa using ho)]
   have hx0:C'.toList[o]?=some x:=by
    have h5:=congrArg (·[o]?) c3;simp only[List.getElem?_take_of_lt (Nat.lt_succ_self o)] at h5;rw[h5,Array.toList_setIfInBounds,List.getElem?_set_self (by simp at hle ⊢;omega)]
   have hx1:C'.toList[o]'(by simpa using ho)=x:=by
    rw[List.getElem?_eq_getElem (by simpa using ho)] at hx0;simpa using hx0
   rw[hx1,List.length_cons,List.take_succ_cons,c4]
theorem og (u:Value) (n:Nat):Builtin.zeroCells #[u] n=(List.replicate n u).toArray:=by
 unfold Builtin.zeroCells;apply Array.ext
 ·simp
 ·intro i h1 h2;simp at h1 h2 ⊢;simp [Nat.mod_one]
theorem Ha {P:Program}{t t' e ty:TypeId}{κ κ':IntKind}{i:TypeInfo}{z u:Value}{w:World} (ht:P.underlying t=some (.slice e)) (ht':P.underlying t'=some (.int κ)) (hi:P.info? e=some i) (hz:i.zero=some z) (hs:i.size=1) (hu:z.cells.toList=[u]) (h1:u.oneCell'=true)
  {p:Option Addr} {n c:Nat} {olds:List Value} (hsl:Sl w e 1 (.slice p n c) n olds) {l:Int} (h0:0≤l) (h63:n+l.toNat≤maxLen) (hb:(n+l.toNat) * i.bytes≤140737488355328) :
  ∃ p' c' w',(Builtin.append_ #[t,t'] ty #[.slice p n c,.int κ' l]).run P w= .ok (.slice p' (n+l.toNat) c') w'/\Sl w' e 1 (.slice p' (n+l.toNat) c') (n+l.toNat) (olds++List.replicate l.toNat u)/\XTouch (λ b=>(Value.slice p n c).ownBlock=some b) w w' /\
   ∀ b,(Value.slice p' (n+l.toNat) c').ownBlock=some b->(Value.slice p n c).ownBlock=some b∨w.heap.size≤b:=by
 have hzc:z.cells=#[u]:=Array.toList_inj.1 (by simpa using hu);obtain⟨m,rfl⟩:∃ m:Nat,l=m:=⟨l.toNat,by omega⟩;simp only[Int.toNat_natCast] at h63 hb ⊢
 have hwrap:IntKind.wrap .i64 (m:Int)=m:=by
  simp only[maxLen] at h63;simp [IntKind.wrap,IntKind.signed,IntKind.bits];omega
 have ha:∀ w,(Go.asInt (.int κ' (m:Int))).run P w= .ok (m:Int) w:=λ _=>rfl;have ha0:∀ w,(Go.asInt (.int κ' 0)).run P w= .ok 0 w:=λ _=>rfl;have hwrap0:IntKind.wrap .i64 0=0:=rfl
 have hneg:¬ ((m:Int)<0):=by omega
 have hbig:¬ (281474976710656<(m:Int) * (i.bytes:Int)):=by
  have h2:m * i.bytes≤(n+m) * i.bytes:=Nat.mul_le_mul_right _ (by omega)
  have h3:((m * i.bytes:Nat):Int)≤140737488355328:=by omega
  rw[Int.natCast_mul] at h3;omega
 obtain⟨hl,hr⟩:=hsl;rw[Nat.mul_one] at hl;by_cases hroom:n+m≤c
 ·rcases hr with ⟨e1,e2⟩ | ⟨g,off,cap,cur,e1,hbk,q1,q2,q3,q4⟩
  ·cases e1;obtain rfl:m=0:=by omega
   obtain rfl:olds=[]:=List.eq_nil_of_length_eq_zero (by omega);refine⟨none,0,w,?_,⟨rfl,.inl ⟨rfl,rfl⟩⟩,XTouch.refl _ _,λ b hb=>.inl hb⟩;simp [Builtin.append_,run_underlying ht,run_underlying ht',sizeOf,typeInfo,hi,hs,hwrap0,ha0]
  ·cases e1;obtain⟨C',c1,c2,c3,c4,c5⟩:=Wy (List.replicate m u) (off+n) w cur hbk (by simp;omega);refine⟨some ⟨g,off,none⟩,c,w.setCells g (off+n) (List.replicate m u),?_,⟨by simp [hl],.inr ⟨g,off,c,C',rfl,c1,hroom,q2,by omega,?_⟩⟩,c5.mono λ k _ hk=>by subst hk;rfl,λ b hb=>.inl hb⟩
   ·have hst:=run_storeCells_cells (P:=P) g (off+n) (List.replicate m u) 0 w (λ j hj=>by
      simp at hj;rw[hbk.cell]
      have:off+n+j<cur.size:=by omega
      simp [this]) (λ j hj=>hbk.frozen _) (λ v hv=>by rw[List.eq_of_mem_replicate hv];exact h1)
    simp only[Nat.add_zero] at hst;by_cases hm:m=0
    ·subst hm;simp [Builtin.append_,run_underlying ht,run_underlying ht',sizeOf,typeInfo,hi,hs,q1,hwrap0,ha0,Addr.add_lit] at hst ⊢;rw[hst];rfl
    ·simp [Builtin.append_,run_underlying ht,run_underlying ht',sizeOf,typeInfo,zeroValue,hi,hz,hs,hroom,hwrap,hneg,hbig,ha,Addr.add_lit,hzc,og,hm,hst]
   ·have h5:=congrArg (List.drop off) c3;rw[List.drop_take,List.drop_take,Nat.add_sub_cancel_left] at h5;rw[Nat.mul_one] at q4;rw[Nat.mul_one,List.take_add,h5,q4,List.drop_drop];simp at c4;rw[c4]
 ·have h64:¬ (9223372036854775807<((n:Int)+(m:Int))):=by simp only[maxLen] at h63;omega
  have hfit:=growslice_fits (need:=n+m) (old:=c) (by omega) hb
  have hfit':¬ (281474976710656<Builtin.nextslicecap (n+m) c * i.bytes):=by omega
  have hge:=grownCap_ge w (n+m) c e;have hcm:=grownCap_le_maxLen w (n+m) c e h63
  have hfo:(Builtin.firstCells i.size n (.slice p n c)).run P w.drew= .ok olds.toArray w.drew:=by
   rcases hr with ⟨e1,e2⟩ | ⟨g,off,cap,cur,e1,hbk,q1,q2,q3,q4⟩
   ·cases e1;obtain rfl:olds=[]:=List.eq_nil_of_length_eq_zero (by omega);exact run_firstCells_none (P:=P) w.drew i.size _ _ _
   ·cases e1;refine run_firstCells_some (P:=P) w.drew i.size n ⟨g,off,none⟩ n c olds (by rw[hl,hs,Nat.mul_one]) λ j v hv=>?_;rw[Addr.add_lit];show w.cell? _=_;rw[hbk.cell,<- hv,<- q4,Nat.mul_one]
    have hj:j<n:=by have:=(List.getElem?_eq_some_iff.1 hv).1;omega
    rw[List.getElem?_take_of_lt hj,List.getElem?_drop];simp
  have hm:m≠0:=by
   intro hm;subst hm;rcases hr with ⟨e1,e2⟩ | ⟨g,off,cap,cur,e1,hbk,q1,q2,q3,q4⟩
   ·cases e1;omega
   ·cases e1;omega
  refine⟨some ⟨w.heap.size,0,none⟩,grownCap w (n+m) c e,w.drew.alloc (.cells (olds.toArray++(List.replicate m u).toArray++Builtin.zeroCells z.cells (grownCap w (n+m) c e - (n+m))) e),?_,⟨by simp [hl],.inr ⟨w.heap.size,0,grownCap w (n+m) c e,_,rfl,heap_alloc_new w.drew _,hge,hcm,?_,?_⟩⟩,?_,?_⟩
  ·simp [Builtin.append_,run_underlying ht,run_underlying ht',sizeOf,typeInfo,zeroValue,hi,hz,hs,hroom,hwrap,hneg,hbig,h64,hfit',Question.forced,ha,hm,newRow,grownCap];rw[hs] at hfo;simp [hfo,hzc,og,newRow,grownCap]
  ·simp only[Array.size_append,List.size_toArray,List.length_replicate,hzc,og,hl];omega
  ·simp only[Array.toList_append,List.append_assoc,List.drop_zero,Nat.mul_one];rw[<- List.append_assoc];rw[List.take_left' (by simp [hl])]
  ·exact(XTouch.refl _ w).drew.alloc _
  ·intro b hb;simp [Value.ownBlock] at hb;exact .inr (by omega)
theorem za {P:Program}{pk:List Nat}{Z:List PanicEntry->World->Prop}{ops:Array Oper}{rest:List Oper}{o:Oper}{a:Act}{Q:Exit->Act->World->Prop}{w:World}{k:Value->World->Prop}{F:Fr} (hg:o.guard=none) (he:a.eval=ev F){c:Call} (ho:o.op= .call c) (hc:c.callee= .builtin .append)
  (h:Wo P pk Z o F w k) (hk:∀ v w',k v w'->wpList P ops Q rest (a.put o.dst v) w'):wpList P ops Q (o::rest) a w:=by
 unfold Wo at h;rw[ho] at h;dsimp only at h;rw[hc] at h;dsimp only at h;split at h
 ·rename_i s x t t' e1 e2
  cases et:Nat.beq t t' with
  | false =>
   rw[et] at h;have h:yp P t t' (ev F s) (ev F x) w k:=h
   have ec:c={ callee:=.builtin .append,args:=#[s,x],argTypes:=#[t,t'] }:=by
    obtain⟨cl,ar,at'⟩:=c;dsimp only at hc e1 e2;rw[hc,show ar=#[s,x] from Array.toList_inj.1 e1,show at'=#[t,t'] from Array.toList_inj.1 e2]
   rw[ec] at ho;unfold yp at h;split at h
   ·rename_i e hu;split at h
    ·rename_i κ hu';split at h
     ·rename_i i hi;split at h
      ·rename_i z hz;split at h
       ·rename_i u hzu;obtain⟨hb,h⟩:=ap h;rw[Bool.and_eq_true] at hb;have b2:=Nat.eq_of_beq_eq_true hb.2;obtain⟨p,n,cp,hs,h⟩:=cj h;obtain⟨κ',l,hx,olds,hsl,⟨g0,g1,g2⟩,hK⟩:=au h
        have ebyte:P.bytesOf e=i.bytes:=by simp [Program.bytesOf,hi]
        rw[ebyte] at g2;obtain⟨p',c',w',hrun,r1,r2,r3⟩:=Ha (ty:=o.type) (κ':=κ') hu hu' hi hz b2 hzu hb.1 hsl g0 g1 g2;refine wpList_plain hg λ K hK'=>?_;unfold Oper.wp
        have hs':a.eval s= .slice p n cp:=by rw[he];exact hs
        have hx':a.eval x= .int κ' l:=by rw[he];exact hx
        simp [execOp,ho,resolve,invoke,builtin,hs',hx',hrun,Result.andThen];exact hK' _ _ (hk _ _ (hK p' c' w' r1 r2 r3))
       ·exact h.elim
      ·exact h.elim
     ·exact h.elim
    ·exact h.elim
   ·exact h.elim
  | true =>
  rw[et] at h;have h:Dr P t (ev F s) (ev F x) w k:=h;obtain rfl:=Nat.eq_of_beq_eq_true et
  have ec:c={ callee:=.builtin .append,args:=#[s,x],argTypes:=#[t,t] }:=by
   obtain⟨cl,ar,at'⟩:=c;dsimp only at hc e1 e2;rw[hc,show ar=#[s,x] from Array.toList_inj.1 e1,show at'=#[t,t] from Array.toList_inj.1 e2]
  rw[ec] at ho;unfold Dr at h;split at h
  ·rename_i e hu;split at h
   ·rename_i i hi;split at h
    ·rename_i z hz;obtain⟨hb,h⟩:=ap h;rw[Bool.and_eq_true] at hb;have b1:=Nat.eq_of_beq_eq_true hb.1;have b2:0<i.size:=Nat.le_of_ble_eq_true hb.2;obtain⟨p,n,cp,hs,h⟩:=cj h;obtain⟨q,m,d,hx,olds,news,hsl,hq,hn,h1,h2,h3,hK⟩:=cj h;have ecell:=qm hi
     have ebyte:P.bytesOf e=i.bytes:=by simp [Program.bytesOf,hi]
     have hsl0:=hsl;rw[ecell] at hsl hn hK;rw[ebyte] at h3
     have conv:∀ v' w',Sl w' e i.size v' (n+m) (olds++news)->XTouch (λ b=>(Value.slice p n cp).ownBlock=some b) w w'->(∀ b,v'.ownBlock=some b->(Value.slice p n cp).ownBlock=some b∨w.heap.size≤b)->Sl w' e i.size (.slice p n cp) n olds->((∃ q c,(Value.slice p n cp)= .slice q n c/\v'= .slice q (n+m) c)∨((∀ q c,(Value.slice p n cp)= .slice q n c->q=none∨c<n+m)/\∀ k,v'.ownBlock=some k->w.heap.size≤k))->wpList P ops Q rest (a.put o.dst v') w':=by
      intro v' w' r1 r2 r3 r4 r5
      have:∃ p' c',v'= .slice p' (n+m) c':=by
       rcases r1.2 with ⟨rfl,e0⟩ | ⟨g,off,cap,cur,rfl, -⟩
       ·exact⟨none,0,by rw[e0]⟩
       ·exact⟨_,_,rfl⟩
      obtain⟨p',c',rfl⟩:=this;refine hk _ _ (hK p' c' w' r1 r2 r3 r4 (r5.imp (λ ⟨q,c,e1,e2⟩=>?_) (λ ⟨h1,h2⟩=>⟨h1 _ _ rfl,h2⟩)));injection e1 with e1 _ e3;injection e2 with e2 _ e4;exact⟨by rw[e1,e2],by rw[e3,e4]⟩
     rcases hq with ⟨rfl,rfl⟩ | ⟨ad,rfl,hcell⟩
     ·have hnil:news=[]:=List.eq_nil_of_length_eq_zero (by simpa using hn);subst hnil
      have hle:n≤cp:=by
       rcases hsl.2 with ⟨e3,e4⟩ | ⟨g,off,cap,cur,e3,hbk,h4, -⟩
       ·omega
       ·simp at e3;omega
      refine wpList_plain hg λ K hK'=>?_;unfold Oper.wp
      have hrun:(execOp a.eval o).run P w= .ok (.value (.slice p n cp)) w:=by
       have hs':a.eval s= .slice p n cp:=by rw[he];exact hs
       have hx':a.eval x= .slice none 0 d:=by rw[he];exact hx
       have hu0:∀ w,(underlying t).run P w= .ok (.slice e) w:=run_underlying hu
       have hb:(Builtin.append_ #[t,t] o.type #[.slice p n cp,.slice none 0 d]).run P w= .ok (.slice p n cp) w:=by
        unfold Builtin.append_;have i0:(#[t,t]:Array TypeId)[0]?=some t:=rfl;have i1:(#[t,t]:Array TypeId)[1]?=some t:=rfl;have i2:(#[Value.slice p n cp,Value.slice none 0 d]:Array Value)[0]?=some (Value.slice p n cp):=rfl;have i3:(#[Value.slice p n cp,Value.slice none 0 d]:Array Value)[1]?=some (Value.slice none 0 d):=rfl;simp only[i0,i1,i2,i3,Sem.run_bind,hu0,Result.andThen_ok,cm hi,Sem.run_pure,Bool.false_eq_true,if_false,Builtin.lenOf,Nat.add_zero,hle,if_true,Bool.not_false,Builtin.firstCells];cases p <;> rfl
       simp [execOp,ho,resolve,invoke,builtin,hs',hx',hb,Result.andThen]
      rw[hrun,Oper.upon_value];exact hK' _ _ (conv _ _ (by simpa using hsl) (XTouch.refl _ _) (λ b hb=>.inl hb) hsl (.inl ⟨p,cp,rfl,rfl⟩))
     ·exact xk hg s x t ho e i z i.size i.bytes hu hi hz rfl rfl b1 b2 (.slice p n cp) n olds (by rw[he];exact hs) hsl ad m d news (by rw[he];exact hx) hn hcell h1 h2 h3 conv
    ·exact h.elim
   ·exact h.elim
  ·exact h.elim
 ·exact h.elim
theorem zb {P:Program}{Z:List PanicEntry->World->Prop}{o:Oper}{a:Act}{w:World}{F:Fr}{k:Value->World->Prop}{next:Act->World->Prop}{Q:Exit->Act->World->Prop} (he:a.eval=ev F) (h:aaz P Z (execOp (ev F) o) w k) (hk:∀ v w',k v w'->next (a.put o.dst v) w') (hZ:∀ c w',Z c w'->Q (.panic c) a w'):o.wp P a w next Q:=by
 unfold Oper.wp;rw[he];rcases h with ⟨v,w',h1,h2⟩ | ⟨w',h1,h2⟩ | ⟨f,args,h1,h2⟩ | ⟨v,w',h1,h2⟩
 ·rw[h1];exact hk _ _ h2
 ·rw[h1];exact hk _ _ h2
 ·rw[h1,Oper.upon_enter];refine h2.mono ?_;rintro e w' (⟨v,rfl,hv⟩ | ⟨c,rfl,hc⟩)
  ·exact hk _ _ hv
  ·exact hZ _ _ hc
 ·rw[h1];exact hZ _ _ h2
theorem agv {P:Program}{pk:List Nat}{Z:List PanicEntry->World->Prop}{ops:Array Oper}{rest:List Oper}{o:Oper}{a:Act}{Q:Exit->Act->World->Prop}{w:World}{k:Value->World->Prop}{F:Fr} (he:a.eval=ev F)
  (h:Wo P pk Z o F w k) (hk:∀ v w',k v w'->wpList P ops Q rest (a.put o.dst v) w') (hZ:∀ c w',Z c w'->Q (.panic c) a w'):o.wp P a w (wpList P ops Q rest) Q∨(o.asks P a w/\LetsOut Q):=by
 by_cases hap:∃ c,o.op= .call c/\c.callee= .builtin .append
 ·obtain⟨c,ho,hc⟩:=hap;have h':Wo P pk Z { o with guard:=none } F w k:=h;have:=za (o:={ o with guard:=none }) (ops:=ops) (rest:=rest) (Q:=Q) rfl he ho hc h' hk;unfold wpList at this;exact this
 ·exact .inl (zb he (Rd (λ c hc b hb e=>hap ⟨c,hc,by rw[hb,e]⟩) h) hk hZ)
theorem iu {n:Nat}{ops:List Oper}{o:Oper}{F:Fr}{a:Act}{yes no:Fr->Prop} (h:od ops o F yes no) (hI:Is D n F a) :
  (Region.wanted o (yielded ops.toArray a.tmps)=true/\∃ F',Is D n F' a/\yes F')∨(Region.wanted o (yielded ops.toArray a.tmps)=false/\∃ F',Is D n F' a/\no F'):=by
 unfold od at h;split at h
 ·rename_i hg;exact .inl ⟨by unfold Region.wanted;rw[hg],F,hI,h⟩
 ·rename_i j want hg;split at h
  ·rename_i d hd
   have hy:yielded ops.toArray a.tmps j=match a.tmps[d]? with | some (.bool b)=>some b | _=>none:=by
    unfold yielded
    have:(ops.toArray[j]?).bind (·.dst)=some d:=by simpa using hd
    rw[this];simp only[Option.bind_some];split <;> simp_all
   split at h
   ·rename_i b hb
    have ha:a.tmps[d]?=some (.bool b):=by
     have:=hI.at_ d;rw[hb] at this
     cases e:a.tmps[d]? with
     | none=>simp [Array.getD_eq_getD_getElem?,e,undef] at this
     | some v=>simp [Array.getD_eq_getD_getElem?,e] at this;rw[this]
    rw[ha] at hy;dsimp only at hy
    have hw:Region.wanted o (yielded ops.toArray a.tmps)=(some b==some want):=by unfold Region.wanted;rw[hg];dsimp only;rw[hy]
    have hkn:∀ q,b=q->Is D n (F.know (.tmp d) q) a:=λ q e=>hI.know (x:=.tmp d) (by rw[<- e];exact hb);rcases rk h with ⟨rfl,h⟩ | ⟨rfl,h⟩
    ·cases want
     ·exact .inr ⟨by rw[hw];rfl,_,hkn _ rfl,h⟩
     ·exact .inl ⟨by rw[hw];rfl,_,hkn _ rfl,h⟩
    ·cases want
     ·exact .inl ⟨by rw[hw];rfl,_,hkn _ rfl,h⟩
     ·exact .inr ⟨by rw[hw];rfl,_,hkn _ rfl,h⟩
   ·rename_i vs hb
    have hw:Region.wanted o (yielded ops.toArray a.tmps)=false:=by
     unfold Region.wanted;rw[hg];dsimp only;rw[hy];have:=hI.at_ d;rw[hb] at this
     cases e:a.tmps[d]? with
     | none=>rfl
     | some v=>simp [Array.getD_eq_getD_getElem?,e] at this;rw[this];rfl
    exact .inr ⟨hw,F,hI,h⟩
   ·exact h.elim
  ·exact h.elim
theorem ku (a:Act) (d:Option Tmp) (v:Value) (t:Nat) (h:d≠some t):(a.put d v).tmps.getD t undef=a.tmps.getD t undef:=by
 cases d with
 | none=>rfl
 | some d =>
  show(a.tmps.setIfInBounds d v).getD t undef=_;rw[Mf,if_neg (λ q=>h (by rw[q.1]))]
theorem zd {n:Nat}{P:Program}{pk:List Nat}{Z:List PanicEntry->World->Prop}{ops:List Oper}{Q:Exit->Act->World->Prop} (E:List Nat) (T:Nat->Value) (hZ:∀ c F a w,Is D n F a->Z c w->(∀ t,t ∉ E->a.tmps.getD t undef=T t)->Q (.panic c) a w) (tail:List Oper):∀ (l:List Oper) (F:Fr) (a:Act) (w:World) (k:Fr->World->Prop),(∀ t,t ∉ E->a.tmps.getD t undef=T t)->(∀ o ∈ l,∀ d,o.dst=some d->d ∈ E)->yq n P pk Z ops l F w k->Is D n F a ->
  (∀ F' a' w',Is D n F' a'->k F' w'->(∀ t,t ∉ E->a'.tmps.getD t undef=a.tmps.getD t undef)->wpList P ops.toArray Q tail a' w')->wpList P ops.toArray Q (l++tail) a w:=by
 intro l
 induction l with
 | nil=>intro F a w k hT hD h hI hq;exact hq F a w hI h (λ _ _=>rfl)
 | cons o rest ih =>
  intro F a w k hT hD h hI hq
  have hput:∀ (F:Fr) (v:Value) (w':World),Is D n F a->yq n P pk Z ops rest (F.put n o.dst v) w' k->wpList P ops.toArray Q (rest++tail) (a.put o.dst v) w':=λ F v w' hI h =>
   ih _ _ _ k (λ t ht=>by
    rw[ku]
    ·exact hT t ht
    ·intro e;exact ht (hD o (.head _) t e)) (λ o' ho'=>hD o' (.tail _ ho')) h (hI.put _ _) (λ F' a' w'' h1 h2 h3=>hq F' a' w'' h1 h2 (λ t ht=>by
    rw[h3 t ht,ku]
    intro e;exact ht (hD o (.head _) t e)))
  show wpList P ops.toArray Q (o::(rest++tail)) a w;unfold wpList;rcases iu h hI with ⟨hw,F',hI',hy⟩ | ⟨hw,F',hI',hn⟩
  ·rw[if_pos hw];exact agv hI'.eval hy (λ v w' hv=>hput F' v w' hI' hv) (λ c w' hz=>hZ c F' a w' hI' hz hT)
  ·rw[if_neg (by rw[hw];exact Bool.false_ne_true)];exact hput F' undef w hI' hn
theorem ze {P:Program}{o:Oper}{F:Fr}{f:FuncId}{args:Array Value} (h:Md P o F=some (f,args)) (hk:Gn P f=true) (w:World):(execOp (ev F) o).run P w= .ok (.enter f args) w:=by
 unfold Md at h;split at h
 ·rename_i c ho;split at h
  ·rename_i x hc;split at h
   ·rename_i f' first captured hx
    cases h;unfold Gn at hk;split at hk
    ·rename_i fn hf;rw[Bool.and_eq_true] at hk;have:=jc hf hk.1 hk.2 (first++c.args.map (ev F)++captured) w;obtain⟨dst,op,type,pos,after,guard⟩:=o;dsimp only at ho;subst ho;show(do let d ← resolve (ev F) c type;invoke d.target d.args:Sem Next).run P w=_;unfold resolve;rw[hc];simp only[hx,Deferred.ofValue];rw[Sem.run_bind];simp only[Sem.run_pure,Result.andThen_ok,invoke];exact this
    ·cases hk
   ·cases h
  ·cases h
 ·cases h
theorem Ol {n:Nat}{P:Program}{ops:List Oper}{w:World} (Q:Act->Prop) (E:List Nat):∀ (l:List Oper) (F:Fr) (a:Act) (k:Fr->Prop),(∀ o ∈ l,∀ d,o.dst=some d->d ∈ E)->vn n P ops w l F k->Is D n F a ->
  (∀ F' a',Is D n F' a'->k F'->(∀ t,t ∉ E->a'.tmps.getD t undef=a.tmps.getD t undef)->Q a')->wpStill P ops.toArray w Q l a:=by
 intro l
 induction l with
 | nil=>intro F a k hD h hI hq;exact hq F a hI h (λ _ _=>rfl)
 | cons o rest ih =>
  intro F a k hD h hI hq
  have hput:∀ (F:Fr) (v:Value),Is D n F a->vn n P ops w rest (F.put n o.dst v) k->wpStill P ops.toArray w Q rest (a.put o.dst v):=λ F v hI h =>
   ih _ _ k (λ o' ho'=>hD o' (.tail _ ho')) h (hI.put _ _) (λ F' a' h1 h2 h3=>hq F' a' h1 h2 (λ t ht=>by
    rw[h3 t ht,ku]
    intro e;exact ht (hD o (.head _) t e)))
  unfold wpStill;rcases iu h hI with ⟨hw,F',hI',hy⟩ | ⟨hw,F',hI',hn⟩
  ·rw[if_pos hw];unfold Oper.still;rw[hI'.eval];split at hy
   ·rename_i f args hc;obtain⟨hk,hy⟩:=ap hy;obtain⟨v,h1,h2⟩:=vq _ _ hy;rw[ze hc hk w];exact⟨rfl,v,h1,hput F' v hI' h2⟩
   ·obtain⟨v,h1,h2⟩:=kr hy;have h0:(execOp (ev F') o).run P w= .ok (.value v) w:=h1 w (Keeps.refl w);rw[h0];exact⟨rfl,hput F' v hI' h2⟩
  ·rw[if_neg (by rw[hw];exact Bool.false_ne_true)];exact hput F' undef hI' hn
theorem Om {n:Nat}{P:Program}{ops:List Oper}{w:World} (Q:Act->Prop) (E:List Nat):∀ (l:List Oper) (F:Fr) (a:Act) (k:Fr->Prop),(∀ o ∈ l,∀ d,o.dst=some d->d ∈ E)->vo n P ops w l F k->Is D n F a ->
  (∀ F' a',Is D n F' a'->k F'->(∀ t,t ∉ E->a'.tmps.getD t undef=a.tmps.getD t undef)->Q a')->wpQuiet P ops.toArray (λ w'=>∃ m,w'=w.drewN m) Q l a:=by
 intro l
 induction l with
 | nil=>intro F a k hD h hI hq;exact hq F a hI h (λ _ _=>rfl)
 | cons o rest ih =>
  intro F a k hD h hI hq
  have hput:∀ (F:Fr) (v:Value),Is D n F a->vo n P ops w rest (F.put n o.dst v) k->wpQuiet P ops.toArray (λ w'=>∃ m,w'=w.drewN m) Q rest (a.put o.dst v):=λ F v hI h =>
   ih _ _ k (λ o' ho'=>hD o' (.tail _ ho')) h (hI.put _ _) (λ F' a' h1 h2 h3=>hq F' a' h1 h2 (λ t ht=>by
    rw[h3 t ht,ku]
    intro e;exact ht (hD o (.head _) t e)))
  unfold wpQuiet;rcases iu h hI with ⟨hw,F',hI',hy⟩ | ⟨hw,F',hI',hn⟩
  ·rw[if_pos hw];unfold Oper.quiet;split at hy
   ·rename_i f args hc;obtain⟨hk,hy⟩:=ap hy;obtain⟨v,h1,h2⟩:=vq _ _ hy;refine⟨v,?_,hput F' v hI' h2⟩;rintro w' ⟨m,rfl⟩;unfold Oper.quietAt;rw[hI'.eval,ze hc hk];exact⟨rfl,h1 m⟩
   ·obtain⟨v,h1,h2⟩:=kr hy;refine⟨v,?_,hput F' v hI' h2⟩;rintro w' ⟨m,rfl⟩;unfold Oper.quietAt;rw[hI'.eval,h1 _ (Kc w m)];exact⟨rfl,rfl⟩
  ·rw[if_neg (by rw[hw];exact Bool.false_ne_true)];exact hput F' undef hI' hn
section
variable {P:Program}{ops:Array Oper}{Q:Exit->Act->World->Prop}{S:Array Bool->World->Prop}
def ug (P:Program) (ops:Array Oper) (Q:Exit->Act->World->Prop) (S:Array Bool->World->Prop):Nat->Array Bool->Act->World->Prop
 | 0,listed,a,w=>Region.ready .any ops listed=[]/\Q .normal a w
 | fuel+1,listed,a,w =>
  (Region.ready .any ops listed=[]->Q .normal a w) /\
  ∀ i ∈ Region.ready .any ops listed,wpOp P ops Q i (λ a' w'=>S (listed.setIfInBounds i true) w'/\ug P ops Q S fuel (listed.setIfInBounds i true) a' w') a w
theorem Cl:∀ (fuel:Nat) (listed:Array Bool) (a:Act) (w:World),ug P ops Q S fuel listed a w->wpAny P .any ops Q fuel listed a w
 | 0,_,_,_,h=>h
 | fuel+1,_,_,_,h=>⟨h.1,λ i hi=>wpOp_mono (λ a' w' h'=>Cl fuel _ a' w' h'.2) (h.2 i hi)⟩
def Closed (ops:Array Oper) (L:Array Bool):Prop:=∀ j oj,ops[j]?=some oj->L.getD j false=true->∀ e ∈ oj.after,Region.binds .any e=true->L.getD e.on false=true
theorem jv {L:Array Bool}{j k:Nat} (h:L.getD k false=true):(L.setIfInBounds j true).getD k false=true:=by
 by_cases e:j=k
 ·subst e;by_cases hj:j<L.size
  ·simp [Array.getD_eq_getD_getElem?,hj]
  ·simp [Array.getD_eq_getD_getElem?,hj] at h
 ·rw[getD_set_ne false e];exact h
theorem Closed.set {L:Array Bool} (h:Closed ops L){j:Nat} (hj:j ∈ Region.ready .any ops L):Closed ops (L.setIfInBounds j true):=by
 intro k ok hk hl e he hb;obtain⟨-,oj,hoj,hall⟩:=mem_ready.1 hj;by_cases hjk:j=k
 ·subst hjk;obtain rfl:oj=ok:=by rw[hoj] at hk;exact Option.some.inj hk
  exact jv (hall e he hb)
 ·rw[getD_set_ne false hjk] at hl;exact jv (h k ok hk hl e he hb)
theorem On {L:Array Bool} (h:Closed ops L):∀ (n x i:Nat),(∀ o,ops[x]?=some o->∀ e ∈ o.after,Region.binds .any e=true->L.getD e.on false=true)->Oa ops n x i=true->L.getD i false=true:=by
 have direct:∀ (x i:Nat),(∀ o,ops[x]?=some o->∀ e ∈ o.after,Region.binds .any e=true->L.getD e.on false=true)->xz ops x i=true->L.getD i false=true:=by
  intro x i hx hr;unfold xz at hr
  cases ho:ops[x]? with
  | none=>rw[ho] at hr;cases hr
  | some o =>
   rw[ho] at hr;obtain⟨e,he,hb⟩:=Array.any_eq_true'.1 hr;rw[Bool.and_eq_true] at hb;have:=hx o ho e he hb.1;rwa [Nat.eq_of_beq_eq_true hb.2] at this
 intro n
 induction n with
 | zero=>intro x i hx hr;exact direct x i hx hr
 | succ n ih =>
  intro x i hx hr;unfold Oa at hr;rw[Bool.or_eq_true] at hr;rcases hr with hr | hr
  ·exact direct x i hx hr
  ·cases ho:ops[x]? with
   | none=>rw[ho] at hr;cases hr
   | some o =>
    rw[ho] at hr;obtain⟨e,he,hb⟩:=Array.any_eq_true'.1 hr;rw[Bool.and_eq_true] at hb;have hl:=hx o ho e he hb.1;exact ih e.on i (λ o' ho' e' he' hb'=>h e.on o' ho' hl e' he' hb') hb.2
theorem uh {S':Array Bool->World->Prop} (hs:∀ L w,S' L w->S L w):∀ (fuel:Nat) (listed:Array Bool) (a:Act) (w:World),ug P ops Q S' fuel listed a w->ug P ops Q S fuel listed a w
 | 0,_,_,_,h=>h
 | fuel+1,_,_,_,h=>⟨h.1,λ i hi=>wpOp_mono (λ a' w' h'=>⟨hs _ _ h'.1,uh hs fuel _ a' w' h'.2⟩) (h.2 i hi)⟩
theorem gn {S1:World->Prop}{st i:Nat}{oi:Oper}{v:Value} (hi:ops[i]?=some oi) (hsel:∀ (j:Nat) (o:Oper) cs b,ops[j]?=some o->o.op≠ .select cs b)
  (hQ:∀ c a w,Q (.panic c) (a.put oi.dst v) w->Q (.panic c) a w) (hS1:∀ (L:Array Bool) (w:World),S L w->S (L.setIfInBounds i true) w) (hS2:∀ (L:Array Bool) (j:Nat) (w:World),S ((L.setIfInBounds i true).setIfInBounds j true) w->S (L.setIfInBounds j true) w)
  (hcase:(∀ w,S1 w)∨(Wp ops st i=true/\∀ L w,S L w->L.getD st false=true∨S1 w)) :
  ∀ (fuel:Nat) (listed:Array Bool) (a:Act) (w:World),Closed ops listed ->
   (∀ j oj,ops[j]?=some oj->j≠i->listed.getD j true=false->(∀ e ∈ oj.after,Region.binds .any e=true->e.on≠i)->oi.apart ops oj=true) ->
   i ∈ Region.ready .any ops listed->YieldsIf P ops S1 oi v a->((∀ w,S1 w)∨listed.getD st false=false)->S1 w->S listed w ->
   ug P ops Q S fuel (listed.setIfInBounds i true) (a.put oi.dst v) w->ug P ops Q S (fuel+1) listed a w:=by
 intro fuel
 induction fuel with
 | zero =>
  intro listed a w _ _ hr hy hend hS hS' H;refine⟨λ h=>(by rw[h] at hr;cases hr),λ j hj=>?_⟩;by_cases hji:j=i
  ·subst hji;exact hy.wpOp hi hS ⟨hS1 _ _ hS',H⟩
  ·have:=ready_mono hj hji;rw[H.1] at this;cases this
 | succ fuel ih =>
  intro listed a w hcl hfree hr hy hend hS hS' H;refine⟨λ h=>(by rw[h] at hr;cases hr),λ j hj=>?_⟩;by_cases hji:j=i
  ·subst hji;exact hy.wpOp hi hS ⟨hS1 _ _ hS',H⟩
  ·have h1:=H.2 j (ready_mono hj hji);obtain⟨hjun,oj,hoj,hall⟩:=mem_ready.1 hj
   have hiun:∀ q,listed.getD i q=true->False:=λ q h1=>by
    have h0:=(mem_ready.1 hr).1;rcases Nat.lt_or_ge i listed.size with h' | h'
    ·simp [h'] at h0 h1;rw[h0] at h1;cases h1
    ·simp [h'] at h0
   have hnot:∀ e ∈ oj.after,Region.binds .any e=true->e.on≠i:=λ e he hb heq=>by
    have h1:=hall e he hb;rw[heq] at h1;exact hiun _ h1
   have h2:=wpOp_putIf hoj (hfree j oj hoj hji hjun hnot) (λ cs b=>hsel i oi cs b hi) (λ cs b=>hsel j oj cs b hoj) hQ hy h1
   have hfree':∀ k ok,ops[k]?=some ok->k≠i->(listed.setIfInBounds j true).getD k true=false ->
     (∀ e ∈ ok.after,Region.binds .any e=true->e.on≠i)->oi.apart ops ok=true:=λ k ok hk hki hun hno=>by
    refine hfree k ok hk hki ?_ hno;by_cases hjk:j=k
    ·subst hjk;exact hjun
    ·rw[getD_set_ne true hjk] at hun;exact hun
   refine wpOp_mono (λ a' w' h3=>?_) h2;have hSj:S (listed.setIfInBounds j true) w':=hS2 _ _ _ h3.2.1
   have hnext:((∀ w,S1 w)∨(listed.setIfInBounds j true).getD st false=false)/\S1 w':=by
    rcases hcase with hp | ⟨hw,hsp⟩
    ·exact⟨.inl hp,hp w'⟩
    ·rcases hend with hp | hend
     ·exact⟨.inl hp,hp w'⟩
     ·have hjs:j≠st:=by
       rintro rfl;unfold Wp at hw;rw[hoj] at hw
       exact hiun _ (On hcl 5 j i (λ o ho e he hb=>by
        obtain rfl:oj=o:=by rw[hoj] at ho;exact Option.some.inj ho
        exact hall e he hb) hw)
      have hg:(listed.setIfInBounds j true).getD st false=false:=by rw[getD_set_ne false hjs];exact hend
      refine⟨.inr hg,?_⟩;rcases hsp _ _ hSj with h4 | h4
      ·rw[hg] at h4;cases h4
      ·exact h4
   refine⟨hSj,ih (listed.setIfInBounds j true) a' w' (hcl.set hj) hfree' (ready_mono hr (Ne.symm hji)) h3.1 hnext.1 hnext.2 hSj ?_⟩;rw[Array.setIfInBounds_comm _ _ hji];exact h3.2.2
end
theorem Cm {f:Nat->Prop}:∀ (rs:List Nat),Wq rs f->∀ i ∈ rs,f i
 | [],_,i,hi=>by cases hi
 | [j],h,i,hi=>by
  rcases List.mem_cons.1 hi with rfl | hi
  ·exact h
  ·cases hi
 | j::k::r,h,i,hi=>by
  have h':f j/\Wq (k::r) f:=h;rcases List.mem_cons.1 hi with rfl | hi
  ·exact h'.1
  ·exact Cm (k::r) h'.2 i hi
def Oo (P:Program) (stop:Nat) (w0:World) (E:List Still) (L:Array Bool) (w:World):Prop:=(L.getD stop false=true∨Below w0.heap.size w0 w)/\∀ e ∈ E,L.getD e.st false=true∨Kf P (execOp (ev e.F) e.o) w e.v
def Mh (ops:Array Oper) (i:Nat):Prop:=∀ o,ops[i]?=some o->nc o.op=false
theorem fz {P:Program}{stop:Nat}{w0 w:World}{E:List Still}{L:Array Bool}{i:Nat} (h:Oo P stop w0 E L w):Oo P stop w0 E (L.setIfInBounds i true) w :=
 ⟨h.1.imp jv id,λ e he=>(h.2 e he).imp jv id⟩
theorem kj {P:Program}{ops:Array Oper}{stop:Nat}{w0 w:World}{E:List Still}{L:Array Bool}{i j:Nat} (hne:i≠stop) (hE:∀ e ∈ E,i≠e.st) (h:Oo P stop w0 E ((L.setIfInBounds i true).setIfInBounds j true) w):Oo P stop w0 E (L.setIfInBounds j true) w:=by
 have key:∀ k,i≠k->((L.setIfInBounds i true).setIfInBounds j true).getD k false=true->(L.setIfInBounds j true).getD k false=true:=by
  intro k hk hg;by_cases hji:j=i
  ·subst hji;rw[getD_set_ne false hk,getD_set_ne false hk] at hg;rw[getD_set_ne false hk];exact hg
  ·rw[Array.setIfInBounds_comm _ _ (Ne.symm hji),getD_set_ne false hk] at hg;exact hg
 exact⟨h.1.imp (key _ hne) id,λ e he=>(h.2 e he).imp (key _ (hE e he)) id⟩
theorem rl {P:Program}{L:Array Bool}{w:World}:∀ {E:List Still}{k:Prop},ju P L w E k->(∀ e ∈ E,L.getD e.st false=true∨Kf P (execOp (ev e.F) e.o) w e.v)/\k
 | [],k,h=>⟨λ _ h'=>(by cases h'),h⟩
 | e::E,k,h=>by
  unfold ju at h
  cases hg:L.getD e.st false with
  | true =>
   rw[hg] at h;obtain⟨h1,h2⟩:=rl (E:=E) h
   exact⟨λ x hx=>by
    rcases List.mem_cons.1 hx with rfl | hx
    ·exact .inl hg
    ·exact h1 x hx,h2⟩
  | false =>
   rw[hg] at h;obtain⟨h1,h2⟩:=rl (E:=E) h.2;obtain⟨v,hv,rfl⟩:=kr h.1
   exact⟨λ x hx=>by
    rcases List.mem_cons.1 hx with rfl | hx
    ·exact .inr hv
    ·exact h1 x hx,h2⟩
theorem zf {P:Program}{op:Op} (h:qj P op=true):nc op=true:=by
 cases op <;> first | rfl | cases h
theorem zg {ops:Array Oper} (i:Nat):Mh ops (qk ops i):=by
 intro o ho;unfold qk at ho
 cases hf:(List.range ops.size).find? (λ j=>Dt ops j&&Oa ops 5 j i) with
 | none=>rw[hf] at ho;simp at ho
 | some j =>
  rw[hf] at ho;have:=List.find?_some hf;rw[Bool.and_eq_true] at this;have h1:=this.1;unfold Dt at h1;rw[show ops[j]?=some o from ho] at h1;simpa using h1
theorem Re {n:Nat}{P:Program}{pk:List Nat}{Z:List PanicEntry->World->Prop}{ops:Array Oper}{stop:Nat}{early:Bool}{w0:World}{Q:Exit->Act->World->Prop} (hns:Region.noSelect ops=true) (E:List Nat) (T:Nat->Value) (hQ:∀ c a d v w,(∀ t,d=some t->t ∈ E)->Q (.panic c) (Act.put a d v) w->Q (.panic c) a w) (hZ:∀ c F a w,Is D n F a->Z c w->(∀ t,t ∉ E->a.tmps.getD t undef=T t)->Q (.panic c) a w) (hD:∀ (i:Nat) (o:Oper),ops[i]?=some o->∀ d,o.dst=some d->d ∈ E) :
  ∀ (fuel:Nat) (L:Array Bool) (ES:List Still) (F:Fr) (a:Act) (w:World) (k:Fr->World->Prop),(∀ t,t ∉ E->a.tmps.getD t undef=T t)->(∀ e ∈ ES,Mh ops e.st)->ma n P pk Z ops stop early w0 fuel L ES F w k->Is D n F a->Closed ops L->Oo P stop w0 ES L w ->
   (∀ F' a' w',Is D n F' a'->k F' w'->(∀ t,t ∉ E->a'.tmps.getD t undef=a.tmps.getD t undef)->Q .normal a' w') ->
   ug P ops Q (Oo P stop w0 ES) fuel L a w:=by
 intro fuel
 induction fuel with
 | zero =>
  intro L ES F a w k hT hES h hI hcl hS hq;unfold ma at h;split at h
  ·rename_i hr;exact⟨hr,hq F a w hI h (λ _ _=>rfl)⟩
  ·exact h.elim
 | succ fuel ih =>
  intro L ES F a w k hT hES h hI hcl hS hq;unfold ma at h;split at h
  ·rename_i hr;exact⟨λ _=>hq F a w hI h (λ _ _=>rfl),by rw[hr];simp⟩
  ·rename_i hrne
   have step:∀ (ES:List Still) (i:Nat) (o:Oper),(∀ e ∈ ES,Mh ops e.st)->ops[i]?=some o->i ∈ Region.ready .any ops L->∀ (F:Fr) (v:Value) (w':World),Is D n F a->Oo P stop w0 ES (L.setIfInBounds i true) w'->ma n P pk Z ops stop early w0 fuel (L.setIfInBounds i true) ES (F.put n o.dst v) w' k ->
     ug P ops Q (Oo P stop w0 ES) fuel (L.setIfInBounds i true) (a.put o.dst v) w':=λ ES i o hES ho hir F v w' hI hS h =>
    ih _ ES _ _ _ k (λ t ht=>by
     rw[ku]
     ·exact hT t ht
     ·intro e;exact ht (hD i o ho t e)) hES h (hI.put _ _) (hcl.set hir) hS (λ F' a' w'' h1 h2 h3=>hq F' a' w'' h1 h2 (λ t ht=>by
     rw[h3 t ht,ku]
     intro e;exact ht (hD i o ho t e)))
   have apartE:∀ {i:Nat} {o:Oper},ops[i]?=some o->nc o.op=true->∀ e ∈ ES,i≠e.st:=λ ho hr e he heq=>by
    have:=hES e he _ (heq ▸ ho);rw[hr] at this;cases this
   split at h
   ·rename_i i hfind;split at h
    ·rename_i o ho;have hmem:=List.mem_of_find?_eq_some hfind;have htk:=List.find?_some hfind;unfold Me at htk;rw[ho] at htk;simp only[Bool.and_eq_true,Bool.not_eq_true'] at htk;obtain⟨⟨t1,t2⟩,t5⟩:=htk
     have hne:i≠stop:=λ e=>by rw[e,Nat.beq_refl] at t5;cases t5
     have hE:=apartE ho (zf t1);rcases iu h hI with ⟨hw,F',hI',hy⟩ | ⟨hw,F',hI',hn⟩
     ·obtain⟨v,h1,h2⟩:=Oh t1 hy;refine gn (S1:=λ _=>True) (st:=stop) (v:=v) ho (Region.noSelect_spec hns) (λ c a w hc=>hQ _ _ _ _ _ (λ t e=>hD _ _ ho t e) hc) (λ _ _=>fz) (λ _ _ _=>kj (ops:=ops) hne hE) (.inl λ _=>trivial) fuel L a w hcl (Region.free_spec ho t2) hmem (.inl ⟨by simpa using hw,λ w' _=>by rw[hI'.eval];exact h1 w'⟩) (.inl λ _=>trivial) trivial hS ?_;exact step ES i o hES ho hmem F' v w hI' (fz hS) h2
     ·refine gn (S1:=λ _=>True) (st:=stop) (v:=undef) ho (Region.noSelect_spec hns) (λ c a w hc=>hQ _ _ _ _ _ (λ t e=>hD _ _ ho t e) hc) (λ _ _=>fz) (λ _ _ _=>kj (ops:=ops) hne hE) (.inl λ _=>trivial) fuel L a w hcl (Region.free_spec ho t2) hmem (.inr ⟨by simpa using hw,rfl⟩) (.inl λ _=>trivial) trivial hS ?_;exact step ES i o hES ho hmem F' undef w hI' (fz hS) hn
    ·exact h.elim
   split at h
   ·rename_i i hfind;split at h
    ·rename_i o ho;have hmem:=List.mem_of_find?_eq_some hfind;have htk:=List.find?_some hfind;unfold Qs at htk;rw[ho] at htk;simp only[Bool.and_eq_true,Bool.not_eq_true'] at htk;obtain⟨⟨⟨⟨t1,t2⟩,t5⟩,t3⟩,t4⟩:=htk
     have hne:i≠stop:=λ e=>by rw[e,Nat.beq_refl] at t5;cases t5
     have hE:=apartE ho t1;have hB:Below w0.heap.size w0 w:=hS.1.resolve_left (by rw[t3];exact Bool.false_ne_true);rcases iu h hI with ⟨hw,F',hI',hy⟩ | ⟨hw,F',hI',hn⟩
     ·obtain⟨v,h1,h2⟩:=kr hy;refine gn (S1:=Below w0.heap.size w0) (st:=stop) (v:=v) ho (Region.noSelect_spec hns) (λ c a w hc=>hQ _ _ _ _ _ (λ t e=>hD _ _ ho t e) hc) (λ _ _=>fz) (λ _ _ _=>kj (ops:=ops) hne hE) (.inr ⟨t4,λ _ _ h=>h.1⟩) fuel L a w hcl (Region.free_spec ho t2) hmem (.inl ⟨by simpa using hw,λ w' hw'=>by rw[hI'.eval];exact h1 w' (Kd hw')⟩) (.inr t3) hB hS ?_;exact step ES i o hES ho hmem F' v w hI' (fz hS) h2
     ·refine gn (S1:=Below w0.heap.size w0) (st:=stop) (v:=undef) ho (Region.noSelect_spec hns) (λ c a w hc=>hQ _ _ _ _ _ (λ t e=>hD _ _ ho t e) hc) (λ _ _=>fz) (λ _ _ _=>kj (ops:=ops) hne hE) (.inr ⟨t4,λ _ _ h=>h.1⟩) fuel L a w hcl (Region.free_spec ho t2) hmem (.inr ⟨by simpa using hw,rfl⟩) (.inr t3) hB hS ?_;exact step ES i o hES ho hmem F' undef w hI' (fz hS) hn
    ·exact h.elim
   split at h
   ·rename_i i hfind0
    have hfind:(Region.ready .any ops L).find? (Du ops stop L)=some i:=by
     cases early with
     | true=>exact hfind0
     | false=>cases hfind0
    split at h
    ·rename_i o ho;have hmem:=List.mem_of_find?_eq_some hfind;have htk:=List.find?_some hfind;unfold Du at htk;rw[ho] at htk;simp only[Bool.and_eq_true,Bool.not_eq_true'] at htk;obtain⟨⟨⟨⟨t1,t2⟩,t5⟩,t3⟩,t4⟩:=htk
     have hne:i≠stop:=λ e=>by rw[e,Nat.beq_refl] at t5;cases t5
     have hE:=apartE ho t1;rcases iu h hI with ⟨hw,F',hI',hy⟩ | ⟨hw,F',hI',hn⟩
     ·obtain⟨v,h1,h2⟩:=kr hy
      have hne2:i≠qk ops i:=λ e=>by
       have:=zg (ops:=ops) i o (e ▸ ho);rw[t1] at this;cases this
      have hE':∀ e ∈ (⟨qk ops i,o,F',v⟩::ES:List Still),i≠e.st:=λ e he=>by
       rcases List.mem_cons.1 he with rfl | he
       ·exact hne2
       ·exact hE e he
      have hES':∀ e ∈ (⟨qk ops i,o,F',v⟩::ES:List Still),Mh ops e.st:=λ e he=>by
       rcases List.mem_cons.1 he with rfl | he
       ·exact zg i
       ·exact hES e he
      have hS':Oo P stop w0 (⟨qk ops i,o,F',v⟩::ES) L w:=⟨hS.1,λ e he=>by
       rcases List.mem_cons.1 he with rfl | he
       ·exact .inr h1
       ·exact hS.2 e he⟩
      refine uh (S':=Oo P stop w0 (⟨qk ops i,o,F',v⟩::ES)) (λ L w h=>⟨h.1,λ e he=>h.2 e (List.mem_cons_of_mem _ he)⟩) _ _ _ _ ?_;refine gn (S1:=λ w'=>Kf P (execOp (ev F') o) w' v) (st:=qk ops i) (v:=v) ho (Region.noSelect_spec hns) (λ c a w hc=>hQ _ _ _ _ _ (λ t e=>hD _ _ ho t e) hc) (λ _ _=>fz) (λ _ _ _=>kj (ops:=ops) hne hE') (.inr ⟨t4,λ _ _ h=>h.2 _ (List.mem_cons_self ..)⟩) fuel L a w hcl (Region.free_spec ho t2) hmem (.inl ⟨by simpa using hw,λ w' hw'=>by rw[hI'.eval];exact hw' w' (Keeps.refl w')⟩) (.inr t3) h1 hS' ?_;exact step _ i o hES' ho hmem F' v w hI' (fz hS') h2
     ·refine gn (S1:=λ _=>True) (st:=stop) (v:=undef) ho (Region.noSelect_spec hns) (λ c a w hc=>hQ _ _ _ _ _ (λ t e=>hD _ _ ho t e) hc) (λ _ _=>fz) (λ _ _ _=>kj (ops:=ops) hne hE) (.inl λ _=>trivial) fuel L a w hcl (Region.free_spec ho t2) hmem (.inr ⟨by simpa using hw,rfl⟩) (.inl λ _=>trivial) trivial hS ?_;exact step ES i o hES ho hmem F' undef w hI' (fz hS) hn
    ·exact h.elim
   ·refine⟨λ hr=>absurd hr hrne,λ i hi=>?_⟩;have hall:=Cm _ h i hi;split at hall
    ·rename_i o ho;unfold wpOp;simp only[ho]
     have below:∀ {w':World} {p:Prop},Ds ((L.setIfInBounds i true).getD stop false) w0 w' (ju P (L.setIfInBounds i true) w' ES p)->Oo P stop w0 ES (L.setIfInBounds i true) w'/\p:=by
      intro w' p hp
      cases hb:(L.setIfInBounds i true).getD stop false with
      | true=>rw[hb] at hp;obtain⟨q1,q2⟩:=rl (show ju P _ w' ES p from hp);exact⟨⟨.inl hb,q1⟩,q2⟩
      | false=>rw[hb] at hp;obtain⟨q1,q2⟩:=rl hp.2;exact⟨⟨.inr hp.1,q1⟩,q2⟩
     rcases iu hall hI with ⟨hw,F',hI',hy⟩ | ⟨hw,F',hI',hn⟩
     ·have hw':Region.wanted o (yielded ops a.tmps)=true:=by simpa using hw
      rw[if_pos hw'];by_cases hap:∃ c,o.op= .call c/\c.callee= .builtin .append
      ·obtain⟨c,hoc,hc⟩:=hap;have h':Wo P pk Z { o with guard:=none } F' w (λ v w'=>Ds ((L.setIfInBounds i true).getD stop false) w0 w' (ju P (L.setIfInBounds i true) w' ES (ma n P pk Z ops stop early w0 fuel (L.setIfInBounds i true) ES (F'.put n o.dst v) w' k))):=hy
       have:=za (o:={ o with guard:=none }) (ops:=ops) (rest:=[]) (a:=a) (Q:=λ e a' w'=>match e with | .normal=>(Oo P stop w0 ES (L.setIfInBounds i true) w'/\ug P ops Q (Oo P stop w0 ES) fuel (L.setIfInBounds i true) a' w') | _=>False) rfl hI'.eval hoc hc h' (λ v w' hv=>by
        obtain⟨b1,b2⟩:=below hv
        exact⟨b1,step ES i o hES ho hi F' v w' hI' b1 b2⟩)
       unfold wpList at this;rcases this with h5 | h5
       ·refine .inl ?_;have h6:Oper.upon P { o with guard:=none } a _ _ ((execOp a.eval o).run P w):=h5;unfold Oper.wp;generalize (execOp a.eval o).run P w=r at h6 ⊢
        cases r with
        | ok x w' =>
         cases x <;> simp only[Oper.upon] at h6 ⊢ <;> first
          | exact h6
          | (refine Calls.mono h6 λ e w'' he=>?_
             cases e with
             | returned u=>exact he
             | panicked c=>exact he.elim
             | outgrown=>exact(show LetsOut _->LetsOut Q from λ ⟨_,_,h⟩=>h.elim) he)
        | halt x w'=>cases x <;> simp only[Oper.upon] at h6
       ·exact absurd h5.2 (λ ⟨_,_,h⟩=>h)
      ·refine .inl (zb hI'.eval (Rd (λ c hc b hb e=>hap ⟨c,hc,by rw[hb,e]⟩) hy) (λ v w' hv=>?_) (λ c w' hz=>hZ c F' a w' hI' hz hT));obtain⟨b1,b2⟩:=below hv;exact⟨b1,step ES i o hES ho hi F' v w' hI' b1 b2⟩
     ·have hw':¬ Region.wanted o (yielded ops a.tmps)=true:=by
       rw[show ops=ops.toList.toArray by simp,hw];exact Bool.false_ne_true
      rw[if_neg hw'];obtain⟨b1,b2⟩:=below hn;exact⟨b1,step ES i o hES ho hi F' undef w hI' b1 b2⟩
    ·exact hall.elim
def FA (a:Act):Fr:=⟨[],λ t=>a.tmps.getD t undef⟩
theorem rm {r:Type}{F G:Fr} (h:∀ t,F.get t=G.get t):∀ (S:List (Nat×Sh)) (f:Vx S r),Ma S f F=Ma S f G
 | [],f=>rfl
 | (t,s)::S,f=>by
  unfold Ma;rw[h t];split
  ·exact rm h S _
  ·rfl
theorem Is.fa {n:Nat}{F:Fr}{a:Act} (h:Is D n F a):∀ t,F.get t=(FA a).get t:=λ t=>(h.at_ t).symm
theorem qn {r q:Type}{a:Act}{κ:(World->r)->(World->q)->List (Nat×Value)->Prop}:∀ (S:List (Nat×Sh)) (f:Vx S r) (g:Vx S q) (l:List (Nat×Value)) (f':World->r),
  Ql S f g l κ->(∀ p ∈ l,a.tmps.getD p.1 undef=p.2)->Ma S f (FA a)=some f'->∃ g' l',Ma S g (FA a)=some g'/\κ f' g' l'/\∀ p ∈ l',a.tmps.getD p.1 undef=p.2
 | [],f,g,l,f',h,hl,hf=>by
  unfold Ma at hf;cases hf;exact⟨g,l,rfl,h,hl⟩
 | (t,s)::S,f,g,l,f',h,hl,hf=>by
  have hget:(FA a).get t=a.tmps.getD t undef:=rfl
  have hcons:∀ v,a.tmps.getD t undef=v->∀ p ∈ (t,v)::l,a.tmps.getD p.1 undef=p.2:=by
   intro v hv p hp;rcases List.mem_cons.1 hp with rfl | hp
   ·exact hv
   ·exact hl p hp
  unfold Ma at hf ⊢;rw[hget] at hf ⊢;generalize hv:a.tmps.getD t undef=v at hf ⊢
  cases s <;> cases v <;> simp only[Sh.app] at hf ⊢ <;> first
   | (cases hf;done)
   | (rename_i k1 k2 x
      cases hk:decide (k2=k1) with
      | false=>rw[hk] at hf;cases hf
      | true =>
       rw[hk] at hf;obtain rfl:=of_decide_eq_true hk
       exact qn S _ _ _ f' (h _) (hcons _ hv) hf)
   | exact qn S _ _ _ f' (h _) (hcons _ hv) hf
   | exact qn S _ _ _ f' (h _ _ _) (hcons _ hv) hf
theorem Cn (a:Act):∀ (l:List (Nat×Value)),(∀ p ∈ l,a.tmps.getD p.1 undef=p.2)->∀ t,look l (λ t=>a.tmps.getD t undef) t=a.tmps.getD t undef
 | [],_,t=>rfl
 | (u,v)::l,h,t=>by
  rw[ud];split
  ·rename_i e;subst e;exact(h _ (.head _)).symm
  ·exact Cn a l (λ p hp=>h p (.tail _ hp)) t
theorem zh {n:Nat}{a:Act}{l:List (Nat×Value)} (hs:a.tmps.size=n) (hd:a.defers=D) (h:∀ p ∈ l,a.tmps.getD p.1 undef=p.2):Is D n ⟨l,λ t=>a.tmps.getD t undef⟩ a :=
 ⟨hs,hd,λ t=>(Cn a l h t).symm⟩
theorem vr {c:Code}{keep:List Nat} (h:Qt c keep=true):∀ t ∈ keep,t ∉ ri c:=by
 intro t ht hd;have h1:=List.all_eq_true.1 h t ht;have h2:=List.all_eq_true.1 h1 t hd;rw[Nat.beq_refl] at h2;cases h2
def Post (D:List Deferred) (n:Nat) (Z:List PanicEntry->World->Prop) (c:Code) (K:Ex->Fr->World->Prop) (a:Act):Exit->Act->World->Prop
 | .normal,a',w'=>(∃ F',Is D n F' a'/\K .normal F' w')/\∀ t,t ∉ ri c->a'.tmps.getD t undef=a.tmps.getD t undef
 | .exit id,a',w'=>(∃ F',Is D n F' a'/\K (.exit id) F' w')/\∀ t,t ∉ ri c->a'.tmps.getD t undef=a.tmps.getD t undef
 | .ret,a',w'=>(∃ F',Is D n F' a'/\K .ret F' w')/\∀ t,t ∉ ri c->a'.tmps.getD t undef=a.tmps.getD t undef
 | .panic ch,a',w'=>(a'.tmps.size=n/\a'.defers=D/\∀ t,t ∉ ri c->a'.tmps.getD t undef=a.tmps.getD t undef)/\Z ch w'
 | _,_,_=>False
theorem Wz (a:Act) (d:Option Tmp) (v:Value):(a.put d v).tmps.size=a.tmps.size:=by
 cases d with
 | none=>rfl
 | some d=>exact Array.size_setIfInBounds
theorem Oq (a:Act) (d:Option Tmp) (v:Value):(a.put d v).defers=a.defers:=by cases d <;> rfl
theorem Rf (w:World):({ w with drawn:=w.drawn+1 }:World)=w.drew:=rfl
theorem rn {id:Nat}{ops:Array Oper}{d:Bool}:∀ o ∈ ops.toList,∀ t,o.dst=some t->t ∈ ri (.region id ops d):=by
 intro o ho t ht;exact List.mem_filterMap.2 ⟨o,ho,ht⟩
theorem ui {n:Nat}{P:Program}{pk:List Nat}{Z:List PanicEntry->World->Prop} (c:Code):∀ (an:An) (F:Fr) (w:World) (K:Ex->Fr->World->Prop) (a:Act),vc n P pk Z c an F w K->Is D n F a->c.wp P (Post D n Z c K a) a w:=by
 induction c with
 | skip=>intro an F w K a h hI;exact wp_skip ⟨⟨F,hI,h⟩,λ _ _=>rfl⟩
 | ret=>intro an F w K a h hI;exact wp_ret ⟨⟨F,hI,h⟩,λ _ _=>rfl⟩
 | exit id=>intro an F w K a h hI;exact wp_exit ⟨⟨F,hI,h⟩,λ _ _=>rfl⟩
 | scope c ih =>
  intro an F w K a h hI;refine wp_scope_straight (wp_mono (ih _ _ _ _ _ h hI) ?_);intro e a' w' he
  cases e <;> first | exact he | exact he.elim
 | region id ops d =>
  intro an F w K a h hI
  cases d with
  | false =>
   refine wp_region_list ?_;have:=zd (n:=n) (P:=P) (ops:=ops.toList) (Q:=Post D n Z (.region id ops false) K a) (ri (.region id ops false)) (λ t=>a.tmps.getD t undef) (λ c F a w hI hz ht=>⟨⟨hI.size,hI.defers,ht⟩,hz⟩) [] ops.toList F a w (K .normal) (λ _ _=>rfl) rn h hI
    (λ F' a' w' h1 h2 h3=>⟨⟨F',h1,h2⟩,h3⟩)
   simpa using this
  | true =>
   unfold vc at h;split at h
   ·obtain⟨hb,h⟩:=ap h;rw[Bool.and_eq_true] at hb
    have e:ops=ops.toList.toArray:=by simp
    rw[e];refine wp_region_quiet_lit hb.1 (by rw[<- e];exact hb.2) ?_;have:=Om (n:=n) (P:=P) (ops:=ops.toList) (w:=w) (λ a'=>∀ w',(∃ m,w'=w.drewN m)->Post D n Z (.region id ops.toList.toArray true) K a .normal a' w') (ri (.region id ops true)) ops.toList F a _ rn h hI
     (λ F' a' h1 h2 h3 w' ⟨m,hm⟩=>⟨⟨F',h1,h2 w' m hm⟩,by simpa [ri] using h3⟩)
    exact this
   ·rename_i m hm
    cases hm1:Nat.ble 1000 m with
    | true =>
     rw[hm1] at h;obtain⟨hb,h⟩:=ap (show(bif P.follows .mixedOrders&&Region.noSelect ops then _ else False) from h);rw[Bool.and_eq_true] at hb
     refine wp_region_any hb.1 (Cl _ _ _ _ (Re (n:=n) (stop:=(m - 1000) % 1000000) (w0:=w.drew) (Q:=Post D n Z (.region id ops true) K a) hb.2 (ri (.region id ops true)) (λ t=>a.tmps.getD t undef) (λ c a' d v w hd hc=>⟨⟨by have:=hc.1.1;rwa [Wz] at this,by have:=hc.1.2.1;rwa [Oq] at this,λ t ht=>by have:=hc.1.2.2 t ht;rwa [ku _ _ _ _ (λ e=>ht (hd t e))] at this⟩,hc.2⟩) (λ c F a w hI hz ht=>⟨⟨hI.size,hI.defers,ht⟩,hz⟩) (λ i o ho=>rn o (by
      have:=Array.mem_of_getElem? ho;simpa using this)) _ _ [] F a w.drew _ (λ _ _=>rfl) (λ _ h=>by cases h) (h w.drew rfl) hI (λ j oj _ hl=>by simp [Array.getD_eq_getD_getElem?,Array.getElem?_replicate] at hl;split at hl <;> cases hl) ⟨.inr (Below.refl _ _),λ _ h=>by cases h⟩ ?_))
     intro F' a' w' h1 h2 h3;exact⟨⟨F',h1,h2⟩,h3⟩
    | false =>
    rw[hm1] at h;obtain⟨hb,h⟩:=ap (show(bif P.follows .mixedOrders&&Region.lexTailB .any ops m then _ else False) from h);rw[Bool.and_eq_true] at hb
    have e:ops=ops.toList.toArray:=by simp
    rw[e];refine wp_region_still_tail m hb.1 (by rw[<- e];exact hb.2) ?_;rw[Rf];have h:=h w.drew rfl;refine Ol (n:=n) (ops:=ops.toList) _ (ri (.region id ops true)) _ F a _ (λ o ho=>rn o (List.mem_of_mem_take ho)) h hI ?_;intro F' a' hI' h2 h3
    have hlist:=zd (n:=n) (ops:=ops.toList) (Q:=Post D n Z (.region id ops.toList.toArray true) K a) (ri (.region id ops true)) (λ t=>a.tmps.getD t undef) (λ c F a w hI hz ht=>⟨⟨hI.size,hI.defers,by simpa [ri] using ht⟩,hz⟩) [] _ F' a' _ _ h3 (λ o ho=>rn o (List.mem_of_mem_drop ho)) h2 hI' (by
     intro F'' a'' w'' h4 h5 h6
     exact⟨⟨F'',h4,h5⟩,λ t ht=>by
      have ht':t ∉ ri (.region id ops true):=by simpa [ri] using ht
      rw[h6 t ht',h3 t ht']⟩)
    rw[List.append_nil] at hlist;exact hlist
 | seq x y ihx ihy =>
  intro an F w K a h hI
  have hd1:∀ t,t ∉ ri (.seq x y)->t ∉ ri x/\t ∉ ri y:=by
   intro t ht;simp only[ri,List.mem_append,not_or] at ht;exact ht
  unfold vc at h;split at h
  ·refine wp_seq (wp_mono (ihx _ _ _ _ _ h hI) ?_);intro e a' w' he
   cases e with
   | normal =>
    obtain⟨⟨F',hI',hk⟩,hkeep⟩:=he;refine wp_mono (ihy _ _ _ _ _ hk hI') ?_;intro e a'' w'' he
    cases e with
    | normal=>exact⟨he.1,λ t ht=>by rw[he.2 t (hd1 t ht).2,hkeep t (hd1 t ht).1]⟩
    | exit id=>exact⟨he.1,λ t ht=>by rw[he.2 t (hd1 t ht).2,hkeep t (hd1 t ht).1]⟩
    | ret=>exact⟨he.1,λ t ht=>by rw[he.2 t (hd1 t ht).2,hkeep t (hd1 t ht).1]⟩
    | panic ch=>exact⟨⟨he.1.1,he.1.2.1,λ t ht=>by rw[he.1.2.2 t (hd1 t ht).2,hkeep t (hd1 t ht).1]⟩,he.2⟩
    | _=>exact he.elim
   | exit id=>exact⟨he.1,λ t ht=>he.2 t (hd1 t ht).1⟩
   | ret=>exact⟨he.1,λ t ht=>he.2 t (hd1 t ht).1⟩
   | panic ch=>exact⟨⟨he.1.1,he.1.2.1,λ t ht=>he.1.2.2 t (hd1 t ht).1⟩,he.2⟩
   | _=>exact he.elim
  ·obtain⟨hst,R,hx,hy⟩:=ap h;have hst:=vr hst;refine wp_seq (wp_mono (ihx _ _ _ _ _ hx hI) ?_);intro e a' w' he
   cases e with
   | normal =>
    obtain⟨⟨F',hI',hk⟩,hkeep⟩:=he;dsimp only at hk;unfold holds at hk;split at hk
    ·rename_i p hp;rw[rm hI'.fa] at hp
     obtain⟨g',l', -,hκ,hl'⟩:=qn (a:=a') an.S R R _ p (hy λ t=>a'.tmps.getD t undef) (by
      intro q hq;obtain⟨t,ht,rfl⟩:=List.mem_map.1 hq;show a'.tmps.getD t undef=F.get t
      rw[hkeep t (hst t ht),hI.at_]) hp
     have hI2:=zh hI'.size hI'.defers hl';refine wp_mono (ihy _ _ _ _ _ (hκ w' hk) hI2) ?_;intro e a'' w'' he
     cases e with
     | normal=>exact⟨he.1,λ t ht=>by rw[he.2 t (hd1 t ht).2,hkeep t (hd1 t ht).1]⟩
     | exit id=>exact⟨he.1,λ t ht=>by rw[he.2 t (hd1 t ht).2,hkeep t (hd1 t ht).1]⟩
     | ret=>exact⟨he.1,λ t ht=>by rw[he.2 t (hd1 t ht).2,hkeep t (hd1 t ht).1]⟩
     | panic ch=>exact⟨⟨he.1.1,he.1.2.1,λ t ht=>by rw[he.1.2.2 t (hd1 t ht).2,hkeep t (hd1 t ht).1]⟩,he.2⟩
     | _=>exact he.elim
    ·exact hk.elim
   | exit id=>exact⟨he.1,λ t ht=>he.2 t (hd1 t ht).1⟩
   | ret=>exact⟨he.1,λ t ht=>he.2 t (hd1 t ht).1⟩
   | panic ch=>exact⟨⟨he.1.1,he.1.2.1,λ t ht=>he.1.2.2 t (hd1 t ht).1⟩,he.2⟩
   | _=>exact he.elim
 | cond c x y ihx ihy =>
  intro an F w K a h hI
  have hd1:∀ t,t ∉ ri (.cond c x y)->t ∉ ri x/\t ∉ ri y:=by
   intro t ht;simp only[ri,List.mem_append,not_or] at ht;exact ht
  obtain⟨b,hb,h⟩:=yr h
  have hb':a.eval c= .bool b:=by rw[hI.eval];exact hb
  rcases rk h with ⟨rfl,h⟩ | ⟨rfl,h⟩
  ·refine wp_cond_true hb' (wp_mono (ihx _ _ _ _ _ h (hI.know hb)) ?_);intro e a' w' he
   cases e with
   | normal=>exact⟨he.1,λ t ht=>he.2 t (hd1 t ht).1⟩
   | exit id=>exact⟨he.1,λ t ht=>he.2 t (hd1 t ht).1⟩
   | ret=>exact⟨he.1,λ t ht=>he.2 t (hd1 t ht).1⟩
   | panic ch=>exact⟨⟨he.1.1,he.1.2.1,λ t ht=>he.1.2.2 t (hd1 t ht).1⟩,he.2⟩
   | _=>exact he.elim
  ·refine wp_cond_false hb' (wp_mono (ihy _ _ _ _ _ h (hI.know hb)) ?_);intro e a' w' he
   cases e with
   | normal=>exact⟨he.1,λ t ht=>he.2 t (hd1 t ht).2⟩
   | exit id=>exact⟨he.1,λ t ht=>he.2 t (hd1 t ht).2⟩
   | ret=>exact⟨he.1,λ t ht=>he.2 t (hd1 t ht).2⟩
   | panic ch=>exact⟨⟨he.1.1,he.1.2.1,λ t ht=>he.1.2.2 t (hd1 t ht).2⟩,he.2⟩
   | _=>exact he.elim
 | block id c ih =>
  intro an F w K a h hI;refine wp_block (wp_mono (ih _ _ _ _ _ h hI) ?_);intro e a' w' he
  cases e with
  | normal=>exact he
  | exit i =>
   obtain⟨⟨F',hI',hk⟩,hkeep⟩:=he;dsimp only at hk;simp only[Exit.inBlock];by_cases e:i=id
   ·subst e;rw[Nat.beq_refl] at hk;rw[if_pos rfl];exact⟨⟨F',hI',hk⟩,hkeep⟩
   ·rw[if_neg e]
    have:Nat.beq i id=false:=by
     cases hb:Nat.beq i id with
     | false=>rfl
     | true=>exact absurd (Nat.eq_of_beq_eq_true hb) e
    rw[this] at hk;exact⟨⟨F',hI',hk⟩,hkeep⟩
  | ret=>exact he
  | panic ch=>exact he
  | _=>exact he.elim
 | loop c ih =>
  intro an F w K a h hI;unfold vc at h;obtain⟨hst,I,μ,h0,hround⟩:=ap h;have hst:=vr hst
  let MU:Act->World->Nat:=λ a' w'=>match Ma an.S μ (FA a') with | some m=>m w' | none=>0
  refine wp_loop (λ a' w'=>a'.tmps.size=n/\a'.defers=D/\(∀ t,t ∉ ri c->a'.tmps.getD t undef=a.tmps.getD t undef)/\holds (Ma an.S I (FA a')) w') MU ⟨hI.size,hI.defers,λ _ _=>rfl,by rw[rm hI.fa] at h0;exact h0⟩ ?_;rintro a' w' ⟨h1,h2,h3,h4⟩;unfold holds at h4;split at h4
  ·rename_i p hp
   obtain⟨μ',l',hμ,hκ,hl'⟩:=qn (a:=a') an.S I μ _ p (hround λ t=>a'.tmps.getD t undef) (by
    intro q hq;obtain⟨t,ht,rfl⟩:=List.mem_map.1 hq;show a'.tmps.getD t undef=F.get t
    rw[h3 t (hst t ht),hI.at_]) hp
   have hI2:=zh h1 h2 hl';refine wp_mono (ih _ _ _ _ _ (hκ w' h4) hI2) ?_;intro e a'' w'' he
   cases e with
   | normal =>
    obtain⟨⟨F2,hF2,hk⟩,hkeep⟩:=he;dsimp only at hk;split at hk
    ·rename_i I2 μ2 e1 e2;rw[rm hF2.fa] at e1 e2;refine⟨⟨hF2.size,hF2.defers,λ t ht=>by rw[hkeep t ht,h3 t ht],by rw[e1];exact hk.1⟩,?_⟩;show MU a'' w''<MU a' w';simp only[MU,e2,hμ];exact hk.2
    ·exact hk.elim
   | exit id=>exact⟨he.1,λ t ht=>by rw[he.2 t ht,h3 t ht]⟩
   | ret=>exact⟨he.1,λ t ht=>by rw[he.2 t ht,h3 t ht]⟩
   | panic ch=>exact⟨⟨he.1.1,he.1.2.1,λ t ht=>by rw[he.1.2.2 t ht,h3 t ht]⟩,he.2⟩
   | _=>exact he.elim
  ·exact h4.elim
 | _=>intro an F w K a h hI;exact h.elim
def agn (tmps:Array Value):ResultVar->Sem Value
 | .tmp t=>pure (tmps.getD t undef)
 | .cell p t=>do loadVar t (← Go.asAddr (tmps.getD p undef))
theorem Ot (fn:Func) (tmps:Array Value):results fn tmps=(do let vs ← fn.results.mapM (agn tmps);pure (if h:vs.size=1 then vs[0] else .tuple vs)):=by
 unfold results;congr 1
theorem Xa {P:Program}{F:Fr}{a:Act}{w:World}:∀ (rs:List ResultVar) (hI:∀ t ∈ oe rs,a.tmps.getD t undef=F.get t) (acc:List Value){φ:Value->Prop},xl P rs F w acc φ ->
  ∃ vs:List Value,(rs.mapM (agn a.tmps)).run P w= .ok vs w/\φ (if h:(acc++vs).length=1 then (acc++vs)[0] else .tuple (acc++vs).toArray):=by
 intro rs
 induction rs with
 | nil =>
  intro hI acc φ h;refine⟨[],rfl,?_⟩;simp only[List.append_nil]
  match acc,h with
  | [],h=>exact h
  | [v],h=>exact h
  | u::v::r,h=>rw[dif_neg (by simp)];exact h
 | cons r rs ih =>
  intro hI acc φ h;have hrs:∀ t ∈ oe rs,a.tmps.getD t undef=F.get t:=λ t ht=>hI t (by cases r <;> exact List.mem_cons_of_mem _ ht)
  have step:∀ (v:Value),((agn a.tmps) r).run P w= .ok v w->xl P rs F w (acc++[v]) φ->∃ vs:List Value,((r::rs).mapM (agn a.tmps)).run P w= .ok vs w/\φ (if h:(acc++vs).length=1 then (acc++vs)[0] else .tuple (acc++vs).toArray):=by
   intro v hv h;obtain⟨vs,h1,h2⟩:=ih hrs (acc++[v]) h;refine⟨v::vs,?_,by simpa using h2⟩;rw[List.mapM_cons,Sem.run_bind,hv];simp only[Result.andThen_ok];rw[Sem.run_bind,h1];rfl
  cases r with
  | tmp t=>exact step _ rfl (by rw[hI t (by exact List.mem_cons_self ..)];exact h)
  | cell p t =>
   have h':Mc P t (F.get p) w λ v=>xl P rs F w (acc++[v]) φ:=by
    cases acc <;> exact h
   obtain⟨u,h1,h2⟩:=Gp h';refine step u ?_ h2;have h0:=h1 w (Keeps.refl w);obtain⟨q,e1,h3⟩:=ir h';obtain⟨ad,e2,h4⟩:=ptr_some h3;subst e2;rw[e1] at h0;simp only[Instr.loadAt,Instr.sureAddr,Sem.run_bind,Sem.run_pure,Result.andThen_ok] at h0;show(do loadVar t (← Go.asAddr (a.tmps.getD p undef)):Sem Value).run P w=_;rw[hI p (by exact List.mem_cons_self ..),e1,Sem.run_bind];exact h0
theorem Ec (t:Nat):∀ (l:List Value) (i:Nat),look (Qu i l) (λ _=>undef) t=if i≤t/\t<i+l.length then l.getD (t - i) undef else undef
 | [],i=>by
  rw[if_neg (by simp)];rfl
 | v::l,i=>by
  show look ((i,v)::Qu (i+1) l) _ t=_;rw[ud,Ec t l (i+1)];by_cases e:i=t
  ·subst e;rw[if_pos rfl,if_pos (by simp)];simp
  ·rw[if_neg e];by_cases h:i+1≤t/\t<i+1+l.length
   ·rw[if_pos h,if_pos (by simp;omega)];rw[show t - i=(t - (i+1))+1 by omega];simp
   ·rw[if_neg h,if_neg (by simp;omega)]
theorem gp {P:Program}{fn:Func}{F:Fr}{a:Act}{w:World}{φ:Value->Prop} (hI:∀ t ∈ oe fn.results.toList,a.tmps.getD t undef=F.get t) (hr:xl P fn.results.toList F w [] φ):∃ v,(results fn a.tmps).run P w= .ok v w/\φ v:=by
 obtain⟨vs,h1,h2⟩:=Xa _ hI _ hr;simp only[List.nil_append] at h2;refine⟨_,?_,h2⟩;rw[Ot,Sem.run_bind,Array.mapM_eq_mapM_toList,map_eq_pure_bind,Sem.run_bind];rw[h1];simp only[Result.andThen_ok,Sem.run_pure];congr 1
theorem Ed {n:Nat} (args:List Value) (hn:args.length≤n):Is [] n ⟨Qu 0 args,λ _=>undef⟩ { tmps:=args.toArray++Array.replicate (n - args.toArray.size) undef,defers:=[] }:=by
 refine⟨by simp;omega,rfl,λ t=>?_⟩;show _=look (Qu 0 args) (λ _=>undef) t;rw[Ec];simp only[Array.getD_eq_getD_getElem?,Array.getElem?_append];by_cases h1:t<args.length
 ·simp [h1]
 ·simp [h1,Array.getElem?_replicate];split <;> rfl
theorem sound {P:Program}{pk:List Nat}{f:FuncId}{fn:Func}{w:World}{Q:Ending->World->Prop} (hf:P.funcs[f]?=some fn) (an:An) (args:List Value) (hd:fn.results.size=fn.results.size) (h:agm P pk fn an args w Q):Calls P f args.toArray w Q:=by
 unfold agm at h;split at h
 ·rename_i c hb;obtain⟨hn,h⟩:=ap h;have hn:=Nat.le_of_ble_eq_true hn
  have hI:Is [] fn.ntmps ⟨Qu 0 args,λ _=>undef⟩ { tmps:=args.toArray++Array.replicate (fn.ntmps - args.toArray.size) undef,defers:=[] }:=by
   refine⟨by simp;omega,rfl,λ t=>?_⟩;show _=look (Qu 0 args) (λ _=>undef) t;rw[Ec];simp only[Array.getD_eq_getD_getElem?,Array.getElem?_append];by_cases h1:t<args.length
   ·simp [h1]
   ·simp [h1,Array.getElem?_replicate];split <;> rfl
  refine calls_of_wp hf hb (wp_mono (ui c _ _ _ _ _ h hI) ?_)
  have fin:∀ (F':Fr) (a':Act) (w':World),Is [] fn.ntmps F' a'->xl P fn.results.toList F' w' [] (λ v=>Q (.returned v) w')->a'.defers=[]/\∃ v,(results fn a'.tmps).run P w'= .ok v w'/\Q (.returned v) w':=by
   intro F' a' w' hI' hr;refine⟨hI'.defers,?_⟩;exact gp (λ t _=>hI'.at_ t) hr
  intro e a' w' he
  cases e with
  | normal=>obtain⟨⟨F',hI',hk⟩, -⟩:=he;exact fin F' a' w' hI' hk
  | ret=>obtain⟨⟨F',hI',hk⟩, -⟩:=he;exact fin F' a' w' hI' hk
  | exit id=>obtain⟨⟨F',hI',hk⟩, -⟩:=he;exact hk.elim
  | panic ch=>exact⟨he.1.2.1,he.2⟩
  | _=>exact he.elim
 ·exact h.elim
theorem Rg {P:Program}{f:FuncId} (hk:Gn P f=true) (args:Array Value) (w:World):(callFunc f args).run P w= .ok (.enter f args) w:=by
 unfold Gn at hk;split at hk
 ·rename_i fn hf;rw[Bool.and_eq_true] at hk;exact jc hf hk.1 hk.2 args w
 ·cases hk
def ya (P:Program) (D:List DV):Prop:=∀ d ∈ D,Gn P d.f=true
theorem kl {P:Program}{fn:Func}{Q:Ending->World->Prop}{a:Act}:∀ (ds:List DV) (G:Option Fr) (u:FrameMode) (w:World),ya P ds->(∀ F,G=some F->∀ t ∈ oe fn.results.toList,a.tmps.getD t undef=F.get t)->dm P fn.results.toList Q ds G u w->Leaves P fn a.tmps Q (ds.map DV.to) u w:=by
 intro ds
 induction ds with
 | nil =>
  intro G u w hk hG h;unfold dm at h
  cases u with
  | run=>exact h.elim
  | panicking ch=>exact h
  | returning =>
   dsimp only at h
   cases G with
   | none=>exact h.elim
   | some F =>
    obtain⟨v,h1,h2⟩:=gp (hG F rfl) h;exact⟨v,h1,h2⟩
 | cons d ds ih =>
  intro G u w hk hG h;have hks:ya P ds:=λ x hx=>hk x (List.mem_cons_of_mem _ hx)
  have key:∀ (u:FrameMode),u≠ .run->(CallsD P d.f (d.args++d.captured) u w λ e u' w'=>(∃ v:Value,e= .returned v/\((settle u'= .returning/\dm P fn.results.toList Q ds G .returning w')∨∃ c:List PanicEntry,settle u'= .panicking c/\dm P fn.results.toList Q ds G (.panicking c) w'))∨∃ c:List PanicEntry,e= .panicked c/\∃ c':List PanicEntry,raised u' c= .panicking c'/\dm P fn.results.toList Q ds G (.panicking c') w')->Leaves P fn a.tmps Q ((d::ds).map DV.to) u w:=by
   intro u hu hc;refine⟨hu,.func d.f,d.captured,d.f,d.args++d.captured,rfl,Rg (hk d (List.mem_cons_self ..)) _ w,hc.mono λ e u' w' he=>?_⟩;rcases he with ⟨v,rfl,⟨hs,h1⟩ | ⟨c,hs,h1⟩⟩ | ⟨c,rfl,c',hs,h1⟩
   ·show Leaves P fn a.tmps Q _ (settle u') w';rw[hs];exact ih G _ _ hks hG h1
   ·show Leaves P fn a.tmps Q _ (settle u') w';rw[hs];exact ih G _ _ hks hG h1
   ·show Leaves P fn a.tmps Q _ (raised u' c) w';rw[hs];exact ih G _ _ hks hG h1
  unfold dm at h
  cases u with
  | run=>exact h.elim
  | panicking ch=>exact key _ (λ e=>by cases e) h
  | returning=>exact key _ (λ e=>by cases e) h
theorem zi:∀ {l l':List Oper}{c:Call},wy l=some (l',c)->∃ o,l=l'++[o]/\o.op= .defer c/\o.guard=none/\o.dst=none
 | [],l',c,h=>by cases h
 | [o],l',c,h=>by
  unfold wy at h;split at h
  ·rename_i c' h1 h2 h3;cases h;exact⟨o,rfl,h1,h2,h3⟩
  ·cases h
 | o::o2::r,l',c,h=>by
  have h':(wy (o2::r)).map (λ (q:List Oper×Call)=>(o::q.1,q.2))=some (l',c):=by
   rw[<- h];rfl
  cases hd:wy (o2::r) with
  | none=>rw[hd] at h';cases h'
  | some q =>
   rw[hd] at h';cases h';obtain⟨o',e1,e2,e3⟩:=zi (l:=o2::r) hd;exact⟨o',by rw[e1];rfl,e2,e3⟩
theorem td {c:Code}{rs:List ResultVar}{F F':Fr} (h:Cf c rs F=some F'):F'=F/\∀ t ∈ oe rs,t ∉ ri c:=by
 unfold Cf at h
 cases hs:Qt c (oe rs) with
 | false=>rw[hs] at h;cases h
 | true=>rw[hs] at h;cases h;exact⟨rfl,vr hs⟩
theorem Xb {n:Nat}{P:Program}{pk:List Nat}{fn:Func}{Q:Ending->World->Prop} (c:Code):∀ (an:An) (F:Fr) (w:World) (D:List DV) (a:Act),ya P D->Qx n P pk fn.results.toList Q c an F w D->Is (D.map DV.to) n F a->c.wp P (bodyPostD P fn Q) a w:=by
 have base:∀ (c:Code) (an:An) (F:Fr) (w:World) (D:List DV) (a:Act),ya P D->(vc n P pk (λ ch w'=>dm P fn.results.toList Q D (Cf c fn.results.toList F) (.panicking ch) w') c an F w λ e F' w'=>match e with
  | .normal | .ret=>dm P fn.results.toList Q D (some F') .returning w'
  | .exit _=>False)->Is (D.map DV.to) n F a->c.wp P (bodyPostD P fn Q) a w:=by
  intro c an F w D a hk h hI;refine wp_mono (ui c _ _ _ _ _ h hI) ?_;intro e a' w' he
  cases e with
  | normal =>
   obtain⟨⟨F',hI',hq⟩, -⟩:=he;show Leaves P fn a'.tmps Q a'.defers .returning w';rw[hI'.defers];exact kl D _ _ _ hk (λ G e t _=>by cases e;exact hI'.at_ t) hq
  | ret =>
   obtain⟨⟨F',hI',hq⟩, -⟩:=he;show Leaves P fn a'.tmps Q a'.defers .returning w';rw[hI'.defers];exact kl D _ _ _ hk (λ G e t _=>by cases e;exact hI'.at_ t) hq
  | panic ch =>
   show Leaves P fn a'.tmps Q a'.defers (.panicking ch) w';rw[he.1.2.1];refine kl D _ _ _ hk (λ G e t ht=>?_) he.2;obtain⟨rfl,hs⟩:=td e;rw[he.1.2.2 t (hs t ht),hI.at_]
  | exit id=>obtain⟨⟨F',hI',hq⟩, -⟩:=he;exact hq.elim
  | _=>exact he.elim
 induction c with
 | seq x y ihx ihy =>
  intro an F w D a hk h hI;unfold Qx at h;split at h
  ·rename_i ops l c hd
   obtain⟨id,ops',rfl,hl,rfl⟩:∃ id ops',x= .region id ops' false/\wy ops'.toList=some (l,c)/\ops=ops'.toList:=by
    unfold Qv at hd;split at hd
    ·rename_i id ops'
     cases hdl:wy ops'.toList with
     | none=>rw[hdl] at hd;cases hd
     | some q=>rw[hdl] at hd;cases hd;exact⟨_,_,rfl,hdl,rfl⟩
    ·cases hd
   obtain⟨o,hlo,ho,hg,hdst⟩:=zi hl;refine wp_seq (wp_region_list ?_)
   have hlist:=zd (n:=n) (P:=P) (ops:=ops'.toList) (Q:=Exit.then (y.wp P (bodyPostD P fn Q)) (bodyPostD P fn Q)) (ri (.region id ops' false)) (λ t=>a.tmps.getD t undef) (λ ch F' a' w' hI' hz ht=>by
     show Leaves P fn a'.tmps Q a'.defers (.panicking ch) w';rw[hI'.defers];refine kl D _ _ _ hk (λ G e t hts=>?_) hz;obtain⟨rfl,hs⟩:=td e
     rw[ht t (hs t hts),hI.at_]) [o] l F a w _ (λ _ _=>rfl) (λ o' ho'=>rn (id:=id) (d:=false) o' (by rw[hlo];exact List.mem_append_left _ ho')) h hI (λ F' a' w' hI' hq hkeep=>by
     unfold Qw at hq;split at hq
     ·rename_i x' hx';split at hq
      ·rename_i f first captured hv
       obtain⟨hkn,hq⟩:=ap hq;unfold wpList;rw[if_pos (by unfold Region.wanted;rw[hg])];left;unfold Oper.wp
       have hrun:(execOp a'.eval o).run P w'= .ok (.defer (DV.to ⟨f,first++c.args.map (ev F'),captured⟩)) w':=by
        obtain⟨dst,op,type,pos,after,guard⟩:=o;dsimp only at ho;subst ho;show(do pure (.defer (← resolve a'.eval c type)):Sem Next).run P w'=_;unfold resolve;rw[hx',hI'.eval];simp only[hv,Deferred.ofValue];rw[Sem.run_bind,Sem.run_pure,Result.andThen_ok,Sem.run_pure];rfl
       rw[hrun];rw[Oper.upon_defer,hdst];unfold wpList;refine ihy _ _ _ _ _ ?_ hq ?_
       ·intro d hd;rcases List.mem_cons.1 hd with rfl | hd
        ·exact hkn
        ·exact hk d hd
       ·exact⟨hI'.size,by show _::a'.defers=_;rw[hI'.defers];rfl,hI'.at_⟩
      ·exact hq.elim
     ·exact hq.elim)
   rw[<- hlo] at hlist;simpa using hlist
  ·refine wp_seq (wp_mono (ui x _ _ _ _ _ h hI) ?_);intro e a' w' he
   cases e with
   | normal=>obtain⟨⟨F',hI',hq⟩, -⟩:=he;exact ihy _ _ _ _ _ hk hq hI'
   | ret =>
    obtain⟨⟨F',hI',hq⟩, -⟩:=he;show Leaves P fn a'.tmps Q a'.defers .returning w';rw[hI'.defers];exact kl D _ _ _ hk (λ G e t _=>by cases e;exact hI'.at_ t) hq
   | panic ch =>
    show Leaves P fn a'.tmps Q a'.defers (.panicking ch) w';rw[he.1.2.1];refine kl D _ _ _ hk (λ G e t ht=>?_) he.2;obtain⟨rfl,hs⟩:=td e;rw[he.1.2.2 t (hs t ht),hI.at_]
   | exit id=>obtain⟨⟨F',hI',hq⟩, -⟩:=he;exact hq.elim
   | _=>exact he.elim
 | _=>intro an F w D a hk h hI;exact base _ an F w D a hk h hI
theorem soundD {P:Program}{pk:List Nat}{f:FuncId}{fn:Func}{w:World}{Q:Ending->World->Prop} (hf:P.funcs[f]?=some fn) (an:An) (args:List Value) (hd:fn.results.size=fn.results.size) (h:aed P pk fn an args w Q):Calls P f args.toArray w Q:=by
 unfold aed at h;split at h
 ·rename_i c hb;obtain⟨hn,h⟩:=ap h;exact calls_of_wp_defers hf hb (Xb c _ _ _ [] _ (λ _ h=>by cases h) h (Ed args (Nat.le_of_ble_eq_true hn)))
 ·exact h.elim
theorem soundC {P:Program}{pk:List Nat}{f:FuncId}{fn:Func}{u:FrameMode}{w:World}{Q:Ending->World->Prop} (hf:P.funcs[f]?=some fn) (an:An) (args:List Value) (h:agm P pk fn an args w Q):CallsD P f args.toArray u w λ e u' w'=>u'=u/\Q e w':=by
 unfold agm at h;split at h
 ·rename_i c hb;obtain⟨hn,h⟩:=ap h;refine callsD_of_wp hf hb (wp_mono (ui c _ _ _ _ _ h (Ed args (Nat.le_of_ble_eq_true hn))) ?_);intro e a' w' he
  cases e with
  | normal=>obtain⟨⟨F',hI',hk⟩, -⟩:=he;exact⟨hI'.defers,gp (λ t _=>hI'.at_ t) hk⟩
  | ret=>obtain⟨⟨F',hI',hk⟩, -⟩:=he;exact⟨hI'.defers,gp (λ t _=>hI'.at_ t) hk⟩
  | exit id=>obtain⟨⟨F',hI',hk⟩, -⟩:=he;exact hk.elim
  | panic ch=>exact⟨he.1.2.1,he.2⟩
  | _=>exact he.elim
 ·exact h.elim
theorem soundR {P:Program}{pk:List Nat}{f:FuncId}{fn:Func}{u:FrameMode}{w:World}{Q:Ending->FrameMode->World->Prop} (hf:P.funcs[f]?=some fn) (an:An) (args:List Value) (h:aee P pk fn an args u w Q):CallsD P f args.toArray u w Q:=by
 unfold aee at h;split at h
 case h_2=>exact h.elim
 rename_i id ops b hb;split at h
 case h_2=>exact h.elim
 rename_i o hops;split at h
 case h_2=>exact h.elim
 rename_i c ho hg;split at h
 case h_2=>exact h.elim
 rename_i hc;obtain⟨hn,h⟩:=ap h;obtain rfl:ops=[o].toArray:=Array.toList_inj.1 hops;have hI:=Ed args (Nat.le_of_ble_eq_true hn);refine callsD_of_wpS hf hb λ c₀ cs hu=>wpS_seq (wpS_region ?_)
 have hrun:∀ (ρ:Operand->Value) (w:World),(execOp ρ o).run P w= .ok .recover w:=by
  intro ρ w;obtain⟨dst,op,type,pos,after,guard⟩:=o;dsimp only at ho;subst ho;show(do let d ← resolve ρ c type;invoke d.target d.args:Sem Next).run P w=_;unfold resolve;rw[hc];rfl
 have fin:∀ (u1:FrameMode) (F:Fr) (a:Act),Is [] fn.ntmps F a->(vc fn.ntmps P pk (λ ch w'=>Q (.panicked ch) u1 w') b an.y F w λ e F w'=>match e with
   | .normal | .ret=>xl P fn.results.toList F w' [] λ r=>Q (.returned r) u1 w'
   | .exit _=>False)->b.wpS P (bodyPostS P fn c₀ cs Q) a ({ c₀ with mode:=u1 }::cs) w:=by
  intro u1 F a hI h;refine wpS_of_wp (wp_mono (ui b _ _ _ _ _ h hI) ?_);intro e a' w' he
  cases e with
  | normal =>
   obtain⟨⟨F',hI',hk⟩, -⟩:=he;obtain⟨v,h1,h2⟩:=gp (λ t _=>hI'.at_ t) hk;exact⟨hI'.defers,u1,rfl,v,h1,h2⟩
  | ret =>
   obtain⟨⟨F',hI',hk⟩, -⟩:=he;obtain⟨v,h1,h2⟩:=gp (λ t _=>hI'.at_ t) hk;exact⟨hI'.defers,u1,rfl,v,h1,h2⟩
  | exit id=>obtain⟨⟨F',hI',hk⟩, -⟩:=he;exact hk.elim
  | panic ch=>exact⟨he.1.2.1,u1,rfl,he.2⟩
  | _=>exact he.elim
 show wpOpsS P #[o] _ [0] _ _ _
 have hw:∀ y,Region.wanted o y=true:=λ y=>by unfold Region.wanted;rw[hg]
 have i0:(#[o]:Array Oper)[0]?=some o:=rfl;split at h
 ·rename_i v older;unfold wpOpsS;simp only[i0,hw,if_true,hrun,recoverD,hu];unfold wpOpsS;exact fin _ _ _ (hI.put _ _) h
 ·unfold wpOpsS;simp only[i0,hw,if_true,hrun,recoverD,hu];unfold wpOpsS;have:=fin _ _ _ (hI.put _ _) h;rwa [show({ c₀ with mode:=.returning }:Frame)=c₀ by rw[<- hu]] at this
 ·exact h.elim
end Go.Sx
