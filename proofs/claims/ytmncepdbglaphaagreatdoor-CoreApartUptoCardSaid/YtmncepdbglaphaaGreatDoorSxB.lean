/- proofs -/
import Derived.KernelRfl
import Derived.Test.YtmncepdbglaphaaGreatDoorSx
import Derived.Laws.BytesString
import Derived.LaidEqlPtr
set_option linter.unusedVariables false
namespace Go.Sx
open Go.RowKit Go.XHeap
structure Is (n:Nat) (F:Fr) (a:Act):Prop where
 size:a.tmps.size=n
 defers:a.defers=[]
 at_:∀ t,a.tmps.getD t undef=F.get t
theorem Is.eval {n:Nat}{F:Fr}{a:Act} (h:Is n F a):a.eval=ev F:=by
 funext x
 cases x with
 | tmp t=>exact h.at_ t
 | _=>rfl
theorem rk (u:Nat) (v:Value) (l:List (Nat×Value)) (f:Nat->Value) (t:Nat):look ((u,v)::l) f t=if u=t then v else look l f t:=by
 show(bif Nat.beq u t then v else look l f t)=_;by_cases h:u=t
 ·subst h;rw[Nat.beq_refl,if_pos rfl];rfl
 ·have:Nat.beq u t=false:=by
   cases hb:Nat.beq u t with
   | false=>rfl
   | true=>exact absurd (qDB hb) h
  rw[this,if_neg h];rfl
theorem getD_set (a:AV) (d t:Nat) (v:Value):(a.setIfInBounds d v).getD t undef=if d=t/\d<a.size then v else a.getD t undef:=by
 simp only[qJB,Array.getElem?_setIfInBounds];by_cases h:d=t
 ·subst h;by_cases h2:d<a.size
  ·simp [h2]
  ·simp [h2]
 ·simp [h]
theorem Is.put {n:Nat}{F:Fr}{a:Act} (h:Is n F a) (d:Option Tmp) (v:Value):Is n (F.put n d v) (a.put d v):=by
 cases d with
 | none=>exact h
 | some d =>
  unfold Fr.put Act.put;refine⟨?_,?_,?_⟩
  ·simpa using h.size
  ·exact h.defers
  ·intro t;show(a.tmps.setIfInBounds d v).getD t undef=_;rw[getD_set,h.size,h.at_ t];show _=(bif Nat.blt d n then (⟨(d,v)::F.l,F.f⟩:Fr) else F).get t;by_cases hd:d<n
   ·have hb:Nat.blt d n=true:=Nat.ble_eq_true_of_le hd;rw[hb];show _=look ((d,v)::F.l) F.f t;rw[rk];by_cases e:d=t
    ·rw[if_pos ⟨e,hd⟩,if_pos e]
    ·rw[if_neg (λ q=>e q.1),if_neg e];rfl
   ·have hb:Nat.blt d n=false:=by
     cases hq:Nat.blt d n with
     | false=>rfl
     | true=>exact absurd (qpB hq) hd
    rw[hb,if_neg (λ q=>hd q.2)];rfl
theorem Is.know {n:Nat}{F:Fr}{a:Act} (h:Is n F a){x:Operand}{b:Bool} (hx:ev F x= .bool b):Is n (F.know x b) a:=by
 cases x with
 | tmp t =>
  refine⟨h.size,h.defers,λ u=>?_⟩;show _=look ((t,.bool b)::F.l) F.f u;rw[rk];by_cases e:t=u
  ·subst e;rw[if_pos rfl,h.at_];exact hx
  ·rw[if_neg e];exact h.at_ u
 | _=>exact h
theorem Sh.ex_some {s:Sh}{φ:Value->Prop} (h:s.ex φ):∃ v,φ v:=by
 cases s <;> simp only[Sh.ex] at h
 case slice=>obtain⟨p,n,c,h⟩:=h;exact⟨_,h⟩
 all_goals (obtain⟨x,h⟩:=h;exact⟨_,h⟩)
theorem ptr_some {p:OA}{k:Addr->Prop} (h:ptr p k):∃ a,p=some a/\k a:=by
 cases p with
 | none=>exact h.elim
 | some a=>exact⟨a,rfl,h⟩
theorem adr_some {p:OA}{k:Nat->Nat->Prop} (h:adr p k):∃ g o,p=some ⟨g,o,none⟩/\k g o:=by
 unfold adr at h;split at h
 ·exact⟨_,_,rfl,h⟩
 ·exact h.elim
theorem ap {v:Value}{k:IntKind->Int->Prop} (h:dk v k):∃ κ x,v= .int κ x/\k κ x:=by
 cases v <;> first | exact⟨_,_,rfl,h⟩ | exact h.elim
theorem pa {v:Value}{k:Bool->Prop} (h:asBool v k):∃ b,v= .bool b/\k b:=by
 cases v <;> first | exact⟨_,rfl,h⟩ | exact h.elim
theorem gq {v:Value}{k:OA->Prop} (h:Gd v k):∃ p,v= .pointer p/\k p:=by
 cases v <;> first | exact⟨_,rfl,h⟩ | exact h.elim
theorem bt {v:Value}{k:OA->Nat->Nat->Prop} (h:ir v k):∃ p n c,v= .slice p n c/\k p n c:=by
 cases v <;> first | exact⟨_,_,_,rfl,h⟩ | exact h.elim
theorem nk {v:Value}{k:AV->Prop} (h:asAgg v k):∃ vs,v= .agg vs/\k vs:=by
 cases v <;> first | exact⟨_,rfl,h⟩ | exact h.elim
theorem Ui {v:Value}{k:Prop} (h:one v k):v.oneCell'=true/\v.cells=#[v]/\k:=by
 cases v <;> first | exact⟨rfl,rfl,h⟩ | exact h.elim
theorem nt {b:Bool}{y n:Prop} (h:split b y n):(b=true/\y)∨(b=false/\n):=by
 cases b
 ·exact .inr ⟨rfl,h⟩
 ·exact .inl ⟨rfl,h⟩
theorem Lb {v:Value}{k:Bool->Prop} (h:isNil v k):(v= .nilIface/\k true)∨(∃ t x,v= .iface t x/\k false):=by
 cases v <;> first | exact .inl ⟨rfl,h⟩ | exact .inr ⟨_,_,rfl,h⟩ | exact h.elim
theorem me {P:Program}{α:Type}:∀ (s:Sem α){x:α},ma P s=some x->∀ w:wD,s.run P w= .ok x w
 | .pure a,x,h,w=>by simp only[ma,Option.some.injEq] at h;subst h;rfl
 | .program k,x,h,w=>by simp only[ma] at h;exact me (k P) h w
 | .mark m k,x,h,w=>by simp only[ma] at h;exact me k h w
 | .load ..,x,h,w | .store ..,x,h,w | .new ..,x,h,w | .shape ..,x,h,w | .freeze ..,x,h,w | .frozen ..,x,h,w | .getObj ..,x,h,w | .setObj ..,x,h,w | .choose ..,x,h,w | .sys ..,x,h,w | .halt ..,x,h,w=>by simp [ma] at h
theorem wk {P:Program}{s:Sem Next}{k:Value->Prop} (h:wi P s k):∃ v,(∀ w:wD,s.run P w= .ok (.value v) w)/\k v:=by
 unfold wi at h;split at h
 ·rename_i v hv;exact⟨v,me s hv,h⟩
 ·exact h.elim
def Keeps (w w':wD):Prop:=(∀ p v,w.cell? p=some v->w'.cell? p=some v)/\∀ (b:Nat) es c,w.heap[b]?=some (Obj.map es c)->w'.heap[b]?=some (Obj.map es c)
theorem Keeps.refl (w:wD):Keeps w w:=⟨λ _ _ h=>h,λ _ _ _ h=>h⟩
theorem Gi (w:wD) (m:Nat):Keeps w (w.drewN m):=⟨λ _ _ h=>h,λ _ _ _ h=>h⟩
theorem Gj {w w':wD} (h:Below w.heap.size w w'):Keeps w w':=⟨λ p v hp=>by rw[h.cell (World.block_lt_of_cell? _ _ hp)];exact hp,λ b es c hb=>by rw[h.block b (qUB.1 hb).1];exact hb⟩
theorem yv {s:Sh}{w:wD}{a:Addr}{k:Value->Prop} (h:ri s w a k):∃ v,w.cell? a=some v/\k v/\(match s with | .agg=>False | _=>True):=by
 cases s <;> simp only[ri] at h
 case slice=>obtain⟨p,n,c,h1,h2⟩:=h;exact⟨_,h1,h2,trivial⟩
 all_goals (obtain⟨x,h1,h2⟩:=h;exact⟨_,h1,h2,trivial⟩)
def aia:TypeDesc->Bool | .struct _ | .array _ _=>true | _=>false
theorem Aw {P:Program}{t:TI}:(oz P t= .agg/\∃ d,P.underlying t=some d/\aia d=true)∨(oz P t≠ .agg/\∀ d,P.underlying t=some d->aia d=false):=by
 unfold oz
 cases h:P.underlying t with
 | none=>exact .inr ⟨by simp,λ d hd=>by cases hd⟩
 | some d =>
  cases d <;> first
   | exact .inl ⟨rfl,_,rfl,rfl⟩
   | exact .inr ⟨by simp,λ d hd=>by cases hd;rfl⟩
theorem rn {P:Program}{t:TI}{d:TypeDesc} (h:P.underlying t=some d) (w:wD):(isAgg t).run P w= .ok (aia d) w:=by
 unfold isAgg;rw[Sem.run_bind,run_underlying h w];cases d <;> rfl
theorem mf {P:Program}{t:TI}{i:TypeInfo} (h:P.info? t=some i):P.cellsOf t=i.size:=by simp [Program.cellsOf,h]
theorem bd {P:Program}{t:TI}{i:TypeInfo} (h:P.info? t=some i) (w:wD):(sizeOf t).run P w= .ok (P.cellsOf t) w:=by
 rw[mf h];simp [sizeOf,typeInfo,program,Sem.run_bind,Sem.run,h]
theorem rq {P:Program}{t:TI}{d:TypeDesc} (h:P.underlying t=some d):∃ i,P.info? t=some i:=by
 cases hi:P.info? t with
 | some i=>exact⟨i,rfl⟩
 | none=>simp [Program.underlying,hi] at h
theorem Gk {P:Program}{t:TI}{a:Addr}{w:wD}{k:Value->Prop} (d:TypeDesc) (hd:P.underlying t=some d)
  (h:match oz P t with | .agg=>∃ vs:AV,vs.size=P.cellsOf t/\cellsAt w a vs/\k (.agg vs) | s=>ri s w a k) :
  ∃ v,(∀ w',Keeps w w'->(loadVar t a).run P w'= .ok v w')/\k v:=by
 obtain⟨i,hi⟩:=rq hd;rcases Aw (P:=P) (t:=t) with ⟨h1,d',hd',hagg⟩ | ⟨h1,hagg⟩
 ·rw[h1] at h;obtain⟨vs,hs,hc,hk⟩:=h;obtain rfl:d=d':=by rw[hd] at hd';exact Option.some.inj hd'
  refine⟨_,λ w' hkp=>?_,hk⟩;unfold loadVar;rw[Sem.run_bind,rn hd,hagg]
  have hl:=run_loadCells_list (P:=P) w' a vs.toList (λ j v hv=>by
   have:=hc j v (by simpa using hv)
   exact hkp.1 _ _ this)
  simp [Sem.run_bind,bd hi,<- hs];simp at hl;rw[hl];rfl
 ·have h2:∃ v,w.cell? a=some v/\k v:=by
   generalize hs:oz P t=s at h h1
   cases s <;> first
    | exact absurd rfl h1
    | (obtain⟨v,q1,q2, -⟩:=yv h;exact⟨v,q1,q2⟩)
  obtain⟨v,hc,hk⟩:=h2;refine⟨v,λ w' hkp=>?_,hk⟩;unfold loadVar;rw[Sem.run_bind,rn hd,hagg d hd];have hc':w'.cell? a=some v:=hkp.1 _ _ hc;simp [hc']
theorem load_some {P:Program}{t:TI}{v:Value}{w:wD}{k:Value->Prop} (h:Ih P t v w k):∃ u,(∀ w',Keeps w w'->(Instr.loadAt t v).run P w'= .ok u w')/\k u:=by
 obtain⟨p,e1,h1⟩:=gq h;obtain⟨a,e2,h2⟩:=ptr_some h1;subst e1 e2;clear h h1
 cases hd:P.underlying t with
 | none=>rw[hd] at h2;exact h2.elim
 | some d =>
  rw[hd] at h2;obtain⟨u,q1,q2⟩:=Gk d hd h2;refine⟨u,λ w' hkp=>?_,q2⟩;simp [Instr.loadAt,Instr.sureAddr,Sem.run_bind,q1 w' hkp]
theorem Dl {P:Program}{t:TI}{x:Value}{w:wD} (vs:AV) (g o:Nat) (hx:x.cells=vs) (hs:vs.size=P.cellsOf t) (h0:∃ i,P.info? t=some i) (hc:∀ j:Nat,j<P.cellsOf t->(∃ u,w.cell? ⟨g,o+j,none⟩=some u)/\w.frozen? ⟨g,o+j,none⟩=false) (h1:∀ v ∈ vs.toList,v.oneCell'=true) :
  (Instr.storeAt t (.pointer (some ⟨g,o,none⟩)) x).run P w= .ok () (w.setCells g o vs.toList):=by
 obtain⟨i,hi⟩:=h0
 have:=run_storeCells_cells (P:=P) g o vs.toList 0 w (λ j hj=>by
  obtain⟨⟨u,hu⟩, -⟩:=hc j (by simp at hj;omega)
  simp [hu]) (λ j hj=>by simpa using (hc j (by simp at hj;omega)).2) h1
 simp [Instr.storeAt,Instr.sureAddr,storeVar,Sem.run_bind,bd hi,hx,hs];simpa using this
theorem Lc {P:Program}{t:TI}{v x:Value}{w:wD}{k:wD->Prop} (h:Nr P t v x w k):∃ w',(Instr.storeAt t v x).run P w= .ok () w'/\k w':=by
 obtain⟨p,e1,h1⟩:=gq h;obtain⟨a,e2,h2⟩:=ptr_some h1;subst e1 e2;clear h h1
 have one_case:∀ (h3:bif Nat.beq (P.cellsOf t) 1 then one x ((∃ u,w.cell? a=some u)/\w.frozen? a=false/\∀ w':wD,w'=w.setCell a x->k w') else False),∃ w',(Instr.storeAt t (.pointer (some a)) x).run P w= .ok () w'/\k w':=by
  intro h3
  cases hb:Nat.beq (P.cellsOf t) 1 with
  | false=>rw[hb] at h3;exact h3.elim
  | true =>
   rw[hb] at h3;have hsz:=qDB hb;obtain⟨q1,q2,⟨u,hu⟩,q3,q4⟩:=Ui h3;refine⟨_,?_,q4 _ rfl⟩
   have h0:∃ i,P.info? t=some i:=by
    cases hi:P.info? t with
    | some i=>exact⟨i,rfl⟩
    | none=>simp [Program.cellsOf,hi] at hsz
   have hsp:a.spot=none:=World.cell?_spot hu;obtain⟨g,o,sp⟩:=a;obtain rfl:sp=none:=hsp
   have:=Dl (P:=P) (t:=t) (x:=x) (w:=w) #[x] g o q2 (by simp [hsz]) h0 (λ j hj=>by
    obtain rfl:j=0:=by omega
    exact⟨⟨u,hu⟩,q3⟩) (by simp [q1])
   exact this
 generalize hsh:oz P t=s at h2;cases s
 case agg =>
  obtain⟨g,o,e,h3⟩:=adr_some h2;obtain⟨vs,e2,hs,hc,h1,hk⟩:=nk h3;cases e;subst e2;refine⟨_,?_,hk _ rfl⟩;rcases Aw (P:=P) (t:=t) with ⟨-,d,hd, -⟩ | ⟨hn, -⟩
  ·exact Dl vs g o rfl hs (rq hd) hc h1
  ·exact absurd hsh hn
 all_goals exact one_case h2
def Zr (P:Program) (s:Sem Next) (w:wD) (v:Value):Prop:=∀ w',Keeps w w'->s.run P w'= .ok (.value v) w'
theorem dv {κ:IntKind}{e:Int}{k:Value->Prop} (h:named κ e k):k (.int κ e):=h e rfl
theorem Zs {c:Bool}{A B:Prop} (h:bif c then A else B):(c=true/\A)∨B:=by
 cases c
 ·exact .inr h
 ·exact .inl ⟨rfl,h⟩
theorem aj {b:Bool}{p:Prop} (h:bif b then p else False):b=true/\p:=by
 cases b
 ·exact h.elim
 ·exact⟨rfl,h⟩
theorem bq {op:BinOp} (h1:op≠ .eql) (h2:op≠ .neq) (t:TI) (x y:Operand) (a b:Value):eqGuard op t x y a b=pure ():=by
 cases op <;> first | exact absurd rfl h1 | exact absurd rfl h2 | rfl
theorem pb (op:BinOp) (t:TI) (x y:Operand) (a b:OA):eqGuard op t x y (.pointer a) (.pointer b)=pure ():=by
 cases op <;> rfl
theorem Ax (op:BinOp) (t:TI) (x y:Operand) (a b:OA) (n c n' c':Nat):eqGuard op t x y (.slice a n c) (.slice b n' c')=pure ():=by
 cases op <;> rfl
theorem wl (op:BinOp) (t:TI) (x y:Operand) (h:Np y=true) (v:Value):eqGuard op t x y v .nilIface=pure ():=by
 cases y <;> first | (cases h;done) | skip
 cases op <;> cases v <;> first | rfl | (cases x <;> rfl)
theorem Dm {P:Program}{t e:TI} (h:P.underlying t=some (.pointer e)) (p:OA) (w:wD):(Op.equal t (.pointer p) (.pointer none)).run P w= .ok p.isNone w:=by
 unfold Op.equal;rw[show Op.maxDepth=9999+1 from rfl];unfold Op.equalIn;rw[Sem.run_bind,run_underlying h];cases p <;> rfl
theorem zj {P:Program}{t e:TI} (h:P.underlying t=some (.pointer e)) (a:Addr) (w:wD):(Op.equal t (.pointer none) (.pointer (some a))).run P w= .ok false w:=by
 unfold Op.equal;rw[show Op.maxDepth=9999+1 from rfl];unfold Op.equalIn;rw[Sem.run_bind,run_underlying h];rfl
theorem zk {P:Program}{t e:TI}{j:TypeInfo} (h:P.underlying t=some (.pointer e)) (hi:P.info? e=some j) (a:Addr) (w:wD):(Op.equal t (.pointer (some a)) (.pointer (some a))).run P w= .ok true w:=by
 have key:∀ d:Nat,(Op.equalIn (d+1) t (.pointer (some a)) (.pointer (some a))).run P w= .ok true w:=λ d=>by
  simp [Op.equalIn,run_underlying h,sizeOf,typeInfo,hi,run_sameAddr_same]
 exact key 9999
theorem wm {P:Program}{t e:TI} (h:P.underlying t=some (.slice e)) (p:OA) (n c n' c':Nat) (w:wD):(Op.equal t (.slice p n c) (.slice none n' c')).run P w= .ok p.isNone w:=by
 unfold Op.equal;rw[show Op.maxDepth=9999+1 from rfl];unfold Op.equalIn;rw[Sem.run_bind,run_underlying h];cases p <;> rfl
theorem Dp {P:Program}{t:TI} {ms} (h:P.underlying t=some (.interface ms)) (w:wD):(Op.equal t .nilIface .nilIface).run P w= .ok true w:=by
 unfold Op.equal;rw[show Op.maxDepth=9999+1 from rfl];unfold Op.equalIn;rw[Sem.run_bind,run_underlying h];rfl
theorem wq {P:Program}{t:TI} {ms} (h:P.underlying t=some (.interface ms)) (u:TI) (x:Value) (w:wD):(Op.equal t (.iface u x) .nilIface).run P w= .ok false w:=by
 unfold Op.equal;rw[show Op.maxDepth=9999+1 from rfl];unfold Op.equalIn;rw[Sem.run_bind,run_underlying h];rfl
def Dh (op:BinOp) (t:TI) (ox oy:Operand) (x y:Value):Sem Value:=do eqGuard op t ox oy x y;binOp op t x y
theorem Nw {P:Program}{op:BinOp}{t:TI}{ox oy:Operand}{x y:Value}{pos:Bool}{k:Value->Prop}{dflt:Prop} (hop:(op= .eql/\pos=true)∨(op= .neq/\pos=false)) (h:ahu P op t ox oy x y pos k dflt) :
  dflt∨∃ v,(∀ w,(Dh op t ox oy x y).run P w= .ok v w)/\k v:=by
 unfold ahu at h;split at h
 ·split at h
  ·rename_i ms hm;obtain⟨hc,h⟩:=aj h;rcases Lb h with ⟨e,hk⟩ | ⟨u,z,e,hk⟩
   ·subst e;refine .inr ⟨_,λ w=>?_,hk⟩;unfold Dh;rw[wl _ _ _ _ hc];rcases hop with ⟨rfl,rfl⟩ | ⟨rfl,rfl⟩
    ·simp [binOp,Sem.run_bind,Dp hm]
    ·simp [binOp,Sem.run_bind,Dp hm]
   ·subst e;refine .inr ⟨_,λ w=>?_,hk⟩;unfold Dh;rw[wl _ _ _ _ hc];rcases hop with ⟨rfl,rfl⟩ | ⟨rfl,rfl⟩
    ·simp [binOp,Sem.run_bind,wq hm]
    ·simp [binOp,Sem.run_bind,wq hm]
  ·exact h.elim
 ·obtain⟨p,rfl,h⟩:=gq h;split at h
  ·rename_i e he;unfold eqPtr at h;split at h
   ·refine .inr ⟨_,λ w=>?_,h⟩;unfold Dh;rw[pb];rcases hop with ⟨rfl,rfl⟩ | ⟨rfl,rfl⟩
    ·simp [binOp,Sem.run_bind,Dm he]
    ·simp [binOp,Sem.run_bind,Dm he]
   rename_i q _
   cases p with
   | none =>
    have h:k (.bool !pos):=h;refine .inr ⟨_,λ w=>?_,h⟩;unfold Dh;rw[pb];rcases hop with ⟨rfl,rfl⟩ | ⟨rfl,rfl⟩
    ·simp [binOp,Sem.run_bind,zj he]
    ·simp [binOp,Sem.run_bind,zj he]
   | some b =>
    have h:bif (P.info? e).isSome then b=q/\k (.bool pos) else False:=h
    cases hi:P.info? e with
    | none=>rw[hi] at h;exact h.elim
    | some j =>
     rw[hi] at h;obtain⟨rfl,h4⟩:=h;refine .inr ⟨_,λ w=>?_,h4⟩;unfold Dh;rw[pb];rcases hop with ⟨rfl,rfl⟩ | ⟨rfl,rfl⟩
     ·simp [binOp,Sem.run_bind,zk he hi]
     ·simp [binOp,Sem.run_bind,zk he hi]
  ·exact h.elim
 ·obtain⟨p,n,c,rfl,h⟩:=bt h;split at h
  ·rename_i e he;refine .inr ⟨_,λ w=>?_,h⟩;unfold Dh;rw[Ax];rcases hop with ⟨rfl,rfl⟩ | ⟨rfl,rfl⟩
   ·simp [binOp,Sem.run_bind,wm he]
   ·simp [binOp,Sem.run_bind,wm he]
  ·exact h.elim
 ·obtain⟨xs,rfl,b,h1,h2⟩:=nk h;exact .inr ⟨_,h1,h2⟩
 ·exact .inl h
theorem Uj {P:Program}{op:BinOp}{t:TI}{ox oy:Operand}{x y:Value}{k:Value->Prop}{dflt:Prop} (h:Zm P op t ox oy x y k dflt) :
  dflt∨∃ v,(∀ w,(Dh op t ox oy x y).run P w= .ok v w)/\k v:=by
 unfold Zm at h;split at h
 case h_12=>exact Nw (.inl ⟨rfl,rfl⟩) h
 case h_13=>exact Nw (.inr ⟨rfl,rfl⟩) h
 case h_14=>exact .inl h
 case h_10 =>
  obtain⟨κ,a,rfl,h1⟩:=ap h;obtain⟨κ',b,rfl,hb,h2⟩:=ap h1;refine .inr ⟨_,λ w=>?_,dv h2⟩;unfold Dh;rw[bq (by simp) (by simp)];simp [binOp,Op.shift,show ¬ b<0 by omega]
 case h_11 =>
  obtain⟨κ,a,rfl,h1⟩:=ap h;obtain⟨κ',b,rfl,hb,h2⟩:=ap h1;refine .inr ⟨_,λ w=>?_,dv h2⟩;unfold Dh;rw[bq (by simp) (by simp)];simp [binOp,Op.shift,show ¬ b<0 by omega]
 case h_4 =>
  obtain⟨κ,a,rfl,h1⟩:=ap h;obtain⟨κ',b,rfl,h2⟩:=ap h1;obtain⟨e,hb,h3⟩:=aj h2;obtain rfl:=qB e;refine .inr ⟨_,λ w=>?_,dv h3⟩;unfold Dh;rw[bq (by simp) (by simp)];simp [binOp,Op.intDiv,hb]
 case h_5 =>
  obtain⟨κ,a,rfl,h1⟩:=ap h;obtain⟨κ',b,rfl,h2⟩:=ap h1;obtain⟨e,hb,h3⟩:=aj h2;obtain rfl:=qB e;refine .inr ⟨_,λ w=>?_,dv h3⟩;unfold Dh;rw[bq (by simp) (by simp)];simp [binOp,Op.intDiv,hb]
 case h_1 =>
  split at h
  ·obtain⟨e,h3⟩:=aj h;obtain rfl:=qB e;refine .inr ⟨_,λ w=>?_,dv h3⟩;unfold Dh;rw[bq (by simp) (by simp)];simp [binOp,Op.intArith]
  ·rename_i a b;obtain⟨hs,h3⟩:=h;refine .inr ⟨_,λ w=>?_,h3 _ rfl⟩;unfold Dh;rw[bq (by simp) (by simp)]
   have hs':¬ ((a.size+b.size:Nat):Int) > IntKind.i64.max:=by
    show ¬ ((a.size+b.size:Nat):Int) > 9223372036854775807;omega
   simp only[Sem.run_bind,Sem.run_pure,Result.andThen_ok,binOp,Op.stringOp];rw[if_neg hs'];rfl
  ·exact .inl h
 case h_2 =>
  split at h
  ·obtain⟨e,h3⟩:=aj h;obtain rfl:=qB e;refine .inr ⟨_,λ w=>?_,dv h3⟩;unfold Dh;rw[bq (by simp) (by simp)];simp [binOp,Op.intArith]
  ·exact .inl h
 case h_3 =>
  split at h
  ·obtain⟨e,h3⟩:=aj h;obtain rfl:=qB e;refine .inr ⟨_,λ w=>?_,dv h3⟩;unfold Dh;rw[bq (by simp) (by simp)];simp [binOp,Op.intArith]
  ·exact .inl h
 all_goals
  obtain⟨κ,a,rfl,h1⟩:=ap h;obtain⟨κ',b,rfl,h2⟩:=ap h1;obtain⟨e,h3⟩:=aj h2;obtain rfl:=qB e;refine .inr ⟨_,λ w=>?_,dv h3⟩;unfold Dh;rw[bq (by simp) (by simp)];simp [binOp,Op.intBits]
theorem cn {P:Program}{t:TI} (h:there P t=true):(∃ i,P.info? t=some i)/\∃ d,P.underlying t=some d:=by
 unfold there at h;rw[qU] at h;exact⟨Option.isSome_iff_exists.1 h.1,Option.isSome_iff_exists.1 h.2⟩
theorem Dq {P:Program}{t:TI} (ht:there P t=true){vs:AV}{off:Nat}{k:Value->Prop} (h:nj (oz P t) vs off (P.cellsOf t) k):∃ v,(∀ w,(part t vs off).run P w= .ok v w)/\k v:=by
 obtain⟨⟨i,hi⟩,d,hd⟩:=cn ht;rcases Aw (P:=P) (t:=t) with ⟨h1,d',hd',hagg⟩ | ⟨h1,hagg⟩
 ·rw[h1] at h;obtain⟨us,rfl,hk⟩:=h;obtain rfl:d=d':=by rw[hd] at hd';exact Option.some.inj hd'
  refine⟨_,λ w=>?_,hk⟩;unfold part;rw[Sem.run_bind,rn hd,hagg];simp [Sem.run_bind,bd hi]
 ·have h2:∃ v,vs[off]?=some v/\k v:=by
   generalize hs:oz P t=s at h h1;cases s <;> simp only[nj] at h
   case agg=>exact absurd rfl h1
   case slice=>obtain⟨p,n,c,q1,q2⟩:=h;exact⟨_,q1,q2⟩
   all_goals (obtain⟨x,q1,q2⟩:=h;exact⟨_,q1,q2⟩)
  obtain⟨v,hv,hk⟩:=h2;refine⟨v,λ w=>?_,hk⟩;unfold part;rw[Sem.run_bind,rn hd,hagg d hd];simp [hv]
theorem Gl {P:Program}{t:TI}{f:Nat}{fd:Field} (h:tu P t f=some fd) (h0:P.cellsOf fd.type≠0) (a:Addr) (w:wD):(Instr.fieldAt t (.pointer (some a)) f).run P w= .ok (.pointer (some (a.add fd.offset))) w:=by
 unfold tu at h;split at h
 ·rename_i fs hu;split at h
  ·rename_i fd' hf
   cases ht:there P fd'.type with
   | false=>rw[ht] at h;cases h
   | true =>
    rw[ht] at h;cases h;obtain⟨⟨i,hi⟩, -⟩:=cn ht;unfold Instr.fieldAt;rw[Sem.run_bind,run_underlying hu];simp [Sem.run_bind,hf,Instr.sureAddr,fieldPlace,bd hi,h0]
  ·cases h
 ·cases h
theorem Ny {P:Program}{t:TI}{f:Nat}{fd:Field} (h:tu P t f=some fd){vs:AV}{k:Value->Prop} (hg:nj (oz P fd.type) vs fd.offset (P.cellsOf fd.type) k):∃ v,(∀ w,(Instr.field t (.agg vs) f).run P w= .ok v w)/\k v:=by
 unfold tu at h;split at h
 ·rename_i fs hu;split at h
  ·rename_i fd' hf
   cases ht:there P fd'.type with
   | false=>rw[ht] at h;cases h
   | true =>
    rw[ht] at h;cases h;obtain⟨v,h1,h2⟩:=Dq ht hg;refine⟨v,λ w=>?_,h2⟩;unfold Instr.field;rw[Sem.run_bind,run_underlying hu];simp [Sem.run_bind,hf,Go.asAgg,h1 w]
  ·cases h
 ·cases h
theorem uy {P:Program}{t:TI}{n:Nat}{e:TI} (h:zh P t=some (some n,e)):P.underlying t=some (.array n e)/\there P e=true:=by
 unfold zh at h;split at h
 ·rename_i n' e' hu
  cases ht:there P e' with
  | false=>rw[ht] at h;cases h
  | true=>rw[ht] at h;cases h;exact⟨hu,ht⟩
 ·rename_i e' hu
  cases ht:there P e' with
  | false=>rw[ht] at h;cases h
  | true=>rw[ht] at h;cases h
 ·cases h
theorem Dr {P:Program}{t:TI}{e:TI} (h:zh P t=some (none,e)):P.underlying t=some (.slice e)/\there P e=true:=by
 unfold zh at h;split at h
 ·rename_i n' e' hu
  cases ht:there P e' with
  | false=>rw[ht] at h;cases h
  | true=>rw[ht] at h;cases h
 ·rename_i e' hu
  cases ht:there P e' with
  | false=>rw[ht] at h;cases h
  | true=>rw[ht] at h;cases h;exact⟨hu,ht⟩
 ·cases h
theorem ac (g o n:Nat):(⟨g,o,none⟩:Addr).add n=⟨g,o+n,none⟩:=by
 unfold Addr.add;by_cases h:n=0
 ·subst h;rfl
 ·rw[if_neg h]
theorem Ay {P:Program}{t e:TI}{n:Nat} (h:P.underlying t=some (.array n e)) (ht:there P e=true) (g o:Nat) (κ:IntKind) (i:Int) (h0:0≤i) (h1:i<n) (w:wD) :
  (Instr.indexAt t (.pointer (some ⟨g,o,none⟩)) (.int κ i)).run P w= .ok (.pointer (some ⟨g,o+i.toNat * P.cellsOf e,none⟩)) w:=by
 obtain⟨⟨j,hj⟩, -⟩:=cn ht;unfold Instr.indexAt;simp only[Go.asIntOf,Sem.run_bind,Sem.run_pure,Result.andThen_ok,run_underlying h,Instr.sureAddr];simp [h0,h1,Sem.run_bind,bd hj,ac]
theorem Az {P:Program}{t e:TI}{n c:Nat} (h:P.underlying t=some (.slice e)) (ht:there P e=true) (g o:Nat) (κ:IntKind) (i:Int) (h0:0≤i) (h1:i<n) (w:wD) :
  (Instr.indexAt t (.slice (some ⟨g,o,none⟩) n c) (.int κ i)).run P w= .ok (.pointer (some ⟨g,o+i.toNat * P.cellsOf e,none⟩)) w:=by
 obtain⟨⟨j,hj⟩, -⟩:=cn ht;unfold Instr.indexAt;simp only[Go.asIntOf,Sem.run_bind,Sem.run_pure,Result.andThen_ok,run_underlying h];simp [h0,h1,Sem.run_bind,bd hj,ac]
theorem Gm {P:Program}{t e:TI}{n:Nat} (h:P.underlying t=some (.array n e)) (ht:there P e=true){vs:AV} (κ:IntKind) (i:Int) (h0:0≤i) (h1:i<n){k:Value->Prop} (hg:nj (oz P e) vs (i.toNat * P.cellsOf e) (P.cellsOf e) k) :
  ∃ v,(∀ w,(Instr.index t (.agg vs) (.int κ i)).run P w= .ok v w)/\k v:=by
 obtain⟨⟨j,hj⟩, -⟩:=cn ht;obtain⟨v,q1,q2⟩:=Dq ht hg;refine⟨v,λ w=>?_,q2⟩;unfold Instr.index;simp only[Go.asIntOf,Sem.run_bind,Sem.run_pure,Result.andThen_ok,run_underlying h];simp [h0,h1,Sem.run_bind,bd hj,q1 w]
theorem Dt {P:Program}{t:TI} (h:P.underlying t=some .string){s:ByteArray} (κ:IntKind) (i:Int) (h0:0≤i){b:UInt8} (hb:s[i.toNat]?=some b) (w:wD) :
  (Instr.index t (.string s) (.int κ i)).run P w= .ok (.int .u8 b.toNat) w:=by
 unfold Instr.index;simp only[Go.asIntOf,Sem.run_bind,Sem.run_pure,Result.andThen_ok,run_underlying h];simp [h0,hb]
theorem dm {P:Program}{κ:IntKind}{i:Int}{y:Nat} (h0:0≤i) (h1:i≤y) (c:BoundsCode) (w:wD):(Instr.sliceBound (.int κ i) y c).run P w= .ok i.toNat w:=by
 unfold Instr.sliceBound;simp only[Go.asIntOf,Sem.run_bind,Sem.run_pure,Result.andThen_ok];simp [h0,h1]
theorem uz {P:Program}{p:OA}{len cap size:Nat}{lo hi mx:Option Value}{k:Value->Prop} (sl:Bool) (hlc:len≤cap∨sl=true) (h:rj P p len cap size lo hi mx k) :
  ∃ l h' m,(∀ w,(Instr.sliceBounds sl len cap lo hi mx).run P w= .ok (l,h',m) w)/\k (.slice (sub p m l size) (h' - l) (m - l)):=by
 have s0:∀ m,sub p m 0 size=p:=by
  intro m;unfold sub;split
  ·rfl
  ·cases p <;> simp [Addr.add]
 unfold rj at h;split at h
 ·refine⟨0,len,cap,λ w=>?_,by rw[s0];exact h⟩;simp [Instr.sliceBounds]
 ·obtain⟨κ,x,rfl,⟨h0,h1⟩,hk⟩:=ap h;refine⟨0,x.toNat,cap,λ w=>?_,by rw[s0];exact hk⟩;unfold Instr.sliceBounds;simp only[Sem.run_bind,Sem.run_pure,Result.andThen_ok,dm h0 h1]
 ·obtain⟨κ,x,rfl,⟨h0,h1⟩,hk⟩:=ap h;refine⟨x.toNat,len,cap,λ w=>?_,hk⟩;unfold Instr.sliceBounds;simp only[Sem.run_bind,Sem.run_pure,Result.andThen_ok,dm h0 h1]
 ·obtain⟨κ,x,rfl,h2⟩:=ap h;obtain⟨κ',y,rfl,⟨h0,h1,h3⟩,hk⟩:=ap h2;refine⟨x.toNat,y.toNat,cap,λ w=>?_,hk⟩;unfold Instr.sliceBounds;simp only[Sem.run_bind,Sem.run_pure,Result.andThen_ok,dm (show 0≤y by omega) h3,dm (y:=y.toNat) h0 (by omega)]
 ·obtain⟨κ,x,rfl,h2⟩:=ap h;obtain⟨κ',y,rfl,h3⟩:=ap h2;obtain⟨κ'',z,rfl,⟨h0,h1,h4,h5⟩,hk⟩:=ap h3;refine⟨x.toNat,y.toNat,z.toNat,λ w=>?_,hk⟩;unfold Instr.sliceBounds;simp only[Sem.run_bind,Sem.run_pure,Result.andThen_ok,dm (show 0≤z by omega) h5,dm (y:=z.toNat) (show 0≤y by omega) (by omega),dm (y:=y.toNat) h0 (by omega)]
 ·exact h.elim
theorem Ba {x:Option Value}{d:Nat}{k:Nat->Prop} (h:bnd x d k):(x=none/\k d)∨∃ κ i,x=some (.int κ i)/\0≤i/\k i.toNat:=by
 cases x with
 | none=>exact .inl ⟨rfl,h⟩
 | some v =>
  obtain⟨κ,i,rfl,h0,hk⟩:=ap h;exact .inr ⟨κ,i,rfl,h0,hk⟩
theorem Uk (us:LV):∀ (pre mid post:LV) (q:Nat),mid.length=us.length ->
  (us.zipIdx q).foldl (λ (cs:AV) (x:Value×Nat)=>cs.setIfInBounds ((pre.length - q)+x.2) x.1) (pre++mid++post).toArray=(pre++us++post).toArray∨pre.length<q:=by
 induction us with
 | nil=>intro pre mid post q h;left;have:mid=[]:=qHB (by simpa using h);subst this;simp
 | cons u us ih =>
  intro pre mid post q h;by_cases hq:pre.length<q
  ·exact .inr hq
  left
  match mid,h with
  | m::mid,h =>
   simp only[List.zipIdx_cons,qKB]
   have e1:((pre++m::mid++post).toArray.setIfInBounds (pre.length - q+q) u)=((pre++[u])++mid++post).toArray:=by
    rw[show pre.length - q+q=pre.length by omega];simp [List.setIfInBounds_toArray]
   rw[e1];rcases ih (pre++[u]) mid post (q+1) (by simpa using h) with h2 | h2
   ·simp only[qP,List.length_singleton] at h2;rw[show pre.length+1 - (q+1)=pre.length - q by omega] at h2;rw[h2];simp
   ·simp at h2;omega
theorem Oa (us:AV) (pre mid post:LV) (h:mid.length=us.size) :
  us.zipIdx.foldl (λ (cs:AV) (x:Value×Nat)=>cs.setIfInBounds (pre.length+x.2) x.1) (pre++mid++post).toArray=(pre++us.toList++post).toArray:=by
 rcases Uk us.toList pre mid post 0 (by simpa using h) with h1 | h1
 ·simp only[Nat.sub_zero] at h1;rw[<- h1,<- Array.foldl_toList];simp
 ·omega
theorem Bb (place:Nat->Option (Nat×Nat)) (parts0:List (Nat×Value)):∀ (ns:LN) (j:Nat) (z:LV) (κ:LV->Prop) (pre:LV) (parts:List (Nat×Value)) (N:Nat),
  z.length=ns.foldr (· + ·) 0->ke N j (parts.map (·.1))=true->N≤j+ns.length->(∀ i,j≤i->parts0.find? (λ q=>Nat.beq q.1 i)=parts.find? (λ q=>Nat.beq q.1 i)) ->
  (∀ q n,ns[q]?=some n->place (j+q)=some (pre.length+(ns.take q).foldr (· + ·) 0,n))->asm ns j z parts0 κ ->
  ∃ r,κ r/\Instr.fill place (pre++z).toArray parts=some (pre++r).toArray:=by
 intro ns
 induction ns with
 | nil =>
  intro j z κ pre parts N hz hr hN hf hp h;have:z=[]:=qHB (by simpa using hz);subst this
  have hpn:parts=[]:=by
   cases parts with
   | nil=>rfl
   | cons x r =>
    simp only[quB,ke,qU] at hr;have h1:=qpB hr.1.1;have h2:x.1+1≤N:=qpB hr.1.2;simp at hN;omega
  subst hpn;exact⟨[],h,by simp [Instr.fill]⟩
 | cons n ns ih =>
  intro j z κ pre parts N hz hr hN hf hp h;simp only[List.foldr_cons] at hz
  have hzn:(z.take n).length=n:=by simp;omega
  have hzd:(z.drop n).length=ns.foldr (· + ·) 0:=by simp;omega
  have hp':∀ (pre':LV),pre'.length=pre.length+n->∀ q m,ns[q]?=some m->place (j+1+q)=some (pre'.length+(ns.take q).foldr (· + ·) 0,m):=by
   intro pre' hl q m hm;have:=hp (q+1) m (by simpa using hm);rw[show j+(q+1)=j+1+q by omega] at this;rw[this,hl];simp [Nat.add_assoc]
  have hstay:∀ (x:Nat×Value) (r:List (Nat×Value)),parts=x::r->x.1=j->(∀ i,j+1≤i->parts0.find? (λ q=>Nat.beq q.1 i)=r.find? (λ q=>Nat.beq q.1 i))/\ke N (j+1) (r.map (·.1))=true:=by
   intro x r e ex;subst e;refine⟨λ i hi=>?_,?_⟩
   ·rw[hf i (by omega)]
    have:Nat.beq x.1 i=false:=by
     cases hb:Nat.beq x.1 i with
     | false=>rfl
     | true=>have:=qDB hb;omega
    simp [List.find?_cons,this]
   ·simp only[quB,ke,qU] at hr;rw[ex] at hr;exact hr.2
  have h0:=hp 0 n rfl;simp only[Nat.add_zero,List.take_zero,List.foldr_nil] at h0;have hfj:=hf j (qY _);unfold asm at h;by_cases hhead:∃ x r,parts=x::r/\x.1=j
  ·obtain⟨⟨i,v⟩,r,rfl,rfl⟩:=hhead;obtain⟨hs1,hs2⟩:=hstay _ _ rfl rfl
   have:parts0.find? (λ q=>Nat.beq q.1 i)=some (i,v):=by rw[hfj];simp [List.find?_cons,Nat.beq_refl]
   rw[this] at h
   have main:∀ (us:AV) (κ':LV->Prop),v.cells=us->us.size=n->asm ns (i+1) (z.drop n) parts0 κ'->(∀ r',κ' r'->κ (us.toList++r'))->∃ r',κ r'/\Instr.fill place (pre++z).toArray ((i,v)::r)=some (pre++r').toArray:=by
    intro us κ' hv hus ha hk;obtain⟨r',h1,h2⟩:=ih (i+1) (z.drop n) κ' (pre++us.toList) r N hzd hs2 (by simp at hN;omega) hs1 (hp' _ (by simp [hus])) ha;refine⟨us.toList++r',hk r' h1,?_⟩;unfold Instr.fill;rw[h0];dsimp only;have e:=Oa us pre (z.take n) (z.drop n) (by rw[hzn,hus]);rw[ql pre,qzB] at e;rw[hv,hus]
    have hle:¬ (pre.length+n > (pre++z).toArray.size):=by simp;omega
    simp only[ne_eq,not_true_eq_false,decide_false,Bool.false_or,decide_eq_true_eq,hle,if_false];have e':us.zipIdx.foldl (λ cs x=>match x with | (c,j)=>cs.setIfInBounds (pre.length+j) c) (pre++z).toArray=(pre++us.toList++z.drop n).toArray:=e;rw[e'];rw[h2];simp
   cases v with
   | agg vs =>
    obtain⟨q1,q2⟩:=h;exact main vs _ rfl q1 q2 (λ r' hr'=>hr')
   | _ =>
    obtain⟨q1,q2⟩:=aj h;have:=qDB q1;exact main #[_] _ rfl (by simp [this]) q2 (λ r' hr'=>hr')
  ·have hnone:parts.find? (λ q=>Nat.beq q.1 j)=none/\ke N (j+1) (parts.map (·.1))=true:=by
    cases parts with
    | nil=>exact⟨rfl,rfl⟩
    | cons x r =>
     simp only[quB,ke,qU] at hr;obtain⟨⟨r1,r2⟩,r3⟩:=hr;have hx:=qpB r1;have hne:x.1≠j:=λ e=>hhead ⟨x,r,rfl,e⟩
     have later:∀ (l:LN) (lo:Nat),ke N lo l=true->∀ y ∈ l,lo≤y:=by
      intro l
      induction l with
      | nil=>intro lo _ y hy;cases hy
      | cons a l ih2 =>
       intro lo hl y hy;simp only[ke,qU] at hl;have:=qpB hl.1.1;rcases qp.1 hy with rfl | hy
       ·exact this
       ·have:=ih2 _ hl.2 y hy;omega
     refine⟨?_,?_⟩
     ·rw[List.find?_eq_none];intro y hy hb;have:=qDB hb;rcases qp.1 hy with rfl | hy
      ·exact hne this
      ·have:=later _ _ r3 y.1 (qFC hy);omega
     ·simp only[quB,ke,qU];exact⟨⟨Nat.ble_eq_true_of_le (by omega),r2⟩,r3⟩
   rw[hfj,hnone.1] at h;obtain⟨r',h1,h2⟩:=ih (j+1) (z.drop n) _ (pre++z.take n) parts N hzd hnone.2 (by simp at hN;omega) (λ i hi=>hf i (by omega)) (hp' _ (by simp [hzn])) h;refine⟨z.take n++r',h1,?_⟩;rw[ql,qzB] at h2;rw[h2];simp
theorem Il:∀ (a:Nat) (os ns:LN),kh a os ns=true->os.length=ns.length/\∀ (q:Nat) (o:Nat),os[q]?=some o->o=a+(ns.take q).foldr (· + ·) 0
 | a,[],[],_=>⟨rfl,λ q o h=>by simp at h⟩
 | a,o::os,n::ns,h=>by
  simp only[kh,qU] at h;have h1:=qDB h.1;obtain⟨h2,h3⟩:=Il (a+n) os ns h.2;refine⟨by simp [h2],λ q o' hq=>?_⟩
  cases q with
  | zero=>simp at hq;subst hq;simp [h1]
  | succ q =>
   have:=h3 q o' (by simpa using hq);simp [this,Nat.add_assoc]
 | _,[],_::_,h=>by simp [kh] at h
 | _,_::_,[],h=>by simp [kh] at h
theorem zm {P:Program} (l:List Field) (h:∀ f ∈ l,∃ i,P.info? f.type=some i) (w:wD):(l.mapM (λ f=>do pure (f.offset,<- sizeOf f.type):Field->Sem (Nat×Nat))).run P w= .ok (l.map λ f=>(f.offset,P.cellsOf f.type)) w:=by
 induction l with
 | nil=>rfl
 | cons f l ih =>
  obtain⟨i,hi⟩:=h f (.head _)
  have e:(do pure (f.offset,<- sizeOf f.type):Sem (Nat×Nat)).run P w= .ok (f.offset,P.cellsOf f.type) w:=by
   rw[Sem.run_bind,bd hi];rfl
  rw[List.mapM_cons,Sem.run_bind,e];simp only[Result.andThen_ok];rw[Sem.run_bind,ih (λ g hg=>h g (.tail _ hg))];rfl
theorem Du:∀ {z:LV}{off:Nat}{v:Value}{κ:LV->Prop},ahv z off v κ->off<z.length/\κ (z.set off v)
 | [],_,_,_,h=>h.elim
 | _::r,0,v,κ,h=>⟨Nat.succ_pos _,h⟩
 | a::r,n+1,v,κ,h=>by
  obtain⟨h1,h2⟩:=Du (z:=r) h;exact⟨Nat.succ_lt_succ h1,h2⟩
theorem Dv {place:Nat->Option (Nat×Nat)}:∀ {parts:List (Nat×Value)}{z:LV}{κ:LV->Prop},putL place z parts κ->∃ r,κ r/\Instr.fill place z.toArray parts=some r.toArray
 | [],z,κ,h=>⟨z,h,rfl⟩
 | (i,v)::r,z,κ,h=>by
  unfold putL at h;split at h
  ·rename_i off sz hp;obtain⟨hc,h⟩:=aj h;have hsz:=qDB hc;subst hsz
   have main:v.cells=#[v]->ahv z off v (λ z'=>putL place z' r κ)->∃ r',κ r'/\Instr.fill place z.toArray ((i,v)::r)=some r'.toArray:=by
    intro hv h;obtain⟨h1,h2⟩:=Du h;obtain⟨r',h3,h4⟩:=Dv h2;refine⟨r',h3,?_⟩;unfold Instr.fill;rw[hp];dsimp only;rw[hv]
    have hle:¬ (off+1 > z.length):=by omega
    have e:(#[v]:AV).zipIdx.foldl (λ cs x=>match x with | (c,j)=>cs.setIfInBounds (off+j) c) z.toArray=(z.set off v).toArray:=by
     simp
    rw[e,h4];simp [hle]
   cases v with
   | agg vs=>exact h.elim
   | _=>exact main rfl h
  ·exact h.elim
theorem Ld {P:Program}{t:TI}{parts:Array (Nat×Value)}{k:Value->Prop} (h:Ge P t parts.toList k):∃ v,(∀ w,(Instr.build t parts).run P w= .ok v w)/\k v:=by
 unfold Ge at h;split at h
 ·rename_i i hi;split at h
  ·rename_i z hz;split at h
   ·rename_i fs hu;rcases Zs h with ⟨hc,ha⟩ | hb
    rotate_left
    ·obtain⟨h4,ha⟩:=aj hb;have hth:∀ f ∈ fs.toList,∃ i,P.info? f.type=some i:=λ f hf=>(cn (List.all_eq_true.1 h4 f hf)).1;obtain⟨r,hk,hfill⟩:=Dv ha;refine⟨_,λ w=>?_,hk _ rfl⟩;unfold Instr.build
     have hz':(zeroValue t).run P w= .ok (.agg z) w:=by simp [zeroValue,typeInfo,program,Sem.run_bind,Sem.run,hi,hz]
     rw[Sem.run_bind,hz'];simp only[Result.andThen_ok];rw[Sem.run_bind,run_underlying hu];simp only[Result.andThen_ok];rw[Sem.run_bind,Array.mapM_eq_mapM_toList];rw[map_eq_pure_bind,Sem.run_bind,zm _ hth w];simp only[Result.andThen_ok,Sem.run_pure]
     have e:(λ x=>(List.map (λ f=>(f.offset,P.cellsOf f.type)) fs.toList).toArray[x]?)=λ (j:Nat)=>(fs.toList[j]?).map λ (f:Field)=>(f.offset,P.cellsOf f.type):=by
      funext j;simp
     rw[e]
     have hfill':Instr.fill (λ j=>(fs.toList[j]?).map λ (f:Field)=>(f.offset,P.cellsOf f.type)) (Value.agg z).cells parts.toList=some r.toArray:=by simpa [Value.cells] using hfill
     rw[hfill'];rfl
    simp only[qU] at hc;obtain⟨⟨⟨h1,h2⟩,h3⟩,h4⟩:=hc;have h3:=qDB h3;obtain⟨q1,q2⟩:=Il _ _ _ h2;have hth:∀ f ∈ fs.toList,∃ i,P.info? f.type=some i:=λ f hf=>(cn (List.all_eq_true.1 h4 f hf)).1
    obtain⟨r,hk,hfill⟩:=Bb (λ j=>(fs[j]?).map λ f=>(f.offset,P.cellsOf f.type)) parts.toList _ 0 z.toList _ [] parts.toList fs.size (by simpa using h3) h1 (by simp) (λ _ _=>rfl) (by
     intro q n hq;rw[qS] at hq
     cases hf:fs.toList[q]? with
     | none=>rw[hf] at hq;simp at hq
     | some f =>
      rw[hf] at hq;simp at hq;subst hq;have:=q2 q f.offset (by rw[qS,hf];rfl)
      have hf':fs[q]?=some f:=by simpa using hf
      simp [hf',this]) ha
    refine⟨_,λ w=>?_,hk _ rfl⟩;unfold Instr.build
    have hz':(zeroValue t).run P w= .ok (.agg z) w:=by simp [zeroValue,typeInfo,program,Sem.run_bind,Sem.run,hi,hz]
    rw[Sem.run_bind,hz'];simp only[Result.andThen_ok];rw[Sem.run_bind,run_underlying hu];simp only[Result.andThen_ok];rw[Sem.run_bind,Array.mapM_eq_mapM_toList];rw[map_eq_pure_bind,Sem.run_bind,zm _ hth w];simp only[Result.andThen_ok,Sem.run_pure]
    have e:(λ x=>(List.map (λ f=>(f.offset,P.cellsOf f.type)) fs.toList).toArray[x]?)=λ (j:Nat)=>(fs[j]?).map λ (f:Field)=>(f.offset,P.cellsOf f.type):=by
     funext j;simp
    rw[e]
    have hfill':Instr.fill (λ j=>(fs[j]?).map λ (f:Field)=>(f.offset,P.cellsOf f.type)) (Value.agg z).cells parts.toList=some r.toArray:=by simpa [Value.cells] using hfill
    rw[hfill'];rfl
   ·rename_i n e hu;obtain⟨hc,ha⟩:=aj h;simp only[qU] at hc;obtain⟨⟨h1,h2⟩,h3⟩:=hc;have h2:=qDB h2;obtain⟨⟨ie,hie⟩, -⟩:=cn h3
    have sum_rep:∀ (m s:Nat),(List.replicate m s).foldr (· + ·) 0=m * s:=by
     intro m s
     induction m with
     | zero=>simp
     | succ m ih=>rw[List.replicate_succ,List.foldr_cons,ih,Nat.succ_mul,Nat.add_comm]
    obtain⟨r,hk,hfill⟩:=Bb (λ j=>some (j * P.cellsOf e,P.cellsOf e)) parts.toList _ 0 z.toList _ [] parts.toList n (by simp [sum_rep,h2]) h1 (by simp) (λ _ _=>rfl) (by
     intro q m hq;rw[qEC] at hq;split at hq
     ·rename_i hlt;cases hq;rw[List.take_replicate,sum_rep,qPB (by omega)];simp
     ·cases hq) ha
    refine⟨_,λ w=>?_,hk _ rfl⟩;unfold Instr.build
    have hz':(zeroValue t).run P w= .ok (.agg z) w:=by simp [zeroValue,typeInfo,program,Sem.run_bind,Sem.run,hi,hz]
    rw[Sem.run_bind,hz'];simp only[Result.andThen_ok];rw[Sem.run_bind,run_underlying hu];simp only[Result.andThen_ok];rw[Sem.run_bind,bd hie];simp only[Result.andThen_ok]
    have hfill':Instr.fill (λ j=>some (j * P.cellsOf e,P.cellsOf e)) (Value.agg z).cells parts.toList=some r.toArray:=by simpa [Value.cells] using hfill
    rw[hfill'];rfl
   ·exact h.elim
  ·exact h.elim
 ·exact h.elim
theorem tz {v:Value}{k:Option Nat->Prop} (h:Ud v k):∃ p,v= .map p/\k p:=by
 cases v <;> first | exact⟨_,rfl,h⟩ | exact h.elim
theorem wu {p:Option Nat}{k:Nat->Prop} (h:mapp p k):∃ b,p=some b/\k b:=by
 cases p with
 | none=>exact h.elim
 | some b=>exact⟨b,rfl,h⟩
theorem ua {P:Program}{t:TI}{κ:IntKind}{e:TI} (h:Nn P t=some (κ,e)):∃ kt,P.underlying t=some (.map kt e)/\P.underlying kt=some (.int κ):=by
 unfold Nn at h;split at h
 ·rename_i kt e' h1;split at h
  ·rename_i κ' h2;cases h;exact⟨kt,h1,h2⟩
  ·cases h
 ·cases h
theorem Gp {P:Program}{e:TI}{z:Value} (h:Nm P e=some z) (w:wD):(zeroValue e).run P w= .ok z w:=by
 unfold Nm at h;obtain⟨i,hi,hz⟩:=Option.bind_eq_some_iff.1 h;simp [zeroValue,typeInfo,program,Sem.run_bind,Sem.run,hi,hz]
theorem Mp.keeps {w w':wD}{κ:IntKind}{b:Nat}{f:Int->Option Value} (h:Mp w κ b f) (hk:Keeps w w'):Mp w' κ b f:=by
 obtain⟨es,clock,hb,hm⟩:=h;exact⟨es,clock,hk.2 _ _ _ hb,hm⟩
theorem look_some {P:Program}{t:TI}{m key:Value}{ok:Bool}{w:wD}{k:Value->Prop} (h:Nq P t m key ok w k):∃ v,(∀ w',Keeps w w'->(Instr.lookup t m key ok).run P w'= .ok v w')/\k v:=by
 unfold Nq at h;split at h
 ·rename_i κ e hm;split at h
  ·rename_i z hz;obtain⟨p,rfl,g1⟩:=tz h;obtain⟨b,rfl,g2⟩:=wu g1;obtain⟨κ',x,rfl,g3⟩:=ap g2;obtain⟨hk,f,hf,g4⟩:=aj g3;obtain rfl:=qB hk;obtain⟨v,rfl,g5⟩:=Sh.ex_some g4;obtain⟨kt,h1,h2⟩:=ua hm;exact⟨_,λ w' hw=>Ub h1 h2 (hf.keeps hw) (Gp hz) ok,g5⟩
  ·exact h.elim
 ·exact h.elim
theorem Ul {P:Program}{t:TI}{m key v:Value}{w:wD}{k:wD->Prop} (h:Zo P t m key v w k):∃ w',(Instr.mapUpdate t m key v).run P w= .ok () w'/\k w':=by
 unfold Zo at h;split at h
 ·rename_i κ e hm;obtain⟨p,rfl,g1⟩:=tz h;obtain⟨b,rfl,g2⟩:=wu g1;obtain⟨κ',x,rfl,g3⟩:=ap g2;obtain⟨hk,f,hf,g4⟩:=aj g3;obtain rfl:=qB hk;obtain⟨kt,h1,h2⟩:=ua hm;obtain⟨w',q1,q2,q3⟩:=Zk (v:=v) (x:=x) h1 h2 hf;exact⟨w',q1,g4 w' q2 q3⟩
 ·exact h.elim
theorem Um {P:Program}{t ty:TI}{ts:Array TI}{m key:Value}{w:wD}{k:wD->Prop} (h0:ts[0]?=some t) (h:Zp P t m key w k):∃ w',(Builtin.delete_ ts ty #[m,key]).run P w= .ok (.tuple #[]) w'/\k w':=by
 unfold Zp at h;split at h
 ·rename_i κ e hm;obtain⟨p,rfl,g1⟩:=tz h;obtain⟨b,rfl,g2⟩:=wu g1;obtain⟨κ',x,rfl,g3⟩:=ap g2;obtain⟨hk,f,hf,g4⟩:=aj g3;obtain rfl:=qB hk;obtain⟨kt,h1,h2⟩:=ua hm;obtain⟨w',q1,q2,q3⟩:=Zl (ty:=ty) (x:=x) h0 h1 h2 hf;exact⟨w',q1,g4 w' q2 q3⟩
 ·exact h.elim
theorem Un {P:Program}{s d:TI}{v:Value}{w:wD}{k:Value->Prop} (h:Zn P s v w k) (e2:oz P d= .str):∃ l:LI,(∀ w',Keeps w w'->(convert s d v).run P w'= .ok (.string (bstr l)) w')/\k (.string (bstr l)):=by
 unfold Zn at h
 have f2:P.underlying d=some .string:=by
  unfold oz at e2
  cases hu:P.underlying d with
  | none=>rw[hu] at e2;cases e2
  | some d1=>rw[hu] at e2;cases d1 <;> first | rfl | cases e2
 split at h
 ·rename_i e hs;split at h
  ·rename_i κ he;obtain⟨hκ,h⟩:=aj h;obtain rfl:=qB hκ
   have f3:P.underlying e=some (.int .u8):=by
    unfold oz at he
    cases hu:P.underlying e with
    | none=>rw[hu] at he;cases he
    | some d1=>rw[hu] at he;cases d1 <;> first | (cases he;rfl) | cases he
   obtain⟨p,n,c,rfl,h⟩:=bt h
   ·obtain⟨l,⟨hl,hc⟩,hk⟩:=h;refine⟨l,λ w' hw=>?_,hk⟩;rw[run_convert_bytes_string w' s d e p n c hs f3 f2];by_cases h0:0<n
    ·obtain⟨g,off,rfl,hq⟩:=hc h0;refine run_bytesToString w' _ n c l ?_
     have:=run_loadCells_list (P:=P) w' ⟨g,off,none⟩ (l.map (Value.int .u8)) (λ j v hv=>by
      rw[qS] at hv
      cases hx:l[j]? with
      | none=>rw[hx] at hv;cases hv
      | some x=>rw[hx] at hv;cases hv;rw[show(⟨g,off,none⟩:Addr).add j=⟨g,off+j,none⟩ by simp [Addr.add]];exact hw.1 _ _ (hq j x hx))
     rw[qd,hl] at this;exact this
    ·obtain rfl:n=0:=by omega
     obtain rfl:l=[]:=qHB hl
     cases p with
     | none=>simp [Conv.bytesToString,bstr,Sem.run_pure]
     | some a=>exact run_bytesToString w' a 0 c [] rfl
  ·exact h.elim
 ·exact h.elim
theorem mg {P:Program}{o:Oper}{F:Fr}{w:wD}{k:Value->Prop} (h:ki P o F w k):∃ v,Zr P (execOp (ev F) o) w v/\k v:=by
 have pure_case:wi P (execOp (ev F) o) k->∃ v,Zr P (execOp (ev F) o) w v/\k v:=λ h=>by
  obtain⟨v,h1,h2⟩:=wk h;exact⟨v,λ m _=>h1 _,h2⟩
 have lift:∀ {s:Sem Value} {v:Value},(execOp (ev F) o=do pure (.value (← s)))->(∀ w',Keeps w w'->s.run P w'= .ok v w')->Zr P (execOp (ev F) o) w v:=by
  intro s v he hs m hm;rw[he,Sem.run_bind,hs m hm];rfl
 obtain⟨dst,op,type,pos,after,guard⟩:=o;unfold ki at h;split at h
 case h_1 x ho=>dsimp only at ho;subst ho;exact⟨_,λ m _=>rfl,h⟩
 case h_2 x ho=>dsimp only at ho;subst ho;exact⟨_,λ m _=>rfl,h⟩
 case h_3 c a b ho =>
  dsimp only at ho;subst ho;obtain⟨t,ht,h⟩:=pa h;rcases nt h with ⟨rfl,hk⟩ | ⟨rfl,hk⟩
  ·refine⟨_,λ m _=>?_,hk⟩;simp [execOp,ht,Go.asBool,Sem.run_bind]
  ·refine⟨_,λ m _=>?_,hk⟩;simp [execOp,ht,Go.asBool,Sem.run_bind]
 case h_4 t a ho =>
  dsimp only at ho;subst ho;obtain⟨u,h1,h2⟩:=load_some h;exact⟨u,lift rfl h1,h2⟩
 case h_5 x ho =>
  dsimp only at ho;subst ho;unfold notNil at h;split at h
  ·rename_i p hp;obtain⟨a,rfl,hk⟩:=ptr_some h;refine⟨_,λ m _=>?_,hk⟩;simp [execOp,hp]
  ·rename_i t p hp;exact⟨_,λ m _=>by simp [execOp,hp],h⟩
  ·rename_i f a b hp;exact⟨_,λ m _=>by simp [execOp,hp],h⟩
  ·exact h.elim
 case h_6 op t x y yt ho =>
  dsimp only at ho;subst ho;rcases Uj h with h | ⟨v,h1,h2⟩
  ·exact pure_case h
  ·exact⟨v,lift (s:=Dh op t x y (ev F x) (ev F y)) rfl (λ m _=>h1 _),h2⟩
 case h_7 s d x ho =>
  dsimp only at ho;subst ho;split at h
  ·rename_i κ1 κ2 e1 e2;obtain⟨κ,n,hx,hk⟩:=ap h
   have f1:∃ d1,P.underlying s=some d1:=by
    unfold oz at e1
    cases hu:P.underlying s with
    | none=>rw[hu] at e1;cases e1
    | some d1=>exact⟨d1,rfl⟩
   have f2:P.underlying d=some (.int κ2):=by
    unfold oz at e2
    cases hu:P.underlying d with
    | none=>rw[hu] at e2;cases e2
    | some d1=>rw[hu] at e2;cases d1 <;> first | (cases e2;rfl) | cases e2
   obtain⟨d1,f1⟩:=f1
   have f1':P.underlying s=some (.int κ1):=by
    unfold oz at e1;rw[f1] at e1;cases d1 <;> first | (cases e1;exact f1) | cases e1
   refine⟨_,lift (s:=convert s d (ev F x)) rfl (λ m _=>?_),dv hk⟩;unfold convert;rw[Sem.run_bind,run_underlying f1',Result.andThen_ok,Sem.run_bind,run_underlying f2,hx];rfl
  ·rename_i e1 e2;obtain⟨l,h1,h2⟩:=Un (d:=d) h e2;exact⟨_,lift (s:=convert s d (ev F x)) rfl h1,h2⟩
  ·exact pure_case h
 case h_8 t x f ho =>
  dsimp only at ho;subst ho;split at h
  ·rename_i fd hf
   cases hb:Nat.beq (P.cellsOf fd.type) 0 with
   | true=>rw[hb] at h;exact h.elim
   | false =>
    rw[hb] at h;obtain⟨p,hx,h1⟩:=gq h;obtain⟨a,rfl,hk⟩:=ptr_some h1;refine⟨_,lift (s:=Instr.fieldAt t (ev F x) f) rfl (λ m _=>?_),hk⟩;rw[hx];exact Gl hf (λ e=>by rw[e] at hb;cases hb) a _
  ·exact h.elim
 case h_9 t x f ho =>
  dsimp only at ho;subst ho;split at h
  ·rename_i fd hf;obtain⟨vs,hx,h1⟩:=nk h;obtain⟨v,h2,hk⟩:=Ny hf h1;refine⟨v,lift (s:=Instr.field t (ev F x) f) rfl (λ m _=>?_),hk⟩;rw[hx];exact h2 _
  ·exact h.elim
 case h_10 t x ix ho =>
  dsimp only at ho;subst ho;split at h
  ·rename_i n e he;obtain⟨hu,ht⟩:=uy he;obtain⟨p,hx,h1⟩:=gq h;obtain⟨κ,i,hi,⟨h0,h2⟩,h3⟩:=ap h1;obtain⟨g,off,rfl,hk⟩:=adr_some h3;refine⟨_,lift (s:=Instr.indexAt t (ev F x) (ev F ix)) rfl (λ m _=>?_),hk⟩;rw[hx,hi];exact Ay hu ht g off κ i h0 h2 _
  ·rename_i e he;obtain⟨hu,ht⟩:=Dr he;obtain⟨p,n,c,hx,h1⟩:=bt h;obtain⟨κ,i,hi,⟨h0,h2⟩,h3⟩:=ap h1;obtain⟨g,off,rfl,hk⟩:=adr_some h3;refine⟨_,lift (s:=Instr.indexAt t (ev F x) (ev F ix)) rfl (λ m _=>?_),hk⟩;rw[hx,hi];exact Az hu ht g off κ i h0 h2 _
  ·exact h.elim
 case h_11 t x ix ho =>
  dsimp only at ho;subst ho;split at h
  ·rename_i n e he;obtain⟨hu,ht⟩:=uy he;obtain⟨vs,hx,h1⟩:=nk h;obtain⟨κ,i,hi,⟨h0,h2⟩,h3⟩:=ap h1;obtain⟨v,h4,hk⟩:=Gm hu ht κ i h0 h2 h3;refine⟨v,lift (s:=Instr.index t (ev F x) (ev F ix)) rfl (λ m _=>?_),hk⟩;rw[hx,hi];exact h4 _
  ·split at h
   ·rename_i hu;split at h
    ·rename_i s hx;obtain⟨κ,i,hi,b,h0,hb,hk⟩:=ap h;refine⟨_,lift (s:=Instr.index t (ev F x) (ev F ix)) rfl (λ m _=>?_),hk⟩;rw[hx,hi];exact Dt hu κ i h0 hb _
    ·exact h.elim
   ·exact h.elim
 case h_12 t x lo hi mx ho =>
  dsimp only at ho;subst ho;split at h
  ·rename_i e hu;obtain⟨p,n,c,hx,h1⟩:=bt h;obtain⟨ht,h2⟩:=aj h1;obtain⟨⟨i,hi'⟩, -⟩:=cn ht;obtain⟨l,hh,m',hrun,hk⟩:=uz true (.inr rfl) h2;refine⟨_,lift (s:=Instr.sliceAt t (ev F x) (lo.map (ev F)) (hi.map (ev F)) (mx.map (ev F))) rfl (λ m _=>?_),hk⟩;unfold Instr.sliceAt;rw[Sem.run_bind,run_underlying hu];simp only[Result.andThen_ok];unfold Instr.slice;rw[Sem.run_bind,run_underlying hu];simp only[Result.andThen_ok,hx];rw[Sem.run_bind,hrun];simp only[Result.andThen_ok];rw[Sem.run_bind,bd hi'];rfl
  ·rename_i n e hu;obtain⟨p,hx,h1⟩:=gq h;obtain⟨a,rfl,h2⟩:=ptr_some h1;obtain⟨ht,h3⟩:=aj h2;obtain⟨⟨i,hi'⟩, -⟩:=cn ht;obtain⟨l,hh,m',hrun,hk⟩:=uz false (.inl (qY _)) h3;refine⟨_,lift (s:=Instr.sliceAt t (ev F x) (lo.map (ev F)) (hi.map (ev F)) (mx.map (ev F))) rfl (λ m _=>?_),hk⟩;unfold Instr.sliceAt;rw[Sem.run_bind,run_underlying hu];simp only[Result.andThen_ok,hx];rw[Sem.run_bind];simp only[Instr.sureAddr,Sem.run_pure,Result.andThen_ok];rw[Sem.run_bind,hrun];simp only[Result.andThen_ok];rw[Sem.run_bind,bd hi'];simp only[Result.andThen_ok,Sem.run_pure];unfold sub;split <;> rfl
  ·rename_i hu;split at h
   ·rename_i s hx
    have hrun:∃ l hh,(∀ w,(Instr.sliceBounds false s.size s.size (lo.map (ev F)) (hi.map (ev F)) none).run P w= .ok (l,hh,s.size) w)/\k (.string (s.extract l hh)):=by
     rcases Ba h with ⟨e1,h1⟩ | ⟨κ,i,e1,h0,h1⟩
     ·rcases Ba h1 with ⟨e2,h2,hk⟩ | ⟨κ2,i2,e2,h02,h2,hk⟩
      ·exact⟨0,s.size,λ w=>by rw[e1,e2];simp [Instr.sliceBounds],hk⟩
      ·refine⟨0,i2.toNat,λ w=>?_,hk⟩;rw[e1,e2];unfold Instr.sliceBounds;simp only[Sem.run_bind,Sem.run_pure,Result.andThen_ok,dm h02 (show i2≤(s.size:Int) by omega)]
     ·rcases Ba h1 with ⟨e2,h2,hk⟩ | ⟨κ2,i2,e2,h02,h2,hk⟩
      ·refine⟨i.toNat,s.size,λ w=>?_,hk⟩;rw[e1,e2];unfold Instr.sliceBounds;simp only[Sem.run_bind,Sem.run_pure,Result.andThen_ok,dm h0 (show i≤(s.size:Int) by omega)]
      ·refine⟨i.toNat,i2.toNat,λ w=>?_,hk⟩;rw[e1,e2];unfold Instr.sliceBounds;simp only[Sem.run_bind,Sem.run_pure,Result.andThen_ok,dm h02 (show i2≤(s.size:Int) by omega),dm (y:=i2.toNat) h0 (by omega)]
    obtain⟨l,hh,hr,hk⟩:=hrun;refine⟨_,lift (s:=Instr.sliceAt t (ev F x) (lo.map (ev F)) (hi.map (ev F)) none) rfl (λ m _=>?_),hk⟩;unfold Instr.sliceAt;rw[Sem.run_bind,run_underlying hu];simp only[Result.andThen_ok];unfold Instr.slice;rw[Sem.run_bind,run_underlying hu];simp only[Result.andThen_ok,hx];simp only[Option.isSome_none,Bool.false_eq_true,if_false];simp only[Sem.run_bind,Sem.run_pure,Result.andThen_ok,hr]
   ·exact h.elim
  ·exact h.elim
 case h_13 t parts ho =>
  dsimp only at ho;subst ho;obtain⟨v,h1,h2⟩:=Ld (parts:=parts.map λ (i,x)=>(i,ev F x)) (by simpa using h);exact⟨v,lift (s:=Instr.build t (parts.map λ (i,x)=>(i,ev F x))) rfl (λ m _=>h1 _),h2⟩
 case h_14 t x ix ok ho =>
  dsimp only at ho;subst ho;obtain⟨v,h1,h2⟩:=look_some h;exact⟨v,lift (s:=Instr.lookup t (ev F x) (ev F ix) ok) rfl h1,h2⟩
 case h_15 t x ho =>
  dsimp only at ho;subst ho;split at h
  ·rename_i n e hu;obtain⟨p,len,c,hx,hle,hk⟩:=bt h;refine⟨_,lift (s:=Instr.arrayAt t (ev F x)) rfl (λ m _=>?_),hk⟩;unfold Instr.arrayAt;rw[Sem.run_bind,run_underlying hu,hx];simp only[Result.andThen_ok,Nat.not_lt.2 hle,if_false];rfl
  ·exact h.elim
 case h_16=>exact pure_case h
theorem Le {P:Program}{o:Oper}{F:Fr}{w:wD}{k:Value->Prop} (ho:wj P o.op=true) (h:ki P o F w k):∃ v,(∀ w',(execOp (ev F) o).run P w'= .ok (.value v) w')/\k v:=by
 have key:∀ w',ki P o F w'=ki P o F w:=by
  intro w';obtain⟨dst,op,type,pos,after,guard⟩:=o
  cases op with
  | convert s d x =>
   unfold wj at ho;dsimp only at ho;unfold ki;dsimp only
   cases hs:oz P s <;> rw[hs] at ho <;> first | (cases oz P d <;> rfl) | cases ho
  | _=>first | rfl | cases ho
 have h':ki P o F { w with heap:=#[] } k:=by rw[key];exact h
 obtain⟨v,h1,h2⟩:=mg h';exact⟨v,λ w'=>h1 w' ⟨λ p v hp=>by simp [World.cell?] at hp,λ b es c hb=>by simp at hb⟩,h2⟩
theorem ww {P:Program}:∀ (ts:List TI) (acc:LV){φ:Value->Prop},La P ts acc φ->∃ v,φ v
 | [],[],φ,h=>⟨_,h⟩
 | [t],[],φ,h=>Sh.ex_some h
 | [],a::acc,φ,h=>⟨_,h⟩
 | [t],a::acc,φ,h=>by
  obtain⟨v,h⟩:=Sh.ex_some (show(oz P t).ex _ from h);exact ww [] _ h
 | t::u::ts,acc,φ,h=>by
  have h':(oz P t).ex λ v=>La P (u::ts) (acc++[v]) φ:=by
   cases acc <;> exact h
  obtain⟨v,h⟩:=Sh.ex_some h';exact ww (u::ts) _ h
theorem va {P:Program} {f:FuncId} {fn:Func} (hf:P.funcs[f]?=some fn) (hb:fn.body.isSome=true) (hn:(fn.name !="runtime.NumGoroutine")=true) (args:AV) (w:wD) :
  (callFunc f args).run P w= .ok (.enter f args) w:=by
 unfold callFunc;rw[Sem.run_bind];simp only[program,Sem.run,Result.andThen_ok,hf]
 have h1:(fn.name=="runtime.NumGoroutine")=false:=by simpa using hn
 rw[h1];simp only[Bool.false_eq_true,if_false]
 cases hbd:fn.body with
 | none=>rw[hbd] at hb;cases hb
 | some c=>simp [Sem.run]
def Zt (P:Program) (s:Sem Next) (w:wD) (k:Value->wD->Prop):Prop :=
 (∃ v w',s.run P w= .ok (.value v) w'/\k v w')∨(∃ w',s.run P w= .ok .skip w'/\k undef w') ∨
 (∃ f args,s.run P w= .ok (.enter f args) w/\Calls P f args w λ e w'=>∃ v,e= .returned v/\k v w')
theorem zo (P:Program) (t:TI) (v:Value) (w:wD):(newVar t v).run P w= .ok ⟨w.heap.size,0,none⟩ (w.alloc (.cells v.cells t)):=rfl
theorem Lf {P:Program}{f:FuncId}{args:AV}{w:wD}{k:Value->wD->Prop} (h:Gf P f args w k) :
  (callFunc f args).run P w= .ok (.enter f args) w/\Calls P f args w λ e w'=>∃ v,e= .returned v/\k v w':=by
 unfold Gf at h;split at h
 ·rename_i fn hf;obtain⟨hb,hc⟩:=aj h;rw[qU] at hb;refine⟨va hf hb.1 hb.2 args w,hc.mono ?_⟩;intro e w' he;obtain⟨v,hv⟩:=ww _ _ he;exact⟨v,hv⟩
 ·exact h.elim
theorem Ob {P:Program}{t ty:TI}{ts:Array TI}{s x:Value}{w:wD}{k:Value->wD->Prop} (ht:ts[0]?=some t) (h:Ns P t s x w k):∃ (v:Value) (w':wD),(Builtin.copy_ ts ty #[s,x]).run P w= .ok v w'/\k v w':=by
 unfold Ns at h;split at h
 ·rename_i e hu;obtain⟨hth,ha⟩:=aj h;clear h;obtain⟨⟨i,hi⟩, -⟩:=cn hth;obtain⟨p,n,c,rfl,hb⟩:=bt ha;clear ha;obtain⟨q,m,d,rfl,h⟩:=bt hb;clear hb
  have start:∀ (cells:AV) (w':wD),(Builtin.firstCells (P.cellsOf e) (Nat.min m n) (.slice q m d)).run P w= .ok cells w->(match p with | some a=>storeCells a cells.toList | none=>pure ():Sem Unit).run P w= .ok () w' ->
    (Builtin.copy_ ts ty #[.slice p n c,.slice q m d]).run P w= .ok (.int .i64 (Nat.min m n:Nat)) w':=by
   intro cells w' h1 h2;unfold Builtin.copy_;have i2:(#[Value.slice p n c,Value.slice q m d]:AV)[0]?=some (Value.slice p n c):=rfl;have i3:(#[Value.slice p n c,Value.slice q m d]:AV)[1]?=some (Value.slice q m d):=rfl;simp only[ht,i2,i3,Sem.run_bind,run_underlying hu,Result.andThen_ok,bd hi,Sem.run_pure,Builtin.lenOf];rw[h1];simp only[Result.andThen_ok]
   cases p with
   | none =>
    cases h2;rfl
   | some a =>
    dsimp only at h2 ⊢;rw[Sem.run_bind,h2];rfl
  obtain⟨news,hl,h1,hor,hk⟩:=h;refine⟨_,_,?_,hk _ rfl⟩;rcases hor with rfl | ⟨⟨a,rfl,hc⟩,g,o,rfl,hd⟩
  ·refine start #[] _ ?_ ?_
   ·have h0:Nat.min m n * P.cellsOf e=0:=by simpa using hl.symm
    cases q with
    | none=>rfl
    | some a=>simp [Builtin.firstCells,loadCells,loadCellsFrom,h0]
   ·cases p <;> rfl
  ·refine start news.toArray _ ?_ ?_
   ·have:=run_loadCells_list (P:=P) w a news hc;simp only[Builtin.firstCells];rw[<- hl];exact this
   ·have:=run_storeCells_cells (P:=P) g o news 0 w (λ j hj=>by
     obtain⟨⟨u,hu⟩, -⟩:=hd j hj
     simp [hu]) (λ j hj=>by simpa using (hd j hj).2) h1
    simpa [setRow] using this
 ·exact h.elim
theorem Lg {P:Program}{t ty:TI}{ts:Array TI}{x:Value}{w:wD}{k:Value->wD->Prop} (ht:ts[0]?=some t) (h:Gg P t x w k):∃ (v:Value) (w':wD),(Builtin.clear_ ts ty #[x]).run P w= .ok v w'/\k v w':=by
 unfold Gg at h;split at h
 ·rename_i e hu;split at h
  ·rename_i i hi;split at h
   ·rename_i z hz;split at h
    ·rename_i u hcu;obtain⟨hone,ha⟩:=aj h;clear h;obtain⟨p,n,c,rfl,hor,hk⟩:=bt ha;clear ha
     have hz':(zeroValue e).run P w= .ok z w:=by simp [zeroValue,typeInfo,program,Sem.run_bind,Sem.run,hi,hz]
     have hzc:(Builtin.zeroCells z.cells n).toList=List.replicate n u:=by
      have hzc1:z.cells=#[u]:=qLB.1 hcu;unfold Builtin.zeroCells;rw[hzc1];apply qEB;intro j;by_cases hj:j<n
      ·simp [hj,Nat.mod_one]
      ·simp [hj]
     refine⟨_,_,?_,hk _ rfl⟩;have i2:(#[Value.slice p n c]:AV)[0]?=some (Value.slice p n c):=rfl;unfold Builtin.clear_;simp only[ht,i2,Sem.run_bind,run_underlying hu,Result.andThen_ok];rcases hor with rfl | ⟨g,o,rfl,hd⟩
     ·cases p with
      | none=>rfl
      | some a=>rfl
     ·by_cases hn:n=0
      ·subst hn;rfl
      ·obtain⟨m,rfl⟩:∃ m,n=m+1:=⟨n - 1,by omega⟩;simp only[Sem.run_bind,hz',Result.andThen_ok,Sem.run_pure];rw[hzc]
       have:=run_storeCells_cells (P:=P) g o (List.replicate (m+1) u) 0 w (λ j hj=>by
        obtain⟨⟨v,hv⟩, -⟩:=hd j (by simpa using hj)
        simp [hv]) (λ j hj=>by simpa using (hd j (by simpa using hj)).2) (λ v hv=>by rw[(qSB.1 hv).2];exact hone)
       have h2:(storeCells ⟨g,o,none⟩ (List.replicate (m+1) u)).run P w= .ok () (setRow (some ⟨g,o,none⟩) w (List.replicate (m+1) u)):=by simpa [setRow] using this
       rw[h2];rfl
    ·exact h.elim
   ·exact h.elim
  ·exact h.elim
 ·exact h.elim
theorem Oc {P:Program}{o:Oper}{F:Fr}{w:wD}{k:Value->wD->Prop} (ha:∀ c,o.op= .call c->∀ b,c.callee= .builtin b->b≠ .append) (h:Uf P o F w k):Zt P (execOp (ev F) o) w k:=by
 have read_case:ki P o F w (λ v=>k v w)->Zt P (execOp (ev F) o) w k:=λ h=>by
  obtain⟨v,h1,h2⟩:=mg h;exact .inl ⟨v,w,h1 w (Keeps.refl w),h2⟩
 obtain⟨dst,op,type,pos,after,guard⟩:=o;unfold Uf at h;split at h
 case h_1 t a x ho =>
  dsimp only at ho;subst ho;obtain⟨w',h1,h2⟩:=Lc h;refine .inr (.inl ⟨w',?_,h2⟩);show(do Instr.storeAt t (ev F a) (ev F x);pure .skip:Sem Next).run P w=_;rw[Sem.run_bind,h1];rfl
 case h_2 e ho =>
  dsimp only at ho;subst ho;split at h
  ·rename_i i hi;split at h
   ·rename_i z hz;refine .inl ⟨_,_,?_,h _ _ rfl rfl⟩;show(do pure (.value (← Instr.alloc e true (.tuple #[]))):Sem Next).run P w=_
    have hz':(zeroValue e).run P w= .ok z w:=by simp [zeroValue,typeInfo,program,Sem.run_bind,Sem.run,hi,hz]
    rw[Sem.run_bind];unfold Instr.alloc;rw[Sem.run_bind,hz'];simp only[Result.andThen_ok];rw[Sem.run_bind,zo];rfl
   ·exact h.elim
  ·exact h.elim
 case h_3 e x ho =>
  dsimp only at ho;subst ho;refine .inl ⟨_,_,?_,h _ _ rfl rfl⟩;show(do pure (.value (← Instr.box e (ev F x))):Sem Next).run P w=_;rw[Sem.run_bind];unfold Instr.box;rw[Sem.run_bind,zo];rfl
 case h_4 t l c ho =>
  dsimp only at ho;subst ho;unfold Yc at h;split at h
  ·rename_i e hu;split at h
   ·rename_i i hi;split at h
    ·rename_i z hz;obtain⟨κ,x,hx,h1⟩:=ap h;obtain⟨κ',y,hy,⟨h0,h2,h3,h4⟩,h5⟩:=ap h1;refine .inl ⟨_,_,?_,h5 _ _ rfl rfl⟩;show(do pure (.value (← Instr.makeSlice t (ev F l) (ev F c))):Sem Next).run P w=_;rw[Sem.run_bind,hx,hy,run_make w t e i z hu hi hz κ κ' x y h0 h2 h4 h3];rfl
    ·exact h.elim
   ·exact h.elim
  ·exact h.elim
 case h_5 t ho =>
  dsimp only at ho;subst ho;exact .inl ⟨_,_,rfl,h _ _ rfl rfl⟩
 case h_6 t m x v ho =>
  dsimp only at ho;subst ho;obtain⟨w',h1,h2⟩:=Ul h;refine .inr (.inl ⟨w',?_,h2⟩);show(do Instr.mapUpdate t (ev F m) (ev F x) (ev F v);pure .skip:Sem Next).run P w=_;rw[Sem.run_bind,h1];rfl
 case h_7 t len parts ho =>
  dsimp only at ho;subst ho;split at h
  ·rename_i e hu;split at h
   ·rename_i i hi;split at h
    ·rename_i z hz;obtain⟨hc,h⟩:=aj h;simp only[qU] at hc;obtain⟨hle,hrise⟩:=hc
     have sum_rep:∀ (m s:Nat),(List.replicate m s).foldr (· + ·) 0=m * s:=by
      intro m s
      induction m with
      | zero=>simp
      | succ m ih=>rw[List.replicate_succ,List.foldr_cons,ih,Nat.succ_mul,Nat.add_comm]
     obtain⟨r,h,hf0⟩:=Bb (λ j=>some (j * i.size,i.size)) _ _ 0 _ _ [] (parts.toList.map λ (j,x)=>(j,ev F x)) len (by simp [sum_rep]) (by simpa [List.map_map,Function.comp_def] using hrise) (by simp) (λ _ _=>rfl) (by
      intro q m hq;rw[qEC] at hq;split at hq
      ·rename_i hlt;cases hq;rw[List.take_replicate,sum_rep,qPB (by omega)];simp
      ·cases hq) h
     have hf:Instr.fill (λ j=>some (j * i.size,i.size)) ((Array.range (len * i.size)).map (z.cells[· % z.cells.size]!)) (parts.toList.map λ (j,x)=>(j,ev F x))=some r.toArray:=by
      rw[qr,qr,Array.toArray_toList] at hf0;exact hf0
     generalize r.toArray=cells at h hf;by_cases htriv:True
     ·refine .inl ⟨_,_,?_,h _ _ rfl rfl⟩;show(do pure (.value (← Instr.buildSlice t len (parts.map λ (i,x)=>(i,ev F x)))):Sem Next).run P w=_
      have hz':∀ w,(zeroValue e).run P w= .ok z w:=λ w=>by simp [zeroValue,typeInfo,program,Sem.run_bind,Sem.run,hi,hz]
      have hs:(sizeOf e).run P w= .ok i.size w:=by rw[bd hi,mf hi]
      have hle':¬ (len * i.size > 2 ^ 24):=by
       have:=qpB hle;omega
      rw[Sem.run_bind];unfold Instr.buildSlice;rw[Sem.run_bind,run_underlying hu];simp only[Result.andThen_ok];rw[Sem.run_bind,hs];simp only[Result.andThen_ok,hle',if_false]
      have hfill:∀ (zc:AV),(len * i.size=0->zc=#[])->(len * i.size≠0->zc=z.cells)->Instr.fill (λ j=>some (j * i.size,i.size)) ((Array.range (len * i.size)).map (zc[· % zc.size]!)) (parts.map λ (i,x)=>(i,ev F x)).toList=some cells:=by
       intro zc q1 q2;by_cases h0:len * i.size=0
       ·rw[h0] at hf ⊢
        have r0:∀ g:Nat->Value,(Array.range 0).map g=#[]:=λ g=>by simp [Array.range]
        rw[r0] at hf ⊢;simpa using hf
       ·rw[q2 h0];simpa using hf
      by_cases h0:len * i.size=0
      ·have:=hfill #[] (λ _=>rfl) (λ q=>absurd h0 q);simp only[h0,if_true] at this ⊢;rw[Sem.run_bind];simp only[Sem.run_pure,Result.andThen_ok];rw[this];rfl
      ·have:=hfill z.cells (λ q=>absurd q h0) (λ _=>rfl);simp only[h0,if_false] at this ⊢;rw[Sem.run_bind,hz'];simp only[Sem.run_pure,Result.andThen_ok,Sem.run_bind];rw[this];rfl
     ·exact absurd trivial htriv
    ·exact h.elim
   ·exact h.elim
  ·exact h.elim
 case h_8 c ho =>
  dsimp only at ho;subst ho;split at h
  ·rename_i hc;exact absurd rfl (ha c rfl _ hc)
  ·rename_i hc;split at h
   ·rename_i s x t r e1 e2
    obtain⟨v,w',h1,h2⟩:=Ob (ts:=c.argTypes) (ty:=type) (by
     have:c.argTypes.toList[0]?=some t:=by rw[e2];rfl
     simpa using this) h
    refine .inl ⟨v,w',?_,h2⟩;show(do let d ← resolve (ev F) c type;invoke d.target d.args:Sem Next).run P w=_;unfold resolve;rw[hc,Sem.run_bind,Sem.run_pure,Result.andThen_ok];unfold invoke
    have ea:c.args.map (ev F)=#[ev F s,ev F x]:=by
     apply qLB.1;simp [e1]
    show(do pure (.value (← Builtin.copy_ c.argTypes type (c.args.map (ev F)))):Sem Next).run P w=_;rw[ea,Sem.run_bind,h1];rfl
   ·exact h.elim
  ·rename_i hc;split at h
   ·rename_i s x t r e1 e2
    obtain⟨w',h1,h2⟩:=Um (ts:=c.argTypes) (ty:=type) (by
     have:c.argTypes.toList[0]?=some t:=by rw[e2];rfl
     simpa using this) h
    refine .inl ⟨_,w',?_,h2⟩;show(do let d ← resolve (ev F) c type;invoke d.target d.args:Sem Next).run P w=_;unfold resolve;rw[hc,Sem.run_bind,Sem.run_pure,Result.andThen_ok];unfold invoke
    have ea:c.args.map (ev F)=#[ev F s,ev F x]:=by
     apply qLB.1;simp [e1]
    show(do pure (.value (← Builtin.delete_ c.argTypes type (c.args.map (ev F)))):Sem Next).run P w=_;rw[ea,Sem.run_bind,h1];rfl
   ·exact h.elim
  ·rename_i hc;split at h
   ·rename_i x t r e1 e2
    obtain⟨v,w',h1,h2⟩:=Lg (ts:=c.argTypes) (ty:=type) (by
     have:c.argTypes.toList[0]?=some t:=by rw[e2];rfl
     simpa using this) h
    refine .inl ⟨v,w',?_,h2⟩;show(do let d ← resolve (ev F) c type;invoke d.target d.args:Sem Next).run P w=_;unfold resolve;rw[hc,Sem.run_bind,Sem.run_pure,Result.andThen_ok];unfold invoke
    have ea:c.args.map (ev F)=#[ev F x]:=by
     apply qLB.1;simp [e1]
    show(do pure (.value (← Builtin.clear_ c.argTypes type (c.args.map (ev F)))):Sem Next).run P w=_;rw[ea,Sem.run_bind,h1];rfl
   ·exact h.elim
  ·obtain⟨v,h1,h2⟩:=wk h;exact .inl ⟨v,w,h1 w,h2⟩
  ·rename_i x hc;split at h
   ·rename_i f first captured hx
    obtain⟨h1,h2⟩:=Lf h;refine .inr (.inr ⟨f,_,?_,h2⟩);show(do let d ← resolve (ev F) c type;invoke d.target d.args:Sem Next).run P w=_;unfold resolve;rw[hc];simp only[hx,Deferred.ofValue];rw[Sem.run_bind];simp only[Sem.run_pure,Result.andThen_ok,invoke];exact h1
   ·exact h.elim
  ·rename_i r name hc;obtain⟨f,args,h1,h2⟩:=h;refine .inr (.inr ⟨f,args,?_,h2.mono λ e w' he=>Sh.ex_some he⟩);show(do let d ← resolve (ev F) c type;invoke d.target d.args:Sem Next).run P w=_;unfold resolve;rw[hc,Sem.run_bind,Sem.run_pure,Result.andThen_ok];unfold invoke
   have e1:(#[ev F r]++c.args.map (ev F))[0]?=some (ev F r):=by rw[Array.getElem?_append_left (by exact Nat.zero_lt_one)];rfl
   have e2:(#[ev F r]++c.args.map (ev F)).extract 1 (#[ev F r]++c.args.map (ev F)).size=c.args.map (ev F):=by
    apply qLB.1;simp;exact qGB (by simp)
   rw[e1];simp only[e2];exact h1
 case h_9=>exact read_case h
theorem wy {P:Program}{ops:Array Oper}{rest:List Oper}{o:Oper}{a:Act}{Q:Exit->Act->wD->Prop}{w:wD}{k:Value->wD->Prop}{F:Fr} (hg:o.guard=none) (he:a.eval=ev F){c:Call} (ho:o.op= .call c) (hc:c.callee= .builtin .append)
  (h:Uf P o F w k) (hk:∀ v w',k v w'->wpList P ops Q rest (a.put o.dst v) w'):wpList P ops Q (o::rest) a w:=by
 unfold Uf at h;rw[ho] at h;dsimp only at h;rw[hc] at h;dsimp only at h;split at h
 ·rename_i s x t t' e1 e2;obtain⟨et,hA⟩:=aj h;clear h;have h:=hA;clear hA;obtain rfl:=qDB et
  have ec:c={ callee:=.builtin .append,args:=#[s,x],argTypes:=#[t,t] }:=by
   obtain⟨cl,ar,at'⟩:=c;dsimp only at hc e1 e2;rw[hc,show ar=#[s,x] from qLB.1 e1,show at'=#[t,t] from qLB.1 e2]
  rw[ec] at ho;unfold Ii at h;split at h
  ·rename_i e hu;split at h
   ·rename_i i hi;split at h
    ·rename_i z hz;obtain⟨hb,h⟩:=aj h;rw[qU] at hb;have b1:=qDB hb.1;have b2:0<i.size:=qpB hb.2;obtain⟨p,n,cp,hs,h⟩:=bt h;obtain⟨q,m,d,hx,olds,news,hsl,hq,hn,h1,h2,h3,hK⟩:=bt h;have ecell:=mf hi
     have ebyte:P.bytesOf e=i.bytes:=by simp [Program.bytesOf,hi]
     have hsl0:=hsl;rw[ecell] at hsl hn hK;rw[ebyte] at h3
     have conv:∀ v' w',Sl w' e i.size v' (n+m) (olds++news)->XTouch (λ b=>(Value.slice p n cp).ownBlock=some b) w w'->(∀ b,v'.ownBlock=some b->(Value.slice p n cp).ownBlock=some b∨w.heap.size≤b)->Sl w' e i.size (.slice p n cp) n olds->((∃ q c,(Value.slice p n cp)= .slice q n c/\v'= .slice q (n+m) c)∨((∀ q c,(Value.slice p n cp)= .slice q n c->q=none∨c<n+m)/\∀ k,v'.ownBlock=some k->w.heap.size≤k))->wpList P ops Q rest (a.put o.dst v') w':=by
      intro v' w' r1 r2 r3 r4 r5
      have:∃ p' c',v'= .slice p' (n+m) c':=by
       rcases r1.2 with ⟨rfl,e0⟩ | ⟨g,off,cap,cur,rfl, -⟩
       ·exact⟨none,0,by rw[e0]⟩
       ·exact⟨_,_,rfl⟩
      obtain⟨p',c',rfl⟩:=this;refine hk _ _ (hK p' c' w' r1 r2 r3 r4 (r5.imp (λ ⟨q,c,e1,e2⟩=>?_) (λ ⟨h1,h2⟩=>⟨h1 _ _ rfl,h2⟩)));injection e1 with e1 _ e3;injection e2 with e2 _ e4;exact⟨by rw[e1,e2],by rw[e3,e4]⟩
     rcases hq with ⟨rfl,rfl⟩ | ⟨ad,rfl,hcell⟩
     ·have hnil:news=[]:=qHB (by simpa using hn);subst hnil
      have hle:n≤cp:=by
       rcases hsl.2 with ⟨e3,e4⟩ | ⟨g,off,cap,cur,e3,hbk,h4, -⟩
       ·omega
       ·simp at e3;omega
      refine wpList_plain hg λ K hK'=>?_;unfold Oper.wp
      have hrun:(execOp a.eval o).run P w= .ok (.value (.slice p n cp)) w:=by
       have hs':a.eval s= .slice p n cp:=by rw[he];exact hs
       have hx':a.eval x= .slice none 0 d:=by rw[he];exact hx
       have hu0:∀ w,(underlying t).run P w= .ok (.slice e) w:=run_underlying hu
       have hb:(Builtin.append_ #[t,t] o.type #[.slice p n cp,.slice none 0 d]).run P w= .ok (.slice p n cp) w:=by
        unfold Builtin.append_;have i0:(#[t,t]:Array TI)[0]?=some t:=rfl;have i1:(#[t,t]:Array TI)[1]?=some t:=rfl;have i2:(#[Value.slice p n cp,Value.slice none 0 d]:AV)[0]?=some (Value.slice p n cp):=rfl;have i3:(#[Value.slice p n cp,Value.slice none 0 d]:AV)[1]?=some (Value.slice none 0 d):=rfl;simp only[i0,i1,i2,i3,Sem.run_bind,hu0,Result.andThen_ok,bd hi,Sem.run_pure,Bool.false_eq_true,if_false,Builtin.lenOf,Nat.add_zero,hle,if_true,Bool.not_false,Builtin.firstCells];cases p <;> rfl
       simp [execOp,ho,resolve,invoke,builtin,hs',hx',hb,Result.andThen]
      rw[hrun,Oper.upon_value];exact hK' _ _ (conv _ _ (by simpa using hsl) (qH _ _) (λ b hb=>.inl hb) hsl (.inl ⟨p,cp,rfl,rfl⟩))
     ·exact vj hg s x t ho e i z i.size i.bytes hu hi hz rfl rfl b1 b2 (.slice p n cp) n olds (by rw[he];exact hs) hsl ad m d news (by rw[he];exact hx) hn hcell h1 h2 h3 conv
    ·exact h.elim
   ·exact h.elim
  ·exact h.elim
 ·exact h.elim
theorem wz {P:Program}{o:Oper}{a:Act}{w:wD}{F:Fr}{k:Value->wD->Prop}{next:Act->wD->Prop}{Q:Exit->Act->wD->Prop} (he:a.eval=ev F) (h:Zt P (execOp (ev F) o) w k) (hk:∀ v w',k v w'->next (a.put o.dst v) w'):o.wp P a w next Q:=by
 unfold Oper.wp;rw[he];rcases h with ⟨v,w',h1,h2⟩ | ⟨w',h1,h2⟩ | ⟨f,args,h1,h2⟩
 ·rw[h1];exact hk _ _ h2
 ·rw[h1];exact hk _ _ h2
 ·rw[h1,Oper.upon_enter];refine h2.mono ?_;rintro e w' ⟨v,rfl,hv⟩;exact hk _ _ hv
theorem aib {P:Program}{ops:Array Oper}{rest:List Oper}{o:Oper}{a:Act}{Q:Exit->Act->wD->Prop}{w:wD}{k:Value->wD->Prop}{F:Fr} (he:a.eval=ev F)
  (h:Uf P o F w k) (hk:∀ v w',k v w'->wpList P ops Q rest (a.put o.dst v) w'):o.wp P a w (wpList P ops Q rest) Q∨(o.asks P a w/\LetsOut Q):=by
 by_cases hap:∃ c,o.op= .call c/\c.callee= .builtin .append
 ·obtain⟨c,ho,hc⟩:=hap;have h':Uf P { o with guard:=none } F w k:=h;have:=wy (o:={ o with guard:=none }) (ops:=ops) (rest:=rest) (Q:=Q) rfl he ho hc h' hk;unfold wpList at this;exact this
 ·exact .inl (wz he (Oc (λ c hc b hb e=>hap ⟨c,hc,by rw[hb,e]⟩) h) hk)
theorem ip {n:Nat}{ops:List Oper}{o:Oper}{F:Fr}{a:Act}{yes no:Fr->Prop} (h:mc ops o F yes no) (hI:Is n F a) :
  (Region.wanted o (yielded ops.toArray a.tmps)=true/\∃ F',Is n F' a/\yes F')∨(Region.wanted o (yielded ops.toArray a.tmps)=false/\∃ F',Is n F' a/\no F'):=by
 unfold mc at h;split at h
 ·rename_i hg;exact .inl ⟨by unfold Region.wanted;rw[hg],F,hI,h⟩
 ·rename_i j want hg;split at h
  ·rename_i d hd
   have hy:yielded ops.toArray a.tmps j=match a.tmps[d]? with | some (.bool b)=>some b | _=>none:=by
    unfold yielded
    have:(ops.toArray[j]?).bind (·.dst)=some d:=by simpa using hd
    rw[this];simp only[Option.bind_some];split <;> simp_all
   split at h
   ·rename_i b hb
    have ha:a.tmps[d]?=some (.bool b):=by
     have:=hI.at_ d;rw[hb] at this
     cases e:a.tmps[d]? with
     | none=>simp [qJB,e,undef] at this
     | some v=>simp [qJB,e] at this;rw[this]
    rw[ha] at hy;dsimp only at hy
    have hw:Region.wanted o (yielded ops.toArray a.tmps)=(some b==some want):=by unfold Region.wanted;rw[hg];dsimp only;rw[hy]
    have hkn:∀ q,b=q->Is n (F.know (.tmp d) q) a:=λ q e=>hI.know (x:=.tmp d) (by rw[<- e];exact hb);rcases nt h with ⟨rfl,h⟩ | ⟨rfl,h⟩
    ·cases want
     ·exact .inr ⟨by rw[hw];rfl,_,hkn _ rfl,h⟩
     ·exact .inl ⟨by rw[hw];rfl,_,hkn _ rfl,h⟩
    ·cases want
     ·exact .inl ⟨by rw[hw];rfl,_,hkn _ rfl,h⟩
     ·exact .inr ⟨by rw[hw];rfl,_,hkn _ rfl,h⟩
   ·rename_i vs hb
    have hw:Region.wanted o (yielded ops.toArray a.tmps)=false:=by
     unfold Region.wanted;rw[hg];dsimp only;rw[hy];have:=hI.at_ d;rw[hb] at this
     cases e:a.tmps[d]? with
     | none=>rfl
     | some v=>simp [qJB,e] at this;rw[this];rfl
    exact .inr ⟨hw,F,hI,h⟩
   ·exact h.elim
  ·exact h.elim
theorem rr (a:Act) (d:Option Tmp) (v:Value) (t:Nat) (h:d≠some t):(a.put d v).tmps.getD t undef=a.tmps.getD t undef:=by
 cases d with
 | none=>rfl
 | some d =>
  show(a.tmps.setIfInBounds d v).getD t undef=_;rw[getD_set,if_neg (λ q=>h (by rw[q.1]))]
theorem xd {n:Nat}{P:Program}{ops:List Oper}{Q:Exit->Act->wD->Prop} (D:LN):∀ (l:List Oper) (F:Fr) (a:Act) (w:wD) (k:Fr->wD->Prop),(∀ o ∈ l,∀ d,o.dst=some d->d ∈ D)->zi n P ops l F w k->Is n F a ->
  (∀ F' a' w',Is n F' a'->k F' w'->(∀ t,t ∉ D->a'.tmps.getD t undef=a.tmps.getD t undef)->Q .normal a' w')->wpList P ops.toArray Q l a w:=by
 intro l
 induction l with
 | nil=>intro F a w k hD h hI hq;exact hq F a w hI h (λ _ _=>rfl)
 | cons o rest ih =>
  intro F a w k hD h hI hq
  have hput:∀ (F:Fr) (v:Value) (w':wD),Is n F a->zi n P ops rest (F.put n o.dst v) w' k->wpList P ops.toArray Q rest (a.put o.dst v) w':=λ F v w' hI h =>
   ih _ _ _ k (λ o' ho'=>hD o' (.tail _ ho')) h (hI.put _ _) (λ F' a' w'' h1 h2 h3=>hq F' a' w'' h1 h2 (λ t ht=>by
    rw[h3 t ht,rr]
    intro e;exact ht (hD o (.head _) t e)))
  unfold wpList;rcases ip h hI with ⟨hw,F',hI',hy⟩ | ⟨hw,F',hI',hn⟩
  ·rw[if_pos hw];exact aib hI'.eval hy (λ v w' hv=>hput F' v w' hI' hv)
  ·rw[if_neg (by rw[hw];exact Bool.false_ne_true)];exact hput F' undef w hI' hn
theorem xe {P:Program}{o:Oper}{F:Fr}{f:FuncId}{args:AV} (h:Ij P o F=some (f,args)) (hk:Ug P f=true) (w:wD):(execOp (ev F) o).run P w= .ok (.enter f args) w:=by
 unfold Ij at h;split at h
 ·rename_i c ho;split at h
  ·rename_i x hc;split at h
   ·rename_i f' first captured hx
    cases h;unfold Ug at hk;split at hk
    ·rename_i fn hf;rw[qU] at hk;have:=va hf hk.1 hk.2 (first++c.args.map (ev F)++captured) w;obtain⟨dst,op,type,pos,after,guard⟩:=o;dsimp only at ho;subst ho;show(do let d ← resolve (ev F) c type;invoke d.target d.args:Sem Next).run P w=_;unfold resolve;rw[hc];simp only[hx,Deferred.ofValue];rw[Sem.run_bind];simp only[Sem.run_pure,Result.andThen_ok,invoke];exact this
    ·cases hk
   ·cases h
  ·cases h
 ·cases h
theorem Lh {n:Nat}{P:Program}{ops:List Oper}{w:wD} (Q:Act->Prop) (D:LN):∀ (l:List Oper) (F:Fr) (a:Act) (k:Fr->Prop),(∀ o ∈ l,∀ d,o.dst=some d->d ∈ D)->tw n P ops w l F k->Is n F a ->
  (∀ F' a',Is n F' a'->k F'->(∀ t,t ∉ D->a'.tmps.getD t undef=a.tmps.getD t undef)->Q a')->wpStill P ops.toArray w Q l a:=by
 intro l
 induction l with
 | nil=>intro F a k hD h hI hq;exact hq F a hI h (λ _ _=>rfl)
 | cons o rest ih =>
  intro F a k hD h hI hq
  have hput:∀ (F:Fr) (v:Value),Is n F a->tw n P ops w rest (F.put n o.dst v) k->wpStill P ops.toArray w Q rest (a.put o.dst v):=λ F v hI h =>
   ih _ _ k (λ o' ho'=>hD o' (.tail _ ho')) h (hI.put _ _) (λ F' a' h1 h2 h3=>hq F' a' h1 h2 (λ t ht=>by
    rw[h3 t ht,rr]
    intro e;exact ht (hD o (.head _) t e)))
  unfold wpStill;rcases ip h hI with ⟨hw,F',hI',hy⟩ | ⟨hw,F',hI',hn⟩
  ·rw[if_pos hw];unfold Oper.still;rw[hI'.eval];split at hy
   ·rename_i f args hc;obtain⟨hk,hy⟩:=aj hy;obtain⟨v,h1,h2⟩:=ww _ _ hy;rw[xe hc hk w];exact⟨rfl,v,h1,hput F' v hI' h2⟩
   ·obtain⟨v,h1,h2⟩:=mg hy;have h0:(execOp (ev F') o).run P w= .ok (.value v) w:=h1 w (Keeps.refl w);rw[h0];exact⟨rfl,hput F' v hI' h2⟩
  ·rw[if_neg (by rw[hw];exact Bool.false_ne_true)];exact hput F' undef hI' hn
theorem zp {n:Nat}{P:Program}{ops:List Oper}{w:wD} (Q:Act->Prop) (D:LN):∀ (l:List Oper) (F:Fr) (a:Act) (k:Fr->Prop),(∀ o ∈ l,∀ d,o.dst=some d->d ∈ D)->tx n P ops w l F k->Is n F a ->
  (∀ F' a',Is n F' a'->k F'->(∀ t,t ∉ D->a'.tmps.getD t undef=a.tmps.getD t undef)->Q a')->wpQuiet P ops.toArray (λ w'=>∃ m,w'=w.drewN m) Q l a:=by
 intro l
 induction l with
 | nil=>intro F a k hD h hI hq;exact hq F a hI h (λ _ _=>rfl)
 | cons o rest ih =>
  intro F a k hD h hI hq
  have hput:∀ (F:Fr) (v:Value),Is n F a->tx n P ops w rest (F.put n o.dst v) k->wpQuiet P ops.toArray (λ w'=>∃ m,w'=w.drewN m) Q rest (a.put o.dst v):=λ F v hI h =>
   ih _ _ k (λ o' ho'=>hD o' (.tail _ ho')) h (hI.put _ _) (λ F' a' h1 h2 h3=>hq F' a' h1 h2 (λ t ht=>by
    rw[h3 t ht,rr]
    intro e;exact ht (hD o (.head _) t e)))
  unfold wpQuiet;rcases ip h hI with ⟨hw,F',hI',hy⟩ | ⟨hw,F',hI',hn⟩
  ·rw[if_pos hw];unfold Oper.quiet;split at hy
   ·rename_i f args hc;obtain⟨hk,hy⟩:=aj hy;obtain⟨v,h1,h2⟩:=ww _ _ hy;refine⟨v,?_,hput F' v hI' h2⟩;rintro w' ⟨m,rfl⟩;unfold Oper.quietAt;rw[hI'.eval,xe hc hk];exact⟨rfl,h1 m⟩
   ·obtain⟨v,h1,h2⟩:=mg hy;refine⟨v,?_,hput F' v hI' h2⟩;rintro w' ⟨m,rfl⟩;unfold Oper.quietAt;rw[hI'.eval,h1 _ (Gi w m)];exact⟨rfl,rfl⟩
  ·rw[if_neg (by rw[hw];exact Bool.false_ne_true)];exact hput F' undef hI' hn
section
variable {P:Program}{ops:Array Oper}{Q:Exit->Act->wD->Prop}{S:Array Bool->wD->Prop}
def xf (P:Program) (ops:Array Oper) (Q:Exit->Act->wD->Prop) (S:Array Bool->wD->Prop):Nat->Array Bool->Act->wD->Prop
 | 0,listed,a,w=>Region.ready .any ops listed=[]/\Q .normal a w
 | fuel+1,listed,a,w =>
  (Region.ready .any ops listed=[]->Q .normal a w) /\
  ∀ i ∈ Region.ready .any ops listed,wpOp P ops Q i (λ a' w'=>S (listed.setIfInBounds i true) w'/\xf P ops Q S fuel (listed.setIfInBounds i true) a' w') a w
theorem uc:∀ (fuel:Nat) (listed:Array Bool) (a:Act) (w:wD),xf P ops Q S fuel listed a w->wpAny P .any ops Q fuel listed a w
 | 0,_,_,_,h=>h
 | fuel+1,_,_,_,h=>⟨h.1,λ i hi=>wpOp_mono (λ a' w' h'=>uc fuel _ a' w' h'.2) (h.2 i hi)⟩
def Closed (ops:Array Oper) (L:Array Bool):Prop:=∀ j oj,ops[j]?=some oj->L.getD j false=true->∀ e ∈ oj.after,Region.binds .any e=true->L.getD e.on false=true
theorem rt {L:Array Bool}{j k:Nat} (h:L.getD k false=true):(L.setIfInBounds j true).getD k false=true:=by
 by_cases e:j=k
 ·subst e;by_cases hj:j<L.size
  ·simp [qJB,hj]
  ·simp [qJB,hj] at h
 ·rw[getD_set_ne false e];exact h
theorem Closed.set {L:Array Bool} (h:Closed ops L){j:Nat} (hj:j ∈ Region.ready .any ops L):Closed ops (L.setIfInBounds j true):=by
 intro k ok hk hl e he hb;obtain⟨-,oj,hoj,hall⟩:=mem_ready.1 hj;by_cases hjk:j=k
 ·subst hjk;obtain rfl:oj=ok:=by rw[hoj] at hk;exact Option.some.inj hk
  exact rt (hall e he hb)
 ·rw[getD_set_ne false hjk] at hl;exact rt (h k ok hk hl e he hb)
theorem Li {L:Array Bool} (h:Closed ops L):∀ (n x i:Nat),(∀ o,ops[x]?=some o->∀ e ∈ o.after,Region.binds .any e=true->L.getD e.on false=true)->reach ops n x i=true->L.getD i false=true:=by
 have direct:∀ (x i:Nat),(∀ o,ops[x]?=some o->∀ e ∈ o.after,Region.binds .any e=true->L.getD e.on false=true)->vq ops x i=true->L.getD i false=true:=by
  intro x i hx hr;unfold vq at hr
  cases ho:ops[x]? with
  | none=>rw[ho] at hr;cases hr
  | some o =>
   rw[ho] at hr;obtain⟨e,he,hb⟩:=Array.any_eq_true'.1 hr;rw[qU] at hb;have:=hx o ho e he hb.1;rwa [qDB hb.2] at this
 intro n
 induction n with
 | zero=>intro x i hx hr;exact direct x i hx hr
 | succ n ih =>
  intro x i hx hr;unfold reach at hr;rw[Bool.or_eq_true] at hr;rcases hr with hr | hr
  ·exact direct x i hx hr
  ·cases ho:ops[x]? with
   | none=>rw[ho] at hr;cases hr
   | some o =>
    rw[ho] at hr;obtain⟨e,he,hb⟩:=Array.any_eq_true'.1 hr;rw[qU] at hb;have hl:=hx o ho e he hb.1;exact ih e.on i (λ o' ho' e' he' hb'=>h e.on o' ho' hl e' he' hb') hb.2
theorem jh {B S1:wD->Prop}{stop i:Nat}{oi:Oper}{v:Value} (hi:ops[i]?=some oi) (hsel:∀ (j:Nat) (o:Oper) cs b,ops[j]?=some o->o.op≠ .select cs b)
  (hQ:∀ c a w,Q (.panic c) (a.put oi.dst v) w->Q (.panic c) a w) (hne:i≠stop) (hS0:∀ L w,S L w↔(L.getD stop false=true∨B w))
  (hcase:(∀ w,S1 w)∨(S1=B/\Nu ops stop i=true)) :
  ∀ (fuel:Nat) (listed:Array Bool) (a:Act) (w:wD),Closed ops listed ->
   (∀ j oj,ops[j]?=some oj->j≠i->listed.getD j true=false->(∀ e ∈ oj.after,Region.binds .any e=true->e.on≠i)->oi.apart ops oj=true) ->
   i ∈ Region.ready .any ops listed->YieldsIf P ops S1 oi v a->((∀ w,S1 w)∨listed.getD stop false=false)->S1 w->S listed w ->
   xf P ops Q S fuel (listed.setIfInBounds i true) (a.put oi.dst v) w->xf P ops Q S (fuel+1) listed a w:=by
 have hgs:∀ (L:Array Bool) (j:Nat),j≠stop->(L.setIfInBounds j true).getD stop false=L.getD stop false:=λ L j h=>by
  rw[getD_set_ne false h]
 have hSi:∀ L w,S L w->S (L.setIfInBounds i true) w:=λ L w h=>by rw[hS0] at h ⊢;rw[hgs _ _ hne];exact h
 intro fuel
 induction fuel with
 | zero =>
  intro listed a w _ _ hr hy hend hS hS' H;refine⟨λ h=>(by rw[h] at hr;cases hr),λ j hj=>?_⟩;by_cases hji:j=i
  ·subst hji;exact hy.wpOp hi hS ⟨hSi _ _ hS',H⟩
  ·have:=ready_mono hj hji;rw[H.1] at this;cases this
 | succ fuel ih =>
  intro listed a w hcl hfree hr hy hend hS hS' H;refine⟨λ h=>(by rw[h] at hr;cases hr),λ j hj=>?_⟩;by_cases hji:j=i
  ·subst hji;exact hy.wpOp hi hS ⟨hSi _ _ hS',H⟩
  ·have h1:=H.2 j (ready_mono hj hji);obtain⟨hjun,oj,hoj,hall⟩:=mem_ready.1 hj
   have hiun:∀ q,listed.getD i q=true->False:=λ q h1=>by
    have h0:=(mem_ready.1 hr).1;rcases Nat.lt_or_ge i listed.size with h' | h'
    ·simp [h'] at h0 h1;rw[h0] at h1;cases h1
    ·simp [h'] at h0
   have hnot:∀ e ∈ oj.after,Region.binds .any e=true->e.on≠i:=λ e he hb heq=>by
    have h1:=hall e he hb;rw[heq] at h1;exact hiun _ h1
   have h2:=wpOp_putIf hoj (hfree j oj hoj hji hjun hnot) (λ cs b=>hsel i oi cs b hi) (λ cs b=>hsel j oj cs b hoj) hQ hy h1
   have hfree':∀ k ok,ops[k]?=some ok->k≠i->(listed.setIfInBounds j true).getD k true=false ->
     (∀ e ∈ ok.after,Region.binds .any e=true->e.on≠i)->oi.apart ops ok=true:=λ k ok hk hki hun hno=>by
    refine hfree k ok hk hki ?_ hno;by_cases hjk:j=k
    ·subst hjk;exact hjun
    ·rw[getD_set_ne true hjk] at hun;exact hun
   refine wpOp_mono (λ a' w' h3=>?_) h2
   have hSj:S (listed.setIfInBounds j true) w':=by
    have h4:=h3.2.1;rw[hS0] at h4 ⊢;rw[Array.setIfInBounds_comm _ _ (Ne.symm hji),hgs _ _ hne] at h4;exact h4
   have hnext:((∀ w,S1 w)∨(listed.setIfInBounds j true).getD stop false=false)/\S1 w':=by
    rcases hcase with hp | ⟨rfl,hw⟩
    ·exact⟨.inl hp,hp w'⟩
    ·rcases hend with hp | hend
     ·exact⟨.inl hp,hp w'⟩
     ·have hjs:j≠stop:=by
       rintro rfl;unfold Nu at hw;rw[hoj] at hw
       exact hiun _ (Li hcl 5 j i (λ o ho e he hb=>by
        obtain rfl:oj=o:=by rw[hoj] at ho;exact Option.some.inj ho
        exact hall e he hb) hw)
      refine⟨.inr (by rw[hgs _ _ hjs];exact hend),?_⟩;rcases(hS0 _ _).1 hSj with h4 | h4
      ·rw[hgs _ _ hjs,hend] at h4;cases h4
      ·exact h4
   refine⟨hSj,ih (listed.setIfInBounds j true) a' w' (hcl.set hj) hfree' (ready_mono hr (Ne.symm hji)) h3.1 hnext.1 hnext.2 hSj ?_⟩;rw[Array.setIfInBounds_comm _ _ hji];exact h3.2.2
end
theorem zr {f:Nat->Prop}:∀ (rs:LN),Uh rs f->∀ i ∈ rs,f i
 | [],_,i,hi=>by cases hi
 | [j],h,i,hi=>by
  rcases qp.1 hi with rfl | hi
  ·exact h
  ·cases hi
 | j::k::r,h,i,hi=>by
  have h':f j/\Uh (k::r) f:=h;rcases qp.1 hi with rfl | hi
  ·exact h'.1
  ·exact zr (k::r) h'.2 i hi
theorem Dw {n:Nat}{P:Program}{ops:Array Oper}{stop:Nat}{w0:wD}{Q:Exit->Act->wD->Prop} (hns:Region.noSelect ops=true) (hQ:∀ c a w,¬ Q (.panic c) a w) (D:LN) (hD:∀ (i:Nat) (o:Oper),ops[i]?=some o->∀ d,o.dst=some d->d ∈ D) :
  ∀ (fuel:Nat) (L:Array Bool) (F:Fr) (a:Act) (w:wD) (k:Fr->wD->Prop),lw n P ops stop w0 fuel L F w k->Is n F a->Closed ops L->(L.getD stop false=true∨Below w0.heap.size w0 w) ->
   (∀ F' a' w',Is n F' a'->k F' w'->(∀ t,t ∉ D->a'.tmps.getD t undef=a.tmps.getD t undef)->Q .normal a' w') ->
   xf P ops Q (λ L w=>L.getD stop false=true∨Below w0.heap.size w0 w) fuel L a w:=by
 intro fuel
 induction fuel with
 | zero =>
  intro L F a w k h hI hcl hS hq;unfold lw at h;split at h
  ·rename_i hr;exact⟨hr,hq F a w hI h (λ _ _=>rfl)⟩
  ·exact h.elim
 | succ fuel ih =>
  intro L F a w k h hI hcl hS hq;unfold lw at h;split at h
  ·rename_i hr;exact⟨λ _=>hq F a w hI h (λ _ _=>rfl),by rw[hr];simp⟩
  ·rename_i hrne
   have step:∀ (i:Nat) (o:Oper),ops[i]?=some o->i ∈ Region.ready .any ops L->∀ (F:Fr) (v:Value) (w':wD),Is n F a->((L.setIfInBounds i true).getD stop false=true∨Below w0.heap.size w0 w')->lw n P ops stop w0 fuel (L.setIfInBounds i true) (F.put n o.dst v) w' k ->
     xf P ops Q (λ L w=>L.getD stop false=true∨Below w0.heap.size w0 w) fuel (L.setIfInBounds i true) (a.put o.dst v) w':=λ i o ho hir F v w' hI hS h =>
    ih _ _ _ _ k h (hI.put _ _) (hcl.set hir) hS (λ F' a' w'' h1 h2 h3=>hq F' a' w'' h1 h2 (λ t ht=>by
     rw[h3 t ht,rr]
     intro e;exact ht (hD i o ho t e)))
   split at h
   ·rename_i i hfind;split at h
    ·rename_i o ho;have hmem:=qkB hfind;have htk:=List.find?_some hfind;unfold Ik at htk;rw[ho] at htk;simp only[qU,Bool.not_eq_true'] at htk;obtain⟨⟨t1,t2⟩,t5⟩:=htk
     have hne:i≠stop:=λ e=>by rw[e,Nat.beq_refl] at t5;cases t5
     have hgs:(L.setIfInBounds i true).getD stop false=L.getD stop false:=getD_set_ne false hne;rcases ip h hI with ⟨hw,F',hI',hy⟩ | ⟨hw,F',hI',hn⟩
     ·obtain⟨v,h1,h2⟩:=Le t1 hy;refine jh (B:=Below w0.heap.size w0) (S1:=λ _=>True) (stop:=stop) (v:=v) ho (Region.noSelect_spec hns) (λ c a w hc=>absurd hc (hQ _ _ _)) hne (λ _ _=>Iff.rfl) (.inl λ _=>trivial) fuel L a w hcl (Region.free_spec ho t2) hmem (.inl ⟨by simpa using hw,λ w' _=>by rw[hI'.eval];exact h1 w'⟩) (.inl λ _=>trivial) trivial hS ?_;exact step i o ho hmem F' v w hI' (by rw[hgs];exact hS) h2
     ·refine jh (B:=Below w0.heap.size w0) (S1:=λ _=>True) (stop:=stop) (v:=undef) ho (Region.noSelect_spec hns) (λ c a w hc=>absurd hc (hQ _ _ _)) hne (λ _ _=>Iff.rfl) (.inl λ _=>trivial) fuel L a w hcl (Region.free_spec ho t2) hmem (.inr ⟨by simpa using hw,rfl⟩) (.inl λ _=>trivial) trivial hS ?_;exact step i o ho hmem F' undef w hI' (by rw[hgs];exact hS) hn
    ·exact h.elim
   split at h
   ·rename_i i hfind;split at h
    ·rename_i o ho;have hmem:=qkB hfind;have htk:=List.find?_some hfind;unfold Nv at htk;rw[ho] at htk;simp only[qU,Bool.not_eq_true'] at htk;obtain⟨⟨⟨⟨t1,t2⟩,t5⟩,t3⟩,t4⟩:=htk
     have hne:i≠stop:=λ e=>by rw[e,Nat.beq_refl] at t5;cases t5
     have hB:Below w0.heap.size w0 w:=hS.resolve_left (by rw[t3];exact Bool.false_ne_true);rcases ip h hI with ⟨hw,F',hI',hy⟩ | ⟨hw,F',hI',hn⟩
     ·obtain⟨v,h1,h2⟩:=mg hy;refine jh (B:=Below w0.heap.size w0) (S1:=Below w0.heap.size w0) (stop:=stop) (v:=v) ho (Region.noSelect_spec hns) (λ c a w hc=>absurd hc (hQ _ _ _)) hne (λ _ _=>Iff.rfl) (.inr ⟨rfl,t4⟩) fuel L a w hcl (Region.free_spec ho t2) hmem (.inl ⟨by simpa using hw,λ w' hw'=>by rw[hI'.eval];exact h1 w' (Gj hw')⟩) (.inr t3) hB hS ?_;exact step i o ho hmem F' v w hI' (.inr hB) h2
     ·refine jh (B:=Below w0.heap.size w0) (S1:=Below w0.heap.size w0) (stop:=stop) (v:=undef) ho (Region.noSelect_spec hns) (λ c a w hc=>absurd hc (hQ _ _ _)) hne (λ _ _=>Iff.rfl) (.inr ⟨rfl,t4⟩) fuel L a w hcl (Region.free_spec ho t2) hmem (.inr ⟨by simpa using hw,rfl⟩) (.inr t3) hB hS ?_;exact step i o ho hmem F' undef w hI' (.inr hB) hn
    ·exact h.elim
   ·refine⟨λ hr=>absurd hr hrne,λ i hi=>?_⟩;have hall:=zr _ h i hi;split at hall
    ·rename_i o ho;unfold wpOp;simp only[ho]
     have below:∀ {w':wD} {p:Prop},Av ((L.setIfInBounds i true).getD stop false) w0 w' p->((L.setIfInBounds i true).getD stop false=true∨Below w0.heap.size w0 w')/\p:=by
      intro w' p hp
      cases hb:(L.setIfInBounds i true).getD stop false with
      | true=>rw[hb] at hp;exact⟨.inl rfl,hp⟩
      | false=>rw[hb] at hp;exact⟨.inr hp.1,hp.2⟩
     rcases ip hall hI with ⟨hw,F',hI',hy⟩ | ⟨hw,F',hI',hn⟩
     ·have hw':Region.wanted o (yielded ops a.tmps)=true:=by simpa using hw
      rw[if_pos hw'];by_cases hap:∃ c,o.op= .call c/\c.callee= .builtin .append
      ·obtain⟨c,hoc,hc⟩:=hap;have h':Uf P { o with guard:=none } F' w (λ v w'=>Av ((L.setIfInBounds i true).getD stop false) w0 w' (lw n P ops stop w0 fuel (L.setIfInBounds i true) (F'.put n o.dst v) w' k)):=hy
       have:=wy (o:={ o with guard:=none }) (ops:=ops) (rest:=[]) (a:=a) (Q:=λ e a' w'=>match e with | .normal=>(((L.setIfInBounds i true).getD stop false=true∨Below w0.heap.size w0 w')/\xf P ops Q (λ L w=>L.getD stop false=true∨Below w0.heap.size w0 w) fuel (L.setIfInBounds i true) a' w') | _=>False) rfl hI'.eval hoc hc h' (λ v w' hv=>by
        obtain⟨b1,b2⟩:=below hv
        exact⟨b1,step i o ho hi F' v w' hI' b1 b2⟩)
       unfold wpList at this;rcases this with h5 | h5
       ·refine .inl ?_;have h6:Oper.upon P { o with guard:=none } a _ _ ((execOp a.eval o).run P w):=h5;unfold Oper.wp;generalize (execOp a.eval o).run P w=r at h6 ⊢
        cases r with
        | ok x w' =>
         cases x <;> simp only[Oper.upon] at h6 ⊢ <;> first
          | exact h6
          | (refine Calls.mono h6 λ e w'' he=>?_
             cases e with
             | returned u=>exact he
             | panicked c=>exact he.elim
             | outgrown=>exact(show LetsOut _->LetsOut Q from λ ⟨_,_,h⟩=>h.elim) he)
        | halt x w'=>cases x <;> simp only[Oper.upon] at h6
       ·exact absurd h5.2 (λ ⟨_,_,h⟩=>h)
      ·refine .inl (wz hI'.eval (Oc (λ c hc b hb e=>hap ⟨c,hc,by rw[hb,e]⟩) hy) (λ v w' hv=>?_));obtain⟨b1,b2⟩:=below hv;exact⟨b1,step i o ho hi F' v w' hI' b1 b2⟩
     ·have hw':¬ Region.wanted o (yielded ops a.tmps)=true:=by
       rw[show ops=ops.toList.toArray by simp,hw];exact Bool.false_ne_true
      rw[if_neg hw'];obtain⟨b1,b2⟩:=below hn;exact⟨b1,step i o ho hi F' undef w hI' b1 b2⟩
    ·exact hall.elim
def FA (a:Act):Fr:=⟨[],λ t=>a.tmps.getD t undef⟩
theorem gr {r:Type}{F G:Fr} (h:∀ t,F.get t=G.get t):∀ (S:List (Nat×Sh)) (f:Tu S r),Gb S f F=Gb S f G
 | [],f=>rfl
 | (t,s)::S,f=>by
  unfold Gb;rw[h t];split
  ·exact gr h S _
  ·rfl
theorem Is.fa {n:Nat}{F:Fr}{a:Act} (h:Is n F a):∀ t,F.get t=(FA a).get t:=λ t=>(h.at_ t).symm
theorem iu {r q:Type}{a:Act}{κ:(wD->r)->(wD->q)->List (Nat×Value)->Prop}:∀ (S:List (Nat×Sh)) (f:Tu S r) (g:Tu S q) (l:List (Nat×Value)) (f':wD->r),
  Nl S f g l κ->(∀ p ∈ l,a.tmps.getD p.1 undef=p.2)->Gb S f (FA a)=some f'->∃ g' l',Gb S g (FA a)=some g'/\κ f' g' l'/\∀ p ∈ l',a.tmps.getD p.1 undef=p.2
 | [],f,g,l,f',h,hl,hf=>by
  unfold Gb at hf;cases hf;exact⟨g,l,rfl,h,hl⟩
 | (t,s)::S,f,g,l,f',h,hl,hf=>by
  have hget:(FA a).get t=a.tmps.getD t undef:=rfl
  have hcons:∀ v,a.tmps.getD t undef=v->∀ p ∈ (t,v)::l,a.tmps.getD p.1 undef=p.2:=by
   intro v hv p hp;rcases qp.1 hp with rfl | hp
   ·exact hv
   ·exact hl p hp
  unfold Gb at hf ⊢;rw[hget] at hf ⊢;generalize hv:a.tmps.getD t undef=v at hf ⊢
  cases s <;> cases v <;> simp only[Sh.app] at hf ⊢ <;> first
   | (cases hf;done)
   | (rename_i k1 k2 x
      cases hk:decide (k2=k1) with
      | false=>rw[hk] at hf;cases hf
      | true =>
       rw[hk] at hf;obtain rfl:=qB hk
       exact iu S _ _ _ f' (h _) (hcons _ hv) hf)
   | exact iu S _ _ _ f' (h _) (hcons _ hv) hf
   | exact iu S _ _ _ f' (h _ _ _) (hcons _ hv) hf
theorem zt (a:Act):∀ (l:List (Nat×Value)),(∀ p ∈ l,a.tmps.getD p.1 undef=p.2)->∀ t,look l (λ t=>a.tmps.getD t undef) t=a.tmps.getD t undef
 | [],_,t=>rfl
 | (u,v)::l,h,t=>by
  rw[rk];split
  ·rename_i e;subst e;exact(h _ (.head _)).symm
  ·exact zt a l (λ p hp=>h p (.tail _ hp)) t
theorem is_of_agree {n:Nat}{a:Act}{l:List (Nat×Value)} (hs:a.tmps.size=n) (hd:a.defers=[]) (h:∀ p ∈ l,a.tmps.getD p.1 undef=p.2):Is n ⟨l,λ t=>a.tmps.getD t undef⟩ a :=
 ⟨hs,hd,λ t=>(zt a l h t).symm⟩
theorem nu {c:Code}{keep:LN} (h:Zq c keep=true):∀ t ∈ keep,t ∉ jy c:=by
 intro t ht hd;have h1:=List.all_eq_true.1 h t ht;have h2:=List.all_eq_true.1 h1 t hd;rw[Nat.beq_refl] at h2;cases h2
def Post (n:Nat) (c:Code) (K:Ex->Fr->wD->Prop) (a:Act):Exit->Act->wD->Prop
 | .normal,a',w'=>(∃ F',Is n F' a'/\K .normal F' w')/\∀ t,t ∉ jy c->a'.tmps.getD t undef=a.tmps.getD t undef
 | .exit id,a',w'=>(∃ F',Is n F' a'/\K (.exit id) F' w')/\∀ t,t ∉ jy c->a'.tmps.getD t undef=a.tmps.getD t undef
 | .ret,a',w'=>(∃ F',Is n F' a'/\K .ret F' w')/\∀ t,t ∉ jy c->a'.tmps.getD t undef=a.tmps.getD t undef
 | _,_,_=>False
theorem Od (w:wD):({ w with drawn:=w.drawn+1 }:wD)=w.drew:=rfl
theorem ji {id:Nat}{ops:Array Oper}{d:Bool}:∀ o ∈ ops.toList,∀ t,o.dst=some t->t ∈ jy (.region id ops d):=by
 intro o ho t ht;exact List.mem_filterMap.2 ⟨o,ho,ht⟩
theorem Uo {n:Nat}{P:Program} (c:Code):∀ (an:An) (F:Fr) (w:wD) (K:Ex->Fr->wD->Prop) (a:Act),vc n P c an F w K->Is n F a->c.wp P (Post n c K a) a w:=by
 induction c with
 | skip=>intro an F w K a h hI;exact wp_skip ⟨⟨F,hI,h⟩,λ _ _=>rfl⟩
 | ret=>intro an F w K a h hI;exact wp_ret ⟨⟨F,hI,h⟩,λ _ _=>rfl⟩
 | exit id=>intro an F w K a h hI;exact wp_exit ⟨⟨F,hI,h⟩,λ _ _=>rfl⟩
 | scope c ih =>
  intro an F w K a h hI;refine wp_scope_straight (wp_mono (ih _ _ _ _ _ h hI) ?_);intro e a' w' he
  cases e <;> first | exact he | exact he.elim
 | region id ops d =>
  intro an F w K a h hI
  cases d with
  | false =>
   refine wp_region_list ?_;have:=xd (n:=n) (P:=P) (ops:=ops.toList) (Q:=Post n (.region id ops false) K a) (jy (.region id ops false)) ops.toList F a w (K .normal) ji h hI
    (λ F' a' w' h1 h2 h3=>⟨⟨F',h1,h2⟩,h3⟩)
   simpa using this
  | true =>
   unfold vc at h;split at h
   ·obtain⟨hb,h⟩:=aj h;rw[qU] at hb
    have e:ops=ops.toList.toArray:=by simp
    rw[e];refine wp_region_quiet_lit hb.1 (by rw[<- e];exact hb.2) ?_;have:=zp (n:=n) (P:=P) (ops:=ops.toList) (w:=w) (λ a'=>∀ w',(∃ m,w'=w.drewN m)->Post n (.region id ops.toList.toArray true) K a .normal a' w') (jy (.region id ops true)) ops.toList F a _ ji h hI
     (λ F' a' h1 h2 h3 w' ⟨m,hm⟩=>⟨⟨F',h1,h2 w' m hm⟩,by simpa [jy] using h3⟩)
    exact this
   ·rename_i m hm
    cases hm1:Nat.ble 1000 m with
    | true =>
     rw[hm1] at h;obtain⟨hb,h⟩:=aj (show(bif P.follows .mixedOrders&&Region.noSelect ops then _ else False) from h);rw[qU] at hb
     refine wp_region_any hb.1 (uc _ _ _ _ (Dw (n:=n) (stop:=m - 1000) (w0:=w.drew) (Q:=Post n (.region id ops true) K a) hb.2 (λ c a w hc=>hc) (jy (.region id ops true)) (λ i o ho=>ji o (by
      have:=Array.mem_of_getElem? ho;simpa using this)) _ _ F a w.drew _ (h w.drew rfl) hI (λ j oj _ hl=>by simp [qJB,Array.getElem?_replicate] at hl;split at hl <;> cases hl) (.inr (Below.refl _ _)) ?_))
     intro F' a' w' h1 h2 h3;exact⟨⟨F',h1,h2⟩,h3⟩
    | false =>
    rw[hm1] at h;obtain⟨hb,h⟩:=aj (show(bif P.follows .mixedOrders&&Region.lexTailB .any ops m then _ else False) from h);rw[qU] at hb
    have e:ops=ops.toList.toArray:=by simp
    rw[e];refine wp_region_still_tail m hb.1 (by rw[<- e];exact hb.2) ?_;rw[Od];have h:=h w.drew rfl;refine Lh (n:=n) (ops:=ops.toList) _ (jy (.region id ops true)) _ F a _ (λ o ho=>ji o (qRB ho)) h hI ?_;intro F' a' hI' h2 h3;refine xd (n:=n) (ops:=ops.toList) (jy (.region id ops true)) _ F' a' _ _ (λ o ho=>ji o (qhB ho)) h2 hI' ?_;intro F'' a'' w'' h4 h5 h6
    exact⟨⟨F'',h4,h5⟩,λ t ht=>by
     have ht':t ∉ jy (.region id ops true):=by simpa [jy] using ht
     rw[h6 t ht',h3 t ht']⟩
 | seq x y ihx ihy =>
  intro an F w K a h hI
  have hd1:∀ t,t ∉ jy (.seq x y)->t ∉ jy x/\t ∉ jy y:=by
   intro t ht;simp only[jy,qc,not_or] at ht;exact ht
  unfold vc at h;split at h
  ·refine wp_seq (wp_mono (ihx _ _ _ _ _ h hI) ?_);intro e a' w' he
   cases e with
   | normal =>
    obtain⟨⟨F',hI',hk⟩,hkeep⟩:=he;refine wp_mono (ihy _ _ _ _ _ hk hI') ?_;intro e a'' w'' he
    cases e with
    | normal=>exact⟨he.1,λ t ht=>by rw[he.2 t (hd1 t ht).2,hkeep t (hd1 t ht).1]⟩
    | exit id=>exact⟨he.1,λ t ht=>by rw[he.2 t (hd1 t ht).2,hkeep t (hd1 t ht).1]⟩
    | ret=>exact⟨he.1,λ t ht=>by rw[he.2 t (hd1 t ht).2,hkeep t (hd1 t ht).1]⟩
    | _=>exact he.elim
   | exit id=>exact⟨he.1,λ t ht=>he.2 t (hd1 t ht).1⟩
   | ret=>exact⟨he.1,λ t ht=>he.2 t (hd1 t ht).1⟩
   | _=>exact he.elim
  ·obtain⟨hst,R,hx,hy⟩:=aj h;have hst:=nu hst;refine wp_seq (wp_mono (ihx _ _ _ _ _ hx hI) ?_);intro e a' w' he
   cases e with
   | normal =>
    obtain⟨⟨F',hI',hk⟩,hkeep⟩:=he;dsimp only at hk;unfold holds at hk;split at hk
    ·rename_i p hp;rw[gr hI'.fa] at hp
     obtain⟨g',l', -,hκ,hl'⟩:=iu (a:=a') an.S R R _ p (hy λ t=>a'.tmps.getD t undef) (by
      intro q hq;obtain⟨t,ht,rfl⟩:=qCB.1 hq;show a'.tmps.getD t undef=F.get t
      rw[hkeep t (hst t ht),hI.at_]) hp
     have hI2:=is_of_agree hI'.size hI'.defers hl';refine wp_mono (ihy _ _ _ _ _ (hκ w' hk) hI2) ?_;intro e a'' w'' he
     cases e with
     | normal=>exact⟨he.1,λ t ht=>by rw[he.2 t (hd1 t ht).2,hkeep t (hd1 t ht).1]⟩
     | exit id=>exact⟨he.1,λ t ht=>by rw[he.2 t (hd1 t ht).2,hkeep t (hd1 t ht).1]⟩
     | ret=>exact⟨he.1,λ t ht=>by rw[he.2 t (hd1 t ht).2,hkeep t (hd1 t ht).1]⟩
     | _=>exact he.elim
    ·exact hk.elim
   | exit id=>exact⟨he.1,λ t ht=>he.2 t (hd1 t ht).1⟩
   | ret=>exact⟨he.1,λ t ht=>he.2 t (hd1 t ht).1⟩
   | _=>exact he.elim
 | cond c x y ihx ihy =>
  intro an F w K a h hI
  have hd1:∀ t,t ∉ jy (.cond c x y)->t ∉ jy x/\t ∉ jy y:=by
   intro t ht;simp only[jy,qc,not_or] at ht;exact ht
  obtain⟨b,hb,h⟩:=pa h
  have hb':a.eval c= .bool b:=by rw[hI.eval];exact hb
  rcases nt h with ⟨rfl,h⟩ | ⟨rfl,h⟩
  ·refine wp_cond_true hb' (wp_mono (ihx _ _ _ _ _ h (hI.know hb)) ?_);intro e a' w' he
   cases e with
   | normal=>exact⟨he.1,λ t ht=>he.2 t (hd1 t ht).1⟩
   | exit id=>exact⟨he.1,λ t ht=>he.2 t (hd1 t ht).1⟩
   | ret=>exact⟨he.1,λ t ht=>he.2 t (hd1 t ht).1⟩
   | _=>exact he.elim
  ·refine wp_cond_false hb' (wp_mono (ihy _ _ _ _ _ h (hI.know hb)) ?_);intro e a' w' he
   cases e with
   | normal=>exact⟨he.1,λ t ht=>he.2 t (hd1 t ht).2⟩
   | exit id=>exact⟨he.1,λ t ht=>he.2 t (hd1 t ht).2⟩
   | ret=>exact⟨he.1,λ t ht=>he.2 t (hd1 t ht).2⟩
   | _=>exact he.elim
 | block id c ih =>
  intro an F w K a h hI;refine wp_block (wp_mono (ih _ _ _ _ _ h hI) ?_);intro e a' w' he
  cases e with
  | normal=>exact he
  | exit i =>
   obtain⟨⟨F',hI',hk⟩,hkeep⟩:=he;dsimp only at hk;simp only[Exit.inBlock];by_cases e:i=id
   ·subst e;rw[Nat.beq_refl] at hk;rw[if_pos rfl];exact⟨⟨F',hI',hk⟩,hkeep⟩
   ·rw[if_neg e]
    have:Nat.beq i id=false:=by
     cases hb:Nat.beq i id with
     | false=>rfl
     | true=>exact absurd (qDB hb) e
    rw[this] at hk;exact⟨⟨F',hI',hk⟩,hkeep⟩
  | ret=>exact he
  | _=>exact he.elim
 | loop c ih =>
  intro an F w K a h hI;unfold vc at h;obtain⟨hst,I,μ,h0,hround⟩:=aj h;have hst:=nu hst
  let MU:Act->wD->Nat:=λ a' w'=>match Gb an.S μ (FA a') with | some m=>m w' | none=>0
  refine wp_loop (λ a' w'=>a'.tmps.size=n/\a'.defers=[]/\(∀ t,t ∉ jy c->a'.tmps.getD t undef=a.tmps.getD t undef)/\holds (Gb an.S I (FA a')) w') MU ⟨hI.size,hI.defers,λ _ _=>rfl,by rw[gr hI.fa] at h0;exact h0⟩ ?_;rintro a' w' ⟨h1,h2,h3,h4⟩;unfold holds at h4;split at h4
  ·rename_i p hp
   obtain⟨μ',l',hμ,hκ,hl'⟩:=iu (a:=a') an.S I μ _ p (hround λ t=>a'.tmps.getD t undef) (by
    intro q hq;obtain⟨t,ht,rfl⟩:=qCB.1 hq;show a'.tmps.getD t undef=F.get t
    rw[h3 t (hst t ht),hI.at_]) hp
   have hI2:=is_of_agree h1 h2 hl';refine wp_mono (ih _ _ _ _ _ (hκ w' h4) hI2) ?_;intro e a'' w'' he
   cases e with
   | normal =>
    obtain⟨⟨F2,hF2,hk⟩,hkeep⟩:=he;dsimp only at hk;split at hk
    ·rename_i I2 μ2 e1 e2;rw[gr hF2.fa] at e1 e2;refine⟨⟨hF2.size,hF2.defers,λ t ht=>by rw[hkeep t ht,h3 t ht],by rw[e1];exact hk.1⟩,?_⟩;show MU a'' w''<MU a' w';simp only[MU,e2,hμ];exact hk.2
    ·exact hk.elim
   | exit id=>exact⟨he.1,λ t ht=>by rw[he.2 t ht,h3 t ht]⟩
   | ret=>exact⟨he.1,λ t ht=>by rw[he.2 t ht,h3 t ht]⟩
   | _=>exact he.elim
  ·exact h4.elim
 | _=>intro an F w K a h hI;exact h.elim
def ahw (tmps:AV):ResultVar->Sem Value
 | .tmp t=>pure (tmps.getD t undef)
 | .cell p t=>do loadVar t (← Go.asAddr (tmps.getD p undef))
theorem Lj (fn:Func) (tmps:AV):results fn tmps=(do let vs ← fn.results.mapM (ahw tmps);pure (if h:vs.size=1 then vs[0] else .tuple vs)):=by
 unfold results;congr 1
theorem Up {P:Program}{F:Fr}{n:Nat}{a:Act} (hI:Is n F a){w:wD}:∀ (rs:List ResultVar) (acc:LV){φ:Value->Prop},Gh P rs F w acc φ ->
  ∃ vs:LV,(rs.mapM (ahw a.tmps)).run P w= .ok vs w/\φ (if h:(acc++vs).length=1 then (acc++vs)[0] else .tuple (acc++vs).toArray):=by
 intro rs
 induction rs with
 | nil =>
  intro acc φ h;refine⟨[],rfl,?_⟩;simp only[qqB]
  match acc,h with
  | [],h=>exact h
  | [v],h=>exact h
  | u::v::r,h=>rw[dif_neg (by simp)];exact h
 | cons r rs ih =>
  intro acc φ h
  have step:∀ (v:Value),((ahw a.tmps) r).run P w= .ok v w->Gh P rs F w (acc++[v]) φ->∃ vs:LV,((r::rs).mapM (ahw a.tmps)).run P w= .ok vs w/\φ (if h:(acc++vs).length=1 then (acc++vs)[0] else .tuple (acc++vs).toArray):=by
   intro v hv h;obtain⟨vs,h1,h2⟩:=ih (acc++[v]) h;refine⟨v::vs,?_,by simpa using h2⟩;rw[List.mapM_cons,Sem.run_bind,hv];simp only[Result.andThen_ok];rw[Sem.run_bind,h1];rfl
  cases r with
  | tmp t=>exact step _ rfl (by rw[hI.at_];exact h)
  | cell p t =>
   have h':Ih P t (F.get p) w λ v=>Gh P rs F w (acc++[v]) φ:=by
    cases acc <;> exact h
   obtain⟨u,h1,h2⟩:=load_some h';refine step u ?_ h2;have h0:=h1 w (Keeps.refl w);obtain⟨q,e1,h3⟩:=gq h';obtain⟨ad,e2,h4⟩:=ptr_some h3;subst e2;rw[e1] at h0;simp only[Instr.loadAt,Instr.sureAddr,Sem.run_bind,Sem.run_pure,Result.andThen_ok] at h0;show(do loadVar t (← Go.asAddr (a.tmps.getD p undef)):Sem Value).run P w=_;rw[hI.at_,e1,Sem.run_bind];exact h0
theorem Im (t:Nat):∀ (l:LV) (i:Nat),look (aex i l) (λ _=>undef) t=if i≤t/\t<i+l.length then l.getD (t - i) undef else undef
 | [],i=>by
  rw[if_neg (by simp)];rfl
 | v::l,i=>by
  show look ((i,v)::aex (i+1) l) _ t=_;rw[rk,Im t l (i+1)];by_cases e:i=t
  ·subst e;rw[if_pos rfl,if_pos (by simp)];simp
  ·rw[if_neg e];by_cases h:i+1≤t/\t<i+1+l.length
   ·rw[if_pos h,if_pos (by simp;omega)];rw[show t - i=(t - (i+1))+1 by omega];simp
   ·rw[if_neg h,if_neg (by simp;omega)]
theorem sound {P:Program}{f:FuncId}{fn:Func}{w:wD}{Q:Ending->wD->Prop} (hf:P.funcs[f]?=some fn) (an:An) (args:LV) (hd:fn.results.size=fn.results.size) (h:ahz P fn an args w Q):Calls P f args.toArray w Q:=by
 unfold ahz at h;split at h
 ·rename_i c hb;obtain⟨hn,h⟩:=aj h;have hn:=qpB hn
  have hI:Is fn.ntmps ⟨aex 0 args,λ _=>undef⟩ { tmps:=args.toArray++Array.replicate (fn.ntmps - args.toArray.size) undef,defers:=[] }:=by
   refine⟨by simp;omega,rfl,λ t=>?_⟩;show _=look (aex 0 args) (λ _=>undef) t;rw[Im];simp only[qJB,Array.getElem?_append];by_cases h1:t<args.length
   ·simp [h1]
   ·simp [h1,Array.getElem?_replicate];split <;> rfl
  refine calls_of_wp hf hb (wp_mono (Uo c _ _ _ _ _ h hI) ?_)
  have fin:∀ (F':Fr) (a':Act) (w':wD),Is fn.ntmps F' a'->Gh P fn.results.toList F' w' [] (λ v=>Q (.returned v) w')->a'.defers=[]/\∃ v,(results fn a'.tmps).run P w'= .ok v w'/\Q (.returned v) w':=by
   intro F' a' w' hI' hr;refine⟨hI'.defers,?_⟩;obtain⟨vs,h1,h2⟩:=Up hI' _ _ hr;simp only[qr] at h2;refine⟨_,?_,h2⟩;rw[Lj,Sem.run_bind,Array.mapM_eq_mapM_toList,map_eq_pure_bind,Sem.run_bind];rw[h1];simp only[Result.andThen_ok,Sem.run_pure];congr 1
  intro e a' w' he
  cases e with
  | normal=>obtain⟨⟨F',hI',hk⟩, -⟩:=he;exact fin F' a' w' hI' hk
  | ret=>obtain⟨⟨F',hI',hk⟩, -⟩:=he;exact fin F' a' w' hI' hk
  | exit id=>obtain⟨⟨F',hI',hk⟩, -⟩:=he;exact hk.elim
  | _=>exact he.elim
 ·exact h.elim
theorem sd {P:Program}{f:FuncId}{fn:Func}{w:wD}{Q:Ending->wD->Prop}{args:LV}{C:Prop} (hf:P.funcs[f]?=some fn) (an:An) (h:C) (e:C=ahz P fn an args w Q:=by kernel_rfl):Calls P f args.toArray w Q:=sound hf an args rfl (Eq.mp e h)
end Go.Sx
