/- The reference's checker over rows of nodes says what the plain checker says: statements, declarations. No condition. -/
import Derived.Test.YtojogkljneonmaaGreatDoorLangZi
set_option linter.unusedVariables false
set_option linter.unusedSimpArgs false
namespace Go.Lang
variable {lk:Lk}{g:Gf}
def C.mp {α β:Type} (f:α->β):C α->C β
 | .ok x=>.ok (f x)
 | .err l e=>.err l e
theorem Pc (hR:Sy lk g) (s:ByteArray):(g s).isSome=(lk s).isSome:=by
 have:=hR s
 cases hl:lk s with
 | none=>rw[hl] at this;rw[this];rfl
 | some x =>
  rw[hl] at this
  cases x with
  | var wd z=>obtain⟨m,h⟩:=this;rw[h];rfl
  | fn k np=>obtain⟨v,h⟩:=this;rw[h];rfl
theorem Mu (hR:Sy lk g) (Ls:Lcs){n:Nat} (hn:n≤24) (line:Int) (s:ByteArray):tg g (Ls.map Prod.fst) n line s=(pu lk Ls n line s).mp λ p=>(p.1.map Prod.fst,p.2):=by
 unfold tg pu;rw[Pc hR];by_cases h1:(lk s).isSome=true
 ·rw[if_pos h1,if_pos (by rw[h1];rfl)];rfl
 ·by_cases h2:0≤bf Ls s
  ·rw[if_neg h1,if_pos h2,if_pos (by rw[(fg Ls s).1 h2,Bool.or_true])];rfl
  ·have h3:jy (Ls.map Prod.fst) s=false:=by
    cases hh:jy (Ls.map Prod.fst) s with
    | false=>rfl
    | true=>exact absurd ((fg Ls s).2 hh) h2
   rw[if_neg h1,if_neg h2,if_neg (by rw[h3];simpa using h1)];by_cases h4:n=24
   ·rw[if_pos h4,if_pos (by omega)];rfl
   ·rw[if_neg h4,if_neg (by omega)];simp [C.mp]
def stm (q:T×Lcs×Nat):List ByteArray×Nat:=(q.2.1.map Prod.fst,q.2.2)
theorem Xq (g:Gf) (s:ByteArray) (ln:Int) (ks:Fo) (Ls:List ByteArray) (n:Nat):xp g ly s ln ks Ls n=(Br g Ls s ln).bind λ _=>(eu g Ls 0 ks).bind λ _=>(eu g Ls 1 ks.tl).bind λ _=>.ok (Ls,n):=rfl
theorem abo (g:Gf) (s:ByteArray) (ln:Int) (ks:Fo) (Ls:List ByteArray) (n:Nat):xp g cIf s ln ks Ls n=(eu g Ls 0 ks).bind λ _=>gw g ks.tl Ls n:=rfl
theorem Pd (g:Gf) (s:ByteArray) (ln:Int) (ks:Fo) (Ls:List ByteArray) (n:Nat):xp g dx s ln ks Ls n=(eu g Ls 0 ks).bind λ _=>gw g ks.tl Ls n:=rfl
theorem aer (hR:Sy lk g):∀ (x:T),(x.ok 2=true∨x.ok 3=true)->∀ (Ls:Lcs) (n:Nat) (r:Fo),Ls.length≤n->n≤24->gw g (toF x r) (Ls.map Prod.fst) n=((cst lk x Ls n).mp stm).bind λ p=>gw g r p.1 p.2:=by
 intro x
 have bd:∀ (y:T) (Ls:Lcs) (n:Nat),Ls.length≤n->n≤24->gw g (toF y .nil) (Ls.map Prod.fst) n=((cst lk y Ls n).mp stm).bind (λ p=>gw g .nil p.1 p.2)->∀ q,cst lk y Ls n= .ok q->q.2.1.length≤q.2.2/\q.2.2≤24:=by
  intro y Ls n h1 h2 h q hq;rw[hq] at h
  have h3:gw g (toF y .nil) (Ls.map Prod.fst) n= .ok (q.2.1.map Prod.fst,q.2.2):=by rw[h];show gw g .nil _ _=_;rw[lg];rfl
  have:=wb g _ _ (Nat.lt_succ_self _) _ _ _ _ h3 (by rw[List.length_map];exact h1) h2;rw[List.length_map] at this;exact this.2
 induction x with
 | num=>intro h;simp [T.ok] at h
 | name=>intro h;simp [T.ok] at h
 | index=>intro h;simp [T.ok] at h
 | call=>intro h;simp [T.ok] at h
 | un=>intro h;simp [T.ok] at h
 | bin=>intro h;simp [T.ok] at h
 | nil =>
  intro _ Ls n r _ _;rfl
 | cons x xs ih1 ih2 =>
  intro h Ls n r h1 h2
  have h0:x.ok 2=true/\xs.ok 3=true:=by simpa [T.ok] using h
  show gw g (toF x (toF xs r)) _ n=_;have e1:=ih1 (.inl h0.1) Ls n;rw[e1 (toF xs r) h1 h2];simp only[cst]
  cases hc:cst lk x Ls n with
  | err l e=>rfl
  | ok q =>
   obtain⟨b1,b2⟩:=bd x Ls n h1 h2 (e1 .nil h1 h2) q hc;show gw g (toF xs r) (q.2.1.map Prod.fst) q.2.2=_;rw[ih2 (.inr h0.2) q.2.1 q.2.2 r b1 b2];show _=(((cst lk xs q.2.1 q.2.2).bind _).mp stm).bind _;cases cst lk xs q.2.1 q.2.2 <;> rfl
 | letS t nm s w x _ =>
  intro h Ls n r h1 h2
  have h0:x.ok 0=true:=by simpa [T.ok] using h
  show gw g (.cons lx nm.s t.line 0 (toF x .nil) [] r) _ n=_;rw[gl]
  have hf:xp g lx nm.s t.line (toF x .nil) (Ls.map Prod.fst) n=(ck lk Ls x 0).er.bind λ _=>(pu lk Ls n t.line nm.s).mp λ p=>(p.1.map Prod.fst,p.2):=by
   rw[<- ib hR Ls x 0 (by omega) h0 .nil,<- Mu hR Ls h2];rfl
  rw[hf];simp only[cst]
  cases ck lk Ls x 0 with
  | err l e=>rfl
  | ok x'=>show((pu lk Ls n t.line nm.s).mp _).bind _=_;cases hd:pu lk Ls n t.line nm.s <;> simp [C.bind,C.mp,stm,hd]
 | setS t s w x _ =>
  intro h Ls n r h1 h2
  have h0:x.ok 0=true:=by simpa [T.ok] using h
  show gw g (.cons xo t.s t.line 0 (toF x .nil) [] r) _ n=_;rw[gl]
  have hf:xp g xo t.s t.line (toF x .nil) (Ls.map Prod.fst) n=(sj lk Ls t w).er.bind λ _=>(ck lk Ls x 0).er.bind λ _=>.ok (Ls.map Prod.fst,n):=by
   rw[<- ib hR Ls x 0 (by omega) h0 .nil,<- Zx hR Ls t w];rfl
  rw[hf];simp only[cst]
  cases sj lk Ls t w with
  | err l e=>rfl
  | ok p=>cases hw:ck lk Ls x 0 <;> simp [C.bind,C.mp,C.er,stm,hw]
 | putS t w z p x _ _ =>
  intro h Ls n r h1 h2
  have h0:p.ok 0=true/\x.ok 0=true:=by simpa [T.ok] using h
  show gw g (.cons ly t.s t.line 0 (toF p (toF x .nil)) [] r) _ n=_;rw[gl];obtain⟨k',s',v',ks',e', -⟩:=ok0_cons p h0.1
  have htl:(toF p (toF x .nil)).tl=toF x .nil:=by rw[e'];rfl
  have hf:xp g ly t.s t.line (toF p (toF x .nil)) (Ls.map Prod.fst) n=(Km lk Ls t).er.bind λ _=>(ck lk Ls p 0).er.bind λ _=>(ck lk Ls x 1).er.bind λ _=>.ok (Ls.map Prod.fst,n):=by
   rw[Xq,htl,Sz hR Ls t,ib hR Ls p 0 (by omega) h0.1 (toF x .nil),ib hR Ls x 1 (by omega) h0.2 .nil]
  rw[hf];simp only[cst]
  cases Km lk Ls t with
  | err l e=>rfl
  | ok a =>
   cases hw:ck lk Ls p 0 with
   | err l e=>simp [C.bind,C.mp,C.er,stm,hw]
   | ok p'=>cases hx:ck lk Ls x 1 <;> simp [C.bind,C.mp,C.er,stm,hw,hx]
 | ifS line c a b ih0 ih1 ih2 =>
  intro h Ls n r h1 h2
  have h0:c.ok 0=true/\a.ok 2=true/\(b.ok 2=true∨b.isNil=true):=by
   have:(c.ok 0=true/\a.ok 2=true)/\(b.ok 2=true∨b.isNil=true):=by simpa [T.ok] using h
   exact⟨this.1.1,this.1.2,this.2⟩
  show gw g (.cons cIf (ofL []) line 0 (toF c (toF a (toF b .nil))) [] r) _ n=_;rw[gl];obtain⟨k',s',v',ks',e', -⟩:=ok0_cons c h0.1
  have htl:(toF c (toF a (toF b .nil))).tl=toF a (toF b .nil):=by rw[e'];rfl
  have hf:xp g cIf (ofL []) line (toF c (toF a (toF b .nil))) (Ls.map Prod.fst) n=(ck lk Ls c 0).er.bind λ _=>gw g (toF a (toF b .nil)) (Ls.map Prod.fst) n:=by
   rw[abo,htl,ib hR Ls c 0 (by omega) h0.1 (toF a (toF b .nil))]
  have e1:=ih1 (.inl h0.2.1) Ls n;rw[hf,e1 (toF b .nil) h1 h2];simp only[cst]
  cases hcw:ck lk Ls c 0 with
  | err l e=>rfl
  | ok c' =>
   show(((cst lk a Ls n).mp stm).bind λ p=>gw g (toF b .nil) p.1 p.2).bind (λ p=>gw g r p.1 p.2)=(((cst lk a Ls n).bind λ a'=>(cst lk b a'.2.1 a'.2.2).bind λ b'=>C.ok (T.ifS line c' a'.1 b'.1,b'.2.1,b'.2.2)).mp stm).bind _
   cases hc:cst lk a Ls n with
   | err l e=>rfl
   | ok q =>
    obtain⟨b1,b2⟩:=bd a Ls n h1 h2 (e1 .nil h1 h2) q hc
    have hb:gw g (toF b .nil) (q.2.1.map Prod.fst) q.2.2=((cst lk b q.2.1 q.2.2).mp stm).bind λ p=>gw g .nil p.1 p.2:=by
     rcases h0.2.2 with hb | hb
     ·exact ih2 (.inl hb) q.2.1 q.2.2 .nil b1 b2
     ·cases b with
      | nil=>show gw g .nil _ _=gw g .nil _ _;rfl
      | _=>cases hb
    show(gw g (toF b .nil) (q.2.1.map Prod.fst) q.2.2).bind _=(((cst lk b q.2.1 q.2.2).bind _).mp stm).bind _;rw[hb]
    cases cst lk b q.2.1 q.2.2 with
    | err l e=>rfl
    | ok q2=>show(gw g .nil _ _).bind _=_;rw[lg];rfl
 | whileS line c b ih0 ih1 =>
  intro h Ls n r h1 h2
  have h0:c.ok 0=true/\b.ok 2=true:=by simpa [T.ok] using h
  show gw g (.cons dx (ofL []) line 0 (toF c (toF b .nil)) [] r) _ n=_;rw[gl];obtain⟨k',s',v',ks',e', -⟩:=ok0_cons c h0.1
  have htl:(toF c (toF b .nil)).tl=toF b .nil:=by rw[e'];rfl
  have hf:xp g dx (ofL []) line (toF c (toF b .nil)) (Ls.map Prod.fst) n=(ck lk Ls c 0).er.bind λ _=>gw g (toF b .nil) (Ls.map Prod.fst) n:=by
   rw[Pd,htl,ib hR Ls c 0 (by omega) h0.1 (toF b .nil)]
  have e1:=ih1 (.inl h0.2) Ls n;rw[hf,e1 .nil h1 h2];simp only[cst]
  cases hcw:ck lk Ls c 0 with
  | err l e=>rfl
  | ok c' =>
   show(((cst lk b Ls n).mp stm).bind λ p=>gw g .nil p.1 p.2).bind (λ p=>gw g r p.1 p.2)=(((cst lk b Ls n).bind λ b'=>C.ok (T.whileS line c' b'.1,b'.2.1,b'.2.2)).mp stm).bind _
   cases hc:cst lk b Ls n with
   | err l e=>rfl
   | ok q=>show(gw g .nil _ _).bind _=_;rw[lg];rfl
 | retS line x _ =>
  intro h Ls n r h1 h2
  have h0:x.ok 0=true:=by simpa [T.ok] using h
  show gw g (.cons jm (ofL []) line 0 (toF x .nil) [] r) _ n=_;rw[gl]
  have hf:xp g jm (ofL []) line (toF x .nil) (Ls.map Prod.fst) n=(ck lk Ls x 0).er.bind λ _=>.ok (Ls.map Prod.fst,n):=by
   rw[<- ib hR Ls x 0 (by omega) h0 .nil];rfl
  rw[hf];simp only[cst];cases hw:ck lk Ls x 0 <;> simp [C.bind,C.mp,C.er,stm,hw]
 | prtS line x _ =>
  intro h Ls n r h1 h2
  have h0:x.ok 0=true:=by simpa [T.ok] using h
  show gw g (.cons ng (ofL []) line 0 (toF x .nil) [] r) _ n=_;rw[gl]
  have hf:xp g ng (ofL []) line (toF x .nil) (Ls.map Prod.fst) n=(ck lk Ls x 0).er.bind λ _=>.ok (Ls.map Prod.fst,n):=by
   rw[<- ib hR Ls x 0 (by omega) h0 .nil];rfl
  rw[hf];simp only[cst];cases hw:ck lk Ls x 0 <;> simp [C.bind,C.mp,C.er,stm,hw]
 | doS line x _ =>
  intro h Ls n r h1 h2
  have h0:x.ok 0=true:=by simpa [T.ok] using h
  show gw g (.cons abh (ofL []) line 0 (toF x .nil) [] r) _ n=_;rw[gl]
  have hf:xp g abh (ofL []) line (toF x .nil) (Ls.map Prod.fst) n=(ck lk Ls x 0).er.bind λ _=>.ok (Ls.map Prod.fst,n):=by
   rw[<- ib hR Ls x 0 (by omega) h0 .nil];rfl
  rw[hf];simp only[cst];cases hw:ck lk Ls x 0 <;> simp [C.bind,C.mp,C.er,stm,hw]
 | block line l ih =>
  intro h Ls n r h1 h2
  have h0:l.ok 3=true:=by simpa [T.ok] using h
  show gw g (.cons bh (ofL []) line 0 (toF l .nil) [] r) _ n=_;rw[gl];have hf:xp g bh (ofL []) line (toF l .nil) (Ls.map Prod.fst) n=(gw g (toF l .nil) (Ls.map Prod.fst) n).bind λ p=>.ok (Ls.map Prod.fst,p.2):=rfl;rw[hf,ih (.inr h0) Ls n .nil h1 h2];simp only[cst]
  cases hc:cst lk l Ls n with
  | err l e=>rfl
  | ok q=>show((gw g .nil _ _).bind _).bind _=_;rw[lg];rfl
theorem Mv (hR:Sy lk g) (line:Int):∀ (ps:List ByteArray) (Ls:Lcs) (n:Nat),Ls.length≤n->n≤24->Ep g line ps (Ls.map Prod.fst) n=(pz lk line ps Ls n).mp (λ p=>(p.1.map Prod.fst,p.2))/\∀ q,pz lk line ps Ls n= .ok q->q.1.length≤q.2/\q.2≤24
 | [],Ls,n,h1,h2=>⟨rfl,λ q h=>by cases h;exact⟨h1,h2⟩⟩
 | p::ps,Ls,n,h1,h2=>by
  unfold Ep pz;rw[Mu hR Ls h2]
  cases hd:pu lk Ls n line p with
  | err l e=>exact⟨rfl,λ q h=>by cases h⟩
  | ok q =>
   have hq:q.1.length≤q.2/\q.2≤24:=by
    unfold pu at hd;split at hd
    ·cases hd
    ·split at hd
     ·cases hd
     ·split at hd
      ·cases hd
      ·cases hd;rename_i hn;exact⟨by simp;omega,by show n+1≤24;omega⟩
   obtain⟨a,b⟩:=Mv hR line ps q.1 q.2 hq.1 hq.2;exact⟨a,b⟩
variable {lk:Lk}{g:Gf}
def agq:D->ByteArray×Int×Nat
 | .var _ _ _ z=>(mb,z,0)
 | .fn _ _ ps _ _ _=>(da,0,ps.length)
theorem ig {s:ByteArray}{d:D}{l:List D} (h:d.nm=s):((d::l).find? λ d=>decide (d.nm=s))=some d:=List.find?_cons_of_pos (p:=λ d:D=>decide (d.nm=s)) (decide_eq_true h)
theorem ii {s:ByteArray}{d:D}{l:List D} (h:¬ d.nm=s):((d::l).find? λ d=>decide (d.nm=s))=l.find? λ d=>decide (d.nm=s):=List.find?_cons_of_neg (p:=λ d:D=>decide (d.nm=s)) (by rw[decide_eq_false h];exact Bool.false_ne_true)
theorem Xr (lk:Lk) (dup:Bool) (t:Tok) (nm:ByteArray) (w z:Int):Gh lk dup (.var t nm w z)=if dup then .err t.line 9 else if 512<w+max 1 z then .err t.line 1 else .ok (.var t nm w z):=rfl
theorem abp (lk:Lk) (dup:Bool) (t:Tok) (nm:ByteArray) (ps:List ByteArray) (s no:Int) (b:T):Gh lk dup (.fn t nm ps s no b)=if dup then .err t.line 9 else (pz lk t.line ps [] 0).bind λ q=>(cst lk b q.1 q.2).bind λ r=>.ok (.fn t nm ps (r.2.2:Int) no r.1):=rfl
theorem Eu (s:ByteArray):∀ ds:List D,aj (toD ds .nil) s=(ds.find? λ d=>decide (d.nm=s)).map agq
 | []=>rfl
 | .var t nm w z::ds=>by
  show aj (.cons mb nm t.line z .nil [] (toD ds .nil)) s=_;rw[aj,Eu s ds];by_cases h:nm=s
  ·rw[if_pos h,ig (d:=.var t nm w z) h];rfl
  ·rw[if_neg h,ii (d:=.var t nm w z) h]
 | .fn t nm ps a b c::ds=>by
  show aj (.cons da nm t.line 0 (toF c .nil) ps (toD ds .nil)) s=_;rw[aj,Eu s ds];by_cases h:nm=s
  ·rw[if_pos h,ig (d:=.fn t nm ps a b c) h];rfl
  ·rw[if_neg h,ii (d:=.fn t nm ps a b c) h]
theorem wc (s:ByteArray):∀ (ds:List D) (t n:Nat),((count ds t n).find? λ d=>decide (d.nm=s)).map agq=(ds.find? λ d=>decide (d.nm=s)).map agq
 | [],_,_=>rfl
 | .var tk nm w z::ds,t,n=>by
  by_cases h:nm=s
  ·rw[count,ig (d:=.var tk nm ((t:Nat):Int) z) h,ig (d:=.var tk nm w z) h];rfl
  ·rw[count,ii (d:=.var tk nm ((t:Nat):Int) z) h,ii (d:=.var tk nm w z) h,wc s ds]
 | .fn tk nm ps a b c::ds,t,n=>by
  by_cases h:nm=s
  ·rw[count,ig (d:=.fn tk nm ps a ((n:Nat):Int) c) h,ig (d:=.fn tk nm ps a b c) h];rfl
  ·rw[count,ii (d:=.fn tk nm ps a ((n:Nat):Int) c) h,ii (d:=.fn tk nm ps a b c) h,wc s ds]
theorem find_idx {α:Type} (p:α->Bool):∀ (l:List α),(l.findIdx? p=none/\l.find? p=none)∨∃ i d,l.findIdx? p=some i/\l[i]?=some d/\l.find? p=some d
 | []=>.inl ⟨rfl,rfl⟩
 | x::l=>by
  by_cases h:p x=true
  ·exact .inr ⟨0,x,by rw[List.findIdx?_cons,if_pos h],rfl,List.find?_cons_of_pos h⟩
  ·rw[List.findIdx?_cons,if_neg h,List.find?_cons_of_neg h];rcases find_idx p l with ⟨a,b⟩ | ⟨i,d,a,b,c⟩
   ·exact .inl ⟨by rw[a];rfl,b⟩
   ·exact .inr ⟨i+1,d,by rw[a];rfl,by simpa using b,c⟩
theorem alq (ad:Nat->Nat) (ds:List D):Sy (rq ad (count ds 0 0)) (aj (toD ds .nil)):=by
 intro s
 have h1:aj (toD ds .nil) s=((count ds 0 0).find? λ d=>decide (d.nm=s)).map agq:=by rw[Eu,wc]
 rw[h1];unfold rq de;rcases find_idx (λ d:D=>decide (d.nm=s)) (count ds 0 0) with ⟨a,b⟩ | ⟨i,d,a,b,c⟩
 ·rw[a,b];rfl
 ·rw[a,c];simp only[Option.bind_some,b,Option.map_some]
  cases d with
  | var t nm w z=>exact⟨0,rfl⟩
  | fn t nm ps x y z=>exact⟨0,rfl⟩
theorem Tb (pre tl:List D) (d:D):(decide (de (pre++d::tl) d.nm≠some pre.length))=jy (pre.map D.nm) d.nm:=by
 unfold de;rw[List.findIdx?_append];rcases find_idx (λ x:D=>decide (x.nm=d.nm)) pre with ⟨a,b⟩ | ⟨i,x,a,b,c⟩
 ·rw[a,List.findIdx?_cons,if_pos (by simp)]
  have:jy (pre.map D.nm) d.nm=false:=by
   cases h:jy (pre.map D.nm) d.nm with
   | false=>rfl
   | true =>
    rw[hasN_iff] at h;obtain⟨x,hx,e⟩:=List.mem_map.1 h;rw[List.find?_eq_none] at b;exact absurd (by simpa using e) (b x hx)
  rw[this];simp
 ·have hi:=(List.getElem?_eq_some_iff.1 b).1
  have hx:x.nm=d.nm:=by have:=List.find?_some c;simpa using this
  have:jy (pre.map D.nm) d.nm=true:=hasN_iff.2 (List.mem_map.2 ⟨x,List.mem_of_getElem? b,hx⟩);rw[a,this];simp;omega
theorem Mw {z:Int} (hz:0≤z):wv mb z=max 1 z.toNat:=by
 unfold wv;rw[if_pos rfl];split <;> omega
theorem Ew (hR:Sy lk g) (ds0:List D):∀ (rest pre:List D) (tot no:Nat),ds0=pre++count rest tot no->(∀ d ∈ rest,DOk d)->(jp lk ds0 pre.length (count rest tot no)).er=fcr g (pre.map D.nm) tot (toD rest .nil)
 | [],pre,tot,no,h,hd=>by
  rw[show toD [] Fo.nil= .nil from rfl];unfold fcr;rfl
 | .var t nm w z::rest,pre,tot,no,h,hd=>by
  have hz:0≤z/\z≤256:=hd _ (List.mem_cons_self ..);rw[show toD (.var t nm w z::rest) .nil= .cons mb nm t.line z .nil [] (toD rest .nil) from rfl,Es];rw[count] at h ⊢;have hdup:=Tb pre (count rest (tot+max 1 z.toNat) no) (.var t nm tot z);rw[<- h] at hdup;rw[jp,hdup];have ih:=Ew hR ds0 rest (pre++[.var t nm tot z]) (tot+max 1 z.toNat) no (by rw[h];simp) (λ d h=>hd d (List.mem_cons_of_mem _ h));rw[List.length_append,List.map_append] at ih;rw[Mw hz.1];show(((Gh lk (jy (pre.map D.nm) nm) (.var t nm tot z)).bind _).er)=(Er g (pre.map D.nm) tot mb nm t.line z .nil []).bind λ _=>fcr g (pre.map D.nm++[nm]) (tot+max 1 z.toNat) (toD rest .nil);rw[Xr];unfold Er;rw[Mw hz.1]
  cases jy (pre.map D.nm) nm with
  | true=>rfl
  | false =>
   rw[if_neg Bool.false_ne_true,if_neg Bool.false_ne_true,if_pos rfl];by_cases h5:512<tot+max 1 z.toNat
   ·rw[if_pos h5,if_pos (by omega)];rfl
   ·rw[if_neg h5,if_neg (by omega)];show((jp lk ds0 (pre.length+1) _).bind _).er=fcr g _ _ _;rw[<- show(jp lk ds0 (pre.length+1) (count rest (tot+max 1 z.toNat) no)).er=fcr g (pre.map D.nm++[nm]) (tot+max 1 z.toNat) (toD rest .nil) from ih];cases jp lk ds0 (pre.length+1) (count rest (tot+max 1 z.toNat) no) <;> rfl
 | .fn t nm ps s no' b::rest,pre,tot,no,h,hd=>by
  obtain⟨-,hps,hb,hsz⟩:DOk (.fn t nm ps s no' b):=hd _ (List.mem_cons_self ..);rw[show toD (.fn t nm ps s no' b::rest) .nil= .cons da nm t.line 0 (toF b .nil) ps (toD rest .nil) from rfl,Es];rw[count] at h ⊢;have hdup:=Tb pre (count rest tot (no+1)) (.fn t nm ps s no b);rw[<- h] at hdup;rw[jp,hdup];have ih:=Ew hR ds0 rest (pre++[.fn t nm ps s no b]) tot (no+1) (by rw[h];simp) (λ d h=>hd d (List.mem_cons_of_mem _ h));rw[List.length_append,List.map_append] at ih;rw[show wv da 0=0 from rfl,Nat.add_zero];show(((Gh lk (jy (pre.map D.nm) nm) (.fn t nm ps s no b)).bind _).er)=(Er g (pre.map D.nm) tot da nm t.line 0 (toF b .nil) ps).bind λ _=>fcr g (pre.map D.nm++[nm]) tot (toD rest .nil);rw[abp];unfold Er
  cases jy (pre.map D.nm) nm with
  | true=>rfl
  | false =>
   rw[if_neg Bool.false_ne_true,if_neg Bool.false_ne_true,if_neg (by decide)];obtain⟨e1,e2⟩:=Mv hR t.line ps [] 0 (Nat.le_refl _) (by omega);have e1:Ep g t.line ps [] 0=(pz lk t.line ps [] 0).mp λ p=>(p.1.map Prod.fst,p.2):=e1;rw[e1]
   cases hp:pz lk t.line ps [] 0 with
   | err l e=>rfl
   | ok q =>
    obtain⟨b1,b2⟩:=e2 q hp;have hs:=aer hR b (.inl hb) q.1 q.2 .nil b1 b2;show((C.bind ((cst lk b q.1 q.2).bind _) _).er)=C.bind ((gw g (toF b .nil) (q.1.map Prod.fst) q.2).bind _) _;rw[hs]
    cases cst lk b q.1 q.2 with
    | err l e=>rfl
    | ok r =>
     show((jp lk ds0 (pre.length+1) _).bind _).er=C.bind (C.bind (gw g .nil _ _) _) _;rw[lg];show _=fcr g _ _ _;rw[<- show(jp lk ds0 (pre.length+1) (count rest tot (no+1))).er=fcr g (pre.map D.nm++[nm]) tot (toD rest .nil) from ih];cases jp lk ds0 (pre.length+1) (count rest tot (no+1)) <;> rfl
theorem Tc (ad:Nat->Nat) (ds:List D) (hd:∀ d ∈ ds,DOk d):me (toD ds .nil)=(check ad ds).er:=by
 have hR:=alq ad ds;have h:=Ew hR (count ds 0 0) ds [] 0 0 rfl hd;unfold me check;rw[<- show(jp (rq ad (count ds 0 0)) (count ds 0 0) 0 (count ds 0 0)).er=fcr (aj (toD ds .nil)) [] 0 (toD ds .nil) from h]
 cases jp (rq ad (count ds 0 0)) (count ds 0 0) 0 (count ds 0 0) with
 | err l e=>rfl
 | ok ds' =>
  have hm:=hR ef;show(match aj (toD ds .nil) ef with | some (k,_,np)=>_ | none=>_)=(match rq ad (count ds 0 0) ef with | some (.fn k np)=>_ | _=>_:C (List D×Nat)).er
  cases hl:rq ad (count ds 0 0) ef with
  | none=>rw[hl] at hm;rw[hm];rfl
  | some x =>
   rw[hl] at hm
   cases x with
   | var wd z =>
    obtain⟨m,hg⟩:=hm;rw[hg];simp only;rw[if_pos (by decide)];rfl
   | fn k np =>
    obtain⟨v,hg⟩:=hm;rw[hg];simp only[ne_eq,not_true_eq_false,if_false];split <;> rfl
theorem Aa:fok .nil:=by rw[fok];trivial
theorem abq:∀ (x:T),(x.ok 2=true∨x.ok 3=true)->∀ r,fok r->fok (toF x r):=by
 intro x
 have node:∀ (x:T),x.ok 0=true->∀ r,toF x r≠ .nil/\(toF x r).tl=r:=by
  intro x hx r;obtain⟨k,s,v,ks,e, -⟩:=ok0_cons x hx;rw[e r];exact⟨(by intro h;cases h),rfl⟩
 induction x with
 | num=>intro h;simp [T.ok] at h
 | name=>intro h;simp [T.ok] at h
 | index=>intro h;simp [T.ok] at h
 | call=>intro h;simp [T.ok] at h
 | un=>intro h;simp [T.ok] at h
 | bin=>intro h;simp [T.ok] at h
 | nil=>intro _ r hr;exact hr
 | cons x xs ih1 ih2 =>
  intro h r hr
  have h0:x.ok 2=true/\xs.ok 3=true:=by simpa [T.ok] using h
  exact ih1 (.inl h0.1) _ (ih2 (.inr h0.2) r hr)
 | letS t nm s w x _ =>
  intro h r hr
  have h0:x.ok 0=true:=by simpa [T.ok] using h
  show fok (.cons lx nm.s t.line 0 (toF x .nil) [] r);rw[fok];exact⟨λ _=>⟨(node x h0 _).1,λ e=>absurd e (by decide)⟩,λ e=>absurd e (by decide),λ e=>absurd e (by decide),hr⟩
 | setS t s w x _ =>
  intro h r hr
  have h0:x.ok 0=true:=by simpa [T.ok] using h
  show fok (.cons xo t.s t.line 0 (toF x .nil) [] r);rw[fok];exact⟨λ _=>⟨(node x h0 _).1,λ e=>absurd e (by decide)⟩,λ e=>absurd e (by decide),λ e=>absurd e (by decide),hr⟩
 | putS t w z p x _ _ =>
  intro h r hr
  have h0:p.ok 0=true/\x.ok 0=true:=by simpa [T.ok] using h
  show fok (.cons ly t.s t.line 0 (toF p (toF x .nil)) [] r);rw[fok];refine⟨λ _=>⟨(node p h0.1 _).1,λ _=>?_⟩,λ e=>absurd e (by decide),λ e=>absurd e (by decide),hr⟩;rw[(node p h0.1 _).2];exact(node x h0.2 _).1
 | ifS line c a b _ ih1 ih2 =>
  intro h r hr
  have h0:(c.ok 0=true/\a.ok 2=true)/\(b.ok 2=true∨b.isNil=true):=by simpa [T.ok] using h
  show fok (.cons cIf (ofL []) line 0 (toF c (toF a (toF b .nil))) [] r);rw[fok];refine⟨λ _=>⟨(node c h0.1.1 _).1,λ e=>absurd e (by decide)⟩,λ e=>absurd e (by decide),λ _=>?_,hr⟩;rw[(node c h0.1.1 _).2];refine ih1 (.inl h0.1.2) _ ?_;rcases h0.2 with hb | hb
  ·exact ih2 (.inl hb) _ Aa
  ·cases b with
   | nil=>exact Aa
   | _=>cases hb
 | whileS line c b _ ih1 =>
  intro h r hr
  have h0:c.ok 0=true/\b.ok 2=true:=by simpa [T.ok] using h
  show fok (.cons dx (ofL []) line 0 (toF c (toF b .nil)) [] r);rw[fok];refine⟨λ _=>⟨(node c h0.1 _).1,λ e=>absurd e (by decide)⟩,λ e=>absurd e (by decide),λ _=>?_,hr⟩;rw[(node c h0.1 _).2];exact ih1 (.inl h0.2) _ Aa
 | retS line x _ =>
  intro h r hr
  have h0:x.ok 0=true:=by simpa [T.ok] using h
  show fok (.cons jm (ofL []) line 0 (toF x .nil) [] r);rw[fok];exact⟨λ _=>⟨(node x h0 _).1,λ e=>absurd e (by decide)⟩,λ e=>absurd e (by decide),λ e=>absurd e (by decide),hr⟩
 | prtS line x _ =>
  intro h r hr
  have h0:x.ok 0=true:=by simpa [T.ok] using h
  show fok (.cons ng (ofL []) line 0 (toF x .nil) [] r);rw[fok];exact⟨λ _=>⟨(node x h0 _).1,λ e=>absurd e (by decide)⟩,λ e=>absurd e (by decide),λ e=>absurd e (by decide),hr⟩
 | doS line x _ =>
  intro h r hr
  have h0:x.ok 0=true:=by simpa [T.ok] using h
  show fok (.cons abh (ofL []) line 0 (toF x .nil) [] r);rw[fok];exact⟨λ _=>⟨(node x h0 _).1,λ e=>absurd e (by decide)⟩,λ e=>absurd e (by decide),λ e=>absurd e (by decide),hr⟩
 | block line l ih =>
  intro h r hr
  have h0:l.ok 3=true:=by simpa [T.ok] using h
  show fok (.cons bh (ofL []) line 0 (toF l .nil) [] r);rw[fok];exact⟨λ e=>absurd rfl e,λ _=>ih (.inr h0) _ Aa,λ e=>absurd e (by decide),hr⟩
theorem Td:∀ (x:T),x.ok 2=true->∀ r,toF x r≠ .nil/\(toF x r).tl=r
 | .letS ..,_,r=>⟨(by intro h;cases h),rfl⟩
 | .setS ..,_,r=>⟨(by intro h;cases h),rfl⟩
 | .putS ..,_,r=>⟨(by intro h;cases h),rfl⟩
 | .ifS ..,_,r=>⟨(by intro h;cases h),rfl⟩
 | .whileS ..,_,r=>⟨(by intro h;cases h),rfl⟩
 | .retS ..,_,r=>⟨(by intro h;cases h),rfl⟩
 | .prtS ..,_,r=>⟨(by intro h;cases h),rfl⟩
 | .doS ..,_,r=>⟨(by intro h;cases h),rfl⟩
 | .block ..,_,r=>⟨(by intro h;cases h),rfl⟩
 | .num ..,h,r=>by simp [T.ok] at h
 | .name ..,h,r=>by simp [T.ok] at h
 | .index ..,h,r=>by simp [T.ok] at h
 | .call ..,h,r=>by simp [T.ok] at h
 | .un ..,h,r=>by simp [T.ok] at h
 | .bin ..,h,r=>by simp [T.ok] at h
 | .nil,h,r=>by simp [T.ok] at h
 | .cons ..,h,r=>by simp [T.ok] at h
theorem Ey:∀ (ds:List D),(∀ d ∈ ds,DOk d)->dok (toD ds .nil)
 | [],_=>by rw[show toD [] Fo.nil= .nil from rfl,dok];trivial
 | .var t nm w z::ds,h=>by
  have hz:0≤z/\z≤256:=h _ (List.mem_cons_self ..);rw[show toD (.var t nm w z::ds) .nil= .cons mb nm t.line z .nil [] (toD ds .nil) from rfl,dok];exact⟨hz,λ e=>absurd rfl e,by simp,Ey ds λ d hd=>h d (List.mem_cons_of_mem _ hd)⟩
 | .fn t nm ps s no b::ds,h=>by
  obtain⟨-,hps,hb,hsz⟩:DOk (.fn t nm ps s no b):=h _ (List.mem_cons_self ..);rw[show toD (.fn t nm ps s no b::ds) .nil= .cons da nm t.line 0 (toF b .nil) ps (toD ds .nil) from rfl,dok];have hs:=ok0_cons.toF_sz b .nil;simp only[Fo.sz] at hs;exact⟨⟨by omega,by omega⟩,λ _=>⟨(Td b hb _).1,(Td b hb _).2,abq b (.inl hb) _ Aa,by omega⟩,by omega,Ey ds λ d hd=>h d (List.mem_cons_of_mem _ hd)⟩
theorem bq {α β:Type}{r:R α}{k:α->List Tok->R β} (h:r.bind k= .out):r= .out∨∃ x l,r= .ok x l/\k x l= .out:=by
 cases r with
 | ok x l=>exact .inr ⟨x,l,rfl,h⟩
 | err a e=>cases h
 | out=>exact .inl rfl
theorem dh {β:Type}{s:ByteArray}{l:List Tok}{k:List Tok->R β} (h:want s l k= .out):is s l=true/\k l.tail= .out:=by
 unfold want at h;split at h
 ·rename_i hi;exact⟨hi,h⟩
 ·cases h
theorem ov {β:Type}{l:List Tok}{k:Tok->List Tok->R β} (h:name l k= .out):(now l).k=1/\k (now l) l.tail= .out:=by
 unfold name at h;split at h
 ·cases h
 ·rename_i hk;split at h
  ·cases h
  ·exact⟨Decidable.not_not.1 hk,h⟩
theorem Cw {β:Type}{l:List Tok}{k:Int->List Tok->R β} (h:number l k= .out):(now l).k=2/\∃ v,k v l.tail= .out:=by
 unfold number at h;split at h
 ·cases h
 ·rename_i hk;split at h
  ·cases h
  ·exact⟨Decidable.not_not.1 hk,_,h⟩
def qg:Req->Nat
 | .expr=>3
 | .bin _=>2
 | .loop _ _=>0
 | .un=>1
 | .prim=>0
 | .args=>5
 | .argl=>4
 | .blk=>0
 | .stmts=>2
 | .stmt=>1
theorem Ab {f:Nat}{q:Req}{n:Nat}{l l':List Tok}{x:T} (h:run f q n l= .ok x l') (hq:aeq q) (hb:dg q=0):l'.length<l.length:=by
 have:=(Hu f q n l x l' h hq).2;rw[hb] at this;omega
theorem fuel:∀ (f:Nat) (q:Req) (n:Nat) (l:List Tok),8 * l.length+qg q<f->run f q n l≠ .out:=by
 intro f
 induction f with
 | zero=>intro q n l h;omega
 | succ f ih =>
  intro q n l hf ho;have tl:=λ (l:List Tok)=>kw l
  cases q with
  | expr =>
   simp only[qg] at hf;unfold run at ho;split at ho
   ·cases ho
   ·exact ih _ _ _ (by simp only[qg];omega) ho
  | bin k =>
   simp only[qg] at hf;unfold run at ho;rcases bq ho with h1 | ⟨x,l1,h1,h2⟩
   ·exact ih _ _ _ (by simp only[qg];omega) h1
   ·have:=Ab h1 trivial rfl;exact ih _ _ _ (by simp only[qg];omega) h2
  | loop k u =>
   simp only[qg] at hf;unfold run at ho;split at ho
   ·rename_i hk;have t0:=qu hk.1 (by omega);rcases bq ho with h1 | ⟨x,l1,h1,h2⟩
    ·exact ih _ _ _ (by simp only[qg];omega) h1
    ·have:=Ab h1 trivial rfl;exact ih _ _ _ (by simp only[qg];omega) h2
   ·cases ho
  | un =>
   simp only[qg] at hf;unfold run at ho;split at ho
   ·rename_i h1
    have t0:l.tail.length+1=l.length:=by
     unfold oh at h1;rw[Bool.or_eq_true,Bool.or_eq_true] at h1;rcases h1 with (h1 | h1) | h1 <;> exact aw h1
    split at ho
    ·cases ho
    ·rcases bq ho with h1 | ⟨x,l1,h1,h2⟩
     ·exact ih _ _ _ (by simp only[qg];omega) h1
     ·cases h2
   ·exact ih _ _ _ (by simp only[qg];omega) ho
  | prim =>
   simp only[qg] at hf;unfold run at ho;split at ho
   ·obtain⟨-,v,h1⟩:=Cw ho;cases h1
   ·split at ho
    ·rename_i hk;have t0:=aw hk;rcases bq ho with h1 | ⟨x,l1,h1,h2⟩
     ·exact ih _ _ _ (by simp only[qg];omega) h1
     ·obtain⟨-,h3⟩:=dh h2;cases h3
    ·obtain⟨hk,h1⟩:=ov ho;have t0:=qu hk (by omega);have t1:=tl l.tail;split at h1
     ·rename_i hi;have t2:=aw hi;rcases bq h1 with h1 | ⟨x,l1,h1,h2⟩
      ·exact ih _ _ _ (by simp only[qg];omega) h1
      ·cases h2
     ·split at h1
      ·rename_i hi;have t2:=aw hi;rcases bq h1 with h1 | ⟨x,l1,h1,h2⟩
       ·exact ih _ _ _ (by simp only[qg];omega) h1
       ·obtain⟨-,h3⟩:=dh h2;cases h3
      ·cases h1
  | args =>
   simp only[qg] at hf;unfold run at ho;split at ho
   ·cases ho
   ·exact ih _ _ _ (by simp only[qg];omega) ho
  | argl =>
   simp only[qg] at hf;unfold run at ho;rcases bq ho with h1 | ⟨x,l1,h1,h2⟩
   ·exact ih _ _ _ (by simp only[qg];omega) h1
   ·have:=Ab h1 trivial rfl;have:=tl l1;split at h2
    ·cases h2
    ·obtain⟨-,h3⟩:=dh h2;rcases bq h3 with h4 | ⟨xs,l2,h4,h5⟩
     ·exact ih _ _ _ (by simp only[qg];omega) h4
     ·cases h5
  | blk =>
   simp only[qg] at hf;unfold run at ho;split at ho
   ·cases ho
   ·obtain⟨hi,h1⟩:=dh ho;have t0:=aw hi;rcases bq h1 with h4 | ⟨xs,l2,h4,h5⟩
    ·exact ih _ _ _ (by simp only[qg];omega) h4
    ·cases h5
  | stmts =>
   simp only[qg] at hf;unfold run at ho;split at ho
   ·cases ho
   ·rcases bq ho with h1 | ⟨x,l1,h1,h2⟩
    ·exact ih _ _ _ (by simp only[qg];omega) h1
    ·have:=(zk _ _ _ _ _ _ h1).2 rfl;rcases bq h2 with h4 | ⟨xs,l2,h4,h5⟩
     ·exact ih _ _ _ (by simp only[qg];omega) h4
     ·cases h5
  | stmt =>
   simp only[qg] at hf
   have cl:∀ {l1:List Tok} {K:T->List Tok->R T},l1.length<l.length->(∀ x l,K x l≠ .out)->((run f .expr n l1).bind λ x l=>want cu l λ l=>K x l)= .out->False:=by
    intro l1 K hl hK h;rcases bq h with h1 | ⟨x,l2,h1,h2⟩
    ·exact ih _ _ _ (by simp only[qg];omega) h1
    ·obtain⟨-,h3⟩:=dh h2;exact hK _ _ h3
   unfold run at ho;split at ho
   ·rename_i hk;have t0:=qu hk (by omega);obtain⟨-,h⟩:=ov ho;have t2:=tl l.tail;split at h
    ·rename_i hi;have t3:=aw hi;rcases bq h with h1 | ⟨x,l1,h1,h2⟩
     ·exact ih _ _ _ (by simp only[qg];omega) h1
     ·obtain⟨-,h3⟩:=dh h2;cases h3
    ·split at h
     ·rename_i hi;have t3:=aw hi;rcases bq h with h1 | ⟨x,l1,h1,h2⟩
      ·exact ih _ _ _ (by simp only[qg];omega) h1
      ·have t4:=Ab h1 trivial rfl;obtain⟨-,h3⟩:=dh h2;obtain⟨-,h3⟩:=dh h3;have t5:=tl l1;have t6:=tl l1.tail;exact cl (by omega) (λ _ _ e=>by cases e) h3
     ·obtain⟨-,h3⟩:=dh h;exact cl (by omega) (λ _ _ e=>by cases e) h3
   ·split at ho
    ·rename_i hk;have t0:=aw hk;obtain⟨-,h⟩:=ov ho;obtain⟨-,h3⟩:=dh h;have t2:=tl l.tail;have t3:=tl l.tail.tail;exact cl (by omega) (λ _ _ e=>by cases e) h3
    ·split at ho
     ·rename_i hk;have t0:=aw hk;exact cl (by omega) (λ _ _ e=>by cases e) ho
     ·split at ho
      ·rename_i hk;have t0:=aw hk;exact cl (by omega) (λ _ _ e=>by cases e) ho
      ·split at ho
       ·rename_i hk;have t0:=aw hk;rcases bq ho with h1 | ⟨x,l1,h1,h2⟩
        ·exact ih _ _ _ (by simp only[qg];omega) h1
        ·have:=Ab h1 trivial rfl;rcases bq h2 with h4 | ⟨y,l2,h4,h5⟩
         ·exact ih _ _ _ (by simp only[qg];omega) h4
         ·cases h5
       ·split at ho
        ·rename_i hk;have t0:=aw hk;rcases bq ho with h1 | ⟨x,l1,h1,h2⟩
         ·exact ih _ _ _ (by simp only[qg];omega) h1
         ·have:=Ab h1 trivial rfl;rcases bq h2 with h4 | ⟨y,l2,h4,h5⟩
          ·exact ih _ _ _ (by simp only[qg];omega) h4
          ·have:=Ab h4 trivial rfl;have:=tl l2;split at h5
           ·rcases bq h5 with h6 | ⟨y,l3,h6,h7⟩
            ·exact ih _ _ _ (by simp only[qg];omega) h6
            ·cases h7
           ·cases h5
        ·cases ho
theorem Cy:∀ (k:Nat) (l:List Tok),params.paramL k l≠ .out
 | 0,l,h=>by
  rw[params.paramL] at h;obtain⟨-,h⟩:=ov h;cases h
 | k+1,l,h=>by
  rw[params.paramL] at h;obtain⟨-,h⟩:=ov h;split at h
  ·cases h
  ·obtain⟨-,h⟩:=dh h;rcases bq h with h1 | ⟨x,l1,h1,h2⟩
   ·exact Cy k _ h1
   ·cases h2
theorem Te {f:Nat}{l:List Tok} (hf:8 * l.length<f):zj f l≠ .out:=by
 intro h;have tl:=λ (l:List Tok)=>kw l;unfold zj at h;split at h
 ·obtain⟨-,h⟩:=ov h;split at h
  ·obtain⟨-,v,h⟩:=Cw h;split at h
   ·cases h
   ·obtain⟨-,h⟩:=dh h;obtain⟨-,h⟩:=dh h;cases h
  ·obtain⟨-,h⟩:=dh h;cases h
 ·obtain⟨-,h⟩:=dh h;obtain⟨-,h⟩:=ov h;obtain⟨-,h⟩:=dh h;rcases bq h with h1 | ⟨ps,l1,h1,h2⟩
  ·have h1:(if is cRP l.tail.tail.tail then R.ok [] l.tail.tail.tail.tail else params.paramL 6 l.tail.tail.tail)=R.out:=h1;split at h1
   ·cases h1
   ·exact Cy _ _ h1
  ·have a1:=(xg h1).2;have a2:=tl l;have a3:=tl l.tail;have a4:=tl l.tail.tail;rcases bq h2 with h3 | ⟨b,l2,h3,h4⟩
   ·exact fuel f .blk 0 l1 (by simp only[qg];omega) h3
   ·cases h4
theorem we {f:Nat}:∀ (g:Nat) (l:List Tok),l.length<g->l.length≤8001->8 * 8001<f->decls f g l≠ .out
 | 0,l,h,_,_=>by omega
 | g+1,l,h,h2,hf=>by
  intro ho;unfold decls at ho;split at ho
  ·cases ho
  ·rcases bq ho with h1 | ⟨d,l1,h1,h3⟩
   ·exact Te (by omega) h1
   ·have:=(rr h2 h1).2;rcases bq h3 with h4 | ⟨ds,l2,h4,h5⟩
    ·exact we g l1 (by omega) (by omega) hf h4
    ·cases h5
theorem ow {f:Nat}:∀ (g:Nat) (l l':List Tok) (ds:List D),decls f g l= .ok ds l'->l.length≤8001->(∀ d ∈ ds,DOk d)/\ds.length≤l.length
 | 0,l,l',ds,h,_=>by cases h
 | g+1,l,l',ds,h,h2=>by
  unfold decls at h;split at h
  ·cases h;exact⟨(λ d hd=>by cases hd),Nat.zero_le _⟩
  ·obtain⟨d,l1,h1,h3⟩:=bind_ok h;obtain⟨a,b⟩:=rr h2 h1;obtain⟨ds',l2,h4,h5⟩:=bind_ok h3;cases h5;obtain⟨c,e⟩:=ow g l1 _ ds' h4 (by omega);refine⟨λ x hx=>?_,by simp only[List.length_cons];omega⟩;rcases List.mem_cons.1 hx with rfl | hx
   ·exact a
   ·exact c x hx
end Go.Lang
