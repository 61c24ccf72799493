/- Declarations are compared; the environment that they make. No condition. -/
import Derived.Test.YtojogkljneonmaaGreatDoorLangZe
import Derived.LaidEql
import Derived.Test.YtojogkljneonmaaGreatDoorLangVd
import Derived.Test.YtojogkljneonmaaGreatDoorLangC
set_option linter.unusedVariables false
set_option linter.unusedSimpArgs false
namespace Go.Proofs.YtojogkljneonmaaGreatDoor
open Go Go.Proofs.Tryz Go.Proofs Go.Sep Go.XHeap Go.RowKit Go.Lang
theorem ux:prog.underlying 20=some (.interface #[]):=by kernel_rfl
theorem Na:prog.underlying 125=some (.pointer 127):=by kernel_rfl
theorem Ic:prog.underlying 63=some (.pointer 115):=by kernel_rfl
theorem Tk:∃ i,prog.info? 125=some i/\i.comparable=true:=by
 have:(prog.info? 125).map (·.comparable)=some true:=by kernel_rfl
 obtain⟨i,h,e⟩:=Option.map_eq_some_iff.1 this;exact⟨i,h,e⟩
theorem Pe:∃ i,prog.info? 63=some i/\i.comparable=true:=by
 have:(prog.info? 63).map (·.comparable)=some true:=by kernel_rfl
 obtain⟨i,h,e⟩:=Option.map_eq_some_iff.1 this;exact⟨i,h,e⟩
theorem Xy:∃ j,prog.info? 127=some j/\j.size≠0:=by
 have:(prog.info? 127).map (λ j=>Nat.beq j.size 0)=some false:=by kernel_rfl
 obtain⟨i,h,e⟩:=Option.map_eq_some_iff.1 this;exact⟨i,h,λ e'=>by rw[e'] at e;cases e⟩
theorem Tl:∃ j,prog.info? 115=some j/\j.size≠0:=by
 have:(prog.info? 115).map (λ j=>Nat.beq j.size 0)=some false:=by kernel_rfl
 obtain⟨i,h,e⟩:=Option.map_eq_some_iff.1 this;exact⟨i,h,λ e'=>by rw[e'] at e;cases e⟩
theorem Nb {w:World}{tx ty:TypeId}{vx vy:Value}{b:Bool}{x y:Operand} (h:(Op.equalIn 10000 20 (.iface tx vx) (.iface ty vy)).run prog w= .ok b w):(Sx.binOpS .neq 20 x y (.iface tx vx) (.iface ty vy)).run prog w= .ok (.bool (!b)) w:=by
 unfold Sx.binOpS;rw[Sem.run_bind]
 have h0:(eqGuard .neq 20 x y (.iface tx vx) (.iface ty vy)).run prog w= .ok () w:=by
  simp [eqGuard]
 rw[h0];simp only[binOp];simp [Op.equal,Op.maxDepth,h]
theorem Tm [Inhabited G3o]{w w':World}{a b:Gd}{x y:Operand} (ha:(hdA a).at_ w) (hb:(hdA b).at_ w) (hk:Sx.Keeps w w'):(Sx.binOpS .neq 20 x y (qc a) (qc b)).run prog w'= .ok (.bool (!(decide (nl a=nl b)))) w':=by
 have cl:∀ {k:Nat} {cs:Array Value} {t:TypeId},Blk w k cs t->w'.heap[k]?=some (.cells cs t (0,0)):=λ h=>hk.2.2.2 _ _ h
 cases a with
 | var k t nm u z =>
  have ha':=cl (show Blk w k (Qf t nm u z).toArray 127 from ha)
  cases b with
  | var k2 t2 nm2 u2 z2 =>
   have hb':=cl (show Blk w k2 (Qf t2 nm2 u2 z2).toArray 127 from hb);obtain⟨i,h1,h2⟩:=Tk;obtain⟨j,h3,h4⟩:=Xy;refine Nb ?_;by_cases e:k=k2
   ·subst e;rw[show decide (nl (.var k t nm u z)=nl (.var k t2 nm2 u2 z2))=true from decide_eq_true rfl];exact run_equalIn_iface_ptr_same w' 9998 ⟨k,0,none⟩ ux Na h1 h2 h3
   ·rw[show decide (nl (.var k t nm u z)=nl (.var k2 t2 nm2 u2 z2))=false from decide_eq_false e];exact run_equalIn_iface_ptr_other w' 9998 (a:=⟨k,0,none⟩) (b:=⟨k2,0,none⟩) ux Na h1 h2 h3 h4 (λ e'=>e (congrArg Addr.block e')) ha' hb'
  | fn h2 s2 =>
   have hb':=cl (show Blk w h2.k (fnC h2.t h2.nm (.slice h2.p h2.np h2.c) (pt h2.kb) s2 h2.no).toArray 115 from hb)
   have e:¬ k=h2.k:=λ e=>by
    rw[e] at ha';injection Option.some.inj (ha'.symm.trans hb') with _ h _;exact absurd h (by decide)
   rw[show decide (nl (.var k t nm u z)=nl (.fn h2 s2))=false from decide_eq_false e];refine Nb ?_;show Eq _ _;kernel_rfl
 | fn h1 s1 =>
  have ha':=cl (show Blk w h1.k (fnC h1.t h1.nm (.slice h1.p h1.np h1.c) (pt h1.kb) s1 h1.no).toArray 115 from ha)
  cases b with
  | var k2 t2 nm2 u2 z2 =>
   have hb':=cl (show Blk w k2 (Qf t2 nm2 u2 z2).toArray 127 from hb)
   have e:¬ h1.k=k2:=λ e=>by
    rw[e] at ha';injection Option.some.inj (ha'.symm.trans hb') with _ h _;exact absurd h (by decide)
   rw[show decide (nl (.fn h1 s1)=nl (.var k2 t2 nm2 u2 z2))=false from decide_eq_false e];refine Nb ?_;show Eq _ _;kernel_rfl
  | fn h2 s2 =>
   have hb':=cl (show Blk w h2.k (fnC h2.t h2.nm (.slice h2.p h2.np h2.c) (pt h2.kb) s2 h2.no).toArray 115 from hb);obtain⟨i,g1,g2⟩:=Pe;obtain⟨j,g3,g4⟩:=Tl;refine Nb ?_;by_cases e:h1.k=h2.k
   ·rw[show decide (nl (.fn h1 s1)=nl (.fn h2 s2))=true from decide_eq_true e,e];exact run_equalIn_iface_ptr_same w' 9998 ⟨h2.k,0,none⟩ ux Ic g1 g2 g3
   ·rw[show decide (nl (.fn h1 s1)=nl (.fn h2 s2))=false from decide_eq_false e];exact run_equalIn_iface_ptr_other w' 9998 (a:=⟨h1.k,0,none⟩) (b:=⟨h2.k,0,none⟩) ux Ic g1 g2 g3 g4 (λ e'=>e (congrArg Addr.block e')) ha' hb'
def gz:Gd->Gd
 | .var k t nm w z=>.var k t nm w z
 | .fn h _=>.fn h 0
def av:List Dm->Nat->Nat->List Dm
 | [],_,_=>[]
 | m::r,tot,no=>match m.g with
  | .var k t n _ z=>{ m with g:=.var k t n (tot:Int) z }::av r (tot+max 1 z.toNat) no
  | .fn h s=>{ m with g:=.fn { h with no:=(no:Int) } s }::av r tot (no+1)
theorem Fe:∀ (ms:List Dm) (t n:Nat),(av ms t n).map Dm.g=md (ms.map Dm.g) t n
 | [],_,_=>rfl
 | ⟨.var k tt nm w z,ps,bd,B⟩::r,t,n=>by simp [av,md,Fe r]
 | ⟨.fn h s,ps,bd,B⟩::r,t,n=>by simp [av,md,Fe r]
theorem Ff:∀ (ms:List Dm) (t n:Nat),(av ms t n).map Dm.d=count (ms.map Dm.d) t n
 | [],_,_=>rfl
 | ⟨.var k tt nm w z,ps,bd,B⟩::r,t,n=>by simp [av,count,Ff r,Dm.d]
 | ⟨.fn h s,ps,bd,B⟩::r,t,n=>by simp [av,count,Ff r,Dm.d]
theorem uy:∀ (ms:List Dm) (t n:Nat),(av ms t n).map rsA=ms.map rsA
 | [],_,_=>rfl
 | ⟨.var k tt nm w z,ps,bd,B⟩::r,t,n=>by simp [av,uy r,rsA]
 | ⟨.fn h s,ps,bd,B⟩::r,t,n=>by simp [av,uy r,rsA]
theorem Ag:∀ (ms:List Dm) (t n:Nat),(∀ m ∈ ms,m.Ok)->∀ m ∈ av ms t n,m.Ok
 | [],_,_,_,m,hm=>by cases hm
 | ⟨.var k tt nm w z,ps,bd,B⟩::r,t,n,h,m,hm=>by
  rcases List.mem_cons.1 hm with rfl | hm
  ·exact h ⟨.var k tt nm w z,ps,bd,B⟩ (List.mem_cons_self ..)
  ·exact Ag r _ _ (λ m hm=>h m (List.mem_cons_of_mem _ hm)) m hm
 | ⟨.fn hh s,ps,bd,B⟩::r,t,n,h,m,hm=>by
  rcases List.mem_cons.1 hm with rfl | hm
  ·exact h ⟨.fn hh s,ps,bd,B⟩ (List.mem_cons_self ..)
  ·exact Ag r _ _ (λ m hm=>h m (List.mem_cons_of_mem _ hm)) m hm
theorem th:∀ (ms:List Dm) (t n:Nat),(av ms t n).map (λ m=>qc m.g)=ms.map λ m=>qc m.g
 | [],_,_=>rfl
 | ⟨.var k tt nm w z,ps,bd,B⟩::r,t,n=>by
  simp only[av,List.map_cons,th r];rfl
 | ⟨.fn h s,ps,bd,B⟩::r,t,n=>by
  simp only[av,List.map_cons,th r];rfl
def xu (ns:List Dm) (i:Nat):Nat:=((ns[i]?).map λ m=>nl m.g).getD 0
theorem find_idx {α:Type} (p:α->Bool):∀ (L:List α),(L.findIdx? p=none/\L.find? p=none)∨∃ i a,L.findIdx? p=some i/\L[i]?=some a/\p a=true/\L.find? p=some a/\∀ j b,j<i->L[j]?=some b->p b=false
 | []=>.inl ⟨rfl,rfl⟩
 | x::L=>by
  cases hx:p x with
  | true=>exact .inr ⟨0,x,by simp [List.findIdx?_cons,hx],rfl,hx,by simp [hx],λ j b hj=>by omega⟩
  | false =>
   rcases find_idx p L with ⟨h1,h2⟩ | ⟨i,a,h1,h2,h3,h4,h5⟩
   ·exact .inl ⟨by simp [List.findIdx?_cons,hx,h1],by simp [hx,h2]⟩
   ·refine .inr ⟨i+1,a,by simp [List.findIdx?_cons,hx,h1],by simpa using h2,h3,by simp [hx,h4],λ j b hj hb=>?_⟩
    cases j with
    | zero=>simp at hb;subst hb;exact hx
    | succ j=>exact h5 j b (by omega) (by simpa using hb)
theorem Id [Inhabited G3o] (ns:List Dm) (s:ByteArray):de (ns.map Dm.d) s=(ns.map Dm.g).findIdx? λ g=>decide (gnm g=s):=by
 unfold de;rw[List.findIdx?_map,List.findIdx?_map];congr 1;funext m;simp [Function.comp,aep]
theorem aev [Inhabited G3o] (ns:List Dm) (G:List Gd) (hG:G.map gz=(ns.map Dm.g).map gz) (hok:∀ m ∈ ns,m.Ok) (s:ByteArray):ajl (mapOf (ns.map Dm.g)) G s (rq (xu ns) (ns.map Dm.d) s):=by
 unfold rq;rw[Id];rcases find_idx (λ g=>decide (gnm g=s)) (ns.map Dm.g) with ⟨h1,h2⟩ | ⟨i,g,h1,h2,h3,h4, -⟩
 ·rw[h1];show mapOf _ _=none;unfold mapOf;rw[h2];rfl
 ·rw[h1]
  obtain⟨m,hm,rfl⟩:∃ m,ns[i]?=some m/\m.g=g:=by
   rw[List.getElem?_map] at h2;exact Option.map_eq_some_iff.1 h2
  have hmem:m ∈ ns:=List.mem_of_getElem? hm
  have hI:mapOf (ns.map Dm.g) s=some (qc m.g):=by unfold mapOf;rw[h4];rfl
  have hGi:(G[i]?).map gz=some (gz m.g):=by
   rw[<- List.getElem?_map,hG,List.getElem?_map,List.getElem?_map,hm];rfl
  obtain⟨g',hg',hgz⟩:=Option.map_eq_some_iff.1 hGi
  have had:xu ns i=nl m.g:=by unfold xu;rw[hm];rfl
  have hmo:=hok m hmem;rw[Option.bind_some,List.getElem?_map,hm,Option.map_some,Option.map_some,had];obtain⟨mg,ps,bd,B⟩:=m
  cases mg with
  | var k t nm w z =>
   refine⟨i,k,t,nm,hI,?_⟩;rw[hg']
   cases g' with
   | var=>exact congrArg some hgz
   | fn=>cases hgz
  | fn h sl =>
   cases g' with
   | var=>cases hgz
   | fn h' sl' =>
    have:h'=h:=by
     have hgz:Gd.fn h' 0=Gd.fn h 0:=hgz;cases hgz;rfl
    subst this;exact⟨i,h',sl',hI,hg',rfl,hmo.1⟩
variable {W:World}
theorem Ie {b:Bool} (h:(!b)=true):b=false:=by cases b;rfl;cases h
theorem Da {b:Bool} (h:(!b)=false):b=true:=by cases b;cases h;rfl
theorem Fg:∀ (ms:List Dm) (t n:Nat),(∀ m ∈ ms,m.Ok)->∀ m ∈ av ms t n,match m.g with
  | .var _ _ _ w _=>0≤w/\w≤(t:Int)+256 * ms.length
  | .fn ..=>True
 | [],_,_,_,m,hm=>by cases hm
 | ⟨.var k tt nm w z,ps,bd,B⟩::r,t,n,h,m,hm=>by
  have hz:0≤z/\z≤256:=h ⟨.var k tt nm w z,ps,bd,B⟩ (List.mem_cons_self ..);rcases List.mem_cons.1 hm with rfl | hm
  ·show 0≤(t:Int)/\(t:Int)≤_;simp only[List.length_cons];omega
  ·have:=Fg r _ _ (λ m hm=>h m (List.mem_cons_of_mem _ hm)) m hm;split
   ·rename_i he;rw[he] at this;simp only[List.length_cons] at this ⊢;omega
   ·trivial
 | ⟨.fn hh s,ps,bd,B⟩::r,t,n,h,m,hm=>by
  rcases List.mem_cons.1 hm with rfl | hm
  ·trivial
  ·have:=Fg r _ _ (λ m hm=>h m (List.mem_cons_of_mem _ hm)) m hm;split
   ·rename_i he;rw[he] at this;simp only[List.length_cons] at this ⊢;omega
   ·trivial
def Dm.New (m:Dm):Prop:=match m.g with
 | .var ..=>True
 | .fn _ s=>s=0
theorem wg:∀ (ms:List Dm) (t n:Nat),(∀ m ∈ ms,m.New)->∀ m ∈ av ms t n,m.New
 | [],_,_,_,m,hm=>by cases hm
 | ⟨.var k tt nm w z,ps,bd,B⟩::r,t,n,h,m,hm=>by
  rcases List.mem_cons.1 hm with rfl | hm
  ·trivial
  ·exact wg r _ _ (λ m hm=>h m (List.mem_cons_of_mem _ hm)) m hm
 | ⟨.fn hh s,ps,bd,B⟩::r,t,n,h,m,hm=>by
  rcases List.mem_cons.1 hm with rfl | hm
  ·exact h ⟨.fn hh s,ps,bd,B⟩ (List.mem_cons_self ..)
  ·exact wg r _ _ (λ m hm=>h m (List.mem_cons_of_mem _ hm)) m hm
theorem Pf [Inhabited G3o]:∀ (ms:List Dm) (t n:Nat),(av ms t n).length=ms.length:=λ ms t n=>by
 have:=congrArg List.length (uy ms t n);simpa using this
def Dm.Fit (m:Dm):Prop:=match m.g with
 | .var ..=>True
 | .fn h _=>h.np=m.ps.length/\isP m.bd [.iface 113 (pt h.kb)] m.B
def aby (kp km:Nat) (pf:Option Addr) (cf:Nat) (pd:Option Addr) (cd:Nat) (mn:Value) (tot:Int) (ns cur:List Dm):List Asn :=
 [blk kp #[.slice pf (cr (ns.map Dm.g)).length cf,mn,.int .i64 tot,.slice pd ns.length cd] 66,sl 20 1 (.slice pd ns.length cd) ns.length (ns.map λ m=>qc m.g),mpS km (mapOf (ns.map Dm.g)),sl 63 1 (.slice pf (cr (ns.map Dm.g)).length cf) (cr (ns.map Dm.g)).length (cr (ns.map Dm.g)),all ((cur.map Dm.g).map hdA),all (cur.map rsA)]
def Two (W:World) (A0:Asn) (kp km:Nat) (pf:Option Addr) (cf:Nat) (pd:Option Addr) (cd:Nat) (tot:Int) (ns:List Dm) (F:List D->C (List D×Nat)) (R0:C (List D×Nat)) (x:Int) (w:World):Prop :=
 ∃ (pre todo cur:List Dm),x=pre.length/\ns=pre++todo/\cur.length=pre.length/\(cur.map Dm.g).map gz=(pre.map Dm.g).map gz/\(∀ m ∈ cur,m.Fit)/\St W A0.own w (aby kp km pf cf pd cd (.pointer none) tot ns (cur++todo))/\R0=(jp (rq (xu ns) (ns.map Dm.d)) (ns.map Dm.d) pre.length (todo.map Dm.d)).bind λ r=>F (cur.map Dm.d++r)
theorem Tn {a b:Gd} (h:gz a=gz b):qc a=qc b/\nl a=nl b:=by
 cases a with
 | var k t nm w z =>
  cases b with
  | var=>cases h;exact⟨rfl,rfl⟩
  | fn=>cases h
 | fn h1 s1 =>
  cases b with
  | var=>cases h
  | fn h2 s2 =>
   have h:Gd.fn h1 0=Gd.fn h2 0:=h
   have:h1=h2:=by injection h
   subst this;exact⟨rfl,rfl⟩
theorem aew [Inhabited G3o]{w:World}{ns cur:List Dm}{i:Nat}{b:Gd} (hG:(cur.map Dm.g).map gz=(ns.map Dm.g).map gz) (h:here ((cur.map Dm.g).map hdA) w) (hb:(cur.map Dm.g)[i]?=some b) (hbn:(ns.map Dm.g)[i]?=some b) :
  ∃ a,(mapOf (ns.map Dm.g) (gnm b)).getD .nilIface=qc a/\(hdA a).at_ w/\(hdA b).at_ w/\(!(decide (nl a=nl b)))=decide (de (ns.map Dm.d) (gnm b)≠some i):=by
 rw[Id];rcases find_idx (λ g=>decide (gnm g=gnm b)) (ns.map Dm.g) with ⟨h1,h2⟩ | ⟨i0,g,h1,h2,h3,h4,h5⟩
 ·exfalso;have:=List.find?_eq_none.1 h2 b (List.mem_of_getElem? hbn);simp at this
 ·have hI:mapOf (ns.map Dm.g) (gnm b)=some (qc g):=by unfold mapOf;rw[h4];rfl
  have hGi:((cur.map Dm.g)[i0]?).map gz=some (gz g):=by
   rw[<- List.getElem?_map,hG,List.getElem?_map,h2];rfl
  obtain⟨g',hg',hgz⟩:=Option.map_eq_some_iff.1 hGi;obtain⟨e1,e2⟩:=Tn hgz;refine⟨g',by rw[hI,e1];rfl,px h hg',px h hb,?_⟩;rw[h1];by_cases e:i0=i
  ·subst e;rw[hb] at hg';cases hg';simp
  ·have hne:nl g'≠nl b:=by
    intro ek
    have own:∀ g:Gd,(hdA g).own (nl g):=by intro g;cases g <;> rfl
    exact St.disj h i0 i e (by rw[List.getElem?_map,hg'];rfl) (by rw[List.getElem?_map,hb];rfl) (nl g') (own g') (by rw[ek];exact own b)
   rw[decide_eq_false hne];exact(decide_eq_true (show some i0≠some i from λ e'=>e (Option.some.inj e'))).symm
theorem sizes_ok {ns:List Dm} (hok:∀ m ∈ ns,m.Ok):zu (rq (xu ns) (ns.map Dm.d)):=by
 intro s w z h;unfold rq at h;obtain⟨i, -,h⟩:=Option.bind_eq_some_iff.1 h;rw[List.getElem?_map] at h;obtain⟨d,hd,h⟩:=Option.map_eq_some_iff.1 h;obtain⟨m,hm,rfl⟩:=Option.map_eq_some_iff.1 hd;have:=hok m (List.mem_of_getElem? hm);obtain⟨mg,ps,bd,B⟩:=m
 cases mg with
 | var=>cases h;exact this
 | fn=>cases h
variable {W:World}
theorem Tp {α:Type}:∀ {L:List α}{i:Nat}{a:α},L[i]?=some a->L.set i a=L
 | [],i,a,h=>by simp at h
 | x::L,0,a,h=>by simp at h;subst h;rfl
 | x::L,i+1,a,h=>by
  have h:L[i]?=some a:=by simpa using h
  simp [Tp h]
def mkX (ks kp km:Nat) (I:ByteArray->Option Value) (G:List Gd) (j:Nat) (h:Fh):Cx:=⟨ks,kp,km,I,G,j,h⟩
def ady (kp km:Nat) (pf:Option Addr) (cf:Nat) (pd:Option Addr) (cd:Nat) (mn:Value) (tot:Int) (ns cur:List Dm):List Asn:=aby kp km pf cf pd cd mn tot ns cur
def aaa (lk:Lk) (l:List D):C (List D×Nat):=match lk ef with
 | some (.fn k np)=>if 0<np then .err 0 9 else .ok (l,k)
 | _=>.err 0 9
def ajn (kp:Nat) (pd:Option Addr) (cd:Nat) (ms:List Dm) (A0:Asn) (W:World) (q:List D×Nat) (e:Ending) (w':World):Prop :=
 e= .returned (.tuple #[])/\∃ (cur:List Dm) (km:Nat) (pf:Option Addr) (cf tot:Nat),cur.map Dm.d=q.1/\(cur.map Dm.g).map gz=((av ms 0 0).map Dm.g).map gz/\(∀ m ∈ cur,m.Fit)/\tot=Bn ((av ms 0 0).map Dm.g)/\Post A0 W (all (ady kp km pf cf pd cd (pt q.2) (tot:Int) (av ms 0 0) cur)) w'
theorem Tq [Inhabited G3o]{kp:Nat}{pd:Option Addr}{cd:Nat}{ms:List Dm} (hms:ms.length≤8001) (hok:∀ m ∈ ms,m.Ok) (hnew:∀ m ∈ ms,m.New) (h:(all (Fc kp pd cd ms)).at_ W) :
  Calls prog 27 #[pt kp] W (Wc (all (Fc kp pd cd ms)) W (check (xu (av ms 0 0)) (ms.map Dm.d)) (ajn kp pd cd ms (all (Fc kp pd cd ms)) W)):=by
 refine akn kp 0 ?_
 have H:St W (all (Fc kp pd cd ms)).own W (Fc kp pd cd ms):=by
  have:=St.open_ (L':=[]) (St.begin h);rwa [List.append_nil] at this
 refine ama H λ km w2 H2=>?_;refine⟨_,_,_,H2.ld 0 rfl (i:=3) rfl,?_⟩;refine⟨One W (all (Fc kp pd cd ms)) kp km pd cd ms,λ x _ _=>((ms.length:Int) - x).toNat,?_,λ _ x tot w hI=>?_⟩
 ·have H3:=H2.add (A:=sl 63 1 (.slice none 0 0) 0 []) ⟨Sl.nil _ _ _,XTouch.refl _ _,λ q hq=>by cases hq⟩;refine⟨[],ms.map Dm.g,0,none,0,rfl,rfl,by simp,by simp [Function.comp],rfl,⟨by simp,rfl⟩,λ g hg=>?_,H3.pick [0,1,4,5,2,3]⟩;obtain⟨m,hm,rfl⟩:=List.mem_map.1 hg;have:=hok m hm;unfold Dm.Ok at this;unfold gOk;split
  ·rename_i he;rw[he] at this;exact this
  ·trivial
 obtain⟨done,todo,t,pf,cf,rfl,rfl,h1,h2,h3,h4,h5,H3⟩:=hI;have hw:IntKind.wrap .i64 ((done.length:Nat)+1:Int)=((done.length+1:Nat):Int):=We (b:=1) (by omega);refine Sx.so (λ hlt=>?_) (λ hge=>?_)
 ·have hlt:=dt hlt
  cases todo with
  | nil=>simp at h1;omega
  | cons g todo =>
  refine⟨⟨by omega,by omega⟩,?_⟩;refine mc (H3.nth 1 rfl) (i:=done.length) (v:=qc g) (by rw[<- h2,List.map_append,List.map_cons];have:=lj (done.map qc) (qc g) (todo.map qc);rw[List.length_map] at this;exact this) λ gg oo hc=>?_;rw[ix1];refine⟨_,hc,?_⟩
  have hms':((ms.length:Int) - ((done.length+1:Nat):Int)).toNat<((ms.length:Int) - ((done.length:Nat):Int)).toNat:=by omega
  cases g with
  | var k tk nm w0 z =>
   have hz:=h5 _ (List.mem_cons_self ..);simp only[gOk] at hz;refine bi ⟨_,rfl,?_⟩;have hb:Blk w k (Qf tk nm w0 z).toArray 127:=px (H3.nth 4 rfl) (lj done _ todo);refine ptr_some ⟨⟨_,hb.cell' (i:=4) rfl⟩,hb.frozen 4,?_⟩;rintro w4 rfl;have H4:=H3.upd 4 rfl (Zw (g:=.var k tk nm w0 z) (g':=.var k tk nm (t:Int) z) (c:=4) (v:=.int .i64 (t:Int)) (H3.nth 4 rfl) (lj done _ todo) rfl rfl);rw[Ae] at H4;have hb4:Blk _ k (Qf tk nm (t:Int) z).toArray 127:=px (H4.nth 4 rfl) (lj done _ todo);refine ptr_some ⟨_,hb4.cell' (i:=5) rfl,?_⟩;rintro z2 rfl
   rw[show IntKind.wrap .i64 ((t:Int)+if z > 1 then z else 1)=((t+max 1 z.toNat:Nat):Int) by
    rw[show((t:Int)+if z > 1 then z else 1)=((t+max 1 z.toNat:Nat):Int) by split <;> omega]
    exact Go.Bits.n64 (by omega)]
   refine ptr_some ⟨nm,hb4.cell' (i:=3) rfl,_,H4.nth 2 rfl,_,rfl,?_⟩;refine Sx.so (λ hs=>?_) (λ hs=>?_)
   ·have hs:(mapOf done (gnm (.var k tk nm (t:Int) z))).isSome=false:=Ie hs;refine ptr_some ⟨nm,hb4.cell' (i:=3) rfl,_,H4.nth 2 rfl,λ w5 hm ht=>?_⟩;have H5:=H4.upd 2 rfl (A':=mpS km (mapOf (done++[.var k tk nm (t:Int) z]))) ⟨by rw[Hz hs];exact hm,ht,λ q hq=>.inl hq⟩;rintro z3 rfl;rw[hw]
    have e:cr (done++[Gd.var k tk nm (t:Int) z])=cr done:=by rw[ff];simp [cr]
    exact⟨Hy hms h1 h2 h3 h4 h5 (by unfold abx;rw[e];exact H5),hms'⟩
   ·have hs:(mapOf done (gnm (.var k tk nm (t:Int) z))).isSome=true:=Da hs;rintro z3 rfl;rw[hw]
    have e:cr (done++[Gd.var k tk nm (t:Int) z])=cr done:=by rw[ff];simp [cr]
    exact⟨Hy hms h1 h2 h3 h4 h5 (by unfold abx;rw[e,Af hs];exact H4),hms'⟩
  | fn hd s =>
   refine ag (by decide) (bi ⟨_,rfl,?_⟩);have hfl:=Fd done;simp only[List.length_cons] at h1;have hb:Blk w hd.k (fnC hd.t hd.nm (.slice hd.p hd.np hd.c) (pt hd.kb) s hd.no).toArray 115:=px (H3.nth 4 rfl) (lj done _ todo);refine⟨_,_,_,H3.ld 0 rfl (i:=0) rfl,ptr_some ⟨⟨_,hb.cell' (i:=7) rfl⟩,hb.frozen 7,?_⟩⟩;rintro w4 rfl;have H4:=H3.upd 4 rfl (Zw (g:=.fn hd s) (g':=.fn { hd with no:=((cr done).length:Int) } s) (c:=7) (v:=.int .i64 ((cr done).length:Int)) (H3.nth 4 rfl) (lj done _ todo) rfl rfl);rw[Ae] at H4;refine⟨_,_,_,H4.ld 0 rfl (i:=0) rfl,?_⟩;refine H4.al λ ka w5 H5=>?_;refine H5.app 3 rfl [pt hd.k] (.inr ⟨_,rfl,λ j u hj=>?_⟩) rfl (by simp;rfl) (by show(cr done).length+1≤maxLen;unfold maxLen;omega) (by omega) λ p' c' w6 H6=>?_
   ·match j,hj with
    | 0,hj=>cases hj;exact H5.ld 6 rfl (i:=0) rfl
   refine H6.st 0 rfl (i:=0) (by simp) λ w7 H7=>?_;have hb7:Blk w7 hd.k (fnC hd.t hd.nm (.slice hd.p hd.np hd.c) (pt hd.kb) s ((cr done).length:Int)).toArray 115:=px (H7.nth 4 rfl) (lj done (Gd.fn { hd with no:=((cr done).length:Int) } s) todo);refine ptr_some ⟨hd.nm,hb7.cell' (i:=3) rfl,_,H7.nth 2 rfl,_,rfl,?_⟩
   have e:cr (done++[Gd.fn { hd with no:=((cr done).length:Int) } s])=cr done++[pt hd.k]:=by rw[ff];simp [cr]
   have e2:(cr done++[pt hd.k]).length=(cr done).length+1:=by simp
   refine Sx.so (λ hs=>?_) (λ hs=>?_)
   ·have hs:(mapOf done (gnm (.fn { hd with no:=((cr done).length:Int) } s))).isSome=false:=Ie hs;refine ptr_some ⟨hd.nm,hb7.cell' (i:=3) rfl,_,H7.nth 2 rfl,λ w8 hm ht=>?_⟩;have H8:=H7.upd 2 rfl (A':=mpS km (mapOf (done++[.fn { hd with no:=((cr done).length:Int) } s]))) ⟨by rw[Hz hs];exact hm,ht,λ q hq=>.inl hq⟩;rintro z3 rfl;rw[hw];exact⟨Cz (pf:=p') (cf:=c') hms (by simp only[List.length_cons];omega) h2 h3 h4 h5 (by unfold abx;rw[e,e2];exact H8.take 6),hms'⟩
   ·have hs:(mapOf done (gnm (.fn { hd with no:=((cr done).length:Int) } s))).isSome=true:=Da hs;rintro z3 rfl;rw[hw];exact⟨Cz (pf:=p') (cf:=c') hms (by simp only[List.length_cons];omega) h2 h3 h4 h5 (by unfold abx;rw[e,e2,Af hs];exact H7.take 6),hms'⟩
 ·have hge:=df hge;have:todo=[]:=List.eq_nil_of_length_eq_zero (by omega);subst this;simp only[md,List.append_nil] at h3 H3 h2;rw[<- Fe] at h3;subst h3;have hns:=Pf ms 0 0;have hnok:=Ag ms 0 0 hok;have hnnew:=wg ms 0 0 hnew;have hnw:=Fg ms 0 0 hok;rw[List.length_map] at h1 h4;have ht:=h4.2;replace h4:=h4.1;generalize hR0:check (xu (av ms 0 0)) (ms.map Dm.d)=R0
  have hR0:R0=(jp (rq (xu (av ms 0 0)) ((av ms 0 0).map Dm.d)) ((av ms 0 0).map Dm.d) 0 ((av ms 0 0).map Dm.d)).bind (aaa (rq (xu (av ms 0 0)) ((av ms 0 0).map Dm.d))):=by
   rw[<- hR0,Ff];rfl
  have H3:St W (all (Fc kp pd cd ms)).own w (aby kp km pf cf pd cd (.pointer none) 0 (av ms 0 0) (av ms 0 0)):=by
   unfold aby;rw[hns,th,uy];exact H3
  unfold ajn;generalize hgns:av ms 0 0=ns at *;refine H3.st 0 rfl (i:=2) (by simp) λ w4 H4=>?_;have H4:St W (all (Fc kp pd cd ms)).own w4 (aby kp km pf cf pd cd (.pointer none) (t:Int) ns ns):=H4;refine⟨_,_,_,H4.ld 0 rfl (i:=3) rfl,?_⟩;have hZ:=sizes_ok hnok;have henv:=λ G hG s=>aev ns G hG hnok s;generalize hlk:rq (xu ns) (ns.map Dm.d)=lk at *
  have hrest:∀ {pre todo cur:List Dm},ns=pre++todo->(cur.map Dm.g).map gz=(pre.map Dm.g).map gz->((cur++todo).map Dm.g).map gz=(ns.map Dm.g).map gz:=by
   intro pre todo cur e1 e2;rw[e1,List.map_append,List.map_append,e2,<- List.map_append,<- List.map_append]
  refine⟨Two W (all (Fc kp pd cd ms)) kp km pf cf pd cd (t:Int) ns (aaa lk) R0,λ x _=>((ns.length:Int) - x).toNat,⟨[],ns,[],rfl,rfl,rfl,rfl,(λ m hm=>by cases hm),H4,by rw[hlk];exact hR0⟩,λ _ x w6 hI=>?_⟩;obtain⟨pre,todo,cur,rfl,hpre,hcl,hgz,hfit,H6,hR⟩:=hI;rw[hlk] at hR
  have hlen:ns.length=pre.length+todo.length:=by rw[hpre,List.length_append]
  have hG:=hrest hpre hgz;refine Sx.so (λ hlt=>?_) (λ hge=>?_)
  ·have hlt:=dt hlt
   cases todo with
   | nil=>simp at hlen;omega
   | cons m todo =>
   have hmem:m ∈ ns:=by rw[hpre];simp
   have hmok:=hnok m hmem;have hmnew:=hnnew m hmem;have hmw:=hnw m hmem;refine⟨⟨by omega,by omega⟩,?_⟩;refine mc (H6.nth 1 rfl) (i:=pre.length) (v:=qc m.g) (by rw[hpre,List.map_append,List.map_cons];have:=lj (pre.map λ m=>qc m.g) (qc m.g) (todo.map λ m=>qc m.g);rw[List.length_map] at this;exact this) λ gg oo hc=>?_;rw[ix1];refine⟨_,hc,?_⟩
   have hms':((ns.length:Int) - ((pre.length+1:Nat):Int)).toNat<((ns.length:Int) - ((pre.length:Nat):Int)).toNat:=by omega
   have hw2:IntKind.wrap .i64 ((pre.length:Nat)+1:Int)=((pre.length+1:Nat):Int):=We (b:=1) (by omega)
   have hcg:((cur++m::todo).map Dm.g)[pre.length]?=some m.g:=by
    rw[List.getElem?_map,<- hcl,lj];rfl
   have hng:(ns.map Dm.g)[pre.length]?=some m.g:=by
    rw[hpre,List.getElem?_map,lj];rfl
   obtain⟨a,ha1,ha2,ha3,ha4⟩:=aew hG (H6.nth 4 rfl) hcg hng;rw[List.map_cons,jp,C.bind_assoc,aep] at hR;generalize hdup:decide (de (ns.map Dm.d) (gnm m.g)≠some pre.length)=dp at hR ha4
   have next:∀ {m':Dm} {w9:World},gz m'.g=gz m.g->m'.Fit->St W (all (Fc kp pd cd ms)).own w9 (aby kp km pf cf pd cd (.pointer none) (t:Int) ns (cur++m'::todo))->R0=((jp lk (ns.map Dm.d) (pre.length+1) (todo.map Dm.d)).bind λ r'=>C.ok (m'.d::r')).bind (λ r=>aaa lk (cur.map Dm.d++r))->Two W (all (Fc kp pd cd ms)) kp km pf cf pd cd (t:Int) ns (aaa lk) R0 ((pre.length+1:Nat):Int) w9:=by
    intro m' w9 e1 e2 H9 e3;refine⟨pre++[m],todo,cur++[m'],by simp,by rw[hpre];simp,by simp [hcl],by simp [<- hgz,e1],λ x hx=>?_,by rw[List.append_assoc];exact H9,?_⟩
    ·rcases List.mem_append.1 hx with hx | hx
     ·exact hfit x hx
     ·simp at hx;subst hx;exact e2
    ·rw[e3,hlk,C.bind_assoc,List.length_append];congr 1;funext r;simp [C.bind]
   obtain⟨mg,ps,bd,B⟩:=m
   cases mg with
   | var k tk nm wd z =>
    have hz:0≤z/\z≤256:=hmok;have hwd:0≤wd/\wd≤((0:Nat):Int)+256 * ms.length:=hmw;refine bi ⟨_,rfl,?_⟩;have hb:Blk w6 k (Qf tk nm wd z).toArray 127:=ha3;refine ptr_some ⟨nm,hb.cell' (i:=3) rfl,_,H6.nth 2 rfl,_,rfl,?_⟩;rw[show((mapOf (ns.map Dm.g)) nm).getD .nilIface=qc a from ha1];refine⟨dp,λ w' hk=>by rw[<- ha4];exact Tm ha2 ha3 hk,?_⟩;have hR:R0=(Gh lk dp (.var tk nm wd z)).bind _:=hR;refine Sx.so (λ hd=>?_) (λ hd=>?_)
    ·exact ptr_some ⟨_,hb.cell' (i:=2) rfl,fx H6 tk.line 9 (by rw[hR,hd];rfl)⟩
    ·refine ptr_some ⟨_,hb.cell' (i:=4) rfl,ptr_some ⟨_,hb.cell' (i:=5) rfl,?_⟩⟩;rintro z11 rfl
     have hmax:(if z > 1 then z else 1)=max 1 z:=by split <;> omega
     rw[hmax,show IntKind.wrap .i64 (wd+max 1 z)=wd+max 1 z by
      obtain⟨a1,rfl⟩:∃ a1:Nat,wd=a1:=⟨wd.toNat,by omega⟩;obtain⟨a2,rfl⟩:∃ a2:Nat,z=a2:=⟨z.toNat,by omega⟩;rw[show((a1:Int)+max 1 (a2:Int))=((a1+max 1 a2:Nat):Int) by omega]
      exact Go.Bits.n64 (by omega)]
     refine H6.drN λ w7 H7=>?_;have hb:Blk w7 k (Qf tk nm wd z).toArray 127:=px (H7.nth 4 rfl) hcg
     have hone:Gh lk dp (.var tk nm wd z)=if 512<wd+max 1 z then .err tk.line 1 else .ok (.var tk nm wd z):=by
      rw[hd];rfl
     refine Sx.so (λ h9=>?_) (λ h9=>?_)
     ·have h9:=dt h9;exact ptr_some ⟨_,hb.cell' (i:=2) rfl,fx H7 tk.line 1 (by rw[hR,hone,if_pos h9];rfl)⟩
     ·have h9:=df h9;rintro z13 rfl;rw[hw2];refine⟨next (m':=⟨.var k tk nm wd z,ps,bd,B⟩) rfl trivial H7 ?_,hms'⟩;rw[hR,hone,if_neg h9];rfl
   | fn hh sl0 =>
    obtain⟨hnp,hbP,hbo,hbs,hp6⟩:hh.np=ps.length/\isP bd [.iface 113 (pt hh.kb)] B/\bd.ok 2=true/\bd.sz<1000000/\ps.length≤6:=hmok;have hs0:sl0=0:=hmnew;subst hs0;refine ag (by decide) (bi ⟨_,rfl,?_⟩);have hb:Blk w6 hh.k (fnC hh.t hh.nm (.slice hh.p hh.np hh.c) (pt hh.kb) 0 hh.no).toArray 115:=ha3;refine ptr_some ⟨hh.nm,hb.cell' (i:=3) rfl,_,H6.nth 2 rfl,_,rfl,?_⟩;rw[show((mapOf (ns.map Dm.g)) hh.nm).getD .nilIface=qc a from ha1];refine⟨dp,λ w' hk=>by rw[<- ha4];exact Tm ha2 ha3 hk,?_⟩;obtain⟨KK,hKK⟩:∃ KK:D->C (List D×Nat),KK=λ d'=>((jp lk (ns.map Dm.d) (pre.length+1) (todo.map Dm.d)).bind λ r'=>C.ok (d'::r')).bind λ r=>aaa lk (cur.map Dm.d++r):=⟨_,rfl⟩
    have hRb:R0=(Gh lk dp (.fn hh.t hh.nm ps 0 hh.no bd)).bind KK:=by rw[hKK];exact hR
    clear hR;refine Sx.so (λ hd=>?_) (λ hd=>?_)
    ·exact ptr_some ⟨_,hb.cell' (i:=2) rfl,fx H6 hh.t.line 9 (by rw[hRb,hd];rfl)⟩
    have hone:Gh lk dp (.fn hh.t hh.nm ps 0 hh.no bd)=(pz lk hh.t.line ps [] 0).bind λ q=>(cst lk bd q.1 q.2).bind λ r=>.ok (.fn hh.t hh.nm ps (r.2.2:Int) hh.no r.1):=by
     rw[hd];rfl
    rw[hone,C.bind_assoc] at hRb;rintro vs rfl;refine H6.al λ ks w7 H7=>?_;have hb7:Blk w7 hh.k (fnC hh.t hh.nm (.slice hh.p hh.np hh.c) (pt hh.kb) 0 hh.no).toArray 115:=px (H7.nth 4 rfl) hcg;refine ptr_some ⟨_,_,_,hb7.cell' (i:=4) rfl,?_⟩;generalize hm0:(⟨.fn hh 0,ps,bd,B⟩:Dm)=m0 at *
    have hm0g:m0.g= .fn hh 0:=by rw[<- hm0]
    rw[hm0g] at hcg hng
    have hlt2:pre.length<((cur++m0::todo).map Dm.g).length:=by simp;omega
    generalize hXd:mkX ks kp km (mapOf (ns.map Dm.g)) ((cur++m0::todo).map Dm.g) pre.length hh=X
    have x1:X.ks=ks:=by rw[<- hXd];rfl
    have x2:X.kp=kp:=by rw[<- hXd];rfl
    have x3:X.km=km:=by rw[<- hXd];rfl
    have x4:X.I=mapOf (ns.map Dm.g):=by rw[<- hXd];rfl
    have x5:X.h=hh:=by rw[<- hXd];rfl
    have x6:∀ n,X.gs n=((cur++m0::todo).map Dm.g).set pre.length (.fn hh (n:Int)):=λ n=>by rw[<- hXd];rfl
    have x7:X.G=(cur++m0::todo).map Dm.g:=by rw[<- hXd];rfl
    have x8:X.j=pre.length:=by rw[<- hXd];rfl
    have hX0:X.gs 0=(cur++m0::todo).map Dm.g:=by rw[x6];exact Tp hcg
    have hE:Hm lk X:=by
     refine⟨by rw[x7,x8];exact hlt2,λ n s=>?_⟩;rw[x4];refine henv _ ?_ s;rw[x6,List.map_set];show((List.map gz ((cur++m0::todo).map Dm.g)).set pre.length (.fn hh 0))=_;rw[Tp (by rw[List.getElem?_map,hcg];rfl)];exact hG
    have H8:=(H7.add (A:=sl 9 1 (.slice none 0 0) 0 []) ⟨Sl.nil _ _ _,XTouch.refl _ _,λ q hq=>by cases hq⟩).add (A:=sl 3 1 (.slice none 0 0) 0 []) ⟨Sl.nil _ _ _,XTouch.refl _ _,λ q hq=>by cases hq⟩;obtain⟨Rk,hRk⟩:∃ Rk,Rk=[blk kp #[.slice pf (cr (ns.map Dm.g)).length cf,.pointer none,.int .i64 (t:Int),.slice pd ns.length cd] 66,sl 20 1 (.slice pd ns.length cd) ns.length (ns.map λ m=>qc m.g),sl 63 1 (.slice pf (cr (ns.map Dm.g)).length cf) (cr (ns.map Dm.g)).length (cr (ns.map Dm.g))]:=⟨_,rfl⟩
    have H9:St W (all (Fc kp pd cd ms)).own w7 (scL X ⟨none,0,none,0⟩ 0 []++(all ((cur++m0::todo).map rsA)::Rk)):=by
     unfold scL;rw[hX0,hRk,x1,x2,x3,x4,x5];exact H8.pick [6,7,8,2,4,5,0,1,3]
    have H10:=St.shut (L:=scL X ⟨none,0,none,0⟩ 0 []) H9
    have hrs:((cur++m0::todo).map rsA)[pre.length]?=some (all [sl 9 1 (.slice hh.p hh.np hh.c) hh.np (Kr ps),B]):=by
     rw[List.getElem?_map,<- hcl,lj,<- hm0];rfl
    have rdh:∀ {w:World} {S:Sp} {n:Nat} {Ls:Lcs} {L:List Asn},St W (all (Fc kp pd cd ms)).own w (scA X S n Ls::L)->Blk w hh.k (fnC hh.t hh.nm (.slice hh.p hh.np hh.c) (pt hh.kb) (n:Int) hh.no).toArray 115:=by
     intro w S n Ls L H;have h1:here (scL X S n Ls) w:=H.nth 0 rfl;have h2:here ((X.gs n).map hdA) w:=h1.nth 4 rfl;have:=px h2 (Sv hE.1 n);rw[x5] at this;exact this
    refine⟨λ x w=>∃ (j:Nat) (S:Sp) (n:Nat) (Ls:Lcs),x=j/\j≤ps.length/\Ls.length≤n/\n≤24/\St W (all (Fc kp pd cd ms)).own w (scA X S n Ls::all ((cur++m0::todo).map rsA)::Rk)/\R0=(pz lk hh.t.line (ps.drop j) Ls n).bind λ q=>((cst lk bd q.1 q.2).bind λ r=>.ok (.fn hh.t hh.nm ps (r.2.2:Int) hh.no r.1)).bind KK,λ x _=>((ps.length:Int) - x).toNat,⟨0,_,0,[],rfl,by omega,by simp,by omega,H10,hRb⟩,λ _ x w8 hI=>?_⟩;obtain⟨j,S,n,Ls,rfl,hj,g1,g2,H11,hR⟩:=hI;have hb8:=rdh H11;refine Sx.so (λ h9=>?_) (λ h9=>?_)
    ·have h9:j<ps.length:=by have:=dt h9;omega
     have hrow:Sl w8 9 1 (.slice hh.p hh.np hh.c) hh.np (Kr ps):=by
      have h1:here ((cur++m0::todo).map rsA) w8:=H11.nth 1 rfl;have h2:here [sl 9 1 (.slice hh.p hh.np hh.c) hh.np (Kr ps),B] w8:=h1.nth pre.length hrs;exact h2.1
     refine⟨⟨by omega,by omega⟩,?_⟩;refine mc hrow (i:=j) (v:=.string ps[j]) (by unfold Kr;rw[List.getElem?_map,List.getElem?_eq_getElem h9];rfl) λ gg oo hc=>?_;rw[ix1];refine⟨_,hc,ptr_some ⟨(tkL hh.t).toArray,rfl,Sx.cellsAt_of_blk (o:=0) hb8 _ (λ i v hi=>?_),?_⟩⟩
     ·rw[Nat.zero_add];unfold fnC;rw[List.getElem?_toArray] at hi ⊢;rw[List.getElem?_append_left (List.getElem?_eq_some_iff.1 hi).1];exact hi
     have hdr:ps.drop j=ps[j]::ps.drop (j+1):=List.drop_eq_getElem_cons h9;rw[hdr,pz,C.bind_assoc] at hR;have hcall:=Hs hE g1 g2 hh.t ps[j] (H11.nth 0 rfl);rw[x1] at hcall;refine je H11 0 rfl hR hcall ?_;rintro q _ w9 hq hR ⟨rfl,S',hp⟩;obtain⟨rfl,h24⟩:=Ht hq;refine⟨_,rfl,?_⟩;rintro z16 rfl;rw[show IntKind.wrap .i64 ((j:Nat)+1:Int)=((j+1:Nat):Int) from We (b:=1) (by omega)];exact⟨⟨j+1,S',n+1,Ls++[(ps[j],n)],rfl,by omega,by simp;omega,by omega,H11.upd 0 rfl hp,hR⟩,by show((ps.length:Int) - ((j+1:Nat):Int)).toNat<((ps.length:Int) - ((j:Nat):Int)).toNat;omega⟩
    ·have h9:ps.length≤j:=by have:=df h9;omega
     rw[List.drop_eq_nil_of_le h9] at hR;have hR:R0=((cst lk bd Ls n).bind λ r=>.ok (.fn hh.t hh.nm ps (r.2.2:Int) hh.no r.1)).bind KK:=hR;rw[C.bind_assoc] at hR;refine ptr_some ⟨_,hb8.cell' (i:=5) rfl,?_⟩;obtain⟨line,l,kb',rfl,e,hl3⟩:=yg hbo hbP;have H12:=St.open_ (L:=[sl 9 1 (.slice hh.p hh.np hh.c) hh.np (Kr ps),B]) (aid (St.swap H11) hrs)
     have H13:St W (all (Fc kp pd cd ms)).own w8 ([scA X S n Ls,B]++(sl 9 1 (.slice hh.p hh.np hh.c) hh.np (Kr ps)::all (((cur++m0::todo).map rsA).eraseIdx pre.length)::Rk)):=by
      rw[hRk] at H12 ⊢;exact H12.pick [3,1,0,2,4,5,6]
     have H14:=St.shut H13;simp only[T.sz] at hbs;have hcall:=nk (abl hE hZ l.sz (by omega)) hE (by omega) (Nat.le_refl _) hl3 g1 g2 hbP (H14.nth 0 rfl);rw[x1] at hcall;refine je H14 0 rfl hR hcall ?_;rintro q _ w9 hq hR ⟨rfl,B',S',hB',hp⟩;have H15:=St.open_ (L:=[scA X S' q.2.2 q.2.1,B']) (H14.upd 0 rfl hp)
     have H16:St W (all (Fc kp pd cd ms)).own w9 ([sl 9 1 (.slice hh.p hh.np hh.c) hh.np (Kr ps),B']++(all (((cur++m0::todo).map rsA).eraseIdx pre.length)::scA X S' q.2.2 q.2.1::Rk)):=by
      rw[hRk] at H15 ⊢;exact H15.pick [2,1,3,0,4,5,6]
     have H17:=abm (St.shut H16) (by rw[List.length_map];rw[List.length_map] at hlt2;exact hlt2);have H18:=St.open_ (L:=scL X S' q.2.2 q.2.1) (St.swap H17);refine⟨rfl,?_⟩;rintro z17 rfl;rw[hw2];refine⟨next (m':=⟨.fn hh (q.2.2:Int),ps,q.1,B'⟩) ?_ ⟨hnp,hB'⟩ ?_ ?_,hms'⟩
     ·rw[hm0g];rfl
     ·have eg:(cur++(⟨.fn hh (q.2.2:Int),ps,q.1,B'⟩:Dm)::todo).map Dm.g=X.gs q.2.2:=by
       rw[x6,List.map_append,List.map_cons,List.map_append,List.map_cons];have:=Ae (cur.map Dm.g) m0.g (.fn hh (q.2.2:Int)) (todo.map Dm.g);rw[List.length_map,hcl] at this;exact this.symm
      have er:(cur++(⟨.fn hh (q.2.2:Int),ps,q.1,B'⟩:Dm)::todo).map rsA=((cur++m0::todo).map rsA).set pre.length (all [sl 9 1 (.slice hh.p hh.np hh.c) hh.np (Kr ps),B']):=by
       rw[List.map_append,List.map_cons,List.map_append,List.map_cons];have:=Ae (cur.map rsA) (rsA m0) (all [sl 9 1 (.slice hh.p hh.np hh.c) hh.np (Kr ps),B']) (todo.map rsA);rw[List.length_map,hcl] at this;exact this.symm
      unfold aby;rw[eg,er];unfold scL at H18;rw[hRk,x3,x4] at H18;exact H18.pick [6,7,3,8,4,5]
     ·rw[hR,hKK];rfl
  ·have hge:=df hge;have:todo=[]:=List.eq_nil_of_length_eq_zero (by omega);subst this;simp only[List.map_nil,jp,List.append_nil] at hR H6 hpre
   have hR:R0=aaa lk (cur.map Dm.d):=by
    rw[hR];show aaa lk (cur.map Dm.d++[])=_;rw[List.append_nil]
   rw[List.append_nil] at hG;have hL:=henv _ hG ef;refine⟨_,H6.nth 2 rfl,_,rfl,?_⟩;unfold aaa at hR
   cases hlm:lk ef with
   | none =>
    rw[hlm] at hL hR;rw[show mapOf (ns.map Dm.g) (ByteArray.mk #[109,97,105,110])=none from hL];exact Ek (fx H6 0 9 hR)
   | some g =>
    rw[hlm] at hL hR
    cases g with
    | var wd z =>
     obtain⟨i,k,tt,nm,hI, -⟩:=hL;rw[show mapOf (ns.map Dm.g) (ByteArray.mk #[109,97,105,110])=_ from hI];exact ag (by decide) (fx H6 0 9 hR)
    | fn k np =>
     obtain⟨i,hh,slv,hI,hGi,rfl,rfl⟩:=hL;rw[show mapOf (ns.map Dm.g) (ByteArray.mk #[109,97,105,110])=_ from hI];refine bi ⟨_,rfl,?_⟩;have hb:Blk w6 hh.k (fnC hh.t hh.nm (.slice hh.p hh.np hh.c) (pt hh.kb) slv hh.no).toArray 115:=px (H6.nth 4 rfl) hGi;refine ptr_some ⟨_,_,_,hb.cell' (i:=4) rfl,?_⟩;refine Sx.so (λ h9=>?_) (λ h9=>?_)
     ·have h9:=dt h9;exact fx H6 0 9 (hR.trans (if_pos (by omega)))
     ·have h9:=df h9;refine H6.st 0 rfl (i:=1) (by simp) λ w7 H7=>?_;refine zt (x:=(cur.map Dm.d,hh.k)) (hR.trans (if_neg (by omega))) ⟨rfl,cur,km,pf,cf,t,rfl,hG,hfit,ht,?_⟩
      have H8:St W (all (Fc kp pd cd ms)).own w7 (ady kp km pf cf pd cd (pt hh.k) (t:Int) ns cur++[]):=by
       rw[List.append_nil];exact H7
      exact(St.shut H8).post 0 rfl
end Go.Proofs.YtojogkljneonmaaGreatDoor
namespace Go.Lang
open Go
theorem eh (l:List UInt8) (i:Nat):(ofL l)[i]?=l[i]?:=by
 by_cases h:i<l.length
 ·rw[getElem?_pos (ofL l) i (by show i<(ofL l).size;rw[ak];exact h),List.getElem?_eq_getElem h];rfl
 ·rw[getElem?_neg (ofL l) i (by show ¬ i<(ofL l).size;rw[ak];exact h),List.getElem?_eq_none (by omega)]
def Db (r:Nat):Bool:=r==95||(decide (97≤r)&&decide (r≤122))
def Pg (r:Nat):Bool:=decide (48≤r)&&decide (r≤57)
theorem lp (c:UInt8):isL c=Db c.toNat:=by
 unfold isL Db;congr 1;rw[Bool.eq_iff_iff,beq_iff_eq,beq_iff_eq];exact⟨λ h=>by rw[h];rfl,λ h=>UInt8.toNat_inj.1 h⟩
theorem tj (c:UInt8):isD c=Pg c.toNat:=rfl
theorem Ah {r:Nat} (h:128≤r):(Db r||Pg r)=false:=by
 unfold Db Pg;rw[Bool.or_eq_false_iff,Bool.or_eq_false_iff,Bool.and_eq_false_iff,Bool.and_eq_false_iff];exact⟨⟨beq_eq_false_iff_ne.2 (by omega),.inr (decide_eq_false (by omega))⟩,.inr (decide_eq_false (by omega))⟩
theorem uz (s:ByteArray):s.size=s.data.toList.length:=rfl
theorem aab (p:Nat->Bool) (q:UInt8->Bool) (s:ByteArray) (H:∀ i,(h:i<s.size)->((s[i]'h).toNat<128/\q s[i]= !p (s[i]'h).toNat)∨(128≤(s[i]'h).toNat/\q s[i]=false/\∀ r,128≤r->p r=true)) :
  ∀ (f pos:Nat),s.size≤pos+f->Lib.idxFuncFrom p true s f pos=if (s.data.toList.drop pos).all q then -1 else ((pos+((s.data.toList.drop pos).takeWhile q).length:Nat):Int):=by
 intro f
 induction f with
 | zero =>
  intro pos h;rw[List.drop_eq_nil_of_le (by rw[<- uz];omega)];rfl
 | succ f ih =>
  intro pos h;unfold Lib.idxFuncFrom;by_cases hp:pos<s.size
  ·rw[if_pos hp];have hd:s.data.toList.drop pos=s[pos]::s.data.toList.drop (pos+1):=List.drop_eq_getElem_cons (by rw[<- uz];exact hp);rw[hd,List.all_cons,List.takeWhile_cons];rcases H pos hp with ⟨h1,h2⟩ | ⟨h1,h2,h3⟩
   ·rw[decode_ascii s pos hp h1];show(if p (s[pos]'hp).toNat=true then (pos:Int) else Lib.idxFuncFrom p true s f (pos+1))=_;rw[h2]
    cases p (s[pos]'hp).toNat with
    | true=>simp
    | false =>
     rw[if_neg (by decide),ih (pos+1) (by omega)];simp only[Bool.not_false,Bool.true_and,if_true,List.length_cons];rw[show pos+1+(List.takeWhile q (List.drop (pos+1) s.data.toList)).length=pos+((List.takeWhile q (List.drop (pos+1) s.data.toList)).length+1) by omega]
   ·rw[if_pos (h3 _ (decode_high s pos hp h1).1),h2];simp
  ·rw[if_neg hp,List.drop_eq_nil_of_le (by rw[<- uz];omega)];rfl
theorem Xz {s:ByteArray}{c:UInt8}{i:Nat} (h:i<s.size) (e:s[i]'h=c):c ∈ s.data.toList:=by
 rw[<- e];exact List.getElem_mem (l:=s.data.toList) (by rw[<- uz];exact h)
theorem all_takeWhile {α:Type} (p:α->Bool):∀ (l:List α),l.all p=true↔(l.takeWhile p).length=l.length
 | []=>by simp
 | a::l=>by
  rw[List.all_cons,List.takeWhile_cons]
  cases p a with
  | false=>simp
  | true=>simpa using all_takeWhile p l
theorem Ya (s:ByteArray):Lib.idxFunc (λ r=> !(Db r||Pg r)) true s=if bz s.data.toList=s.data.toList.length then -1 else (bz s.data.toList:Int):=by
 unfold Lib.idxFunc
 rw[aab (λ r=> !(Db r||Pg r)) (λ c=>isL c||isD c) s (λ i h=>by
  by_cases h2:(s[i]'h).toNat<128
  ·exact .inl ⟨h2,by rw[lp,tj];simp⟩
  ·refine .inr ⟨by omega,?_,λ r hr=>by rw[Ah hr];rfl⟩;rw[lp,tj]
   exact Ah (by omega)) s.size 0 (by omega)]
 rw[List.drop_zero];unfold bz;generalize s.data.toList=l;have key:=all_takeWhile (λ c=>isL c||isD c) l;by_cases h:(l.all λ c=>isL c||isD c)=true
 ·rw[if_pos h,if_pos (key.1 h)]
 ·rw[if_neg h,if_neg (λ e=>h (key.2 e))];simp
theorem Ph (s:ByteArray) (hs:∀ c ∈ s.data.toList,(isL c||isD c)=true):(0≤Lib.idxFunc Db true s)↔s.data.toList.all isD=false:=by
 unfold Lib.idxFunc
 have hlow:∀ c ∈ s.data.toList,c.toNat<128:=by
  intro c hc;rcases Nat.lt_or_ge c.toNat 128 with h | h
  ·exact h
  ·have:=hs c hc;rw[lp,tj,Ah h] at this;cases this
 rw[aab Db (λ c=> !isL c) s (λ i h=>.inl ⟨hlow _ (Xz h rfl),by rw[lp]⟩) s.size 0 (by omega)];rw[List.drop_zero]
 have e:s.data.toList.all (λ c=> !isL c)=s.data.toList.all isD:=by
  rw[Bool.eq_iff_iff,List.all_eq_true,List.all_eq_true];refine forall_congr' λ c=>forall_congr' λ hc=>?_;have h1:=hs c hc
  have h2:¬ (isL c=true/\isD c=true):=by
   rw[lp,tj];unfold Db Pg;intro ⟨a,b⟩;rw[Bool.and_eq_true] at b;have b1:=of_decide_eq_true b.1;have b2:=of_decide_eq_true b.2;rcases Bool.or_eq_true_iff.1 a with a | a
   ·have:=beq_iff_eq.1 a;omega
   ·rw[Bool.and_eq_true] at a;have:=of_decide_eq_true a.1;omega
  cases hL:isL c <;> cases hD:isD c <;> simp_all
 rw[e]
 cases s.data.toList.all isD with
 | true=>simp
 | false=>simp
theorem qw (l:List UInt8) (c:UInt8):Lib.indexByte l c=if c ∈ l then (((l.takeWhile λ x=>decide (x≠c)).length:Nat):Int) else -1:=by
 induction l with
 | nil=>rfl
 | cons b l ih =>
  unfold Lib.indexByte;by_cases h:b=c
  ·subst h;simp
  ·rw[if_neg (by simpa using h),ih]
   have hm:c ∈ b::l↔c ∈ l:=by simp [Ne.symm h]
   by_cases h2:c ∈ l
   ·rw[if_pos h2,if_pos (hm.2 h2),List.takeWhile_cons_of_pos (by simpa using h),List.length_cons];rw[if_neg (by simp)];rfl
   ·rw[if_neg h2,if_neg (λ e=>h2 (hm.1 e))];rfl
end Go.Lang
