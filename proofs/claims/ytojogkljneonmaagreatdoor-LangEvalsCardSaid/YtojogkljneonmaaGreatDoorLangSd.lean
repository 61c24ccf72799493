/- The document's evaluator in memory: places, slots, lets. No condition. -/
import Derived.Test.YtojogkljneonmaaGreatDoorLangSa
set_option linter.unusedVariables false
set_option linter.unusedSimpArgs false
namespace Go.Lang
def dw:D->Nat
 | .var _ _ _ z=>max 1 z.toNat
 | .fn ..=>0
theorem Dn (d:D) (r:List D) (s:ByteArray):bl (d::r) s=if d.nm=s then 0 else dw d+bl r s:=by cases d <;> rfl
theorem adi (d:D) (h:DOk d):fwn 1 (toD [d] .nil)=dw d:=by
 cases d with
 | var t nm w z=>exact Mw h.1
 | fn t nm ps s no b=>rfl
def Bc (l:List (ByteArray×UInt32)) (s:ByteArray):Int:=match Hx l s with
 | some i=>(i:Nat)
 | none=> -1
theorem aan:∀ {l:List (ByteArray×UInt32)}{s:ByteArray}{i:Nat}{p:ByteArray×UInt32},(l.map Prod.fst).Nodup->l[i]?=some p->p.1=s->Hx l s=some i
 | [],s,i,p,hn,hi,hp=>by simp at hi
 | q::l,s,0,p,hn,hi,hp=>by
  simp at hi;subst hi;unfold Hx;rw[List.findIdx?_cons,if_pos (by simpa using hp)]
 | q::l,s,i+1,p,hn,hi,hp=>by
  have hi:l[i]?=some p:=by simpa using hi
  rw[List.map_cons,List.nodup_cons] at hn;have hq:¬ q.1=s:=λ e=>hn.1 (List.mem_map.2 ⟨p,List.mem_of_getElem? hi,by rw[hp,e]⟩);have:=aan hn.2 hi hp;unfold Hx at *;rw[List.findIdx?_cons,if_neg (by simpa using hq),this];rfl
theorem Yu {l:List (ByteArray×UInt32)}{s:ByteArray} (h:∀ (i:Nat) (p:ByteArray×UInt32),l[i]?=some p->p.1≠s):Hx l s=none:=by
 unfold Hx;rw[List.findIdx?_eq_none_iff];intro p hp;obtain⟨i,hi⟩:=List.getElem?_of_mem hp;simpa using h i p hi
def fl:Fo->Nat
 | .nil=>0
 | .cons k _ _ _ ks _ r=>(if k=lx then 1 else 0)+fl ks+fl r
theorem fi:∀ (x:T),(x.ok 0=true∨x.ok 1=true->∀ r,fl (toF x r)=fl r)/\(x.ok 2=true∨x.ok 3=true->∀ r,fl (toF x r)=lets x+fl r)
 | .num ..=>⟨λ _ r=>by simp [toF,fl,show ¬ Oz=lx by decide],λ h=>by simp [T.ok] at h⟩
 | .name ..=>⟨λ _ r=>by simp [toF,fl,show ¬ sx=lx by decide],λ h=>by simp [T.ok] at h⟩
 | .index t w z p=>⟨λ h r=>by
   have hp:p.ok 0=true:=by simpa [T.ok] using h
   simp only[toF,fl,if_neg (show ¬ jo=lx by decide),(fi p).1 (.inl hp)];omega,λ h=>by simp [T.ok] at h⟩
 | .call t f xs=>⟨λ h r=>by
   have hp:xs.ok 1=true:=by simpa [T.ok] using h
   simp only[toF,fl,if_neg (show ¬ ip=lx by decide),(fi xs).1 (.inr hp)];omega,λ h=>by simp [T.ok] at h⟩
 | .un t x=>⟨λ h r=>by
   have hp:x.ok 0=true:=by simpa [T.ok] using h
   simp only[toF,fl,if_neg (show ¬ Mr=lx by decide),(fi x).1 (.inl hp)];omega,λ h=>by simp [T.ok] at h⟩
 | .bin t x y=>⟨λ h r=>by
   have hp:x.ok 0=true/\y.ok 0=true:=by simpa [T.ok] using h
   simp only[toF,fl,if_neg (show ¬ sm=lx by decide),(fi x).1 (.inl hp.1),(fi y).1 (.inl hp.2)];omega,λ h=>by simp [T.ok] at h⟩
 | .nil=>⟨λ _ r=>rfl,λ _ r=>by simp [toF,lets]⟩
 | .cons x xs=>⟨λ h r=>by
   have hp:x.ok 0=true/\xs.ok 1=true:=by simpa [T.ok] using h
   simp only[toF,(fi x).1 (.inl hp.1),(fi xs).1 (.inr hp.2)],λ h r=>by
   have hp:x.ok 2=true/\xs.ok 3=true:=by simpa [T.ok] using h
   simp only[toF,(fi x).2 (.inl hp.1),(fi xs).2 (.inr hp.2),lets];omega⟩
 | .letS t nm s w x=>⟨λ h=>by simp [T.ok] at h,λ h r=>by
   have hp:x.ok 0=true:=by simpa [T.ok] using h
   simp only[toF,fl,if_pos rfl,(fi x).1 (.inl hp),lets];simp⟩
 | .setS t s w x=>⟨λ h=>by simp [T.ok] at h,λ h r=>by
   have hp:x.ok 0=true:=by simpa [T.ok] using h
   simp only[toF,fl,if_neg (show ¬ xo=lx by decide),(fi x).1 (.inl hp),lets]⟩
 | .putS t w z p x=>⟨λ h=>by simp [T.ok] at h,λ h r=>by
   have hp:p.ok 0=true/\x.ok 0=true:=by simpa [T.ok] using h
   simp only[toF,fl,if_neg (show ¬ ly=lx by decide),(fi p).1 (.inl hp.1),(fi x).1 (.inl hp.2),lets]⟩
 | .ifS line c a b=>⟨λ h=>by simp [T.ok] at h,λ h r=>by
   have hp:(c.ok 0=true/\a.ok 2=true)/\(b.ok 2=true∨b.isNil=true):=by simpa [T.ok] using h
   have hb:fl (toF b .nil)=lets b:=by
    rcases hp.2 with h2 | h2
    ·rw[(fi b).2 (.inl h2)];rfl
    ·cases b with
     | nil=>rfl
     | _=>cases h2
   simp only[toF,fl,if_neg (show ¬ cIf=lx by decide),(fi c).1 (.inl hp.1.1),(fi a).2 (.inl hp.1.2),hb,lets];omega⟩
 | .whileS line c b=>⟨λ h=>by simp [T.ok] at h,λ h r=>by
   have hp:c.ok 0=true/\b.ok 2=true:=by simpa [T.ok] using h
   simp only[toF,fl,if_neg (show ¬ dx=lx by decide),(fi c).1 (.inl hp.1),(fi b).2 (.inl hp.2),lets];omega⟩
 | .retS line x=>⟨λ h=>by simp [T.ok] at h,λ h r=>by
   have hp:x.ok 0=true:=by simpa [T.ok] using h
   simp only[toF,fl,if_neg (show ¬ jm=lx by decide),(fi x).1 (.inl hp),lets]⟩
 | .prtS line x=>⟨λ h=>by simp [T.ok] at h,λ h r=>by
   have hp:x.ok 0=true:=by simpa [T.ok] using h
   simp only[toF,fl,if_neg (show ¬ ng=lx by decide),(fi x).1 (.inl hp),lets]⟩
 | .doS line x=>⟨λ h=>by simp [T.ok] at h,λ h r=>by
   have hp:x.ok 0=true:=by simpa [T.ok] using h
   simp only[toF,fl,if_neg (show ¬ abh=lx by decide),(fi x).1 (.inl hp),lets]⟩
 | .block line l=>⟨λ h=>by simp [T.ok] at h,λ h r=>by
   have hp:l.ok 3=true:=by simpa [T.ok] using h
   simp only[toF,fl,if_neg (show ¬ bh=lx by decide),(fi l).2 (.inr hp),lets];simp [fl]⟩
theorem Ut:∀ f:Fo,fl f≤f.sz
 | .nil=>Nat.le_refl _
 | .cons k _ _ _ ks _ r=>by
  have h1:=Ut ks;have h2:=Ut r;simp only[fl,Fo.sz];split <;> omega
end Go.Lang
namespace Go.Proofs.YtojogkljneonmaaGreatDoor
open Go Go.Proofs.Tryz Go.Proofs Go.Sep Go.XHeap Go.RowKit Go.Lang
variable {W w0 w:World}{M:Nat->Prop}{L:List Asn}{X:Xw}{h:Hw}{S:Ws}
theorem Uu {w:World}{e:TypeId}{size:Nat}{g o m c:Nat}{xs:List Value} (h:Sl w e size (.slice (some ⟨g,o,none⟩) m c) m xs){j:Nat} (hj:j<xs.length) (x:Value) :
  (∃ v,w.cell? ⟨g,o+j,none⟩=some v)/\w.frozen? ⟨g,o+j,none⟩=false/\Sep.Post (sl e size (.slice (some ⟨g,o,none⟩) m c) m xs) w (sl e size (.slice (some ⟨g,o,none⟩) m c) m (xs.set j x)) (w.setCell ⟨g,o+j,none⟩ x):=by
 have h0:Sl w e size (.slice (some ⟨g,o,none⟩) m c) m xs:=h;obtain⟨hl,h⟩:=h;rcases h with ⟨h, -⟩ | ⟨g',off',cap',cur,hv,hb,h1,h2,h3,h4⟩
 ·simp at h
 ·simp at hv;obtain⟨⟨rfl,rfl⟩,rfl⟩:=hv;have hm:=Nat.mul_le_mul_right size h1;refine⟨⟨cur[o+j],hb.cell' (Array.getElem?_eq_getElem (by omega))⟩,hb.frozen _,⟨by simpa using hl,.inr ⟨g,o,c,_,rfl,hb.set (o+j) x,h1,h2,by simpa using h3,?_⟩⟩,(XTouch.refl (λ k=>(Value.slice (some ⟨g,o,none⟩) m c).ownBlock=some k) w).setCell (p:=⟨g,o+j,none⟩) (.inl rfl) x,λ q e=>.inl e⟩;rw[Array.toList_setIfInBounds,List.drop_set,if_neg (by omega),Nat.add_sub_cancel_left,List.take_set,h4]
theorem Sl.mid {w:World}{e size n c i j:Nat}{p:Option Addr}{xs:List Value} (h:Sl w e size (.slice p n c) n xs) (hij:i≤j) (hj:j≤n):Sl w e size (.slice (Sx.sub p c i size) (j - i) (c - i)) (j - i) ((xs.drop (i * size)).take ((j - i) * size)):=by
 obtain⟨hl,h⟩:=h;have hm:j * size≤n * size:=Nat.mul_le_mul_right _ hj;have hs:(j - i) * size=j * size - i * size:=Nat.sub_mul _ _ _;have hi:i * size≤j * size:=Nat.mul_le_mul_right _ hij;refine⟨by rw[List.length_take,List.length_drop,hl];omega,?_⟩;rcases h with ⟨hv,rfl⟩ | ⟨g,off,cap,cur,hv,hb,h1,h2,h3,h4⟩
 ·simp at hv;obtain⟨rfl,rfl⟩:=hv;obtain rfl:i=0:=by omega
  obtain rfl:j=0:=by omega
  exact .inl ⟨rfl,rfl⟩
 ·simp at hv;obtain⟨rfl,rfl⟩:=hv;have hc:(c - i) * size=c * size - i * size:=Nat.sub_mul _ _ _;have hci:j * size≤c * size:=Nat.mul_le_mul_right _ (by omega);unfold Sx.sub;split
  ·rename_i e;subst e;refine .inr ⟨g,off,c - c,cur,rfl,hb,by omega,by omega,by rw[Nat.sub_self];omega,?_⟩;rw[show j - c=0 by omega];simp
  ·refine .inr ⟨g,off+i * size,c - i,cur,by simp [Addr.add],hb,by omega,by omega,by omega,?_⟩;rw[<- h4,List.drop_take,List.drop_drop,List.take_take,Nat.min_eq_left (by omega)]
theorem Sl.le_cap {w:World}{e size n c:Nat}{p:Option Addr}{xs:List Value} (h:Sl w e size (.slice p n c) n xs):n≤c:=by
 obtain⟨hl,⟨hv,rfl⟩ | ⟨g,off,cap,cur,hv,hb,h1,h2,h3,h4⟩⟩:=h
 ·omega
 ·simp at hv;omega
theorem Yv {d:D}{r:List D} (h:dok (toD (d::r) .nil)):dok (toD [d] .nil)/\dok (toD r .nil):=by
 obtain⟨k,ln,v,ks,ns,e, -⟩:=Gb d;rw[e,dok] at h;rw[e,dok];exact⟨⟨h.1,h.2.1,h.2.2.1,by rw[toD,dok];trivial⟩,h.2.2.2⟩
theorem wu [Inhabited G3o]{s:ByteArray} (hX:XOk X) (hD:∀ d ∈ X.ds,DOk d) (hb:bl X.ds s≤100000) (h0:(wsA X h S).at_ W):Calls prog 76 #[pt X.b,.string s] W λ e w'=>e= .returned (.int .i64 ((bl X.ds s:Nat):Int))/\w'=W:=by
 refine ajy X.b 0 s ?_;have H:=Us h0;refine⟨λ i n w=>w=W/\∃ (j m:Nat) (r:List D) (ws:List Value),i=(j:Nat)/\n=(m:Nat)/\Suf X.DA X.F X.us j (toD r .nil) ws/\bl X.ds s=m+bl r s/\dok (toD r .nil)/\∀ d ∈ r,DOk d,λ i _ _=>X.F.len - i.toNat,⟨rfl,0,0,X.ds,X.us,rfl,rfl,Suf.start hX.2.1,by omega,hX.2.2.2,hD⟩,?_⟩;rintro _ i n w3 ⟨rfl,j,m,r,ws,rfl,rfl,hS,hp,hdk,hDr⟩;have hsl:=hX.1 w3 (H.nth 3 rfl);refine⟨_,_,_,H.ld 0 rfl (i:=0) rfl,?_⟩
 cases r with
 | nil =>
  obtain⟨-,pre, -, -,hl⟩:=hS;simp only[toD,Fo.len] at hl;refine Sx.so (λ h1=>by have:=dt h1;omega) (λ _=>⟨?_,rfl⟩);rw[hp];rfl
 | cons d' r =>
  obtain⟨k1,ln,v,ks,ns,e1, -⟩:=Gb d';obtain⟨hdk1,hdk2⟩:=Yv hdk;have hV:=hS.1;obtain⟨-,pre,hpre,hpl,hlen⟩:=hS;rw[e1] at hV hlen;obtain⟨q,c,us1,q2,c2,ws',g1,g2,rfl,g3,g4⟩:=hV;simp only[Fo.len] at hlen;have hz:=hX.2.2.1;refine Sx.so (λ _=>?_) (λ h1=>by have:=df h1;omega);refine⟨_,_,_,H.ld 0 rfl (i:=0) rfl,⟨by omega,by omega⟩,?_⟩;refine adg (j:=j) hsl (by rw[hpre]) hpl (by rfl) (by decide) λ g o hc=>?_;rw[Int.toNat_natCast];refine⟨d'.nm,hc 1 (.string d'.nm) rfl,aq (λ h6=>?_) (λ h6=>?_)⟩
  ·rw[Dn,if_pos h6] at hp;rw[hp];exact⟨rfl,rfl⟩
  ·rw[Dn,if_neg h6] at hp;refine⟨_,_,_,H.ld 0 rfl (i:=0) rfl,?_⟩;rintro z rfl;rw[qd (by omega)];refine⟨⟨by omega,by omega,by have:=Sl.le_cap hsl;omega⟩,?_⟩;have hmid:=Sl.mid (i:=j) (j:=j+1) hsl (by omega) (by omega);rw[show j+1 - j=1 by omega] at hmid;rw[hpre,<- hpl,List.drop_left,Nat.one_mul] at hmid;have hone:toD [d'] .nil= .cons k1 d'.nm ln v ks ns .nil:=e1 []
   have hnode:Calls prog 15 #[.slice (Sx.sub X.dp X.dc j 6) 1 (X.dc - j)] w3 λ e w'=>e= .returned (.int .i64 ((dw d':Nat):Int))/\w'=w3:=by
    have hq:=wq (F:=toD [d'] .nil) (us:=ae k1 d'.nm ln v (.slice q ks.len c) (.slice q2 ns.length c2)) (p:=Sx.sub X.dp X.dc j 6) (c:=X.dc - j) (m:=1) (DA:=X.DA) (W:=w3) (by rw[hone];exact hmid) (by rw[hone];exact⟨q,c,us1,q2,c2,[],g1,rfl,by simp,g3,g4⟩) (by rw[hone];exact Nat.le_refl _) (by rw[hone];show 1≤8001;omega) hdk1 (X.dc - j);rw[adi d' (hDr d' (List.mem_cons_self ..))] at hq;exact hq
   try dsimp only
   rw[show Int.toNat ((j+1:Nat):Int) - j=1 by omega];refine hnode.mono ?_;rintro _ _ ⟨rfl,rfl⟩;refine⟨_,rfl,?_⟩;rintro z3 rfl z4 rfl;rw[show((m:Nat):Int)+((dw d':Nat):Int)=((m+dw d':Nat):Int) by omega,Go.Bits.n64 (by omega)];refine⟨⟨rfl,j+1,m+dw d',r,ws',rfl,rfl,⟨g2,pre++ae k1 d'.nm ln v (.slice q ks.len c) (.slice q2 ns.length c2),by rw[hpre,List.append_assoc],by rw[List.length_append,hpl];show j * 6+6=_;omega,by omega⟩,by omega,hdk2,λ d hd=>hDr d (List.mem_cons_of_mem _ hd)⟩,by show _ - ((j+1:Nat):Int).toNat<_ - ((j:Nat):Int).toNat;omega⟩
theorem Jj [Inhabited G3o]{s:ByteArray} (hn:(S.locals.map Prod.fst).Nodup) (hl:S.locals.length≤100) (h0:(wsA X h S).at_ W):Calls prog 75 #[pt X.b,.string s] W λ e w'=>e= .returned (.int .i64 (Bc S.locals s))/\w'=W:=by
 refine ajz X.b 0 s ?_;have H:=Us h0;refine⟨_,_,_,H.ld 0 rfl (i:=7) rfl,?_⟩;rintro z rfl
 have e0:IntKind.wrap .i64 (((S.locals.length:Nat):Int) - 1)=((S.locals.length:Nat):Int) - 1:=by
  cases hc:S.locals.length with
  | zero=>decide
  | succ n=>rw[show(((n+1:Nat):Int) - 1)=((n:Nat):Int) by omega];exact Go.Bits.n64 (by omega)
 try dsimp only
 rw[e0];refine⟨λ i w=>w=W/\∃ j:Nat,j≤S.locals.length/\i=(j:Int) - 1/\∀ (t:Nat) (p:ByteArray×UInt32),j≤t->S.locals[t]?=some p->p.1≠s,λ i _=>(i+1).toNat,⟨rfl,S.locals.length,Nat.le_refl _,rfl,λ t p ht hp=>by have:=(List.getElem?_eq_some_iff.1 hp).1;omega⟩,?_⟩;rintro _ i w2 ⟨rfl,j,hj,rfl,hno⟩;refine Sx.so (λ h1=>?_) (λ h1=>?_)
 ·have h1:=dt h1;obtain⟨k,rfl⟩:∃ k,j=k+1:=⟨j - 1,by omega⟩;obtain⟨p,hp⟩:∃ p,S.locals[k]?=some p:=⟨_,List.getElem?_eq_getElem (by omega)⟩;refine⟨_,_,_,H.ld 0 rfl (i:=7) rfl,⟨by omega,by omega⟩,?_⟩;obtain⟨-,g,o,ep,hc⟩:=Eg (H.nth 2 rfl) (λ x _=>Lu x) hp (by decide);rw[ep];refine adr_some ?_
  have ek:Int.toNat (((k+1:Nat):Int) - 1)=k:=by omega
  rw[ek];refine⟨p.1,hc 0 (.string p.1) rfl,aq (λ h6=>?_) (λ h6=>?_)⟩
  ·refine⟨?_,rfl⟩;unfold Bc;rw[aan hn hp h6];show Ending.returned (.int .i64 (((k+1:Nat):Int) - 1))= .returned (.int .i64 ((k:Nat):Int));rw[show((k+1:Nat):Int) - 1=((k:Nat):Int) by omega]
  ·rintro z2 rfl
   have e1:IntKind.wrap .i64 (((k+1:Nat):Int) - 1 - 1)=((k:Nat):Int) - 1:=by
    cases k with
    | zero=>decide
    | succ n=>rw[show((n+1+1:Nat):Int) - 1 - 1=((n:Nat):Int) by omega,Go.Bits.n64 (by omega)];omega
   try dsimp only
   rw[e1];refine⟨⟨rfl,k,by omega,rfl,λ t q ht hq=>?_⟩,by omega⟩;by_cases e:t=k
   ·subst e;rw[hp] at hq;cases hq;exact h6
   ·exact hno t q (by omega) hq
 ·have h1:=df h1;refine⟨?_,rfl⟩;unfold Bc;rw[Yu (λ t p hp=>hno t p (by omega) hp)]
theorem se (b:Bool) (w:World):Calls prog 78 #[.bool b] w λ e w'=>e= .returned (vU (tr b))/\w'=w:=by
 refine aka b (Sx.so (λ h=>?_) (λ h=>?_))
 ·subst h;exact⟨rfl,rfl⟩
 ·subst h;exact⟨rfl,rfl⟩
theorem Uv [Inhabited G3o]{DA:Asn}:∀ (N:Nat) (ks:Fo),ks.sz≤N->ks.sz≤1000000->∀ {W:World}{k s:ByteArray}{ln v:Int}{q q2:Option Addr}{c m2 c2:Nat}{us:List Value},isV DA ks us->(∀ w,DA.at_ w->Sl w 52 6 (.slice q ks.len c) ks.len us)->DA.at_ W ->
  Calls prog 80 #[.agg (ae k s ln v (.slice q ks.len c) (.slice q2 m2 c2)).toArray] W λ e w'=>e= .returned (.int .i64 ((((if k=lx then 1 else 0)+fl ks:Nat):Nat):Int))/\im W w':=by
 intro N
 induction N with
 | zero =>
  intro ks hN _ W k s ln v q q2 c m2 c2 us hV hsl h
  cases ks with
  | cons=>simp only[Fo.sz] at hN;omega
  | nil =>
   refine ajj _ ?_;refine(St.nil W).al λ k1 w2 H2=>?_;have H2:St W (λ _=>False) w2 [blk k1 (ae k s ln v (.slice q 0 c) (.slice q2 m2 c2)).toArray 52]:=H2;refine⟨k,H2.ld 0 rfl (i:=0) rfl,aq (λ hk=>?_) (λ hk=>?_)⟩
   ·refine⟨λ i t w=>i=0/\t=1/\w=w2,λ _ _ _=>0,⟨rfl,rfl,rfl⟩,?_⟩;rintro _ i t w3 ⟨rfl,rfl,rfl⟩;refine⟨_,_,_,H2.ld 0 rfl (i:=4) rfl,Sx.so (λ h=>by cases (dt h)) (λ _=>⟨?_,H2.touch⟩)⟩;rw[if_pos (show k=lx from hk)];rfl
   ·refine⟨λ i t w=>i=0/\t=0/\w=w2,λ _ _ _=>0,⟨rfl,rfl,rfl⟩,?_⟩;rintro _ i t w3 ⟨rfl,rfl,rfl⟩;refine⟨_,_,_,H2.ld 0 rfl (i:=4) rfl,Sx.so (λ h=>by cases (dt h)) (λ _=>⟨?_,H2.touch⟩)⟩;rw[if_neg (show ¬ k=lx from hk)];rfl
 | succ N ih =>
  intro ks hN hsz W k s ln v q q2 c m2 c2 us hV hsl h;refine ajj _ ?_;refine(St.nil W).al λ k1 w2 H2=>?_;have H2:St W (λ _=>False) w2 [blk k1 (ae k s ln v (.slice q ks.len c) (.slice q2 m2 c2)).toArray 52]:=H2;have hle:=Ut ks;have hlen:=Fo.len_le ks
  have round:∀ (a:Nat),a≤1->∀ (i:Int) (t:Int) (w3:World),(∃ (j m:Nat) (r:Fo) (ws:List Value),i=(j:Nat)/\t=(m:Nat)/\Suf DA ks us j r ws/\r.sz≤ks.sz/\m+fl r=a+fl ks/\St W (λ _=>False) w3 [blk k1 (ae k s ln v (.slice q ks.len c) (.slice q2 m2 c2)).toArray 52]) ->
    V.ldL w3 k1 (0+4) λ p k3 k4=>Sx.split (decide (i<(k3:Int))) (V.ldL w3 k1 (0+4) λ p2 k5 k6=>V.ixs i k5 p2 λ k7 k8=>V.ldN w3 k7 (k8+Int.toNat i * 6) 6 λ vs=>V.rI prog .i64 80 #[.agg vs] w3 λ z W4=>V.nm (IntKind.wrap .i64 (t+z)) λ z2=>V.nm (IntKind.wrap .i64 (i+1)) λ z3 =>
     (∃ (j m:Nat) (r:Fo) (ws:List Value),z3=(j:Nat)/\z2=(m:Nat)/\Suf DA ks us j r ws/\r.sz≤ks.sz/\m+fl r=a+fl ks/\St W (λ _=>False) W4 [blk k1 (ae k s ln v (.slice q ks.len c) (.slice q2 m2 c2)).toArray 52])/\ks.len - z3.toNat<ks.len - i.toNat)
     ((.returned (.int .i64 t):Ending)= .returned (.int .i64 ((a+fl ks:Nat):Int))/\im W w3):=by
   rintro a ha i t w3 ⟨j,m,r,ws,rfl,rfl,hS,hrsz,hm,H3⟩;have hDA:=fc h H3.touch;refine⟨_,_,_,H3.ld 0 rfl (i:=4) rfl,?_⟩
   cases r with
   | nil =>
    obtain⟨-,pre, -, -,hl⟩:=hS;simp only[Fo.len] at hl;refine Sx.so (λ h1=>by have:=dt h1;omega) (λ _=>⟨?_,H3.touch⟩);simp only[fl] at hm;rw[show m=a+fl ks by omega]
   | cons k2 s2 ln2 v2 kids ns rest =>
    obtain⟨q3,c3,us1,q4,c4,ws',h1,h3,hj,h4,h5,hat⟩:=hS.next
    simp only[Fo.sz] at hrsz;simp only[fl] at hm;refine Sx.so (λ _=>?_) (λ h1=>by have:=df h1;omega);refine⟨_,_,_,H3.ld 0 rfl (i:=4) rfl,⟨by omega,by omega⟩,?_⟩;refine hat (hsl _ hDA) λ g o hc=>?_;rw[Int.toNat_natCast];refine⟨_,rfl,hc,?_⟩;refine H3.callq (ih kids (by omega) (by omega) h1 h4 hDA) λ w4 H4=>?_;refine⟨_,rfl,?_⟩;have:=Ut kids;rintro z2 rfl z3 rfl;rw[show((m:Nat):Int)+(((if k2=lx then 1 else 0)+fl kids:Nat):Int)=((m+((if k2=lx then 1 else 0)+fl kids):Nat):Int) by omega,Go.Bits.n64 (by split <;> omega),Jf (by omega)];exact⟨⟨j+1,_,rest,ws',rfl,rfl,h3,by omega,by omega,H4⟩,by omega⟩
  refine⟨k,H2.ld 0 rfl (i:=0) rfl,aq (λ hk=>?_) (λ hk=>?_)⟩
  ·rw[if_pos (show k=lx from hk)];exact⟨_,λ i _ _=>ks.len - i.toNat,⟨0,1,ks,us,rfl,rfl,Suf.start hV,Nat.le_refl _,rfl,H2⟩,λ _=>round 1 (by omega)⟩
  ·rw[if_neg (show ¬ k=lx from hk)];exact⟨_,λ i _ _=>ks.len - i.toNat,⟨0,0,ks,us,rfl,rfl,Suf.start hV,Nat.le_refl _,rfl,H2⟩,λ _=>round 0 (by omega)⟩
theorem Bd {a:Int} (h:E32 a):IntKind.wrap .i32 a=alu.sg a:=by
 obtain⟨h0,h1⟩:=h;unfold IntKind.wrap alu.sg;simp [IntKind.bits,IntKind.signed];split <;> split <;> omega
theorem afu {a:Int} (h:E32 a) : -2147483648≤alu.sg a/\alu.sg a≤2147483647:=by
 obtain⟨h0,h1⟩:=h;unfold alu.sg;split <;> omega
theorem afv {a b:Int} (ha : -2147483648≤a/\a≤2147483647) : -2147483648≤a.tdiv b/\a.tdiv b≤2147483648/\b * a.tdiv b=a - a.tmod b/\ -2147483648≤a.tmod b/\a.tmod b≤2147483648:=by
 have h1:(a.tdiv b).natAbs=a.natAbs / b.natAbs:=Int.natAbs_tdiv a b;have h2:(a.tmod b).natAbs=a.natAbs % b.natAbs:=Int.natAbs_tmod a b;have h3:a.natAbs / b.natAbs≤a.natAbs:=Nat.div_le_self _ _;have h4:a.natAbs % b.natAbs≤a.natAbs:=Nat.mod_le _ _;have h5:b * a.tdiv b+a.tmod b=a:=Int.mul_tdiv_add_tmod a b;refine⟨by omega,by omega,by omega,by omega,by omega⟩
theorem aao {x y:Int} (hx:E32 x) (hy:E32 y):tr (decide (IntKind.wrap .i32 x<IntKind.wrap .i32 y))=uI (alu.sltF x y):=by
 rw[Bd hx,Bd hy];unfold alu.sltF;by_cases h:alu.sg x<alu.sg y
 ·rw[if_pos h,decide_eq_true h];rfl
 ·rw[if_neg h,decide_eq_false h];rfl
theorem aap {x y:Int} (hx:E32 x) (hy:E32 y):tr (decide (IntKind.wrap .i32 x≤IntKind.wrap .i32 y))=uI (IntKind.wrap .u32 (1 - alu.sltF y x)):=by
 rw[Bd hx,Bd hy,Go.Sx.w32m];unfold alu.sltF;by_cases h:alu.sg y<alu.sg x
 ·rw[if_pos h,decide_eq_false (by omega)];rfl
 ·rw[if_neg h,decide_eq_true (by omega)];rfl
theorem Lv {s:ByteArray} (h:1≤ai s) (h1:s≠ofL [38,38]) (h2:s≠ofL [124,124]):s=ofL [124]∨s=ofL [94]∨s=ofL [38]∨s=ofL [61,61]∨s=ofL [33,61]∨s=ofL [60]∨s=ofL [60,61]∨s=ofL [62]∨s=ofL [62,61]∨s=ofL [60,60]∨s=ofL [62,62]∨s=ofL [43]∨s=ofL [45]∨s=ofL [42]∨s=ofL [47]∨s=ofL [37]:=by
 apply Classical.byContradiction;intro hn;simp only[not_or] at hn;obtain⟨a1,a2,a3,a4,a5,a6,a7,a8,a9,a10,a11,a12,a13,a14,a15,a16⟩:=hn;unfold ai at h;simp only[h1,h2,a1,a2,a3,a4,a5,a6,a7,a8,a9,a10,a11,a12,a13,a14,a15,a16,or_self,if_false] at h;omega
theorem afw {a:Int} (h:E32 a):RowKit.wrap32 a=alu.sg a:=by
 obtain⟨h0,h1⟩:=h;unfold RowKit.wrap32 alu.sg;split <;> omega
theorem ags (x y:Int):alu.execF 31 x y=alu.sltF x y:=rfl
theorem anm (x y:Int):alu.execF 30 x y=x * 2 ^ (y % 32).toNat % 4294967296:=rfl
theorem ann (x y:Int):alu.execF 35 x y=RowKit.wrap32 x / 2 ^ (y % 32).toNat % 4294967296:=rfl
theorem ano (x y:Int):alu.execF 28 x y=(x+y) % 4294967296:=rfl
theorem anp (x y:Int):alu.execF 29 x y=(x - y) % 4294967296:=rfl
theorem anq (x y:Int):alu.execF 38 x y=x * y % 4294967296:=rfl
theorem Yw {s:ByteArray}{a b:UInt32}{A B:Int}{w:World} (hop:s=ofL [47]∨s=ofL [37]) (sa : -2147483648≤A/\A≤2147483647) (sb : -2147483648≤B/\B≤2147483647) (hB:B≠0) (q47:opE (ofL [47]) a b=uI (A.tdiv B % 4294967296)) (q37:opE (ofL [37]) a b=uI (A.tmod B % 4294967296)) :
  V.nm (IntKind.wrap .i64 A) λ z20=>V.nm (IntKind.wrap .i64 B) λ z21=>z21≠0/\V.nm (IntKind.wrap .i64 (Int.tdiv z20 z21)) λ z22=>Sx.split (ByteArray.toList s==ByteArray.toList ⟨#[47]⟩) (V.nm (IntKind.wrap .u32 z22) λ z23=>(.returned (.int .u32 z23):Ending)= .returned (vU (opE s a b))/\w=w)
   (V.nm (IntKind.wrap .i64 A) λ z24=>V.nm (IntKind.wrap .i64 B) λ z25=>V.nm (IntKind.wrap .i64 (z22 * z25)) λ z26=>V.nm (IntKind.wrap .i64 (z24 - z26)) λ z27=>V.nm (IntKind.wrap .u32 z27) λ z28=>(.returned (.int .u32 z28):Ending)= .returned (vU (opE s a b))/\w=w):=by
 obtain⟨g1,g2,g3,g4,g5⟩:=afv (b:=B) sa;have eA:IntKind.wrap .i64 A=A:=Go.Sx.w64 (by omega) (by omega);have eB:IntKind.wrap .i64 B=B:=Go.Sx.w64 (by omega) (by omega);have eQ:IntKind.wrap .i64 (A.tdiv B)=A.tdiv B:=Go.Sx.w64 (by omega) (by omega)
 have eP:IntKind.wrap .i64 (A.tdiv B * B)=A - A.tmod B:=by rw[Int.mul_comm,g3];exact Go.Sx.w64 (by omega) (by omega)
 have eR:IntKind.wrap .i64 (A - (A - A.tmod B))=A.tmod B:=by rw[show A - (A - A.tmod B)=A.tmod B by omega];exact Go.Sx.w64 (by omega) (by omega)
 intro z20 h20 z21 h21;rw[eA] at h20;rw[eB] at h21;subst h20;subst h21;refine⟨hB,λ z22 h22=>?_⟩;rw[eQ] at h22;subst h22;refine aq (λ h=>?_) (λ n15=>?_)
 ·intro z23 h23;obtain rfl:s=ofL [47]:=h;rw[q47,Ik (Tz _),h23,Go.Sx.w32m];exact⟨rfl,rfl⟩
 ·obtain rfl:s=ofL [37]:=hop.resolve_left n15;intro z24 h24 z25 h25 z26 h26 z27 h27 z28 h28;rw[eA] at h24;rw[eB] at h25;subst h24;subst h25;rw[eP] at h26;subst h26;rw[eR] at h27;subst h27;rw[q37,Ik (Tz _),h28,Go.Sx.w32m];exact⟨rfl,rfl⟩
theorem oq0 (a b:UInt32):opE (ofL [124]) a b=uI (bits .or .u32 a.toNat b.toNat):=by kernel_rfl
theorem oq1 (a b:UInt32):opE (ofL [94]) a b=uI (bits .xor .u32 a.toNat b.toNat):=by kernel_rfl
theorem oq2 (a b:UInt32):opE (ofL [38]) a b=uI (bits .and .u32 a.toNat b.toNat):=by kernel_rfl
theorem oq3 (a b:UInt32):opE (ofL [61,61]) a b=tr (a==b):=by kernel_rfl
theorem oq4 (a b:UInt32):opE (ofL [33,61]) a b=tr (a !=b):=by kernel_rfl
theorem oq5 (a b:UInt32):opE (ofL [60]) a b=uI (alu.sltF a.toNat b.toNat):=by rw[<- ags];kernel_rfl
theorem oq6 (a b:UInt32):opE (ofL [60,61]) a b=uI (IntKind.wrap .u32 (1 - alu.sltF b.toNat a.toNat)):=by rw[<- ags];kernel_rfl
theorem oq7 (a b:UInt32):opE (ofL [62]) a b=uI (alu.sltF b.toNat a.toNat):=by rw[<- ags];kernel_rfl
theorem oq8 (a b:UInt32):opE (ofL [62,61]) a b=uI (IntKind.wrap .u32 (1 - alu.sltF a.toNat b.toNat)):=by rw[<- ags];kernel_rfl
theorem oq9 (a b:UInt32):opE (ofL [60,60]) a b=uI (alu.execF 30 a.toNat b.toNat):=by kernel_rfl
theorem anr (a b:UInt32):opE (ofL [62,62]) a b=uI (alu.execF 35 a.toNat b.toNat):=by kernel_rfl
theorem ans (a b:UInt32):opE (ofL [43]) a b=uI (alu.execF 28 a.toNat b.toNat):=by kernel_rfl
theorem ant (a b:UInt32):opE (ofL [45]) a b=uI (alu.execF 29 a.toNat b.toNat):=by kernel_rfl
theorem anu (a b:UInt32):opE (ofL [42]) a b=uI (alu.execF 38 a.toNat b.toNat):=by kernel_rfl
theorem anv (a b:UInt32):opE (ofL [47]) a b=uI (alu.quoF a.toNat b.toNat):=by kernel_rfl
theorem anw (a b:UInt32):opE (ofL [37]) a b=uI (alu.remF a.toNat b.toNat):=by kernel_rfl
theorem Yx {s:ByteArray} (hs:1≤ai s) (h1:s≠ofL [38,38]) (h2:s≠ofL [124,124]) (a b:UInt32) (w:World):Calls prog 79 #[.string s,vU a,vU b] w λ e w'=>e= .returned (vU (opE s a b))/\w'=w:=by
 have ha:=Bx a;have hb:=Bx b
 have ret:∀ {z:Int} {o:UInt32},E32 z->o=uI z->(.returned (.int .u32 z):Ending)= .returned (vU o):=λ hz ho=>by rw[ho,Ik hz]
 have trv:∀ (t:Bool) {o:UInt32},o=tr t->Calls prog 78 #[.bool t] w λ e w'=>∃ z:Int,e= .returned (.int .u32 z)/\((.returned (.int .u32 z):Ending)= .returned (vU o)/\w'=w):=λ t o ho=>(se t w).mono λ e w' h=>⟨_,h.1,by rw[ho];rfl,h.2⟩;refine akb s (a.toNat:Int) (b.toNat:Int) ?_;rintro z1 rfl z2 rfl;refine aq (λ h=>?_) (λ n1=>?_)
 ·obtain rfl:s=ofL [124]:=h;rintro z rfl;exact⟨ret (jz _) (oq0 a b),rfl⟩
 refine aq (λ h=>?_) (λ n2=>?_)
 ·obtain rfl:s=ofL [94]:=h;rintro z rfl;exact⟨ret (jz _) (oq1 a b),rfl⟩
 refine aq (λ h=>?_) (λ n3=>?_)
 ·obtain rfl:s=ofL [38]:=h;rintro z rfl;exact⟨ret (jz _) (oq2 a b),rfl⟩
 refine aq (λ h=>?_) (λ n4=>?_)
 ·obtain rfl:s=ofL [61,61]:=h;rw[agr];exact trv _ (oq3 a b)
 refine aq (λ h=>?_) (λ n5=>?_)
 ·obtain rfl:s=ofL [33,61]:=h;rw[aik];exact trv _ (oq4 a b)
 refine aq (λ h=>?_) (λ n6=>?_)
 ·obtain rfl:s=ofL [60]:=h;exact trv _ ((oq5 a b).trans (aao ha hb).symm)
 refine aq (λ h=>?_) (λ n7=>?_)
 ·obtain rfl:s=ofL [60,61]:=h;exact trv _ ((oq6 a b).trans (aap ha hb).symm)
 refine aq (λ h=>?_) (λ n8=>?_)
 ·obtain rfl:s=ofL [62]:=h;exact trv _ ((oq7 a b).trans (aao hb ha).symm)
 refine aq (λ h=>?_) (λ n9=>?_)
 ·obtain rfl:s=ofL [62,61]:=h;exact trv _ ((oq8 a b).trans (aap hb ha).symm)
 have hmod:Int.tmod (b.toNat:Int) 32=(b.toNat:Int) % 32:=Int.tmod_eq_emod_of_nonneg (by omega);have hmin:min (Int.toNat ((b.toNat:Int) % 32)) 32=((b.toNat:Int) % 32).toNat:=Nat.min_eq_left (by omega);refine aq (λ h=>?_) (λ n10=>?_)
 ·obtain rfl:s=ofL [60,60]:=h;refine⟨by decide,?_⟩;rintro z rfl;rw[hmod];refine⟨by omega,?_⟩;rintro z rfl;refine⟨ret (jz _) ?_,rfl⟩;rw[Go.Sx.w32m,show IntKind.bits .u32=32 from rfl,hmin];rw[oq9 a b,anm]
 refine aq (λ h=>?_) (λ n11=>?_)
 ·obtain rfl:s=ofL [62,62]:=h;refine⟨by decide,?_⟩;rintro z rfl;rw[hmod];refine⟨by omega,?_⟩;rintro z rfl z rfl;refine⟨ret (jz _) ?_,rfl⟩;rw[Go.Sx.w32m,show IntKind.bits .i32=32 from rfl,hmin,Bd ha,Int.fdiv_eq_ediv_of_nonneg _ (Int.pow_nonneg (by decide)),anr a b,ann,afw ha]
 refine aq (λ h=>?_) (λ n12=>?_)
 ·obtain rfl:s=ofL [43]:=h;rintro z rfl;refine⟨ret (jz _) ?_,rfl⟩;rw[Go.Sx.w32m];rw[ans a b,ano]
 refine aq (λ h=>?_) (λ n13=>?_)
 ·obtain rfl:s=ofL [45]:=h;rintro z rfl;refine⟨ret (jz _) ?_,rfl⟩;rw[Go.Sx.w32m];rw[ant a b,anp]
 refine aq (λ h=>?_) (λ n14=>?_)
 ·obtain rfl:s=ofL [42]:=h;rintro z rfl;refine⟨ret (jz _) ?_,rfl⟩;rw[Go.Sx.w32m];rw[anu a b,anq]
 have hop:s=ofL [47]∨s=ofL [37]:=by
  rcases Lv hs h1 h2 with h | h | h | h | h | h | h | h | h | h | h | h | h | h | h | h
  ·exact absurd h n1
  ·exact absurd h n2
  ·exact absurd h n3
  ·exact absurd h n4
  ·exact absurd h n5
  ·exact absurd h n6
  ·exact absurd h n7
  ·exact absurd h n8
  ·exact absurd h n9
  ·exact absurd h n10
  ·exact absurd h n11
  ·exact absurd h n12
  ·exact absurd h n13
  ·exact absurd h n14
  ·exact .inl h
  ·exact .inr h
 have q47:=anv a b;have q37:=anw a b
 have hne:ofL [37]≠ofL [47]:=by decide
 refine Sx.so (λ hz=>?_) (λ hz=>?_)
 ·have hz:(b.toNat:Int)=0:=beq_iff_eq.1 hz;refine aq (λ h=>?_) (λ n15=>?_)
  ·obtain rfl:s=ofL [47]:=h;refine⟨ret (Fs (by decide) (by decide)) ?_,rfl⟩;rw[q47];unfold alu.quoF;rw[if_pos hz]
  ·obtain rfl:s=ofL [37]:=hop.resolve_left n15;refine⟨ret ha ?_,rfl⟩;rw[q37];unfold alu.remF;rw[if_pos hz]
 ·have hz:¬ (b.toNat:Int)=0:=beq_eq_false_iff_ne.1 hz;have sa:=afu ha;have sb:=afu hb
  have hsb:alu.sg (b.toNat:Int)≠0:=by
   have:=hb.1;have:=hb.2;unfold alu.sg;split <;> omega
  have qa:alu.quoF a.toNat b.toNat=(alu.sg (a.toNat:Int)).tdiv (alu.sg (b.toNat:Int)) % 4294967296:=by unfold alu.quoF;rw[if_neg hz]
  have ra:alu.remF a.toNat b.toNat=(alu.sg (a.toNat:Int)).tmod (alu.sg (b.toNat:Int)) % 4294967296:=by unfold alu.remF;rw[if_neg hz]
  rw[qa] at q47;rw[ra] at q37;rw[Bd ha,Bd hb];generalize alu.sg (a.toNat:Int)=A at *;generalize alu.sg (b.toNat:Int)=B at *;exact Yw hop sa sb hsb q47 q37
variable {W w0 w:World}{M:Nat->Prop}{L:List Asn}{X:Xw}{h:Hw}{S:Ws}{F:Ft}{lk:Lk}{nw:Nat}{r:Rw}
structure Gx (X:Xw) (F:Ft) (lk:Lk) (nw:Nat):Prop where
 x:XOk X
 d:∀ d ∈ X.ds,DOk d/\d.nok
 s:LkS F lk X.ds
 f:LkF F nw lk
 n:nw≤1000
structure Env (Ls:Lcs) (n N:Nat) (nw:Nat) (r:Rw):Prop where
 sc:Sc Ls n
 nN:n≤N
 l:Ls.length≤n/\n≤24
 g:∃ s,Gi Ls N s r
 w:r.words.length=nw
 s:r.steps≤20000
 o:r.out.length+r.steps≤20000
 r:r.room≤512
theorem Env.names {Ls:Lcs}{n N:Nat} (E:Env Ls n N nw r):r.locals.map Prod.fst=Ls.map Prod.fst/\r.locals.length=Ls.length:=by
 obtain⟨s,⟨-, -, -, -,e⟩, -⟩:=E.g;rw[e];unfold dy;exact⟨by rw[List.map_map];rfl,by simp⟩
theorem Env.nodup {Ls:Lcs}{n N:Nat} (E:Env Ls n N nw r):(r.locals.map Prod.fst).Nodup:=by rw[E.names.1];exact E.sc.1
theorem Env.step {Ls:Lcs}{n N:Nat} (E:Env Ls n N nw r):Env Ls n N nw { r with steps:=r.steps - 1 }:=by
 obtain⟨s,⟨e1,e2,e3,e4,e5⟩,e6⟩:=E.g;exact⟨E.sc,E.nN,E.l,⟨{ s with steps:=s.steps - 1 },⟨e1,e2,by simp only;rw[e3],e4,e5⟩,e6⟩,E.w,by have:=E.s;show r.steps - 1≤20000;omega,by have:=E.o;show r.out.length+(r.steps - 1)≤20000;omega,E.r⟩
theorem Lw {X:Xw} (G:Gx X F lk nw){Ls:Lcs}{n N f:Nat}{x x':T}{v:List UInt32}{r1:Rw} (E:Env Ls n N nw r) (hx:gd lk Ls x= .ok x') (hr:rgo opE X.ds f (.e x) r= .ok v r1):Env Ls n N nw r1:=by
 obtain⟨s,hrel⟩:=E.g;have hsim:=(abw (E:=opE) G.s f).e x x' Ls N s r hx (E.sc.mono E.nN) hrel;rw[hr] at hsim
 cases hg:go opE F f (.e x') s with
 | ok u s1 =>
  rw[hg] at hsim;obtain⟨-,h1⟩:=hsim;have hf:=gk hg;obtain⟨⟨a1,a2,a3,a4,a5⟩,a6⟩:=h1;obtain⟨⟨b1,b2,b3,b4,b5⟩,b6⟩:=hrel;refine⟨E.sc,E.nN,E.l,⟨s1,⟨a1,a2,a3,a4,a5⟩,a6⟩,?_,?_,?_,?_⟩
  ·rw[a1,hf.2.2.1,<- b1];exact E.w
  ·rw[a3];have:=hf.1;have:=E.s;rw[b3] at this;omega
  ·rw[a2,a3];have:=hf.2.2.2.2.1;have:=E.o;rw[b2,b3] at this;omega
  ·rw[a4,hf.2.2.2.1,<- b4];exact E.r
 | stop k s1=>rw[hg] at hsim;exact hsim.elim
 | out=>rw[hg] at hsim;exact hsim.elim
structure Dd (S:Ws) (k:Nat) (r:Rw) (n0:Nat):Prop where
 w:S.words=r.words
 o:S.out=r.out
 z:k=0->S.over=true/\S.fault=0
 p:k≠0->S.fault=(k:Nat)/\S.over=false
 l:n0≤S.locals.length
theorem Dd.stop {k n0:Nat} (D:Dd S k r n0):S.stop=true:=by
 unfold Ws.stop;by_cases hk:k=0
 ·rw[(D.z hk).1,Bool.or_true]
 ·rw[(D.p hk).1]
  have:(((k:Nat):Int) !=0)=true:=by rw[bne_iff_ne];omega
  rw[this,Bool.true_or]
theorem yl (r:Rw):(liv r).stop=false:=rfl
def qe (X:Xw) (W0:World) (M:Nat->Prop) (L:List Asn) (n0:Nat) (R:Rs Rw) (e:Ending) (w':World):Prop:=match R with
 | .ok v r'=>e= .returned (vU (hd v))/\∃ h',St W0 M w' (wsA X h' (liv r')::L)
 | .stop k r'=>∃ u,e= .returned (vU u)/\∃ h' S',St W0 M w' (wsA X h' S'::L)/\Dd S' k r' n0
 | .out=>False
theorem dk (x:T) (h:x.ok 0=true∨x.ok 2=true):∃ k s ln v ks ns,∀ r,toF x r= .cons k s ln v ks ns r:=by
 cases x with
 | nil=>simp [T.ok] at h
 | cons=>simp [T.ok] at h
 | _=>exact⟨_,_,_,_,_,_,λ r=>rfl⟩
theorem dd {DA:Asn}{x:T}{rest:Fo}{us:List Value} (hx:x.ok 0=true∨x.ok 2=true) (h:isV DA (toF x rest) us):∃ vs ws,us=vs++ws/\vs.length=6/\isV DA (toF x .nil) vs/\isV DA rest ws/\∀ v ∈ vs,v.oneCell'=true:=by
 obtain⟨k,s,ln,v,ks,ns,e⟩:=dk x hx;rw[e] at h;obtain⟨q,c,us1,q2,c2,ws,h1,h2,rfl,h3,h4⟩:=h;refine⟨_,ws,rfl,rfl,?_,h2,af⟩;rw[e];exact⟨q,c,us1,q2,c2,[],h1,rfl,by simp,h3,h4⟩
theorem mj {w:World}{q:Option Addr}{m c:Nat}{us pre vs post:List Value} (h:Sl w 52 6 (.slice q m c) m us) (hx:us=pre++(vs++post)){j:Nat} (hp:pre.length=j * 6) (hl:vs.length=6){φ:Nat->Nat->Prop} (hφ:∀ g o,Sx.cellsAt w ⟨g,o+j * 6,none⟩ vs.toArray->φ g o):Sx.adr q φ:=adg h hx hp hl (by decide) hφ
theorem jk {s t:ByteArray}{A B:Prop} (hn:s≠t) (hb:B):Sx.split (ByteArray.toList s==ByteArray.toList t) A B:=aq (λ e=>absurd e hn) (λ _=>hb)
theorem Pw {s t:ByteArray}{A B:Prop} (hn:s=t) (ha:A):Sx.split (ByteArray.toList s==ByteArray.toList t) A B:=aq (λ _=>ha) (λ e=>absurd hn e)
theorem Uw {A B:Asn}{L:List Asn}:(A::L++[B])[L.length+1]?=some B:=by simp
theorem adj {A B C:Asn}{L:List Asn}:(A::L++[B]).set (L.length+1) C=A::L++[C]:=by simp
def Bf (S:Ws) (z:Int) (i:UInt32):Ws:=if S.stop=false/\z≤((i.toNat:Nat):Int) then { S with fault:=1 } else S
theorem Nt [Inhabited G3o]{s tn:ByteArray}{tk:Tok}{wd z:Int}{i:UInt32} (G:Gx X F lk nw) (hd:sq X.ds s=some (.var tk tn wd z)) (hp:bl X.ds s≤1000) (H:St w0 M W (wsA X h S::L)) :
  Calls prog 77 #[pt X.b,.string s,vU i] W λ e w'=>e= .returned (.int .i64 (if (Bf S z i).stop then ((bl X.ds s:Nat):Int) else ((bl X.ds s+i.toNat:Nat):Int)))/\St w0 M w' (wsA X h (Bf S z i)::L):=by
 refine akc X.b 0 s (i.toNat:Int) ?_;refine(Ji G.x hd (H.nth 0 rfl)).mono ?_;rintro _ w2 ⟨hh,vs,rfl,hV,hl6,hone⟩;have H2:=H.quiet hh;obtain⟨k0,ln,v,ks,ns,e1,e2⟩:=Gb (.var tk tn wd z);obtain⟨rfl,rfl⟩:=e2;rw[e1] at hV;obtain⟨q,c,us1,q2,c2,ws, -,hws,rfl, -, -⟩:=hV;have hws:ws=[]:=hws;subst hws;refine⟨_,rfl,H2.al λ k w3 H3=>?_⟩;refine H3.sts0 (L.length+1) (n:=6) Uw (by simpa using hl6) rfl (by simpa using hone) λ w4 H4=>?_;rw[adj] at H4;refine(fy (H4.nth 0 rfl)).mono ?_;rintro _ _ ⟨rfl,rfl⟩;have hD:=(G.d _ (List.mem_of_find?_eq_some hd)).1;have hz:0≤v/\v≤256:=hD;refine⟨_,rfl,λ w=>St w0 M w (wsA X h (Bf S v i)::L),?_,λ _ w5 H5=>?_⟩
 ·refine⟨v,H4.ld (L.length+1) (i:=3) Uw rfl,Sx.so (λ hi=>?_) (λ hi=>?_)⟩
  ·have hi:=dt hi;refine Sx.so (λ hs=>?_) (λ hs=>?_)
   ·have hs:S.stop=false:=by simpa using hs
    have e:Bf S v i={ S with fault:=1 }:=by unfold Bf;rw[if_pos ⟨hs,hi⟩]
    rw[e];have H6:=ax H4;refine H6.st 0 rfl (i:=5) (by simp [wsC]) λ w6 H7=>?_;have H8:=St.shut (L:=wsL X h { S with fault:=1 }) (L':=L++[_]) H7;exact H8.sub (L:=wsA X h { S with fault:=1 }::L) (L':=[_])
   ·have hs:S.stop=true:=by simpa using hs
    have e:Bf S v i=S:=by unfold Bf;rw[if_neg (λ h=>by rw[hs] at h;cases h.1)]
    rw[e];exact H4.sub (L:=wsA X h S::L) (L':=[_])
  ·have hi:=df hi
   have e:Bf S v i=S:=by unfold Bf;rw[if_neg (λ h=>hi (by have:=h.2;omega))]
   rw[e];exact H4.sub (L:=wsA X h S::L) (L':=[_])
 ·refine(wu G.x (λ d hd=>(G.d d hd).1) (by omega) (H5.nth 0 rfl)).mono ?_;rintro _ _ ⟨rfl,rfl⟩;refine⟨_,rfl,?_⟩;refine(fy (H5.nth 0 rfl)).mono ?_;rintro _ _ ⟨rfl,rfl⟩;refine⟨_,rfl,Sx.so (λ hs=>?_) (λ hs=>?_)⟩
  ·rw[if_pos hs];exact⟨rfl,H5⟩
  ·rw[if_neg (by rw[hs];exact Bool.false_ne_true)];rintro z3 rfl z4 rfl;have:=i.toNat_lt;rw[Go.Bits.n64 (by omega),show((bl X.ds s:Nat):Int)+((i.toNat:Nat):Int)=((bl X.ds s+i.toNat:Nat):Int) by omega,Go.Bits.n64 (by omega)];exact⟨rfl,H5⟩
theorem Px [Inhabited G3o]{tk:Tok}{nm:ByteArray}{ps:List ByteArray}{s0 no:Int}{b:T}{vs:List Value}{W:World} (hd:DOk (.fn tk nm ps s0 no b)) (hV:isV X.DA (toD [.fn tk nm ps s0 no b] .nil) vs) (hA:X.DA.at_ W):Calls prog 43 #[.agg vs.toArray] W λ e w'=>e= .returned (.int .i64 ((10+(ps.length+lets b):Nat):Int))/\im W w':=by
 obtain⟨hs0,hp6,hok,hsz⟩:=hd;obtain⟨q,c,us1,q2,c2,ws,h1,hws,rfl,h3,h4⟩:=hV;have hws:ws=[]:=hws;subst hws;refine akd _ ?_;refine(St.nil W).al λ k w2 H2=>?_
 have H2:St W (λ _=>False) w2 [blk k (ae da nm tk.line 0 (.slice q (toF b .nil).len c) (.slice q2 ps.length c2)).toArray 52]:=by
  have:(ae da nm tk.line 0 (.slice q (toF b .nil).len c) (.slice q2 ps.length c2)++[])=ae da nm tk.line 0 (.slice q (toF b .nil).len c) (.slice q2 ps.length c2):=List.append_nil _;rw[<- this];exact H2
 have hDA:=fc hA H2.touch;obtain⟨kb,sb,lnb,vb,ksb,nsb,eb⟩:=dk b (.inr hok);have e0:=eb .nil
 have hlen:(toF b .nil).len=1:=by rw[e0];rfl
 have hfl:(if kb=lx then 1 else 0)+fl ksb=lets b:=by
  have:=(fi b).2 (.inl hok) .nil;rw[e0] at this;simpa [fl] using this
 have hszF:(toF b .nil).sz≤1000000:=by
  have:=ok0_cons.toF_sz b .nil;simp only[Fo.sz] at this;omega
 rw[e0] at h1 hszF;obtain⟨qb,cb,usb,qb2,cb2,wsb,g1,g2,rfl,g3,g4⟩:=h1;have hsl:=h3 _ hDA;rw[hlen] at hsl
 have H2:St W (λ _=>False) w2 [blk k (ae da nm tk.line 0 (.slice q 1 c) (.slice q2 ps.length c2)).toArray 52]:=by rw[hlen] at H2;exact H2
 refine⟨_,_,_,H2.ld 0 rfl (i:=4) rfl,⟨by decide,by decide⟩,?_⟩;refine mj (pre:=[]) (j:=0) (vs:=ae kb sb lnb vb (.slice qb ksb.len cb) (.slice qb2 nsb.length cb2)) (post:=wsb) hsl (by simp) rfl rfl λ g o hc=>?_;refine⟨_,rfl,hc,?_⟩;simp only[Fo.sz] at hszF;refine H2.callq (Uv _ ksb (Nat.le_refl _) (by omega) g1 g3 hDA) λ w3 H3=>?_;refine⟨_,rfl,_,_,_,H3.ld 0 rfl (i:=5) rfl,?_⟩;rw[hfl];have:=Ut ksb;rintro z2 rfl z3 rfl;rw[show(10:Int)+((ps.length:Nat):Int)=((10+ps.length:Nat):Int) by omega,Go.Bits.n64 (by omega),show((10+ps.length:Nat):Int)+((lets b:Nat):Int)=((10+(ps.length+lets b):Nat):Int) by omega,Go.Bits.n64 (by rw[<- hfl];split <;> omega)];exact⟨rfl,H3.touch⟩
end Go.Proofs.YtojogkljneonmaaGreatDoor
