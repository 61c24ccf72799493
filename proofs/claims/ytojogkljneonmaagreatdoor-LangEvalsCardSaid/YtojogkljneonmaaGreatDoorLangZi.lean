/- The reference's checker in plain Lean, over rows of nodes; it says what the plain checker says. No condition. -/
import Derived.Test.YtojogkljneonmaaGreatDoorLangRg
import Derived.Test.YtojogkljneonmaaGreatDoorLangZd
import Derived.Test.YtojogkljneonmaaGreatDoorLangX
set_option linter.unusedVariables false
set_option linter.unusedSimpArgs false
namespace Go.Lang
abbrev Gf:=ByteArray->Option (ByteArray×Int×Nat)
def aj:Fo->Gf
 | .nil,_=>none
 | .cons k n _ v _ ns r,s=>if n=s then some (k,v,ns.length) else aj r s
def jy (Ls:List ByteArray) (s:ByteArray):Bool:=Ls.any λ t=>decide (t=s)
theorem hasN_iff {Ls:List ByteArray}{s:ByteArray}:jy Ls s=true↔s ∈ Ls:=by
 unfold jy;rw[List.any_eq_true];exact⟨λ ⟨t,h,e⟩=>(of_decide_eq_true e) ▸ h,λ h=>⟨s,h,decide_eq_true rfl⟩⟩
def fsc (g:Gf) (Ls:List ByteArray) (s:ByteArray) (line:Int):C Unit :=
 if jy Ls s then .ok () else match g s with
  | some (k,v,_)=>if k≠mb then .err line 9 else if 0<v then .err line 9 else .ok ()
  | none=>.err line 9
def Br (g:Gf) (Ls:List ByteArray) (s:ByteArray) (line:Int):C Unit :=
 if jy Ls s then .err line 9 else match g s with
  | some (k,v,_)=>if k≠mb then .err line 9 else if v=0 then .err line 9 else .ok ()
  | none=>.err line 9
def Jw (g:Gf) (Ls:List ByteArray) (s:ByteArray) (line:Int) (m:Nat):C Unit :=
 if jy Ls s then .err line 9 else match g s with
  | some (k,_,np)=>if k≠da then .err line 9 else if np≠m then .err line 9 else .ok ()
  | none=>.err line 9
def gu (g:Gf) (Ls:List ByteArray) (k s:ByteArray) (line:Int) (m:Nat):C Unit :=
 if k=sx then fsc g Ls s line else if k=jo then Br g Ls s line else if k=ip then Jw g Ls s line m else .ok ()
def bx (g:Gf) (Ls:List ByteArray):Fo->C Unit
 | .nil=>.ok ()
 | .cons k s line _ ks _ r=>(gu g Ls k s line ks.len).bind λ _=>(bx g Ls ks).bind λ _=>bx g Ls r
def ay (k s:ByteArray):Bool:=decide (k=ip)||(decide (k=sm)&&(!decide (s=ofL [38,38]))&& !decide (s=ofL [124,124]))
def ca (plus:Bool):Fo->Nat->Nat
 | .nil,_=>1
 | .cons k s _ _ ks _ r,i=>max (ca (ay k s) ks 0+if plus then i else 0) (ca plus r (i+1))
def eu (g:Gf) (Ls:List ByteArray) (beside:Nat):Fo->C Unit
 | .nil=>.ok ()
 | .cons k s line _ ks _ _=>(gu g Ls k s line ks.len).bind λ _=>(bx g Ls ks).bind λ _=>if 8<ca (ay k s) ks 0+beside then .err line 4 else .ok ()
def tg (g:Gf) (Ls:List ByteArray) (n:Nat) (line:Int) (s:ByteArray):C (List ByteArray×Nat) :=
 if (g s).isSome||jy Ls s then .err line 9 else if 24<n+1 then .err line 4 else .ok (Ls++[s],n+1)
def Qg (g:Gf) (Ls:List ByteArray) (k s:ByteArray) (line:Int):C Unit :=
 if k=xo then fsc g Ls s line else if k=ly then Br g Ls s line else .ok ()
def Fo.tl:Fo->Fo
 | .nil=>.nil
 | .cons _ _ _ _ _ _ r=>r
def Fo.sz:Fo->Nat
 | .nil=>0
 | .cons _ _ _ _ ks _ r=>ks.sz+r.sz+1
theorem Fo.tl_le (f:Fo):f.tl.sz≤f.sz:=by
 cases f with
 | nil=>exact Nat.le_refl _
 | cons=>simp only[Fo.tl,Fo.sz];omega
def gw (g:Gf):Fo->List ByteArray->Nat->C (List ByteArray×Nat)
 | .nil,Ls,n=>.ok (Ls,n)
 | .cons k s line v ks ns r,Ls,n =>
  (if k=bh then (gw g ks Ls n).bind λ p=>.ok (Ls,p.2)
   else (Qg g Ls k s line).bind λ _=>(eu g Ls 0 ks).bind λ _ =>
    if k=lx then tg g Ls n line s
    else if k=ly then (eu g Ls 1 ks.tl).bind λ _=>.ok (Ls,n)
    else if k=cIf∨k=dx then gw g ks.tl Ls n
    else .ok (Ls,n)).bind λ p=>gw g r p.1 p.2
termination_by f=>f.sz
decreasing_by
 all_goals simp only[Fo.sz]
 all_goals (try have:=Fo.tl_le ks)
 all_goals omega
def Ep (g:Gf) (line:Int):List ByteArray->List ByteArray->Nat->C (List ByteArray×Nat)
 | [],Ls,n=>.ok (Ls,n)
 | p::ps,Ls,n=>(tg g Ls n line p).bind λ q=>Ep g line ps q.1 q.2
def fcr (g:Gf):List ByteArray->Nat->Fo->C Unit
 | _,_,.nil=>.ok ()
 | seen,w,.cons k s line v ks ns r =>
  (if jy seen s then .err line 9 else if k=mb then (if 512<w+(if v=0 then 1 else v.toNat) then .err line 1 else .ok ())
   else (Ep g line ns [] 0).bind λ p=>(gw g ks p.1 p.2).bind λ _=>.ok ()).bind λ _=>fcr g (seen++[s]) (w+(if k=mb then (if v=0 then 1 else v.toNat) else v.toNat)) r
def me (f:Fo):C Unit:=(fcr (aj f) [] 0 f).bind λ _=>match aj f ef with
 | some (k,_,np)=>if k≠da then .err 0 9 else if 0<np then .err 0 9 else .ok ()
 | none=>.err 0 9
def C.er {α:Type}:C α->C Unit
 | .ok _=>.ok ()
 | .err l e=>.err l e
def Sy (lk:Lk) (g:Gf):Prop:=∀ s,match lk s with
 | none=>g s=none
 | some (.var _ z)=>∃ m,g s=some (mb,z,m)
 | some (.fn _ np)=>∃ v,g s=some (da,v,np)
theorem fg (Ls:Lcs) (s:ByteArray):0≤bf Ls s↔jy (Ls.map Prod.fst) s=true:=by
 rw[hasN_iff];unfold bf
 cases h:Ls.find? λ p=>decide (p.1=s) with
 | some p =>
  have h1:=List.mem_of_find?_eq_some h;have h2:=List.find?_some h;simp only[decide_eq_true_eq] at h2;exact⟨λ _=>List.mem_map.2 ⟨p,h1,h2⟩,λ _=>by show(0:Int)≤(p.2:Int);omega⟩
 | none =>
  rw[List.find?_eq_none] at h;refine⟨λ h=>by exact absurd h (by show ¬ (0:Int)≤ -1;omega),λ h2=>?_⟩;obtain⟨p,hp,e⟩:=List.mem_map.1 h2;exact absurd (by simpa using e) (h p hp)
variable {lk:Lk}{g:Gf}
theorem Zx (hR:Sy lk g) (Ls:Lcs) (t:Tok) (w:Int):fsc g (Ls.map Prod.fst) t.s t.line=(sj lk Ls t w).er:=by
 unfold fsc sj;have:=hR t.s;by_cases h:0≤bf Ls t.s
 ·rw[if_pos h,if_pos ((fg Ls t.s).1 h)];rfl
 ·rw[if_neg h,if_neg (λ e=>h ((fg Ls t.s).2 e))]
  cases hl:lk t.s with
  | none=>rw[hl] at this;rw[this];rfl
  | some x =>
   rw[hl] at this
   cases x with
   | var wd z =>
    obtain⟨m,hg⟩:=this;rw[hg];simp only[ne_eq,not_true_eq_false,if_false];by_cases hz:0<z
    ·rw[if_pos hz,if_pos hz];rfl
    ·rw[if_neg hz,if_neg hz];rfl
   | fn k np =>
    obtain⟨v,hg⟩:=this;rw[hg];simp only;rw[if_pos (by decide)];rfl
theorem Sz (hR:Sy lk g) (Ls:Lcs) (t:Tok):Br g (Ls.map Prod.fst) t.s t.line=(Km lk Ls t).er:=by
 unfold Br Km;have:=hR t.s;by_cases h:0≤bf Ls t.s
 ·rw[if_pos ((fg Ls t.s).1 h)]
  cases hl:lk t.s with
  | none=>rfl
  | some x =>
   cases x with
   | var wd z =>
    simp only;by_cases hz:z=0
    ·rw[if_pos hz];rfl
    ·rw[if_neg hz,if_pos h];rfl
   | fn k np=>rfl
 ·rw[if_neg (λ e=>h ((fg Ls t.s).2 e))]
  cases hl:lk t.s with
  | none=>rw[hl] at this;rw[this];rfl
  | some x =>
   rw[hl] at this
   cases x with
   | var wd z =>
    obtain⟨m,hg⟩:=this;rw[hg];simp only[ne_eq,not_true_eq_false,if_false];by_cases hz:z=0
    ·rw[if_pos hz,if_pos hz];rfl
    ·rw[if_neg hz,if_neg hz,if_neg h];rfl
   | fn k np =>
    obtain⟨v,hg⟩:=this;rw[hg];simp only;rw[if_pos (by decide)];rfl
theorem ut:∀ (plus:Bool) (f:Fo) (i:Nat),ca plus f i≤f.sz+i+1
 | plus,.nil,i=>by simp only[ca,Fo.sz];omega
 | plus,.cons k s l v ks ns r,i=>by
  have h1:=ut (ay k s) ks 0;have h2:=ut plus r (i+1);simp only[ca,Fo.sz];split <;> omega
theorem Fo.len_le:∀ (f:Fo),f.len≤f.sz
 | .nil=>Nat.le_refl _
 | .cons _ _ _ _ ks _ r=>by
  have:=Fo.len_le r;simp only[Fo.len,Fo.sz];omega
theorem zw:∀ (plus:Bool) (f:Fo) (i:Nat),1≤ca plus f i
 | plus,.nil,i=>Nat.le_refl _
 | plus,.cons k s l v ks ns r,i=>by
  have h2:=zw plus r (i+1);simp only[ca];omega
def xp (g:Gf) (k s:ByteArray) (line:Int) (ks:Fo) (Ls:List ByteArray) (n:Nat):C (List ByteArray×Nat) :=
 if k=bh then (gw g ks Ls n).bind λ p=>.ok (Ls,p.2)
 else (Qg g Ls k s line).bind λ _=>(eu g Ls 0 ks).bind λ _ =>
  if k=lx then tg g Ls n line s
  else if k=ly then (eu g Ls 1 ks.tl).bind λ _=>.ok (Ls,n)
  else if k=cIf∨k=dx then gw g ks.tl Ls n
  else .ok (Ls,n)
theorem gl (g:Gf) (k s:ByteArray) (line v:Int) (ks:Fo) (ns:List ByteArray) (r:Fo) (Ls:List ByteArray) (n:Nat):gw g (.cons k s line v ks ns r) Ls n=(xp g k s line ks Ls n).bind λ p=>gw g r p.1 p.2:=by
 rw[gw];rfl
theorem lg (g:Gf) (Ls:List ByteArray) (n:Nat):gw g .nil Ls n= .ok (Ls,n):=by rw[gw]
def fok:Fo->Prop
 | .nil=>True
 | .cons k _ _ _ ks _ r=>(k≠bh->ks≠ .nil/\(k=ly->ks.tl≠ .nil))/\(k=bh->fok ks)/\(k=cIf∨k=dx->fok ks.tl)/\fok r
termination_by f=>f.sz
decreasing_by
 all_goals simp only[Fo.sz]
 all_goals (try have:=Fo.tl_le ks)
 all_goals omega
theorem wb (g:Gf):∀ (N:Nat) (f:Fo),f.sz<N->∀ (Ls Ls':List ByteArray) (n n':Nat),gw g f Ls n= .ok (Ls',n')->Ls.length≤n->n≤24->(∃ ex,Ls'=Ls++ex)/\Ls'.length≤n'/\n'≤24
 | 0,f,h,_,_,_,_,_,_,_=>by omega
 | N+1,.nil,h,Ls,Ls',n,n',he,h1,h2=>by
  rw[lg] at he;cases he;exact⟨⟨[],by simp⟩,h1,h2⟩
 | N+1,.cons k s ln v ks ns r,h,Ls,Ls',n,n',he,h1,h2=>by
  simp only[Fo.sz] at h;rw[gl] at he;obtain⟨p,ho,hr⟩:=C.bind_ok he
  have key:(∃ ex,p.1=Ls++ex)/\p.1.length≤p.2/\p.2≤24:=by
   unfold xp at ho;split at ho
   ·obtain⟨q,hq,ho⟩:=C.bind_ok ho;cases ho;obtain⟨⟨ex,a⟩,b,c⟩:=wb g N ks (by omega) Ls q.1 n q.2 hq h1 h2;rw[a,List.length_append] at b;exact⟨⟨[],by simp⟩,by show Ls.length≤q.2;omega,c⟩
   ·obtain⟨-, -,ho⟩:=C.bind_ok ho;obtain⟨-, -,ho⟩:=C.bind_ok ho;split at ho
    ·unfold tg at ho;split at ho
     ·cases ho
     ·split at ho
      ·cases ho
      ·cases ho;exact⟨⟨[s],rfl⟩,by simp;omega,by show n+1≤24;omega⟩
    ·split at ho
     ·obtain⟨-, -,ho⟩:=C.bind_ok ho;cases ho;exact⟨⟨[],by simp⟩,h1,h2⟩
     ·split at ho
      ·have:=Fo.tl_le ks;exact wb g N ks.tl (by omega) Ls p.1 n p.2 ho h1 h2
      ·cases ho;exact⟨⟨[],by simp⟩,h1,h2⟩
  obtain⟨⟨ex,a⟩,b,c⟩:=key;obtain⟨⟨ex2,a2⟩,b2,c2⟩:=wb g N r (by omega) p.1 Ls' p.2 n' hr b c;exact⟨⟨ex++ex2,by rw[a2,a,List.append_assoc]⟩,b2,c2⟩
def Fo.drop:Nat->Fo->Fo
 | 0,f=>f
 | _+1,.nil=>.nil
 | n+1,.cons _ _ _ _ _ _ r=>r.drop n
def lh:Fo->List ByteArray
 | .nil=>[]
 | .cons _ s _ _ _ _ r=>s::lh r
def wv (k:ByteArray) (v:Int):Nat:=if k=mb then (if v=0 then 1 else v.toNat) else v.toNat
def fwn:Nat->Fo->Nat
 | 0,_=>0
 | _+1,.nil=>0
 | n+1,.cons k _ _ v _ _ r=>wv k v+fwn n r
def dok:Fo->Prop
 | .nil=>True
 | .cons k _ _ v ks ns r=>(0≤v/\v≤256)/\(k≠mb->ks≠ .nil/\ks.tl= .nil/\fok ks/\ks.sz≤1000000)/\ns.length≤100/\dok r
theorem uu:∀ (j:Nat) (f:Fo),j<f.len->dok f->∃ k s ln v ks ns r,f.drop j= .cons k s ln v ks ns r/\f.drop (j+1)=r/\(lh f)[j]?=some s/\fwn (j+1) f=fwn j f+wv k v/\dok (.cons k s ln v ks ns r)
 | _,.nil,h,_=>by simp only[Fo.len] at h;omega
 | 0,.cons k s ln v ks ns r,h,hd=>⟨k,s,ln,v,ks,ns,r,rfl,rfl,rfl,by simp only[fwn];omega,hd⟩
 | j+1,.cons k s ln v ks ns r,h,hd=>by
  simp only[Fo.len] at h;rw[dok] at hd;obtain⟨k2,s2,ln2,v2,ks2,ns2,r2,a,b,c,d,e⟩:=uu j r (by omega) hd.2.2.2;refine⟨k2,s2,ln2,v2,ks2,ns2,r2,a,b,by simpa [lh] using c,?_,e⟩;show wv k v+fwn (j+1) r=wv k v+fwn j r+wv k2 v2;rw[d];omega
theorem Mt:∀ (f:Fo),f.drop f.len= .nil
 | .nil=>rfl
 | .cons _ _ _ _ _ _ r=>Mt r
theorem Zy:∀ (j:Nat) (f:Fo),dok f->fwn j f≤j * 256
 | 0,f,_=>by simp [fwn]
 | j+1,.nil,_=>by simp [fwn]
 | j+1,.cons k s ln v ks ns r,h=>by
  rw[dok] at h;have:=Zy j r h.2.2.2;have hv:=h.1;simp only[fwn,wv];split
  ·split <;> omega
  ·omega
def Er (g:Gf) (seen:List ByteArray) (w:Nat) (k s:ByteArray) (line:Int) (v:Int) (ks:Fo) (ns:List ByteArray):C Unit :=
 if jy seen s then .err line 9 else if k=mb then (if 512<w+wv k v then .err line 1 else .ok ())
 else (Ep g line ns [] 0).bind λ p=>(gw g ks p.1 p.2).bind λ _=>.ok ()
theorem Es (g:Gf) (seen:List ByteArray) (w:Nat) (k s:ByteArray) (line v:Int) (ks:Fo) (ns:List ByteArray) (r:Fo):fcr g seen w (.cons k s line v ks ns r)=(Er g seen w k s line v ks ns).bind λ _=>fcr g (seen++[s]) (w+wv k v) r:=by
 rw[fcr];unfold Er wv;by_cases h1:jy seen s=true
 ·rw[if_pos h1,if_pos h1]
 ·rw[if_neg h1,if_neg h1];by_cases h2:k=mb
  ·simp only[if_pos h2]
  ·simp only[if_neg h2]
variable {lk:Lk}{g:Gf}
theorem ok0_cons:∀ (x:T),x.ok 0=true->∃ k s v ks,(∀ r,toF x r= .cons k s (match x with | .num _ l=>l | x=>zm x) v ks [] r)/\ks.sz+1≤x.sz
 | .num v l,_=>⟨_,_,_,_,λ r=>rfl,by simp [Fo.sz,T.sz]⟩
 | .name t _ _,_=>⟨_,_,_,_,λ r=>rfl,by simp [Fo.sz,T.sz]⟩
 | .index t _ _ p,h=>⟨_,_,_,_,λ r=>rfl,by have:=toF_sz p .nil;simp only[Fo.sz,T.sz] at *;omega⟩
 | .call t _ xs,h=>⟨_,_,_,_,λ r=>rfl,by have:=toF_sz xs .nil;simp only[Fo.sz,T.sz] at *;omega⟩
 | .un t x,h=>⟨_,_,_,_,λ r=>rfl,by have:=toF_sz x .nil;simp only[Fo.sz,T.sz] at *;omega⟩
 | .bin t x y,h=>⟨_,_,_,_,λ r=>rfl,by have:=toF_sz x (toF y .nil);have:=toF_sz y .nil;simp only[Fo.sz,T.sz] at *;omega⟩
 | .nil,h=>by simp [T.ok] at h
 | .cons ..,h=>by simp [T.ok] at h
 | .letS ..,h=>by simp [T.ok] at h
 | .setS ..,h=>by simp [T.ok] at h
 | .putS ..,h=>by simp [T.ok] at h
 | .ifS ..,h=>by simp [T.ok] at h
 | .whileS ..,h=>by simp [T.ok] at h
 | .retS ..,h=>by simp [T.ok] at h
 | .prtS ..,h=>by simp [T.ok] at h
 | .doS ..,h=>by simp [T.ok] at h
 | .block ..,h=>by simp [T.ok] at h
where toF_sz:∀ (x:T) (r:Fo),(toF x r).sz≤x.sz+r.sz
 | .num ..,r=>by simp only[toF,Fo.sz,T.sz];omega
 | .name ..,r=>by simp only[toF,Fo.sz,T.sz];omega
 | .index _ _ _ p,r=>by have:=toF_sz p .nil;simp only[toF,Fo.sz,T.sz] at *;omega
 | .call _ _ p,r=>by have:=toF_sz p .nil;simp only[toF,Fo.sz,T.sz] at *;omega
 | .un _ p,r=>by have:=toF_sz p .nil;simp only[toF,Fo.sz,T.sz] at *;omega
 | .bin _ p q,r=>by have:=toF_sz p (toF q .nil);have:=toF_sz q .nil;simp only[toF,Fo.sz,T.sz] at *;omega
 | .nil,r=>by simp only[toF,T.sz];omega
 | .cons x xs,r=>by have:=toF_sz x (toF xs r);have:=toF_sz xs r;simp only[toF,T.sz] at *;omega
 | .letS _ _ _ _ p,r=>by have:=toF_sz p .nil;simp only[toF,Fo.sz,T.sz] at *;omega
 | .setS _ _ _ p,r=>by have:=toF_sz p .nil;simp only[toF,Fo.sz,T.sz] at *;omega
 | .putS _ _ _ p q,r=>by have:=toF_sz p (toF q .nil);have:=toF_sz q .nil;simp only[toF,Fo.sz,T.sz] at *;omega
 | .ifS _ c a b,r=>by have:=toF_sz c (toF a (toF b .nil));have:=toF_sz a (toF b .nil);have:=toF_sz b .nil;simp only[toF,Fo.sz,T.sz] at *;omega
 | .whileS _ c b,r=>by have:=toF_sz c (toF b .nil);have:=toF_sz b .nil;simp only[toF,Fo.sz,T.sz] at *;omega
 | .retS _ p,r=>by have:=toF_sz p .nil;simp only[toF,Fo.sz,T.sz] at *;omega
 | .prtS _ p,r=>by have:=toF_sz p .nil;simp only[toF,Fo.sz,T.sz] at *;omega
 | .doS _ p,r=>by have:=toF_sz p .nil;simp only[toF,Fo.sz,T.sz] at *;omega
 | .block _ p,r=>by have:=toF_sz p .nil;simp only[toF,Fo.sz,T.sz] at *;omega
theorem Et:∀ (x:T) (r:Fo),x.ok 1=true->(toF x r).len=x.len+r.len
 | .nil,r,_=>by simp [toF,T.len]
 | .cons x xs,r,h=>by
  have h2:x.ok 0=true/\xs.ok 1=true:=by simpa [T.ok] using h
  obtain⟨k,s,v,ks,e, -⟩:=ok0_cons x h2.1;show(toF x (toF xs r)).len=_;rw[e,Fo.len,Et xs r h2.2,T.len];omega
 | .num ..,r,h=>by simp [T.ok] at h
 | .name ..,r,h=>by simp [T.ok] at h
 | .index ..,r,h=>by simp [T.ok] at h
 | .call ..,r,h=>by simp [T.ok] at h
 | .un ..,r,h=>by simp [T.ok] at h
 | .bin ..,r,h=>by simp [T.ok] at h
 | .letS ..,r,h=>by simp [T.ok] at h
 | .setS ..,r,h=>by simp [T.ok] at h
 | .putS ..,r,h=>by simp [T.ok] at h
 | .ifS ..,r,h=>by simp [T.ok] at h
 | .whileS ..,r,h=>by simp [T.ok] at h
 | .retS ..,r,h=>by simp [T.ok] at h
 | .prtS ..,r,h=>by simp [T.ok] at h
 | .doS ..,r,h=>by simp [T.ok] at h
 | .block ..,r,h=>by simp [T.ok] at h
theorem gq (g:Gf) (Ls:List ByteArray):bx g Ls .nil= .ok ():=by unfold bx;rfl
theorem gm (g:Gf) (Ls:List ByteArray) (k s:ByteArray) (ln v:Int) (ks:Fo) (ns:List ByteArray) (r:Fo):bx g Ls (.cons k s ln v ks ns r)=(gu g Ls k s ln ks.len).bind λ _=>(bx g Ls ks).bind λ _=>bx g Ls r:=by rw[bx]
theorem abn (hR:Sy lk g) (Ls:Lcs) (t:Tok) (m:Nat) (R:C T):Jw g (Ls.map Prod.fst) t.s t.line m=(match lk t.s with
  | some (.fn k np)=>if 0≤bf Ls t.s then .err t.line 9 else if np≠m then .err t.line 9 else .ok ()
  | _=>.err t.line 9:C Unit):=by
 unfold Jw;have:=hR t.s;by_cases h:0≤bf Ls t.s
 ·rw[if_pos ((fg Ls t.s).1 h)]
  cases hl:lk t.s with
  | none=>rfl
  | some x =>
   cases x with
   | var wd z=>rfl
   | fn k np=>simp only;rw[if_pos h]
 ·rw[if_neg (λ e=>h ((fg Ls t.s).2 e))]
  cases hl:lk t.s with
  | none=>rw[hl] at this;rw[this]
  | some x =>
   rw[hl] at this
   cases x with
   | var wd z =>
    obtain⟨m',hg⟩:=this;rw[hg];simp only;rw[if_pos (by decide)]
   | fn k np =>
    obtain⟨v,hg⟩:=this;rw[hg];simp only[ne_eq,not_true_eq_false,if_false];rw[if_neg h]
theorem jf (hR:Sy lk g) (Ls:Lcs):∀ (x:T) (r:Fo),(x.ok 0=true∨x.ok 1=true)->bx g (Ls.map Prod.fst) (toF x r)=(gd lk Ls x).er.bind λ _=>bx g (Ls.map Prod.fst) r
 | .num v l,r,_=>by
  show bx g _ (.cons Oz _ _ _ .nil [] r)=_;rw[gm,gq];rfl
 | .name t s w,r,_=>by
  show bx g _ (.cons sx t.s t.line 0 .nil [] r)=_;rw[gm,gq];rw[show gu g (Ls.map Prod.fst) sx t.s t.line Fo.nil.len=fsc g (Ls.map Prod.fst) t.s t.line from rfl,Zx hR Ls t w];simp only[gd];cases sj lk Ls t w <;> rfl
 | .index t w z p,r,h=>by
  have h0:p.ok 0=true:=by simpa [T.ok] using h
  show bx g _ (.cons jo t.s t.line 0 (toF p .nil) [] r)=_;rw[gm,jf hR Ls p .nil (.inl h0),gq];rw[show gu g (Ls.map Prod.fst) jo t.s t.line (toF p .nil).len=Br g (Ls.map Prod.fst) t.s t.line from rfl,Sz hR Ls t];simp only[gd]
  cases Km lk Ls t with
  | err l e=>rfl
  | ok a=>cases gd lk Ls p <;> rfl
 | .call t f xs,r,h=>by
  have h0:xs.ok 1=true:=by simpa [T.ok] using h
  show bx g _ (.cons ip t.s t.line 0 (toF xs .nil) [] r)=_;rw[gm,jf hR Ls xs .nil (.inr h0),gq];rw[show gu g (Ls.map Prod.fst) ip t.s t.line (toF xs .nil).len=Jw g (Ls.map Prod.fst) t.s t.line (toF xs .nil).len from rfl,show(toF xs .nil).len=xs.len by rw[Et xs .nil h0];rfl,abn hR Ls t _ (.ok .nil)];simp only[gd]
  cases lk t.s with
  | none=>rfl
  | some x =>
   cases x with
   | var=>rfl
   | fn k np =>
    simp only;by_cases h8:0≤bf Ls t.s
    ·rw[if_pos h8,if_pos h8];rfl
    ·rw[if_neg h8,if_neg h8];by_cases h9:np≠xs.len
     ·rw[if_pos h9,if_pos h9];rfl
     ·rw[if_neg h9,if_neg h9];cases gd lk Ls xs <;> rfl
 | .un t x,r,h=>by
  have h0:x.ok 0=true:=by simpa [T.ok] using h
  show bx g _ (.cons Mr t.s t.line 0 (toF x .nil) [] r)=_;rw[gm,jf hR Ls x .nil (.inl h0),gq];rw[show gu g (Ls.map Prod.fst) Mr t.s t.line (toF x .nil).len= .ok () from rfl];simp only[gd];cases gd lk Ls x <;> rfl
 | .bin t x y,r,h=>by
  have h0:x.ok 0=true/\y.ok 0=true:=by simpa [T.ok] using h
  show bx g _ (.cons sm t.s t.line 0 (toF x (toF y .nil)) [] r)=_;rw[gm,jf hR Ls x _ (.inl h0.1),jf hR Ls y .nil (.inl h0.2),gq];rw[show gu g (Ls.map Prod.fst) sm t.s t.line (toF x (toF y .nil)).len= .ok () from rfl];simp only[gd]
  cases gd lk Ls x with
  | err l e=>rfl
  | ok x'=>cases gd lk Ls y <;> rfl
 | .nil,r,_=>by rfl
 | .cons x xs,r,h=>by
  have h0:x.ok 0=true/\xs.ok 1=true:=by simpa [T.ok] using h
  show bx g _ (toF x (toF xs r))=_;rw[jf hR Ls x _ (.inl h0.1),jf hR Ls xs r (.inr h0.2)];simp only[gd]
  cases gd lk Ls x with
  | err l e=>rfl
  | ok x'=>cases gd lk Ls xs <;> rfl
 | .letS ..,r,h=>by simp [T.ok] at h
 | .setS ..,r,h=>by simp [T.ok] at h
 | .putS ..,r,h=>by simp [T.ok] at h
 | .ifS ..,r,h=>by simp [T.ok] at h
 | .whileS ..,r,h=>by simp [T.ok] at h
 | .retS ..,r,h=>by simp [T.ok] at h
 | .prtS ..,r,h=>by simp [T.ok] at h
 | .doS ..,r,h=>by simp [T.ok] at h
 | .block ..,r,h=>by simp [T.ok] at h
theorem iw (plus:Bool) (k s:ByteArray) (l v:Int) (ks:Fo) (ns:List ByteArray) (r:Fo) (i:Nat):ca plus (.cons k s l v ks ns r) i=max (ca (ay k s) ks 0+if plus then i else 0) (ca plus r (i+1)):=by rw[ca]
theorem li (plus:Bool) (i:Nat):ca plus .nil i=1:=by rw[ca]
theorem mf:∀ (x:T),(x.ok 0=true->∀ (plus:Bool) (r:Fo) (i:Nat),ca plus (toF x r) i=max (need x 0+if plus then i else 0) (ca plus r (i+1)))/\(x.ok 1=true->∀ i,ca true (toF x .nil) i=need x i)
 | .num v l=>⟨λ _ plus r i=>by show ca plus (.cons _ _ _ _ .nil _ r) i=_;rw[iw,li];simp [need],λ h=>by simp [T.ok] at h⟩
 | .name t s w=>⟨λ _ plus r i=>by show ca plus (.cons _ _ _ _ .nil _ r) i=_;rw[iw,li];simp [need],λ h=>by simp [T.ok] at h⟩
 | .index t w z p=>⟨λ h plus r i=>by
   have h0:p.ok 0=true:=by simpa [T.ok] using h
   show ca plus (.cons _ _ _ _ (toF p .nil) _ r) i=_;rw[iw,(mf p).1 h0,li,show ay jo t.s=false from rfl];have:=ia p 0;simp only[need,Bool.false_eq_true,if_false,Nat.add_zero]
   rw[Nat.max_eq_left this],λ h=>by simp [T.ok] at h⟩
 | .call t f xs=>⟨λ h plus r i=>by
   have h0:xs.ok 1=true:=by simpa [T.ok] using h
   show ca plus (.cons _ _ _ _ (toF xs .nil) _ r) i=_;rw[iw,show ay ip t.s=true from rfl,(mf xs).2 h0]
   simp only[need],λ h=>by simp [T.ok] at h⟩
 | .un t x=>⟨λ h plus r i=>by
   have h0:x.ok 0=true:=by simpa [T.ok] using h
   show ca plus (.cons _ _ _ _ (toF x .nil) _ r) i=_;rw[iw,(mf x).1 h0,li,show ay Mr t.s=false from rfl];have:=ia x 0;simp only[need,Bool.false_eq_true,if_false,Nat.add_zero]
   rw[Nat.max_eq_left this],λ h=>by simp [T.ok] at h⟩
 | .bin t x y=>⟨λ h plus r i=>by
   have h0:x.ok 0=true/\y.ok 0=true:=by simpa [T.ok] using h
   show ca plus (.cons _ _ _ _ (toF x (toF y .nil)) _ r) i=_;rw[iw,(mf x).1 h0.1,(mf y).1 h0.2,li];have h1:=ia x 0;have h2:=ia y 0
   have hp:ay sm t.s=(!decide (t.s=ofL [38,38])&& !decide (t.s=ofL [124,124])):=by
    unfold ay;rw[show decide (sm=ip)=false from rfl,decide_eq_true (rfl:sm=sm)];simp
   rw[hp];simp only[need];by_cases a1:t.s=ofL [38,38]
   ·simp only[a1,decide_true,Bool.not_true,Bool.false_and,Bool.false_eq_true,if_false,Nat.add_zero,true_or,if_true];rw[Nat.max_eq_left h2]
   ·by_cases a2:t.s=ofL [124,124]
    ·simp only[a2,decide_true,Bool.not_true,Bool.and_false,Bool.false_eq_true,if_false,Nat.add_zero,or_true,if_true];rw[Nat.max_eq_left h2]
    ·simp only[a1,a2,decide_false,Bool.not_false,Bool.and_self,if_true,or_self,if_false,Nat.add_zero,Nat.zero_add]
     rw[Nat.max_eq_left (by omega:1≤need y 0+1)],λ h=>by simp [T.ok] at h⟩
 | .nil=>⟨λ h=>by simp [T.ok] at h,λ _ i=>by show ca true .nil i=_;rw[li];simp [need]⟩
 | .cons x xs=>⟨λ h=>by simp [T.ok] at h,λ h i=>by
   have h0:x.ok 0=true/\xs.ok 1=true:=by simpa [T.ok] using h
   show ca true (toF x (toF xs .nil)) i=_;rw[(mf x).1 h0.1,(mf xs).2 h0.2]
   simp only[need,if_true]⟩
 | .letS ..=>⟨λ h=>by simp [T.ok] at h,λ h=>by simp [T.ok] at h⟩
 | .setS ..=>⟨λ h=>by simp [T.ok] at h,λ h=>by simp [T.ok] at h⟩
 | .putS ..=>⟨λ h=>by simp [T.ok] at h,λ h=>by simp [T.ok] at h⟩
 | .ifS ..=>⟨λ h=>by simp [T.ok] at h,λ h=>by simp [T.ok] at h⟩
 | .whileS ..=>⟨λ h=>by simp [T.ok] at h,λ h=>by simp [T.ok] at h⟩
 | .retS ..=>⟨λ h=>by simp [T.ok] at h,λ h=>by simp [T.ok] at h⟩
 | .prtS ..=>⟨λ h=>by simp [T.ok] at h,λ h=>by simp [T.ok] at h⟩
 | .doS ..=>⟨λ h=>by simp [T.ok] at h,λ h=>by simp [T.ok] at h⟩
 | .block ..=>⟨λ h=>by simp [T.ok] at h,λ h=>by simp [T.ok] at h⟩
theorem jg (lk:Lk) (Ls:Lcs):∀ (x x':T),gd lk Ls x= .ok x'->(∀ k,need x' k=need x k)/\zm x'=zm x
 | .num ..,x',h=>by cases h;exact⟨λ _=>rfl,rfl⟩
 | .nil,x',h=>by cases h;exact⟨λ _=>rfl,rfl⟩
 | .name t s w,x',h=>by obtain⟨p, -,h⟩:=C.bind_ok h;cases h;exact⟨λ _=>by simp [need],rfl⟩
 | .index t w z p,x',h=>by
  obtain⟨a, -,h⟩:=C.bind_ok h;obtain⟨p',h1,h⟩:=C.bind_ok h;cases h;exact⟨λ k=>by simp only[need];exact(jg lk Ls p p' h1).1 0,rfl⟩
 | .call t f xs,x',h=>by
  rw[gd] at h;split at h
  ·split at h
   ·cases h
   ·split at h
    ·cases h
    ·obtain⟨p',h1,h⟩:=C.bind_ok h;cases h;exact⟨λ k=>by simp only[need];exact(jg lk Ls xs p' h1).1 0,rfl⟩
  ·cases h
 | .un t x,x',h=>by
  obtain⟨p',h1,h⟩:=C.bind_ok h;cases h;exact⟨λ k=>by simp only[need];exact(jg lk Ls x p' h1).1 0,rfl⟩
 | .bin t x y,x',h=>by
  obtain⟨p',h1,h⟩:=C.bind_ok h;obtain⟨q',h2,h⟩:=C.bind_ok h;cases h;exact⟨λ k=>by simp only[need,(jg lk Ls x p' h1).1 0,(jg lk Ls y q' h2).1 0],rfl⟩
 | .cons x y,x',h=>by
  obtain⟨p',h1,h⟩:=C.bind_ok h;obtain⟨q',h2,h⟩:=C.bind_ok h;cases h;exact⟨λ k=>by simp only[need,(jg lk Ls x p' h1).1 0,(jg lk Ls y q' h2).1 (k+1)],rfl⟩
 | .letS ..,x',h=>by cases h;exact⟨λ _=>rfl,rfl⟩
 | .setS ..,x',h=>by cases h;exact⟨λ _=>rfl,rfl⟩
 | .putS ..,x',h=>by cases h;exact⟨λ _=>rfl,rfl⟩
 | .ifS ..,x',h=>by cases h;exact⟨λ _=>rfl,rfl⟩
 | .whileS ..,x',h=>by cases h;exact⟨λ _=>rfl,rfl⟩
 | .retS ..,x',h=>by cases h;exact⟨λ _=>rfl,rfl⟩
 | .prtS ..,x',h=>by cases h;exact⟨λ _=>rfl,rfl⟩
 | .doS ..,x',h=>by cases h;exact⟨λ _=>rfl,rfl⟩
 | .block ..,x',h=>by cases h;exact⟨λ _=>rfl,rfl⟩
theorem Ku (g:Gf) (Ls:List ByteArray) (b:Nat) (k s:ByteArray) (ln v:Int) (ks:Fo) (ns:List ByteArray) (r:Fo):eu g Ls b (.cons k s ln v ks ns r)=(gu g Ls k s ln ks.len).bind λ _=>(bx g Ls ks).bind λ _=>if 8<ca (ay k s) ks 0+b then .err ln 4 else .ok ():=rfl
theorem ib (hR:Sy lk g) (Ls:Lcs) (x:T) (b:Nat) (hb:b≤1) (h:x.ok 0=true) (r:Fo):eu g (Ls.map Prod.fst) b (toF x r)=(ck lk Ls x b).er:=by
 obtain⟨k,s,v,ks,e, -⟩:=ok0_cons x h;have h1:=jf hR Ls x .nil (.inl h);rw[gq,e .nil,gm,gq] at h1;have h2:=(mf x).1 h false .nil 0;rw[e .nil,iw,li] at h2;have h3:=ia x 0;have h4:=zw (ay k s) ks 0;simp only[Bool.false_eq_true,if_false,Nat.add_zero] at h2
 have h5:ca (ay k s) ks 0=need x 0:=by omega
 rw[e r,Ku,h5];unfold ck;generalize hA:gu g (Ls.map Prod.fst) k s _ ks.len=A at *;generalize hB:bx g (Ls.map Prod.fst) ks=Bq at *
 have h6:(A.bind λ _=>Bq.bind λ _=>C.ok ())=(gd lk Ls x).er:=by
  rw[h1];cases gd lk Ls x <;> rfl
 cases hc:gd lk Ls x with
 | err l en =>
  rw[hc] at h6
  cases A with
  | err l2 e2=>cases h6;rfl
  | ok _ =>
   cases Bq with
   | err l2 e2=>cases h6;rfl
   | ok _=>cases h6
 | ok x' =>
  rw[hc] at h6;obtain⟨hn,hl⟩:=jg lk Ls x x' hc
  cases A with
  | err l2 e2=>cases h6
  | ok _ =>
   cases Bq with
   | err l2 e2=>cases h6
   | ok _ =>
    show(if 8<need x 0+b then C.err _ 4 else C.ok ())=(if 8<need x' 0+b then C.err (zm x') 4 else C.ok x').er;rw[hn 0,hl];split
    ·cases x with
     | num v l=>rename_i h8;simp only[need] at h8;omega
     | _=>rfl
    ·rfl
def ic:Req->Nat
 | .args=>1
 | .argl=>1
 | .blk=>2
 | .stmts=>3
 | .stmt=>2
 | _=>0
def dg:Req->Nat
 | .loop _ x=>x.sz+1
 | _=>0
def aeq:Req->Prop
 | .loop _ x=>x.ok 0=true
 | _=>True
theorem Ta {l:List Tok} (h:(now l).k≠0):l.tail.length+1=l.length:=by
 cases l with
 | nil=>exact absurd rfl h
 | cons t l=>simp
theorem aw {s:ByteArray}{l:List Tok} (h:is s l=true):l.tail.length+1=l.length:=Ta (by rw[Ri h];omega)
theorem qu {l:List Tok}{k:Nat} (h:(now l).k=k) (hk:k≠0):l.tail.length+1=l.length:=Ta (by rw[h];exact hk)
theorem Hu:∀ (f:Nat) (q:Req) (n:Nat) (l:List Tok) (x:T) (l':List Tok),run f q n l= .ok x l'->aeq q->x.ok (ic q)=true/\x.sz+1+4 * l'.length≤4 * l.length+dg q:=by
 intro f
 induction f with
 | zero=>intro q n l x l' h;cases h
 | succ f ih =>
  intro q n l x l' h hq
  cases q with
  | expr =>
   unfold run at h;split at h
   ·cases h
   ·exact ih (.bin 1) _ _ _ _ h trivial
  | bin k =>
   unfold run at h;obtain⟨x1,l1,h1,h2⟩:=bind_ok h;obtain⟨a1,a2⟩:=ih _ _ _ _ _ h1 trivial;obtain⟨b1,b2⟩:=ih (.loop k x1) _ _ _ _ h2 a1;exact⟨b1,by simp only[dg] at *;omega⟩
  | loop k u =>
   unfold run at h;split at h
   ·rename_i hk;have t0:=qu hk.1 (by omega);obtain⟨x1,l1,h1,h2⟩:=bind_ok h;obtain⟨a1,a2⟩:=ih _ _ _ _ _ h1 trivial;have hu:u.ok 0=true:=hq;obtain⟨b1,b2⟩:=ih (.loop k (.bin (now l) u x1)) _ _ _ _ h2 (show(T.bin (now l) u x1).ok 0=true by simp only[ic] at a1;simp [T.ok,hu,a1]);exact⟨b1,by simp only[dg,T.sz] at *;omega⟩
   ·cases h;exact⟨hq,by simp only[dg];omega⟩
  | un =>
   unfold run at h;split at h
   ·rename_i h1
    have t0:l.tail.length+1=l.length:=by
     unfold oh at h1;rw[Bool.or_eq_true,Bool.or_eq_true] at h1;rcases h1 with (h1 | h1) | h1 <;> exact aw h1
    split at h
    ·cases h
    ·obtain⟨x1,l1,h1,h2⟩:=bind_ok h;cases h2;obtain⟨a1,a2⟩:=ih _ _ _ _ _ h1 trivial;exact⟨by simp only[ic] at a1 ⊢;simp [T.ok,a1],by simp only[dg,T.sz] at *;omega⟩
   ·exact ih .prim _ _ _ _ h trivial
  | prim =>
   unfold run at h;split at h
   ·rename_i hk;have t0:=qu hk (by omega);obtain⟨-,v,h1⟩:=Hd h;cases h1;exact⟨rfl,by simp only[dg,T.sz] at *;omega⟩
   ·split at h
    ·rename_i hk;have t0:=aw hk;obtain⟨x1,l1,h1,h2⟩:=bind_ok h;obtain⟨h3',h3⟩:=am h2;cases h3;have t1:=aw h3';obtain⟨a1,a2⟩:=ih _ _ _ _ _ h1 trivial;exact⟨a1,by simp only[dg] at *;omega⟩
    ·obtain⟨hk,h1⟩:=fq h;have t0:=qu hk (by omega);split at h1
     ·rename_i hk;have t1:=aw hk;obtain⟨x1,l1,h1,h2⟩:=bind_ok h1;cases h2;obtain⟨a1,a2⟩:=ih _ _ _ _ _ h1 trivial;exact⟨by simp only[ic] at a1 ⊢;simp [T.ok,a1],by simp only[dg,T.sz] at *;omega⟩
     ·split at h1
      ·rename_i hk;have t1:=aw hk;obtain⟨x1,l1,h5,h2⟩:=bind_ok h1;obtain⟨h3',h3⟩:=am h2;have t2:=aw h3';cases h3;obtain⟨a1,a2⟩:=ih _ _ _ _ _ h5 trivial;exact⟨by simp only[ic] at a1 ⊢;simp [T.ok,a1],by simp only[dg,T.sz] at *;omega⟩
      ·cases h1;exact⟨rfl,by simp only[dg,T.sz] at *;omega⟩
  | args =>
   unfold run at h;split at h
   ·rename_i hk;have t1:=aw hk;cases h;exact⟨rfl,by simp only[dg,T.sz] at *;omega⟩
   ·exact ih .argl _ _ _ _ h trivial
  | argl =>
   unfold run at h;obtain⟨x1,l1,h1,h2⟩:=bind_ok h;obtain⟨a1,a2⟩:=ih _ _ _ _ _ h1 trivial;split at h2
   ·rename_i hk;have t1:=aw hk;cases h2;exact⟨by simp only[ic] at a1 ⊢;simp [T.ok,a1],by simp only[dg,T.sz] at *;omega⟩
   ·obtain⟨h3',h3⟩:=am h2;have t1:=aw h3';obtain⟨x2,l2,h4,h5⟩:=bind_ok h3;cases h5;obtain⟨b1,b2⟩:=ih _ _ _ _ _ h4 trivial;exact⟨by simp only[ic] at a1 b1 ⊢;simp [T.ok,a1,b1],by simp only[dg,T.sz] at *;omega⟩
  | blk =>
   unfold run at h;split at h
   ·cases h
   ·obtain⟨h3',h1⟩:=am h;have t1:=aw h3';obtain⟨x2,l2,h4,h5⟩:=bind_ok h1;cases h5;obtain⟨b1,b2⟩:=ih _ _ _ _ _ h4 trivial;exact⟨by simp only[ic] at b1 ⊢;simp [T.ok,b1],by simp only[dg,T.sz] at *;omega⟩
  | stmts =>
   unfold run at h;split at h
   ·rename_i hk;have t1:=aw hk;cases h;exact⟨rfl,by simp only[dg,T.sz] at *;omega⟩
   ·obtain⟨x1,l1,h1,h2⟩:=bind_ok h;obtain⟨x2,l2,h4,h5⟩:=bind_ok h2;cases h5;obtain⟨a1,a2⟩:=ih _ _ _ _ _ h1 trivial;obtain⟨b1,b2⟩:=ih _ _ _ _ _ h4 trivial;exact⟨by simp only[ic] at a1 b1 ⊢;simp [T.ok,a1,b1],by simp only[dg,T.sz] at *;omega⟩
  | stmt =>
   unfold run at h;split at h
   ·rename_i hk;have t0:=qu hk (by omega);obtain⟨-,h⟩:=fq h;split at h
    ·rename_i hk1;have t1:=aw hk1;obtain⟨x1,l1,h1,h2⟩:=bind_ok h;obtain⟨h3',h3⟩:=am h2;have t2:=aw h3';cases h3;obtain⟨a1,a2⟩:=ih _ _ _ _ _ h1 trivial;exact⟨by simp only[ic] at a1 ⊢;simp [T.ok,a1],by simp only[dg,T.sz] at *;omega⟩
    ·split at h
     ·rename_i hk1;have t1:=aw hk1;obtain⟨x1,l1,h1,h2⟩:=bind_ok h;obtain⟨h3',h3⟩:=am h2;have t2:=aw h3';obtain⟨h4',h3⟩:=am h3;have t3:=aw h4';obtain⟨x2,l2,h4,h5⟩:=bind_ok h3;obtain⟨h5',h5⟩:=am h5;have t4:=aw h5';cases h5;obtain⟨a1,a2⟩:=ih _ _ _ _ _ h1 trivial;obtain⟨b1,b2⟩:=ih _ _ _ _ _ h4 trivial;exact⟨by simp only[ic] at a1 b1 ⊢;simp [T.ok,a1,b1],by simp only[dg,T.sz] at *;omega⟩
     ·obtain⟨h3',h3⟩:=am h;have t2:=aw h3';obtain⟨x2,l2,h4,h5⟩:=bind_ok h3;obtain⟨h5',h5⟩:=am h5;have t4:=aw h5';cases h5;obtain⟨b1,b2⟩:=ih _ _ _ _ _ h4 trivial;exact⟨by simp only[ic] at b1 ⊢;simp [T.ok,b1],by simp only[dg,T.sz] at *;omega⟩
   ·split at h
    ·rename_i hk;have t0:=aw hk;obtain⟨hn,h⟩:=fq h;have t1:=qu hn (by omega);obtain⟨h3',h⟩:=am h;have t2:=aw h3';obtain⟨x2,l2,h4,h5⟩:=bind_ok h;obtain⟨h5',h5⟩:=am h5;have t4:=aw h5';cases h5;obtain⟨b1,b2⟩:=ih _ _ _ _ _ h4 trivial;exact⟨by simp only[ic] at b1 ⊢;simp [T.ok,b1],by simp only[dg,T.sz] at *;omega⟩
    ·split at h
     ·rename_i hk;have t0:=aw hk;obtain⟨x2,l2,h4,h5⟩:=bind_ok h;obtain⟨h5',h5⟩:=am h5;have t4:=aw h5';cases h5;obtain⟨b1,b2⟩:=ih _ _ _ _ _ h4 trivial;exact⟨by simp only[ic] at b1 ⊢;simp [T.ok,b1],by simp only[dg,T.sz] at *;omega⟩
     ·split at h
      ·rename_i hk;have t0:=aw hk;obtain⟨x2,l2,h4,h5⟩:=bind_ok h;obtain⟨h5',h5⟩:=am h5;have t4:=aw h5';cases h5;obtain⟨b1,b2⟩:=ih _ _ _ _ _ h4 trivial;exact⟨by simp only[ic] at b1 ⊢;simp [T.ok,b1],by simp only[dg,T.sz] at *;omega⟩
      ·split at h
       ·rename_i hk;have t0:=aw hk;obtain⟨x2,l2,h4,h5⟩:=bind_ok h;obtain⟨x3,l3,h6,h7⟩:=bind_ok h5;cases h7;obtain⟨a1,a2⟩:=ih _ _ _ _ _ h4 trivial;obtain⟨b1,b2⟩:=ih _ _ _ _ _ h6 trivial;exact⟨by simp only[ic] at a1 b1 ⊢;simp [T.ok,a1,b1],by simp only[dg,T.sz] at *;omega⟩
       ·split at h
        ·rename_i hk;have t0:=aw hk;obtain⟨x2,l2,h4,h5⟩:=bind_ok h;obtain⟨x3,l3,h6,h7⟩:=bind_ok h5;obtain⟨a1,a2⟩:=ih _ _ _ _ _ h4 trivial;obtain⟨b1,b2⟩:=ih _ _ _ _ _ h6 trivial;split at h7
         ·rename_i hk2;have t5:=aw hk2;obtain⟨x4,l4,h8,h9⟩:=bind_ok h7;cases h9;obtain⟨c1,c2⟩:=ih _ _ _ _ _ h8 trivial;exact⟨by simp only[ic] at a1 b1 c1 ⊢;simp [T.ok,a1,b1,c1],by simp only[dg,T.sz] at *;omega⟩
         ·cases h7;exact⟨by simp only[ic] at a1 b1 ⊢;simp [T.ok,a1,b1,T.isNil],by simp only[dg,T.sz] at *;omega⟩
        ·cases h
def DOk:D->Prop
 | .var _ _ _ z=>0≤z/\z≤256
 | .fn _ _ ps s _ b=>s=0/\ps.length≤6/\b.ok 2=true/\b.sz<1000000
theorem xf:∀ (k:Nat) (l l':List Tok) (ps:List ByteArray),params.paramL k l= .ok ps l'->ps.length≤k/\l'.length≤l.length
 | 0,l,l',ps,h=>by
  rw[params.paramL] at h;obtain⟨-,h⟩:=fq h;cases h
 | k+1,l,l',ps,h=>by
  rw[params.paramL] at h;obtain⟨-,h⟩:=fq h;have t1:=kw l;have t2:=kw l.tail;split at h
  ·cases h;exact⟨by simp,by omega⟩
  ·obtain⟨-,h⟩:=am h;obtain⟨x2,l2,h4,h5⟩:=bind_ok h;cases h5;obtain⟨a1,a2⟩:=xf k _ _ _ h4;exact⟨by simp;omega,by omega⟩
theorem xg {k:Nat}{l l':List Tok}{ps:List ByteArray} (h:params k l= .ok ps l'):ps.length≤k/\l'.length≤l.length:=by
 have e:params k l=if is cRP l then .ok [] l.tail else params.paramL k l:=by rw[params]
 rw[e] at h;by_cases hp:is cRP l=true
 ·rw[if_pos hp] at h;cases h;exact⟨by simp,kw l⟩
 ·rw[if_neg hp] at h;exact xf k _ _ _ h
theorem rr {f:Nat}{l l':List Tok}{d:D} (hl:l.length≤8001) (h:zj f l= .ok d l'):DOk d/\l'.length<l.length:=by
 unfold zj at h;split at h
 ·rename_i hk;have t0:=aw hk;obtain⟨hn,h⟩:=fq h;have t1:=qu hn (by omega);split at h
  ·rename_i hk2;have t2:=aw hk2;unfold number at h;split at h
   ·cases h
   ·split at h
    ·cases h
    ·rename_i hk3 _;have t3:=qu (Decidable.not_not.1 hk3) (by omega);dsimp only at h;split at h
     ·cases h
     ·rename_i hv;obtain⟨h3',h⟩:=am h;have t4:=aw h3';obtain⟨h3'',h⟩:=am h;have t5:=aw h3'';cases h;exact⟨⟨by omega,by omega⟩,by omega⟩
  ·obtain⟨h3',h⟩:=am h;have t4:=aw h3';cases h;exact⟨⟨Int.le_refl _,by omega⟩,by omega⟩
 ·obtain⟨h3',h⟩:=am h;have t0:=aw h3';obtain⟨hn,h⟩:=fq h;have t1:=qu hn (by omega);obtain⟨h4',h⟩:=am h;have t2:=aw h4';obtain⟨ps,l2,h5,h⟩:=bind_ok h;obtain⟨b,l3,h6,h⟩:=bind_ok h;cases h;obtain⟨a1,a2⟩:=xg h5;obtain⟨b1,b2⟩:=Hu _ _ _ _ _ _ h6 trivial;simp only[dg,ic] at b1 b2;exact⟨⟨rfl,a1,b1,by omega⟩,by omega⟩
end Go.Lang
