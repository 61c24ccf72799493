/- The plain lexer: a step at a time; what its tokens are. No condition. -/
import Derived.Test.YtojogkljneonmaaGreatDoorLangQ
import Derived.Test.YtojogkljneonmaaGreatDoorSxB
import Derived.Test.YtojogkljneonmaaGreatDoorLangVh
import Derived.Test.YtojogkljneonmaaGreatDoorChecked
set_option linter.unusedVariables false
set_option linter.unusedSimpArgs false
namespace Go.Lang
theorem Co (s:ByteArray):ofL s.data.toList=s:=rfl
theorem ed (l:List UInt8):(ofL l).data.toList=l:=rfl
theorem ak (l:List UInt8):(ofL l).size=l.length:=rfl
theorem zl {a b:List UInt8} (h:ofL a=ofL b):a=b:=by
 have:=congrArg (λ s:ByteArray=>s.data.toList) h;exact this
theorem bc (l:List UInt8) (a b:Nat):(ofL l).extract a b=ofL ((l.take b).drop a):=by
 have:((ofL l).extract a b).data.toList=(l.take b).drop a:=by
  rw[ByteArray.data_extract];simp [ofL,List.extract_eq_take_drop];rw[List.drop_take]
 rw[<- this,Co]
theorem jw {α:Type} (p:α->Bool):∀ (l:List α),(l.takeWhile p).length≤l.length
 | []=>by simp
 | a::l=>by
  rw[List.takeWhile_cons];split
  ·simp;exact jw p l
  ·simp
theorem nh {s:List UInt8} (h:s≠[]):1≤(first s).2/\((first s).2≤s.length):=by
 unfold first
 have hw:bz s≤s.length:=jw _ s;split
 ·split
  ·rename_i h2;refine⟨by decide,?_⟩
   have:∀ x ∈ twos,x.length=2:=by decide
   have h3:=this _ h2;rw[List.length_take] at h3;show 2≤s.length;omega
  ·have:1≤s.length:=List.length_pos_iff.2 h;split <;> exact⟨by decide,this⟩
 ·rename_i n hn;split
  ·split <;> exact⟨by simp,by show n+1≤s.length;omega⟩
  ·split <;> exact⟨by simp,by show n+1≤s.length;omega⟩
def lex (s:List UInt8) (line:Int):List Tok:=Rh s.length s line
theorem ni {s:List UInt8} (h:s.take 2=[47,47]):(s.dropWhile λ c=>c≠10).length<s.length:=by
 match s,h with
 | a::b::r,h =>
  simp at h;obtain⟨rfl,rfl⟩:=h;rw[List.dropWhile_cons_of_pos (by decide),List.dropWhile_cons_of_pos (by decide)];have:=(List.dropWhile_suffix (l:=r) (λ c:UInt8=>decide (c≠10))).length_le;simp only[List.length_cons];omega
theorem Mi:∀ (n:Nat) (s:List UInt8) (f g:Nat) (line:Int),s.length≤n->s.length≤f->s.length≤g->Rh f s line=Rh g s line:=by
 intro n
 induction n with
 | zero =>
  intro s f g line hn hf hg;have:s=[]:=List.eq_nil_of_length_eq_zero (by omega);subst this;cases f <;> cases g <;> rfl
 | succ n ih =>
  intro s f g line hn hf hg
  cases s with
  | nil=>cases f <;> cases g <;> rfl
  | cons c r =>
   simp only[List.length_cons] at hn hf hg
   match f,g,hf,hg with
   | f+1,g+1,hf,hg =>
   unfold Rh;dsimp only;have hd:∀ (t:List UInt8) (line:Int),t.length≤r.length->Rh f t line=Rh g t line:=λ t line h=>ih t f g line (by omega) (by omega) (by omega);split
   ·exact hd r _ (Nat.le_refl _)
   ·split
    ·exact hd r _ (Nat.le_refl _)
    ·split
     ·rename_i h2;have:=ni h2;simp only[List.length_cons] at this;exact hd _ _ (by omega)
     ·have:=nh (s:=c::r) (by simp);rw[hd _ _ (by rw[List.length_drop];simp only[List.length_cons];omega)]
theorem vt (line:Int):lex [] line=[⟨0,ofL [],line⟩]:=rfl
theorem Ef (c:UInt8) (r:List UInt8) (line:Int):lex (c::r) line=if c=10 then lex r (line+1) else if c=32∨c=9 then lex r line
   else if (c::r).take 2=[47,47] then lex ((c::r).dropWhile λ c=>c≠10) line
   else ⟨(first (c::r)).1,ofL ((c::r).take (first (c::r)).2),line⟩::lex ((c::r).drop (first (c::r)).2) line:=by
 unfold lex;rw[List.length_cons,Rh];split
 ·rfl
 ·split
  ·rfl
  ·split
   ·rename_i h2;have:=ni h2;simp only[List.length_cons] at this;exact Mi _ _ _ _ _ (Nat.le_refl _) (by omega) (Nat.le_refl _)
   ·have:=nh (s:=c::r) (by simp);rw[Mi _ _ _ _ _ (Nat.le_refl _) (by rw[List.length_drop];simp only[List.length_cons];omega) (Nat.le_refl _)]
def Zr (t:Tok):Prop:=t.k=2->t.s.data.toList≠[]/\t.s.data.toList.all isD=true
theorem vu:∀ (n:Nat) (s:List UInt8) (line:Int),s.length≤n->(∃ l0 t,lex s line=l0++[t]/\t.k=0)/\(∀ t ∈ lex s line,Zr t)/\(∀ t ∈ lex s line,t.s.size≤s.length)/\(lex s line).length≤s.length+1:=by
 intro n
 induction n with
 | zero =>
  intro s line hn;have:s=[]:=List.eq_nil_of_length_eq_zero (by omega);subst this;rw[vt];exact⟨⟨[],_,rfl,rfl⟩,(λ t ht=>by simp at ht;subst ht;exact λ h=>by cases h),(λ t ht=>by simp at ht;subst ht;exact Nat.le_refl _),by simp⟩
 | succ n ih =>
  intro s line hn
  cases s with
  | nil =>
   rw[vt];exact⟨⟨[],_,rfl,rfl⟩,(λ t ht=>by simp at ht;subst ht;exact λ h=>by cases h),(λ t ht=>by simp at ht;subst ht;exact Nat.le_refl _),by simp⟩
  | cons c r =>
   simp only[List.length_cons] at hn
   have sub:∀ (u:List UInt8) (line:Int),u.length≤r.length->(∃ l0 t,lex u line=l0++[t]/\t.k=0)/\(∀ t ∈ lex u line,Zr t)/\(∀ t ∈ lex u line,t.s.size≤(c::r).length)/\(lex u line).length≤(c::r).length:=by
    intro u line hu;obtain⟨h1,h2,h3,h4⟩:=ih u line (by omega);exact⟨h1,h2,(λ t ht=>by have:=h3 t ht;simp only[List.length_cons];omega),by simp only[List.length_cons];omega⟩
   rw[Ef];split
   ·obtain⟨h1,h2,h3,h4⟩:=sub r (line+1) (Nat.le_refl _);exact⟨h1,h2,h3,by omega⟩
   ·split
    ·obtain⟨h1,h2,h3,h4⟩:=sub r line (Nat.le_refl _);exact⟨h1,h2,h3,by omega⟩
    ·split
     ·rename_i hc;have:=ni hc;simp only[List.length_cons] at this;obtain⟨h1,h2,h3,h4⟩:=sub _ line (show((c::r).dropWhile λ c=>c≠10).length≤r.length by omega);exact⟨h1,h2,h3,by omega⟩
     ·have hf:=nh (s:=c::r) (by simp);obtain⟨⟨l0,t,h1,h1'⟩,h2,h3,h4⟩:=sub ((c::r).drop (first (c::r)).2) line (by rw[List.length_drop];simp only[List.length_cons];omega);refine⟨⟨_::l0,t,by rw[h1];rfl,h1'⟩,λ u hu=>?_,λ u hu=>?_,by simp only[List.length_cons] at h4 ⊢;omega⟩
      ·rcases List.mem_cons.1 hu with rfl | hu
       ·intro hk;show(List.take _ _)≠[]/\(List.take _ _).all isD=true;have hk:(first (c::r)).1=2:=hk;unfold first at hk ⊢
        split at hk
        ·split at hk
         ·cases hk
         ·split at hk <;> cases hk
        ·split at hk
         ·split at hk <;> cases hk
         ·rename_i m hm hl;split at hk
          ·rename_i ha;rw[if_neg hl,if_pos ha];exact⟨by simp,ha⟩
          ·cases hk
       ·exact h2 u hu
      ·rcases List.mem_cons.1 hu with rfl | hu
       ·show(ofL _).size≤_;rw[ak,List.length_take];omega
       ·exact h3 u hu
inductive Gl where
 | var (word size:Int)
 | fn (k np:Nat)
inductive C (α:Type) where
 | ok (x:α)
 | err (line e:Int)
def C.bind {α β:Type}:C α->(α->C β)->C β
 | .ok x,k=>k x
 | .err l e,_=>.err l e
abbrev Lk:=ByteArray->Option Gl
abbrev Lcs:=List (ByteArray×Nat)
def bf (Ls:Lcs) (s:ByteArray):Int:=match Ls.find? λ p=>decide (p.1=s) with
 | some p=>(p.2:Int)
 | none=> -1
def sj (lk:Lk) (Ls:Lcs) (t:Tok) (w:Int):C (Int×Int) :=
 if 0≤bf Ls t.s then .ok (bf Ls t.s,w) else match lk t.s with
  | some (.var wd z)=>if 0<z then .err t.line 9 else .ok (bf Ls t.s,wd)
  | _=>.err t.line 9
def Km (lk:Lk) (Ls:Lcs) (t:Tok):C (Int×Int):=match lk t.s with
 | some (.var wd z)=>if z=0 then .err t.line 9 else if 0≤bf Ls t.s then .err t.line 9 else .ok (wd,z)
 | _=>.err t.line 9
def T.len:T->Nat
 | .cons _ xs=>xs.len+1
 | _=>0
def T.sz:T->Nat
 | .num ..=>1
 | .name ..=>1
 | .index _ _ _ p=>p.sz+1
 | .call _ _ xs=>xs.sz+1
 | .un _ x=>x.sz+1
 | .bin _ x y=>x.sz+y.sz+1
 | .nil=>1
 | .cons x xs=>x.sz+xs.sz+1
 | .letS _ _ _ _ x=>x.sz+2
 | .setS _ _ _ x=>x.sz+2
 | .putS _ _ _ p x=>p.sz+x.sz+2
 | .ifS _ c a b=>c.sz+a.sz+b.sz+1
 | .whileS _ c b=>c.sz+b.sz+1
 | .retS _ x=>x.sz+1
 | .prtS _ x=>x.sz+1
 | .doS _ x=>x.sz+1
 | .block _ l=>l.sz+1
def zm:T->Int
 | .name t _ _=>t.line
 | .index t _ _ _=>t.line
 | .call t _ _=>t.line
 | .un t _=>t.line
 | .bin t _ _=>t.line
 | _=>0
def need:T->Nat->Nat
 | .index _ _ _ p,_=>need p 0
 | .call _ _ xs,_=>need xs 0
 | .un _ x,_=>need x 0
 | .bin t x y,_=>max (need x 0) (if t.s=ofL [38,38]∨t.s=ofL [124,124] then need y 0 else need y 0+1)
 | .cons x xs,k=>max (need x 0+k) (need xs (k+1))
 | _,_=>1
theorem ky:∀ (x:T) (k:Nat),need x k≤x.sz+k
 | .num ..,k=>by simp [need,T.sz]
 | .name ..,k=>by simp [need,T.sz]
 | .nil,k=>by simp [need,T.sz]
 | .index _ _ _ p,k=>by have:=ky p 0;simp only[need,T.sz];omega
 | .call _ _ p,k=>by have:=ky p 0;simp only[need,T.sz];omega
 | .un _ p,k=>by have:=ky p 0;simp only[need,T.sz];omega
 | .bin t x y,k=>by
  have h1:=ky x 0;have h2:=ky y 0;simp only[need,T.sz];split <;> omega
 | .cons x xs,k=>by
  have h1:=ky x 0;have h2:=ky xs (k+1);simp only[need,T.sz];omega
 | .letS ..,k=>by simp only[need,T.sz];omega
 | .setS ..,k=>by simp only[need,T.sz];omega
 | .putS ..,k=>by simp only[need,T.sz];omega
 | .ifS ..,k=>by simp only[need,T.sz];omega
 | .whileS ..,k=>by simp only[need,T.sz];omega
 | .retS ..,k=>by simp only[need,T.sz];omega
 | .prtS ..,k=>by simp only[need,T.sz];omega
 | .doS ..,k=>by simp only[need,T.sz];omega
 | .block ..,k=>by simp only[need,T.sz];omega
def gd (lk:Lk) (Ls:Lcs):T->C T
 | .name t s w=>(sj lk Ls t w).bind λ p=>.ok (.name t p.1 p.2)
 | .index t w z p=>(Km lk Ls t).bind λ a=>(gd lk Ls p).bind λ p'=>.ok (.index t a.1 a.2 p')
 | .call t f xs=>match lk t.s with
  | some (.fn k np)=>if 0≤bf Ls t.s then .err t.line 9 else if np≠xs.len then .err t.line 9 else (gd lk Ls xs).bind λ xs'=>.ok (.call t (some ⟨k,0,none⟩) xs')
  | _=>.err t.line 9
 | .un t x=>(gd lk Ls x).bind λ x'=>.ok (.un t x')
 | .bin t x y=>(gd lk Ls x).bind λ x'=>(gd lk Ls y).bind λ y'=>.ok (.bin t x' y')
 | .cons x xs=>(gd lk Ls x).bind λ x'=>(gd lk Ls xs).bind λ xs'=>.ok (.cons x' xs')
 | x=>.ok x
def ck (lk:Lk) (Ls:Lcs) (x:T) (beside:Nat):C T:=(gd lk Ls x).bind λ x'=>if 8<need x' 0+beside then .err (zm x') 4 else .ok x'
def pu (lk:Lk) (Ls:Lcs) (n:Nat) (line:Int) (s:ByteArray):C (Lcs×Nat) :=
 if (lk s).isSome then .err line 9 else if 0≤bf Ls s then .err line 9 else if n=24 then .err line 4 else .ok (Ls++[(s,n)],n+1)
def cst (lk:Lk):T->Lcs->Nat->C (T×Lcs×Nat)
 | .letS t nm s w x,Ls,n=>(ck lk Ls x 0).bind λ x'=>(pu lk Ls n t.line nm.s).bind λ p=>.ok (.letS t nm (n:Int) w x',p.1,p.2)
 | .setS t s w x,Ls,n=>(sj lk Ls t w).bind λ p=>(ck lk Ls x 0).bind λ x'=>.ok (.setS t p.1 p.2 x',Ls,n)
 | .putS t w z p x,Ls,n=>(Km lk Ls t).bind λ a=>(ck lk Ls p 0).bind λ p'=>(ck lk Ls x 1).bind λ x'=>.ok (.putS t a.1 a.2 p' x',Ls,n)
 | .ifS line c a b,Ls,n=>(ck lk Ls c 0).bind λ c'=>(cst lk a Ls n).bind λ a'=>(cst lk b a'.2.1 a'.2.2).bind λ b'=>.ok (.ifS line c' a'.1 b'.1,b'.2.1,b'.2.2)
 | .whileS line c b,Ls,n=>(ck lk Ls c 0).bind λ c'=>(cst lk b Ls n).bind λ b'=>.ok (.whileS line c' b'.1,b'.2.1,b'.2.2)
 | .retS line x,Ls,n=>(ck lk Ls x 0).bind λ x'=>.ok (.retS line x',Ls,n)
 | .prtS line x,Ls,n=>(ck lk Ls x 0).bind λ x'=>.ok (.prtS line x',Ls,n)
 | .doS line x,Ls,n=>(ck lk Ls x 0).bind λ x'=>.ok (.doS line x',Ls,n)
 | .block line l,Ls,n=>(cst lk l Ls n).bind λ l'=>.ok (.block line l'.1,Ls,l'.2.2)
 | .cons x xs,Ls,n=>(cst lk x Ls n).bind λ x'=>(cst lk xs x'.2.1 x'.2.2).bind λ xs'=>.ok (.cons x'.1 xs'.1,xs'.2.1,xs'.2.2)
 | x,Ls,n=>.ok (x,Ls,n)
theorem C.bind_ok {α β:Type}{r:C α}{k:α->C β}{y:β} (h:r.bind k= .ok y):∃ x,r= .ok x/\k x= .ok y:=by
 cases r with
 | ok x=>exact⟨x,rfl,h⟩
 | err l e=>cases h
theorem ga (lk:Lk) (Ls:Lcs):∀ (x x':T),gd lk Ls x= .ok x'->x'.len=x.len/\x'.sz=x.sz
 | .num ..,x',h=>by cases h;exact⟨rfl,rfl⟩
 | .nil,x',h=>by cases h;exact⟨rfl,rfl⟩
 | .name t s w,x',h=>by obtain⟨p, -,h⟩:=C.bind_ok h;cases h;exact⟨rfl,rfl⟩
 | .index t w z p,x',h=>by
  obtain⟨a, -,h⟩:=C.bind_ok h;obtain⟨p',h1,h⟩:=C.bind_ok h;cases h;exact⟨rfl,by simp only[T.sz,(ga lk Ls p p' h1).2]⟩
 | .call t f xs,x',h=>by
  rw[gd] at h;split at h
  ·split at h
   ·cases h
   ·split at h
    ·cases h
    ·obtain⟨p',h1,h⟩:=C.bind_ok h;cases h;exact⟨rfl,by simp only[T.sz,(ga lk Ls xs p' h1).2]⟩
  ·cases h
 | .un t x,x',h=>by
  obtain⟨p',h1,h⟩:=C.bind_ok h;cases h;exact⟨rfl,by simp only[T.sz,(ga lk Ls x p' h1).2]⟩
 | .bin t x y,x',h=>by
  obtain⟨p',h1,h⟩:=C.bind_ok h;obtain⟨q',h2,h⟩:=C.bind_ok h;cases h;exact⟨rfl,by simp only[T.sz,(ga lk Ls x p' h1).2,(ga lk Ls y q' h2).2]⟩
 | .cons x y,x',h=>by
  obtain⟨p',h1,h⟩:=C.bind_ok h;obtain⟨q',h2,h⟩:=C.bind_ok h;cases h;exact⟨by simp only[T.len,(ga lk Ls y q' h2).1],by simp only[T.sz,(ga lk Ls x p' h1).2,(ga lk Ls y q' h2).2]⟩
 | .letS ..,x',h=>by cases h;exact⟨rfl,rfl⟩
 | .setS ..,x',h=>by cases h;exact⟨rfl,rfl⟩
 | .putS ..,x',h=>by cases h;exact⟨rfl,rfl⟩
 | .ifS ..,x',h=>by cases h;exact⟨rfl,rfl⟩
 | .whileS ..,x',h=>by cases h;exact⟨rfl,rfl⟩
 | .retS ..,x',h=>by cases h;exact⟨rfl,rfl⟩
 | .prtS ..,x',h=>by cases h;exact⟨rfl,rfl⟩
 | .doS ..,x',h=>by cases h;exact⟨rfl,rfl⟩
 | .block ..,x',h=>by cases h;exact⟨rfl,rfl⟩
end Go.Lang
namespace Go.Proofs.YtojogkljneonmaaGreatDoor
open Go Go.Proofs.Tryz Go.Proofs Go.V
set_option maxRecDepth 100000
variable {W:World}{Q:Ending->World->Prop}
def zn:List Nat:=[1000052,1000091,53,50,51,93,94,95,111,112,113,130,131,132,144,171,172,54,128,142,129,56,26,55,27,57,58,97,115,133,114,116]
theorem ako (y0:Nat) (Y0:Nat)
 (hVC:alc W #[pp y0 Y0] 80 λ k W2=>ldP W2 k 0 λ p=>rA prog 25 #[.pointer p] W2 λ vs W3=>alc W3 #[.int .u8 0,.string (.mk #[]),.int .i64 0] 87 λ k2 W4=>stos W4 k2 0 3 vs λ W5=>ldP W5 k 0 λ p2=>rB prog 49 #[.pointer p2,.string (.mk #[118,97,114])] W5 λ t W6=>Sx.split t (nm (World.drew W6) λ W7=>ldP W7 k 0 λ p3=>ldN W7 k2 0 3 λ vs2=>pA prog 50 #[.pointer p3] W7 Q λ vs3 W8=>(ldN W8 k2 0 3 λ vs4=>Value.agg vs4=Value.agg vs2)/\∃ s:ByteArray,vs3[1]?=some (.string s)/\Array.size vs2=3/\nmA (List.toArray (Array.toList vs2++[Value.string s,.int .i64 0,.int .i64 0])) λ vs5=>alc W8 (Value.cells (Value.agg vs5)) 127 λ k4 W9=>ldP W9 k 0 λ p4=>rB prog 49 #[.pointer p4,.string (.mk #[91])] W9 λ t2 W10=>Sx.split t2 (ldP W10 k 0 λ p5=>rA prog 25 #[.pointer p5] W10 λ vs6 W11=>alc W11 #[.int .u8 0,.string (.mk #[]),.int .i64 0] 87 λ k5 W12=>stos W12 k5 0 3 vs6 λ W13=>ldP W13 k 0 λ p6=>pI prog .u32 51 #[.pointer p6] W13 Q λ z W14=>nm (IntKind.wrap .i64 z) λ z2=>sto W14 k4 (0+5) (Value.int .i64 z2) λ W15=>ldI .i64 W15 k4 (0+5) λ z3=>Sx.split (decide (z3<1)) (ldI .i64 W15 k5 (0+2) λ z4=>pX prog 52 #[.int .i64 z4,.int .i64 3] W15 Q) (ldI .i64 W15 k4 (0+5) λ z5=>Sx.split (decide (z5 > 256)) (ldI .i64 W15 k5 (0+2) λ z6=>pX prog 52 #[.int .i64 z6,.int .i64 3] W15 Q) (ldP W15 k 0 λ p7=>pU prog 53 #[.pointer p7,.string (.mk #[93])] W15 Q λ W18=>ldP W18 k 0 λ p8=>pU prog 53 #[.pointer p8,.string (.mk #[59])] W18 Q λ W19=>Q (.returned (.iface 125 (pp k4 0))) W19))) (ldP W10 k 0 λ p9=>pU prog 53 #[.pointer p9,.string (.mk #[59])] W10 Q λ W20=>Q (.returned (.iface 125 (pp k4 0))) W20)) (ldP W6 k 0 λ p10=>pU prog 53 #[.pointer p10,.string (.mk #[102,117,110,99])] W6 Q λ W21=>∃ I:Option Addr->World->Prop,(nm (World.drew W21) λ W22=>ldP W22 k 0 λ p11=>ldN W22 k2 0 3 λ vs7=>(pA prog 50 #[.pointer p11] W22 Q λ vs8 W23=>(ldN W23 k2 0 3 λ vs9=>Value.agg vs9=Value.agg vs7)/\∃ s2:ByteArray,vs8[1]?=some (.string s2)/\Array.size vs7=3/\nmA (List.toArray (Array.toList vs7++[Value.string s2,.slice none 0 0,.pointer none,.int .i64 0,.int .i64 0])) λ vs10=>(alc W23 (Value.cells (Value.agg vs10)) 115 λ k7 W24=>alc W24 #[.pointer none] 63 λ k8 W25=>sto W25 k8 0 (pp k7 0) λ W26=>I (some ⟨k8,0,none⟩) W26)/\alc W23 #[.pointer none] 63 λ k9 W27=>(ldN W27 k2 0 3 λ vs11=>Value.agg vs11=Value.agg vs7)/\alc W27 (Value.cells (Value.agg vs10)) 115 λ k10 W28=>sto W28 k9 0 (pp k10 0) λ W29=>I (some ⟨k9,0,none⟩) W29)/\alc W22 #[.pointer none] 63 λ k11 W30=>RowKit.Below (Array.size (World.heap W22)) W22 W30/\(ldN W30 k2 0 3 λ vs12=>Value.agg vs12=Value.agg vs7)/\pA prog 50 #[.pointer p11] W30 Q λ vs13 W31=>(ldN W31 k2 0 3 λ vs14=>Value.agg vs14=Value.agg vs7)/\∃ s3:ByteArray,vs13[1]?=some (.string s3)/\Array.size vs7=3/\nmA (List.toArray (Array.toList vs7++[Value.string s3,.slice none 0 0,.pointer none,.int .i64 0,.int .i64 0])) λ vs15=>alc W31 (Value.cells (Value.agg vs15)) 115 λ k12 W32=>sto W32 k11 0 (pp k12 0) λ W33=>I (some ⟨k11,0,none⟩) W33)/\(wv (∀ x:Option Addr,∀ W34:World,I x W34->ldP W34 k 0 λ p12=>pU prog 54 #[.pointer p12,Value.func (Fn.func 55) #[] #[pp k 0,.pointer x]] W34 Q λ W35=>nm (World.drew W35) λ W36=>ldP W36 k 0 λ p13=>Sx.ptr x λ a=>∃ p14:Option Addr,World.cell? W36 a=some (.pointer p14)/\pP prog 56 #[.pointer p13] W36 Q λ p15 W37=>(Sx.ptr x λ a2=>∃ p16:Option Addr,World.cell? W37 a2=some (.pointer p16)/\Value.pointer p16=Value.pointer p14)/\Sx.ptr p14 λ a3=>Kk W37 a3 5 (Value.pointer p15) λ W38=>Sx.ptr x λ a4=>∃ p17:Option Addr,World.cell? W38 a4=some (.pointer p17)/\Q (.returned (.iface 63 (Value.pointer p17))) W38)))) :
 Calls prog 26 #[pp y0 Y0] W Q :=
 Sx.sound (pk:=zn) func26 (.r (.r (.n (.r (.n (.n (.node [] [] 1001003 .leaf .leaf) .leaf) .leaf)) (.r (.node [(6,.ptr)] [1] 1 (.node [] [] 1001003 .leaf .leaf) (.r (.n (.node [] [] 1001003 .leaf .leaf) .leaf))))))) [pp y0 Y0] rfl (Eq.mp (by kernel_rfl) hVC)
theorem akp (fv0:Nat) (fv0o:Nat) (fv1:Nat) (fv1o:Nat)
 (hVC:ldP W fv0 fv0o λ p=>pA prog 50 #[.pointer p] W Q λ vs W2=>alc W2 #[.int .u8 0,.string (.mk #[]),.int .i64 0] 87 λ k W3=>stos W3 k 0 3 vs λ W4=>nm (World.drew W4) λ W5=>ldP W5 fv1 fv1o λ p2=>Sx.ptr p2 λ a=>Ee W5 a 4 λ p3 k3 k4=>ldS W5 k (0+1) λ s=>ldP W5 fv1 fv1o λ p4=>alc W5 #[.string s] 9 λ k5 W6=>RowKit.Below (Array.size (World.heap W5)) W5 W6/\(ldP W6 fv1 fv1o λ p5=>Value.pointer p5=Value.pointer p4)/\apn W6 9 1 p3 k3 k4 1 (some ⟨k5,0,none⟩) 16 λ p6 k7 W7=>(ldP W7 fv1 fv1o λ p7=>Value.pointer p7=Value.pointer p4)/\Sx.ptr p4 λ a3=>Kk W7 a3 4 (Value.slice p6 (k3+1) k7) λ W8=>ldP W8 fv1 fv1o λ p8=>Sx.ptr p8 λ a4=>Ee W8 a4 4 λ p9 k10 k11=>Sx.split (decide ((↑k10:Int) > 6)) (ldI .i64 W8 k (0+2) λ z=>pX prog 52 #[.int .i64 z,.int .i64 3] W8 Q) (Q (.returned (.tuple #[])) W8)) :
 Calls prog 55 #[pp fv0 fv0o,pp fv1 fv1o] W Q :=
 Sx.sound (pk:=zn) func55 (.r (.n (.node [] [] 1001009 .leaf .leaf) .leaf)) [pp fv0 fv0o,pp fv1 fv1o] rfl (Eq.mp (by kernel_rfl) hVC)
theorem akq (text:ByteArray)
 (hVC:alc W #[.pointer none] 44 λ k W2=>alc W2 #[.int .i64 0] 3 λ k2 W3=>alc W3 #[.nilIface] 23 λ k3 W4=>Sx.split (decide ((↑(ByteArray.size text):Int) > 8000)) (sto W4 k 0 (Value.pointer none) λ W5=>sto W5 k2 0 (Value.int .i64 0) λ W6=>sto W6 k3 0 (Value.iface 29 (Value.int .i64 1)) λ W7=>ldP W7 k 0 λ p=>ldI .i64 W7 k2 0 λ z=>ldV W7 k3 0 λ v4=>Q (.returned (.tuple #[.pointer p,.int .i64 z,v4])) W7) (nmA (#[.slice none 0 0,.pointer none,.int .i64 0,.slice none 0 0]) λ vs=>alc W4 (Value.cells (Value.agg vs)) 66 λ k4 W8=>sto W8 k 0 (pp k4 0) λ W9=>rL prog 24 #[.string text] W9 λ p2 k5 k6 W10=>nmA (#[.slice p2 k5 k6,.int .i64 0]) λ vs2=>alc W10 (Value.cells (Value.agg vs2)) 84 λ k7 W11=>∃ I:World->Prop,∃ I2:World->Nat,I W11/\(wv (∀ W12:World,I W12->rA prog 25 #[pp k7 0] W12 λ vs3 W13=>∃ z2:Int,vs3[0]?=some (.int .u8 z2)/\Sx.split (z2 !=0) (nm (World.drew W13) λ W14=>ldP W14 k 0 λ p3=>ldP W14 k 0 λ p4=>Sx.ptr p4 λ a=>Ee W14 a 3 λ p5 k8 k9=>Calls prog 26 #[pp k7 0] W14 λ e3 W15=>(∃ v6:Value,e3= .returned v6/\(Ee W15 a 3 λ p6 k10 k11=>Value.slice p6 k10 k11=Value.slice p5 k8 k9)/\(ldP W15 k 0 λ p7=>Value.pointer p7=Value.pointer p4)/\(ldP W15 k 0 λ p8=>Value.pointer p8=Value.pointer p3)/\Sx.one v6 (alc W15 #[v6] 20 λ k12 W16=>(Ee W16 a 3 λ p9 k13 k14=>Value.slice p9 k13 k14=Value.slice p5 k8 k9)/\(ldP W16 k 0 λ p10=>Value.pointer p10=Value.pointer p4)/\(ldP W16 k 0 λ p11=>Value.pointer p11=Value.pointer p3)/\apn W16 20 1 p5 k8 k9 1 (some ⟨k12,0,none⟩) 16 λ p12 k16 W17=>(ldP W17 k 0 λ p13=>Value.pointer p13=Value.pointer p3)/\Sx.ptr p3 λ a3=>Kk W17 a3 3 (Value.slice p12 (k8+1) k16) λ W18=>I W18/\I2 W18<I2 W12))∨(∃ l3:List PanicEntry,e3=Ending.panicked l3/\CallsD prog 23 #[pp k 0,pp k2 0,pp k3 0] (FrameMode.panicking l3) W15 (λ e4=>(λ u=>(λ W19=>(((∃ v10:Value,(e4= .returned v10/\(((settle u=FrameMode.returning/\(∃ p14:Option Addr,(World.cell? W19 ⟨k,0,none⟩=some (.pointer p14)/\(∃ z3:Int,(World.cell? W19 ⟨k2,0,none⟩=some (.int .i64 z3)/\(∃ v11:Value,(World.cell? W19 ⟨k3,0,none⟩=some v11/\Q (.returned (.tuple #[.pointer p14,.int .i64 z3,v11])) W19))))))))∨((∃ l4:List PanicEntry,(settle u=FrameMode.panicking l4/\Q (Ending.panicked l4) W19)))))))∨((∃ l5:List PanicEntry,(e4=Ending.panicked l5/\(∃ l6:List PanicEntry,(raised u l5=FrameMode.panicking l6/\Q (Ending.panicked l6) W19))))))))))) (ldP W13 k 0 λ p15=>Calls prog 27 #[.pointer p15] W13 λ e5 W20=>(e5= .returned (.tuple #[])/\ldP W20 k 0 λ p16=>sto W20 k 0 (Value.pointer p16) λ W21=>sto W21 k2 0 (Value.int .i64 0) λ W22=>sto W22 k3 0 Value.nilIface λ W23=>CallsD prog 23 #[pp k 0,pp k2 0,pp k3 0] FrameMode.returning W23 (λ e6=>(λ u2=>(λ W24=>(((∃ v15:Value,(e6= .returned v15/\(((settle u2=FrameMode.returning/\(∃ p17:Option Addr,(World.cell? W24 ⟨k,0,none⟩=some (.pointer p17)/\(∃ z4:Int,(World.cell? W24 ⟨k2,0,none⟩=some (.int .i64 z4)/\(∃ v16:Value,(World.cell? W24 ⟨k3,0,none⟩=some v16/\Q (.returned (.tuple #[.pointer p17,.int .i64 z4,v16])) W24))))))))∨((∃ l7:List PanicEntry,(settle u2=FrameMode.panicking l7/\Q (Ending.panicked l7) W24)))))))∨((∃ l8:List PanicEntry,(e6=Ending.panicked l8/\(∃ l9:List PanicEntry,(raised u2 l8=FrameMode.panicking l9/\Q (Ending.panicked l9) W24))))))))))∨(∃ l10:List PanicEntry,e5=Ending.panicked l10/\CallsD prog 23 #[pp k 0,pp k2 0,pp k3 0] (FrameMode.panicking l10) W20 (λ e7=>(λ u3=>(λ W25=>(((∃ v17:Value,(e7= .returned v17/\(((settle u3=FrameMode.returning/\(∃ p18:Option Addr,(World.cell? W25 ⟨k,0,none⟩=some (.pointer p18)/\(∃ z5:Int,(World.cell? W25 ⟨k2,0,none⟩=some (.int .i64 z5)/\(∃ v18:Value,(World.cell? W25 ⟨k3,0,none⟩=some v18/\Q (.returned (.tuple #[.pointer p18,.int .i64 z5,v18])) W25))))))))∨((∃ l11:List PanicEntry,(settle u3=FrameMode.panicking l11/\Q (Ending.panicked l11) W25)))))))∨((∃ l12:List PanicEntry,(e7=Ending.panicked l12/\(∃ l13:List PanicEntry,(raised u3 l12=FrameMode.panicking l13/\Q (Ending.panicked l13) W25))))))))))))))) :
 Calls prog 12 #[.string text] W Q :=
 Sx.soundD (pk:=zn) func12 (.r (.r (.r (.r (.n (.r (.n (.node [] [5,2,3,4] 0 (.r (.n (.node [] [] 1001007 .leaf .leaf) .leaf)) .leaf) .leaf)) .leaf))))) [Value.string text] rfl (Eq.mp (by kernel_rfl) hVC)
theorem akr {W:World}{Q:Ending->FrameMode->World->Prop} (fv0:Nat) (fv0o:Nat) (fv1:Nat) (fv1o:Nat) (fv2:Nat) (fv2o:Nat) (v:Value)
 (hVC:Sx.isNil v λ t=>Sx.split t (Q (.returned (.tuple #[])) (FrameMode.panicking [PanicEntry.mk v true false]) W) (Sx.tagOf v 77 (λ v2=>∃ p:Option Addr,v2=Value.pointer p/\Sx.ptr p λ a=>yb .i64 W a 0 λ z=>sto W fv0 fv0o (Value.pointer none) λ W2=>sto W2 fv1 fv1o (Value.int .i64 z) λ W3=>sto W3 fv2 fv2o (Value.iface 77 (Value.pointer p)) λ W4=>Q (.returned (.tuple #[])) (FrameMode.panicking [PanicEntry.mk v true false]) W4) (Sx.split false (False) (match v with | Value.iface t v_1=>Q (Ending.panicked [PanicEntry.mk (Value.iface t v_1) false false]) (FrameMode.panicking [PanicEntry.mk v true false]) W | x=>False)))) :
 CallsD prog 23 #[pp fv0 fv0o,pp fv1 fv1o,pp fv2 fv2o] (.panicking [{ v,recovered:=false }]) W Q :=
 Sx.soundR (pk:=zn) func23 .leaf [pp fv0 fv0o,pp fv1 fv1o,pp fv2 fv2o] (Eq.mp (by kernel_rfl) hVC)
theorem ahj {W:World}{Q:Ending->FrameMode->World->Prop} (fv0:Nat) (fv0o:Nat) (fv1:Nat) (fv1o:Nat) (fv2:Nat) (fv2o:Nat) (v:Value)
 (hVC:Q (.returned (.tuple #[])) FrameMode.returning W) :
 CallsD prog 23 #[pp fv0 fv0o,pp fv1 fv1o,pp fv2 fv2o] .returning W Q :=
 Sx.soundR (pk:=zn) func23 .leaf [pp fv0 fv0o,pp fv1 fv1o,pp fv2 fv2o] (Eq.mp (by kernel_rfl) hVC)
theorem aks (s:ByteArray)
 (hVC:∃ I:ByteArray->Int->Option Addr->Nat->Nat->World->Prop,∃ I2:ByteArray->Int->Option Addr->Nat->Nat->World->Nat,I s 1 none 0 0 W/\(wv (∀ s2:ByteArray,∀ line:Int,∀ l:Option Addr,∀ k:Nat,∀ k2:Nat,∀ W2:World,I s2 line l k k2 W2->Sx.split (!s2.toList==ByteArray.toList (.mk #[])) (∃ b:UInt8,(0:Int)≤(0:Int)/\s2[0]?=some b/\Sx.split ((↑(UInt8.toNat b):Int)==10) (nm (IntKind.wrap .i64 (line+1)) λ z=>(0:Int)≤(1:Int)/\((1:Nat)≤ByteArray.size s2/\ByteArray.size s2≤ByteArray.size s2)/\I (ByteArray.extract s2 1 (ByteArray.size s2)) z l k k2 W2/\I2 (ByteArray.extract s2 1 (ByteArray.size s2)) z l k k2 W2<I2 s2 line l k k2 W2) (∃ b2:UInt8,(0:Int)≤(0:Int)/\s2[0]?=some b2/\Sx.split ((↑(UInt8.toNat b2):Int)==32) ((0:Int)≤(1:Int)/\((1:Nat)≤ByteArray.size s2/\ByteArray.size s2≤ByteArray.size s2)/\I (ByteArray.extract s2 1 (ByteArray.size s2)) line l k k2 W2/\I2 (ByteArray.extract s2 1 (ByteArray.size s2)) line l k k2 W2<I2 s2 line l k k2 W2) (∃ b3:UInt8,(0:Int)≤(0:Int)/\s2[0]?=some b3/\Sx.split ((↑(UInt8.toNat b3):Int)==9) ((0:Int)≤(1:Int)/\((1:Nat)≤ByteArray.size s2/\ByteArray.size s2≤ByteArray.size s2)/\I (ByteArray.extract s2 1 (ByteArray.size s2)) line l k k2 W2/\I2 (ByteArray.extract s2 1 (ByteArray.size s2)) line l k k2 W2<I2 s2 line l k k2 W2) (rB prog 46 #[.string s2,.string (.mk #[47,47])] W2 λ t W3=>Sx.split t (rI prog .i64 47 #[.string s2,.int .u8 10] W3 λ z2 W4=>Sx.split (decide (z2<0)) ((0:Int)≤(↑(ByteArray.size s2):Int)/\(Int.toNat (↑(ByteArray.size s2):Int)≤ByteArray.size s2/\ByteArray.size s2≤ByteArray.size s2)/\I (ByteArray.extract s2 (Int.toNat (↑(ByteArray.size s2):Int)) (ByteArray.size s2)) line l k k2 W4/\I2 (ByteArray.extract s2 (Int.toNat (↑(ByteArray.size s2):Int)) (ByteArray.size s2)) line l k k2 W4<I2 s2 line l k k2 W2) ((0:Int)≤z2/\(z2.toNat≤ByteArray.size s2/\ByteArray.size s2≤ByteArray.size s2)/\I (ByteArray.extract s2 (z2.toNat) (ByteArray.size s2)) line l k k2 W4/\I2 (ByteArray.extract s2 (z2.toNat) (ByteArray.size s2)) line l k k2 W4<I2 s2 line l k k2 W2)) (Calls prog 48 #[.string s2] W3 λ e3 W5=>∃ z3:Int,∃ z4:Int,e3= .returned (.tuple #[.int .u8 z3,.int .i64 z4])/\(0:Int)≤z4/\((0:Nat)≤z4.toNat/\z4.toNat≤ByteArray.size s2)/\nmA (#[.int .u8 z3,.string (ByteArray.extract s2 0 (z4.toNat)),.int .i64 line]) λ vs=>Array.size vs=3/\alc W5 (List.toArray (Array.toList vs++[])) 87 λ k3 W6=>apn W6 87 3 l k k2 1 (some ⟨k3,0,none⟩) 32 λ p k5 W7=>(0:Int)≤z4/\(z4.toNat≤ByteArray.size s2/\ByteArray.size s2≤ByteArray.size s2)/\I (ByteArray.extract s2 (z4.toNat) (ByteArray.size s2)) line p (k+1) k5 W7/\I2 (ByteArray.extract s2 (z4.toNat) (ByteArray.size s2)) line p (k+1) k5 W7<I2 s2 line l k k2 W2))))) (nmA (#[.int .u8 0,.string (.mk #[]),.int .i64 line]) λ vs2=>Array.size vs2=3/\alc W2 (List.toArray (Array.toList vs2++[])) 87 λ k8 W8=>apn W8 87 3 l k k2 1 (some ⟨k8,0,none⟩) 32 λ p2 k10 W9=>Q (.returned (.slice p2 (k+1) k10)) W9)))) :
 Calls prog 24 #[.string s] W Q :=
 Sx.sound (pk:=zn) func24 (.r (.r (.n (.n (.node [(0,.str),(3,.int .i64),(2,.slice)] [] 0 .leaf .leaf) .leaf) .leaf))) [Value.string s] rfl (Eq.mp (by kernel_rfl) hVC)
theorem akt (s:ByteArray)
 (hVC:rI prog .i64 84 #[.string s,Value.func (Fn.func 85) #[] #[]] W λ z W2=>∃ I:Int->World->Prop,Sx.split (decide (z<0)) (I (↑(ByteArray.size s):Int) W2) (I z W2)/\(wv (∀ n:Int,∀ W3:World,I n W3->(0:Int)≤n/\((0:Nat)≤n.toNat/\n.toNat≤ByteArray.size s)/\Sx.split (n==0) (nmA (#[.string (.mk #[124,124]),.string (.mk #[38,38]),.string (.mk #[61,61]),.string (.mk #[33,61]),.string (.mk #[60,61]),.string (.mk #[62,61]),.string (.mk #[60,60]),.string (.mk #[62,62])]) λ vs=>∃ I2:Int->World->Prop,∃ I3:Int->World->Nat,I2 0 W3/\(wv (∀ x:Int,∀ W4:World,I2 x W4->Sx.split (decide (x<8)) (((0:Int)≤x/\x<(↑8:Int))/\∃ s2:ByteArray,vs[x.toNat * 1]?=some (.string s2)/\rB prog 46 #[.string s,.string s2] W4 λ t W5=>Sx.split t (Q (.returned (.tuple #[.int .u8 3,.int .i64 2])) W5) (nm (IntKind.wrap .i64 (x+1)) λ z2=>I2 z2 W5/\I3 z2 W5<I3 x W4)) (∃ b:UInt8,(0:Int)≤(0:Int)/\s[0]?=some b/\rI prog .i64 47 #[.string (.mk #[124,94,38,60,62,43,45,42,47,37,33,126,40,41,91,93,123,125,44,59,61]),.int .u8 (↑(UInt8.toNat b):Int)] W4 λ z3 W6=>Sx.split (decide (z3 ≥ 0)) (Q (.returned (.tuple #[.int .u8 3,.int .i64 1])) W6) (Q (.returned (.tuple #[.int .u8 4,.int .i64 1])) W6))))) (∃ b2:UInt8,(0:Int)≤(0:Int)/\(ByteArray.extract s 0 (n.toNat))[0]?=some b2/\nm (IntKind.wrap .i32 (↑(UInt8.toNat b2):Int)) λ z4=>rB prog 86 #[.int .i32 z4] W3 λ t2 W7=>Sx.split t2 (rB prog 88 #[.string (ByteArray.extract s 0 (n.toNat))] W7 λ t3 W8=>Sx.split t3 (Q (.returned (.tuple #[.int .u8 3,.int .i64 n])) W8) (∃ b3:UInt8,(0:Int)≤(0:Int)/\(ByteArray.extract s 0 (n.toNat))[0]?=some b3/\nm (IntKind.wrap .i32 (↑(UInt8.toNat b3):Int)) λ z5=>rB prog 86 #[.int .i32 z5] W8 λ t4 W9=>Sx.split t4 (Q (.returned (.tuple #[.int .u8 1,.int .i64 n])) W9) (rI prog .i64 84 #[.string (ByteArray.extract s 0 (n.toNat)),Value.func (Fn.func 86) #[] #[]] W9 λ z6 W10=>Sx.split (decide (z6 ≥ 0)) (Q (.returned (.tuple #[.int .u8 4,.int .i64 n])) W10) (Q (.returned (.tuple #[.int .u8 2,.int .i64 n])) W10)))) (∃ b4:UInt8,(0:Int)≤(0:Int)/\(ByteArray.extract s 0 (n.toNat))[0]?=some b4/\nm (IntKind.wrap .i32 (↑(UInt8.toNat b4):Int)) λ z7=>rB prog 86 #[.int .i32 z7] W7 λ t5 W11=>Sx.split t5 (Q (.returned (.tuple #[.int .u8 1,.int .i64 n])) W11) (rI prog .i64 84 #[.string (ByteArray.extract s 0 (n.toNat)),Value.func (Fn.func 86) #[] #[]] W11 λ z8 W12=>Sx.split (decide (z8 ≥ 0)) (Q (.returned (.tuple #[.int .u8 4,.int .i64 n])) W12) (Q (.returned (.tuple #[.int .u8 2,.int .i64 n])) W12))))))) :
 Calls prog 48 #[.string s] W Q :=
 Sx.sound (pk:=zn) func48 (.r (.r (.node [(4,.int .i64)] [0] 1 .leaf (.r (.n (.r (.n (.node [(43,.int .i64)] [42,0] 0 .leaf .leaf) .leaf)) .leaf))))) [Value.string s] rfl (Eq.mp (by kernel_rfl) hVC)
theorem aku (c:Int)
 (hVC:rB prog 86 #[.int .i32 c] W λ t W2=>Sx.split (!t) (rB prog 87 #[.int .i32 c] W2 λ t2 W3=>Q (.returned (.bool !t2)) W3) (Q (.returned (.bool false)) W2)) :
 Calls prog 85 #[.int .i32 c] W Q :=
 Sx.sound (pk:=zn) func85 .leaf [Value.int .i32 c] rfl (Eq.mp (by kernel_rfl) hVC)
theorem akv (w:ByteArray)
 (hVC:Sx.split (w.toList==ByteArray.toList (.mk #[118,97,114])) (Q (.returned (.bool true)) W) (Sx.split (w.toList==ByteArray.toList (.mk #[102,117,110,99])) (Q (.returned (.bool true)) W) (Sx.split (w.toList==ByteArray.toList (.mk #[108,101,116])) (Q (.returned (.bool true)) W) (Sx.split (w.toList==ByteArray.toList (.mk #[105,102])) (Q (.returned (.bool true)) W) (Sx.split (w.toList==ByteArray.toList (.mk #[101,108,115,101])) (Q (.returned (.bool true)) W) (Sx.split (w.toList==ByteArray.toList (.mk #[119,104,105,108,101])) (Q (.returned (.bool true)) W) (Sx.split (w.toList==ByteArray.toList (.mk #[114,101,116,117,114,110])) (Q (.returned (.bool true)) W) (Sx.split (w.toList==ByteArray.toList (.mk #[112,114,105,110,116])) (Q (.returned (.bool true)) W) (Q (.returned (.bool false)) W))))))))) :
 Calls prog 88 #[.string w] W Q :=
 Sx.sound (pk:=zn) func88 .leaf [Value.string w] rfl (Eq.mp (by kernel_rfl) hVC)
theorem akw (c:Int)
 (hVC:Sx.split (c==95) (Q (.returned (.bool true)) W) (Sx.split (decide (c ≥ 97)) (Q (.returned (.bool (decide (c≤122)))) W) (Q (.returned (.bool false)) W))) :
 Calls prog 86 #[.int .i32 c] W Q :=
 Sx.sound (pk:=zn) func86 .leaf [Value.int .i32 c] rfl (Eq.mp (by kernel_rfl) hVC)
theorem akx (c:Int)
 (hVC:Sx.split (decide (c ≥ 48)) (Q (.returned (.bool (decide (c≤57)))) W) (Q (.returned (.bool false)) W)) :
 Calls prog 87 #[.int .i32 c] W Q :=
 Sx.sound (pk:=zn) func87 .leaf [Value.int .i32 c] rfl (Eq.mp (by kernel_rfl) hVC)
end Go.Proofs.YtojogkljneonmaaGreatDoor
