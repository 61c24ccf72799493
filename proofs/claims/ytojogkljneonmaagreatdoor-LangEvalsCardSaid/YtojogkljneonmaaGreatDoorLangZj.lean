/- The lexer in memory: the first token of a text. No condition. -/
import Derived.Test.YtojogkljneonmaaGreatDoorLangM
import Derived.Test.YtojogkljneonmaaGreatDoorLangX
import Derived.Test.YtojogkljneonmaaGreatDoorLangZi
set_option linter.unusedVariables false
set_option linter.unusedSimpArgs false
namespace Go.Proofs.YtojogkljneonmaaGreatDoor
open Go Go.Proofs.Tryz Go.Proofs Go.Sep Go.XHeap Go.RowKit Go.Lang
variable {W:World}
theorem nr (c:Int) (hc:0≤c):Calls prog 86 #[.int .i32 c] W λ e w'=>e= .returned (.bool (Db c.toNat))/\w'=W:=by
 refine akw c ?_;unfold Db;refine Sx.so (λ h=>?_) (λ h=>?_)
 ·have:=beq_iff_eq.1 h;rw[show c.toNat=95 by omega];exact⟨rfl,rfl⟩
 ·have h1:(c.toNat==95)=false:=beq_eq_false_iff_ne.2 λ e=>(beq_eq_false_iff_ne.1 h) (by omega);rw[h1,Bool.false_or];refine Sx.so (λ h=>?_) (λ h=>?_)
  ·have h2:=dt h;rw[decide_eq_true (show 97≤c.toNat by omega),Bool.true_and];exact⟨by rw[show decide (c≤122)=decide (c.toNat≤122) from decide_eq_decide.2 (by omega)],rfl⟩
  ·have h2:=df h;rw[decide_eq_false (show ¬ 97≤c.toNat by omega)];exact⟨rfl,rfl⟩
theorem Tr (c:Int) (hc:0≤c):Calls prog 87 #[.int .i32 c] W λ e w'=>e= .returned (.bool (Pg c.toNat))/\w'=W:=by
 refine akx c ?_;unfold Pg;refine Sx.so (λ h=>?_) (λ h=>?_)
 ·have h2:=dt h;rw[decide_eq_true (show 48≤c.toNat by omega),Bool.true_and];exact⟨by rw[show decide (c≤57)=decide (c.toNat≤57) from decide_eq_decide.2 (by omega)],rfl⟩
 ·have h2:=df h;rw[decide_eq_false (show ¬ 48≤c.toNat by omega)];exact⟨rfl,rfl⟩
theorem Pi [Inhabited G3o] (c:Int) (hc:0≤c):Calls prog 85 #[.int .i32 c] W λ e w'=>e= .returned (.bool (!(Db c.toNat||Pg c.toNat)))/\w'=W:=by
 refine aku c ?_;refine(nr c hc).mono ?_;rintro _ w2 ⟨rfl,rfl⟩;refine⟨_,rfl,?_⟩;refine Sx.so (λ h=>?_) (λ h=>?_)
 ·refine(Tr c hc).mono ?_;rintro _ w3 ⟨rfl,rfl⟩
  have h:Db c.toNat=false:=by simpa using h
  exact⟨_,rfl,by rw[h];rfl,rfl⟩
 ·have h:Db c.toNat=true:=by simpa using h
  exact⟨by rw[h];rfl,rfl⟩
theorem Kw [Inhabited G3o] (w:ByteArray):Calls prog 88 #[.string w] W λ e w'=>e= .returned (.bool (decide (w.data.toList ∈ words)))/\w'=W:=by
 refine akv w ?_;simp only[ab]
 have yes:∀ {l:List UInt8},l ∈ words->decide (w=ofL l)=true->(Ending.returned (.bool true)=Ending.returned (.bool (decide (w.data.toList ∈ words))))/\True:=by
  intro l hl h;have:=dt h;subst this;rw[ed,decide_eq_true hl];exact⟨rfl,trivial⟩
 refine Sx.so (λ h=>yes (l:=[118,97,114]) (by decide) h) (λ h1=>?_);refine Sx.so (λ h=>yes (l:=[102,117,110,99]) (by decide) h) (λ h2=>?_);refine Sx.so (λ h=>yes (l:=[108,101,116]) (by decide) h) (λ h3=>?_);refine Sx.so (λ h=>yes (l:=[105,102]) (by decide) h) (λ h4=>?_);refine Sx.so (λ h=>yes (l:=[101,108,115,101]) (by decide) h) (λ h5=>?_);refine Sx.so (λ h=>yes (l:=[119,104,105,108,101]) (by decide) h) (λ h6=>?_);refine Sx.so (λ h=>yes (l:=[114,101,116,117,114,110]) (by decide) h) (λ h7=>?_);refine Sx.so (λ h=>yes (l:=[112,114,105,110,116]) (by decide) h) (λ h8=>?_);have no:∀ {l:List UInt8},decide (w=ofL l)=false->w.data.toList≠l:=λ h e=>df h (by rw[<- e,Co]);rw[decide_eq_false]
 ·exact⟨rfl,trivial⟩
 ·intro hm;simp only[words,List.mem_cons,List.not_mem_nil,or_false] at hm;rcases hm with e | e | e | e | e | e | e | e
  ·exact no (l:=[118,97,114]) h1 e
  ·exact no (l:=[102,117,110,99]) h2 e
  ·exact no (l:=[108,101,116]) h3 e
  ·exact no (l:=[105,102]) h4 e
  ·exact no (l:=[101,108,115,101]) h5 e
  ·exact no (l:=[119,104,105,108,101]) h6 e
  ·exact no (l:=[114,101,116,117,114,110]) h7 e
  ·exact no (l:=[112,114,105,110,116]) h8 e
theorem Ky [Inhabited G3o] (w:World):PredAt prog 86 #[] encR Db w:=λ W x hb=>(nr (W:=W) (x:Int) (by omega)).mono λ e w' h=>⟨h.1,0,h.2⟩
theorem Kz [Inhabited G3o] (w:World):PredAt prog 85 #[] encR (λ r=> !(Db r||Pg r)) w:=λ W x hb=>(Pi (W:=W) (x:Int) (by omega)).mono λ e w' h=>⟨h.1,0,h.2⟩
theorem Dc {w w':World} (h:Below w.heap.size w w'):im w w':=(XTouch.of_below h).mono λ k hk hs=>by omega
theorem Yb [Inhabited G3o] (s:ByteArray):Calls prog 84 #[.string s,.func (.func 85) #[] #[]] W λ e w'=>e= .returned (.int .i64 (if bz s.data.toList=s.data.toList.length then -1 else (bz s.data.toList:Int)))/\im W w':=by
 refine(Tryz.strings_IndexFunc 85 #[] (enters_of func85 (by kernel_rfl) rfl) _ s W (Kz W)).mono ?_;rintro e w' ⟨rfl,hb⟩;rw[Ya];exact⟨rfl,Dc hb⟩
theorem Yc [Inhabited G3o] (s:ByteArray):Calls prog 84 #[.string s,.func (.func 86) #[] #[]] W λ e w'=>e= .returned (.int .i64 (Lib.idxFunc Db true s))/\im W w':=by
 refine(Tryz.strings_IndexFunc 86 #[] (enters_of func86 (by kernel_rfl) rfl) _ s W (Ky W)).mono ?_;rintro e w' ⟨rfl,hb⟩;exact⟨rfl,Dc hb⟩
theorem Yd (b:UInt8):Calls prog 47 #[.string (ofL ones),.int .u8 (b.toNat:Int)] W λ e w'=>(∃ z:Int,e= .returned (.int .i64 z)/\(0≤z↔b ∈ ones))/\w'=W:=by
 refine(Tryz.strings_IndexByte (ofL ones) (b.toNat:Int) W).mono ?_;rintro e w' ⟨rfl,rfl⟩;refine⟨⟨_,rfl,?_⟩,rfl⟩;rw[ed,qw,show((b.toNat:Nat):Int).toNat.toUInt8=b by simp];split
 ·rename_i h;exact⟨λ _=>h,λ _=>by omega⟩
 ·rename_i h;exact⟨λ e=>by omega,λ e=>absurd e h⟩
theorem Ai (l p:List UInt8):Lib.hasPrefix l p=decide (l.take p.length=p):=by
 unfold Lib.hasPrefix;rw[Bool.eq_iff_iff,List.isPrefixOf_iff_prefix,List.prefix_iff_eq_take,decide_eq_true_iff];exact eq_comm
theorem wrap32 (b:UInt8):IntKind.wrap .i32 (b.toNat:Int)=(b.toNat:Int):=by
 have:=b.toNat_lt;unfold IntKind.wrap;simp [IntKind.bits,IntKind.signed];omega
theorem ru (s:List UInt8):bz s≤s.length:=jw _ s
theorem wh (s:List UInt8):∀ c ∈ s.take (bz s),(isL c||isD c)=true:=by
 intro c hc
 have hp:s.take (bz s)=s.takeWhile λ c=>isL c||isD c:=by
  unfold bz;exact(List.prefix_iff_eq_take.1 (List.takeWhile_prefix _)).symm
 rw[hp] at hc;have:=List.all_takeWhile (l:=s) (p:=λ c=>isL c||isD c);exact List.all_eq_true.1 this c hc
theorem Ts [Inhabited G3o] (s:List UInt8) (hs:s≠[]):Calls prog 48 #[.string (ofL s)] W λ e w'=>e= .returned (.tuple #[.int .u8 ((first s).1:Nat),.int .i64 ((first s).2:Nat)])/\im W w':=by
 refine akt (ofL s) ?_;refine(Yb (ofL s)).mono ?_;rintro _ w2 ⟨rfl,h2⟩;rw[ed];have hwl:=ru s;refine⟨_,rfl,?_⟩;refine⟨λ n w=>n=(bz s:Int)/\im W w,Sx.so (λ h=>⟨?_,h2⟩) (λ h=>⟨?_,h2⟩),λ _ n w3 hI=>?_⟩
 ·have h:=dt h;rw[ak];split at h <;> omega
 ·have h:=df h;split at h
  ·omega
  ·rename_i h5;rw[if_neg h5]
 obtain⟨rfl,h3⟩:=hI;refine⟨by omega,⟨by omega,by rw[ak];omega⟩,?_⟩;obtain⟨c,r,rfl⟩:=List.exists_cons_of_ne_nil hs;refine Sx.so (λ h=>?_) (λ h=>?_)
 ·have h0:bz (c::r)=0:=by have:=beq_iff_eq.1 h;omega
  have hf:first (c::r)=if (c::r).take 2 ∈ twos then (3,2) else if (c::r).headD 0 ∈ ones then (3,1) else (4,1):=by unfold first;rw[h0]
  rintro vs rfl;refine⟨λ x w=>im W w/\∃ i:Nat,x=i/\i≤8/\∀ j t,j<i->twos[j]?=some t->(c::r).take 2≠t,λ x w=>(8 - x).toNat,⟨h3,0,rfl,by omega,λ j t hj=>by omega⟩,λ _ x w4 hI=>?_⟩;obtain⟨h4,i,rfl,hi,hno⟩:=hI;refine Sx.so (λ h=>?_) (λ h=>?_)
  ·have h5:i<8:=by have:=dt h;omega
   have ht:i<twos.length:=h5
   have hlen:∀ x ∈ twos,x.length=2:=by decide
   refine⟨⟨by omega,by omega⟩,ofL twos[i],?_,?_⟩
   ·show(twos.map λ l=>Value.string (ofL l)).toArray[((i:Nat):Int).toNat * 1]?=_;rw[show((i:Nat):Int).toNat * 1=i by omega,List.getElem?_toArray,List.getElem?_map,List.getElem?_eq_getElem ht];rfl
   ·refine(Tryz.strings_HasPrefix (ofL (c::r)) (ofL twos[i]) w4).mono ?_;rintro _ w5 ⟨rfl,rfl⟩;rw[ed,ed,Ai,hlen _ (List.getElem_mem ht)];refine⟨_,rfl,Sx.so (λ h=>?_) (λ h=>?_)⟩
    ·have h6:=dt h;rw[hf,if_pos (h6 ▸ List.getElem_mem ht)];exact⟨rfl,h4⟩
    ·have h6:=df h;rintro z rfl
     have hw:IntKind.wrap .i64 ((i:Nat)+1:Int)=((i+1:Nat):Int):=by rw[show((i:Nat)+1:Int)=((i+1:Nat):Int) by omega];exact Go.Bits.n64 (by omega)
     rw[hw];refine⟨⟨h4,i+1,rfl,by omega,λ j t hj hjt=>?_⟩,by show(8 - ((i+1:Nat):Int)).toNat<(8 - ((i:Nat):Int)).toNat;omega⟩;rcases Nat.lt_or_eq_of_le (Nat.lt_succ_iff.1 hj) with h7 | h7
     ·exact hno j t h7 hjt
     ·subst h7;rw[List.getElem?_eq_getElem ht] at hjt;cases hjt;exact h6
  ·have h5:i=8:=by have:=df h;omega
   subst h5
   have hnot:¬ (c::r).take 2 ∈ twos:=by
    intro hm;obtain⟨j,hj,e⟩:=List.getElem_of_mem hm;exact hno j _ hj (List.getElem?_eq_getElem hj) e.symm
   rw[if_neg hnot] at hf
   have hf:first (c::r)=if c ∈ ones then (3,1) else (4,1):=hf
   refine⟨c,by omega,eh _ 0,?_⟩;refine(Yd (W:=w4) c).mono ?_;rintro _ w5 ⟨⟨z,rfl,hz⟩,rfl⟩;refine⟨z,rfl,Sx.so (λ h=>?_) (λ h=>?_)⟩
   ·have h6:=dt h;rw[hf,if_pos (hz.1 h6)];exact⟨rfl,h4⟩
   ·have h6:=df h;rw[hf,if_neg (λ e=>h6 (hz.2 e))];exact⟨rfl,h4⟩
 ·obtain⟨m,hm⟩:∃ m,bz (c::r)=m+1:=⟨bz (c::r) - 1,by have:=bne_iff_ne.1 (show((bz (c::r):Int) !=0)=true by simpa [bne] using h);omega⟩
  have hf:first (c::r)=if isL c then (if (c::r).take (m+1) ∈ words then (3,m+1) else (1,m+1)) else if ((c::r).take (m+1)).all isD then (2,m+1) else (4,m+1):=by unfold first;rw[hm];rfl
  have hwb:=wh (c::r);rw[hm] at hwb ⊢
  have hx:(ofL (c::r)).extract 0 ((m+1:Nat):Int).toNat=ofL ((c::r).take (m+1)):=by
   rw[bc,List.drop_zero];rfl
  simp only[hx]
  have hc0:(ofL ((c::r).take (m+1)))[0]?=some c:=by rw[eh];rfl
  refine⟨c,by omega,hc0,?_⟩;rintro z rfl;rw[wrap32];refine(nr (W:=w3) (c.toNat:Int) (by omega)).mono ?_;rintro _ w4 ⟨rfl,rfl⟩;rw[Int.toNat_natCast,<- lp];refine⟨_,rfl,Sx.so (λ h=>?_) (λ h=>?_)⟩
  ·refine(Kw (W:=w4) (ofL ((c::r).take (m+1)))).mono ?_;rintro _ w5 ⟨rfl,rfl⟩;rw[ed];refine⟨_,rfl,Sx.so (λ h6=>?_) (λ h6=>?_)⟩
   ·rw[hf,if_pos h,if_pos (dt h6)];exact⟨rfl,h3⟩
   ·refine⟨c,by omega,hc0,?_⟩;rintro z rfl;rw[wrap32];refine(nr (W:=w5) (c.toNat:Int) (by omega)).mono ?_;rintro _ w6 ⟨rfl,rfl⟩;rw[Int.toNat_natCast,<- lp];refine⟨_,rfl,Sx.so (λ h7=>?_) (λ h7=>?_)⟩
    ·rw[hf,if_pos h,if_neg (df h6)];exact⟨rfl,h3⟩
    ·rw[h] at h7;cases h7
  ·refine⟨c,by omega,hc0,?_⟩;rintro z rfl;rw[wrap32];refine(nr (W:=w4) (c.toNat:Int) (by omega)).mono ?_;rintro _ w6 ⟨rfl,rfl⟩;rw[Int.toNat_natCast,<- lp];refine⟨_,rfl,Sx.so (λ h7=>?_) (λ h7=>?_)⟩
   ·rw[h] at h7;cases h7
   ·refine(Yc (W:=w6) (ofL ((c::r).take (m+1)))).mono ?_;rintro _ w7 ⟨rfl,h7'⟩;have hil:=Ph (ofL ((c::r).take (m+1))) hwb;rw[ed] at hil
    have hL:¬ isL c=true:=by rw[h];decide
    refine⟨_,rfl,Sx.so (λ h8=>?_) (λ h8=>?_)⟩
    ·have h9:=hil.1 (dt h8);rw[hf,if_neg hL,if_neg (by rw[h9];decide)];exact⟨rfl,db h3 h7'⟩
    ·have h9:((c::r).take (m+1)).all isD=true:=by
      cases he:((c::r).take (m+1)).all isD with
      | true=>rfl
      | false=>exact absurd (hil.2 he) (df h8)
     rw[hf,if_neg hL,if_pos h9];exact⟨rfl,db h3 h7'⟩
end Go.Proofs.YtojogkljneonmaaGreatDoor
namespace Go.Lang
open Go
theorem sy {α:Type} (p:α->Bool):∀ (l:List α),l.dropWhile p=l.drop (l.takeWhile p).length
 | []=>rfl
 | a::l=>by
  rw[List.dropWhile_cons,List.takeWhile_cons]
  cases p a with
  | false=>rfl
  | true=>simpa using sy p l
theorem va {α:Type} (p:α->Bool):∀ (l:List α),(∀ x ∈ l,p x=true)->l.dropWhile p=[]
 | [],_=>rfl
 | a::l,h=>by
  rw[List.dropWhile_cons,if_pos (h a (List.mem_cons_self ..))];exact va p l λ x hx=>h x (List.mem_cons_of_mem _ hx)
theorem Ig (l:List UInt8):(l.dropWhile λ c=>c≠10)=if Lib.indexByte l 10<0 then [] else l.drop (Lib.indexByte l 10).toNat:=by
 rw[qw];by_cases h:(10:UInt8) ∈ l
 ·rw[if_pos h,if_neg (by omega),Int.toNat_natCast];exact sy _ l
 ·rw[if_neg h,if_pos (by omega)]
  exact va _ l λ x hx=>by
   simp only[decide_eq_true_eq];intro e;exact h (e ▸ hx)
end Go.Lang
namespace Go.Proofs.YtojogkljneonmaaGreatDoor
open Go Go.Proofs.Tryz Go.Proofs Go.Sep Go.XHeap Go.RowKit Go.Lang
variable {W:World}
theorem yh {s:List UInt8} (h:s.length≤8000) (line:Int):Good (lex s line):=by
 obtain⟨h1,h2,h3,h4⟩:=vu s.length s line (Nat.le_refl _);exact⟨h1,h2,λ t ht=>by have:=h3 t ht;omega,by omega⟩
theorem Pj [Inhabited G3o] (s:List UInt8) (hs:s.length≤8000):Calls prog 24 #[.string (ofL s)] W λ e w'=>∃ p c,e= .returned (.slice p (lex s 1).length c)/\Post emp W (sl 87 3 (.slice p (lex s 1).length c) (lex s 1).length ((lex s 1).flatMap tkL)) w':=by
 refine aks (ofL s) ?_;have hlen:=(yh hs 1).2.2.2;refine⟨λ s2 line p k c w=>∃ u ts,s2=ofL u/\k=ts.length/\ts++lex u line=lex s 1/\1≤line/\line+u.length≤s.length+1/\St W emp.own w [sl 87 3 (.slice p ts.length c) ts.length (ts.flatMap tkL)],λ s2 _ _ _ _ _=>s2.size,?_,λ _ s2 line p k c w2 hI=>?_⟩
 ·exact⟨s,[],rfl,rfl,rfl,by omega,by omega,(St.nil W).add ⟨Sl.nil _ _ _,XTouch.refl _ _,λ q hq=>by cases hq⟩⟩
 obtain⟨u,ts,rfl,rfl,ht,hl1,hl2,H⟩:=hI
 have hts:ts.length+(lex u line).length≤8001:=by rw[<- List.length_append,ht];exact hlen
 rw[ab];refine Sx.so (λ h=>?_) (λ h=>?_)
 ·obtain⟨a,r,rfl⟩:∃ a r,u=a::r:=by
   cases u with
   | nil=>cases h
   | cons a r=>exact⟨a,r,rfl⟩
  have h0:(ofL (a::r))[0]?=some a:=eh _ 0;have hsz:(ofL (a::r)).size=r.length+1:=rfl;simp only[List.length_cons] at hl2
  have hx1:(ofL (a::r)).extract 1 (ofL (a::r)).size=ofL r:=by
   rw[bc,hsz,List.take_of_length_le (by simp)];rfl
  rw[Ef] at ht hts;refine⟨a,by omega,h0,Sx.so (λ h1=>?_) (λ h1=>?_)⟩
  ·have ha:a=10:=by
    have:=beq_iff_eq.1 h1;exact UInt8.toNat_inj.1 (by show a.toNat=10;omega)
   rw[if_pos ha] at ht;rintro z rfl;refine⟨by omega,⟨by omega,Nat.le_refl _⟩,?_⟩;rw[hx1]
   have hw:IntKind.wrap .i64 (line+1)=line+1:=by
    obtain⟨m,rfl⟩:∃ m:Nat,line=m:=⟨line.toNat,by omega⟩;rw[show((m:Nat)+1:Int)=((m+1:Nat):Int) by omega];exact Go.Bits.n64 (by omega)
   rw[hw];exact⟨⟨r,ts,rfl,rfl,ht,by omega,by omega,H⟩,by show(ofL r).size<(ofL (a::r)).size;rw[hsz,ak];omega⟩
  have ha:a≠10:=λ e=>by rw[e] at h1;cases h1
  rw[if_neg ha] at ht hts
  have blank:(a=32∨a=9)->((0:Int)≤1/\(1≤(ofL (a::r)).size/\(ofL (a::r)).size≤(ofL (a::r)).size)/\(∃ u ts',(ofL (a::r)).extract 1 (ofL (a::r)).size=ofL u/\ts.length=ts'.length/\ts'++lex u line=lex s 1/\1≤line/\line+u.length≤s.length+1/\St W emp.own w2 [sl 87 3 (.slice p ts'.length c) ts'.length (ts'.flatMap tkL)])/\((ofL (a::r)).extract 1 (ofL (a::r)).size).size<(ofL (a::r)).size):=by
   intro hb;rw[if_pos hb] at ht;refine⟨by omega,⟨by omega,Nat.le_refl _⟩,?_⟩;rw[hx1];exact⟨⟨r,ts,rfl,rfl,ht,by omega,by omega,H⟩,by rw[hsz,ak];omega⟩
  refine⟨a,by omega,h0,Sx.so (λ h2=>?_) (λ h2=>?_)⟩
  ·have ha:a=32:=by
    have:=beq_iff_eq.1 h2;exact UInt8.toNat_inj.1 (by show a.toNat=32;omega)
   exact blank (.inl ha)
  refine⟨a,by omega,h0,Sx.so (λ h3=>?_) (λ h3=>?_)⟩
  ·have ha:a=9:=by
    have:=beq_iff_eq.1 h3;exact UInt8.toNat_inj.1 (by show a.toNat=9;omega)
   exact blank (.inr ha)
  have hb:¬ (a=32∨a=9):=by
   rintro(e | e)
   ·rw[e] at h2;cases h2
   ·rw[e] at h3;cases h3
  rw[if_neg hb] at ht hts;refine(Tryz.strings_HasPrefix (ofL (a::r)) (ofL [47,47]) w2).mono ?_;rintro _ w3 ⟨rfl,rfl⟩;rw[ed,ed,Ai];refine⟨_,rfl,Sx.so (λ h4=>?_) (λ h4=>?_)⟩
  ·have hc:(a::r).take 2=[47,47]:=dt h4;rw[if_pos hc] at ht;have hlt:=ni hc;rw[Ig] at ht hlt;refine(Tryz.strings_IndexByte (ofL (a::r)) 10 w3).mono ?_;rintro _ w4 ⟨rfl,rfl⟩;rw[ed,show(10:Int).toNat.toUInt8=10 from rfl];refine⟨_,rfl,Sx.so (λ h5=>?_) (λ h5=>?_)⟩
   ·have h5:=dt h5;rw[if_pos h5] at ht
    have hx:(ofL (a::r)).extract ((ofL (a::r)).size:Int).toNat (ofL (a::r)).size=ofL []:=by
     rw[bc,Int.toNat_natCast,ak,List.take_of_length_le (Nat.le_refl _),List.drop_eq_nil_of_le (Nat.le_refl _)]
    refine⟨by omega,⟨by omega,Nat.le_refl _⟩,?_⟩;rw[hx];exact⟨⟨[],ts,rfl,rfl,ht,by omega,by simp only[List.length_nil];omega,H⟩,by show 0<(ofL (a::r)).size;omega⟩
   ·have h5:=df h5;rw[if_neg h5] at ht hlt;rw[List.length_drop] at hlt;simp only[List.length_cons] at hlt
    have hrange:(Lib.indexByte (a::r) 10).toNat≤r.length+1:=by
     rw[qw];split
     ·have:=jw (λ x:UInt8=>decide (x≠10)) (a::r);simp only[List.length_cons] at this;omega
     ·omega
    have hx:(ofL (a::r)).extract (Lib.indexByte (a::r) 10).toNat (ofL (a::r)).size=ofL ((a::r).drop (Lib.indexByte (a::r) 10).toNat):=by
     rw[bc,ak,List.take_of_length_le (Nat.le_refl _)]
    refine⟨by omega,⟨by rw[hsz];omega,Nat.le_refl _⟩,?_⟩;rw[hx];refine⟨⟨_,ts,rfl,rfl,ht,by omega,by rw[List.length_drop];simp only[List.length_cons];omega,H⟩,?_⟩;show(ofL _).size<(ofL (a::r)).size;rw[hsz,ak,List.length_drop];simp only[List.length_cons];omega
  ·have hc:¬ (a::r).take 2=[47,47]:=df h4;rw[if_neg hc] at ht hts;have hf:=nh (s:=a::r) (by simp);simp only[List.length_cons] at hf;refine H.callq (Ts (a::r) (by simp)) λ w4 H4=>?_;generalize hk:(first (a::r)).1=kk at *;generalize hn:(first (a::r)).2=nn at *;refine⟨_,_,rfl,by omega,⟨by omega,by rw[hsz];omega⟩,?_⟩
   have hx0:(ofL (a::r)).extract 0 ((nn:Nat):Int).toNat=ofL ((a::r).take nn):=by
    rw[bc,List.drop_zero];rfl
   have hxn:(ofL (a::r)).extract ((nn:Nat):Int).toNat (ofL (a::r)).size=ofL ((a::r).drop nn):=by
    rw[bc,ak,List.take_of_length_le (Nat.le_refl _)];rfl
   simp only[hx0,hxn];rintro vs rfl;refine⟨rfl,?_⟩;refine H4.al λ k3 w5 H5=>?_
   have hts2:ts.length+1+(lex ((a::r).drop nn) line).length≤8001:=by simp only[List.length_cons] at hts;omega
   refine H5.app 0 rfl (tkL ⟨kk,ofL ((a::r).take nn),line⟩) (.inr ⟨_,rfl,λ j v hj=>?_⟩) rfl (gf _) (by show ts.length+1≤maxLen;unfold maxLen;omega) (by omega) λ p' c' w6 H6=>?_
   ·rw[show(Addr.add ⟨k3,0,none⟩ j)=⟨k3,j,none⟩ by simp [Addr.add];intro e;exact e.symm];exact H5.ld 1 rfl (i:=j) (by simpa [tkL,ofL] using hj)
   refine⟨by omega,⟨by rw[hsz];omega,Nat.le_refl _⟩,⟨_,ts++[⟨kk,ofL ((a::r).take nn),line⟩],rfl,by simp,by rw[<- ht];simp,by omega,by rw[List.length_drop];simp only[List.length_cons];omega,?_⟩,?_⟩
   ·have h9:St W emp.own w6 [sl 87 3 (.slice p' (ts.length+1) c') (ts.length+1) (ts.flatMap tkL++tkL ⟨kk,ofL ((a::r).take nn),line⟩)]:=H6.pick [0];rw[show(ts++[(⟨kk,ofL ((a::r).take nn),line⟩:Tok)]).length=ts.length+1 by simp];rw[List.flatMap_append,List.flatMap_cons,List.flatMap_nil,List.append_nil];exact h9
   ·show(ofL _).size<(ofL (a::r)).size;rw[hsz,ak,List.length_drop];simp only[List.length_cons];omega
 ·have hu:u=[]:=by
   have h:decide (ofL u=ofL [])=true:=by
    cases hd:decide (ofL u=ofL []) with
    | true=>rfl
    | false =>
     have h:(!decide (ofL u=ofL []))=false:=h;rw[hd] at h;cases h
   exact zl (dt h)
  subst hu;rw[vt] at ht;rintro vs rfl;refine⟨rfl,?_⟩;refine H.al λ k3 w5 H5=>?_;rw[vt] at hts;simp only[List.length_cons,List.length_nil] at hts;refine H5.app 0 rfl (tkL ⟨0,ofL [],line⟩) (.inr ⟨_,rfl,λ j v hj=>?_⟩) rfl (gf _) (by show ts.length+1≤maxLen;unfold maxLen;omega) (by omega) λ p' c' w6 H6=>?_
  ·rw[show(Addr.add ⟨k3,0,none⟩ j)=⟨k3,j,none⟩ by simp [Addr.add];intro e;exact e.symm];exact H5.ld 1 rfl (i:=j) (by simpa [tkL,ofL] using hj)
  refine⟨p',c',?_,?_⟩
  ·rw[<- ht];simp
  ·rw[<- ht];have h9:St W emp.own w6 [sl 87 3 (.slice p' (ts.length+1) c') (ts.length+1) (ts.flatMap tkL++tkL ⟨0,ofL [],line⟩)]:=H6.pick [0];rw[show(ts++[(⟨0,ofL [],line⟩:Tok)]).length=ts.length+1 by simp];rw[List.flatMap_append,List.flatMap_cons,List.flatMap_nil,List.append_nil];exact h9.post 0 rfl
variable {W:World}{b g n:Nat}{l:List Tok}
theorem Tt {l l1:List Tok}{v:Int} (h:(number l λ v l=>R.ok v l)= .ok v l1):∃ k:Nat,v=k/\k<4294967296:=by
 unfold number at h;split at h
 ·cases h
 ·split at h
  ·cases h
  ·cases h;exact⟨_,rfl,by omega⟩
def aii [Inhabited G3o] (b g:Nat) (W:World) (A:Asn) (d:D) (l':List Tok) (e:Ending) (w':World):Prop:=∃ v B,e= .returned v/\agp d v B/\Post A W (all [bn b g l' 0,B]) w'
theorem Ye [Inhabited G3o]{f:Nat} (h:(bn b g l 0).at_ W) (hr:zj f l≠ .out):Calls prog 26 #[pt b] W (Ans (mv b) (bn b g l 0) W (zj f l) (aii b g W (bn b g l 0))):=by
 refine ako b 0 ?_;have I0:=aek f
 have hrun:zj f l=if is mb l then (name l.tail λ t l=>R.ok t l).bind λ nm l' =>
   if is cLB l' then (number l'.tail λ v l=>R.ok v l).bind λ v l''=>if v<1∨256<v then .err (now l'.tail).line 3 else (want cRB l'' λ l=>R.ok () l).bind λ _ l''=>(want cu l'' λ l=>R.ok () l).bind λ _ l''=>.ok (.var (now l) nm.s 0 v) l''
   else (want cu l' λ l=>R.ok () l).bind λ _ l'=>.ok (.var (now l) nm.s 0 0) l'
  else (want da l λ l=>R.ok () l).bind λ _ l'=>(name l' λ t l=>R.ok t l).bind λ nm l'=>(want cLP l' λ l=>params 6 l).bind λ ps l'=>(run f .blk 0 l').bind λ b l'=>.ok (.fn (now l) nm.s ps 0 0 b) l':=by
  unfold zj;split
  ·rw[qr];congr 1;funext nm l';split
   ·rw[ou];congr 1;funext v l'';split
    ·rfl
    ·rw[qs];congr 1;funext _ l3;rw[qs]
   ·rw[qs]
  ·rw[qs];congr 1;funext _ l';rw[qr];congr 1;funext nm l';unfold want;split <;> rfl
 generalize zj f l=R0 at *;refine(St.begin h).al λ k w2 H2=>?_;refine⟨_,H2.ld 1 rfl (i:=0) rfl,?_⟩;refine H2.callq (gx (H2.nth 0 rfl)) λ w3 H3=>?_;refine⟨_,rfl,?_⟩;refine H3.al λ k2 w4 H4=>?_;refine H4.sts0 2 (n:=3) (vs:=(tkL (now l)).toArray) rfl rfl rfl (by simpa using gf _) λ w5 H5=>?_;refine⟨_,H5.ld 1 rfl (i:=0) rfl,?_⟩;refine(dq mb (H5.nth 0 rfl)).mono ?_;rintro _ w6 ⟨rfl,hp⟩;have H6:=H5.upd 0 rfl hp;refine⟨_,rfl,?_⟩;refine Sx.so (λ h6=>?_) (λ h6=>?_)
 ·rw[if_pos h6] at hrun H6;refine H6.dr λ w7 H7=>?_;refine⟨_,H7.ld 1 rfl (i:=0) rfl,_,rfl,H7.cells 2 rfl,?_⟩;refine mq (β:=Unit) H7 0 rfl hrun hr (λ _=>oq (H7.nth 0 rfl)) ?_;rintro nm l1 - hrun _ w8 ⟨rfl,hp⟩;have H8:=H7.upd 0 rfl hp;refine⟨_,rfl,⟨_,rfl,H8.cells 2 rfl,rfl⟩,_,rfl,rfl,?_⟩;rintro _ rfl;refine H8.al λ k4 w9 H9=>?_;refine⟨_,H9.ld 1 rfl (i:=0) rfl,?_⟩;refine(dq cLB (H9.nth 0 rfl)).mono ?_;rintro _ w10 ⟨rfl,hp⟩;have H10:=H9.upd 0 rfl hp;refine⟨_,rfl,?_⟩;refine Sx.so (λ h10=>?_) (λ h10=>?_)
  ·rw[if_pos h10] at hrun H10;refine⟨_,H10.ld 1 rfl (i:=0) rfl,?_⟩;refine H10.callq (gx (H10.nth 0 rfl)) λ w11 H11=>?_;refine⟨_,rfl,?_⟩;refine H11.al λ k5 w12 H12=>?_;refine H12.sts0 4 (n:=3) (vs:=(tkL (now l1.tail)).toArray) rfl rfl rfl (by simpa using gf _) λ w13 H13=>?_;refine⟨_,H13.ld 1 rfl (i:=0) rfl,?_⟩;refine mq (β:=Unit) H13 0 rfl hrun hr (λ _=>Cq (H13.nth 0 rfl)) ?_;rintro v l2 hnum hrun _ w14 ⟨rfl,hp⟩;have H14:=H13.upd 0 rfl hp;obtain⟨q,rfl,hq⟩:=Tt hnum;refine⟨_,rfl,?_⟩;rintro _ rfl;rw[show IntKind.wrap .i64 ((q:Nat):Int)=((q:Nat):Int) from Go.Bits.n64 (by omega)];refine H14.st 3 rfl (i:=5) (by simp [tkL,Value.cells]) λ w15 H15=>?_;refine⟨_,H15.ld 3 rfl (i:=5) rfl,?_⟩;refine Sx.so (λ h15=>?_) (λ h15=>?_)
   ·have h15:=dt h15;rw[if_pos (.inl h15)] at hrun;rw[hrun];refine⟨_,H15.ld 4 rfl (i:=2) rfl,?_⟩;exact vw H15 0 rfl (Ei (H15.nth 0 rfl) (now l1.tail).line 3)
   have h15:=df h15;refine⟨_,H15.ld 3 rfl (i:=5) rfl,?_⟩;refine Sx.so (λ h16=>?_) (λ h16=>?_)
   ·have h16:=dt h16;rw[if_pos (.inr h16)] at hrun;rw[hrun];refine⟨_,H15.ld 4 rfl (i:=2) rfl,?_⟩;exact vw H15 0 rfl (Ei (H15.nth 0 rfl) (now l1.tail).line 3)
   have h16:=df h16;rw[if_neg (λ h=>h.elim h15 (λ h=>h16 h))] at hrun;refine⟨_,H15.ld 1 rfl (i:=0) rfl,?_⟩;refine mq (β:=Unit) H15 0 rfl hrun hr (λ _=>om cRB (H15.nth 0 rfl)) ?_;rintro _ l3 - hrun _ w18 ⟨rfl,hp⟩;have H18:=H15.upd 0 rfl hp;refine⟨rfl,_,H18.ld 1 rfl (i:=0) rfl,?_⟩;refine mq (β:=Unit) H18 0 rfl hrun hr (λ _=>om cu (H18.nth 0 rfl)) ?_;rintro _ l4 - hrun _ w19 ⟨rfl,hp⟩;have H19:=H18.upd 0 rfl hp;rw[hrun];exact⟨rfl,_,_,rfl,⟨k4,rfl,rfl⟩,St.post (St.shut (L:=[_,_]) (L':=[]) (H19.pick [0,3])) 0 rfl⟩
  ·rw[if_neg (by rw[h10];exact Bool.false_ne_true)] at hrun H10;refine⟨_,H10.ld 1 rfl (i:=0) rfl,?_⟩;refine mq (β:=Unit) H10 0 rfl hrun hr (λ _=>om cu (H10.nth 0 rfl)) ?_;rintro _ l4 - hrun _ w19 ⟨rfl,hp⟩;have H19:=H10.upd 0 rfl hp;rw[hrun];exact⟨rfl,_,_,rfl,⟨k4,rfl,rfl⟩,St.post (St.shut (L:=[_,_]) (L':=[]) (H19.pick [0,3])) 0 rfl⟩
 ·rw[if_neg (by rw[h6];exact Bool.false_ne_true)] at hrun H6;refine⟨_,H6.ld 1 rfl (i:=0) rfl,?_⟩;refine mq (β:=Unit) H6 0 rfl hrun hr (λ _=>om da (H6.nth 0 rfl)) ?_;rintro _ l1 - hrun _ w7 ⟨rfl,hp⟩;have H7:=H6.upd 0 rfl hp;refine⟨rfl,?_⟩;refine⟨λ x w=>∃ nm l2 kf kd,x=some ⟨kf,0,none⟩/\St W (bn b g l 0).own w (tf b g 0 l2 (now l) nm k kf kd none 0 [])/\R0=(want cLP l2 λ l=>params 6 l).bind λ ps l'=>(run f .blk 0 l').bind λ b l'=>.ok (.fn (now l) nm ps 0 0 b) l',?_,λ _=>?_⟩
  ·refine H7.dr λ w8 H8=>?_;refine⟨_,H8.ld 1 rfl (i:=0) rfl,_,rfl,H8.cells 2 rfl,?_,?_⟩
   ·refine mq (β:=Unit) H8 0 rfl hrun hr (λ _=>oq (H8.nth 0 rfl)) ?_;rintro nm l2 - hrun _ w9 ⟨rfl,hp⟩;have H9:=H8.upd 0 rfl hp;refine⟨_,rfl,⟨_,rfl,H9.cells 2 rfl,rfl⟩,_,rfl,rfl,?_⟩;rintro _ rfl;refine⟨?_,?_⟩
    ·refine H9.al λ k7 w10 H10=>?_;refine H10.al λ k8 w11 H11=>?_;refine H11.st 4 rfl (i:=0) (by simp) λ w12 H12=>?_;have H13:=(H12.pick [0,1,4,3]).add (A:=sl 9 1 (.slice none 0 0) 0 []) ⟨Sl.nil _ _ _,XTouch.refl _ _,λ q hq=>by cases hq⟩;exact⟨nm.s,l2,k8,k7,rfl,H13,hrun⟩
    ·refine H9.al λ k9 w10 H10=>?_;refine⟨⟨_,rfl,H10.cells 2 rfl,rfl⟩,?_⟩;refine H10.al λ k10 w11 H11=>?_;refine H11.st 3 rfl (i:=0) (by simp) λ w12 H12=>?_;have H13:=(H12.pick [0,1,3,4]).add (A:=sl 9 1 (.slice none 0 0) 0 []) ⟨Sl.nil _ _ _,XTouch.refl _ _,λ q hq=>by cases hq⟩;exact⟨nm.s,l2,k9,k10,rfl,H13,hrun⟩
   ·refine H8.alb λ k11 w9 H9 _ hb9=>?_;refine⟨hb9,⟨_,rfl,H9.cells 2 rfl,rfl⟩,?_⟩;refine mq (β:=Unit) H9 0 rfl hrun hr (λ _=>oq (H9.nth 0 rfl)) ?_;rintro nm l2 - hrun _ w10 ⟨rfl,hp⟩;have H10:=H9.upd 0 rfl hp;refine⟨_,rfl,⟨_,rfl,H10.cells 2 rfl,rfl⟩,_,rfl,rfl,?_⟩;rintro _ rfl;refine H10.al λ k12 w11 H11=>?_;refine H11.st 3 rfl (i:=0) (by simp) λ w12 H12=>?_;have H13:=(H12.pick [0,1,3,4]).add (A:=sl 9 1 (.slice none 0 0) 0 []) ⟨Sl.nil _ _ _,XTouch.refl _ _,λ q hq=>by cases hq⟩;exact⟨nm.s,l2,k11,k12,rfl,H13,hrun⟩
  ·clear hrun H7 hp;rintro x w34 ⟨nm,l2,kf,kd,rfl,H8,hrun⟩;refine⟨_,H8.ld 1 rfl (i:=0) rfl,?_⟩;have H8:=St.shut (L':=[]) (by simpa using H8);refine mq (β:=Unit) H8 0 rfl hrun hr (λ _=>Sg (H8.nth 0 rfl)) ?_;rintro ps l3 - hrun _ w9 ⟨rfl,p,c,hp⟩;have H9:=St.open_ (L':=[]) (H8.upd 0 rfl hp);refine⟨rfl,?_⟩;refine H9.dr λ w10 H10=>?_;refine⟨_,H10.ld 1 rfl (i:=0) rfl,ptr_some ⟨_,H10.ld 2 rfl (i:=0) rfl,?_⟩⟩;refine mq (β:=Unit) H10 0 rfl hrun hr (λ hr=>I0.blk (H10.nth 0 rfl) (by omega) hr) ?_;rintro y l4 - hrun _ w11 ⟨kb,B,rfl,hB,hp⟩;have H11:=St.open_ (L:=[_,_]) (H10.upd 0 rfl hp);refine⟨_,rfl,ptr_some ⟨_,H11.ld 3 rfl (i:=0) rfl,rfl⟩,ptr_some ?_⟩;refine H11.st 4 rfl (i:=5) (by simp [fnC,tkL]) λ w12 H12=>?_;refine ptr_some ⟨_,H12.ld 3 rfl (i:=0) rfl,?_⟩;rw[hrun];have H13:=(St.shut (L:=[_,_,_]) (L':=[_]) (H12.pick [4,5,1,0])).pick [1,0];exact⟨_,_,rfl,⟨kd,kb,p,c,B,hB,rfl,rfl⟩,St.post (St.shut (L:=[_,_]) (L':=[]) H13) 0 rfl⟩
variable {W:World}
theorem aex [Inhabited G3o]{d:D}{v:Value}{B:Asn} (h:agp d v B) (hd:DOk d):∃ m:Dm,m.d=d/\qc m.g=v/\m.Ok/\m.New/\∀ {w0 w:World}{M:Nat->Prop}{L:List Asn},St w0 M w (B::L)->St w0 M w (hdA m.g::rsA m::L):=by
 cases d with
 | var t nm w z =>
  obtain⟨k,rfl,rfl⟩:=h;refine⟨⟨.var k t nm w z,[],.nil,emp⟩,rfl,rfl,hd,trivial,λ H=>?_⟩;have:=H.add (A:=emp) ⟨trivial,XTouch.refl _ _,λ q hq=>hq.elim⟩;exact this.perm (List.Perm.cons _ (List.perm_append_singleton _ _))
 | fn t nm ps s no bd =>
  obtain⟨k,kb,p,c,B',hP,rfl,rfl⟩:=h;obtain⟨rfl,h2,h3,h4⟩:=hd;refine⟨⟨.fn ⟨k,t,nm,ps.length,p,c,kb,no⟩ 0,ps,bd,B'⟩,rfl,rfl,⟨rfl,hP,h3,h4,h2⟩,rfl,λ {w0 w M L} H=>?_⟩;have H1:=St.open_ (L:=[_,_,_]) H;exact sn (A:=hdA (.fn ⟨k,t,nm,ps.length,p,c,kb,no⟩ 0)) (Bs:=[_,_]) (L:=L) H1
theorem Tu [Inhabited G3o]{A0:Asn}{w:World}{k k2 k3 b:Nat}{line en:Int}{v2:Value}{L:List Asn}{v1:Value}{z:Int}{Q:Ending->FrameMode->World->Prop}
  (H:St W A0.own w ([blk k #[v1] 44,blk k2 #[.int .i64 z] 3,blk k3 #[v2] 23,Ow b line en]++L))
  (hQ:∀ w',St W A0.own w' ([blk k #[.pointer none] 44,blk k2 #[.int .i64 line] 3,blk k3 #[.iface 77 (pt b)] 23,Ow b line en]++L)->Q (.returned (.tuple #[])) (.panicking [⟨.iface 77 (pt b),true,false⟩]) w') :
  CallsD prog 23 #[pt k,pt k2,pt k3] (.panicking (pan b)) w Q:=by
 refine akr k 0 k2 0 k3 0 _ ?_;refine qp (be (bi ⟨_,rfl,ptr_some ⟨line,H.ld 3 rfl (i:=0) rfl,?_⟩⟩));refine H.st 0 rfl (i:=0) (by simp) λ w2 H2=>?_;refine H2.st 1 rfl (i:=0) (by simp) λ w3 H3=>?_;refine H3.st 2 rfl (i:=0) (by simp) λ w4 H4=>?_;exact hQ w4 H4
def toC {α:Type}:R α->C α
 | .ok ds _=>.ok ds
 | .err l e=>.err l e
 | .out=>.err 0 0
def dl (f g:Nat) (s:List UInt8):C (List D):=if 8000<s.length then .err 0 1 else toC (decls f g (lex s 1))
def aey [Inhabited G3o] (W:World) (ad:Nat->Nat) (r:C (List D)) (q:List D×Nat) (kp:Nat) (w':World):Prop:=∃ (ms cur:List Dm) (km:Nat) (pf pd:Option Addr) (cf cd tot:Nat),ad=xu (av ms 0 0)/\r= .ok (ms.map Dm.d)/\(∀ m ∈ ms,m.Ok)/\tot=Bn ((av ms 0 0).map Dm.g)/\cur.map Dm.d=q.1/\(cur.map Dm.g).map gz=((av ms 0 0).map Dm.g).map gz/\(∀ m ∈ cur,m.Fit)/\Post globA W (all [globA,all (ady kp km pf cf pd cd (pt q.2) (tot:Int) (av ms 0 0) cur)]) w'
def Yf [Inhabited G3o] (W:World) (s:List UInt8) (f g:Nat) (e:Ending) (w':World):Prop:=∃ ad,match (dl f g s).bind (check ad) with
 | .ok q=>∃ kp,e= .returned (.tuple #[pt kp,.int .i64 0,.nilIface])/\aey W ad (dl f g s) q kp w'
 | .err line en=>∃ v,e= .returned (.tuple #[.pointer none,.int .i64 line,v])/\((v= .iface 29 (.int .i64 en)/\Post globA W globA w')∨∃ b,v= .iface 77 (pt b)/\Post globA W (all [globA,Ow b line en]) w')
theorem Yg [Inhabited G3o]{f g:Nat} (s:List UInt8) (hr:s.length≤8000->decls f g (lex s 1)≠ .out) (h:globA.at_ W):Calls prog 12 #[.string (ofL s)] W (Yf W s f g):=by
 refine akq (ofL s) ?_;refine(St.begin h).al λ k w2 H2=>?_;refine H2.al λ k2 w3 H3=>?_;refine H3.al λ k3 w4 H4=>?_;refine Sx.so (λ hs=>?_) (λ hs=>?_)
 ·have hs:8000<s.length:=by have:=dt hs;rw[ak] at this;omega
  refine H4.st 1 rfl (i:=0) (by simp) λ w5 H5=>?_;refine H5.st 2 rfl (i:=0) (by simp) λ w6 H6=>?_;refine H6.st 3 rfl (i:=0) (by simp) λ w7 H7=>?_;refine⟨_,H7.ld 1 rfl (i:=0) rfl,_,H7.ld 2 rfl (i:=0) rfl,_,H7.ld 3 rfl (i:=0) rfl,λ _=>0,?_⟩;unfold dl;rw[if_pos hs];exact⟨_,rfl,.inl ⟨rfl,H7.post 0 rfl⟩⟩
 have hs:¬ 8000<s.length:=by have:=df hs;rw[ak] at this;omega
 have hr:=hr (by omega);rintro vs rfl;refine H4.al λ k4 w8 H8=>?_;refine H8.st 1 rfl (i:=0) (by simp) λ w9 H9=>?_;refine(Pj s (by omega)).mono ?_;rintro _ w10 ⟨p,c,rfl,hp⟩;have H10:=H9.add hp;refine⟨_,_,_,rfl,?_⟩;rintro vs2 rfl;refine H10.al λ k7 w11 H11=>?_;have hgood:=yh (s:=s) (by omega) 1;obtain⟨t0,l0,hl0⟩:=hgood.cons
 obtain⟨gb,off,rfl⟩:∃ gb off,p=some ⟨gb,off,none⟩:=by
  have h1:Sl w11 87 3 (.slice p (lex s 1).length c) (lex s 1).length ((lex s 1).flatMap tkL):=H11.nth 5 rfl;rcases h1.2 with ⟨-,h2⟩ | ⟨gb,off,cap,cur,hv, -⟩
  ·rw[hl0] at h2;simp at h2
  ·simp at hv;exact⟨gb,off,hv.1⟩
 have H12:St W globA.own w11 (Ro k7 gb off c (lex s 1) 0++[blk k #[pt k4] 44,blk k2 #[.int .i64 0] 3,blk k3 #[.nilIface] 23,blk k4 #[.slice none 0 0,.pointer none,.int .i64 0,.slice none 0 0] 66]):=H11.pick [6,5,0,1,2,3,4];have H13:=ol hgood (by omega) H12;have H14:=((H13.add (A:=sl 20 1 (.slice none 0 0) 0 []) ⟨Sl.nil _ _ _,XTouch.refl _ _,λ q hq=>by cases hq⟩).add (A:=all []) ⟨trivial,XTouch.refl _ _,λ q hq=>hq.elim⟩).add (A:=all []) ⟨trivial,XTouch.refl _ _,λ q hq=>hq.elim⟩;obtain⟨R0,hR0⟩:∃ R0,R0=decls f g (lex s 1):=⟨_,rfl⟩
 have hpar:dl f g s=toC R0:=by
  unfold dl;rw[if_neg hs,hR0]
 have hout:R0≠ .out:=by rw[hR0];exact hr
 have fault:∀ {w:World} {L:List Asn} {b:Nat} {line en:Int} {ad:Nat->Nat} {v1 v2:Value} {z:Int},(dl f g s).bind (check ad)= .err line en->St W globA.own w ([blk k #[v1] 44,blk k2 #[.int .i64 z] 3,blk k3 #[v2] 23,Ow b line en]++globA::L) ->
   CallsD prog 23 #[pt k,pt k2,pt k3] (.panicking (pan b)) w λ e4 u W19=>(∃ v10:Value,e4= .returned v10/\((settle u= .returning/\∃ p14:Option Addr,W19.cell? ⟨k,0,none⟩=some (.pointer p14)/\∃ z3:Int,W19.cell? ⟨k2,0,none⟩=some (.int .i64 z3)/\∃ v11:Value,W19.cell? ⟨k3,0,none⟩=some v11/\Yf W s f g (.returned (.tuple #[.pointer p14,.int .i64 z3,v11])) W19)∨∃ l4:List PanicEntry,settle u= .panicking l4/\Yf W s f g (.panicked l4) W19))∨∃ l5:List PanicEntry,e4= .panicked l5/\∃ l6:List PanicEntry,raised u l5= .panicking l6/\Yf W s f g (.panicked l6) W19:=by
  intro w L b line en ad v1 v2 z he H;refine Tu H λ w' H'=>.inl ⟨_,rfl,.inl ⟨rfl,_,H'.ld 0 rfl (i:=0) rfl,_,H'.ld 1 rfl (i:=0) rfl,_,H'.ld 2 rfl (i:=0) rfl,ad,?_⟩⟩;rw[he];refine⟨_,rfl,.inr ⟨b,rfl,?_⟩⟩;have H2:=H'.pick [4,3];exact St.post (St.shut (L:=[globA,Ow b line en]) (L':=[]) H2) 0 rfl
 refine⟨λ w=>∃ (ms:List Dm) (l:List Tok) (g':Nat) (pd:Option Addr) (cd:Nat),(∀ m ∈ ms,m.Ok/\m.New)/\ms.length+l.length≤8001/\R0=(decls f g' l).bind (λ r l'=>.ok (ms.map Dm.d++r) l') /\
  St W globA.own w [bn k7 gb l 0,blk k #[pt k4] 44,blk k2 #[.int .i64 0] 3,blk k3 #[.nilIface] 23,blk k4 #[.slice none 0 0,.pointer none,.int .i64 0,.slice pd ms.length cd] 66,sl 20 1 (.slice pd ms.length cd) ms.length (ms.map λ m=>qc m.g),all ((ms.map Dm.g).map hdA),all (ms.map rsA)],λ w=>ot k7 w,⟨[],lex s 1,g,none,0,(λ m hm=>by cases hm),by have:=hgood.2.2.2;simpa using this,by rw[hR0];cases decls f g (lex s 1) <;> rfl,H14⟩,λ _ w12 hI=>?_⟩
 obtain⟨ms,l,g',pd,cd,hms,hlen,hR,H15⟩:=hI;refine H15.callq (gx (H15.nth 0 rfl)) λ w13 H16=>?_;refine⟨_,rfl,_,rfl,?_⟩
 cases g' with
 | zero=>exact absurd (by rw[hR];rfl) hout
 | succ g' =>
 have hR:R0=((if (now l).k=0 then .ok [] l else (zj f l).bind λ d l=>(decls f g' l).bind λ ds l=>.ok (d::ds) l):R (List D)).bind (λ r l'=>.ok (ms.map Dm.d++r) l'):=hR;refine Sx.so (λ hk=>?_) (λ hk=>?_)
 ·have hk:¬ (now l).k=0:=λ e=>by rw[e] at hk;cases hk
  rw[if_neg hk] at hR;refine H16.dr λ w14 H17=>?_;refine⟨_,H17.ld 1 rfl (i:=0) rfl,_,H17.ld 1 rfl (i:=0) rfl,ptr_some ⟨_,_,_,H17.ld 4 rfl (i:=3) rfl,?_⟩⟩;have hdne:zj f l≠ .out:=λ e=>hout (by rw[hR,e];rfl);refine(Ye (H17.nth 0 rfl) hdne).mono ?_;intro e w15 he
  cases hd:zj f l with
  | out=>exact absurd hd hdne
  | err line en =>
   rw[hd] at he hR;obtain⟨b,rfl,hp⟩:=he;have H18:=St.open_ (L:=[Ow b line en,mv k7]) (H17.upd 0 rfl hp);have H19:St W globA.own w15 (mv k7::[blk k #[pt k4] 44,blk k2 #[.int .i64 0] 3,blk k3 #[.nilIface] 23,Ow b line en]):=H18.pick [1,2,3,4,0];obtain⟨v,z,H20⟩:=zo H19;have H21:St W globA.own w15 ([blk k #[pt k4] 44,blk k2 #[.int .i64 0] 3,blk k3 #[.nilIface] 23,Ow b line en]++globA::[]):=H20.pick [2,3,4,5,1];exact .inr ⟨_,rfl,fault (ad:=λ _=>0) (by rw[hpar,hR];rfl) H21⟩
  | ok d l1 =>
   rw[hd] at he hR;obtain⟨v,B,rfl,hD,hp⟩:=he;obtain⟨hdok,hlt⟩:=rr (by omega) hd;obtain⟨m,hm1,hm2,hm3,hm4,hm5⟩:=aex hD hdok;have H18:=St.open_ (L:=[bn k7 gb l1 0,B]) (H17.upd 0 rfl hp);refine .inl ⟨v,rfl,⟨_,_,_,H18.ld 5 rfl (i:=3) rfl,rfl⟩,⟨_,H18.ld 2 rfl (i:=0) rfl,rfl⟩,⟨_,H18.ld 2 rfl (i:=0) rfl,rfl⟩,abf hD ?_⟩;refine H18.al λ ka w16 H19=>⟨⟨_,_,_,H19.ld 5 rfl (i:=3) rfl,rfl⟩,⟨_,H19.ld 2 rfl (i:=0) rfl,rfl⟩,⟨_,H19.ld 2 rfl (i:=0) rfl,rfl⟩,?_⟩;refine H19.app 6 rfl [v] (.inr ⟨_,rfl,λ j u hj=>?_⟩) rfl (by simpa using Xk hD) (by show ms.length+1≤maxLen;unfold maxLen;omega) (by omega) λ p' c' w17 H20=>?_
   ·match j,hj with
    | 0,hj=>cases hj;exact H19.ld 9 rfl (i:=0) rfl
   refine⟨⟨_,H20.ld 2 rfl (i:=0) rfl,rfl⟩,ptr_some (H20.st 5 rfl (i:=3) (by simp) λ w18 H21=>?_)⟩;have H22:=hm5 (H21.pick [1,0,2,3,4,5,6,7,8]);have H23:St W globA.own w18 (all (ms.map rsA)::rsA m::[all ((ms.map Dm.g).map hdA),hdA m.g,bn k7 gb l1 0,blk k #[pt k4] 44,blk k2 #[.int .i64 0] 3,blk k3 #[.nilIface] 23,blk k4 #[.slice none 0 0,.pointer none,.int .i64 0,.slice p' (ms.length+1) c'] 66,sl 20 1 (.slice p' (ms.length+1) c') (ms.length+1) ((ms.map λ m=>qc m.g)++[v])]):=H22.pick [9,1,8,0,2,3,4,5,6,7];have H24:=(St.push H23).pick [1,2,0,3,4,5,6,7,8];have H25:=(St.push H24).pick [2,3,4,5,6,7,0,1];refine⟨⟨ms++[m],l1,g',p',c',λ x hx=>?_,by simp;omega,?_,?_⟩,?_⟩
   ·rcases List.mem_append.1 hx with hx | hx
    ·exact hms x hx
    ·simp at hx;subst hx;exact⟨hm3,hm4⟩
   ·rw[hR];show((decls f g' l1).bind λ ds l=>.ok (d::ds) l).bind _=_
    cases decls f g' l1 with
    | ok r l'=>simp [R.bind,hm1]
    | err a b=>rfl
    | out=>rfl
   ·have e1:(ms++[m]).length=ms.length+1:=by simp
    rw[e1,List.map_append,List.map_append,List.map_append,List.map_append];simp only[List.map_cons,List.map_nil];rw[hm2];exact H25
   ·show ot k7 w18<ot k7 w12;rw[fw (H25.nth 0 rfl),fw (H15.nth 0 rfl)];exact hlt
 ·have hk:(now l).k=0:=by
   have:=bne_eq_false_iff_eq.1 hk;omega
  rw[if_pos hk] at hR
  have hR:R0= .ok (ms.map Dm.d) l:=by rw[hR];show R.ok (ms.map Dm.d++[]) l=_;rw[List.append_nil]
  rw[hR] at hpar;obtain⟨-, -,off2,c2,H17⟩:=jx H16;refine⟨_,H17.ld 3 rfl (i:=0) rfl,?_⟩;have H18:St W globA.own w13 (Fc k4 pd cd ms++[globA,blk k #[pt k4] 44,blk k2 #[.int .i64 0] 3,blk k3 #[.nilIface] 23]):=H17.pick [6,7,8,9,2,3,4,5];have H19:=St.shut (L:=Fc k4 pd cd ms) H18;refine(Tq (by omega) (λ m hm=>(hms m hm).1) (λ m hm=>(hms m hm).2) (H19.nth 0 rfl)).mono ?_;intro e w14 he
  have hpc:(dl f g s).bind (check (xu (av ms 0 0)))=check (xu (av ms 0 0)) (ms.map Dm.d):=by rw[hpar];rfl
  cases hc:check (xu (av ms 0 0)) (ms.map Dm.d) with
  | err line en =>
   rw[hc] at he hpc;obtain⟨b,rfl,hp⟩:=he;have H20:=H19.upd 0 rfl hp;have H21:St W globA.own w14 ([blk k #[pt k4] 44,blk k2 #[.int .i64 0] 3,blk k3 #[.nilIface] 23,Ow b line en]++globA::[]):=H20.pick [2,3,4,0,1];exact .inr ⟨_,rfl,fault hpc H21⟩
  | ok q =>
   rw[hc] at he hpc;obtain⟨rfl,cur,km,pf,cf,tot,hcur,hgz,hfit,htot,hp⟩:=he;have H20:=H19.upd 0 rfl hp;refine .inl ⟨rfl,_,H20.ld 2 rfl (i:=0) rfl,?_⟩;refine H20.st 2 rfl (i:=0) (by simp) λ w15 H21=>?_;refine H21.st 3 rfl (i:=0) (by simp) λ w16 H22=>?_;refine H22.st 4 rfl (i:=0) (by simp) λ w17 H23=>?_;refine ahj k 0 k2 0 k3 0 .nilIface ?_;refine .inl ⟨_,rfl,.inl ⟨rfl,_,H23.ld 2 rfl (i:=0) rfl,_,H23.ld 3 rfl (i:=0) rfl,_,H23.ld 4 rfl (i:=0) rfl,xu (av ms 0 0),?_⟩⟩;rw[hpc];refine⟨k4,rfl,ms,cur,km,pf,pd,cf,cd,tot,rfl,by rw[hpar];rfl,λ m hm=>(hms m hm).1,htot,hcur,hgz,hfit,?_⟩;exact St.post (St.shut (L:=[_,_]) (L':=[]) (H23.pick [1,0])) 0 rfl
end Go.Proofs.YtojogkljneonmaaGreatDoor
