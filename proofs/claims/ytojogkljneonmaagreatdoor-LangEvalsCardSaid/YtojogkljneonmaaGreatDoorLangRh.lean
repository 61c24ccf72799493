/- The reference's lexer: all tokens of a text. No condition. -/
import Derived.Test.YtojogkljneonmaaGreatDoorLangRc
import Derived.Test.YtojogkljneonmaaGreatDoorLangRe
import Derived.Test.YtojogkljneonmaaGreatDoorLangC
import Derived.Test.YtojogkljneonmaaGreatDoorLangRg
set_option linter.unusedVariables false
set_option linter.unusedSimpArgs false
namespace Go.Proofs.YtojogkljneonmaaGreatDoor
open Go Go.Proofs.Tryz Go.Proofs Go.Sep Go.XHeap Go.RowKit Go.Lang
variable {W:World}
def tkR (t:Tok):List Value:=[.int .u8 ((kR t.k:Nat):Int),.string t.s,.int .i64 t.line]
theorem acy (t:Tok):(tkR t).length=3:=rfl
theorem mr (t:Tok):∀ v ∈ (tkR t),v.oneCell'=true:=by
 intro v hv;simp only[tkR,List.mem_cons,List.not_mem_nil,or_false] at hv;rcases hv with rfl | rfl | rfl <;> rfl
theorem Lj [Inhabited G3o] (s:List UInt8) (hs:s.length≤8000):Calls prog 28 #[.string (ofL s)] W λ e w'=>∃ p c,e= .returned (.slice p (lex s 1).length c)/\Post emp W (sl 96 3 (.slice p (lex s 1).length c) (lex s 1).length ((lex s 1).flatMap tkR)) w':=by
 refine ank (ofL s) ?_;have hlen:=(yh hs 1).2.2.2;refine⟨λ s2 line p k c w=>∃ u ts,s2=ofL u/\k=ts.length/\ts++lex u line=lex s 1/\1≤line/\line+u.length≤s.length+1/\St W emp.own w [sl 96 3 (.slice p ts.length c) ts.length (ts.flatMap tkR)],λ s2 _ _ _ _ _=>s2.size,?_,λ _ s2 line p k c w2 hI=>?_⟩
 ·exact⟨s,[],rfl,rfl,rfl,by omega,by omega,(St.nil W).add ⟨Sl.nil _ _ _,XTouch.refl _ _,λ q hq=>by cases hq⟩⟩
 obtain⟨u,ts,rfl,rfl,ht,hl1,hl2,H⟩:=hI
 have hts:ts.length+(lex u line).length≤8001:=by rw[<- List.length_append,ht];exact hlen
 refine Sx.so (λ h=>?_) (λ h=>?_)
 ·obtain⟨a,r,rfl⟩:∃ a r,u=a::r:=by
   cases u with
   | nil=>exact absurd (dt h) (by rw[ak];simp)
   | cons a r=>exact⟨a,r,rfl⟩
  have h0:(ofL (a::r))[0]?=some a:=eh _ 0;have hsz:(ofL (a::r)).size=r.length+1:=rfl;simp only[List.length_cons] at hl2
  have hx1:(ofL (a::r)).extract 1 (ofL (a::r)).size=ofL r:=by
   rw[bc,hsz,List.take_of_length_le (by simp)];rfl
  rw[Ef] at ht hts;refine⟨a,by omega,h0,Sx.so (λ h1=>?_) (λ h1=>?_)⟩
  ·have ha:a=10:=by
    have:=beq_iff_eq.1 h1;exact UInt8.toNat_inj.1 (by show a.toNat=10;omega)
   rw[if_pos ha] at ht;rintro z rfl;refine⟨by omega,⟨by omega,Nat.le_refl _⟩,?_⟩;rw[hx1]
   have hw:IntKind.wrap .i64 (line+1)=line+1:=by
    obtain⟨m,rfl⟩:∃ m:Nat,line=m:=⟨line.toNat,by omega⟩;rw[show((m:Nat)+1:Int)=((m+1:Nat):Int) by omega];exact Go.Bits.n64 (by omega)
   rw[hw];exact⟨⟨r,ts,rfl,rfl,ht,by omega,by omega,H⟩,by show(ofL r).size<(ofL (a::r)).size;rw[hsz,ak];omega⟩
  have ha:a≠10:=λ e=>by rw[e] at h1;cases h1
  rw[if_neg ha] at ht hts
  have blank:(a=32∨a=9)->((0:Int)≤1/\(1≤(ofL (a::r)).size/\(ofL (a::r)).size≤(ofL (a::r)).size)/\(∃ u ts',(ofL (a::r)).extract 1 (ofL (a::r)).size=ofL u/\ts.length=ts'.length/\ts'++lex u line=lex s 1/\1≤line/\line+u.length≤s.length+1/\St W emp.own w2 [sl 96 3 (.slice p ts'.length c) ts'.length (ts'.flatMap tkR)])/\((ofL (a::r)).extract 1 (ofL (a::r)).size).size<(ofL (a::r)).size):=by
   intro hb;rw[if_pos hb] at ht;refine⟨by omega,⟨by omega,Nat.le_refl _⟩,?_⟩;rw[hx1];exact⟨⟨r,ts,rfl,rfl,ht,by omega,by omega,H⟩,by rw[hsz,ak];omega⟩
  refine⟨a,by omega,h0,Sx.so (λ h2=>?_) (λ h2=>?_)⟩
  ·have ha:a=32:=by
    have:=beq_iff_eq.1 h2;exact UInt8.toNat_inj.1 (by show a.toNat=32;omega)
   exact blank (.inl ha)
  refine⟨a,by omega,h0,Sx.so (λ h3=>?_) (λ h3=>?_)⟩
  ·have ha:a=9:=by
    have:=beq_iff_eq.1 h3;exact UInt8.toNat_inj.1 (by show a.toNat=9;omega)
   exact blank (.inr ha)
  have hb:¬ (a=32∨a=9):=by
   rintro(e | e)
   ·rw[e] at h2;cases h2
   ·rw[e] at h3;cases h3
  rw[if_neg hb] at ht hts;refine Sx.so (λ hs1=>?_) (λ hs1=>?_)
  ·have hs1:1<(a::r).length:=by have:=dt hs1;rw[ak] at this;omega
   have hx2:(ofL (a::r)).extract 0 2=ofL ((a::r).take 2):=by rw[bc,List.drop_zero]
   refine⟨by omega,⟨by omega,by rw[ak];omega⟩,?_⟩;rw[hx2,ab];refine Sx.so (λ h4=>?_) (λ h4=>?_)
   ·have hc:(a::r).take 2=[47,47]:=zl (dt h4);rw[if_pos hc] at ht;have hlt:=ni hc;refine⟨λ x w=>∃ v,x=ofL v/\(v.dropWhile λ c=>c≠10)=((a::r).dropWhile λ c=>c≠10)/\v.length≤(a::r).length/\w=w2,λ x _=>x.size,⟨a::r,rfl,rfl,Nat.le_refl _,rfl⟩,λ _ x w3 hI=>?_⟩;obtain⟨v,rfl,hv,hvl,rfl⟩:=hI
    have done:v=((a::r).dropWhile λ c=>c≠10)->(∃ u ts',ofL v=ofL u/\ts.length=ts'.length/\ts'++lex u line=lex s 1/\1≤line/\line+u.length≤s.length+1/\St W emp.own w3 [sl 96 3 (.slice p ts'.length c) ts'.length (ts'.flatMap tkR)])/\(ofL v).size<(ofL (a::r)).size:=by
     intro e;rw[<- e] at ht hlt;simp only[List.length_cons] at hlt;exact⟨⟨v,ts,rfl,rfl,ht,by omega,by omega,H⟩,by rw[ak,hsz];omega⟩
    refine Sx.so (λ h5=>?_) (λ h5=>?_)
    ·obtain⟨d,q,rfl⟩:∃ d q,v=d::q:=by
      cases v with
      | nil=>exact absurd (dt h5) (by rw[ak];simp)
      | cons d q=>exact⟨d,q,rfl⟩
     refine⟨d,by omega,eh _ 0,Sx.so (λ h6=>?_) (λ h6=>?_)⟩
     ·have hd:d≠10:=λ e=>by rw[e] at h6;cases h6
      have hxq:(ofL (d::q)).extract 1 (ofL (d::q)).size=ofL q:=by
       rw[bc,ak,List.take_of_length_le (Nat.le_refl _)];rfl
      refine⟨by omega,⟨by rw[ak];simp,Nat.le_refl _⟩,?_⟩;rw[hxq];rw[List.dropWhile_cons_of_pos (by simpa using hd)] at hv;simp only[List.length_cons] at hvl;exact⟨⟨q,rfl,hv,by simp only[List.length_cons];omega,rfl⟩,by show(ofL q).size<(ofL (d::q)).size;rw[ak,ak];simp⟩
     ·have hd:d=10:=by
       have:((d.toNat:Int)==10)=true:=by
        cases hh:((d.toNat:Int)==10) with
        | true=>rfl
        | false=>simp [bne,hh] at h6
       have:=beq_iff_eq.1 this;exact UInt8.toNat_inj.1 (by show d.toNat=10;omega)
      exact done (by rw[<- hv,List.dropWhile_cons_of_neg (by simp [hd])])
    ·have hv0:v=[]:=by
      have:=df h5;rw[ak] at this;exact List.eq_nil_of_length_eq_zero (by omega)
     subst hv0;exact done hv
   ·have hc:¬ (a::r).take 2=[47,47]:=λ e=>(df h4) (by rw[e];rfl);rw[if_neg hc] at ht hts;have hf:=nh (s:=a::r) (by simp);simp only[List.length_cons] at hf;refine H.callq (Iq a r (by simp only[List.length_cons];omega)) λ w4 H4=>?_;generalize hk:(first (a::r)).1=kk at *;generalize hn:(first (a::r)).2=nn at *;refine⟨_,_,rfl,by omega,⟨by omega,by rw[hsz];omega⟩,?_⟩
    have hx0:(ofL (a::r)).extract 0 ((nn:Nat):Int).toNat=ofL ((a::r).take nn):=by
     rw[bc,List.drop_zero];rfl
    have hxn:(ofL (a::r)).extract ((nn:Nat):Int).toNat (ofL (a::r)).size=ofL ((a::r).drop nn):=by
     rw[bc,ak,List.take_of_length_le (Nat.le_refl _)];rfl
    simp only[hx0,hxn];rintro vs rfl;refine⟨rfl,?_⟩;refine H4.al λ k3 w5 H5=>?_
    have hts2:ts.length+1+(lex ((a::r).drop nn) line).length≤8001:=by simp only[List.length_cons] at hts;omega
    refine H5.app 0 rfl (tkR ⟨kk,ofL ((a::r).take nn),line⟩) (.inr ⟨_,rfl,λ j v hj=>?_⟩) rfl (mr _) (by show ts.length+1≤maxLen;unfold maxLen;omega) (by omega) λ p' c' w6 H6=>?_
    ·rw[show(Addr.add ⟨k3,0,none⟩ j)=⟨k3,j,none⟩ by simp [Addr.add];intro e;exact e.symm];exact H5.ld 1 rfl (i:=j) (by simpa [tkR,ofL,kR] using hj)
    refine⟨by omega,⟨by rw[hsz];omega,Nat.le_refl _⟩,⟨_,ts++[⟨kk,ofL ((a::r).take nn),line⟩],rfl,by simp,by rw[<- ht];simp,by omega,by rw[List.length_drop];simp only[List.length_cons];omega,?_⟩,?_⟩
    ·have h9:St W emp.own w6 [sl 96 3 (.slice p' (ts.length+1) c') (ts.length+1) (ts.flatMap tkR++tkR ⟨kk,ofL ((a::r).take nn),line⟩)]:=H6.pick [0];rw[show(ts++[(⟨kk,ofL ((a::r).take nn),line⟩:Tok)]).length=ts.length+1 by simp];rw[List.flatMap_append,List.flatMap_cons,List.flatMap_nil,List.append_nil];exact h9
    ·show(ofL _).size<(ofL (a::r)).size;rw[hsz,ak,List.length_drop];simp only[List.length_cons];omega
  ·have hc:¬ (a::r).take 2=[47,47]:=λ e=>by
    have:=congrArg List.length e;have hs1:=df hs1;rw[ak] at hs1;rw[List.length_take] at this;simp only[List.length_cons,List.length_nil] at this hs1;omega
   rw[if_neg hc] at ht hts;have hf:=nh (s:=a::r) (by simp);simp only[List.length_cons] at hf;refine H.callq (Iq a r (by simp only[List.length_cons];omega)) λ w4 H4=>?_;generalize hk:(first (a::r)).1=kk at *;generalize hn:(first (a::r)).2=nn at *;refine⟨_,_,rfl,by omega,⟨by omega,by rw[hsz];omega⟩,?_⟩
   have hx0:(ofL (a::r)).extract 0 ((nn:Nat):Int).toNat=ofL ((a::r).take nn):=by
    rw[bc,List.drop_zero];rfl
   have hxn:(ofL (a::r)).extract ((nn:Nat):Int).toNat (ofL (a::r)).size=ofL ((a::r).drop nn):=by
    rw[bc,ak,List.take_of_length_le (Nat.le_refl _)];rfl
   simp only[hx0,hxn];rintro vs rfl;refine⟨rfl,?_⟩;refine H4.al λ k3 w5 H5=>?_
   have hts2:ts.length+1+(lex ((a::r).drop nn) line).length≤8001:=by simp only[List.length_cons] at hts;omega
   refine H5.app 0 rfl (tkR ⟨kk,ofL ((a::r).take nn),line⟩) (.inr ⟨_,rfl,λ j v hj=>?_⟩) rfl (mr _) (by show ts.length+1≤maxLen;unfold maxLen;omega) (by omega) λ p' c' w6 H6=>?_
   ·rw[show(Addr.add ⟨k3,0,none⟩ j)=⟨k3,j,none⟩ by simp [Addr.add];intro e;exact e.symm];exact H5.ld 1 rfl (i:=j) (by simpa [tkR,ofL,kR] using hj)
   refine⟨by omega,⟨by rw[hsz];omega,Nat.le_refl _⟩,⟨_,ts++[⟨kk,ofL ((a::r).take nn),line⟩],rfl,by simp,by rw[<- ht];simp,by omega,by rw[List.length_drop];simp only[List.length_cons];omega,?_⟩,?_⟩
   ·have h9:St W emp.own w6 [sl 96 3 (.slice p' (ts.length+1) c') (ts.length+1) (ts.flatMap tkR++tkR ⟨kk,ofL ((a::r).take nn),line⟩)]:=H6.pick [0];rw[show(ts++[(⟨kk,ofL ((a::r).take nn),line⟩:Tok)]).length=ts.length+1 by simp];rw[List.flatMap_append,List.flatMap_cons,List.flatMap_nil,List.append_nil];exact h9
   ·show(ofL _).size<(ofL (a::r)).size;rw[hsz,ak,List.length_drop];simp only[List.length_cons];omega
 ·have hu:u=[]:=by
   have h:=df h;rw[ak] at h;exact List.eq_nil_of_length_eq_zero (by omega)
  subst hu;rw[vt] at ht;rintro vs rfl;refine⟨rfl,?_⟩;refine H.al λ k3 w5 H5=>?_;rw[vt] at hts;simp only[List.length_cons,List.length_nil] at hts;refine H5.app 0 rfl (tkR ⟨0,ofL [],line⟩) (.inr ⟨_,rfl,λ j v hj=>?_⟩) rfl (mr _) (by show ts.length+1≤maxLen;unfold maxLen;omega) (by omega) λ p' c' w6 H6=>?_
  ·rw[show(Addr.add ⟨k3,0,none⟩ j)=⟨k3,j,none⟩ by simp [Addr.add];intro e;exact e.symm];exact H5.ld 1 rfl (i:=j) (by simpa [tkR,ofL,kR] using hj)
  refine⟨p',c',?_,?_⟩
  ·rw[<- ht];simp
  ·rw[<- ht];have h9:St W emp.own w6 [sl 96 3 (.slice p' (ts.length+1) c') (ts.length+1) (ts.flatMap tkR++tkR ⟨0,ofL [],line⟩)]:=H6.pick [0];rw[show(ts++[(⟨0,ofL [],line⟩:Tok)]).length=ts.length+1 by simp];rw[List.flatMap_append,List.flatMap_cons,List.flatMap_nil,List.append_nil];exact h9.post 0 rfl
structure Rx where
 b:Nat
 g:Nat
 off:Nat
 c:Nat
 L:List Tok
variable {W:World}{R:Rx}{at_:Nat}{line err nest:Int}
def rpL (R:Rx) (at_:Nat) (line err nest:Int):List Asn :=
 [blk R.b #[.slice (some ⟨R.g,R.off,none⟩) R.L.length R.c,.int .i64 (at_:Nat),.int .i64 line,.int .i64 err,.int .i64 nest] 94,sl 96 3 (.slice (some ⟨R.g,R.off,none⟩) R.L.length R.c) R.L.length (R.L.flatMap tkR)]
def rpA (R:Rx) (at_:Nat) (line err nest:Int):Asn:=all (rpL R at_ line err nest)
theorem tq [Inhabited G3o]{w:World} (h:Sl w 96 3 (.slice (some ⟨R.g,R.off,none⟩) R.L.length R.c) R.L.length (R.L.flatMap tkR)){t:Tok} (ht:R.L[at_]?=some t):Sx.cellsAt w ⟨R.g,R.off+((at_:Nat):Int).toNat * 3,none⟩ (tkR t).toArray:=by
 obtain⟨-,g,off,e,hc⟩:=Eg h (λ x _=>acy x) ht (by omega);cases e;rw[Int.toNat_natCast];exact hc
theorem Uh [Inhabited G3o] (s:ByteArray){t:Tok} (ht:R.L[at_]?=some t) (h:(rpA R at_ line err nest).at_ W):Calls prog 101 #[pt R.b,.string s] W λ e w'=>e= .returned (.bool (is s [t]))/\im W w':=by
 refine aiq R.b 0 s ?_;have hat:at_<R.L.length:=(List.getElem?_eq_some_iff.1 ht).1;refine(St.nil W).dr λ w2 H2=>?_;have h2:(rpA R at_ line err nest).at_ w2:=fc h H2.touch;have H:St w2 (rpA R at_ line err nest).own w2 (rpL R at_ line err nest++[]):=St.open_ (St.begin h2);refine⟨_,_,_,H.ld 0 rfl (i:=0) rfl,_,H.ld 0 rfl (i:=1) rfl,⟨by omega,by omega⟩,?_⟩;refine adr_some ⟨(tkR t).toArray,rfl,tq (H.nth 1 rfl) ht,?_⟩;refine H2.alb λ k w3 H3 _ hb=>⟨hb,?_⟩;refine H3.sts0 0 (n:=3) (vs:=(tkR t).toArray) rfl rfl rfl (by simpa using mr t) λ w4 H4=>?_;refine⟨_,H4.ld 0 rfl (i:=0) rfl,?_⟩
 have hk:((kR t.k:Nat):Int)=107↔t.k=3:=by
  unfold kR;split <;> simp_all
 refine Sx.so (λ h3=>?_) (λ h3=>?_)
 ·have h3:=hk.1 (beq_iff_eq.1 h3);refine⟨_,H4.ld 0 rfl (i:=1) rfl,?_,H4.touch⟩;rw[ab];simp [Go.Lang.is,now,h3]
 ·have h3:¬ t.k=3:=λ e=>(beq_eq_false_iff_ne.1 h3) (hk.2 e);exact⟨by simp [Go.Lang.is,now,h3],H4.touch⟩
def nodeZ:List Value:=[.string ⟨#[]⟩,.string ⟨#[]⟩,.int .i64 0,.int .u32 0,.slice none 0 0,.slice none 0 0]
theorem cz:∀ v ∈ nodeZ,v.oneCell'=true:=by
 intro v hv;simp only[nodeZ,List.mem_cons,List.not_mem_nil,or_false] at hv;rcases hv with rfl | rfl | rfl | rfl | rfl | rfl <;> rfl
theorem ls [Inhabited G3o] (e:Int){t:Tok} (ht:R.L[at_]?=some t) (h:(rpA R at_ line err nest).at_ W):Calls prog 63 #[pt R.b,.int .i64 e] W λ en w'=>en= .returned (.agg nodeZ.toArray)/\Post (rpA R at_ line err nest) W (rpA R at_ (if err=0 then t.line else line) (if err=0 then e else err) nest) w':=by
 refine amz R.b 0 e ?_;have hat:at_<R.L.length:=(List.getElem?_eq_some_iff.1 ht).1;have H:St W (rpA R at_ line err nest).own W (rpL R at_ line err nest++[]):=St.open_ (St.begin h);refine H.al λ k w2 H2=>?_;refine⟨_,H2.ld 0 rfl (i:=3) rfl,Sx.so (λ h0=>?_) (λ h0=>?_)⟩
 ·have h0:err=0:=beq_iff_eq.1 h0;rw[if_pos h0,if_pos h0];refine H2.st 0 rfl (i:=3) (by simp) λ w3 H3=>?_;refine H3.dr λ w4 H4=>?_;refine⟨_,_,_,H4.ld 0 rfl (i:=0) rfl,_,H4.ld 0 rfl (i:=1) rfl,⟨by omega,by omega⟩,?_⟩;refine adr_some ⟨t.line,?_,?_⟩
  ·have:=tq (H4.nth 1 rfl) ht 2 (.int .i64 t.line) rfl;exact this
  refine H4.st 0 rfl (i:=2) (by simp) λ w5 H5=>?_;rintro vs rfl;refine H5.sts0 2 (n:=6) (vs:=nodeZ.toArray) rfl rfl rfl (by simpa using cz) λ w6 H6=>?_;exact⟨_,rfl,H6.cells 2 rfl,rfl,(St.shut (L:=rpL R at_ t.line e nest) (L':=[_]) H6).post 0 rfl⟩
 ·have h0:¬ err=0:=beq_eq_false_iff_ne.1 h0;rw[if_neg h0,if_neg h0];rintro vs rfl;refine H2.sts0 2 (n:=6) (vs:=nodeZ.toArray) rfl rfl rfl (by simpa using cz) λ w6 H6=>?_;exact⟨_,rfl,H6.cells 2 rfl,rfl,(St.shut (L:=rpL R at_ line err nest) (L':=[_]) H6).post 0 rfl⟩
theorem qd {a:Nat} (h:a≤100000):IntKind.wrap .i64 ((a:Nat)+1:Int)=((a+1:Nat):Int):=by
 rw[show((a:Nat)+1:Int)=((a+1:Nat):Int) by omega];exact Go.Bits.n64 (by omega)
theorem Ap [Inhabited G3o] (s:ByteArray) (hL:R.L.length≤8001){t:Tok} (ht:R.L[at_]?=some t) (h:(rpA R at_ line err nest).at_ W):Calls prog 60 #[pt R.b,.string s] W λ e w'=>e= .returned (.bool (is s [t]&&decide (err=0)))/\Post (rpA R at_ line err nest) W (rpA R (if is s [t]=true/\err=0 then at_+1 else at_) line err nest) w':=by
 refine ana R.b 0 s ?_;have hat:at_<R.L.length:=(List.getElem?_eq_some_iff.1 ht).1;refine(St.begin h).callq (Uh s ht h) λ w2 H2=>?_;refine⟨_,rfl,Sx.so (λ h1=>?_) (λ h1=>?_)⟩
 ·have H3:St W (rpA R at_ line err nest).own w2 (rpL R at_ line err nest++[]):=St.open_ H2;refine⟨_,H3.ld 0 rfl (i:=3) rfl,Sx.so (λ h0=>?_) (λ h0=>?_)⟩
  ·have h0:err=0:=beq_iff_eq.1 h0;refine⟨_,H3.ld 0 rfl (i:=1) rfl,?_⟩;rintro z rfl;rw[qd (by omega),if_pos ⟨h1,h0⟩,h1,decide_eq_true h0];refine H3.st 0 rfl (i:=1) (by simp) λ w4 H4=>?_;exact⟨rfl,(St.shut (L:=rpL R (at_+1) line err nest) (L':=[]) H4).post 0 rfl⟩
  ·have h0:¬ err=0:=beq_eq_false_iff_ne.1 h0;rw[if_neg (λ e=>h0 e.2),decide_eq_false h0,Bool.and_false];exact⟨rfl,H2.post 0 rfl⟩
 ·rw[if_neg (λ e=>by rw[h1] at e;cases e.1),h1,Bool.false_and];exact⟨rfl,H2.post 0 rfl⟩
theorem Aq [Inhabited G3o] (s:ByteArray) (hL:R.L.length≤8001){t:Tok} (ht:R.L[at_]?=some t) (h:(rpA R at_ line err nest).at_ W):Calls prog 64 #[pt R.b,.string s] W λ e w'=>e= .returned (.tuple #[]) /\
  ((err=0/\is s [t]=true/\Post (rpA R at_ line err nest) W (rpA R (at_+1) line err nest) w')∨(err=0/\is s [t]=false/\Post (rpA R at_ line err nest) W (rpA R at_ t.line 8 nest) w')∨(err≠0/\Post (rpA R at_ line err nest) W (rpA R at_ line err nest) w')):=by
 refine anb R.b 0 s ?_;refine(St.begin h).call 0 rfl (Ap s hL ht h) λ w2 H2=>?_;refine⟨_,rfl,?_⟩;by_cases h0:err=0
 ·subst h0
  cases h1:is s [t] with
  | true =>
   rw[h1] at H2;exact⟨rfl,.inl ⟨rfl,rfl,H2.post 0 rfl⟩⟩
  | false =>
   rw[h1] at H2;have H2:St W (rpA R at_ line 0 nest).own w2 [rpA R at_ line 0 nest]:=H2;refine H2.call 0 rfl (ls 8 ht (H2.nth 0 rfl)) λ w3 H3=>?_;exact⟨_,rfl,rfl,.inr (.inl ⟨rfl,rfl,H3.post 0 rfl⟩)⟩
 ·rw[decide_eq_false h0,Bool.and_false];rw[if_neg (λ e=>h0 e.2)] at H2;have H2:St W (rpA R at_ line err nest).own w2 [rpA R at_ line err nest]:=H2;refine H2.call 0 rfl (ls 8 ht (H2.nth 0 rfl)) λ w3 H3=>?_;rw[if_neg h0,if_neg h0] at H3;exact⟨_,rfl,rfl,.inr (.inr ⟨h0,H3.post 0 rfl⟩)⟩
theorem Ll [Inhabited G3o]{n:Nat} (hn:n≤50){t:Tok} (ht:R.L[at_]?=some t) (h:(rpA R at_ line 0 (n:Nat)).at_ W):Calls prog 102 #[pt R.b] W λ e w' =>
  (n<24/\e= .returned (.bool true)/\Post (rpA R at_ line 0 (n:Nat)) W (rpA R at_ line 0 ((n+1:Nat):Int)) w')∨(24≤n/\e= .returned (.bool false)/\Post (rpA R at_ line 0 (n:Nat)) W (rpA R at_ t.line 3 ((n+1:Nat):Int)) w'):=by
 refine afp R.b 0 ?_;have H:St W (rpA R at_ line 0 (n:Nat)).own W (rpL R at_ line 0 (n:Nat)++[]):=St.open_ (St.begin h);refine⟨_,H.ld 0 rfl (i:=4) rfl,?_⟩;rintro z rfl;rw[qd (by omega)];refine H.st 0 rfl (i:=4) (by simp) λ w2 H2=>?_;have H2:St W (rpA R at_ line 0 (n:Nat)).own w2 (rpL R at_ line 0 ((n+1:Nat):Int)++[]):=H2;refine⟨_,H2.ld 0 rfl (i:=4) rfl,Sx.so (λ h1=>?_) (λ h1=>?_)⟩
 ·have h1:24≤n:=by have:=dt h1;omega
  have H3:=St.shut (L:=rpL R at_ line 0 ((n+1:Nat):Int)) H2;refine H3.call 0 rfl (ls 3 ht (H3.nth 0 rfl)) λ w3 H4=>?_;have H5:St W (rpA R at_ line 0 (n:Nat)).own w3 (rpL R at_ t.line 3 ((n+1:Nat):Int)++[]):=St.open_ H4;exact⟨_,rfl,_,H5.ld 0 rfl (i:=3) rfl,.inr ⟨h1,rfl,H4.post 0 rfl⟩⟩
 ·have h1:n<24:=by have:=df h1;omega
  exact⟨_,H2.ld 0 rfl (i:=3) rfl,.inl ⟨h1,rfl,(St.shut (L:=rpL R at_ line 0 ((n+1:Nat):Int)) H2).post 0 rfl⟩⟩
theorem Ir [Inhabited G3o] (h0:err≠0){t:Tok} (ht:R.L[at_]?=some t) (h:(rpA R at_ line err nest).at_ W):Calls prog 102 #[pt R.b] W λ e w'=>e= .returned (.bool false)/\∃ z,Post (rpA R at_ line err nest) W (rpA R at_ line err z) w':=by
 refine afp R.b 0 ?_;have H:St W (rpA R at_ line err nest).own W (rpL R at_ line err nest++[]):=St.open_ (St.begin h);refine⟨_,H.ld 0 rfl (i:=4) rfl,?_⟩;rintro z rfl;refine H.st 0 rfl (i:=4) (by simp) λ w2 H2=>?_;have H2:St W (rpA R at_ line err nest).own w2 (rpL R at_ line err (IntKind.wrap .i64 (nest+1))++[]):=H2;refine⟨_,H2.ld 0 rfl (i:=4) rfl,Sx.so (λ h1=>?_) (λ h1=>?_)⟩
 ·have H3:=St.shut (L:=rpL R at_ line err (IntKind.wrap .i64 (nest+1))) H2;refine H3.call 0 rfl (ls 3 ht (H3.nth 0 rfl)) λ w3 H4=>?_;rw[if_neg h0,if_neg h0] at H4;have H5:St W (rpA R at_ line err nest).own w3 (rpL R at_ line err (IntKind.wrap .i64 (nest+1))++[]):=St.open_ H4;refine⟨_,rfl,_,H5.ld 0 rfl (i:=3) rfl,?_,_,H4.post 0 rfl⟩;rw[beq_eq_false_iff_ne.2 h0]
 ·refine⟨_,H2.ld 0 rfl (i:=3) rfl,?_,_,(St.shut (L:=rpL R at_ line err (IntKind.wrap .i64 (nest+1))) H2).post 0 rfl⟩;rw[beq_eq_false_iff_ne.2 h0]
theorem vh [Inhabited G3o] (hL:R.L.length≤8001){t:Tok} (ht:R.L[at_]?=some t) (h:(rpA R at_ line err nest).at_ W):Calls prog 61 #[pt R.b] W λ e w' =>
  (err=0/\t.k=1/\¬ 16<t.s.size/\e= .returned (.string t.s)/\Post (rpA R at_ line err nest) W (rpA R (at_+1) line err nest) w') ∨
  (err=0/\t.k≠1/\e= .returned (.string ⟨#[]⟩)/\Post (rpA R at_ line err nest) W (rpA R at_ t.line 8 nest) w') ∨
  (err=0/\t.k=1/\16<t.s.size/\e= .returned (.string ⟨#[]⟩)/\Post (rpA R at_ line err nest) W (rpA R at_ t.line 3 nest) w') ∨
  (err≠0/\e= .returned (.string ⟨#[]⟩)/\Post (rpA R at_ line err nest) W (rpA R at_ line err nest) w'):=by
 refine anc R.b 0 ?_;have hat:at_<R.L.length:=(List.getElem?_eq_some_iff.1 ht).1;refine(St.begin h).dr λ w2 H2=>?_;have H:St W (rpA R at_ line err nest).own w2 (rpL R at_ line err nest++[]):=St.open_ H2;refine⟨_,_,_,H.ld 0 rfl (i:=0) rfl,_,H.ld 0 rfl (i:=1) rfl,⟨by omega,by omega⟩,?_⟩;refine adr_some ⟨(tkR t).toArray,rfl,tq (H.nth 1 rfl) ht,?_⟩;refine H2.alb λ k w3 H3 _ hb=>⟨hb,?_⟩;refine H3.sts0 1 (n:=3) (vs:=(tkR t).toArray) rfl rfl rfl (by simpa using mr t) λ w4 H4=>?_;have H4:St W (rpA R at_ line err nest).own w4 [rpA R at_ line err nest,blk k (tkR t).toArray 96]:=H4;refine⟨_,H4.ld 1 rfl (i:=0) rfl,?_⟩
 have hk:((kR t.k:Nat):Int)=110↔t.k=1:=by
  unfold kR;split <;> simp_all
 have bad:∀ (e:Int),Calls prog 63 #[pt R.b,.int .i64 e] w4 λ en w'=>en= .returned (.agg nodeZ.toArray)/\Post (rpA R at_ line err nest) W (rpA R at_ (if err=0 then t.line else line) (if err=0 then e else err) nest) w':=λ e=>by
  refine(ls e ht (H4.nth 0 rfl)).mono ?_;rintro en w5 ⟨rfl,hp⟩;exact⟨rfl,(H4.upd 0 rfl hp).post 0 rfl⟩
 by_cases h0:err=0
 ·rw[if_pos h0] at bad;refine Sx.so (λ h1=>?_) (λ h1=>?_)
  ·have h1:t.k≠1:=λ e=>by rw[hk.2 e] at h1;cases h1
   refine(bad 8).mono ?_;rintro en w5 ⟨rfl,hp⟩;rw[if_pos h0] at hp;exact⟨_,rfl,.inr (.inl ⟨h0,h1,rfl,hp⟩)⟩
  ·have h1:t.k=1:=hk.1 (by rw[bne_eq_false_iff_eq] at h1;exact h1);have H5:=St.open_ (L:=rpL R at_ line err nest) H4;refine⟨_,H5.ld 0 rfl (i:=3) rfl,Sx.so (λ h2=>?_) (λ h2=>?_)⟩
   ·rw[h0] at h2;cases h2
   refine⟨_,H5.ld 2 rfl (i:=1) rfl,Sx.so (λ h3=>?_) (λ h3=>?_)⟩
   ·have h3:16<t.s.size:=by have:=dt h3;omega
    refine(bad 3).mono ?_;rintro en w5 ⟨rfl,hp⟩;rw[if_pos h0] at hp;exact⟨_,rfl,.inr (.inr (.inl ⟨h0,h1,h3,rfl,hp⟩))⟩
   ·have h3:¬ 16<t.s.size:=by have:=df h3;omega
    refine⟨_,H5.ld 0 rfl (i:=1) rfl,?_⟩;rintro z rfl;rw[qd (by omega)];refine H5.st 0 rfl (i:=1) (by simp) λ w6 H6=>?_;refine⟨_,H6.ld 2 rfl (i:=1) rfl,.inl ⟨h0,h1,h3,rfl,?_⟩⟩;exact(St.shut (L:=rpL R (at_+1) line err nest) (L':=[_]) H6).post 0 rfl
 ·have bad3:∀ e,Calls prog 63 #[pt R.b,.int .i64 e] w4 λ en w'=>en= .returned (.agg nodeZ.toArray)/\Post (rpA R at_ line err nest) W (rpA R at_ line err nest) w':=λ e=>(bad e).mono (by
   rintro en w5 ⟨rfl,hp⟩;rw[if_neg h0,if_neg h0] at hp
   exact⟨rfl,hp⟩)
  refine Sx.so (λ h1=>(bad3 8).mono (by rintro en w5 ⟨rfl,hp⟩;exact⟨_,rfl,.inr (.inr (.inr ⟨h0,rfl,hp⟩))⟩)) (λ h1=>?_);have H5:=St.open_ (L:=rpL R at_ line err nest) H4;refine⟨_,H5.ld 0 rfl (i:=3) rfl,Sx.so (λ h2=>(bad3 8).mono (by rintro en w5 ⟨rfl,hp⟩;exact⟨_,rfl,.inr (.inr (.inr ⟨h0,rfl,hp⟩))⟩)) (λ h2=>?_)⟩;exact absurd (by rw[bne_eq_false_iff_eq] at h2;exact h2) h0
variable {W:World}{R:Rx}{l:List Tok}{n:Nat}{line en:Int}
theorem rp_own {at_:Nat}{line err nest:Int}{q:Nat}:owns (rpL R at_ line err nest) q↔(q=R.b∨q=R.g):=by
 constructor
 ·rintro(e | e | e)
  ·exact .inl e
  ·have:some R.g=some q:=e;cases this;exact .inr rfl
  ·exact e.elim
 ·rintro(e | e)
  ·exact .inl e
  ·subst e;exact .inr (.inl rfl)
def rlA [Inhabited G3o] (R:Rx) (l:List Tok) (n:Nat):Asn where
 own q:=q=R.b∨q=R.g
 at_ w:=(Good R.L/\Good l/\n≤30)/\∃ a,R.L.drop a=l/\here (rpL R a 0 0 (n:Nat)) w
 keep:=by
  rintro T w w' ⟨h0,a,h1,h⟩ ht hn;exact⟨h0,a,h1,h.keep ht λ k hk=>hn k (rp_own.1 hk)⟩
 lt:=by
  rintro w ⟨h0,a,h1,h⟩ k hk;exact h.lt k (rp_own.2 hk)
def rdA [Inhabited G3o] (R:Rx) (line en:Int):Asn where
 own q:=q=R.b∨q=R.g
 at_ w:=(en≠0/\Good R.L)/\∃ a z,(∃ t,R.L[a]?=some t)/\here (rpL R a line en z) w
 keep:=by
  rintro T w w' ⟨h0,a,z,h1,h⟩ ht hn;exact⟨h0,a,z,h1,h.keep ht λ k hk=>hn k (rp_own.1 hk)⟩
 lt:=by
  rintro w ⟨h0,a,z,h1,h⟩ k hk;exact h.lt k (rp_own.2 hk)
theorem du [Inhabited G3o]{w0 w:World}{M:Nat->Prop}{L:List Asn} (H:St w0 M w (rlA R l n::L)):(Good R.L/\Good l/\n≤30)/\∃ a,R.L.drop a=l/\St w0 M w (rpA R a 0 0 (n:Nat)::L):=by
 obtain⟨h0,a,h1,h⟩:=H.nth 0 rfl;exact⟨h0,a,h1,H.conv 0 rfl (A':=rpA R a 0 0 (n:Nat)) (λ _=>h) (λ q hq=>rp_own.1 hq)⟩
theorem pb [Inhabited G3o]{w0 w:World}{M:Nat->Prop}{L:List Asn}{a:Nat} (h0:Good R.L/\Good l/\n≤30) (h1:R.L.drop a=l) (H:St w0 M w (rpA R a 0 0 (n:Nat)::L)):St w0 M w (rlA R l n::L) :=
 H.conv 0 rfl (A':=rlA R l n) (λ h=>⟨h0,a,h1,h⟩) (λ q hq=>rp_own.2 hq)
theorem pc [Inhabited G3o]{w0 w:World}{M:Nat->Prop}{L:List Asn} (H:St w0 M w (rdA R line en::L)):(en≠0/\Good R.L)/\∃ a z t,R.L[a]?=some t/\St w0 M w (rpA R a line en z::L):=by
 obtain⟨h0,a,z,⟨t,h1⟩,h⟩:=H.nth 0 rfl;exact⟨h0,a,z,t,h1,H.conv 0 rfl (A':=rpA R a line en z) (λ _=>h) (λ q hq=>rp_own.1 hq)⟩
theorem jr [Inhabited G3o]{w0 w:World}{M:Nat->Prop}{L:List Asn}{a:Nat}{z:Int}{t:Tok} (h0:en≠0/\Good R.L) (h1:R.L[a]?=some t) (H:St w0 M w (rpA R a line en z::L)):St w0 M w (rdA R line en::L) :=
 H.conv 0 rfl (A':=rdA R line en) (λ h=>⟨h0,a,z,⟨t,h1⟩,h⟩) (λ q hq=>rp_own.2 hq)
theorem cg [Inhabited G3o]{a:Nat} (h:R.L.drop a=l) (hG:Good l):R.L[a]?=some (now l):=by
 obtain⟨t,l',rfl⟩:=hG.cons;have:=congrArg (λ x:List Tok=>x[0]?) h;simp only[List.getElem?_drop,Nat.add_zero] at this;rw[this];rfl
theorem qx {a:Nat} (h:R.L.drop a=l):R.L.drop (a+1)=l.tail:=by
 rw[<- h,List.tail_drop]
theorem qy [Inhabited G3o] (hG:Good l) (hk:(now l).k≠0):Good l.tail:=by
 obtain⟨t,l',rfl⟩:=hG.cons;exact hG.tail hk
theorem Nl (s:ByteArray) (l:List Tok):is s [now l]=is s l:=rfl
theorem ajb [Inhabited G3o] (s:ByteArray) (h:(rlA R l n).at_ W):Calls prog 101 #[pt R.b,.string s] W λ e w'=>e= .returned (.bool (is s l))/\im W w':=by
 obtain⟨h0,a,h1,H⟩:=du (St.begin h);exact Uh s (cg h1 h0.2.1) (H.nth 0 rfl)
theorem qz [Inhabited G3o] (s:ByteArray) (h:(rlA R l n).at_ W):Calls prog 60 #[pt R.b,.string s] W λ e w'=>e= .returned (.bool (is s l))/\Post (rlA R l n) W (rlA R (if is s l then l.tail else l) n) w':=by
 obtain⟨h0,a,h1,H⟩:=du (St.begin h);refine(Ap s h0.1.2.2.2 (cg h1 h0.2.1) (H.nth 0 rfl)).mono ?_;rintro e w' ⟨rfl,hp⟩;have H2:=H.upd 0 rfl hp;refine⟨by rw[Nl];simp,?_⟩;rw[Nl] at H2
 cases hi:is s l with
 | true =>
  rw[hi] at H2;exact(pb ⟨h0.1,qy h0.2.1 (kz hi),h0.2.2⟩ (qx h1) H2).post 0 rfl
 | false =>
  rw[hi] at H2;exact(pb h0 h1 H2).post 0 rfl
theorem rb [Inhabited G3o] (s:ByteArray) (h:(rdA R line en).at_ W):Calls prog 60 #[pt R.b,.string s] W λ e w'=>e= .returned (.bool false)/\Post (rdA R line en) W (rdA R line en) w':=by
 obtain⟨h0,a,z,t,h1,H⟩:=pc (St.begin h);refine(Ap s h0.2.2.2.2 h1 (H.nth 0 rfl)).mono ?_;rintro e w' ⟨rfl,hp⟩;have H2:=H.upd 0 rfl hp;rw[if_neg (λ e=>h0.1 e.2)] at H2;exact⟨by rw[decide_eq_false h0.1,Bool.and_false],(jr h0 h1 H2).post 0 rfl⟩
theorem pg [Inhabited G3o]{s:ByteArray} (hi:is s l=true) (h:(rlA R l n).at_ W):Calls prog 64 #[pt R.b,.string s] W λ e w'=>e= .returned (.tuple #[])/\Post (rlA R l n) W (rlA R l.tail n) w':=by
 obtain⟨h0,a,h1,H⟩:=du (St.begin h);refine(Aq s h0.1.2.2.2 (cg h1 h0.2.1) (H.nth 0 rfl)).mono ?_;rintro e w' ⟨rfl,⟨-,h3,hp⟩ | ⟨-,h3,hp⟩ | ⟨h3,hp⟩⟩
 ·exact⟨rfl,(pb ⟨h0.1,qy h0.2.1 (kz hi),h0.2.2⟩ (qx h1) (H.upd 0 rfl hp)).post 0 rfl⟩
 ·rw[Nl,hi] at h3;cases h3
 ·exact absurd rfl h3
theorem ry [Inhabited G3o]{s:ByteArray} (hi:is s l=false) (h:(rlA R l n).at_ W):Calls prog 64 #[pt R.b,.string s] W λ e w'=>e= .returned (.tuple #[])/\Post (rlA R l n) W (rdA R (now l).line 8) w':=by
 obtain⟨h0,a,h1,H⟩:=du (St.begin h);refine(Aq s h0.1.2.2.2 (cg h1 h0.2.1) (H.nth 0 rfl)).mono ?_;rintro e w' ⟨rfl,⟨-,h3,hp⟩ | ⟨-,h3,hp⟩ | ⟨h3,hp⟩⟩
 ·rw[Nl,hi] at h3;cases h3
 ·exact⟨rfl,(jr ⟨by decide,h0.1⟩ (cg h1 h0.2.1) (H.upd 0 rfl hp)).post 0 rfl⟩
 ·exact absurd rfl h3
theorem iy [Inhabited G3o] (s:ByteArray) (h:(rdA R line en).at_ W):Calls prog 64 #[pt R.b,.string s] W λ e w'=>e= .returned (.tuple #[])/\Post (rdA R line en) W (rdA R line en) w':=by
 obtain⟨h0,a,z,t,h1,H⟩:=pc (St.begin h);refine(Aq s h0.2.2.2.2 h1 (H.nth 0 rfl)).mono ?_;rintro e w' ⟨rfl,⟨h3, -⟩ | ⟨h3, -⟩ | ⟨h3,hp⟩⟩
 ·exact absurd h3 h0.1
 ·exact absurd h3 h0.1
 ·exact⟨rfl,(jr h0 h1 (H.upd 0 rfl hp)).post 0 rfl⟩
theorem tu [Inhabited G3o] (e:Int) (he:e≠0) (h:(rlA R l n).at_ W):Calls prog 63 #[pt R.b,.int .i64 e] W λ en w'=>en= .returned (.agg nodeZ.toArray)/\Post (rlA R l n) W (rdA R (now l).line e) w':=by
 obtain⟨h0,a,h1,H⟩:=du (St.begin h);refine(ls e (cg h1 h0.2.1) (H.nth 0 rfl)).mono ?_;rintro en w' ⟨rfl,hp⟩;exact⟨rfl,(jr ⟨he,h0.1⟩ (cg h1 h0.2.1) (H.upd 0 rfl hp)).post 0 rfl⟩
theorem wl [Inhabited G3o] (hk:(now l).k=1) (hs:¬ 16<(now l).s.size) (h:(rlA R l n).at_ W):Calls prog 61 #[pt R.b] W λ e w'=>e= .returned (.string (now l).s)/\Post (rlA R l n) W (rlA R l.tail n) w':=by
 obtain⟨h0,a,h1,H⟩:=du (St.begin h);refine(vh h0.1.2.2.2 (cg h1 h0.2.1) (H.nth 0 rfl)).mono ?_;rintro e w' (⟨-, -, -,rfl,hp⟩ | ⟨-,h3, -⟩ | ⟨-, -,h3, -⟩ | ⟨h3, -⟩)
 ·exact⟨rfl,(pb ⟨h0.1,qy h0.2.1 (by omega),h0.2.2⟩ (qx h1) (H.upd 0 rfl hp)).post 0 rfl⟩
 ·exact absurd hk h3
 ·exact absurd h3 hs
 ·exact absurd rfl h3
theorem Ar [Inhabited G3o]{e1:Int} (hn:name l (λ t l=>Lang.R.ok t l)= .err (now l).line e1) (h:(rlA R l n).at_ W):Calls prog 61 #[pt R.b] W λ e w'=>e= .returned (.string ⟨#[]⟩)/\Post (rlA R l n) W (rdA R (now l).line e1) w':=by
 obtain⟨h0,a,h1,H⟩:=du (St.begin h);unfold name at hn;refine(vh h0.1.2.2.2 (cg h1 h0.2.1) (H.nth 0 rfl)).mono ?_;rintro e w' (⟨-,h3,h4, -,hp⟩ | ⟨-,h3,rfl,hp⟩ | ⟨-,h3,h4,rfl,hp⟩ | ⟨h3, -⟩)
 ·rw[if_neg (λ e:¬ _=>e h3),if_neg h4] at hn;cases hn
 ·rw[if_pos h3] at hn;cases hn;exact⟨rfl,(jr ⟨by decide,h0.1⟩ (cg h1 h0.2.1) (H.upd 0 rfl hp)).post 0 rfl⟩
 ·rw[if_neg (λ e:¬ _=>e h3),if_pos h4] at hn;cases hn;exact⟨rfl,(jr ⟨by decide,h0.1⟩ (cg h1 h0.2.1) (H.upd 0 rfl hp)).post 0 rfl⟩
 ·exact absurd rfl h3
theorem wm (l:List Tok):((now l).k=1/\¬ 16<(now l).s.size/\∀ {β:Type} (k:Tok->List Tok->Lang.R β),name l k=k (now l) l.tail)∨∃ e,e≠0/\∀ {β:Type} (k:Tok->List Tok->Lang.R β),name l k= .err (now l).line e:=by
 by_cases h1:(now l).k=1
 ·by_cases h2:16<(now l).s.size
  ·exact .inr ⟨3,by decide,λ k=>by unfold name;rw[if_neg (λ e=>e h1),if_pos h2]⟩
  ·exact .inl ⟨h1,h2,λ k=>by unfold name;rw[if_neg (λ e=>e h1),if_neg h2]⟩
 ·exact .inr ⟨8,by decide,λ k=>by unfold name;rw[if_pos h1]⟩
theorem acz [Inhabited G3o] (h:(rdA R line en).at_ W):Calls prog 61 #[pt R.b] W λ e w'=>e= .returned (.string ⟨#[]⟩)/\Post (rdA R line en) W (rdA R line en) w':=by
 obtain⟨h0,a,z,t,h1,H⟩:=pc (St.begin h);refine(vh h0.2.2.2.2 h1 (H.nth 0 rfl)).mono ?_;rintro e w' (⟨h3, -⟩ | ⟨h3, -⟩ | ⟨h3, -⟩ | ⟨h3,rfl,hp⟩)
 ·exact absurd h3 h0.1
 ·exact absurd h3 h0.1
 ·exact absurd h3 h0.1
 ·exact⟨rfl,(jr h0 h1 (H.upd 0 rfl hp)).post 0 rfl⟩
theorem rc [Inhabited G3o] (h:(rlA R l n).at_ W) (hn:n≤24):Calls prog 102 #[pt R.b] W λ e w'=>(n<24/\e= .returned (.bool true)/\Post (rlA R l n) W (rlA R l (n+1)) w')∨(24≤n/\e= .returned (.bool false)/\Post (rlA R l n) W (rdA R (now l).line 3) w'):=by
 obtain⟨h0,a,h1,H⟩:=du (St.begin h);refine(Ll (by omega) (cg h1 h0.2.1) (H.nth 0 rfl)).mono ?_;rintro e w' (⟨h3,rfl,hp⟩ | ⟨h3,rfl,hp⟩)
 ·exact .inl ⟨h3,rfl,(pb ⟨h0.1,h0.2.1,by omega⟩ h1 (H.upd 0 rfl hp)).post 0 rfl⟩
 ·exact .inr ⟨h3,rfl,(jr ⟨by decide,h0.1⟩ (cg h1 h0.2.1) (H.upd 0 rfl hp)).post 0 rfl⟩
theorem It [Inhabited G3o] (h:(rdA R line en).at_ W):Calls prog 102 #[pt R.b] W λ e w'=>e= .returned (.bool false)/\Post (rdA R line en) W (rdA R line en) w':=by
 obtain⟨h0,a,z,t,h1,H⟩:=pc (St.begin h);refine(Ir h0.1 h1 (H.nth 0 rfl)).mono ?_;rintro e w' ⟨rfl,z2,hp⟩;exact⟨rfl,(jr h0 h1 (H.upd 0 rfl hp)).post 0 rfl⟩
def ae (k s:ByteArray) (line val:Int) (kids names:Value):List Value:=[.string k,.string s,.int .i64 line,.int .u32 val,kids,names]
theorem af {k s:ByteArray}{line val:Int}{q q2:Option Addr}{m c m2 c2:Nat}:∀ v ∈ ae k s line val (.slice q m c) (.slice q2 m2 c2),v.oneCell'=true:=by
 intro v hv;simp only[ae,List.mem_cons,List.not_mem_nil,or_false] at hv;rcases hv with rfl | rfl | rfl | rfl | rfl | rfl <;> rfl
def isF:Fo->List Value->Asn->Prop
 | .nil,vs,A=>vs=[]/\A=all []
 | .cons k s line val kids names rest,vs,A=>∃ q c us Ak q2 c2 ws As,isF kids us Ak/\isF rest ws (all As)/\vs=ae k s line val (.slice q kids.len c) (.slice q2 names.length c2)++ws /\
   A=all (all [sl 52 6 (.slice q kids.len c) kids.len us,Ak,sl 9 1 (.slice q2 names.length c2) names.length (names.map .string)]::As)
theorem Ui:∀ {f:Fo}{vs:List Value}{A:Asn},isF f vs A->∃ As,A=all As
 | .nil,_,_,h=>⟨[],h.2⟩
 | .cons ..,_,_,h=>by obtain⟨q,c,us,Ak,q2,c2,ws,As, -, -, -,e⟩:=h;exact⟨_,e⟩
theorem Fv:∀ {f:Fo}{vs:List Value}{A:Asn},isF f vs A->vs.length=f.len * 6
 | .nil,_,_,h=>by rw[h.1];rfl
 | .cons ..,_,_,h=>by
  obtain⟨q,c,us,Ak,q2,c2,ws,As, -,h2,rfl, -⟩:=h;rw[List.length_append,Fv h2,Fo.len];show 6+_=_;omega
theorem Uj:∀ {a b:Fo}{us vs:List Value}{As Bs:List Asn},isF a us (all As)->isF b vs (all Bs)->∃ Cs,isF (a.app b) (us++vs) (all Cs)/\∀ w0 M w L,St w0 M w (all As::all Bs::L)->St w0 M w (all Cs::L)
 | .nil,b,us,vs,As,Bs,h1,h2=>by
  obtain⟨rfl,e⟩:=h1;refine⟨Bs,h2,λ w0 M w L H=>?_⟩;rw[e] at H;exact H.tail
 | .cons k s line val kids names rest,b,us,vs,As,Bs,h1,h2=>by
  obtain⟨q,c,us1,Ak,q2,c2,ws,As1,g1,g2,rfl,e⟩:=h1;obtain⟨Cs,g3,g4⟩:=Uj g2 h2;refine⟨all [sl 52 6 (.slice q kids.len c) kids.len us1,Ak,sl 9 1 (.slice q2 names.length c2) names.length (names.map .string)]::Cs,⟨q,c,us1,Ak,q2,c2,ws++vs,Cs,g1,g3,by rw[List.append_assoc],rfl⟩,λ w0 M w L H=>?_⟩;rw[e] at H;have H1:=(St.open_ (L:=_::As1) H)
  have H2:St w0 M w (all As1::all Bs::all [sl 52 6 (.slice q kids.len c) kids.len us1,Ak,sl 9 1 (.slice q2 names.length c2) names.length (names.map .string)]::L):=by
   refine St.shut (H1.perm ?_);exact(List.perm_middle.symm).trans ((List.Perm.swap ..).append_left As1)
  have H3:=g4 _ _ _ _ H2;exact St.shut (L:=_::Cs) ((St.open_ (L:=Cs) H3).perm List.perm_middle)
end Go.Proofs.YtojogkljneonmaaGreatDoor
