/- The evaluator in memory: trees only read; a program that runs. No condition. -/
import Derived.Test.YtojogkljneonmaaGreatDoorLangRg
import Derived.Test.YtojogkljneonmaaGreatDoorLangZe
import Derived.Test.YtojogkljneonmaaGreatDoorLangZj
import Derived.Test.YtojogkljneonmaaGreatDoorAluH
set_option linter.unusedVariables false
set_option linter.unusedSimpArgs false
namespace Go.Proofs.YtojogkljneonmaaGreatDoor
open Go Go.Proofs.Tryz Go.Proofs Go.Sep Go.XHeap Go.RowKit Go.Lang
def vU (x:UInt32):Value:=.int .u32 (x.toNat:Int)
def vB (x:UInt8):Value:=.int .u8 (x.toNat:Int)
def tV (DA:Asn):T->List Value->Prop
 | .num v _,vs=>vs=[.iface 211 (.int .u32 v)]
 | .name t s w,vs=>∃ k,vs=[.iface 167 (pt k)]/\∀ W,DA.at_ W->Blk W k (jd t s w).toArray 221
 | .index t w z p,vs=>∃ k x,tV DA p [x]/\vs=[.iface 177 (pt k)]/\∀ W,DA.at_ W->Blk W k (em t w z x).toArray 176
 | .call t f xs,vs=>∃ k p c us,tV DA xs us/\vs=[.iface 193 (pt k)]/\∀ W,DA.at_ W->Blk W k (sk t f (.slice p us.length c)).toArray 214/\Sl W 169 1 (.slice p us.length c) us.length us
 | .un t x,vs=>∃ k v,tV DA x [v]/\vs=[.iface 215 (pt k)]/\∀ W,DA.at_ W->Blk W k (unC t v).toArray 217
 | .bin t x y,vs=>∃ k u v,tV DA x [u]/\tV DA y [v]/\vs=[.iface 218 (pt k)]/\∀ W,DA.at_ W->Blk W k (Wa t u v).toArray 230
 | .nil,vs=>vs=[]
 | .cons x xs,vs=>∃ v us,tV DA x [v]/\tV DA xs us/\vs=v::us
 | .letS t nm s w x,vs=>∃ k k2 v,tV DA x [v]/\vs=[.iface 165 (pt k)]/\∀ W,DA.at_ W->Blk W k (Qe t k2 v true).toArray 171/\Blk W k2 (jd nm s w).toArray 221
 | .setS t s w x,vs=>∃ k k2 v,tV DA x [v]/\vs=[.iface 165 (pt k)]/\∀ W,DA.at_ W->Blk W k (Qe t k2 v false).toArray 171/\Blk W k2 (jd t s w).toArray 221
 | .putS t w z p x,vs=>∃ k k2 u v,tV DA p [u]/\tV DA x [v]/\vs=[.iface 174 (pt k)]/\∀ W,DA.at_ W->Blk W k #[pt k2,v] 179/\Blk W k2 (em t w z u).toArray 176
 | .ifS _ c a b,vs=>∃ k v k2,tV DA c [v]/\tV DA a [.iface 113 (pt k2)]/\vs=[.iface 181 (pt k)] /\
   ((b= .nil/\∀ W,DA.at_ W->Blk W k #[v,pt k2,.pointer none] 183)∨(b.isNil=false/\∃ k3,tV DA b [.iface 113 (pt k3)]/\∀ W,DA.at_ W->Blk W k #[v,pt k2,pt k3] 183))
 | .whileS _ c b,vs=>∃ k v k2,tV DA c [v]/\tV DA b [.iface 113 (pt k2)]/\vs=[.iface 184 (pt k)]/\∀ W,DA.at_ W->Blk W k #[v,pt k2] 186
 | .retS _ x,vs=>∃ k v,tV DA x [v]/\vs=[.iface 187 (pt k)]/\∀ W,DA.at_ W->Blk W k #[v] 189
 | .prtS _ x,vs=>∃ k v,tV DA x [v]/\vs=[.iface 190 (pt k)]/\∀ W,DA.at_ W->Blk W k #[v] 191
 | .doS _ x,vs=>∃ k k2,tV DA x [.iface 193 (pt k2)]/\vs=[.iface 192 (pt k)]/\∀ W,DA.at_ W->Blk W k #[pt k2] 195
 | .block _ l,vs=>∃ k p c us,tV DA l us/\vs=[.iface 113 (pt k)]/\∀ W,DA.at_ W->Blk W k #[.slice p us.length c] 164/\Sl W 161 1 (.slice p us.length c) us.length us
theorem at0 {A:Asn}{L:List Asn}{W:World} (h:(all (A::L)).at_ W):A.at_ W:=h.1
theorem at1 {A B:Asn}{L:List Asn}{W:World} (h:(all (A::B::L)).at_ W):B.at_ W:=h.2.2.1
theorem at2 {A B C:Asn}{L:List Asn}{W:World} (h:(all (A::B::C::L)).at_ W):C.at_ W:=h.2.2.2.2.1
theorem at3 {A B C D:Asn}{L:List Asn}{W:World} (h:(all (A::B::C::D::L)).at_ W):D.at_ W:=h.2.2.2.2.2.2.1
theorem atl {A:Asn}{L:List Asn}{W:World} (h:(all (A::L)).at_ W):(all L).at_ W:=h.2.2
theorem aez {DA:Asn}:∀ (x:T) (vs:List Value) (A:Asn),isP x vs A->(∀ W,DA.at_ W->A.at_ W)->tV DA x vs:=by
 intro x
 induction x with
 | num v l=>rintro vs A ⟨rfl, -⟩ hA;rfl
 | name t s w=>rintro vs A ⟨k,rfl,rfl⟩ hA;exact⟨k,rfl,hA⟩
 | nil=>rintro vs A ⟨rfl, -⟩ hA;rfl
 | cons x xs ih1 ih2 =>
  rintro vs A ⟨v,us,A1,As,h1,h2,rfl,rfl⟩ hA;exact⟨v,us,ih1 _ _ h1 λ W h=>at0 (hA W h),ih2 _ _ h2 λ W h=>atl (hA W h),rfl⟩
 | index t w z p ih=>rintro vs A ⟨k,x,A1,h1,rfl,rfl⟩ hA;exact⟨k,x,ih _ _ h1 λ W h=>at1 (hA W h),rfl,λ W h=>at0 (hA W h)⟩
 | call t f xs ih=>rintro vs A ⟨k,p,c,us,A1,h1,rfl,rfl⟩ hA;exact⟨k,p,c,us,ih _ _ h1 λ W h=>at2 (hA W h),rfl,λ W h=>⟨at0 (hA W h),at1 (hA W h)⟩⟩
 | un t x ih=>rintro vs A ⟨k,v,A1,h1,rfl,rfl⟩ hA;exact⟨k,v,ih _ _ h1 λ W h=>at1 (hA W h),rfl,λ W h=>at0 (hA W h)⟩
 | bin t x y ih1 ih2=>rintro vs A ⟨k,u,v,A1,A2,h1,h2,rfl,rfl⟩ hA;exact⟨k,u,v,ih1 _ _ h1 λ W h=>at1 (hA W h),ih2 _ _ h2 λ W h=>at2 (hA W h),rfl,λ W h=>at0 (hA W h)⟩
 | letS t nm s w x ih=>rintro vs A ⟨k,k2,v,A1,h1,rfl,rfl⟩ hA;exact⟨k,k2,v,ih _ _ h1 λ W h=>at2 (hA W h),rfl,λ W h=>⟨at0 (hA W h),at1 (hA W h)⟩⟩
 | setS t s w x ih=>rintro vs A ⟨k,k2,v,A1,h1,rfl,rfl⟩ hA;exact⟨k,k2,v,ih _ _ h1 λ W h=>at2 (hA W h),rfl,λ W h=>⟨at0 (hA W h),at1 (hA W h)⟩⟩
 | putS t w z p x ih1 ih2=>rintro vs A ⟨k,k2,u,v,A1,A2,h1,h2,rfl,rfl⟩ hA;exact⟨k,k2,u,v,ih1 _ _ h1 λ W h=>at2 (hA W h),ih2 _ _ h2 λ W h=>at3 (hA W h),rfl,λ W h=>⟨at0 (hA W h),at1 (hA W h)⟩⟩
 | ifS l c a b ih1 ih2 ih3 =>
  rintro vs A ⟨k,v,k2,A1,A2,h1,h2,rfl,h⟩ hA;rcases h with ⟨rfl,rfl⟩ | ⟨k3,A3,h3,rfl⟩
  ·exact⟨k,v,k2,ih1 _ _ h1 λ W h=>at1 (hA W h),ih2 _ _ h2 λ W h=>at2 (hA W h),rfl,.inl ⟨rfl,λ W h=>at0 (hA W h)⟩⟩
  ·refine⟨k,v,k2,ih1 _ _ h1 λ W h=>at1 (hA W h),ih2 _ _ h2 λ W h=>at2 (hA W h),rfl,.inr ⟨?_,k3,ih3 _ _ h3 λ W h=>at3 (hA W h),λ W h=>at0 (hA W h)⟩⟩
   cases b <;> first | rfl | (obtain⟨h, -⟩:=h3;cases h)
 | whileS l c b ih1 ih2=>rintro vs A ⟨k,v,k2,A1,A2,h1,h2,rfl,rfl⟩ hA;exact⟨k,v,k2,ih1 _ _ h1 λ W h=>at1 (hA W h),ih2 _ _ h2 λ W h=>at2 (hA W h),rfl,λ W h=>at0 (hA W h)⟩
 | retS l x ih=>rintro vs A ⟨k,v,A1,h1,rfl,rfl⟩ hA;exact⟨k,v,ih _ _ h1 λ W h=>at1 (hA W h),rfl,λ W h=>at0 (hA W h)⟩
 | prtS l x ih=>rintro vs A ⟨k,v,A1,h1,rfl,rfl⟩ hA;exact⟨k,v,ih _ _ h1 λ W h=>at1 (hA W h),rfl,λ W h=>at0 (hA W h)⟩
 | doS l x ih=>rintro vs A ⟨k,k2,A1,h1,rfl,rfl⟩ hA;exact⟨k,k2,ih _ _ h1 λ W h=>at1 (hA W h),rfl,λ W h=>at0 (hA W h)⟩
 | block l xs ih=>rintro vs A ⟨k,p,c,us,A1,h1,rfl,rfl⟩ hA;exact⟨k,p,c,us,ih _ _ h1 λ W h=>at2 (hA W h),rfl,λ W h=>⟨at0 (hA W h),at1 (hA W h)⟩⟩
structure Ev where
 k:Nat
 pw:Option Addr
 cw:Nat
 DA:Asn
structure Eh where
 po:Option Addr
 co:Nat
 ps:Option Addr
 cs:Nat
def rnL (X:Ev) (h:Eh) (s:Rn):List Asn :=
 [blk X.k #[.slice X.pw s.words.length X.cw,.slice h.po s.out.length h.co,.int .i64 (s.steps:Nat),.int .i64 (s.room:Nat),.slice h.ps s.slots.length h.cs] 69,
  sl 32 1 (.slice X.pw s.words.length X.cw) s.words.length (s.words.map vU),sl 5 1 (.slice h.po s.out.length h.co) s.out.length (s.out.map vB),
  sl 32 1 (.slice h.ps s.slots.length h.cs) s.slots.length (s.slots.map vU),X.DA]
def rnA (X:Ev) (h:Eh) (s:Rn):Asn:=all (rnL X h s)
def stL (X:Ev) (h:Eh) (z1 z2:Int) (v:Value) (s:Rn):List Asn :=
 [blk X.k #[.slice X.pw s.words.length X.cw,.slice h.po s.out.length h.co,.int .i64 z1,.int .i64 z2,v] 69,
  sl 32 1 (.slice X.pw s.words.length X.cw) s.words.length (s.words.map vU),sl 5 1 (.slice h.po s.out.length h.co) s.out.length (s.out.map vB),X.DA]
def La (k:Nat):List PanicEntry:=[PanicEntry.mk (.iface 70 (.int .i64 (k:Nat))) false false]
variable {W0 W:World}{M:Nat->Prop}{L:List Asn}{X:Ev}{h:Eh}{s:Rn}{Q:Ending->World->Prop}
theorem ik (H:St W0 M W (rnA X h s::L)):St W0 M W (rnL X h s++L):=St.open_ H
theorem lq (H:St W0 M W (rnL X h s++L)):St W0 M W (rnA X h s::L):=St.shut H
theorem lr {w:World}{e n c:Nat}{p:Option Addr}{xs:List Value} (h:Sl w e 1 (.slice p n c) n xs){i:Nat} (hi:i<n):∃ g off,p=some ⟨g,off,none⟩/\w.cell? ⟨g,off+i,none⟩=xs[i]?/\w.frozen? ⟨g,off+i,none⟩=false:=by
 obtain⟨ao,cap,hv,hl, -, -, -,hc⟩:=h.open1;cases hv;obtain⟨g,off,rfl, -,h2⟩:=hc (by omega);exact⟨g,off,rfl,h2 i hi⟩
theorem Lf {w:World}{e n c g off:Nat}{xs:List Value} (h:Sl w e 1 (.slice (some ⟨g,off,none⟩) n c) n xs){i:Nat} (hi:i<n) (x:Value):Post (sl e 1 (.slice (some ⟨g,off,none⟩) n c) n xs) w (sl e 1 (.slice (some ⟨g,off,none⟩) n c) n (xs.set i x)) (w.setCell ⟨g,off+i,none⟩ x) :=
 ⟨h.set1 i hi x,XTouch.setCell (S:=(sl e 1 (.slice (some ⟨g,off,none⟩) n c) n xs).own) (p:=⟨g,off+i,none⟩) (XTouch.refl _ _) (.inl rfl) x,λ q hq=>.inl hq⟩
theorem aij {a:Nat} (h0:a≠0) (h:a≤100000):IntKind.wrap .i64 ((a:Nat) - 1:Int)=((a - 1:Nat):Int):=by
 rw[show((a:Nat) - 1:Int)=((a - 1:Nat):Int) by omega];exact Go.Bits.n64 (by omega)
theorem afc {a:Nat} (h:a≤100000):IntKind.wrap .i64 ((a:Nat)+1:Int)=((a+1:Nat):Int):=by
 rw[show((a:Nat)+1:Int)=((a+1:Nat):Int) by omega];exact Go.Bits.n64 (by omega)
theorem aac (hs:s.steps≤20000) (H:St W0 M W (rnA X h s::L)) (h0:s.steps=0->Q (.panicked (La 0)) W) (h1:s.steps≠0->∀ w',St W0 M w' (rnA X h { s with steps:=s.steps - 1 }::L)->Q (.returned (.tuple #[])) w'):Calls prog 70 #[pt X.k] W Q:=by
 have H1:=ik H;refine als X.k 0 ⟨_,H1.ld 0 rfl (i:=2) rfl,Sx.so (λ hz=>?_) (λ hz=>?_)⟩
 ·have hz:s.steps=0:=by have:=beq_iff_eq.1 hz;omega
  exact h0 hz
 ·have hz:s.steps≠0:=λ e=>by rw[e] at hz;cases hz
  refine⟨_,H1.ld 0 rfl (i:=2) rfl,?_⟩;rintro z rfl;rw[aij hz (by omega)];exact H1.st 0 rfl (i:=2) (by simp [rnL]) λ w2 H2=>h1 hz w2 (lq H2)
def Lg (X:Ev) (h:Eh) (sl w:Int) (a:Addr):Prop:=∃ g off,a=⟨g,off,none⟩/\((0≤sl/\∃ o,h.ps=some ⟨g,o,none⟩/\off=o+sl.toNat)∨(sl<0/\∃ o,X.pw=some ⟨g,o,none⟩/\off=o+w.toNat))
theorem Ty {kn:Nat}{t:Tok}{slt wd:Int} (hn:∀ W,X.DA.at_ W->Blk W kn (jd t slt wd).toArray 221) (hin:inW s.words.length s.slots.length slt wd) (H:St W0 M W (rnA X h s::L))
  (hQ:∀ a w',Lg X h slt wd a->St W0 M w' (rnA X h s::L)->Q (.returned (.pointer (some a))) w'):Calls prog 72 #[pt X.k,pt kn] W Q:=by
 have H1:=ik H;have hb:=hn W (H1.nth 4 rfl);refine alv X.k 0 kn 0 ⟨_,hb.cell' (i:=3) rfl,Sx.so (λ hz=>?_) (λ hz=>?_)⟩
 ·have hz:=dt hz;rcases hin with ⟨-,h2⟩ | ⟨h2, -⟩
  ·refine⟨_,_,_,H1.ld 0 rfl (i:=4) rfl,_,hb.cell' (i:=3) rfl,⟨hz,h2⟩,?_⟩;obtain⟨g,off,e, -, -⟩:=lr (H1.nth 3 rfl) (i:=slt.toNat) (by omega);rw[e];refine adr_some ?_;refine H1.drN λ w2 H2=>?_;exact hQ _ _ ⟨g,_,rfl,.inl ⟨hz,off,e,by omega⟩⟩ (lq H2)
  ·omega
 ·have hz:=df hz;rcases hin with ⟨h2, -⟩ | ⟨h2,h3,h4⟩
  ·omega
  ·refine⟨_,_,_,H1.ld 0 rfl (i:=0) rfl,_,hb.cell' (i:=4) rfl,⟨h3,h4⟩,?_⟩;obtain⟨g,off,e, -, -⟩:=lr (H1.nth 1 rfl) (i:=wd.toNat) (by omega);rw[e];refine adr_some ?_;refine H1.drN λ w2 H2=>?_;exact hQ _ _ ⟨g,_,rfl,.inr ⟨by omega,off,e,by omega⟩⟩ (lq H2)
theorem Fq (l:List UInt32){i:Nat} (hi:i<l.length):(l.map vU)[i]?=some (vU (l.getD i 0)):=by
 rw[List.getElem?_map,List.getElem?_eq_getElem hi,List.getD_eq_getElem?_getD,List.getElem?_eq_getElem hi];rfl
theorem Nd {slt wd:Int}{a:Addr} (ha:Lg X h slt wd a) (hin:inW s.words.length s.slots.length slt wd) (H:St W0 M W (rnA X h s::L)):W.cell? a=some (vU (s.get slt wd)):=by
 have H1:=ik H;obtain⟨g,off,rfl,⟨h0,o,e,rfl⟩ | ⟨h0,o,e,rfl⟩⟩:=ha
 ·rcases hin with ⟨-,h2⟩ | ⟨h2, -⟩
  ·obtain⟨g',off',e',hc, -⟩:=lr (H1.nth 3 rfl) (i:=slt.toNat) (by omega);rw[e] at e';cases e';rw[hc,Fq _ (by omega)];unfold Rn.get;rw[if_pos h0]
  ·omega
 ·rcases hin with ⟨h2, -⟩ | ⟨h2,h3,h4⟩
  ·omega
  ·obtain⟨g',off',e',hc, -⟩:=lr (H1.nth 1 rfl) (i:=wd.toNat) (by omega);rw[e] at e';cases e';rw[hc,Fq _ (by omega)];unfold Rn.get;rw[if_neg (by omega)]
theorem Nf {slt wd:Int}{a:Addr}{v:UInt32}{φ:World->Prop} (ha:Lg X h slt wd a) (hin:inW s.words.length s.slots.length slt wd) (H:St W0 M W (rnA X h s::L)) (hφ:∀ w',St W0 M w' (rnA X h (s.set slt wd v)::L)->φ w') :
  (∃ u,W.cell? a=some u)/\W.frozen? a=false/\∀ w',w'=W.setCell a (vU v)->φ w':=by
 have hl:=Nd ha hin H;have H1:=ik H;obtain⟨g,off,rfl,⟨h0,o,e,rfl⟩ | ⟨h0,o,e,rfl⟩⟩:=ha
 ·rcases hin with ⟨-,h2⟩ | ⟨h2, -⟩
  ·have hS:Sl W 32 1 (.slice h.ps s.slots.length h.cs) s.slots.length (s.slots.map vU):=H1.nth 3 rfl;obtain⟨g',off',e',hc,hf⟩:=lr hS (i:=slt.toNat) (by omega);rw[e] at e';cases e';refine⟨⟨_,hl⟩,hf,?_⟩;rintro w' rfl;rw[e] at hS;have hp:=Lf hS (i:=slt.toNat) (by omega) (vU v);rw[<- e,<- List.map_set] at hp;have H2:=H1.upd 3 rfl hp;refine hφ _ (lq (s:=s.set slt wd v) ?_)
   have e2:s.set slt wd v={ s with slots:=s.slots.set slt.toNat v }:=by unfold Rn.set;rw[if_pos h0]
   rw[e2];unfold rnL;simp only[List.length_set];exact H2
  ·omega
 ·rcases hin with ⟨h2, -⟩ | ⟨h2,h3,h4⟩
  ·omega
  ·have hS:Sl W 32 1 (.slice X.pw s.words.length X.cw) s.words.length (s.words.map vU):=H1.nth 1 rfl;obtain⟨g',off',e',hc,hf⟩:=lr hS (i:=wd.toNat) (by omega);rw[e] at e';cases e';refine⟨⟨_,hl⟩,hf,?_⟩;rintro w' rfl;rw[e] at hS;have hp:=Lf hS (i:=wd.toNat) (by omega) (vU v);rw[<- e,<- List.map_set] at hp;have H2:=H1.upd 1 rfl hp;refine hφ _ (lq (s:=s.set slt wd v) ?_)
   have e2:s.set slt wd v={ s with words:=s.words.set wd.toNat v }:=by unfold Rn.set;rw[if_neg (by omega)]
   rw[e2];unfold rnL;simp only[List.length_set];exact H2
theorem aad {ki:Nat}{t:Tok}{wd z:Int}{x:Value}{v:UInt32} (hi:∀ W,X.DA.at_ W->Blk W ki (em t wd z x).toArray 176) (hin:inA s.words.length wd z) (hw:s.words.length≤100000) (H:St W0 M W (rnA X h s::L))
  (h1:z≤(v.toNat:Int)->Q (.panicked (La 1)) W) (hQ:¬ z≤(v.toNat:Int)->∀ g o w',X.pw=some ⟨g,o,none⟩->St W0 M w' (rnA X h s::L)->Q (.returned (.pointer (some ⟨g,o+(wd.toNat+v.toNat),none⟩))) w'):Calls prog 73 #[pt X.k,pt ki,vU v] W Q:=by
 have H1:=ik H;have hb:=hi W (H1.nth 4 rfl);obtain⟨a1,a2,a3,a4⟩:=hin;refine alw X.k 0 ki 0 _ ⟨_,hb.cell' (i:=4) rfl,Sx.so (λ hz=>?_) (λ hz=>?_)⟩
 ·exact h1 (dt hz)
 ·have hz:¬ z≤(v.toNat:Int):=df hz;refine⟨_,_,_,H1.ld 0 rfl (i:=0) rfl,_,hb.cell' (i:=3) rfl,?_⟩;rintro z3 rfl z4 rfl;rw[Go.Bits.n64 (x:=v.toNat) (by omega)]
  have e4:IntKind.wrap .i64 (wd+(v.toNat:Int))=((wd.toNat+v.toNat:Nat):Int):=by
   rw[show wd+(v.toNat:Int)=((wd.toNat+v.toNat:Nat):Int) by omega];exact Go.Bits.n64 (by have:=v.toNat_lt;omega)
  rw[e4];refine⟨⟨by omega,by omega⟩,?_⟩;obtain⟨g,off,e, -, -⟩:=lr (H1.nth 1 rfl) (i:=wd.toNat+v.toNat) (by omega);rw[e];refine adr_some ?_;refine H1.drN λ w2 H2=>?_;rw[show off+(((wd.toNat+v.toNat:Nat):Int)).toNat * 1=off+(wd.toNat+v.toNat) by omega];exact hQ hz g off w2 e (lq H2)
variable {W:World}{Q:Ending->World->Prop}
def E32 (x:Int):Prop:=0≤x/\x<4294967296
theorem Tz (x:Int):E32 (x % 4294967296):=⟨by omega,by omega⟩
theorem Yi (f:BinOp) (a b:Int):E32 (bits f .u32 a b):=by
 unfold bits E32;rw[Go.Sx.w32m];omega
theorem Fs {n:Int} (h0:0≤n) (h1:n<4294967296):E32 n:=⟨h0,h1⟩
theorem acp {c:Prop}[Decidable c]:E32 (if c then 1 else 0):=by split <;> exact Fs (by decide) (by decide)
theorem acq {a b:Int} (ha:E32 a) (hb:0≤b):E32 (a / b):=by
 obtain⟨a0,a1⟩:=ha;refine⟨Int.ediv_nonneg a0 hb,?_⟩;have:=Int.ediv_le_self b a0;omega
theorem Ng {op a b:Int} (ha:E32 a) (hb:E32 b):E32 (alu.execF op a b):=by
 have hp:∀ n:Nat,(0:Int)≤2 ^ n:=λ n=>Int.pow_nonneg (by decide);unfold alu.execF
 split <;> first
  | exact Tz _
  | exact Yi _ _ _
  | exact acp
  | exact acq ha (hp _)
  | (unfold alu.quoF;split;exact Fs (by decide) (by decide);exact Tz _)
  | (unfold alu.remF;split;exact ha;exact Tz _)
  | exact Fs (by decide) (by decide)
def uI (z:Int):UInt32:=UInt32.ofNat z.toNat
theorem Ik {z:Int} (h:E32 z):vU (uI z)= .int .u32 z:=by
 obtain⟨h0,h1⟩:=h;unfold vU uI;rw[UInt32.toNat_ofNat',Nat.mod_eq_of_lt (by omega)];congr 1;omega
theorem Bx (x:UInt32):E32 (x.toNat:Int):=⟨by omega,by have:=x.toNat_lt;omega⟩
def opE (s:ByteArray) (x y:UInt32):UInt32 :=
 if s=ofL [38,38] then tr (y !=0) else if s=ofL [124,124] then tr (y !=0) else if s=ofL [61,61] then tr (x==y) else if s=ofL [33,61] then tr (x !=y)
 else if s=ofL [62] then uI (alu.execF 31 y.toNat x.toNat) else if s=ofL [60,61] then uI (IntKind.wrap .u32 (1 - alu.execF 31 y.toNat x.toNat)) else if s=ofL [62,61] then uI (IntKind.wrap .u32 (1 - alu.execF 31 x.toNat y.toNat))
 else uI (alu.execF (opOf s) x.toNat y.toNat)
theorem acr (s:ByteArray):(λ op:Int=>op=0∨op=28∨op=29∨op=30∨op=31∨op=33∨op=35∨op=36∨op=37∨op=38∨op=42∨op=44) (opOf s):=by
 unfold opOf
 repeat (split;exact(by decide))
 exact .inl rfl
theorem aae (op:Int) (ho:op=0∨op=28∨op=29∨op=30∨op=31∨op=33∨op=35∨op=36∨op=37∨op=38∨op=42∨op=44) (a b:UInt32) (w:World):Calls prog 120 #[.int .i64 op,vU a,vU b] w λ e w'=>e= .returned (vU (uI (alu.execF op a.toNat b.toNat)))/\im w w' :=
 (alu.exec_any op a.toNat b.toNat ho (Bx a).1 (Bx a).2 (Bx b).1 (Bx b).2 w).mono λ e w' h=>⟨by rw[Ik (Ng (Bx a) (Bx b))];exact h.1,h.2⟩
theorem Ua (b:Bool) (w:World):Calls prog 104 #[.bool b] w λ e w'=>e= .returned (vU (tr b))/\im w w':=by
 refine aig b (Sx.so (λ h=>?_) (λ h=>?_))
 ·subst h;exact⟨rfl,XTouch.refl _ _⟩
 ·subst h;exact⟨rfl,XTouch.refl _ _⟩
theorem aq {s t:ByteArray}{A B:Prop} (h1:s=t->A) (h2:s≠t->B):Sx.split (ByteArray.toList s==ByteArray.toList t) A B:=by
 rw[ab];exact Sx.so (λ h=>h1 (dt h)) (λ h=>h2 (df h))
theorem afd (s:ByteArray) (w:World):Calls prog 121 #[.string s] w λ e w'=>e= .returned (.int .i64 (opOf s))/\w'=w:=by
 refine aif s ?_;unfold opOf;refine aq (λ h=>⟨by rw[if_pos (show s=ofL [124] from h)],rfl⟩) (λ h=>?_);rw[if_neg (show ¬ s=ofL [124] from h)];refine aq (λ h=>⟨by rw[if_pos (show s=ofL [94] from h)],rfl⟩) (λ h=>?_);rw[if_neg (show ¬ s=ofL [94] from h)];refine aq (λ h=>⟨by rw[if_pos (show s=ofL [38] from h)],rfl⟩) (λ h=>?_);rw[if_neg (show ¬ s=ofL [38] from h)];refine aq (λ h=>⟨by rw[if_pos (show s=ofL [60] from h)],rfl⟩) (λ h=>?_);rw[if_neg (show ¬ s=ofL [60] from h)];refine aq (λ h=>⟨by rw[if_pos (show s=ofL [60,60] from h)],rfl⟩) (λ h=>?_);rw[if_neg (show ¬ s=ofL [60,60] from h)];refine aq (λ h=>⟨by rw[if_pos (show s=ofL [62,62] from h)],rfl⟩) (λ h=>?_);rw[if_neg (show ¬ s=ofL [62,62] from h)];refine aq (λ h=>⟨by rw[if_pos (show s=ofL [43] from h)],rfl⟩) (λ h=>?_);rw[if_neg (show ¬ s=ofL [43] from h)];refine aq (λ h=>⟨by rw[if_pos (show s=ofL [45] from h)],rfl⟩) (λ h=>?_);rw[if_neg (show ¬ s=ofL [45] from h)];refine aq (λ h=>⟨by rw[if_pos (show s=ofL [42] from h)],rfl⟩) (λ h=>?_);rw[if_neg (show ¬ s=ofL [42] from h)];refine aq (λ h=>⟨by rw[if_pos (show s=ofL [47] from h)],rfl⟩) (λ h=>?_);rw[if_neg (show ¬ s=ofL [47] from h)];refine aq (λ h=>⟨by rw[if_pos (show s=ofL [37] from h)],rfl⟩) (λ h=>?_);rw[if_neg (show ¬ s=ofL [37] from h)];exact⟨rfl,rfl⟩
theorem agr (x y:UInt32):(((x.toNat:Int)==(y.toNat:Int)):Bool)=(x==y):=by
 rw[Bool.eq_iff_iff];simp only[beq_iff_eq];exact⟨λ h=>UInt32.toNat_inj.1 (by omega),λ h=>by rw[h]⟩
theorem aik (x y:UInt32):(((x.toNat:Int) !=(y.toNat:Int)):Bool)=(x !=y):=by
 show(!((x.toNat:Int)==(y.toNat:Int)))= !(x==y);rw[agr]
theorem u_z (x:UInt32):(((x.toNat:Int)==0):Bool)=(x==0):=agr x 0
theorem Qh (x:UInt32):(((x.toNat:Int) !=0):Bool)=(x !=0):=aik x 0
theorem jz (z:Int):E32 (IntKind.wrap .u32 z):=by
 unfold E32;rw[Go.Sx.w32m];omega
theorem Yj {kb:Nat}{sg:ByteArray}{x y:UInt32}{zx zy:Int} (hx:zx=(x.toNat:Int)) (hy:zy=(y.toNat:Int)) (hc:∀ w,im W w->w.cell? ⟨kb,3,none⟩=some (.string sg)) (hQ:∀ w',im W w'->Q (.returned (vU (opE sg x y))) w') :
  ∃ s3:ByteArray,W.cell? ⟨kb,0+3,none⟩=some (.string s3)/\Sx.split (ByteArray.toList s3==ByteArray.toList (ByteArray.mk #[38,38]))
   (Calls prog 104 #[.bool (zy !=0)] W λ e W4=>∃ z:Int,e= .returned (.int .u32 z)/\Q (.returned (.int .u32 z)) W4)
   (Sx.split (ByteArray.toList s3==ByteArray.toList (ByteArray.mk #[124,124]))
   (Calls prog 104 #[.bool (zy !=0)] W λ e W4=>∃ z:Int,e= .returned (.int .u32 z)/\Q (.returned (.int .u32 z)) W4)
   (Sx.split (ByteArray.toList s3==ByteArray.toList (ByteArray.mk #[61,61]))
   (Calls prog 104 #[.bool (zx==zy)] W λ e W4=>∃ z:Int,e= .returned (.int .u32 z)/\Q (.returned (.int .u32 z)) W4)
   (Sx.split (ByteArray.toList s3==ByteArray.toList (ByteArray.mk #[33,61]))
   (Calls prog 104 #[.bool (zx !=zy)] W λ e W4=>∃ z:Int,e= .returned (.int .u32 z)/\Q (.returned (.int .u32 z)) W4)
   (Sx.split (ByteArray.toList s3==ByteArray.toList (ByteArray.mk #[62]))
   (Calls prog 120 #[.int .i64 31,.int .u32 zy,.int .u32 zx] W λ e W4=>∃ z:Int,e= .returned (.int .u32 z)/\Q (.returned (.int .u32 z)) W4)
   (Sx.split (ByteArray.toList s3==ByteArray.toList (ByteArray.mk #[60,61]))
   (Calls prog 120 #[.int .i64 31,.int .u32 zy,.int .u32 zx] W λ e W4=>∃ z:Int,e= .returned (.int .u32 z)/\∀ z9:Int,z9=IntKind.wrap .u32 (1 - z)->Q (.returned (.int .u32 z9)) W4)
   (Sx.split (ByteArray.toList s3==ByteArray.toList (ByteArray.mk #[62,61]))
   (Calls prog 120 #[.int .i64 31,.int .u32 zx,.int .u32 zy] W λ e W4=>∃ z:Int,e= .returned (.int .u32 z)/\∀ z9:Int,z9=IntKind.wrap .u32 (1 - z)->Q (.returned (.int .u32 z9)) W4)
   (∃ s4:ByteArray,W.cell? ⟨kb,0+3,none⟩=some (.string s4)/\Calls prog 121 #[.string s4] W λ e W4=>∃ z:Int,e= .returned (.int .i64 z)/\Calls prog 120 #[.int .i64 z,.int .u32 zx,.int .u32 zy] W4 λ e5 W5=>∃ z5:Int,e5= .returned (.int .u32 z5)/\Q (.returned (.int .u32 z5)) W5))))))):=by
 subst hx;subst hy;have hc0:=hc W (XTouch.refl _ _);have q1:∀ (b:Bool),opE sg x y=tr b->Calls prog 104 #[.bool b] W λ e W4=>∃ z:Int,e= .returned (.int .u32 z)/\Q (.returned (.int .u32 z)) W4:=λ b hb=>(Ua b W).mono λ e w h=>⟨_,h.1,by have:=hQ w h.2;rw[hb] at this;exact this⟩;have q2:∀ (op:Int) (a b:UInt32),(op=0∨op=28∨op=29∨op=30∨op=31∨op=33∨op=35∨op=36∨op=37∨op=38∨op=42∨op=44)->opE sg x y=uI (alu.execF op a.toNat b.toNat)->∀ w2,im W w2->Calls prog 120 #[.int .i64 op,.int .u32 a.toNat,.int .u32 b.toNat] w2 λ e W4=>∃ z:Int,e= .returned (.int .u32 z)/\Q (.returned (.int .u32 z)) W4:=λ op a b ho hb w2 h2=>(aae op ho a b w2).mono λ e w h=>⟨_,h.1,by have:=hQ w (db h2 h.2);rw[hb] at this;exact this⟩
 have q3:∀ (a b:UInt32),opE sg x y=uI (IntKind.wrap .u32 (1 - alu.execF 31 a.toNat b.toNat))->Calls prog 120 #[.int .i64 31,.int .u32 a.toNat,.int .u32 b.toNat] W λ e W4=>∃ z:Int,e= .returned (.int .u32 z)/\∀ z9:Int,z9=IntKind.wrap .u32 (1 - z)->Q (.returned (.int .u32 z9)) W4:=λ a b hb=>(aae 31 (by decide) a b W).mono λ e w h=>by
  refine⟨alu.execF 31 a.toNat b.toNat,by rw[h.1,Ik (Ng (Bx a) (Bx b))],?_⟩;intro z9 hz;rw[hz];have:=hQ w h.2;rw[hb,Ik (jz _)] at this;exact this
 unfold opE at q1 q2 q3;refine⟨sg,hc0,aq (λ h=>?_) (λ h=>?_)⟩
 ·rw[Qh];exact q1 _ (by rw[if_pos (show sg=ofL [38,38] from h)])
 rw[if_neg (show ¬ sg=ofL [38,38] from h)] at q1 q2 q3;refine aq (λ h=>?_) (λ h=>?_)
 ·rw[Qh];exact q1 _ (by rw[if_pos (show sg=ofL [124,124] from h)])
 rw[if_neg (show ¬ sg=ofL [124,124] from h)] at q1 q2 q3;refine aq (λ h=>?_) (λ h=>?_)
 ·rw[agr];exact q1 _ (by rw[if_pos (show sg=ofL [61,61] from h)])
 rw[if_neg (show ¬ sg=ofL [61,61] from h)] at q1 q2 q3;refine aq (λ h=>?_) (λ h=>?_)
 ·rw[aik];exact q1 _ (by rw[if_pos (show sg=ofL [33,61] from h)])
 rw[if_neg (show ¬ sg=ofL [33,61] from h)] at q1 q2 q3;refine aq (λ h=>?_) (λ h=>?_)
 ·exact q2 _ y x (by decide) (by rw[if_pos (show sg=ofL [62] from h)]) W (XTouch.refl _ _)
 rw[if_neg (show ¬ sg=ofL [62] from h)] at q1 q2 q3;refine aq (λ h=>?_) (λ h=>?_)
 ·exact q3 y x (by rw[if_pos (show sg=ofL [60,61] from h)])
 rw[if_neg (show ¬ sg=ofL [60,61] from h)] at q1 q2 q3;refine aq (λ h=>?_) (λ h=>?_)
 ·exact q3 x y (by rw[if_pos (show sg=ofL [62,61] from h)])
 rw[if_neg (show ¬ sg=ofL [62,61] from h)] at q1 q2 q3;refine⟨sg,hc0,(afd sg W).mono ?_⟩;rintro _ w2 ⟨rfl,rfl⟩;exact⟨_,rfl,q2 _ x y (acr sg) rfl _ (XTouch.refl _ _)⟩
variable {W0 W:World}{M:Nat->Prop}{L L1:List Asn}{X:Ev}{h h0:Eh}{s:Rn}{F:Ft}{nw:Nat}{f:Nat}
def evK (v:List UInt32):Value:=vU (hd v)
def stK (v:List UInt32):Value:=.tuple #[vU (hd v),.bool (decide (v≠[]))]
def ke (X:Ev) (h:Eh) (W0:World) (M:Nat->Prop) (L:List Asn) (K:List UInt32->Value) (r:Rs Rn) (e:Ending) (w':World):Prop:=match r with
 | .ok v s'=>e= .returned (K v)/\∃ po co,St W0 M w' (rnA X { h with po:=po,co:=co } s'::L)
 | .stop k s'=>e= .panicked (La k)/\∃ (h':Eh) (z1 z2:Int) (v:Value),St W0 M w' (all (stL X h' z1 z2 v s')::L)
 | .out=>False
def Gd' (nw:Nat) (s:Rn):Prop:=s.words.length=nw/\s.steps≤20000/\s.room≤512/\s.out.length+s.steps≤20000
structure Code (X:Ev) (F:Ft) (nw:Nat):Prop where
 hdr:∀ k n b,F k=some (n,b)->∃ kb t nm ps no,tV X.DA b [.iface 113 (pt kb)]/\∀ W,X.DA.at_ W->Blk W k (fnC t nm ps (pt kb) (n:Nat) no).toArray 115
 ok:∀ k n b,F k=some (n,b)->wf F nw n b 2/\n≤24
 nw:nw≤1000
structure Wk (X:Ev) (F:Ft) (nw:Nat) (f:Nat):Prop where
 e:∀ {W0 W:World} {M:Nat->Prop} {L:List Asn} {h:Eh} {s:Rn} {x:T} {v:Value},St W0 M W (rnA X h s::L)->wf F nw s.slots.length x 0->tV X.DA x [v]->Gd' nw s->go opE F f (.e x) s≠ .out ->
  Calls prog 71 #[pt X.k,v] W (ke X h W0 M L evK (go opE F f (.e x) s))
 s:∀ {W0 W:World} {M:Nat->Prop} {L:List Asn} {h:Eh} {s:Rn} {x:T} {v:Value},St W0 M W (rnA X h s::L)->wf F nw s.slots.length x 2->tV X.DA x [v]->Gd' nw s->go opE F f (.s x) s≠ .out ->
  Calls prog 40 #[pt X.k,v] W (ke X h W0 M L stK (go opE F f (.s x) s))
 en:∀ {W0 W:World} {M:Nat->Prop} {L:List Asn} {h:Eh} {s:Rn} {p:Option Addr} {c:Nat} {args:List UInt32} {k n:Nat} {b:T},St W0 M W (rnA X h s::sl 32 1 (.slice p args.length c) args.length (args.map vU)::L)->F k=some (n,b)->args.length≤n->Gd' nw s->go opE F f (.en k args) s≠ .out ->
  Calls prog 21 #[pt X.k,pt k,.slice p args.length c] W (ke X h W0 M L evK (go opE F f (.en k args) s))
theorem bm (H:St W0 M W (rnA X h s::L)):X.DA.at_ W:=(ik H).nth 4 rfl
theorem Al (H:St W0 M W (rnA X h s::L)):∃ (h':Eh) (z1 z2:Int) (v:Value),St W0 M W (all (stL X h' z1 z2 v s)::L):=by
 have H1:St W0 M W ([_,_,_,_,_]++L):=ik H
 have H2:=H1.perm (L':=[_,_,_,_]++(_::L)) (by
  refine(List.Perm.append_right L (List.Perm.cons _ (List.Perm.cons _ (List.Perm.cons _ (List.Perm.swap _ _ []))))))
 have H3:=St.shut (L:=[_,_,_,_]) (L':=_::L) H2;have H4:St W0 M W (all (stL X h (s.steps:Nat) (s.room:Nat) (.slice h.ps s.slots.length h.cs) s)::L):=(H3.swap).tail;exact⟨h,_,_,_,H4⟩
theorem bind_assoc {σ:Type} (r:Rs σ) (k k2:List UInt32->σ->Rs σ):(r.bind k).bind k2=r.bind λ v s=>(k v s).bind k2:=by cases r <;> rfl
theorem vd {fn:FuncId}{args:Array Value}{r1:Rs Rn}{k:List UInt32->Rn->Rs Rn}{K':List UInt32->Value}{φ:Int->World->Prop}{Ψ:Ending->World->Prop} (hL:∀ {w:World}{A:Asn},St W0 M w (A::L1)->St W0 M w (A::L))
  (hc:Calls prog fn args W (ke X h W0 M L1 evK r1)) (hok:∀ v s' w' po co,r1= .ok v s'->St W0 M w' (rnA X { h with po:=po,co:=co } s'::L1)->φ ((hd v).toNat:Int) w')
  (hΨ:∀ l w',ke X h0 W0 M L K' (r1.bind k) (.panicked l) w'->Ψ (.panicked l) w') :
  Calls prog fn args W λ e w'=>(∃ z:Int,e= .returned (.int .u32 z)/\φ z w')∨∃ l,e= .panicked l/\Ψ (.panicked l) w':=by
 refine hc.mono λ e w' he=>?_
 cases hr:r1 with
 | ok v s' =>
  rw[hr] at he;obtain⟨rfl,po,co,H⟩:=he;exact .inl ⟨_,rfl,hok v s' w' po co hr H⟩
 | stop n s' =>
  rw[hr] at he;obtain⟨rfl,h',z1,z2,v,H⟩:=he;refine .inr ⟨_,rfl,hΨ _ _ ?_⟩;rw[hr];exact⟨rfl,h',z1,z2,v,hL H⟩
 | out=>rw[hr] at he;exact he.elim
theorem Ub (hg:Gd' nw s):Gd' nw { s with steps:=s.steps - 1 }:=⟨hg.1,by have:=hg.2.1;show s.steps - 1≤20000;omega,hg.2.2.1,by have:=hg.2.2.2;show s.out.length+(s.steps - 1)≤20000;omega⟩
theorem xx {q:Rq}{s':Rn}{v:List UInt32} (hg:Gd' nw s) (h:go opE F f q s= .ok v s'):Gd' nw s'/\s'.slots.length=s.slots.length/\s'.steps+q.cost≤s.steps/\s'.room=s.room/\q.len v:=by
 obtain⟨a,b,c,d,e,g⟩:=gk h;obtain⟨h1,h2,h3,h4⟩:=hg;exact⟨⟨by omega,by omega,by omega,by omega⟩,b,a,d,g⟩
theorem afe (v:UInt32):IntKind.wrap .u32 (0 - (v.toNat:Int))=(((0 - v:UInt32)).toNat:Int):=by
 rw[Go.Sx.w32m];have:=v.toNat_lt;rw[UInt32.toNat_sub];simp;omega
theorem aff (v:UInt32):IntKind.wrap .u32 (((BitVec.ofInt (IntKind.bits .u32) (if IntKind.signed .u32=true then -1 else IntKind.max .u32) ^^^ BitVec.ofInt (IntKind.bits .u32) (v.toNat:Int)).toNat:Nat):Int)=((~~~ v:UInt32).toNat:Int):=by
 show IntKind.wrap .u32 (((BitVec.ofInt 32 (if IntKind.signed .u32=true then -1 else IntKind.max .u32) ^^^ BitVec.ofInt 32 (v.toNat:Int)).toNat:Nat):Int)=_
 have h1:(BitVec.ofInt 32 (if IntKind.signed .u32=true then -1 else IntKind.max .u32))=BitVec.allOnes 32:=by decide
 have h2:(BitVec.ofInt 32 (v.toNat:Int))=(BitVec.ofNat 32 v.toNat):=by simp
 have:=v.toNat_lt;rw[h1,h2,BitVec.allOnes_xor,BitVec.toNat_not,BitVec.toNat_ofNat,Nat.mod_eq_of_lt (by omega),Go.Bits.n32 (by omega),UInt32.toNat_not]
theorem Nh {g o i:Nat} (H:St W0 M W (rnA X h s::L)) (e:X.pw=some ⟨g,o,none⟩) (hi:i<s.words.length):W.cell? ⟨g,o+i,none⟩=some (vU (s.words.getD i 0)):=by
 obtain⟨g',off,e',hc, -⟩:=lr ((ik H).nth 1 rfl) hi;rw[e] at e';cases e';rw[hc,Fq _ hi]
theorem ail {g o i:Nat}{v:UInt32}{φ:World->Prop} (H:St W0 M W (rnA X h s::L)) (e:X.pw=some ⟨g,o,none⟩) (hi:i<s.words.length) (hφ:∀ w',St W0 M w' (rnA X h { s with words:=s.words.set i v }::L)->φ w') :
  (∃ u,W.cell? ⟨g,o+i,none⟩=some u)/\W.frozen? ⟨g,o+i,none⟩=false/\∀ w',w'=W.setCell ⟨g,o+i,none⟩ (vU v)->φ w':=by
 have H1:=ik H;have hS:Sl W 32 1 (.slice X.pw s.words.length X.cw) s.words.length (s.words.map vU):=H1.nth 1 rfl;obtain⟨g',off',e',hc,hf⟩:=lr hS hi;rw[e] at e';cases e';refine⟨⟨_,Nh H e hi⟩,hf,?_⟩;rintro w' rfl;rw[e] at hS;have hp:=Lf hS hi (vU v);rw[<- e,<- List.map_set] at hp;have H2:=H1.upd 1 rfl hp;refine hφ _ (lq (s:={ s with words:=s.words.set i v }) ?_);unfold rnL;simp only[List.length_set];exact H2
theorem Uc {DA:Asn}:∀ {xs:T}{vs:List Value}{ns:Nat},tV DA xs vs->wf F nw ns xs 1->vs.length=xs.len
 | .nil,vs,_,h,_=>by rw[show vs=[] from h];rfl
 | .cons x xs,vs,ns,h,hw=>by
  obtain⟨v,us, -,h2,rfl⟩:=h;rcases hw with ⟨-, -,hw⟩ | ⟨e, -⟩
  ·show us.length+1=xs.len+1;rw[Uc h2 hw]
  ·cases e
 | .num ..,_,_,_,h=>by cases h.1
 | .name ..,_,_,_,h=>by cases h.1
 | .index ..,_,_,_,h=>by cases h.1
 | .call ..,_,_,_,h=>by cases h.1
 | .un ..,_,_,_,h=>by cases h.1
 | .bin ..,_,_,_,h=>by cases h.1
 | .letS ..,_,_,_,h=>by cases h.1
 | .setS ..,_,_,_,h=>by cases h.1
 | .putS ..,_,_,_,h=>by cases h.1
 | .ifS ..,_,_,_,h=>by cases h.1
 | .whileS ..,_,_,_,h=>by cases h.1
 | .retS ..,_,_,_,h=>by cases h.1
 | .prtS ..,_,_,_,h=>by cases h.1
 | .doS ..,_,_,_,h=>by cases h.1
 | .block ..,_,_,_,h=>by cases h.1
variable {W0 W:World}{M:Nat->Prop}{L L1:List Asn}{X:Ev}{h h0:Eh}{s:Rn}{F:Ft}{nw:Nat}{f:Nat}
theorem Yk (C:Code X F nw) (I:Wk X F nw f){t:Tok}{x y:T}{kb:Nat}{u v:Value}{K':List UInt32->Value}{R0:Rs Rn} (hx:tV X.DA x [u]) (hy:tV X.DA y [v]) (hb:∀ W,X.DA.at_ W->Blk W kb (Wa t u v).toArray 230)
  (hwx:wf F nw s.slots.length x 0) (hwy:wf F nw s.slots.length y 0) (H:St W0 M W (rnA X h s::L)) (hg:Gd' nw s)
  (hR:R0=(go opE F f (.e x) s).bind λ v s=>if t.s=jn/\hd v=0 then .ok [0] s else if t.s=vz/\hd v≠0 then .ok [1] s else (go opE F f (.e y) s).bind λ u s=>.ok [opE t.s (hd v) (hd u)] s) (hne:R0≠ .out) :
  Calls prog 105 #[pt X.k,pt kb] W (ke X h W0 M L evK R0):=by
 refine aih X.k 0 kb 0 ⟨_,(hb _ (bm H)).cell' (i:=4) rfl,?_⟩;rw[hR]
 have hne1:go opE F f (.e x) s≠ .out:=λ e=>by rw[e] at hR;exact hne hR
 refine vd id (I.e H hwx hx hg hne1) (λ xv s1 w1 po co h1 H1=>?_) (λ _ _ h=>h);obtain⟨hg1,hs1, -, -, -⟩:=xx hg h1
 have hR:R0=if t.s=jn/\hd xv=0 then .ok [0] s1 else if t.s=vz/\hd xv≠0 then .ok [1] s1 else (go opE F f (.e y) s1).bind λ u s=>.ok [opE t.s (hd xv) (hd u)] s:=by rw[hR,h1];rfl
 rw[h1,ez,<- hR];have hc:∀ {w:World} {A:Asn} {L':List Asn} {s':Rn} {h':Eh},St W0 M w (rnA X h' s'::L')->w.cell? ⟨kb,3,none⟩=some (.string t.s):=λ H=>(hb _ (bm H)).cell' (i:=3) rfl
 have second:¬ (t.s=jn/\hd xv=0)->¬ (t.s=vz/\hd xv≠0)->∃ v0:Value,w1.cell? ⟨kb,0+5,none⟩=some v0/\Calls prog 71 #[pt X.k,v0] w1 λ e w'=>(∃ z:Int,e= .returned (.int .u32 z)/\∃ s3:ByteArray,w'.cell? ⟨kb,0+3,none⟩=some (.string s3)/\Sx.split (ByteArray.toList s3==ByteArray.toList (ByteArray.mk #[38,38]))
   (Calls prog 104 #[.bool (z !=0)] w' λ e W4=>∃ z:Int,e= .returned (.int .u32 z)/\ke X h W0 M L evK R0 (.returned (.int .u32 z)) W4)
   (Sx.split (ByteArray.toList s3==ByteArray.toList (ByteArray.mk #[124,124]))
   (Calls prog 104 #[.bool (z !=0)] w' λ e W4=>∃ z:Int,e= .returned (.int .u32 z)/\ke X h W0 M L evK R0 (.returned (.int .u32 z)) W4)
   (Sx.split (ByteArray.toList s3==ByteArray.toList (ByteArray.mk #[61,61]))
   (Calls prog 104 #[.bool (((hd xv).toNat:Int)==z)] w' λ e W4=>∃ z:Int,e= .returned (.int .u32 z)/\ke X h W0 M L evK R0 (.returned (.int .u32 z)) W4)
   (Sx.split (ByteArray.toList s3==ByteArray.toList (ByteArray.mk #[33,61]))
   (Calls prog 104 #[.bool (((hd xv).toNat:Int) !=z)] w' λ e W4=>∃ z:Int,e= .returned (.int .u32 z)/\ke X h W0 M L evK R0 (.returned (.int .u32 z)) W4)
   (Sx.split (ByteArray.toList s3==ByteArray.toList (ByteArray.mk #[62]))
   (Calls prog 120 #[.int .i64 31,.int .u32 z,.int .u32 ((hd xv).toNat:Int)] w' λ e W4=>∃ z:Int,e= .returned (.int .u32 z)/\ke X h W0 M L evK R0 (.returned (.int .u32 z)) W4)
   (Sx.split (ByteArray.toList s3==ByteArray.toList (ByteArray.mk #[60,61]))
   (Calls prog 120 #[.int .i64 31,.int .u32 z,.int .u32 ((hd xv).toNat:Int)] w' λ e W4=>∃ z:Int,e= .returned (.int .u32 z)/\∀ z9:Int,z9=IntKind.wrap .u32 (1 - z)->ke X h W0 M L evK R0 (.returned (.int .u32 z9)) W4)
   (Sx.split (ByteArray.toList s3==ByteArray.toList (ByteArray.mk #[62,61]))
   (Calls prog 120 #[.int .i64 31,.int .u32 ((hd xv).toNat:Int),.int .u32 z] w' λ e W4=>∃ z:Int,e= .returned (.int .u32 z)/\∀ z9:Int,z9=IntKind.wrap .u32 (1 - z)->ke X h W0 M L evK R0 (.returned (.int .u32 z9)) W4)
   (∃ s4:ByteArray,w'.cell? ⟨kb,0+3,none⟩=some (.string s4)/\Calls prog 121 #[.string s4] w' λ e W4=>∃ z1:Int,e= .returned (.int .i64 z1)/\Calls prog 120 #[.int .i64 z1,.int .u32 ((hd xv).toNat:Int),.int .u32 z] W4 λ e5 W5=>∃ z5:Int,e5= .returned (.int .u32 z5)/\ke X h W0 M L evK R0 (.returned (.int .u32 z5)) W5)))))))) ∨
    ∃ l,e= .panicked l/\ke X h W0 M L evK R0 (.panicked l) w':=by
  intro n1 n2;rw[if_neg n1,if_neg n2] at hR
  have hne2:go opE F f (.e y) s1≠ .out:=λ e=>by rw[e] at hR;exact hne hR
  refine⟨_,(hb _ (bm H1)).cell' (i:=5) rfl,?_⟩;refine vd (h0:=h) id (I.e H1 (by rw[hs1];exact hwy) hy hg1 hne2) (λ yv s2 w2 po2 co2 h2 H2=>?_) (λ l w' h=>by rw[hR];exact h);refine Yj (x:=hd xv) (y:=hd yv) rfl rfl (λ w hw=>hc (A:=emp) (H2.quiet hw)) λ w3 h3=>?_;rw[hR,h2,ez];exact⟨rfl,po2,co2,H2.quiet h3⟩
 refine⟨_,hc (A:=emp) H1,aq (λ e1=>?_) (λ e1=>?_)⟩
 ·refine Sx.so (λ hz=>?_) (λ hz=>?_)
  ·rw[u_z] at hz
   have hz:hd xv=0:=by simpa using hz
   rw[hR,if_pos ⟨e1,hz⟩];exact⟨rfl,po,co,H1⟩
  ·rw[u_z] at hz
   have hz:¬ hd xv=0:=by simpa using hz
   have e2:¬ t.s=vz:=λ e=>by
    have:(jn:ByteArray)=vz:=(show t.s=jn from e1).symm.trans e;exact absurd this (by decide)
   refine⟨_,hc (A:=emp) H1,aq (λ e3=>absurd e3 e2) (λ _=>?_)⟩;exact second (λ h=>hz h.2) (λ h=>e2 h.1)
 ·refine⟨_,hc (A:=emp) H1,aq (λ e2=>?_) (λ e2=>?_)⟩
  ·refine Sx.so (λ hz=>?_) (λ hz=>?_)
   ·rw[Qh] at hz
    have hz:¬ hd xv=0:=by simpa using hz
    rw[hR,if_neg (λ h=>e1 h.1),if_pos ⟨e2,hz⟩];exact⟨rfl,po,co,H1⟩
   ·rw[Qh] at hz
    have hz:hd xv=0:=by simpa using hz
    exact second (λ h=>e1 h.1) (λ h=>h.2 hz)
  ·exact second (λ h=>e1 h.1) (λ h=>e2 h.1)
end Go.Proofs.YtojogkljneonmaaGreatDoor
