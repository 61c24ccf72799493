/- A part of the walk. No condition. -/
import Derived.Test.YtmncepdbglaphaaGreatDoorLsqVc
import Derived.Test.YtmncepdbglaphaaGreatDoorRmIns
import Derived.Test.YtmncepdbglaphaaGreatDoorBits
set_option linter.unusedVariables false
set_option maxRecDepth 100000
namespace Go.Proofs.YtmncepdbglaphaaGreatDoor.lsq
open Go.RowKit Go.XHeap Go.Sx Go.Sep Go.Proofs.Tryz
abbrev No:Nat->Prop:=λ _=>False
theorem sa {w:wD}{e:TI}{size:Nat}{p:OA}{m c:Nat}{xs:LV} (h:Sl w e size (.slice p m c) m xs) (hm:0<m):m≤c/\c≤maxLen/\∃ g o,p=some ⟨g,o,none⟩/\∀ j v,xs[j]?=some v->w.cell? ⟨g,o+j,none⟩=some v:=by
 obtain⟨hl,h⟩:=h;rcases h with ⟨-,rfl⟩ | ⟨g,off,cap,cur,hv,hb,h1,h2,h3,h4⟩
 ·omega
 ·cases hv;refine⟨h1,h2,g,off,rfl,λ j v hj=>hb.cell' ?_⟩;have hjl:=(qD.1 hj).1;rw[<- h4] at hj;rw[<- qeB,<- hj,qa (by omega),qAB]
theorem Iv {w:wD}{e:TI}{size:Nat}{p:OA}{m c:Nat}{xs:LV} (h:Sl w e size (.slice p m c) m xs):m≤c:=by
 rcases h.2 with ⟨h,rfl⟩ | ⟨g,off,cap,cur,hv,hb,h1,h2,h3,h4⟩
 ·exact qQ _
 ·cases hv;exact h1
theorem abs {w:wD}{e:TI}{size:Nat}{g o m c:Nat}{xs:LV} (h:Sl w e size (.slice (some ⟨g,o,none⟩) m c) m xs){j:Nat} (hj:j<xs.length) (x:Value) :
  (∃ v,w.cell? ⟨g,o+j,none⟩=some v)/\w.frozen? ⟨g,o+j,none⟩=false/\Sep.Post (sl e size (.slice (some ⟨g,o,none⟩) m c) m xs) w (sl e size (.slice (some ⟨g,o,none⟩) m c) m (xs.set j x)) (w.setCell ⟨g,o+j,none⟩ x):=by
 obtain⟨hl,h⟩:=h;rcases h with ⟨h, -⟩ | ⟨g',off',cap',cur,hv,hb,h1,h2,h3,h4⟩
 ·simp at h
 ·simp at hv;obtain⟨⟨rfl,rfl⟩,rfl⟩:=hv;have hm:=qiB size h1;refine⟨⟨cur[o+j],hb.cell' (qh (by omega))⟩,hb.frozen _,⟨by simpa using hl,.inr ⟨g,o,c,_,rfl,hb.set (o+j) x,h1,h2,by simpa using h3,?_⟩⟩,(qH (λ k=>(Value.slice (some ⟨g,o,none⟩) m c).ownBlock=some k) w).setCell (p:=⟨g,o+j,none⟩) (.inl rfl) x,λ q e=>.inl e⟩;rw[qsB,List.drop_set,if_neg (by omega),Nat.add_sub_cancel_left,List.take_set,h4]
theorem Sl.pre {w:wD}{e size n c i:Nat}{p:OA}{xs:LV} (h:Sl w e size (.slice p n c) n xs) (hi:i≤n):Sl w e size (.slice p i c) i (xs.take (i * size)):=by
 obtain⟨hl,h⟩:=h;have hm:i * size≤n * size:=qiB _ hi;refine⟨by rw[qq];omega,?_⟩;rcases h with ⟨h0,h⟩ | ⟨g,off,cap,cur,hv,hb,h1,h2,h3,h4⟩
 ·cases h0;exact .inl ⟨by rw[show i=0 by omega],by omega⟩
 ·cases hv;refine .inr ⟨g,off,c,cur,rfl,hb,by omega,h2,h3,?_⟩;rw[<- h4,List.take_take,qPB hm]
theorem adr_eq {p:OA}{g o:Nat}{f:Nat->Nat->Prop} (e:p=some ⟨g,o,none⟩) (h:f g o):Sx.adr p f:=by subst e;exact h
def blkOf (p:OA) (k:Nat):Prop:=∃ a,p=some a/\a.block=k
theorem own_blk {p:OA}{n c k:Nat}:(Value.slice p n c).ownBlock=some k↔blkOf p k:=by
 cases p with
 | none=>exact⟨λ h=>by(simp [Value.ownBlock] at h),λ ⟨a,h,_⟩=>by cases h⟩
 | some a=>exact⟨λ h=>⟨a,rfl,by simpa [Value.ownBlock] using h⟩,λ ⟨a',h,e⟩=>by cases h;simpa [Value.ownBlock] using e⟩
theorem oa {w:wD}:∀ {L L':List Asn},L'.Sublist L->(∀ q,owns L' q->owns L q)/\(Sep.here L w->Sep.here L' w)
 | _,_,.slnil=>⟨λ _ h=>h,id⟩
 | _,_,.cons a h=>⟨λ q hq=>.inr ((oa (w:=w) h).1 q hq),λ hh=>(oa h).2 hh.2.2⟩
 | _,_,.cons_cons a h=>⟨λ q hq=>hq.imp id ((oa (w:=w) h).1 q),λ hh=>⟨hh.1,λ q hq e=>hh.2.1 q hq ((oa (w:=w) h).1 q e),(oa h).2 hh.2.2⟩⟩
structure En where
 seq:Int
 store:Bool
 placed:Bool
 valued:Bool
 addr:Nat
 size:Nat
 data:Nat
 loaded:Bool
 f0:Int
 f1:Int
 f2:Int
 f3:Int
 retired:Bool
deriving Inhabited
def En.cells (e:En):AV:=#[.int .i64 e.seq,.bool e.store,.bool e.placed,.bool e.valued,.int .u32 e.addr,.int .i64 e.size,.int .u32 e.data,.bool e.loaded,.int .i64 e.f0,.int .i64 e.f1,.int .i64 e.f2,.int .i64 e.f3,.bool e.retired]
def En.fr (e:En):Nat->Int
 | 0=>e.f0
 | 1=>e.f1
 | 2=>e.f2
 | _=>e.f3
structure En.Ok (e:En):Prop where
 addr:e.addr<4294967296
 data:e.data<4294967296
 size:e.size=0∨e.size=1∨e.size=2∨e.size=4
 fits:e.addr+e.size≤4294967296
 siz:e.placed=true->e.size≠0
 free:e.placed=false->e.addr=0/\e.size=0
 load:e.loaded=true->e.placed=true/\e.store=false
 ret:e.retired=true->e.store=true/\e.placed=true/\e.valued=true
 pos:0≤e.seq
abbrev Ens:=List (Nat×En)
def ptrs (es:Ens):LV:=es.map λ x=>pZ x.1 0
def vm (x:Nat×En):Asn:=blk x.1 x.2.cells 198
def df (es:Ens):Asn:=all (es.map vm)
structure PQ where
 size:Nat
 p:OA
 cap:Nat
 es:Ens
def PQ.root (q:PQ):AV:=#[.int .i64 q.size,.slice q.p q.es.length q.cap]
def PQ.pieces (b:Nat) (q:PQ):List Asn:=[blk b q.root 128,sl 199 1 (.slice q.p q.es.length q.cap) q.es.length (ptrs q.es),df q.es]
def qA (b:Nat) (q:PQ):Asn:=all (q.pieces b)
variable {W w':wD}{b:Nat}{q v:PQ}
theorem fz (h:(qA b q).at_ W):St W (qA b q).own W (q.pieces b++[]):=(St.begin h).open_
theorem Ab {L:List Asn} (H:St W (qA b q).own w' (v.pieces b++L)):Sep.Post (qA b q) W (qA b v) w':=(St.shut H).post 0 rfl
theorem Ed (h:(qA b q).at_ W) (hh:ba W w'):Sep.Post (qA b q) W (qA b q) w':=⟨(qA b q).keep h hh (λ _ _ e=>e),hh.mono (λ _ _ e=>e.elim),λ q hq=>.inl hq⟩
theorem jn (es:Ens):(ptrs es).length=es.length:=by simp [ptrs]
theorem bf {es:Ens} (h:(df es).at_ W){k:Nat}{x:Nat×En} (hk:es[k]?=some x):Blk W x.1 x.2.cells 198:=by
 have:(es.map vm)[k]?=some (vm x):=by simp [hk]
 exact here.nth k h this
theorem ptr_at {es:Ens}{p:OA}{c n:Nat} (h:Sl W 199 1 (.slice p n c) n (ptrs es)){k:Nat}{x:Nat×En} (hk:es[k]?=some x):∃ g o,p=some ⟨g,o,none⟩/\W.cell? ⟨g,o+((k:Nat):Int).toNat * 1,none⟩=some (pZ x.1 0):=by
 have hl:=h.1;rw[jn] at hl;have hkl:=(qD.1 hk).1;obtain⟨-, -,g,o,hp,hc⟩:=sa h (by omega);refine⟨g,o,hp,?_⟩;rw[ix1];exact hc k _ (by simp [ptrs,hk])
theorem abt {es:Ens} (h:(df es).at_ W){k:Nat}{x:Nat×En} (hk:es[k]?=some x){i:Nat} (hi:i<x.2.cells.size){v:Value}{e':En} (he:e'.cells=x.2.cells.setIfInBounds i v) :
  (∃ u,W.cell? ⟨x.1,i,none⟩=some u)/\W.frozen? ⟨x.1,i,none⟩=false/\Sep.Post (df es) W (df (es.set k (x.1,e'))) (W.setCell ⟨x.1,i,none⟩ v):=by
 have hb:=bf h hk
 have hkm:(es.map vm)[k]?=some (vm x):=by simp [hk]
 have hm:(es.map vm).set k (vm (x.1,e'))=(es.set k (x.1,e')).map vm:=by rw[qtB]
 have ht:XTouch (vm x).own W (W.setCell ⟨x.1,i,none⟩ v):=(qH (λ k=>k=x.1) W).setCell (p:=⟨x.1,i,none⟩) (.inl rfl) v;refine⟨⟨_,hb.cell' (qh hi)⟩,hb.frozen _,?_,ht.mono (λ q _ e=>owns.nth k hkm e),?_⟩
 ·show Sep.here ((es.set k (x.1,e')).map vm) _;rw[<- hm];refine here.upd (A':=vm (x.1,e')) ht ?_ (λ q e=>.inl e) k h hkm;show Blk _ x.1 e'.cells 198;rw[he];exact hb.set i v
 ·intro q hq;have hq:owns ((es.set k (x.1,e')).map vm) q:=hq;rw[<- hm] at hq;exact .inl ((ny k hq).elim (λ e=>owns.nth k hkm e) id)
theorem Vk {es:Ens} (h:(df es).at_ W){k:Nat}{x:Nat×En} (hk:es[k]?=some x){o:Nat}{vs:LV} (hi:o+vs.length≤x.2.cells.size){e':En} (he:e'.cells=bv x.2.cells o vs) :
  (∀ j:Nat,j<vs.length->(∃ u,W.cell? ⟨x.1,o+j,none⟩=some u)/\W.frozen? ⟨x.1,o+j,none⟩=false)/\Sep.Post (df es) W (df (es.set k (x.1,e'))) (W.setCells x.1 o vs):=by
 have hb:=bf h hk
 have hkm:(es.map vm)[k]?=some (vm x):=by simp [hk]
 have hm:(es.map vm).set k (vm (x.1,e'))=(es.set k (x.1,e')).map vm:=by rw[qtB]
 have ht:XTouch (vm x).own W (W.setCells x.1 o vs):=bh vs W o;refine⟨λ j hj=>⟨⟨_,hb.cell' (qh (by omega))⟩,hb.frozen _⟩,?_,ht.mono (λ q _ e=>owns.nth k hkm e),?_⟩
 ·show Sep.here ((es.set k (x.1,e')).map vm) _;rw[<- hm];refine here.upd (A':=vm (x.1,e')) ht ?_ (λ q e=>.inl e) k h hkm;show Blk _ x.1 e'.cells 198;rw[he];exact cv vs W _ o hb hi
 ·intro q hq;have hq:owns ((es.set k (x.1,e')).map vm) q:=hq;rw[<- hm] at hq;exact .inl ((ny k hq).elim (λ e=>owns.nth k hkm e) id)
theorem Iw {es es':Ens} (h:es'.Sublist es):(∀ q,(df es').own q->(df es).own q)/\((df es).at_ W->(df es').at_ W):=oa (h.map vm)
def fu (p:En->Bool) (es:Ens):Option Nat:=es.findIdx? λ x=>p x.2
def abu:Option Nat->Int
 | some k=>(k:Nat)
 | none=> -1
theorem Bq {p:En->Bool}{es:Ens}{j:Nat}{x:Nat×En} (hx:es[j]?=some x) (hp:p x.2=true) (hnot:∀ (i:Nat) (y:Nat×En),i<j->es[i]?=some y->p y.2=false):fu p es=some j:=by
 unfold fu;obtain⟨hj,hjx⟩:=qD.1 hx;rw[qv];refine⟨hj,by rw[hjx];exact hp,λ i hi=>?_⟩;rw[hnot i _ hi (qC (by omega))];decide
theorem vv {p:En->Bool}{es:Ens} (hnot:∀ (i:Nat) (y:Nat×En),es[i]?=some y->p y.2=false):fu p es=none:=by
 unfold fu;rw[qxB];intro x hx;obtain⟨i,hi,rfl⟩:=qGC hx;exact hnot i _ (qC hi)
theorem pos_some {p:En->Bool}{es:Ens}{k:Nat} (h:fu p es=some k):∃ x,es[k]?=some x/\p x.2=true/\∀ (i:Nat) (y:Nat×En),i<k->es[i]?=some y->p y.2=false:=by
 unfold fu at h;rw[qv] at h;obtain⟨hk,hp,hn⟩:=h;refine⟨_,qC hk,hp,λ i y hi hy=>?_⟩;have:=hn i hi;obtain⟨hil,rfl⟩:=qD.1 hy;simpa using this
theorem ajo {A:wD}{es:Ens}{p:OA}{n c:Nat} (hs:Sl A 199 1 (.slice p n c) n (ptrs es)) (hn:n≤32) (f:En->Bool)  (hcl:∀ (i:Nat) (x:Nat×En) (B:wD),es[i]?=some x->ba A B->Calls prog 142 #[pZ x.1 0] B λ e w=>e=eZ (.bool (f x.2))/\ba B w) :
  Calls prog 141 #[.slice p n c,.func (.func 142) #[] #[]] A λ e w=>e=eZ (.int .i64 (abu (fu f es)))/\ba A w:=by
 have hl:es.length=n:=by have:=hs.1;rw[jn] at this;omega
 refine afz p n c  ⟨λ i B=>∃ j:Nat,i=j/\j≤n/\ba A B/\∀ (i:Nat) (y:Nat×En),i<j->es[i]?=some y->f y.2=false,λ i _=>n - i.toNat,⟨0,rfl,qQ _,qH _ _,λ i y hi=>by omega⟩,λ _=>?_⟩;rintro i B ⟨j,rfl,hj,hh,hnot⟩;refine aa (λ q=>?_) (λ q=>?_)
 ·have q:=qB q
  have hjl:j<es.length:=by omega
  have hx:=qC hjl;obtain⟨g,o,hp,hc⟩:=ptr_at (hs.keep hh (λ _ _ e=>e)) hx;refine⟨⟨by omega,q⟩,adr_eq hp ⟨_,hc,(hcl j _ B hx hh).mono ?_⟩⟩;rintro e C ⟨rfl,hh2⟩;have hh3:ba A C:=hh.trans hh2 (λ _ _ e=>e);refine⟨_,rfl,aa (λ q1=>?_) (λ q1=>?_)⟩
  ·rw[Bq hx q1 hnot];exact⟨rfl,hh3⟩
  ·rintro z rfl;rw[w64 (by omega) (by omega)];refine⟨⟨j+1,by omega,by omega,hh3,λ i y hi hy=>?_⟩,by show n - ((j:Int)+1).toNat<n - (j:Int).toNat;omega⟩;by_cases e:i=j
   ·subst e;rw[hx] at hy;cases hy;exact q1
   ·exact hnot i y (by omega) hy
 ·have q:=qE q;rw[vv (λ i y hy=>hnot i y (by have:=(qD.1 hy).1;omega) hy)];exact⟨rfl,hh⟩
theorem ajp {A:wD}{es:Ens}{p:OA}{n c:Nat} (hs:Sl A 199 1 (.slice p n c) n (ptrs es)) (hn:n≤32) (f:En->Bool)  (hcl:∀ (i:Nat) (x:Nat×En) (B:wD),es[i]?=some x->ba A B->Calls prog 209 #[pZ x.1 0] B λ e w=>e=eZ (.bool (f x.2))/\ba B w) :
  Calls prog 141 #[.slice p n c,.func (.func 209) #[] #[]] A λ e w=>e=eZ (.int .i64 (abu (fu f es)))/\ba A w:=by
 have hl:es.length=n:=by have:=hs.1;rw[jn] at this;omega
 refine aga p n c  ⟨λ i B=>∃ j:Nat,i=j/\j≤n/\ba A B/\∀ (i:Nat) (y:Nat×En),i<j->es[i]?=some y->f y.2=false,λ i _=>n - i.toNat,⟨0,rfl,qQ _,qH _ _,λ i y hi=>by omega⟩,λ _=>?_⟩;rintro i B ⟨j,rfl,hj,hh,hnot⟩;refine aa (λ q=>?_) (λ q=>?_)
 ·have q:=qB q
  have hjl:j<es.length:=by omega
  have hx:=qC hjl;obtain⟨g,o,hp,hc⟩:=ptr_at (hs.keep hh (λ _ _ e=>e)) hx;refine⟨⟨by omega,q⟩,adr_eq hp ⟨_,hc,(hcl j _ B hx hh).mono ?_⟩⟩;rintro e C ⟨rfl,hh2⟩;have hh3:ba A C:=hh.trans hh2 (λ _ _ e=>e);refine⟨_,rfl,aa (λ q1=>?_) (λ q1=>?_)⟩
  ·rw[Bq hx q1 hnot];exact⟨rfl,hh3⟩
  ·rintro z rfl;rw[w64 (by omega) (by omega)];refine⟨⟨j+1,by omega,by omega,hh3,λ i y hi hy=>?_⟩,by show n - ((j:Int)+1).toNat<n - (j:Int).toNat;omega⟩;by_cases e:i=j
   ·subst e;rw[hx] at hy;cases hy;exact q1
   ·exact hnot i y (by omega) hy
 ·have q:=qE q;rw[vv (λ i y hy=>hnot i y (by have:=(qD.1 hy).1;omega) hy)];exact⟨rfl,hh⟩
theorem ajq {A:wD}{es:Ens}{p:OA}{n c:Nat} (hs:Sl A 199 1 (.slice p n c) n (ptrs es)) (hn:n≤32) (f:En->Bool) (kb:Nat) (hcl:∀ (i:Nat) (x:Nat×En) (B:wD),es[i]?=some x->ba A B->Calls prog 206 #[pZ x.1 0,pZ kb 0] B λ e w=>e=eZ (.bool (f x.2))/\ba B w) :
  Calls prog 141 #[.slice p n c,.func (.func 206) #[] #[pZ kb 0]] A λ e w=>e=eZ (.int .i64 (abu (fu f es)))/\ba A w:=by
 have hl:es.length=n:=by have:=hs.1;rw[jn] at this;omega
 refine agb p n c kb ⟨λ i B=>∃ j:Nat,i=j/\j≤n/\ba A B/\∀ (i:Nat) (y:Nat×En),i<j->es[i]?=some y->f y.2=false,λ i _=>n - i.toNat,⟨0,rfl,qQ _,qH _ _,λ i y hi=>by omega⟩,λ _=>?_⟩;rintro i B ⟨j,rfl,hj,hh,hnot⟩;refine aa (λ q=>?_) (λ q=>?_)
 ·have q:=qB q
  have hjl:j<es.length:=by omega
  have hx:=qC hjl;obtain⟨g,o,hp,hc⟩:=ptr_at (hs.keep hh (λ _ _ e=>e)) hx;refine⟨⟨by omega,q⟩,adr_eq hp ⟨_,hc,(hcl j _ B hx hh).mono ?_⟩⟩;rintro e C ⟨rfl,hh2⟩;have hh3:ba A C:=hh.trans hh2 (λ _ _ e=>e);refine⟨_,rfl,aa (λ q1=>?_) (λ q1=>?_)⟩
  ·rw[Bq hx q1 hnot];exact⟨rfl,hh3⟩
  ·rintro z rfl;rw[w64 (by omega) (by omega)];refine⟨⟨j+1,by omega,by omega,hh3,λ i y hi hy=>?_⟩,by show n - ((j:Int)+1).toNat<n - (j:Int).toNat;omega⟩;by_cases e:i=j
   ·subst e;rw[hx] at hy;cases hy;exact q1
   ·exact hnot i y (by omega) hy
 ·have q:=qE q;rw[vv (λ i y hy=>hnot i y (by have:=(qD.1 hy).1;omega) hy)];exact⟨rfl,hh⟩
theorem ajr {A:wD}{es:Ens}{p:OA}{n c:Nat} (hs:Sl A 199 1 (.slice p n c) n (ptrs es)) (hn:n≤32) (f:En->Bool) (kb:Nat) (hcl:∀ (i:Nat) (x:Nat×En) (B:wD),es[i]?=some x->ba A B->Calls prog 134 #[pZ x.1 0,pZ kb 0] B λ e w=>e=eZ (.bool (f x.2))/\ba B w) :
  Calls prog 141 #[.slice p n c,.func (.func 134) #[] #[pZ kb 0]] A λ e w=>e=eZ (.int .i64 (abu (fu f es)))/\ba A w:=by
 have hl:es.length=n:=by have:=hs.1;rw[jn] at this;omega
 refine agc p n c kb ⟨λ i B=>∃ j:Nat,i=j/\j≤n/\ba A B/\∀ (i:Nat) (y:Nat×En),i<j->es[i]?=some y->f y.2=false,λ i _=>n - i.toNat,⟨0,rfl,qQ _,qH _ _,λ i y hi=>by omega⟩,λ _=>?_⟩;rintro i B ⟨j,rfl,hj,hh,hnot⟩;refine aa (λ q=>?_) (λ q=>?_)
 ·have q:=qB q
  have hjl:j<es.length:=by omega
  have hx:=qC hjl;obtain⟨g,o,hp,hc⟩:=ptr_at (hs.keep hh (λ _ _ e=>e)) hx;refine⟨⟨by omega,q⟩,adr_eq hp ⟨_,hc,(hcl j _ B hx hh).mono ?_⟩⟩;rintro e C ⟨rfl,hh2⟩;have hh3:ba A C:=hh.trans hh2 (λ _ _ e=>e);refine⟨_,rfl,aa (λ q1=>?_) (λ q1=>?_)⟩
  ·rw[Bq hx q1 hnot];exact⟨rfl,hh3⟩
  ·rintro z rfl;rw[w64 (by omega) (by omega)];refine⟨⟨j+1,by omega,by omega,hh3,λ i y hi hy=>?_⟩,by show n - ((j:Int)+1).toNat<n - (j:Int).toNat;omega⟩;by_cases e:i=j
   ·subst e;rw[hx] at hy;cases hy;exact q1
   ·exact hnot i y (by omega) hy
 ·have q:=qE q;rw[vv (λ i y hy=>hnot i y (by have:=(qD.1 hy).1;omega) hy)];exact⟨rfl,hh⟩
def findP (s:Int) (e:En):Bool:=e.seq==s&& !e.retired
theorem Pm {A:wD}{x:Nat×En}{kb:Nat}{s:Int}{t:TI} (hb:Blk A x.1 x.2.cells 198) (hs:Blk A kb #[.int .i64 s] t) :
  Calls prog 206 #[pZ x.1 0,pZ kb 0] A λ e w=>e=eZ (.bool (findP s x.2))/\ba A w:=by
 refine ajk x.1 0 kb 0 ⟨x.2.seq,hb.cell' rfl,s,hs.cell' rfl,aa (λ q=>⟨x.2.retired,hb.cell' rfl,λ w n hw=>?_⟩) (λ q w n hw=>?_)⟩
 ·subst hw;refine⟨?_,(qH _ _).drewN n⟩;unfold findP;rw[q,qoB]
 ·subst hw;refine⟨?_,(qH _ _).drewN n⟩;unfold findP;rw[q,qbB]
theorem find_any (h:(qA b q).at_ W) (hn:q.es.length≤32) (s:Int):Calls prog 159 #[pZ b 0,.int .i64 s] W λ e w=>e=eZ (.int .i64 (abu (fu (findP s) q.es)))/\ba W w:=by
 refine ajd b 0 s ((St.nil W).al λ k A H=>?_);have R:=fz ((qA b q).keep h H.touch (λ _ _ e=>e));refine⟨_,_,_,R.ld 0 rfl rfl,(ajq (R.nth 1 rfl) hn (findP s) k λ i x B hx hh=>?_).mono ?_⟩
 ·have hB:=(bf (R.nth 2 rfl) hx).keep hh (λ e=>e);exact Pm hB ((H.blk 0 rfl).keep hh (λ e=>e))
 ·rintro e w ⟨rfl,hh⟩;exact⟨_,rfl,rfl,(H.quiet hh).touch⟩
def loadP (s:Int) (es:Ens):Option Nat:=match fu (findP s) es with
 | some k=>match es[k]? with
  | some x=>if x.2.store|| !x.2.placed then none else some k
  | none=>none
 | none=>none
theorem load_any (h:(qA b q).at_ W) (hn:q.es.length≤32) (s:Int):Calls prog 207 #[pZ b 0,.int .i64 s] W λ e w=>e=eZ (.int .i64 (abu (loadP s q.es)))/\ba W w:=by
 refine ajf b 0 s ((find_any h hn s).mono ?_);rintro e A ⟨rfl,hh⟩;have R:=fz ((qA b q).keep h hh (λ _ _ e=>e))
 cases hp:fu (findP s) q.es with
 | none =>
  have hl:loadP s q.es=none:=by unfold loadP;rw[hp]
  rw[hl];exact⟨-1,rfl,aa (λ q=>by simp at q) (λ _=>⟨rfl,hh⟩)⟩
 | some k =>
  obtain⟨x,hx, -, -⟩:=pos_some hp;have hkl:=(qD.1 hx).1;obtain⟨g,o,hpp,hc⟩:=ptr_at (R.nth 1 rfl) hx;have hB:=bf (R.nth 2 rfl) hx
  have hl:loadP s q.es=if x.2.store|| !x.2.placed then none else some k:=by unfold loadP;rw[hp];show(match q.es[k]? with | some x=>_ | none=>_)=_;rw[hx]
  refine⟨((k:Nat):Int),rfl,aa (λ _=>?_) (λ q=>by simp at q)⟩;refine⟨_,_,_,R.ld 0 rfl rfl,⟨by omega,by omega⟩,adr_eq hpp ⟨_,hc,ptr_some ⟨x.2.store,by rw[ac];exact hB.cell' rfl,aa (λ q1=>?_) (λ q1=>?_)⟩⟩⟩
  ·rw[hl,q1];exact⟨rfl,hh⟩
  ·refine⟨_,_,_,R.ld 0 rfl rfl,⟨by omega,by omega⟩,adr_eq hpp ⟨_,hc,ptr_some ⟨x.2.placed,by rw[ac];exact hB.cell' rfl,aa (λ q2=>?_) (λ q2=>?_)⟩⟩⟩
   ·rw[hl,q1]
    rw[q2];exact⟨rfl,hh⟩
   ·rw[hl,q1]
    rw[q2];exact⟨rfl,hh⟩
theorem qlen_any (h:(qA b q).at_ W):Calls prog 116 #[pZ b 0] W λ e w=>e=eZ (.int .i64 q.es.length)/\w=W :=
 aiw b 0 ⟨_,_,_,(fz h).ld 0 rfl rfl,rfl,rfl⟩
def errN (n:Int):Value:=.iface 60 (.int .i64 n)
theorem qnew_good (W:wD) (S:Nat) (h:1≤S/\S≤32):Calls prog 24 #[.int .i64 S] W λ e w=>∃ k:Nat,e=eY #[pZ k 0,.nilIface]/\Sep.Post emp W (qA k ⟨S,none,0,[]⟩) w:=by
 refine anm S (aa (λ q=>absurd (qB q) (by omega)) (λ _=>aa (λ q=>absurd (qB q) (by omega)) (λ _=>?_)));rintro vs rfl;refine(St.nil W).al λ k A H=>⟨k,rfl,?_⟩;have H:=H.add (A:=sl 199 1 (.slice none 0 0) 0 []) ⟨Sl.nil _ _ _,qH _ _,λ q hq=>by cases hq⟩;have H:=H.add (A:=df []) ⟨trivial,qH _ _,λ q hq=>hq.elim⟩;have H:St W No A ((PQ.mk S none 0 []).pieces k++[]):=H;exact(St.shut H).new 0 rfl
theorem _root_.Go.Sep.St.ent {w0 w:wD}{M:Nat->Prop}{L:List Asn} (H:St w0 M w L) (j:Nat){es:Ens} (hj:L[j]?=some (df es)){k:Nat}{x:Nat×En} (hk:es[k]?=some x){i:Nat}{v:Value} (e':En) (hi:i<13) (he:e'.cells=x.2.cells.setIfInBounds i v){φ:wD->Prop}
  (hq:∀ w',St w0 M w' (L.set j (df (es.set k (x.1,e'))))->φ w'):(∃ u,w.cell? ⟨x.1,i,none⟩=some u)/\w.frozen? ⟨x.1,i,none⟩=false/\∀ w',w'=w.setCell ⟨x.1,i,none⟩ v->φ w':=by
 obtain⟨h1,h2,h3⟩:=abt (H.nth j hj) hk (i:=i) (v:=v) (by show i<13;exact hi) he;refine⟨h1,h2,?_⟩;rintro w' rfl;exact hq _ (H.upd j hj h3)
theorem Vl (es:Ens){k:Nat}{x:Nat×En} (hk:es[k]?=some x) (e':En):ptrs (es.set k (x.1,e'))=ptrs es:=by
 unfold ptrs;rw[qtB];apply qEB;intro i;rw[qn];split
 ·rename_i e;subst e;have hkl:=(qD.1 hk).1;rw[if_pos (by simpa using hkl)];simp [hk]
 ·rfl
theorem vw {w:wD}{k:Nat}{x:Nat×En}{e':En}{L:List Asn} (hk:q.es[k]?=some x)
  (H:St W (qA b q).own w ([blk b q.root 128,sl 199 1 (.slice q.p q.es.length q.cap) q.es.length (ptrs q.es),df (q.es.set k (x.1,e'))]++L)):Sep.Post (qA b q) W (qA b { q with es:=q.es.set k (x.1,e') }) w:=by
 refine Ab (v:={ q with es:=q.es.set k (x.1,e') }) (L:=L) ?_;unfold PQ.pieces PQ.root;rw[Vl _ hk,qJ];exact H
def newEn (s:Int) (st:Bool):En:=⟨s,st,false,false,0,0,0,false,0,0,0,0,false⟩
def lateE (L:List En) (s:Int):Bool:=match L.getLast? with
 | some e=>decide (s≤e.seq)
 | none=>false
def enterE (S:Nat) (L:List En) (s:Int):Option Int:=if s<0∨lateE L s=true then some 5 else if L.length=S then some 4 else none
def ens (q:PQ):List En:=q.es.map (·.2)
def EnterPost (W:wD) (b:Nat) (q:PQ) (s:Int) (st:Bool) (e:Ending) (w:wD):Prop:=match enterE q.size (ens q) s with
 | some n=>e=eZ (errN n)/\Sep.Post (qA b q) W (qA b q) w
 | none=>e=eZ .nilIface/\∃ (k:Nat) (p:OA) (c:Nat),Sep.Post (qA b q) W (qA b { q with p:=p,cap:=c,es:=q.es++[(k,newEn s st)] }) w
theorem enter_any (h:(qA b q).at_ W) (hn:q.es.length≤32) (s:Int) (st:Bool):Calls prog 121 #[pZ b 0,.int .i64 s,.bool st] W (EnterPost W b q s st):=by
 have H:=fz h
 have hlen:(ens q).length=q.es.length:=by simp [ens]
 have bad:∀ n,enterE q.size (ens q) s=some n->EnterPost W b q s st (eZ (errN n)) W:=λ n e=>by unfold EnterPost;rw[e];exact⟨rfl,Ed h (qH _ _)⟩
 have fin:¬ (s<0∨lateE (ens q) s=true)->∃ z3:Int,W.cell? ⟨b,0,none⟩=some (.int .i64 z3)/\Sx.split ((q.es.length:Int)==z3) (EnterPost W b q s st (eZ (errN 4)) W)
   (∃ p4 k7 k8,W.cell? ⟨b,0+1,none⟩=some (.slice p4 k7 k8)/\∀ vs:AV,vs=#[.int .i64 s,.bool st,.bool false,.bool false,.int .u32 0,.int .i64 0,.int .u32 0,.bool false,.int .i64 0,.int .i64 0,.int .i64 0,.int .i64 0,.bool false] ->
    ∀ (k9:Nat) (W2:wD),k9=W.heap.size->W2=W.alloc (.cells (Value.agg vs).cells 198)->∀ (k10:Nat) (W3:wD),k10=W2.heap.size->W3=W2.alloc (.cells #[pZ k9 0] 199) ->
     ∃ l l2,Sl W3 199 1 (.slice p4 k7 k8) k7 l/\((1=0/\(some ⟨k10,0,none⟩:OA)=none)∨∃ a:Addr,some ⟨k10,0,none⟩=some a/\∀ (j:Nat) (u:Value),l2[j]?=some u->W3.cell? (a.add j)=some u)/\l2.length=1/\(∀ u ∈ l2,u.oneCell'=true)/\k7+1≤maxLen/\(k7+1) * 8≤140737488355328 /\
      ∀ (p5:OA) (k12:Nat) (W4:wD),Sl W4 199 1 (.slice p5 (k7+1) k12) (k7+1) (l++l2)->XTouch (λ b=>(Value.slice p4 k7 k8).ownBlock=some b) W3 W4->(∀ b,(Value.slice p5 (k7+1) k12).ownBlock=some b->(Value.slice p4 k7 k8).ownBlock=some b∨W3.heap.size≤b)->Sl W4 199 1 (.slice p4 k7 k8) k7 l->((p5=p4/\k12=k8)∨((NilP p4∨k8<k7+1)/\∀ b,(Value.slice p5 (k7+1) k12).ownBlock=some b->W3.heap.size≤b)) ->
       (∃ u,W4.cell? ⟨b,0+1,none⟩=some u)/\W4.frozen? ⟨b,0+1,none⟩=false/\∀ W5:wD,W5=W4.setCell ⟨b,0+1,none⟩ (.slice p5 (k7+1) k12)->EnterPost W b q s st (eZ .nilIface) W5):=by
  intro hno;refine⟨_,H.ld 0 rfl rfl,aa (λ q1=>?_) (λ q1=>?_)⟩
  ·have q1:q.es.length=q.size:=by
    have:((q.es.length:Nat):Int)=(q.size:Nat):=by simpa using q1
    omega
   exact bad 4 (by unfold enterE;rw[if_neg hno,if_pos (by rw[hlen];exact q1)])
  ·have q1:¬ q.es.length=q.size:=λ e=>by rw[e] at q1;simp at q1
   refine⟨_,_,_,H.ld 0 rfl rfl,?_⟩;rintro vs rfl;refine H.al λ k9 A H=>H.al λ k10 B H=>H.app 1 rfl [pZ k9 0] (.inr ⟨_,rfl,λ j u hj=>H.cells 4 rfl j u (by simpa using hj)⟩) rfl (by intro u hu;simp at hu;subst hu;rfl) (by have:maxLen=2 ^ 63 - 1:=rfl;omega) (by omega) λ p2 c2 C H=>?_;refine H.st 0 rfl (by show 1<2;omega) λ D H=>?_;have H:=H.pick [2,3,0,1];have H:=(St.push H).pick [1,2,0];unfold EnterPost;rw[show enterE q.size (ens q) s=none by unfold enterE;rw[if_neg hno,if_neg (by rw[hlen];exact q1)]];refine⟨rfl,k9,p2,c2,Ab (L:=[]) ?_⟩;unfold PQ.pieces PQ.root;show St W (qA b q).own D ([blk b #[.int .i64 q.size,.slice p2 (q.es++[(k9,newEn s st)]).length c2] 128,sl 199 1 (.slice p2 (q.es++[(k9,newEn s st)]).length c2) (q.es++[(k9,newEn s st)]).length (ptrs (q.es++[(k9,newEn s st)])),all ((q.es++[(k9,newEn s st)]).map vm)]++[]);rw[qP,qV,show ptrs (q.es++[(k9,newEn s st)])=ptrs q.es++[pZ k9 0] by unfold ptrs;rw[qV];rfl];exact H
 refine aix b 0 s st ⟨_,_,_,H.ld 0 rfl rfl,aa (λ q0=>bad 5 (by unfold enterE;rw[if_pos (.inl (qB q0))])) (λ q0=>aa (λ q1=>?_) (λ q1=>?_))⟩
 ·have q0:=qE q0;have q1:=qB q1
  have hpos:0<q.es.length:=by omega
  refine⟨_,_,_,H.ld 0 rfl rfl,?_⟩;rintro z rfl;rw[w64 (by omega) (by omega),show((q.es.length:Nat):Int) - 1=((q.es.length - 1:Nat):Int) by omega];have hx:=qC (show q.es.length - 1<q.es.length by omega);obtain⟨g,o,hp,hc⟩:=ptr_at (H.nth 1 rfl) hx;have hB:=bf (H.nth 2 rfl) hx
  have hlast:(ens q).getLast?=some (q.es[q.es.length - 1]).2:=by
   rw[List.getLast?_eq_getElem?,hlen];simp [ens,hx]
  refine⟨⟨by omega,by omega⟩,adr_eq hp ⟨_,hc,ptr_some ⟨_,by rw[ac];exact hB.cell' rfl,aa (λ q2=>?_) (λ q2=>?_)⟩⟩⟩
  ·exact bad 5 (by unfold enterE;rw[if_pos (.inr (by unfold lateE;rw[hlast];exact q2))])
  ·have q2:=qE q2;exact fin (by unfold lateE;rw[hlast];rintro(h | h);exact q0 h;exact q2 (qB h))
 ·have q0:=qE q0;have q1:=qE q1;have:ens q=[]:=qHB (by rw[hlen];omega);exact fin (by unfold lateE;rw[this];rintro(h | h);exact q0 h;cases h)
def valueK (s:Int) (es:Ens):Option Nat:=match fu (findP s) es with
 | some k=>match es[k]? with
  | some x=>if !x.2.store||x.2.valued then none else some k
  | none=>none
 | none=>none
def ValuePost (W:wD) (b:Nat) (q:PQ) (s:Int) (d:Nat) (e:Ending) (w:wD):Prop:=match valueK s q.es with
 | none=>e=eZ (errN 7)/\Sep.Post (qA b q) W (qA b q) w
 | some k=>e=eZ .nilIface/\∃ x,q.es[k]?=some x/\Sep.Post (qA b q) W (qA b { q with es:=q.es.set k (x.1,{ x.2 with valued:=true,data:=d }) }) w
theorem value_any (h:(qA b q).at_ W) (hn:q.es.length≤32) (s:Int) (d:Nat):Calls prog 111 #[pZ b 0,.int .i64 s,.int .u32 d] W (ValuePost W b q s d):=by
 refine aiy b 0 s d ((find_any h hn s).mono ?_);rintro e A ⟨rfl,hh⟩
 have bad:valueK s q.es=none->ValuePost W b q s d (eZ (errN 7)) A:=λ e=>by unfold ValuePost;rw[e];exact⟨rfl,Ed h hh⟩
 have H:St W (qA b q).own A (q.pieces b++[]):=(fz h).quiet hh
 cases hp:fu (findP s) q.es with
 | none=>exact⟨-1,rfl,aa (λ _=>bad (by unfold valueK;rw[hp])) (λ q=>by simp at q)⟩
 | some k =>
  obtain⟨x,hx, -, -⟩:=pos_some hp;have hkl:=(qD.1 hx).1;obtain⟨g,o,hpp,hc⟩:=ptr_at (H.nth 1 rfl) hx;have hB:=bf (H.nth 2 rfl) hx
  have hl:valueK s q.es=if !x.2.store||x.2.valued then none else some k:=by unfold valueK;rw[hp];show(match q.es[k]? with | some x=>_ | none=>_)=_;rw[hx]
  refine⟨((k:Nat):Int),rfl,aa (λ q=>?_) (λ _=>?_)⟩
  ·have:=qB q;omega
  refine⟨_,_,_,H.ld 0 rfl rfl,⟨by omega,by omega⟩,adr_eq hpp ⟨_,hc,ptr_some ⟨x.2.store,by rw[ac];exact hB.cell' rfl,aa (λ q1=>bad (by rw[hl,q1];rfl)) (λ q1=>?_)⟩⟩⟩;refine⟨_,_,_,H.ld 0 rfl rfl,⟨by omega,by omega⟩,adr_eq hpp ⟨_,hc,ptr_some ⟨x.2.valued,by rw[ac];exact hB.cell' rfl,aa (λ q2=>bad (by rw[hl,q2,Bool.or_true];rfl)) (λ q2=>?_)⟩⟩⟩;refine H.dr λ B H=>?_;obtain⟨g,o,hpp,hc⟩:=ptr_at (H.nth 1 rfl) hx;refine⟨_,_,_,H.ld 0 rfl rfl,⟨by omega,by omega⟩,adr_eq hpp ⟨_,hc,_,_,_,H.ld 0 rfl rfl,⟨by omega,by omega⟩,adr_eq hpp ⟨_,hc,ptr_some ?_⟩⟩⟩;rw[ac];refine H.ent 2 rfl hx { x.2 with valued:=true } (by omega) rfl λ C H=>ptr_some ?_;rw[ac]
  have hx2:(q.es.set k (x.1,{ x.2 with valued:=true }))[k]?=some (x.1,{ x.2 with valued:=true }):=by rw[qO hkl]
  refine H.ent 2 rfl hx2 { x.2 with valued:=true,data:=d } (by omega) rfl λ D H=>?_;unfold ValuePost;rw[hl,q1,q2];refine⟨rfl,x,hx,vw hx (L:=[]) ?_⟩;rw[qWB,qWB] at H;exact H
theorem Ee {w:wD}{e m m2 c:Nat}{p:OA}{xs:LV} (h:Sl w e 1 (.slice p m c) m xs) (hm:m2≤c) (hm0:m≤m2) (u:Value) :
  (m2 - m=0∨∃ g o:Nat,Sx.sub p c m 1=some ⟨g,o,none⟩/\∀ j:Nat,j<m2 - m->(∃ v,w.cell? ⟨g,o+j,none⟩=some v)/\w.frozen? ⟨g,o+j,none⟩=false) /\
   ∀ w':wD,w'=Sx.setRow (Sx.sub p c m 1) w (List.replicate (m2 - m) u)->Sep.Post (sl e 1 (.slice p m c) m xs) w (sl e 1 (.slice p m c) m xs) w':=by
 have same:Sep.Post (sl e 1 (.slice p m c) m xs) w (sl e 1 (.slice p m c) m xs) w:=⟨h,qH _ _,λ q hq=>.inl hq⟩;have h0:=h;obtain⟨hl,h⟩:=h;rcases h with ⟨h,h1⟩ | ⟨g,off,cap,cur,hv,hb,h1,h2,h3,h4⟩
 ·cases h;refine⟨.inl (by omega),λ w' e=>?_⟩;have e2:Sx.setRow (Sx.sub (none:OA) 0 0 1) w (List.replicate (m2 - 0) u)=w:=rfl;rw[e,e2];exact same
 ·cases hv;by_cases hz:m2 - m=0
  ·refine⟨.inl hz,?_⟩;rintro w' rfl;rw[hz]
   have:∀ a:OA,Sx.setRow a w (List.replicate 0 u)=w:=λ a=>by cases a <;> rfl
   rw[this];exact same
  ·have hne:¬ c=m:=by omega
   have hsub:Sx.sub (some ⟨g,off,none⟩) c m 1=some ⟨g,off+m,none⟩:=by
    unfold Sx.sub;rw[if_neg hne,Option.map_some,ac,qT]
   rw[hsub];refine⟨.inr ⟨g,off+m,rfl,λ j hj=>⟨⟨_,hb.cell' (qh (show off+m+j<cur.size by omega))⟩,hb.frozen _⟩⟩,?_⟩;rintro w' rfl
   have hlen:off+m+(List.replicate (m2 - m) u).length≤cur.size:=by rw[qi];omega
   refine⟨⟨hl,.inr ⟨g,off,c,_,rfl,cv _ w cur (off+m) hb hlen,h1,h2,by rw[xg _ _ _ hlen];exact h3,?_⟩⟩,(bh _ w _).mono (λ k _ e=>by subst e;rfl),λ q hq=>.inl hq⟩;rw[<- h4];apply qEB;intro i;rw[qT];by_cases hi:i<m
   ·rw[qa hi,qa hi,qAB,qAB,qeB,qeB,ue _ _ _ hlen,if_neg (by omega)]
   ·rw[List.getElem?_take_eq_none (by omega),List.getElem?_take_eq_none (by omega)]
theorem Vm {w:wD}{e n i c:Nat}{p:OA}{xs:LV} (h:Sl w e 1 (.slice p n c) n xs) (hi:i≤n) (u:Value) :
  (n - i=0∨∃ g o:Nat,Sx.sub p c i 1=some ⟨g,o,none⟩/\∀ j:Nat,j<n - i->(∃ v,w.cell? ⟨g,o+j,none⟩=some v)/\w.frozen? ⟨g,o+j,none⟩=false) /\
   ∀ w':wD,w'=Sx.setRow (Sx.sub p c i 1) w (List.replicate (n - i) u)->Sep.Post (sl e 1 (.slice p n c) n xs) w (sl e 1 (.slice p i c) i (xs.take i)) w':=by
 have h2:=Sl.pre h hi;rw[qT] at h2;obtain⟨a,b⟩:=Ee h2 (Iv h) hi u;refine⟨a,λ w' e=>?_⟩;obtain⟨c1,c2,c3⟩:=b w' e;exact⟨c1,c2.mono (λ k _ hk=>own_blk.2 (own_blk.1 hk)),λ q hq=>.inl (own_blk.2 (own_blk.1 hq))⟩
theorem Vn (es:Ens):∀ u ∈ ptrs es,u.oneCell'=true:=by
 intro u hu;simp [ptrs] at hu;obtain⟨a,⟨x,hx⟩,rfl⟩:=hu;rfl
theorem Pn {A:wD}{p:OA}{n c i:Nat}{es:Ens} (hs:Sl A 199 1 (.slice p n c) n (ptrs es)) (hn:n≤32) (hi:i<n) :
  Calls prog 126 #[.slice p n c,.int .i64 i,.int .i64 ((i:Nat)+1:Int)] A λ e w=>∃ z:OA×Nat,e=eZ (.slice z.1 (n - 1) z.2)/\Sep.Post (sl 199 1 (.slice p n c) n (ptrs es)) A (sl 199 1 (.slice z.1 (n - 1) z.2) (n - 1) (ptrs (es.eraseIdx i))) w:=by
 have hl:(ptrs es).length=n:=by have:=hs.1;omega
 have hle:es.length=n:=by rw[jn] at hl;exact hl
 have hnc:=Iv hs
 have ei:((i:Nat):Int)+1=((i+1:Nat):Int):=by omega
 refine ajc p n c i _ ⟨⟨by omega,by omega,by omega,by omega⟩,aa (λ q=>?_) (λ _=>?_)⟩
 ·exfalso
  have:(i:Int)=(i:Int)+1:=by simpa using q
  omega
 have H:St A (sl 199 1 (.slice p n c) n (ptrs es)).own A [sl 199 1 (.slice p n c) n (ptrs es)]:=St.begin hs;refine H.dr λ B H=>⟨⟨by omega,by omega⟩,⟨by omega,by omega⟩,?_⟩;have hsB:Sl B 199 1 (.slice p n c) n (ptrs es):=H.nth 0 rfl;obtain⟨-,hcm,g,o,hp,hcell⟩:=sa hsB (by omega);have hpre:=Sl.pre hsB (Nat.le_of_lt hi);rw[qT] at hpre
 have H:=H.conv 0 rfl (A':=sl 199 1 (.slice p i c) i ((ptrs es).take i)) (λ _=>hpre) (λ q e=>own_blk.2 (own_blk.1 e))
 rw[ei,qG,qG];refine H.app2 0 rfl ((ptrs es).drop (i+1)) (.inr ?_) (by rw[List.length_drop,hl];omega) (λ u hu=>Vn es u (qhB hu)) (by have:maxLen=2 ^ 63 - 1:=rfl;omega) (by omega) λ p2 c2 C HC _ hd=>?_
 ·rw[hp];by_cases hcc:c=i+1
  ·refine⟨⟨g,o,none⟩,by unfold Sx.sub;rw[if_pos hcc],λ j u hj=>?_⟩;exfalso;have:=(qD.1 hj).1;rw[List.length_drop] at this;omega
  ·refine⟨⟨g,o+(i+1),none⟩,by unfold Sx.sub;rw[if_neg hcc,Option.map_some,ac,qT],λ j u hj=>?_⟩;rw[ac,Nat.add_assoc];rw[qAB] at hj;exact hcell _ u hj
 have en:i+(n - (i+1))=n - 1:=by omega
 rw[en] at HC hd ⊢
 have hc2:n≤c2:=by
  rcases hd with ⟨-,rfl⟩ | ⟨hd, -⟩
  ·exact hnc
  ·rcases hd with hd | hd
   ·have hd:p=none:=hd;rw[hp] at hd;cases hd
   ·omega
 refine⟨⟨by omega,by omega,by omega⟩,?_⟩;rw[qG,qG];obtain⟨h1,h2⟩:=Ee (HC.nth 0 rfl) hc2 (by omega) (.pointer none);refine⟨h1,?_⟩;rintro w' hw;have HC:=HC.upd 0 rfl (h2 w' hw);refine⟨(p2,c2),rfl,?_⟩
 have e2:(ptrs es).take i++(ptrs es).drop (i+1)=ptrs (es.eraseIdx i):=by
  unfold ptrs;rw[List.eraseIdx_eq_take_drop_succ,qV,List.map_take,List.map_drop]
 rw[e2] at HC;exact HC.post 0 rfl
def keepP (s:Int) (e:En):Bool:= !(decide (e.seq > s)&& !e.retired)
theorem Vo {A:wD}{x:Nat×En}{kb:Nat}{s:Int}{t:TI} (hb:Blk A x.1 x.2.cells 198) (hs:Blk A kb #[.int .i64 s] t) :
  Calls prog 134 #[pZ x.1 0,pZ kb 0] A λ e w=>e=eZ (.bool (!keepP s x.2))/\ba A w:=by
 refine ajj x.1 0 kb 0 ⟨x.2.seq,hb.cell' rfl,s,hs.cell' rfl,aa (λ q=>⟨x.2.retired,hb.cell' rfl,λ w n hw=>?_⟩) (λ q w n hw=>?_)⟩
 ·subst hw;refine⟨?_,(qH _ _).drewN n⟩;unfold keepP;rw[q,qoB,Bool.not_not]
 ·subst hw;refine⟨?_,(qH _ _).drewN n⟩;unfold keepP;rw[q,qbB];rfl
theorem Vp {A:wD}{p:OA}{n c kb:Nat}{es:Ens}{s:Int} (hs:Sl A 199 1 (.slice p n c) n (ptrs es)) (hn:n≤32)
  (hcl:∀ (i:Nat) (x:Nat×En) (B:wD),es[i]?=some x->XTouch (sl 199 1 (.slice p n c) n (ptrs es)).own A B->Calls prog 134 #[pZ x.1 0,pZ kb 0] B λ e w=>e=eZ (.bool (!keepP s x.2))/\ba B w) :
  Calls prog 133 #[.slice p n c,.func (.func 134) #[] #[pZ kb 0]] A λ e w=>∃ m,e=eZ (.slice p m c)/\Sep.Post (sl 199 1 (.slice p n c) n (ptrs es)) A (sl 199 1 (.slice p m c) m (ptrs (es.filter λ x=>keepP s x.2))) w:=by
 have hl:(ptrs es).length=n:=by have:=hs.1;omega
 have hle:es.length=n:=by rw[jn] at hl;exact hl
 have hnc:=Iv hs;refine aji p n c kb ((ajr hs hn (λ e=> !keepP s e) kb λ i x B hx hh=>hcl i x B hx (hh.mono (λ _ _ e=>e.elim))).mono ?_);rintro e B ⟨rfl,hh⟩
 cases hp:fu (λ e=> !keepP s e) es with
 | none =>
  refine⟨-1,rfl,aa (λ _=>⟨n,rfl,?_⟩) (λ q=>by simp at q)⟩
  have:es.filter (λ x=>keepP s x.2)=es:=by
   rw[List.filter_eq_self];intro x hx;unfold fu at hp;rw[qxB] at hp;have:=hp x hx;simpa using this
  rw[this];exact⟨hs.keep hh (λ _ _ e=>e),hh.mono (λ _ _ e=>e.elim),λ q hq=>.inl hq⟩
 | some k =>
  obtain⟨x,hx,hxp,hnot⟩:=pos_some hp;have hkl:=(qD.1 hx).1;refine⟨((k:Nat):Int),rfl,aa (λ q=>?_) (λ _=>?_)⟩
  ·exfalso;simp at q
  rintro z2 rfl;rw[w64 (by omega) (by omega)]
  have hk0:((es.take k).filter λ x=>keepP s x.2)=es.take k:=by
   rw[List.filter_eq_self];intro y hy;obtain⟨i,hi,rfl⟩:=qGC hy;rw[qq] at hi;have:=hnot i es[i] (by omega) (qC (by omega));rw[List.getElem_take];simpa using this
  have hk1:((es.take (k+1)).filter λ x=>keepP s x.2)=es.take k:=by
   rw[qfB,hx,qBB,hk0]
   have:keepP s x.2=false:=by simpa using hxp
   simp [this]
  have HB:St A (sl 199 1 (.slice p n c) n (ptrs es)).own B [sl 199 1 (.slice p n c) n (ptrs es)]:=(St.begin hs).quiet hh
  refine⟨λ j i C=>∃ (jj ii:Nat) (xs:LV),j=jj/\i=ii/\jj≤n/\ii<jj/\xs.take ii=ptrs ((es.take jj).filter λ x=>keepP s x.2)/\ii=((es.take jj).filter λ x=>keepP s x.2).length/\xs.drop jj=(ptrs es).drop jj/\xs.length=n/\St A (sl 199 1 (.slice p n c) n (ptrs es)).own C [sl 199 1 (.slice p n c) n xs],λ j _ _=>n - j.toNat,
   ⟨k+1,k,ptrs es,by omega,rfl,by omega,by omega,by rw[hk1];unfold ptrs;rw[List.map_take],by rw[hk1,qq];omega,rfl,hl,HB⟩,λ _=>?_⟩
  clear HB;rintro j i C ⟨jj,ii,xs,rfl,rfl,hj,hij,htk,hii,hdr,hxl,H⟩;refine aa (λ q=>?_) (λ q=>?_)
  ·have q:=qB q
   have hjl:jj<es.length:=by omega
   have hy:=qC hjl;have hsC:Sl C 199 1 (.slice p n c) n xs:=H.nth 0 rfl;obtain⟨-, -,g,o,hpp,hcell⟩:=sa hsC (by omega)
   have hxj:xs[jj]?=some (.pointer (some ⟨es[jj].1,0,none⟩)):=by
    have:=congrArg (·[0]?) hdr;simp only[qAB,Nat.add_zero] at this;rw[this];simp [ptrs,hjl]
   refine⟨⟨by omega,q⟩,adr_eq hpp ⟨_,by rw[ix1];exact hcell _ _ hxj,(hcl jj _ C hy H.touch).mono ?_⟩⟩;rintro e D ⟨rfl,hh2⟩;have H:=H.quiet hh2;refine⟨_,rfl,aa (λ q1=>?_) (λ q1=>?_)⟩
   ·have q1:keepP s es[jj].2=true:=by simpa using q1
    have hsD:Sl D 199 1 (.slice (some ⟨g,o,none⟩) n c) n xs:=by rw[<- hpp];exact H.nth 0 rfl
    obtain⟨c1,c2,c3⟩:=abs hsD (j:=ii) (by omega) (.pointer (some ⟨es[jj].1,0,none⟩));refine⟨⟨by omega,by omega⟩,adr_eq hpp ?_⟩;rw[ix1];refine⟨c1,c2,?_⟩;rintro E rfl z3 rfl z4 rfl;rw[w64 (by omega) (by omega),w64 (by omega) (by omega)];rw[<- hpp] at c3;have H:=H.upd 0 rfl c3
    have hfl:((es.take (jj+1)).filter λ x=>keepP s x.2)=((es.take jj).filter λ x=>keepP s x.2)++[es[jj]]:=by
     rw[qfB,hy,qBB];simp [q1]
    refine⟨⟨jj+1,ii+1,xs.set ii (.pointer (some ⟨es[jj].1,0,none⟩)),by omega,by omega,by omega,by omega,?_,?_,?_,by rw[qJ];exact hxl,H⟩,by show n - ((jj:Int)+1).toNat<n - (jj:Int).toNat;omega⟩
    ·rw[hfl];unfold ptrs at htk ⊢;rw[qV,<- htk,qfB,List.take_set_of_le (qY _),qO (by omega)];rfl
    ·rw[hfl,qP,<- hii];rfl
    ·rw[List.drop_set,if_pos (by omega)];have:=congrArg (List.drop 1) hdr;rwa [List.drop_drop,List.drop_drop] at this
   ·rintro z5 rfl;rw[w64 (by omega) (by omega)]
    have q1:keepP s es[jj].2=false:=by simpa using q1
    have hfl:((es.take (jj+1)).filter λ x=>keepP s x.2)=((es.take jj).filter λ x=>keepP s x.2):=by
     rw[qfB,hy,qBB];simp [q1]
    refine⟨⟨jj+1,ii,xs,by omega,rfl,by omega,by omega,by rw[hfl];exact htk,by rw[hfl];exact hii,?_,hxl,H⟩,by show n - ((jj:Int)+1).toNat<n - (jj:Int).toNat;omega⟩;have:=congrArg (List.drop 1) hdr;rwa [List.drop_drop,List.drop_drop] at this
  ·have q:=qE q
   have hjn:jj=es.length:=by omega
   rw[hjn,List.take_length] at htk hii;obtain⟨d1,d2⟩:=Vm (i:=ii) (H.nth 0 rfl) (by omega) (.pointer none);refine⟨⟨by omega,by omega⟩,?_⟩;rw[qG];refine⟨d1,?_⟩;rintro w' hw;have H:=H.upd 0 rfl (d2 w' hw);rw[htk] at H;exact⟨⟨by omega,by omega⟩,ii,rfl,H.post 0 rfl⟩
theorem agd {w:wD}{es':Ens}{p':OA}{c':Nat}{L:List Asn} (hsub:es'.Sublist q.es)
  (H:St W (qA b q).own w ([blk b #[.int .i64 q.size,.slice p' es'.length c'] 128,sl 199 1 (.slice p' es'.length c') es'.length (ptrs es'),df q.es]++L)):Sep.Post (qA b q) W (qA b { q with p:=p',cap:=c',es:=es' }) w:=by
 have hs:=Iw (W:=w) hsub
 have H:=H.conv 2 rfl (A':=df es') hs.2 hs.1
 exact Ab (v:={ q with p:=p',cap:=c',es:=es' }) (L:=L) H
theorem squash_any (h:(qA b q).at_ W) (hn:q.es.length≤32) (s:Int):Calls prog 88 #[pZ b 0,.int .i64 s] W λ e w=>e=eY #[]/\Sep.Post (qA b q) W (qA b { q with es:=q.es.filter λ x=>keepP s x.2 }) w:=by
 refine anq b 0 s ((fz h).al λ k A H=>?_);refine⟨_,_,_,H.ld 0 rfl rfl,H.callx (E:=λ m=>eZ (.slice q.p m q.cap)) 1 rfl (Vp (kb:=k) (s:=s) (H.nth 1 rfl) hn ?_) λ m B H=>⟨_,_,_,rfl,?_⟩⟩
 ·intro i x B hx ht;have d2:∀ q',(df q.es).own q'->¬ (sl 199 1 (.slice q.p q.es.length q.cap) q.es.length (ptrs q.es)).own q':=λ q' h1=>St.disj H.here 2 1 (by decide) rfl rfl q' h1;have hE:(df q.es).at_ B:=(df q.es).keep (H.nth 2 rfl) ht d2;have d3:∀ q',(blk k #[.int .i64 s] 3).own q'->¬ (sl 199 1 (.slice q.p q.es.length q.cap) q.es.length (ptrs q.es)).own q':=λ q' h1=>St.disj H.here 3 1 (by decide) rfl rfl q' h1;exact Vo (bf hE hx) ((H.blk 3 rfl).keep ht (d3 k rfl))
 ·refine H.st 0 rfl (by show 1<2;omega) λ C H=>⟨rfl,?_⟩;have hm:(ptrs (q.es.filter λ x=>keepP s x.2)).length=m * 1:=(H.nth 1 rfl:Sl C 199 1 (.slice q.p m q.cap) m _).1;rw[jn,qT] at hm;subst hm;exact agd (L:=[blk k #[.int .i64 s] 3]) List.filter_sublist H
end Go.Proofs.YtmncepdbglaphaaGreatDoor.lsq
