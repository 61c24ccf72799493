/- A small logic of memory: what a function has, piece by piece, what it may write, what is kept. No condition. -/
import Derived.Test.YtojogkljneonmaaGreatDoorSxH
import Derived.Laws.OwnMore
import Derived.Shelf.Small.Strs
import Derived.Shelf.Strconv.Itoa0
import Derived.Shelf.Strconv.Itoa1
import Derived.Shelf.LaysM
import Derived.Shelf.Strconv.Itoa2
import Derived.Shelf.Strconv.Itoa3
import Derived.Ground.MpProg
import Derived.Shelf.Pu.ParseUintPublic10
import Derived.Shelf.Strings.Search1
import Derived.Shelf.GgClosure.StringsIndexFunc
import Derived.Ground.GgwProg
import Derived.Shelf.GgClosure.StringsIndexFuncTop
import Derived.Shelf.GgClosure.StringsRunes
import Derived.Shelf.Strings.Prefix
import Derived.Shelf.Strings.FuncGrows
import Derived.Test.YtojogkljneonmaaGreatDoorProg
set_option linter.unusedVariables false
set_option linter.unusedSimpArgs false
namespace Go.Sep
open Go.RowKit Go.XHeap Go.Sx
structure Asn where
 own:Nat->Prop
 at_:World->Prop
 keep:∀ {T:Nat->Prop} {w w':World},at_ w->XTouch T w w'->(∀ k,own k->¬ T k)->at_ w'
 lt:∀ {w:World},at_ w->∀ k,own k->k<w.heap.size
def emp:Asn:=⟨λ _=>False,λ _=>True,λ _ _ _=>trivial,λ _ _ h=>h.elim⟩
def blk (b:Nat) (cs:Array Value) (t:TypeId):Asn:=⟨λ k=>k=b,λ w=>Blk w b cs t,λ h ht hn=>Blk.keep h ht (hn b rfl),λ h k e=>by subst e;exact Blk.lt h⟩
def sl (e:TypeId) (size:Nat) (v:Value) (n:Nat) (xs:List Value):Asn:=⟨λ k=>v.ownBlock=some k,λ w=>Sl w e size v n xs,λ h ht hn=>Sl.keep h ht hn,λ h=>Sl.lt h⟩
def mp (κ:IntKind) (b:Nat) (f:Int->Option Value):Asn:=⟨λ k=>k=b,λ w=>Mp w κ b f,λ h ht hn=>Mp.keep h ht (hn b rfl),λ h k e=>by subst e;exact Mp.lt h⟩
def owns:List Asn->Nat->Prop
 | [],_=>False
 | A::L,k=>A.own k∨owns L k
def here:List Asn->World->Prop
 | [],_=>True
 | A::L,w=>A.at_ w/\(∀ k,A.own k->¬ owns L k)/\here L w
variable {A A' B:Asn}{L L':List Asn}{w w0 w':World}{M:Nat->Prop}{b:Nat}{cs:Array Value}{t:TypeId}
theorem here.keep {T:Nat->Prop}:∀ {L:List Asn},here L w->XTouch T w w'->(∀ k,owns L k->¬ T k)->here L w'
 | [],_,_,_=>trivial
 | A::L,h,ht,hn=>⟨A.keep h.1 ht (λ k hk=>hn k (.inl hk)),h.2.1,here.keep h.2.2 ht (λ k hk=>hn k (.inr hk))⟩
theorem here.lt:∀ {L:List Asn},here L w->∀ k,owns L k->k<w.heap.size
 | [],_,_,h=>h.elim
 | A::L,h,k,hk=>hk.elim (A.lt h.1 k) (here.lt h.2.2 k)
theorem here.nth:∀ {L:List Asn} (k:Nat),here L w->L[k]?=some A->A.at_ w
 | [],_,_,hk=>by simp at hk
 | B::L,0,h,hk=>by simp at hk;subst hk;exact h.1
 | B::L,k+1,h,hk=>here.nth k h.2.2 (by simpa using hk)
theorem owns.nth:∀ {L:List Asn} (k:Nat){q:Nat},L[k]?=some A->A.own q->owns L q
 | [],_,_,hk,_=>by simp at hk
 | B::L,0,q,hk,h=>by simp at hk;subst hk;exact .inl h
 | B::L,k+1,q,hk,h=>.inr (owns.nth k (by simpa using hk) h)
def all (L:List Asn):Asn:=⟨owns L,here L,here.keep,here.lt⟩
theorem owns_append:∀ {L L':List Asn}{k:Nat},owns (L++L') k↔owns L k∨owns L' k
 | [],L',k=>by simp [owns]
 | A::L,L',k=>by simp [owns,owns_append,or_assoc]
theorem here_append:∀ {L L':List Asn},here (L++L') w↔here L w/\here L' w/\∀ k,owns L k->¬ owns L' k
 | [],L'=>by simp [here,owns]
 | A::L,L'=>by
  simp only[List.cons_append,here,owns,here_append,owns_append];constructor
  ·rintro⟨h1,h2,h3,h4,h5⟩;exact⟨⟨h1,λ k hk e=>h2 k hk (.inl e),h3⟩,h4,λ k hk e=>hk.elim (λ hk=>h2 k hk (.inr e)) (λ hk=>h5 k hk e)⟩
  ·rintro⟨⟨h1,h2,h3⟩,h4,h5⟩;exact⟨h1,λ k hk e=>e.elim (h2 k hk) (h5 k (.inl hk)),h3,h4,λ k hk=>h5 k (.inr hk)⟩
theorem yc:∀ {L:List Asn} (k:Nat){q:Nat},owns (L.set k A') q->A'.own q∨owns L q
 | [],_,_,h=>by simp [owns] at h
 | B::L,0,q,h=>by
  rcases h with h | h
  ·exact .inl h
  ·exact .inr (.inr h)
 | B::L,k+1,q,h=>by
  rcases h with h | h
  ·exact .inr (.inl h)
  ·exact(yc k h).imp id .inr
theorem here.upd (ht:XTouch A.own w w') (h':A'.at_ w') (ho:∀ q,A'.own q->A.own q∨w.heap.size≤q):∀ {L:List Asn} (k:Nat),here L w->L[k]?=some A->here (L.set k A') w'
 | [],_,_,hk=>by simp at hk
 | B::L,0,h,hk=>by
  simp at hk;subst hk;refine⟨h',λ q hq e=>?_,h.2.2.keep ht (λ q hq e=>h.2.1 q e hq)⟩;rcases ho q hq with e1 | e1
  ·exact h.2.1 q e1 e
  ·have:=h.2.2.lt q e;omega
 | B::L,k+1,h,hk=>by
  have hk':L[k]?=some A:=by simpa using hk
  refine⟨B.keep h.1 ht (λ q hq e=>h.2.1 q hq (owns.nth k hk' e)),λ q hq e=>?_,here.upd ht h' ho k h.2.2 hk'⟩;rcases yc k e with e1 | e1
  ·rcases ho q e1 with e2 | e2
   ·exact h.2.1 q hq (owns.nth k hk' e2)
   ·have:=B.lt h.1 q hq;omega
  ·exact h.2.1 q hq e1
def Post (A:Asn) (w:World) (A':Asn) (w':World):Prop:=A'.at_ w'/\XTouch A.own w w'/\∀ q,A'.own q->A.own q∨w.heap.size≤q
def im (w w':World):Prop:=XTouch (λ _=>False) w w'
theorem Rj {i:Nat} (h:here L w) (hi:L[i]?=some A) (hp:Post A w A' w'):Post (all L) w (all (L.set i A')) w':=by
 refine⟨here.upd hp.2.1 hp.1 hp.2.2 i h hi,hp.2.1.mono (λ q _ e=>owns.nth i hi e),λ q hq=>?_⟩;rcases yc i hq with e | e
 ·exact(hp.2.2 q e).imp (owns.nth i hi) id
 ·exact .inl e
theorem Mj (h:Blk w b cs t) (i:Nat) (v:Value):Post (blk b cs t) w (blk b (cs.setIfInBounds i v) t) (w.setCell ⟨b,i,none⟩ v) :=
 ⟨h.set i v,(XTouch.refl (λ k=>k=b) w).setCell (p:=⟨b,i,none⟩) (.inl rfl) v,λ q e=>.inl e⟩
structure St (w0:World) (M:Nat->Prop) (w:World) (L:List Asn):Prop where
 touch:XTouch M w0 w
 mine:∀ k,owns L k->M k∨w0.heap.size≤k
 here:here L w
namespace St
theorem begin (h:A.at_ w):St w A.own w [A]:=⟨XTouch.refl _ _,λ k hk=>.inl (hk.elim id (λ e=>e.elim)),⟨h,λ _ _ e=>e,trivial⟩⟩
theorem nil (w:World):St w (λ _=>False) w []:=⟨XTouch.refl _ _,λ k hk=>hk.elim,trivial⟩
theorem all_ (h:Sep.here L w):St w (owns L) w L:=⟨XTouch.refl _ _,λ k hk=>.inl hk,h⟩
theorem nth (H:St w0 M w L) (k:Nat) (hk:L[k]?=some A):A.at_ w:=H.here.nth k hk
theorem blk (H:St w0 M w L) (k:Nat){b:Nat}{cs:Array Value}{t:TypeId} (hk:L[k]?=some (Sep.blk b cs t)):Blk w b cs t:=H.here.nth k hk
theorem ld (H:St w0 M w L) (k:Nat){b i:Nat}{cs:Array Value}{t:TypeId}{v:Value} (hk:L[k]?=some (Sep.blk b cs t)) (hv:cs[i]?=some v):w.cell? ⟨b,i,none⟩=some v:=(H.blk k hk).cell' hv
theorem size (H:St w0 M w L):w0.heap.size≤w.heap.size:=H.touch.size
theorem upd (H:St w0 M w L) (k:Nat) (hk:L[k]?=some A) (h:Post A w A' w'):St w0 M w' (L.set k A'):=by
 refine⟨H.touch.trans h.2.1 (λ q hq e=>?_),λ q hq=>?_,H.here.upd h.2.1 h.1 h.2.2 k hk⟩
 ·rcases H.mine q (owns.nth k hk e) with e1 | e1
  ·exact e1
  ·omega
 ·rcases yc k hq with e1 | e1
  ·rcases h.2.2 q e1 with e2 | e2
   ·exact H.mine q (owns.nth k hk e2)
   ·have:=H.size;exact .inr (by omega)
  ·exact H.mine q e1
theorem quiet (H:St w0 M w L) (h:im w w'):St w0 M w' L:=⟨H.touch.trans h (λ q _ e=>e.elim),H.mine,H.here.keep h (λ _ _ e=>e)⟩
theorem drew (H:St w0 M w L):St w0 M w.drew L:=H.quiet (XTouch.refl _ w).drew
theorem drewN (H:St w0 M w L) (n:Nat):St w0 M (w.drewN n) L:=H.quiet ((XTouch.refl _ w).drewN n)
theorem add (H:St w0 M w L) (h:Post emp w A w'):St w0 M w' (L++[A]):=by
 have hT:XTouch (λ _=>False) w w':=h.2.1;refine⟨H.touch.trans hT (λ q _ e=>e.elim),λ q hq=>?_,here_append.2 ⟨H.here.keep hT (λ _ _ e=>e),⟨h.1,λ _ _ e=>e,trivial⟩,λ q hq e=>?_⟩⟩
 ·rcases owns_append.1 hq with e | e | e
  ·exact H.mine q e
  ·have:=H.size;exact(h.2.2 q e).elim (λ e=>e.elim) (λ e=>.inr (by omega))
  ·exact e.elim
 ·rcases e with e | e
  ·have:=H.here.lt q hq;exact(h.2.2 q e).elim (λ e=>e.elim) (λ e=>by omega)
  ·exact e
theorem alloc (H:St w0 M w L) (cs:Array Value) (t:TypeId):St w0 M (w.alloc (.cells cs t)) (L++[Sep.blk w.heap.size cs t]) :=
 H.add ⟨Blk.new w cs t,(XTouch.refl _ w).alloc _,λ q e=>.inr (by rw[show q=w.heap.size from e];exact Nat.le_refl _)⟩
theorem wr (H:St w0 M w L) (k:Nat){b:Nat}{cs:Array Value}{t:TypeId} (hk:L[k]?=some (Sep.blk b cs t)) (i:Nat) (v:Value):St w0 M (w.setCell ⟨b,i,none⟩ v) (L.set k (Sep.blk b (cs.setIfInBounds i v) t)) :=
 H.upd k hk ⟨(H.blk k hk).set i v,(XTouch.refl (λ k=>k=b) w).setCell (p:=⟨b,i,none⟩) (.inl rfl) v,λ q e=>.inl e⟩
theorem wrs (H:St w0 M w L) (k:Nat){b:Nat}{cs:Array Value}{t:TypeId} (hk:L[k]?=some (Sep.blk b cs t)) (o:Nat) (vs:List Value) (hl:o+vs.length≤cs.size):St w0 M (w.setCells b o vs) (L.set k (Sep.blk b (qo cs o vs) t)) :=
 H.upd k hk ⟨xd vs w cs o (H.blk k hk) hl,sv vs w o,λ q e=>.inl e⟩
variable {i:Nat}
theorem al (H:St w0 M w L){cs:Array Value}{t:TypeId}{φ:Nat->World->Prop} (hq:∀ k w',St w0 M w' (L++[Sep.blk k cs t])->φ k w'):∀ k:Nat,∀ w':World,k=w.heap.size->w'=w.alloc (.cells cs t)->φ k w':=by
 rintro k w' rfl rfl;exact hq _ _ (H.alloc cs t)
theorem alb (H:St w0 M w L){cs:Array Value}{t:TypeId}{φ:Nat->World->Prop} (hq:∀ k w',St w0 M w' (L++[Sep.blk k cs t])->w0.heap.size≤k->Below w.heap.size w w'->φ k w'):∀ k:Nat,∀ w':World,k=w.heap.size->w'=w.alloc (.cells cs t)->φ k w':=by
 rintro k w' rfl rfl;exact hq _ _ (H.alloc cs t) H.size ((Below.refl _ _).alloc (Nat.le_refl _) _)
theorem dr (H:St w0 M w L){φ:World->Prop} (hq:∀ w',St w0 M w' L->φ w'):∀ w':World,w'=w.drew->φ w':=by
 rintro w' rfl;exact hq _ H.drew
theorem drN (H:St w0 M w L){φ:World->Prop} (hq:∀ w',St w0 M w' L->φ w'):∀ (w':World) (m:Nat),w'=w.drewN m->φ w':=by
 rintro w' m rfl;exact hq _ (H.drewN m)
theorem st (H:St w0 M w L) (k:Nat) (hk:L[k]?=some (Sep.blk b cs t)){v:Value}{φ:World->Prop} (hi:i<cs.size) (hq:∀ w',St w0 M w' (L.set k (Sep.blk b (cs.setIfInBounds i v) t))->φ w') :
  (∃ u,w.cell? ⟨b,i,none⟩=some u)/\w.frozen? ⟨b,i,none⟩=false/\∀ w',w'=w.setCell ⟨b,i,none⟩ v->φ w':=by
 refine⟨⟨_,(H.blk k hk).cell' (Array.getElem?_eq_getElem hi)⟩,(H.blk k hk).frozen i,?_⟩;rintro w' rfl;exact hq _ (H.wr k hk i v)
theorem sts (H:St w0 M w L) (k:Nat) (hk:L[k]?=some (Sep.blk b cs t)){o n:Nat}{vs:Array Value}{φ:World->Prop} (hv:vs.size=n) (hi:o+n≤cs.size) (h1:∀ v ∈ vs.toList,v.oneCell'=true)
  (hq:∀ w',St w0 M w' (L.set k (Sep.blk b (qo cs o vs.toList) t))->φ w') :
  vs.size=n/\(∀ j:Nat,j<n->(∃ v,w.cell? ⟨b,o+j,none⟩=some v)/\w.frozen? ⟨b,o+j,none⟩=false)/\(∀ v:Value,v ∈ vs.toList->v.oneCell'=true)/\∀ w':World,w'=w.setCells b o vs.toList->φ w':=by
 refine⟨hv,λ j hj=>⟨⟨_,(H.blk k hk).cell' (Array.getElem?_eq_getElem (by omega))⟩,(H.blk k hk).frozen _⟩,h1,?_⟩;rintro w' rfl;exact hq _ (H.wrs k hk o vs.toList (by rw[Array.length_toList];omega))
theorem Ko {cs vs:Array Value} (h:vs.size=cs.size):qo cs 0 vs.toList=vs:=by
 rw[Ov _ _ (by simpa using h)]
theorem sts0 (H:St w0 M w L) (k:Nat) (hk:L[k]?=some (Sep.blk b cs t)){n:Nat}{vs:Array Value}{φ:World->Prop} (hv:vs.size=n) (hi:cs.size=n) (h1:∀ v ∈ vs.toList,v.oneCell'=true)
  (hq:∀ w',St w0 M w' (L.set k (Sep.blk b vs t))->φ w') :
  vs.size=n/\(∀ j:Nat,j<n->(∃ v,w.cell? ⟨b,0+j,none⟩=some v)/\w.frozen? ⟨b,0+j,none⟩=false)/\(∀ v:Value,v ∈ vs.toList->v.oneCell'=true)/\∀ w':World,w'=w.setCells b 0 vs.toList->φ w':=by
 refine H.sts k hk hv (by omega) h1 ?_;rw[Ko (by omega)];exact hq
theorem cells (H:St w0 M w L) (k:Nat) (hk:L[k]?=some (Sep.blk b cs t)):cellsAt w ⟨b,0,none⟩ cs:=Hf (H.blk k hk)
theorem lds (H:St w0 M w L) (k:Nat) (hk:L[k]?=some (Sep.blk b cs t)){o:Nat}{vs:Array Value} (hv:∀ j u,vs[j]?=some u->cs[o+j]?=some u):cellsAt w ⟨b,o,none⟩ vs:=cellsAt_of_blk (H.blk k hk) vs hv
variable {P:Program}{f:FuncId}{args:Array Value}{Q:Ending->World->Prop}{E:Ending}
theorem look (H:St w0 M w L) (k:Nat){κ:IntKind}{f:Int->Option Value} (hk:L[k]?=some (Sep.mp κ b f)):Mp w κ b f:=H.here.nth k hk
theorem put (H:St w0 M w L) (k:Nat){κ:IntKind}{f:Int->Option Value} (hk:L[k]?=some (Sep.mp κ b f)){x:Int}{v:Option Value}{φ:World->Prop} (hq:∀ w',St w0 M w' (L.set k (Sep.mp κ b (Sx.upd f x v)))->φ w'):∀ w':World,Mp w' κ b (Sx.upd f x v)->XTouch (λ q=>q=b) w w'->φ w' :=
 λ w' h1 h2=>hq w' (H.upd k hk ⟨h1,h2,λ q e=>.inl e⟩)
theorem call (H:St w0 M w L) (k:Nat) (hk:L[k]?=some A) (hc:Calls P f args w λ e w'=>e=E/\Post A w A' w') (hq:∀ w',St w0 M w' (L.set k A')->Q E w'):Calls P f args w Q :=
 hc.mono λ e w' h=>by rw[h.1];exact hq _ (H.upd k hk h.2)
theorem callq (H:St w0 M w L) (hc:Calls P f args w λ e w'=>e=E/\im w w') (hq:∀ w',St w0 M w' L->Q E w'):Calls P f args w Q :=
 hc.mono λ e w' h=>by rw[h.1];exact hq _ (H.quiet h.2)
theorem callp (H:St w0 M w L) (hc:Calls P f args w λ e w'=>e=E/\w'=w) (hq:Q E w):Calls P f args w Q :=
 hc.mono λ e w' h=>by rw[h.1,h.2];exact hq
theorem post (H:St w0 A.own w L) (k:Nat) (hk:L[k]?=some A'):Post A w0 A' w:=⟨H.nth k hk,H.touch,λ q hq=>H.mine q (owns.nth k hk hq)⟩
theorem new (H:St w0 (λ _=>False) w L) (k:Nat) (hk:L[k]?=some A'):Post emp w0 A' w:=⟨H.nth k hk,H.touch,λ q hq=>H.mine q (owns.nth k hk hq)⟩
theorem sub (H:St w0 M w (L++L')):St w0 M w L:=⟨H.touch,λ q hq=>H.mine q (owns_append.2 (.inl hq)),(here_append.1 H.here).1⟩
theorem take (H:St w0 M w L) (n:Nat):St w0 M w (L.take n):=St.sub (L':=L.drop n) (by rw[List.take_append_drop];exact H)
theorem tail (H:St w0 M w (A::L)):St w0 M w L:=⟨H.touch,λ q hq=>H.mine q (.inr hq),H.here.2.2⟩
theorem open_ (H:St w0 M w (all L::L')):St w0 M w (L++L'):=⟨H.touch,λ q hq=>H.mine q (owns_append.1 hq),here_append.2 ⟨H.here.1,H.here.2.2,H.here.2.1⟩⟩
theorem shut (H:St w0 M w (L++L')):St w0 M w (all L::L'):=⟨H.touch,λ q hq=>H.mine q (owns_append.2 hq),let h:=here_append.1 H.here;⟨h.1,h.2.2,h.2.1⟩⟩
theorem push {Ls:List Asn} (H:St w0 M w (all Ls::B::L)):St w0 M w (all (Ls++[B])::L):=by
 refine St.shut ?_;rw[List.append_assoc];exact St.open_ H
theorem swap (H:St w0 M w (A::B::L)):St w0 M w (B::A::L):=by
 refine⟨H.touch,λ q hq=>H.mine q ?_,H.here.2.2.1,λ q hq e=>?_,H.here.1,λ q hq e=>H.here.2.1 q hq (.inr e),H.here.2.2.2.2⟩
 ·rcases hq with e | e | e
  ·exact .inr (.inl e)
  ·exact .inl e
  ·exact .inr (.inr e)
 ·rcases e with e | e
  ·exact H.here.2.1 q e (.inl hq)
  ·exact H.here.2.2.2.1 q hq e
theorem perm (H:St w0 M w L) (hp:L.Perm L'):St w0 M w L':=by
 have:∀ {L L':List Asn},L.Perm L'->(∀ q,owns L q↔owns L' q)/\(Sep.here L w->Sep.here L' w):=by
  intro L L' hp
  induction hp with
  | nil=>exact⟨λ _=>Iff.rfl,id⟩
  | cons x _ ih=>exact⟨λ q=>or_congr Iff.rfl (ih.1 q),λ h=>⟨h.1,λ q hq e=>h.2.1 q hq ((ih.1 q).2 e),ih.2 h.2.2⟩⟩
  | swap x y l=>exact⟨λ q=>by simp only[owns];exact or_left_comm,λ h=>⟨h.2.2.1,λ q hq e=>e.elim (λ e=>h.2.1 q e (.inl hq)) (h.2.2.2.1 q hq),h.1,λ q hq e=>h.2.1 q hq (.inr e),h.2.2.2.2⟩⟩
  | trans _ _ i1 i2=>exact⟨λ q=>(i1.1 q).trans (i2.1 q),λ h=>i2.2 (i1.2 h)⟩
 exact⟨H.touch,λ q hq=>H.mine q (((this hp).1 q).2 hq),(this hp).2 H.here⟩
theorem disj {L:List Asn} (h:Sep.here L w):∀ (i j:Nat){A B:Asn},i≠j->L[i]?=some A->L[j]?=some B->∀ q,A.own q->¬ B.own q:=by
 induction L with
 | nil=>intro i j A B _ hi;simp at hi
 | cons C L ih =>
  intro i j A B hn hi hj q hq e
  match i,j with
  | 0,0=>exact hn rfl
  | 0,j+1=>simp at hi;subst hi;exact h.2.1 q hq (owns.nth j (by simpa using hj) e)
  | i+1,0=>simp at hj;subst hj;exact h.2.1 q e (owns.nth i (by simpa using hi) hq)
  | i+1,j+1=>exact ih h.2.2 i j (by omega) (by simpa using hi) (by simpa using hj) q hq e
def sel (L:List Asn):List Nat->List Asn
 | []=>[]
 | i::is=>match L[i]? with
  | some A=>A::sel L is
  | none=>sel L is
theorem yd:∀ (is:List Nat){q:Nat},owns (sel L is) q->∃ j ∈ is,∃ B,L[j]?=some B/\B.own q
 | [],q,h=>h.elim
 | i::is,q,h=>by
  unfold sel at h;split at h
  ·rename_i A hA;rcases h with h | h
   ·exact⟨i,by simp,A,hA,h⟩
   ·obtain⟨j,hj,r⟩:=yd is h;exact⟨j,by simp [hj],r⟩
  ·obtain⟨j,hj,r⟩:=yd is h;exact⟨j,by simp [hj],r⟩
theorem here_sel (h:Sep.here L w):∀ (is:List Nat),is.Nodup->Sep.here (sel L is) w
 | [],_=>trivial
 | i::is,hn=>by
  have hn':=List.nodup_cons.1 hn;unfold sel;split
  ·rename_i A hA;refine⟨h.nth i hA,λ q hq e=>?_,here_sel h is hn'.2⟩;obtain⟨j,hj,B,hB,hb⟩:=yd is e;exact disj h i j (λ e=>hn'.1 (e ▸ hj)) hA hB q hq hb
  ·exact here_sel h is hn'.2
theorem pick (H:St w0 M w L) (is:List Nat) (hn:is.Nodup:=by decide):St w0 M w (sel L is) :=
 ⟨H.touch,λ q hq=>by obtain⟨j,_,B,hB,hb⟩:=yd is hq;exact H.mine q (owns.nth j hB hb),here_sel H.here is hn⟩
theorem fold {Ls:List Asn} (H:St w0 M w (Ls++L)) (h:Sep.here Ls w->A.at_ w) (ho:∀ q,A.own q->owns Ls q):St w0 M w (A::L):=by
 have h1:=here_append.1 H.here;exact⟨H.touch,λ q hq=>H.mine q (owns_append.2 (hq.imp (ho q) id)),h h1.1,λ q hq=>h1.2.2 q (ho q hq),h1.2.1⟩
theorem unfold_ {Ls:List Asn} (H:St w0 M w (A::L)) (h:A.at_ w->Sep.here Ls w) (ho:∀ q,owns Ls q->A.own q):St w0 M w (Ls++L) :=
 ⟨H.touch,λ q hq=>H.mine q ((owns_append.1 hq).imp (ho q) id),here_append.2 ⟨h H.here.1,H.here.2.2,λ q hq=>H.here.2.1 q (ho q hq)⟩⟩
theorem conv (H:St w0 M w L) (k:Nat) (hk:L[k]?=some A) (h:A.at_ w->A'.at_ w) (ho:∀ q,A'.own q->A.own q):St w0 M w (L.set k A') :=
 H.upd k hk ⟨h (H.nth k hk),XTouch.refl _ _,λ q hq=>.inl (ho q hq)⟩
theorem app (H:St w0 M w L) (k:Nat){e size n m bytes:Nat}{p q:Option Addr}{c:Nat}{olds:List Value} (hk:L[k]?=some (Sep.sl e size (.slice p n c) n olds)) (news:List Value)
  (h1:(m=0/\q=none)∨∃ a,q=some a/\∀ j u,news[j]?=some u->w.cell? (a.add j)=some u) (h2:news.length=m * size) (h3:∀ u ∈ news,u.oneCell'=true) (h4:n+m≤maxLen) (h5:(n+m) * bytes≤140737488355328)
  {φ:Option Addr->Nat->World->Prop} (hq:∀ p' c' w',St w0 M w' (L.set k (Sep.sl e size (.slice p' (n+m) c') (n+m) (olds++news)))->φ p' c' w') :
  ∃ olds news:List Value,Sl w e size (.slice p n c) n olds/\((m=0/\q=none)∨∃ a,q=some a/\∀ j u,news[j]?=some u->w.cell? (a.add j)=some u)/\news.length=m * size/\(∀ u ∈ news,u.oneCell'=true)/\n+m≤maxLen/\(n+m) * bytes≤140737488355328 /\
   ∀ (p':Option Addr) (c':Nat) (w':World),Sl w' e size (.slice p' (n+m) c') (n+m) (olds++news)->XTouch (λ b=>(Value.slice p n c).ownBlock=some b) w w'->(∀ b,(Value.slice p' (n+m) c').ownBlock=some b->(Value.slice p n c).ownBlock=some b∨w.heap.size≤b)->Sl w' e size (.slice p n c) n olds->((p'=p/\c'=c)∨((agt p∨c<n+m)/\∀ b,(Value.slice p' (n+m) c').ownBlock=some b->w.heap.size≤b))->φ p' c' w' :=
 ⟨olds,news,H.nth k hk,h1,h2,h3,h4,h5,λ p' c' w' a b d _ _=>hq p' c' w' (H.upd k hk ⟨a,b,d⟩)⟩
end St
def ago (κ:IntKind) (l:List Int):Array Value:=(l.map (.int κ)).toArray
variable {κ:IntKind}{l:List Int}
theorem Rl (n:Nat):madeCells #[.int κ 0] n=ago κ (List.replicate n 0):=by
 apply Array.toList_inj.1;rw[toList_madeCells_one];simp [ago]
theorem adr_some {g o:Nat}{f:Nat->Nat->Prop} (h:f g o):Sx.adr (some ⟨g,o,none⟩) f:=h
theorem ptr_some {a:Addr}{f:Addr->Prop} (h:f a):Sx.ptr (some a) f:=h
theorem Mk {f:Bool->Prop} (h:f true):Sx.isNil .nilIface f:=h
theorem qp {t:TypeId}{v:Value}{f:Bool->Prop} (h:f false):Sx.isNil (.iface t v) f:=h
theorem ix1 (o n:Nat):o+((n:Nat):Int).toNat * 1=o+n:=by omega
section rows
variable {α:Type}{f:α->List Value}{n:Nat}{l:List α}
def rows (f:α->List Value) (l:List α):Array Value:=(l.flatMap f).toArray
theorem Ml:∀ {l:List α},(∀ x ∈ l,(f x).length=n)->(l.flatMap f).length=l.length * n
 | [],_=>by simp
 | x::l,h=>by
  rw[List.flatMap_cons,List.length_append,h x (by simp),Ml (λ y hy=>h y (by simp [hy])),List.length_cons,Nat.add_mul];omega
theorem Hg:∀ {l:List α},(∀ x ∈ l,(f x).length=n)->∀ (j i:Nat) (x:α),l[j]?=some x->i<n->(l.flatMap f)[j * n+i]?=(f x)[i]?
 | [],_,j,i,x,hx,_=>by simp at hx
 | y::l,h,0,i,x,hx,hi=>by
  simp at hx;subst hx;rw[List.flatMap_cons,Nat.zero_mul,Nat.zero_add,List.getElem?_append_left (by rw[h y (by simp)];exact hi)]
 | y::l,h,j+1,i,x,hx,hi=>by
  rw[List.flatMap_cons,Nat.add_mul,Nat.one_mul,List.getElem?_append_right (by rw[h y (by simp)];omega),h y (by simp)];rw[show j * n+n+i - n=j * n+i by omega];exact Hg (λ z hz=>h z (by simp [hz])) j i x (by simpa using hx) hi
theorem Eg {w:World}{e:TypeId}{p:Option Addr}{m c:Nat} (h:Sl w e n (.slice p m c) m (l.flatMap f)) (hf:∀ x ∈ l,(f x).length=n){j:Nat}{x:α} (hx:l[j]?=some x) (hn:0<n) :
  j<m/\∃ g off,p=some ⟨g,off,none⟩/\cellsAt w ⟨g,off+j * n,none⟩ (f x).toArray:=by
 obtain⟨hl,h⟩:=h;rw[Ml hf] at hl;have hm:l.length=m:=Nat.eq_of_mul_eq_mul_right hn hl;have hj:j<l.length:=(List.getElem?_eq_some_iff.1 hx).1;refine⟨by omega,?_⟩;rcases h with ⟨h,rfl⟩ | ⟨g,off,cap,cur,hv,hb,h1,h2,h3,h4⟩
 ·omega
 ·cases hv;refine⟨g,off,rfl,cellsAt_of_blk hb _ λ i v hi=>?_⟩
  have hi':i<n:=by
   have:=(Array.getElem?_eq_some_iff.1 hi).1;simpa [hf x (List.mem_of_getElem? hx)] using this
  have h5:=Hg hf j i x hx hi';rw[<- h4,List.getElem?_take_of_lt,List.getElem?_drop] at h5
  ·rw[<- Array.getElem?_toList,Nat.add_assoc,h5];simpa using hi
  ·have:=Nat.mul_le_mul_right n (show j+1≤m by omega);rw[Nat.add_mul] at this;omega
end rows
end Go.Sep
namespace Go.Bits
open Go.Sx
theorem n64 {x:Nat} (h:x<9223372036854775808):IntKind.wrap .i64 (x:Int)=x:=w64 (by omega) (by omega)
theorem n32 {x:Nat} (h:x<4294967296):IntKind.wrap .u32 (x:Int)=x:=w32 (by omega) (by omega)
theorem m8 (x:Nat):IntKind.wrap .u8 (x:Int)=((x % 256:Nat):Int):=by rw[w8];omega
theorem shr (x n:Nat):Int.fdiv (x:Int) (2 ^ n)=((x / 2 ^ n:Nat):Int):=by
 rw[Int.fdiv_eq_ediv_of_nonneg _ (Int.pow_nonneg (by decide))];simp
theorem tmod (a b:Nat):Int.tmod (a:Int) (b:Int)=((a % b:Nat):Int):=rfl
theorem tdiv (a b:Nat):Int.tdiv (a:Int) (b:Int)=((a / b:Nat):Int):=rfl
end Go.Bits
namespace Go.Proofs
open Go.Shelf
def Tryz.lays137_ren:Go.Shelf.Ren:=⟨λ | 137=>47 | 217=>83 | 266=>106 | n=>n,λ | 9=>9 | 5=>5 | 3=>3 | n=>n,λ | n=>n⟩
theorem Tryz.lays137:Go.Proofs.Lays.n137 Tryz.prog Tryz.lays137_ren:={
 mixed:=by kernel_rfl
 f137:=Tryz.func47.trans (congrArg some (by kernel_rfl))
 f217:=Tryz.func83.trans (congrArg some (by kernel_rfl))
 f266:=Tryz.func106.trans (congrArg some (by kernel_rfl))
 t3:=Tryz.underlying3
 a3:=Tryz.isAgg3
 z3:=Tryz.sizeOf3
 v3:=Tryz.zeroValue3
 t5:=Tryz.underlying5
 a5:=Tryz.isAgg5
 z5:=Tryz.sizeOf5
 v5:=Tryz.zeroValue5
 t9:=Tryz.underlying9
 a9:=Tryz.isAgg9
 z9:=Tryz.sizeOf9
 v9:=Tryz.zeroValue9 }
open Go.RowKit in
theorem Tryz.strings_IndexByte (s:ByteArray) (c:Int) (w:World) :
  Calls Tryz.prog 47 #[.string s,.int .u8 c] w λ e w'=>e= .returned (.int .i64 (Lib.indexByte s.data.toList c.toNat.toUInt8))/\w'=w:=Any.strings_IndexByte Tryz.lays137 s c w
open Go.Lib in
open Go.RowKit Go.Sort Go.Lib in
def Tryz.laysPu14_ren:Go.Shelf.Ren:=⟨λ | 14=>92 | 16=>108 | 17=>109 | 19=>122 | 20=>123 | 21=>124 | 22=>125 | 23=>126 | 24=>127 | 25=>139 | 27=>141 | 26=>140 | 28=>170 | 29=>176 | 30=>177 | 31=>178 | 32=>179 | 33=>180 | 35=>182 | 34=>181 | 36=>183 | 37=>184 | 38=>185 | 39=>186 | 40=>187 | n=>n,λ | 9=>9 | 3=>3 | 22=>204 | 24=>23 | 25=>205 | 4=>4 | 34=>234 | 5=>5 | 36=>236 | 37=>67 | 0=>0 | 39=>237 | 21=>21 | 44=>253 | 47=>261 | 50=>264 | 48=>262 | 2=>2 | 52=>268 | 55=>271 | 59=>275 | 60=>32 | 20=>20 | 61=>276 | 65=>280 | 66=>281 | 67=>144 | n=>n,λ | 0=>2 | 1=>3 | 2=>4 | 3=>5 | 4=>6 | n=>n⟩
theorem Tryz.laysPu14:Go.Proofs.LaysPu.n14 Tryz.prog Tryz.laysPu14_ren:={
 mixed:=by kernel_rfl
 f14:=Tryz.func92.trans (congrArg some (by kernel_rfl))
 f16:=Tryz.func108.trans (congrArg some (by kernel_rfl))
 f17:=Tryz.func109.trans (congrArg some (by kernel_rfl))
 f19:=Tryz.func122.trans (congrArg some (by kernel_rfl))
 f20:=Tryz.func123.trans (congrArg some (by kernel_rfl))
 f21:=Tryz.func124.trans (congrArg some (by kernel_rfl))
 f22:=Tryz.func125.trans (congrArg some (by kernel_rfl))
 f23:=Tryz.func126.trans (congrArg some (by kernel_rfl))
 f24:=Tryz.func127.trans (congrArg some (by kernel_rfl))
 f25:=Tryz.func139.trans (congrArg some (by kernel_rfl))
 f26:=Tryz.func140.trans (congrArg some (by kernel_rfl))
 f27:=Tryz.func141.trans (congrArg some (by kernel_rfl))
 f28:=Tryz.func170.trans (congrArg some (by kernel_rfl))
 f29:=Tryz.func176.trans (congrArg some (by kernel_rfl))
 f30:=Tryz.func177.trans (congrArg some (by kernel_rfl))
 f31:=Tryz.func178.trans (congrArg some (by kernel_rfl))
 f32:=Tryz.func179.trans (congrArg some (by kernel_rfl))
 f33:=Tryz.func180.trans (congrArg some (by kernel_rfl))
 f34:=Tryz.func181.trans (congrArg some (by kernel_rfl))
 f35:=Tryz.func182.trans (congrArg some (by kernel_rfl))
 f36:=Tryz.func183.trans (congrArg some (by kernel_rfl))
 f37:=Tryz.func184.trans (congrArg some (by kernel_rfl))
 f38:=Tryz.func185.trans (congrArg some (by kernel_rfl))
 f39:=Tryz.func186.trans (congrArg some (by kernel_rfl))
 f40:=Tryz.func187.trans (congrArg some (by kernel_rfl))
 t0:=Tryz.underlying0
 a0:=Tryz.isAgg0
 z0:=Tryz.sizeOf0
 v0:=Tryz.zeroValue0
 i0:=by kernel_rfl
 t2:=Tryz.underlying2
 a2:=Tryz.isAgg2
 z2:=Tryz.sizeOf2
 v2:=Tryz.zeroValue2
 i2:=by kernel_rfl
 t3:=Tryz.underlying3
 a3:=Tryz.isAgg3
 z3:=Tryz.sizeOf3
 v3:=Tryz.zeroValue3
 i3:=by kernel_rfl
 t4:=Tryz.underlying4
 a4:=Tryz.isAgg4
 z4:=Tryz.sizeOf4
 v4:=Tryz.zeroValue4
 i4:=by kernel_rfl
 t5:=Tryz.underlying5
 a5:=Tryz.isAgg5
 z5:=Tryz.sizeOf5
 v5:=Tryz.zeroValue5
 i5:=by kernel_rfl
 t9:=Tryz.underlying9
 a9:=Tryz.isAgg9
 z9:=Tryz.sizeOf9
 v9:=Tryz.zeroValue9
 i9:=by kernel_rfl
 t20:=Tryz.underlying20
 a20:=Tryz.isAgg20
 z20:=Tryz.sizeOf20
 v20:=Tryz.zeroValue20
 i20:=by kernel_rfl
 t21:=Tryz.underlying21
 a21:=Tryz.isAgg21
 z21:=Tryz.sizeOf21
 v21:=Tryz.zeroValue21
 i21:=by kernel_rfl
 t22:=Tryz.underlying204
 a22:=Tryz.isAgg204
 z22:=Tryz.sizeOf204
 v22:=Tryz.zeroValue204
 i22:=by kernel_rfl
 t24:=Tryz.underlying23
 a24:=Tryz.isAgg23
 z24:=Tryz.sizeOf23
 v24:=Tryz.zeroValue23
 i24:=by kernel_rfl
 t25:=Tryz.underlying205
 a25:=Tryz.isAgg205
 z25:=Tryz.sizeOf205
 v25:=Tryz.zeroValue205
 i25:=by kernel_rfl
 t34:=Tryz.underlying234
 a34:=Tryz.isAgg234
 z34:=Tryz.sizeOf234
 v34:=Tryz.zeroValue234
 i34:=by kernel_rfl
 c34:=by kernel_rfl
 t36:=Tryz.underlying236
 a36:=Tryz.isAgg236
 z36:=Tryz.sizeOf236
 v36:=Tryz.zeroValue236
 i36:=by kernel_rfl
 t37:=Tryz.underlying67
 a37:=Tryz.isAgg67
 z37:=Tryz.sizeOf67
 v37:=Tryz.zeroValue67
 i37:=by kernel_rfl
 t39:=Tryz.underlying237
 a39:=Tryz.isAgg237
 z39:=Tryz.sizeOf237
 v39:=Tryz.zeroValue237
 i39:=by kernel_rfl
 t44:=Tryz.underlying253
 a44:=Tryz.isAgg253
 z44:=Tryz.sizeOf253
 v44:=Tryz.zeroValue253
 i44:=by kernel_rfl
 t47:=Tryz.underlying261
 a47:=Tryz.isAgg261
 z47:=Tryz.sizeOf261
 v47:=Tryz.zeroValue261
 i47:=by kernel_rfl
 t48:=Tryz.underlying262
 a48:=Tryz.isAgg262
 z48:=Tryz.sizeOf262
 v48:=Tryz.zeroValue262
 i48:=by kernel_rfl
 t50:=Tryz.underlying264
 a50:=Tryz.isAgg264
 z50:=Tryz.sizeOf264
 v50:=Tryz.zeroValue264
 i50:=by kernel_rfl
 t52:=Tryz.underlying268
 a52:=Tryz.isAgg268
 z52:=Tryz.sizeOf268
 v52:=Tryz.zeroValue268
 i52:=by kernel_rfl
 t55:=Tryz.underlying271
 a55:=Tryz.isAgg271
 z55:=Tryz.sizeOf271
 v55:=Tryz.zeroValue271
 i55:=by kernel_rfl
 t59:=Tryz.underlying275
 a59:=Tryz.isAgg275
 z59:=Tryz.sizeOf275
 v59:=Tryz.zeroValue275
 i59:=by kernel_rfl
 t60:=Tryz.underlying32
 a60:=Tryz.isAgg32
 z60:=Tryz.sizeOf32
 v60:=Tryz.zeroValue32
 i60:=by kernel_rfl
 t61:=Tryz.underlying276
 a61:=Tryz.isAgg276
 z61:=Tryz.sizeOf276
 t65:=Tryz.underlying280
 a65:=Tryz.isAgg280
 z65:=Tryz.sizeOf280
 v65:=Tryz.zeroValue280
 i65:=by kernel_rfl
 t66:=Tryz.underlying281
 a66:=Tryz.isAgg281
 z66:=Tryz.sizeOf281
 v66:=Tryz.zeroValue281
 i66:=by kernel_rfl
 t67:=Tryz.underlying144
 a67:=Tryz.isAgg144
 z67:=Tryz.sizeOf144
 v67:=Tryz.zeroValue144
 i67:=by kernel_rfl
 g0:=by kernel_rfl
 m0:=by kernel_rfl
 g1:=by kernel_rfl
 m1:=by kernel_rfl
 g2:=by kernel_rfl
 m2:=by kernel_rfl
 g3:=by kernel_rfl
 m3:=by kernel_rfl
 g4:=by kernel_rfl
 m4:=by kernel_rfl }
open Go.RowKit in
theorem Tryz.strconv_ParseUint_10_at32_ok (s:ByteArray) (hmax:s.size≤9223372036854775806) (u:Nat) (h:Lib.parseUintB 32 s.data.toList= .ok u) (w:World) :
  Calls Tryz.prog 92 #[.string s,.int .i64 10,.int .i64 32] w λ e w'=>e= .returned (.tuple #[.int .u64 u,.nilIface])/\(w'=w∨w'=Lib.bytesWorld w 5 s):=Any.strconv_ParseUint_10_at32_ok Tryz.laysPu14 s hmax u h w
open Go.RowKit in
theorem Tryz.strconv_ParseUint_10_at32_range (s:ByteArray) (hlim:s.size≤281474976710656) (h:Lib.parseUintB 32 s.data.toList= .range) (ev:Value) (w:World) (hv:w.cell? ⟨3,0,none⟩=some ev) (hev:ev= .nilIface∨∃ te pe,ev= .iface te pe) :
  Calls Tryz.prog 92 #[.string s,.int .i64 10,.int .i64 32] w λ e w'=>∃ N,e= .returned (.tuple #[.int .u64 4294967295,.iface 237 (.pointer (some ⟨N,0,none⟩))])/\w.heap.size≤N/\w'.heap[N]?=some (.cells #[.string ⟨#[80,97,114,115,101,85,105,110,116]⟩,.string s,ev] 253 (0,0))/\Below w.heap.size w w':=Any.strconv_ParseUint_10_at32_range Tryz.laysPu14 s hlim h ev w hv hev
open Go.RowKit in
open Go.RowKit Go.Lib in
def Tryz.laysGw15_ren:Go.Shelf.Ren:=⟨λ | 15=>84 | 20=>107 | n=>n,λ | 9=>9 | 23=>201 | 3=>3 | 4=>4 | 0=>0 | 21=>21 | n=>n,λ | n=>n⟩
theorem Tryz.laysGw15:Go.Proofs.LaysGw.n15 Tryz.prog Tryz.laysGw15_ren:={
 mixed:=by kernel_rfl
 f15:=Tryz.func84.trans (congrArg some (by kernel_rfl))
 f20:=Tryz.func107.trans (congrArg some (by kernel_rfl))
 t0:=Tryz.underlying0
 a0:=Tryz.isAgg0
 z0:=Tryz.sizeOf0
 v0:=Tryz.zeroValue0
 i0:=by kernel_rfl
 t3:=Tryz.underlying3
 a3:=Tryz.isAgg3
 z3:=Tryz.sizeOf3
 v3:=Tryz.zeroValue3
 i3:=by kernel_rfl
 t4:=Tryz.underlying4
 a4:=Tryz.isAgg4
 z4:=Tryz.sizeOf4
 v4:=Tryz.zeroValue4
 i4:=by kernel_rfl
 t9:=Tryz.underlying9
 a9:=Tryz.isAgg9
 z9:=Tryz.sizeOf9
 v9:=Tryz.zeroValue9
 i9:=by kernel_rfl
 t21:=Tryz.underlying21
 a21:=Tryz.isAgg21
 z21:=Tryz.sizeOf21
 v21:=Tryz.zeroValue21
 i21:=by kernel_rfl
 t23:=Tryz.underlying201
 a23:=Tryz.isAgg201
 z23:=Tryz.sizeOf201
 v23:=Tryz.zeroValue201
 i23:=by kernel_rfl }
open Go.RowKit Go.Lib in
theorem Tryz.strings_IndexFunc (g:Nat) (lb:Array Value) (eg:∀ args w,(callFunc g args).run Tryz.prog w= .ok (.enter g args) w) (p:Nat->Bool) (s:ByteArray) (w:World) (hp:PredAt Tryz.prog g lb encR p w) :
  Calls Tryz.prog 84 #[.string s,.func (.func g) #[] lb] w λ e w'=>e= .returned (.int .i64 (Lib.idxFunc p true s))/\Below w.heap.size w w':=Any.strings_IndexFunc Tryz.laysGw15 g lb eg p s w hp
open Go.RowKit Go.Lib in
def Tryz.lays99_ren:Go.Shelf.Ren:=⟨λ | 99=>46 | 206=>82 | n=>n,λ | 9=>9 | 4=>4 | 3=>3 | n=>n,λ | n=>n⟩
theorem Tryz.lays99:Go.Proofs.Lays.n99 Tryz.prog Tryz.lays99_ren:={
 mixed:=by kernel_rfl
 f99:=Tryz.func46.trans (congrArg some (by kernel_rfl))
 f206:=Tryz.func82.trans (congrArg some (by kernel_rfl))
 t3:=Tryz.underlying3
 a3:=Tryz.isAgg3
 z3:=Tryz.sizeOf3
 v3:=Tryz.zeroValue3
 t4:=Tryz.underlying4
 a4:=Tryz.isAgg4
 z4:=Tryz.sizeOf4
 v4:=Tryz.zeroValue4
 t9:=Tryz.underlying9
 a9:=Tryz.isAgg9
 z9:=Tryz.sizeOf9
 v9:=Tryz.zeroValue9 }
open Go.RowKit Go.Lib in
theorem Tryz.strings_HasPrefix (s p:ByteArray) (w:World) :
  Calls Tryz.prog 46 #[.string s,.string p] w λ e w'=>e= .returned (.bool (Lib.hasPrefix s.data.toList p.data.toList))/\w'=w:=Any.strings_HasPrefix Tryz.lays99 s p w
end Go.Proofs
