/- A part of the walk. No condition. -/
import Derived.Test.YtmncepdbglaphaaGreatDoorSxH
import Derived.Laws.OwnMore
import Derived.Shelf.Spec.SlicesInsert
import Derived.Shelf.Spec.SlicesInsertGrow
set_option linter.unusedVariables false
namespace Go.Sep
open Go.RowKit Go.XHeap Go.Sx
structure Asn where
 own:Nat->Prop
 at_:wD->Prop
 keep:∀ {T:Nat->Prop} {w w':wD},at_ w->XTouch T w w'->(∀ k,own k->¬ T k)->at_ w'
 lt:∀ {w:wD},at_ w->∀ k,own k->k<w.heap.size
def emp:Asn:=⟨λ _=>False,λ _=>True,λ _ _ _=>trivial,λ _ _ h=>h.elim⟩
def blk (b:Nat) (cs:AV) (t:TI):Asn:=⟨λ k=>k=b,λ w=>Blk w b cs t,λ h ht hn=>Blk.keep h ht (hn b rfl),λ h k e=>by subst e;exact Blk.lt h⟩
def sl (e:TI) (size:Nat) (v:Value) (n:Nat) (xs:LV):Asn:=⟨λ k=>v.ownBlock=some k,λ w=>Sl w e size v n xs,λ h ht hn=>Sl.keep h ht hn,λ h=>Sl.lt h⟩
def mp (κ:IntKind) (b:Nat) (f:Int->Option Value):Asn:=⟨λ k=>k=b,λ w=>Mp w κ b f,λ h ht hn=>Mp.keep h ht (hn b rfl),λ h k e=>by subst e;exact Mp.lt h⟩
def owns:List Asn->Nat->Prop
 | [],_=>False
 | A::L,k=>A.own k∨owns L k
def here:List Asn->wD->Prop
 | [],_=>True
 | A::L,w=>A.at_ w/\(∀ k,A.own k->¬ owns L k)/\here L w
variable {A A' B:Asn}{L L':List Asn}{w w0 w':wD}{M:Nat->Prop}{b:Nat}{cs:AV}{t:TI}
theorem here.keep {T:Nat->Prop}:∀ {L:List Asn},here L w->XTouch T w w'->(∀ k,owns L k->¬ T k)->here L w'
 | [],_,_,_=>trivial
 | A::L,h,ht,hn=>⟨A.keep h.1 ht (λ k hk=>hn k (.inl hk)),h.2.1,here.keep h.2.2 ht (λ k hk=>hn k (.inr hk))⟩
theorem here.lt:∀ {L:List Asn},here L w->∀ k,owns L k->k<w.heap.size
 | [],_,_,h=>h.elim
 | A::L,h,k,hk=>hk.elim (A.lt h.1 k) (here.lt h.2.2 k)
theorem here.nth:∀ {L:List Asn} (k:Nat),here L w->L[k]?=some A->A.at_ w
 | [],_,_,hk=>by simp at hk
 | B::L,0,h,hk=>by simp at hk;subst hk;exact h.1
 | B::L,k+1,h,hk=>here.nth k h.2.2 (by simpa using hk)
theorem owns.nth:∀ {L:List Asn} (k:Nat){q:Nat},L[k]?=some A->A.own q->owns L q
 | [],_,_,hk,_=>by simp at hk
 | B::L,0,q,hk,h=>by simp at hk;subst hk;exact .inl h
 | B::L,k+1,q,hk,h=>.inr (owns.nth k (by simpa using hk) h)
def all (L:List Asn):Asn:=⟨owns L,here L,here.keep,here.lt⟩
theorem owns_append:∀ {L L':List Asn}{k:Nat},owns (L++L') k↔owns L k∨owns L' k
 | [],L',k=>by simp [owns]
 | A::L,L',k=>by simp [owns,owns_append,or_assoc]
theorem here_append:∀ {L L':List Asn},here (L++L') w↔here L w/\here L' w/\∀ k,owns L k->¬ owns L' k
 | [],L'=>by simp [here,owns]
 | A::L,L'=>by
  simp only[qAC,here,owns,here_append,owns_append];constructor
  ·rintro⟨h1,h2,h3,h4,h5⟩;exact⟨⟨h1,λ k hk e=>h2 k hk (.inl e),h3⟩,h4,λ k hk e=>hk.elim (λ hk=>h2 k hk (.inr e)) (λ hk=>h5 k hk e)⟩
  ·rintro⟨⟨h1,h2,h3⟩,h4,h5⟩;exact⟨h1,λ k hk e=>e.elim (h2 k hk) (h5 k (.inl hk)),h3,h4,λ k hk=>h5 k (.inr hk)⟩
theorem ny:∀ {L:List Asn} (k:Nat){q:Nat},owns (L.set k A') q->A'.own q∨owns L q
 | [],_,_,h=>by simp [owns] at h
 | B::L,0,q,h=>by
  rcases h with h | h
  ·exact .inl h
  ·exact .inr (.inr h)
 | B::L,k+1,q,h=>by
  rcases h with h | h
  ·exact .inr (.inl h)
  ·exact(ny k h).imp id .inr
theorem here.upd (ht:XTouch A.own w w') (h':A'.at_ w') (ho:∀ q,A'.own q->A.own q∨w.heap.size≤q):∀ {L:List Asn} (k:Nat),here L w->L[k]?=some A->here (L.set k A') w'
 | [],_,_,hk=>by simp at hk
 | B::L,0,h,hk=>by
  simp at hk;subst hk;refine⟨h',λ q hq e=>?_,h.2.2.keep ht (λ q hq e=>h.2.1 q e hq)⟩;rcases ho q hq with e1 | e1
  ·exact h.2.1 q e1 e
  ·have:=h.2.2.lt q e;omega
 | B::L,k+1,h,hk=>by
  have hk':L[k]?=some A:=by simpa using hk
  refine⟨B.keep h.1 ht (λ q hq e=>h.2.1 q hq (owns.nth k hk' e)),λ q hq e=>?_,here.upd ht h' ho k h.2.2 hk'⟩;rcases ny k e with e1 | e1
  ·rcases ho q e1 with e2 | e2
   ·exact h.2.1 q hq (owns.nth k hk' e2)
   ·have:=B.lt h.1 q hq;omega
  ·exact h.2.1 q hq e1
def Post (A:Asn) (w:wD) (A':Asn) (w':wD):Prop:=A'.at_ w'/\XTouch A.own w w'/\∀ q,A'.own q->A.own q∨w.heap.size≤q
def ba (w w':wD):Prop:=XTouch (λ _=>False) w w'
theorem owns_iff {L:List Asn}{q:Nat}:owns L q↔∃ (i:Nat) (A:Asn),L[i]?=some A/\A.own q:=by
 induction L with
 | nil=>simp [owns]
 | cons B L ih =>
  simp only[owns,ih];constructor
  ·rintro(h | ⟨i,A,h,hq⟩)
   ·exact⟨0,B,rfl,h⟩
   ·exact⟨i+1,A,by simpa using h,hq⟩
  ·rintro⟨i,A,h,hq⟩
   match i,h with
   | 0,h=>simp at h;subst h;exact .inl hq
   | i+1,h=>exact .inr ⟨i,A,by simpa using h,hq⟩
theorem Gr {i:Nat} (h:here L w) (hi:L[i]?=some A) (hp:Post A w A' w'):Post (all L) w (all (L.set i A')) w':=by
 refine⟨here.upd hp.2.1 hp.1 hp.2.2 i h hi,hp.2.1.mono (λ q _ e=>owns.nth i hi e),λ q hq=>?_⟩;rcases ny i hq with e | e
 ·exact(hp.2.2 q e).imp (owns.nth i hi) id
 ·exact .inl e
theorem Io (h:Blk w b cs t) (i:Nat) (v:Value):Post (blk b cs t) w (blk b (cs.setIfInBounds i v) t) (w.setCell ⟨b,i,none⟩ v) :=
 ⟨h.set i v,(qH (λ k=>k=b) w).setCell (p:=⟨b,i,none⟩) (.inl rfl) v,λ q e=>.inl e⟩
theorem Oe (h:Blk w b cs t) (o:Nat) (vs:LV) (hl:o+vs.length≤cs.size):Post (blk b cs t) w (blk b (bv cs o vs) t) (w.setCells b o vs) :=
 ⟨cv vs w cs o h hl,bh vs w o,λ q e=>.inl e⟩
structure St (w0:wD) (M:Nat->Prop) (w:wD) (L:List Asn):Prop where
 touch:XTouch M w0 w
 mine:∀ k,owns L k->M k∨w0.heap.size≤k
 here:here L w
namespace St
theorem begin (h:A.at_ w):St w A.own w [A]:=⟨qH _ _,λ k hk=>.inl (hk.elim id (λ e=>e.elim)),⟨h,λ _ _ e=>e,trivial⟩⟩
theorem nil (w:wD):St w (λ _=>False) w []:=⟨qH _ _,λ k hk=>hk.elim,trivial⟩
theorem all_ (h:Sep.here L w):St w (owns L) w L:=⟨qH _ _,λ k hk=>.inl hk,h⟩
theorem nth (H:St w0 M w L) (k:Nat) (hk:L[k]?=some A):A.at_ w:=H.here.nth k hk
theorem blk (H:St w0 M w L) (k:Nat){b:Nat}{cs:AV}{t:TI} (hk:L[k]?=some (Sep.blk b cs t)):Blk w b cs t:=H.here.nth k hk
theorem ld (H:St w0 M w L) (k:Nat){b i:Nat}{cs:AV}{t:TI}{v:Value} (hk:L[k]?=some (Sep.blk b cs t)) (hv:cs[i]?=some v):w.cell? ⟨b,i,none⟩=some v:=(H.blk k hk).cell' hv
theorem size (H:St w0 M w L):w0.heap.size≤w.heap.size:=H.touch.size
theorem upd (H:St w0 M w L) (k:Nat) (hk:L[k]?=some A) (h:Post A w A' w'):St w0 M w' (L.set k A'):=by
 refine⟨H.touch.trans h.2.1 (λ q hq e=>?_),λ q hq=>?_,H.here.upd h.2.1 h.1 h.2.2 k hk⟩
 ·rcases H.mine q (owns.nth k hk e) with e1 | e1
  ·exact e1
  ·omega
 ·rcases ny k hq with e1 | e1
  ·rcases h.2.2 q e1 with e2 | e2
   ·exact H.mine q (owns.nth k hk e2)
   ·have:=H.size;exact .inr (by omega)
  ·exact H.mine q e1
theorem quiet (H:St w0 M w L) (h:ba w w'):St w0 M w' L:=⟨H.touch.trans h (λ q _ e=>e.elim),H.mine,H.here.keep h (λ _ _ e=>e)⟩
theorem drew (H:St w0 M w L):St w0 M w.drew L:=H.quiet (qH _ w).drew
theorem drewN (H:St w0 M w L) (n:Nat):St w0 M (w.drewN n) L:=H.quiet ((qH _ w).drewN n)
theorem add (H:St w0 M w L) (h:Post emp w A w'):St w0 M w' (L++[A]):=by
 have hT:XTouch (λ _=>False) w w':=h.2.1;refine⟨H.touch.trans hT (λ q _ e=>e.elim),λ q hq=>?_,here_append.2 ⟨H.here.keep hT (λ _ _ e=>e),⟨h.1,λ _ _ e=>e,trivial⟩,λ q hq e=>?_⟩⟩
 ·rcases owns_append.1 hq with e | e | e
  ·exact H.mine q e
  ·have:=H.size;exact(h.2.2 q e).elim (λ e=>e.elim) (λ e=>.inr (by omega))
  ·exact e.elim
 ·rcases e with e | e
  ·have:=H.here.lt q hq;exact(h.2.2 q e).elim (λ e=>e.elim) (λ e=>by omega)
  ·exact e
theorem alloc (H:St w0 M w L) (cs:AV) (t:TI):St w0 M (w.alloc (.cells cs t)) (L++[Sep.blk w.heap.size cs t]) :=
 H.add ⟨Blk.new w cs t,(qH _ w).alloc _,λ q e=>.inr (by rw[show q=w.heap.size from e];exact qY _)⟩
theorem wr (H:St w0 M w L) (k:Nat){b:Nat}{cs:AV}{t:TI} (hk:L[k]?=some (Sep.blk b cs t)) (i:Nat) (v:Value):St w0 M (w.setCell ⟨b,i,none⟩ v) (L.set k (Sep.blk b (cs.setIfInBounds i v) t)) :=
 H.upd k hk ⟨(H.blk k hk).set i v,(qH (λ k=>k=b) w).setCell (p:=⟨b,i,none⟩) (.inl rfl) v,λ q e=>.inl e⟩
theorem wrs (H:St w0 M w L) (k:Nat){b:Nat}{cs:AV}{t:TI} (hk:L[k]?=some (Sep.blk b cs t)) (o:Nat) (vs:LV) (hl:o+vs.length≤cs.size):St w0 M (w.setCells b o vs) (L.set k (Sep.blk b (bv cs o vs) t)) :=
 H.upd k hk ⟨cv vs w cs o (H.blk k hk) hl,bh vs w o,λ q e=>.inl e⟩
variable {i:Nat}
theorem al (H:St w0 M w L){cs:AV}{t:TI}{φ:Nat->wD->Prop} (hq:∀ k w',St w0 M w' (L++[Sep.blk k cs t])->φ k w'):∀ k:Nat,∀ w':wD,k=w.heap.size->w'=w.alloc (.cells cs t)->φ k w':=by
 rintro k w' rfl rfl;exact hq _ _ (H.alloc cs t)
theorem alb (H:St w0 M w L){cs:AV}{t:TI}{φ:Nat->wD->Prop} (hq:∀ k w',St w0 M w' (L++[Sep.blk k cs t])->w0.heap.size≤k->Below w.heap.size w w'->φ k w'):∀ k:Nat,∀ w':wD,k=w.heap.size->w'=w.alloc (.cells cs t)->φ k w':=by
 rintro k w' rfl rfl;exact hq _ _ (H.alloc cs t) H.size ((Below.refl _ _).alloc (qY _) _)
theorem dr (H:St w0 M w L){φ:wD->Prop} (hq:∀ w',St w0 M w' L->φ w'):∀ w':wD,w'=w.drew->φ w':=by
 rintro w' rfl;exact hq _ H.drew
theorem drN (H:St w0 M w L){φ:wD->Prop} (hq:∀ w',St w0 M w' L->φ w'):∀ (w':wD) (m:Nat),w'=w.drewN m->φ w':=by
 rintro w' m rfl;exact hq _ (H.drewN m)
theorem st (H:St w0 M w L) (k:Nat) (hk:L[k]?=some (Sep.blk b cs t)){v:Value}{φ:wD->Prop} (hi:i<cs.size) (hq:∀ w',St w0 M w' (L.set k (Sep.blk b (cs.setIfInBounds i v) t))->φ w') :
  (∃ u,w.cell? ⟨b,i,none⟩=some u)/\w.frozen? ⟨b,i,none⟩=false/\∀ w',w'=w.setCell ⟨b,i,none⟩ v->φ w':=by
 refine⟨⟨_,(H.blk k hk).cell' (qh hi)⟩,(H.blk k hk).frozen i,?_⟩;rintro w' rfl;exact hq _ (H.wr k hk i v)
theorem sts (H:St w0 M w L) (k:Nat) (hk:L[k]?=some (Sep.blk b cs t)){o n:Nat}{vs:AV}{φ:wD->Prop} (hv:vs.size=n) (hi:o+n≤cs.size) (h1:∀ v ∈ vs.toList,v.oneCell'=true)
  (hq:∀ w',St w0 M w' (L.set k (Sep.blk b (bv cs o vs.toList) t))->φ w') :
  vs.size=n/\(∀ j:Nat,j<n->(∃ v,w.cell? ⟨b,o+j,none⟩=some v)/\w.frozen? ⟨b,o+j,none⟩=false)/\(∀ v:Value,v ∈ vs.toList->v.oneCell'=true)/\∀ w':wD,w'=w.setCells b o vs.toList->φ w':=by
 refine⟨hv,λ j hj=>⟨⟨_,(H.blk k hk).cell' (qh (by omega))⟩,(H.blk k hk).frozen _⟩,h1,?_⟩;rintro w' rfl;exact hq _ (H.wrs k hk o vs.toList (by rw[Array.length_toList];omega))
theorem Gs {cs vs:AV} (h:vs.size=cs.size):bv cs 0 vs.toList=vs:=by
 rw[zv _ _ (by simpa using h)]
theorem sts0 (H:St w0 M w L) (k:Nat) (hk:L[k]?=some (Sep.blk b cs t)){n:Nat}{vs:AV}{φ:wD->Prop} (hv:vs.size=n) (hi:cs.size=n) (h1:∀ v ∈ vs.toList,v.oneCell'=true)
  (hq:∀ w',St w0 M w' (L.set k (Sep.blk b vs t))->φ w') :
  vs.size=n/\(∀ j:Nat,j<n->(∃ v,w.cell? ⟨b,0+j,none⟩=some v)/\w.frozen? ⟨b,0+j,none⟩=false)/\(∀ v:Value,v ∈ vs.toList->v.oneCell'=true)/\∀ w':wD,w'=w.setCells b 0 vs.toList->φ w':=by
 refine H.sts k hk hv (by omega) h1 ?_;rw[Gs (by omega)];exact hq
theorem cells (H:St w0 M w L) (k:Nat) (hk:L[k]?=some (Sep.blk b cs t)):cellsAt w ⟨b,0,none⟩ cs:=fv (H.blk k hk)
theorem lds (H:St w0 M w L) (k:Nat) (hk:L[k]?=some (Sep.blk b cs t)){o:Nat}{vs:AV} (hv:∀ j u,vs[j]?=some u->cs[o+j]?=some u):cellsAt w ⟨b,o,none⟩ vs:=jt (H.blk k hk) vs hv
variable {P:Program}{f:FuncId}{args:AV}{Q:Ending->wD->Prop}{E:Ending}
theorem mkm (H:St w0 M w L) (κ:IntKind){φ:Nat->wD->Prop} (hq:∀ k w',St w0 M w' (L++[Sep.mp κ k λ _=>none])->φ k w'):∀ k:Nat,∀ w':wD,k=w.heap.size->w'=w.alloc (.map #[] 0)->φ k w':=by
 rintro k w' rfl rfl;exact hq _ _ (H.add ⟨Mp.new w κ,(qH _ w).alloc _,λ q e=>.inr (by rw[show q=w.heap.size from e];exact qY _)⟩)
theorem look (H:St w0 M w L) (k:Nat){κ:IntKind}{f:Int->Option Value} (hk:L[k]?=some (Sep.mp κ b f)):Mp w κ b f:=H.here.nth k hk
theorem put (H:St w0 M w L) (k:Nat){κ:IntKind}{f:Int->Option Value} (hk:L[k]?=some (Sep.mp κ b f)){x:Int}{v:Option Value}{φ:wD->Prop} (hq:∀ w',St w0 M w' (L.set k (Sep.mp κ b (Sx.upd f x v)))->φ w'):∀ w':wD,Mp w' κ b (Sx.upd f x v)->XTouch (λ q=>q=b) w w'->φ w' :=
 λ w' h1 h2=>hq w' (H.upd k hk ⟨h1,h2,λ q e=>.inl e⟩)
theorem call (H:St w0 M w L) (k:Nat) (hk:L[k]?=some A) (hc:Calls P f args w λ e w'=>e=E/\Post A w A' w') (hq:∀ w',St w0 M w' (L.set k A')->Q E w'):Calls P f args w Q :=
 hc.mono λ e w' h=>by rw[h.1];exact hq _ (H.upd k hk h.2)
theorem callx (H:St w0 M w L){α:Type}{E:α->Ending}{A':α->Asn} (k:Nat) (hk:L[k]?=some A) (hc:Calls P f args w λ e w'=>∃ x,e=E x/\Post A w (A' x) w') (hq:∀ x w',St w0 M w' (L.set k (A' x))->Q (E x) w'):Calls P f args w Q :=
 hc.mono λ e w' ⟨x,h⟩=>by rw[h.1];exact hq _ _ (H.upd k hk h.2)
theorem calln (H:St w0 M w L){α:Type}{E:α->Ending}{A':α->Asn} (hc:Calls P f args w λ e w'=>∃ x,e=E x/\Post emp w (A' x) w') (hq:∀ x w',St w0 M w' (L++[A' x])->Q (E x) w'):Calls P f args w Q :=
 hc.mono λ e w' ⟨x,h⟩=>by rw[h.1];exact hq _ _ (H.add h.2)
theorem callq (H:St w0 M w L) (hc:Calls P f args w λ e w'=>e=E/\ba w w') (hq:∀ w',St w0 M w' L->Q E w'):Calls P f args w Q :=
 hc.mono λ e w' h=>by rw[h.1];exact hq _ (H.quiet h.2)
theorem callp (H:St w0 M w L) (hc:Calls P f args w λ e w'=>e=E/\w'=w) (hq:Q E w):Calls P f args w Q :=
 hc.mono λ e w' h=>by rw[h.1,h.2];exact hq
theorem quiet' {L:List Asn} (H:St w0 (λ _=>False) w L):ba w0 w:=H.touch
theorem post (H:St w0 A.own w L) (k:Nat) (hk:L[k]?=some A'):Post A w0 A' w:=⟨H.nth k hk,H.touch,λ q hq=>H.mine q (owns.nth k hk hq)⟩
theorem new (H:St w0 (λ _=>False) w L) (k:Nat) (hk:L[k]?=some A'):Post emp w0 A' w:=⟨H.nth k hk,H.touch,λ q hq=>H.mine q (owns.nth k hk hq)⟩
theorem sub (H:St w0 M w (L++L')):St w0 M w L:=⟨H.touch,λ q hq=>H.mine q (owns_append.2 (.inl hq)),(here_append.1 H.here).1⟩
theorem take (H:St w0 M w L) (n:Nat):St w0 M w (L.take n):=St.sub (L':=L.drop n) (by rw[qzB];exact H)
theorem tail (H:St w0 M w (A::L)):St w0 M w L:=⟨H.touch,λ q hq=>H.mine q (.inr hq),H.here.2.2⟩
theorem open_ (H:St w0 M w (all L::L')):St w0 M w (L++L'):=⟨H.touch,λ q hq=>H.mine q (owns_append.1 hq),here_append.2 ⟨H.here.1,H.here.2.2,H.here.2.1⟩⟩
theorem shut (H:St w0 M w (L++L')):St w0 M w (all L::L'):=⟨H.touch,λ q hq=>H.mine q (owns_append.2 hq),let h:=here_append.1 H.here;⟨h.1,h.2.2,h.2.1⟩⟩
theorem push {Ls:List Asn} (H:St w0 M w (all Ls::B::L)):St w0 M w (all (Ls++[B])::L):=by
 refine St.shut ?_;rw[ql];exact St.open_ H
theorem swap (H:St w0 M w (A::B::L)):St w0 M w (B::A::L):=by
 refine⟨H.touch,λ q hq=>H.mine q ?_,H.here.2.2.1,λ q hq e=>?_,H.here.1,λ q hq e=>H.here.2.1 q hq (.inr e),H.here.2.2.2.2⟩
 ·rcases hq with e | e | e
  ·exact .inr (.inl e)
  ·exact .inl e
  ·exact .inr (.inr e)
 ·rcases e with e | e
  ·exact H.here.2.1 q e (.inl hq)
  ·exact H.here.2.2.2.1 q hq e
theorem perm (H:St w0 M w L) (hp:L.Perm L'):St w0 M w L':=by
 have:∀ {L L':List Asn},L.Perm L'->(∀ q,owns L q↔owns L' q)/\(Sep.here L w->Sep.here L' w):=by
  intro L L' hp
  induction hp with
  | nil=>exact⟨λ _=>Iff.rfl,id⟩
  | cons x _ ih=>exact⟨λ q=>or_congr Iff.rfl (ih.1 q),λ h=>⟨h.1,λ q hq e=>h.2.1 q hq ((ih.1 q).2 e),ih.2 h.2.2⟩⟩
  | swap x y l=>exact⟨λ q=>by simp only[owns];exact or_left_comm,λ h=>⟨h.2.2.1,λ q hq e=>e.elim (λ e=>h.2.1 q e (.inl hq)) (h.2.2.2.1 q hq),h.1,λ q hq e=>h.2.1 q hq (.inr e),h.2.2.2.2⟩⟩
  | trans _ _ i1 i2=>exact⟨λ q=>(i1.1 q).trans (i2.1 q),λ h=>i2.2 (i1.2 h)⟩
 exact⟨H.touch,λ q hq=>H.mine q (((this hp).1 q).2 hq),(this hp).2 H.here⟩
theorem front (H:St w0 M w L) (k:Nat) (hk:L[k]?=some A):St w0 M w (A::L.eraseIdx k):=by
 refine H.perm ?_;clear H
 induction L generalizing k with
 | nil=>simp at hk
 | cons B L ih =>
  match k,hk with
  | 0,hk=>simp at hk;subst hk;exact .refl _
  | k+1,hk=>exact((ih k (by simpa using hk)).cons B).trans (.swap _ _ _)
theorem disj {L:List Asn} (h:Sep.here L w):∀ (i j:Nat){A B:Asn},i≠j->L[i]?=some A->L[j]?=some B->∀ q,A.own q->¬ B.own q:=by
 induction L with
 | nil=>intro i j A B _ hi;simp at hi
 | cons C L ih =>
  intro i j A B hn hi hj q hq e
  match i,j with
  | 0,0=>exact hn rfl
  | 0,j+1=>simp at hi;subst hi;exact h.2.1 q hq (owns.nth j (by simpa using hj) e)
  | i+1,0=>simp at hj;subst hj;exact h.2.1 q e (owns.nth i (by simpa using hi) hq)
  | i+1,j+1=>exact ih h.2.2 i j (by omega) (by simpa using hi) (by simpa using hj) q hq e
def sel (L:List Asn):LN->List Asn
 | []=>[]
 | i::is=>match L[i]? with
  | some A=>A::sel L is
  | none=>sel L is
theorem vr:∀ (is:LN){q:Nat},owns (sel L is) q->∃ j ∈ is,∃ B,L[j]?=some B/\B.own q
 | [],q,h=>h.elim
 | i::is,q,h=>by
  unfold sel at h;split at h
  ·rename_i A hA;rcases h with h | h
   ·exact⟨i,by simp,A,hA,h⟩
   ·obtain⟨j,hj,r⟩:=vr is h;exact⟨j,by simp [hj],r⟩
  ·obtain⟨j,hj,r⟩:=vr is h;exact⟨j,by simp [hj],r⟩
theorem Bc (h:Sep.here L w):∀ (is:LN),is.Nodup->Sep.here (sel L is) w
 | [],_=>trivial
 | i::is,hn=>by
  have hn':=qcB.1 hn;unfold sel;split
  ·rename_i A hA;refine⟨h.nth i hA,λ q hq e=>?_,Bc h is hn'.2⟩;obtain⟨j,hj,B,hB,hb⟩:=vr is e;exact disj h i j (λ e=>hn'.1 (e ▸ hj)) hA hB q hq hb
  ·exact Bc h is hn'.2
theorem pick (H:St w0 M w L) (is:LN) (hn:is.Nodup:=by decide):St w0 M w (sel L is) :=
 ⟨H.touch,λ q hq=>by obtain⟨j,_,B,hB,hb⟩:=vr is hq;exact H.mine q (owns.nth j hB hb),Bc H.here is hn⟩
theorem fold {Ls:List Asn} (H:St w0 M w (Ls++L)) (h:Sep.here Ls w->A.at_ w) (ho:∀ q,A.own q->owns Ls q):St w0 M w (A::L):=by
 have h1:=here_append.1 H.here;exact⟨H.touch,λ q hq=>H.mine q (owns_append.2 (hq.imp (ho q) id)),h h1.1,λ q hq=>h1.2.2 q (ho q hq),h1.2.1⟩
theorem conv (H:St w0 M w L) (k:Nat) (hk:L[k]?=some A) (h:A.at_ w->A'.at_ w) (ho:∀ q,A'.own q->A.own q):St w0 M w (L.set k A') :=
 H.upd k hk ⟨h (H.nth k hk),qH _ _,λ q hq=>.inl (ho q hq)⟩
theorem app (H:St w0 M w L) (k:Nat){e size n m bytes:Nat}{p q:OA}{c:Nat}{olds:LV} (hk:L[k]?=some (Sep.sl e size (.slice p n c) n olds)) (news:LV)
  (h1:(m=0/\q=none)∨∃ a,q=some a/\∀ j u,news[j]?=some u->w.cell? (a.add j)=some u) (h2:news.length=m * size) (h3:∀ u ∈ news,u.oneCell'=true) (h4:n+m≤maxLen) (h5:(n+m) * bytes≤140737488355328)
  {φ:OA->Nat->wD->Prop} (hq:∀ p' c' w',St w0 M w' (L.set k (Sep.sl e size (.slice p' (n+m) c') (n+m) (olds++news)))->φ p' c' w') :
  ∃ olds news:LV,Sl w e size (.slice p n c) n olds/\((m=0/\q=none)∨∃ a,q=some a/\∀ j u,news[j]?=some u->w.cell? (a.add j)=some u)/\news.length=m * size/\(∀ u ∈ news,u.oneCell'=true)/\n+m≤maxLen/\(n+m) * bytes≤140737488355328 /\
   ∀ (p':OA) (c':Nat) (w':wD),Sl w' e size (.slice p' (n+m) c') (n+m) (olds++news)->XTouch (λ b=>(Value.slice p n c).ownBlock=some b) w w'->(∀ b,(Value.slice p' (n+m) c').ownBlock=some b->(Value.slice p n c).ownBlock=some b∨w.heap.size≤b)->Sl w' e size (.slice p n c) n olds->((p'=p/\c'=c)∨((NilP p∨c<n+m)/\∀ b,(Value.slice p' (n+m) c').ownBlock=some b->w.heap.size≤b))->φ p' c' w' :=
 ⟨olds,news,H.nth k hk,h1,h2,h3,h4,h5,λ p' c' w' a b d _ _=>hq p' c' w' (H.upd k hk ⟨a,b,d⟩)⟩
theorem app2 (H:St w0 M w L) (k:Nat){e size n m bytes:Nat}{p q:OA}{c:Nat}{olds:LV} (hk:L[k]?=some (Sep.sl e size (.slice p n c) n olds)) (news:LV)
  (h1:(m=0/\q=none)∨∃ a,q=some a/\∀ j u,news[j]?=some u->w.cell? (a.add j)=some u) (h2:news.length=m * size) (h3:∀ u ∈ news,u.oneCell'=true) (h4:n+m≤maxLen) (h5:(n+m) * bytes≤140737488355328)
  {φ:OA->Nat->wD->Prop} (hq:∀ p' c' w',St w0 M w' (L.set k (Sep.sl e size (.slice p' (n+m) c') (n+m) (olds++news)))->Sl w' e size (.slice p n c) n olds->((p'=p/\c'=c)∨((NilP p∨c<n+m)/\∀ b,(Value.slice p' (n+m) c').ownBlock=some b->w.heap.size≤b))->φ p' c' w') :
  ∃ olds news:LV,Sl w e size (.slice p n c) n olds/\((m=0/\q=none)∨∃ a,q=some a/\∀ j u,news[j]?=some u->w.cell? (a.add j)=some u)/\news.length=m * size/\(∀ u ∈ news,u.oneCell'=true)/\n+m≤maxLen/\(n+m) * bytes≤140737488355328 /\
   ∀ (p':OA) (c':Nat) (w':wD),Sl w' e size (.slice p' (n+m) c') (n+m) (olds++news)->XTouch (λ b=>(Value.slice p n c).ownBlock=some b) w w'->(∀ b,(Value.slice p' (n+m) c').ownBlock=some b->(Value.slice p n c).ownBlock=some b∨w.heap.size≤b)->Sl w' e size (.slice p n c) n olds->((p'=p/\c'=c)∨((NilP p∨c<n+m)/\∀ b,(Value.slice p' (n+m) c').ownBlock=some b->w.heap.size≤b))->φ p' c' w' :=
 ⟨olds,news,H.nth k hk,h1,h2,h3,h4,h5,λ p' c' w' a b d g r=>hq p' c' w' (H.upd k hk ⟨a,b,d⟩) g r⟩
end St
def gn (κ:IntKind) (l:LI):AV:=(l.map (.int κ)).toArray
variable {κ:IntKind}{l:LI}
theorem Uq (i:Nat):(gn κ l)[i]?=(l[i]?).map (.int κ):=by simp [gn]
theorem mi {i:Nat}{x:Int} (h:l[i]?=some x):(gn κ l)[i]?=some (.int κ x):=by rw[Uq,h];rfl
theorem iv:(gn κ l).size=l.length:=by simp [gn]
theorem ru (i:Nat) (x:Int):(gn κ l).setIfInBounds i (.int κ x)=gn κ (l.set i x):=by
 apply qLB.1;simp [gn,qtB]
theorem iw (n:Nat):madeCells #[.int κ 0] n=gn κ (List.replicate n 0):=by
 apply qLB.1;rw[toList_madeCells_one];simp [gn]
theorem getD_at {i:Nat} (h:i<l.length):l[i]?=some (l.getD i 0):=by rw[qF,qC h];rfl
theorem adr_some {g o:Nat}{f:Nat->Nat->Prop} (h:f g o):Sx.adr (some ⟨g,o,none⟩) f:=h
theorem ptr_some {a:Addr}{f:Addr->Prop} (h:f a):Sx.ptr (some a) f:=h
theorem jk {f:Bool->Prop} (h:f true):Sx.isNil .nilIface f:=h
theorem Dx {t:TI}{v:Value}{f:Bool->Prop} (h:f false):Sx.isNil (.iface t v) f:=h
theorem ix1 (o n:Nat):o+((n:Nat):Int).toNat * 1=o+n:=by omega
section rows
variable {α:Type}{f:α->LV}{n:Nat}{l:List α}
def rows (f:α->LV) (l:List α):AV:=(l.flatMap f).toArray
theorem Bd:∀ {l:List α},(∀ x ∈ l,(f x).length=n)->(l.flatMap f).length=l.length * n
 | [],_=>by simp
 | x::l,h=>by
  rw[List.flatMap_cons,qP,h x (by simp),Bd (λ y hy=>h y (by simp [hy])),qy,Nat.add_mul];omega
theorem kj (h:∀ x ∈ l,(f x).length=n):(rows f l).size=l.length * n:=by simpa [rows] using Bd h
theorem mj:∀ {l:List α},(∀ x ∈ l,(f x).length=n)->∀ (j i:Nat) (x:α),l[j]?=some x->i<n->(l.flatMap f)[j * n+i]?=(f x)[i]?
 | [],_,j,i,x,hx,_=>by simp at hx
 | y::l,h,0,i,x,hx,hi=>by
  simp at hx;subst hx;rw[List.flatMap_cons,Nat.zero_mul,qW,qk (by rw[h y (by simp)];exact hi)]
 | y::l,h,j+1,i,x,hx,hi=>by
  rw[List.flatMap_cons,Nat.add_mul,Nat.one_mul,qf (by rw[h y (by simp)];omega),h y (by simp)];rw[show j * n+n+i - n=j * n+i by omega];exact mj (λ z hz=>h z (by simp [hz])) j i x (by simpa using hx) hi
theorem Be (h:∀ x ∈ l,(f x).length=n){j i:Nat}{x:α} (hx:l[j]?=some x) (hi:i<n){v:Value} (hv:(f x)[i]?=some v):(rows f l)[j * n+i]?=some v:=by
 rw[rows,qTB,mj h j i x hx hi,hv]
theorem lf:∀ {l:List α},(∀ x ∈ l,(f x).length=n)->∀ (j:Nat) (y:α),j<l.length->(f y).length=n->bv (rows f l) (j * n) (f y)=rows f (l.set j y):=by
 intro l;unfold bv rows
 induction l with
 | nil=>intro _ j y hj;simp at hj
 | cons x l ih =>
  intro h j y hj hy;have hx:=h x (by simp)
  match j with
  | 0 =>
   simp only[Nat.zero_mul,List.take_zero,qr,qW,List.set_cons_zero,List.flatMap_cons];rw[hy,show(f x++l.flatMap f).drop n=l.flatMap f by rw[<- hx];simp]
  | j+1 =>
   have:=ih (λ z hz=>h z (by simp [hz])) j y (by simpa using hj) hy;have:=congrArg Array.toList this;simp only at this;apply qLB.1;simp only[List.set_cons_succ,List.flatMap_cons];rw[<- this]
   have e1:(j+1) * n=n+j * n:=by rw[Nat.add_mul];omega
   rw[e1,show(f x++l.flatMap f).take (n+j * n)=f x++(l.flatMap f).take (j * n) by rw[<- hx,List.take_append,qGB (by omega)];simp,Nat.add_assoc,
    show(f x++l.flatMap f).drop (n+(j * n+(f y).length))=(l.flatMap f).drop (j * n+(f y).length) by rw[<- hx,List.drop_append,qvB (by omega)];simp]
   simp
theorem Ip (h:∀ x ∈ l,(f x).length=n){j i:Nat}{x y:α} (hx:l[j]?=some x) (hi:i<n){v:Value} (hy:f y=(f x).set i v):(rows f l).setIfInBounds (j * n+i) v=rows f (l.set j y):=by
 have hj:j<l.length:=(qD.1 hx).1;have hxl:=h x (qN hx)
 have hyl:(f y).length=n:=by rw[hy,qJ,hxl]
 rw[<- lf h j y hj hyl];have hs:=kj h
 have hlt:j * n+n≤l.length * n:=by
  have:=qiB n (show j+1≤l.length from hj);rw[Nat.add_mul] at this;omega
 apply Array.ext_getElem?;intro q;rw[ue _ _ _ (by rw[hyl,hs];exact hlt),hyl];rw[Array.getElem?_setIfInBounds];by_cases e:j * n+i=q
 ·subst e;rw[if_pos rfl,if_pos (by rw[hs];omega),if_pos (by omega),hy,show j * n+i - j * n=i by omega,qO (by omega)]
 ·rw[if_neg e];split
  ·rename_i hq;obtain⟨r,rfl⟩:∃ r,q=j * n+r:=⟨q - j * n,by omega⟩;rw[show j * n+r - j * n=r by omega,hy,qz (by omega)];rw[rows,qTB,mj h j r x hx (by omega)]
  ·rfl
theorem xh {x0:α} (hk:(f x0).length=n) (hp:0<n) (m:Nat):madeCells (f x0).toArray (m * n)=rows f (List.replicate m x0):=by
 apply Array.ext_getElem?;intro i;by_cases h:i<m * n
 ·have hq:i / n<m:=Nat.div_lt_of_lt_mul (by rw[Nat.mul_comm];exact h);have hr:i % n<n:=qIB _ hp
  have e:i=i / n * n+i % n:=by rw[Nat.mul_comm];exact(Nat.div_add_mod i n).symm
  have h2:=mj (f:=f) (n:=n) (l:=List.replicate m x0) (λ x hx=>by rw[(qSB.1 hx).2];exact hk) (i / n) (i % n) x0 (by simp [hq]) hr;rw[<- e] at h2
  have e2:(rows f (List.replicate m x0))[i]?=(f x0)[i % n]?:=by rw[rows,qTB,h2]
  rw[e2];unfold madeCells;simp only[Array.getElem?_map,qnB,hk];rw[qh (by simpa using h)];simp only[Array.getElem_range,Option.map_some];rw[qC (by omega),getElem!_pos _ _ (by simpa [hk] using hr)];simp
 ·rw[Array.getElem?_eq_none (by rw[size_madeCells];omega),Array.getElem?_eq_none];rw[kj (n:=n) (λ x hx=>by rw[(qSB.1 hx).2];exact hk)];simp;omega
theorem Bf {w:wD}{e:TI}{p:OA}{m c:Nat} (h:Sl w e n (.slice p m c) m (l.flatMap f)) (hf:∀ x ∈ l,(f x).length=n){j:Nat}{x:α} (hx:l[j]?=some x) (hn:0<n) :
  j<m/\∃ g off,p=some ⟨g,off,none⟩/\cellsAt w ⟨g,off+j * n,none⟩ (f x).toArray:=by
 obtain⟨hl,h⟩:=h;rw[Bd hf] at hl;have hm:l.length=m:=Nat.eq_of_mul_eq_mul_right hn hl;have hj:j<l.length:=(qD.1 hx).1;refine⟨by omega,?_⟩;rcases h with ⟨h,rfl⟩ | ⟨g,off,cap,cur,hv,hb,h1,h2,h3,h4⟩
 ·omega
 ·cases hv;refine⟨g,off,rfl,jt hb _ λ i v hi=>?_⟩
  have hi':i<n:=by
   have:=(qUB.1 hi).1;simpa [hf x (qN hx)] using this
  have h5:=mj hf j i x hx hi';rw[<- h4,qa,qAB] at h5
  ·rw[<- qeB,Nat.add_assoc,h5];simpa using hi
  ·have:=qiB n (show j+1≤m by omega);rw[Nat.add_mul] at this;omega
end rows
end Go.Sep
namespace Go.Proofs.YtmncepdbglaphaaGreatDoor.rm
open Go.Shelf Go.RowKit Go.XHeap Go.Sx Go.Sep
def insRen:Go.Shelf.Ren:=⟨λ | 21=>136 | 27=>170 | 28=>171 | 35=>214 | 39=>223 | n=>n,λ | 22=>26 | n=>n,λ n=>n⟩
theorem xi:Lays2.n21 Tryz.prog insRen :=
 { mixed:=by kernel_rfl,f21:=by kernel_rfl,f27:=by kernel_rfl,f28:=by kernel_rfl,f35:=by kernel_rfl,f39:=by kernel_rfl,t0:=by kernel_rfl,a0:=λ _=>by kernel_rfl,z0:=λ _=>by kernel_rfl,v0:=λ _=>by kernel_rfl,t3:=by kernel_rfl,a3:=λ _=>by kernel_rfl,z3:=λ _=>by kernel_rfl,v3:=λ _=>by kernel_rfl,t4:=by kernel_rfl,a4:=λ _=>by kernel_rfl,z4:=λ _=>by kernel_rfl,v4:=λ _=>by kernel_rfl,t22:=by kernel_rfl,a22:=λ _=>by kernel_rfl,z22:=λ _=>by kernel_rfl,v22:=λ _=>by kernel_rfl,i3:=by kernel_rfl }
def bx (l:LI):LV:=l.map (.int .i64)
def setsA:LV->Nat->AV->AV
 | [],_,C=>C
 | x::r,o,C=>setsA r (o+1) (C.setIfInBounds o x)
theorem fx:∀ (vs:LV) (o:Nat) (C:AV),(setsA vs o C).size=C.size
 | [],_,_=>rfl
 | x::r,o,C=>by rw[setsA,fx];simp
theorem fy:∀ (vs:LV) (o:Nat) (C:AV),o+vs.length≤C.size->(setsA vs o C).toList=C.toList.take o++vs++C.toList.drop (o+vs.length)
 | [],o,C,_=>by simp [setsA]
 | x::r,o,C,h=>by
  simp only[qy] at h;rw[setsA,fy r (o+1) _ (by simp;omega),qsB]
  have ho:o<C.toList.length:=by simp;omega
  rw[List.set_eq_take_append_cons_drop,if_pos ho]
  have e1:(C.toList.take o++x::C.toList.drop (o+1)).take (o+1)=C.toList.take o++[x]:=by
   rw[List.take_append,qGB (by simp;omega)]
   have:o+1 - (C.toList.take o).length=1:=by simp;omega
   rw[this];rfl
  have e2:(C.toList.take o++x::C.toList.drop (o+1)).drop (o+1+r.length)=C.toList.drop (o+(r.length+1)):=by
   rw[List.drop_append,qvB (by simp;omega),qr]
   have:o+1+r.length - (C.toList.take o).length=r.length+1:=by simp;omega
   rw[this,List.drop_succ_cons,List.drop_drop];congr 1;omega
  rw[e1,e2];simp
theorem Blk.setCells {g:Nat}{e:TI}:∀ (vs:LV) (o:Nat){W:wD}{C:AV},Blk W g C e->Blk (W.setCells g o vs) g (setsA vs o C) e
 | [],_,_,_,h=>h
 | x::r,o,W,C,h=>Blk.setCells r (o+1) (h.set o x)
theorem XTouch.setCells {S:Nat->Prop}{a:wD} (g:Nat) (hg:S g∨a.heap.size≤g):∀ (vs:LV) (o:Nat){w:wD},XTouch S a w->XTouch S a (w.setCells g o vs)
 | [],_,_,h=>h
 | x::r,o,w,h=>XTouch.setCells g hg r (o+1) (h.setCell (p:=⟨g,o,none⟩) hg x)
def afg (v:Value) (n:Nat) (ys:LV) (W:wD) (e:Ending) (w':wD):Prop :=
 ∃ v',e=eZ v'/\Sl w' 3 1 v' n ys/\XTouch (λ k=>v.ownBlock=some k) W w'/\(∀ k,v'.ownBlock=some k->v.ownBlock=some k∨W.heap.size≤k)
theorem Dy (l:LI):∀ v ∈ bx l,v.oneCell'=true:=by
 intro v hv;simp [bx] at hv;obtain⟨a, -,rfl⟩:=hv;rfl
theorem bz (l:LI):(bx l).length=l.length:=by simp [bx]
theorem zw (n:Nat):Builtin.zeroCells (Value.int .i64 0).cells n=(List.replicate n (Value.int .i64 0)).toArray:=by
 apply Array.ext';refine List.eq_replicate_iff.2 ⟨by simp [Builtin.zeroCells,Value.cells],?_⟩;intro b hb;simp [Builtin.zeroCells,Value.cells] at hb;obtain⟨a, -,rfl⟩:=hb;simp [Nat.mod_one]
theorem Gt {W:wD}{v:Value}{xs:LI} (x:Int) (hs:Sl W 3 1 v xs.length (bx xs)) (g:Nat) (hB:Blk W g #[.int .i64 x] 3) (hg:v.ownBlock≠some g) (hn:xs.length≤128) :
  Calls Tryz.prog 136 #[v,.int .i64 0,.slice (some ⟨g,0,none⟩) 1 1] W (afg v (xs.length+1) (bx (x::xs)) W):=by
 have hl:=hs.1;rw[bz] at hl
 have hvs:∀ j u,([.int .i64 x]:LV)[j]?=some u->W.cell? ⟨g,0+j,none⟩=some u:=by
  intro j u hj
  match j,hj with
  | 0,hj=>simp at hj;subst hj;exact hB.cell' (i:=0) rfl
  | j+1,hj=>simp at hj
 have h1v:∀ u ∈ ([.int .i64 x]:LV),u.oneCell'=true:=by simp [Value.oneCell']
 rcases hs.2 with ⟨rfl,h0⟩ | ⟨b,off,cap,cur,rfl,hb,h1,h2,h3,h4⟩
 ·have hx:xs=[]:=qHB h0;subst hx;refine(Any2.slices_Insert_int_end_grow xi none 0 0 g 0 1 1 [] [.int .i64 x] W (by omega) (by omega) (by omega) (by omega) rfl rfl (λ _=>rfl) (λ a h=>by cases h) hvs h1v).mono ?_;rintro e w' ⟨rfl,rfl⟩;have hc1:=grownCap_ge W (0+1) 0 (insRen.t 3);have hc2:=grownCap_le_maxLen W (0+1) 0 (insRen.t 3) (by unfold maxLen;omega);generalize grownCap W (0+1) 0 (insRen.t 3)=c at hc1 hc2 ⊢;refine⟨_,rfl,⟨by simp [bx],.inr ⟨W.heap.size,0,c,_,rfl,Blk.new W.drew _ 3,hc1,hc2,?_,?_⟩⟩,((qH _ W).drew).alloc _,λ k hk=>.inr (by simp [Value.ownBlock] at hk;omega)⟩
  ·rw[zw];simp;omega
  ·rw[zw];simp [bx]
 ·unfold maxLen at h2;have hgb:g≠b:=λ e=>hg (by simp [Value.ownBlock,e]);have hbsz:W.heap[b]?=some (.cells cur 3 (0,0)):=hb
  have hcs:∀ j u,(bx xs)[j]?=some u->W.cell? ⟨b,off+j,none⟩=some u:=by
   intro j u hj;rw[hb.cell,<- hj,<- h4]
   have hlt:j<xs.length * 1:=by have:=(qD.1 hj).1;rw[bz] at this;omega
   rw[qa hlt,qAB];simp
  by_cases hr:xs.length+1≤cap
  ·have hsp:∀ j,j<xs.length+1->(W.cell? ⟨b,off+j,none⟩).isSome=true:=by
    intro j hj;rw[hb.cell];simp;omega
   have hfz:∀ j,j<xs.length+1->W.frozen? ⟨b,off+j,none⟩=false:=λ j _=>hb.frozen _;by_cases h0:xs.length=0
   ·have hx:xs=[]:=qHB h0;subst hx;refine(Any2.slices_Insert_int_end_room xi b off 0 cap g 0 1 1 [.int .i64 x] W (by omega) hr (by omega) rfl (λ j hj=>hsp j (by simpa using hj)) (λ j hj=>hfz j (by simpa using hj)) hvs h1v).mono ?_;rintro e w' ⟨rfl,rfl⟩;refine⟨_,rfl,⟨by simp [bx],.inr ⟨b,off,cap,_,rfl,Blk.setCells _ _ hb,hr,by unfold maxLen;omega,by rw[fx];exact h3,?_⟩⟩,XTouch.setCells (S:=λ k=>some b=some k) b (.inl rfl) _ _ (qH _ W),λ k hk=>.inl hk⟩;rw[fy _ _ _ (by simp;omega)];rw[ql,List.drop_append,qvB (by simp;omega)]
    have:off - (cur.toList.take (off+0)).length=0:=by simp;omega
    rw[this];simp [bx]
   ·refine(Any2.slices_Insert_int_shift xi b off xs.length cap 0 g 0 1 1 (bx xs) [.int .i64 x] W (by omega) (by omega) hr (by omega) hgb (bz xs) rfl hcs hsp hfz hvs (Dy xs) h1v 3 3 1 cur.size ?_ ?_ ?_ (hB.frozen 0) (hB.frozen 1)).mono ?_
    ·simp [World.shape?,show W.heap[g]?=_ from hB]
    ·simp [World.shape?,hbsz]
    ·omega
    rintro e w' ⟨rfl,rfl⟩;refine⟨_,rfl,⟨by simp [bx],.inr ⟨b,off,cap,_,rfl,Blk.setCells _ _ (Blk.setCells _ _ hb.drew),hr,by unfold maxLen;omega,by rw[fx,fx];exact h3,?_⟩⟩,XTouch.setCells (S:=λ k=>some b=some k) b (.inl rfl) _ _ (XTouch.setCells (S:=λ k=>some b=some k) b (.inl rfl) _ _ (qH _ W).drew),λ k hk=>.inl hk⟩;rw[fy _ _ _ (by rw[fx];simp;omega),fy _ _ _ (by simp [bz];omega)];simp only[qW,Nat.add_zero,List.drop_zero,qy,List.length_nil]
    have hlo:off≤cur.toList.length:=by simp;omega
    have ea:(cur.toList.take (off+1)++bx xs++cur.toList.drop (off+1+(bx xs).length)).take off=cur.toList.take off:=by
     rw[ql,List.take_append_of_le_length (by simp;omega),List.take_take,qPB (by omega)]
    have eb:(cur.toList.take (off+1)++bx xs++cur.toList.drop (off+1+(bx xs).length)).drop (off+1)=bx xs++cur.toList.drop (off+1+(bx xs).length):=by
     rw[ql,List.drop_append,qvB (by simp;omega),qr]
     have:off+1 - (cur.toList.take (off+1)).length=0:=by simp;omega
     rw[this,List.drop_zero]
    rw[ea,eb,ql,List.drop_append,qvB (by simp;omega),qr]
    have:off - (cur.toList.take off).length=0:=by simp;omega
    rw[this,List.drop_zero];rw[show(xs.length+1) * 1=(([.int .i64 x]:LV)++bx xs).length by simp [bx],<- ql,List.take_left']
    ·simp [bx]
    ·rfl
  ·by_cases h0:xs.length=0
   ·have hx:xs=[]:=qHB h0;subst hx;simp only[List.length_nil] at h1 hr
    have hc0:cap=0:=by omega
    subst hc0;refine(Any2.slices_Insert_int_end_grow xi (some ⟨b,off,none⟩) 0 0 g 0 1 1 [] [.int .i64 x] W (by omega) (by omega) (by omega) (by omega) rfl rfl (λ h=>by cases h) (λ a h j u hj=>by simp at hj) hvs h1v).mono ?_;rintro e w' ⟨rfl,rfl⟩;have hc1:=grownCap_ge W (0+1) 0 (insRen.t 3);have hc2:=grownCap_le_maxLen W (0+1) 0 (insRen.t 3) (by unfold maxLen;omega);generalize grownCap W (0+1) 0 (insRen.t 3)=c at hc1 hc2 ⊢;refine⟨_,rfl,⟨by simp [bx],.inr ⟨W.heap.size,0,c,_,rfl,Blk.new W.drew _ 3,hc1,hc2,?_,?_⟩⟩,((qH _ W).drew).alloc _,λ k hk=>.inr (by simp [Value.ownBlock] at hk;omega)⟩
    ·rw[zw];simp;omega
    ·rw[zw];simp [bx]
   ·refine(Any2.slices_Insert_int_grow xi b off xs.length cap 0 g 0 1 1 (bx xs) [.int .i64 x] W (by omega) (by omega) h1 (by omega) (by omega) (bz xs) rfl hcs hvs (Dy xs) h1v).mono ?_;rintro e w' ⟨rfl,rfl⟩;have hc1:=grownCap_ge W (xs.length+1) cap (insRen.t 3);have hc2:=grownCap_le_maxLen W (xs.length+1) cap (insRen.t 3) (by unfold maxLen;omega);generalize grownCap W (xs.length+1) cap (insRen.t 3)=c at hc1 hc2 ⊢;rw[zw,zw];have hN:=Blk.new W (((bx xs).take 0).toArray++(List.replicate (xs.length+1 - 0) (Value.int .i64 0)).toArray++(List.replicate (c - (xs.length+1)) (Value.int .i64 0)).toArray) 3;refine⟨_,rfl,⟨by simp [bx],.inr ⟨W.heap.size,0,c,_,rfl,Blk.setCells _ _ (Blk.setCells _ _ hN.drew).drew,hc1,hc2,?_,?_⟩⟩,XTouch.setCells _ (.inr (qY _)) _ _ (XTouch.setCells _ (.inr (qY _)) _ _ ((qH _ W).alloc _).drew).drew,λ k hk=>.inr (by simp [Value.ownBlock] at hk;omega)⟩
    ·rw[fx,fx];simp;omega
    ·rw[fy _ _ _ (by rw[fx];simp [bz];omega),fy _ _ _ (by simp;omega)];have e1:∀ l:LV,List.take (0+1) (List.take 0 l++[Value.int .i64 x]++List.drop (0+([Value.int .i64 x]:LV).length) l)=[.int .i64 x]:=λ l=>rfl;rw[e1,List.drop_zero,List.drop_zero];rw[show(xs.length+1) * 1=(([.int .i64 x]:LV)++bx xs).length by simp [bx],List.take_left']
     ·simp [bx]
     ·rfl
end Go.Proofs.YtmncepdbglaphaaGreatDoor.rm
