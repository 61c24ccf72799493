/- A part of the walk. No condition. -/
import Derived.WalkKit
import Derived.ProofKit
import Derived.ArgAppend
import Derived.Below
import Derived.Lib.Hide
import Derived.Deep.QuietTactic
import Derived.BigQuiet
set_option linter.unusedVariables false
abbrev Go.OA:=Option Go.Addr
abbrev Go.AV:=Array Go.Value
abbrev Go.LV:=List Go.Value
abbrev Go.LI:=List Int
abbrev Go.LN:=List Nat
abbrev Go.wD:=Go.World
abbrev Go.TI:=Go.TypeId
namespace Go.XHeap
open Go.RowKit
structure XTouch (S:Nat->Prop) (w w':wD):Prop where
 os:w'.os=w.os
 tape:w'.tape=w.tape
 output:w'.output=w.output
 size:w.heap.size≤w'.heap.size
 block:∀ k,k<w.heap.size->¬ S k->w'.heap[k]?=w.heap[k]?
variable {S S':Nat->Prop}{a b c w w':wD}
theorem XTouch.refl (S:Nat->Prop) (w:wD):XTouch S w w:=⟨rfl,rfl,rfl,Nat.le_refl _,λ _ _ _=>rfl⟩
theorem XTouch.trans (h:XTouch S a b) (h':XTouch S' b c) (hs:∀ k,k<a.heap.size->S' k->S k):XTouch S a c :=
 ⟨h'.os.trans h.os,h'.tape.trans h.tape,h'.output.trans h.output,Nat.le_trans h.size h'.size,λ k hk hn =>
  (h'.block k (Nat.lt_of_lt_of_le hk h.size) (λ e=>hn (hs k hk e))).trans (h.block k hk hn)⟩
theorem XTouch.mono (h:XTouch S a b) (hs:∀ k,k<a.heap.size->S k->S' k):XTouch S' a b :=
 ⟨h.os,h.tape,h.output,h.size,λ k hk hn=>h.block k hk (λ e=>hn (hs k hk e))⟩
theorem XTouch.drew (h:XTouch S a w):XTouch S a w.drew:=⟨h.os,h.tape,h.output,h.size,h.block⟩
theorem XTouch.drewN (h:XTouch S a w) (n:Nat):XTouch S a (w.drewN n):=⟨h.os,h.tape,h.output,h.size,h.block⟩
theorem XTouch.alloc (h:XTouch S a w) (o:Obj):XTouch S a (w.alloc o) :=
 ⟨h.os,h.tape,h.output,by simpa using Nat.le_succ_of_le h.size,λ k hk hn=>(Below.heap_alloc _ _ _ (Nat.lt_of_lt_of_le hk h.size)).trans (h.block k hk hn)⟩
theorem XTouch.setCell (h:XTouch S a w){p:Addr} (hp:S p.block∨a.heap.size≤p.block) (v:Value):XTouch S a (w.setCell p v) :=
 ⟨h.os,h.tape,h.output,by simpa using h.size,λ k hk hn=>(Below.heap_setCell _ _ _ _ (by
  rintro rfl;rcases hp with hp | hp
  ·exact hn hp
  ·omega)).trans (h.block k hk hn)⟩
theorem XTouch.grown {row:Option Nat} (h:XTouch S a w) (hg:w.grownBy w' row) (hr:∀ k,row=some k->S k∨a.heap.size≤k):XTouch S a w' :=
 ⟨hg.os.trans h.os,hg.tape.trans h.tape,hg.output.trans h.output,Nat.le_trans h.size hg.size,λ k hk hn =>
  (hg.block k (Nat.lt_of_lt_of_le hk h.size) (by
   rintro e;rcases hr k e.symm with h1 | h1
   ·exact hn h1
   ·omega)).trans (h.block k hk hn)⟩
theorem XTouch.cell (h:XTouch S a w){p:Addr} (hp:p.block<a.heap.size) (hn:¬ S p.block):w.cell? p=a.cell? p:=World.cell?_of_block (h.block p.block hp hn)
theorem XTouch.below {B:Nat} (h:XTouch S a w) (hB:B≤a.heap.size) (hs:∀ k,S k->B≤k):Below B a w :=
 ⟨h.os,h.tape,h.output,h.size,λ k hk=>h.block k (by omega) (λ e=>by have:=hs k e;omega)⟩
def Blk (w:wD) (b:Nat) (cs:AV) (t:TI):Prop:=w.heap[b]?=some (.cells cs t (0,0))
variable {k:Nat}{cs:AV}{t:TI}
theorem Blk.lt (h:Blk w k cs t):k<w.heap.size:=(Array.getElem?_eq_some_iff.1 h).1
theorem Blk.cell (h:Blk w k cs t) (i:Nat):w.cell? ⟨k,i,none⟩=cs[i]?:=by simp [World.cell?,show w.heap[k]?=_ from h]
theorem Blk.cell' (h:Blk w k cs t){i:Nat}{v:Value} (hi:cs[i]?=some v):w.cell? ⟨k,i,none⟩=some v:=(h.cell i).trans hi
theorem Blk.frozen (h:Blk w k cs t) (i:Nat):w.frozen? ⟨k,i,none⟩=false:=frozen_of_row w k i cs t h
theorem Blk.keep (h:Blk w k cs t) (ht:XTouch S w w') (hn:¬ S k):Blk w' k cs t:=(ht.block k h.lt hn).trans h
theorem Blk.new (w:wD) (cs:AV) (t:TI):Blk (w.alloc (.cells cs t)) w.heap.size cs t:=heap_alloc_new w _
theorem Blk.alloc (h:Blk w k cs t) (o:Obj):Blk (w.alloc o) k cs t:=(Below.heap_alloc w o k h.lt).trans h
theorem Blk.set (h:Blk w k cs t) (i:Nat) (v:Value):Blk (w.setCell ⟨k,i,none⟩ v) k (cs.setIfInBounds i v) t:=heap_setCell_same w k i cs t v h
theorem Blk.drew (h:Blk w k cs t):Blk w.drew k cs t:=h
theorem Blk.drewN (h:Blk w k cs t) (n:Nat):Blk (w.drewN n) k cs t:=h
theorem Blk.eq {cs':AV}{t':TI} (h:Blk w k cs t) (h':Blk w k cs' t'):cs=cs':=by
 have:=(show w.heap[k]?=_ from h).symm.trans h';simp at this;exact this.1
def Sl (w:wD) (e:TI) (size:Nat) (v:Value) (n:Nat) (xs:LV):Prop :=
 xs.length=n * size /\
 ((v= .slice none 0 0/\n=0) ∨
  ∃ g off cap cur,v= .slice (some ⟨g,off,none⟩) n cap/\Blk w g cur e/\n≤cap/\cap≤maxLen/\off+cap * size≤cur.size/\(cur.toList.drop off).take (n * size)=xs)
variable {e:TI}{size n:Nat}{v:Value}{xs:LV}
theorem Sl.nil (w:wD) (e:TI) (size:Nat):Sl w e size (.slice none 0 0) 0 []:=⟨by simp,.inl ⟨rfl,rfl⟩⟩
theorem Sl.keep (h:Sl w e size v n xs) (ht:XTouch S w w') (hn:∀ k,v.ownBlock=some k->¬ S k):Sl w' e size v n xs:=by
 obtain⟨hl,h⟩:=h;refine⟨hl,?_⟩;rcases h with h | ⟨g,off,cap,cur,rfl,hb,r⟩
 ·exact .inl h
 ·exact .inr ⟨g,off,cap,cur,rfl,hb.keep ht (hn g rfl),r⟩
theorem Sl.lt (h:Sl w e size v n xs):∀ k,v.ownBlock=some k->k<w.heap.size:=by
 rintro k hk;rcases h.2 with ⟨rfl, -⟩ | ⟨g,off,cap,cur,rfl,hb, -⟩
 ·simp [Value.ownBlock] at hk
 ·simp [Value.ownBlock] at hk;subst hk;exact hb.lt
theorem Sl.open1 (h:Sl w e 1 v n xs):∃ ao cap,v= .slice ao n cap/\xs.length=n/\n≤maxLen/\n≤cap/\cap≤maxLen/\(0<n->∃ g off,ao=some ⟨g,off,none⟩/\v.ownBlock=some g/\∀ i,i<n->w.cell? ⟨g,off+i,none⟩=xs[i]?/\w.frozen? ⟨g,off+i,none⟩=false):=by
 obtain⟨hl,h⟩:=h;rw[Nat.mul_one] at hl;rcases h with ⟨rfl,rfl⟩ | ⟨g,off,cap,cur,rfl,hb,h1,h2,h3,h4⟩
 ·exact⟨none,0,rfl,hl,Nat.zero_le _,Nat.zero_le _,Nat.zero_le _,λ h=>absurd h (by omega)⟩
 ·refine⟨_,cap,rfl,hl,by omega,h1,h2,λ _=>⟨g,off,rfl,rfl,λ i hi=>⟨?_,hb.frozen _⟩⟩⟩;rw[hb.cell,<- h4,List.getElem?_take_of_lt (by omega),List.getElem?_drop];simp
theorem Sl.set1 {g off cap:Nat} (h:Sl w e 1 (.slice (some ⟨g,off,none⟩) n cap) n xs) (i:Nat) (hi:i<n) (x:Value):Sl (w.setCell ⟨g,off+i,none⟩ x) e 1 (.slice (some ⟨g,off,none⟩) n cap) n (xs.set i x):=by
 obtain⟨hl,h⟩:=h;refine⟨by simpa using hl,?_⟩;rcases h with ⟨h, -⟩ | ⟨g',off',cap',cur,hv,hb,h1,h2,h3,h4⟩
 ·simp at h
 ·simp at hv;obtain⟨⟨rfl,rfl⟩,rfl⟩:=hv;refine .inr ⟨g,off,cap,_,rfl,hb.set (off+i) x,h1,h2,by simpa using h3,?_⟩;rw[Array.toList_setIfInBounds,List.drop_set,if_neg (by omega),Nat.add_sub_cancel_left,List.take_set,h4]
theorem Sl.tail1 {g off cap:Nat}{x:Value} (h:Sl w e 1 (.slice (some ⟨g,off,none⟩) (n+1) cap) (n+1) (x::xs)):Sl w e 1 (.slice (some ⟨g,if cap=1 then off else off+1,none⟩) n (cap - 1)) n xs:=by
 obtain⟨hl,h⟩:=h;refine⟨by simp at hl ⊢;omega,?_⟩;rcases h with ⟨h, -⟩ | ⟨g',off',cap',cur,hv,hb,h1,h2,h3,h4⟩
 ·simp at h
 ·simp at hv;obtain⟨⟨rfl,rfl⟩,rfl⟩:=hv;refine .inr ⟨g,_,cap - 1,cur,rfl,hb,by omega,by omega,by split <;> omega,?_⟩;by_cases hc:cap=1
  ·rw[if_pos hc]
   have:n=0:=by omega
   subst this;simp at hl;subst hl;simp
  ·rw[if_neg hc,Nat.mul_one,<- List.drop_drop];rw[Nat.mul_one] at h4;have:=congrArg (List.drop 1) h4;rw[List.drop_take] at this;simpa using this
def NilP (p:OA):Prop:=p=none
theorem vj {P:Program}{ops:Array Oper}{rest:List Oper}{o:Oper}{a:Act}{Q:Exit->Act->wD->Prop}{w:wD}
  (hg:o.guard=none) (s x:Operand) (t:TI) (hop:o.op=Op.call { callee:=Callee.builtin Builtin.append,args:=#[s,x],argTypes:=#[t,t] })
  (e:TI) (i:TypeInfo) (z:Value) (size bytes:Nat) (h1:P.underlying t=some (.slice e)) (h2:P.info? e=some i) (h3:i.zero=some z) (h4:i.size=size) (h5:i.bytes=bytes) (h6:z.cells.size=size) (h7:0<size)
  (v:Value) (n:Nat) (olds:LV) (hs:a.eval s=v) (hsl:Sl w e size v n olds)
  (ad:Addr) (m c:Nat) (news:LV) (hx:a.eval x= .slice (some ad) m c) (hn:news.length=m * size) (hc:∀ j u,news[j]?=some u->w.cell? (ad.add j)=some u) (h1c:∀ u ∈ news,u.oneCell'=true)
  (b1:n+m≤maxLen) (b2:(n+m) * bytes≤140737488355328)
  (hK:∀ v' w',Sl w' e size v' (n+m) (olds++news)->XTouch (λ k=>v.ownBlock=some k) w w'->(∀ k,v'.ownBlock=some k->v.ownBlock=some k∨w.heap.size≤k)->Sl w' e size v n olds->((∃ p c,v= .slice p n c/\v'= .slice p (n+m) c)∨((∀ p c,v= .slice p n c->p=none∨c<n+m)/\∀ k,v'.ownBlock=some k->w.heap.size≤k))->wpList P ops Q rest (a.put o.dst v') w') :
  wpList P ops Q (o::rest) a w:=by
 have conv:(∀ p c,v= .slice p n c->p=none∨c<n+m)->∀ v' w',w'.ownsRow w.heap.size e size v' (n+m) (olds++news)->w.grownBy w' none->wpList P ops Q rest (a.put o.dst v') w':=by
  rintro hcp v' w' ⟨hl,hr⟩ hgr;refine hK v' w' ⟨hl,?_⟩ ((XTouch.refl _ _).grown hgr (λ k hk=>by cases hk)) ?_ (hsl.keep ((XTouch.refl (λ _=>False) _).grown hgr (λ k hk=>by cases hk)) (λ _ _ e=>e)) (.inr ⟨hcp,?_⟩)
  ·rcases hr with ⟨rfl,h⟩ | ⟨g,cap,cur,rfl,hb,hh,q1,q2,q3,q4⟩
   ·exact .inl ⟨rfl,h⟩
   ·exact .inr ⟨g,0,cap,cur,rfl,hh,q1,q2,by omega,by simpa using q4⟩
  ·rintro k hk;rcases hr with ⟨rfl,h⟩ | ⟨g,cap,cur,rfl,hb,hh,q1,q2,q3,q4⟩
   ·simp [Value.ownBlock] at hk
   ·simp [Value.ownBlock] at hk;subst hk;exact .inr hb
  ·rintro k hk;rcases hr with ⟨rfl,h⟩ | ⟨g,cap,cur,rfl,hb,hh,q1,q2,q3,q4⟩
   ·simp [Value.ownBlock] at hk
   ·simp [Value.ownBlock] at hk;subst hk;exact hb
 obtain⟨hl,h⟩:=hsl;rcases h with ⟨rfl,rfl⟩ | ⟨g,off,cap,cur,rfl,hb,q1,q2,q3,q4⟩
 ·by_cases hm:m=0
  ·subst hm;have:news=[]:=List.eq_nil_of_length_eq_zero (by simpa using hn);subst this;have:olds=[]:=List.eq_nil_of_length_eq_zero (by simpa using hl);subst this;obtain⟨v',w',hrun,r1,r2,r3⟩:=run_append_own (P:=P) w w.heap.size t o.type e i z size bytes h1 h2 h3 h4 h5 h6 h7 (.slice none 0 0) 0 [] (World.ownsRow_nil w _ e size) ad 0 c [] hn hc h1c b1 b2 (Nat.le_refl _);refine wpList_plain hg λ K hK'=>?_;unfold Oper.wp;simp [execOp,hop,resolve,invoke,builtin,hs,hx,hrun,Result.andThen];exact hK' _ _ (conv (λ p c e=>by cases e;exact .inl rfl) v' w' r1 r2)
  ·exact wpList_append_grows w hg s x t hop e i z size bytes h1 h2 h3 h4 h5 h6 h7 none 0 0 olds hs (λ _=>⟨rfl,rfl⟩) (by simpa using hl) (by rintro b ⟨⟩) ad m c news hx hn hc h1c (by omega) b1 b2 (conv (λ p c e=>by cases e;exact .inl rfl))
 ·have hcell:∀ j,j<cap * size->w.cell? ⟨g,off+j,none⟩=cur[off+j]?:=λ j _=>hb.cell _;refine wpList_append_arg w hg s x t hop e i z size bytes h1 h2 h3 h4 h5 h6 h7 g off n cap olds hs (by rw[hl]) ?_ ad m c news hx hn hc h1c ?_ b1 b2 ?_ (λ hlt=>conv (λ p c e=>by cases e;exact .inr (by omega)))
  ·intro j u hj;rw[hb.cell,<- hj,<- q4]
   have hlt:j<n * size:=by rw[<- hl];exact(List.getElem?_eq_some_iff.1 hj).1
   rw[List.getElem?_take_of_lt hlt,List.getElem?_drop];simp
  ·intro hr j hj;have hle:(n+m) * size≤cap * size:=Nat.mul_le_mul_right _ hr;have hsplit:(n+m) * size=n * size+m * size:=Nat.add_mul _ _ _
   have:off+n * size+j<cur.size:=by omega
   refine⟨?_,hb.frozen _⟩;rw[hb.cell];simp [this]
  ·intro hr;have hle:(n+m) * size≤cap * size:=Nat.mul_le_mul_right _ hr;have hsplit:(n+m) * size=n * size+m * size:=Nat.add_mul _ _ _
   obtain⟨cur',hb',hl',hk1,hk2,hT⟩:∃ cur',Blk (w.setCells g (off+n * size) news) g cur' e/\cur'.size=cur.size/\(cur'.toList.drop off).take (n * size)=olds/\((cur'.toList.drop (off+n * size)).take news.length=news)/\XTouch (λ k=>k=g) w (w.setCells g (off+n * size) news):=by
    have key:∀ (vs:LV) (o:Nat) (W:wD) (C:AV),Blk W g C e->o+vs.length≤C.size->∃ C',Blk (W.setCells g o vs) g C' e/\C'.size=C.size/\C'.toList.take o=C.toList.take o/\(C'.toList.drop o).take vs.length=vs/\XTouch (λ k=>k=g) W (W.setCells g o vs):=by
     intro vs
     induction vs with
     | nil=>intro o W C hB hle;exact⟨C,hB,rfl,rfl,by simp,XTouch.refl _ _⟩
     | cons x r ih =>
      intro o W C hB hle;obtain⟨C',c1,c2,c3,c4,c5⟩:=ih (o+1) _ _ (hB.set o x) (by simp at hle ⊢;omega);refine⟨C',c1,by simpa using c2,?_,?_,((XTouch.refl (λ k=>k=g) W).setCell (p:=⟨g,o,none⟩) (.inl rfl) x).trans c5 (λ k _ h=>h)⟩
      ·have:=congrArg (List.take o) c3;simp only[List.take_take,Nat.min_eq_left (Nat.le_succ o)] at this;rw[this,Array.toList_setIfInBounds,List.take_set_of_le (Nat.le_refl _)]
      ·have ho:o<C'.size:=by simp at hle c2;omega
       rw[List.drop_eq_getElem_cons (by simpa using ho)]
       have hx0:C'.toList[o]?=some x:=by
        have h5:=congrArg (·[o]?) c3;simp only[List.getElem?_take_of_lt (Nat.lt_succ_self o)] at h5;rw[h5,Array.toList_setIfInBounds,List.getElem?_set_self (by simp at hle ⊢;omega)]
       have hx1:C'.toList[o]'(by simpa using ho)=x:=by
        rw[List.getElem?_eq_getElem (by simpa using ho)] at hx0;simpa using hx0
       rw[hx1,List.length_cons,List.take_succ_cons,c4]
    obtain⟨C',c1,c2,c3,c4,c5⟩:=key news (off+n * size) w cur hb (by rw[hn];omega);refine⟨C',c1,c2,?_,c4,c5⟩;have:=congrArg (List.drop off) c3;rw[List.drop_take,List.drop_take,Nat.add_sub_cancel_left] at this;rw[this,q4]
   refine hK _ _ ⟨by simp [hl,hn,Nat.add_mul],.inr ⟨g,off,cap,cur',rfl,hb',hr,q2,by omega,?_⟩⟩ (hT.mono λ k _ hk=>by subst hk;rfl) (λ k hk=>.inl hk) ⟨hl,.inr ⟨g,off,cap,cur',rfl,hb',q1,q2,by omega,hk1⟩⟩ (.inl ⟨_,_,rfl,rfl⟩);rw[hsplit,List.take_add,hk1,List.drop_drop,<- hn,hk2]
end Go.XHeap
