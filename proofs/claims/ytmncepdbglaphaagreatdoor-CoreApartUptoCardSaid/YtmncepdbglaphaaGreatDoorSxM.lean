/- A part of the walk. No condition. -/
import Derived.WalkKit
import Derived.MapKept
import Derived.ChangeMaps4
import Derived.Test.YtmncepdbglaphaaGreatDoorXHeap
namespace Go.Sx
open Go.RowKit Go.XHeap Go.ChangeMaps
def upd (f:Int->Option Value) (z:Int) (v:Option Value):Int->Option Value:=λ y=>if y=z then v else f y
def Nk (κ:IntKind):List MapEntry->(Int->Option Value)->Prop
 | [],f=>∀ z,f z=none
 | e::r,f=>∃ z,e.key= .int κ z/\f z=some e.val/\Nk κ r (upd f z none)
def Mp (w:wD) (κ:IntKind) (b:Nat) (f:Int->Option Value):Prop:=∃ (es:Array MapEntry) (clock:Nat),w.heap[b]?=some (.map es clock)/\Nk κ es.toList f
theorem Mp.lt {w:wD}{κ:IntKind}{b:Nat}{f:Int->Option Value} (h:Mp w κ b f):b<w.heap.size:=by
 obtain⟨es,clock,hb, -⟩:=h;exact(Array.getElem?_eq_some_iff.1 hb).1
theorem Mp.keep {S:Nat->Prop}{w w':wD}{κ:IntKind}{b:Nat}{f:Int->Option Value} (h:Mp w κ b f) (ht:XTouch S w w') (hn:¬ S b):Mp w' κ b f:=by
 have hl:=h.lt;obtain⟨es,clock,hb,hm⟩:=h;exact⟨es,clock,(ht.block b hl hn).trans hb,hm⟩
theorem Mp.new (w:wD) (κ:IntKind):Mp (w.alloc (.map #[] 0)) κ w.heap.size λ _=>none:=⟨#[],0,heap_alloc_new w _,λ _=>rfl⟩
theorem kz (f:Int->Option Value) (x z:Int) (v:Option Value) (h:z≠x):upd (upd f x v) z none=upd (upd f z none) x v:=by
 funext y;unfold upd;by_cases h1:y=z
 ·subst h1;simp [h]
 ·simp [h1]
theorem Ua (f:Int->Option Value) (x:Int) (v u:Option Value):upd (upd f x v) x u=upd f x u:=by
 funext y;unfold upd;split <;> rfl
theorem lz {κ κd:IntKind}{x:Int}:∀ {l:List MapEntry}{f:Int->Option Value} (i:Nat),Nk κ l f ->
  (f x=none/\Instr.findNow (.int κd) (.int κ x) l i=some none)∨∃ j e,l[j]?=some e/\e.key= .int κ x/\f x=some e.val/\Instr.findNow (.int κd) (.int κ x) l i=some (some (i+j,e.val))
 | [],f,i,h=>.inl ⟨h x,rfl⟩
 | e::r,f,i,⟨z,hk,hv,hr⟩=>by
  by_cases hz:x=z
  ·subst hz;exact .inr ⟨0,e,rfl,hk,hv,by simp [Instr.findNow,hk,Instr.sameNow]⟩
  ·have e1:Instr.findNow (.int κd) (.int κ x) (e::r) i=Instr.findNow (.int κd) (.int κ x) r (i+1):=by
    have:(x==z)=false:=by simpa using hz
    simp [Instr.findNow,hk,Instr.sameNow,this]
   have e2:upd f z none x=f x:=by unfold upd;rw[if_neg hz]
   rcases lz (κd:=κd) (x:=x) (i+1) hr with ⟨h1,h2⟩ | ⟨j,e',h1,h2,h3,h4⟩
   ·exact .inl ⟨by rw[<- e2];exact h1,by rw[e1];exact h2⟩
   ·exact .inr ⟨j+1,e',by simpa using h1,h2,by rw[<- e2];exact h3,by rw[e1,h4];simp only[Nat.add_assoc,Nat.add_comm 1]⟩
theorem Dk {κ:IntKind}{x:Int}{v:Value}{born:Nat}:∀ {l:List MapEntry}{f:Int->Option Value},Nk κ l f->f x=none->Nk κ (l++[⟨.int κ x,v,born⟩]) (upd f x (some v))
 | [],f,h,hx=>⟨x,rfl,by simp [upd],λ z=>by unfold upd;split;rfl;simp [h z]⟩
 | e::r,f,⟨z,hk,hv,hr⟩,hx=>by
  have hne:z≠x:=by rintro rfl;rw[hx] at hv;cases hv
  refine⟨z,hk,by unfold upd;rw[if_neg hne];exact hv,?_⟩;rw[kz _ _ _ _ hne];exact Dk hr (by unfold upd;rw[if_neg (λ e=>hne e.symm)];exact hx)
theorem wh {κ:IntKind}{x:Int}{v:Value}:∀ {l:List MapEntry}{f:Int->Option Value}{j:Nat}{e:MapEntry},Nk κ l f->l[j]?=some e->e.key= .int κ x ->
  Nk κ (l.modify j λ e=>{ e with key:=.int κ x,val:=v }) (upd f x (some v))
 | [],f,j,e,h,hj,hk=>by simp at hj
 | e0::r,f,0,e,⟨z,hk,hv,hr⟩,hj,hk'=>by
  simp at hj;subst hj;obtain rfl:z=x:=by rw[hk] at hk';cases hk';rfl
  exact⟨z,rfl,by simp [upd],by rw[Ua];exact hr⟩
 | e0::r,f,j+1,e,⟨z,hk,hv,hr⟩,hj,hk'=>by
  have hj':r[j]?=some e:=by simpa using hj
  have hxr:∃ y,upd f z none x=some y:=by
   rcases lz (κd:=κ) (x:=x) 0 hr with ⟨h1,h2⟩ | ⟨i,e',h1,h2,h3,h4⟩
   ·exfalso
    have key:∀ (l:List MapEntry) (g:Int->Option Value) (j:Nat),Nk κ l g->g x=none->l[j]?=some e->False:=by
     intro l
     induction l with
     | nil=>intro g j _ _ h;simp at h
     | cons a l ih =>
      rintro g j ⟨y,q1,q2,q3⟩ hg hj
      cases j with
      | zero=>simp at hj;subst hj;rw[q1] at hk';cases hk';rw[hg] at q2;cases q2
      | succ j =>
       refine ih _ j q3 ?_ (by simpa using hj);unfold upd;split;rfl;exact hg
    exact key r _ j hr h1 hj'
   ·exact⟨_,h3⟩
  have hne:z≠x:=by rintro rfl;obtain⟨y,hy⟩:=hxr;simp [upd] at hy
  refine⟨z,hk,by unfold upd;rw[if_neg hne];exact hv,?_⟩;rw[kz _ _ _ _ hne];exact wh hr hj' hk'
theorem zg {κ:IntKind}{x:Int}:∀ {l:List MapEntry}{f:Int->Option Value}{j:Nat}{e:MapEntry},Nk κ l f->l[j]?=some e->e.key= .int κ x->Nk κ (l.eraseIdx j) (upd f x none)
 | [],f,j,e,h,hj,hk=>by simp at hj
 | e0::r,f,0,e,⟨z,hk,hv,hr⟩,hj,hk'=>by
  simp at hj;subst hj;obtain rfl:z=x:=by rw[hk] at hk';cases hk';rfl
  exact hr
 | e0::r,f,j+1,e,⟨z,hk,hv,hr⟩,hj,hk'=>by
  have hj':r[j]?=some e:=by simpa using hj
  have ih:=zg hr hj' hk'
  have hne:z≠x:=by
   rintro rfl
   have key:∀ (l:List MapEntry) (g:Int->Option Value) (j:Nat),Nk κ l g->g z=none->l[j]?=some e->False:=by
    intro l
    induction l with
    | nil=>intro g j _ _ h;simp at h
    | cons a l ih =>
     rintro g j ⟨y,q1,q2,q3⟩ hg hj
     cases j with
     | zero=>simp at hj;subst hj;rw[q1] at hk';cases hk';rw[hg] at q2;cases q2
     | succ j =>
      refine ih _ j q3 ?_ (by simpa using hj);unfold upd;split;rfl;exact hg
   exact key r _ j hr (by simp [upd]) hj'
  refine⟨z,hk,by unfold upd;rw[if_neg hne];exact hv,?_⟩;rw[kz _ _ _ _ hne];exact ih
theorem jz {P:Program}{κ:IntKind}{kt:TI} (hk:P.underlying kt=some (.int κ)) (b:Bool) (v:Value) (w:wD):(Instr.checkKey b 10000 kt v).run P w= .ok () w:=by
 unfold Instr.checkKey;rw[Sem.run_bind,run_underlying hk];rfl
theorem gp {P:Program}{κ:IntKind}{kt:TI}{es:List MapEntry}{v:Value}{r:Option (Nat×Value)} (hk:P.underlying kt=some (.int κ)) (h:Instr.findNow (.int κ) v es 0=some r) (w:wD):(Instr.findKey kt v es).run P w= .ok r w:=by
 unfold Instr.findKey;rw[Sem.run_bind,run_underlying hk];simp only[Result.andThen_ok,h,Sem.run_pure]
theorem Ub {P:Program}{t kt e:TI}{κ:IntKind}{b:Nat}{f:Int->Option Value}{x:Int}{w:wD}{z:Value} (ht:P.underlying t=some (.map kt e)) (hk:P.underlying kt=some (.int κ)) (hm:Mp w κ b f)
  (hz:∀ w,(zeroValue e).run P w= .ok z w) (ok:Bool) :
  (Instr.lookup t (.map (some b)) (.int κ x) ok).run P w= .ok (match ok with | true=>.tuple #[(f x).getD z,.bool (f x).isSome] | false=>(f x).getD z) w:=by
 obtain⟨es,clock,hb,hl⟩:=hm;rcases lz (κd:=κ) (x:=x) 0 hl with ⟨h1,h2⟩ | ⟨j,e',h1,h2,h3,h4⟩
 ·cases ok <;> simp [Instr.lookup,Sem.run_bind,run_underlying ht,MapKept.run_getObj_map hb,jz hk,gp hk h2,hz,h1]
 ·cases ok <;> simp [Instr.lookup,Sem.run_bind,run_underlying ht,MapKept.run_getObj_map hb,jz hk,gp hk h4,h3]
theorem gw (w:wD) (b:Nat) (o:Obj):XTouch (λ k=>k=b) w (setBlock w b o):=by
 refine⟨rfl,rfl,rfl,by simp [setBlock],λ k hk hn=>?_⟩;show(w.heap.setIfInBounds b o)[k]?=w.heap[k]?;rw[Array.getElem?_setIfInBounds];rw[if_neg (λ e=>hn e.symm)]
theorem ij (w:wD) (b:Nat) (o:Obj) (h:b<w.heap.size):(setBlock w b o).heap[b]?=some o:=by
 show(w.heap.setIfInBounds b o)[b]?=some o;rw[Array.getElem?_setIfInBounds,if_pos rfl,if_pos h]
theorem Zk {P:Program}{t kt e:TI}{κ:IntKind}{b:Nat}{f:Int->Option Value}{x:Int}{w:wD}{v:Value} (ht:P.underlying t=some (.map kt e)) (hk:P.underlying kt=some (.int κ)) (hm:Mp w κ b f) :
  ∃ w',(Instr.mapUpdate t (.map (some b)) (.int κ x) v).run P w= .ok () w'/\Mp w' κ b (upd f x (some v))/\XTouch (λ k=>k=b) w w':=by
 have hlt:=hm.lt;obtain⟨es,clock,hb,hl⟩:=hm;rcases lz (κd:=κ) (x:=x) 0 hl with ⟨h1,h2⟩ | ⟨j,e',h1,h2,h3,h4⟩
 ·refine⟨setBlock w b (.map (es.push ⟨.int κ x,v,clock⟩) (clock+1)),?_,⟨_,_,ij w b _ hlt,?_⟩,gw w b _⟩
  ·simp [Instr.mapUpdate,run_underlying ht,MapKept.run_getObj_map hb,jz hk,gp hk h2,MapKept.run_setObj_map _ hb,Result.andThen,setBlock]
  ·rw[Array.toList_push];exact Dk hl h1
 ·have hj:es[j]?=some e':=by simpa using h1
  have h4':Instr.findNow (.int κ) (.int κ x) es.toList 0=some (some (j,e'.val)):=by rw[h4,Nat.zero_add]
  have hst:∀ w,(Instr.keyThatStays (.int κ x) (.int κ x)).run P w= .ok (.int κ x) w:=λ w=>by
   have hs:Instr.sameBits 10000 (.int κ x) (.int κ x)=true:=by unfold Instr.sameBits;simp
   unfold Instr.keyThatStays;rw[hs];rfl
  refine⟨setBlock w b (.map (es.modify j λ e=>{ e with key:=.int κ x,val:=v }) clock),?_,⟨_,_,ij w b _ hlt,?_⟩,gw w b _⟩
  ·simp [Instr.mapUpdate,run_underlying ht,MapKept.run_getObj_map hb,jz hk,gp hk h4',hj,h2,hst,MapKept.run_setObj_map _ hb,Result.andThen,setBlock]
  ·rw[Array.toList_modify];exact wh hl h1 h2
theorem Zl {P:Program}{t kt e ty:TI}{ts:Array TI}{κ:IntKind}{b:Nat}{f:Int->Option Value}{x:Int}{w:wD} (h0:ts[0]?=some t) (ht:P.underlying t=some (.map kt e)) (hk:P.underlying kt=some (.int κ)) (hm:Mp w κ b f) :
  ∃ w',(Builtin.delete_ ts ty #[.map (some b),.int κ x]).run P w= .ok (.tuple #[]) w'/\Mp w' κ b (upd f x none)/\XTouch (λ k=>k=b) w w':=by
 have hlt:=hm.lt;obtain⟨es,clock,hb,hl⟩:=hm;have i1:(#[Value.map (some b),Value.int κ x]:AV)[0]?=some (.map (some b)):=rfl;have i2:(#[Value.map (some b),Value.int κ x]:AV)[1]?=some (.int κ x):=rfl;rcases lz (κd:=κ) (x:=x) 0 hl with ⟨h1,h2⟩ | ⟨j,e',h1,h2,h3,h4⟩
 ·refine⟨setBlock w b (.map es clock),?_,⟨_,_,ij w b _ hlt,?_⟩,gw w b _⟩
  ·simp [Builtin.delete_,h0,run_underlying ht,MapKept.run_getObj_map hb,jz hk,gp hk h2,MapKept.run_setObj_map _ hb,Result.andThen,setBlock]
  ·have:upd f x none=f:=by funext y;unfold upd;split;rename_i e;rw[e,h1];rfl
   rw[this];exact hl
 ·have h4':Instr.findNow (.int κ) (.int κ x) es.toList 0=some (some (j,e'.val)):=by rw[h4,Nat.zero_add]
  have hjs:j<es.size:=by have:=(List.getElem?_eq_some_iff.1 h1).1;simpa using this
  have hsub:(es.eraseIdxIfInBounds j).toList=es.toList.eraseIdx j:=by
   unfold Array.eraseIdxIfInBounds;rw[dif_pos hjs];simp
  refine⟨setBlock w b (.map (es.eraseIdxIfInBounds j) clock),?_,⟨_,_,ij w b _ hlt,?_⟩,gw w b _⟩
  ·simp [Builtin.delete_,h0,run_underlying ht,MapKept.run_getObj_map hb,jz hk,gp hk h4',MapKept.run_setObj_map _ hb,Result.andThen,setBlock]
  ·rw[hsub];exact zg hl h1 h2
end Go.Sx
