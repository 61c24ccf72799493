/- The law CoreApart holds, where what it reads is of bulk at most 1048576: what is handed in is left alone, and what comes out is the caller's. -/
import Derived.WalkKit
import Derived.ProofKit
import Derived.OpenShut
import Derived.Deep.Slices
import Derived.Deep.DeepHandedRow
import Derived.Deep.DeepWitnessRowRef
import Derived.ChangeMaps5
import Derived.LaidMore
import Derived.SevenTiedAt
import Derived.MakeChecks
import Derived.Test.YtmncepdbglaphaaGreatDoorTie
import Derived.Test.YtmncepdbglaphaaGreatDoorCards
import Derived.Test.YtmncepdbglaphaaGreatDoorNJoin
import Derived.Stop.Joined
namespace Go.Proofs.YtmncepdbglaphaaGreatDoor.coreApartUpto
open Go.ChangeShapes Go.WideShapes Go.ChangeAt Go.RowKit Go.Deep Go.XHeap
set_option linter.unusedVariables false
theorem own:ownKnob Tryz.prog.godebug=none:=by kernel_rfl
theorem Dg:laidOutB Tryz.prog=true:=by kernel_rfl
set_option maxRecDepth 100000
theorem Xz {H:Type} (d:DataW H):1≤Rows.uptoBulk d:=by
 cases d with
 | lit l=>cases l <;> simp [Rows.uptoBulk]
 | _=>simp [Rows.uptoBulk]
theorem Ig {H:Type} (l:List (DataW H)):l.length≤Rows.uptoBulkAll l:=by
 induction l with
 | nil=>simp [Rows.uptoBulkAll]
 | cons x r ih=>have:=Xz x;simp only[Rows.uptoBulkAll,List.length_cons];omega
theorem Tr {α:Type}{P:Nat->α->Prop}:∀ (n:Nat),(∀ i,i<n->∃ x,P i x)->∃ l:List α,l.length=n/\∀ i x,l[i]?=some x->P i x
 | 0,_=>⟨[],rfl,λ i x h=>by simp at h⟩
 | n+1,h=>by
  obtain⟨l,hl,hp⟩:=Tr n λ i hi=>h i (by omega);obtain⟨y,hy⟩:=h n (by omega);refine⟨l++[y],by simp [hl],λ i x hi=>?_⟩;by_cases hn:i<n
  ·rw[List.getElem?_append_left (by omega)] at hi;exact hp i x hi
  ·have:i=n:=by have:=(List.getElem?_eq_some_iff.1 hi).1;simp at this;omega
   subst this;rw[List.getElem?_append_right (by omega),hl,Nat.sub_self] at hi;obtain rfl:y=x:=by simpa using hi
   exact hy
theorem yr {P:Program}{w:World}{r:Reach}{base:Nat}{t e:TypeId}{a:Addr}{len cap:Nat} (ht:P.underlying t=some (.slice e)) (h:Value.okWide P w r base t (.slice (some a) len cap)):a.spot=none:=by
 simp only[Value.okWide,ht,Cell.okWide,Cell.ok] at h;exact h.2.2.2.1
theorem Ts {α:Type}{H:Type}{enc:TypeId×Value->H}{W:World}{a0:Option Addr}{len cap fuel:Nat}{x:DataW H×List MemPlace}{t e:TypeId} (ht:Tryz.prog.underlying t=some (.slice e)) (hC:Tryz.prog.cellsOf e=1) (V:α->Value) (Q:α->Prop)
  (hv:∀ (v:Value) (n:Nat) (y:DataW H×List MemPlace),DataW.trod enc Tryz.prog W 0 (λ _=>true) true n e [v]=some y->∃ z,v=V z/\Q z)
  {base:Nat} (hok:Value.okWide Tryz.prog W .any base t (.slice a0 len cap)) (h:DataW.trod enc Tryz.prog W 0 (λ _=>true) true fuel t [.slice a0 len cap]=some x) :
  ∃ l:List α,l.length=len/\len≤cap/\((a0=none∨∃ g off,a0=some ⟨g,off,none⟩)/\∀ i z,l[i]?=some z->Q z/\∃ g off,a0=some ⟨g,off,none⟩/\g<W.heap.size/\W.cell? ⟨g,off+i,none⟩=some (V z))/\len≤Rows.uptoBulk x.1:=by
 rcases open_slice ht h with ⟨hcs,hx⟩ | ⟨a,len',cap',m,n,D,Pl,hcs,_,hl,hm,hmm,hx,hi⟩
 ·simp at hcs;obtain⟨rfl,rfl,rfl⟩:=hcs;exact⟨[],rfl,Nat.le_refl _,⟨.inl rfl,λ i x h=>by simp at h⟩,Nat.zero_le _⟩
 ·simp at hcs;obtain⟨rfl,rfl,rfl⟩:=hcs;simp at hmm;subst hmm
  have key:∀ i,i<m->∃ z,V z=V z/\Q z/\W.cell? (a.add i)=some (V z):=by
   intro i hi';obtain⟨cs',hc,ht'⟩:=hi i hi';rw[hC,Nat.mul_one] at hc;obtain⟨_,hcl,hat⟩:=World.cells?_some hc;obtain⟨v,rfl⟩:=List.length_eq_one_iff.1 hcl;obtain⟨z,rfl,hq⟩:=hv v _ _ ht';refine⟨z,rfl,hq,?_⟩;have:=hat 0 (by omega);simpa [Addr.add] using this
  obtain⟨b,off,spot⟩:=a
  have hb:len≤Rows.uptoBulk x.1:=by
   rw[hx];simp only[Rows.uptoBulk];have:=Ig ((List.range len).map D);simp at this;omega
  obtain⟨l,hll,hlp⟩:=Tr len λ i hi'=>key i (by omega);refine⟨l,hll,hl,⟨?_,λ i z hz=>?_⟩,hb⟩
  ·have:spot=none:=yr (P:=Tryz.prog) (w:=W) (r:=.any) (base:=base) (a:=⟨b,off,spot⟩) ht hok;subst this;exact .inr ⟨_,_,rfl⟩
  ·obtain⟨-,hq,hc⟩:=hlp i z hz;have hspot:spot=none:=yr (P:=Tryz.prog) (w:=W) (r:=.any) (base:=base) (a:=⟨b,off,spot⟩) ht hok;subst hspot;rw[add_plain] at hc;exact⟨hq,b,off,rfl,World.block_lt_of_cell? _ _ hc,hc⟩
theorem Tt {α:Type}{W:World}{a0:Option Addr}{l:List α}{V:α->Value} (h:∀ i z,l[i]?=some z->∃ g off,a0=some ⟨g,off,none⟩/\g<W.heap.size/\W.cell? ⟨g,off+i,none⟩=some (V z)):ko.RdS W a0 l.length (l.map V):=by
 refine⟨List.length_map _,?_⟩
 cases l with
 | nil=>exact .inl rfl
 | cons x r =>
  right;obtain⟨g,off,hp,hg, -⟩:=h 0 x rfl;refine⟨g,off,hp,hg,λ j hj=>?_⟩;obtain⟨g',off',hp', -,hc⟩:=h j _ (List.getElem?_eq_getElem hj);rw[hp] at hp';cases hp';rw[hc,List.getElem?_map,List.getElem?_eq_getElem hj];rfl
theorem aew {H:Type}{enc:TypeId×Value->H}{W:World}{a0:Option Addr}{len cap fuel:Nat}{x:DataW H×List MemPlace}{base:Nat} (hok:Value.okWide Tryz.prog W .any base 26 (.slice a0 len cap)) (h:DataW.trod enc Tryz.prog W 0 (λ _=>true) true fuel 26 [.slice a0 len cap]=some x) :
  ∃ l:List Int,l.length=len/\len≤cap/\ko.RdS W a0 l.length (win.intsV l)/\len≤Rows.uptoBulk x.1:=by
 obtain⟨l,h1,h2,⟨-,h3⟩,h4⟩:=Ts (α:=Int) Tryz.underlying26 (by kernel_rfl) (λ z=>.int .i64 z) (λ _=>True) (λ v n y h=>by
  obtain⟨z,h1, -, -⟩:=DataW.trod_int Tryz.underlying3 h
  exact⟨z,by simpa using h1,trivial⟩) hok h
 exact⟨l,h1,h2,Tt λ i z hz=>(h3 i z hz).2,h4⟩
theorem Ya {H:Type}{enc:TypeId×Value->H}{W:World}{a0:Option Addr}{len cap fuel:Nat}{x:DataW H×List MemPlace}{base:Nat} (hok:Value.okWide Tryz.prog W .any base 25 (.slice a0 len cap)) (h:DataW.trod enc Tryz.prog W 0 (λ _=>true) true fuel 25 [.slice a0 len cap]=some x) :
  ∃ l:List Nat,l.length=len/\len≤cap/\(ko.RdS W a0 l.length (cbus.u8n l)/\∀ x ∈ l,x<256)/\len≤Rows.uptoBulk x.1:=by
 obtain⟨l,h1,h2,⟨h5,h3⟩,h4⟩:=Ts (α:=Nat) Tryz.underlying25 (by kernel_rfl) (λ z=>.int .u8 (z:Nat)) (λ z=>z<256) (λ v n y h=>by
  obtain⟨z,h1, -,hw⟩:=DataW.trod_int Tryz.underlying5 h
  have:0≤z/\z≤255:=by simpa [Lit.wf,IntKind.min,IntKind.max,IntKind.signed,IntKind.bits] using hw
  refine⟨z.toNat,?_,by omega⟩;rw[show((z.toNat:Nat):Int)=z by omega]
  simpa using h1) hok h
 refine⟨l,h1,h2,⟨Tt λ i z hz=>(h3 i z hz).2,λ z hz=>?_⟩,h4⟩;obtain⟨i,hi⟩:=List.getElem?_of_mem hz;exact(h3 i z hi).1
theorem Yb {H:Type}{enc:TypeId×Value->H}{W:World}{a0:Option Addr}{len cap fuel:Nat}{x:DataW H×List MemPlace}{base:Nat} (hok:Value.okWide Tryz.prog W .any base 24 (.slice a0 len cap)) (h:DataW.trod enc Tryz.prog W 0 (λ _=>true) true fuel 24 [.slice a0 len cap]=some x) :
  ∃ l:List Int,l.length=len/\len≤cap/\(ko.RdS W a0 l.length (u32s l)/\∀ x ∈ l,U32 x)/\len≤Rows.uptoBulk x.1:=by
 obtain⟨l,h1,h2,⟨h5,h3⟩,h4⟩:=Ts (α:=Int) Tryz.underlying24 (by kernel_rfl) (λ z=>.int .u32 z) U32 (λ v n y h=>by
  obtain⟨z,h1, -,hw⟩:=DataW.trod_int Tryz.underlying47 h
  have:0≤z/\z≤4294967295:=by simpa [Lit.wf,IntKind.min,IntKind.max,IntKind.signed,IntKind.bits] using hw
  exact⟨z,by simpa using h1,by omega,by omega⟩) hok h
 refine⟨l,h1,h2,⟨Tt λ i z hz=>(h3 i z hz).2,λ z hz=>?_⟩,h4⟩;obtain⟨i,hi⟩:=List.getElem?_of_mem hz;exact(h3 i z hi).1
theorem door_met (os:Os) (args:Array Value):laidMetH Tryz.prog Rows.coreApartUptoRow.laid ((World.doorLaid Tryz.prog 110 os).forCall (λ _ _=>0) ⟨#[],args,[]⟩).memory:=by
 rw[MakeChecks.laidMetH_plain _ _ _ (by kernel_rfl)];exact laidMet_of_run' 8 (by kernel_rfl) (by kernel_rfl)
theorem reads (os:Os){H:Type} (enc:TypeId×Value->H):∃ places,DataW.whole enc Tryz.prog ((World.doorLaid Tryz.prog 110 os).forCall (λ _ _=>0) ⟨#[],#[.agg #[.int .i64 0,.int .i64 0,.int .i64 0,.int .i64 0,.int .i64 0,.int .i64 0,.int .i64 0,.int .i64 0,.int .i64 0,.int .i64 0,.int .i64 0,.int .i64 0,.int .i64 0,.int .i64 0,.bool false],.slice none 0 0,.slice none 0 0,.slice none 0 0,.int .i64 0],[]⟩).memory Tryz.f3.params.toList Rows.coreApartSpec.vars false (#[.agg #[.int .i64 0,.int .i64 0,.int .i64 0,.int .i64 0,.int .i64 0,.int .i64 0,.int .i64 0,.int .i64 0,.int .i64 0,.int .i64 0,.int .i64 0,.int .i64 0,.int .i64 0,.int .i64 0,.bool false],.slice none 0 0,.slice none 0 0,.slice none 0 0,.int .i64 0]:Array Value).toList 8=some ([.agg [.lit (.int .i64 0),.lit (.int .i64 0),.lit (.int .i64 0),.lit (.int .i64 0),.lit (.int .i64 0),.lit (.int .i64 0),.lit (.int .i64 0),.lit (.int .i64 0),.lit (.int .i64 0),.lit (.int .i64 0),.lit (.int .i64 0),.lit (.int .i64 0),.lit (.int .i64 0),.lit (.int .i64 0),.lit (.bool false)],.nil,.nil,.nil,.lit (.int .i64 0)],[],places) :=
 ⟨[],by kernel_rfl⟩
set_option maxRecDepth 100000 in
theorem lifted (os:Os) (started:os.Started) (H:Type) (enc:TypeId×Value->H) (F:Stop.Interp) :
  ReturnsInHanded {} Tryz.checked os 3 .any ((Rows.OpenSpec.upto Rows.coreApartSpec).preRow enc Tryz.prog Tryz.f3 Rows.coreApartUptoRow.domain false Rows.coreApartUptoRow.laid) (((Rows.OpenSpec.upto Rows.coreApartSpec).at F).post enc Tryz.prog Tryz.f3 false true false false):=by
 obtain⟨places,hx⟩:=reads os enc;refine returnsInHanded_of_row (C:=Tryz.checked) (s:=Rows.OpenSpec.upto Rows.coreApartSpec) own started (by kernel_rfl) Tryz.func3
  (witness_row_atRef (enc:=enc) (C:=Tryz.checked) false (World.doorLaid Tryz.prog 110 os) #[.agg #[.int .i64 0,.int .i64 0,.int .i64 0,.int .i64 0,.int .i64 0,.int .i64 0,.int .i64 0,.int .i64 0,.int .i64 0,.int .i64 0,.int .i64 0,.int .i64 0,.int .i64 0,.int .i64 0,.bool false],.slice none 0 0,.slice none 0 0,.slice none 0 0,.int .i64 0] rfl (by kernel_rfl) (by kernel_rfl) (by kernel_rfl)
   (OpenSpec.preRow_of_cond 8 hx (by kernel_rfl) (λ k hk=>by cases hk;kernel_rfl) (by kernel_rfl) (door_met os _))) ?_
 intro W base args ds gs before hval0 hW hcnd hk0 _ hL _ _;have hk:=hk0 _ rfl;rw[MakeChecks.laidMetH_plain _ _ _ (by kernel_rfl)] at hL;have hval:∀ (j:Nat) t v,Tryz.f3.params[j]?=some t->args[j]?=some v->Value.okWide Tryz.prog W .any base t v:=hval0;have hW':=hW;obtain⟨p,q,hA0,hV,rfl,hfz,hnd⟩:=hW;have hA:DataW.TrodAll enc Tryz.prog W 0 (λ _=>true) true Tryz.f3.params.toList args.toList ds p:=hA0;rw[Tryz.params3] at hA hval;obtain⟨v0,vs0,d0,ds0,p0,q0,hargs,rfl,rfl,h0,r0⟩:=trodAll_cons hA;obtain⟨v1,vs1,d1,ds1,p1,q1,rfl,rfl,rfl,h1,r1⟩:=trodAll_cons r0;obtain⟨v2,vs2,d2,ds2,p2,q2,rfl,rfl,rfl,h2,r2⟩:=trodAll_cons r1;obtain⟨v3,vs3,d3,ds3,p3,q3,rfl,rfl,rfl,h3,r3⟩:=trodAll_cons r2;obtain⟨v4,vs4,d4,ds4,p4,q4,rfl,rfl,rfl,h4,r4⟩:=trodAll_cons r3;obtain⟨rfl,rfl,rfl⟩:=trodAll_nil r4;obtain rfl:args=#[v0,v1,v2,v3,v4]:=by cases args;simp_all
 obtain⟨rfl,rfl⟩:=trodVars_none hV;obtain⟨cs0,rfl,hz0⟩:=okWide_struct Tryz.underlying23 (hval 0 23 v0 rfl rfl);obtain⟨a1,len1,cap1,rfl⟩:=okWide_slice Tryz.underlying24 (hval 1 24 v1 rfl rfl);obtain⟨a2,len2,cap2,rfl⟩:=okWide_slice Tryz.underlying25 (hval 2 25 v2 rfl rfl);obtain⟨a3,len3,cap3,rfl⟩:=okWide_slice Tryz.underlying26 (hval 3 26 v3 rfl rfl);obtain⟨n4,rfl,rfl,rfl,w4⟩:=open_int Tryz.underlying3 (hval 4 3 v4 rfl rfl) h4;clear hA0 hval0;simp only[List.append_nil] at hW';have hlt0:∀ x ∈ p0,x.block<W.heap.size:=λ x hx=>hW'.lt x (by simp [hx]);have h0c:=h0;obtain⟨fu0,hf0⟩:=h0c;simp only[Value.cells] at hf0;obtain⟨s0,hs0,rfl⟩:=ko.su_of hz0 hf0;have hlt1:∀ x ∈ p1,x.block<W.heap.size:=λ x hx=>hW'.lt x (by simp [hx]);have h1c:=h1;obtain⟨fu1,hf1⟩:=h1c;simp [Value.cells] at hf1;obtain⟨l1,hl1,hc1,hi1,hb1⟩:=Yb (hval 1 24 _ rfl rfl) hf1;subst hl1;simp only at hb1;have hlt2:∀ x ∈ p2,x.block<W.heap.size:=λ x hx=>hW'.lt x (by simp [hx]);have h2c:=h2;obtain⟨fu2,hf2⟩:=h2c;simp [Value.cells] at hf2;obtain⟨l2,hl2,hc2,hi2,hb2⟩:=Ya (hval 2 25 _ rfl rfl) hf2;subst hl2;simp only at hb2;have hlt3:∀ x ∈ p3,x.block<W.heap.size:=λ x hx=>hW'.lt x (by simp [hx]);have h3c:=h3;obtain⟨fu3,hf3⟩:=h3c;simp [Value.cells] at hf3;obtain⟨l3,hl3,hc3,hi3,hb3⟩:=aew (hval 3 26 _ rfl rfl) hf3;subst hl3;simp only at hb3
 have hn4 : -9223372036854775808≤n4/\n4≤9223372036854775807:=by simpa [Lit.wf,IntKind.min,IntKind.max,IntKind.signed,IntKind.bits] using w4
 have hB:Rows.uptoBulkAll ([d0,d1,d2,d3,.lit (.int .i64 n4)]:List (DataW H))≤1048576:=by simpa [Rows.uptoSmall] using hk
 simp only[Rows.uptoBulkAll] at hB;have hL1:laidMet Tryz.prog [("oocore/isa.early",Rows.laid_oocore_isa_early),("oocore/isa.late",Rows.laid_oocore_isa_late),("oocore/isa.byCode",Rows.laid_oocore_isa_byCode)] W:=hL;have hT:=Gu hL1 (by simp) (by simp);have hC:=ko.code_of_laid hL1 (by simp);refine(ko.law_any s0 hs0 n4 hn4 hT hC hi1.1 hi2.1 hi3 hi1.2 hi2.2 (by omega) (by omega) (by omega)).mono λ e W' ⟨he,ht⟩=>?_;have hb:Below W.heap.size W W':=ht.below (Nat.le_refl _) (λ _ e=>e.elim);subst he
 exact⟨_,rfl,_,_,_,[],p0++(p1++(p2++(p3++([]++[])))),[],hW',trodAll_mk1 (shut_bool Tryz.underlying4 _),
  trodAll_cons_mk (Below.trod Dg (by kernel_rfl) (of_decide_eq_true (by kernel_rfl)) h0 hb hlt0) (trodAll_cons_mk (Below.trod Dg (by kernel_rfl) (of_decide_eq_true (by kernel_rfl)) h1 hb hlt1) (trodAll_cons_mk (Below.trod Dg (by kernel_rfl) (of_decide_eq_true (by kernel_rfl)) h2 hb hlt2) (trodAll_cons_mk (Below.trod Dg (by kernel_rfl) (of_decide_eq_true (by kernel_rfl)) h3 hb hlt3) (trodAll_cons_mk (shut_int Tryz.underlying3 w4) trodAll_mk0)))),
  rfl,hb.frame _,λ h=>by cases h⟩
theorem over:Rows.CoreApartUptoSaid :=
 OpenClaim.holds_of_cond 3 Tryz.f3 rfl rfl rfl rfl rfl rfl rfl ⟨rfl,rfl,rfl,rfl,rfl⟩ rfl rfl rfl rfl rfl (by kernel_rfl) Tryz.func3 aht
  (of_decide_eq_true (by kernel_rfl)) (by unfold Func.isWrapper;first | (rw[if_pos (by decide +kernel)];kernel_rfl) | (rw[if_neg (by decide +kernel)];exact⟨rfl,rfl⟩))
  (λ os started H enc _ F=>by rw[OpenClaim.pre_eq_preRow];exact lifted os started H enc F)
theorem proved:Rows.CoreApartUptoCardSaid :=
 Claim7.holds_tied_plain_at .later [] [.data,.data,.data] true (true,"8561e3ce4c0533d8ebc51a52acf8f42ae008ac12246f5d6e1218be969369262d") false
  over (λ _ h=>by cases h) (by kernel_rfl) (λ _ h=>by cases h) coreApartUpto_row_tie rfl ⟨rfl,rfl⟩ (by kernel_rfl) rfl
  (λ f fn hf hfn=>by
   obtain rfl:f=3:=Option.some.inj ((show Tryz.prog.funcNamed "oocore/oocorelaw11.CoreApart"=some 3 by kernel_rfl).symm.trans hf) |>.symm
   obtain rfl:fn=Tryz.f3:=(Option.some.inj (Tryz.func3.symm.trans hfn)).symm
   exact⟨by kernel_rfl,λ j t ht=>by
    rw[Tryz.params3] at ht;have ht':t ∈ #[23,24,25,26,3]:=Array.mem_of_getElem? ht;simp only[List.mem_toArray,List.mem_cons,List.not_mem_nil,or_false] at ht';rcases ht' with rfl | rfl | rfl | rfl | rfl
    ·exact(show Tryz.prog.wantsStandIn 23=false by kernel_rfl)
    ·exact(show Tryz.prog.wantsStandIn 24=false by kernel_rfl)
    ·exact(show Tryz.prog.wantsStandIn 25=false by kernel_rfl)
    ·exact(show Tryz.prog.wantsStandIn 26=false by kernel_rfl)
    ·exact(show Tryz.prog.wantsStandIn 3=false by kernel_rfl)⟩)
  (by kernel_rfl)
#print axioms proved
end Go.Proofs.YtmncepdbglaphaaGreatDoor.coreApartUpto
