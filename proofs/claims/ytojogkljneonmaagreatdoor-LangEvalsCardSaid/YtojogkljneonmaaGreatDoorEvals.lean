/- The two evaluators of Lang say the same of whatever text. No condition. -/
import Derived.Test.YtojogkljneonmaaGreatDoorRows
import Derived.WalkKit
import Derived.ProofKit
import Derived.OpenShut
import Derived.Deep.Slices
import Derived.ChangeMaps5
import Derived.LaidHandle
import Derived.LaidMore
import Derived.Stop.Joined
import Derived.SevenTiedAt
import Derived.MakeChecks
import Derived.Test.YtojogkljneonmaaGreatDoorTie
import Derived.Test.YtojogkljneonmaaGreatDoorCards
import Derived.Test.YtojogkljneonmaaGreatDoorHe
import Derived.Stop.LaidErr
namespace Go.Proofs.YtojogkljneonmaaGreatDoor.langEvals
open Go.ChangeShapes Go.WideShapes Go.ChangeAt Go.RowKit Go.Deep Go.XHeap
set_option linter.unusedVariables false
theorem own:ownKnob Tryz.prog.godebug=none:=by kernel_rfl
def Zn:List (String×DataW Unit):=[("math/bits.deBruijn32tab",Rows.laid_math_bits_deBruijn32tab),("math/bits.deBruijn64tab",Rows.laid_math_bits_deBruijn64tab),("internal/strconv.uint64pow10",Rows.laid_internal_strconv_uint64pow10),("errors.errorType",Rows.laid_errors_errorType),("strconv.ErrRange",Rows.laid_strconv_ErrRange),("strconv.ErrSyntax",Rows.laid_strconv_ErrSyntax)]
theorem adw:laidOutB Tryz.prog=true:=by kernel_rfl
theorem aar : "*"++ "errors.errorString"= "*errors.errorString":=by decide +kernel
theorem ajh (u:TypeId) (h:Tryz.prog.typeName? 3 u=some "*errors.errorString"):u=262 :=
 typeName_ptr_named (nm:= "errors.errorString") (by rw[aar];kernel_rfl) (by kernel_rfl) (by decide) u (by rw[aar];exact h)
theorem Lz {W:World} {r:List (String×DataW Unit)} (h:laidMet Tryz.prog (("strconv.ErrRange",Rows.laid_strconv_ErrRange)::r) W):∃ t v,W.cell? ⟨3,0,none⟩=some (.iface t v):=by
 obtain⟨a,s,hv, -, -, -⟩:=laid_sentinel (g:=3) (ti:=23) (te:=264) (ts:=9) h (by kernel_rfl) (by kernel_rfl) Tryz.underlying23 ajh Tryz.underlying262 Tryz.underlying264 rfl rfl Tryz.underlying9 (by kernel_rfl) (by kernel_rfl);exact⟨_,_,by simpa using World.var?_cell (P:=Tryz.prog) (g:=3) (by kernel_rfl) hv 0⟩
theorem door_met (os:Os) (args:Array Value):laidMetH Tryz.prog Zn ((World.doorLaid Tryz.prog 69 os).forCall (λ _ _=>0) ⟨#[],args,[]⟩).memory:=by
 exact laidMetH_of_parts3 (fuel:=8) (laidMet_of_run' 8 (by kernel_rfl) (by kernel_rfl)) (by kernel_rfl) (by kernel_rfl)
set_option maxRecDepth 100000 in
theorem lifted (os:Os) (started:os.Started) (H:Type) (enc:TypeId×Value->H) :
  ReturnsInHanded {} Tryz.checked os 5 .any (λ w args=>(Rows.langEvalsSpec.pre enc Tryz.prog Tryz.f5 [] false w args/\laidMetH Tryz.prog Zn w)/\sizedMet enc Tryz.prog Tryz.f5 (OpenSpec.ofChange Rows.langEvalsSpec) false w args) (Rows.langEvalsSpec.post enc Tryz.prog Tryz.f5 false true false false):=by
 refine returnsInHanded_of_change_and (C:=Tryz.checked) (X:=λ w _=>laidMetH Tryz.prog Zn w) (λ _ _ _ hh h=>h.of_heap hh) own started (by kernel_rfl) Tryz.func5
  (ChangeSpec.witness_shaped (enc:=enc) (C:=Tryz.checked) (os:=os) (X:=λ w _=>laidMetH Tryz.prog Zn w) false (World.doorLaid Tryz.prog 69 os) #[.string ⟨#[]⟩,.int .i64 0,.int .i64 0] 8 rfl (World.shaped_of_RefB (by kernel_rfl) (by kernel_rfl)) (by kernel_rfl) (by kernel_rfl) (by kernel_rfl) (door_met os _)) ?_
 intro W base args ds gs dg hval0 hW _ _ hL _;have hval:∀ (j:Nat) t v,Tryz.f5.params[j]?=some t->args[j]?=some v->Value.okWide Tryz.prog W .any base t v:=hval0;have hW':=hW;obtain⟨p,q,hA0,hV,rfl,hfz,hnd⟩:=hW;have hA:DataW.TrodAll enc Tryz.prog W 0 (λ _=>true) true Tryz.f5.params.toList args.toList ds p:=hA0;rw[Tryz.params5] at hA hval;obtain⟨v0,vs0,d0,ds0,p0,q0,hargs,rfl,rfl,h0,r0⟩:=trodAll_cons hA;obtain⟨v1,vs1,d1,ds1,p1,q1,rfl,rfl,rfl,h1,r1⟩:=trodAll_cons r0;obtain⟨v2,vs2,d2,ds2,p2,q2,rfl,rfl,rfl,h2,r2⟩:=trodAll_cons r1;obtain⟨rfl,rfl,rfl⟩:=trodAll_nil r2;obtain rfl:args=#[v0,v1,v2]:=by cases args;simp_all
 obtain⟨rfl,rfl⟩:=trodVars_none hV;obtain⟨s0,rfl,rfl,rfl,w0⟩:=Go.ChangeMaps.open_string Tryz.underlying9 (hval 0 9 v0 rfl rfl) h0;obtain⟨n1,rfl,rfl,rfl,w1⟩:=open_int Tryz.underlying3 (hval 1 3 v1 rfl rfl) h1;obtain⟨n2,rfl,rfl,rfl,w2⟩:=open_int Tryz.underlying3 (hval 2 3 v2 rfl rfl) h2;clear hA0 hval0;simp only[List.append_nil,List.nil_append] at hW'
 have hn1 : -9223372036854775808≤n1/\n1≤9223372036854775807:=by simpa [Lit.wf,IntKind.min,IntKind.max,IntKind.signed,IntKind.bits] using w1
 have hn2 : -9223372036854775808≤n2/\n2≤9223372036854775807:=by simpa [Lit.wf,IntKind.min,IntKind.max,IntKind.signed,IntKind.bits] using w2
 obtain⟨hL1,hL2⟩:laidMet Tryz.prog [("math/bits.deBruijn32tab",Rows.laid_math_bits_deBruijn32tab),("math/bits.deBruijn64tab",Rows.laid_math_bits_deBruijn64tab),("internal/strconv.uint64pow10",Rows.laid_internal_strconv_uint64pow10),("strconv.ErrRange",Rows.laid_strconv_ErrRange),("strconv.ErrSyntax",Rows.laid_strconv_ErrSyntax)] W/\handlesMet Tryz.prog [("errors.errorType",Rows.laid_errors_errorType)] W:=hL;have hE:=Qd hL2;obtain⟨gt,gv,hg3⟩:=Lz hL1.tail.tail.tail;have hg3b:(3:Nat)<W.heap.size:=World.block_lt_of_cell? _ _ hg3;obtain⟨go,hgo⟩:∃ o,W.heap[3]?=some o:=⟨_,Array.getElem?_eq_getElem hg3b⟩;letI hI:Inhabited Go.Lang.G3o:=⟨⟨go⟩⟩;have hgA:globA.at_ W:=⟨⟨gt,gv,hg3⟩,by exact hgo⟩;obtain⟨l0,rfl⟩:∃ l:List UInt8,s0=Go.Lang.ofL l:=⟨s0.data.toList,by simp [Go.Lang.ofL]⟩;refine(Zm l0 n1 n2 hgA hE).mono λ e W' ⟨he,ht⟩=>?_;have hb:Below W.heap.size W W':=ht.below (Nat.le_refl _) (λ _ e=>e.elim);subst he
 exact⟨_,rfl,_,_,_,[],[]++([]++([]++[])),[],hW',trodAll_mk1 (shut_bool Tryz.underlying4 _),
  trodAll_cons_mk (Below.trod adw (by kernel_rfl) (of_decide_eq_true (by kernel_rfl)) h0 hb (λ _ h=>by cases h)) (trodAll_cons_mk (shut_int Tryz.underlying3 w1) (trodAll_cons_mk (shut_int Tryz.underlying3 w2) trodAll_mk0)),
  rfl,hb.frame _,λ h=>by cases h⟩
theorem over:Rows.langEvalsRow.holds Tryz.pinned (OpenSpec.ofChange Rows.langEvalsSpec) :=
 OpenClaim.holds_of_wide 5 Tryz.f5 rfl rfl rfl rfl rfl rfl rfl ⟨rfl,rfl,rfl,rfl,rfl⟩ rfl rfl rfl rfl rfl (by kernel_rfl) Tryz.func5 (by kernel_rfl)
  (of_decide_eq_true (by kernel_rfl)) (by unfold Func.isWrapper;first | (rw[if_pos (by decide +kernel)];kernel_rfl) | (rw[if_neg (by decide +kernel)];exact⟨rfl,rfl⟩))
  (λ os started H enc _=>lifted os started H enc)
theorem Vw:Rows.LangEvalsSaid:=over
theorem proved:Rows.LangEvalsCardSaid :=
 Claim7.holds_tied_plain_at .later [] [.data,.data,.data,.handle,.sentinel,.sentinel] true (true,"ca0db60c519f1d86cc8d0f76a582f610b97d1d5fe65d2fed9e34f12887a60e7a") true
  Vw (λ _ h=>by cases h) (by kernel_rfl) (λ _ h=>by cases h) langEvals_row_tie rfl ⟨rfl,rfl⟩ (by kernel_rfl) rfl
  (λ f fn hf hfn=>by
   obtain rfl:f=5:=Option.some.inj ((show Tryz.prog.funcNamed "oocore/oocorelaw13.LangEvals"=some 5 by kernel_rfl).symm.trans hf) |>.symm
   obtain rfl:fn=Tryz.f5:=(Option.some.inj (Tryz.func5.symm.trans hfn)).symm
   exact⟨by kernel_rfl,λ j t ht=>by
    rw[Tryz.params5] at ht;have ht':t ∈ #[9,3,3]:=Array.mem_of_getElem? ht;simp only[List.mem_toArray,List.mem_cons,List.not_mem_nil,or_false] at ht';rcases ht' with rfl | rfl | rfl
    ·exact(show Tryz.prog.wantsStandIn 9=false by kernel_rfl)
    ·exact(show Tryz.prog.wantsStandIn 3=false by kernel_rfl)
    ·exact(show Tryz.prog.wantsStandIn 3=false by kernel_rfl)⟩)
  (by kernel_rfl)
#print axioms proved
end Go.Proofs.YtojogkljneonmaaGreatDoor.langEvals
