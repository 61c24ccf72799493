/- The evaluators, whole; the law. No condition. -/
import Derived.Test.YtojogkljneonmaaGreatDoorLangTf
import Derived.Test.YtojogkljneonmaaGreatDoorLangVh
import Derived.Test.YtojogkljneonmaaGreatDoorToldF
import Derived.Test.YtojogkljneonmaaGreatDoorRows
import Derived.LaidHandle
set_option linter.unusedVariables false
set_option linter.unusedSimpArgs false
namespace Go.Lang
def ftP (l:List D):Ft:=λ k=>match l[k]? with
 | some (.fn _ _ _ s _ b)=>some (s.toNat,b)
 | _=>none
theorem Gg:∀ ds:List D,(toD ds .nil).len=ds.length
 | []=>rfl
 | .var ..::r=>by simp only[toD,Fo.len,List.length_cons,Gg r]
 | .fn ..::r=>by simp only[toD,Fo.len,List.length_cons,Gg r]
theorem Bi:∀ ds:List D,(∀ d ∈ ds,DOk d)->fwn ds.length (toD ds .nil)=total ds
 | [],_=>rfl
 | .var t nm w z::r,h=>by
  have h0:=h _ (List.mem_cons_self ..);show wv mb z+fwn r.length (toD r .nil)=max 1 z.toNat+total r;rw[Bi r (λ d hd=>h d (List.mem_cons_of_mem _ hd)),Mw h0.1]
 | .fn t nm ps s no b::r,h=>by
  show wv da 0+fwn r.length (toD r .nil)=total r;rw[Bi r (λ d hd=>h d (List.mem_cons_of_mem _ hd))];show 0+_=_;omega
theorem Zj {ds:List D}{q:List D×Nat} (hch:check (λ i=>i) ds= .ok q) (hd:∀ d ∈ ds,DOk d/\d.nok):LkS (ftP q.1) (rq (λ i=>i) (count ds 0 0)) ds/\LkF (ftP q.1) (total ds) (rq (λ i=>i) (count ds 0 0)):=by
 obtain⟨hr, -⟩:=rx hch;have hcd:=vg ds 0 0 hd;rw[Nat.zero_add] at hcd
 have key:∀ s g,rq (λ i=>i) (count ds 0 0) s=some g->∃ i d,de (count ds 0 0) s=some i/\(count ds 0 0)[i]?=some d/\g=ajm i d:=by
  intro s g hs;unfold rq at hs
  cases hi:de (count ds 0 0) s with
  | none=>rw[hi] at hs;cases hs
  | some i =>
   rw[hi,Option.bind_some] at hs
   cases hx:(count ds 0 0)[i]? with
   | none=>rw[hx] at hs;cases hs
   | some d=>rw[hx] at hs;cases hs;exact⟨i,d,rfl,hx,rfl⟩
 have fn:∀ i tk nm ps s0 no b,(count ds 0 0)[i]?=some (.fn tk nm ps s0 no b)->∃ p r,pz (rq (λ i=>i) (count ds 0 0)) tk.line ps [] 0= .ok p/\cst (rq (λ i=>i) (count ds 0 0)) b p.1 p.2= .ok r/\ftP q.1 i=some (r.2.2,r.1):=by
  intro i tk nm ps s0 no b hx;obtain⟨-,hco⟩:=ve _ _ _ _ hr;obtain⟨d',dup,hj,hcone⟩:=hco i _ hx;obtain⟨p,r,hp,hst,rfl⟩:=Dg hcone;refine⟨p,r,hp,hst,?_⟩;unfold ftP;rw[hj];simp
 refine⟨⟨λ s w z hs=>?_,λ s k np hs=>?_⟩,⟨λ s w z hs=>?_,λ s k np hs=>?_⟩⟩
 ·obtain⟨i,d,hi,hx,hg⟩:=key s _ hs;obtain⟨d0,h1,h2,h3⟩:=ko _ _ _ _ _ _ hi hx
  cases d with
  | fn=>cases hg
  | var t nm w' z' =>
   cases hg;obtain⟨w0,rfl⟩:=h2;have e:=h3 _ _ _ _ rfl;refine⟨by omega,by omega,?_⟩;unfold Bt;rw[h1]
 ·obtain⟨i,d,hi,hx,hg⟩:=key s _ hs;obtain⟨d0,h1,h2, -⟩:=ko _ _ _ _ _ _ hi hx
  cases d with
  | var=>cases hg
  | fn t nm ps s0 no b =>
   cases hg;obtain⟨no0,rfl⟩:=h2;obtain⟨p,r,hp,hst,hF⟩:=fn _ _ _ _ _ _ _ hx;exact⟨t,nm,ps,s0,no0,b,r.2.2,p,r,h1,rfl,(hd _ (List.mem_of_find?_eq_some h1)).2,hp,hst,hF,rfl⟩
 ·obtain⟨i,d,hi,hx,hg⟩:=key s _ hs;have:=hcd d (List.mem_of_getElem? hx)
  cases d with
  | fn=>cases hg
  | var t nm w' z' =>
   cases hg;obtain⟨a,b,c,e⟩:=this;exact⟨by omega,c,e,b⟩
 ·obtain⟨i,d,hi,hx,hg⟩:=key s _ hs
  cases d with
  | var=>cases hg
  | fn t nm ps s0 no b =>
   cases hg;obtain⟨p,r,hp,hst,hF⟩:=fn _ _ _ _ _ _ _ hx;refine⟨_,_,hF,?_⟩;have a1:=(uw ps t.line [] 0 p ⟨List.nodup_nil,List.nodup_nil,λ p hp=>by cases hp⟩ hp).2.1;have a2:=(fe _ b p.1 p.2 r (by have:=(rt ps t.line [] 0 p (by omega) (by simp) hp);exact this.2) (by have:=(rt ps t.line [] 0 p (by omega) (by simp) hp);exact this.1) hst).2.2.2;show ps.length≤r.2.2;omega
end Go.Lang
namespace Go.Proofs.YtojogkljneonmaaGreatDoor
open Go Go.Proofs.Tryz Go.Proofs Go.Sep Go.XHeap Go.RowKit Go.Lang
variable {W w0 w:World}{M:Nat->Prop}{L:List Asn}{X:Xw}{h:Hw}{S:Ws}{F:Ft}{lk:Lk}{nw f:Nat}{r:Rw}
theorem agd [Inhabited G3o] (G:Gx X F lk nw):∀ f:Nat,Wr X F lk nw f:=by
 intro f
 induction f using Nat.strongRecOn with
 | ind f ih =>
  cases f with
  | zero=>exact⟨λ _ _ _ _ _ _ hne=>absurd rfl hne,λ _ _ _ _ _ _ _ hne=>absurd rfl hne,λ _ _ _ _ _ _ _ _ hne=>absurd rfl hne,λ _ _ _ _ _ _ _ _ _ _ _ _ hne=>absurd rfl hne⟩
  | succ f=>exact⟨λ E ho hn hx hV H hne=>adk G (ih f (by omega)) E ho hn hx hV H hne,λ E ho hn hlk hx hV H hne=>adl G ih E ho hn hlk hx hV H hne,λ E ho hn hc hN h24 hV H hne=>ads G ih E ho hn hc hN h24 hV H hne,λ E hco hcn ho hn hb hc hs hN h24 hV H hne=>adn G ih E hco hcn ho hn hb hc hs hN h24 hV H hne⟩
def vl (W:World) (s:List UInt8) (fu:Nat) (stack steps:Int) (e:Ending) (w':World):Prop:=match tm 64009 8002 s with
 | .err l en=>en≠0/\e= .returned (.tuple #[.agg ocZ,.int .i64 en])/\im W w'
 | .ok ds=>(¬ inB stack steps/\e= .returned (.tuple #[.agg ocZ,.int .i64 3])/\im W w') ∨
   (inB stack steps/\∃ p c,e= .returned (.tuple #[.agg (ocC (Im (rgo opE ds fu (.en ef []) (r0 ds stack.toNat steps.toNat))) p c),.int .i64 0]) /\
    Post emp W (sl 32 1 (.slice p (Im (rgo opE ds fu (.en ef []) (r0 ds stack.toNat steps.toNat))).globals.length c) (Im (rgo opE ds fu (.en ef []) (r0 ds stack.toNat steps.toNat))).globals.length ((Im (rgo opE ds fu (.en ef []) (r0 ds stack.toNat steps.toNat))).globals.map vU)) w')
theorem Zk [Inhabited G3o]{F:Ft}{lk:Lk}{ds:List D} (hl:LkS F lk ds) (f:Nat){k:Nat}{stack steps:Nat} (hk:lk ef=some (.fn k 0)) (ht:total ds≤512):(Im (rgo opE ds f (.en ef []) (r0 ds stack steps))).globals.length≤512:=by
 have h1:=aaj (aag (E:=opE) (stack:=stack) (steps:=steps) hl f hk);have h2:=bs (E:=opE) (F:=F) f (.en k []) ⟨List.replicate (total ds) 0,[],steps,stack,[]⟩
 cases hR:go opE F f (.en k []) ⟨List.replicate (total ds) 0,[],steps,stack,[]⟩ with
 | ok v s =>
  rw[hR] at h1 h2;obtain⟨r,e,⟨⟨e1, -⟩, -⟩⟩:=h1;have h3:s.words.length=_:=h2.2.2.1;rw[e];show r.words.length≤512;rw[e1,h3,List.length_replicate];exact ht
 | stop n s =>
  rw[hR] at h1 h2;obtain⟨r,e,e1, -⟩:=h1;have h3:s.words.length=_:=h2.1;rw[e]
  cases n with
  | zero=>exact Nat.zero_le _
  | succ n =>
   show r.words.length≤512;rw[e1,h3,List.length_replicate];exact ht
 | out =>
  rw[hR] at h1;have h1:rgo opE ds f (.en ef []) (r0 ds stack steps)= .out:=h1;rw[h1];exact Nat.zero_le _
theorem Bj {s:List UInt8}{ds:List D} (hl:tm 64009 8002 s= .ok ds):∃ q,check (λ i=>i) ds= .ok q/\rq (λ i=>i) (count ds 0 0) ef=some (.fn q.2 0)/\total ds≤512/\(∀ d ∈ ds,DOk d/\d.nok)/\ds.length≤8001/\dok (toD ds .nil)/\LkS (ftP q.1) (rq (λ i=>i) (count ds 0 0)) ds/\LkF (ftP q.1) (total ds) (rq (λ i=>i) (count ds 0 0)):=by
 have hp:=yi hl;have hd:∀ d ∈ ds,DOk d/\d.nok:=λ d h=>⟨Nj hp d h,aai hp d h⟩
 have hlen:ds.length≤8001:=by
  unfold dl at hp;split at hp
  ·cases hp
  ·cases hd:decls 64009 8002 (lex s 1) with
   | ok ds' l' =>
    rw[hd] at hp;cases hp;have hl:=(vu s.length s 1 (Nat.le_refl _)).2.2.2;have:=ow 8002 (lex s 1) l' ds hd (by omega);omega
   | err l e=>rw[hd] at hp;cases hp
   | out=>rw[hd] at hp;cases hp
 have her:=Nk (ad:=λ i=>i) (s:=s);rw[hl,hp] at her
 cases hc:check (λ i=>i) ds with
 | err a b =>
  have her:_=(check (λ i=>i) ds).er:=her;rw[hc] at her;cases her
 | ok q =>
  obtain⟨hr,np,hlk,rfl⟩:=rx hc;obtain⟨a,b⟩:=Zj hc hd;have ht:=pa _ ds q.1 0 0 0 hr (by omega);exact⟨q,rfl,hlk,by omega,hd,hlen,Ey ds (λ d h=>(hd d h).1),a,b⟩
set_option maxHeartbeats 2000000 in
theorem Bk [Inhabited G3o]{fu:Nat} (s:List UInt8) (stack steps:Int) (hfu:∀ ds,tm 64009 8002 s= .ok ds->inB stack steps->rgo opE ds (fu+1) (.en ef []) (r0 ds stack.toNat steps.toNat)≠ .out):Calls prog 10 #[.string (ofL s),.int .i64 stack,.int .i64 steps] W (vl W s (fu+1) stack steps):=by
 refine akh (ofL s) stack steps ?_;refine(St.nil W).al λ k w2 H2=>?_;have H2:St W emp.own w2 [blk k ocZ 39]:=H2
 have hr:s.length≤8000->decls 64009 8002 (lex s 1)≠ .out:=λ hs=>by
  have hl:=(vu s.length s 1 (Nat.le_refl _)).2.2.2;exact we 8002 (lex s 1) (by omega) (by omega) (by omega)
 have hds:∀ ds,dl 64009 8002 s= .ok ds->dok (toD ds .nil)/\ds.length≤8001:=by
  intro ds hp;refine⟨Ey ds (Nj hp),?_⟩;unfold dl at hp;split at hp
  ·cases hp
  ·cases hd:decls 64009 8002 (lex s 1) with
   | ok ds' l' =>
    rw[hd] at hp;cases hp;have hl:=(vu s.length s 1 (Nat.le_refl _)).2.2.2;have:=ow 8002 (lex s 1) l' ds hd (by omega);omega
   | err l e=>rw[hd] at hp;cases hp
   | out=>rw[hd] at hp;cases hp
 refine(Qa (W:=w2) (f:=64009) (g:=8002) s hr hds).mono ?_;intro e w3 he;have he:aea w2 (tm 64009 8002 s) e w3:=he
 cases hl:tm 64009 8002 s with
 | err l en =>
  rw[hl] at he;obtain⟨hen,rfl,hh⟩:=he;have H3:=H2.quiet hh;refine⟨_,_,_,_,_,rfl,Sx.so (λ _=>?_) (λ h=>absurd (bne_eq_false_iff_eq.1 h) hen)⟩;rintro vs rfl;refine H3.sts0 0 (n:=5) (vs:=ocZ) rfl rfl rfl tp λ w4 H4=>⟨_,rfl,H4.cells 0 rfl,?_⟩;unfold vl;rw[hl];exact⟨hen,rfl,H4.touch⟩
 | ok ds =>
  rw[hl] at he;obtain⟨p,c,us,B,rfl,hF,hp⟩:=he;obtain⟨q,hch,hlk,ht,hdd,hlen,hdk,hLS,hLF⟩:=Bj hl;have H3:=H2.add hp;refine⟨_,_,_,_,_,rfl,Sx.so (λ h=>by cases h) (λ _=>?_)⟩
  have refuse:∀ {w:World} {L:List Asn},¬ inB stack steps->St W emp.own w (blk k ocZ 39::L) ->
    ∀ vs:Array Value,vs=ocZ->Go.V.stos w k 0 5 vs λ w4=>Go.V.ldN w4 k 0 5 λ vs2=>vl W s (fu+1) stack steps (.returned (.tuple #[.agg vs2,.int .i64 3])) w4:=by
   intro w L hb H vs hvs;subst hvs;refine H.sts0 0 (n:=5) (vs:=ocZ) rfl rfl rfl tp λ w4 H4=>⟨_,rfl,H4.cells 0 rfl,?_⟩;unfold vl;rw[hl];exact .inl ⟨hb,rfl,H4.touch⟩
  refine Sx.so (λ hb=>?_) (λ hb1=>?_)
  ·have hb:=dt hb;exact refuse (λ h=>by obtain⟨⟨a,b⟩,c,d⟩:=h;omega) H3
  refine Sx.so (λ hb=>?_) (λ hb2=>?_)
  ·have hb:=dt hb;exact refuse (λ h=>by obtain⟨⟨a,b⟩,c,d⟩:=h;omega) H3
  refine Sx.so (λ hb=>?_) (λ hb3=>?_)
  ·have hb:=dt hb;exact refuse (λ h=>by obtain⟨⟨a,b⟩,c,d⟩:=h;omega) H3
  refine Sx.so (λ hb=>?_) (λ hb4=>?_)
  ·have hb:=dt hb;exact refuse (λ h=>by obtain⟨⟨a,b⟩,c,d⟩:=h;omega) H3
  have hb1:=df hb1;have hb2:=df hb2;have hb3:=df hb3;have hb4:=df hb4;have hin:inB stack steps:=⟨⟨by omega,by omega⟩,by omega,by omega⟩;have hne:=hfu ds hl hin;obtain⟨z1,rfl⟩:∃ z:Nat,stack=(z:Int):=⟨stack.toNat,by omega⟩;obtain⟨z2,rfl⟩:∃ z:Nat,steps=(z:Int):=⟨steps.toNat,by omega⟩;have hFl:=Gg ds;obtain⟨F,hFe⟩:∃ F,F=toD ds .nil:=⟨_,rfl⟩;have hfw:=Bi ds (λ d h=>(hdd d h).1);rw[<- hFe] at hFl hF hdk hfw;rw[<- hFl] at H3 hfw hlen;obtain⟨DA,hDA⟩:∃ A,A=all [sl 52 6 (.slice p F.len c) F.len us,B]:=⟨_,rfl⟩;rw[<- hDA] at H3
  have hD:∀ w,DA.at_ w->Sl w 52 6 (.slice p F.len c) F.len us:=λ w hw=>by rw[hDA] at hw;have hw:Sep.here _ w:=hw;exact hw.nth 0 rfl
  have hV:isV DA F us:=Fy hF (λ w hw=>by rw[hDA] at hw;have hw:Sep.here _ w:=hw;exact hw.nth 1 rfl);rw[<- hFl];refine(wq (hD _ (H3.nth 1 rfl)) hV (Nat.le_refl _) hlen hdk _).mono ?_;rintro _ w4 ⟨rfl,hw4⟩;subst hw4;rw[hfw];obtain⟨nw,hnw⟩:∃ n,n=total ds:=⟨_,rfl⟩
  have hn1:nw≤512:=by omega
  rw[<- hnw];refine⟨_,rfl,⟨by omega,by omega,by omega,by omega⟩,?_⟩;refine H3.al λ k9 w5 H5=>?_;rw[Int.toNat_natCast] at H5 ⊢;rintro vs rfl;refine H5.al λ k10 w6 H6=>?_;rintro vs rfl
  have H7:=H6.conv 2 rfl (A':=sl 32 1 (.slice (some ⟨k9,0,none⟩) nw nw) nw ((List.replicate nw (0:UInt32)).map vU)) (λ h=>Ue (by omega) h) (by
   intro q' hq';have:some k9=some q':=hq';cases this
   rfl)
  have H8:=H7.add (A:=sl 120 2 (.slice none 0 0) 0 []) ⟨Sl.nil _ _ _,XTouch.refl _ _,λ q hq=>by cases hq⟩;obtain⟨X,hX⟩:∃ X:Xw,X=⟨k10,p,c,some ⟨k9,0,none⟩,nw,ds,us,DA⟩:=⟨_,rfl⟩
  have H9:St W emp.own w6 (wsA X ⟨none,0⟩ (liv (r0 ds z1 z2))::[blk k ocZ 39]):=by
   have h1:=H8.pick [3,2,4,1,0];rw[hX];refine St.shut (L:=wsL _ ⟨none,0⟩ (liv (r0 ds z1 z2))) (L':=[_]) ?_;unfold wsL wsC liv r0 Xw.F;simp only[List.length_replicate];rw[<- hFe,<- hnw];exact h1
  have G:Gx X (ftP q.1) (rq (λ i=>i) (count ds 0 0)) nw:=by
   rw[hX];refine⟨⟨?_,?_,?_,?_⟩,hdd,hLS,hnw ▸ hLF,by omega⟩
   ·unfold Xw.F;rw[<- hFe];exact hD
   ·unfold Xw.F;rw[<- hFe];exact hV
   ·unfold Xw.F;rw[<- hFe];exact hlen
   ·unfold Xw.F;rw[<- hFe];exact hdk
  have E:Env [] 0 0 nw (r0 ds z1 z2):=⟨⟨List.nodup_nil,List.nodup_nil,λ p hp=>by cases hp⟩,Nat.le_refl _,⟨Nat.le_refl _,by omega⟩,⟨⟨List.replicate (total ds) 0,[],z2,z1,[]⟩,⟨rfl,rfl,rfl,rfl,rfl⟩,rfl⟩,by show(List.replicate (total ds) (0:UInt32)).length=nw;rw[List.length_replicate,hnw],by show z2≤20000;omega,by show 0+z2≤20000;omega,by show z1≤512;omega⟩
  have eds:X.ds=ds:=by rw[hX]
  have eb:k10=X.b:=by rw[hX]
  have hVm:isV X.DA (toF (.call ⟨0,ef,0⟩ none .nil) .nil) (ae ip ef 0 0 (.slice none 0 0) (.slice none 0 0)) :=
   ⟨none,0,[],none,0,[],rfl,rfl,rfl,λ w _=>Sl.nil _ _ _,λ w _=>Sl.nil _ _ _⟩
  rw[Int.toNat_natCast,Int.toNat_natCast] at hne
  have er:((rgo opE X.ds (fu+1) (.al .nil) (r0 ds z1 z2)).bind λ vs s=>rgo opE X.ds (fu+1) (.en ef vs) s)=rgo opE ds (fu+1) (.en ef []) (r0 ds z1 z2):=by
   rw[eds];rfl
  have key:=(agd G (fu+1)).c (t:=⟨0,ef,0⟩) (a:=none) E rfl (by rw[T.nok];trivial) hlk rfl hVm H9 (by rw[er];exact hne);rw[er] at key;rw[eb];refine(key:Calls prog _ _ _ _).mono ?_;intro e w7 he;obtain⟨R,hR⟩:∃ R,R=rgo opE ds (fu+1) (.en ef []) (r0 ds z1 z2):=⟨_,rfl⟩;rw[<- hR] at he hne
  have fin:∀ {w:World} {L:List Asn} {o:Option Addr} {c':Nat},St W emp.own w (sl 32 1 (.slice o (Im R).globals.length c') (Im R).globals.length ((Im R).globals.map vU)::L)->vl W s (fu+1) ((z1:Nat):Int) ((z2:Nat):Int) (.returned (.tuple #[.agg (ocC (Im R) o c'),.int .i64 0])) w:=by
   intro w L o c' H;unfold vl;rw[hl];simp only[Int.toNat_natCast];rw[<- hR];exact .inr ⟨hin,o,c',rfl,H.new 0 rfl⟩
  clear hR
  cases R with
  | out=>exact absurd rfl hne
  | ok v r' =>
   obtain⟨rfl,h',H⟩:=he;have H10:=ax H;refine⟨_,rfl,_,H10.ld 0 rfl (i:=6) rfl,Sx.so (λ h=>by cases h) (λ _=>⟨_,H10.ld 0 rfl (i:=5) rfl,Sx.so (λ h=>by cases h) (λ _=>?_)⟩)⟩;refine H10.dr λ w8 H11=>?_;refine⟨_,H11.ld 0 rfl (i:=2) rfl,_,H11.ld 0 rfl (i:=5) rfl,_,_,_,H11.ld 0 rfl (i:=1) rfl,?_⟩;rintro vs rfl;refine H11.sts0 4 (n:=5) (vs:=ocC (Im (.ok v r')) X.pw X.cw) rfl rfl rfl (Ao _ _ _) λ w9 H12=>⟨_,rfl,H12.cells 4 rfl,?_⟩;exact fin (H12.pick [1])
  | stop n r' =>
   obtain⟨u,rfl,h',S',H,D⟩:=he;have H10:=ax H;refine⟨_,rfl,_,H10.ld 0 rfl (i:=6) rfl,?_⟩
   cases n with
   | zero =>
    rw[(D.z rfl).1];refine Sx.so (λ _=>?_) (λ h=>by cases h);rintro vs rfl;refine H10.sts0 4 (n:=5) (vs:=ocZ) rfl rfl rfl tp λ w9 H12=>⟨_,rfl,H12.cells 4 rfl,?_⟩;exact fin (o:=none) (c':=0) ((H12.add (A:=sl 32 1 (.slice none 0 0) 0 []) ⟨Sl.nil _ _ _,XTouch.refl _ _,λ q hq=>by cases hq⟩).pick [5])
   | succ n =>
    obtain⟨d1,d2⟩:=D.p (Nat.succ_ne_zero n);rw[d2];refine Sx.so (λ h=>by cases h) (λ _=>⟨_,H10.ld 0 rfl (i:=5) rfl,?_⟩);rw[d1];refine Sx.so (λ _=>?_) (λ h=>absurd (bne_eq_false_iff_eq.1 h) (by omega));refine H10.dr λ w8 H11=>?_;refine⟨_,H11.ld 0 rfl (i:=2) rfl,_,H11.ld 0 rfl (i:=5) rfl,_,_,_,H11.ld 0 rfl (i:=1) rfl,?_⟩;rintro vs rfl;rw[D.w,D.o,d1];refine H11.sts0 4 (n:=5) (vs:=ocC (Im (.stop (n+1) r')) X.pw X.cw) rfl rfl rfl (Ao _ _ _) λ w9 H12=>⟨_,rfl,H12.cells 4 rfl,?_⟩;have H13:St W emp.own w9 [sl 32 1 (.slice X.pw S'.words.length X.cw) S'.words.length (S'.words.map vU)]:=H12.pick [1];rw[D.w] at H13;exact fin H13
end Go.Proofs.YtojogkljneonmaaGreatDoor
namespace Go.Proofs.YtojogkljneonmaaGreatDoor
open Go Go.Proofs.Tryz Go.Proofs Go.Sep Go.XHeap Go.RowKit Go.Lang
variable {W:World}
theorem aju {w w':World}{o:Obj} (h:XTouch (λ k=>k=3) w w') (h1:w.heap[3]?=some o) (h2:w'.heap[3]?=some o):XTouch (λ _=>False) w w':=by
 refine⟨h.os,h.tape,h.output,h.size,λ b hb _=>?_⟩;by_cases hb3:b=3
 ·subst hb3;rw[h1,h2]
 ·exact h.block b hb hb3
def Qc (p:Option Addr) (c:Nat) (l:List UInt32):Asn:=sl 32 1 (.slice p l.length c) l.length (l.map vU)
def agh (w:World):Prop:=w.cell? ⟨0,0,none⟩=some (.iface 147 (.agg #[.pointer (some ⟨7,23,none⟩)]))
theorem Ju {o:Oc}{p p':Option Addr}{c c':Nat} (hA:(Qc p c o.globals).at_ W) (hB:(Qc p' c' o.globals).at_ W) (ho:o.globals.length≤512):Calls prog 11 #[.agg (ocC o p c),.agg (ocC o p' c')] W λ e w'=>e= .returned (.bool true)/\im W w':=by
 refine aki (ocC o p c) (ocC o p' c') ?_;refine(St.nil W).al λ k w2 H2=>?_;refine H2.al λ k2 w3 H3=>?_;have H3:St W emp.own w3 [blk k (ocC o p c) 35,blk k2 (ocC o p' c') 39]:=H3;refine⟨_,H3.ld 0 rfl (i:=0) rfl,_,H3.ld 1 rfl (i:=0) rfl,Sx.so (λ h=>by simp at h) (λ _=>?_)⟩;refine⟨_,H3.ld 0 rfl (i:=1) rfl,_,H3.ld 1 rfl (i:=1) rfl,Sx.so (λ h=>by simp at h) (λ _=>?_)⟩;refine⟨_,H3.ld 0 rfl (i:=2) rfl,_,H3.ld 1 rfl (i:=2) rfl,Sx.so (λ h=>by simp at h) (λ _=>?_)⟩;refine⟨_,H3.ld 0 rfl (i:=3) rfl,_,H3.ld 1 rfl (i:=3) rfl,Sx.so (λ h=>by simp at h) (λ _=>?_)⟩;refine⟨_,_,_,H3.ld 0 rfl (i:=4) rfl,_,_,_,H3.ld 1 rfl (i:=4) rfl,Sx.so (λ h=>by simp at h) (λ _=>?_)⟩;refine⟨λ x w=>(∃ j:Nat,x=(j:Int)/\j≤o.globals.length)/\St W emp.own w [blk k (ocC o p c) 35,blk k2 (ocC o p' c') 39],λ x _=>o.globals.length - x.toNat,⟨⟨0,rfl,Nat.zero_le _⟩,H3⟩,?_⟩;rintro - _ w4 ⟨⟨j,rfl,hj⟩,H4⟩;refine⟨_,_,_,H4.ld 1 rfl (i:=4) rfl,Sx.so (λ q=>?_) (λ _=>⟨rfl,H4.touch⟩)⟩
 have q:j<o.globals.length:=by have:=dt q;omega
 refine⟨_,_,_,H4.ld 0 rfl (i:=4) rfl,⟨by omega,by omega⟩,ym (fc hA H4.touch) q λ g o1 hc=>?_⟩;rw[ix1];refine⟨_,hc,_,_,_,H4.ld 1 rfl (i:=4) rfl,⟨by omega,by omega⟩,ym (fc hB H4.touch) q λ g' o' hc'=>?_⟩;rw[ix1];refine⟨_,hc',?_⟩;rintro w5 n rfl;refine Sx.so (λ q=>by simp at q) (λ _=>?_);rintro z rfl;rw[show((j:Nat):Int)+1=((j+1:Nat):Int) by omega,Go.Bits.n64 (by omega)];exact⟨⟨⟨j+1,rfl,q⟩,H4.drewN n⟩,by show _ - ((j+1:Nat):Int).toNat<_ - ((j:Nat):Int).toNat;omega⟩
def EvU [Inhabited G3o] (W:World) (o:Oc) (en:Int) (e:Ending) (w':World):Prop:=∃ v p c B,e= .returned (.tuple #[.agg (ocC o p c),v])/\Post globA W (all [globA,Qc p c o.globals,B]) w' /\
 ∀ w,B.at_ w->agh w->Calls prog 8 #[v] w λ e w'=>e= .returned (.int .i64 en)/\im w w'
def aod (W:World) (o:Oc) (en:Int) (e:Ending) (w':World):Prop:=∃ p c,e= .returned (.tuple #[.agg (ocC o p c),.int .i64 en])/\Post emp W (Qc p c o.globals) w'
def ajg [Inhabited G3o] (s:List UInt8) (stack steps:Int) (o:Oc) (en:Int):Prop:=o.globals.length≤512/\(∀ W,globA.at_ W->Calls prog 9 #[.string (ofL s),.int .i64 stack,.int .i64 steps] W (EvU W o en)) /\
 ∀ W,Calls prog 10 #[.string (ofL s),.int .i64 stack,.int .i64 steps] W (aod W o en)
theorem Ly [Inhabited G3o]{w':World}{v:Value}{en:Int}{B:Asn} (hp:Post globA W (all [globA,B]) w') (ht:∀ w,B.at_ w->agh w->Calls prog 8 #[v] w λ e w'=>e= .returned (.int .i64 en)/\im w w'):EvU W oc0 en (.returned (.tuple #[.agg ocZ,v])) w':=by
 refine⟨v,none,0,B,rfl,⟨⟨hp.1.1,λ q h1 h2=>?_,⟨Sl.nil _ _ _,λ q h1 h2=>(by cases h1),hp.1.2.2⟩⟩,hp.2.1,λ q hq=>?_⟩,ht⟩
 ·rcases h2 with h2 | h2
  ·cases h2
  ·exact hp.1.2.1 q h1 h2
 ·rcases hq with hq | hq | hq
  ·exact hp.2.2 q (.inl hq)
  ·cases hq
  ·exact hp.2.2 q (.inr hq)
theorem agi [Inhabited G3o]{w':World} (hp:Post globA W globA w'):Post globA W (all [globA,emp]) w' :=
 ⟨⟨hp.1,λ q _ h=>by rcases h with h | h <;> exact h,trivial,λ _ h=>h.elim,trivial⟩,hp.2.1,λ q hq=>by
  rcases hq with hq | hq | hq
  ·exact hp.2.2 q hq
  ·exact hq.elim
  ·exact hq.elim⟩
theorem agj (en:Int) (w:World) (hE:agh w):Calls prog 8 #[.iface 29 (.int .i64 en)] w λ e w'=>e= .returned (.int .i64 en)/\im w w':=told.told_err en w hE
set_option maxHeartbeats 1000000 in
theorem adv [Inhabited G3o] (s:List UInt8) (stack steps:Int) (h:globA.at_ W):Calls prog 9 #[.string (ofL s),.int .i64 stack,.int .i64 steps] W λ e w'=>∃ o en,ajg s stack steps o en/\EvU W o en e w':=by
 obtain⟨fu,hfu⟩:∃ n:Nat,20001 * 1000002+1000002<n+1:=⟨20001 * 1000002+1000002,by omega⟩
 cases hl:tm 64009 8002 s with
 | err l en =>
  have key:∀ W e w',wk W s 64009 8002 (fu+1) stack steps e w'->EvU W oc0 en e w':=by
   intro W e w' he;unfold wk at he;rw[hl] at he;obtain⟨v,rfl,⟨rfl,hp⟩ | ⟨b,rfl,hp⟩⟩:=he
   ·exact Ly (agi hp) λ w _ hE=>agj en w hE
   ·refine Ly hp λ w hB hE=>?_;exact told.told_fault en b w ((St.begin hB).ld 0 rfl (i:=1) rfl) hE
  have hB:ajg s stack steps oc0 en:=by
   refine⟨Nat.zero_le _,λ W hW=>(yj (fu:=fu+1) s stack steps hfu hW).mono (key W),λ W=>(Bk (fu:=fu) s stack steps (λ ds h=>by rw[hl] at h;cases h)).mono ?_⟩;intro e w' he;unfold vl at he;rw[hl] at he;obtain⟨hen,rfl,hh⟩:=he;exact⟨none,0,rfl,Sl.nil _ _ _,hh,λ q hq=>by cases hq⟩
  exact(hB.2.1 W h).mono λ e w' he=>⟨_,_,hB,he⟩
 | ok ds =>
  by_cases hin:inB stack steps
  ·refine(yj (fu:=fu+1) s stack steps hfu h).mono ?_;intro e w' he
   have key:∀ W e w',wk W s 64009 8002 (fu+1) stack steps e w'->EvU W (Im (rgo opE ds (fu+1) (.en ef []) (r0 ds stack.toNat steps.toNat))) 0 e w'/\rgo opE ds (fu+1) (.en ef []) (r0 ds stack.toNat steps.toNat)≠ .out:=by
    intro W e w' he;unfold wk at he;rw[hl] at he;rcases he with ⟨hn, -⟩ | ⟨-,R,p,c,hR,hRo,rfl,hp⟩
    ·exact absurd hin hn
    rw[hR];refine⟨⟨.nilIface,p,c,emp,rfl,?_,λ w _ _=>(told.told_nil w).mono ?_⟩,hRo⟩
    ·refine⟨⟨hp.1.1,λ q h1 h2=>?_,hp.1.2.2.1,λ q _ h=>by rcases h with h | h <;> exact h,trivial,λ _ h=>h.elim,trivial⟩,hp.2.1,λ q hq=>?_⟩
     ·rcases h2 with h2 | h2 | h2
      ·exact hp.1.2.1 q h1 (.inl h2)
      ·exact h2
      ·exact h2
     ·rcases hq with hq | hq | hq | hq
      ·exact hp.2.2 q (.inl hq)
      ·exact hp.2.2 q (.inr (.inl hq))
      ·exact hq.elim
      ·exact hq.elim
    ·rintro e w2 ⟨rfl,rfl⟩;exact⟨rfl,XTouch.refl _ _⟩
   have hk:=key W e w' he;refine⟨_,_,⟨?_,λ W hW=>(yj (fu:=fu+1) s stack steps hfu hW).mono (λ e w' he=>(key W e w' he).1),λ W=>(Bk (fu:=fu) s stack steps (λ ds' h _=>?_)).mono ?_⟩,hk.1⟩
   ·obtain⟨q, -,hlk,ht, -, -, -,hLS, -⟩:=Bj hl;exact Zk hLS _ hlk ht
   ·rw[hl] at h;cases h;exact hk.2
   ·intro e w' he;unfold vl at he;rw[hl] at he;rcases he with ⟨hn, -⟩ | ⟨-,p,c,rfl,hp⟩
    ·exact absurd hin hn
    exact⟨p,c,rfl,hp⟩
  ·have key:∀ W e w',wk W s 64009 8002 (fu+1) stack steps e w'->EvU W oc0 3 e w':=by
    intro W e w' he;unfold wk at he;rw[hl] at he;rcases he with ⟨-,rfl,hp⟩ | ⟨hn, -⟩
    ·exact Ly (agi hp) λ w _ hE=>agj 3 w hE
    ·exact absurd hn hin
   have hB:ajg s stack steps oc0 3:=by
    refine⟨Nat.zero_le _,λ W hW=>(yj (fu:=fu+1) s stack steps hfu hW).mono (key W),λ W=>(Bk (fu:=fu) s stack steps (λ ds _ h=>absurd h hin)).mono ?_⟩;intro e w' he;unfold vl at he;rw[hl] at he;rcases he with ⟨-,rfl,hh⟩ | ⟨hn, -⟩
    ·exact⟨none,0,rfl,Sl.nil _ _ _,hh,λ q hq=>by cases hq⟩
    ·exact absurd hn hin
   exact(hB.2.1 W h).mono λ e w' he=>⟨_,_,hB,he⟩
set_option maxHeartbeats 2000000 in
theorem Zm [Inhabited G3o] (s:List UInt8) (stack steps:Int) (h:globA.at_ W) (hE:agh W):Calls prog 5 #[.string (ofL s),.int .i64 stack,.int .i64 steps] W λ e w'=>e= .returned (.bool true)/\XTouch (λ _=>False) W w':=by
 refine vc5 (ofL s) stack steps ?_;refine(adv s stack steps h).mono ?_;rintro e w2 ⟨o,en,⟨ho,hev,hwe⟩,v,p1,c1,B,rfl,hp,htold⟩
 have hE0:∀ {w:World} {L:List Asn},St W globA.own w (globA::L)->agh w:=λ H=>(aju H.touch h.2 (show globA.at_ _ from H.nth 0 rfl).2).cell (p:=⟨0,0,none⟩) (World.block_lt_of_cell? _ _ hE) (λ h=>h) |>.trans hE
 have H2:=St.open_ (L:=[globA,_,B]) (L':=[]) ((St.begin h).upd 0 rfl hp);refine⟨_,_,rfl,H2.al λ k w3 H3=>?_⟩;refine H3.sts0 3 (n:=5) (vs:=ocC o p1 c1) rfl rfl rfl (Ao _ _ _) λ w4 H4=>?_;refine(hwe w4).mono ?_;rintro e w5 ⟨p2,c2,rfl,hp2⟩;have H5:=H4.add hp2;refine⟨_,_,rfl,H5.al λ k3 w6 H6=>?_⟩;refine H6.sts0 5 (n:=5) (vs:=ocC o p2 c2) rfl rfl rfl (Ao _ _ _) λ w7 H7=>?_;have H7:St W globA.own w7 [globA,Qc p1 c1 o.globals,B,blk k (ocC o p1 c1) 35,Qc p2 c2 o.globals,blk k3 (ocC o p2 c2) 39]:=H7;refine(htold w7 (H7.nth 2 rfl) (hE0 H7)).mono ?_;rintro _ w8 ⟨rfl,h8⟩;have H8:=H7.quiet h8;refine⟨_,rfl,_,rfl,H8.cells 3 rfl,_,rfl,H8.cells 5 rfl,?_⟩;refine(Ju (H8.nth 1 rfl) (H8.nth 4 rfl) ho).mono ?_;rintro _ w9 ⟨rfl,h9⟩;have H9:=H8.quiet h9;refine⟨_,rfl,?_⟩;refine(hev w9 (H9.nth 0 rfl)).mono ?_;rintro e w10 ⟨v',p3,c3,B',rfl,hp3, -⟩;have H10:=St.open_ (L:=[globA,_,B']) (L':=[_,_,_,_,_]) (H9.upd 0 rfl hp3);refine⟨_,_,rfl,H10.al λ k5 w11 H11=>?_⟩;refine H11.sts0 8 (n:=5) (vs:=ocC o p3 c3) rfl rfl rfl (Ao _ _ _) λ w12 H12=>?_;have H13:St W globA.own w12 [globA,Qc p1 c1 o.globals,blk k (ocC o p1 c1) 35,Qc p2 c2 o.globals,blk k3 (ocC o p2 c2) 39,Qc p3 c3 o.globals,blk k5 (ocC o p3 c3) 35]:=H12.pick [0,3,5,6,7,1,8];clear H12 H11 H10 H9 H8 H7 H6 H5 H4 H3 H2;refine⟨λ x w=>∃ (j:Nat) (us:List UInt32),x=(j:Int)/\j≤o.globals.length/\us.length=o.globals.length/\St W globA.own w [globA,sl 32 1 (.slice p1 o.globals.length c1) o.globals.length (us.map vU),blk k (ocC o p1 c1) 35,Qc p2 c2 o.globals,blk k3 (ocC o p2 c2) 39,Qc p3 c3 o.globals,blk k5 (ocC o p3 c3) 35],λ x _=>o.globals.length - x.toNat,⟨0,_,rfl,Nat.zero_le _,rfl,H13⟩,?_⟩;rintro - _ w13 ⟨j,us,rfl,hj,hu,H14⟩;refine⟨_,_,_,H14.ld 2 rfl (i:=4) rfl,Sx.so (λ q=>?_) (λ _=>?_)⟩
 ·have q:j<o.globals.length:=by have:=dt q;omega
  refine⟨_,_,_,H14.ld 2 rfl (i:=4) rfl,⟨by omega,by omega⟩,?_⟩;have hS:Sl w13 32 1 (.slice p1 o.globals.length c1) o.globals.length (us.map vU):=H14.nth 1 rfl;obtain⟨g,o1,ep, -⟩:=lr hS q;subst ep;refine adr_some ?_;obtain⟨⟨u,hu1⟩,hfr,hp⟩:=Uu hS (j:=j) (by rw[List.length_map];omega) (vU 4008574976);rw[ix1];refine⟨⟨u,hu1⟩,hfr,?_⟩;rintro w14 rfl;rw[<- List.map_set] at hp;have H15:=H14.upd 1 (A:=sl 32 1 (.slice (some ⟨g,o1,none⟩) o.globals.length c1) o.globals.length (us.map vU)) (A':=sl 32 1 (.slice (some ⟨g,o1,none⟩) o.globals.length c1) o.globals.length ((us.set j 4008574976).map vU)) rfl hp;rintro z rfl;rw[show((j:Nat):Int)+1=((j+1:Nat):Int) by omega,Go.Bits.n64 (by omega)];exact⟨⟨j+1,_,rfl,q,by rw[List.length_set];exact hu,H15⟩,by show _ - ((j+1:Nat):Int).toNat<_ - ((j:Nat):Int).toNat;omega⟩
 refine⟨_,_,_,H14.ld 2 rfl (i:=4) rfl,?_⟩;refine⟨λ x p n c w=>∃ (j:Nat) (us:List UInt32),x=(j:Int)/\j≤70/\n=o.globals.length+j/\St W globA.own w [globA,sl 32 1 (.slice p n c) n (us.map vU),blk k (ocC o p1 c1) 35,Qc p2 c2 o.globals,blk k3 (ocC o p2 c2) 39,Qc p3 c3 o.globals,blk k5 (ocC o p3 c3) 35],λ x _ _ _ _=>70 - x.toNat,⟨0,us,rfl,by omega,rfl,H14⟩,?_⟩;clear H14 H13 hj hu;rintro - _ p n c w15 ⟨j,us,rfl,hj,rfl,H15⟩;refine Sx.so (λ q=>?_) (λ q=>?_)
 ·have q:j<70:=by have:=dt q;omega
  refine H15.al λ k17 w16 H16=>?_;refine H16.app 1 rfl [vU 4008574977] (.inr ⟨_,rfl,λ i u hi=>?_⟩) rfl (by simp [vU,Value.oneCell']) (by unfold maxLen;omega) (by omega) λ p4 c4 w17 H17=>?_
  ·cases i with
   | zero=>cases hi;exact H16.ld 7 rfl (i:=0) rfl
   | succ i=>cases hi
  rintro z rfl;rw[show((j:Nat):Int)+1=((j+1:Nat):Int) by omega,Go.Bits.n64 (by omega)];refine⟨⟨j+1,us++[4008574977],rfl,q,by omega,?_⟩,by show 70 - ((j+1:Nat):Int).toNat<70 - ((j:Nat):Int).toNat;omega⟩;rw[List.map_append];exact H17.pick [0,1,2,3,4,5,6]
 have q:j=70:=by have:=df q;omega
 refine⟨_,rfl,H15.cells 6 rfl,_,rfl,H15.cells 4 rfl,?_⟩;refine(Ju (H15.nth 5 rfl) (H15.nth 3 rfl) ho).mono ?_;rintro _ w18 ⟨rfl,h18⟩;have H18:=H15.quiet h18;refine⟨_,rfl,Sx.so (λ _=>?_) (λ h=>by simp at h)⟩;refine Sx.so (λ _=>Sx.so (λ _=>?_) (λ h=>by cases h)) (λ h=>by cases h);refine⟨_,_,_,H18.ld 4 rfl (i:=4) rfl,?_⟩;rintro z rfl;refine⟨?_,aju H18.touch h.2 (show globA.at_ w18 from H18.nth 0 rfl).2⟩;rw[show((o.globals.length:Nat):Int)+70=((o.globals.length+70:Nat):Int) by omega,Go.Bits.n64 (by omega),q];simp
end Go.Proofs.YtojogkljneonmaaGreatDoor
namespace Go.Proofs.YtojogkljneonmaaGreatDoor
open Go.RowKit Go.XHeap
theorem Qd {w:World} (hh:handlesMet Tryz.prog [("errors.errorType",Rows.laid_errors_errorType)] w):w.cell? ⟨0,0,none⟩=some (.iface 147 (.agg #[.pointer (some ⟨7,23,none⟩)])):=by
 obtain⟨name,u,ty,e1,e2,hlt,hrow,hv⟩:∃ name u ty,DataW.handleName? (Rows.laid_errors_errorType (H:=Unit))=some name/\(Tryz.prog.cutTypes.find? (·.1== "internal/reflectlite.rtype")).map (·.2)=some u/\ty<Tryz.prog.types.size/\Tryz.prog.rowNamed ty name=true /\
   w.var? Tryz.prog "errors.errorType"=some #[.iface u (.agg #[typeHandle Tryz.prog ty])]:=hh _ (.head _)
 have f1:DataW.handleName? (Rows.laid_errors_errorType (H:=Unit))=some [101,114,114,111,114]:=by kernel_rfl
 have f2:(Tryz.prog.cutTypes.find? (·.1== "internal/reflectlite.rtype")).map (·.2)=some 147:=by kernel_rfl
 have f3:(List.range Tryz.prog.types.size).all (λ t=> !Tryz.prog.rowNamed t [101,114,114,111,114]||t==23)=true:=by kernel_rfl
 have f4:Tryz.prog.globalNamed "errors.errorType"=some 0:=by kernel_rfl
 have f5:typeHandle Tryz.prog 23= .pointer (some ⟨7,23,none⟩):=by kernel_rfl
 obtain rfl:=Option.some.inj (f1.symm.trans e1);obtain rfl:=Option.some.inj (f2.symm.trans e2)
 have h25:ty=23:=by
  have:=List.all_eq_true.1 f3 ty (List.mem_range.2 hlt);simpa [hrow] using this
 subst h25;rw[f5] at hv;unfold World.var? at hv;rw[f4] at hv;simp only[Option.bind_some] at hv;unfold World.cell?
 cases hb:w.heap[0]? with
 | none=>rw[hb] at hv;simp at hv
 | some o =>
  rw[hb] at hv
  cases o with
  | cells cs t fr=>simp at hv;subst hv;simp
  | _=>simp at hv
end Go.Proofs.YtojogkljneonmaaGreatDoor
