/- A program that was loaded runs as its names say. No condition. -/
import Derived.Test.YtojogkljneonmaaGreatDoorLangZe
import Derived.Test.YtojogkljneonmaaGreatDoorLangMn
import Derived.Test.YtojogkljneonmaaGreatDoorSxB
import Derived.Test.YtojogkljneonmaaGreatDoorLangVh
import Derived.Test.YtojogkljneonmaaGreatDoorChecked
import Derived.Test.YtojogkljneonmaaGreatDoorLangTi
set_option linter.unusedVariables false
set_option linter.unusedSimpArgs false
namespace Go.Lang
theorem xi (d:D) (r:List D) (s:ByteArray):de (d::r) s=if d.nm=s then some 0 else (de r s).map (· + 1):=by
 unfold de;rw[List.findIdx?_cons];by_cases h:d.nm=s
 ·rw[if_pos h,if_pos (by simpa using h)]
 ·rw[if_neg h,if_neg (by simpa using h)]
def amn:D->D->Prop
 | .var t nm _ z,d=>∃ w,d= .var t nm w z
 | .fn t nm ps s _ b,d=>∃ no,d= .fn t nm ps s no b
theorem ko:∀ (ds:List D) (t n:Nat) (s:ByteArray) (i:Nat) (d:D),de (count ds t n) s=some i->(count ds t n)[i]?=some d->∃ d0,sq ds s=some d0/\amn d d0/\∀ tk nm w z,d= .var tk nm w z->w=((t+bl ds s:Nat):Int)
 | [],t,n,s,i,d,h,hd=>by cases h
 | .var tk nm w z::r,t,n,s,i,d,h,hd=>by
  rw[count,xi] at h;by_cases e:nm=s
  ·rw[if_pos (show D.nm (.var tk nm (t:Int) z)=s from e)] at h;cases h;cases hd;refine⟨.var tk nm w z,?_,⟨w,rfl⟩,λ _ _ _ _ e2=>?_⟩
   ·exact ig (show D.nm (.var tk nm w z)=s from e)
   ·cases e2;show(t:Int)=_;unfold bl;rw[if_pos (show D.nm (.var tk nm w z)=s from e)];rfl
  ·rw[if_neg (show ¬ D.nm (.var tk nm (t:Int) z)=s from e)] at h
   cases hr:de (count r (t+max 1 z.toNat) n) s with
   | none=>rw[hr] at h;cases h
   | some j =>
    rw[hr] at h;cases h;obtain⟨d0,h1,h2,h3⟩:=ko r _ _ s j d hr (by simpa [count] using hd);refine⟨d0,?_,h2,λ tk2 nm2 w2 z2 e2=>?_⟩
    ·unfold sq at *;rw[ii (by exact e)];exact h1
    ·rw[h3 _ _ _ _ e2];show _=((t+bl (.var tk nm w z::r) s:Nat):Int);rw[bl,if_neg (show ¬ D.nm (.var tk nm w z)=s from e)];show _=((t+(max 1 z.toNat+bl r s):Nat):Int);omega
 | .fn tk nm ps s0 no b::r,t,n,s,i,d,h,hd=>by
  rw[count,xi] at h;by_cases e:nm=s
  ·rw[if_pos (show D.nm (.fn tk nm ps s0 (n:Int) b)=s from e)] at h;cases h;cases hd;refine⟨.fn tk nm ps s0 no b,?_,⟨no,rfl⟩,λ _ _ _ _ e2=>by cases e2⟩;exact ig (show D.nm (.fn tk nm ps s0 no b)=s from e)
  ·rw[if_neg (show ¬ D.nm (.fn tk nm ps s0 (n:Int) b)=s from e)] at h
   cases hr:de (count r t (n+1)) s with
   | none=>rw[hr] at h;cases h
   | some j =>
    rw[hr] at h;cases h;obtain⟨d0,h1,h2,h3⟩:=ko r _ _ s j d hr (by simpa [count] using hd);refine⟨d0,?_,h2,λ tk2 nm2 w2 z2 e2=>?_⟩
    ·unfold sq at *;rw[ii (by exact e)];exact h1
    ·rw[h3 _ _ _ _ e2];show _=((t+bl (.fn tk nm ps s0 no b::r) s:Nat):Int);rw[bl,if_neg (show ¬ D.nm (.fn tk nm ps s0 no b)=s from e)];show _=((t+(0+bl r s):Nat):Int);omega
theorem Dg {lk:Lk}{dup:Bool}{t:Tok}{nm:ByteArray}{ps:List ByteArray}{s no:Int}{b:T}{d':D} (hq:Gh lk dup (.fn t nm ps s no b)= .ok d'):∃ (p:Lcs×Nat) (r:T×Lcs×Nat),pz lk t.line ps [] 0= .ok p/\cst lk b p.1 p.2= .ok r/\d'= .fn t nm ps (r.2.2:Int) no r.1:=by
 rw[Gh] at hq;split at hq
 ·cases hq
 obtain⟨p,hp,hq⟩:=C.bind_ok hq;obtain⟨r,hr,hq⟩:=C.bind_ok hq;cases hq;exact⟨p,r,hp,hr,rfl⟩
end Go.Lang
namespace Go.Proofs.YtojogkljneonmaaGreatDoor
open Go Go.Proofs.Tryz Go.Proofs Go.Sep Go.XHeap Go.RowKit Go.Lang
theorem afn {w:World}{ms cur:List Dm}{q:List D×Nat} (hch:check (xu (av ms 0 0)) (ms.map Dm.d)= .ok q) (hd:∀ d ∈ ms.map Dm.d,DOk d/\d.nok) (hq:cur.map Dm.d=q.1) (hgz:(cur.map Dm.g).map gz=((av ms 0 0).map Dm.g).map gz) (h:(all ((cur.map Dm.g).map hdA)).at_ w) :
  LkS (Il cur) (rq (xu (av ms 0 0)) (count (ms.map Dm.d) 0 0)) (ms.map Dm.d):=by
 obtain⟨hr, -⟩:=rx hch;constructor
 ·intro s w z hs;unfold rq at hs
  cases hi:de (count (ms.map Dm.d) 0 0) s with
  | none=>rw[hi] at hs;cases hs
  | some i =>
   rw[hi,Option.bind_some] at hs
   cases hx:(count (ms.map Dm.d) 0 0)[i]? with
   | none=>rw[hx] at hs;cases hs
   | some d =>
    rw[hx] at hs;obtain⟨d0,h1,h2,h3⟩:=ko _ _ _ _ _ _ hi hx
    cases d with
    | var t nm w' z' =>
     cases hs;obtain⟨w0,rfl⟩:=h2;have e:=h3 _ _ _ _ rfl;refine⟨by omega,by omega,?_⟩;unfold Bt;rw[h1]
    | fn=>cases hs
 ·intro s k np hs;unfold rq at hs
  cases hi:de (count (ms.map Dm.d) 0 0) s with
  | none=>rw[hi] at hs;cases hs
  | some i =>
   rw[hi,Option.bind_some] at hs
   cases hx:(count (ms.map Dm.d) 0 0)[i]? with
   | none=>rw[hx] at hs;cases hs
   | some d =>
    rw[hx] at hs;obtain⟨d0,h1,h2, -⟩:=ko _ _ _ _ _ _ hi hx
    cases d with
    | var=>cases hs
    | fn t nm ps s0 no b =>
     cases hs;obtain⟨no0,rfl⟩:=h2;obtain⟨-,hco⟩:=ve _ _ _ _ hr;obtain⟨d',dup,hj,hcone⟩:=hco i _ hx;obtain⟨p,r,hp,hst,rfl⟩:=Dg hcone;rw[<- hq,List.getElem?_map] at hj
     cases hm:cur[i]? with
     | none=>rw[hm] at hj;cases hj
     | some m =>
      rw[hm] at hj;have hmd:m.d= .fn t nm ps (r.2.2:Int) no r.1:=Option.some.inj hj
      have hkey:xu (av ms 0 0) i=nl m.g:=by
       have e1:((cur.map Dm.g).map gz)[i]?=some (gz m.g):=by rw[List.getElem?_map,List.getElem?_map,hm];rfl
       rw[hgz,List.getElem?_map,List.getElem?_map] at e1;unfold xu
       cases hc:(av ms 0 0)[i]? with
       | none=>rw[hc] at e1;cases e1
       | some m0 =>
        rw[hc] at e1;have:gz m0.g=gz m.g:=Option.some.inj e1;show nl m0.g=nl m.g;exact(Tn this).2
      cases hg:m.g with
      | var k2 t2 nm2 w2 z2=>unfold Dm.d at hmd;rw[hg] at hmd;cases hmd
      | fn hh sl =>
       have hft:=ft_at h hm hg;have hb:b.nok:=(hd _ (List.mem_of_find?_eq_some h1)).2;unfold Dm.d at hmd;rw[hg] at hmd;injection hmd with e1 e2 e3 e4 e5 e6;rw[hkey,hg];refine⟨t,nm,ps,s0,no0,b,r.2.2,p,r,h1,rfl,hb,hp,hst,?_,rfl⟩;show Il cur hh.k=_;rw[hft,e4,e6];simp
open Go Go.Proofs.Tryz Go.Proofs Go.V
set_option maxRecDepth 100000
variable {W:World}{Q:Ending->World->Prop}
def acw:List Nat:=[70,21,40,71,73,105]
theorem vc9 (y0:ByteArray) (y1:Int) (y2:Int)
 (hVC:alc W #[.bool false,.string (.mk #[]),.int .u32 0,.int .i64 0,.slice none 0 0] 35 λ k W2=>Calls prog 12 #[.string y0] W2 λ e W3=>∃ p:Option Addr,∃ z:Int,∃ v:Value,e= .returned (.tuple #[.pointer p,.int .i64 z,v])/\Sx.isNil v λ t=>Sx.split (!t) (ldN W3 k 0 5 λ vs=>stos W3 k 0 5 vs λ W4=>ldN W4 k 0 5 λ vs2=>Q (.returned (.tuple #[.agg vs2,v])) W4) (Sx.split (decide (y1<0)) (ldN W3 k 0 5 λ vs3=>stos W3 k 0 5 vs3 λ W5=>ldN W5 k 0 5 λ vs4=>Q (.returned (.tuple #[.agg vs4,.iface 29 (Value.int .i64 3)])) W5) (Sx.split (decide (y1 > 512)) (ldN W3 k 0 5 λ vs5=>stos W3 k 0 5 vs5 λ W6=>ldN W6 k 0 5 λ vs6=>Q (.returned (.tuple #[.agg vs6,.iface 29 (Value.int .i64 3)])) W6) (Sx.split (decide (y2<0)) (ldN W3 k 0 5 λ vs7=>stos W3 k 0 5 vs7 λ W7=>ldN W7 k 0 5 λ vs8=>Q (.returned (.tuple #[.agg vs8,.iface 29 (Value.int .i64 3)])) W7) (Sx.split (decide (y2 > 20000)) (ldN W3 k 0 5 λ vs9=>stos W3 k 0 5 vs9 λ W8=>ldN W8 k 0 5 λ vs10=>Q (.returned (.tuple #[.agg vs10,.iface 29 (Value.int .i64 3)])) W8) (Sx.ptr p λ a=>yb .i64 W3 a 2 λ z2=>((0:Int)≤z2/\z2≤z2/\z2≤9223372036854775807/\(↑4:Int) * z2≤281474976710656)/\alc W3 (madeCells #[.int .u32 0] (z2.toNat * 1)) 32 λ k7 W9=>nmA (#[.slice (some ⟨k7,0,none⟩) (z2.toNat) (z2.toNat),.slice none 0 0,.int .i64 y2,.int .i64 y1,.slice none 0 0]) λ vs11=>alc W9 (Value.cells (Value.agg vs11)) 69 λ k8 W10=>alc W10 #[.pointer none] 61 λ k9 W11=>sto W11 k9 0 (pp k8 0) λ W12=>nm (World.drew W12) λ W13=>Sx.ptr p λ a2=>ldP W13 k9 0 λ p2=>xm W13 a2 1 λ p3=>Calls prog 21 #[.pointer p2,.pointer p3,.slice none 0 0] W13 λ e2 W14=>(∃ z3:Int,e2= .returned (.int .u32 z3)/\nm (World.drew W14) λ W15=>ldP W15 k9 0 λ p4=>Sx.ptr p4 λ a3=>Ee W15 a3 1 λ p5 k10 k11=>∃ l:List Int,Sx.Bts W15 p5 k10 l/\ldP W15 k9 0 λ p6=>Sx.ptr p6 λ a4=>Ee W15 a4 0 λ p7 k12 k13=>nmA (#[.bool true,.string (Sx.bstr l),.int .u32 z3,.int .i64 0,.slice p7 k12 k13]) λ vs12=>stos W15 k 0 5 vs12 λ W16=>CallsD prog 20 #[pp k 0,pp k9 0] FrameMode.returning W16 (λ e3=>(λ u=>(λ W17=>(((∃ v15:Value,(e3= .returned v15/\(((settle u=FrameMode.returning/\(∃ vs13:Array Value,(Array.size vs13=5/\(Sx.cellsAt W17 ⟨k,0,none⟩ vs13/\Q (.returned (.tuple #[.agg vs13,.nilIface])) W17)))))∨((∃ l2:List PanicEntry,(settle u=FrameMode.panicking l2/\Q (Ending.panicked l2) W17)))))))∨((∃ l3:List PanicEntry,(e3=Ending.panicked l3/\(∃ l4:List PanicEntry,(raised u l3=FrameMode.panicking l4/\Q (Ending.panicked l4) W17))))))))))∨(∃ l5:List PanicEntry,e2=Ending.panicked l5/\CallsD prog 20 #[pp k 0,pp k9 0] (FrameMode.panicking l5) W14 (λ e4=>(λ u2=>(λ W18=>(((∃ v16:Value,(e4= .returned v16/\(((settle u2=FrameMode.returning/\(∃ vs14:Array Value,(Array.size vs14=5/\(Sx.cellsAt W18 ⟨k,0,none⟩ vs14/\Q (.returned (.tuple #[.agg vs14,v])) W18)))))∨((∃ l6:List PanicEntry,(settle u2=FrameMode.panicking l6/\Q (Ending.panicked l6) W18)))))))∨((∃ l7:List PanicEntry,(e4=Ending.panicked l7/\(∃ l8:List PanicEntry,(raised u2 l7=FrameMode.panicking l8/\Q (Ending.panicked l8) W18)))))))))))))))) :
 Calls prog 9 #[.string y0,.int .i64 y1,.int .i64 y2] W Q :=
 Sx.soundD (pk:=acw) func9 (.r (.r (.r (.r (.r (.r (.n (.node [] [] 1001006 .leaf .leaf) (.n (.node [] [] 12 .leaf .leaf) .leaf)))))))) [Value.string y0,.int .i64 y1,.int .i64 y2] rfl (Eq.mp (by kernel_rfl) hVC)
theorem amo {W:World}{Q:Ending->FrameMode->World->Prop} (fv0:Nat) (fv0o:Nat) (fv1:Nat) (fv1o:Nat) (v:Value)
 (hVC:Sx.isNil v λ t=>Sx.split t (Q (.returned (.tuple #[])) (FrameMode.panicking [PanicEntry.mk v true false]) W) (Sx.tagOf v 70 (λ v2=>∃ z:Int,v2=Value.int .i64 z/\nmA (#[.bool false,.string (.mk #[]),.int .u32 0,.int .i64 0,.slice none 0 0]) λ vs=>stos W fv0 fv0o 5 vs λ W2=>Sx.split (decide (z > 0)) (nm (World.drew W2) λ W3=>ldP W3 fv1 fv1o λ p=>Sx.ptr p λ a=>Ee W3 a 1 λ p2 k2 k3=>∃ l:List Int,Sx.Bts W3 p2 k2 l/\ldP W3 fv1 fv1o λ p3=>Sx.ptr p3 λ a2=>Ee W3 a2 0 λ p4 k4 k5=>nmA (#[.bool true,.string (Sx.bstr l),.int .u32 0,.int .i64 z,.slice p4 k4 k5]) λ vs2=>stos W3 fv0 fv0o 5 vs2 λ W4=>Q (.returned (.tuple #[])) (FrameMode.panicking [PanicEntry.mk v true false]) W4) (Q (.returned (.tuple #[])) (FrameMode.panicking [PanicEntry.mk v true false]) W2)) (Sx.split false (nmA (#[.bool false,.string (.mk #[]),.int .u32 0,.int .i64 0,.slice none 0 0]) λ vs3=>stos W fv0 fv0o 5 vs3 λ W5=>Q (.returned (.tuple #[])) (FrameMode.panicking [PanicEntry.mk v true false]) W5) (match v with | Value.iface t v_1=>Q (Ending.panicked [PanicEntry.mk (Value.iface t v_1) false false]) (FrameMode.panicking [PanicEntry.mk v true false]) W | x=>False)))) :
 CallsD prog 20 #[pp fv0 fv0o,pp fv1 fv1o] (.panicking [{ v,recovered:=false }]) W Q :=
 Sx.soundR (pk:=acw) func20 (.r (.n (.r (.r (.r (.n (.r (.r (.r (.n (.node [] [] 12 .leaf .leaf) .leaf)))) .leaf)))) .leaf)) [pp fv0 fv0o,pp fv1 fv1o] (Eq.mp (by kernel_rfl) hVC)
theorem ain {W:World}{Q:Ending->FrameMode->World->Prop} (fv0:Nat) (fv0o:Nat) (fv1:Nat) (fv1o:Nat) (v:Value)
 (hVC:Q (.returned (.tuple #[])) FrameMode.returning W) :
 CallsD prog 20 #[pp fv0 fv0o,pp fv1 fv1o] .returning W Q :=
 Sx.soundR (pk:=acw) func20 (.r (.n (.r (.r (.r (.n (.r (.r (.r (.n (.node [] [] 12 .leaf .leaf) .leaf)))) .leaf)))) .leaf)) [pp fv0 fv0o,pp fv1 fv1o] (Eq.mp (by kernel_rfl) hVC)
end Go.Proofs.YtojogkljneonmaaGreatDoor
namespace Go.Lang
structure Oc where
 ended:Bool
 out:List UInt8
 value:UInt32
 fault:Nat
 globals:List UInt32
def oc0:Oc:=⟨false,[],0,0,[]⟩
def Im:Rs Rw->Oc
 | .ok v r=>⟨true,r.out,hd v,0,r.words⟩
 | .stop 0 _=>oc0
 | .stop (k+1) r=>⟨true,r.out,0,k+1,r.words⟩
 | .out=>oc0
def r0 (ds:List D) (stack steps:Nat):Rw:=⟨List.replicate (total ds) 0,[],steps,stack,[]⟩
def inB (stack steps:Int):Prop:=(0≤stack/\stack≤512)/\0≤steps/\steps≤20000
theorem aag {E:ByteArray->UInt32->UInt32->UInt32}{F:Ft}{lk:Lk}{ds:List D} (hl:LkS F lk ds) (f:Nat){k:Nat}{stack steps:Nat} (hk:lk ef=some (.fn k 0)):Sim (PE [] 0) (go E F f (.en k []) ⟨List.replicate (total ds) 0,[],steps,stack,[]⟩) (rgo E ds f (.en ef []) (r0 ds stack steps)) :=
 (abw hl f).en ef k 0 [] [] 0 _ _ hk rfl ⟨⟨rfl,rfl,rfl,rfl,rfl⟩,rfl⟩
theorem Fu (l:List UInt8):Sx.bstr (l.map λ x=>(x.toNat:Int))=ofL l:=by
 have key:∀ (l:List UInt8) (a:ByteArray),(l.map λ x=>(x.toNat:Int)).foldl (λ r n=>r.push (UInt8.ofNat n.toNat)) a=⟨a.data++l.toArray⟩:=by
  intro l
  induction l with
  | nil=>intro a;simp
  | cons x l ih =>
   intro a;rw[List.map_cons,List.foldl_cons,ih];simp [ByteArray.push]
 unfold Sx.bstr;rw[key];unfold ofL;simp [ByteArray.empty,ByteArray.emptyWithCapacity];rfl
end Go.Lang
namespace Go.Proofs.YtojogkljneonmaaGreatDoor
open Go Go.Proofs.Tryz Go.Proofs Go.Sep Go.XHeap Go.RowKit Go.Lang
variable {W:World}
def tm (f g:Nat) (s:List UInt8):C (List D):=(dl f g s).bind λ ds=>(me (toD ds .nil)).bind λ _=>(.ok ds:C (List D))
def ocC (o:Oc) (p:Option Addr) (c:Nat):Array Value:=#[.bool o.ended,.string (ofL o.out),vU o.value,.int .i64 (o.fault:Nat),.slice p o.globals.length c]
def ocZ:Array Value:=#[.bool false,.string (ofL []),.int .u32 0,.int .i64 0,.slice none 0 0]
theorem aah {w:World}{p:Option Addr}{c:Nat}{l:List UInt8} (h:Sl w 5 1 (.slice p l.length c) l.length (l.map vB)):Sx.Bts w p l.length (l.map λ x=>(x.toNat:Int)):=by
 refine⟨by simp,λ hn=>?_⟩;obtain⟨g,off,hp, -⟩:=lr h hn;refine⟨g,off,hp,λ i x hi=>?_⟩;rw[List.getElem?_map] at hi
 cases hx:l[i]? with
 | none=>rw[hx] at hi;cases hi
 | some u =>
  rw[hx] at hi;cases hi;obtain⟨g2,off2,hp2,h2, -⟩:=lr h (List.getElem?_eq_some_iff.1 hx).1;rw[hp] at hp2;cases hp2;rw[h2,List.getElem?_map,hx];rfl
theorem acx {w:World}{b m size:Nat}{us:List Value}{t:TypeId} (hu:us.length=m * size) (hm:m≤maxLen) (h:Blk w b us.toArray t):Sl w t size (.slice (some ⟨b,0,none⟩) m m) m us :=
 ⟨hu,.inr ⟨b,0,m,us.toArray,rfl,h,Nat.le_refl _,hm,by simp [hu],by simp [<- hu]⟩⟩
theorem Ue {w:World}{k n:Nat} (hn:n≤1000) (h:Blk w k (madeCells #[Value.int .u32 0] (n * 1)) 32):Sl w 32 1 (.slice (some ⟨k,0,none⟩) n n) n ((List.replicate n (0:UInt32)).map vU):=by
 rw[Nat.mul_one,Rl] at h;refine acx (by simp) (by unfold maxLen;omega) ?_
 have e:((List.replicate n (0:UInt32)).map vU).toArray=ago .u32 (List.replicate n 0):=by
  unfold ago;rw[List.map_replicate,List.map_replicate];rfl
 rw[e];exact h
def afo [Inhabited G3o] (W:World) (ds:List D) (fu:Nat) (stack steps:Int) (e:Ending) (w':World):Prop :=
 (¬ inB stack steps/\e= .returned (.tuple #[.agg ocZ,.iface 29 (.int .i64 3)])/\Post globA W globA w') ∨
  (inB stack steps/\∃ R p c,rgo opE ds fu (.en ef []) (r0 ds stack.toNat steps.toNat)=R/\R≠ .out/\e= .returned (.tuple #[.agg (ocC (Im R) p c),.nilIface]) /\
   Post globA W (all [globA,sl 32 1 (.slice p (Im R).globals.length c) (Im R).globals.length ((Im R).globals.map vU)]) w')
def wk [Inhabited G3o] (W:World) (s:List UInt8) (f g fu:Nat) (stack steps:Int) (e:Ending) (w':World):Prop:=match tm f g s with
 | .err line en=>∃ v,e= .returned (.tuple #[.agg ocZ,v])/\((v= .iface 29 (.int .i64 en)/\Post globA W globA w')∨∃ b,v= .iface 77 (pt b)/\Post globA W (all [globA,Ow b line en]) w')
 | .ok ds=>afo W ds fu stack steps e w'
theorem aio {K k:Nat}{args:List UInt32}{s:Rn}:mz K (.en k args) s=s.steps * (K+2)+(K+1):=rfl
theorem aip {K k fu:Nat}{args:List UInt32}{s:Rn} (hK:20001 * (K+2)+K+2<fu) (h:s.steps≤20000):mz K (.en k args) s<fu:=by
 rw[aio];have:=Nat.mul_le_mul_right (K+2) h;omega
theorem aai {f g:Nat}{s:List UInt8}{ds:List D} (h:dl f g s= .ok ds):∀ d ∈ ds,d.nok:=by
 unfold dl at h;split at h
 ·cases h
 ·cases hd:decls f g (lex s 1) with
  | ok ds' l'=>rw[hd] at h;cases h;exact Hv _ _ _ _ hd
  | err l e=>rw[hd] at h;cases h
  | out=>rw[hd] at h;cases h
theorem Nj {s:List UInt8}{ds:List D} (h:dl 64009 8002 s= .ok ds):∀ d ∈ ds,DOk d:=by
 unfold dl at h;split at h
 ·cases h
 ·cases hd:decls 64009 8002 (lex s 1) with
  | ok ds' l' =>
   rw[hd] at h;cases h;have hl:=(vu s.length s 1 (Nat.le_refl _)).2.2.2;exact(ow 8002 (lex s 1) l' ds hd (by omega)).1
  | err l e=>rw[hd] at h;cases h
  | out=>rw[hd] at h;cases h
theorem Nk {ad:Nat->Nat}{s:List UInt8}:(tm 64009 8002 s).er=((dl 64009 8002 s).bind (check ad)).er:=by
 unfold tm
 cases hp:dl 64009 8002 s with
 | err l e=>rfl
 | ok ds =>
  show((me (toD ds .nil)).bind _).er=(check ad ds).er;rw[Tc ad ds (Nj hp)];cases check ad ds <;> rfl
theorem yi {s:List UInt8}{ds:List D} (h:tm 64009 8002 s= .ok ds):dl 64009 8002 s= .ok ds:=by
 unfold tm at h;obtain⟨ds',h1,h⟩:=C.bind_ok h;obtain⟨_,h2,h⟩:=C.bind_ok h;cases h;exact h1
def OcR (P:List UInt32->Rn->Rw->Prop) (a:Rs Rn) (b:Rs Rw):Prop:=match a with
 | .ok v s=>∃ r,b= .ok v r/\P v s r
 | .stop k s=>∃ r,b= .stop k r/\r.words=s.words/\r.out=s.out
 | .out=>b= .out
theorem aaj {P:List UInt32->Rn->Rw->Prop}{a:Rs Rn}{b:Rs Rw} (h:Sim P a b):OcR P a b:=by
 cases a <;> cases b <;> first | exact h.elim | rfl | exact⟨_,by rw[h.1],h.2⟩
theorem Ao (o:Oc) (p:Option Addr) (c:Nat):∀ v ∈ (ocC o p c).toList,v.oneCell'=true:=by
 intro v hv;simp [ocC,vU] at hv;rcases hv with rfl | rfl | rfl | rfl | rfl <;> rfl
theorem tp:∀ v ∈ ocZ.toList,v.oneCell'=true:=by
 intro v hv;simp [ocZ] at hv;rcases hv with rfl | rfl | rfl | rfl | rfl <;> rfl
set_option maxHeartbeats 2000000 in
theorem yj [Inhabited G3o]{fu:Nat} (s:List UInt8) (stack steps:Int) (hfu:20001 * 1000002+1000002<fu) (h:globA.at_ W):Calls prog 9 #[.string (ofL s),.int .i64 stack,.int .i64 steps] W (wk W s 64009 8002 fu stack steps):=by
 refine vc9 (ofL s) stack steps ?_;refine(St.begin h).al λ k w2 H2=>?_;have H2:St W globA.own w2 [globA,blk k ocZ 35]:=H2
 have hr:s.length≤8000->decls 64009 8002 (lex s 1)≠ .out:=λ hs=>by
  have hl:=(vu s.length s 1 (Nat.le_refl _)).2.2.2;exact we 8002 (lex s 1) (by omega) (by omega) (by omega)
 refine(Yg (W:=w2) (f:=64009) (g:=8002) s hr (H2.nth 0 rfl)).mono ?_;rintro e w3 ⟨ad,he⟩;have her:=Nk (ad:=ad) (s:=s)
 cases hc:(dl 64009 8002 s).bind (check ad) with
 | err line en =>
  rw[hc] at he her;obtain⟨v,rfl,he⟩:=he
  have hl:tm 64009 8002 s= .err line en:=by
   cases hl:tm 64009 8002 s with
   | ok ds=>rw[hl] at her;cases her
   | err a b=>rw[hl] at her;cases her;rfl
  refine⟨_,_,_,rfl,?_⟩;rcases he with ⟨rfl,hp⟩ | ⟨b,rfl,hp⟩
  ·have H3:=H2.upd 0 rfl hp;refine qp (Sx.so (λ _=>?_) (λ h=>by cases h));refine⟨_,rfl,H3.cells 1 rfl,?_⟩;refine H3.sts0 1 (n:=5) (vs:=ocZ) rfl rfl rfl tp λ w4 H4=>⟨_,rfl,H4.cells 1 rfl,?_⟩;unfold wk;rw[hl];exact⟨_,rfl,.inl ⟨rfl,H4.post 0 rfl⟩⟩
  ·have H3:=H2.upd 0 rfl hp;refine qp (Sx.so (λ _=>?_) (λ h=>by cases h));refine⟨_,rfl,H3.cells 1 rfl,?_⟩;refine H3.sts0 1 (n:=5) (vs:=ocZ) rfl rfl rfl tp λ w4 H4=>⟨_,rfl,H4.cells 1 rfl,?_⟩;unfold wk;rw[hl];exact⟨_,rfl,.inr ⟨b,rfl,H4.post 0 rfl⟩⟩
 | ok q =>
  rw[hc] at he her;obtain⟨kp,rfl,ms,cur,km,pf,pd,cf,cd,tot,rfl,hpar,hmok,rfl,hq,hgz,hfit,hp⟩:=he
  obtain⟨ds,hl⟩:∃ ds,tm 64009 8002 s= .ok ds:=by
   cases hl:tm 64009 8002 s with
   | ok ds=>exact⟨ds,rfl⟩
   | err a b=>rw[hl] at her;cases her
  have hds:ms.map Dm.d=ds:=by
   have:=yi hl;rw[hpar] at this;cases this;rfl
  have hch:check (xu (av ms 0 0)) (ms.map Dm.d)= .ok q:=by rw[hpar] at hc;exact hc
  have hdd:∀ d ∈ ms.map Dm.d,DOk d/\d.nok:=by rw[hds];exact λ d hd=>⟨Nj (yi hl) d hd,aai (yi hl) d hd⟩
  refine⟨_,_,_,rfl,Mk (Sx.so (λ h=>by cases h) (λ _=>?_))⟩;have H3:=St.open_ (L:=[globA,all (ady kp km pf cf pd cd (pt q.2) ((Bn ((av ms 0 0).map Dm.g):Nat):Int) (av ms 0 0) cur)]) (L':=[blk k ocZ 35]) (H2.upd 0 rfl hp)
  have refuse:∀ {w:World},¬ inB stack steps->St W globA.own w [globA,all (ady kp km pf cf pd cd (pt q.2) ((Bn ((av ms 0 0).map Dm.g):Nat):Int) (av ms 0 0) cur),blk k ocZ 35] ->
    ∃ vs:Array Value,vs.size=5/\Sx.cellsAt w ⟨k,0,none⟩ vs/\vs.size=5/\(∀ k2:Nat,k2<5->(∃ v2:Value,w.cell? ⟨k,0+k2,none⟩=some v2)/\w.frozen? ⟨k,0+k2,none⟩=false)/\(∀ v3:Value,v3 ∈ vs.toList->v3.oneCell'=true)/\∀ w4:World,w4=w.setCells k 0 vs.toList->∃ vs2:Array Value,vs2.size=5/\Sx.cellsAt w4 ⟨k,0,none⟩ vs2/\wk W s 64009 8002 fu stack steps (.returned (.tuple #[.agg vs2,.iface 29 (.int .i64 3)])) w4:=by
   intro w hb H;refine⟨_,rfl,H.cells 2 rfl,?_⟩;refine H.sts0 2 (n:=5) (vs:=ocZ) rfl rfl rfl tp λ w4 H4=>⟨_,rfl,H4.cells 2 rfl,?_⟩;unfold wk;rw[hl];exact .inl ⟨hb,rfl,H4.post 0 rfl⟩
  refine Sx.so (λ hb=>?_) (λ hb1=>?_)
  ·have hb:=dt hb;exact refuse (λ h=>by obtain⟨⟨a,b⟩,c,d⟩:=h;omega) H3
  refine Sx.so (λ hb=>?_) (λ hb2=>?_)
  ·have hb:=dt hb;exact refuse (λ h=>by obtain⟨⟨a,b⟩,c,d⟩:=h;omega) H3
  refine Sx.so (λ hb=>?_) (λ hb3=>?_)
  ·have hb:=dt hb;exact refuse (λ h=>by obtain⟨⟨a,b⟩,c,d⟩:=h;omega) H3
  refine Sx.so (λ hb=>?_) (λ hb4=>?_)
  ·have hb:=dt hb;exact refuse (λ h=>by obtain⟨⟨a,b⟩,c,d⟩:=h;omega) H3
  have hb1:=df hb1;have hb2:=df hb2;have hb3:=df hb3;have hb4:=df hb4;have hin:inB stack steps:=⟨⟨by omega,by omega⟩,by omega,by omega⟩;obtain⟨z1,rfl⟩:∃ z:Nat,stack=(z:Int):=⟨stack.toNat,by omega⟩;obtain⟨z2,rfl⟩:∃ z:Nat,steps=(z:Int):=⟨steps.toNat,by omega⟩;obtain⟨DA,hDA⟩:∃ A,A=all (ady kp km pf cf pd cd (pt q.2) ((Bn ((av ms 0 0).map Dm.g):Nat):Int) (av ms 0 0) cur):=⟨_,rfl⟩
  have hDo:∀ W,DA.at_ W->(all ((cur.map Dm.g).map hdA)).at_ W/\(all (cur.map rsA)).at_ W:=by
   intro W hW;rw[hDA] at hW;have hW:Sep.here _ W:=hW;exact⟨hW.nth 4 rfl,hW.nth 5 rfl⟩
  have hD1:∀ W,DA.at_ W->Blk W kp #[.slice pf (cr ((av ms 0 0).map Dm.g)).length cf,pt q.2,.int .i64 ((Bn ((av ms 0 0).map Dm.g):Nat):Int),.slice pd (av ms 0 0).length cd] 66:=by
   intro W hW;rw[hDA] at hW;have hW:Sep.here _ W:=hW;exact hW.nth 0 rfl
  rw[<- hDA] at H3;have hat:=(hDo _ (H3.nth 1 rfl)).1;have hgt:=wj ms 0 0;obtain⟨C0,hFO,n,b,hmain⟩:=Ud (X:=⟨0,none,0,DA⟩) hch hdd hq hgz hfit hat hDo;have hn1:=C0.nw;rw[hgt] at hD1;have lk:=afn hch hdd hq hgz hat;obtain⟨-,np,hlk,rfl⟩:=rx hch;rw[hds] at lk hlk hn1 hD1 hFO;obtain⟨nw,hnw⟩:∃ n,n=total ds:=⟨_,rfl⟩;rw[<- hnw] at hn1 hD1 hFO;refine ptr_some ⟨((nw:Nat):Int),(hD1 _ (H3.nth 1 rfl)).cell' (i:=2) rfl,⟨by omega,by omega,by omega,by omega⟩,?_⟩;refine H3.al λ k7 w4 H4=>?_;rintro vs rfl;refine H4.al λ k8 w5 H5=>?_;refine H5.al λ k9 w6 H6=>?_;rw[Int.toNat_natCast] at H6;refine H6.st 5 rfl (i:=0) (by simp) λ w7 H7=>?_;refine H7.dr λ w8 H8=>?_;refine ptr_some ⟨_,H8.ld 5 rfl (i:=0) rfl,_,(hD1 _ (H8.nth 1 rfl)).cell' (i:=1) rfl,?_⟩
  have H9:St W globA.own w8 [globA,DA,blk k ocZ 35,sl 32 1 (.slice (some ⟨k7,0,none⟩) nw nw) nw ((List.replicate nw (0:UInt32)).map vU),blk k8 #[.slice (some ⟨k7,0,none⟩) nw nw,.slice none 0 0,.int .i64 (z2:Int),.int .i64 (z1:Int),.slice none 0 0] 69,blk k9 #[pt k8] 61]:=by
   refine H8.conv 3 rfl (A':=sl 32 1 (.slice (some ⟨k7,0,none⟩) nw nw) nw ((List.replicate nw (0:UInt32)).map vU)) (λ h=>Ue hn1 h) ?_
   intro q' hq';have:some k7=some q':=hq';cases this;rfl
  obtain⟨s0,hs0⟩:∃ s0:Rn,s0=⟨List.replicate nw 0,[],z2,z1,[]⟩:=⟨_,rfl⟩
  have C1:Code ⟨k8,some ⟨k7,0,none⟩,nw,DA⟩ (Il cur) nw:=by
   have:=(Ud (X:=⟨k8,some ⟨k7,0,none⟩,nw,DA⟩) hch hdd hq hgz hfit hat hDo).1;rw[hds,<- hnw] at this;exact this
  have H10:St W globA.own w8 ([blk k8 #[.slice (some ⟨k7,0,none⟩) nw nw,.slice none 0 0,.int .i64 (z2:Int),.int .i64 (z1:Int),.slice none 0 0] 69,sl 32 1 (.slice (some ⟨k7,0,none⟩) nw nw) nw ((List.replicate nw (0:UInt32)).map vU),sl 5 1 (.slice none 0 0) 0 [],sl 32 1 (.slice none 0 0) 0 [],DA]++[sl 32 1 (.slice none 0 0) 0 [],globA,blk k ocZ 35,blk k9 #[pt k8] 61]) :=
   (((H9.add (A:=sl 5 1 (.slice none 0 0) 0 []) ⟨Sl.nil _ _ _,XTouch.refl _ _,λ q hq=>by cases hq⟩).add (A:=sl 32 1 (.slice none 0 0) 0 []) ⟨Sl.nil _ _ _,XTouch.refl _ _,λ q hq=>by cases hq⟩).add (A:=sl 32 1 (.slice none 0 0) 0 []) ⟨Sl.nil _ _ _,XTouch.refl _ _,λ q hq=>by cases hq⟩).pick [4,3,6,7,1,8,0,2,5]
  have H11:St W globA.own w8 (rnA ⟨k8,some ⟨k7,0,none⟩,nw,DA⟩ ⟨none,0,none,0⟩ s0::sl 32 1 (.slice none ([]:List UInt32).length 0) ([]:List UInt32).length (([]:List UInt32).map vU)::[globA,blk k ocZ 35,blk k9 #[pt k8] 61]):=by
   have:=St.shut H10;rw[hs0];unfold rnA rnL;simp only[List.length_replicate];exact this
  have hgd:Gd' nw s0:=by
   rw[hs0];exact⟨by simp,by show z2≤20000;omega,by show z1≤512;omega,by show 0+z2≤20000;omega⟩
  have hne:go opE (Il cur) fu (.en q.2 []) s0≠ .out:=by
   refine abg hFO fu 0 (.en q.2 []) s0 ⟨n,b,hmain,Nat.zero_le _⟩ ?_;exact aip (K:=1000000) hfu hgd.2.1
  have hsim:OcR (PE [] 0) (go opE (Il cur) fu (.en q.2 []) s0) (rgo opE ds fu (.en ef []) (r0 ds z1 z2)):=by
   rw[hs0,hnw];exact aaj (aag (E:=opE) (stack:=z1) (steps:=z2) lk fu hlk)
  have key:=(afl C1 fu).en H11 hmain (Nat.zero_le _) hgd hne;refine key.mono ?_;intro e w9 he
  have fin:∀ {R:Rs Rw} {po:Option Addr} {co:Nat} {w:World} {o:Oc},rgo opE ds fu (.en ef []) (r0 ds z1 z2)=R->R≠ .out->Im R=o->St W globA.own w [globA,sl 32 1 (.slice po o.globals.length co) o.globals.length (o.globals.map vU)]->wk W s 64009 8002 fu ((z1:Nat):Int) ((z2:Nat):Int) (.returned (.tuple #[.agg (ocC o po co),.nilIface])) w:=by
   intro R po co w o hR hRo ho H;unfold wk;rw[hl]
   have e1:rgo opE ds fu (.en ef []) (r0 ds ((z1:Nat):Int).toNat ((z2:Nat):Int).toNat)=R:=by rw[Int.toNat_natCast,Int.toNat_natCast];exact hR
   subst ho;exact .inr ⟨hin,R,po,co,e1,hRo,rfl,St.post (St.shut (L:=[globA,_]) (L':=[]) H) 0 rfl⟩
  cases hR:go opE (Il cur) fu (.en q.2 []) s0 with
  | out=>exact absurd hR hne
  | ok v s' =>
   rw[hR] at he hsim;obtain⟨rfl,po,co,H12⟩:=he;obtain⟨r,hr2,⟨⟨e1,e2, -⟩, -⟩⟩:=hsim;have H13:=ik H12;refine .inl ⟨_,rfl,H13.dr λ w10 H14=>?_⟩;refine⟨_,H14.ld 7 rfl (i:=0) rfl,ptr_some ⟨_,_,_,H14.ld 0 rfl (i:=1) rfl,_,aah (H14.nth 2 rfl),_,H14.ld 7 rfl (i:=0) rfl,ptr_some ⟨_,_,_,H14.ld 0 rfl (i:=0) rfl,?_⟩⟩⟩;rintro vs rfl;rw[Fu];have hw:r.words=s'.words:=e1;have ho:r.out=s'.out:=e2;refine H14.sts0 6 (n:=5) (vs:=ocC ⟨true,s'.out,hd v,0,s'.words⟩ (some ⟨k7,0,none⟩) nw) rfl rfl rfl (Ao _ _ _) λ w11 H15=>?_;refine ain k 0 k9 0 .nilIface (.inl ⟨_,rfl,.inl ⟨rfl,_,rfl,H15.cells 6 rfl,?_⟩⟩);refine fin hr2 (λ h=>by cases h) ?_ (H15.pick [5,1]);show Oc.mk true r.out (hd v) 0 r.words=_;rw[hw,ho]
  | stop m s' =>
   rw[hR] at he hsim;obtain⟨rfl,h',y1,y2,v,H12⟩:=he;obtain⟨r,hr2,e1,e2⟩:=hsim;have H13:=St.open_ (L:=stL ⟨k8,some ⟨k7,0,none⟩,nw,DA⟩ h' y1 y2 v s') H12;refine .inr ⟨_,rfl,?_⟩;refine amo k 0 k9 0 _ (qp (be (bi ⟨_,rfl,?_⟩)));rintro vs rfl;refine H13.sts0 5 (n:=5) (vs:=ocZ) rfl rfl rfl tp λ w10 H14=>?_
   cases m with
   | zero =>
    refine Sx.so (λ h=>by simp at h) (λ _=>?_);refine .inl ⟨_,rfl,.inl ⟨rfl,_,rfl,H14.cells 5 rfl,?_⟩⟩;exact fin (po:=none) (co:=0) hr2 (λ h=>by cases h) rfl ((H14.add (A:=sl 32 1 (.slice none 0 0) 0 []) ⟨Sl.nil _ _ _,XTouch.refl _ _,λ q hq=>by cases hq⟩).pick [4,7])
   | succ m =>
    refine Sx.so (λ _=>?_) (λ h=>by have:=df h;omega);refine H14.dr λ w11 H15=>?_;refine⟨_,H15.ld 6 rfl (i:=0) rfl,ptr_some ⟨_,_,_,H15.ld 0 rfl (i:=1) rfl,_,aah (H15.nth 2 rfl),_,H15.ld 6 rfl (i:=0) rfl,ptr_some ⟨_,_,_,H15.ld 0 rfl (i:=0) rfl,?_⟩⟩⟩;rintro vs rfl;rw[Fu];refine H15.sts0 5 (n:=5) (vs:=ocC ⟨true,s'.out,0,m+1,s'.words⟩ (some ⟨k7,0,none⟩) nw) rfl rfl rfl (Ao _ _ _) λ w12 H16=>?_;refine .inl ⟨_,rfl,.inl ⟨rfl,_,rfl,H16.cells 5 rfl,?_⟩⟩;refine fin hr2 (λ h=>by cases h) ?_ (H16.pick [4,1]);show Oc.mk true r.out 0 (m+1) r.words=_;rw[e1,e2]
end Go.Proofs.YtojogkljneonmaaGreatDoor
