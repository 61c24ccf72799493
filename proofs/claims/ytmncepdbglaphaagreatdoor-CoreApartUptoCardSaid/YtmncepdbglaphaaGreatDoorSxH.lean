/- A part of the walk. No condition. -/
import Derived.Test.YtmncepdbglaphaaGreatDoorSxB
import Derived.Test.YtmncepdbglaphaaGreatDoorChecked
import Derived.IntWalk
set_option linter.unusedVariables false
set_option maxRecDepth 100000
namespace Go.V
open Go.XHeap
@[reducible] def ldI (κ:IntKind) (W:wD) (b o:Nat) (φ:Int->Prop):Prop:=∃ z:Int,World.cell? W ⟨b,o,none⟩=some (Value.int κ z)/\φ z
@[reducible] def ldP (W:wD) (b o:Nat) (φ:OA->Prop):Prop:=∃ z:OA,World.cell? W ⟨b,o,none⟩=some (Value.pointer z)/\φ z
@[reducible] def ldS (W:wD) (b o:Nat) (φ:ByteArray->Prop):Prop:=∃ z:ByteArray,World.cell? W ⟨b,o,none⟩=some (Value.string z)/\φ z
@[reducible] def ldB (W:wD) (b o:Nat) (φ:Bool->Prop):Prop:=∃ z:Bool,World.cell? W ⟨b,o,none⟩=some (Value.bool z)/\φ z
@[reducible] def ldV (W:wD) (b o:Nat) (φ:Value->Prop):Prop:=∃ z:Value,World.cell? W ⟨b,o,none⟩=some z/\φ z
@[reducible] def ldL (W:wD) (b o:Nat) (φ:OA->Nat->Nat->Prop):Prop:=∃ (p:OA) (n c:Nat),World.cell? W ⟨b,o,none⟩=some (Value.slice p n c)/\φ p n c
@[reducible] def ldM (W:wD) (b o:Nat) (φ:Option Nat->Prop):Prop:=∃ z:Option Nat,World.cell? W ⟨b,o,none⟩=some (Value.map z)/\φ z
@[reducible] def ldN (W:wD) (b o n:Nat) (φ:AV->Prop):Prop:=∃ vs:AV,Array.size vs=n/\(Sx.cellsAt W ⟨b,o,none⟩ vs/\φ vs)
@[reducible] def de (κ:IntKind) (W:wD) (x:Addr) (φ:Int->Prop):Prop:=∃ z:Int,World.cell? W x=some (Value.int κ z)/\φ z
@[reducible] def ud (W:wD) (x:Addr) (φ:Bool->Prop):Prop:=∃ z:Bool,World.cell? W x=some (Value.bool z)/\φ z
@[reducible] def zu (W:wD) (x:Addr) (φ:OA->Nat->Nat->Prop):Prop:=∃ (p:OA) (n c:Nat),World.cell? W x=some (Value.slice p n c)/\φ p n c
@[reducible] def aey (W:wD) (x:Addr) (n:Nat) (φ:AV->Prop):Prop:=∃ vs:AV,Array.size vs=n/\(Sx.cellsAt W x vs/\φ vs)
@[reducible] def nM {α:Type} (x:α) (φ:α->Prop):Prop:=∀ z:α,z=x->φ z
@[reducible] def nN (x:AV) (φ:AV->Prop):Prop:=∀ z:AV,z=x->φ z
@[reducible] def alc (W:wD) (cs:AV) (t:TI) (φ:Nat->wD->Prop):Prop:=∀ k:Nat,∀ W':wD,k=Array.size (World.heap W)->W'=World.alloc W (Obj.cells cs t)->φ k W'
@[reducible] def sto (W:wD) (b o:Nat) (v:Value) (φ:wD->Prop):Prop:=(∃ u:Value,World.cell? W ⟨b,o,none⟩=some u)/\(World.frozen? W ⟨b,o,none⟩=false/\∀ W':wD,W'=World.setCell W ⟨b,o,none⟩ v->φ W')
@[reducible] def rh (W:wD) (x:Addr) (v:Value) (φ:wD->Prop):Prop:=(∃ u:Value,World.cell? W x=some u)/\(World.frozen? W x=false/\∀ W':wD,W'=World.setCell W x v->φ W')
@[reducible] def ct (W:wD) (b o n:Nat) (vs:AV) (φ:wD->Prop):Prop:=Array.size vs=n/\((∀ k:Nat,k<n->(∃ u:Value,World.cell? W ⟨b,o+k,none⟩=some u)/\World.frozen? W ⟨b,o+k,none⟩=false)/\((∀ v:Value,v ∈ Array.toList vs->Value.oneCell' v=true)/\∀ W':wD,W'=World.setCells W b o (Array.toList vs)->φ W'))
@[reducible] def nw (κ:IntKind) (x:Int) (φ:Int->Prop):Prop:=∀ z:Int,z=IntKind.wrap κ x->φ z
@[reducible] def dw (W:wD) (φ:wD->Prop):Prop:=∀ z:wD,z=World.drew W->φ z
@[reducible] def dn (W:wD) (φ:wD->Nat->Prop):Prop:=∀ z:wD,∀ k:Nat,z=World.drewN W k->φ z k
@[reducible] def bw (W W':wD):Prop:=RowKit.Below (Array.size (World.heap W)) W W'
@[reducible] def e0:Ending:=eY #[]
@[reducible] def oi:Value:=.int .i64 0
@[reducible] def o8:Value:=.int .u8 0
@[reducible] def ou:Value:=.int .u32 0
@[reducible] def ixs (i:Int) (k:Nat) (p:OA) (φ:Nat->Nat->Prop):Prop:=((0:Int)≤i/\i<(k:Int))/\Sx.adr p φ
@[reducible] def wv (φ:Prop):Prop:=(Nat->Value)->φ
section
variable (P:Program)
@[reducible] def rI (κ:IntKind) (f:FuncId) (a:AV) (W:wD) (φ:Int->wD->Prop):Prop:=Calls P f a W λ e W'=>∃ z:Int,e=eZ (.int κ z)/\φ z W'
@[reducible] def rP (f:FuncId) (a:AV) (W:wD) (φ:OA->wD->Prop):Prop:=Calls P f a W λ e W'=>∃ z:OA,e=eZ (.pointer z)/\φ z W'
@[reducible] def rB (f:FuncId) (a:AV) (W:wD) (φ:Bool->wD->Prop):Prop:=Calls P f a W λ e W'=>∃ z:Bool,e=eZ (.bool z)/\φ z W'
@[reducible] def rQ (f:FuncId) (a:AV) (W:wD) (φ:AV->wD->Prop):Prop:=Calls P f a W λ e W'=>∃ z:AV,e=eZ (.agg z)/\φ z W'
@[reducible] def rV (f:FuncId) (a:AV) (W:wD) (φ:Value->wD->Prop):Prop:=Calls P f a W λ e W'=>∃ z:Value,e=eZ z/\φ z W'
@[reducible] def rL (f:FuncId) (a:AV) (W:wD) (φ:OA->Nat->Nat->wD->Prop):Prop:=Calls P f a W λ e W'=>∃ (p:OA) (n c:Nat),e=eZ (.slice p n c)/\φ p n c W'
@[reducible] def rU (f:FuncId) (a:AV) (W:wD) (φ:wD->Prop):Prop:=Calls P f a W λ e W'=>e=eY #[]/\φ W'
end
@[reducible] def apn (W:wD) (e:TI) (s:Nat) (p:OA) (n c m:Nat) (x:OA) (by_:Nat) (φ:OA->Nat->wD->Prop):Prop :=
 ∃ l:LV,∃ l2:LV,Sl W e s (.slice p n c) n l/\(((m=0/\x=none)∨(∃ a:Addr,x=some a/\∀ k:Nat,∀ v:Value,l2[k]?=some v->World.cell? W (Addr.add a k)=some v))/\(List.length l2=m * s/\((∀ v:Value,v ∈ l2->Value.oneCell' v=true)/\(n+m≤maxLen/\((n+m) * by_≤140737488355328 /\
  ∀ p':OA,∀ c':Nat,∀ W':wD,Sl W' e s (.slice p' (n+m) c') (n+m) (l++l2)->XTouch (λ b=>Value.ownBlock (.slice p n c)=some b) W W'->(∀ k:Nat,Value.ownBlock (.slice p' (n+m) c')=some k->Value.ownBlock (.slice p n c)=some k∨Array.size (World.heap W)≤k)->Sl W' e s (.slice p n c) n l ->
   ((p'=p/\c'=c)∨((NilP p∨c<n+m)/\∀ k:Nat,Value.ownBlock (.slice p' (n+m) c')=some k->Array.size (World.heap W)≤k))->φ p' c' W')))))
end Go.V
namespace Go.Sx.An
@[reducible] def ll:An:=.node [] [] 0 .leaf .leaf
@[reducible] def h (m:Nat):An:=.node [] [] m .leaf .leaf
@[reducible] def q (x:An):An:=.node [] [] 0 x .leaf
@[reducible] def r (x:An):An:=.node [] [] 0 .leaf x
@[reducible] def n (x y:An):An:=.node [] [] 0 x y
end Go.Sx.An
namespace Go.Proofs.YtmncepdbglaphaaGreatDoor
open Go Go.Proofs Go.Proofs.Tryz Go.V
variable {W:wD}{Q:Ending->wD->Prop}
set_option maxHeartbeats 1000000
theorem aml (n:Int)
 (hVC:Sx.split (decide (n<34)) (Q (eY #[.pointer none,.iface 60 (Value.int .i64 2)]) W) (Sx.split (decide (n > 128)) (Q (eY #[.pointer none,.iface 60 (Value.int .i64 2)]) W) (((0:Int)≤n/\n≤n/\n≤9223372036854775807/\(↑1:Int) * n≤281474976710656)/\alc W (madeCells #[o8] (n.toNat * 1)) 125 λ k W2=>nN (#[oi,oi,oi,oi,oi,oi,oi,oi,oi,oi,oi,oi,oi,oi,oi,oi,oi,oi,oi,oi,oi,oi,oi,oi,oi,oi,oi,oi,oi,oi,oi,oi,.slice (some ⟨k,0,none⟩) (n.toNat) (n.toNat),.slice none 0 0]) λ vs=>alc W2 (Value.cells (Value.agg vs)) 124 λ k2 W3=>∃ I:Int->wD->Prop,∃ I2:Int->wD->Nat,I 0 W3/\(wv (∀ x W4,I x W4->Sx.split (decide (x<n)) (Sx.split (decide (x<32)) (dw W4 λ W5=>ldL W5 k2 (0+32) λ p k3 k4=>((0:Int)≤x/\x<(↑32:Int))/\sto W5 k2 (0+x.toNat * 1) (Value.int .i64 x) λ W6=>ixs x k3 p λ k5 k6=>sto W6 k5 (k6+x.toNat * 1) (Value.int .u8 1) λ W7=>nw .i64 (x+1) λ z=>I z W7/\I2 z W7<I2 x W4) (ldL W4 k2 (0+33) λ p2 k7 k8=>alc W4 #[.int .i64 x] 3 λ k9 W8=>apn W8 3 1 p2 k7 k8 1 (some ⟨k9,0,none⟩) 8 λ p3 k11 W9=>sto W9 k2 (0+33) (Value.slice p3 (k7+1) k11) λ W10=>nw .i64 (x+1) λ z2=>I z2 W10/\I2 z2 W10<I2 x W4)) (Q (eY #[pZ k2 0,.nilIface]) W4)))))) :
 Calls prog 23 #[.int .i64 n] W Q :=
 Sx.sd func23 (.r (.r (.r (.n (.r (.n (.node [(18,.int .i64)] [17,4] 0 (.r (.r (.n (.q (.r (.q (.r (.q (.q (.h 1012))))))) .leaf))) .leaf) .leaf)) .leaf)))) hVC
theorem amm (t:Nat) (to:Nat) (r:Int)
 (hVC:Sx.split (r !=0) (rB prog 75 #[.int .i64 r] W λ t2 W2=>Sx.split (!t2) (Q (eZ (.int .i64 (-1))) W2) (((0:Int)≤r/\r<(↑32:Int))/\ldI .i64 W2 t (to+r.toNat * 1) λ z=>Q (eZ (.int .i64 z)) W2)) (((0:Int)≤r/\r<(↑32:Int))/\ldI .i64 W t (to+r.toNat * 1) λ z2=>Q (eZ (.int .i64 z2)) W)) :
 Calls prog 44 #[pZ t to,.int .i64 r] W Q :=
 Sx.sd func44 .leaf hVC
theorem amn (r:Int)
 (hVC:Sx.split (decide (r > 0)) (Q (eZ (.bool (decide (r<32)))) W) (Q (eZ (.bool false)) W)) :
 Calls prog 75 #[.int .i64 r] W Q :=
 Sx.sd func75 .leaf hVC
theorem aic (t:Nat) (to:Nat) (r:Int)
 (hVC:rB prog 75 #[.int .i64 r] W λ t2 W2=>Sx.split (!t2) (Q (eY #[oi,oi,.iface 60 (Value.int .i64 3)]) W2) (ldL W2 t (to+33) λ p k k2=>Sx.split ((↑k:Int)==0) (Q (eY #[oi,oi,.iface 60 (Value.int .i64 4)]) W2) (ldL W2 t (to+33) λ p2 k3 k4=>ixs 0 k3 p2 λ k5 k6=>ldI .i64 W2 k5 (k6+0) λ z=>((0:Int)≤r/\r<(↑32:Int))/\ldI .i64 W2 t (to+r.toNat * 1) λ z2=>dn W2 λ W3 k7=>ldL W3 t (to+33) λ p3 k8 k9=>((0:Int)≤(1:Int)/\(1:Int)≤(↑k8:Int))/\sto W3 t (to+33) (Value.slice (Sx.sub p3 k9 1 1) (k8 - 1) (k9 - 1)) λ W4=>((0:Int)≤r/\r<(↑32:Int))/\sto W4 t (to+r.toNat * 1) (Value.int .i64 z) λ W5=>dw W5 λ W6=>ldL W6 t (to+32) λ p4 k10 k11=>ldL W6 t (to+32) λ p5 k12 k13=>ixs z k10 p4 λ k14 k15=>sto W6 k14 (k15+z.toNat * 1) (Value.int .u8 1) λ W7=>ixs z2 k12 p5 λ k16 k17=>sto W7 k16 (k17+z2.toNat * 1) (Value.int .u8 2) λ W8=>Q (eY #[.int .i64 z,.int .i64 z2,.nilIface]) W8))) :
 Calls prog 119 #[pZ t to,.int .i64 r] W Q :=
 Sx.sd func119 (.r (.r (.r (.r (.r (.r (.q (.h 1012)))))))) hVC
theorem amo (y0:Nat) (Y0:Nat) (y1:Int) (y2:Int) (y3:Int)
 (hVC:rB prog 75 #[.int .i64 y1] W λ t W2=>Sx.split (!t) (Q (eZ (.iface 60 (Value.int .i64 3))) W2) (Sx.split (decide (y3<1)) (Q (eZ (.iface 60 (Value.int .i64 3))) W2) (ldL W2 y0 (Y0+32) λ p k k2=>Sx.split (decide (y3 ≥ (↑k:Int))) (Q (eZ (.iface 60 (Value.int .i64 3))) W2) (((0:Int)≤y1/\y1<(↑32:Int))/\ldI .i64 W2 y0 (Y0+y1.toNat * 1) λ z=>Sx.split (z !=y2) (Q (eZ (.iface 60 (Value.int .i64 5))) W2) (ldL W2 y0 (Y0+32) λ p2 k3 k4=>ixs y3 k3 p2 λ k5 k6=>ldI .u8 W2 k5 (k6+y3.toNat * 1) λ z2=>Sx.split (z2 !=2) (Q (eZ (.iface 60 (Value.int .i64 5))) W2) (((0:Int)≤y1/\y1<(↑32:Int))/\sto W2 y0 (Y0+y1.toNat * 1) (Value.int .i64 y3) λ W3=>dw W3 λ W4=>ldL W4 y0 (Y0+32) λ p3 k7 k8=>ldL W4 y0 (Y0+32) λ p4 k9 k10=>ixs y2 k7 p3 λ k11 k12=>sto W4 k11 (k12+y2.toNat * 1) (Value.int .u8 0) λ W5=>ixs y3 k9 p4 λ k13 k14=>sto W5 k13 (k14+y3.toNat * 1) (Value.int .u8 1) λ W6=>ldL W6 y0 (Y0+33) λ p5 k15 k16=>alc W6 #[.int .i64 y2] 3 λ k17 W7=>rL prog 136 #[.slice p5 k15 k16,oi,.slice (some ⟨k17,0,none⟩) 1 1] W7 λ p6 k18 k19 W8=>sto W8 y0 (Y0+33) (Value.slice p6 k18 k19) λ W9=>Q (eZ Value.nilIface) W9)))))) :
 Calls prog 90 #[pZ y0 Y0,.int .i64 y1,.int .i64 y2,.int .i64 y3] W Q :=
 Sx.sd func90 (.r (.r (.r (.q (.h 1012))))) hVC
theorem amp (t:Nat) (to:Nat) (p:Int)
 (hVC:Sx.split (decide (p<1)) (Q (eZ (.iface 60 (Value.int .i64 3))) W) (ldL W t (to+32) λ p2 k k2=>Sx.split (decide (p ≥ (↑k:Int))) (Q (eZ (.iface 60 (Value.int .i64 3))) W) (ldL W t (to+32) λ p3 k3 k4=>ixs p k3 p3 λ k5 k6=>ldI .u8 W k5 (k6+p.toNat * 1) λ z=>Sx.split (z !=2) (Q (eZ (.iface 60 (Value.int .i64 6))) W) (ldL W t (to+32) λ p4 k7 k8=>ixs p k7 p4 λ k9 k10=>sto W k9 (k10+p.toNat * 1) (Value.int .u8 0) λ W2=>ldL W2 t (to+33) λ p5 k11 k12=>alc W2 #[.int .i64 p] 3 λ k13 W3=>apn W3 3 1 p5 k11 k12 1 (some ⟨k13,0,none⟩) 8 λ p6 k15 W4=>sto W4 t (to+33) (Value.slice p6 (k11+1) k15) λ W5=>Q (eZ Value.nilIface) W5)))) :
 Calls prog 95 #[pZ t to,.int .i64 p] W Q :=
 Sx.sd func95 .leaf hVC
theorem aid (t:Nat) (to:Nat)
 (hVC:ldL W t (to+33) λ p k k2=>Q (eZ (.int .i64 (↑k:Int))) W) :
 Calls prog 117 #[pZ t to] W Q :=
 Sx.sd func117 .leaf hVC
end Go.Proofs.YtmncepdbglaphaaGreatDoor
namespace Go.Sx
open Go.RowKit Go.XHeap
variable {w w':wD}{b o:Nat}{cs:AV}{t:TI}
theorem jt (h:Blk w b cs t) (vs:AV) (hv:∀ i v,vs[i]?=some v->cs[o+i]?=some v):cellsAt w ⟨b,o,none⟩ vs:=by
 intro i v hi;rw[ac];exact h.cell' (hv i v hi)
def bv (cs:AV) (o:Nat) (vs:LV):AV:=(cs.toList.take o++vs++cs.toList.drop (o+vs.length)).toArray
theorem Ll (cs:AV) (o:Nat):bv cs o []=cs:=by simp [bv]
theorem Gq (cs:AV) (o:Nat) (v:Value) (vs:LV) (h:o<cs.size):bv (cs.setIfInBounds o v) (o+1) vs=bv cs o (v::vs):=by
 unfold bv;congr 1;rw[qsB]
 have h1:(cs.toList.set o v).take (o+1)=cs.toList.take o++[v]:=by
  rw[List.take_set,qdB (by simpa using h),List.set_append_right _ _ (by simp;omega)];simp [qPB (Nat.le_of_lt (show o<cs.size from h))]
 have h2:(cs.toList.set o v).drop (o+1+vs.length)=cs.toList.drop (o+(v::vs).length):=by
  rw[List.drop_set_of_lt (by omega)];simp [Nat.add_assoc,Nat.add_comm 1]
 rw[h1,h2];simp
theorem cv:∀ (vs:LV) (w:wD) (cs:AV) (o:Nat),Blk w b cs t->o+vs.length≤cs.size->Blk (w.setCells b o vs) b (bv cs o vs) t
 | [],w,cs,o,h,_=>by rw[Ll];exact h
 | v::vs,w,cs,o,h,hl=>by
  simp only[qy] at hl;rw[<- Gq cs o v vs (by omega)];exact cv vs _ _ (o+1) (h.set o v) (by simp;omega)
theorem bh:∀ (vs:LV) (w:wD) (o:Nat),XTouch (λ k=>k=b) w (w.setCells b o vs)
 | [],w,o=>qH _ _
 | v::vs,w,o=>((qH (λ k=>k=b) w).setCell (p:=⟨b,o,none⟩) (.inl rfl) v).trans (bh vs _ (o+1)) (λ _ _ h=>h)
theorem zv (cs:AV) (vs:LV) (h:vs.length=cs.size):bv cs 0 vs=vs.toArray:=by
 unfold bv;rw[qvB (by simp;omega)];simp
theorem ue (cs:AV) (o:Nat) (vs:LV) (h:o+vs.length≤cs.size) (i:Nat):(bv cs o vs)[i]?=if o≤i/\i<o+vs.length then vs[i - o]? else cs[i]?:=by
 unfold bv;rw[qTB]
 have hl:(cs.toList.take o).length=o:=by simp;omega
 by_cases h1:i<o
 ·rw[if_neg (by omega),ql,qk (by omega),qa h1];simp
 ·by_cases h2:i<o+vs.length
  ·rw[if_pos ⟨by omega,h2⟩,ql,qf (by omega),hl,qk (by omega)]
  ·rw[if_neg (by omega),qf (by simp;omega),qAB];simp only[qP,hl];rw[show o+vs.length+(i - (o+vs.length))=i by omega];simp
theorem xg (cs:AV) (o:Nat) (vs:LV) (h:o+vs.length≤cs.size):(bv cs o vs).size=cs.size:=by
 unfold bv;simp;omega
theorem fv (h:Blk w b cs t):cellsAt w ⟨b,0,none⟩ cs:=jt h cs (λ i v hi=>by simpa using hi)
theorem w64 {e:Int} (h0 : -9223372036854775808≤e) (h1:e≤9223372036854775807):IntKind.wrap .i64 e=e:=by rw[IntKind.wrap_i64];omega
theorem w32 {e:Int} (h0:0≤e) (h1:e<4294967296):IntKind.wrap .u32 e=e:=by
 unfold IntKind.wrap;simp [IntKind.bits,IntKind.signed];omega
theorem w8 {e:Int}:IntKind.wrap .u8 e=e % 256:=by
 unfold IntKind.wrap;simp [IntKind.bits,IntKind.signed]
theorem aez {e:Int}:IntKind.wrap .u32 e=e % 4294967296:=by
 unfold IntKind.wrap;simp [IntKind.bits,IntKind.signed]
end Go.Sx
