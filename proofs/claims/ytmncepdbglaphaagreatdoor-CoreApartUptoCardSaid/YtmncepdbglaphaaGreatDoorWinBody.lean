/- A part of the walk. No condition. -/
import Derived.RangeFuncNested
import Derived.RangeFuncLeaves
import Derived.Shelf.Abstract
import Derived.RangeFuncBound
import Derived.RangeFuncCalls
import Derived.Shelf.RegionOpen
import Derived.WalkKit
import Derived.OwnWalkIn
import Derived.TacticsInMore
import Derived.LoopNIn
import Derived.LoopIn
import Derived.Test.YtmncepdbglaphaaGreatDoorBusBody
set_option linter.unusedVariables false
set_option maxRecDepth 100000
namespace Go.Proofs.YtmncepdbglaphaaGreatDoor
open Go Go.Proofs Go.Proofs.Tryz Go.V
variable {W:wD}{Q:Ending->wD->Prop}
set_option maxHeartbeats 1000000
theorem aps (size:Int) (registers:Int)
 (hVC:Sx.split (decide (size<2)) (Q (eY #[.pointer none,.iface 60 (Value.int .i64 2)]) W) (Sx.split (decide (size > 64)) (Q (eY #[.pointer none,.iface 60 (Value.int .i64 2)]) W) (Sx.split (decide (registers<34)) (Q (eY #[.pointer none,.iface 60 (Value.int .i64 2)]) W) (Sx.split (decide (registers > 128)) (Q (eY #[.pointer none,.iface 60 (Value.int .i64 2)]) W) (dw W λ W2=>(((0:Int)≤size/\size≤size/\size≤9223372036854775807/\(↑48:Int) * size≤281474976710656)/\alc W2 (madeCells #[oi,oi,oi,oi,o8,oi] (size.toNat * 6)) 230 λ k W3=>bw W2 W3/\alc W3 #[.bool true] 4 λ k2 W4=>bw W2 W4/\rL prog 32 #[.slice (some ⟨k2,0,none⟩) 1 1,.int .i64 registers] W4 λ p k3 k4 W5=>nN (#[.slice (some ⟨k,0,none⟩) (size.toNat) (size.toNat),oi,oi,oi,.slice p k3 k4]) λ vs=>alc W5 (Value.cells (Value.agg vs)) 120 λ k5 W6=>Q (eY #[pZ k5 0,.nilIface]) W6)/\alc W2 #[.bool true] 4 λ k6 W7=>bw W2 W7/\(((0:Int)≤size/\size≤size/\size≤9223372036854775807/\(↑48:Int) * size≤281474976710656)/\alc W7 (madeCells #[oi,oi,oi,oi,o8,oi] (size.toNat * 6)) 230 λ k7 W8=>bw W2 W8/\rL prog 32 #[.slice (some ⟨k6,0,none⟩) 1 1,.int .i64 registers] W8 λ p2 k8 k9 W9=>nN (#[.slice (some ⟨k7,0,none⟩) (size.toNat) (size.toNat),oi,oi,oi,.slice p2 k8 k9]) λ vs2=>alc W9 (Value.cells (Value.agg vs2)) 120 λ k10 W10=>Q (eY #[pZ k10 0,.nilIface]) W10)/\rL prog 32 #[.slice (some ⟨k6,0,none⟩) 1 1,.int .i64 registers] W7 λ p3 k11 k12 W11=>((0:Int)≤size/\size≤size/\size≤9223372036854775807/\(↑48:Int) * size≤281474976710656)/\alc W11 (madeCells #[oi,oi,oi,oi,o8,oi] (size.toNat * 6)) 230 λ k13 W12=>nN (#[.slice (some ⟨k13,0,none⟩) (size.toNat) (size.toNat),oi,oi,oi,.slice p3 k11 k12]) λ vs3=>alc W12 (Value.cells (Value.agg vs3)) 120 λ k14 W13=>Q (eY #[pZ k14 0,.nilIface]) W13))))) :
 Calls prog 22 #[.int .i64 size,.int .i64 registers] W Q :=
 Sx.sd func22 (.r (.r (.q (.h 1005)))) hVC
theorem alf (y0:Nat) (Y0:Nat) (y1:AV)
 (hVC:alc W (Value.cells (Value.agg y1)) 227 λ k W2=>ldI .i64 W2 k 0 λ z=>Sx.split (decide (z<0)) (Q (eY #[oi,.iface 60 (Value.int .i64 3)]) W2) (ldI .i64 W2 k 0 λ z2=>Sx.split (decide (z2 > 7)) (Q (eY #[oi,.iface 60 (Value.int .i64 3)]) W2) (ldI .i64 W2 k (0+1) λ z3=>ldI .i64 W2 k (0+2) λ z4=>ldI .i64 W2 k (0+3) λ z5=>alc W2 #[.int .i64 z3,.int .i64 z4,.int .i64 z5] 3 λ k2 W3=>rB prog 129 #[pZ y0 Y0,.slice (some ⟨k2,0,none⟩) 3 3] W3 λ t W4=>Sx.split (!t) (Q (eY #[oi,.iface 60 (Value.int .i64 3)]) W4) (ldI .i64 W4 y0 (Y0+2) λ z6=>ldL W4 y0 Y0 λ p k3 k4=>dn W4 λ W5 k5=>Sx.split (z6==(↑k3:Int)) (Q (eY #[oi,.iface 60 (Value.int .i64 4)]) W5) (dw W5 λ W6=>ldI .i64 W6 y0 (Y0+2) λ z7=>ldN W6 k 0 4 λ vs=>ldI .i64 W6 y0 (Y0+3) λ z8=>Array.size vs=4/\nN (List.toArray (Array.toList vs++[Value.int .u8 0,.int .i64 z8])) λ vs2=>rP prog 135 #[pZ y0 Y0,.int .i64 z7] W6 λ p2 W7=>bw W6 W7/\Sx.ptr p2 λ a=>Sx.adr (some a) (λ k6 k7=>ct W7 k6 k7 6 vs2 λ W8=>ldI .i64 W8 y0 (Y0+2) λ z9=>nw .i64 (z9+1) λ z10=>sto W8 y0 (Y0+2) (Value.int .i64 z10) λ W9=>ldI .i64 W9 y0 (Y0+3) λ z11=>nw .i64 (z11+1) λ z12=>sto W9 y0 (Y0+3) (Value.int .i64 z12) λ W10=>ldI .i64 W10 k (0+3) λ z13=>Sx.split (decide (z13 ≥ 0)) (dw W10 λ W11=>ldL W11 y0 (Y0+4) λ p3 k9 k10=>ldI .i64 W11 k (0+3) λ z14=>ixs z14 k9 p3 λ k11 k12=>sto W11 k11 (k12+z14.toNat * 1) (Value.bool false) λ W12=>ldI .i64 W12 y0 (Y0+3) λ z15=>nw .i64 (z15 - 1) λ z16=>Q (eY #[.int .i64 z16,.nilIface]) W12) (ldI .i64 W10 y0 (Y0+3) λ z17=>nw .i64 (z17 - 1) λ z18=>Q (eY #[.int .i64 z18,.nilIface]) W10))))))) :
 Calls prog 120 #[pZ y0 Y0,.agg y1] W Q :=
 Sx.sd func120 (.r (.r (.r (.n (.h 1014) (.r (.r (.q (.r (.q (.h 8)))))))))) hVC
theorem alg (w:Nat) (wo:Nat) (seq:Int)
 (hVC:rV prog 128 #[pZ w wo,.int .i64 seq,o8,.int .u8 1] W λ v W2=>Q (eZ v) W2) :
 Calls prog 107 #[pZ w wo,.int .i64 seq] W Q :=
 Sx.sd func107 .leaf hVC
theorem apt (w:Nat) (wo:Nat) (seq:Int)
 (hVC:rV prog 128 #[pZ w wo,.int .i64 seq,.int .u8 1,.int .u8 2] W λ v W2=>Q (eZ v) W2) :
 Calls prog 84 #[pZ w wo,.int .i64 seq] W Q :=
 Sx.sd func84 .leaf hVC
theorem apu (w:Nat) (wo:Nat) (p:Int)
 (hVC:Sx.split (decide (p<0)) (Q (eZ (.iface 60 (Value.int .i64 3))) W) (alc W #[.int .i64 p] 3 λ k W2=>rB prog 129 #[pZ w wo,.slice (some ⟨k,0,none⟩) 1 1] W2 λ t W3=>Sx.split (!t) (Q (eZ (.iface 60 (Value.int .i64 3))) W3) (ldL W3 w (wo+4) λ p2 k2 k3=>ixs p k2 p2 λ k4 k5=>sto W3 k4 (k5+p.toNat * 1) (Value.bool true) λ W4=>Q (eZ Value.nilIface) W4))) :
 Calls prog 85 #[pZ w wo,.int .i64 p] W Q :=
 Sx.sd func85 .leaf hVC
theorem alh (w:Nat) (wo:Nat)
 (hVC:Calls prog 176 #[pZ w wo] W λ e W2=>∃ z:Int,∃ t:Bool,∃ t2:Bool,e=eY #[.int .i64 z,.bool t,.bool t2]/\Sx.split (!t2) (Q (eY #[oi,.iface 60 (Value.int .i64 7)]) W2) (Sx.split (!t) (Q (eY #[oi,.iface 60 (Value.int .i64 7)]) W2) (dw W2 λ W3=>ldI .i64 W3 w (wo+1) λ z2=>nw .i64 (z2+1) λ z3=>ldL W3 w wo λ p k k2=>(↑k:Int)≠0/\nM (Int.tmod z3 (↑k:Int)) λ z4=>sto W3 w (wo+1) (Value.int .i64 z4) λ W4=>ldI .i64 W4 w (wo+2) λ z5=>nw .i64 (z5 - 1) λ z6=>sto W4 w (wo+2) (Value.int .i64 z6) λ W5=>Q (eY #[.int .i64 z,.nilIface]) W5))) :
 Calls prog 140 #[pZ w wo] W Q :=
 Sx.sd func140 (.r (.r (.r (.q (.h 15))))) hVC
theorem ali (w:Nat) (wo:Nat)
 (hVC:ldI .i64 W w (wo+2) λ z=>Q (eZ (.int .i64 z)) W) :
 Calls prog 115 #[pZ w wo] W Q :=
 Sx.sd func115 .leaf hVC
theorem apv (w:Nat) (wo:Nat) (after:Int)
 (hVC:∃ I:OA->Nat->Nat->wD->Prop,∃ I2:OA->Nat->Nat->wD->Nat,I none 0 0 W/\(wv (∀ out k k2 W2,I out k k2 W2->ldI .i64 W2 w (wo+2) λ z=>Sx.split (decide (z > 0)) (ldI .i64 W2 w (wo+2) λ z2=>nw .i64 (z2 - 1) λ z3=>rP prog 135 #[pZ w wo,.int .i64 z3] W2 λ p W3=>Sx.ptr p λ a=>de .i64 W3 (a.add 5) λ z4=>Sx.split (decide (z4 > after)) (ldI .i64 W3 w (wo+2) λ z5=>nw .i64 (z5 - 1) λ z6=>sto W3 w (wo+2) (Value.int .i64 z6) λ W4=>ldI .i64 W4 w (wo+2) λ z7=>rP prog 135 #[pZ w wo,.int .i64 z7] W4 λ p2 W5=>Sx.ptr p2 λ a2=>de .i64 W5 (a2.add 5) λ z8=>alc W5 #[.int .i64 z8] 3 λ k3 W6=>apn W6 3 1 out k k2 1 (some ⟨k3,0,none⟩) 8 λ p3 k5 W7=>I p3 (k+1) k5 W7/\I2 p3 (k+1) k5 W7<I2 out k k2 W2) (Q (eZ (.slice out k k2)) W3)) (Q (eZ (.slice out k k2)) W2)))) :
 Calls prog 89 #[pZ w wo,.int .i64 after] W Q :=
 Sx.sd func89 (.r (.q (.q (.node [(4,.slice)] [0,1] 0 .leaf .leaf)))) hVC
theorem alj (w:Nat) (wo:Nat)
 (hVC:ldI .i64 W w (wo+2) λ z=>Sx.split (z==0) (Q (eY #[oi,.bool false,.bool false]) W) (rP prog 135 #[pZ w wo,oi] W λ p W2=>Sx.ptr p λ a=>de .i64 W2 (a.add 5) λ z2=>Sx.ptr p λ a2=>de .u8 W2 (a2.add 4) λ z3=>dn W2 λ W3 k=>Q (eY #[.int .i64 z2,.bool (z3==2),.bool true]) W3)) :
 Calls prog 176 #[pZ w wo] W Q :=
 Sx.sd func176 .leaf hVC
theorem apw (x:OA) (xn:Nat) (xc:Nat) (count:Int)
 (hVC:Sx.split (decide (count<0)) (False) (nw .u64 (↑xn:Int) λ z=>nw .u64 count λ z2=>Calls prog 47 #[.int .u64 z,.int .u64 z2] W λ e W2=>∃ z3:Int,∃ z4:Int,e=eY #[.int .u64 z3,.int .u64 z4]/\Sx.split (decide (z3 > 0)) (False) (Sx.split (decide (z4 > 9223372036854775807)) (False) (nw .i64 z4 λ z5=>((0:Int)≤z5/\z5≤z5/\z5≤9223372036854775807/\(↑1:Int) * z5≤281474976710656)/\alc W2 (madeCells #[.bool false] (z5.toNat * 1)) 4 λ k W3=>∃ l:LV,List.length l=Nat.min xn (z5.toNat) * 1/\(∀ v:Value,v ∈ l->Value.oneCell' v=true)/\(l=[]∨((∃ a:Addr,x=some a/\∀ k2:Nat,∀ v2:Value,l[k2]?=some v2->World.cell? W3 (Addr.add a k2)=some v2)/\∃ k3:Nat,∃ k4:Nat,some (Addr.mk k 0 none)=some (Addr.mk k3 k4 none)/\∀ k5:Nat,k5<List.length l->(∃ v3:Value,World.cell? W3 ⟨k3,(k4+k5),none⟩=some v3)/\World.frozen? W3 ⟨k3,(k4+k5),none⟩=false))/\nM (Sx.setRow (some ⟨k,0,none⟩) W3 l) λ W4=>∃ I:Int->wD->Prop,∃ I2:Int->wD->Nat,I (↑(Nat.min xn (z5.toNat)):Int) W4/\(wv (∀ n W5,I n W5->Sx.split (decide (n<(↑(z5.toNat):Int))) (dw W5 λ W6=>((0:Int)≤n/\n≤(↑(z5.toNat):Int))/\((0:Int)≤n/\n≤(↑(z5.toNat):Int))/\∃ l2:LV,List.length l2=Nat.min (n.toNat) (z5.toNat - n.toNat) * 1/\(∀ v4:Value,v4 ∈ l2->Value.oneCell' v4=true)/\(l2=[]∨((∃ a2:Addr,some (Addr.mk k 0 none)=some a2/\∀ k6:Nat,∀ v5:Value,l2[k6]?=some v5->World.cell? W6 (Addr.add a2 k6)=some v5)/\∃ k7:Nat,∃ k8:Nat,Sx.sub (some (Addr.mk k 0 none)) (z5.toNat) (n.toNat) 1=some (Addr.mk k7 k8 none)/\∀ k9:Nat,k9<List.length l2->(∃ v6:Value,World.cell? W6 ⟨k7,(k8+k9),none⟩=some v6)/\World.frozen? W6 ⟨k7,(k8+k9),none⟩=false))/\nM (Sx.setRow (Sx.sub (some ⟨k,0,none⟩) (z5.toNat) (n.toNat) 1) W6 l2) λ W7=>nw .i64 (n+(↑(Nat.min (n.toNat) (z5.toNat - n.toNat)):Int)) λ z6=>I z6 W7/\I2 z6 W7<I2 n W5) (Q (eZ (.slice (some ⟨k,0,none⟩) (z5.toNat) (z5.toNat))) W5))))))) :
 Calls prog 32 #[.slice x xn xc,.int .i64 count] W Q :=
 Sx.sd func32 (.r (.r (.r (.r (.r (.r (.q (.q (.node [(8,.int .i64)] [7] 0 (.r (.q (.h 1008))) .leaf))))))))) hVC
theorem alk (w:Nat) (wo:Nat) (l:OA) (ln:Nat) (lc:Nat)
 (hVC:∃ I:Int->wD->Prop,∃ I2:Int->wD->Nat,I 0 W/\(wv (∀ x W2,I x W2->Sx.split (decide (x<(↑ln:Int))) (ixs x ln l λ k k2=>ldI .i64 W2 k (k2+x.toNat * 1) λ z=>Sx.split (decide (z < -1)) (Q (eZ (.bool false)) W2) (ldL W2 w (wo+4) λ p k3 k4=>Sx.split (decide (z ≥ (↑k3:Int))) (Q (eZ (.bool false)) W2) (nw .i64 (x+1) λ z2=>I z2 W2/\I2 z2 W2<I2 x W2))) (Q (eZ (.bool true)) W2)))) :
 Calls prog 129 #[pZ w wo,.slice l ln lc] W Q :=
 Sx.sd func129 (.r (.q (.r (.q (.node [(9,.int .i64)] [8,7,0] 0 .leaf .leaf))))) hVC
theorem alm (w:Nat) (wo:Nat) (k:Int)
 (hVC:ldL W w wo λ p k2 k3=>ldI .i64 W w (wo+1) λ z=>nw .i64 (z+k) λ z2=>ldL W w wo λ p2 k4 k5=>(↑k4:Int)≠0/\nM (Int.tmod z2 (↑k4:Int)) λ z3=>ixs z3 k2 p λ k6 k7=>dn W λ W2 k8=>Q (eZ (.pointer (some ⟨k6,(k7+z3.toNat * 6),none⟩))) W2) :
 Calls prog 135 #[pZ w wo,.int .i64 k] W Q :=
 Sx.sd func135 .leaf hVC
theorem apx (w:Nat) (wo:Nat) (s:Nat) (so:Nat)
 (hVC:ldI .u8 W s (so+4) λ z=>Sx.split (z==0) (ldI .i64 W s (so+1) λ z2=>rB prog 144 #[pZ w wo,.int .i64 z2] W λ t W2=>Sx.split t (ldI .i64 W2 s (so+2) λ z3=>rB prog 144 #[pZ w wo,.int .i64 z3] W2 λ t2 W3=>Q (eZ (.bool t2)) W3) (Q (eZ (.bool false)) W2)) (Q (eZ (.bool false)) W)) :
 Calls prog 99 #[pZ w wo,pZ s so] W Q :=
 Sx.sd func99 .leaf hVC
theorem aln (w:Nat) (wo:Nat) (seq:Int) (y2:Int) (to:Int)
 (hVC:rP prog 169 #[pZ w wo,.int .i64 seq] W λ p W2=>Sx.split (Option.isNone p) (Q (eZ (.iface 60 (Value.int .i64 7))) W2) (Sx.ptr p λ a=>de .u8 W2 (a.add 4) λ z=>Sx.split (z !=y2) (Q (eZ (.iface 60 (Value.int .i64 7))) W2) (Sx.split (to==1) (rB prog 99 #[pZ w wo,.pointer p] W2 λ t W3=>Sx.split (!t) (Q (eZ (.iface 60 (Value.int .i64 7))) W3) (Sx.ptr p λ a2=>rh W3 (a2.add 4) (Value.int .u8 to) λ W4=>Q (eZ Value.nilIface) W4)) (Sx.ptr p λ a3=>rh W2 (a3.add 4) (Value.int .u8 to) λ W5=>Q (eZ Value.nilIface) W5)))) :
 Calls prog 128 #[pZ w wo,.int .i64 seq,.int .u8 y2,.int .u8 to] W Q :=
 Sx.sd func128 .leaf hVC
theorem alo (w:Nat) (wo:Nat) (p:Int)
 (hVC:Sx.split (decide (p<0)) (Q (eZ (.bool true)) W) (ldL W w (wo+4) λ p2 k k2=>ixs p k p2 λ k3 k4=>ldB W k3 (k4+p.toNat * 1) λ t=>Q (eZ (.bool t)) W)) :
 Calls prog 144 #[pZ w wo,.int .i64 p] W Q :=
 Sx.sd func144 .leaf hVC
theorem apy (x:Int) (y:Int)
 (hVC:Calls prog 79 #[.int .u64 x,.int .u64 y] W λ e W2=>∃ z:Int,∃ z2:Int,e=eY #[.int .u64 z,.int .u64 z2]/\Q (eY #[.int .u64 z,.int .u64 z2]) W2) :
 Calls prog 47 #[.int .u64 x,.int .u64 y] W Q :=
 Sx.sd func47 .leaf hVC
theorem apz (x:Int) (y:Int)
 (hVC:nw .u64 (↑(BitVec.toNat (bZ .u64 x &&&bZ .u64 4294967295)):Int) λ z=>(0:Int)≤(32:Int)/\nM (Int.fdiv x (2 ^ min 32 (IntKind.bits .u64))) λ z2=>nw .u64 (↑(BitVec.toNat (bZ .u64 y &&&bZ .u64 4294967295)):Int) λ z3=>(0:Int)≤(32:Int)/\nM (Int.fdiv y (2 ^ min 32 (IntKind.bits .u64))) λ z4=>nw .u64 (z * z3) λ z5=>nw .u64 (z2 * z3) λ z6=>(0:Int)≤(32:Int)/\nM (Int.fdiv z5 (2 ^ min 32 (IntKind.bits .u64))) λ z7=>nw .u64 (z6+z7) λ z8=>nw .u64 (↑(BitVec.toNat (bZ .u64 z8 &&&bZ .u64 4294967295)):Int) λ z9=>(0:Int)≤(32:Int)/\nM (Int.fdiv z8 (2 ^ min 32 (IntKind.bits .u64))) λ z10=>nw .u64 (z * z4) λ z11=>nw .u64 (z9+z11) λ z12=>nw .u64 (z2 * z4) λ z13=>nw .u64 (z13+z10) λ z14=>(0:Int)≤(32:Int)/\nM (Int.fdiv z12 (2 ^ min 32 (IntKind.bits .u64))) λ z15=>nw .u64 (z14+z15) λ z16=>nw .u64 (x * y) λ z17=>Q (eY #[.int .u64 z16,.int .u64 z17]) W) :
 Calls prog 79 #[.int .u64 x,.int .u64 y] W Q :=
 Sx.sd func79 .leaf hVC
end Go.Proofs.YtmncepdbglaphaaGreatDoor
namespace Go.Proofs.YtmncepdbglaphaaGreatDoor.win
open Go.RowKit Go.XHeap Go.Sx Go.Sep Go.Proofs.Tryz
structure Slot where
 cls:Int
 s1:Int
 s2:Int
 dst:Int
 st:Nat
 seq:Int
deriving Inhabited
def Slot.cells (s:Slot):LV:=[.int .i64 s.cls,.int .i64 s.s1,.int .i64 s.s2,.int .i64 s.dst,.int .u8 s.st,.int .i64 s.seq]
theorem ta (l:List Slot):∀ s ∈ l,s.cells.length=6:=λ _ _=>rfl
structure WS where
 g:Nat
 S:Nat
 head:Nat
 n:Nat
 next:Nat
 ring:List Slot
 rg:Nat
 R:Nat
 ready:List Bool
def jd (l:List Bool):AV:=(l.map Value.bool).toArray
theorem yj {l:List Bool}{i:Nat}{x:Bool} (h:l[i]?=some x):(jd l)[i]?=some (.bool x):=by simp [jd,h]
theorem og (l:List Bool):(jd l).size=l.length:=by simp [jd]
theorem Fj (l:List Bool) (i:Nat) (x:Bool):(jd l).setIfInBounds i (.bool x)=jd (l.set i x):=by simp [jd,qtB]
structure WS.Ok (w:WS):Prop where
 s0:2≤w.S
 s1:w.S≤64
 ring:w.ring.length=w.S
 head:w.head<w.S
 n:w.n≤w.S
 next:w.next<4611686018427387904
 r0:34≤w.R
 r1:w.R≤128
 ready:w.ready.length=w.R
 st:∀ s ∈ w.ring,s.st<256
def WS.root (w:WS):AV:=#[.slice (some ⟨w.g,0,none⟩) w.S w.S,.int .i64 w.head,.int .i64 w.n,.int .i64 w.next,.slice (some ⟨w.rg,0,none⟩) w.R w.R]
def WS.pieces (b:Nat) (w:WS):List Asn:=[blk b w.root 120,blk w.g (rows Slot.cells w.ring) 230,blk w.rg (jd w.ready) 4]
def winA (b:Nat) (w:WS):Asn:=all (w.pieces b)
variable {W w':wD}{b:Nat}{w v:WS}
theorem gx (h:(winA b w).at_ W):St W (winA b w).own W (w.pieces b++[]):=(St.begin h).open_
theorem oh {L:List Asn} (H:St W (winA b w).own w' (v.pieces b++L)):Sep.Post (winA b w) W (winA b v) w':=(St.shut H).post 0 rfl
theorem Kf (h:(winA b w).at_ W) (hh:ba W w'):Sep.Post (winA b w) W (winA b w) w':=⟨(winA b w).keep h hh (λ _ _ e=>e),hh.mono (λ _ _ e=>e.elim),λ q hq=>.inl hq⟩
def WS.ix (w:WS) (k:Nat):Nat:=(w.head+k) % w.S
theorem WS.Ok.ix_lt (h:w.Ok) (k:Nat):w.ix k<w.ring.length:=by rw[h.ring];exact qIB _ (by have:=h.s0;omega)
def WS.slot (w:WS) (k:Nat):Slot:=w.ring.getD (w.ix k) default
theorem Sb (h:w.Ok) (k:Nat):w.ring[w.ix k]?=some (w.slot k):=by unfold WS.slot;rw[qF,qC (h.ix_lt k)];rfl
theorem dt (h:w.Ok) (hb:Blk W w.g (rows Slot.cells w.ring) 230) (k:Nat){q:Nat} (hq:q<6){x:Value} (hx:(w.slot k).cells[q]?=some x):W.cell? ⟨w.g,w.ix k * 6+q,none⟩=some x :=
 hb.cell' (Be (ta _) (Sb h k) hq hx)
theorem Fk (ho:w.Ok) (h:(winA b w).at_ W) (k:Nat) (hk:k≤64) :
  Calls prog 135 #[pZ b 0,.int .i64 k] W λ e w2=>e=eZ (.pointer (some ⟨w.g,w.ix k * 6,none⟩))/\∃ n,w2=W.drewN n:=by
 have H:=gx h;have hs0:=ho.s0;have hs1:=ho.s1;have hh:=ho.head;refine alm b 0 k ⟨_,_,_,H.ld 0 rfl rfl,w.head,H.ld 0 rfl rfl,?_⟩;rintro z2 rfl;rw[w64 (by omega) (by omega)];refine⟨_,_,_,H.ld 0 rfl rfl,by omega,?_⟩;rintro z3 rfl
 have e:Int.tmod ((w.head:Int)+(k:Int)) (w.S:Int)=((w.ix k:Nat):Int):=by
  rw[show((w.head:Int)+(k:Int))=((w.head+k:Nat):Int) by omega];rfl
 have hi:=ho.ix_lt k;rw[ho.ring] at hi;rw[e];refine⟨⟨by omega,by omega⟩,adr_some ?_⟩;rintro w2 n rfl;rw[qG,qW];exact⟨rfl,n,rfl⟩
theorem hush_drewN (n:Nat):ba W (W.drewN n):=(qH _ _).drewN n
def WS.has (w:WS) (p:Int):Bool:=decide (p<0)||w.ready.getD p.toNat false
theorem Sc (ho:w.Ok) (h:(winA b w).at_ W) (p:Int) (hp:p<w.R) :
  Calls prog 144 #[pZ b 0,.int .i64 p] W λ e w2=>e=eZ (.bool (w.has p))/\w2=W:=by
 have H:=gx h;refine alo b 0 p (aa (λ q=>⟨?_,rfl⟩) (λ q=>?_))
 ·unfold WS.has;rw[q];rfl
 ·have q':=qE q
  have hl:p.toNat<w.ready.length:=by rw[ho.ready];omega
  obtain⟨t,ht⟩:∃ t,w.ready[p.toNat]?=some t:=⟨_,qC hl⟩;refine⟨_,_,_,H.ld 0 rfl rfl,⟨by omega,by omega⟩,adr_some ⟨t,?_,?_,rfl⟩⟩
  ·rw[show 0+p.toNat * 1=p.toNat by omega];exact H.ld 2 rfl (yj ht)
  ·unfold WS.has;rw[q,qF,ht];rfl
def Slot.regs (s:Slot) (R:Nat):Prop:=s.s1<R/\s.s2<R
def WS.able (w:WS) (s:Slot):Bool:=decide (s.st=0)&&w.has s.s1&&w.has s.s2
theorem Kg (ho:w.Ok) (h:(winA b w).at_ W) (k:Nat) (hr:(w.slot k).regs w.R) :
  Calls prog 99 #[pZ b 0,.pointer (some ⟨w.g,w.ix k * 6,none⟩)] W λ e w2=>e=eZ (.bool (w.able (w.slot k)))/\w2=W:=by
 have H:=gx h;have hg:Blk W w.g (rows Slot.cells w.ring) 230:=H.nth 1 rfl;refine apx b 0 w.g (w.ix k * 6) ⟨(w.slot k).st,dt ho hg k (q:=4) (by omega) rfl,aa (λ q=>?_) (λ q=>⟨?_,rfl⟩)⟩
 ·have q0:(w.slot k).st=0:=by
   have:((w.slot k).st:Int)=0:=by simpa using q
   omega
  refine⟨(w.slot k).s1,dt ho hg k (q:=1) (by omega) rfl,H.callp (Sc ho h _ hr.1) ⟨_,rfl,aa (λ q1=>?_) (λ q1=>⟨?_,rfl⟩)⟩⟩
  ·refine⟨(w.slot k).s2,dt ho hg k (q:=2) (by omega) rfl,H.callp (Sc ho h _ hr.2) ⟨_,rfl,?_,rfl⟩⟩;unfold WS.able;rw[q0,q1];rfl
  ·unfold WS.able;rw[q0,q1];rfl
 ·have q0:¬ (w.slot k).st=0:=λ e=>by rw[e] at q;simp at q
  unfold WS.able;rw[qM q0];rfl
theorem wlen_any (h:(winA b w).at_ W):Calls prog 115 #[pZ b 0] W λ e w2=>e=eZ (.int .i64 w.n)/\w2=W :=
 ali b 0 ⟨w.n,(gx h).ld 0 rfl rfl,rfl,rfl⟩
def WS.headR (w:WS):Value:=if w.n=0 then .tuple #[.int .i64 0,.bool false,.bool false] else .tuple #[.int .i64 (w.slot 0).seq,.bool (decide ((w.slot 0).st=2)),.bool true]
theorem Sd (ho:w.Ok) (h:(winA b w).at_ W):Calls prog 176 #[pZ b 0] W λ e w2=>e=eZ w.headR/\ba W w2:=by
 have H:=gx h;refine alj b 0 ⟨w.n,H.ld 0 rfl rfl,aa (λ q=>⟨?_,qH _ _⟩) (λ q=>?_)⟩
 ·have q0:w.n=0:=by
   have:(w.n:Int)=0:=by simpa using q
   omega
  unfold WS.headR;rw[if_pos q0]
 ·have q0:¬ w.n=0:=λ e=>by rw[e] at q;simp at q
  refine(Fk ho h 0 (by omega)).mono ?_;rintro e w2 ⟨rfl,n,rfl⟩;have H:=H.drewN n;have hg:Blk (W.drewN n) w.g (rows Slot.cells w.ring) 230:=H.nth 1 rfl;refine⟨_,rfl,ptr_some ⟨(w.slot 0).seq,?_,ptr_some ⟨(w.slot 0).st,?_,?_⟩⟩⟩
  ·rw[ac];exact dt ho hg 0 (q:=5) (by omega) rfl
  ·rw[ac];exact dt ho hg 0 (q:=4) (by omega) rfl
  ·rintro w3 m rfl;refine⟨?_,(hush_drewN n).trans (hush_drewN m) (λ _ _ e=>e)⟩;unfold WS.headR;rw[if_neg q0]
   have:(((w.slot 0).st:Int)==2)=decide ((w.slot 0).st=2):=by rw[Bool.eq_iff_iff];simp;omega
   rw[this]
end Go.Proofs.YtmncepdbglaphaaGreatDoor.win
namespace Go.RangeM
open Go.RowKit Go.XHeap Go.Shelf
variable {P:Program}{n:Nat}
def Gives (n:Nat) (P:Program) (gf:Nat) (first:AV) (N:Nat) (enc:Nat->Value) (Inv:wD->Prop):Prop :=
 ∀ (l:Nat) (J:Nat->wD->Prop) (Jx:wD->Prop) (W:wD),
  (∀ k A B,J k A->XTouch (λ _=>False) A B->J k B)->(∀ A B,Jx A->XTouch (λ _=>False) A B->Jx B)->(∀ k A,J k A->Inv A) ->
  (∀ k A,k<N->J k A->YieldAt Fence.wide n P l #[enc k] A λ e B=>(e= .returned (.bool true)/\J (k+1) B)∨(e= .returned (.bool false)/\Jx B)) ->
  J 0 W->Calls P gf (first++#[.func (.yield l) #[] #[]]) W λ e B=>(∃ v,e= .returned v)/\(J N B∨Jx B)
def Two (w W W':wD):Prop:=∀ q,q=w.heap.size∨q=w.heap.size+1->W'.heap[q]?=W.heap[q]?
def Rec (w:wD):Nat->Prop:=λ q=>q=w.heap.size∨q=w.heap.size+1
def roundEnd (w:wD) (I:Nat->wD->Prop) (Ix:Code->wD->Prop) (k:Nat) (W:wD):Exit->Act->wD->Prop
 | .normal,_,W'=>Two w W W'/\I (k+1) W'
 | .ret,_,W'=>Two w W W'/\Ix .ret W'
 | .exit id,_,W'=>Two w W W'/\Ix (.exit id) W'
 | .goto t,_,W'=>Two w W W'/\Ix (.goto t) W'
 | .panic _,_,_=>False
 | .outgrown,_,_=>False
theorem touch_putObj (W:wD) (l:Nat) (o:Obj):XTouch (λ q=>q=l) W (W.putObj l o) :=
 ⟨rfl,rfl,rfl,by simp [World.putObj],λ q _ hn=>World.putObj_heap_other (λ e=>hn (by rw[e]))⟩
theorem range_m {g:Operand}{p:Tmp}{assign body:Code}{Q:Exit->Act->wD->Prop}{a:Act}{w:wD}{gf:Nat}{first:AV}{N:Nat}{enc:Nat->Value}{Inv:wD->Prop}
  (hg:a.eval g= .func (.func gf) first #[]) (eg:∀ args w,(callFunc gf args).run P w= .ok (.enter gf args) w) (hgive:Gives n P gf first N enc Inv)
  (I:Nat->wD->Prop) (Ix:Code->wD->Prop) (hI:∀ k A B,I k A->XTouch (Rec w) A B->I k B) (hIx:∀ c A B,Ix c A->XTouch (Rec w) A B->Ix c B) (hInv:∀ k A,I k A->Inv A) (h0:I 0 w) (a₁:Value->Act)
  (hassign:∀ (l:Nat) (x:Value) (W:wD) (K:Act->wD->Prop),K (a₁ x) W->assign.wpIn (Fence.wide.inRound l) n P (Exit.then K (λ _ _ _=>False)) { tmps:=a.tmps.setIfInBounds p x,defers:=[] } W)
  (hbody:∀ (l k:Nat) (W:wD),k<N->I k W->w.heap.size+2≤W.heap.size->body.wpIn (Fence.wide.inRound l) n P (roundEnd w I Ix k W) (a₁ (enc k)) W)
  (hdone:∀ W:wD,I N W->W.heap[w.heap.size]?=some (.deferred (some []))->Q .normal { a with defers:={ target:=.collected w.heap.size,args:=#[] }::a.defers } W)
  (hstop:∀ (c:Code) (W:wD),Ix c W->W.heap[w.heap.size]?=some (.deferred (some []))->c.wpIn Fence.wide n P Q { a with defers:={ target:=.collected w.heap.size,args:=#[] }::a.defers } W) :
  (Code.rangeFunc g #[p] assign body).wpIn Fence.wide n P Q a w:=by
 refine wpIn_rangeFunc λ fn hfn=>?_;obtain⟨rc,hrc⟩:∃ rc:LoopState->Option Code->Loop,rc=λ st pe=>{ state:=st,pending:=pe,fn,tmps:=a.tmps,params:=#[p],assign,body,defers:=w.heap.size }:=⟨_,rfl⟩;obtain⟨W1,hW1⟩:∃ W1,(w.alloc (.deferred (some []))).alloc (.loop (rc .ready none))=W1:=⟨_,rfl⟩
 have hsz:(w.alloc (.deferred (some []))).heap.size=w.heap.size+1:=by simp
 have hl1:W1.heap[w.heap.size+1]?=some (.loop (rc .ready none)):=by
  rw[<- hW1,<- hsz];exact World.alloc_heap_new _ _
 have hd1:W1.heap[w.heap.size]?=some (.deferred (some [])):=by
  rw[<- hW1];exact(Below.heap_alloc _ _ _ (by simp)).trans (World.alloc_heap_new w _)
 have ht1:XTouch (Rec w) w W1:=by
  rw[<- hW1];exact((XTouch.refl (Rec w) w).alloc _).alloc _
 refine⟨w.heap.size+1,[{ target:=.collected w.heap.size,args:=#[] }],W1,{ target:=.fn (.func gf) #[],args:=first++#[.func (.yield (w.heap.size+1)) #[] #[]] },W1,gf,first++#[.func (.yield (w.heap.size+1)) #[] #[]],W1,?_,?_,?_,?_,?_,?_⟩
 ·rw[<- hW1,hrc];exact run_enterLoop_outer _ _ _ _ _
 ·simp only[resolve,hg];simp [go_sem]
 ·intro f' hf';trivial
 ·simp [invoke,go_sem,eg]
 ·intro h;cases h
 have rcb:∀ st pe,({ rc .ready none with state:=st,pending:=pe }:Loop)=rc st pe:=by intro st pe;rw[hrc]
 refine callsIn_wide.2 ((hgive (w.heap.size+1)
   (λ k W=>I k W/\W.heap[w.heap.size+1]?=some (.loop (rc .ready none))/\W.heap[w.heap.size]?=some (.deferred (some [])))
   (λ W=>∃ c,Ix c W/\W.heap[w.heap.size+1]?=some (.loop (rc .done (some c)))/\W.heap[w.heap.size]?=some (.deferred (some [])))
   W1 ?_ ?_ (λ k A h=>hInv k A h.1) ?_ ⟨hI 0 w W1 h0 ht1,hl1,hd1⟩).mono ?_)
 ·rintro k A B ⟨hi,hl,hd⟩ ht;have hlt:∀ {q o},A.heap[q]?=some o->q<A.heap.size:=λ h=>(Array.getElem?_eq_some_iff.1 h).1;exact⟨hI k A B hi (ht.mono λ _ _ e=>e.elim),(ht.block _ (hlt hl) id).trans hl,(ht.block _ (hlt hd) id).trans hd⟩
 ·rintro A B ⟨c,hi,hl,hd⟩ ht;have hlt:∀ {q o},A.heap[q]?=some o->q<A.heap.size:=λ h=>(Array.getElem?_eq_some_iff.1 h).1;exact⟨c,hIx c A B hi (ht.mono λ _ _ e=>e.elim),(ht.block _ (hlt hl) id).trans hl,(ht.block _ (hlt hd) id).trans hd⟩
 ·
  rintro k W hk ⟨hi,hl,hd⟩;have hlt:w.heap.size+1<W.heap.size:=(Array.getElem?_eq_some_iff.1 hl).1
  have hy:(Instr.yield (w.heap.size+1) #[enc k]).run P W= .ok (.round (w.heap.size+1) fn (a.tmps.setIfInBounds p (enc k)) assign body) W:=by
   have hy:=run_yield (P:=P) (args:=#[enc k]) hl (by rw[hrc];rfl);rw[hrc] at hy;simpa using hy
  have hl2:(W.putObj (w.heap.size+1) (.loop (rc .busy none))).heap[w.heap.size+1]?=some (.loop (rc .busy none)):=World.putObj_heap_same hlt;have hd2:(W.putObj (w.heap.size+1) (.loop (rc .busy none))).heap[w.heap.size]?=some (.deferred (some [])):=(World.putObj_heap_other (by omega)).trans hd
  have hbr:(Instr.beginRound (w.heap.size+1)).run P W= .ok () (W.putObj (w.heap.size+1) (.loop (rc .busy none))):=by
   have:=run_beginRound (P:=P) hl (by rw[hrc]);rw[hrc] at this ⊢;exact this
  have hi2:I k (W.putObj (w.heap.size+1) (.loop (rc .busy none))):=hI k _ _ hi ((touch_putObj W _ _).mono λ q _ e=>.inr e);refine⟨fn,_,assign,body,hy,roundIn_of_wpIn hfn ?_⟩;refine hassign (w.heap.size+1) (enc k) W _ ?_;refine⟨_,hbr,?_⟩;refine wpIn_mono (hbody _ k _ hk hi2 (by simp [World.putObj];omega)) ?_
  have fin:∀ (jump:Option Code) (W3:wD),Two w (W.putObj (w.heap.size+1) (.loop (rc .busy none))) W3 ->
    (Instr.endRound (w.heap.size+1) jump).run P W3= .ok (.bool jump.isNone) (W3.putObj (w.heap.size+1) (.loop (rc (if jump.isNone then .ready else .done) jump))) /\
    XTouch (Rec w) W3 (W3.putObj (w.heap.size+1) (.loop (rc (if jump.isNone then .ready else .done) jump))) /\
    (W3.putObj (w.heap.size+1) (.loop (rc (if jump.isNone then .ready else .done) jump))).heap[w.heap.size+1]?=some (.loop (rc (if jump.isNone then .ready else .done) jump)) /\
    (W3.putObj (w.heap.size+1) (.loop (rc (if jump.isNone then .ready else .done) jump))).heap[w.heap.size]?=some (.deferred (some [])):=λ jump W3 h3=>by
   have hl3:=(h3 _ (.inr rfl)).trans hl2;have hd3:=(h3 _ (.inl rfl)).trans hd2;have hr:=run_endRound (P:=P) jump hl3;rw[hrc] at hr ⊢;exact⟨hr,(touch_putObj W3 _ _).mono λ q _ e=>.inr e,World.putObj_heap_same (Array.getElem?_eq_some_iff.1 hl3).1,(World.putObj_heap_other (by omega)).trans hd3⟩
  rintro e a3 W3 hp
  cases e with
  | normal =>
   obtain⟨h1,h2,h3,h4⟩:=fin none W3 hp.1;exact⟨_,_,h1,.inl ⟨rfl,hI _ _ _ hp.2 h2,h3,h4⟩⟩
  | ret =>
   obtain⟨h1,h2,h3,h4⟩:=fin (some .ret) W3 hp.1;exact⟨_,_,h1,.inr ⟨rfl,.ret,hIx _ _ _ hp.2 h2,h3,h4⟩⟩
  | exit id =>
   obtain⟨h1,h2,h3,h4⟩:=fin (some (.exit id)) W3 hp.1;exact⟨_,_,h1,.inr ⟨rfl,.exit id,hIx _ _ _ hp.2 h2,h3,h4⟩⟩
  | goto t =>
   obtain⟨h1,h2,h3,h4⟩:=fin (some (.goto t)) W3 hp.1;exact⟨_,_,h1,.inr ⟨rfl,.goto t,hIx _ _ _ hp.2 h2,h3,h4⟩⟩
  | panic ch=>exact hp.elim
  | outgrown=>exact hp.elim
 ·
  rintro e W2 ⟨⟨v,rfl⟩,(⟨hi,hl,hd⟩ | ⟨c,hi,hl,hd⟩)⟩
  ·have hr:=run_endLoop (P:=P) hl (by rw[hrc];simp);refine⟨none,W2.putObj (w.heap.size+1) (.loop (rc .exhausted none)),by rw[hrc] at hr ⊢;exact hr,hdone _ (hI _ _ _ hi ((touch_putObj W2 _ _).mono λ q _ e=>.inr e)) ((World.putObj_heap_other (by omega)).trans hd)⟩
  ·have hr:=run_endLoop (P:=P) hl (by rw[hrc];simp);refine⟨some c,W2.putObj (w.heap.size+1) (.loop (rc .exhausted (some c))),by rw[hrc] at hr ⊢;exact hr,hstop c _ (hIx _ _ _ hi ((touch_putObj W2 _ _).mono λ q _ e=>.inr e)) ((World.putObj_heap_other (by omega)).trans hd)⟩
end Go.RangeM
namespace Go.Proofs.YtmncepdbglaphaaGreatDoor.win
open Go.RowKit Go.XHeap Go.Sx Go.Sep Go.RangeM Go.Shelf
attribute [local go_sem] Oper.semAt_some
variable {W w':wD}{b:Nat}{w v:WS}
set_option maxHeartbeats 1000000 in
theorem Ap (ho:w.Ok) (n:Nat):Gives n Tryz.prog 98 #[pZ b 0] w.n (λ k=>.pointer (some ⟨w.g,w.ix k * 6,none⟩)) (λ A=>(winA b w).at_ A):=by
 intro l J Jx W hJ hJx hInv hY h0;have hs1:=ho.s1;have hn:=ho.n;have c2:W.cell? ⟨b,2,none⟩=some (.int .i64 w.n):=(gx (hInv 0 W h0)).ld 0 rfl rfl;refine(callsIn_wide (n:=n+1)).1 ?_;refine callsIn_of_wp Tryz.func98 rfl trivial ?_ rfl;simp only[Tryz.ntmps98,qnB,qy,List.length_nil,Nat.reduceAdd,Nat.reduceSub,Array.replicate_succ,Array.replicate_zero,List.push_toArray,List.append_toArray,qr,qAC]
 gi_wp2
 gi_loopw [9] (λ p wr=>∃ k:Nat,p= .int .i64 k/\k≤w.n/\J k wr) (λ p wr=>match p with | .int _ x=>w.n - x.toNat | _=>0)
 case atStart=>exact⟨0,rfl,qQ _,h0⟩
 case round =>
  obtain⟨k,rfl,hk,hj⟩:=hrel;by_cases hlt:k<w.n
  ·have hd:decide ((k:Int)<(w.n:Int))=true:=qI (by omega)
   gi_wp2_with (refine⟨trivial,?_⟩;gi_at_call 135;refine(callsIn_wide.2 (Fk ho (hInv k _ hj) k (by omega))).mono ?_;rintro e w2 ⟨rfl,m,rfl⟩;obtain⟨fn,tmps,assign,body,hy,hR⟩:=hY k (World.drewN _ m) hlt (hJ k _ _ hj (hush_drewN m)))
   refine hR.mono ?_;rintro e W3 (⟨rfl,hJ3⟩ | ⟨rfl,hJx3⟩)
   ·have hw1:IntKind.wrap .i64 ((k:Int)+1)=((k+1:Nat):Int):=by rw[w64 (by omega) (by omega)];omega
    gi_wp2
    go_roundw
    case rel=>exact⟨k+1,rfl,hlt,hJ3⟩
    case measure =>
     show w.n - ((k+1:Nat):Int).toNat<w.n - ((k:Nat):Int).toNat;omega
   ·gi_wp2
    refine bodyPost_ret (results_none rfl _ _ _) rfl ?_;exact⟨⟨_,rfl⟩,.inr hJx3⟩
  ·have hd:decide ((k:Int)<(w.n:Int))=false:=qM (by omega)
   gi_wp2
   go_end0
   obtain rfl:k=w.n:=by omega
   exact⟨⟨_,rfl⟩,.inl hj⟩
theorem St.rec_ {M T:Nat->Prop}{A B:wD}{L:List Asn} (H:St W M A L) (ht:XTouch T A B) (hn:∀ q,owns L q->¬ T q) (hT:∀ q,T q->W.heap.size≤q):St W M B L :=
 ⟨H.touch.trans ht (λ q hq e=>by have:=hT q e;omega),λ q hq=>(H.mine q hq),H.here.keep ht hn⟩
def No:Nat->Prop:=λ _=>False
def WS.find (w:WS) (seq:Int):Option Nat:=(List.range w.n).find? λ k=>(w.slot k).seq==seq
def WS.ptr (w:WS):Option Nat->OA
 | some k=>some ⟨w.g,w.ix k * 6,none⟩
 | none=>none
theorem adq {w A:wD}{g o:Nat} (h:g<w.heap.size) (x:Value):Two w A (A.drew.setCell ⟨g,o,none⟩ x):=by
 rintro q (rfl | rfl)
 ·exact Below.heap_setCell A.drew ⟨g,o,none⟩ x _ (by show w.heap.size≠g;omega)
 ·exact Below.heap_setCell A.drew ⟨g,o,none⟩ x _ (by show w.heap.size+1≠g;omega)
theorem ads {seq:Int}{k:Nat} (hk:k<w.n) (he:(w.slot k).seq=seq) (hnot:∀ j,j<k->(w.slot j).seq≠seq):w.find seq=some k:=by
 unfold WS.find;rw[qyB];refine⟨by simpa using he,k,by simpa using hk,by simp,λ j hj=>?_⟩;have:=hnot j hj;simpa using this
theorem Se {seq:Int} (hnot:∀ j,j<w.n->(w.slot j).seq≠seq):w.find seq=none:=by
 unfold WS.find;rw[List.find?_eq_none];intro k hk;have:=hnot k (qNB.1 hk);simpa using this
set_option maxHeartbeats 2000000 in
theorem find_any (ho:w.Ok) (h:(winA b w).at_ W) (seq:Int) :
  Calls Tryz.prog 169 #[pZ b 0,.int .i64 seq] W λ e w2=>e=eZ (.pointer (w.ptr (w.find seq)))/\ba W w2:=by
 refine(callsIn_wide (n:=3)).1 ?_;refine callsIn_of_wp_marks Tryz.func169 rfl trivial ?_ rfl;simp only[Tryz.ntmps169,qnB,qy,List.length_nil,Nat.reduceAdd,Nat.reduceSub,Array.replicate_succ,Array.replicate_zero,List.push_toArray,List.append_toArray,qr,qAC]
 have H:St W No ((W.alloc (.cells #[.int .i64 seq] 3)).alloc (.cells #[.pointer none] 225)) [blk W.heap.size #[.int .i64 seq] 3,blk (W.heap.size+1) #[.pointer none] 225]:=by
  have:=((St.nil W).alloc #[.int .i64 seq] 3).alloc #[.pointer none] 225;rw[World.size_alloc] at this;exact this
 obtain⟨W0,hW0⟩:∃ W0,(W.alloc (.cells #[.int .i64 seq] 3)).alloc (.cells #[.pointer none] 225)=W0:=⟨_,rfl⟩
 have hsz:W0.heap.size=W.heap.size+2:=by rw[<- hW0];simp
 gi_wp2
 rw[hW0] at H
 try rw[hW0]
 have keep:∀ {A:wD} {L:List Asn},St W No A L->(winA b w).at_ A:=λ H=>(winA b w).keep h H.touch (λ _ _ e=>e)
 have low:∀ {A:wD} {cs:AV},∀ q,owns [blk W.heap.size #[.int .i64 seq] 3,blk (W.heap.size+1) cs 225] q->¬ Rec W0 q:=by
  rintro A cs q (e | e | e) hr
  ·have e:q=W.heap.size:=e;rcases hr with hr | hr <;> omega
  ·have e:q=W.heap.size+1:=e;rcases hr with hr | hr <;> omega
  ·exact e
 have high:∀ q,Rec W0 q->W.heap.size≤q:=by
  rintro q (hr | hr) <;> omega
 refine range_m (N:=w.n) (enc:=λ k=>.pointer (some ⟨w.g,w.ix k * 6,none⟩)) rfl (enters_of Tryz.func98 (by kernel_rfl) rfl) (Ap ho 3)
  (λ k A=>(∀ j,j<k->(w.slot j).seq≠seq)/\St W No A [blk W.heap.size #[.int .i64 seq] 3,blk (W.heap.size+1) #[.pointer none] 225])
  (λ c A=>c= .ret/\∃ k,w.find seq=some k/\St W No A [blk W.heap.size #[.int .i64 seq] 3,blk (W.heap.size+1) #[.pointer (some ⟨w.g,w.ix k * 6,none⟩)] 225])
  (λ k A B hi ht=>⟨hi.1,St.rec_ hi.2 ht (low (A:=A)) high⟩) (λ c A B hi ht=>by
   obtain⟨hc,k,hk,hi⟩:=hi
   exact⟨hc,k,hk,St.rec_ hi ht (low (A:=A)) high⟩)
  (λ k A hi=>keep hi.2) ⟨λ j hj=>by omega,H⟩
  (λ x=>{ tmps:=#[pZ b 0,.int .i64 seq,undef,pZ W.heap.size 0,.pointer (some ⟨W.heap.size+1,0,none⟩),x,pZ b 0,.func (.func 98) #[pZ b 0] #[],x,undef,undef,undef,undef,undef,undef,undef],defers:=[] }) ?assign ?body ?done ?stop
 case assign =>
  intro l x A K hK
  gi_wp2
  exact hK
 case body =>
  rintro l k A hk ⟨hnot,H⟩ hsz2;have hs1:=ho.s1;have hn:=ho.n;have hg:Blk A w.g (rows Slot.cells w.ring) 230:=(gx (keep H)).nth 1 rfl;have c5:=dt ho hg k (q:=5) (by omega) (x:=.int .i64 (w.slot k).seq) rfl;have cs:=H.ld 0 (i:=0) rfl rfl;have cr:=H.ld 1 (i:=0) rfl rfl;have fr:=(H.blk 1 rfl).frozen 0
  have mo:Tryz.prog.follows .mixedOrders=true:=by kernel_rfl
  cases hq:((w.slot k).seq==seq)
  ·gi_wp2
   gi_region_o
   all_goals gi_wp2
   all_goals exact⟨λ _ _=>rfl,λ j hj=>by
    by_cases e:j=k
    ·subst e;simpa using hq
    ·exact hnot j (by omega),H.drew⟩
  ·gi_wp2
   gi_region_o
   all_goals gi_wp2
   all_goals exact⟨adq (by omega) _,rfl,k,ads hk (by simpa using hq) hnot,H.drew.wr 1 rfl 0 _⟩
 case done =>
  rintro A ⟨hnot,H⟩ hD;have cr:=H.ld 1 (i:=0) rfl rfl;have fr:=(H.blk 1 rfl).frozen 0
  gi_wp2
  have hD':(A.setCell ⟨W.heap.size+1,0,none⟩ (.pointer none)).heap[W0.heap.size]?=some (.deferred (some [])):=(Below.heap_setCell A ⟨W.heap.size+1,0,none⟩ (.pointer none) _ (by show W0.heap.size≠W.heap.size+1;omega)).trans hD;refine⟨by simp,.inl ⟨_,_,rfl,run_takeDeferred hD',?_⟩⟩;have H2:=St.rec_ (H.wr 1 rfl 0 (.pointer none)) ((touch_putObj _ W0.heap.size (.deferred none)).mono λ q _ e=>(show Rec W0 q from .inl e)) (low (A:=A)) high;have c2:=H2.ld 1 (i:=0) rfl rfl;rw[Se hnot];refine⟨.pointer none,?_,rfl,H2.touch⟩;simp [results,Tryz.f169,go_sem,c2]
 case stop =>
  rintro c A ⟨rfl,k,hk,H⟩ hD;have cr:=H.ld 1 (i:=0) rfl rfl
  gi_wp2
  refine⟨by simp,.inl ⟨_,_,rfl,run_takeDeferred hD,?_⟩⟩;have H2:=St.rec_ H ((touch_putObj _ W0.heap.size (.deferred none)).mono λ q _ e=>(show Rec W0 q from .inl e)) (low (A:=A)) high;have c2:=H2.ld 1 (i:=0) rfl rfl;rw[hk];refine⟨.pointer (some ⟨w.g,w.ix k * 6,none⟩),?_,rfl,H2.touch⟩;simp [results,Tryz.f169,go_sem,c2]
end Go.Proofs.YtmncepdbglaphaaGreatDoor.win
namespace Go.Proofs.YtmncepdbglaphaaGreatDoor
open Go Go.Proofs
theorem alp {W:wD}{Q:Sx.Ex->wD->Prop} (t3:Nat) (t3o:Nat) (t4:Nat) (t4o:Nat) (t5:Nat) (t5o:Nat) (t6:Nat) (t6o:Nat) (t7:Nat) (t7o:Nat)
 (h:∀ J:Nat->Value,
 (∃ p:OA,(∃ k:Nat,(∃ k2:Nat,(World.cell? W (.mk t6 t6o none)=some (.slice p k k2) /\
 (∃ z:Int,(World.cell? W (.mk t5 t5o none)=some (.int .i64 z) /\
 Sx.split (decide ((↑k:Int) ≥ z))
 (Q (Sx.Ex.exit 0) W)
 ((∃ z2:Int,(World.cell? W (.mk t7 t7o none)=some (.int .i64 z2) /\
 (∃ z3:Int,(World.cell? W (.mk t4 t4o none)=some (.int .i64 z3) /\
 Sx.split (z2==z3)
 ((∃ p2:OA,(World.cell? W (.mk t3 t3o none)=some (.pointer p2) /\
 (∃ t:Bool,((∀ k3:Nat,Calls Tryz.prog 99 #[.pointer p2,.pointer (some (Addr.mk t7 t7o none))] (World.drewN W k3) (λ e =>
 (λ W2 =>
 (e=eZ (Value.bool t) /\
 (∃ k4:Nat,W2=World.drewN W k4))))) /\
 (∀ W3:wD,(∀ k5:Nat,(W3=World.drewN W k5 ->
 Sx.split t
 ((∀ W4:wD,(W4=World.drew W3 ->
 (∃ p3:OA,(∃ k6:Nat,(∃ k7:Nat,(World.cell? W4 (.mk t6 t6o none)=some (.slice p3 k6 k7) /\
 (∃ z4:Int,(World.cell? W4 (.mk t7 (t7o+5) none)=some (.int .i64 z4) /\
 (∀ k8:Nat,(∀ W5:wD,(k8=Array.size (World.heap W4) ->
 (W5=World.alloc W4 (Obj.cells #[.int .i64 z4] 3) ->
 (RowKit.Below (Array.size (World.heap W4)) W4 W5 /\
 (∃ l:LV,(∃ l2:LV,(XHeap.Sl W5 3 1 (Value.slice p3 k6 k7) k6 l /\
 (((((1:Nat)=(0:Nat) /\
 some (Addr.mk k8 0 none)=none)) ∨
 ((∃ a:Addr,(some (Addr.mk k8 0 none)=some a /\
 (∀ k9:Nat,(∀ v:Value,(l2[k9]?=some v ->
 World.cell? W5 (Addr.add a k9)=some v))))))) /\
 (List.length l2=1 /\
 ((∀ v2:Value,(v2 ∈ l2 ->
 Value.oneCell' v2=true)) /\
 (k6+1≤maxLen /\
 ((k6+1) * 8≤140737488355328 /\
 (∀ p4:OA,(∀ k10:Nat,(∀ W6:wD,(XHeap.Sl W6 3 1 (Value.slice p4 (k6+1) k10) (k6+1) (l++l2) ->
 (XHeap.XTouch (λ b=>Value.ownBlock (Value.slice p3 k6 k7)=some b) W5 W6 ->
 ((∀ k11:Nat,(Value.ownBlock (Value.slice p4 (k6+1) k10)=some k11 ->
 ((Value.ownBlock (Value.slice p3 k6 k7)=some k11) ∨
 (Array.size (World.heap W5)≤k11)))) ->
 (XHeap.Sl W6 3 1 (Value.slice p3 k6 k7) k6 l ->
 ((((p4=p3 /\
 k10=k7)) ∨
 ((((XHeap.NilP p3) ∨
 (k7<k6+1)) /\
 (∀ k12:Nat,(Value.ownBlock (Value.slice p4 (k6+1) k10)=some k12 ->
 Array.size (World.heap W5)≤k12))))) ->
 ((∃ v3:Value,World.cell? W6 (.mk t6 t6o none)=some v3) /\
 (World.frozen? W6 (.mk t6 t6o none)=false /\
 (∀ W7:wD,(W7=World.setCell W6 (.mk t6 t6o none) (Value.slice p4 (k6+1) k10) ->
 Q Sx.Ex.normal W7))))))))))))))))))))))))))))))))))
 (Q Sx.Ex.normal W3)))))))))
 ((∀ W8:wD,(∀ k13:Nat,(W8=World.drewN W k13 ->
 Q Sx.Ex.normal W8)))))))))))))))) {l m:Nat} {a:Act} (hs:a.tmps.size=35) (hd:a.defers=[]) (h0:a.tmps.getD ((3,pZ t3 t3o)).1 undef=((3,pZ t3 t3o)).2) (h1:a.tmps.getD ((4,pZ t4 t4o)).1 undef=((4,pZ t4 t4o)).2) (h2:a.tmps.getD ((5,pZ t5 t5o)).1 undef=((5,pZ t5 t5o)).2) (h3:a.tmps.getD ((6,pZ t6 t6o)).1 undef=((6,pZ t6 t6o)).2) (h4:a.tmps.getD ((7,pZ t7 t7o)).1 undef=((7,pZ t7 t7o)).2) :
 (Sx.bodyIn Tryz.f63).wpIn (Fence.wide.inRound l) m Tryz.prog (Sx.Post 35 (Sx.bodyIn Tryz.f63) (λ e _ w=>Q e w) a) a W :=
 Sx.vc_round (Sx.bodyIn Tryz.f63) (.node [] [] 0 (.node [] [] 0 .leaf (.node [] [] 0 .leaf (.node [] [] 0 (.node [] [] 1007 .leaf .leaf) .leaf))) .leaf) ⟨[(3,pZ t3 t3o),(4,pZ t4 t4o),(5,pZ t5 t5o),(6,pZ t6 t6o),(7,pZ t7 t7o)],λ t=>a.tmps.getD t undef⟩ W _ a (Eq.mp (by kernel_rfl) (h λ t=>a.tmps.getD t undef)) (Sx.is_of_agree hs hd (qCC.2 ⟨h0,(qCC.2 ⟨h1,(qCC.2 ⟨h2,(qCC.2 ⟨h3,(qCC.2 ⟨h4,(λ _ h=>by cases h)⟩)⟩)⟩)⟩)⟩)) (by kernel_rfl)
end Go.Proofs.YtmncepdbglaphaaGreatDoor
