/- A part of the walk. No condition. -/
import Derived.Test.YtmncepdbglaphaaGreatDoorKpB
set_option linter.unusedVariables false
set_option maxRecDepth 100000
namespace Go.Proofs.YtmncepdbglaphaaGreatDoor
open Go Go.Proofs Go.Proofs.Tryz Go.V
variable {W:wD}{Q:Ending->wD->Prop}
set_option maxHeartbeats 1000000
theorem aov (n:Int) (lo:Int) (hi:Int)
 (hVC:Sx.split (decide (n ≥ lo)) (Q (eZ (.bool (decide (n≤hi)))) W) (Q (eZ (.bool false)) W)) :
 Calls prog 13 #[.int .i64 n,.int .i64 lo,.int .i64 hi] W Q :=
 Sx.sd func13 .leaf hVC
theorem aow (c:AV)
 (hVC:alc W (Value.cells (Value.agg c)) 32 λ k W2=>ldI .i64 W2 k 0 λ z=>rB prog 13 #[.int .i64 z,.int .i64 1,.int .i64 4] W2 λ t W3=>Sx.split (!t) (Q (eZ (.iface 60 (Value.int .i64 2))) W3) (ldI .i64 W3 k (0+4) λ z2=>rB prog 13 #[.int .i64 z2,.int .i64 1,.int .i64 4] W3 λ t2 W4=>Sx.split (!t2) (Q (eZ (.iface 60 (Value.int .i64 2))) W4) (ldI .i64 W4 k (0+5) λ z3=>rB prog 13 #[.int .i64 z3,.int .i64 1,.int .i64 10] W4 λ t3 W5=>Sx.split (!t3) (Q (eZ (.iface 60 (Value.int .i64 2))) W5) (ldI .i64 W5 k (0+14) λ z4=>rB prog 13 #[.int .i64 z4,oi,.int .i64 10] W5 λ t4 W6=>Sx.split (!t4) (Q (eZ (.iface 60 (Value.int .i64 2))) W6) (Q (eZ Value.nilIface) W6))))) :
 Calls prog 20 #[.agg c] W Q :=
 Sx.sd func20 .leaf hVC
theorem aox (x:Nat) (xo:Nat) (kind:Int) (f:Nat) (fo:Nat) (what:AV)
 (hVC:alc W (Value.cells (Value.agg what)) 55 λ k W2=>dw W2 λ W3=>ldI .i64 W3 x (xo+23) λ z=>ldI .i64 W3 x (xo+29) λ z2=>ldN W3 k 0 7 λ vs=>Array.size vs=7/\nN (List.toArray (Value.int .i64 z::Value.int .i64 z2::Value.int .i64 kind::Value.int .i64 0::Value.int .u32 0::(Array.toList vs++[]))) λ vs2=>alc W3 #[oi,oi,oi,oi,ou,ou,ou,oi,ou,oi,ou,ou] 57 λ k2 W4=>bw W3 W4/\ct W4 k2 0 12 vs2 λ W5=>∃ I:wD->Prop,(dw W5 λ W6=>ldI .i64 W6 f fo λ z3=>(ldI .u32 W6 f (fo+1) λ z4=>bw W6 W6/\sto W6 k2 (0+3) (Value.int .i64 z3) λ W7=>sto W7 k2 (0+4) (Value.int .u32 z4) λ W8=>I W8)/\sto W6 k2 (0+3) (Value.int .i64 z3) λ W9=>ldI .u32 W9 f (fo+1) λ z5=>sto W9 k2 (0+4) (Value.int .u32 z5) λ W10=>I W10)/\(wv (∀ W11,I W11->dw W11 λ W12=>ldP W12 x (xo+6) λ p=>Sx.ptr p λ a=>zu W12 (a.add 0) λ p2 k4 k5=>ldN W12 k2 0 12 λ vs3=>(ldP W12 x (xo+6) λ p3=>bw W12 W12/\Array.size vs3=12/\alc W12 (List.toArray (Array.toList vs3++[])) 57 λ k6 W13=>bw W12 W13/\apn W13 57 12 p2 k4 k5 1 (some ⟨k6,0,none⟩) 80 λ p4 k8 W14=>Sx.ptr p3 λ a3=>rh W14 (a3.add 0) (Value.slice p4 (k4+1) k8) λ W15=>Q e0 W15)/\Array.size vs3=12/\alc W12 (List.toArray (Array.toList vs3++[])) 57 λ k11 W16=>bw W12 W16/\(ldP W16 x (xo+6) λ p5=>bw W12 W16/\apn W16 57 12 p2 k4 k5 1 (some ⟨k11,0,none⟩) 80 λ p6 k13 W17=>Sx.ptr p5 λ a5=>rh W17 (a5.add 0) (Value.slice p6 (k4+1) k13) λ W18=>Q e0 W18)/\apn W16 57 12 p2 k4 k5 1 (some ⟨k11,0,none⟩) 80 λ p7 k17 W19=>ldP W19 x (xo+6) λ p8=>Sx.ptr p8 λ a7=>rh W19 (a7.add 0) (Value.slice p7 (k4+1) k17) λ W20=>Q e0 W20))) :
 Calls prog 74 #[pZ x xo,.int .i64 kind,pZ f fo,.agg what] W Q :=
 Sx.sd func74 (.r (.n (.h 1013) (.node [] [0,8] 1 (.r (.q (.h 1010))) (.h 1016)))) hVC
theorem aoy (x:Nat) (xo:Nat) (seq:Int)
 (hVC:ldL W x (xo+28) λ p k k2=>∃ I:Int->wD->Prop,∃ I2:Int->wD->Nat,I 0 W/\(wv (∀ x2 W2,I x2 W2->Sx.split (decide (x2<(↑k:Int))) (ixs x2 k p λ k3 k4=>ldP W2 k3 (k4+x2.toNat * 1) λ p2=>Sx.ptr p2 λ a=>de .i64 W2 (a.add 0) λ z=>Sx.split (z==seq) (Q (eZ (.pointer p2)) W2) (nw .i64 (x2+1) λ z2=>I z2 W2/\I2 z2 W2<I2 x2 W2)) (Q (eZ (.pointer none)) W2)))) :
 Calls prog 55 #[pZ x xo,.int .i64 seq] W Q :=
 Sx.sd func55 (.r (.q (.r (.q (.node [(12,.int .i64)] [11,10,1] 0 .leaf .leaf))))) hVC
theorem aky (x:Nat) (xo:Nat) (p:Int)
 (hVC:Sx.split (decide (p<0)) (Q (eZ (.int .u32 0)) W) (ldL W x (xo+7) λ p2 k k2=>ixs p k p2 λ k3 k4=>ldI .u32 W k3 (k4+p.toNat * 1) λ z=>Q (eZ (.int .u32 z)) W)) :
 Calls prog 102 #[pZ x xo,.int .i64 p] W Q :=
 Sx.sd func102 .leaf hVC
theorem aoz (x:Nat) (xo:Nat) (f:Nat) (fo:Nat) (cycles:Int)
 (hVC:ldI .i64 W x (xo+29) λ z=>nw .i64 (z+cycles) λ z2=>sto W f (fo+22) (Value.bool true) λ W2=>sto W2 f (fo+24) (Value.int .i64 z2) λ W3=>dw W3 λ W4=>ldP W4 x xo λ p=>ldI .i64 W4 f fo λ z3=>rV prog 107 #[.pointer p,.int .i64 z3] W4 λ v3 W5=>nN (#[ou,ou,oi,ou,oi,ou,ou]) λ vs=>rU prog 74 #[pZ x xo,.int .i64 2,pZ f fo,.agg vs] W5 λ W6=>Q e0 W6) :
 Calls prog 66 #[pZ x xo,pZ f fo,.int .i64 cycles] W Q :=
 Sx.sd func66 (.r (.q (.h 1010))) hVC
theorem apa (x:Nat) (xo:Nat) (f:Nat) (fo:Nat)
 (hVC:sto W f (fo+23) (Value.bool true) λ W2=>dw W2 λ W3=>ldP W3 x xo λ p=>ldI .i64 W3 f fo λ z=>rV prog 84 #[.pointer p,.int .i64 z] W3 λ v2 W4=>ldI .i64 W4 f (fo+15) λ z2=>Sx.split (decide (z2 ≥ 0)) (ldI .i64 W4 f (fo+20) λ z3=>Sx.split (z3== -1) (dw W4 λ W5=>ldL W5 x (xo+7) λ p2 k k2=>ldI .i64 W5 f (fo+15) λ z4=>ldI .u32 W5 f (fo+17) λ z5=>ixs z4 k p2 λ k3 k4=>sto W5 k3 (k4+z4.toNat * 1) (Value.int .u32 z5) λ W6=>ldI .i64 W6 f (fo+15) λ z6=>Sx.split (decide (z6 ≥ 0)) (dw W6 λ W7=>ldP W7 x xo λ p3=>ldI .i64 W7 f (fo+15) λ z7=>rV prog 85 #[.pointer p3,.int .i64 z7] W7 λ v4 W8=>nN (#[ou,ou,oi,ou,oi,ou,ou]) λ vs=>rU prog 74 #[pZ x xo,.int .i64 3,pZ f fo,.agg vs] W8 λ W9=>Q e0 W9) (nN (#[ou,ou,oi,ou,oi,ou,ou]) λ vs2=>rU prog 74 #[pZ x xo,.int .i64 3,pZ f fo,.agg vs2] W6 λ W10=>Q e0 W10)) (ldI .i64 W4 f (fo+15) λ z8=>Sx.split (decide (z8 ≥ 0)) (dw W4 λ W11=>ldP W11 x xo λ p4=>ldI .i64 W11 f (fo+15) λ z9=>rV prog 85 #[.pointer p4,.int .i64 z9] W11 λ v5 W12=>nN (#[ou,ou,oi,ou,oi,ou,ou]) λ vs3=>rU prog 74 #[pZ x xo,.int .i64 3,pZ f fo,.agg vs3] W12 λ W13=>Q e0 W13) (nN (#[ou,ou,oi,ou,oi,ou,ou]) λ vs4=>rU prog 74 #[pZ x xo,.int .i64 3,pZ f fo,.agg vs4] W4 λ W14=>Q e0 W14))) (ldI .i64 W4 f (fo+15) λ z10=>Sx.split (decide (z10 ≥ 0)) (dw W4 λ W15=>ldP W15 x xo λ p5=>ldI .i64 W15 f (fo+15) λ z11=>rV prog 85 #[.pointer p5,.int .i64 z11] W15 λ v6 W16=>nN (#[ou,ou,oi,ou,oi,ou,ou]) λ vs5=>rU prog 74 #[pZ x xo,.int .i64 3,pZ f fo,.agg vs5] W16 λ W17=>Q e0 W17) (nN (#[ou,ou,oi,ou,oi,ou,ou]) λ vs6=>rU prog 74 #[pZ x xo,.int .i64 3,pZ f fo,.agg vs6] W4 λ W18=>Q e0 W18))) :
 Calls prog 57 #[pZ x xo,pZ f fo] W Q :=
 Sx.sd func57 (.r (.n (.h 1010) (.n (.r (.q (.h 15))) (.q (.r (.q (.h 1010))))))) hVC
theorem apb (x:Nat) (xo:Nat) (f:Nat) (fo:Nat)
 (hVC:ldB W f (fo+23) λ t=>Sx.split (!t) (ldB W f (fo+22) λ t2=>Sx.split (!t2) (rU prog 66 #[pZ x xo,pZ f fo,oi] W λ W2=>rU prog 57 #[pZ x xo,pZ f fo] W2 λ W3=>ldP W3 x xo λ p=>Calls prog 140 #[.pointer p] W3 λ e3 W4=>∃ z:Int,∃ v:Value,e3=eY #[.int .i64 z,v]/\ldL W4 x (xo+28) λ p2 k k2=>((0:Int)≤(1:Int)/\(1:Int)≤(↑k:Int))/\sto W4 x (xo+28) (Value.slice (Sx.sub p2 k2 1 1) (k - 1) (k2 - 1)) λ W5=>Q e0 W5) (rU prog 57 #[pZ x xo,pZ f fo] W λ W6=>ldP W6 x xo λ p3=>Calls prog 140 #[.pointer p3] W6 λ e5 W7=>∃ z2:Int,∃ v3:Value,e5=eY #[.int .i64 z2,v3]/\ldL W7 x (xo+28) λ p4 k3 k4=>((0:Int)≤(1:Int)/\(1:Int)≤(↑k3:Int))/\sto W7 x (xo+28) (Value.slice (Sx.sub p4 k4 1 1) (k3 - 1) (k4 - 1)) λ W8=>Q e0 W8)) (ldP W x xo λ p5=>Calls prog 140 #[.pointer p5] W λ e6 W9=>∃ z3:Int,∃ v5:Value,e6=eY #[.int .i64 z3,v5]/\ldL W9 x (xo+28) λ p6 k5 k6=>((0:Int)≤(1:Int)/\(1:Int)≤(↑k5:Int))/\sto W9 x (xo+28) (Value.slice (Sx.sub p6 k6 1 1) (k5 - 1) (k6 - 1)) λ W10=>Q e0 W10)) :
 Calls prog 93 #[pZ x xo,pZ f fo] W Q :=
 Sx.sd func93 .leaf hVC
theorem apc (x:Nat) (xo:Nat) (f:Nat) (fo:Nat) (cause:Int) (tval:Int)
 (hVC:dw W λ W2=>ldI .u32 W2 f (fo+1) λ z=>ldI .u32 W2 f (fo+2) λ z2=>nN (#[.int .u32 z,.int .u32 z2,oi,ou,.int .i64 cause,.int .u32 tval,ou]) λ vs=>alc W2 #[ou,ou,oi,ou,oi,ou,ou] 55 λ k W3=>bw W2 W3/\ct W3 k 0 7 vs λ W4=>dw W4 λ W5=>ldP W5 x (xo+4) λ p=>ldI .u32 W5 f (fo+1) λ z3=>Calls prog 91 #[.pointer p,.int .u32 z3,.int .i64 cause,.int .u32 tval] W5 λ e W6=>∃ z4:Int,∃ t:Bool,e=eY #[.int .u32 z4,.bool t]/\sto W6 k (0+6) (Value.int .u32 z4) λ W7=>ldN W7 k 0 7 λ vs2=>rU prog 74 #[pZ x xo,.int .i64 4,pZ f fo,.agg vs2] W7 λ W8=>sto W8 x (xo+31) (Value.bool !t) λ W9=>rU prog 59 #[pZ x xo,.int .i64 (-1),.int .u32 z4] W9 λ W10=>sto W10 x (xo+27) (Value.int .u32 z4) λ W11=>Q e0 W11) :
 Calls prog 61 #[pZ x xo,pZ f fo,.int .i64 cause,.int .u32 tval] W Q :=
 Sx.sd func61 (.n (.h 1013) (.q (.h 1012))) hVC
theorem apd (y0:Nat) (Y0:Nat) (y1:Int) (y2:Int)
 (hVC:ldP W y0 (Y0+2) λ p=>rU prog 88 #[.pointer p,.int .i64 y1] W λ W2=>ldP W2 y0 Y0 λ p2=>rL prog 89 #[.pointer p2,.int .i64 y1] W2 λ p3 k k2 W3=>∃ I:Int->wD->Prop,∃ I2:Int->wD->Nat,I 0 W3/\(wv (∀ x W4,I x W4->Sx.split (decide (x<(↑k:Int))) (ixs x k p3 λ k3 k4=>ldI .i64 W4 k3 (k4+x.toNat * 1) λ z=>rP prog 55 #[pZ y0 Y0,.int .i64 z] W4 λ p4 W5=>Sx.ptr p4 λ a=>de .i64 W5 (a.add 15) λ z2=>Sx.split (decide (z2 ≥ 0)) (dw W5 λ W6=>Sx.ptr p4 λ a2=>Sx.ptr p4 λ a3=>Sx.ptr p4 λ a4=>ldP W6 y0 (Y0+1) λ p5=>ldI .i64 W6 (Addr.block a2) (Addr.off a2+3+1) λ z3=>de .i64 W6 (a3.add 15) λ z4=>de .i64 W6 (a4.add 16) λ z5=>rV prog 90 #[.pointer p5,.int .i64 z3,.int .i64 z4,.int .i64 z5] W6 λ v W7=>dw W7 λ W8=>Sx.ptr p4 λ a5=>ldP W8 y0 Y0 λ p6=>de .i64 W8 (a5.add 15) λ z6=>rV prog 85 #[.pointer p6,.int .i64 z6] W8 λ v2 W9=>nN (#[ou,ou,oi,ou,oi,ou,ou]) λ vs=>rU prog 74 #[pZ y0 Y0,.int .i64 5,.pointer p4,.agg vs] W9 λ W10=>nw .i64 (x+1) λ z7=>I z7 W10/\I2 z7 W10<I2 x W4) (nN (#[ou,ou,oi,ou,oi,ou,ou]) λ vs2=>rU prog 74 #[pZ y0 Y0,.int .i64 5,.pointer p4,.agg vs2] W5 λ W11=>nw .i64 (x+1) λ z8=>I z8 W11/\I2 z8 W11<I2 x W4)) (ldL W4 y0 (Y0+28) λ p7 k5 k6=>∃ I3:Int->wD->Prop,∃ I4:Int->wD->Nat,I3 0 W4/\(wv (∀ x2 W12,I3 x2 W12->Sx.split (decide (x2<(↑k5:Int))) (ixs x2 k5 p7 λ k7 k8=>ldP W12 k7 (k8+x2.toNat * 1) λ p8=>Sx.ptr p8 λ a6=>de .i64 W12 (a6.add 0) λ z9=>Sx.split (decide (z9 > y1)) (ldL W12 y0 (Y0+28) λ p9 k9 k10=>((0:Int)≤x2/\x2≤(↑k10:Int))/\sto W12 y0 (Y0+28) (Value.slice p9 (x2.toNat) k10) λ W13=>sto W13 y0 (Y0+26) (Value.int .u32 y2) λ W14=>sto W14 y0 (Y0+33) (Value.bool false) λ W15=>Q e0 W15) (nw .i64 (x2+1) λ z10=>I3 z10 W12/\I4 z10 W12<I4 x2 W12)) (sto W12 y0 (Y0+26) (Value.int .u32 y2) λ W16=>sto W16 y0 (Y0+33) (Value.bool false) λ W17=>Q e0 W17))))))) :
 Calls prog 59 #[pZ y0 Y0,.int .i64 y1,.int .u32 y2] W Q :=
 Sx.sd func59 (.r (.n (.r (.n (.node [(26,.int .i64)] [25,24,0,1,2] 0 (.r (.r (.n (.n (.r (.r (.q (.r (.q (.n (.h 1019) (.h 1010))))))) .leaf) .leaf))) .leaf) .leaf)) (.q (.r (.q (.node [(77,.int .i64)] [76,75,1,0,2] 0 .leaf .leaf)))))) hVC
theorem ape (x:Nat) (xo:Nat) (f:Nat) (fo:Nat)
 (hVC:dw W λ W2=>nN (#[oi,oi,oi,oi,oi]) λ vs=>ldP W2 x (xo+3) λ p=>ldN W2 f (fo+9) 3 λ vs2=>ldI .u32 W2 f (fo+1) λ z=>rU prog 58 #[.pointer p,.agg vs2,.int .u32 z,.agg vs,.bool false] W2 λ W3=>dw W3 λ W4=>ldI .i64 W4 f fo λ z2=>nw .i64 (z2 - 1) λ z3=>ldI .u32 W4 f (fo+1) λ z4=>rU prog 59 #[pZ x xo,.int .i64 z3,.int .u32 z4] W4 λ W5=>Q e0 W5) :
 Calls prog 54 #[pZ x xo,pZ f fo] W Q :=
 Sx.sd func54 (.n (.h 1015) (.h 1011)) hVC
theorem apf (x:Nat) (xo:Nat) (lines:OA) (linesn:Nat) (linesc:Nat)
 (hVC:∃ I:Int->Int->wD->Prop,∃ I2:Int->Int->wD->Nat,I 0 (-1) W/\(wv (∀ x2 oldest W2,I x2 oldest W2->Sx.split (decide (x2<(↑linesn:Int))) (ixs x2 linesn lines λ k k2=>ldI .u32 W2 k (k2+x2.toNat * 1) λ z=>ldP W2 x (xo+2) λ p=>rI prog .i64 53 #[.pointer p,.int .u32 z] W2 λ z2 W3=>Sx.split (decide (z2 ≥ 0)) (Sx.split (decide (oldest<0)) (nw .i64 (x2+1) λ z3=>I z3 z2 W3/\I2 z3 z2 W3<I2 x2 oldest W2) (Sx.split (decide (z2<oldest)) (nw .i64 (x2+1) λ z4=>I z4 z2 W3/\I2 z4 z2 W3<I2 x2 oldest W2) (nw .i64 (x2+1) λ z5=>I z5 oldest W3/\I2 z5 oldest W3<I2 x2 oldest W2))) (nw .i64 (x2+1) λ z6=>I z6 oldest W3/\I2 z6 oldest W3<I2 x2 oldest W2)) (Sx.split (decide (oldest ≥ 0)) (rP prog 55 #[pZ x xo,.int .i64 oldest] W2 λ p2 W4=>rU prog 54 #[pZ x xo,.pointer p2] W4 λ W5=>Q e0 W5) (Q e0 W2))))) :
 Calls prog 37 #[pZ x xo,.slice lines linesn linesc] W Q :=
 Sx.sd func37 (.r (.q (.r (.q (.node [(10,.int .i64),(4,.int .i64)] [9,8,0] 0 .leaf .leaf))))) hVC
theorem apg (x:Nat) (xo:Nat) (l:OA) (ln:Nat) (lc:Nat)
 (hVC:∃ I:Int->OA->Nat->Nat->wD->Prop,∃ I2:Int->OA->Nat->Nat->wD->Nat,I 0 none 0 0 W/\(wv (∀ x2 lines k k2 W2,I x2 lines k k2 W2->Sx.split (decide (x2<(↑ln:Int))) (ixs x2 ln l λ k3 k4=>ldN W2 k3 (k4+x2.toNat * 4) 4 λ vs=>alc W2 #[oi,ou,oi,oi] 147 λ k5 W3=>ct W3 k5 0 4 vs λ W4=>ldI .i64 W4 k5 0 λ z=>ldI .i64 W4 x (xo+23) λ z2=>Sx.split (z==z2) (ldI .i64 W4 k5 (0+3) λ z3=>dn W4 λ W5 k7=>Sx.split (z3==0) (ldI .u32 W5 k5 (0+1) λ z4=>alc W5 #[.int .u32 z4] 47 λ k8 W6=>apn W6 47 1 lines k k2 1 (some ⟨k8,0,none⟩) 4 λ p k10 W7=>nw .i64 (x2+1) λ z5=>I z5 p (k+1) k10 W7/\I2 z5 p (k+1) k10 W7<I2 x2 lines k k2 W2) (nw .i64 (x2+1) λ z6=>I z6 lines k k2 W5/\I2 z6 lines k k2 W5<I2 x2 lines k k2 W2)) (dn W4 λ W8 k13=>nw .i64 (x2+1) λ z7=>I z7 lines k k2 W8/\I2 z7 lines k k2 W8<I2 x2 lines k k2 W2)) (rU prog 37 #[pZ x xo,.slice lines k k2] W2 λ W9=>Q e0 W9)))) :
 Calls prog 27 #[pZ x xo,.slice l ln lc] W Q :=
 Sx.sd func27 (.r (.q (.r (.q (.node [(9,.int .i64),(4,.slice)] [8,7,0] 0 .leaf .leaf))))) hVC
theorem aph (y0:Nat) (Y0:Nat) (y1:Nat) (Y1:Nat)
 (hVC:ldB W y1 (Y1+22) λ t=>Sx.split t (Q (eZ (.bool false)) W) (ldI .u32 W y1 (Y1+1) λ z=>nw .u32 (z+4) λ z2=>sto W y1 (Y1+18) (Value.int .u32 z2) λ W2=>ldI .i64 W2 y1 (Y1+20) λ z3=>Sx.split (z3 != -1) (Q (eZ (.bool true)) W2) (ldI .i64 W2 y1 (Y1+8) λ z4=>Sx.split (z4==4) (rB prog 108 #[pZ y0 Y0,pZ y1 Y1] W2 λ t2 W3=>Sx.split (!t2) (Q (eZ (.bool true)) W3) (rB prog 112 #[pZ y0 Y0,pZ y1 Y1] W3 λ t3 W4=>Q (eZ (.bool t3)) W4)) (Sx.split (z4==6) (ldP W2 y0 (Y0+2) λ p=>Calls prog 43 #[.pointer p] W2 λ e3 W5=>∃ vs:AV,∃ t4:Bool,e3=eY #[.agg vs,.bool t4]/\alc W5 #[ou,oi,ou] 150 λ k W6=>ct W6 k 0 3 vs λ W7=>Sx.split t4 (Q (eZ (.bool false)) W7) (rB prog 108 #[pZ y0 Y0,pZ y1 Y1] W7 λ t5 W8=>Sx.split (!t5) (Q (eZ (.bool true)) W8) (rB prog 138 #[pZ y0 Y0,pZ y1 Y1] W8 λ t6 W9=>Q (eZ (.bool t6)) W9))) (Sx.split (z4==7) (rB prog 139 #[pZ y0 Y0,pZ y1 Y1] W2 λ t7 W10=>Q (eZ (.bool t7)) W10) (Q (eZ (.bool false)) W2)))))) :
 Calls prog 92 #[pZ y0 Y0,pZ y1 Y1] W Q :=
 Sx.sd func92 .leaf hVC
theorem akz (y0:Nat) (Y0:Nat) (y1:Nat) (Y1:Nat)
 (hVC:ldI .i64 W y1 (Y1+3) λ z=>Sx.split (z==57) (ldP W y0 (Y0+2) λ p=>Calls prog 43 #[.pointer p] W λ e W2=>∃ vs:AV,∃ t:Bool,e=eY #[.agg vs,.bool t]/\alc W2 #[ou,oi,ou] 150 λ k W3=>ct W3 k 0 3 vs λ W4=>Q (eZ (.bool !t)) W4) (Sx.split (z==58) (sto W y1 (Y1+20) (Value.int .i64 11) λ W5=>Q (eZ (.bool true)) W5) (Sx.split (z==59) (ldI .u32 W y1 (Y1+1) λ z2=>sto W y1 (Y1+20) (Value.int .i64 3) λ W6=>sto W6 y1 (Y1+21) (Value.int .u32 z2) λ W7=>Q (eZ (.bool true)) W7) (Sx.split (z==60) (ldP W y0 (Y0+4) λ p2=>rI prog .u32 174 #[.pointer p2] W λ z3 W8=>sto W8 y1 (Y1+18) (Value.int .u32 z3) λ W9=>Q (eZ (.bool true)) W9) (Sx.split (z==61) (Q (eZ (.bool true)) W) (dw W λ W10=>ldP W10 y0 (Y0+4) λ p3=>ldN W10 y1 (Y1+3) 5 λ vs2=>ldI .i64 W10 y1 (Y1+13) λ z4=>rI prog .u32 102 #[pZ y0 Y0,.int .i64 z4] W10 λ z5 W11=>bw W10 W11/\Calls prog 175 #[.pointer p3,.agg vs2,.int .u32 z5] W11 λ e4 W12=>∃ z6:Int,∃ t2:Bool,e4=eY #[.int .u32 z6,.bool t2]/\sto W12 y1 (Y1+17) (Value.int .u32 z6) λ W13=>Sx.split (!t2) (ldI .u32 W13 y1 (Y1+2) λ z7=>sto W13 y1 (Y1+20) (Value.int .i64 2) λ W14=>sto W14 y1 (Y1+21) (Value.int .u32 z7) λ W15=>Q (eZ (.bool true)) W15) (Q (eZ (.bool true)) W13))))))) :
 Calls prog 139 #[pZ y0 Y0,pZ y1 Y1] W Q :=
 Sx.sd func139 (.r (.n (.r (.n (.r (.r (.r (.r (.r (.r (.r (.r (.r (.r (.q (.h 1016)))))))))))) .leaf)) .leaf)) hVC
theorem api (y0:Nat) (Y0:Nat) (y1:Nat) (Y1:Nat)
 (hVC:ldI .i64 W y1 (Y1+13) λ z=>∃ z2:Int,(∀ k:Nat,Calls prog 102 #[pZ y0 Y0,.int .i64 z] (World.drewN W k) λ e W2=>e=eZ (.int .u32 z2)/\∃ k2:Nat,W2=World.drewN W k2)/\ldI .i64 W y1 (Y1+14) λ z3=>∃ z4:Int,(∀ k3:Nat,Calls prog 102 #[pZ y0 Y0,.int .i64 z3] (World.drewN W k3) λ e2 W3=>e2=eZ (.int .u32 z4)/\∃ k4:Nat,W3=World.drewN W k4)/\dn W λ W4 k5=>ldI .u32 W4 y1 (Y1+1) λ z5=>nw .u32 (z5+4) λ z6=>sto W4 y1 (Y1+18) (Value.int .u32 z6) λ W5=>ldI .i64 W5 y1 (Y1+8) λ z7=>Sx.split (z7==2) (ldI .i64 W5 y1 (Y1+3) λ z8=>rB prog 103 #[.int .i64 z8,.int .u32 z2,.int .u32 z4] W5 λ t W6=>sto W6 y1 (Y1+19) (Value.bool t) λ W7=>ldB W7 y1 (Y1+19) λ t2=>Sx.split t2 (dw W7 λ W8=>ldN W8 y1 (Y1+3) 5 λ vs=>ldI .u32 W8 y1 (Y1+1) λ z9=>rI prog .u32 104 #[.agg vs,.int .u32 z9,.int .u32 z2] W8 λ z10 W9=>sto W9 y1 (Y1+18) (Value.int .u32 z10) λ W10=>ldI .u32 W10 y1 (Y1+18) λ z11=>nw .u32 (↑(BitVec.toNat (bZ .u32 z11 &&&bZ .u32 3)):Int) λ z12=>Sx.split (z12 !=0) (ldI .u32 W10 y1 (Y1+18) λ z13=>sto W10 y1 (Y1+20) (Value.int .i64 0) λ W11=>sto W11 y1 (Y1+21) (Value.int .u32 z13) λ W12=>Q e0 W12) (Q e0 W10)) (ldI .u32 W7 y1 (Y1+18) λ z14=>nw .u32 (↑(BitVec.toNat (bZ .u32 z14 &&&bZ .u32 3)):Int) λ z15=>Sx.split (z15 !=0) (ldI .u32 W7 y1 (Y1+18) λ z16=>sto W7 y1 (Y1+20) (Value.int .i64 0) λ W13=>sto W13 y1 (Y1+21) (Value.int .u32 z16) λ W14=>Q e0 W14) (Q e0 W7))) (Sx.split (z7==3) (ldI .u32 W5 y1 (Y1+18) λ z17=>sto W5 y1 (Y1+17) (Value.int .u32 z17) λ W15=>sto W15 y1 (Y1+19) (Value.bool true) λ W16=>dw W16 λ W17=>ldN W17 y1 (Y1+3) 5 λ vs2=>ldI .u32 W17 y1 (Y1+1) λ z18=>rI prog .u32 104 #[.agg vs2,.int .u32 z18,.int .u32 z2] W17 λ z19 W18=>sto W18 y1 (Y1+18) (Value.int .u32 z19) λ W19=>ldI .u32 W19 y1 (Y1+18) λ z20=>nw .u32 (↑(BitVec.toNat (bZ .u32 z20 &&&bZ .u32 3)):Int) λ z21=>Sx.split (z21 !=0) (ldI .u32 W19 y1 (Y1+18) λ z22=>sto W19 y1 (Y1+20) (Value.int .i64 0) λ W20=>sto W20 y1 (Y1+21) (Value.int .u32 z22) λ W21=>Q e0 W21) (Q e0 W19)) (dw W5 λ W22=>ldN W22 y1 (Y1+3) 5 λ vs3=>ldI .u32 W22 y1 (Y1+1) λ z23=>Calls prog 105 #[.agg vs3,.int .u32 z23,.int .u32 z2,.int .u32 z4] W22 λ e6 W23=>∃ z24:Int,∃ z25:Int,e6=eY #[.int .u32 z24,.int .u32 z25]/\ldI .i64 W23 y1 (Y1+3) λ z26=>rI prog .u32 106 #[.int .i64 z26,.int .u32 z24,.int .u32 z25] W23 λ z27 W24=>sto W24 y1 (Y1+17) (Value.int .u32 z27) λ W25=>ldI .u32 W25 y1 (Y1+18) λ z28=>nw .u32 (↑(BitVec.toNat (bZ .u32 z28 &&&bZ .u32 3)):Int) λ z29=>Sx.split (z29 !=0) (ldI .u32 W25 y1 (Y1+18) λ z30=>sto W25 y1 (Y1+20) (Value.int .i64 0) λ W26=>sto W26 y1 (Y1+21) (Value.int .u32 z30) λ W27=>Q e0 W27) (Q e0 W25)))) :
 Calls prog 65 #[pZ y0 Y0,pZ y1 Y1] W Q :=
 Sx.sd func65 (.r (.r (.n (.r (.q (.r (.n (.r (.r (.q (.h 1011)))) (.r (.n (.r (.h 1011)) (.q (.h 1011)))))))) .leaf))) hVC
theorem ala (x:Nat) (xo:Nat) (f:Nat) (fo:Nat)
 (hVC:dw W λ W2=>ldN W2 f (fo+3) 5 λ vs=>ldI .i64 W2 f (fo+13) λ z=>rI prog .u32 102 #[pZ x xo,.int .i64 z] W2 λ z2 W3=>bw W2 W3/\rI prog .u32 157 #[.agg vs,.int .u32 z2] W3 λ z3 W4=>sto W4 f (fo+26) (Value.int .u32 z3) λ W5=>ldI .u32 W5 f (fo+1) λ z4=>nw .u32 (z4+4) λ z5=>sto W5 f (fo+18) (Value.int .u32 z5) λ W6=>dw W6 λ W7=>ldI .i64 W7 f (fo+3) λ z6=>ldI .u32 W7 f (fo+26) λ z7=>ldI .i64 W7 x (xo+25) λ z8=>rI prog .i64 158 #[.int .i64 z6,.int .u32 z7,.int .i64 z8] W7 λ z9 W8=>sto W8 f (fo+20) (Value.int .i64 z9) λ W9=>ldI .u32 W9 f (fo+26) λ z10=>sto W9 f (fo+21) (Value.int .u32 z10) λ W10=>ldI .i64 W10 f (fo+20) λ z11=>Q (eZ (.bool (z11== -1))) W10) :
 Calls prog 108 #[pZ x xo,pZ f fo] W Q :=
 Sx.sd func108 (.r (.n (.h 1012) (.r (.q (.h 1015))))) hVC
theorem apj (x:Nat) (xo:Nat) (f:Nat) (fo:Nat)
 (hVC:rU prog 66 #[pZ x xo,pZ f fo,.int .i64 1] W λ W2=>rB prog 108 #[pZ x xo,pZ f fo] W2 λ t W3=>Sx.split (!t) (Q e0 W3) (dw W3 λ W4=>ldP W4 x (xo+2) λ p=>ldI .i64 W4 f fo λ z=>ldI .u32 W4 f (fo+26) λ z2=>ldI .i64 W4 f (fo+3) λ z3=>rI prog .i64 110 #[.int .i64 z3] W4 λ z4 W5=>bw W4 W5/\Calls prog 109 #[.pointer p,.int .i64 z,.int .u32 z2,.int .i64 z4] W5 λ e4 W6=>∃ z5:Int,∃ v:Value,e4=eY #[.int .i64 z5,v]/\dw W6 λ W7=>ldP W7 x (xo+2) λ p2=>ldI .i64 W7 f fo λ z6=>ldI .i64 W7 f (fo+14) λ z7=>rI prog .u32 102 #[pZ x xo,.int .i64 z7] W7 λ z8 W8=>bw W7 W8/\rV prog 111 #[.pointer p2,.int .i64 z6,.int .u32 z8] W8 λ v2 W9=>Sx.split (decide (z5 ≥ 0)) (rP prog 55 #[pZ x xo,.int .i64 z5] W9 λ p3 W10=>rU prog 54 #[pZ x xo,.pointer p3] W10 λ W11=>Q e0 W11) (Q e0 W9))) :
 Calls prog 67 #[pZ x xo,pZ f fo] W Q :=
 Sx.sd func67 (.r (.r (.n (.h 1020) (.q (.h 1016))))) hVC
theorem apk (x:Nat) (xo:Nat) (f:Nat) (fo:Nat)
 (hVC:rB prog 108 #[pZ x xo,pZ f fo] W λ t W2=>Sx.split t (rB prog 112 #[pZ x xo,pZ f fo] W2 λ t2 W3=>Sx.split (!t2) (Q (eZ (.bool false)) W3) (rU prog 66 #[pZ x xo,pZ f fo,.int .i64 1] W3 λ W4=>Q (eZ (.bool true)) W4)) (rU prog 66 #[pZ x xo,pZ f fo,.int .i64 1] W2 λ W5=>Q (eZ (.bool true)) W5)) :
 Calls prog 68 #[pZ x xo,pZ f fo] W Q :=
 Sx.sd func68 .leaf hVC
theorem apl (t:Nat) (to:Nat) (y1:Int) (addr:Int)
 (hVC:ldL W t (to+2) λ p k k2=>∃ I:Int->wD->Prop,∃ I2:Int->wD->Nat,I 0 W/\(wv (∀ x W2,I x W2->Sx.split (decide (x<(↑k:Int))) (ixs x k p λ k3 k4=>ldP W2 k3 (k4+x.toNat * 1) λ p2=>Sx.ptr p2 λ a=>de .i64 W2 (a.add 23) λ z=>Sx.split (z !=y1) (Sx.ptr p2 λ a2=>de .u32 W2 (a2.add 32) λ z2=>nw .u32 (↑(BitVec.toNat (bZ .u32 addr &&& ~~~bZ .u32 3)):Int) λ z3=>Sx.split (z2==z3) (Sx.ptr p2 λ a3=>rh W2 (a3.add 32) (Value.int .u32 0) λ W3=>nw .i64 (x+1) λ z4=>I z4 W3/\I2 z4 W3<I2 x W2) (nw .i64 (x+1) λ z5=>I z5 W2/\I2 z5 W2<I2 x W2)) (nw .i64 (x+1) λ z6=>I z6 W2/\I2 z6 W2<I2 x W2)) (Q e0 W2)))) :
 Calls prog 73 #[pZ t to,.int .i64 y1,.int .u32 addr] W Q :=
 Sx.sd func73 (.r (.q (.node [(13,.int .i64)] [12,11,1,2] 0 .leaf .leaf))) hVC
theorem apm (s:OA) (sn:Nat) (sc:Nat)
 (hVC:Sx.split (Option.isNone s) (Q (eZ (.slice none 0 0)) W) (alc W #[] 154 λ k W2=>∃ l:LV,∃ l2:LV,XHeap.Sl W2 154 1 (Value.slice (some ⟨k,0,none⟩) 0 0) 0 l/\((sn=0/\s=none)∨(∃ a:Addr,s=some a/\∀ k2:Nat,∀ v:Value,l2[k2]?=some v->World.cell? W2 (Addr.add a k2)=some v))/\List.length l2=sn * 1/\(∀ v2:Value,v2 ∈ l2->Value.oneCell' v2=true)/\0+sn≤maxLen/\(0+sn) * 8≤140737488355328/\∀ p:OA,∀ k3:Nat,∀ W3:wD,XHeap.Sl W3 154 1 (Value.slice p (0+sn) k3) (0+sn) (l++l2)->XHeap.XTouch (λ b=>Value.ownBlock (Value.slice (some (Addr.mk k 0 none)) 0 0)=some b) W2 W3->(∀ k4:Nat,(Value.ownBlock (Value.slice p (0+sn) k3)=some k4->((Value.ownBlock (Value.slice (some (Addr.mk k 0 none)) 0 0)=some k4)∨(Array.size (World.heap W2)≤k4))))->XHeap.Sl W3 154 1 (Value.slice (some (Addr.mk k 0 none)) 0 0) 0 l->(((p=some ⟨k,0,none⟩/\k3=0))∨((((XHeap.NilP (some (Addr.mk k 0 none)))∨((0:Nat)<(0:Nat)+sn))/\(∀ k5:Nat,(Value.ownBlock (Value.slice p (0+sn) k3)=some k5->Array.size (World.heap W2)≤k5)))))->Q (eZ (.slice p (0+sn) k3)) W3)) :
 Calls prog 56 #[.slice s sn sc] W Q :=
 Sx.sd func56 .leaf hVC
theorem apo (x:Nat) (xo:Nat)
 (hVC:ldI .i64 W x (xo+8) λ z=>∃ I:Int->wD->Prop,∃ I2:Int->wD->Nat,I 0 W/\(wv (∀ x2 W2,I x2 W2->Sx.split (decide (x2<z)) (ldB W2 x (xo+33) λ t=>Sx.split t (Q e0 W2) (rB prog 69 #[pZ x xo] W2 λ t2 W3=>Sx.split (!t2) (Q e0 W3) (nw .i64 (x2+1) λ z2=>I z2 W3/\I2 z2 W3<I2 x2 W2))) (Q e0 W2)))) :
 Calls prog 41 #[pZ x xo] W Q :=
 Sx.sd func41 (.r (.q (.node [(7,.int .i64)] [6,0] 0 .leaf .leaf))) hVC
theorem apq (y0:Nat) (Y0:Nat)
 (hVC:ldB W y0 (Y0+30) λ t=>Sx.split t (ldP W y0 (Y0+4) λ p=>rB prog 60 #[.pointer p] W λ t2 W2=>Sx.split t2 (ldL W2 y0 (Y0+28) λ p2 k k2=>Sx.split (decide ((↑k:Int) > 0)) (dw W2 λ W3=>nN (#[oi,oi,oi,oi,oi]) λ vs=>ldP W3 y0 (Y0+3) λ p3=>ldL W3 y0 (Y0+28) λ p4 k3 k4=>ixs 0 k3 p4 λ k5 k6=>ldP W3 k5 (k6+0) λ p5=>Sx.ptr p5 λ a=>aey W3 (a.add 9) 3 λ vs2=>rU prog 58 #[.pointer p3,.agg vs2,ou,.agg vs,.bool false] W3 λ W4=>ldI .u32 W4 y0 (Y0+27) λ z=>nN (#[.int .i64 (-1),.int .u32 z,ou,oi,oi,oi,oi,oi,oi,oi,oi,ou,ou,oi,oi,oi,oi,ou,ou,.bool false,oi,ou,.bool false,.bool false,oi,.bool false,ou,.bool false]) λ vs3=>alc W4 (Value.cells (Value.agg vs3)) 162 λ k7 W5=>rU prog 61 #[pZ y0 Y0,pZ k7 0,.int .i64 2147483659,ou] W5 λ W6=>Q e0 W6) (ldI .u32 W2 y0 (Y0+27) λ z2=>nN (#[.int .i64 (-1),.int .u32 z2,ou,oi,oi,oi,oi,oi,oi,oi,oi,ou,ou,oi,oi,oi,oi,ou,ou,.bool false,oi,ou,.bool false,.bool false,oi,.bool false,ou,.bool false]) λ vs4=>alc W2 (Value.cells (Value.agg vs4)) 162 λ k8 W7=>rU prog 61 #[pZ y0 Y0,pZ k8 0,.int .i64 2147483659,ou] W7 λ W8=>Q e0 W8)) (ldI .i64 W2 y0 (Y0+8) λ z3=>∃ I:Int->wD->Prop,∃ I2:Int->wD->Nat,I 0 W2/\(wv (∀ x W9,I x W9->Sx.split (decide (x<z3)) (ldL W9 y0 (Y0+28) λ p6 k9 k10=>Sx.split ((↑k9:Int)==0) (Q e0 W9) (ldL W9 y0 (Y0+28) λ p7 k11 k12=>ixs 0 k11 p7 λ k13 k14=>ldP W9 k13 (k14+0) λ p8=>rB prog 62 #[pZ y0 Y0,.pointer p8] W9 λ t3 W10=>Sx.split (!t3) (Q e0 W10) (nw .i64 (x+1) λ z4=>I z4 W10/\I2 z4 W10<I2 x W9))) (Q e0 W9))))) (ldI .i64 W y0 (Y0+8) λ z5=>∃ I3:Int->wD->Prop,∃ I4:Int->wD->Nat,I3 0 W/\(wv (∀ x2 W11,I3 x2 W11->Sx.split (decide (x2<z5)) (ldL W11 y0 (Y0+28) λ p9 k15 k16=>Sx.split ((↑k15:Int)==0) (Q e0 W11) (ldL W11 y0 (Y0+28) λ p10 k17 k18=>ixs 0 k17 p10 λ k19 k20=>ldP W11 k19 (k20+0) λ p11=>rB prog 62 #[pZ y0 Y0,.pointer p11] W11 λ t4 W12=>Sx.split (!t4) (Q e0 W12) (nw .i64 (x2+1) λ z6=>I3 z6 W12/\I4 z6 W12<I4 x2 W11))) (Q e0 W11))))) :
 Calls prog 39 #[pZ y0 Y0] W Q :=
 Sx.sd func39 (.n (.r (.q (.q (.r (.q (.h 1016)))))) (.r (.q (.node [(49,.int .i64)] [48,0] 0 .leaf .leaf)))) hVC
theorem apr (x:Nat) (xo:Nat)
 (hVC:ldP W x (xo+2) λ p=>Calls prog 43 #[.pointer p] W λ e W2=>∃ vs:AV,∃ t:Bool,e=eY #[.agg vs,.bool t]/\alc W2 #[ou,oi,ou] 150 λ k W3=>ct W3 k 0 3 vs λ W4=>ldB W4 x (xo+31) λ t2=>Sx.split t2 (Q (eZ (.bool !t)) W4) (Q (eZ (.bool false)) W4)) :
 Calls prog 29 #[pZ x xo] W Q :=
 Sx.sd func29 .leaf hVC
end Go.Proofs.YtmncepdbglaphaaGreatDoor
namespace Go.Proofs.YtmncepdbglaphaaGreatDoor.ko
open Go.RowKit Go.XHeap Go.Sx Go.Sep Go.Proofs.Tryz
open lsq (PQ qA ens En Ens fu findP errN)
variable {W w:wD}{b:Nat}{q:PQ}
theorem Cu (p:En->Bool) (es:Ens):fu p es=(es.map (·.2)).findIdx? p:=by
 unfold fu;rw[List.findIdx?_map];rfl
theorem Ao {k:Nat}{x:Nat×En} (h:q.es[k]?=some x):(ens q).getD k default=x.2:=by
 unfold ens;rw[qF,qS,h];rfl
theorem jx:(ens q).length=q.es.length:=qd ..
theorem Cv (es:Ens) (k:Nat) (x:Nat×En):(es.set k x).map (·.2)=(es.map (·.2)).set k x.2:=qtB ..
theorem Cw {α:Type} (p:En->Bool):∀ es:Ens,(es.find? λ x=>p x.2).map (·.2)=(es.map (·.2)).find? p
 | []=>rfl
 | x::es=>by
  rw[List.find?_cons,quB,List.find?_cons];cases p x.2
  ·exact Cw (α:=α) p es
  ·rfl
theorem Wx (o:Option (Nat×En)):lsq.seqOf o=match o.map (·.2) with
 | some x=>x.seq
 | none=> -1:=by
 cases o <;> rfl
theorem Mn {q:PQ} (h:∀ e ∈ ens q,e.Ok):lsq.AllOk q.es:=λ x hx=>h _ (qFC hx)
abbrev QIs (q:PQ) (l:List En):={ z:PQ // z.size=q.size/\ens z=l }
theorem Yz (h:(qA b q).at_ W) (ho:∀ e ∈ ens q,e.Ok) (hn:(ens q).length≤32) (s:Int) (a:Nat) (ha:a<4294967296) (sz:Int) :
  Calls prog 109 #[pZ b 0,.int .i64 s,.int .u32 a,.int .i64 sz] W λ e w=>∃ z:QIs q (dz (ens q) s a sz).1×Value,e=eY #[.int .i64 (dz (ens q) s a sz).2,z.2]/\Sep.Post (qA b q) W (qA b z.1.1) w:=by
 refine(lsq.addr_any h (Mn ho) (by rw[<- jx];exact hn) s a ha sz).mono λ e w hp=>?_;have hx:fu (findP s) q.es=qix (ens q) s:=Cu _ _;unfold lsq.AddrPost lsq.addrR at hp;rw[hx] at hp;unfold dz
 cases hq:qix (ens q) s with
 | none =>
  rw[hq] at hp;exact⟨⟨⟨q,rfl,rfl⟩,_⟩,hp.1,hp.2⟩
 | some k =>
  rw[hq] at hp;dsimp only at hp ⊢
  cases hk:q.es[k]? with
  | none =>
   rw[hq] at hx;obtain⟨x,hx2, -⟩:=lsq.pos_some hx;rw[hk] at hx2;cases hx2
  | some x =>
   rw[hk] at hp;dsimp only at hp;rw[Ao hk];by_cases h1:x.2.placed=true
   ·rw[if_pos h1] at hp;rw[if_pos h1];exact⟨⟨⟨q,rfl,rfl⟩,_⟩,hp.1,hp.2⟩
   ·rw[if_neg h1] at hp;rw[if_neg h1];by_cases h2:(sz=1∨sz=2∨sz=4)/\(a:Int) % sz=0
    ·rw[if_pos h2] at hp;rw[if_pos h2];obtain⟨x',hx',h3,h4⟩:=hp;rw[hk] at hx';cases hx'
     have e1:lsq.aheadR s a sz.toNat k q.es x.2=Ey (ens q) s a sz.toNat k x.2:=by
      unfold lsq.aheadR Ey;split
      ·rw[Wx,Cw (α:=Unit),List.map_drop];rfl
      ·rfl
     rw[e1] at h3;refine⟨⟨⟨_,?_,?_⟩,_⟩,h3,h4⟩
     ·rfl
     ·unfold ens;rw[Cv];rfl
    ·rw[if_neg h2] at hp;rw[if_neg h2];exact⟨⟨⟨q,rfl,rfl⟩,_⟩,hp.1,hp.2⟩
theorem adm (h:(qA b q).at_ W) (hn:(ens q).length≤32) (s:Int) (d:Nat) :
  Calls prog 111 #[pZ b 0,.int .i64 s,.int .u32 d] W λ e w=>∃ z:QIs q (jr (ens q) s d)×Value,e=eZ z.2/\Sep.Post (qA b q) W (qA b z.1.1) w:=by
 refine(lsq.value_any h (by rw[<- jx];exact hn) s d).mono λ e w hp=>?_;have hx:fu (findP s) q.es=qix (ens q) s:=Cu _ _;unfold lsq.ValuePost lsq.valueK at hp;rw[hx] at hp;unfold jr
 cases hq:qix (ens q) s with
 | none =>
  rw[hq] at hp;exact⟨⟨⟨q,rfl,rfl⟩,_⟩,hp.1,hp.2⟩
 | some k =>
  rw[hq] at hp;dsimp only at hp ⊢
  cases hk:q.es[k]? with
  | none =>
   rw[hq] at hx;obtain⟨x,hx2, -⟩:=lsq.pos_some hx;rw[hk] at hx2;cases hx2
  | some x =>
   rw[hk] at hp;dsimp only at hp;rw[Ao hk];by_cases h1:(!x.2.store||x.2.valued)=true
   ·rw[if_pos h1] at hp
    rw[if_pos (by
     cases hs:x.2.store with
     | false=>exact .inl rfl
     | true=>rw[hs] at h1;exact .inr h1)]
    exact⟨⟨⟨q,rfl,rfl⟩,_⟩,hp.1,hp.2⟩
   ·rw[if_neg h1] at hp
    rw[if_neg (by
     rintro(e | e)
     ·rw[e] at h1;exact h1 rfl
     ·rw[e,Bool.or_true] at h1;exact h1 rfl)]
    dsimp only at hp;obtain⟨h3,x',hx',h4⟩:=hp;rw[hk] at hx';cases hx';refine⟨⟨⟨_,?_,?_⟩,_⟩,h3,h4⟩
    ·rfl
    ·unfold ens;rw[Cv]
theorem Ke (s:Int):lsq.loadP s q.es=Cj (ens q) s:=by
 have hx:fu (findP s) q.es=qix (ens q) s:=Cu _ _;unfold lsq.loadP Cj;rw[hx]
 cases hq:qix (ens q) s with
 | none=>rfl
 | some k =>
  dsimp only
  cases hk:q.es[k]? with
  | none =>
   rw[hq] at hx;obtain⟨x,hx2, -⟩:=lsq.pos_some hx;rw[hk] at hx2;cases hx2
  | some x =>
   rw[Ao hk];dsimp only;cases hs:x.2.store <;> cases hp:x.2.placed <;> rfl
def fdV:Fd->AV
 | .none=>#[.bool false,.int .i64 0,.int .u32 0]
 | .wait=>#[.bool true,.int .i64 0,.int .u32 0]
 | .got m v=>#[.bool false,.int .i64 (m:Nat),.int .u32 (v:Nat)]
theorem Wy (h:(qA b q).at_ W) (ho:∀ e ∈ ens q,e.Ok) (hn:(ens q).length≤32) (s:Int) (bold:Bool) :
  Calls prog 161 #[pZ b 0,.int .i64 s,.bool bold] W λ e w=>(∃ v:Value,e=eY #[.agg (fdV (iy (ens q) s bold)),v])/\ba W w:=by
 refine(lsq.search_any h (Mn ho) (by rw[<- jx];exact hn) s bold).mono λ e w hp=>⟨?_,hp.2⟩;have hp:=hp.1;unfold lsq.SearchPost at hp;rw[Ke] at hp;unfold iy
 cases hl:Cj (ens q) s with
 | none =>
  rw[hl] at hp;exact⟨_,hp⟩
 | some k =>
  rw[hl] at hp;obtain⟨x,hk,hp⟩:=hp;refine⟨.nilIface,?_⟩;rw[hp];unfold lsq.searchV lq;dsimp only;rw[Ao hk]
  have e1:((q.es.take k).any λ y=>lsq.unplaced y.2)=((ens q).take k).any lsq.unplaced:=by
   unfold ens;rw[<- List.map_take,List.any_map];rfl
  have e2:q.es.map (·.2)=ens q:=rfl;rw[e1,e2];by_cases h1:(!bold&&((ens q).take k).any lsq.unplaced)=true
  ·rw[if_pos h1,if_pos h1];rfl
  ·rw[if_neg h1,if_neg h1];by_cases h2:lsq.waitF (lsq.srcs ((ens q).take k) x.2.addr x.2.size)=true
   ·rw[if_pos h2,if_pos h2];rfl
   ·rw[if_neg h2,if_neg h2];rfl
theorem Wz (h:(qA b q).at_ W) (ho:∀ e ∈ ens q,e.Ok) (hn:(ens q).length≤32) (s:Int) :
  Calls prog 164 #[pZ b 0,.int .i64 s] W λ e w=>∃ z:QIs q (lr (ens q) s)×Value,e=eZ z.2/\Sep.Post (qA b q) W (qA b z.1.1) w:=by
 refine(lsq.loaded_any h (Mn ho) (by rw[<- jx];exact hn) s).mono λ e w hp=>?_;unfold lsq.LoadedPost lsq.loadedK at hp;rw[Ke] at hp;unfold lr
 cases hl:Cj (ens q) s with
 | none =>
  rw[hl] at hp;exact⟨⟨⟨q,rfl,rfl⟩,_⟩,hp.1,hp.2⟩
 | some k =>
  rw[hl] at hp;dsimp only at hp ⊢
  cases hk:q.es[k]? with
  | none =>
   have e1:(ens q)[k]?=none:=by unfold ens;rw[qS,hk];rfl
   unfold Cj at hl;split at hl
   ·cases hl
   ·rename_i j hj;have hj2:=hj;unfold qix at hj2;rw[qv] at hj2;obtain⟨h1, -⟩:=hj2;dsimp only at hl;split at hl
    ·cases hl
    ·cases hl;rw[qC h1] at e1;cases e1
  | some x =>
   rw[hk] at hp;dsimp only at hp;unfold lq;rw[Ao hk];have e2:q.es.map (·.2)=ens q:=rfl;rw[e2] at hp;by_cases h1:x.2.loaded=true∨lsq.waitF (lsq.srcs ((ens q).take k) x.2.addr x.2.size)=true
   ·rw[if_pos h1] at hp;rw[if_pos h1];exact⟨⟨⟨q,rfl,rfl⟩,_⟩,hp.1,hp.2⟩
   ·rw[if_neg h1] at hp;rw[if_neg h1];dsimp only at hp;obtain⟨h3,x',hx',h4⟩:=hp;rw[hk] at hx';cases hx';refine⟨⟨⟨_,?_,?_⟩,_⟩,h3,h4⟩
    ·rfl
    ·unfold ens;rw[Cv]
theorem Rz {α β:Type} (f:α->β):∀ (l:List α) (k:Nat),(l.eraseIdx k).map f=(l.map f).eraseIdx k
 | [],k=>by simp
 | x::l,0=>rfl
 | x::l,k+1=>by
  show f x::(l.eraseIdx k).map f=f x::(l.map f).eraseIdx k;rw[Rz f l k]
theorem Xa (h:(qA b q).at_ W) (hn:(ens q).length≤32) (s:Int) :
  Calls prog 94 #[pZ b 0,.int .i64 s] W λ e w=>∃ z:QIs q (yu (ens q) s)×Value,e=eZ z.2/\Sep.Post (qA b q) W (qA b z.1.1) w:=by
 refine(lsq.retire_any h (by rw[<- jx];exact hn) s).mono λ e w hp=>?_;have hx:fu (λ e=> !e.retired) q.es=(ens q).findIdx? (λ e=> !e.retired):=Cu _ _;unfold lsq.RetirePost lsq.retireR at hp;rw[hx] at hp;unfold yu
 cases hq:(ens q).findIdx? (λ e=> !e.retired) with
 | none =>
  rw[hq] at hp;exact⟨⟨⟨q,rfl,rfl⟩,_⟩,hp.1,hp.2⟩
 | some k =>
  rw[hq] at hp;dsimp only at hp ⊢
  cases hk:q.es[k]? with
  | none =>
   rw[hq] at hx;obtain⟨x,hx2, -⟩:=lsq.pos_some hx;rw[hk] at hx2;cases hx2
  | some x =>
   rw[hk] at hp;dsimp only at hp;rw[Ao hk];unfold lsq.retE at hp;by_cases h1:x.2.seq≠s
   ·rw[if_pos h1] at hp;rw[if_pos h1];exact⟨⟨⟨q,rfl,rfl⟩,_⟩,hp.1,hp.2⟩
   ·rw[if_neg h1] at hp;rw[if_neg h1];by_cases h2:(x.2.store&&x.2.placed&&x.2.valued)=true
    ·rw[if_pos h2] at hp
     rw[if_pos (by
      simp only[qU] at h2
      exact⟨h2.1.1,h2.1.2,h2.2⟩)]
     dsimp only at hp;obtain⟨h3,x',hx',h4⟩:=hp;rw[hk] at hx';cases hx';refine⟨⟨⟨_,?_,?_⟩,_⟩,h3,h4⟩
     ·rfl
     ·unfold ens;rw[Cv]
    ·rw[if_neg h2] at hp;rw[if_neg (λ e=>h2 (by rw[e.1,e.2.1,e.2.2];rfl))];by_cases h3:x.2.loaded=true
     ·rw[if_pos h3] at hp;rw[if_pos h3];dsimp only at hp;obtain⟨h3,p,c,h4⟩:=hp;refine⟨⟨⟨_,?_,?_⟩,_⟩,h3,h4⟩
      ·rfl
      ·exact Rz (λ x:Nat×En=>x.2) q.es k
     ·rw[if_neg h3] at hp;rw[if_neg h3];exact⟨⟨⟨q,rfl,rfl⟩,_⟩,hp.1,hp.2⟩
theorem Sa:lsq.oldestOf q.es=za (ens q):=by
 unfold ens lsq.oldestOf za
 cases q.es with
 | nil=>rfl
 | cons x r=>rfl
theorem wc (h:(qA b q).at_ W) (ho:∀ e ∈ ens q,e.Ok) :
  Calls prog 43 #[pZ b 0] W λ e w=>e=eY #[.agg (lsq.wrV (za (ens q))),.bool (za (ens q)).isSome]/\ba W w:=by
 rw[<- Sa];exact lsq.oldest_any h (Mn ho)
theorem adn (h:(qA b q).at_ W) (ho:∀ e ∈ ens q,e.Ok) (hn:(ens q).length≤32) :
  Calls prog 72 #[pZ b 0] W λ e w=>∃ z:QIs q (iz (ens q))×Value,e=eZ z.2/\Sep.Post (qA b q) W (qA b z.1.1) w:=by
 refine(lsq.drain_any h (Mn ho) (by rw[<- jx];exact hn)).mono λ e w hp=>?_;unfold lsq.DrainPost at hp;rw[Sa] at hp;unfold iz
 cases hq:za (ens q) with
 | none =>
  rw[hq] at hp;exact⟨⟨⟨q,rfl,rfl⟩,_⟩,hp.1,hp.2⟩
 | some o =>
  rw[hq] at hp;obtain⟨h3,p,c,h4⟩:=hp;refine⟨⟨⟨_,?_,?_⟩,_⟩,h3,h4⟩
  ·rfl
  unfold ens lsq.drained;dsimp only;rw[List.map_map,<- List.map_drop,List.map_map];rfl
theorem Xb (h:(qA b q).at_ W) (hn:(ens q).length≤32) (s:Int) :
  Calls prog 88 #[pZ b 0,.int .i64 s] W λ e w=>∃ z:QIs q ((ens q).filter (lsq.keepP s)),e=eY #[]/\Sep.Post (qA b q) W (qA b z.1) w:=by
 refine(lsq.squash_any h (by rw[<- jx];exact hn) s).mono λ e w hp=>⟨⟨{ q with es:=q.es.filter λ x=>lsq.keepP s x.2 },rfl,?_⟩,hp.1,hp.2⟩;unfold ens;dsimp only;rw[List.filter_map];rfl
def ald:Option En->Int
 | some x=>x.seq
 | none=> -1
theorem ado (h:(qA b q).at_ W) (ho:∀ e ∈ ens q,e.Ok) (hn:(ens q).length≤32) (l:Nat) (hl:l<4294967296) :
  Calls prog 53 #[pZ b 0,.int .u32 l] W λ e w=>e=eZ (.int .i64 (ald ((ens q).find? (lsq.spoilP l))))/\ba W w:=by
 refine(lsq.spoil_any h (Mn ho) (by rw[<- jx];exact hn) l hl).mono λ e w hp=>⟨?_,hp.2⟩;rw[hp.1]
 have:lsq.seqOf (q.es.find? λ x=>lsq.spoilP l x.2)=ald ((ens q).find? (lsq.spoilP l)):=by
  unfold ens;rw[<- Cw (α:=Unit)];cases q.es.find? λ x=>lsq.spoilP l x.2 <;> rfl
 rw[this]
theorem ale (h:(qA b q).at_ W):Calls prog 116 #[pZ b 0] W λ e w=>e=eZ (.int .i64 (ens q).length)/\w=W:=by
 rw[jx];exact lsq.qlen_any h
theorem adp (h:(qA b q).at_ W) (hn:(ens q).length<q.size) (hs:q.size≤32){s:Int} (h0:0≤s) (hl:∀ e ∈ ens q,e.seq<s) (st:Bool) :
  Calls prog 121 #[pZ b 0,.int .i64 s,.bool st] W λ e w=>∃ z:QIs q (ens q++[lsq.newEn s st]),e=eZ .nilIface/\Sep.Post (qA b q) W (qA b z.1) w:=by
 refine(lsq.enter_any h (by rw[<- jx];omega) s st).mono λ e w hp=>?_
 have hle:lsq.lateE (ens q) s=false:=by
  unfold lsq.lateE;split
  ·rename_i x hx;have:=hl x (List.mem_of_getLast? hx);exact qM (by omega)
  ·rfl
 have he:lsq.enterE q.size (ens q) s=none:=by
  unfold lsq.enterE;rw[if_neg (λ e=>e.elim (λ e=>by omega) (λ e=>by rw[hle] at e;cases e)),if_neg (by omega)]
 unfold lsq.EnterPost at hp;rw[he] at hp;obtain⟨h1,k,p,c,h2⟩:=hp;refine⟨⟨_,?_,?_⟩,h1,h2⟩
 ·rfl
 ·unfold ens;rw[qV];rfl
end Go.Proofs.YtmncepdbglaphaaGreatDoor.ko
