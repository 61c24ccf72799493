/- What each function asks, reckoned out of its text; printed by a program of mine (wip/tpl/VcTool.lean). No condition. -/
import Derived.Test.YtojogkljneonmaaGreatDoorSxB
import Derived.Test.YtojogkljneonmaaGreatDoorLangVh
import Derived.Test.YtojogkljneonmaaGreatDoorChecked
import Derived.ProofKit
set_option linter.unusedVariables false
set_option linter.unusedSimpArgs false
namespace Go.Proofs.YtojogkljneonmaaGreatDoor
open Go Go.Proofs.Tryz Go.Proofs Go.V
set_option maxRecDepth 100000
variable {W:World}{Q:Ending->World->Prop}
def si:List Nat:=[1000052,1000091,53,50,51,93,94,95,111,112,113,130,131,132,144,171,172,54,128,142,129,56,26,55,27,57,58,97,115,133,114,116]
theorem akj (y0:Nat) (Y0:Nat) (y1:Array Value) (y2:ByteArray)
 (hVC:alc W (Value.cells (Value.agg y1)) 87 λ k W2=>ldM W2 y0 (Y0+1) λ p=>Sx.mapp p (λ k2=>∃ I:ByteArray->Option Value,Sx.MpS W2 k2 I/\∃ v:Value,Option.getD (I y2) Value.nilIface=v/\Sx.split (Option.isSome (I y2)) (ldI .i64 W2 k (0+2) λ z=>pX prog 52 #[.int .i64 z,.int .i64 9] W2 Q) (rI prog .i64 96 #[pp y0 Y0,.string y2] W2 λ z2 W4=>Sx.split (decide (z2 ≥ 0)) (ldI .i64 W4 k (0+2) λ z3=>pX prog 52 #[.int .i64 z3,.int .i64 9] W4 Q) (ldP W4 y0 (Y0+4) λ p2=>Sx.ptr p2 λ a=>yb .i64 W4 a 6 λ z4=>Sx.split (z4==24) (ldI .i64 W4 k (0+2) λ z5=>pX prog 52 #[.int .i64 z5,.int .i64 4] W4 Q) (∃ I2:World->Prop,(nm (World.drew W4) λ W7=>ldL W7 y0 (Y0+2) λ p3 k3 k4=>ldL W7 y0 (Y0+3) λ p4 k5 k6=>ldP W7 y0 (Y0+4) λ p5=>Sx.ptr p5 λ a2=>yb .i64 W7 a2 6 λ z6=>(alc W7 #[.string y2] 9 λ k7 W8=>RowKit.Below (Array.size (World.heap W7)) W7 W8/\(yb .i64 W8 a2 6 λ z7=>Value.int .i64 z7=Value.int .i64 z6)/\(ldP W8 y0 (Y0+4) λ p6=>Value.pointer p6=Value.pointer p5)/\(ldL W8 y0 (Y0+3) λ p7 k8 k9=>Value.slice p7 k8 k9=Value.slice p4 k5 k6)/\(apn W8 9 1 p3 k3 k4 1 (some ⟨k7,0,none⟩) 16 λ p8 k11 W9=>(yb .i64 W9 a2 6 λ z8=>Value.int .i64 z8=Value.int .i64 z6)/\(ldP W9 y0 (Y0+4) λ p9=>Value.pointer p9=Value.pointer p5)/\(ldL W9 y0 (Y0+3) λ p10 k14 k15=>Value.slice p10 k14 k15=Value.slice p4 k5 k6)/\alc W9 #[.int .i64 z6] 3 λ k16 W10=>(ldL W10 y0 (Y0+3) λ p11 k17 k18=>Value.slice p11 k17 k18=Value.slice p4 k5 k6)/\apn W10 3 1 p4 k5 k6 1 (some ⟨k16,0,none⟩) 8 λ p12 k20 W11=>sto W11 y0 (Y0+2) (Value.slice p8 (k3+1) k11) λ W12=>sto W12 y0 (Y0+3) (Value.slice p12 (k5+1) k20) λ W13=>I2 W13)/\alc W8 #[.int .i64 z6] 3 λ k23 W14=>RowKit.Below (Array.size (World.heap W7)) W7 W14/\(ldL W14 y0 (Y0+3) λ p13 k24 k25=>Value.slice p13 k24 k25=Value.slice p4 k5 k6)/\apn W14 9 1 p3 k3 k4 1 (some ⟨k7,0,none⟩) 16 λ p14 k27 W15=>(ldL W15 y0 (Y0+3) λ p15 k30 k31=>Value.slice p15 k30 k31=Value.slice p4 k5 k6)/\apn W15 3 1 p4 k5 k6 1 (some ⟨k23,0,none⟩) 8 λ p16 k33 W16=>sto W16 y0 (Y0+2) (Value.slice p14 (k3+1) k27) λ W17=>sto W17 y0 (Y0+3) (Value.slice p16 (k5+1) k33) λ W18=>I2 W18)/\alc W7 #[.int .i64 z6] 3 λ k36 W19=>RowKit.Below (Array.size (World.heap W7)) W7 W19/\(ldL W19 y0 (Y0+3) λ p17 k37 k38=>Value.slice p17 k37 k38=Value.slice p4 k5 k6)/\alc W19 #[.string y2] 9 λ k39 W20=>RowKit.Below (Array.size (World.heap W7)) W7 W20/\(ldL W20 y0 (Y0+3) λ p18 k40 k41=>Value.slice p18 k40 k41=Value.slice p4 k5 k6)/\apn W20 9 1 p3 k3 k4 1 (some ⟨k39,0,none⟩) 16 λ p19 k43 W21=>(ldL W21 y0 (Y0+3) λ p20 k46 k47=>Value.slice p20 k46 k47=Value.slice p4 k5 k6)/\apn W21 3 1 p4 k5 k6 1 (some ⟨k36,0,none⟩) 8 λ p21 k49 W22=>sto W22 y0 (Y0+2) (Value.slice p19 (k3+1) k43) λ W23=>sto W23 y0 (Y0+3) (Value.slice p21 (k5+1) k49) λ W24=>I2 W24)/\(wv (∀ W25:World,I2 W25->ldP W25 y0 (Y0+4) λ p22=>Sx.ptr p22 λ a9=>yb .i64 W25 a9 6 λ z9=>nm (IntKind.wrap .i64 (z9+1)) λ z10=>Sx.ptr p22 λ a10=>Kk W25 a10 6 (Value.int .i64 z10) λ W26=>ldP W26 y0 (Y0+4) λ p23=>Sx.ptr p23 λ a11=>yb .i64 W26 a11 6 λ z11=>nm (IntKind.wrap .i64 (z11 - 1)) λ z12=>Q (.returned (.int .i64 z12)) W26))))))) :
 Calls prog 57 #[pp y0 Y0,.agg y1,.string y2] W Q :=
 Sx.sound (pk:=si) func57 (.r (.r (.r (.node [] [0] 1 (.node [] [] 1001009 .leaf .leaf) .leaf)))) [pp y0 Y0,.agg y1,.string y2] rfl (Eq.mp (by kernel_rfl) hVC)
theorem akk (s:Nat) (so:Nat) (b:Nat) (bo:Nat)
 (hVC:ldL W s (so+2) λ p k k2=>ldL W b bo λ p2 k3 k4=>∃ I:Int->World->Prop,∃ I2:Int->World->Nat,I 0 W/\(wv (∀ x:Int,∀ W2:World,I x W2->Sx.split (decide (x<(↑k3:Int))) (ixs x k3 p2 λ k5 k6=>ldV W2 k5 (k6+x.toNat * 1) λ v=>pU prog 97 #[pp s so,v] W2 Q λ W3=>nm (IntKind.wrap .i64 (x+1)) λ z=>I z W3/\I2 z W3<I2 x W2) (nm (World.drew W2) λ W4=>ldL W4 s (so+2) λ p3 k7 k8=>((0:Int)≤(↑k:Int)/\(↑k:Int)≤(↑k8:Int))/\ldL W4 s (so+3) λ p4 k9 k10=>((0:Int)≤(↑k:Int)/\(↑k:Int)≤(↑k10:Int))/\sto W4 s (so+2) (Value.slice p3 (Int.toNat (↑k:Int)) k8) λ W5=>sto W5 s (so+3) (Value.slice p4 (Int.toNat (↑k:Int)) k10) λ W6=>Q (.returned (.tuple #[])) W6)))) :
 Calls prog 58 #[pp s so,pp b bo] W Q :=
 Sx.sound (pk:=si) func58 (.r (.n (.r (.n (.node [(17,.int .i64)] [16,15,0,4] 0 .leaf .leaf) .leaf)) (.node [] [] 1001017 .leaf .leaf))) [pp s so,pp b bo] rfl (Eq.mp (by kernel_rfl) hVC)
theorem akl (s:Nat) (so:Nat) (n:ByteArray)
 (hVC:ldL W s (so+2) λ p k k2=>∃ I:Int->World->Prop,∃ I2:Int->World->Nat,I 0 W/\(wv (∀ x:Int,∀ W2:World,I x W2->Sx.split (decide (x<(↑k:Int))) (ixs x k p λ k3 k4=>ldS W2 k3 (k4+x.toNat * 1) λ s2=>Sx.split (s2.toList==n.toList) (ldL W2 s (so+3) λ p2 k5 k6=>ixs x k5 p2 λ k7 k8=>ldI .i64 W2 k7 (k8+x.toNat * 1) λ z=>Q (.returned (.int .i64 z)) W2) (nm (IntKind.wrap .i64 (x+1)) λ z2=>I z2 W2/\I2 z2 W2<I2 x W2)) (Q (.returned (.int .i64 (-1))) W2)))) :
 Calls prog 96 #[pp s so,.string n] W Q :=
 Sx.sound (pk:=si) func96 (.r (.n (.r (.n (.node [(12,.int .i64)] [11,10,1,0] 0 .leaf .leaf) .leaf)) .leaf)) [pp s so,.string n] rfl (Eq.mp (by kernel_rfl) hVC)
theorem akm (y0:Nat) (Y0:Nat) (y1:Value)
 (hVC:Sx.tagOf y1 165 (λ v=>∃ p:Option Addr,v=Value.pointer p/\Sx.ptr p λ a=>agw W a 5 λ t=>Sx.split (!t) (Sx.ptr p λ a2=>xm W a2 3 λ p2=>pU prog 114 #[pp y0 Y0,.pointer p2] W Q λ W2=>Sx.ptr p λ a3=>Bm W2 a3 4 λ v2=>pU prog 115 #[pp y0 Y0,v2,.int .i64 0] W2 Q λ W3=>Sx.ptr p λ a4=>agw W3 a4 5 λ t2=>Sx.split t2 (nm (World.drew W3) λ W4=>Sx.ptr p λ a5=>Sx.ptr p λ a6=>Sx.ptr p λ a7=>agx W4 a6 0 3 λ vs=>xm W4 a7 3 λ p3=>Sx.ptr p3 λ a8=>∃ s:ByteArray,World.cell? W4 (Addr.add (Addr.add a8 0) 1)=some (.string s)/\xm W4 a5 3 λ p4=>pI prog .i64 57 #[pp y0 Y0,.agg vs,.string s] W4 Q λ z W5=>(xm W5 a5 3 λ p5=>Value.pointer p5=Value.pointer p4)/\Sx.ptr p4 λ a9=>Kk W5 a9 3 (Value.int .i64 z) λ W6=>Q (.returned (.tuple #[])) W6) (Q (.returned (.tuple #[])) W3)) (Sx.ptr p λ a10=>Bm W a10 4 λ v4=>pU prog 115 #[pp y0 Y0,v4,.int .i64 0] W Q λ W7=>Sx.ptr p λ a11=>agw W7 a11 5 λ t3=>Sx.split t3 (nm (World.drew W7) λ W8=>Sx.ptr p λ a12=>Sx.ptr p λ a13=>Sx.ptr p λ a14=>agx W8 a13 0 3 λ vs2=>xm W8 a14 3 λ p6=>Sx.ptr p6 λ a15=>∃ s2:ByteArray,World.cell? W8 (Addr.add (Addr.add a15 0) 1)=some (.string s2)/\xm W8 a12 3 λ p7=>pI prog .i64 57 #[pp y0 Y0,.agg vs2,.string s2] W8 Q λ z2 W9=>(xm W9 a12 3 λ p8=>Value.pointer p8=Value.pointer p7)/\Sx.ptr p7 λ a16=>Kk W9 a16 3 (Value.int .i64 z2) λ W10=>Q (.returned (.tuple #[])) W10) (Q (.returned (.tuple #[])) W7))) (Sx.tagOf y1 174 (λ v6=>∃ p9:Option Addr,v6=Value.pointer p9/\Sx.ptr p9 λ a17=>xm W a17 0 λ p10=>pU prog 116 #[pp y0 Y0,.pointer p10] W Q λ W11=>Sx.ptr p9 λ a18=>xm W11 a18 0 λ p11=>Sx.ptr p11 λ a19=>Bm W11 a19 5 λ v7=>pU prog 115 #[pp y0 Y0,v7,.int .i64 0] W11 Q λ W12=>Sx.ptr p9 λ a20=>Bm W12 a20 1 λ v8=>pU prog 115 #[pp y0 Y0,v8,.int .i64 1] W12 Q λ W13=>Q (.returned (.tuple #[])) W13) (Sx.tagOf y1 181 (λ v9=>∃ p12:Option Addr,v9=Value.pointer p12/\Sx.ptr p12 λ a21=>Bm W a21 0 λ v10=>pU prog 115 #[pp y0 Y0,v10,.int .i64 0] W Q λ W14=>Sx.ptr p12 λ a22=>xm W14 a22 1 λ p13=>pU prog 58 #[pp y0 Y0,.pointer p13] W14 Q λ W15=>Sx.ptr p12 λ a23=>xm W15 a23 2 λ p14=>Sx.split (Option.isSome p14) (Sx.ptr p12 λ a24=>xm W15 a24 2 λ p15=>pU prog 58 #[pp y0 Y0,.pointer p15] W15 Q λ W16=>Q (.returned (.tuple #[])) W16) (Q (.returned (.tuple #[])) W15)) (Sx.tagOf y1 184 (λ v11=>∃ p16:Option Addr,v11=Value.pointer p16/\Sx.ptr p16 λ a25=>Bm W a25 0 λ v12=>pU prog 115 #[pp y0 Y0,v12,.int .i64 0] W Q λ W17=>Sx.ptr p16 λ a26=>xm W17 a26 1 λ p17=>pU prog 58 #[pp y0 Y0,.pointer p17] W17 Q λ W18=>Q (.returned (.tuple #[])) W18) (Sx.tagOf y1 187 (λ v13=>∃ p18:Option Addr,v13=Value.pointer p18/\Sx.ptr p18 λ a27=>Bm W a27 0 λ v14=>pU prog 115 #[pp y0 Y0,v14,.int .i64 0] W Q λ W19=>Q (.returned (.tuple #[])) W19) (Sx.tagOf y1 190 (λ v15=>∃ p19:Option Addr,v15=Value.pointer p19/\Sx.ptr p19 λ a28=>Bm W a28 0 λ v16=>pU prog 115 #[pp y0 Y0,v16,.int .i64 0] W Q λ W20=>Q (.returned (.tuple #[])) W20) (Sx.tagOf y1 192 (λ v17=>∃ p20:Option Addr,v17=Value.pointer p20/\Sx.ptr p20 λ a29=>xm W a29 0 λ p21=>pU prog 115 #[pp y0 Y0,.iface 193 (Value.pointer p21),.int .i64 0] W Q λ W21=>Q (.returned (.tuple #[])) W21) (Sx.tagOf y1 113 (λ v18=>∃ p22:Option Addr,v18=Value.pointer p22/\pU prog 58 #[pp y0 Y0,.pointer p22] W Q λ W22=>Q (.returned (.tuple #[])) W22) (Q (.returned (.tuple #[])) W))))))))) :
 Calls prog 97 #[pp y0 Y0,y1] W Q :=
 Sx.sound (pk:=si) func97 (.r (.n (.r (.n (.r (.r (.r (.r (.n (.node [] [] 1001018 .leaf .leaf) .leaf))))) .leaf)) .leaf)) [pp y0 Y0,y1] rfl (Eq.mp (by kernel_rfl) hVC)
theorem agy (s:Nat) (so:Nat) (n:Nat) (no:Nat)
 (hVC:ldS W n (no+1) λ s2=>rI prog .i64 96 #[pp s so,.string s2] W λ z W2=>sto W2 n (no+3) (Value.int .i64 z) λ W3=>ldI .i64 W3 n (no+3) λ z2=>Sx.split (decide (z2 ≥ 0)) (Q (.returned (.tuple #[])) W3) (ldM W3 s (so+1) λ p=>ldS W3 n (no+1) λ s3=>Sx.mapp p (λ k=>∃ I:ByteArray->Option Value,Sx.MpS W3 k I/\∃ v2:Value,Option.getD (I s3) Value.nilIface=v2/\Sx.tagOf v2 125 (λ v3=>∃ p2:Option Addr,v3=Value.pointer p2/\∀ W4:World,∀ k2:Nat,W4=World.drewN W3 k2->Sx.ptr p2 λ a=>yb .i64 W4 a 5 λ z3=>Sx.split (decide (z3 > 0)) (ldI .i64 W4 n (no+2) λ z4=>pX prog 52 #[.int .i64 z4,.int .i64 9] W4 Q) (Sx.ptr p2 λ a2=>yb .i64 W4 a2 4 λ z5=>sto W4 n (no+4) (Value.int .i64 z5) λ W6=>Q (.returned (.tuple #[])) W6)) (∀ W7:World,∀ k3:Nat,W7=World.drewN W3 k3->ldI .i64 W7 n (no+2) λ z6=>pX prog 52 #[.int .i64 z6,.int .i64 9] W7 Q)))) :
 Calls prog 114 #[pp s so,pp n no] W Q :=
 Sx.sound (pk:=si) func114 .leaf [pp s so,pp n no] rfl (Eq.mp (by kernel_rfl) hVC)
theorem agz (s:Nat) (so:Nat) (x:Value) (beside:Int)
 (hVC:pU prog 133 #[pp s so,x] W Q λ W2=>∃ u:FuncId,∃ vs:Array Value,Sx.meth prog x "Need" #[] W2 u vs/\rI prog .i64 u vs W2 λ z W3=>nm (IntKind.wrap .i64 (z+beside)) λ z2=>Sx.split (decide (z2 > 8)) (rI prog .i64 134 #[x] W3 λ z3 W4=>pX prog 52 #[.int .i64 z3,.int .i64 4] W4 Q) (Q (.returned (.tuple #[])) W3)) :
 Calls prog 115 #[pp s so,x,.int .i64 beside] W Q :=
 Sx.sound (pk:=si) func115 .leaf [pp s so,x,.int .i64 beside] rfl (Eq.mp (by kernel_rfl) hVC)
theorem aha (s:Nat) (so:Nat) (i:Nat) (io:Nat)
 (hVC:ldM W s (so+1) λ p=>ldS W i (io+1) λ s2=>Sx.mapp p (λ k=>∃ I:ByteArray->Option Value,Sx.MpS W k I/\∃ v:Value,Option.getD (I s2) Value.nilIface=v/\Sx.tagOf v 125 (λ v2=>∃ p2:Option Addr,v2=Value.pointer p2/\∀ W2:World,∀ k2:Nat,W2=World.drewN W k2->Sx.ptr p2 λ a=>yb .i64 W2 a 5 λ z=>Sx.split (z==0) (ldI .i64 W2 i (io+2) λ z2=>pX prog 52 #[.int .i64 z2,.int .i64 9] W2 Q) (ldS W2 i (io+1) λ s3=>rI prog .i64 96 #[pp s so,.string s3] W2 λ z3 W4=>Sx.split (decide (z3 ≥ 0)) (ldI .i64 W4 i (io+2) λ z4=>pX prog 52 #[.int .i64 z4,.int .i64 9] W4 Q) (nm (World.drew W4) λ W6=>Sx.ptr p2 λ a2=>Sx.ptr p2 λ a3=>yb .i64 W6 a2 4 λ z5=>yb .i64 W6 a3 5 λ z6=>nm (IntKind.wrap .u32 z6) λ z7=>sto W6 i (io+3) (Value.int .i64 z5) λ W7=>sto W7 i (io+4) (Value.int .u32 z7) λ W8=>Q (.returned (.tuple #[])) W8))) (∀ W9:World,∀ k3:Nat,W9=World.drewN W k3->ldI .i64 W9 i (io+2) λ z8=>pX prog 52 #[.int .i64 z8,.int .i64 9] W9 Q))) :
 Calls prog 116 #[pp s so,pp i io] W Q :=
 Sx.sound (pk:=si) func116 (.r (.r (.node [] [] 1001014 .leaf .leaf))) [pp s so,pp i io] rfl (Eq.mp (by kernel_rfl) hVC)
theorem ahb (y0:Nat) (Y0:Nat) (y1:Value)
 (hVC:Sx.tagOf y1 167 (λ v=>∃ p:Option Addr,v=Value.pointer p/\pU prog 114 #[pp y0 Y0,.pointer p] W Q λ W2=>Q (.returned (.tuple #[])) W2) (Sx.tagOf y1 177 (λ v2=>∃ p2:Option Addr,v2=Value.pointer p2/\pU prog 116 #[pp y0 Y0,.pointer p2] W Q λ W3=>Sx.ptr p2 λ a=>Bm W3 a 5 λ v3=>pU prog 133 #[pp y0 Y0,v3] W3 Q λ W4=>Q (.returned (.tuple #[])) W4) (Sx.tagOf y1 193 (λ v4=>∃ p3:Option Addr,v4=Value.pointer p3/\ldM W y0 (Y0+1) λ p4=>Sx.ptr p3 λ a2=>∃ s:ByteArray,World.cell? W (Addr.add (Addr.add a2 0) 1)=some (.string s)/\Sx.mapp p4 (λ k=>∃ I:ByteArray->Option Value,Sx.MpS W k I/\∃ v5:Value,Option.getD (I s) Value.nilIface=v5/\Sx.tagOf v5 63 (λ v6=>∃ p5:Option Addr,v6=Value.pointer p5/\∀ W5:World,∀ k2:Nat,W5=World.drewN W k2->nm (World.drew W5) λ W6=>Sx.ptr p3 λ a3=>∃ s2:ByteArray,World.cell? W6 (Addr.add (Addr.add a3 0) 1)=some (.string s2)/\rI prog .i64 96 #[pp y0 Y0,.string s2] W6 λ z W7=>Sx.split (decide (z ≥ 0)) (Sx.ptr p3 λ a4=>∃ z2:Int,World.cell? W7 (Addr.add (Addr.add a4 0) 2)=some (.int .i64 z2)/\pX prog 52 #[.int .i64 z2,.int .i64 9] W7 Q) (Sx.ptr p5 λ a5=>Sx.ptr p3 λ a6=>Ee W7 a5 4 λ p6 k3 k4=>Ee W7 a6 4 λ p7 k5 k6=>Sx.split ((↑k3:Int) !=(↑k5:Int)) (Sx.ptr p3 λ a7=>∃ z3:Int,World.cell? W7 (Addr.add (Addr.add a7 0) 2)=some (.int .i64 z3)/\pX prog 52 #[.int .i64 z3,.int .i64 9] W7 Q) (Sx.ptr p3 λ a8=>Kk W7 a8 3 (Value.pointer p5) λ W10=>Sx.ptr p3 λ a9=>Ee W10 a9 4 λ p8 k7 k8=>∃ I2:Int->World->Prop,∃ I3:Int->World->Nat,I2 0 W10/\(wv (∀ x:Int,∀ W11:World,I2 x W11->Sx.split (decide (x<(↑k7:Int))) (ixs x k7 p8 λ k9 k10=>ldV W11 k9 (k10+x.toNat * 1) λ v8=>pU prog 133 #[pp y0 Y0,v8] W11 Q λ W12=>nm (IntKind.wrap .i64 (x+1)) λ z4=>I2 z4 W12/\I3 z4 W12<I3 x W11) (Q (.returned (.tuple #[])) W11)))))) (∀ W13:World,∀ k11:Nat,W13=World.drewN W k11->nm (World.drew W13) λ W14=>Sx.ptr p3 λ a10=>∃ z5:Int,World.cell? W14 (Addr.add (Addr.add a10 0) 2)=some (.int .i64 z5)/\pX prog 52 #[.int .i64 z5,.int .i64 9] W14 Q))) (Sx.tagOf y1 215 (λ v9=>∃ p9:Option Addr,v9=Value.pointer p9/\Sx.ptr p9 λ a11=>Bm W a11 4 λ v10=>pU prog 133 #[pp y0 Y0,v10] W Q λ W16=>Q (.returned (.tuple #[])) W16) (Sx.tagOf y1 218 (λ v11=>∃ p10:Option Addr,v11=Value.pointer p10/\Sx.ptr p10 λ a12=>Bm W a12 4 λ v12=>pU prog 133 #[pp y0 Y0,v12] W Q λ W17=>Sx.ptr p10 λ a13=>Bm W17 a13 5 λ v13=>pU prog 133 #[pp y0 Y0,v13] W17 Q λ W18=>Q (.returned (.tuple #[])) W18) (Q (.returned (.tuple #[])) W)))))) :
 Calls prog 133 #[pp y0 Y0,y1] W Q :=
 Sx.sound (pk:=si) func133 (.r (.n (.r (.r (.r (.r (.r (.n (.r (.r (.n (.n (.node [] [] 1001010 .leaf .leaf) .leaf) (.r (.r (.n (.node [(89,.int .i64)] [88,87,0] 0 .leaf .leaf) .leaf)))))) .leaf)))))) .leaf)) [pp y0 Y0,y1] rfl (Eq.mp (by kernel_rfl) hVC)
theorem ahc (x:Value)
 (hVC:Sx.tagOf x 167 (λ v=>∃ p:Option Addr,v=Value.pointer p/\Sx.ptr p λ a=>∃ z:Int,World.cell? W (Addr.add (Addr.add a 0) 2)=some (.int .i64 z)/\Q (.returned (.int .i64 z)) W) (Sx.tagOf x 177 (λ v2=>∃ p2:Option Addr,v2=Value.pointer p2/\Sx.ptr p2 λ a2=>∃ z2:Int,World.cell? W (Addr.add (Addr.add a2 0) 2)=some (.int .i64 z2)/\Q (.returned (.int .i64 z2)) W) (Sx.tagOf x 193 (λ v3=>∃ p3:Option Addr,v3=Value.pointer p3/\Sx.ptr p3 λ a3=>∃ z3:Int,World.cell? W (Addr.add (Addr.add a3 0) 2)=some (.int .i64 z3)/\Q (.returned (.int .i64 z3)) W) (Sx.tagOf x 215 (λ v4=>∃ p4:Option Addr,v4=Value.pointer p4/\Sx.ptr p4 λ a4=>∃ z4:Int,World.cell? W (Addr.add (Addr.add a4 0) 2)=some (.int .i64 z4)/\Q (.returned (.int .i64 z4)) W) (Sx.tagOf x 218 (λ v5=>∃ p5:Option Addr,v5=Value.pointer p5/\Sx.ptr p5 λ a5=>∃ z5:Int,World.cell? W (Addr.add (Addr.add a5 0) 2)=some (.int .i64 z5)/\Q (.returned (.int .i64 z5)) W) (Q (.returned (.int .i64 0)) W)))))) :
 Calls prog 134 #[x] W Q :=
 Sx.sound (pk:=si) func134 .leaf [x] rfl (Eq.mp (by kernel_rfl) hVC)
theorem akn (y0:Nat) (Y0:Nat)
 (hVC:∀ k:Nat,∀ W2:World,k=Array.size (World.heap W)->W2=World.alloc W (Obj.map #[] 0)->ldL W2 y0 (Y0+3) λ p k2 k3=>∃ I:Int->Int->World->Prop,∃ I2:Int->Int->World->Nat,I 0 0 W2/\(wv (∀ x:Int,∀ x2:Int,∀ W3:World,I x x2 W3->Sx.split (decide (x<(↑k2:Int))) (ixs x k2 p λ k4 k5=>ldV W3 k4 (k5+x.toNat * 1) λ v=>Sx.tagOf v 125 (λ v2=>∃ p2:Option Addr,v2=Value.pointer p2/\Sx.ptr p2 λ a=>Kk W3 a 4 (Value.int .i64 x2) λ W4=>Sx.ptr p2 λ a2=>yb .i64 W4 a2 5 λ z=>nm (IntKind.wrap .i64 (x2+if z > 1 then z else 1)) λ z2=>Sx.ptr p2 λ a3=>aba W4 a3 3 λ s=>∃ I3:ByteArray->Option Value,Sx.MpS W4 k I3/\∃ v4:Value,Option.getD (I3 s) Value.nilIface=v4/\Sx.split (!Option.isSome (I3 s)) (Sx.ptr p2 λ a4=>aba W4 a4 3 λ s2=>∃ I4:ByteArray->Option Value,Sx.MpS W4 k I4/\∀ W5:World,Sx.MpS W5 k (Sx.updS I4 s2 (some (.iface 125 (Value.pointer p2))))->(XHeap.XTouch (λ q=>q=k) W4 W5->nm (IntKind.wrap .i64 (x+1)) λ z3=>I z3 z2 W5/\I2 z3 z2 W5<I2 x x2 W3)) (nm (IntKind.wrap .i64 (x+1)) λ z4=>I z4 z2 W4/\I2 z4 z2 W4<I2 x x2 W3)) (Sx.tagOf v 63 (λ v5=>∃ p3:Option Addr,v5=Value.pointer p3/\ldL W3 y0 Y0 λ p4 k6 k7=>Sx.ptr p3 λ a5=>Kk W3 a5 7 (Value.int .i64 (↑k6:Int)) λ W6=>ldL W6 y0 Y0 λ p5 k8 k9=>alc W6 #[.pointer p3] 63 λ k10 W7=>apn W7 63 1 p5 k8 k9 1 (some ⟨k10,0,none⟩) 8 λ p6 k12 W8=>sto W8 y0 Y0 (Value.slice p6 (k8+1) k12) λ W9=>Sx.ptr p3 λ a7=>aba W9 a7 3 λ s3=>∃ I5:ByteArray->Option Value,Sx.MpS W9 k I5/\∃ v10:Value,Option.getD (I5 s3) Value.nilIface=v10/\Sx.split (!Option.isSome (I5 s3)) (Sx.ptr p3 λ a8=>aba W9 a8 3 λ s4=>∃ I6:ByteArray->Option Value,Sx.MpS W9 k I6/\∀ W10:World,Sx.MpS W10 k (Sx.updS I6 s4 (some (.iface 63 (Value.pointer p3))))->(XHeap.XTouch (λ q=>q=k) W9 W10->nm (IntKind.wrap .i64 (x+1)) λ z5=>I z5 x2 W10/\I2 z5 x2 W10<I2 x x2 W3)) (nm (IntKind.wrap .i64 (x+1)) λ z6=>I z6 x2 W9/\I2 z6 x2 W9<I2 x x2 W3)) (nm (IntKind.wrap .i64 (x+1)) λ z7=>I z7 x2 W3/\I2 z7 x2 W3<I2 x x2 W3))) (sto W3 y0 (Y0+2) (Value.int .i64 x2) λ W11=>ldL W11 y0 (Y0+3) λ p7 k15 k16=>∃ I7:Int->World->Prop,∃ I8:Int->World->Nat,I7 0 W11/\(wv (∀ x3:Int,∀ W12:World,I7 x3 W12->Sx.split (decide (x3<(↑k15:Int))) (ixs x3 k15 p7 λ k17 k18=>ldV W12 k17 (k18+x3.toNat * 1) λ v12=>Sx.tagOf v12 125 (λ v13=>∃ p8:Option Addr,v13=Value.pointer p8/\Sx.ptr p8 λ a9=>aba W12 a9 3 λ s5=>∃ I9:ByteArray->Option Value,Sx.MpS W12 k I9/\∃ v14:Value,Option.getD (I9 s5) Value.nilIface=v14/\∃ t:Bool,(∀ W13:World,Sx.Keeps W12 W13->Sem.run prog (Sx.binOpS BinOp.neq 20 (Operand.tmp 126) (Operand.tmp 128) v14 (Value.iface 125 (Value.pointer p8))) W13=Result.ok (Value.bool t) W13)/\Sx.split t (Sx.ptr p8 λ a10=>∃ z8:Int,World.cell? W12 (Addr.add (Addr.add a10 0) 2)=some (.int .i64 z8)/\pX prog 52 #[.int .i64 z8,.int .i64 9] W12 Q) (Sx.ptr p8 λ a11=>yb .i64 W12 a11 4 λ z9=>Sx.ptr p8 λ a12=>yb .i64 W12 a12 5 λ z10=>nm (IntKind.wrap .i64 (z9+if z10 > 1 then z10 else 1)) λ z11=>∀ W15:World,∀ k19:Nat,W15=World.drewN W12 k19->Sx.split (decide (z11 > 512)) (Sx.ptr p8 λ a13=>∃ z12:Int,World.cell? W15 (Addr.add (Addr.add a13 0) 2)=some (.int .i64 z12)/\pX prog 52 #[.int .i64 z12,.int .i64 1] W15 Q) (nm (IntKind.wrap .i64 (x3+1)) λ z13=>I7 z13 W15/\I8 z13 W15<I8 x3 W12))) (Sx.tagOf v12 63 (λ v15=>∃ p9:Option Addr,v15=Value.pointer p9/\Sx.ptr p9 λ a14=>aba W12 a14 3 λ s6=>∃ I10:ByteArray->Option Value,Sx.MpS W12 k I10/\∃ v16:Value,Option.getD (I10 s6) Value.nilIface=v16/\∃ t2:Bool,(∀ W17:World,Sx.Keeps W12 W17->Sem.run prog (Sx.binOpS BinOp.neq 20 (Operand.tmp 161) (Operand.tmp 163) v16 (Value.iface 63 (Value.pointer p9))) W17=Result.ok (Value.bool t2) W17)/\Sx.split t2 (Sx.ptr p9 λ a15=>∃ z14:Int,World.cell? W12 (Addr.add (Addr.add a15 0) 2)=some (.int .i64 z14)/\pX prog 52 #[.int .i64 z14,.int .i64 9] W12 Q) (nmA (#[pp y0 Y0,Value.map (some k),.slice none 0 0,.slice none 0 0,.pointer p9]) λ vs=>alc W12 (Value.cells (Value.agg vs)) 138 λ k20 W19=>Sx.ptr p9 λ a16=>Ee W19 a16 4 λ p10 k21 k22=>∃ I11:Int->World->Prop,∃ I12:Int->World->Nat,I11 0 W19/\(wv (∀ x4:Int,∀ W20:World,I11 x4 W20->Sx.split (decide (x4<(↑k21:Int))) (ixs x4 k21 p10 λ k23 k24=>ldS W20 k23 (k24+x4.toNat * 1) λ s7=>Sx.ptr p9 λ a17=>agx W20 a17 0 3 λ vs2=>pI prog .i64 57 #[pp k20 0,.agg vs2,.string s7] W20 Q λ z15 W21=>nm (IntKind.wrap .i64 (x4+1)) λ z16=>I11 z16 W21/\I12 z16 W21<I12 x4 W20) (Sx.ptr p9 λ a18=>xm W20 a18 5 λ p11=>pU prog 58 #[pp k20 0,.pointer p11] W20 Q λ W22=>nm (IntKind.wrap .i64 (x3+1)) λ z17=>I7 z17 W22/\I8 z17 W22<I8 x3 W12))))) (nm (IntKind.wrap .i64 (x3+1)) λ z18=>I7 z18 W12/\I8 z18 W12<I8 x3 W12))) (∃ I13:ByteArray->Option Value,Sx.MpS W12 k I13/\∃ v17:Value,Option.getD (I13 (.mk #[109,97,105,110])) Value.nilIface=v17/\Sx.tagOf v17 63 (λ v18=>∃ p12:Option Addr,v18=Value.pointer p12/\Sx.ptr p12 λ a19=>Ee W12 a19 4 λ p13 k25 k26=>Sx.split (decide ((↑k25:Int) > 0)) (pX prog 52 #[.int .i64 0,.int .i64 9] W12 Q) (sto W12 y0 (Y0+1) (Value.pointer p12) λ W24=>Q (.returned (.tuple #[])) W24)) (pX prog 52 #[.int .i64 0,.int .i64 9] W12 Q)))))))) :
 Calls prog 27 #[pp y0 Y0] W Q :=
 Sx.sound (pk:=si) func27 (.r (.r (.n (.r (.n (.node [(27,.int .i64),(3,.int .i64)] [26,25,2,0] 0 .leaf .leaf) .leaf)) (.r (.n (.r (.n (.node [(113,.int .i64)] [112,111,2,0] 0 (.r (.r (.n (.n (.r (.r (.n (.r (.r (.r (.n (.r (.r (.r (.n (.r (.n (.node [(181,.int .i64)] [180,179,16,15,113,112,111,2,0] 0 .leaf .leaf) .leaf)) .leaf)))) .leaf)))) .leaf))) .leaf) .leaf))) .leaf) .leaf)) .leaf))))) [pp y0 Y0] rfl (Eq.mp (by kernel_rfl) hVC)
theorem ahd (y0:Nat) (Y0:Nat)
 (hVC:Q (.returned (.int .i64 1)) W) :
 Calls prog 224 #[pp y0 Y0] W Q :=
 Sx.sound (pk:=si) func224 .leaf [pp y0 Y0] rfl (Eq.mp (by kernel_rfl) hVC)
theorem ahe (i:Nat) (io:Nat)
 (hVC:ldV W i (io+5) λ v=>∃ u:FuncId,∃ vs:Array Value,Sx.meth prog v "Need" #[] W u vs/\rI prog .i64 u vs W λ z W2=>Q (.returned (.int .i64 z)) W2) :
 Calls prog 226 #[pp i io] W Q :=
 Sx.sound (pk:=si) func226 .leaf [pp i io] rfl (Eq.mp (by kernel_rfl) hVC)
theorem ahf (c:Nat) (co:Nat)
 (hVC:ldL W c (co+4) λ p k k2=>∃ I:Int->Int->World->Prop,∃ I2:Int->Int->World->Nat,I 0 1 W/\(wv (∀ x:Int,∀ n:Int,∀ W2:World,I x n W2->Sx.split (decide (x<(↑k:Int))) (ixs x k p λ k3 k4=>ldV W2 k3 (k4+x.toNat * 1) λ v=>∃ u:FuncId,∃ vs:Array Value,Sx.meth prog v "Need" #[] W2 u vs/\rI prog .i64 u vs W2 λ z W3=>nm (IntKind.wrap .i64 (z+x)) λ z2=>nm (IntKind.wrap .i64 (x+1)) λ z3=>I z3 (if z2 > n then z2 else n) W3/\I2 z3 (if z2 > n then z2 else n) W3<I2 x n W2) (Q (.returned (.int .i64 n)) W2)))) :
 Calls prog 232 #[pp c co] W Q :=
 Sx.sound (pk:=si) func232 (.r (.r (.n (.r (.n (.node [(11,.int .i64),(3,.int .i64)] [10,9] 0 .leaf .leaf) .leaf)) .leaf))) [pp c co] rfl (Eq.mp (by kernel_rfl) hVC)
theorem ahg (y0:Int)
 (hVC:Q (.returned (.int .i64 1)) W) :
 Calls prog 233 #[.int .u32 y0] W Q :=
 Sx.sound (pk:=si) func233 .leaf [Value.int .u32 y0] rfl (Eq.mp (by kernel_rfl) hVC)
theorem ahh (u:Nat) (uo:Nat)
 (hVC:ldV W u (uo+4) λ v=>∃ u2:FuncId,∃ vs:Array Value,Sx.meth prog v "Need" #[] W u2 vs/\rI prog .i64 u2 vs W λ z W2=>Q (.returned (.int .i64 z)) W2) :
 Calls prog 234 #[pp u uo] W Q :=
 Sx.sound (pk:=si) func234 .leaf [pp u uo] rfl (Eq.mp (by kernel_rfl) hVC)
theorem ahi (b:Nat) (bo:Nat)
 (hVC:ldV W b (bo+5) λ v=>∃ u:FuncId,∃ vs:Array Value,Sx.meth prog v "Need" #[] W u vs/\rI prog .i64 u vs W λ z W2=>ldS W2 b (bo+3) λ s=>Sx.split (!s.toList==ByteArray.toList (.mk #[38,38])) (ldS W2 b (bo+3) λ s2=>Sx.split (!s2.toList==ByteArray.toList (.mk #[124,124])) (nm (IntKind.wrap .i64 (z+1)) λ z2=>ldV W2 b (bo+4) λ v2=>∃ u2:FuncId,∃ vs2:Array Value,Sx.meth prog v2 "Need" #[] W2 u2 vs2/\rI prog .i64 u2 vs2 W2 λ z3 W3=>Q (.returned (.int .i64 (if z2 > z3 then z2 else z3))) W3) (ldV W2 b (bo+4) λ v3=>∃ u3:FuncId,∃ vs3:Array Value,Sx.meth prog v3 "Need" #[] W2 u3 vs3/\rI prog .i64 u3 vs3 W2 λ z4 W4=>Q (.returned (.int .i64 (if z > z4 then z else z4))) W4)) (ldV W2 b (bo+4) λ v4=>∃ u4:FuncId,∃ vs4:Array Value,Sx.meth prog v4 "Need" #[] W2 u4 vs4/\rI prog .i64 u4 vs4 W2 λ z5 W5=>Q (.returned (.int .i64 (if z > z5 then z else z5))) W5)) :
 Calls prog 235 #[pp b bo] W Q :=
 Sx.sound (pk:=si) func235 .leaf [pp b bo] rfl (Eq.mp (by kernel_rfl) hVC)
end Go.Proofs.YtojogkljneonmaaGreatDoor
namespace Go.Lang
structure Tok where
 k:Nat
 s:ByteArray
 line:Int
structure G3o where
 o:Obj
def ofL (l:List UInt8):ByteArray:=⟨l.toArray⟩
def isL (c:UInt8):Bool:=c==95||(decide (97≤c)&&decide (c≤122))
def isD (c:UInt8):Bool:=decide (48≤c)&&decide (c≤57)
def words:List (List UInt8):=[[118,97,114],[102,117,110,99],[108,101,116],[105,102],[101,108,115,101],[119,104,105,108,101],[114,101,116,117,114,110],[112,114,105,110,116]]
def twos:List (List UInt8):=[[124,124],[38,38],[61,61],[33,61],[60,61],[62,61],[60,60],[62,62]]
def ones:List UInt8:=[124,94,38,60,62,43,45,42,47,37,33,126,40,41,91,93,123,125,44,59,61]
def bz (s:List UInt8):Nat:=(s.takeWhile λ c=>isL c||isD c).length
def first (s:List UInt8):Nat×Nat :=
 match bz s with
 | 0=>if s.take 2 ∈ twos then (3,2) else if s.headD 0 ∈ ones then (3,1) else (4,1)
 | n+1=>if isL (s.headD 0) then (if s.take (n+1) ∈ words then (3,n+1) else (1,n+1)) else if (s.take (n+1)).all isD then (2,n+1) else (4,n+1)
def Rh:Nat->List UInt8->Int->List Tok
 | 0,_,line=>[⟨0,ofL [],line⟩]
 | f+1,s,line=>match s with
  | []=>[⟨0,ofL [],line⟩]
  | c::r=>if c=10 then Rh f r (line+1) else if c=32∨c=9 then Rh f r line
   else if s.take 2=[47,47] then Rh f (s.dropWhile λ c=>c≠10) line
   else ⟨(first s).1,ofL (s.take (first s).2),line⟩::Rh f (s.drop (first s).2) line
inductive T where
 | num (v line:Int)
 | name (at_:Tok) (slot word:Int)
 | index (at_:Tok) (word size:Int) (p:T)
 | call (at_:Tok) (f:Option Addr) (args:T)
 | un (at_:Tok) (x:T)
 | bin (at_:Tok) (x y:T)
 | nil
 | cons (x xs:T)
 | letS (at_ nm:Tok) (slot word:Int) (x:T)
 | setS (at_:Tok) (slot word:Int) (x:T)
 | putS (at_:Tok) (word size:Int) (p x:T)
 | ifS (line:Int) (c a b:T)
 | whileS (line:Int) (c b:T)
 | retS (line:Int) (x:T)
 | prtS (line:Int) (x:T)
 | doS (line:Int) (x:T)
 | block (line:Int) (l:T)
inductive D where
 | var (at_:Tok) (name:ByteArray) (word size:Int)
 | fn (at_:Tok) (name:ByteArray) (params:List ByteArray) (slots no:Int) (body:T)
inductive R (α:Type) where
 | ok (x:α) (l:List Tok)
 | err (line e:Int)
 | out
def R.bind {α β:Type}:R α->(α->List Tok->R β)->R β
 | .ok x l,k=>k x l
 | .err a e,_=>.err a e
 | .out,_=>.out
def now (l:List Tok):Tok:=l.headD ⟨0,ofL [],0⟩
def is (s:ByteArray) (l:List Tok):Bool:=decide ((now l).k=3)&&decide ((now l).s=s)
def want {β:Type} (s:ByteArray) (l:List Tok) (k:List Tok->R β):R β:=if is s l then k l.tail else .err (now l).line 8
def name {β:Type} (l:List Tok) (k:Tok->List Tok->R β):R β:=if (now l).k≠1 then .err (now l).line 8 else if 16<(now l).s.size then .err (now l).line 3 else k (now l) l.tail
def valOf (s:ByteArray):Nat:=s.data.toList.foldl (λ n c=>10 * n+(c.toNat - 48)) 0
def number {β:Type} (l:List Tok) (k:Int->List Tok->R β):R β:=if (now l).k≠2 then .err (now l).line 8 else if 4294967296≤valOf (now l).s then .err (now l).line 3 else k (valOf (now l).s:Nat) l.tail
def cLP:ByteArray:=ofL [40]
def cRP:ByteArray:=ofL [41]
def cLB:ByteArray:=ofL [91]
def cRB:ByteArray:=ofL [93]
def cLC:ByteArray:=ofL [123]
def cRC:ByteArray:=ofL [125]
def ej:ByteArray:=ofL [44]
def cu:ByteArray:=ofL [59]
def cEq:ByteArray:=ofL [61]
def pn:ByteArray:=ofL [45]
def Vy:ByteArray:=ofL [33]
def Hb:ByteArray:=ofL [126]
def mb:ByteArray:=ofL [118,97,114]
def da:ByteArray:=ofL [102,117,110,99]
def lx:ByteArray:=ofL [108,101,116]
def cIf:ByteArray:=ofL [105,102]
def Kl:ByteArray:=ofL [101,108,115,101]
def dx:ByteArray:=ofL [119,104,105,108,101]
def jm:ByteArray:=ofL [114,101,116,117,114,110]
def ng:ByteArray:=ofL [112,114,105,110,116]
def ai (s:ByteArray):Nat :=
 if s=ofL [124,124] then 1 else if s=ofL [38,38] then 2 else if s=ofL [124] then 3 else if s=ofL [94] then 4 else if s=ofL [38] then 5
 else if s=ofL [61,61]∨s=ofL [33,61] then 6 else if s=ofL [60]∨s=ofL [60,61]∨s=ofL [62]∨s=ofL [62,61] then 7
 else if s=ofL [60,60]∨s=ofL [62,62] then 8 else if s=ofL [43]∨s=ofL [45] then 9 else if s=ofL [42]∨s=ofL [47]∨s=ofL [37] then 10 else 0
inductive Req where
 | expr | bin (least:Nat) | loop (least:Nat) (x:T) | un | prim | args | argl | blk | stmts | stmt
def oh (l:List Tok):Bool:=is pn l||is Vy l||is Hb l
def run:Nat->Req->Nat->List Tok->R T
 | 0,_,_,_=>.out
 | f+1,.expr,n,l=>if 24≤n then .err (now l).line 3 else run f (.bin 1) (n+1) l
 | f+1,.bin k,n,l=>(run f .un n l).bind λ x l=>run f (.loop k x) n l
 | f+1,.loop k x,n,l=>if (now l).k=3/\k≤ai (now l).s then (run f (.bin (ai (now l).s+1)) n l.tail).bind λ y l'=>run f (.loop k (.bin (now l) x y)) n l' else .ok x l
 | f+1,.un,n,l=>if oh l then (if 24≤n then .err (now l).line 3 else (run f .un (n+1) l.tail).bind λ x l'=>.ok (.un (now l) x) l') else run f .prim n l
 | f+1,.prim,n,l =>
  if (now l).k=2 then number l λ v l'=>.ok (.num v (now l).line) l'
  else if is cLP l then (run f .expr n l.tail).bind λ x l=>want cRP l λ l=>.ok x l
  else name l λ t l =>
   if is cLP l then (run f .args n l.tail).bind λ xs l=>.ok (.call t none xs) l
   else if is cLB l then (run f .expr n l.tail).bind λ x l=>want cRB l λ l=>.ok (.index t 0 0 x) l
   else .ok (.name t 0 0) l
 | f+1,.args,n,l=>if is cRP l then .ok .nil l.tail else run f .argl n l
 | f+1,.argl,n,l=>(run f .expr n l).bind λ x l=>if is cRP l then .ok (.cons x .nil) l.tail else want ej l λ l=>(run f .argl n l).bind λ xs l=>.ok (.cons x xs) l
 | f+1,.blk,n,l=>if 24≤n then .err (now l).line 3 else want cLC l λ l'=>(run f .stmts (n+1) l').bind λ xs l''=>.ok (.block (now l).line xs) l''
 | f+1,.stmts,n,l=>if is cRC l then .ok .nil l.tail else (run f .stmt n l).bind λ x l=>(run f .stmts n l).bind λ xs l=>.ok (.cons x xs) l
 | f+1,.stmt,n,l =>
  if (now l).k=1 then name l λ t l =>
   if is cLP l then (run f .args n l.tail).bind λ xs l=>want cu l λ l=>.ok (.doS t.line (.call t none xs)) l
   else if is cLB l then (run f .expr n l.tail).bind λ p l=>want cRB l λ l=>want cEq l λ l=>(run f .expr n l).bind λ x l=>want cu l λ l=>.ok (.putS t 0 0 p x) l
   else want cEq l λ l=>(run f .expr n l).bind λ x l=>want cu l λ l=>.ok (.setS t 0 0 x) l
  else if is lx l then name l.tail λ nm l'=>want cEq l' λ l'=>(run f .expr n l').bind λ x l'=>want cu l' λ l'=>.ok (.letS (now l) nm 0 0 x) l'
  else if is jm l then (run f .expr n l.tail).bind λ x l'=>want cu l' λ l'=>.ok (.retS (now l).line x) l'
  else if is ng l then (run f .expr n l.tail).bind λ x l'=>want cu l' λ l'=>.ok (.prtS (now l).line x) l'
  else if is dx l then (run f .expr n l.tail).bind λ c l'=>(run f .blk n l').bind λ b l'=>.ok (.whileS (now l).line c b) l'
  else if is cIf l then (run f .expr n l.tail).bind λ c l'=>(run f .blk n l').bind λ b l' =>
   if is Kl l' then (run f .blk n l'.tail).bind λ e l'=>.ok (.ifS (now l).line c b e) l' else .ok (.ifS (now l).line c b .nil) l'
  else .err (now l).line 8
def params:Nat->List Tok->R (List ByteArray)
 | k,l=>if is cRP l then .ok [] l.tail else paramL k l
where paramL:Nat->List Tok->R (List ByteArray)
 | 0,l=>name l λ t _=>.err t.line 3
 | k+1,l=>name l λ t l=>if is cRP l then .ok [t.s] l.tail else want ej l λ l=>(paramL k l).bind λ r l=>.ok (t.s::r) l
def zj (f:Nat) (l:List Tok):R D :=
 if is mb l then name l.tail λ nm l' =>
  if is cLB l' then number l'.tail λ v l''=>if v<1∨256<v then .err (now l'.tail).line 3 else want cRB l'' λ l''=>want cu l'' λ l''=>.ok (.var (now l) nm.s 0 v) l''
  else want cu l' λ l'=>.ok (.var (now l) nm.s 0 0) l'
 else want da l λ l'=>name l' λ nm l'=>want cLP l' λ l'=>(params 6 l').bind λ ps l'=>(run f .blk 0 l').bind λ b l'=>.ok (.fn (now l) nm.s ps 0 0 b) l'
def decls (f:Nat):Nat->List Tok->R (List D)
 | 0,_=>.out
 | g+1,l=>if (now l).k=0 then .ok [] l else (zj f l).bind λ d l=>(decls f g l).bind λ ds l=>.ok (d::ds) l
theorem bind_ok {α β:Type}{r:R α}{k:α->List Tok->R β}{y:β}{l':List Tok} (h:r.bind k= .ok y l'):∃ x l,r= .ok x l/\k x l= .ok y l':=by
 cases r with
 | ok x l=>exact⟨x,l,rfl,h⟩
 | err a e=>cases h
 | out=>cases h
theorem Ri {s:ByteArray}{l:List Tok} (h:is s l=true):(now l).k=3:=by
 unfold is at h;rw[Bool.and_eq_true] at h;exact of_decide_eq_true h.1
theorem dn {l:List Tok} (h:(now l).k≠0):l.tail.length<l.length:=by
 cases l with
 | nil=>exact absurd rfl h
 | cons t l=>simp
theorem kw (l:List Tok):l.tail.length≤l.length:=by simp
theorem am {β:Type}{s:ByteArray}{l l':List Tok}{k:List Tok->R β}{y:β} (h:want s l k= .ok y l'):is s l=true/\k l.tail= .ok y l':=by
 unfold want at h;split at h
 ·rename_i hi;exact⟨hi,h⟩
 ·cases h
theorem fq {β:Type}{l l':List Tok}{k:Tok->List Tok->R β}{y:β} (h:name l k= .ok y l'):(now l).k=1/\k (now l) l.tail= .ok y l':=by
 unfold name at h;split at h
 ·cases h
 ·rename_i hk;split at h
  ·cases h
  ·exact⟨Decidable.not_not.1 hk,h⟩
theorem Hd {β:Type}{l l':List Tok}{k:Int->List Tok->R β}{y:β} (h:number l k= .ok y l'):(now l).k=2/\∃ v,k v l.tail= .ok y l':=by
 unfold number at h;split at h
 ·cases h
 ·rename_i hk;split at h
  ·cases h
  ·exact⟨Decidable.not_not.1 hk,_,h⟩
theorem zk:∀ (f:Nat) (q:Req) (n:Nat) (l:List Tok) (x:T) (l':List Tok),run f q n l= .ok x l'->l'.length≤l.length/\(q= .stmt->l'.length<l.length):=by
 intro f
 induction f with
 | zero=>intro q n l x l' h;cases h
 | succ f ih =>
  intro q n l x l' h;have le:∀ {q n l x l'},run f q n l= .ok x l'->l'.length≤l.length:=λ h=>(ih _ _ _ _ _ h).1;have tl:=λ (l:List Tok)=>kw l
  cases q with
  | expr =>
   unfold run at h;split at h
   ·cases h
   ·exact⟨le h,λ e=>by cases e⟩
  | bin k =>
   unfold run at h;obtain⟨x1,l1,h1,h2⟩:=bind_ok h;exact⟨Nat.le_trans (le h2) (le h1),λ e=>by cases e⟩
  | loop k u =>
   unfold run at h;refine⟨?_,λ e=>by cases e⟩;split at h
   ·obtain⟨x1,l1,h1,h2⟩:=bind_ok h;have:=le h1;have:=le h2;have:=tl l;omega
   ·cases h;exact Nat.le_refl _
  | un =>
   unfold run at h;refine⟨?_,λ e=>by cases e⟩;split at h
   ·split at h
    ·cases h
    ·obtain⟨x1,l1,h1,h2⟩:=bind_ok h;cases h2;have:=le h1;have:=tl l;omega
   ·exact le h
  | prim =>
   unfold run at h;refine⟨?_,λ e=>by cases e⟩;split at h
   ·obtain⟨-,v,h1⟩:=Hd h;cases h1;exact tl l
   ·split at h
    ·obtain⟨x1,l1,h1,h2⟩:=bind_ok h;obtain⟨-,h3⟩:=am h2;cases h3;have:=le h1;have:=tl l;have:=tl l1;omega
    ·obtain⟨-,h1⟩:=fq h;have t1:=tl l;have t2:=tl l.tail;split at h1
     ·obtain⟨x1,l1,h1,h2⟩:=bind_ok h1;cases h2;have:=le h1;omega
     ·split at h1
      ·obtain⟨x1,l1,h5,h2⟩:=bind_ok h1;obtain⟨-,h3⟩:=am h2;cases h3;have:=le h5;have:=tl l1;omega
      ·cases h1;omega
  | args =>
   unfold run at h;refine⟨?_,λ e=>by cases e⟩;split at h
   ·cases h;exact tl l
   ·exact le h
  | argl =>
   unfold run at h;refine⟨?_,λ e=>by cases e⟩;obtain⟨x1,l1,h1,h2⟩:=bind_ok h;have a1:=le h1;have a2:=tl l1;split at h2
   ·cases h2;omega
   ·obtain⟨-,h3⟩:=am h2;obtain⟨x2,l2,h4,h5⟩:=bind_ok h3;cases h5;have:=le h4;omega
  | blk =>
   unfold run at h;refine⟨?_,λ e=>by cases e⟩;split at h
   ·cases h
   ·obtain⟨-,h1⟩:=am h;obtain⟨x2,l2,h4,h5⟩:=bind_ok h1;cases h5;have:=le h4;have:=tl l;omega
  | stmts =>
   unfold run at h;refine⟨?_,λ e=>by cases e⟩;split at h
   ·cases h;exact tl l
   ·obtain⟨x1,l1,h1,h2⟩:=bind_ok h;obtain⟨x2,l2,h4,h5⟩:=bind_ok h2;cases h5;have:=le h1;have:=le h4;omega
  | stmt =>
   have key:l'.length<l.length:=by
    unfold run at h;split at h
    ·rename_i hk;have t0:=dn (l:=l) (by omega);obtain⟨-,h⟩:=fq h;have t2:=tl l.tail;split at h
     ·obtain⟨x1,l1,h1,h2⟩:=bind_ok h;obtain⟨-,h3⟩:=am h2;cases h3;have:=le h1;have:=tl l1;omega
     ·split at h
      ·obtain⟨x1,l1,h1,h2⟩:=bind_ok h;obtain⟨-,h3⟩:=am h2;obtain⟨-,h3⟩:=am h3;obtain⟨x2,l2,h4,h5⟩:=bind_ok h3;obtain⟨-,h5⟩:=am h5;cases h5;have:=le h1;have:=tl l1;have:=tl l1.tail;have:=le h4;have:=tl l2;omega
      ·obtain⟨-,h3⟩:=am h;obtain⟨x2,l2,h4,h5⟩:=bind_ok h3;obtain⟨-,h5⟩:=am h5;cases h5;have:=le h4;have:=tl l2;omega
    ·split at h
     ·rename_i hk;have t0:=dn (l:=l) (by rw[Ri hk];omega);obtain⟨-,h⟩:=fq h;obtain⟨-,h⟩:=am h;obtain⟨x2,l2,h4,h5⟩:=bind_ok h;obtain⟨-,h5⟩:=am h5;cases h5;have:=le h4;have:=tl l2;have:=tl l.tail;have:=tl l.tail.tail;omega
     ·split at h
      ·rename_i hk;have t0:=dn (l:=l) (by rw[Ri hk];omega);obtain⟨x2,l2,h4,h5⟩:=bind_ok h;obtain⟨-,h5⟩:=am h5;cases h5;have:=le h4;have:=tl l2;omega
      ·split at h
       ·rename_i hk;have t0:=dn (l:=l) (by rw[Ri hk];omega);obtain⟨x2,l2,h4,h5⟩:=bind_ok h;obtain⟨-,h5⟩:=am h5;cases h5;have:=le h4;have:=tl l2;omega
       ·split at h
        ·rename_i hk;have t0:=dn (l:=l) (by rw[Ri hk];omega);obtain⟨x2,l2,h4,h5⟩:=bind_ok h;obtain⟨x3,l3,h6,h7⟩:=bind_ok h5;cases h7;have:=le h4;have:=le h6;omega
        ·split at h
         ·rename_i hk;have t0:=dn (l:=l) (by rw[Ri hk];omega);obtain⟨x2,l2,h4,h5⟩:=bind_ok h;obtain⟨x3,l3,h6,h7⟩:=bind_ok h5;have a1:=le h4;have a2:=le h6;have a3:=tl l3;split at h7
          ·obtain⟨x4,l4,h8,h9⟩:=bind_ok h7;cases h9;have:=le h8;omega
          ·cases h7;omega
         ·cases h
   exact⟨Nat.le_of_lt key,λ _=>key⟩
end Go.Lang
