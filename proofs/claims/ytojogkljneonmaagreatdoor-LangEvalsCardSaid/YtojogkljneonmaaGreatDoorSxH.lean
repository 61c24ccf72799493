/- What each function asks, reckoned out of its text; printed by a program of mine (wip/tpl/VcTool.lean). No condition. -/
import Derived.Test.YtojogkljneonmaaGreatDoorSxB
import Derived.Test.YtojogkljneonmaaGreatDoorLangVh
import Derived.Test.YtojogkljneonmaaGreatDoorChecked
import Derived.IntWalk
set_option linter.unusedVariables false
set_option linter.unusedSimpArgs false
namespace Go.Proofs.YtojogkljneonmaaGreatDoor
open Go Go.Proofs.Tryz Go.Proofs Go.V
set_option maxRecDepth 100000
variable {W:World}{Q:Ending->World->Prop}
def ge:List Nat:=[1000052,1000091,53,50,51,93,94,95,111,112,113,130,131,132,144,171,172,54,128,142,129,56,26,55]
theorem aky (line:Int) (e:Int)
 (hVC:nmA (#[.int .i64 line,.int .i64 e]) λ vs=>alc W (Value.cells (Value.agg vs)) 79 λ k W2=>Q (Ending.panicked [PanicEntry.mk (Value.iface 77 (pp k 0)) false false]) W2) :
 Calls prog 52 #[.int .i64 line,.int .i64 e] W Q :=
 Sx.sound (pk:=ge) func52 .leaf [Value.int .i64 line,.int .i64 e] rfl (Eq.mp (by kernel_rfl) hVC)
theorem akz (p:Nat) (po:Nat) (e:Int)
 (hVC:rA prog 25 #[pp p po] W λ vs W2=>∃ z:Int,vs[2]?=some (.int .i64 z)/\pX prog 52 #[.int .i64 z,.int .i64 e] W2 Q) :
 Calls prog 91 #[pp p po,.int .i64 e] W Q :=
 Sx.sound (pk:=ge) func91 .leaf [pp p po,.int .i64 e] rfl (Eq.mp (by kernel_rfl) hVC)
theorem ala (p:Nat) (po:Nat)
 (hVC:alc W #[.int .u8 0,.string (.mk #[]),.int .i64 0] 87 λ k W2=>ldL W2 p po λ p2 k2 k3=>ixs 0 k2 p2 λ k4 k5=>ldN W2 k4 (k5+0) 3 λ vs=>stos W2 k 0 3 vs λ W3=>ldN W3 k 0 3 λ vs2=>Q (.returned (.agg vs2)) W3) :
 Calls prog 25 #[pp p po] W Q :=
 Sx.sound (pk:=ge) func25 .leaf [pp p po] rfl (Eq.mp (by kernel_rfl) hVC)
theorem ald (p:Nat) (po:Nat)
 (hVC:alc W #[.int .u8 0,.string (.mk #[]),.int .i64 0] 87 λ k W2=>ldL W2 p po λ p2 k2 k3=>ixs 0 k2 p2 λ k4 k5=>ldN W2 k4 (k5+0) 3 λ vs=>alc W2 #[.int .u8 0,.string (.mk #[]),.int .i64 0] 87 λ k6 W3=>stos W3 k6 0 3 vs λ W4=>ldL W4 p po λ p3 k8 k9=>((0:Int)≤(1:Int)/\(1:Int)≤(↑k8:Int))/\sto W4 p po (Value.slice (Sx.sub p3 k9 1 3) (k8 - 1) (k9 - 1)) λ W5=>ldN W5 k6 0 3 λ vs2=>stos W5 k 0 3 vs2 λ W6=>ldN W6 k 0 3 λ vs3=>Q (.returned (.agg vs3)) W6) :
 Calls prog 90 #[pp p po] W Q :=
 Sx.sound (pk:=ge) func90 .leaf [pp p po] rfl (Eq.mp (by kernel_rfl) hVC)
theorem ale (p:Nat) (po:Nat) (text:ByteArray)
 (hVC:rA prog 25 #[pp p po] W λ vs W2=>∃ z:Int,vs[0]?=some (.int .u8 z)/\Sx.split (z==3) (rA prog 25 #[pp p po] W2 λ vs2 W3=>∃ s:ByteArray,vs2[1]?=some (.string s)/\Q (.returned (.bool (s.toList==text.toList))) W3) (Q (.returned (.bool false)) W2)) :
 Calls prog 89 #[pp p po,.string text] W Q :=
 Sx.sound (pk:=ge) func89 .leaf [pp p po,.string text] rfl (Eq.mp (by kernel_rfl) hVC)
theorem alf (p:Nat) (po:Nat) (text:ByteArray)
 (hVC:rB prog 89 #[pp p po,.string text] W λ t W2=>Sx.split (!t) (Q (.returned (.bool false)) W2) (rA prog 90 #[pp p po] W2 λ vs W3=>Q (.returned (.bool true)) W3)) :
 Calls prog 49 #[pp p po,.string text] W Q :=
 Sx.sound (pk:=ge) func49 .leaf [pp p po,.string text] rfl (Eq.mp (by kernel_rfl) hVC)
theorem alg (p:Nat) (po:Nat) (text:ByteArray)
 (hVC:rB prog 49 #[pp p po,.string text] W λ t W2=>Sx.split (!t) (pX prog 91 #[pp p po,.int .i64 8] W2 Q) (Q (.returned (.tuple #[])) W2)) :
 Calls prog 53 #[pp p po,.string text] W Q :=
 Sx.sound (pk:=ge) func53 .leaf [pp p po,.string text] rfl (Eq.mp (by kernel_rfl) hVC)
theorem alh (p:Nat) (po:Nat)
 (hVC:alc W #[.int .u8 0,.string (.mk #[]),.int .i64 0] 87 λ k W2=>rA prog 25 #[pp p po] W2 λ vs W3=>∃ z:Int,vs[0]?=some (.int .u8 z)/\Sx.split (z !=1) (pX prog 91 #[pp p po,.int .i64 8] W3 Q) (rA prog 25 #[pp p po] W3 λ vs2 W5=>∃ s:ByteArray,vs2[1]?=some (.string s)/\Sx.split (decide ((↑(ByteArray.size s):Int) > 16)) (pX prog 91 #[pp p po,.int .i64 3] W5 Q) (rA prog 90 #[pp p po] W5 λ vs3 W7=>stos W7 k 0 3 vs3 λ W8=>ldN W8 k 0 3 λ vs4=>Q (.returned (.agg vs4)) W8))) :
 Calls prog 50 #[pp p po] W Q :=
 Sx.sound (pk:=ge) func50 .leaf [pp p po] rfl (Eq.mp (by kernel_rfl) hVC)
theorem ali (p:Nat) (po:Nat)
 (hVC:rA prog 25 #[pp p po] W λ vs W2=>∃ z:Int,vs[0]?=some (.int .u8 z)/\Sx.split (z !=2) (pX prog 91 #[pp p po,.int .i64 8] W2 Q) (rA prog 25 #[pp p po] W2 λ vs2 W4=>∃ s:ByteArray,vs2[1]?=some (.string s)/\Calls prog 92 #[.string s,.int .i64 10,.int .i64 32] W4 λ e4 W5=>∃ z2:Int,∃ v:Value,e4= .returned (.tuple #[.int .u64 z2,v])/\Sx.isNil v λ t=>Sx.split (!t) (pX prog 91 #[pp p po,.int .i64 3] W5 Q) (rA prog 90 #[pp p po] W5 λ vs3 W7=>nm (IntKind.wrap .u32 z2) λ z3=>Q (.returned (.int .u32 z3)) W7))) :
 Calls prog 51 #[pp p po] W Q :=
 Sx.sound (pk:=ge) func51 .leaf [pp p po] rfl (Eq.mp (by kernel_rfl) hVC)
theorem ahk (sign:ByteArray)
 (hVC:Sx.split (sign.toList==ByteArray.toList (.mk #[124,124])) (Q (.returned (.int .i64 1)) W) (Sx.split (sign.toList==ByteArray.toList (.mk #[38,38])) (Q (.returned (.int .i64 2)) W) (Sx.split (sign.toList==ByteArray.toList (.mk #[124])) (Q (.returned (.int .i64 3)) W) (Sx.split (sign.toList==ByteArray.toList (.mk #[94])) (Q (.returned (.int .i64 4)) W) (Sx.split (sign.toList==ByteArray.toList (.mk #[38])) (Q (.returned (.int .i64 5)) W) (Sx.split (sign.toList==ByteArray.toList (.mk #[61,61])) (Q (.returned (.int .i64 6)) W) (Sx.split (sign.toList==ByteArray.toList (.mk #[33,61])) (Q (.returned (.int .i64 6)) W) (Sx.split (sign.toList==ByteArray.toList (.mk #[60])) (Q (.returned (.int .i64 7)) W) (Sx.split (sign.toList==ByteArray.toList (.mk #[60,61])) (Q (.returned (.int .i64 7)) W) (Sx.split (sign.toList==ByteArray.toList (.mk #[62])) (Q (.returned (.int .i64 7)) W) (Sx.split (sign.toList==ByteArray.toList (.mk #[62,61])) (Q (.returned (.int .i64 7)) W) (Sx.split (sign.toList==ByteArray.toList (.mk #[60,60])) (Q (.returned (.int .i64 8)) W) (Sx.split (sign.toList==ByteArray.toList (.mk #[62,62])) (Q (.returned (.int .i64 8)) W) (Sx.split (sign.toList==ByteArray.toList (.mk #[43])) (Q (.returned (.int .i64 9)) W) (Sx.split (sign.toList==ByteArray.toList (.mk #[45])) (Q (.returned (.int .i64 9)) W) (Sx.split (sign.toList==ByteArray.toList (.mk #[42])) (Q (.returned (.int .i64 10)) W) (Sx.split (sign.toList==ByteArray.toList (.mk #[47])) (Q (.returned (.int .i64 10)) W) (Sx.split (sign.toList==ByteArray.toList (.mk #[37])) (Q (.returned (.int .i64 10)) W) (Q (.returned (.int .i64 0)) W))))))))))))))))))) :
 Calls prog 145 #[.string sign] W Q :=
 Sx.sound (pk:=ge) func145 .leaf [Value.string sign] rfl (Eq.mp (by kernel_rfl) hVC)
theorem aef {W:World}{u:FrameMode}{Q:Ending->World->Prop} (fv0:Nat) (fv0o:Nat)
 (hVC:ldP W fv0 fv0o λ p=>Sx.ptr p λ a=>yb .i64 W a 1 λ z=>nm (IntKind.wrap .i64 (z - 1)) λ z2=>Sx.ptr p λ a2=>Kk W a2 1 (Value.int .i64 z2) λ W2=>Q (.returned (.tuple #[])) W2) :
 CallsD prog 143 #[pp fv0 fv0o] u W λ e u' w'=>u'=u/\Q e w' :=
 Sx.soundC (pk:=ge) func143 .leaf [pp fv0 fv0o] (Eq.mp (by kernel_rfl) hVC)
theorem aeg {W:World}{u:FrameMode}{Q:Ending->World->Prop} (fv0:Nat) (fv0o:Nat)
 (hVC:ldP W fv0 fv0o λ p=>Sx.ptr p λ a=>yb .i64 W a 1 λ z=>nm (IntKind.wrap .i64 (z - 1)) λ z2=>Sx.ptr p λ a2=>Kk W a2 1 (Value.int .i64 z2) λ W2=>Q (.returned (.tuple #[])) W2) :
 CallsD prog 110 #[pp fv0 fv0o] u W λ e u' w'=>u'=u/\Q e w' :=
 Sx.soundC (pk:=ge) func110 .leaf [pp fv0 fv0o] (Eq.mp (by kernel_rfl) hVC)
theorem aeh (p:Nat) (po:Nat) (read0:Nat)
 (hVC:alc W #[pp p po] 80 λ k W2=>ldP W2 k 0 λ p2=>Sx.ptr p2 λ a=>yb .i64 W2 a 1 λ z=>nm (IntKind.wrap .i64 (z+1)) λ z2=>Sx.ptr p2 λ a2=>Kk W2 a2 1 (Value.int .i64 z2) λ W3=>ldP W3 k 0 λ p3=>Sx.ptr p3 λ a3=>yb .i64 W3 a3 1 λ z3=>Sx.split (decide (z3 > 24)) (ldP W3 k 0 λ p4=>pX prog 91 #[.pointer p4,.int .i64 3] W3 Q) (Calls prog 131 #[pp read0 0] W3 λ e2 W5=>(∃ v2:Value,e2= .returned v2/\CallsD prog 143 #[pp k 0] FrameMode.returning W5 (λ e3=>(λ u=>(λ W6=>(((∃ v3:Value,(e3= .returned v3/\(((settle u=FrameMode.returning/\Q (.returned v2) W6))∨((∃ l2:List PanicEntry,(settle u=FrameMode.panicking l2/\Q (Ending.panicked l2) W6)))))))∨((∃ l3:List PanicEntry,(e3=Ending.panicked l3/\(∃ l4:List PanicEntry,(raised u l3=FrameMode.panicking l4/\Q (Ending.panicked l4) W6))))))))))∨(∃ l5:List PanicEntry,e2=Ending.panicked l5/\CallsD prog 143 #[pp k 0] (FrameMode.panicking l5) W5 (λ e4=>(λ u2=>(λ W7=>(((∃ v4:Value,(e4= .returned v4/\(((settle u2=FrameMode.returning/\False))∨((∃ l6:List PanicEntry,(settle u2=FrameMode.panicking l6/\Q (Ending.panicked l6) W7)))))))∨((∃ l7:List PanicEntry,(e4=Ending.panicked l7/\(∃ l8:List PanicEntry,(raised u2 l7=FrameMode.panicking l8/\Q (Ending.panicked l8) W7)))))))))))) :
 Calls prog 130 #[pp p po,Value.func (Fn.func 131) #[] #[pp read0 0]] W Q :=
 Sx.soundD (pk:=ge) func130 .leaf [pp p po,Value.func (Fn.func 131) #[] #[pp read0 0]] rfl (Eq.mp (by kernel_rfl) hVC)
theorem aei (p:Nat) (po:Nat) (read0:Nat) (read1:Nat)
 (hVC:alc W #[pp p po] 80 λ k W2=>ldP W2 k 0 λ p2=>Sx.ptr p2 λ a=>yb .i64 W2 a 1 λ z=>nm (IntKind.wrap .i64 (z+1)) λ z2=>Sx.ptr p2 λ a2=>Kk W2 a2 1 (Value.int .i64 z2) λ W3=>ldP W3 k 0 λ p3=>Sx.ptr p3 λ a3=>yb .i64 W3 a3 1 λ z3=>Sx.split (decide (z3 > 24)) (ldP W3 k 0 λ p4=>pX prog 91 #[.pointer p4,.int .i64 3] W3 Q) (Calls prog 171 #[pp read0 0,pp read1 0] W3 λ e2 W5=>(∃ v2:Value,e2= .returned v2/\CallsD prog 143 #[pp k 0] FrameMode.returning W5 (λ e3=>(λ u=>(λ W6=>(((∃ v3:Value,(e3= .returned v3/\(((settle u=FrameMode.returning/\Q (.returned v2) W6))∨((∃ l2:List PanicEntry,(settle u=FrameMode.panicking l2/\Q (Ending.panicked l2) W6)))))))∨((∃ l3:List PanicEntry,(e3=Ending.panicked l3/\(∃ l4:List PanicEntry,(raised u l3=FrameMode.panicking l4/\Q (Ending.panicked l4) W6))))))))))∨(∃ l5:List PanicEntry,e2=Ending.panicked l5/\CallsD prog 143 #[pp k 0] (FrameMode.panicking l5) W5 (λ e4=>(λ u2=>(λ W7=>(((∃ v4:Value,(e4= .returned v4/\(((settle u2=FrameMode.returning/\False))∨((∃ l6:List PanicEntry,(settle u2=FrameMode.panicking l6/\Q (Ending.panicked l6) W7)))))))∨((∃ l7:List PanicEntry,(e4=Ending.panicked l7/\(∃ l8:List PanicEntry,(raised u2 l7=FrameMode.panicking l8/\Q (Ending.panicked l8) W7)))))))))))) :
 Calls prog 130 #[pp p po,Value.func (Fn.func 171) #[] #[pp read0 0,pp read1 0]] W Q :=
 Sx.soundD (pk:=ge) func130 .leaf [pp p po,Value.func (Fn.func 171) #[] #[pp read0 0,pp read1 0]] rfl (Eq.mp (by kernel_rfl) hVC)
theorem alj (p:Nat) (po:Nat) (read0:Nat)
 (hVC:alc W #[pp p po] 80 λ k W2=>ldP W2 k 0 λ p2=>Sx.ptr p2 λ a=>yb .i64 W2 a 1 λ z=>nm (IntKind.wrap .i64 (z+1)) λ z2=>Sx.ptr p2 λ a2=>Kk W2 a2 1 (Value.int .i64 z2) λ W3=>ldP W3 k 0 λ p3=>Sx.ptr p3 λ a3=>yb .i64 W3 a3 1 λ z3=>Sx.split (decide (z3 > 24)) (ldP W3 k 0 λ p4=>pX prog 91 #[.pointer p4,.int .i64 3] W3 Q) (Calls prog 94 #[pp read0 0] W3 λ e2 W5=>(∃ p5:Option Addr,e2= .returned (.pointer p5)/\CallsD prog 110 #[pp k 0] FrameMode.returning W5 (λ e3=>(λ u=>(λ W6=>(((∃ v2:Value,(e3= .returned v2/\(((settle u=FrameMode.returning/\Q (.returned (.pointer p5)) W6))∨((∃ l2:List PanicEntry,(settle u=FrameMode.panicking l2/\Q (Ending.panicked l2) W6)))))))∨((∃ l3:List PanicEntry,(e3=Ending.panicked l3/\(∃ l4:List PanicEntry,(raised u l3=FrameMode.panicking l4/\Q (Ending.panicked l4) W6))))))))))∨(∃ l5:List PanicEntry,e2=Ending.panicked l5/\CallsD prog 110 #[pp k 0] (FrameMode.panicking l5) W5 (λ e4=>(λ u2=>(λ W7=>(((∃ v3:Value,(e4= .returned v3/\(((settle u2=FrameMode.returning/\False))∨((∃ l6:List PanicEntry,(settle u2=FrameMode.panicking l6/\Q (Ending.panicked l6) W7)))))))∨((∃ l7:List PanicEntry,(e4=Ending.panicked l7/\(∃ l8:List PanicEntry,(raised u2 l7=FrameMode.panicking l8/\Q (Ending.panicked l8) W7)))))))))))) :
 Calls prog 93 #[pp p po,Value.func (Fn.func 94) #[] #[pp read0 0]] W Q :=
 Sx.soundD (pk:=ge) func93 .leaf [pp p po,Value.func (Fn.func 94) #[] #[pp read0 0]] rfl (Eq.mp (by kernel_rfl) hVC)
theorem ahl (p:Nat) (po:Nat)
 (hVC:alc W #[pp p po] 80 λ k W2=>ldP W2 k 0 λ p2=>pV prog 130 #[.pointer p2,Value.func (Fn.func 131) #[] #[pp k 0]] W2 Q λ v W3=>Q (.returned v) W3) :
 Calls prog 113 #[pp p po] W Q :=
 Sx.sound (pk:=ge) func113 .leaf [pp p po] rfl (Eq.mp (by kernel_rfl) hVC)
theorem ahm (fv0:Nat) (fv0o:Nat)
 (hVC:ldP W fv0 fv0o λ p=>pV prog 132 #[.pointer p,.int .i64 1] W Q λ v W2=>Q (.returned v) W2) :
 Calls prog 131 #[pp fv0 fv0o] W Q :=
 Sx.sound (pk:=ge) func131 .leaf [pp fv0 fv0o] rfl (Eq.mp (by kernel_rfl) hVC)
theorem ahn (p:Nat) (po:Nat) (least:Int)
 (hVC:pV prog 144 #[pp p po] W Q λ v W2=>∃ I:Value->World->Prop,∃ I2:Value->World->Nat,I v W2/\(wv (∀ x:Value,∀ W3:World,I x W3->rA prog 25 #[pp p po] W3 λ vs W4=>∃ z:Int,vs[0]?=some (.int .u8 z)/\Sx.split (z==3) (rA prog 25 #[pp p po] W4 λ vs2 W5=>∃ s:ByteArray,vs2[1]?=some (.string s)/\rI prog .i64 145 #[.string s] W5 λ z2 W6=>Sx.split (decide (z2 ≥ least)) (rA prog 90 #[pp p po] W6 λ vs3 W7=>alc W7 #[.int .u8 0,.string (.mk #[]),.int .i64 0] 87 λ k W8=>stos W8 k 0 3 vs3 λ W9=>nm (World.drew W9) λ W10=>ldS W10 k (0+1) λ s2=>ldN W10 k 0 3 λ vs4=>ldS W10 k (0+1) λ s3=>rI prog .i64 145 #[.string s2] W10 λ z3 W11=>(ldS W11 k (0+1) λ s4=>Value.string s4=Value.string s3)/\(ldN W11 k 0 3 λ vs5=>Value.agg vs5=Value.agg vs4)/\nm (IntKind.wrap .i64 (z3+1)) λ z4=>pV prog 132 #[pp p po,.int .i64 z4] W11 Q λ v4 W12=>(ldS W12 k (0+1) λ s5=>Value.string s5=Value.string s3)/\(ldN W12 k 0 3 λ vs6=>Value.agg vs6=Value.agg vs4)/\Array.size vs4=3/\Sx.one x (Sx.one v4 (nmA (List.toArray (Array.toList vs4++[Value.string s3,x,v4])) λ vs7=>alc W12 (Value.cells (Value.agg vs7)) 230 λ k3 W13=>I (Value.iface 218 (pp k3 0)) W13/\I2 (Value.iface 218 (pp k3 0)) W13<I2 x W3))) (Q (.returned x) W6)) (Q (.returned x) W4)))) :
 Calls prog 132 #[pp p po,.int .i64 least] W Q :=
 Sx.sound (pk:=ge) func132 (.r (.r (.n (.n (.node [(5,.any)] [0,1] 0 (.r (.n (.r (.node [] [] 1001008 .leaf .leaf)) .leaf)) .leaf) .leaf) .leaf))) [pp p po,.int .i64 least] rfl (Eq.mp (by kernel_rfl) hVC)
theorem aho (p:Nat) (po:Nat)
 (hVC:alc W #[pp p po] 80 λ k W2=>nmA (#[.string (.mk #[45]),.string (.mk #[33]),.string (.mk #[126])]) λ vs=>∃ I:Int->World->Prop,∃ I2:Int->World->Nat,I 0 W2/\(wv (∀ x:Int,∀ W3:World,I x W3->Sx.split (decide (x<3)) (((0:Int)≤x/\x<(↑3:Int))/\∃ s:ByteArray,vs[x.toNat * 1]?=some (.string s)/\alc W3 #[.string (.mk #[])] 9 λ k2 W4=>sto W4 k2 0 (Value.string s) λ W5=>ldP W5 k 0 λ p2=>ldS W5 k2 0 λ s2=>rB prog 89 #[.pointer p2,.string s2] W5 λ t W6=>Sx.split t (ldP W6 k 0 λ p3=>pV prog 130 #[.pointer p3,Value.func (Fn.func 171) #[] #[pp k 0,pp k2 0]] W6 Q λ v2 W7=>Q (.returned v2) W7) (nm (IntKind.wrap .i64 (x+1)) λ z=>I z W6/\I2 z W6<I2 x W3)) (ldP W3 k 0 λ p4=>pV prog 172 #[.pointer p4] W3 Q λ v3 W8=>Q (.returned v3) W8)))) :
 Calls prog 144 #[pp p po] W Q :=
 Sx.sound (pk:=ge) func144 (.r (.n (.r (.n (.node [(6,.int .i64)] [5,1] 0 .leaf .leaf) .leaf)) .leaf)) [pp p po] rfl (Eq.mp (by kernel_rfl) hVC)
theorem ahp (fv0:Nat) (fv0o:Nat) (fv1:Nat) (fv1o:Nat)
 (hVC:ldP W fv0 fv0o λ p=>rA prog 90 #[.pointer p] W λ vs W2=>alc W2 #[.int .u8 0,.string (.mk #[]),.int .i64 0] 87 λ k W3=>stos W3 k 0 3 vs λ W4=>nm (World.drew W4) λ W5=>ldP W5 fv0 fv0o λ p2=>ldN W5 k 0 3 λ vs2=>ldS W5 fv1 fv1o λ s=>pV prog 144 #[.pointer p2] W5 Q λ v3 W6=>(ldS W6 fv1 fv1o λ s2=>Value.string s2=Value.string s)/\(ldN W6 k 0 3 λ vs3=>Value.agg vs3=Value.agg vs2)/\Array.size vs2=3/\Sx.one v3 (nmA (List.toArray (Array.toList vs2++[Value.string s,v3])) λ vs4=>alc W6 (Value.cells (Value.agg vs4)) 217 λ k3 W7=>Q (.returned (.iface 215 (pp k3 0))) W7)) :
 Calls prog 171 #[pp fv0 fv0o,pp fv1 fv1o] W Q :=
 Sx.sound (pk:=ge) func171 (.r (.r (.n (.node [] [] 1001004 .leaf .leaf) .leaf))) [pp fv0 fv0o,pp fv1 fv1o] rfl (Eq.mp (by kernel_rfl) hVC)
theorem ahq (p:Nat) (po:Nat)
 (hVC:rA prog 25 #[pp p po] W λ vs W2=>∃ z:Int,vs[0]?=some (.int .u8 z)/\Sx.split (z==2) (pI prog .u32 51 #[pp p po] W2 Q λ z2 W3=>Q (.returned (.iface 211 (Value.int .u32 z2))) W3) (rB prog 49 #[pp p po,.string (.mk #[40])] W2 λ t W4=>Sx.split t (pV prog 113 #[pp p po] W4 Q λ v W5=>pU prog 53 #[pp p po,.string (.mk #[41])] W5 Q λ W6=>Q (.returned v) W6) (pA prog 50 #[pp p po] W4 Q λ vs2 W7=>alc W7 #[.int .u8 0,.string (.mk #[]),.int .i64 0] 87 λ k W8=>stos W8 k 0 3 vs2 λ W9=>rB prog 89 #[pp p po,.string (.mk #[40])] W9 λ t2 W10=>Sx.split t2 (ldN W10 k 0 3 λ vs3=>pP prog 128 #[pp p po,.agg vs3] W10 Q λ p2 W11=>Q (.returned (.iface 193 (Value.pointer p2))) W11) (rB prog 89 #[pp p po,.string (.mk #[91])] W10 λ t3 W12=>Sx.split t3 (ldN W12 k 0 3 λ vs4=>pP prog 129 #[pp p po,.agg vs4] W12 Q λ p3 W13=>Q (.returned (.iface 177 (Value.pointer p3))) W13) (ldN W12 k 0 3 λ vs5=>Array.size vs5=3/\nmA (List.toArray (Array.toList vs5++[Value.int .i64 0,.int .i64 0])) λ vs6=>alc W12 (Value.cells (Value.agg vs6)) 221 λ k3 W14=>Q (.returned (.iface 167 (pp k3 0))) W14))))) :
 Calls prog 172 #[pp p po] W Q :=
 Sx.sound (pk:=ge) func172 .leaf [pp p po] rfl (Eq.mp (by kernel_rfl) hVC)
theorem ahr (p:Nat) (po:Nat) (one0:Nat) (one1:Nat)
 (hVC:pU prog 53 #[pp p po,.string (.mk #[40])] W Q λ W2=>rB prog 49 #[pp p po,.string (.mk #[41])] W2 λ t W3=>∃ I:Bool->World->Prop,∃ I2:Bool->World->Nat,I (!t) W3/\(wv (∀ more:Bool,∀ W4:World,I more W4->Sx.split more (pU prog 142 #[pp one0 0,pp one1 0] W4 Q λ W5=>rB prog 49 #[pp p po,.string (.mk #[41])] W5 λ t2 W6=>Sx.split (!t2) (pU prog 53 #[pp p po,.string (.mk #[44])] W6 Q λ W7=>I (!t2) W7/\I2 (!t2) W7<I2 more W4) (I (!t2) W6/\I2 (!t2) W6<I2 more W4)) (Q (.returned (.tuple #[])) W4)))) :
 Calls prog 54 #[pp p po,Value.func (Fn.func 142) #[] #[pp one0 0,pp one1 0]] W Q :=
 Sx.sound (pk:=ge) func54 (.r (.r (.n (.node [(4,.bool)] [1,0] 0 .leaf .leaf) .leaf))) [pp p po,Value.func (Fn.func 142) #[] #[pp one0 0,pp one1 0]] rfl (Eq.mp (by kernel_rfl) hVC)
theorem ahs (p:Nat) (po:Nat) (one0:Nat) (one1:Nat)
 (hVC:pU prog 53 #[pp p po,.string (.mk #[40])] W Q λ W2=>rB prog 49 #[pp p po,.string (.mk #[41])] W2 λ t W3=>∃ I:Bool->World->Prop,∃ I2:Bool->World->Nat,I (!t) W3/\(wv (∀ more:Bool,∀ W4:World,I more W4->Sx.split more (pU prog 55 #[pp one0 0,pp one1 0] W4 Q λ W5=>rB prog 49 #[pp p po,.string (.mk #[41])] W5 λ t2 W6=>Sx.split (!t2) (pU prog 53 #[pp p po,.string (.mk #[44])] W6 Q λ W7=>I (!t2) W7/\I2 (!t2) W7<I2 more W4) (I (!t2) W6/\I2 (!t2) W6<I2 more W4)) (Q (.returned (.tuple #[])) W4)))) :
 Calls prog 54 #[pp p po,Value.func (Fn.func 55) #[] #[pp one0 0,pp one1 0]] W Q :=
 Sx.sound (pk:=ge) func54 (.r (.r (.n (.node [(4,.bool)] [1,0] 0 .leaf .leaf) .leaf))) [pp p po,Value.func (Fn.func 55) #[] #[pp one0 0,pp one1 0]] rfl (Eq.mp (by kernel_rfl) hVC)
theorem aht (p:Nat) (po:Nat) (t:Array Value)
 (hVC:alc W #[pp p po] 80 λ k W2=>alc W2 (Value.cells (Value.agg t)) 87 λ k2 W3=>ldN W3 k2 0 3 λ vs=>Array.size vs=3/\nmA (List.toArray (Array.toList vs++[Value.pointer none,.slice none 0 0])) λ vs2=>alc W3 (Value.cells (Value.agg vs2)) 214 λ k3 W4=>alc W4 #[.pointer none] 193 λ k4 W5=>sto W5 k4 0 (pp k3 0) λ W6=>ldP W6 k 0 λ p2=>pU prog 54 #[.pointer p2,Value.func (Fn.func 142) #[] #[pp k4 0,pp k 0]] W6 Q λ W7=>ldP W7 k4 0 λ p3=>Q (.returned (.pointer p3)) W7) :
 Calls prog 128 #[pp p po,.agg t] W Q :=
 Sx.sound (pk:=ge) func128 .leaf [pp p po,.agg t] rfl (Eq.mp (by kernel_rfl) hVC)
theorem ahu (fv0:Nat) (fv0o:Nat) (fv1:Nat) (fv1o:Nat)
 (hVC:nm (World.drew W) λ W2=>ldP W2 fv1 fv1o λ p=>ldP W2 fv0 fv0o λ p2=>ldP W2 fv0 fv0o λ p3=>Sx.ptr p3 λ a=>Ee W2 a 4 λ p4 k k2=>pV prog 113 #[.pointer p] W2 Q λ v W3=>(Ee W3 a 4 λ p5 k3 k4=>Value.slice p5 k3 k4=Value.slice p4 k k2)/\(ldP W3 fv0 fv0o λ p6=>Value.pointer p6=Value.pointer p3)/\(ldP W3 fv0 fv0o λ p7=>Value.pointer p7=Value.pointer p2)/\Sx.one v (alc W3 #[v] 169 λ k5 W4=>(Ee W4 a 4 λ p8 k6 k7=>Value.slice p8 k6 k7=Value.slice p4 k k2)/\(ldP W4 fv0 fv0o λ p9=>Value.pointer p9=Value.pointer p3)/\(ldP W4 fv0 fv0o λ p10=>Value.pointer p10=Value.pointer p2)/\apn W4 169 1 p4 k k2 1 (some ⟨k5,0,none⟩) 16 λ p11 k9 W5=>(ldP W5 fv0 fv0o λ p12=>Value.pointer p12=Value.pointer p2)/\Sx.ptr p2 λ a3=>Kk W5 a3 4 (Value.slice p11 (k+1) k9) λ W6=>Q (.returned (.tuple #[])) W6)) :
 Calls prog 142 #[pp fv0 fv0o,pp fv1 fv1o] W Q :=
 Sx.sound (pk:=ge) func142 (.node [] [] 1001007 .leaf .leaf) [pp fv0 fv0o,pp fv1 fv1o] rfl (Eq.mp (by kernel_rfl) hVC)
theorem ahv (p:Nat) (po:Nat) (t:Array Value)
 (hVC:alc W (Value.cells (Value.agg t)) 87 λ k W2=>pU prog 53 #[pp p po,.string (.mk #[91])] W2 Q λ W3=>nm (World.drew W3) λ W4=>ldN W4 k 0 3 λ vs=>pV prog 113 #[pp p po] W4 Q λ v W5=>(ldN W5 k 0 3 λ vs2=>Value.agg vs2=Value.agg vs)/\Array.size vs=3/\Sx.one v (nmA (List.toArray (Array.toList vs++[Value.int .i64 0,.int .u32 0,v])) λ vs3=>alc W5 (Value.cells (Value.agg vs3)) 176 λ k2 W6=>pU prog 53 #[pp p po,.string (.mk #[93])] W6 Q λ W7=>Q (.returned (pp k2 0)) W7)) :
 Calls prog 129 #[pp p po,.agg t] W Q :=
 Sx.sound (pk:=ge) func129 (.r (.r (.n (.node [] [] 1001003 .leaf .leaf) .leaf))) [pp p po,.agg t] rfl (Eq.mp (by kernel_rfl) hVC)
theorem alk (p:Nat) (po:Nat)
 (hVC:alc W #[pp p po] 80 λ k W2=>ldP W2 k 0 λ p2=>pP prog 93 #[.pointer p2,Value.func (Fn.func 94) #[] #[pp k 0]] W2 Q λ p3 W3=>Q (.returned (.pointer p3)) W3) :
 Calls prog 56 #[pp p po] W Q :=
 Sx.sound (pk:=ge) func56 .leaf [pp p po] rfl (Eq.mp (by kernel_rfl) hVC)
theorem alm (fv0:Nat) (fv0o:Nat)
 (hVC:nmA (#[.slice none 0 0]) λ vs=>alc W (Value.cells (Value.agg vs)) 164 λ k W2=>ldP W2 fv0 fv0o λ p=>pU prog 53 #[.pointer p,.string (.mk #[123])] W2 Q λ W3=>∃ I:World->Prop,∃ I2:World->Nat,I W3/\(wv (∀ W4:World,I W4->ldP W4 fv0 fv0o λ p2=>rB prog 49 #[.pointer p2,.string (.mk #[125])] W4 λ t W5=>Sx.split (!t) (nm (World.drew W5) λ W6=>ldP W6 fv0 fv0o λ p3=>ldL W6 k 0 λ p4 k2 k3=>pV prog 95 #[.pointer p3] W6 Q λ v W7=>(ldL W7 k 0 λ p5 k4 k5=>Value.slice p5 k4 k5=Value.slice p4 k2 k3)/\Sx.one v (alc W7 #[v] 161 λ k6 W8=>(ldL W8 k 0 λ p6 k7 k8=>Value.slice p6 k7 k8=Value.slice p4 k2 k3)/\apn W8 161 1 p4 k2 k3 1 (some ⟨k6,0,none⟩) 16 λ p7 k10 W9=>sto W9 k 0 (Value.slice p7 (k2+1) k10) λ W10=>I W10/\I2 W10<I2 W4)) (Q (.returned (pp k 0)) W5)))) :
 Calls prog 94 #[pp fv0 fv0o] W Q :=
 Sx.sound (pk:=ge) func94 (.r (.r (.r (.n (.n (.node [] [0,2] 0 (.r (.n (.node [] [] 1001007 .leaf .leaf) .leaf)) .leaf) .leaf) .leaf)))) [pp fv0 fv0o] rfl (Eq.mp (by kernel_rfl) hVC)
theorem ahw (p:Nat) (po:Nat)
 (hVC:pV prog 113 #[pp p po] W Q λ v W2=>pU prog 53 #[pp p po,.string (.mk #[59])] W2 Q λ W3=>Q (.returned v) W3) :
 Calls prog 112 #[pp p po] W Q :=
 Sx.sound (pk:=ge) func112 .leaf [pp p po] rfl (Eq.mp (by kernel_rfl) hVC)
theorem aln (y0:Nat) (Y0:Nat)
 (hVC:rA prog 25 #[pp y0 Y0] W λ vs W2=>alc W2 #[.int .u8 0,.string (.mk #[]),.int .i64 0] 87 λ k W3=>stos W3 k 0 3 vs λ W4=>ldI .u8 W4 k 0 λ z=>Sx.split (z==1) (pV prog 111 #[pp y0 Y0] W4 Q λ v3 W5=>Q (.returned v3) W5) (rB prog 49 #[pp y0 Y0,.string (.mk #[108,101,116])] W4 λ t W6=>Sx.split t (pA prog 50 #[pp y0 Y0] W6 Q λ vs2 W7=>alc W7 #[.int .u8 0,.string (.mk #[]),.int .i64 0] 87 λ k3 W8=>stos W8 k3 0 3 vs2 λ W9=>pU prog 53 #[pp y0 Y0,.string (.mk #[61])] W9 Q λ W10=>nm (World.drew W10) λ W11=>ldN W11 k 0 3 λ vs3=>ldN W11 k3 0 3 λ vs4=>Array.size vs4=3/\nmA (List.toArray (Array.toList vs4++[Value.int .i64 0,.int .i64 0])) λ vs5=>(alc W11 (Value.cells (Value.agg vs5)) 221 λ k5 W12=>RowKit.Below (Array.size (World.heap W11)) W11 W12/\(ldN W12 k 0 3 λ vs6=>Value.agg vs6=Value.agg vs3)/\pV prog 112 #[pp y0 Y0] W12 Q λ v6 W13=>(ldN W13 k 0 3 λ vs7=>Value.agg vs7=Value.agg vs3)/\Array.size vs3=3/\Sx.one v6 (nmA (List.toArray (Array.toList vs3++[pp k5 0,v6,.bool true])) λ vs8=>alc W13 (Value.cells (Value.agg vs8)) 171 λ k6 W14=>Q (.returned (.iface 165 (pp k6 0))) W14))/\pV prog 112 #[pp y0 Y0] W11 Q λ v7 W15=>(ldN W15 k3 0 3 λ vs9=>Value.agg vs9=Value.agg vs4)/\(ldN W15 k 0 3 λ vs10=>Value.agg vs10=Value.agg vs3)/\alc W15 (Value.cells (Value.agg vs5)) 221 λ k7 W16=>(ldN W16 k 0 3 λ vs11=>Value.agg vs11=Value.agg vs3)/\Array.size vs3=3/\Sx.one v7 (nmA (List.toArray (Array.toList vs3++[pp k7 0,v7,.bool true])) λ vs12=>alc W16 (Value.cells (Value.agg vs12)) 171 λ k8 W17=>Q (.returned (.iface 165 (pp k8 0))) W17)) (rB prog 49 #[pp y0 Y0,.string (.mk #[114,101,116,117,114,110])] W6 λ t2 W18=>Sx.split t2 (pV prog 112 #[pp y0 Y0] W18 Q λ v8 W19=>Sx.one v8 (nmA (#[v8]) λ vs13=>alc W19 (Value.cells (Value.agg vs13)) 189 λ k9 W20=>Q (.returned (.iface 187 (pp k9 0))) W20)) (rB prog 49 #[pp y0 Y0,.string (.mk #[112,114,105,110,116])] W18 λ t3 W21=>Sx.split t3 (pV prog 112 #[pp y0 Y0] W21 Q λ v9 W22=>Sx.one v9 (nmA (#[v9]) λ vs14=>alc W22 (Value.cells (Value.agg vs14)) 191 λ k10 W23=>Q (.returned (.iface 190 (pp k10 0))) W23)) (rB prog 49 #[pp y0 Y0,.string (.mk #[119,104,105,108,101])] W21 λ t4 W24=>Sx.split t4 (pV prog 113 #[pp y0 Y0] W24 Q λ v10 W25=>pP prog 56 #[pp y0 Y0] W25 Q λ p W26=>Sx.one v10 (nmA (#[v10,.pointer p]) λ vs15=>alc W26 (Value.cells (Value.agg vs15)) 186 λ k11 W27=>Q (.returned (.iface 184 (pp k11 0))) W27)) (rB prog 49 #[pp y0 Y0,.string (.mk #[105,102])] W24 λ t5 W28=>Sx.split t5 (pV prog 113 #[pp y0 Y0] W28 Q λ v11 W29=>Sx.one v11 (nmA (#[v11,.pointer none,.pointer none]) λ vs16=>alc W29 (Value.cells (Value.agg vs16)) 183 λ k12 W30=>pP prog 56 #[pp y0 Y0] W30 Q λ p2 W31=>sto W31 k12 (0+1) (Value.pointer p2) λ W32=>rB prog 49 #[pp y0 Y0,.string (.mk #[101,108,115,101])] W32 λ t6 W33=>Sx.split t6 (pP prog 56 #[pp y0 Y0] W33 Q λ p3 W34=>sto W34 k12 (0+2) (Value.pointer p3) λ W35=>Q (.returned (.iface 181 (pp k12 0))) W35) (Q (.returned (.iface 181 (pp k12 0))) W33))) (pX prog 91 #[pp y0 Y0,.int .i64 8] W28 Q))))))) :
 Calls prog 95 #[pp y0 Y0] W Q :=
 Sx.sound (pk:=ge) func95 (.r (.r (.r (.n (.n (.r (.n (.r (.r (.n (.node [] [] 1001006 .leaf .leaf) .leaf))) .leaf)) .leaf) .leaf)))) [pp y0 Y0] rfl (Eq.mp (by kernel_rfl) hVC)
theorem ahx (p:Nat) (po:Nat)
 (hVC:pA prog 50 #[pp p po] W Q λ vs W2=>alc W2 #[.int .u8 0,.string (.mk #[]),.int .i64 0] 87 λ k W3=>stos W3 k 0 3 vs λ W4=>rB prog 89 #[pp p po,.string (.mk #[40])] W4 λ t W5=>Sx.split t (ldN W5 k 0 3 λ vs2=>pP prog 128 #[pp p po,.agg vs2] W5 Q λ p2 W6=>pU prog 53 #[pp p po,.string (.mk #[59])] W6 Q λ W7=>nmA (#[.pointer p2]) λ vs3=>alc W7 (Value.cells (Value.agg vs3)) 195 λ k3 W8=>Q (.returned (.iface 192 (pp k3 0))) W8) (rB prog 89 #[pp p po,.string (.mk #[91])] W5 λ t2 W9=>Sx.split t2 (ldN W9 k 0 3 λ vs4=>pP prog 129 #[pp p po,.agg vs4] W9 Q λ p3 W10=>pU prog 53 #[pp p po,.string (.mk #[61])] W10 Q λ W11=>pV prog 112 #[pp p po] W11 Q λ v3 W12=>Sx.one v3 (nmA (#[.pointer p3,v3]) λ vs5=>alc W12 (Value.cells (Value.agg vs5)) 179 λ k4 W13=>Q (.returned (.iface 174 (pp k4 0))) W13)) (pU prog 53 #[pp p po,.string (.mk #[61])] W9 Q λ W14=>nm (World.drew W14) λ W15=>ldN W15 k 0 3 λ vs6=>ldN W15 k 0 3 λ vs7=>Array.size vs7=3/\nmA (List.toArray (Array.toList vs7++[Value.int .i64 0,.int .i64 0])) λ vs8=>(alc W15 (Value.cells (Value.agg vs8)) 221 λ k5 W16=>RowKit.Below (Array.size (World.heap W15)) W15 W16/\(ldN W16 k 0 3 λ vs9=>Value.agg vs9=Value.agg vs6)/\pV prog 112 #[pp p po] W16 Q λ v4 W17=>(ldN W17 k 0 3 λ vs10=>Value.agg vs10=Value.agg vs6)/\Array.size vs6=3/\Sx.one v4 (nmA (List.toArray (Array.toList vs6++[pp k5 0,v4,.bool false])) λ vs11=>alc W17 (Value.cells (Value.agg vs11)) 171 λ k6 W18=>Q (.returned (.iface 165 (pp k6 0))) W18))/\pV prog 112 #[pp p po] W15 Q λ v5 W19=>(ldN W19 k 0 3 λ vs12=>Value.agg vs12=Value.agg vs7)/\(ldN W19 k 0 3 λ vs13=>Value.agg vs13=Value.agg vs6)/\alc W19 (Value.cells (Value.agg vs8)) 221 λ k7 W20=>(ldN W20 k 0 3 λ vs14=>Value.agg vs14=Value.agg vs6)/\Array.size vs6=3/\Sx.one v5 (nmA (List.toArray (Array.toList vs6++[pp k7 0,v5,.bool false])) λ vs15=>alc W20 (Value.cells (Value.agg vs15)) 171 λ k8 W21=>Q (.returned (.iface 165 (pp k8 0))) W21)))) :
 Calls prog 111 #[pp p po] W Q :=
 Sx.sound (pk:=ge) func111 (.r (.r (.r (.r (.n (.node [] [] 1001006 .leaf .leaf) .leaf))))) [pp p po] rfl (Eq.mp (by kernel_rfl) hVC)
end Go.Proofs.YtojogkljneonmaaGreatDoor
namespace Go.Sx
open Go.RowKit Go.XHeap
variable {w w':World}{b o:Nat}{cs:Array Value}{t:TypeId}
theorem cellsAt_of_blk (h:Blk w b cs t) (vs:Array Value) (hv:∀ i v,vs[i]?=some v->cs[o+i]?=some v):cellsAt w ⟨b,o,none⟩ vs:=by
 intro i v hi;rw[Dx];exact h.cell' (hv i v hi)
def qo (cs:Array Value) (o:Nat) (vs:List Value):Array Value:=(cs.toList.take o++vs++cs.toList.drop (o+vs.length)).toArray
theorem Ou (cs:Array Value) (o:Nat):qo cs o []=cs:=by simp [qo]
theorem Kn (cs:Array Value) (o:Nat) (v:Value) (vs:List Value) (h:o<cs.size):qo (cs.setIfInBounds o v) (o+1) vs=qo cs o (v::vs):=by
 unfold qo;congr 1;rw[Array.toList_setIfInBounds]
 have h1:(cs.toList.set o v).take (o+1)=cs.toList.take o++[v]:=by
  rw[List.take_set,List.take_succ_eq_append_getElem (by simpa using h),List.set_append_right _ _ (by simp;omega)];simp [Nat.min_eq_left (Nat.le_of_lt (show o<cs.size from h))]
 have h2:(cs.toList.set o v).drop (o+1+vs.length)=cs.toList.drop (o+(v::vs).length):=by
  rw[List.drop_set_of_lt (by omega)];simp [Nat.add_assoc,Nat.add_comm 1]
 rw[h1,h2];simp
theorem xd:∀ (vs:List Value) (w:World) (cs:Array Value) (o:Nat),Blk w b cs t->o+vs.length≤cs.size->Blk (w.setCells b o vs) b (qo cs o vs) t
 | [],w,cs,o,h,_=>by rw[Ou];exact h
 | v::vs,w,cs,o,h,hl=>by
  simp only[List.length_cons] at hl;rw[<- Kn cs o v vs (by omega)];exact xd vs _ _ (o+1) (h.set o v) (by simp;omega)
theorem sv:∀ (vs:List Value) (w:World) (o:Nat),XTouch (λ k=>k=b) w (w.setCells b o vs)
 | [],w,o=>XTouch.refl _ _
 | v::vs,w,o=>((XTouch.refl (λ k=>k=b) w).setCell (p:=⟨b,o,none⟩) (.inl rfl) v).trans (sv vs _ (o+1)) (λ _ _ h=>h)
theorem Ov (cs:Array Value) (vs:List Value) (h:vs.length=cs.size):qo cs 0 vs=vs.toArray:=by
 unfold qo;rw[List.drop_of_length_le (by simp;omega)];simp
theorem Hf (h:Blk w b cs t):cellsAt w ⟨b,0,none⟩ cs:=cellsAt_of_blk h cs (λ i v hi=>by simpa using hi)
theorem w64 {e:Int} (h0 : -9223372036854775808≤e) (h1:e≤9223372036854775807):IntKind.wrap .i64 e=e:=by rw[IntKind.wrap_i64];omega
theorem w32 {e:Int} (h0:0≤e) (h1:e<4294967296):IntKind.wrap .u32 e=e:=by
 unfold IntKind.wrap;simp [IntKind.bits,IntKind.signed];omega
theorem w8 {e:Int}:IntKind.wrap .u8 e=e % 256:=by
 unfold IntKind.wrap;simp [IntKind.bits,IntKind.signed]
theorem w32m {e:Int}:IntKind.wrap .u32 e=e % 4294967296:=by
 unfold IntKind.wrap;simp [IntKind.bits,IntKind.signed]
end Go.Sx
