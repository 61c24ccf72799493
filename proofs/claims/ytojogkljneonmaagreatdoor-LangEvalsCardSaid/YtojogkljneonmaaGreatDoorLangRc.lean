/- What each function asks, reckoned out of its text; printed by a program of mine (wip/tpl/VcTool.lean). No condition. -/
import Derived.Test.YtojogkljneonmaaGreatDoorSxB
import Derived.Test.YtojogkljneonmaaGreatDoorLangVh
import Derived.Test.YtojogkljneonmaaGreatDoorChecked
import Derived.Test.YtojogkljneonmaaGreatDoorLangZj
set_option linter.unusedVariables false
set_option linter.unusedSimpArgs false
namespace Go.Proofs.YtojogkljneonmaaGreatDoor
open Go Go.Proofs.Tryz Go.Proofs Go.V
set_option maxRecDepth 100000
variable {W:World}{Q:Ending->World->Prop}
set_option maxHeartbeats 1000000
def Uf:List Nat:=[1000052]
theorem anh (c:Int)
 (hVC:Sx.split (decide (c ≥ 97)) (Sx.split (decide (c≤122)) (Q (.returned (.bool true)) W) (Q (.returned (.bool (c==95))) W)) (Q (.returned (.bool (c==95))) W)) :
 Calls prog 98 #[.int .u8 c] W Q :=
 Sx.sound (pk:=Uf) func98 .leaf [Value.int .u8 c] rfl (Eq.mp (by kernel_rfl) hVC)
theorem ani (c:Int)
 (hVC:Sx.split (decide (c ≥ 48)) (Q (.returned (.bool (decide (c≤57)))) W) (Q (.returned (.bool false)) W)) :
 Calls prog 99 #[.int .u8 c] W Q :=
 Sx.sound (pk:=Uf) func99 .leaf [Value.int .u8 c] rfl (Eq.mp (by kernel_rfl) hVC)
theorem aja (s:ByteArray)
 (hVC:alc W #[.string (.mk #[118,97,114]),.string (.mk #[102,117,110,99]),.string (.mk #[108,101,116]),.string (.mk #[105,102]),.string (.mk #[101,108,115,101]),.string (.mk #[119,104,105,108,101]),.string (.mk #[114,101,116,117,114,110]),.string (.mk #[112,114,105,110,116])] 9 λ k W2=>∃ I:Int->World->Prop,∃ I2:Int->World->Nat,I 0 W2/\(wv (∀ i:Int,∀ W3:World,I i W3->Sx.split (decide (i<(↑8:Int))) (((0:Int)≤i/\i<(↑8:Int))/\ldS W3 k (0+i.toNat * 1) λ s2=>Sx.split (s2.toList==s.toList) (Q (.returned (.bool true)) W3) (nm (IntKind.wrap .i64 (i+1)) λ z=>I z W3/\I2 z W3<I2 i W3)) (Q (.returned (.bool false)) W3)))) :
 Calls prog 100 #[.string s] W Q :=
 Sx.sound (pk:=Uf) func100 (.r (.r (.n (.r (.n (.node [(4,.int .i64)] [3,0] 0 .leaf .leaf) .leaf)) .leaf))) [Value.string s] rfl (Eq.mp (by kernel_rfl) hVC)
theorem anj (y0:ByteArray)
 (hVC:∃ I:Int->World->Prop,∃ I2:Int->World->Nat,I 0 W/\(wv (∀ x:Int,∀ W2:World,I x W2->Sx.split (decide (x<(↑(ByteArray.size y0):Int))) (∃ b:UInt8,(0:Int)≤x/\y0[x.toNat]?=some b/\rB prog 98 #[.int .u8 (↑(UInt8.toNat b):Int)] W2 λ t W3=>∃ b2:UInt8,(0:Int)≤x/\y0[x.toNat]?=some b2/\rB prog 99 #[.int .u8 (↑(UInt8.toNat b2):Int)] W3 λ t2 W4=>Sx.split (!t) (Sx.split (!t2) (Sx.split (decide (x > 0)) (∃ b3:UInt8,(0:Int)≤(0:Int)/\y0[0]?=some b3/\rB prog 99 #[.int .u8 (↑(UInt8.toNat b3):Int)] W4 λ t3 W5=>Sx.split (!t3) ((0:Int)≤x/\((0:Nat)≤x.toNat/\x.toNat≤ByteArray.size y0)/\rB prog 100 #[.string (ByteArray.extract y0 0 (x.toNat))] W5 λ t4 W6=>Sx.split t4 (Q (.returned (.tuple #[.int .u8 107,.int .i64 x])) W6) (Q (.returned (.tuple #[.int .u8 110,.int .i64 x])) W6)) (∃ I3:Int->World->Prop,∃ I4:Int->World->Nat,I3 0 W5/\(wv (∀ x2:Int,∀ W7:World,I3 x2 W7->Sx.split (decide (x2<x)) (∃ b4:UInt8,(0:Int)≤x2/\y0[x2.toNat]?=some b4/\rB prog 99 #[.int .u8 (↑(UInt8.toNat b4):Int)] W7 λ t5 W8=>Sx.split (!t5) (Q (.returned (.tuple #[.int .u8 120,.int .i64 x])) W8) (nm (IntKind.wrap .i64 (x2+1)) λ z=>I3 z W8/\I4 z W8<I4 x2 W7)) (Q (.returned (.tuple #[.int .u8 100,.int .i64 x])) W7))))) (alc W4 #[.string (.mk #[124,124]),.string (.mk #[38,38]),.string (.mk #[61,61]),.string (.mk #[33,61]),.string (.mk #[60,61]),.string (.mk #[62,61]),.string (.mk #[60,60]),.string (.mk #[62,62])] 9 λ k W9=>∃ I5:Int->World->Prop,∃ I6:Int->World->Nat,I5 0 W9/\(wv (∀ x3:Int,∀ W10:World,I5 x3 W10->Sx.split (decide (x3<(↑8:Int))) (Sx.split (decide ((↑(ByteArray.size y0):Int) > 1)) ((0:Int)≤(2:Int)/\((0:Nat)≤(2:Nat)/\(2:Nat)≤ByteArray.size y0)/\((0:Int)≤x3/\x3<(↑8:Int))/\ldS W10 k (0+x3.toNat * 1) λ s=>∀ W11:World,∀ k2:Nat,W11=World.drewN W10 k2->Sx.split (ByteArray.toList (ByteArray.extract y0 0 2)==s.toList) (Q (.returned (.tuple #[.int .u8 107,.int .i64 2])) W11) (nm (IntKind.wrap .i64 (x3+1)) λ z2=>I5 z2 W11/\I6 z2 W11<I6 x3 W10)) (∃ I7:Int->World->Prop,∃ I8:Int->World->Nat,I7 0 W10/\(wv (∀ x4:Int,∀ W12:World,I7 x4 W12->Sx.split (decide (x4<(↑(ByteArray.size (ByteArray.mk #[124,94,38,60,62,43,45,42,47,37,33,126,40,41,91,93,123,125,44,59,61])):Int))) (∃ b5:UInt8,(0:Int)≤(0:Int)/\y0[0]?=some b5/\∃ b6:UInt8,(0:Int)≤x4/\(ByteArray.mk #[124,94,38,60,62,43,45,42,47,37,33,126,40,41,91,93,123,125,44,59,61])[x4.toNat]?=some b6/\∀ W13:World,∀ k3:Nat,W13=World.drewN W12 k3->Sx.split ((↑(UInt8.toNat b5):Int)==(↑(UInt8.toNat b6):Int)) (Q (.returned (.tuple #[.int .u8 107,.int .i64 1])) W13) (nm (IntKind.wrap .i64 (x4+1)) λ z3=>I7 z3 W13/\I8 z3 W13<I8 x4 W12)) (Q (.returned (.tuple #[.int .u8 120,.int .i64 1])) W12))))) (∃ I9:Int->World->Prop,∃ I10:Int->World->Nat,I9 0 W10/\(wv (∀ x5:Int,∀ W14:World,I9 x5 W14->Sx.split (decide (x5<(↑(ByteArray.size (ByteArray.mk #[124,94,38,60,62,43,45,42,47,37,33,126,40,41,91,93,123,125,44,59,61])):Int))) (∃ b7:UInt8,(0:Int)≤(0:Int)/\y0[0]?=some b7/\∃ b8:UInt8,(0:Int)≤x5/\(ByteArray.mk #[124,94,38,60,62,43,45,42,47,37,33,126,40,41,91,93,123,125,44,59,61])[x5.toNat]?=some b8/\∀ W15:World,∀ k4:Nat,W15=World.drewN W14 k4->Sx.split ((↑(UInt8.toNat b7):Int)==(↑(UInt8.toNat b8):Int)) (Q (.returned (.tuple #[.int .u8 107,.int .i64 1])) W15) (nm (IntKind.wrap .i64 (x5+1)) λ z4=>I9 z4 W15/\I10 z4 W15<I10 x5 W14)) (Q (.returned (.tuple #[.int .u8 120,.int .i64 1])) W14)))))))) (nm (IntKind.wrap .i64 (x+1)) λ z5=>I z5 W4/\I2 z5 W4<I2 x W2)) (nm (IntKind.wrap .i64 (x+1)) λ z6=>I z6 W4/\I2 z6 W4<I2 x W2)) (Sx.split (decide (x > 0)) (∃ b9:UInt8,(0:Int)≤(0:Int)/\y0[0]?=some b9/\rB prog 99 #[.int .u8 (↑(UInt8.toNat b9):Int)] W2 λ t6 W16=>Sx.split (!t6) ((0:Int)≤x/\((0:Nat)≤x.toNat/\x.toNat≤ByteArray.size y0)/\rB prog 100 #[.string (ByteArray.extract y0 0 (x.toNat))] W16 λ t7 W17=>Sx.split t7 (Q (.returned (.tuple #[.int .u8 107,.int .i64 x])) W17) (Q (.returned (.tuple #[.int .u8 110,.int .i64 x])) W17)) (∃ I11:Int->World->Prop,∃ I12:Int->World->Nat,I11 0 W16/\(wv (∀ x6:Int,∀ W18:World,I11 x6 W18->Sx.split (decide (x6<x)) (∃ b10:UInt8,(0:Int)≤x6/\y0[x6.toNat]?=some b10/\rB prog 99 #[.int .u8 (↑(UInt8.toNat b10):Int)] W18 λ t8 W19=>Sx.split (!t8) (Q (.returned (.tuple #[.int .u8 120,.int .i64 x])) W19) (nm (IntKind.wrap .i64 (x6+1)) λ z7=>I11 z7 W19/\I12 z7 W19<I12 x6 W18)) (Q (.returned (.tuple #[.int .u8 100,.int .i64 x])) W18))))) (alc W2 #[.string (.mk #[124,124]),.string (.mk #[38,38]),.string (.mk #[61,61]),.string (.mk #[33,61]),.string (.mk #[60,61]),.string (.mk #[62,61]),.string (.mk #[60,60]),.string (.mk #[62,62])] 9 λ k5 W20=>∃ I13:Int->World->Prop,∃ I14:Int->World->Nat,I13 0 W20/\(wv (∀ x7:Int,∀ W21:World,I13 x7 W21->Sx.split (decide (x7<(↑8:Int))) (Sx.split (decide ((↑(ByteArray.size y0):Int) > 1)) ((0:Int)≤(2:Int)/\((0:Nat)≤(2:Nat)/\(2:Nat)≤ByteArray.size y0)/\((0:Int)≤x7/\x7<(↑8:Int))/\ldS W21 k5 (0+x7.toNat * 1) λ s2=>∀ W22:World,∀ k6:Nat,W22=World.drewN W21 k6->Sx.split (ByteArray.toList (ByteArray.extract y0 0 2)==s2.toList) (Q (.returned (.tuple #[.int .u8 107,.int .i64 2])) W22) (nm (IntKind.wrap .i64 (x7+1)) λ z8=>I13 z8 W22/\I14 z8 W22<I14 x7 W21)) (∃ I15:Int->World->Prop,∃ I16:Int->World->Nat,I15 0 W21/\(wv (∀ x8:Int,∀ W23:World,I15 x8 W23->Sx.split (decide (x8<(↑(ByteArray.size (ByteArray.mk #[124,94,38,60,62,43,45,42,47,37,33,126,40,41,91,93,123,125,44,59,61])):Int))) (∃ b11:UInt8,(0:Int)≤(0:Int)/\y0[0]?=some b11/\∃ b12:UInt8,(0:Int)≤x8/\(ByteArray.mk #[124,94,38,60,62,43,45,42,47,37,33,126,40,41,91,93,123,125,44,59,61])[x8.toNat]?=some b12/\∀ W24:World,∀ k7:Nat,W24=World.drewN W23 k7->Sx.split ((↑(UInt8.toNat b11):Int)==(↑(UInt8.toNat b12):Int)) (Q (.returned (.tuple #[.int .u8 107,.int .i64 1])) W24) (nm (IntKind.wrap .i64 (x8+1)) λ z9=>I15 z9 W24/\I16 z9 W24<I16 x8 W23)) (Q (.returned (.tuple #[.int .u8 120,.int .i64 1])) W23))))) (∃ I17:Int->World->Prop,∃ I18:Int->World->Nat,I17 0 W21/\(wv (∀ x9:Int,∀ W25:World,I17 x9 W25->Sx.split (decide (x9<(↑(ByteArray.size (ByteArray.mk #[124,94,38,60,62,43,45,42,47,37,33,126,40,41,91,93,123,125,44,59,61])):Int))) (∃ b13:UInt8,(0:Int)≤(0:Int)/\y0[0]?=some b13/\∃ b14:UInt8,(0:Int)≤x9/\(ByteArray.mk #[124,94,38,60,62,43,45,42,47,37,33,126,40,41,91,93,123,125,44,59,61])[x9.toNat]?=some b14/\∀ W26:World,∀ k8:Nat,W26=World.drewN W25 k8->Sx.split ((↑(UInt8.toNat b13):Int)==(↑(UInt8.toNat b14):Int)) (Q (.returned (.tuple #[.int .u8 107,.int .i64 1])) W26) (nm (IntKind.wrap .i64 (x9+1)) λ z10=>I17 z10 W26/\I18 z10 W26<I18 x9 W25)) (Q (.returned (.tuple #[.int .u8 120,.int .i64 1])) W25))))))))))) :
 Calls prog 59 #[.string y0] W Q :=
 Sx.sound (pk:=Uf) func59 (.r (.r (.n (.n (.node [(4,.int .i64)] [0] 0 .leaf .leaf) .leaf) (.n (.r (.n (.r (.r (.n (.r (.n (.node [(9,.int .i64)] [4,0] 0 .leaf .leaf) .leaf)) .leaf))) .leaf)) (.r (.n (.r (.n (.node [(12,.int .i64)] [11,0] 0 .leaf .leaf) .leaf)) (.r (.n (.r (.n (.node [(14,.int .i64)] [13,0] 0 .leaf .leaf) .leaf)) .leaf)))))))) [Value.string y0] rfl (Eq.mp (by kernel_rfl) hVC)
theorem ank (y0:ByteArray)
 (hVC:∃ I:ByteArray->Int->Option Addr->Nat->Nat->World->Prop,∃ I2:ByteArray->Int->Option Addr->Nat->Nat->World->Nat,I y0 1 none 0 0 W/\(wv (∀ x:ByteArray,∀ x2:Int,∀ x3:Option Addr,∀ k:Nat,∀ k2:Nat,∀ W2:World,I x x2 x3 k k2 W2->Sx.split (decide ((↑(ByteArray.size x):Int) > 0)) (∃ b:UInt8,(0:Int)≤(0:Int)/\x[0]?=some b/\Sx.split ((↑(UInt8.toNat b):Int)==10) (nm (IntKind.wrap .i64 (x2+1)) λ z=>(0:Int)≤(1:Int)/\((1:Nat)≤ByteArray.size x/\ByteArray.size x≤ByteArray.size x)/\I (ByteArray.extract x 1 (ByteArray.size x)) z x3 k k2 W2/\I2 (ByteArray.extract x 1 (ByteArray.size x)) z x3 k k2 W2<I2 x x2 x3 k k2 W2) (∃ b2:UInt8,(0:Int)≤(0:Int)/\x[0]?=some b2/\Sx.split ((↑(UInt8.toNat b2):Int)==32) ((0:Int)≤(1:Int)/\((1:Nat)≤ByteArray.size x/\ByteArray.size x≤ByteArray.size x)/\I (ByteArray.extract x 1 (ByteArray.size x)) x2 x3 k k2 W2/\I2 (ByteArray.extract x 1 (ByteArray.size x)) x2 x3 k k2 W2<I2 x x2 x3 k k2 W2) (∃ b3:UInt8,(0:Int)≤(0:Int)/\x[0]?=some b3/\Sx.split ((↑(UInt8.toNat b3):Int)==9) ((0:Int)≤(1:Int)/\((1:Nat)≤ByteArray.size x/\ByteArray.size x≤ByteArray.size x)/\I (ByteArray.extract x 1 (ByteArray.size x)) x2 x3 k k2 W2/\I2 (ByteArray.extract x 1 (ByteArray.size x)) x2 x3 k k2 W2<I2 x x2 x3 k k2 W2) (Sx.split (decide ((↑(ByteArray.size x):Int) > 1)) ((0:Int)≤(2:Int)/\((0:Nat)≤(2:Nat)/\(2:Nat)≤ByteArray.size x)/\Sx.split (ByteArray.toList (ByteArray.extract x 0 2)==ByteArray.toList (.mk #[47,47])) (∃ I3:ByteArray->World->Prop,∃ I4:ByteArray->World->Nat,I3 x W2/\(wv (∀ x4:ByteArray,∀ W3:World,I3 x4 W3->Sx.split (decide ((↑(ByteArray.size x4):Int) > 0)) (∃ b4:UInt8,(0:Int)≤(0:Int)/\x4[0]?=some b4/\Sx.split ((↑(UInt8.toNat b4):Int) !=10) ((0:Int)≤(1:Int)/\((1:Nat)≤ByteArray.size x4/\ByteArray.size x4≤ByteArray.size x4)/\I3 (ByteArray.extract x4 1 (ByteArray.size x4)) W3/\I4 (ByteArray.extract x4 1 (ByteArray.size x4)) W3<I4 x4 W3) (I x4 x2 x3 k k2 W3/\I2 x4 x2 x3 k k2 W3<I2 x x2 x3 k k2 W2)) (I x4 x2 x3 k k2 W3/\I2 x4 x2 x3 k k2 W3<I2 x x2 x3 k k2 W2)))) (Calls prog 59 #[.string x] W2 λ e W4=>∃ z2:Int,∃ z3:Int,e= .returned (.tuple #[.int .u8 z2,.int .i64 z3])/\(0:Int)≤z3/\((0:Nat)≤z3.toNat/\z3.toNat≤ByteArray.size x)/\nmA (#[.int .u8 z2,.string (ByteArray.extract x 0 (z3.toNat)),.int .i64 x2]) λ vs=>Array.size vs=3/\alc W4 (List.toArray (Array.toList vs++[])) 96 λ k3 W5=>apn W5 96 3 x3 k k2 1 (some ⟨k3,0,none⟩) 32 λ p k5 W6=>(0:Int)≤z3/\(z3.toNat≤ByteArray.size x/\ByteArray.size x≤ByteArray.size x)/\I (ByteArray.extract x (z3.toNat) (ByteArray.size x)) x2 p (k+1) k5 W6/\I2 (ByteArray.extract x (z3.toNat) (ByteArray.size x)) x2 p (k+1) k5 W6<I2 x x2 x3 k k2 W2)) (Calls prog 59 #[.string x] W2 λ e2 W7=>∃ z4:Int,∃ z5:Int,e2= .returned (.tuple #[.int .u8 z4,.int .i64 z5])/\(0:Int)≤z5/\((0:Nat)≤z5.toNat/\z5.toNat≤ByteArray.size x)/\nmA (#[.int .u8 z4,.string (ByteArray.extract x 0 (z5.toNat)),.int .i64 x2]) λ vs2=>Array.size vs2=3/\alc W7 (List.toArray (Array.toList vs2++[])) 96 λ k8 W8=>apn W8 96 3 x3 k k2 1 (some ⟨k8,0,none⟩) 32 λ p2 k10 W9=>(0:Int)≤z5/\(z5.toNat≤ByteArray.size x/\ByteArray.size x≤ByteArray.size x)/\I (ByteArray.extract x (z5.toNat) (ByteArray.size x)) x2 p2 (k+1) k10 W9/\I2 (ByteArray.extract x (z5.toNat) (ByteArray.size x)) x2 p2 (k+1) k10 W9<I2 x x2 x3 k k2 W2))))) (nmA (#[.int .u8 101,.string (.mk #[]),.int .i64 x2]) λ vs3=>Array.size vs3=3/\alc W2 (List.toArray (Array.toList vs3++[])) 96 λ k13 W10=>apn W10 96 3 x3 k k2 1 (some ⟨k13,0,none⟩) 32 λ p3 k15 W11=>Q (.returned (.slice p3 (k+1) k15)) W11)))) :
 Calls prog 28 #[.string y0] W Q :=
 Sx.sound (pk:=Uf) func28 (.r (.r (.r (.n (.n (.node [(0,.str),(4,.int .i64),(3,.slice)] [] 0 (.r (.n (.n (.r (.r (.r (.r (.r (.n (.n (.node [(0,.str)] [4,3] 0 .leaf .leaf) .leaf) .leaf)))))) .leaf) .leaf)) .leaf) .leaf) .leaf)))) [Value.string y0] rfl (Eq.mp (by kernel_rfl) hVC)
open Go Go.Proofs.Tryz Go.Proofs Go.Sep Go.XHeap Go.RowKit Go.Lang
variable {W:World}
theorem Li (b:UInt8):Calls prog 98 #[.int .u8 (b.toNat:Int)] W λ e w'=>e= .returned (.bool (isL b))/\w'=W:=by
 refine anh _ ?_;rw[lp];unfold Db
 have e95:((b.toNat:Int)==95)=(b.toNat==95):=by
  rw[Bool.eq_iff_iff,beq_iff_eq,beq_iff_eq];omega
 refine Sx.so (λ h=>?_) (λ h=>?_)
 ·have h1:=dt h;refine Sx.so (λ h=>?_) (λ h=>?_)
  ·have h2:=dt h;rw[decide_eq_true (show 97≤b.toNat by omega),decide_eq_true (show b.toNat≤122 by omega),Bool.and_self,Bool.or_true];exact⟨rfl,rfl⟩
  ·have h2:=df h;rw[decide_eq_false (show ¬ b.toNat≤122 by omega),Bool.and_false,Bool.or_false,e95];exact⟨rfl,rfl⟩
 ·have h1:=df h;rw[decide_eq_false (show ¬ 97≤b.toNat by omega),Bool.false_and,Bool.or_false,e95];exact⟨rfl,rfl⟩
theorem nu (b:UInt8):Calls prog 99 #[.int .u8 (b.toNat:Int)] W λ e w'=>e= .returned (.bool (isD b))/\w'=W:=by
 refine ani _ ?_;rw[tj];unfold Pg;refine Sx.so (λ h=>?_) (λ h=>?_)
 ·have h1:=dt h;rw[decide_eq_true (show 48≤b.toNat by omega),Bool.true_and];exact⟨by rw[show decide ((b.toNat:Int)≤57)=decide (b.toNat≤57) from decide_eq_decide.2 (by omega)],rfl⟩
 ·have h1:=df h;rw[decide_eq_false (show ¬ 48≤b.toNat by omega),Bool.false_and];exact⟨rfl,rfl⟩
theorem Io [Inhabited G3o] (s:List UInt8):Calls prog 100 #[.string (ofL s)] W λ e w'=>e= .returned (.bool (decide (s ∈ words)))/\im W w':=by
 refine aja (ofL s) ?_;refine(St.nil W).al λ k w2 H2=>?_;refine⟨λ x w=>(im W w/\Blk w k ((words.map λ l=>Value.string (ofL l)).toArray) 9)/\∃ i:Nat,x=i/\i≤8/\∀ j t,j<i->words[j]?=some t->s≠t,λ x _=>(8 - x).toNat,⟨⟨H2.touch,H2.nth 0 rfl⟩,0,rfl,by omega,λ j t hj=>by omega⟩,λ _ x w3 hI=>?_⟩;obtain⟨⟨h3,hb⟩,i,rfl,hi,hno⟩:=hI;refine Sx.so (λ h=>?_) (λ h=>?_)
 ·have h5:i<8:=by have:=dt h;omega
  have ht:i<words.length:=h5;refine⟨⟨by omega,by omega⟩,ofL words[i],?_,?_⟩
  ·rw[ix1,Nat.zero_add];exact hb.cell' (by rw[List.getElem?_toArray,List.getElem?_map,List.getElem?_eq_getElem ht];rfl)
  ·try dsimp only
   rw[ab];refine Sx.so (λ h6=>?_) (λ h6=>?_)
   ·have h6:words[i]=s:=zl (dt h6);rw[decide_eq_true (h6 ▸ List.getElem_mem ht)];exact⟨rfl,h3⟩
   ·have h6:¬ ofL words[i]=ofL s:=df h6;rintro z rfl
    have hw:IntKind.wrap .i64 ((i:Nat)+1:Int)=((i+1:Nat):Int):=by rw[show((i:Nat)+1:Int)=((i+1:Nat):Int) by omega];exact Go.Bits.n64 (by omega)
    rw[hw];refine⟨⟨⟨h3,hb⟩,i+1,rfl,by omega,λ j t hj hjt=>?_⟩,by show(8 - ((i+1:Nat):Int)).toNat<(8 - ((i:Nat):Int)).toNat;omega⟩;rcases Nat.lt_or_eq_of_le (Nat.lt_succ_iff.1 hj) with h7 | h7
    ·exact hno j t h7 hjt
    ·subst h7;rw[List.getElem?_eq_getElem ht] at hjt;cases hjt;exact λ e=>h6 (by rw[e])
 ·have h5:i=8:=by have:=df h;omega
  subst h5
  rw[decide_eq_false (λ hm=>by
   obtain⟨j,hj,e⟩:=List.getElem_of_mem hm
   exact hno j _ hj (List.getElem?_eq_getElem hj) e.symm)]
  exact⟨rfl,h3⟩
end Go.Proofs.YtojogkljneonmaaGreatDoor
namespace Go.Lang
def kR:Nat->Nat
 | 0=>101
 | 1=>110
 | 2=>100
 | 3=>107
 | _=>120
theorem Ug:∀ (s:List UInt8) (i:Nat) (h:i<s.length),i≤bz s->if (isL s[i]||isD s[i])=true then i+1≤bz s else bz s=i
 | [],i,h,_=>by simp at h
 | c::r,0,h,hi=>by
  unfold bz;rw[List.takeWhile_cons]
  show if (isL c||isD c)=true then _ else _
  cases hc:(isL c||isD c) with
  | true=>simp
  | false=>simp
 | c::r,i+1,h,hi=>by
  have hc:(isL c||isD c)=true:=by
   cases hc:(isL c||isD c) with
   | true=>rfl
   | false =>
    exfalso;unfold bz at hi;rw[List.takeWhile_cons,hc] at hi;simp at hi
  have hw:bz (c::r)=bz r+1:=by
   unfold bz;rw[List.takeWhile_cons,hc];simp
  have hr:i<r.length:=by simpa using h
  have:=Ug r i hr (by omega);rw[hw]
  show if (isL r[i]||isD r[i])=true then _ else _
  split at this
  ·rename_i h1;rw[if_pos h1];omega
  ·rename_i h1;rw[if_neg h1];omega
theorem Dh {b:Bool} (h:(!b)=true):b=false:=by cases b;rfl;cases h
theorem Di {b:Bool} (h:(!b)=false):b=true:=by cases b;cases h;rfl
end Go.Lang
namespace Go.Proofs.YtojogkljneonmaaGreatDoor
open Go Go.Proofs.Tryz Go.Proofs Go.Sep Go.XHeap Go.RowKit Go.Lang
variable {W:World}
theorem Iq [Inhabited G3o] (c:UInt8) (r:List UInt8) (hsz:(c::r).length≤8000):Calls prog 59 #[.string (ofL (c::r))] W λ e w'=>e= .returned (.tuple #[.int .u8 ((kR (first (c::r)).1:Nat):Int),.int .i64 ((first (c::r)).2:Nat)])/\im W w':=by
 refine anj (ofL (c::r)) ?_;refine⟨λ x w=>im W w/\∃ i:Nat,x=i/\i≤bz (c::r),λ x _=>(((c::r).length:Int) - x).toNat,⟨XTouch.refl _ _,0,rfl,by omega⟩,λ _ x w2 hI=>?_⟩;obtain⟨h2,i,rfl,hi⟩:=hI;have hwl0:=ru (c::r);refine Sx.so (λ hlt=>?_) (λ hge=>?_)
 ·have hlt:i<(c::r).length:=by have:=dt hlt;rw[ak] at this;omega
  have hst:=Ug (c::r) i hlt hi
  have hget:(ofL (c::r))[((i:Nat):Int).toNat]?=some (c::r)[i]:=by rw[eh,Int.toNat_natCast,List.getElem?_eq_getElem hlt]
  refine⟨_,by omega,hget,(Li _).mono ?_⟩;rintro _ w3 ⟨rfl,rfl⟩;refine⟨_,rfl,_,by omega,hget,(nu _).mono ?_⟩;rintro _ w4 ⟨rfl,rfl⟩;refine⟨_,rfl,?_⟩
  have go:(isL (c::r)[i]||isD (c::r)[i])=true->i+1≤bz (c::r):=λ h=>by rw[if_pos h] at hst;exact hst
  have hw:IntKind.wrap .i64 ((i:Nat)+1:Int)=((i+1:Nat):Int)∨9223372036854775807≤i:=by
   rcases Nat.lt_or_ge i 9223372036854775807 with h | h
   ·left;rw[show((i:Nat)+1:Int)=((i+1:Nat):Int) by omega];exact Go.Bits.n64 (by omega)
   ·exact .inr h
  refine Sx.so (λ h3=>?_) (λ h3=>?_)
  ·have h3:=Dh h3;refine Sx.so (λ h4=>?_) (λ h4=>?_)
   ·have h4:=Dh h4
    have hm:bz (c::r)=i:=by rw[h3,h4] at hst;simpa using hst
    refine Sx.so (λ hp=>?_) (λ hp=>?_)
    ·have hp:0<i:=by have:=dt hp;omega
     obtain⟨m,rfl⟩:∃ m,i=m+1:=⟨i - 1,by omega⟩
     have hf:first (c::r)=if isL c then (if (c::r).take (m+1) ∈ words then (3,m+1) else (1,m+1)) else if ((c::r).take (m+1)).all isD then (2,m+1) else (4,m+1):=by unfold first;rw[hm];rfl
     have hwb:=wh (c::r);rw[hm] at hwb;have hwl:=ru (c::r)
     have hx:(ofL (c::r)).extract 0 ((m+1:Nat):Int).toNat=ofL ((c::r).take (m+1)):=by
      rw[bc,List.drop_zero];rfl
     refine⟨c,by omega,eh _ 0,(nu c).mono ?_⟩;rintro _ w6 ⟨rfl,rfl⟩;refine⟨_,rfl,Sx.so (λ hd=>?_) (λ hd=>?_)⟩
     ·have hd:=Dh hd
      have hL:isL c=true:=by
       have:=hwb c (by simp);rw[hd,Bool.or_false] at this;exact this
      rw[if_pos hL] at hf;refine⟨by omega,⟨by omega,by rw[ak];omega⟩,?_⟩;rw[hx];refine(Io ((c::r).take (m+1))).mono ?_;rintro _ w7 ⟨rfl,h7⟩;have h8:=db h2 h7;refine⟨_,rfl,Sx.so (λ ht=>?_) (λ ht=>?_)⟩
      ·rw[hf,if_pos (dt ht)];exact⟨rfl,h8⟩
      ·rw[hf,if_neg (df ht)];exact⟨rfl,h8⟩
     ·have hd:=Di hd
      have hL:¬ isL c=true:=by
       rw[lp];rw[tj] at hd;unfold Pg at hd;unfold Db;rw[Bool.and_eq_true] at hd;have b1:=dt hd.1;have b2:=dt hd.2;intro a;rcases Bool.or_eq_true_iff.1 a with a | a
       ·have:=beq_iff_eq.1 a;omega
       ·rw[Bool.and_eq_true] at a;have:=dt a.1;omega
      rw[if_neg hL] at hf;refine⟨λ x w=>im W w/\∃ j:Nat,x=j/\j≤m+1/\((c::r).take j).all isD=true,λ x _=>(((m+1:Nat):Int) - x).toNat,⟨h2,0,rfl,by omega,rfl⟩,λ _ x w8 hI=>?_⟩;obtain⟨h8,j,rfl,hj,hall⟩:=hI;refine Sx.so (λ hlt=>?_) (λ hge=>?_)
      ·have hlt:j<m+1:=by have:=dt hlt;omega
       have hjl:j<(c::r).length:=by omega
       refine⟨(c::r)[j],by omega,by rw[eh,Int.toNat_natCast,List.getElem?_eq_getElem hjl],(nu _).mono ?_⟩;rintro _ w9 ⟨rfl,rfl⟩;refine⟨_,rfl,Sx.so (λ hq=>?_) (λ hq=>?_)⟩
       ·have hq:=Dh hq
        rw[hf,if_neg (λ ha=>by
         have:=List.all_eq_true.1 ha (c::r)[j] (List.mem_of_getElem? (i:=j) (by rw[List.getElem?_take_of_lt hlt,List.getElem?_eq_getElem hjl]))
         rw[this] at hq;cases hq)]
        exact⟨rfl,h8⟩
       ·have hq:=Di hq;rintro z rfl
        have hw:IntKind.wrap .i64 ((j:Nat)+1:Int)=((j+1:Nat):Int):=by rw[show((j:Nat)+1:Int)=((j+1:Nat):Int) by omega];exact Go.Bits.n64 (by omega)
        rw[hw];refine⟨⟨h8,j+1,rfl,by omega,?_⟩,by show(((m+1:Nat):Int) - ((j+1:Nat):Int)).toNat<(((m+1:Nat):Int) - ((j:Nat):Int)).toNat;omega⟩;rw[List.take_succ_eq_append_getElem hjl,List.all_append,hall];simp [hq]
      ·have hge:j=m+1:=by have:=df hge;omega
       subst hge;rw[hf,if_pos hall];exact⟨rfl,h8⟩
    ·have hp:i=0:=by have:=df hp;omega
     subst hp
     have hf:first (c::r)=if (c::r).take 2 ∈ twos then (3,2) else if (c::r).headD 0 ∈ ones then (3,1) else (4,1):=by unfold first;rw[hm]
     intro k w7 ek ew;have H7:=((St.nil W).quiet h2).al (φ:=λ k w=>St W (λ _=>False) w ([]++[blk k ((twos.map λ l=>Value.string (ofL l)).toArray) 9])) (cs:=(twos.map λ l=>Value.string (ofL l)).toArray) (t:=9) (λ k w H=>H) k w7 ek ew;have hb7:Blk w7 k ((twos.map λ l=>Value.string (ofL l)).toArray) 9:=H7.nth 0 rfl;refine⟨λ x w=>(im W w/\Blk w k ((twos.map λ l=>Value.string (ofL l)).toArray) 9)/\∃ j:Nat,x=j/\j≤8/\∀ q t,q<j->twos[q]?=some t->(c::r).take 2≠t,λ x _=>(8 - x).toNat,⟨⟨H7.touch,hb7⟩,0,rfl,by omega,λ q t hq=>by omega⟩,λ _ x w8 hI=>?_⟩;obtain⟨⟨h8,hb⟩,i,rfl,hi8,hno2⟩:=hI
     have hlen2:∀ x ∈ twos,x.length=2:=by decide
     refine Sx.so (λ h=>?_) (λ h=>?_)
     ·have h5:i<8:=by have:=dt h;omega
      have hit:i<twos.length:=h5;refine Sx.so (λ h1=>?_) (λ h1=>?_)
      ·have h1:1<(c::r).length:=by have:=dt h1;rw[ak] at this;omega
       have hx:(ofL (c::r)).extract 0 2=ofL ((c::r).take 2):=by rw[bc,List.drop_zero]
       refine⟨by omega,⟨by omega,by rw[ak];omega⟩,⟨by omega,by omega⟩,ofL twos[i],?_,?_⟩
       ·rw[ix1,Nat.zero_add];exact hb.cell' (by rw[List.getElem?_toArray,List.getElem?_map,List.getElem?_eq_getElem hit];rfl)
       ·rintro w11 k2 rfl;have h9:im W (w8.drewN k2):=db h8 ((XTouch.refl _ w8).drewN k2);rw[hx,ab];refine Sx.so (λ h6=>?_) (λ h6=>?_)
        ·have h6:(c::r).take 2=twos[i]:=zl (dt h6);rw[hf,if_pos (h6 ▸ List.getElem_mem hit)];exact⟨rfl,h9⟩
        ·have h6:¬ ofL ((c::r).take 2)=ofL twos[i]:=df h6;rintro z rfl
         have hw:IntKind.wrap .i64 ((i:Nat)+1:Int)=((i+1:Nat):Int):=by rw[show((i:Nat)+1:Int)=((i+1:Nat):Int) by omega];exact Go.Bits.n64 (by omega)
         rw[hw];refine⟨⟨⟨h9,hb.drewN k2⟩,i+1,rfl,by omega,λ q t hq hqt=>?_⟩,by show(8 - ((i+1:Nat):Int)).toNat<(8 - ((i:Nat):Int)).toNat;omega⟩;rcases Nat.lt_or_eq_of_le (Nat.lt_succ_iff.1 hq) with h7 | h7
         ·exact hno2 q t h7 hqt
         ·subst h7;rw[List.getElem?_eq_getElem hit] at hqt;cases hqt;exact λ e=>h6 (by rw[e])
      ·have h1:¬ 1<(c::r).length:=by have:=df h1;rw[ak] at this;omega
       have hnot:¬ (c::r).take 2 ∈ twos:=λ hm2=>by
        have:=hlen2 _ hm2;rw[List.length_take] at this;omega
       have hf1:first (c::r)=if c ∈ ones then (3,1) else (4,1):=by rw[hf,if_neg hnot];rfl
       refine⟨λ x w=>im W w/\∃ j:Nat,x=j/\j≤21/\∀ q t,q<j->ones[q]?=some t->c≠t,λ x _=>(21 - x).toNat,⟨h8,0,rfl,by omega,λ q t hq=>by omega⟩,λ _ x wo hI=>?_⟩;obtain⟨ho,j,rfl,hj,hno⟩:=hI;refine Sx.so (λ h=>?_) (λ h=>?_)
       ·have h5:j<21:=by have:=dt h;have e:(ofL ones).size=21:=rfl;have:((j:Nat):Int)<((ofL ones).size:Int):=this;omega
        have hjt:j<ones.length:=h5;refine⟨c,by omega,eh _ 0,ones[j],by omega,?_,?_⟩
        ·show(ofL ones)[((j:Nat):Int).toNat]?=_;rw[eh,Int.toNat_natCast,List.getElem?_eq_getElem hjt]
        ·rintro w13 k3 rfl;have ho':im W (wo.drewN k3):=db ho ((XTouch.refl _ wo).drewN k3);refine Sx.so (λ h6=>?_) (λ h6=>?_)
         ·have h6:c=ones[j]:=by have:=beq_iff_eq.1 h6;exact UInt8.toNat_inj.1 (by omega)
          rw[hf1,if_pos (by rw[h6];exact List.getElem_mem hjt)];exact⟨rfl,ho'⟩
         ·have h6:c≠ones[j]:=λ e=>by rw[e] at h6;simp at h6
          rintro z rfl
          have hw:IntKind.wrap .i64 ((j:Nat)+1:Int)=((j+1:Nat):Int):=by rw[show((j:Nat)+1:Int)=((j+1:Nat):Int) by omega];exact Go.Bits.n64 (by omega)
          rw[hw];refine⟨⟨ho',j+1,rfl,by omega,λ q t hq hqt=>?_⟩,by show(21 - ((j+1:Nat):Int)).toNat<(21 - ((j:Nat):Int)).toNat;omega⟩;rcases Nat.lt_or_eq_of_le (Nat.lt_succ_iff.1 hq) with h7 | h7
          ·exact hno q t h7 hqt
          ·subst h7;rw[List.getElem?_eq_getElem hjt] at hqt;cases hqt;exact h6
       ·have h5:j=21:=by have:=df h;have e:(ofL ones).size=21:=rfl;have:¬ ((j:Nat):Int)<((ofL ones).size:Int):=this;omega
        subst h5
        rw[hf1,if_neg (λ hm=>by
         obtain⟨q,hq,e⟩:=List.getElem_of_mem hm
         exact hno q _ hq (List.getElem?_eq_getElem hq) e.symm)]
        exact⟨rfl,ho⟩
     ·have h5:i=8:=by have:=df h;omega
      subst h5
      have hnot:¬ (c::r).take 2 ∈ twos:=λ hm2=>by
       obtain⟨q,hq,e⟩:=List.getElem_of_mem hm2;exact hno2 q _ hq (List.getElem?_eq_getElem hq) e.symm
      have hf1:first (c::r)=if c ∈ ones then (3,1) else (4,1):=by rw[hf,if_neg hnot];rfl
      refine⟨λ x w=>im W w/\∃ j:Nat,x=j/\j≤21/\∀ q t,q<j->ones[q]?=some t->c≠t,λ x _=>(21 - x).toNat,⟨h8,0,rfl,by omega,λ q t hq=>by omega⟩,λ _ x wo hI=>?_⟩;obtain⟨ho,j,rfl,hj,hno⟩:=hI;refine Sx.so (λ h=>?_) (λ h=>?_)
      ·have h5:j<21:=by have:=dt h;have e:(ofL ones).size=21:=rfl;have:((j:Nat):Int)<((ofL ones).size:Int):=this;omega
       have hjt:j<ones.length:=h5;refine⟨c,by omega,eh _ 0,ones[j],by omega,?_,?_⟩
       ·show(ofL ones)[((j:Nat):Int).toNat]?=_;rw[eh,Int.toNat_natCast,List.getElem?_eq_getElem hjt]
       ·rintro w13 k3 rfl;have ho':im W (wo.drewN k3):=db ho ((XTouch.refl _ wo).drewN k3);refine Sx.so (λ h6=>?_) (λ h6=>?_)
        ·have h6:c=ones[j]:=by have:=beq_iff_eq.1 h6;exact UInt8.toNat_inj.1 (by omega)
         rw[hf1,if_pos (by rw[h6];exact List.getElem_mem hjt)];exact⟨rfl,ho'⟩
        ·have h6:c≠ones[j]:=λ e=>by rw[e] at h6;simp at h6
         rintro z rfl
         have hw:IntKind.wrap .i64 ((j:Nat)+1:Int)=((j+1:Nat):Int):=by rw[show((j:Nat)+1:Int)=((j+1:Nat):Int) by omega];exact Go.Bits.n64 (by omega)
         rw[hw];refine⟨⟨ho',j+1,rfl,by omega,λ q t hq hqt=>?_⟩,by show(21 - ((j+1:Nat):Int)).toNat<(21 - ((j:Nat):Int)).toNat;omega⟩;rcases Nat.lt_or_eq_of_le (Nat.lt_succ_iff.1 hq) with h7 | h7
         ·exact hno q t h7 hqt
         ·subst h7;rw[List.getElem?_eq_getElem hjt] at hqt;cases hqt;exact h6
      ·have h5:j=21:=by have:=df h;have e:(ofL ones).size=21:=rfl;have:¬ ((j:Nat):Int)<((ofL ones).size:Int):=this;omega
       subst h5
       rw[hf1,if_neg (λ hm=>by
        obtain⟨q,hq,e⟩:=List.getElem_of_mem hm
        exact hno q _ hq (List.getElem?_eq_getElem hq) e.symm)]
       exact⟨rfl,ho⟩
   ·have h4:=Di h4;rintro z rfl;rcases hw with hw | hw
    ·rw[hw];exact⟨⟨h2,i+1,rfl,go (by rw[h4,Bool.or_true])⟩,by show(((c::r).length:Int) - ((i+1:Nat):Int)).toNat<(((c::r).length:Int) - ((i:Nat):Int)).toNat;omega⟩
    ·exact absurd hsz (by omega)
  ·have h3:=Di h3;rintro z rfl;rcases hw with hw | hw
   ·rw[hw];exact⟨⟨h2,i+1,rfl,go (by rw[h3,Bool.true_or])⟩,by show(((c::r).length:Int) - ((i+1:Nat):Int)).toNat<(((c::r).length:Int) - ((i:Nat):Int)).toNat;omega⟩
   ·exact absurd hsz (by omega)
 ·have hge:(c::r).length≤i:=by have:=df hge;rw[ak] at this;omega
  have hm:bz (c::r)=i:=by omega
  refine Sx.so (λ hp=>?_) (λ hp=>?_)
  ·have hp:0<i:=by have:=dt hp;omega
   obtain⟨m,rfl⟩:∃ m,i=m+1:=⟨i - 1,by omega⟩
   have hf:first (c::r)=if isL c then (if (c::r).take (m+1) ∈ words then (3,m+1) else (1,m+1)) else if ((c::r).take (m+1)).all isD then (2,m+1) else (4,m+1):=by unfold first;rw[hm];rfl
   have hwb:=wh (c::r);rw[hm] at hwb;have hwl:=ru (c::r)
   have hx:(ofL (c::r)).extract 0 ((m+1:Nat):Int).toNat=ofL ((c::r).take (m+1)):=by
    rw[bc,List.drop_zero];rfl
   refine⟨c,by omega,eh _ 0,(nu c).mono ?_⟩;rintro _ w6 ⟨rfl,rfl⟩;refine⟨_,rfl,Sx.so (λ hd=>?_) (λ hd=>?_)⟩
   ·have hd:=Dh hd
    have hL:isL c=true:=by
     have:=hwb c (by simp);rw[hd,Bool.or_false] at this;exact this
    rw[if_pos hL] at hf;refine⟨by omega,⟨by omega,by rw[ak];omega⟩,?_⟩;rw[hx];refine(Io ((c::r).take (m+1))).mono ?_;rintro _ w7 ⟨rfl,h7⟩;have h8:=db h2 h7;refine⟨_,rfl,Sx.so (λ ht=>?_) (λ ht=>?_)⟩
    ·rw[hf,if_pos (dt ht)];exact⟨rfl,h8⟩
    ·rw[hf,if_neg (df ht)];exact⟨rfl,h8⟩
   ·have hd:=Di hd
    have hL:¬ isL c=true:=by
     rw[lp];rw[tj] at hd;unfold Pg at hd;unfold Db;rw[Bool.and_eq_true] at hd;have b1:=dt hd.1;have b2:=dt hd.2;intro a;rcases Bool.or_eq_true_iff.1 a with a | a
     ·have:=beq_iff_eq.1 a;omega
     ·rw[Bool.and_eq_true] at a;have:=dt a.1;omega
    rw[if_neg hL] at hf;refine⟨λ x w=>im W w/\∃ j:Nat,x=j/\j≤m+1/\((c::r).take j).all isD=true,λ x _=>(((m+1:Nat):Int) - x).toNat,⟨h2,0,rfl,by omega,rfl⟩,λ _ x w8 hI=>?_⟩;obtain⟨h8,j,rfl,hj,hall⟩:=hI;refine Sx.so (λ hlt=>?_) (λ hge=>?_)
    ·have hlt:j<m+1:=by have:=dt hlt;omega
     have hjl:j<(c::r).length:=by omega
     refine⟨(c::r)[j],by omega,by rw[eh,Int.toNat_natCast,List.getElem?_eq_getElem hjl],(nu _).mono ?_⟩;rintro _ w9 ⟨rfl,rfl⟩;refine⟨_,rfl,Sx.so (λ hq=>?_) (λ hq=>?_)⟩
     ·have hq:=Dh hq
      rw[hf,if_neg (λ ha=>by
       have:=List.all_eq_true.1 ha (c::r)[j] (List.mem_of_getElem? (i:=j) (by rw[List.getElem?_take_of_lt hlt,List.getElem?_eq_getElem hjl]))
       rw[this] at hq;cases hq)]
      exact⟨rfl,h8⟩
     ·have hq:=Di hq;rintro z rfl
      have hw:IntKind.wrap .i64 ((j:Nat)+1:Int)=((j+1:Nat):Int):=by rw[show((j:Nat)+1:Int)=((j+1:Nat):Int) by omega];exact Go.Bits.n64 (by omega)
      rw[hw];refine⟨⟨h8,j+1,rfl,by omega,?_⟩,by show(((m+1:Nat):Int) - ((j+1:Nat):Int)).toNat<(((m+1:Nat):Int) - ((j:Nat):Int)).toNat;omega⟩;rw[List.take_succ_eq_append_getElem hjl,List.all_append,hall];simp [hq]
    ·have hge:j=m+1:=by have:=df hge;omega
     subst hge;rw[hf,if_pos hall];exact⟨rfl,h8⟩
  ·have hp:i=0:=by have:=df hp;omega
   subst hp
   have hf:first (c::r)=if (c::r).take 2 ∈ twos then (3,2) else if (c::r).headD 0 ∈ ones then (3,1) else (4,1):=by unfold first;rw[hm]
   intro k w7 ek ew;have H7:=((St.nil W).quiet h2).al (φ:=λ k w=>St W (λ _=>False) w ([]++[blk k ((twos.map λ l=>Value.string (ofL l)).toArray) 9])) (cs:=(twos.map λ l=>Value.string (ofL l)).toArray) (t:=9) (λ k w H=>H) k w7 ek ew;have hb7:Blk w7 k ((twos.map λ l=>Value.string (ofL l)).toArray) 9:=H7.nth 0 rfl;refine⟨λ x w=>(im W w/\Blk w k ((twos.map λ l=>Value.string (ofL l)).toArray) 9)/\∃ j:Nat,x=j/\j≤8/\∀ q t,q<j->twos[q]?=some t->(c::r).take 2≠t,λ x _=>(8 - x).toNat,⟨⟨H7.touch,hb7⟩,0,rfl,by omega,λ q t hq=>by omega⟩,λ _ x w8 hI=>?_⟩;obtain⟨⟨h8,hb⟩,i,rfl,hi8,hno2⟩:=hI
   have hlen2:∀ x ∈ twos,x.length=2:=by decide
   refine Sx.so (λ h=>?_) (λ h=>?_)
   ·have h5:i<8:=by have:=dt h;omega
    have hit:i<twos.length:=h5;refine Sx.so (λ h1=>?_) (λ h1=>?_)
    ·have h1:1<(c::r).length:=by have:=dt h1;rw[ak] at this;omega
     have hx:(ofL (c::r)).extract 0 2=ofL ((c::r).take 2):=by rw[bc,List.drop_zero]
     refine⟨by omega,⟨by omega,by rw[ak];omega⟩,⟨by omega,by omega⟩,ofL twos[i],?_,?_⟩
     ·rw[ix1,Nat.zero_add];exact hb.cell' (by rw[List.getElem?_toArray,List.getElem?_map,List.getElem?_eq_getElem hit];rfl)
     ·rintro w11 k2 rfl;have h9:im W (w8.drewN k2):=db h8 ((XTouch.refl _ w8).drewN k2);rw[hx,ab];refine Sx.so (λ h6=>?_) (λ h6=>?_)
      ·have h6:(c::r).take 2=twos[i]:=zl (dt h6);rw[hf,if_pos (h6 ▸ List.getElem_mem hit)];exact⟨rfl,h9⟩
      ·have h6:¬ ofL ((c::r).take 2)=ofL twos[i]:=df h6;rintro z rfl
       have hw:IntKind.wrap .i64 ((i:Nat)+1:Int)=((i+1:Nat):Int):=by rw[show((i:Nat)+1:Int)=((i+1:Nat):Int) by omega];exact Go.Bits.n64 (by omega)
       rw[hw];refine⟨⟨⟨h9,hb.drewN k2⟩,i+1,rfl,by omega,λ q t hq hqt=>?_⟩,by show(8 - ((i+1:Nat):Int)).toNat<(8 - ((i:Nat):Int)).toNat;omega⟩;rcases Nat.lt_or_eq_of_le (Nat.lt_succ_iff.1 hq) with h7 | h7
       ·exact hno2 q t h7 hqt
       ·subst h7;rw[List.getElem?_eq_getElem hit] at hqt;cases hqt;exact λ e=>h6 (by rw[e])
    ·have h1:¬ 1<(c::r).length:=by have:=df h1;rw[ak] at this;omega
     have hnot:¬ (c::r).take 2 ∈ twos:=λ hm2=>by
      have:=hlen2 _ hm2;rw[List.length_take] at this;omega
     have hf1:first (c::r)=if c ∈ ones then (3,1) else (4,1):=by rw[hf,if_neg hnot];rfl
     refine⟨λ x w=>im W w/\∃ j:Nat,x=j/\j≤21/\∀ q t,q<j->ones[q]?=some t->c≠t,λ x _=>(21 - x).toNat,⟨h8,0,rfl,by omega,λ q t hq=>by omega⟩,λ _ x wo hI=>?_⟩;obtain⟨ho,j,rfl,hj,hno⟩:=hI;refine Sx.so (λ h=>?_) (λ h=>?_)
     ·have h5:j<21:=by have:=dt h;have e:(ofL ones).size=21:=rfl;have:((j:Nat):Int)<((ofL ones).size:Int):=this;omega
      have hjt:j<ones.length:=h5;refine⟨c,by omega,eh _ 0,ones[j],by omega,?_,?_⟩
      ·show(ofL ones)[((j:Nat):Int).toNat]?=_;rw[eh,Int.toNat_natCast,List.getElem?_eq_getElem hjt]
      ·rintro w13 k3 rfl;have ho':im W (wo.drewN k3):=db ho ((XTouch.refl _ wo).drewN k3);refine Sx.so (λ h6=>?_) (λ h6=>?_)
       ·have h6:c=ones[j]:=by have:=beq_iff_eq.1 h6;exact UInt8.toNat_inj.1 (by omega)
        rw[hf1,if_pos (by rw[h6];exact List.getElem_mem hjt)];exact⟨rfl,ho'⟩
       ·have h6:c≠ones[j]:=λ e=>by rw[e] at h6;simp at h6
        rintro z rfl
        have hw:IntKind.wrap .i64 ((j:Nat)+1:Int)=((j+1:Nat):Int):=by rw[show((j:Nat)+1:Int)=((j+1:Nat):Int) by omega];exact Go.Bits.n64 (by omega)
        rw[hw];refine⟨⟨ho',j+1,rfl,by omega,λ q t hq hqt=>?_⟩,by show(21 - ((j+1:Nat):Int)).toNat<(21 - ((j:Nat):Int)).toNat;omega⟩;rcases Nat.lt_or_eq_of_le (Nat.lt_succ_iff.1 hq) with h7 | h7
        ·exact hno q t h7 hqt
        ·subst h7;rw[List.getElem?_eq_getElem hjt] at hqt;cases hqt;exact h6
     ·have h5:j=21:=by have:=df h;have e:(ofL ones).size=21:=rfl;have:¬ ((j:Nat):Int)<((ofL ones).size:Int):=this;omega
      subst h5
      rw[hf1,if_neg (λ hm=>by
       obtain⟨q,hq,e⟩:=List.getElem_of_mem hm
       exact hno q _ hq (List.getElem?_eq_getElem hq) e.symm)]
      exact⟨rfl,ho⟩
   ·have h5:i=8:=by have:=df h;omega
    subst h5
    have hnot:¬ (c::r).take 2 ∈ twos:=λ hm2=>by
     obtain⟨q,hq,e⟩:=List.getElem_of_mem hm2;exact hno2 q _ hq (List.getElem?_eq_getElem hq) e.symm
    have hf1:first (c::r)=if c ∈ ones then (3,1) else (4,1):=by rw[hf,if_neg hnot];rfl
    refine⟨λ x w=>im W w/\∃ j:Nat,x=j/\j≤21/\∀ q t,q<j->ones[q]?=some t->c≠t,λ x _=>(21 - x).toNat,⟨h8,0,rfl,by omega,λ q t hq=>by omega⟩,λ _ x wo hI=>?_⟩;obtain⟨ho,j,rfl,hj,hno⟩:=hI;refine Sx.so (λ h=>?_) (λ h=>?_)
    ·have h5:j<21:=by have:=dt h;have e:(ofL ones).size=21:=rfl;have:((j:Nat):Int)<((ofL ones).size:Int):=this;omega
     have hjt:j<ones.length:=h5;refine⟨c,by omega,eh _ 0,ones[j],by omega,?_,?_⟩
     ·show(ofL ones)[((j:Nat):Int).toNat]?=_;rw[eh,Int.toNat_natCast,List.getElem?_eq_getElem hjt]
     ·rintro w13 k3 rfl;have ho':im W (wo.drewN k3):=db ho ((XTouch.refl _ wo).drewN k3);refine Sx.so (λ h6=>?_) (λ h6=>?_)
      ·have h6:c=ones[j]:=by have:=beq_iff_eq.1 h6;exact UInt8.toNat_inj.1 (by omega)
       rw[hf1,if_pos (by rw[h6];exact List.getElem_mem hjt)];exact⟨rfl,ho'⟩
      ·have h6:c≠ones[j]:=λ e=>by rw[e] at h6;simp at h6
       rintro z rfl
       have hw:IntKind.wrap .i64 ((j:Nat)+1:Int)=((j+1:Nat):Int):=by rw[show((j:Nat)+1:Int)=((j+1:Nat):Int) by omega];exact Go.Bits.n64 (by omega)
       rw[hw];refine⟨⟨ho',j+1,rfl,by omega,λ q t hq hqt=>?_⟩,by show(21 - ((j+1:Nat):Int)).toNat<(21 - ((j:Nat):Int)).toNat;omega⟩;rcases Nat.lt_or_eq_of_le (Nat.lt_succ_iff.1 hq) with h7 | h7
       ·exact hno q t h7 hqt
       ·subst h7;rw[List.getElem?_eq_getElem hjt] at hqt;cases hqt;exact h6
    ·have h5:j=21:=by have:=df h;have e:(ofL ones).size=21:=rfl;have:¬ ((j:Nat):Int)<((ofL ones).size:Int):=this;omega
     subst h5
     rw[hf1,if_neg (λ hm=>by
      obtain⟨q,hq,e⟩:=List.getElem_of_mem hm
      exact hno q _ hq (List.getElem?_eq_getElem hq) e.symm)]
     exact⟨rfl,ho⟩
end Go.Proofs.YtojogkljneonmaaGreatDoor
