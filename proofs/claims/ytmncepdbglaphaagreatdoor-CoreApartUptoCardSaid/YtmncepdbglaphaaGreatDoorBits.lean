/- A part of the walk. No condition. -/
import Derived.Test.YtmncepdbglaphaaGreatDoorSxH
set_option linter.unusedVariables false
set_option maxRecDepth 100000
namespace Go.Proofs.YtmncepdbglaphaaGreatDoor
open Go Go.Proofs Go.Proofs.Tryz Go.V
variable {W:wD}{Q:Ending->wD->Prop}
set_option maxHeartbeats 1000000
theorem amq (code:OA) (coden:Nat) (codec:Nat) (data:Int)
 (hVC:Sx.split (decide ((↑coden:Int)<1)) (Q (eZ (.iface 60 (Value.int .i64 1))) W) (Sx.split (decide ((↑coden:Int) > 4096)) (Q (eZ (.iface 60 (Value.int .i64 1))) W) (Sx.split (decide (data<0)) (Q (eZ (.iface 60 (Value.int .i64 1))) W) (Sx.split (decide (data > 4096)) (Q (eZ (.iface 60 (Value.int .i64 1))) W) ((16:Int)≠(0:Int)/\nM (Int.tmod data 16) λ z=>Sx.split (z !=0) (Q (eZ (.iface 60 (Value.int .i64 1))) W) (Q (eZ Value.nilIface) W)))))) :
 Calls prog 14 #[.slice code coden codec,.int .i64 data] W Q :=
 Sx.sd func14 .leaf hVC
theorem amr (hart:Int)
 (hVC:nw .u32 hart λ z=>∀ k:Nat,∀ W2:wD,k=Array.size (World.heap W)->W2=World.alloc W (Obj.map #[] 0)->nN (#[.int .u32 z,ou,Value.map (some k)]) λ vs=>alc W2 (Value.cells (Value.agg vs)) 115 λ k2 W3=>Q (eZ (pZ k2 0)) W3) :
 Calls prog 21 #[.int .i64 hart] W Q :=
 Sx.sd func21 .leaf hVC
theorem aie (code:OA) (coden:Nat) (codec:Nat) (pc:Int)
 (hVC:(0:Int)≤(2:Int)/\nM (Int.fdiv pc (2 ^ min 2 (IntKind.bits .u32))) λ z=>nw .i64 z λ z2=>Sx.split (decide (z2<(↑coden:Int))) (ixs z2 coden code λ k k2=>ldI .u32 W k (k2+z2.toNat * 1) λ z3=>Q (eY #[.int .u32 z3,.bool true]) W) (Q (eY #[ou,.bool false]) W)) :
 Calls prog 165 #[.slice code coden codec,.int .u32 pc] W Q :=
 Sx.sd func165 .leaf hVC
theorem aif (i:AV) (a:Int)
 (hVC:alc W (Value.cells (Value.agg i)) 157 λ k W2=>ldI .i64 W2 k 0 λ z=>rI prog .i64 130 #[.int .i64 z] W2 λ z2 W3=>Sx.split (z2==6) (Q (eZ (.int .u32 a)) W3) (ldI .i64 W3 k (0+4) λ z3=>nw .u32 z3 λ z4=>nw .u32 (a+z4) λ z5=>Q (eZ (.int .u32 z5)) W3)) :
 Calls prog 157 #[.agg i,.int .u32 a] W Q :=
 Sx.sd func157 .leaf hVC
theorem aig (y0:Int) (size:Int) (fv0:Nat) (fv0o:Nat) (fv1:Nat) (fv1o:Nat)
 (hVC:ldI .u32 W fv0 fv0o λ z=>nw .u32 (z - y0) λ z2=>Sx.split (decide (z2<size)) (ldI .u32 W fv0 fv0o λ z3=>nw .u32 (z3 - y0) λ z4=>ldI .u32 W fv1 fv1o λ z5=>nw .u32 (z4+z5) λ z6=>Q (eZ (.bool (decide (z6≤size)))) W) (Q (eZ (.bool false)) W)) :
 Calls prog 205 #[.int .u32 y0,.int .u32 size,pZ fv0 fv0o,pZ fv1 fv1o] W Q :=
 Sx.sd func205 .leaf hVC
theorem aih (op:Int) (addr:Int) (data:Int)
 (hVC:alc W #[.int .u32 addr] 47 λ k W2=>rI prog .i64 110 #[.int .i64 op] W2 λ z W3=>nw .u32 z λ z2=>alc W3 #[ou] 47 λ k2 W4=>sto W4 k2 0 (Value.int .u32 z2) λ W5=>rI prog .i64 130 #[.int .i64 op] W5 λ z3 W6=>Sx.split (z3==4) (ldI .u32 W6 k 0 λ z4=>ldI .u32 W6 k2 0 λ z5=>nw .u32 (z5 - 1) λ z6=>nw .u32 (↑(BitVec.toNat (bZ .u32 z4 &&&bZ .u32 z6)):Int) λ z7=>Sx.split (z7 !=0) (Q (eZ (.int .i64 4)) W6) (nw .u32 data λ z8=>rB prog 205 #[.int .u32 65536,.int .u32 z8,pZ k 0,pZ k2 0] W6 λ t W7=>Sx.split t (Q (eZ (.int .i64 (-1))) W7) (Sx.split (z3==5) (rB prog 205 #[.int .u32 131072,.int .u32 4,pZ k 0,pZ k2 0] W7 λ t2 W8=>Sx.split t2 (Q (eZ (.int .i64 (-1))) W8) (Q (eZ (.int .i64 5)) W8)) (Q (eZ (.int .i64 5)) W7)))) (Sx.split (op==46) (ldI .u32 W6 k 0 λ z9=>ldI .u32 W6 k2 0 λ z10=>nw .u32 (z10 - 1) λ z11=>nw .u32 (↑(BitVec.toNat (bZ .u32 z9 &&&bZ .u32 z11)):Int) λ z12=>Sx.split (z12 !=0) (Q (eZ (.int .i64 4)) W6) (nw .u32 data λ z13=>rB prog 205 #[.int .u32 65536,.int .u32 z13,pZ k 0,pZ k2 0] W6 λ t3 W9=>Sx.split t3 (Q (eZ (.int .i64 (-1))) W9) (Sx.split (z3==5) (rB prog 205 #[.int .u32 131072,.int .u32 4,pZ k 0,pZ k2 0] W9 λ t4 W10=>Sx.split t4 (Q (eZ (.int .i64 (-1))) W10) (Q (eZ (.int .i64 5)) W10)) (Q (eZ (.int .i64 5)) W9)))) (ldI .u32 W6 k 0 λ z14=>ldI .u32 W6 k2 0 λ z15=>nw .u32 (z15 - 1) λ z16=>nw .u32 (↑(BitVec.toNat (bZ .u32 z14 &&&bZ .u32 z16)):Int) λ z17=>Sx.split (z17 !=0) (Q (eZ (.int .i64 6)) W6) (nw .u32 data λ z18=>rB prog 205 #[.int .u32 65536,.int .u32 z18,pZ k 0,pZ k2 0] W6 λ t5 W11=>Sx.split t5 (Q (eZ (.int .i64 (-1))) W11) (Sx.split (z3==5) (rB prog 205 #[.int .u32 131072,.int .u32 4,pZ k 0,pZ k2 0] W11 λ t6 W12=>Sx.split t6 (Q (eZ (.int .i64 (-1))) W12) (Q (eZ (.int .i64 7)) W12)) (Q (eZ (.int .i64 7)) W11)))))) :
 Calls prog 158 #[.int .i64 op,.int .u32 addr,.int .i64 data] W Q :=
 Sx.sd func158 .leaf hVC
theorem aii (i:AV) (pc:Int) (a:Int) (b:Int)
 (hVC:alc W (Value.cells (Value.agg i)) 157 λ k W2=>ldI .i64 W2 k 0 λ z=>Calls prog 118 #[.int .i64 z] W2 λ e W3=>∃ t:Bool,∃ t2:Bool,e=eY #[.bool t,.bool t2]/\Sx.split (!t) (ldI .i64 W3 k (0+4) λ z2=>nw .u32 z2 λ z3=>dn W3 λ W4 k2=>Q (eY #[.int .u32 pc,.int .u32 z3]) W4) (Sx.split (!t2) (ldI .i64 W3 k (0+4) λ z4=>nw .u32 z4 λ z5=>dn W3 λ W5 k3=>Q (eY #[.int .u32 a,.int .u32 z5]) W5) (Q (eY #[.int .u32 a,.int .u32 b]) W3))) :
 Calls prog 105 #[.agg i,.int .u32 pc,.int .u32 a,.int .u32 b] W Q :=
 Sx.sd func105 .leaf hVC
theorem aij (i:AV) (pc:Int) (a:Int)
 (hVC:alc W (Value.cells (Value.agg i)) 157 λ k W2=>ldI .i64 W2 k 0 λ z=>Sx.split (z==4) (ldI .i64 W2 k (0+4) λ z2=>nw .u32 z2 λ z3=>nw .u32 (a+z3) λ z4=>nw .u32 (↑(BitVec.toNat (bZ .u32 z4 &&& ~~~bZ .u32 1)):Int) λ z5=>Q (eZ (.int .u32 z5)) W2) (ldI .i64 W2 k (0+4) λ z6=>nw .u32 z6 λ z7=>nw .u32 (pc+z7) λ z8=>Q (eZ (.int .u32 z8)) W2)) :
 Calls prog 104 #[.agg i,.int .u32 pc,.int .u32 a] W Q :=
 Sx.sd func104 .leaf hVC
theorem aik (n:Int)
 (hVC:Sx.split (n==768) (Q (eY #[.int .u32 136,.bool true]) W) (Sx.split (n==772) (Q (eY #[.int .u32 2048,.bool true]) W) (Sx.split (n==773) (Q (eY #[.int .u32 4294967292,.bool true]) W) (Sx.split (n==833) (Q (eY #[.int .u32 4294967292,.bool true]) W) (Sx.split (n==832) (Q (eY #[.int .u32 4294967295,.bool true]) W) (Sx.split (n==834) (Q (eY #[.int .u32 4294967295,.bool true]) W) (Sx.split (n==835) (Q (eY #[.int .u32 4294967295,.bool true]) W) (Q (eY #[ou,.bool false]) W)))))))) :
 Calls prog 172 #[.int .i64 n] W Q :=
 Sx.sd func172 .leaf hVC
theorem ail (r:Nat) (ro:Nat) (n:Int)
 (hVC:Sx.split (n==3074) (ldI .u32 W r (ro+1) λ z=>Q (eY #[.int .u32 z,.bool true]) W) (Sx.split (n==3860) (ldI .u32 W r ro λ z2=>Q (eY #[.int .u32 z2,.bool true]) W) (Calls prog 172 #[.int .i64 n] W λ e W2=>∃ z3:Int,∃ t:Bool,e=eY #[.int .u32 z3,.bool t]/\ldM W2 r (ro+2) λ p=>Sx.mapp p (λ k=>∃ I:Int->Option Value,Sx.Mp W2 IntKind.i64 k I/\∃ z4:Int,Option.getD (I n) (Value.int .u32 0)=Value.int .u32 z4/\Q (eY #[.int .u32 z4,.bool t]) W2)))) :
 Calls prog 215 #[pZ r ro,.int .i64 n] W Q :=
 Sx.sd func215 .leaf hVC
theorem aim (r:Nat) (ro:Nat) (n:Int) (v:Int)
 (hVC:Calls prog 172 #[.int .i64 n] W λ e W2=>∃ z:Int,∃ t:Bool,e=eY #[.int .u32 z,.bool t]/\ldM W2 r (ro+2) λ p=>nw .u32 (↑(BitVec.toNat (bZ .u32 v &&&bZ .u32 z)):Int) λ z2=>Sx.mapp p (λ k=>∃ I:Int->Option Value,Sx.Mp W2 IntKind.i64 k I/\∀ W3:wD,Sx.Mp W3 IntKind.i64 k (Sx.upd I n (some (.int .u32 z2)))->(XHeap.XTouch (λ q=>q=k) W2 W3->Q e0 W3))) :
 Calls prog 137 #[pZ r ro,.int .i64 n,.int .u32 v] W Q :=
 Sx.sd func137 .leaf hVC
theorem ams (r:Nat) (ro:Nat)
 (hVC:ldI .u32 W r (ro+1) λ z=>nw .u32 (z+1) λ z2=>sto W r (ro+1) (Value.int .u32 z2) λ W2=>Q e0 W2) :
 Calls prog 96 #[pZ r ro] W Q :=
 Sx.sd func96 .leaf hVC
theorem amt (r:Nat) (ro:Nat)
 (hVC:ldM W r (ro+2) λ p=>Sx.mapp p (λ k=>∃ I:Int->Option Value,Sx.Mp W IntKind.i64 k I/\∃ z:Int,Option.getD (I 768) (Value.int .u32 0)=Value.int .u32 z/\nw .u32 (↑(BitVec.toNat (bZ .u32 z &&&bZ .u32 8)):Int) λ z2=>Sx.split (decide (z2 > 0)) (ldM W r (ro+2) λ p2=>Sx.mapp p2 (λ k2=>∃ I2:Int->Option Value,Sx.Mp W IntKind.i64 k2 I2/\∃ z3:Int,Option.getD (I2 772) (Value.int .u32 0)=Value.int .u32 z3/\Q (eZ (.bool (decide (z3 > 0)))) W)) (Q (eZ (.bool false)) W))) :
 Calls prog 60 #[pZ r ro] W Q :=
 Sx.sd func60 .leaf hVC
theorem ain (r:Nat) (ro:Nat)
 (hVC:ldM W r (ro+2) λ p=>Sx.mapp p (λ k=>∃ I:Int->Option Value,Sx.Mp W IntKind.i64 k I/\∃ z:Int,Option.getD (I 768) (Value.int .u32 0)=Value.int .u32 z/\nw .u32 (↑(BitVec.toNat (bZ .u32 z &&&bZ .u32 128)):Int) λ z2=>(0:Int)≤(4:Int)/\nM (Int.fdiv z2 (2 ^ min 4 (IntKind.bits .u32))) λ z3=>nw .u32 (↑(BitVec.toNat (bZ .u32 z3 |||bZ .u32 128)):Int) λ z4=>rU prog 137 #[pZ r ro,.int .i64 768,.int .u32 z4] W λ W2=>ldM W2 r (ro+2) λ p2=>Sx.mapp p2 (λ k2=>∃ I2:Int->Option Value,Sx.Mp W2 IntKind.i64 k2 I2/\∃ z5:Int,Option.getD (I2 833) (Value.int .u32 0)=Value.int .u32 z5/\Q (eZ (.int .u32 z5)) W2))) :
 Calls prog 174 #[pZ r ro] W Q :=
 Sx.sd func174 .leaf hVC
theorem amu (r:Nat) (ro:Nat) (pc:Int) (cause:Int) (tval:Int)
 (hVC:ldM W r (ro+2) λ p=>Sx.mapp p (λ k=>∃ I:Int->Option Value,Sx.Mp W IntKind.i64 k I/\∃ z:Int,Option.getD (I 773) (Value.int .u32 0)=Value.int .u32 z/\Sx.split (z==0) (Q (eY #[.int .u32 pc,.bool false]) W) (rU prog 137 #[pZ r ro,.int .i64 833,.int .u32 pc] W λ W2=>nw .u32 cause λ z2=>rU prog 137 #[pZ r ro,.int .i64 834,.int .u32 z2] W2 λ W3=>rU prog 137 #[pZ r ro,.int .i64 835,.int .u32 tval] W3 λ W4=>ldM W4 r (ro+2) λ p2=>Sx.mapp p2 (λ k2=>∃ I2:Int->Option Value,Sx.Mp W4 IntKind.i64 k2 I2/\∃ z3:Int,Option.getD (I2 768) (Value.int .u32 0)=Value.int .u32 z3/\nw .u32 (↑(BitVec.toNat (bZ .u32 z3 &&&bZ .u32 8)):Int) λ z4=>(0:Int)≤(4:Int)/\nw .u32 (z4 * 2 ^ min 4 (IntKind.bits .u32)) λ z5=>rU prog 137 #[pZ r ro,.int .i64 768,.int .u32 z5] W4 λ W5=>Q (eY #[.int .u32 z,.bool true]) W5)))) :
 Calls prog 91 #[pZ r ro,.int .u32 pc,.int .i64 cause,.int .u32 tval] W Q :=
 Sx.sd func91 .leaf hVC
theorem aio (y0:Nat) (Y0:Nat) (y1:AV) (y2:Int)
 (hVC:alc W (Value.cells (Value.agg y1)) 157 λ k W2=>∃ I:Int->wD->Prop,(ldI .i64 W2 k 0 λ z=>Sx.split (decide (z ≥ 65)) (ldI .i64 W2 k (0+2) λ z2=>nw .u32 z2 λ z3=>I z3 W2) (I y2 W2))/\(wv (∀ x W3,I x W3->ldI .i64 W3 k (0+4) λ z4=>Calls prog 215 #[pZ y0 Y0,.int .i64 z4] W3 λ e W4=>∃ z5:Int,∃ t:Bool,e=eY #[.int .u32 z5,.bool t]/\∃ I2:Bool->wD->Prop,(ldI .i64 W4 k 0 λ z6=>Sx.split (z6==62) (I2 true W4) (ldI .i64 W4 k 0 λ z7=>I2 (z7==65) W4))/\(wv (∀ x2 W5,I2 x2 W5->∃ I3:wD->Prop,(Sx.split (!x2) (ldI .i64 W5 k (0+2) λ z8=>Sx.split (z8==0) (Q (eY #[.int .u32 z5,.bool t]) W5) (I3 W5)) (I3 W5))/\(wv (∀ W6,I3 W6->Sx.split (!t) (Q (eY #[ou,.bool false]) W6) (ldI .i64 W6 k (0+4) λ z9=>(0:Int)≤(10:Int)/\nM (Int.fdiv z9 (2 ^ min 10 (IntKind.bits .i64))) λ z10=>Sx.split (z10==3) (Q (eY #[ou,.bool false]) W6) (∃ I4:Int->wD->Prop,(ldI .i64 W6 k 0 λ z11=>Sx.split (z11==63) (nw .u32 (↑(BitVec.toNat (bZ .u32 x |||bZ .u32 z5)):Int) λ z12=>I4 z12 W6) (Sx.split (z11==66) (nw .u32 (↑(BitVec.toNat (bZ .u32 x |||bZ .u32 z5)):Int) λ z13=>I4 z13 W6) (Sx.split (z11==64) (nw .u32 (↑(BitVec.toNat (bZ .u32 z5 &&& ~~~bZ .u32 x)):Int) λ z14=>I4 z14 W6) (Sx.split (z11==67) (nw .u32 (↑(BitVec.toNat (bZ .u32 z5 &&& ~~~bZ .u32 x)):Int) λ z15=>I4 z15 W6) (I4 x W6)))))/\(wv (∀ x3 W7,I4 x3 W7->ldI .i64 W7 k (0+4) λ z16=>rU prog 137 #[pZ y0 Y0,.int .i64 z16,.int .u32 x3] W7 λ W8=>Q (eY #[.int .u32 z5,.bool true]) W8))))))))))) :
 Calls prog 175 #[pZ y0 Y0,.agg y1,.int .u32 y2] W Q :=
 Sx.sd func175 (.r (.node [(2,.int .u32)] [0,4] 1 .leaf (.r (.node [(10,.bool)] [4,8,9,2,0] 1 .leaf (.node [] [9,4,2,8,0] 1 .leaf (.r (.node [(2,.int .u32)] [0,4,8] 1 .leaf .leaf))))))) hVC
end Go.Proofs.YtmncepdbglaphaaGreatDoor
namespace Go.Bits
open Go.Sx
theorem n64 {x:Nat} (h:x<9223372036854775808):IntKind.wrap .i64 (x:Int)=x:=w64 (by omega) (by omega)
theorem n32 {x:Nat} (h:x<4294967296):IntKind.wrap .u32 (x:Int)=x:=w32 (by omega) (by omega)
theorem m32 (x:Nat):IntKind.wrap .u32 (x:Int)=((x % 4294967296:Nat):Int):=by rw[aez];omega
theorem m8 (x:Nat):IntKind.wrap .u8 (x:Int)=((x % 256:Nat):Int):=by rw[w8];omega
theorem ofI (k x:Nat) (h:x<2 ^ k):(BitVec.ofInt k (x:Int)).toNat=x:=by
 simp;exact Nat.mod_eq_of_lt h
theorem land (k:Nat){x y:Nat} (hx:x<2 ^ k) (hy:y<2 ^ k):(BitVec.ofInt k (x:Int) &&&BitVec.ofInt k (y:Int)).toNat=x &&&y:=by
 rw[BitVec.toNat_and,ofI k x hx,ofI k y hy]
theorem lor (k:Nat){x y:Nat} (hx:x<2 ^ k) (hy:y<2 ^ k):(BitVec.ofInt k (x:Int) |||BitVec.ofInt k (y:Int)).toNat=x |||y:=by
 rw[BitVec.toNat_or,ofI k x hx,ofI k y hy]
theorem amv (k:Nat){x y:Nat} (hx:x<2 ^ k) (hy:y<2 ^ k):(BitVec.ofInt k (x:Int) ^^^ BitVec.ofInt k (y:Int)).toNat=x ^^^ y:=by
 rw[BitVec.toNat_xor,ofI k x hx,ofI k y hy]
theorem land64 {x y:Nat} (hx:x<9223372036854775808) (hy:y<9223372036854775808):IntKind.wrap .i64 ((bZ .i64 (x:Int) &&&bZ .i64 (y:Int)).toNat:Int)=((x &&&y:Nat):Int):=by
 rw[land _ (by show x<2 ^ 64;omega) (by show y<2 ^ 64;omega)];exact n64 (qBC Nat.and_le_left hx)
theorem aip {x y:Nat} (hx:x<9223372036854775808) (hy:y<9223372036854775808):IntKind.wrap .i64 ((bZ .i64 (x:Int) |||bZ .i64 (y:Int)).toNat:Int)=((x |||y:Nat):Int):=by
 rw[lor _ (by show x<2 ^ 64;omega) (by show y<2 ^ 64;omega)];exact n64 (Nat.or_lt_two_pow (n:=63) hx hy)
theorem land32 {x y:Nat} (hx:x<4294967296) (hy:y<4294967296):IntKind.wrap .u32 ((bZ .u32 (x:Int) &&&bZ .u32 (y:Int)).toNat:Int)=((x &&&y:Nat):Int):=by
 rw[land _ (show x<2 ^ IntKind.bits .u32 from hx) (show y<2 ^ IntKind.bits .u32 from hy)];exact n32 (qBC Nat.and_le_left hx)
theorem lor32 {x y:Nat} (hx:x<4294967296) (hy:y<4294967296):IntKind.wrap .u32 ((bZ .u32 (x:Int) |||bZ .u32 (y:Int)).toNat:Int)=((x |||y:Nat):Int):=by
 rw[lor _ (show x<2 ^ IntKind.bits .u32 from hx) (show y<2 ^ IntKind.bits .u32 from hy)];exact n32 (Nat.or_lt_two_pow (n:=32) hx hy)
theorem lxor32 {x y:Nat} (hx:x<4294967296) (hy:y<4294967296):IntKind.wrap .u32 ((bZ .u32 (x:Int) ^^^ bZ .u32 (y:Int)).toNat:Int)=((x ^^^ y:Nat):Int):=by
 rw[amv _ (show x<2 ^ IntKind.bits .u32 from hx) (show y<2 ^ IntKind.bits .u32 from hy)];exact n32 (Nat.xor_lt_two_pow (n:=32) hx hy)
theorem andNot32 {x y:Nat} (hx:x<4294967296) (hy:y<4294967296):IntKind.wrap .u32 ((bZ .u32 (x:Int) &&& ~~~ bZ .u32 (y:Int)).toNat:Int)=((x &&&(4294967295 - y):Nat):Int):=by
 rw[BitVec.toNat_and,BitVec.toNat_not,ofI _ x (show x<2 ^ IntKind.bits .u32 from hx),ofI _ y (show y<2 ^ IntKind.bits .u32 from hy)];exact n32 (qBC Nat.and_le_left hx)
theorem mask (x b:Nat):x &&&(2 ^ b - 1)=x % 2 ^ b:=Nat.and_two_pow_sub_one_eq_mod x b
theorem sub_pow (b:Nat):((2 ^ b:Nat):Int) - 1=((2 ^ b - 1:Nat):Int):=by
 have:1≤2 ^ b:=Nat.one_le_two_pow;omega
theorem mask64 {x b:Nat} (hx:x<9223372036854775808) (hb:b≤62):IntKind.wrap .i64 ((bZ .i64 (x:Int) &&&bZ .i64 (((2 ^ b:Nat):Int) - 1)).toNat:Int)=((x % 2 ^ b:Nat):Int):=by
 have:2 ^ b≤2 ^ 62:=qX (by decide) hb;rw[sub_pow,land64 hx (by omega),mask]
theorem shr (x n:Nat):Int.fdiv (x:Int) (2 ^ n)=((x / 2 ^ n:Nat):Int):=by
 rw[qgB _ (Int.pow_nonneg (by decide))];simp
theorem one_shl {b:Nat} (hb:b≤62):IntKind.wrap .i64 (1 * 2 ^ min ((b:Int).toNat) (IntKind.bits .i64))=((2 ^ b:Nat):Int):=by
 have h1:2 ^ b≤2 ^ 62:=qX (by decide) hb;rw[qG,qPB (by show b≤64;omega),Int.one_mul];rw[show(2:Int) ^ b=((2 ^ b:Nat):Int) by simp];exact n64 (by omega)
theorem tmod (a b:Nat):Int.tmod (a:Int) (b:Int)=((a % b:Nat):Int):=rfl
theorem tdiv (a b:Nat):Int.tdiv (a:Int) (b:Int)=((a / b:Nat):Int):=rfl
end Go.Bits
