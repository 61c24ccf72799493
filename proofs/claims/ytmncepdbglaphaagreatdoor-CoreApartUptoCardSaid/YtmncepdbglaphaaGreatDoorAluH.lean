/- Part G. No condition. -/
import Derived.Test.YtmncepdbglaphaaGreatDoorAluF
import Derived.Test.YtmncepdbglaphaaGreatDoorSxB
set_option linter.unusedVariables false
set_option maxRecDepth 100000
namespace Go.Proofs.YtmncepdbglaphaaGreatDoor.alu
open Go.RowKit
theorem ve (a b:Int) (h0:0≤a) (h1:a<4294967296) (h2:0≤b) (h3:b<4294967296) (w:wD):Calls Tryz.prog 201 #[.int .u32 a,.int .u32 b] w (zy (quoF a b) (remF a b) w):=by
 by_cases hb:b=0
 ·subst hb;have e1:quoF a 0=4294967295:=rfl;have e2:remF a 0=a:=rfl;rw[e1,e2];exact Bk a w
 ·unfold quoF remF;rw[if_neg hb,if_neg hb]
  have key:∀ x y:Int,0≤x->0<y->(-x).tdiv y= -(x / y)/\x.tdiv (-y)= -(x / y)/\(-x).tdiv (-y)=x / y/\(-x).tmod y= -(x % y)/\x.tmod (-y)=x % y/\(-x).tmod (-y)= -(x % y)/\x.tdiv y=x / y/\x.tmod y=x % y:=by
   intro x y hx hy;simp [Int.neg_tdiv,Int.tdiv_neg,Int.neg_tmod,Int.tmod_neg,Int.tdiv_eq_ediv_of_nonneg hx,Int.tmod_eq_emod_of_nonneg hx]
  by_cases ha:a<2147483648
  ·by_cases hbb:b<2147483648
   ·obtain⟨-, -, -, -, -, -,e1,e2⟩:=key a b h0 (by omega)
    have e3:sg a=a:=by unfold sg;rw[if_pos ha]
    have e4:sg b=b:=by unfold sg;rw[if_pos hbb]
    have q0:0≤a / b:=Int.ediv_nonneg h0 h2;have q1:a / b≤a:=Int.ediv_le_self b h0;have r0:0≤a % b:=Int.emod_nonneg _ hb;have r1:a % b<b:=Int.emod_lt_of_pos a (by omega);rw[e3,e4,e1,e2,Int.emod_eq_of_lt q0 (by omega),Int.emod_eq_of_lt r0 (by omega)];exact Gw a b h0 ha (by omega) hbb w
   ·obtain⟨-,e1, -, -,e2, -⟩:=key a (4294967296 - b) h0 (by omega)
    have e3:sg a=a:=by unfold sg;rw[if_pos ha]
    have e4:sg b= -(4294967296 - b):=by unfold sg;rw[if_neg hbb];omega
    have r0:0≤a % (4294967296 - b):=Int.emod_nonneg _ (by omega);have r1:a % (4294967296 - b)<(4294967296 - b):=Int.emod_lt_of_pos a (by omega);rw[e3,e4,e1,e2,Int.emod_eq_of_lt r0 (by omega)];exact Gx a b h0 ha (by omega) h3 w
  ·by_cases hbb:b<2147483648
   ·obtain⟨e1, -, -,e2, -⟩:=key (4294967296 - a) b (by omega) (by omega)
    have e3:sg a= -(4294967296 - a):=by unfold sg;rw[if_neg ha];omega
    have e4:sg b=b:=by unfold sg;rw[if_pos hbb]
    rw[e3,e4,e1,e2];exact Gy a b (by omega) h1 (by omega) hbb w
   ·obtain⟨-, -,e1, -, -,e2, -⟩:=key (4294967296 - a) (4294967296 - b) (by omega) (by omega)
    have e3:sg a= -(4294967296 - a):=by unfold sg;rw[if_neg ha];omega
    have e4:sg b= -(4294967296 - b):=by unfold sg;rw[if_neg hbb];omega
    have q0:0≤(4294967296 - a) / (4294967296 - b):=Int.ediv_nonneg (by omega) (by omega);have q1:(4294967296 - a) / (4294967296 - b)≤(4294967296 - a):=Int.ediv_le_self _ (by omega);rw[e3,e4,e1,e2,Int.emod_eq_of_lt q0 (by omega)];exact Gz a b (by omega) h1 (by omega) h3 w
def afa (a b:Int):Int:=if sg a<sg b then 1 else 0
def Lu (a b:Int):Int:=if a<b then 1 else 0
def divuF (a b:Int):Int:=if b=0 then 4294967295 else a / b
def remuF (a b:Int):Int:=if b=0 then a else a % b
def IsU (x:Int) (w:wD) (e:Ending) (w':wD):Prop:=e= .returned (.int .u32 x)/\Grown w w'
theorem ax {x y:Int}{w w':wD} (h:x=y) (hg:Grown w w'):IsU y w (.returned (.int .u32 x)) w':=⟨by rw[h],hg⟩
def U2 (f:Nat) (a b x:Int) (w:wD):Prop:=Calls Tryz.prog f #[.int .u32 a,.int .u32 b] w (IsU x w)
theorem opsA (a b:Int) (h0:0≤a) (h1:a<4294967296) (h2:0≤b) (h3:b<4294967296) (w:wD):U2 183 a b (b * 4096 % 4294967296) w/\U2 184 a b ((a+b * 4096) % 4294967296) w/\U2 185 a b ((a+b) % 4294967296) w/\U2 188 a b (bits .xor .u32 a b) w/\U2 189 a b (bits .or .u32 a b) w/\U2 190 a b (bits .and .u32 a b) w/\U2 194 a b ((a - b) % 4294967296) w/\U2 195 a b (a * b % 4294967296) w:=by
 unfold U2;refine⟨?_,?_,?_,?_,?_,?_,?_,?_⟩
 go_enter Tryz.func183,Tryz.ntmps183
 rotate_left
 go_enter Tryz.func184,Tryz.ntmps184
 rotate_left
 go_enter Tryz.func185,Tryz.ntmps185
 rotate_left
 go_enter Tryz.func188,Tryz.ntmps188
 rotate_left
 go_enter Tryz.func189,Tryz.ntmps189
 rotate_left
 go_enter Tryz.func190,Tryz.ntmps190
 rotate_left
 go_enter Tryz.func194,Tryz.ntmps194
 rotate_left
 go_enter Tryz.func195,Tryz.ntmps195
 rotate_left
 all_goals
  go_wp2
  all_goals
   go_ret
   refine ax ?_ (by repeat (first | exact Grown.refl _ | apply Grown.drew | apply Grown.alloc))
   go_tidy
   first | rfl | omega
theorem aly (a b:Int) (h0:0≤a) (h1:a<4294967296) (h2:0≤b) (h3:b<4294967296) (w:wD):Calls Tryz.prog 186 #[.int .u32 a,.int .u32 b] w (IsU (afa a b) w):=by
 go_enter Tryz.func186,Tryz.ntmps186
 go_wp2
 all_goals
  go_ret
  refine ax ?_ (by repeat (first | exact Grown.refl _ | apply Grown.drew | apply Grown.alloc))
  go_tidy
  unfold wrap32 at *;unfold afa sg
  (repeat' split) <;> omega
theorem alz (a b:Int) (h0:0≤a) (h1:a<4294967296) (h2:0≤b) (h3:b<4294967296) (w:wD):Calls Tryz.prog 187 #[.int .u32 a,.int .u32 b] w (IsU (Lu a b) w):=by
 go_enter Tryz.func187,Tryz.ntmps187
 go_wp2
 all_goals
  go_ret
  refine ax ?_ (by repeat (first | exact Grown.refl _ | apply Grown.drew | apply Grown.alloc))
  go_tidy
  unfold Lu;split <;> omega
theorem amd (a b:Int) (h0:0≤a) (h1:a<4294967296) (h2:0≤b) (h3:b<4294967296) (w:wD):Calls Tryz.prog 191 #[.int .u32 a,.int .u32 b] w (IsU (a * 2 ^ (b % 32).toNat % 4294967296) w):=by
 have hb:=aah b h2 h3
 have hb0:0≤b % 32:=by omega
 have hb1:b % 32<32:=by omega
 go_enter Tryz.func191,Tryz.ntmps191
 go_wp2
 all_goals
  go_ret
  refine ax ?_ (by repeat (first | exact Grown.refl _ | apply Grown.drew | apply Grown.alloc))
  go_tidy
  first | rfl | omega
theorem ame (a b:Int) (h0:0≤a) (h1:a<4294967296) (h2:0≤b) (h3:b<4294967296) (w:wD):Calls Tryz.prog 192 #[.int .u32 a,.int .u32 b] w (IsU (a / 2 ^ (b % 32).toNat) w):=by
 have hb:=aah b h2 h3
 have hb0:0≤b % 32:=by omega
 have hb1:b % 32<32:=by omega
 go_enter Tryz.func192,Tryz.ntmps192
 go_wp2
 all_goals
  go_ret
  refine ax ?_ (by repeat (first | exact Grown.refl _ | apply Grown.drew | apply Grown.alloc))
  go_tidy
  first | rfl | omega
theorem amf (a b:Int) (h0:0≤a) (h1:a<4294967296) (h2:0≤b) (h3:b<4294967296) (w:wD):Calls Tryz.prog 193 #[.int .u32 a,.int .u32 b] w (IsU (wrap32 a / 2 ^ (b % 32).toNat % 4294967296) w):=by
 have hb:=aah b h2 h3
 have hb0:0≤b % 32:=by omega
 have hb1:b % 32<32:=by omega
 go_enter Tryz.func193,Tryz.ntmps193
 go_wp2
 all_goals
  go_ret
  refine ax ?_ (by repeat (first | exact Grown.refl _ | apply Grown.drew | apply Grown.alloc))
  go_tidy
  first | rfl | omega
theorem ane (a b:Int) (h0:0≤a) (h1:a<4294967296) (h2:0≤b) (h3:b<4294967296) (w:wD):Calls Tryz.prog 197 #[.int .u32 a,.int .u32 b] w (IsU (a * b / 4294967296) w):=by
 have p0:0≤a * b:=Int.mul_nonneg h0 h2;have p1:a * b≤18446744065119617025:=Int.le_trans (Int.mul_le_mul (show a≤4294967295 by omega) (show b≤4294967295 by omega) h2 (by omega)) (by omega);have P:=Lib.hid p1;clear p1
 go_enter Tryz.func197,Tryz.ntmps197
 go_wp2
 all_goals
  go_ret
  refine ax ?_ (by repeat (first | exact Grown.refl _ | apply Grown.drew | apply Grown.alloc))
  go_tidy
  have p1:=P.out;rw[IntKind.wrap_u64];omega
theorem anf (a b:Int) (h0:0≤a) (h1:a<4294967296) (h2:0≤b) (h3:b<4294967296) (w:wD):Calls Tryz.prog 202 #[.int .u32 a,.int .u32 b] w (IsU (divuF a b) w):=by
 by_cases hb:b=0
 ·have e:(4294967295:Int)=divuF a b:=by unfold divuF;rw[if_pos hb]
  have E:=Lib.hid e;clear e;subst hb
  go_enter Tryz.func202,Tryz.ntmps202
  go_wp2
  go_ret
  exact ax E.out (Grown.refl w)
 ·have e:a / b=divuF a b:=by unfold divuF;rw[if_neg hb]
  have E:=Lib.hid e;clear e
  have hb':(b==0)=false:=by simpa using hb
  go_enter Tryz.func202,Tryz.ntmps202
  go_wp2
  go_ret
  exact ax E.out (Grown.refl w)
theorem ang (a b:Int) (h0:0≤a) (h1:a<4294967296) (h2:0≤b) (h3:b<4294967296) (w:wD):Calls Tryz.prog 204 #[.int .u32 a,.int .u32 b] w (IsU (remuF a b) w):=by
 by_cases hb:b=0
 ·have e:a=remuF a b:=by unfold remuF;rw[if_pos hb]
  have E:=Lib.hid e;clear e;subst hb
  go_enter Tryz.func204,Tryz.ntmps204
  go_wp2
  go_ret
  exact ax E.out (Grown.refl w)
 ·have e:a % b=remuF a b:=by unfold remuF;rw[if_neg hb]
  have E:=Lib.hid e;clear e
  have hb':(b==0)=false:=by simpa using hb
  go_enter Tryz.func204,Tryz.ntmps204
  go_wp2
  go_ret
  exact ax E.out (Grown.refl w)
theorem anh (a b:Int) (h0:0≤a) (h1:a<4294967296) (h2:0≤b) (h3:b<4294967296) (w:wD):Calls Tryz.prog 200 #[.int .u32 a,.int .u32 b] w (IsU (quoF a b) w):=by
 go_enter Tryz.func200,Tryz.ntmps200
 go_wp2_with (go_at_call 201;refine(ve _ _ h0 h1 h2 h3 _).mono ?_;rintro e w' ⟨rfl,n,rfl⟩)
 go_ret
 exact ax rfl (cm (Grown.refl w) _)
theorem ani (a b:Int) (h0:0≤a) (h1:a<4294967296) (h2:0≤b) (h3:b<4294967296) (w:wD):Calls Tryz.prog 203 #[.int .u32 a,.int .u32 b] w (IsU (remF a b) w):=by
 go_enter Tryz.func203,Tryz.ntmps203
 go_wp2_with (go_at_call 201;refine(ve _ _ h0 h1 h2 h3 _).mono ?_;rintro e w' ⟨rfl,n,rfl⟩)
 go_ret
 exact ax rfl (cm (Grown.refl w) _)
theorem Yg (a b:Int) (h0:0≤a) (h1:a<4294967296) (h2:0≤b) (h3:b<4294967296):0≤a * b/\a * b≤18446744065119617025 :=
 ⟨Int.mul_nonneg h0 h2,Int.le_trans (Int.mul_le_mul (show a≤4294967295 by omega) (show b≤4294967295 by omega) h2 (by omega)) (by omega)⟩
theorem Bm (a b:Int) (h0:0≤a) (h1:a<4294967296) (h2:0≤b) (h3:b<4294967296):bits .and .u32 (wrap32 a / 2147483648 % 4294967296) b=if a<2147483648 then 0 else b:=by
 split
 ·rw[show wrap32 a / 2147483648 % 4294967296=0 by unfold wrap32;omega,amx b h2 h3]
 ·rw[show wrap32 a / 2147483648 % 4294967296=4294967295 by unfold wrap32;omega,amy b h2 h3]
def Oz (a b:Int):Int:=sg a * sg b / 4294967296 % 4294967296
def xk (a b:Int):Int:=sg a * b / 4294967296 % 4294967296
theorem Pa (a b:Int) (h0:0≤a) (h1:a<4294967296) (h2:0≤b) (h3:b<4294967296) :
  (a * b / 4294967296 - (if a<2147483648 then 0 else b)) % 4294967296=xk a b:=by
 unfold xk sg;split
 ·rw[Int.sub_zero]
 ·rw[Int.sub_mul];omega
theorem aai (a b:Int) (h0:0≤a) (h1:a<4294967296) (h2:0≤b) (h3:b<4294967296) :
  ((a * b / 4294967296 - (if a<2147483648 then 0 else b)) % 4294967296 - (if b<2147483648 then 0 else a)) % 4294967296=Oz a b:=by
 unfold Oz sg;split <;> split
 ·omega
 ·rw[Int.mul_sub];omega
 ·rw[Int.sub_mul];omega
 ·rw[Int.sub_mul,Int.mul_sub,Int.mul_sub];omega
theorem anj (a b:Int) (h0:0≤a) (h1:a<4294967296) (h2:0≤b) (h3:b<4294967296) (w:wD):Calls Tryz.prog 196 #[.int .u32 a,.int .u32 b] w (IsU (Oz a b) w):=by
 go_enter Tryz.func196,Tryz.ntmps196
 go_wp2
 go_ret
 refine ax ?_ (by repeat (first | exact Grown.refl _ | apply Grown.drew | apply Grown.alloc));have p:=Yg a b h0 h1 h2 h3;rw[IntKind.wrap_u64,Bm a b h0 h1 h2 h3,Bm b a h2 h3 h0 h1,<- aai a b h0 h1 h2 h3,Int.emod_eq_of_lt p.1 (by omega)]
theorem ank (a b:Int) (h0:0≤a) (h1:a<4294967296) (h2:0≤b) (h3:b<4294967296) (w:wD):Calls Tryz.prog 199 #[.int .u32 a,.int .u32 b] w (IsU (xk a b) w):=by
 go_enter Tryz.func199,Tryz.ntmps199
 go_wp2
 go_ret
 refine ax ?_ (by repeat (first | exact Grown.refl _ | apply Grown.drew | apply Grown.alloc));have p:=Yg a b h0 h1 h2 h3;rw[IntKind.wrap_u64,Bm a b h0 h1 h2 h3,<- Pa a b h0 h1 h2 h3,Int.emod_eq_of_lt p.1 (by omega)];omega
def execF (op a b:Int):Int:=match op.toNat with
 | 1=>b * 4096 % 4294967296
 | 2=>(a+b * 4096) % 4294967296
 | 19=>(a+b) % 4294967296
 | 20=>afa a b
 | 21=>Lu a b
 | 22=>bits .xor .u32 a b
 | 23=>bits .or .u32 a b
 | 24=>bits .and .u32 a b
 | 25=>a * 2 ^ (b % 32).toNat % 4294967296
 | 26=>a / 2 ^ (b % 32).toNat
 | 27=>wrap32 a / 2 ^ (b % 32).toNat % 4294967296
 | 28=>(a+b) % 4294967296
 | 29=>(a - b) % 4294967296
 | 30=>a * 2 ^ (b % 32).toNat % 4294967296
 | 31=>afa a b
 | 32=>Lu a b
 | 33=>bits .xor .u32 a b
 | 34=>a / 2 ^ (b % 32).toNat
 | 35=>wrap32 a / 2 ^ (b % 32).toNat % 4294967296
 | 36=>bits .or .u32 a b
 | 37=>bits .and .u32 a b
 | 38=>a * b % 4294967296
 | 39=>Oz a b
 | 40=>xk a b
 | 41=>a * b / 4294967296
 | 42=>quoF a b
 | 43=>divuF a b
 | 44=>remF a b
 | 45=>remuF a b
 | _=>0
theorem ay (n:Nat) (w:wD):(Go.binOp .eql 283 (.func (.func n) #[] #[]) .nilFunc).run Tryz.prog w= .ok (.bool false) w:=by kernel_rfl
theorem aaj (w:wD):(Go.binOp .eql 283 .nilFunc .nilFunc).run Tryz.prog w= .ok (.bool true) w:=by kernel_rfl
theorem Bn (op:Int) (h:op<0∨46≤op) (w:wD):Calls Tryz.prog 156 #[.int .i64 op] w λ e w'=>e= .returned .nilFunc/\Grown w w':=by
 have hG:=Lib.hid ((Grown.refl w).alloc FT 319);rcases h with h | h
 all_goals
  go_enter Tryz.func156,Tryz.ntmps156
  go_wp2_with (first | refine nz rfl (Dz _ _) ?_ | refine nz rfl (Ea _ _) ?_ | (refine wpList_store_row rfl 319 (.tmp 3) (.tmp 4) rfl w.heap.size FT rfl rfl 319 ZT (heap_alloc_new _ _) (by kernel_rfl) (by kernel_rfl) (by kernel_rfl) ?_;rw[World.setRow_alloc_new];generalize w.alloc (.cells FT 319)=W at hG ⊢))
  go_ret
  exact⟨rfl,hG.out⟩
theorem yx (op:Int) (h:op=0∨(3≤op/\op≤18)∨op<0∨46≤op) (w:wD):Calls Tryz.prog 156 #[.int .i64 op] w λ e w'=>e= .returned .nilFunc/\Grown w w':=by
 by_cases ho:op<0∨46≤op
 ·exact Bn op ho w
 ·have e:fnNo.getD op.toNat 0=0:=by
   have h1:(List.range 46).all (λ i=>(i !=0&&(i<3||18<i))||fnNo.getD i 0==0)=true:=by decide +kernel
   have:=List.all_eq_true.1 h1 op.toNat (List.mem_range.2 (by omega));rw[Bool.or_eq_true] at this;rcases this with h2 | h2
   ·exfalso;simp at h2;omega
   ·simpa using h2
  have h2:=ag op (by omega) (by omega) w;rw[e] at h2;exact h2
theorem Pb (op:Int) (h:op=0∨(3≤op/\op≤18)∨op<0∨46≤op) (a b:Int) (w:wD):Calls Tryz.prog 106 #[.int .i64 op,.int .u32 a,.int .u32 b] w (IsU 0 w):=by
 have HO:=Lib.hid (yx op h w);have e:=aaj;clear h
 go_enter Tryz.func106,Tryz.ntmps106
 go_wp2_with (go_at_call 156;refine HO.out.mono ?_;rintro e w1 ⟨rfl,hG⟩;have HG:=Lib.hid hG;clear hG)
 go_ret
 exact ax rfl HG.out
theorem exg {op:Int} {g:Nat} {fn:Func} {a b X:Int} {w:wD} (hf:Tryz.prog.funcs[g]? = some fn) (ho:Calls Tryz.prog 156 #[.int .i64 op] w λ e w'=>e= .returned (.func (.func g) #[] #[])/\Grown w w') (hg:∀ w,Calls Tryz.prog g #[.int .u32 a,.int .u32 b] w (IsU X w)) (hb:fn.body.isSome=true:=by kernel_rfl) (hn:(fn.name != "runtime.NumGoroutine")=true:=by kernel_rfl):Calls Tryz.prog 106 #[.int .i64 op,.int .u32 a,.int .u32 b] w (IsU X w):=by
 have HO:=Lib.hid ho;have e:=ay g;have HH:=Lib.hid hg;clear ho hg
 go_enter Tryz.func106,Tryz.ntmps106
 go_wp2_with (go_at_call 156;refine HO.out.mono ?_;rintro e w1 ⟨rfl,hG⟩;have HG:=Lib.hid hG;clear hG)
 rw[Go.Sx.va hf hb hn]
 go_wp2_with (refine (HH.out _).mono ?_;rintro e w2 ⟨rfl,hG⟩;have HG:=Lib.hid (ah HG.out hG);clear hG)
 go_ret
 exact ax rfl HG.out
theorem exec_any (op a b:Int) (h0:0≤a) (h1:a<4294967296) (h2:0≤b) (h3:b<4294967296) (w:wD):Calls Tryz.prog 106 #[.int .i64 op,.int .u32 a,.int .u32 b] w (IsU (execF op a b) w):=by
 by_cases h:op=0∨(3≤op/\op≤18)∨op<0∨46≤op
 ·have e:execF op a b=0:=by
   unfold execF
   split <;> first | rfl | (exfalso;omega)
  rw[e];exact Pb op h a b w
 ·have:op=1∨op=2∨op=19∨op=20∨op=21∨op=22∨op=23∨op=24∨op=25∨op=26∨op=27∨op=28∨op=29∨op=30∨op=31∨op=32∨op=33∨op=34∨op=35∨op=36∨op=37∨op=38∨op=39∨op=40∨op=41∨op=42∨op=43∨op=44∨op=45:=by omega
  rcases this with rfl | rfl | rfl | rfl | rfl | rfl | rfl | rfl | rfl | rfl | rfl | rfl | rfl | rfl | rfl | rfl | rfl | rfl | rfl | rfl | rfl | rfl | rfl | rfl | rfl | rfl | rfl | rfl | rfl
  ·exact exg Tryz.func183 (ag 1 (by omega) (by omega) w) λ w=>(opsA a b h0 h1 h2 h3 w).1
  ·exact exg Tryz.func184 (ag 2 (by omega) (by omega) w) λ w=>(opsA a b h0 h1 h2 h3 w).2.1
  ·exact exg Tryz.func185 (ag 19 (by omega) (by omega) w) λ w=>(opsA a b h0 h1 h2 h3 w).2.2.1
  ·exact exg Tryz.func186 (ag 20 (by omega) (by omega) w) λ w=>aly a b h0 h1 h2 h3 w
  ·exact exg Tryz.func187 (ag 21 (by omega) (by omega) w) λ w=>alz a b h0 h1 h2 h3 w
  ·exact exg Tryz.func188 (ag 22 (by omega) (by omega) w) λ w=>(opsA a b h0 h1 h2 h3 w).2.2.2.1
  ·exact exg Tryz.func189 (ag 23 (by omega) (by omega) w) λ w=>(opsA a b h0 h1 h2 h3 w).2.2.2.2.1
  ·exact exg Tryz.func190 (ag 24 (by omega) (by omega) w) λ w=>(opsA a b h0 h1 h2 h3 w).2.2.2.2.2.1
  ·exact exg Tryz.func191 (ag 25 (by omega) (by omega) w) λ w=>amd a b h0 h1 h2 h3 w
  ·exact exg Tryz.func192 (ag 26 (by omega) (by omega) w) λ w=>ame a b h0 h1 h2 h3 w
  ·exact exg Tryz.func193 (ag 27 (by omega) (by omega) w) λ w=>amf a b h0 h1 h2 h3 w
  ·exact exg Tryz.func185 (ag 28 (by omega) (by omega) w) λ w=>(opsA a b h0 h1 h2 h3 w).2.2.1
  ·exact exg Tryz.func194 (ag 29 (by omega) (by omega) w) λ w=>(opsA a b h0 h1 h2 h3 w).2.2.2.2.2.2.1
  ·exact exg Tryz.func191 (ag 30 (by omega) (by omega) w) λ w=>amd a b h0 h1 h2 h3 w
  ·exact exg Tryz.func186 (ag 31 (by omega) (by omega) w) λ w=>aly a b h0 h1 h2 h3 w
  ·exact exg Tryz.func187 (ag 32 (by omega) (by omega) w) λ w=>alz a b h0 h1 h2 h3 w
  ·exact exg Tryz.func188 (ag 33 (by omega) (by omega) w) λ w=>(opsA a b h0 h1 h2 h3 w).2.2.2.1
  ·exact exg Tryz.func192 (ag 34 (by omega) (by omega) w) λ w=>ame a b h0 h1 h2 h3 w
  ·exact exg Tryz.func193 (ag 35 (by omega) (by omega) w) λ w=>amf a b h0 h1 h2 h3 w
  ·exact exg Tryz.func189 (ag 36 (by omega) (by omega) w) λ w=>(opsA a b h0 h1 h2 h3 w).2.2.2.2.1
  ·exact exg Tryz.func190 (ag 37 (by omega) (by omega) w) λ w=>(opsA a b h0 h1 h2 h3 w).2.2.2.2.2.1
  ·exact exg Tryz.func195 (ag 38 (by omega) (by omega) w) λ w=>(opsA a b h0 h1 h2 h3 w).2.2.2.2.2.2.2
  ·exact exg Tryz.func196 (ag 39 (by omega) (by omega) w) λ w=>anj a b h0 h1 h2 h3 w
  ·exact exg Tryz.func199 (ag 40 (by omega) (by omega) w) λ w=>ank a b h0 h1 h2 h3 w
  ·exact exg Tryz.func197 (ag 41 (by omega) (by omega) w) λ w=>ane a b h0 h1 h2 h3 w
  ·exact exg Tryz.func200 (ag 42 (by omega) (by omega) w) λ w=>anh a b h0 h1 h2 h3 w
  ·exact exg Tryz.func202 (ag 43 (by omega) (by omega) w) λ w=>anf a b h0 h1 h2 h3 w
  ·exact exg Tryz.func203 (ag 44 (by omega) (by omega) w) λ w=>ani a b h0 h1 h2 h3 w
  ·exact exg Tryz.func204 (ag 45 (by omega) (by omega) w) λ w=>ang a b h0 h1 h2 h3 w
end Go.Proofs.YtmncepdbglaphaaGreatDoor.alu
