/- A part of the walk. No condition. -/
import Derived.Test.YtmncepdbglaphaaGreatDoorRmIns
import Derived.Test.YtmncepdbglaphaaGreatDoorBits
import Derived.Test.YtmncepdbglaphaaGreatDoorAluJ
set_option linter.unusedVariables false
set_option maxRecDepth 100000
namespace Go.Proofs.YtmncepdbglaphaaGreatDoor
open Go.RowKit Go.XHeap Go.Sx Go.Sep Go.Proofs.Tryz
def U32 (x:Int):Prop:=0≤x/\x<4294967296
def wr (x:Int):Int:=IntKind.wrap .u32 x
def ik (a b:Int):Int:=IntKind.wrap .u32 ((bZ .u32 a &&&bZ .u32 b).toNat:Int)
def ahx (a b:Int):Int:=IntKind.wrap .u32 ((bZ .u32 a |||bZ .u32 b).toNat:Int)
def Eb (a b:Int):Int:=IntKind.wrap .u32 ((bZ .u32 a &&& ~~~bZ .u32 b).toNat:Int)
theorem zz (x:Int):U32 (wr x):=by unfold wr U32;rw[aez];omega
theorem abl (a b:Int):U32 (ik a b):=zz _
theorem Vc (a b:Int):U32 (Eb a b):=zz _
theorem lh {n:Int} (h0:0≤n) (h1:n<4294967296):U32 n:=⟨h0,h1⟩
structure RS where
 hart:Int
 ret:Int
 csr:Int->Option Int
def maskF (n:Int):Int:=if n=768 then 136 else if n=772 then 2048 else if n=773 then 4294967292 else if n=833 then 4294967292 else if n=832 then 4294967295 else if n=834 then 4294967295 else if n=835 then 4294967295 else 0
def Aa (n:Int):Bool:=decide (n=768∨n=772∨n=773∨n=833∨n=832∨n=834∨n=835)
def RS.at (R:RS) (n:Int):Int:=(R.csr n).getD 0
def RS.get (R:RS) (n:Int):Int:=if n=3074 then R.ret else if n=3860 then R.hart else R.at n
def RS.has (n:Int):Bool:=decide (n=3074)||(decide (n=3860)||Aa n)
def RS.set (R:RS) (n v:Int):RS:={ R with csr:=λ z=>if z=n then some (ik v (maskF n)) else R.csr z }
def RS.newv (R:RS) (op imm a:Int):Int:=if op=63∨op=66 then ahx a (R.get imm) else if op=64∨op=67 then Eb (R.get imm) a else a
def RS.access (R:RS) (op rs1 imm a:Int):Int×Bool×RS :=
 if ¬ (op=62∨op=65)/\rs1=0 then (R.get imm,RS.has imm,R)
 else if RS.has imm=false∨imm / 1024=3 then (0,false,R)
 else (R.get imm,true,R.set imm (R.newv op imm (if 65≤op then wr rs1 else a)))
def RS.trapped (R:RS) (pc cause tval:Int):RS:=(((R.set 833 pc).set 834 (wr cause)).set 835 tval).set 768 (wr (ik (R.at 768) 8 * 16))
def RS.trap (R:RS) (pc cause tval:Int):Int×Bool×RS:=if R.at 773=0 then (pc,false,R) else (R.at 773,true,R.trapped pc cause tval)
def RS.back (R:RS):RS:=R.set 768 (ahx (ik (R.at 768) 128 / 16) 128)
def RS.inter (R:RS):Bool:=decide (0<ik (R.at 768) 8)&&decide (0<R.at 772)
def RS.counted (R:RS):RS:={ R with ret:=wr (R.ret+1) }
structure RS.Ok (R:RS):Prop where
 hart:U32 R.hart
 ret:U32 R.ret
 u:∀ n v,R.csr n=some v->U32 v
 dom:∀ n v,R.csr n=some v->Aa n=true
theorem RS.Ok.at {R:RS} (h:R.Ok) (n:Int):U32 (R.at n):=by
 unfold RS.at
 cases hc:R.csr n with
 | none=>exact lh (by decide) (by decide)
 | some v=>exact h.u n v hc
theorem RS.Ok.get {R:RS} (h:R.Ok) (n:Int):U32 (R.get n):=by
 unfold RS.get;split
 ·exact h.ret
 ·split
  ·exact h.hart
  ·exact h.at n
theorem RS.Ok.set {R:RS} (h:R.Ok) (n v:Int) (hn:Aa n=true):(R.set n v).Ok:=by
 refine⟨h.hart,h.ret,λ k x hk=>?_,λ k x hk=>?_⟩
 ·unfold RS.set at hk;simp only at hk;split at hk
  ·cases hk;exact abl _ _
  ·exact h.u k x hk
 ·unfold RS.set at hk;simp only at hk;split at hk
  ·rename_i e;rw[e];exact hn
  ·exact h.dom k x hk
theorem RS.Ok.trapped {R:RS} (h:R.Ok) (pc cause tval:Int):(R.trapped pc cause tval).Ok:=(((h.set 833 pc rfl).set 834 _ rfl).set 835 _ rfl).set 768 _ rfl
theorem RS.Ok.back {R:RS} (h:R.Ok):R.back.Ok:=h.set 768 _ rfl
theorem RS.Ok.counted {R:RS} (h:R.Ok):R.counted.Ok:=⟨h.hart,zz _,h.u,h.dom⟩
theorem RS.has_mask {n:Int} (h:RS.has n=true) (h3:n / 1024≠3):Aa n=true:=by
 unfold RS.has at h;simp only[Bool.or_eq_true,decide_eq_true_eq] at h;rcases h with h | h | h
 ·subst h;exact absurd rfl h3
 ·subst h;exact absurd rfl h3
 ·exact h
theorem RS.Ok.access {R:RS} (h:R.Ok) (op rs1 imm a:Int):(R.access op rs1 imm a).2.2.Ok/\U32 (R.access op rs1 imm a).1:=by
 unfold RS.access;split
 ·exact⟨h,h.get imm⟩
 ·split
  ·exact⟨h,show U32 0 from lh (by decide) (by decide)⟩
  ·rename_i q
   have q1:RS.has imm=true:=by
    cases e:RS.has imm with
    | true=>rfl
    | false=>exact absurd (.inl e) q
   exact⟨h.set imm _ (RS.has_mask q1 (λ e=>q (.inr e))),h.get imm⟩
structure Ins where
 op:Int
 rd:Int
 rs1:Int
 rs2:Int
 imm:Int
def Ins.vs (i:Ins):AV:=#[.int .i64 i.op,.int .i64 i.rd,.int .i64 i.rs1,.int .i64 i.rs2,.int .i64 i.imm]
def afv (op:Int) (t:Int×Int×Int×Int):Ins:=⟨op,t.1,t.2.1,t.2.2.1,t.2.2.2⟩
instance (op x:Int):Decidable (Mt op x):=by unfold Mt;infer_instance
def opF (x:Int):Option Int:=((List.range 67).map λ k:Nat=>((k:Int)+1)).find? λ op=>decide (Mt op x)
theorem Bo {x op:Int} (h:opF x=some op):1≤op/\op≤67/\Mt op x:=by
 have h1:=List.find?_some h;have h2:=qkB h;simp only[qCB,qNB] at h2;exact⟨by omega,by omega,qB h1⟩
theorem afw {x op:Int} (h1:1≤op) (h2:op≤67) (hx0:0≤x) (hx1:x<4294967296) (h:Mt op x):opF x=some op:=by
 cases e:opF x with
 | none =>
  have:=List.find?_eq_none.1 e op (by simp only[qCB,qNB];exact⟨op.toNat - 1,by omega,by omega⟩);exact absurd (qI h) this
 | some o =>
  obtain⟨a,b,c⟩:=Bo e;rw[afs a b h1 h2 hx0 hx1 c h]
theorem Vd {x:Int} (h:∀ op,1≤op->op≤67->¬ Mt op x):opF x=none:=by
 cases e:opF x with
 | none=>rfl
 | some o =>
  obtain⟨a,b,c⟩:=Bo e;exact absurd c (h o a b)
def yy (x:Int):Ins:=match opF x with
 | some op=>afv op (readT (shP op).1 x)
 | none=>⟨0,0,0,0,0⟩
def Bp (x:Int):Bool:=(opF x).isSome
def Ins.Ok (i:Ins):Prop:=(0≤i.rd/\i.rd<32)/\(0≤i.rs1/\i.rs1<32)/\(0≤i.rs2/\i.rs2<32)
theorem abm (x:Int):(yy x).Ok:=by
 have p5:∀ s,0≤ai x s 5/\ai x s 5<32:=λ s=>lg x s 5 (by decide)
 have z:(0:Int)≤0/\(0:Int)<32:=by decide
 unfold yy
 cases opF x with
 | none=>exact⟨z,z,z⟩
 | some op =>
  have key:∀ t:Int×Int×Int×Int,readT (shP op).1 x=t->(afv op t).Ok:=by
   intro t ht;unfold readT at ht;split at ht <;> subst ht <;> exact⟨by first | exact z | exact p5 _,by first | exact z | exact p5 _,by first | exact z | exact p5 _⟩
  exact key _ rfl
theorem decF_op (x:Int):(yy x).op=(opF x).getD 0:=by
 unfold yy;cases opF x <;> rfl
def li (addr n fr size:Int):Bool:=decide (wr (addr - fr)<size)&&decide (wr (wr (addr - fr)+n)≤size)
def Tx (op:Int):Bool:=decide (av op=4)||decide (op=46)
def ff (op addr data:Int):Int :=
 if ik addr (wr (wr (alu.sizeF op) - 1))≠0 then (if Tx op then 4 else 6)
 else if li addr (wr (alu.sizeF op)) 65536 (wr data) then -1
 else if av op=5/\li addr (wr (alu.sizeF op)) 131072 4=true then -1
 else if Tx op then 5 else 7
def fq (op imm a:Int):Int:=if av op=6 then a else wr (a+wr imm)
def ov (op imm pc a b:Int):Int×Int:=if (cw op).1=false then (pc,wr imm) else if (cw op).2=false then (a,wr imm) else (a,b)
def ui (op imm pc a:Int):Int:=if op=4 then Eb (wr (a+wr imm)) 1 else wr (pc+wr imm)
structure HS where
 code:LI
 data:Int
 pc:Int
 x:LI
 halted:Bool
 R:RS
structure Rt where
 pc:Int
 word:Int
 rd:Int
 value:Int
 cause:Int
 tval:Int
 next:Int
def Rt.vs (r:Rt):AV:=#[.int .u32 r.pc,.int .u32 r.word,.int .i64 r.rd,.int .u32 r.value,.int .i64 r.cause,.int .u32 r.tval,.int .u32 r.next]
def HS.reg (S:HS) (i:Int):Int:=S.x.getD i.toNat 0
def HS.there (S:HS):Bool:=decide (S.pc / 4<S.code.length)
def HS.word (S:HS):Int:=if S.pc / 4<S.code.length then S.code.getD (S.pc / 4).toNat 0 else 0
def HS.ins (S:HS):Ins:=yy S.word
structure HS.Ok (S:HS):Prop where
 len:1≤S.code.length/\S.code.length≤4096
 code:∀ v ∈ S.code,U32 v
 data:0≤S.data/\S.data≤4096/\S.data % 16=0
 pc:U32 S.pc
 x32:S.x.length=32
 x:∀ v ∈ S.x,U32 v
 x0:S.reg 0=0
 R:S.R.Ok
theorem Yh {l:LI} (h:∀ v ∈ l,U32 v) (i:Nat):U32 (l.getD i 0):=by
 rw[qF]
 cases e:l[i]? with
 | none=>exact lh (by decide) (by decide)
 | some v=>exact h v (qN e)
theorem HS.Ok.reg {S:HS} (h:S.Ok) (i:Int):U32 (S.reg i):=Yh h.x _
theorem HS.Ok.word {S:HS} (h:S.Ok):U32 S.word:=by
 unfold HS.word;split
 ·exact Yh h.code _
 ·exact lh (by decide) (by decide)
def HS.trap (S:HS) (w cause tval:Int):Rt×HS :=
 (⟨S.pc,w,0,0,cause,tval,(S.R.trap S.pc cause tval).1⟩,{ S with R:=(S.R.trap S.pc cause tval).2.2,pc:=(S.R.trap S.pc cause tval).1,halted:= !(S.R.trap S.pc cause tval).2.1 })
def HS.irq (S:HS):Bool:= !S.halted&&S.R.inter
inductive Mid where
 | trap (cause tval:Int)
 | go (v next:Int) (R:RS)
def HS.p4 (S:HS):Int:=wr (S.pc+4)
def HS.mid (S:HS) (loaded:Int) (held:Bool):Mid :=
 let i:=S.ins;let a:=S.reg i.rs1;let b:=S.reg i.rs2
 if av i.op=0∨av i.op=1 then .go (alu.execF i.op (ov i.op i.imm S.pc a b).1 (ov i.op i.imm S.pc a b).2) S.p4 S.R
 else if av i.op=2 then .go 0 (if alu.takenF i.op a b then ui i.op i.imm S.pc a else S.p4) S.R
 else if av i.op=3 then .go S.p4 (ui i.op i.imm S.pc a) S.R
 else if av i.op=7 then
  if i.op=58 then .trap 11 0
  else if i.op=59 then .trap 3 S.pc
  else if i.op=60 then .go 0 (S.R.back.at 833) S.R.back
  else if i.op=57∨i.op=61 then .go 0 S.p4 S.R
  else if (S.R.access i.op i.rs1 i.imm a).2.1 then .go (S.R.access i.op i.rs1 i.imm a).1 S.p4 (S.R.access i.op i.rs1 i.imm a).2.2
  else .trap 2 S.word
 else if ff i.op (fq i.op i.imm a) S.data≠ -1 then .trap (ff i.op (fq i.op i.imm a) S.data) (fq i.op i.imm a)
 else .go (if i.op=47 then (if held then 0 else 1) else alu.widenF i.op loaded) S.p4 S.R
def HS.wrs (S:HS):Bool:=pf S.ins.op&&decide (0<S.ins.rd)
def HS.fin (S:HS) (v next:Int) (R:RS):Rt×HS :=
 if ik next 3≠0 then ({ S with R:=R }:HS).trap S.word 0 next
 else (⟨S.pc,S.word,if S.wrs then S.ins.rd else 0,if S.wrs then v else 0, -1,0,next⟩,{ S with R:=R.counted,pc:=next,x:=if S.wrs then S.x.set S.ins.rd.toNat v else S.x })
def HS.done (S:HS) (loaded:Int) (held:Bool):Rt×HS :=
 if S.halted then (⟨S.pc,0,0,0, -1,0,S.pc⟩,S)
 else if S.there=false then S.trap 0 1 S.pc
 else if Bp S.word=false then S.trap S.word 2 S.word
 else match S.mid loaded held with
  | .trap cause tval=>S.trap S.word cause tval
  | .go v next R=>S.fin v next R
structure Rq where
 op:Int
 addr:Int
 size:Int
 data:Int
def Rq.vs (q:Rq):AV:=#[.int .i64 q.op,.int .u32 q.addr,.int .i64 q.size,.int .u32 q.data]
def HS.addr (S:HS):Int:=fq S.ins.op S.ins.imm (S.reg S.ins.rs1)
def anl (n v:Int):Int:=wr (v * 2 ^ (32 - 8 * n).toNat) / 2 ^ (32 - 8 * n).toNat
def HS.asks (S:HS):Bool:=S.there&&(Bp S.word&&(!S.halted&&(decide (alu.sizeF S.ins.op≠0)&&decide (ff S.ins.op S.addr S.data= -1))))
def HS.ask (S:HS):Rq:=if S.asks then ⟨S.ins.op,S.addr,alu.sizeF S.ins.op,if av S.ins.op=4 then 0 else anl (alu.sizeF S.ins.op) (S.reg S.ins.rs2)⟩ else ⟨0,0,0,0⟩
def afb (f:Int->Option Int):Int->Option Value:=λ z=>(f z).map (.int .u32)
def abn (r m:Nat) (R:RS):List Asn:=[blk r #[.int .u32 R.hart,.int .u32 R.ret,.map (some m)] 115,mp .i64 m (afb R.csr)]
def dj (r m:Nat) (R:RS):Asn:=all (abn r m R)
variable {W w:wD}{r m:Nat}{R:RS}{L:List Asn}
theorem gy {R:RS} (h:(dj r m R).at_ W):St W (dj r m R).own W (abn r m R++[]):=(St.begin h).open_
theorem Ec {R R':RS} (H:St W (dj r m R).own w (abn r m R'++L)):Sep.Post (dj r m R) W (dj r m R') w:=(St.shut H).post 0 rfl
theorem xl (R:RS) (n:Int):Option.getD (afb R.csr n) (.int .u32 0)= .int .u32 (R.at n):=by
 unfold afb RS.at
 cases R.csr n <;> rfl
theorem abo (R:RS) (n v:Int):Sx.upd (afb R.csr) n (some (.int .u32 (ik v (maskF n))))=afb (R.set n v).csr:=by
 funext z;unfold Sx.upd afb RS.set;simp only;by_cases h:z=n
 ·rw[if_pos h,if_pos h];rfl
 ·rw[if_neg h,if_neg h]
theorem jg {a b:Int} (h:(a==b)=true):a=b:=by simpa using h
theorem gz {a b:Int} (h:(a==b)=false):a≠b:=by simpa using h
theorem It (n:Int) (W:wD):Calls prog 172 #[.int .i64 n] W λ e w=>e=eY #[.int .u32 (maskF n),.bool (Aa n)]/\w=W:=by
 refine aik n ?_;refine aa (λ q=>?_) (λ q=>?_)
 ·have q:=jg q;subst q;exact⟨rfl,rfl⟩
 refine aa (λ q2=>?_) (λ q2=>?_)
 ·have q2:=jg q2;subst q2;exact⟨rfl,rfl⟩
 refine aa (λ q3=>?_) (λ q3=>?_)
 ·have q3:=jg q3;subst q3;exact⟨rfl,rfl⟩
 refine aa (λ q4=>?_) (λ q4=>?_)
 ·have q4:=jg q4;subst q4;exact⟨rfl,rfl⟩
 refine aa (λ q5=>?_) (λ q5=>?_)
 ·have q5:=jg q5;subst q5;exact⟨rfl,rfl⟩
 refine aa (λ q6=>?_) (λ q6=>?_)
 ·have q6:=jg q6;subst q6;exact⟨rfl,rfl⟩
 refine aa (λ q7=>?_) (λ q7=>?_)
 ·have q7:=jg q7;subst q7;exact⟨rfl,rfl⟩
 have q:=gz q;have q2:=gz q2;have q3:=gz q3;have q4:=gz q4;have q5:=gz q5;have q6:=gz q6;have q7:=gz q7;refine⟨?_,rfl⟩
 have e1:maskF n=0:=by unfold maskF;rw[if_neg q,if_neg q2,if_neg q3,if_neg q4,if_neg q5,if_neg q6,if_neg q7]
 have e2:Aa n=false:=qM (by rintro(h | h | h | h | h | h | h) <;> omega);rw[e1,e2]
theorem abp (hA:(dj r m R).at_ W) (n:Int):Calls prog 215 #[pZ r 0,.int .i64 n] W λ e w=>e=eY #[.int .u32 (R.get n),.bool (RS.has n)]/\w=W:=by
 have H:=gy hA;refine ail r 0 n (aa (λ q=>?_) (λ q=>aa (λ q2=>?_) (λ q2=>?_)))
 ·have q:=jg q;subst q;exact⟨_,H.ld 0 rfl rfl,rfl,rfl⟩
 ·have q2:=jg q2;subst q2;exact⟨_,H.ld 0 rfl rfl,rfl,rfl⟩
 ·have q:=gz q;have q2:=gz q2;refine(It n W).mono ?_;rintro e w2 ⟨rfl,rfl⟩;refine⟨_,_,rfl,_,H.ld 0 rfl rfl,_,H.look 1 rfl,_,xl R n,?_,rfl⟩;unfold RS.get RS.has;rw[if_neg q,if_neg q2,qM q,qM q2];rfl
theorem set_any (hA:(dj r m R).at_ W) (n v:Int):Calls prog 137 #[pZ r 0,.int .i64 n,.int .u32 v] W λ e w=>e=eY #[]/\Sep.Post (dj r m R) W (dj r m (R.set n v)) w:=by
 have H:=gy hA;refine aim r 0 n v ((It n W).mono ?_);rintro e w2 ⟨rfl,rfl⟩;refine⟨_,_,rfl,_,H.ld 0 rfl rfl,?_⟩;rintro z rfl;refine⟨_,H.look 1 rfl,H.put 1 rfl λ w3 H=>⟨rfl,?_⟩⟩;rw[show IntKind.wrap .u32 ((bZ .u32 v &&&bZ .u32 (maskF n)).toNat:Int)=ik v (maskF n) from rfl,abo] at H;exact Ec (L:=[]) H
theorem Pd (hA:(dj r m R).at_ W):Calls prog 96 #[pZ r 0] W λ e w=>e=eY #[]/\Sep.Post (dj r m R) W (dj r m R.counted) w:=by
 have H:=gy hA;refine ams r 0 ⟨_,H.ld 0 rfl rfl,?_⟩;rintro z rfl;exact H.st 0 rfl (show 1<3 by decide) λ w2 H=>⟨rfl,Ec (L:=[]) H⟩
theorem Pe (hA:(dj r m R).at_ W):Calls prog 60 #[pZ r 0] W λ e w=>e=eZ (.bool R.inter)/\w=W:=by
 have H:=gy hA;refine amt r 0 ⟨_,H.ld 0 rfl rfl,_,H.look 1 rfl,_,xl R 768,?_⟩;rintro z rfl;refine aa (λ q=>?_) (λ q=>?_)
 ·refine⟨_,H.ld 0 rfl rfl,_,H.look 1 rfl,_,xl R 772,?_,rfl⟩;have q:decide (0<ik (R.at 768) 8)=true:=q;unfold RS.inter;rw[q];rfl
 ·refine⟨?_,rfl⟩;have q:decide (0<ik (R.at 768) 8)=false:=q;unfold RS.inter;rw[q];rfl
theorem Ve (hA:(dj r m R).at_ W):Calls prog 174 #[pZ r 0] W λ e w=>e=eZ (.int .u32 (R.back.at 833))/\Sep.Post (dj r m R) W (dj r m R.back) w:=by
 have H:=gy hA;refine ain r 0 ⟨_,H.ld 0 rfl rfl,_,H.look 1 rfl,_,xl R 768,?_⟩;rintro z rfl;refine⟨by decide,?_⟩;rintro z2 rfl;rintro z3 rfl
 have e1:(ahx (Int.fdiv (ik (R.at 768) 128) (2 ^ min 4 (IntKind.bits .u32))) 128)=ahx (ik (R.at 768) 128 / 16) 128:=by
  rw[show(2:Int) ^ min 4 (IntKind.bits .u32)=16 from rfl,qgB _ (by decide)]
 refine(set_any hA 768 _).mono ?_;rintro e w2 ⟨rfl,hp⟩
 have hp:Sep.Post (dj r m R) W (dj r m R.back) w2:=by
  unfold RS.back;rw[<- e1];exact hp
 have H2:=gy hp.1;exact⟨rfl,_,H2.ld 0 rfl rfl,_,H2.look 1 rfl,_,xl R.back 833,rfl,hp⟩
theorem Vf (hA:(dj r m R).at_ W) (pc cause tval:Int):Calls prog 91 #[pZ r 0,.int .u32 pc,.int .i64 cause,.int .u32 tval] W λ e w=>e=eY #[.int .u32 (R.trap pc cause tval).1,.bool (R.trap pc cause tval).2.1]/\Sep.Post (dj r m R) W (dj r m (R.trap pc cause tval).2.2) w:=by
 have H:=gy hA;refine amu r 0 pc cause tval ⟨_,H.ld 0 rfl rfl,_,H.look 1 rfl,_,xl R 773,aa (λ q=>?_) (λ q=>?_)⟩
 ·have q:=jg q
  have e:R.trap pc cause tval=(pc,false,R):=by unfold RS.trap;rw[if_pos q]
  rw[e];exact⟨rfl,hA,qH _ _,λ q h=>.inl h⟩
 ·have q:=gz q
  have e:R.trap pc cause tval=(R.at 773,true,R.trapped pc cause tval):=by unfold RS.trap;rw[if_neg q]
  rw[e];have H:=St.begin hA;refine H.call 0 rfl (set_any hA 833 pc) λ w2 H=>⟨rfl,?_⟩;rintro z rfl;refine H.call 0 rfl (set_any (H.nth 0 rfl) 834 _) λ w3 H=>⟨rfl,?_⟩;refine H.call 0 rfl (set_any (H.nth 0 rfl) 835 _) λ w4 H=>⟨rfl,?_⟩;have H2:=gy (H.nth 0 rfl);refine⟨_,H2.ld 0 rfl rfl,_,H2.look 1 rfl,_,xl _ 768,?_⟩;rintro z rfl;refine⟨by decide,?_⟩;rintro z2 rfl;exact H.call 0 rfl (set_any (H.nth 0 rfl) 768 _) λ w5 H=>⟨rfl,rfl,H.post 0 rfl⟩
def Tabs (B:Nat) (w:wD):Prop:=∃ W0:wD,W0.heap.size=B/\Tab W0/\vd W0 0 codeL/\XTouch (λ k=>B≤k) W0 w
theorem Tabs.cell {B:Nat}{W0 w:wD} (hB:W0.heap.size=B) (ht:XTouch (λ k=>B≤k) W0 w){g o:Nat}{v:Value} (h:W0.cell? ⟨g,o,none⟩=some v):w.cell? ⟨g,o,none⟩=some v:=by
 have hl:=World.block_lt_of_cell? _ _ h;exact(ht.cell hl (λ e=>absurd (show B≤g from e) (by have:g<W0.heap.size:=hl;omega))).trans h
theorem Tabs.tab {B:Nat}{w:wD} (h:Tabs B w):Tab w:=by
 obtain⟨W0,hB,hT, -,ht⟩:=h;exact⟨λ i x hi=>⟨cell hB ht (hT.1 i x hi).1,cell hB ht (hT.1 i x hi).2.1,cell hB ht (hT.1 i x hi).2.2⟩,λ i x hi=>⟨cell hB ht (hT.2 i x hi).1,cell hB ht (hT.2 i x hi).2.1,cell hB ht (hT.2 i x hi).2.2⟩⟩
theorem Tabs.code {B:Nat}{w:wD} (h:Tabs B w):vd w 0 codeL:=by
 obtain⟨W0,hB, -,hC,ht⟩:=h;intro c l hc;refine⟨λ e=>cell hB ht ((hC c l hc).1 e),λ e=>?_⟩;obtain⟨b,off,cap,h1,h2⟩:=(hC c l hc).2 e;exact⟨b,off,cap,cell hB ht h1,λ i n hi=>cell hB ht (h2 i n hi)⟩
theorem Tabs.keep {B:Nat}{M:Nat->Prop}{W w:wD} (h:Tabs B W) (ht:XTouch M W w) (hm:∀ k,M k->B≤k):Tabs B w:=by
 obtain⟨W0,hB,hT,hC,h0⟩:=h;exact⟨W0,hB,hT,hC,h0.trans ht (λ k _ e=>hm k e)⟩
theorem Tabs.st {B:Nat}{M:Nat->Prop}{W w:wD}{L:List Asn} (h:Tabs B W) (H:St W M w L) (hm:∀ k,M k->B≤k):Tabs B w:=h.keep H.touch hm
theorem mm {B:Nat}{w:wD} (hT:Tabs B w) (op:Int):Calls prog 130 #[.int .i64 op] w λ e w'=>e=eZ (.int .i64 (av op))/\ba w w':=Ln op w hT.tab
theorem Pf {B:Nat}{w:wD} (hT:Tabs B w) (op:Int):Calls prog 118 #[.int .i64 op] w λ e w'=>e=eY #[.bool (cw op).1,.bool (cw op).2]/\ba w w':=Lo op w hT.tab
theorem Vg {B:Nat}{w:wD} (hT:Tabs B w) (op:Int):Calls prog 114 #[.int .i64 op] w λ e w'=>e=eZ (.bool (pf op))/\ba w w':=Gv op w hT.tab
theorem Vh {B:Nat}{w:wD} (hT:Tabs B w) (x:Int) (hx:U32 x):Calls prog 166 #[.int .u32 x] w λ e w'=>e=eY #[.agg (yy x).vs,.bool (Bp x)]/\ba w w':=by
 refine(Lr x hx.1 hx.2 w hT.tab hT.code).mono ?_;rintro e w' ⟨hd,hg⟩;refine⟨?_,hg⟩;rcases hd with ⟨op,h1,h2,hm,rfl⟩ | ⟨hn,rfl⟩
 ·have e1:=afw h1 h2 hx.1 hx.2 hm;unfold yy Bp;rw[e1];rfl
 ·have e1:=Vd hn;unfold yy Bp;rw[e1];rfl
theorem Ph (op:Int) (w:wD):Calls prog 110 #[.int .i64 op] w λ e w'=>e=eZ (.int .i64 (alu.sizeF op))/\w'=w:=(alu.size_any op w).mono λ e w' h=>⟨h.1,h.2.symm⟩
theorem afx (op:Int){a b:Int} (ha:U32 a) (hb:U32 b) (w:wD):Calls prog 106 #[.int .i64 op,.int .u32 a,.int .u32 b] w λ e w'=>e=eZ (.int .u32 (alu.execF op a b))/\ba w w':=alu.exec_any op a b ha.1 ha.2 hb.1 hb.2 w
theorem abq (op:Int){a b:Int} (ha:U32 a) (hb:U32 b) (w:wD):Calls prog 103 #[.int .i64 op,.int .u32 a,.int .u32 b] w λ e w'=>e=eZ (.bool (alu.takenF op a b))/\w'=w:=(alu.taken_any op a b ha.1 ha.2 hb.1 hb.2 w).mono λ e w' h=>⟨h.1,h.2.symm⟩
theorem afy (op:Int){a b:Int} (ha:U32 a) (hb:U32 b) (w:wD):Calls prog 173 #[.int .i64 op,.int .u32 a,.int .u32 b] w λ e w'=>e=eZ (.int .u32 (alu.swapF op a b))/\w'=w:=(alu.swap_any op a b ha.1 ha.2 hb.1 hb.2 w).mono λ e w' h=>⟨h.1,h.2.symm⟩
theorem abr (op:Int){a:Int} (ha:U32 a) (w:wD):Calls prog 163 #[.int .i64 op,.int .u32 a] w λ e w'=>e=eZ (.int .u32 (alu.widenF op a))/\w'=w:=(alu.widen_any op a ha.1 ha.2 w).mono λ e w' h=>⟨h.1,h.2.symm⟩
variable {W w:wD}{L:List Asn}{B:Nat}
def u32s (l:LI):LV:=l.map (.int .u32)
def bk (n:Nat) (data:Int):Bool:=decide ((1≤n/\n≤4096)/\0≤data/\data≤4096/\data % 16=0)
def errV (n:Int):Value:=.iface 60 (.int .i64 n)
theorem Pi (p:OA) (n c:Nat) (data:Int) (W:wD):Calls prog 14 #[.slice p n c,.int .i64 data] W λ e w=>e=eZ (if bk n data then .nilIface else errV 1)/\w=W:=by
 have no:¬ ((1≤n/\n≤4096)/\0≤data/\data≤4096/\data % 16=0)->bk n data=false:=λ h=>qM h;refine amq p n c data (aa (λ q=>?_) λ q=>aa (λ q2=>?_) λ q2=>aa (λ q3=>?_) λ q3=>aa (λ q4=>?_) λ q4=>⟨by decide,?_⟩)
 ·have q:=qB q;refine⟨?_,rfl⟩;rw[no (by omega)];rfl
 ·have q2:=qB q2;refine⟨?_,rfl⟩;rw[no (by omega)];rfl
 ·have q3:=qB q3;refine⟨?_,rfl⟩;rw[no (by omega)];rfl
 ·have q4:=qB q4;refine⟨?_,rfl⟩;rw[no (by omega)];rfl
 ·have q:=qE q;have q2:=qE q2;have q3:=qE q3;have q4:=qE q4;rintro z rfl;rw[Int.tmod_eq_emod_of_nonneg (by omega)];refine aa (λ q5=>?_) (λ q5=>?_)
  ·have q5:data % 16≠0:=by simpa using q5
   refine⟨?_,rfl⟩;rw[no (by omega)];rfl
  ·have q5:data % 16=0:=by simpa using q5
   refine⟨?_,rfl⟩;rw[show bk n data=true from qI (by omega)];rfl
theorem Vi {p:OA}{c:Nat}{code:LI} (h:Sl W 47 1 (.slice p code.length c) code.length (u32s code)) (hl:code.length≤4096) (pc:Int) (hpc:U32 pc) :
  Calls prog 165 #[.slice p code.length c,.int .u32 pc] W λ e w=>e=eY #[.int .u32 (if pc / 4<code.length then code.getD (pc / 4).toNat 0 else 0),.bool (decide (pc / 4<code.length))]/\w=W:=by
 obtain⟨p0,p1⟩:=hpc;refine aie p code.length c pc ⟨by decide,?_⟩;rintro z rfl
 have e1:Int.fdiv pc (2 ^ min 2 (IntKind.bits .u32))=pc / 4:=by
  rw[show(2:Int) ^ min 2 (IntKind.bits .u32)=4 from rfl,qgB _ (by decide)]
 rw[e1];rintro z2 rfl;rw[w64 (by omega) (by omega)];refine aa (λ q=>?_) (λ q=>?_)
 ·have q:=qB q;refine⟨⟨by omega,q⟩,?_⟩;obtain⟨ao,cap,hv,hl, -, -, -,hc⟩:=h.open1;cases hv;obtain⟨b,off,hp, -,hc⟩:=hc (by omega);rw[hp];refine adr_some ⟨code.getD (pc / 4).toNat 0,?_,?_,rfl⟩
  ·rw[qT,(hc _ (by omega)).1];unfold u32s;rw[qS,qF,qC (by omega)];rfl
  ·rw[if_pos q,qI q]
 ·have q:=qE q;refine⟨?_,rfl⟩;rw[if_neg q,qM q]
theorem Ha (i:Ins):∀ v ∈ i.vs.toList,v.oneCell'=true:=by
 intro v hv;simp only[Ins.vs,qp,qFB,or_false] at hv;rcases hv with rfl | rfl | rfl | rfl | rfl <;> rfl
theorem Pj (hT:Tabs B W) (i:Ins) (a:Int):Calls prog 157 #[.agg i.vs,.int .u32 a] W λ e w=>e=eZ (.int .u32 (fq i.op i.imm a))/\ba W w:=by
 refine aif i.vs a ((St.nil W).al λ k w2 H=>?_);refine⟨_,H.ld 0 rfl rfl,H.callq (mm (hT.st H (λ _ e=>e.elim)) _) λ w3 H=>⟨_,rfl,aa (λ q=>?_) (λ q=>?_)⟩⟩
 ·have q:=jg q;refine⟨?_,H.quiet'⟩;unfold fq;rw[if_pos q]
 ·have q:=gz q;refine⟨_,H.ld 0 rfl rfl,?_⟩;rintro z rfl z2 rfl;refine⟨?_,H.quiet'⟩;unfold fq;rw[if_neg q];rfl
theorem Vj (hT:Tabs B W) (i:Ins) (pc a b:Int):Calls prog 105 #[.agg i.vs,.int .u32 pc,.int .u32 a,.int .u32 b] W λ e w=>e=eY #[.int .u32 (ov i.op i.imm pc a b).1,.int .u32 (ov i.op i.imm pc a b).2]/\ba W w:=by
 refine aii i.vs pc a b ((St.nil W).al λ k w2 H=>?_);refine⟨_,H.ld 0 rfl rfl,H.callq (Pf (hT.st H (λ _ e=>e.elim)) _) λ w3 H=>⟨_,_,rfl,aa (λ q=>?_) (λ q=>aa (λ q2=>?_) (λ q2=>?_))⟩⟩
 ·have q:(cw i.op).1=false:=by simpa using q
  refine⟨_,H.ld 0 rfl rfl,?_⟩;rintro z rfl;refine H.drN λ w4 H=>⟨?_,H.quiet'⟩;unfold ov;rw[if_pos q];rfl
 ·have q:(cw i.op).1=true:=by simpa using q
  have q2:(cw i.op).2=false:=by simpa using q2
  refine⟨_,H.ld 0 rfl rfl,?_⟩;rintro z rfl;refine H.drN λ w4 H=>⟨?_,H.quiet'⟩;unfold ov;rw[if_neg (by rw[q];decide),if_pos q2];rfl
 ·have q:(cw i.op).1=true:=by simpa using q
  have q2:(cw i.op).2=true:=by simpa using q2
  refine⟨?_,H.quiet'⟩;unfold ov;rw[if_neg (by rw[q];decide),if_neg (by rw[q2];decide)]
theorem Iu (i:Ins) (pc a:Int) (W:wD):Calls prog 104 #[.agg i.vs,.int .u32 pc,.int .u32 a] W λ e w=>e=eZ (.int .u32 (ui i.op i.imm pc a))/\ba W w:=by
 refine aij i.vs pc a ((St.nil W).al λ k w2 H=>?_);refine⟨_,H.ld 0 rfl rfl,aa (λ q=>?_) (λ q=>?_)⟩
 ·have q:=jg q;refine⟨_,H.ld 0 rfl rfl,?_⟩;rintro z rfl z2 rfl z3 rfl;refine⟨?_,H.quiet'⟩;unfold ui;rw[if_pos q];rfl
 ·have q:=gz q;refine⟨_,H.ld 0 rfl rfl,?_⟩;rintro z rfl z2 rfl;refine⟨?_,H.quiet'⟩;unfold ui;rw[if_neg q];rfl
theorem xm {k k2:Nat}{addr n:Int} (fr size:Int) (h1:W.cell? ⟨k,0,none⟩=some (.int .u32 addr)) (h2:W.cell? ⟨k2,0,none⟩=some (.int .u32 n)) :
  Calls prog 205 #[.int .u32 fr,.int .u32 size,pZ k 0,pZ k2 0] W λ e w=>e=eZ (.bool (li addr n fr size))/\w=W:=by
 refine aig fr size k 0 k2 0 ⟨_,h1,?_⟩;rintro z rfl;refine aa (λ q=>?_) (λ q=>?_)
 ·refine⟨_,h1,?_⟩;rintro z2 rfl;refine⟨_,h2,?_⟩;rintro z3 rfl;refine⟨?_,rfl⟩;have q:decide (wr (addr - fr)<size)=true:=q;unfold li;rw[q];rfl
 ·refine⟨?_,rfl⟩;have q:decide (wr (addr - fr)<size)=false:=q;unfold li;rw[q];rfl
theorem aiu {a b:Int} (h:(a !=b)=true):a≠b:=by simpa using h
theorem aiv {a b:Int} (h:(a !=b)=false):a=b:=by simpa using h
theorem uj {addr data:Int}{op al fl:Int}{k k2:Nat}{w6:wD} (hh:ba W w6) (h1:w6.cell? ⟨k,0,none⟩=some (.int .u32 addr)) (h2:w6.cell? ⟨k2,0,none⟩=some (.int .u32 (wr (alu.sizeF op))))
  (hal:al=if Tx op then 4 else 6) (hfl:fl=if Tx op then 5 else 7) :
  ∃ z4:Int,w6.cell? ⟨k,0,none⟩=some (.int .u32 z4)/\∃ z5:Int,w6.cell? ⟨k2,0,none⟩=some (.int .u32 z5)/\∀ z6:Int,z6=IntKind.wrap .u32 (z5 - 1)->∀ z7:Int,z7=IntKind.wrap .u32 ((bZ .u32 z4 &&&bZ .u32 z6).toNat:Int) ->
   Sx.split (z7 !=0) ((λ e w=>e=eZ (.int .i64 (ff op addr data))/\ba W w) (eZ (.int .i64 al)) w6)
    (∀ z8:Int,z8=IntKind.wrap .u32 data->Calls prog 205 #[.int .u32 65536,.int .u32 z8,pZ k 0,pZ k2 0] w6 λ e3 w7 =>
     ∃ t:Bool,e3=eZ (.bool t)/\Sx.split t ((λ e w=>e=eZ (.int .i64 (ff op addr data))/\ba W w) (eZ (.int .i64 (-1))) w7)
      (Sx.split (av op==5) (Calls prog 205 #[.int .u32 131072,.int .u32 4,pZ k 0,pZ k2 0] w7 λ e4 w8 =>
       ∃ t2:Bool,e4=eZ (.bool t2)/\Sx.split t2 ((λ e w=>e=eZ (.int .i64 (ff op addr data))/\ba W w) (eZ (.int .i64 (-1))) w8) ((λ e w=>e=eZ (.int .i64 (ff op addr data))/\ba W w) (eZ (.int .i64 fl)) w8))
       ((λ e w=>e=eZ (.int .i64 (ff op addr data))/\ba W w) (eZ (.int .i64 fl)) w7))):=by
 refine⟨_,h1,_,h2,?_⟩;rintro z6 rfl z7 rfl;refine aa (λ q=>?_) (λ q=>?_)
 ·have q:ik addr (wr (wr (alu.sizeF op) - 1))≠0:=aiu q;refine⟨?_,hh⟩;unfold ff;rw[if_pos q,hal]
 ·have q:¬ ik addr (wr (wr (alu.sizeF op) - 1))≠0:=λ h=>h (aiv q);rintro z8 rfl;refine(xm 65536 _ h1 h2).mono ?_;rintro e w7 ⟨rfl,rfl⟩;refine⟨_,rfl,aa (λ q2=>?_) (λ q2=>aa (λ q3=>?_) (λ q3=>?_))⟩
  ·have q2:li addr (wr (alu.sizeF op)) 65536 (wr data)=true:=q2;refine⟨?_,hh⟩;unfold ff;rw[if_neg q,if_pos q2]
  ·have q3:=jg q3;refine(xm 131072 4 h1 h2).mono ?_;rintro e w8 ⟨rfl,rfl⟩;refine⟨_,rfl,aa (λ q4=>?_) (λ q4=>?_)⟩
   ·refine⟨?_,hh⟩;unfold ff;rw[if_neg q,if_neg (by rw[show li addr (wr (alu.sizeF op)) 65536 (wr data)=false from q2];decide),if_pos ⟨q3,q4⟩]
   ·refine⟨?_,hh⟩;unfold ff;rw[if_neg q,if_neg (by rw[show li addr (wr (alu.sizeF op)) 65536 (wr data)=false from q2];decide),if_neg (by rintro⟨-,h⟩;rw[q4] at h;cases h),hfl]
  ·have q3:=gz q3;refine⟨?_,hh⟩;unfold ff;rw[if_neg q,if_neg (by rw[show li addr (wr (alu.sizeF op)) 65536 (wr data)=false from q2];decide),if_neg (by rintro⟨h, -⟩;exact q3 h),hfl]
theorem Pk (hT:Tabs B W) (op addr data:Int):Calls prog 158 #[.int .i64 op,.int .u32 addr,.int .i64 data] W λ e w=>e=eZ (.int .i64 (ff op addr data))/\ba W w:=by
 refine aih op addr data ((St.nil W).al λ k w2 H=>H.callp (Ph op w2) ⟨_,rfl,?_⟩);rintro z rfl;refine H.al λ k2 w4 H=>H.st 1 rfl (show 0<1 by decide) λ w5 H=>H.callq (mm (hT.st H (λ _ e=>e.elim)) op) λ w6 H=>⟨_,rfl,aa (λ q=>?_) (λ q=>aa (λ q2=>?_) (λ q2=>?_))⟩
 ·have q:=jg q
  have hi:Tx op=true:=by unfold Tx;rw[qI q];rfl
  exact uj H.quiet' (H.ld 0 rfl rfl) (H.ld 1 rfl rfl) (by rw[hi];rfl) (by rw[hi];rfl)
 ·have q2:=jg q2
  have hi:Tx op=true:=by unfold Tx;rw[qI q2,Bool.or_true]
  exact uj H.quiet' (H.ld 0 rfl rfl) (H.ld 1 rfl rfl) (by rw[hi];rfl) (by rw[hi];rfl)
 ·have q:=gz q;have q2:=gz q2
  have hi:Tx op=false:=by unfold Tx;rw[qM q,qM q2];rfl
  exact uj H.quiet' (H.ld 0 rfl rfl) (H.ld 1 rfl rfl) (by rw[hi];rfl) (by rw[hi];rfl)
end Go.Proofs.YtmncepdbglaphaaGreatDoor
