/- A part of the walk. No condition. -/
import Derived.Test.YtmncepdbglaphaaGreatDoorIsaE
import Derived.Test.YtmncepdbglaphaaGreatDoorAluH
set_option maxRecDepth 100000
namespace Go.Proofs.YtmncepdbglaphaaGreatDoor
open Go.RowKit Go.XHeap
def ins (op rd rs1 rs2 imm:Int):Value:=.agg #[.int .i64 op,.int .i64 rd,.int .i64 rs1,.int .i64 rs2,.int .i64 imm]
def jm (rd rs1 rs2 imm:Int) (w:wD) (e:Ending) (w':wD):Prop:=e= .returned (ins 0 rd rs1 rs2 imm)/\Grown w w'
def Bh (x:Int):Int:=sgn x / 2147483648 * 1048576+ai x 12 8 * 4096+ai x 20 1 * 2048+ai x 21 10 * 2
def ry (x:Int):Int:=sgn x / 2147483648 * 4096+ai x 7 1 * 2048+ai x 25 6 * 32+ai x 8 4 * 2
def vt (x:Int):Int:=sgn x / 33554432 * 32+ai x 7 5
theorem rz {Q:Ending->wD->Prop}{a:Act}{W:wD}{g:Nat}{cs:AV}{v0 v1 v2 v3 v4:Value} (hd:a.defers=[]) (ht:a.tmps[4]?.getD undef= .pointer (some ⟨g,0,none⟩)) (hB:Blk W g cs 157)
  (hcs:cs=#[v0,v1,v2,v3,v4]) (hQ:Q (.returned (.agg #[v0,v1,v2,v3,v4])) W):bodyPost Tryz.prog Tryz.f213 Q .ret a W:=by
 subst hcs;have k0:W.cell? ⟨g,0,none⟩=some v0:=hB.cell' (i:=0) rfl;have k1:W.cell? ⟨g,1,none⟩=some v1:=hB.cell' (i:=1) rfl;have k2:W.cell? ⟨g,2,none⟩=some v2:=hB.cell' (i:=2) rfl;have k3:W.cell? ⟨g,3,none⟩=some v3:=hB.cell' (i:=3) rfl;have k4:W.cell? ⟨g,4,none⟩=some v4:=hB.cell' (i:=4) rfl;clear hB;exact bodyPost_ret (v:=.agg #[v0,v1,v2,v3,v4]) (by simp [results,Tryz.results213,go_sem,ht,k0,k1,k2,k3,k4]) hd hQ
theorem Ot (x:Int) (hx0:0≤x) (hx1:x<4294967296) : -2147483648≤sgn x/\sgn x<2147483648:=by unfold sgn;split <;> omega
theorem Uw (x:Int) (hx0:0≤x) (hx1:x<4294967296):bits .or .i64 (bits .or .i64 (bits .or .i64 (wrap64 (sgn x / 2147483648 * 1048576)) (wrap64 (ai x 12 8 * 4096))) (wrap64 (ai x 20 1 * 2048))) (wrap64 (ai x 21 10 * 2))=Bh x:=by
 have hs:=Ot x hx0 hx1;have p1:=lg x 12 8 (by decide);have p2:=lg x 20 1 (by decide);have p3:=lg x 21 10 (by decide);unfold Bh;generalize ai x 12 8=a at *;generalize ai x 20 1=b at *;generalize ai x 21 10=c at *;generalize sgn x=s at *;simp only[Int.reducePow] at p1 p2 p3
 rw[dq (s / 2147483648 * 1048576) (by omega) (by omega),dq (a * 4096) (by omega) (by omega),dq (b * 2048) (by omega) (by omega),dq (c * 2) (by omega) (by omega),
  ph _ (a * 4096) 1048576 20 (by decide) (by decide) (by omega) (by omega) (by omega) (by omega) (by omega) (by decide),
  ph _ (b * 2048) 4096 12 (by decide) (by decide) (by omega) (by omega) (by omega) (by omega) (by omega) (by decide),
  ph _ (c * 2) 2048 11 (by decide) (by decide) (by omega) (by omega) (by omega) (by omega) (by omega) (by decide)]
theorem Lp (x:Int) (hx0:0≤x) (hx1:x<4294967296):bits .or .i64 (bits .or .i64 (bits .or .i64 (wrap64 (sgn x / 2147483648 * 4096)) (wrap64 (ai x 7 1 * 2048))) (wrap64 (ai x 25 6 * 32))) (wrap64 (ai x 8 4 * 2))=ry x:=by
 have hs:=Ot x hx0 hx1;have p1:=lg x 7 1 (by decide);have p2:=lg x 25 6 (by decide);have p3:=lg x 8 4 (by decide);unfold ry;generalize ai x 7 1=a at *;generalize ai x 25 6=b at *;generalize ai x 8 4=c at *;generalize sgn x=s at *;simp only[Int.reducePow] at p1 p2 p3
 rw[dq (s / 2147483648 * 4096) (by omega) (by omega),dq (a * 2048) (by omega) (by omega),dq (b * 32) (by omega) (by omega),dq (c * 2) (by omega) (by omega),
  ph _ (a * 2048) 4096 12 (by decide) (by decide) (by omega) (by omega) (by omega) (by omega) (by omega) (by decide),
  ph _ (b * 32) 2048 11 (by decide) (by decide) (by omega) (by omega) (by omega) (by omega) (by omega) (by decide),
  ph _ (c * 2) 32 5 (by decide) (by decide) (by omega) (by omega) (by omega) (by omega) (by omega) (by decide)]
theorem Ou (x:Int) (hx0:0≤x) (hx1:x<4294967296):bits .or .i64 (wrap64 (sgn x / 33554432 * 32)) (ai x 7 5)=vt x:=by
 have hs:=Ot x hx0 hx1;have p1:=lg x 7 5 (by decide);unfold vt;generalize ai x 7 5=a at *;generalize sgn x=s at *;simp only[Int.reducePow] at p1;rw[dq (s / 33554432 * 32) (by omega) (by omega),ph _ a 32 5 (by decide) (by decide) (by omega) (by omega) (by omega) (by omega) (by omega) (by decide)]
open Go.RowKit
def Mt (op x:Int):Prop:=bits .and .u32 x (shP op).2.1=(shP op).2.2
instance (op x:Int):Decidable (Mt op x):=by unfold Mt;infer_instance
def mN (i:Nat):Nat:=(shP (i+1:Nat)).2.1.toNat
def vN (i:Nat):Nat:=(shP (i+1:Nat)).2.2.toNat
theorem Ov:((List.range 67).all λ i=>decide (0≤(shP (i+1:Nat)).2.1)&&decide ((shP (i+1:Nat)).2.1<4294967296)&&decide (0≤(shP (i+1:Nat)).2.2)&&decide ((shP (i+1:Nat)).2.2<4294967296))=true:=by kernel_rfl
theorem Ux:((List.range 67).all λ i=>(List.range 67).all λ j=>i==j||(vN i &&&mN j) !=(vN j &&&mN i))=true:=by kernel_rfl
theorem Uy:((List.range 67).all λ i=>mN i &&&127==127&&(codeL.getD (vN i &&&127) []).contains ((i:Int)+1))=true:=by kernel_rfl
theorem Uz:(codeL.all λ l=>l.all λ op=>decide (1≤op)&&decide (op≤67))=true:=by kernel_rfl
theorem Ow {op:Int} (h1:1≤op) (h2:op≤67){x:Int} (hx0:0≤x) (hx1:x<4294967296):Mt op x↔x.toNat &&&mN (op.toNat - 1)=vN (op.toNat - 1):=by
 have h:=List.all_eq_true.1 Ov (op.toNat - 1) (List.mem_range.2 (by omega));simp only[Bool.and_eq_true,decide_eq_true_eq] at h;obtain⟨⟨⟨m0,m1⟩,v0⟩,v1⟩:=h
 have e:((op.toNat - 1+1:Nat):Int)=op:=by omega
 unfold Mt mN vN;rw[e] at m0 m1 v0 v1 ⊢;rw[u32_and _ _ hx0 hx1 m0 m1];constructor
 ·intro h;omega
 ·intro h;omega
theorem afs {i j x:Int} (hi1:1≤i) (hi2:i≤67) (hj1:1≤j) (hj2:j≤67) (hx0:0≤x) (hx1:x<4294967296) (hi:Mt i x) (hj:Mt j x):i=j:=by
 rw[Ow hi1 hi2 hx0 hx1] at hi;rw[Ow hj1 hj2 hx0 hx1] at hj;have h:=List.all_eq_true.1 (List.all_eq_true.1 Ux (i.toNat - 1) (List.mem_range.2 (by omega))) (j.toNat - 1) (List.mem_range.2 (by omega));simp only[Bool.or_eq_true,beq_iff_eq,bne_iff_ne] at h;rcases h with h | h
 ·omega
 ·exact absurd (by rw[<- hi,<- hj,Nat.and_assoc,Nat.and_assoc,Nat.and_comm (mN (i.toNat - 1))]) h
theorem aad {op x:Int} (h1:1≤op) (h2:op≤67) (hx0:0≤x) (hx1:x<4294967296) (h:Mt op x):op ∈ codeL.getD (x.toNat % 128) []:=by
 rw[Ow h1 h2 hx0 hx1] at h;have hc:=List.all_eq_true.1 Uy (op.toNat - 1) (List.mem_range.2 (by omega));simp only[Bool.and_eq_true,beq_iff_eq] at hc;obtain⟨c1,c2⟩:=hc
 have e:vN (op.toNat - 1) &&&127=x.toNat % 128:=by
  rw[<- h,Nat.and_assoc,c1,nat_mask7]
 rw[e] at c2
 have c3:((op.toNat - 1:Nat):Int)+1=op:=by omega
 rw[c3] at c2;simpa using c2
theorem Va {c:Nat}{op:Int} (h:op ∈ codeL.getD c []):1≤op/\op≤67:=by
 by_cases hc:c<codeL.length
 ·have hm:codeL.getD c [] ∈ codeL:=by
   rw[List.getD_eq_getElem?_getD,List.getElem?_eq_getElem hc];exact List.getElem_mem _
  have:=List.all_eq_true.1 (List.all_eq_true.1 Uz _ hm) op h;simpa using this
 ·rw[List.getD_eq_getElem?_getD,List.getElem?_eq_none (by omega)] at h;simp at h
theorem Vb:codeL.length=128:=by kernel_rfl
def readT (f x:Int):Int×Int×Int×Int :=
 match f with
 | 0=>(0,0,0,0)
 | 1=>(ai x 7 5,0,0,ai x 12 20)
 | 2=>(ai x 7 5,0,0,Bh x)
 | 3=>(0,ai x 15 5,ai x 20 5,ry x)
 | 4=>(ai x 7 5,ai x 15 5,0,sgn x / 1048576)
 | 5=>(0,ai x 15 5,ai x 20 5,vt x)
 | 6=>(ai x 7 5,ai x 15 5,0,sgn x / 1048576)
 | 7=>(ai x 7 5,ai x 15 5,0,ai x 20 5)
 | 8=>(ai x 7 5,ai x 15 5,ai x 20 5,0)
 | 9=>(ai x 7 5,ai x 15 5,ai x 20 5,ai x 25 2)
 | 10=>(ai x 7 5,ai x 15 5,ai x 20 5,ai x 25 2)
 | 11=>(0,0,0,ai x 20 8)
 | 12=>(ai x 7 5,ai x 15 5,0,ai x 20 12)
 | 13=>(ai x 7 5,ai x 15 5,0,ai x 20 12)
 | _=>(0,0,0,0)
def aiq (t:Int×Int×Int×Int) (w:wD) (e:Ending) (w':wD):Prop:=e= .returned (ins 0 t.1 t.2.1 t.2.2.1 t.2.2.2)/\Grown w w'
theorem Lq:((List.range 67).all λ i=>decide (0≤(shP (i+1:Nat)).1)&&decide ((shP (i+1:Nat)).1≤13))=true:=by kernel_rfl
set_option maxRecDepth 20000 in
set_option maxHeartbeats 4000000 in
theorem read_any (op:Int) (h1:1≤op) (h2:op≤67) (x:Int) (hx0:0≤x) (hx1:x<4294967296) (w:wD):Calls Tryz.prog 213 #[.int .i64 (shP op).1,.int .u32 x] w (aiq (readT (shP op).1 x) w):=by
 have h:=List.all_eq_true.1 Lq (op.toNat - 1) (List.mem_range.2 (by omega));simp only[Bool.and_eq_true,decide_eq_true_eq] at h
 have e:((op.toNat - 1+1:Nat):Int)=op:=by omega
 rw[e] at h;generalize (shP op).1=f at *;obtain⟨f0,f1⟩:=h;rcases(by omega:f=0∨f=1∨f=2∨f=3∨f=4∨f=5∨f=6∨f=7∨f=8∨f=9∨f=10∨f=11∨f=12∨f=13) with rfl | rfl | rfl | rfl | rfl | rfl | rfl | rfl | rfl | rfl | rfl | rfl | rfl | rfl
 all_goals
  go_enter Tryz.func213,Tryz.ntmps213
  go_wp2_with (first
   | (go_at_call 218;refine(jl x hx0 hx1 _).mono ?_;rintro e w' ⟨rfl,m,rfl⟩)
   | (go_at_call 221;refine(gi x hx0 hx1 _).mono ?_;rintro e w' ⟨rfl,m,rfl⟩)
   | (go_at_call 222;refine(gj x hx0 hx1 _).mono ?_;rintro e w' ⟨rfl,m,rfl⟩)
   | (go_at_call 219;refine(part_any x hx0 hx1 _ _ (by decide) (by decide) (by decide) (by decide) _).mono ?_;rintro e w' ⟨rfl,m,rfl⟩)
   | (go_at_call 220;refine(dg x hx0 hx1 _ (by decide) (by decide) _).mono ?_;rintro e w' ⟨rfl,m,rfl⟩))
  apply rz
  case hd=>rfl
  case ht=>rfl
  case hB=>repeat (first | with_reducible apply Blk.set | with_reducible apply Blk.drewN | with_reducible exact Blk.new _ _ _)
  case hcs=>apply Array.ext';simp only[Array.toList_setIfInBounds,List.set_cons_zero,List.set_cons_succ];rfl
  case hQ =>
   refine⟨?_,?_⟩
   first | rfl | exact congrArg (λ z=>Ending.returned (ins 0 _ _ _ z)) (Uw x hx0 hx1) | exact congrArg (λ z=>Ending.returned (ins 0 _ _ _ z)) (Lp x hx0 hx1) | exact congrArg (λ z=>Ending.returned (ins 0 _ _ _ z)) (Ou x hx0 hx1)
   repeat (first | with_reducible exact Grown.refl _ | with_reducible refine Grown.setCell ?_ (Nat.le_refl _) _ | with_reducible refine Grown.alloc ?_ _ _ | with_reducible refine cm ?_ _)
def amw (op:Int) (t:Int×Int×Int×Int):Value:=ins op t.1 t.2.1 t.2.2.1 t.2.2.2
def Dec (x:Int) (T:Int->Int×Int×Int×Int) (e:Ending):Prop :=
 (∃ op,1≤op/\op≤67/\Mt op x/\e= .returned (.tuple #[amw op (T op),.bool true]))∨((∀ op,1≤op->op≤67->¬ Mt op x)/\e= .returned (.tuple #[ins 0 0 0 0 0,.bool false]))
def air (x:Int) (T:Int->Int×Int×Int×Int) (w:wD) (e:Ending) (w':wD):Prop:=Dec x T e/\Grown w w'
theorem Yf {Q:Ending->wD->Prop}{a:Act}{W:wD}{g:Nat}{b:Bool}{cs:AV}{v0 v1 v2 v3 v4:Value} (hd:a.defers=[]) (ht:a.tmps[2]?.getD undef= .pointer (some ⟨g,0,none⟩)) (h3:a.tmps[3]?.getD undef= .bool b) (hB:Blk W g cs 157)
  (hcs:cs=#[v0,v1,v2,v3,v4]) (hQ:Q (.returned (.tuple #[.agg #[v0,v1,v2,v3,v4],.bool b])) W):bodyPost Tryz.prog Tryz.f166 Q .ret a W:=by
 subst hcs;have k0:W.cell? ⟨g,0,none⟩=some v0:=hB.cell' (i:=0) rfl;have k1:W.cell? ⟨g,1,none⟩=some v1:=hB.cell' (i:=1) rfl;have k2:W.cell? ⟨g,2,none⟩=some v2:=hB.cell' (i:=2) rfl;have k3:W.cell? ⟨g,3,none⟩=some v3:=hB.cell' (i:=3) rfl;have k4:W.cell? ⟨g,4,none⟩=some v4:=hB.cell' (i:=4) rfl;clear hB;exact bodyPost_ret (v:=.tuple #[.agg #[v0,v1,v2,v3,v4],.bool b]) (by simp [results,Tryz.results166,go_sem,ht,h3,k0,k1,k2,k3,k4]) hd hQ
theorem aae {w:wD} (hC:vd w 0 codeL) (k:Nat) (hk:k<128):∃ ao cap,w.cell? ⟨0,k,none⟩=some (.slice ao (codeL.getD k []).length cap)/\(codeL.getD k []).length≤67 /\
  ∀ i n,(codeL.getD k [])[i]?=some n->∃ b off,ao=some ⟨b,off,none⟩/\w.cell? ⟨b,off+i,none⟩=some (.int .i64 n):=by
 have hg:codeL[k]?=some (codeL.getD k []):=by
  rw[List.getD_eq_getElem?_getD,List.getElem?_eq_getElem (by rw[Vb];exact hk)];rfl
 have hl:(codeL.getD k []).length≤67:=by
  have h:(codeL.all λ l=>decide (l.length≤67))=true:=by kernel_rfl
  have:=List.all_eq_true.1 h _ (List.mem_of_getElem? hg);simpa using this
 have h:=hC k _ hg;generalize codeL.getD k []=l at *;by_cases he:l=[]
 ·subst he;exact⟨none,0,h.1 rfl,hl,λ i n hi=>by simp at hi⟩
 ·obtain⟨b,off,cap,h1,h2⟩:=h.2 he;exact⟨some ⟨b,off,none⟩,cap,h1,hl,λ i n hi=>⟨b,off,rfl,h2 i n hi⟩⟩
set_option maxRecDepth 20000 in
set_option maxHeartbeats 500000 in
theorem Lr (x:Int) (hx0:0≤x) (hx1:x<4294967296) (w:wD) (hT:Tab w) (hC:vd w 0 codeL):Calls Tryz.prog 166 #[.int .u32 x] w (air x (λ op=>readT (shP op).1 x) w):=by
 obtain⟨kk,hkk⟩:∃ kk:Nat,x.toNat % 128=kk:=⟨_,rfl⟩
 have hk:kk<128:=by omega
 obtain⟨ao,cap,c0,hlen,hel⟩:=aae hC kk hk
 have hb:bits .and .u32 x 127=(kk:Int):=by
  have:=u32_and x 127 hx0 hx1 (by decide) (by decide);rw[this];have e:x.toNat &&&(127:Int).toNat=x.toNat % 128:=nat_mask7 _;rw[e,hkk]
 have hcode:∀ op,op ∈ codeL.getD kk []->1≤op/\op≤67:=λ op h=>Va h;have hmt:∀ op,1≤op->op≤67->Mt op x->op ∈ codeL.getD kk []:=λ op h1 h2 h=>hkk ▸ aad h1 h2 hx0 hx1 h;have g0:0<w.heap.size:=World.block_lt_of_cell? _ _ c0;generalize codeL.getD kk []=l at *;have HEL:=Lib.hid hel;have HC:=Lib.hid hcode;have HM:=Lib.hid hmt;have HT:=Lib.hid hT;have HB0:=Lib.hid (Blk.new w #[.int .i64 0,.int .i64 0,.int .i64 0,.int .i64 0,.int .i64 0] 157);have HG0:=Lib.hid ((Grown.refl w).alloc #[.int .i64 0,.int .i64 0,.int .i64 0,.int .i64 0,.int .i64 0] 157);clear hel hcode hmt hT hkk hC
 go_enter Tryz.func166,Tryz.ntmps166
 go_wp2_with fail
 generalize w.alloc (.cells #[.int .i64 0,.int .i64 0,.int .i64 0,.int .i64 0,.int .i64 0] 157)=W at *
 go_loopw [12] (λ i wr=>∃ k:Nat,k≤l.length/\i= .int .i64 k/\Grown W wr/\∀ j n,j<k->l[j]?=some n->¬ Mt n x) (λ i _=>l.length - (intOf i).toNat)
 case atStart=>exact⟨0,by omega,rfl,Grown.refl _,λ j n hj=>by omega⟩
 case round =>
  obtain⟨k,hkl,rfl,hg,hno⟩:=hrel;have HG:=Lib.hid hg;have HN:=Lib.hid hno;clear hg hno;by_cases hlt:k<l.length
  ·obtain⟨n,hn⟩:∃ n,l[k]?=some n:=⟨_,List.getElem?_eq_getElem hlt⟩;obtain⟨b,off,rfl,ce⟩:=HEL.out k n hn;have cR:=cq HG.out (cq HG0.out ce);have hmem:=HC.out n (List.mem_of_getElem? hn);have HN1:=Lib.hid hn;clear ce hn;obtain⟨n1,n2⟩:=hmem;by_cases hm:Mt n x
   ·have hm':(bits .and .u32 x (shP n).2.1==(shP n).2.2)=true:=by simpa [Mt] using hm
    have HM1:=Lib.hid hm;clear hm
    go_wp2_with fail
    refine(uh n (by omega) (by omega) _ (HT.out.grown (ah HG0.out HG.out))).mono ?_;rintro e w1 ⟨rfl,hG1⟩;have HG1:=Lib.hid hG1;clear hG1
    go_wp2_with fail
    refine(read_any n n1 n2 x hx0 hx1 _).mono ?_;rintro e w2 ⟨rfl,hG2⟩;have HG2:=Lib.hid hG2;have HGG:=Lib.hid (ah HG0.out (ah HG.out (ah (HG1.out.alloc _ _) HG2.out)));unfold ins;have hB2:=ml ((ml (ml HB0.out HG.out) HG1.out).alloc _) HG2.out;clear hG2;have k0:w2.cell? ⟨w.heap.size,0,none⟩=some (.int .i64 0):=hB2.cell' (i:=0) rfl;have k1:w2.cell? ⟨w.heap.size,1,none⟩=some (.int .i64 0):=hB2.cell' (i:=1) rfl;have k2:w2.cell? ⟨w.heap.size,2,none⟩=some (.int .i64 0):=hB2.cell' (i:=2) rfl;have k3:w2.cell? ⟨w.heap.size,3,none⟩=some (.int .i64 0):=hB2.cell' (i:=3) rfl;have k4:w2.cell? ⟨w.heap.size,4,none⟩=some (.int .i64 0):=hB2.cell' (i:=4) rfl;have zf:=hB2.frozen;have HB2:=Lib.hid hB2;clear hB2
    go_wp2
    apply Yf (b:=true) (v0:=.int .i64 n) (v1:=.int .i64 (readT (shP n).1 x).1) (v2:=.int .i64 (readT (shP n).1 x).2.1) (v3:=.int .i64 (readT (shP n).1 x).2.2.1) (v4:=.int .i64 (readT (shP n).1 x).2.2.2)
    case hd=>rfl
    case ht=>rfl
    case h3=>rfl
    case hB=>repeat (first | with_reducible apply Blk.set | with_reducible apply Blk.drewN | with_reducible exact HB2.out)
    case hcs=>simp
    case hQ =>
     refine⟨.inl ⟨n,n1,n2,HM1.out,rfl⟩,?_⟩
     repeat (with_reducible refine Grown.setCell ?_ (Nat.le_refl _) _)
     exact HGG.out
   ·have hm':(bits .and .u32 x (shP n).2.1==(shP n).2.2)=false:=by simpa [Mt] using hm
    have HM1:=Lib.hid hm;clear hm
    go_wp2_with fail
    refine(uh n (by omega) (by omega) _ (HT.out.grown (ah HG0.out HG.out))).mono ?_;rintro e w1 ⟨rfl,hG1⟩;have HG1:=Lib.hid hG1;clear hG1
    go_wp2
    go_roundw
    case rel=>exact⟨k+1,by omega,by go_num,(ah HG.out HG1.out).alloc _ _,λ j m hj hjm=>by
      rcases Nat.lt_succ_iff_lt_or_eq.1 hj with h | rfl
      ·exact HN.out j m h hjm
      ·obtain rfl:=Option.some.inj (HN1.out.symm.trans hjm);exact HM1.out⟩
    case measure=>simp [intOf];omega
  ·have hB2:=ml HB0.out HG.out;have HGG:=Lib.hid (ah HG0.out HG.out);have k0:wr.cell? ⟨w.heap.size,0,none⟩=some (.int .i64 0):=hB2.cell' (i:=0) rfl;have k1:wr.cell? ⟨w.heap.size,1,none⟩=some (.int .i64 0):=hB2.cell' (i:=1) rfl;have k2:wr.cell? ⟨w.heap.size,2,none⟩=some (.int .i64 0):=hB2.cell' (i:=2) rfl;have k3:wr.cell? ⟨w.heap.size,3,none⟩=some (.int .i64 0):=hB2.cell' (i:=3) rfl;have k4:wr.cell? ⟨w.heap.size,4,none⟩=some (.int .i64 0):=hB2.cell' (i:=4) rfl;have zf:=hB2.frozen;have HB2:=Lib.hid hB2;clear hB2
   go_wp2
   apply Yf (b:=false) (v0:=.int .i64 0) (v1:=.int .i64 0) (v2:=.int .i64 0) (v3:=.int .i64 0) (v4:=.int .i64 0)
   case hd=>rfl
   case ht=>rfl
   case h3=>rfl
   case hB=>repeat (first | with_reducible apply Blk.set | with_reducible apply Blk.drewN | with_reducible exact HB2.out)
   case hcs=>simp
   case hQ =>
    refine⟨.inr ⟨λ op h1 h2 hM=>by
    have hmem:=HM.out op h1 h2 hM;obtain⟨j,hj,hje⟩:=List.getElem_of_mem hmem
    exact HN.out j op (by omega) (by rw[List.getElem?_eq_getElem hj,hje]) hM,rfl⟩,?_⟩
    repeat (with_reducible refine Grown.setCell ?_ (Nat.le_refl _) _)
    exact HGG.out
end Go.Proofs.YtmncepdbglaphaaGreatDoor
namespace Go.Proofs.YtmncepdbglaphaaGreatDoor.alu
open Go.RowKit
def takenF (op a b:Int):Bool:=if op=5 then decide (a=b) else if op=6 then decide (a≠b) else if op=7 then decide (sg a<sg b) else if op=8 then decide (sg b≤sg a) else if op=9 then decide (a<b) else if op=10 then decide (b≤a) else false
theorem Pc (a:Int) (h0:0≤a) (h1:a<4294967296):wrap32 a=sg a:=by unfold sg wrap32;split <;> omega
theorem taken_any (op a b:Int) (h0:0≤a) (h1:a<4294967296) (h2:0≤b) (h3:b<4294967296) (w:wD):Calls Tryz.prog 103 #[.int .i64 op,.int .u32 a,.int .u32 b] w λ e w'=>e= .returned (.bool (takenF op a b))/\w=w':=by
 go_enter Tryz.func103,Tryz.ntmps103
 go_wp2
 all_goals
  go_ret
  refine⟨congrArg (λ x=>Ending.returned (.bool x)) ?_,rfl⟩;have ea:=Pc a h0 h1;have eb:=Pc b h2 h3;unfold takenF
  go_tidy
  simp only[beq_iff_eq,beq_eq_false_iff_ne] at *
  first
   | (simp_all;done)
   | (simp_all;rw[Bool.eq_iff_iff];simp;done)
   | (simp_all;rw[Bool.eq_iff_iff];simp;omega)
   | (by_cases ho:op=8 <;> by_cases ho2:op=10 <;> first | (exfalso;omega) | (simp_all;done) | (simp_all;rw[Bool.eq_iff_iff];simp;omega))
end Go.Proofs.YtmncepdbglaphaaGreatDoor.alu
