/- A part of the walk. No condition. -/
import Derived.Test.YtmncepdbglaphaaGreatDoorSEq
set_option maxRecDepth 100000
namespace Go.Proofs.YtmncepdbglaphaaGreatDoor.ko
open Go.RowKit Go.XHeap Go.Sx Go.Sep Go.Proofs.Tryz
variable {W w:wD}{L:List Asn}
section eq
variable {P:Program}
def aqp (P:Program) (d:Nat) (xs:AV) (f:Field):Prop:=f.name≠"_"/\((∃ v,xs[f.offset]?=some v/\SEq.Scal P f.type v)∨∃ ys,(∀ w,(part f.type xs f.offset).run P w= .ok (.agg ys) w)/\∀ w,(Op.equalIn (d+1) f.type (.agg ys) (.agg ys)).run P w= .ok true w)
theorem yp {d:Nat}{xs:AV}:∀ (fs:List Field),(∀ f ∈ fs,aqp P d xs f)->∀ w,(Op.eqFields (d+1) xs xs fs).run P w= .ok true w
 | [],_,w=>rfl
 | f::fs,h,w=>by
  obtain⟨hn,hf⟩:=h f (by simp);have ih:=yp (d:=d) fs (λ g hg=>h g (by simp [hg])) w;unfold Op.eqFields;rcases hf with ⟨v,hv,sv⟩ | ⟨ys,hp,he⟩
  ·obtain⟨b,hb,hiff⟩:=SEq.eq_scal (d:=d) (w:=w) sv sv;have hb1:b=true:=hiff.2 rfl;subst hb1;rw[if_pos hn,Sem.run_bind,SEq.part_scal sv hv];simp only[Result.andThen_ok];rw[Sem.run_bind,SEq.part_scal sv hv];simp only[Result.andThen_ok];rw[Sem.run_bind,hb];simp only[Result.andThen_ok,Bool.not_true,Bool.false_eq_true,if_false];exact ih
  ·rw[if_pos hn,Sem.run_bind,hp];simp only[Result.andThen_ok];rw[Sem.run_bind,hp];simp only[Result.andThen_ok];rw[Sem.run_bind,he];simp only[Result.andThen_ok,Bool.not_true,Bool.false_eq_true,if_false];exact ih
theorem yq {d:Nat} {t:TI} {xs:AV} {S:List (Bool×TI×Nat)} (ht:P.underlying t=some (.struct (P.fieldsOf t))) (hp:P.stoodInHeld t=false) (hS:(P.fieldsOf t).toList.map (λ f=>(f.name=="_",f.type,f.offset))=S)
  (h:∀ s ∈ S,s.1=false/\((∃ v,xs[s.2.2]?=some v/\SEq.Scal P s.2.1 v)∨∃ ys,(∀ w,(part s.2.1 xs s.2.2).run P w= .ok (.agg ys) w)/\∀ w,(Op.equalIn (d+1) s.2.1 (.agg ys) (.agg ys)).run P w= .ok true w)) (w:wD):(Op.equalIn (d+2) t (.agg xs) (.agg xs)).run P w= .ok true w:=by
 rw[run_equalIn_struct w (d+1) t xs xs ht hp];refine yp _ (λ f hf=>?_) w;have:=h (f.name=="_",f.type,f.offset) (by rw[<- hS];exact qCB.2 ⟨f,hf,rfl⟩);exact⟨by simpa using this.1,this.2⟩
theorem Xu {t:TI}{fs:Array Field}{i:TypeInfo} (ht:P.underlying t=some (.struct fs)) (hi:P.info? t=some i) (xs:AV) (o:Nat) (w:wD):(part t xs o).run P w= .ok (.agg (xs.extract o (o+P.cellsOf t))) w:=by
 unfold part
 have:(isAgg t).run P w= .ok true w:=by simp [isAgg,underlying,ht,program,Sem.run_bind,Sem.run]
 rw[Sem.run_bind,this];simp only[Result.andThen_ok,if_true];rw[Sem.run_bind,bd hi];simp
end eq
theorem aen (r:Rt) (w:wD):(Op.equalIn 9999 55 (.agg r.vs) (.agg r.vs)).run prog w= .ok true w:=by
 refine yq (d:=9997) (S:=[(false,47,0),(false,47,1),(false,3,2),(false,47,3),(false,3,4),(false,47,5),(false,47,6)]) (by kernel_rfl) (by kernel_rfl) (by kernel_rfl) (λ s hs=>?_) w
 have hu:prog.underlying 47=some (.int .u32):=by kernel_rfl
 have h3:prog.underlying 3=some (.int .i64):=by kernel_rfl
 simp only[qp,qFB,or_false] at hs;rcases hs with rfl | rfl | rfl | rfl | rfl | rfl | rfl
 ·exact⟨rfl,.inl ⟨_,rfl,.inl ⟨_,_,hu,rfl⟩⟩⟩
 ·exact⟨rfl,.inl ⟨_,rfl,.inl ⟨_,_,hu,rfl⟩⟩⟩
 ·exact⟨rfl,.inl ⟨_,rfl,.inl ⟨_,_,h3,rfl⟩⟩⟩
 ·exact⟨rfl,.inl ⟨_,rfl,.inl ⟨_,_,hu,rfl⟩⟩⟩
 ·exact⟨rfl,.inl ⟨_,rfl,.inl ⟨_,_,h3,rfl⟩⟩⟩
 ·exact⟨rfl,.inl ⟨_,rfl,.inl ⟨_,_,hu,rfl⟩⟩⟩
 ·exact⟨rfl,.inl ⟨_,rfl,.inl ⟨_,_,hu,rfl⟩⟩⟩
theorem aeo (e:Ev) (w:wD):(Op.equalIn 10000 57 (.agg e.cells.toArray) (.agg e.cells.toArray)).run prog w= .ok true w:=by
 refine yq (d:=9998) (S:=[(false,3,0),(false,3,1),(false,3,2),(false,3,3),(false,47,4),(false,55,5)]) (by kernel_rfl) (by kernel_rfl) (by kernel_rfl) (λ s hs=>?_) w
 have hu:prog.underlying 47=some (.int .u32):=by kernel_rfl
 have h3:prog.underlying 3=some (.int .i64):=by kernel_rfl
 simp only[qp,qFB,or_false] at hs;rcases hs with rfl | rfl | rfl | rfl | rfl | rfl
 ·exact⟨rfl,.inl ⟨_,rfl,.inl ⟨_,_,h3,rfl⟩⟩⟩
 ·exact⟨rfl,.inl ⟨_,rfl,.inl ⟨_,_,h3,rfl⟩⟩⟩
 ·exact⟨rfl,.inl ⟨_,rfl,.inl ⟨_,_,h3,rfl⟩⟩⟩
 ·exact⟨rfl,.inl ⟨_,rfl,.inl ⟨_,_,h3,rfl⟩⟩⟩
 ·exact⟨rfl,.inl ⟨_,rfl,.inl ⟨_,_,hu,rfl⟩⟩⟩
 ·refine⟨rfl,.inr ⟨e.r.vs,λ w=>?_,aen e.r⟩⟩
  have ht:prog.underlying 55=some (.struct (prog.fieldsOf 55)):=by kernel_rfl
  rw[Xu ht (i:=_) rfl];rfl
theorem aep {l:LI} (hl:l.length=32) (w:wD):(Op.equalIn 10000 58 (.agg (u32s l).toArray) (.agg (u32s l).toArray)).run prog w= .ok true w:=by
 have hu:prog.underlying 47=some (.int .u32):=by kernel_rfl
 have hc:prog.cellsOf 47=1:=by kernel_rfl
 refine SEq.array_same (P:=prog) (t:=58) (n:=32) (e:=47) (by kernel_rfl) (i:=_) rfl (λ j hj=>?_) w;refine⟨.int .u32 (l.getD j 0),?_,.inl ⟨_,_,hu,rfl⟩⟩;rw[hc,qT];unfold u32s;rw[qTB,qS,qC (by omega),qF,qC (by omega)];rfl
structure Rp where
 en:Bool
 cy:Int
 s:ByteArray
 es:List Ev
 rs:List (LI)
 ds:LN
structure Rp.Ok (r:Rp):Prop where
 es:r.es.length≤1000000000000
 rl:r.rs.length≤1
 r32:∀ x ∈ r.rs,x.length=32
 ds:r.ds.length≤4096
def Rp.val (r:Rp) (o:RO):AV:=vp r.en r.cy (.slice o.ep r.es.length o.ec) (.string r.s) (.slice o.rp r.rs.length o.rc) (.slice o.dp r.ds.length o.dc)
def Rp.pieces (r:Rp) (o:RO):List Asn:=[sl 57 12 (.slice o.ep r.es.length o.ec) r.es.length (r.es.flatMap Ev.cells),sl 58 32 (.slice o.rp r.rs.length o.rc) r.rs.length (r.rs.flatMap u32s),sl 5 1 (.slice o.dp r.ds.length o.dc) r.ds.length (cbus.u8n r.ds)]
theorem Rp.one (r:Rp) (o:RO):∀ v ∈ (r.val o).toList,v.oneCell'=true:=ux _ _ rfl rfl rfl rfl
theorem Db {t:TI}{sz k c:Nat}{p:OA}{xs:LV} (h:Sl w t sz (.slice p k c) k xs):(k=0/\p=none)∨∃ a,p=some a/\∀ j u,xs[j]?=some u->w.cell? (a.add j)=some u:=by
 obtain⟨hl,h⟩:=h;rcases h with ⟨h,h0⟩ | ⟨g,off,cap,cur,hv,hb,h1,h2,h3,h4⟩
 ·cases h;exact .inl ⟨h0,rfl⟩
 ·cases hv;refine .inr ⟨_,rfl,λ j u hj=>?_⟩;rw[ac,hb.cell]
  have hjl:j<k * sz:=by rw[<- hl];exact(qD.1 hj).1
  rw[<- h4,qa hjl,qAB] at hj;rw[<- qeB];exact hj
theorem ahn (es:List Ev):∀ v ∈ es.flatMap Ev.cells,v.oneCell'=true:=by
 intro v hv;obtain⟨e, -,he⟩:=List.mem_flatMap.1 hv;exact Kl e v he
theorem Id (l:LI):∀ v ∈ u32s l,v.oneCell'=true:=by
 intro v hv;unfold u32s at hv;obtain⟨a, -,rfl⟩:=qCB.1 hv;rfl
theorem aho (rs:List (LI)):∀ v ∈ rs.flatMap u32s,v.oneCell'=true:=by
 intro v hv;obtain⟨e, -,he⟩:=List.mem_flatMap.1 hv;exact Id e v he
theorem Ie {t:TI}{sz n c:Nat}{p:OA}{xs:LV}:sl t sz (.slice p (0+n) c) (0+n) ([]++xs)=sl t sz (.slice p n c) n xs:=by rw[qW];rfl
theorem Nh {r:Rp}{o:RO} (h:(all (r.pieces o)).at_ W) (hr:r.Ok):Calls prog 8 #[.agg (r.val o)] W λ e w=>∃ o':RO,e=eZ (.agg (r.val o'))/\Sep.Post emp W (all (r.pieces o')) w:=by
 have at_:∀ {B:wD} {L:List Asn},St W (λ _=>False) B L->Sep.here (r.pieces o) B:=λ H=>(all (r.pieces o)).keep h H.touch (λ _ _ e=>e);have hes:=hr.es;have hrl:=hr.rl;have hds:=hr.ds
 have hE:(r.es.flatMap Ev.cells).length=r.es.length * 12:=by
  have:Sl W 57 12 (.slice o.ep r.es.length o.ec) r.es.length (r.es.flatMap Ev.cells):=here.nth 0 h rfl;exact this.1
 have hRl:(r.rs.flatMap u32s).length=r.rs.length * 32:=by
  have:Sl W 58 32 (.slice o.rp r.rs.length o.rc) r.rs.length (r.rs.flatMap u32s):=here.nth 1 h rfl;exact this.1
 have hDl:(cbus.u8n r.ds).length=r.ds.length * 1:=by unfold cbus.u8n;rw[qd,qT]
 have hD1:∀ v ∈ cbus.u8n r.ds,v.oneCell'=true:=λ v hv=>by
  unfold cbus.u8n at hv;obtain⟨a, -,rfl⟩:=qCB.1 hv;rfl
 have hmax:maxLen=2 ^ 63 - 1:=rfl;refine vc8 (r.val o) ((St.nil W).al λ k w2 H=>H.al λ k2 w3 H=>⟨r.en,H.ld 0 rfl rfl,r.cy,H.ld 0 rfl rfl,r.s,H.ld 0 rfl rfl,?_⟩);rintro vs rfl;refine H.al λ k3 w4 H=>H.sts0 2 (vs:=vp r.en r.cy ge (.string r.s) ge ge) rfl rfl rfl (ux _ _ rfl rfl rfl rfl) λ w5 H=>?_;have H:St W (λ _=>False) w5 [blk k (r.val o) 38,blk k2 repZ 38,blk k3 (vp r.en r.cy ge (.string r.s) ge ge) 38]:=H;refine⟨none,0,0,H.ld 2 rfl rfl,o.ep,r.es.length,o.ec,H.ld 0 rfl rfl,?_⟩;have H:=H.add (A:=sl 57 12 (.slice none 0 0) 0 []) ⟨Sl.nil _ _ _,qH _ _,λ q e=>by cases e⟩;refine H.app 3 (m:=r.es.length) rfl (r.es.flatMap Ev.cells) (Db (here.nth 0 (at_ H) rfl)) hE (ahn _) (by omega) (by omega) λ p1 c1 w6 H=>H.st 2 rfl (by show 2<6;omega) λ w7 H=>?_;rw[Ie,qW r.es.length] at H;refine⟨none,0,0,H.ld 2 rfl rfl,o.rp,r.rs.length,o.rc,H.ld 0 rfl rfl,?_⟩;have H:=H.add (A:=sl 58 32 (.slice none 0 0) 0 []) ⟨Sl.nil _ _ _,qH _ _,λ q e=>by cases e⟩;refine H.app 4 (m:=r.rs.length) rfl (r.rs.flatMap u32s) (Db (here.nth 1 (at_ H) rfl)) hRl (aho _) (by omega) (by omega) λ p2 c2 w8 H=>H.st 2 rfl (by show 4<6;omega) λ w9 H=>?_;rw[Ie,qW r.rs.length] at H;refine⟨none,0,0,H.ld 2 rfl rfl,o.dp,r.ds.length,o.dc,H.ld 0 rfl rfl,?_⟩;have H:=H.add (A:=sl 5 1 (.slice none 0 0) 0 []) ⟨Sl.nil _ _ _,qH _ _,λ q e=>by cases e⟩;refine H.app 5 (m:=r.ds.length) rfl (cbus.u8n r.ds) (Db (here.nth 2 (at_ H) rfl)) hDl hD1 (by omega) (by omega) λ p3 c3 w10 H=>H.st 2 rfl (by show 5<6;omega) λ w11 H=>?_;rw[Ie,qW r.ds.length] at H;refine⟨r.val ⟨p1,c1,p2,c2,p3,c3⟩,rfl,H.cells 2 rfl,H.sts0 1 rfl rfl rfl (r.one _) λ w12 H=>⟨_,rfl,H.cells 1 rfl,⟨p1,c1,p2,c2,p3,c3⟩,rfl,?_⟩⟩;have H:=H.pick [3,4,5];exact(St.shut (L:=r.pieces ⟨p1,c1,p2,c2,p3,c3⟩) (L':=[]) H).new 0 rfl
theorem Xv {r:Rp}{o o':RO} (h:(all (r.pieces o)).at_ W) (h':(all (r.pieces o')).at_ W) (hr:r.Ok):Calls prog 10 #[.agg (r.val o),.agg (r.val o')] W λ e w=>e=eZ (.bool true)/\ba W w:=by
 have at1:∀ {B:wD} {L:List Asn},St W (λ _=>False) B L->Sep.here (r.pieces o) B:=λ H=>(all (r.pieces o)).keep h H.touch (λ _ _ e=>e);have at2:∀ {B:wD} {L:List Asn},St W (λ _=>False) B L->Sep.here (r.pieces o') B:=λ H=>(all (r.pieces o')).keep h' H.touch (λ _ _ e=>e);have hes:=hr.es;have hrl:=hr.rl;have hds:=hr.ds;refine aqo (r.val o) (r.val o') ((St.nil W).al λ k w2 H=>H.al λ k2 w3 H=>?_);refine⟨r.en,H.ld 0 rfl rfl,r.en,H.ld 1 rfl rfl,aa (λ q=>by simp at q) (λ _=>⟨r.cy,H.ld 0 rfl rfl,r.cy,H.ld 1 rfl rfl,aa (λ q=>by simp at q) (λ _=>⟨r.s,H.ld 0 rfl rfl,r.s,H.ld 1 rfl rfl,aa (λ q=>by simp at q) (λ _=>?_)⟩)⟩)⟩;refine⟨_,_,_,H.ld 0 rfl rfl,_,_,_,H.ld 1 rfl rfl,aa (λ q=>by simp at q) (λ _=>⟨_,_,_,H.ld 0 rfl rfl,_,_,_,H.ld 1 rfl rfl,aa (λ q=>by simp at q) (λ _=>⟨_,_,_,H.ld 0 rfl rfl,_,_,_,H.ld 1 rfl rfl,aa (λ q=>by simp at q) (λ _=>?_)⟩)⟩)⟩;refine⟨λ x B=>∃ m:Nat,x=m/\m≤r.es.length/\St W (λ _=>False) B [blk k (r.val o) 38,blk k2 (r.val o') 38],λ x _=>r.es.length - x.toNat,⟨0,rfl,qQ _,H⟩,λ _=>?_⟩;clear H;rintro x w4 ⟨m,rfl,hm,H⟩;refine⟨_,_,_,H.ld 0 rfl rfl,aa (λ q=>?_) (λ q=>?_)⟩
 ·have q:m<r.es.length:=by have:=qB q;omega
  obtain⟨-,g1,o1,hp1,hc1⟩:=Bf (here.nth 0 (at1 H) rfl:Sl w4 57 12 (.slice o.ep r.es.length o.ec) r.es.length (r.es.flatMap Ev.cells)) (λ x _=>rfl) (qC q) (by decide);obtain⟨-,g2,o2,hp2,hc2⟩:=Bf (here.nth 0 (at2 H) rfl:Sl w4 57 12 (.slice o'.ep r.es.length o'.ec) r.es.length (r.es.flatMap Ev.cells)) (λ x _=>rfl) (qC q) (by decide);refine⟨o.ep,r.es.length,o.ec,H.ld 0 rfl rfl,⟨by omega,by omega⟩,?_⟩;rw[hp1];refine adr_some ⟨r.es[m].cells.toArray,rfl,by rw[qG];exact hc1,o'.ep,r.es.length,o'.ec,H.ld 1 rfl rfl,⟨by omega,by omega⟩,?_⟩;rw[hp2];refine adr_some ⟨r.es[m].cells.toArray,rfl,by rw[qG];exact hc2,false,λ w=>SEq.neq_run (by kernel_rfl) (aeo _) _ _ w,?_⟩;rintro w6 k25 rfl;refine aa (λ q=>by cases q) (λ _=>?_);rintro z3 rfl;rw[w64 (by omega) (by omega)];exact⟨⟨m+1,by omega,by omega,H.drewN k25⟩,by show r.es.length - ((m:Int)+1).toNat<r.es.length - (m:Int).toNat;omega⟩
 clear hm q m;refine⟨λ x B=>∃ m:Nat,x=m/\m≤r.rs.length/\St W (λ _=>False) B [blk k (r.val o) 38,blk k2 (r.val o') 38],λ x _=>r.rs.length - x.toNat,⟨0,rfl,qQ _,H⟩,λ _=>?_⟩;clear H;rintro x w5 ⟨m,rfl,hm,H⟩;refine⟨_,_,_,H.ld 0 rfl rfl,aa (λ q=>?_) (λ q=>?_)⟩
 ·have q:m<r.rs.length:=by have:=qB q;omega
  have h32:∀ x ∈ r.rs,(u32s x).length=32:=λ x hx=>by unfold u32s;rw[qd];exact hr.r32 x hx
  obtain⟨-,g1,o1,hp1,hc1⟩:=Bf (here.nth 1 (at1 H) rfl:Sl w5 58 32 (.slice o.rp r.rs.length o.rc) r.rs.length (r.rs.flatMap u32s)) h32 (qC q) (by decide);obtain⟨-,g2,o2,hp2,hc2⟩:=Bf (here.nth 1 (at2 H) rfl:Sl w5 58 32 (.slice o'.rp r.rs.length o'.rc) r.rs.length (r.rs.flatMap u32s)) h32 (qC q) (by decide)
  have hsz:(u32s r.rs[m]).toArray.size=32:=by rw[qnB];exact h32 _ (qjB q)
  refine⟨o.rp,r.rs.length,o.rc,H.ld 0 rfl rfl,⟨by omega,by omega⟩,?_⟩;rw[hp1];refine adr_some ⟨(u32s r.rs[m]).toArray,hsz,by rw[qG];exact hc1,o'.rp,r.rs.length,o'.rc,H.ld 1 rfl rfl,⟨by omega,by omega⟩,?_⟩;rw[hp2];refine adr_some ⟨(u32s r.rs[m]).toArray,hsz,by rw[qG];exact hc2,false,λ w=>SEq.neq_run (by kernel_rfl) (aep (hr.r32 _ (qjB q))) _ _ w,?_⟩;rintro w6 k25 rfl;refine aa (λ q=>by cases q) (λ _=>?_);rintro z3 rfl;rw[w64 (by omega) (by omega)];exact⟨⟨m+1,by omega,by omega,H.drewN k25⟩,by show r.rs.length - ((m:Int)+1).toNat<r.rs.length - (m:Int).toNat;omega⟩
 clear hm q m;refine⟨λ x B=>∃ m:Nat,x=m/\m≤r.ds.length/\St W (λ _=>False) B [blk k (r.val o) 38,blk k2 (r.val o') 38],λ x _=>r.ds.length - x.toNat,⟨0,rfl,qQ _,H⟩,λ _=>?_⟩;clear H;rintro x w6 ⟨m,rfl,hm,H⟩;refine⟨_,_,_,H.ld 0 rfl rfl,aa (λ q=>?_) (λ q=>⟨rfl,H.quiet'⟩)⟩
 have q:m<r.ds.length:=by have:=qB q;omega
 have hb1:=cbus.bytes_of (here.nth 2 (at1 H) rfl:(cbus.memA o.dp o.dc r.ds).at_ w6) m _ (qC q);have hb2:=cbus.bytes_of (here.nth 2 (at2 H) rfl:(cbus.memA o'.dp o'.dc r.ds).at_ w6) m _ (qC q);obtain⟨g1,o1,hp1, -,hc1⟩:=hb1;obtain⟨g2,o2,hp2, -,hc2⟩:=hb2;refine⟨o.dp,r.ds.length,o.dc,H.ld 0 rfl rfl,⟨by omega,by omega⟩,?_⟩;rw[hp1];refine adr_some ⟨_,by rw[ix1];exact hc1,o'.dp,r.ds.length,o'.dc,H.ld 1 rfl rfl,⟨by omega,by omega⟩,?_⟩;rw[hp2];refine adr_some ⟨_,by rw[ix1];exact hc2,?_⟩;rintro w7 k47 rfl;refine aa (λ q=>by simp at q) (λ _=>?_);rintro z3 rfl;rw[w64 (by omega) (by omega)];exact⟨⟨m+1,by omega,by omega,H.drewN k47⟩,by show r.ds.length - ((m:Int)+1).toNat<r.ds.length - (m:Int).toNat;omega⟩
variable {W w:wD}{L:List Asn}{S:Nat->Prop}
theorem Zj (H:St W S w L) (i:Nat){t:TI}{n m c g off:Nat}{xs:LV} (hi:L[i]?=some (sl t n (.slice (some ⟨g,off,none⟩) m c) m xs)){j:Nat} (hj:j<m){vs:AV} (hv:vs.size=n) (h1:∀ v ∈ vs.toList,v.oneCell'=true){φ:wD->Prop}
  (hq:∀ xs' w',St W S w' (L.set i (sl t n (.slice (some ⟨g,off,none⟩) m c) m xs'))->φ w') :
  vs.size=n/\(∀ q:Nat,q<n->(∃ v,w.cell? ⟨g,off+j * n+q,none⟩=some v)/\w.frozen? ⟨g,off+j * n+q,none⟩=false)/\(∀ v:Value,v ∈ vs.toList->v.oneCell'=true)/\∀ w':wD,w'=w.setCells g (off+j * n) vs.toList->φ w':=by
 have hs:Sl w t n (.slice (some ⟨g,off,none⟩) m c) m xs:=H.nth i hi;obtain⟨hl,h⟩:=hs;rcases h with ⟨h, -⟩ | ⟨g',off',cap,cur,hvv,hb,hc1,hc2,hc3,hc4⟩
 ·cases h
 ·cases hvv;have hmn:(j+1) * n≤m * n:=qiB n (by omega);have hcn:m * n≤c * n:=qiB n hc1;rw[Nat.add_mul,Nat.one_mul] at hmn
  have hle:off+j * n+vs.toList.length≤cur.size:=by rw[Array.length_toList,hv];omega
  refine⟨hv,λ q hq=>⟨⟨_,hb.cell' (qh (by omega))⟩,hb.frozen _⟩,h1,?_⟩;rintro w' rfl
  have hsz:(bv cur (off+j * n) vs.toList).size=cur.size:=by
   unfold bv;simp only[qnB,qP,qq,List.length_drop,Array.length_toList] at hle ⊢;omega
  refine hq (((bv cur (off+j * n) vs.toList).toList.drop off).take (m * n)) _ (H.upd i hi ⟨⟨?_,.inr ⟨g,off,c,_,rfl,cv vs.toList w cur _ hb hle,hc1,hc2,by rw[hsz];exact hc3,rfl⟩⟩,(bh vs.toList w _).mono (λ k _ e=>by
   rw[e];rfl),λ q e=>.inl e⟩)
  rw[qq,List.length_drop,Array.length_toList,hsz];omega
def ev77:AV:=#[.int .i64 77,.int .i64 0,.int .i64 0,.int .i64 0,.int .u32 0,.int .u32 0,.int .u32 0,.int .i64 0,.int .u32 0,.int .i64 0,.int .u32 0,.int .u32 0]
def ev78:AV:=#[.int .i64 78,.int .i64 0,.int .i64 0,.int .i64 0,.int .u32 0,.int .u32 0,.int .u32 0,.int .i64 0,.int .u32 0,.int .i64 0,.int .u32 0,.int .u32 0]
def rgN (x:Int):LI:=[x,x,x,0,0,0,0,0,0,0,0,0,0,0,0,0,0,0,0,0,0,0,0,0,0,0,0,0,0,0,0,0]
theorem Xw:∀ v ∈ ev77.toList,v.oneCell'=true:=by decide
theorem Xx:∀ v ∈ ev78.toList,v.oneCell'=true:=by decide
def spL (p1 p2 p3:OA) (n1 c1 n2 c2 n3 c3 k:Nat) (E R:LV) (D:LI) (v:AV):List Asn:=[sl 57 12 (.slice p1 n1 c1) n1 E,sl 58 32 (.slice p2 n2 c2) n2 R,sl 5 1 (.slice p3 n3 c3) n3 (zd D),blk k v 38]
set_option maxHeartbeats 1000000 in
theorem Ni {r:Rp}{o:RO} (h:(all (r.pieces o)).at_ W) (hr:r.Ok):Calls prog 9 #[.agg (r.val o)] W λ e w=>e=eZ (.int .i64 210)/\Sep.Post (all (r.pieces o)) W emp w:=by
 obtain⟨ep,ec,rp,rc,dp,dc⟩:=o;obtain⟨S,hS⟩:∃ S,(all (r.pieces ⟨ep,ec,rp,rc,dp,dc⟩)).own=S:=⟨_,rfl⟩;have hes:=hr.es;have hrl:=hr.rl;have hds:=hr.ds;have hmax:maxLen=2 ^ 63 - 1:=rfl
 have H:St W S W (r.pieces ⟨ep,ec,rp,rc,dp,dc⟩++[]):=by rw[<- hS];exact(St.begin h).open_
 have e0:cbus.u8n r.ds=zd (r.ds.map λ x:Nat=>(x:Int)):=by unfold cbus.u8n zd;rw[List.map_map];rfl
 refine vc9 (r.val ⟨ep,ec,rp,rc,dp,dc⟩) (H.al λ k w2 H=>?_)
 have H:St W S w2 (spL ep rp dp r.es.length ec r.rs.length rc r.ds.length dc k (r.es.flatMap Ev.cells) (r.rs.flatMap u32s) (r.ds.map λ x:Nat=>(x:Int)) (r.val ⟨ep,ec,rp,rc,dp,dc⟩)):=by
  unfold spL;rw[<- e0];exact H
 refine⟨λ x B=>∃ (m:Nat) (E R:LV) (D:LI),x=m/\m≤r.es.length/\St W S B (spL ep rp dp r.es.length ec r.rs.length rc r.ds.length dc k E R D (r.val ⟨ep,ec,rp,rc,dp,dc⟩)),λ x _=>r.es.length - x.toNat,⟨0,_,_,_,rfl,qQ _,H⟩,λ _=>?_⟩;clear H;rintro x w3 ⟨m,E,R,D,rfl,hm,H⟩;refine⟨ep,r.es.length,ec,H.ld 3 rfl rfl,aa (λ q=>?_) (λ q=>?_)⟩
 ·have q:m<r.es.length:=by have:=qB q;omega
  refine⟨ep,r.es.length,ec,H.ld 3 rfl rfl,?_⟩;rintro vs rfl;refine⟨⟨by omega,by omega⟩,?_⟩;have hsl:Sl w3 57 12 (.slice ep r.es.length ec) r.es.length E:=H.nth 0 rfl
  obtain⟨g,off,hp⟩:∃ g off,ep=some ⟨g,off,none⟩:=by
   rcases hsl.2 with ⟨-,h0⟩ | ⟨g,off,cap,cur,hv, -⟩
   ·omega
   ·have:=hv;simp only[Value.slice.injEq] at this;exact⟨g,off,this.1⟩
  subst hp;refine adr_some ?_;rw[qG];refine Zj H 0 rfl q (vs:=ev77) rfl Xw λ xs' w4 H=>?_;rintro z rfl;rw[w64 (by omega) (by omega)];exact⟨⟨m+1,xs',R,D,by omega,by omega,H⟩,by show r.es.length - ((m:Int)+1).toNat<r.es.length - (m:Int).toNat;omega⟩
 clear hm q m;refine⟨λ x B=>∃ (m:Nat) (E R:LV) (D:LI),x=m/\m≤r.rs.length/\St W S B (spL ep rp dp r.es.length ec r.rs.length rc r.ds.length dc k E R D (r.val ⟨ep,ec,rp,rc,dp,dc⟩)),λ x _=>r.rs.length - x.toNat,⟨0,_,_,_,rfl,qQ _,H⟩,λ _=>?_⟩;clear H;rintro x w4 ⟨m,E,R,D,rfl,hm,H⟩;refine⟨rp,r.rs.length,rc,H.ld 3 rfl rfl,aa (λ q=>?_) (λ q=>?_)⟩
 ·have q:m<r.rs.length:=by have:=qB q;omega
  refine⟨rp,r.rs.length,rc,H.ld 3 rfl rfl,?_⟩;rintro vs rfl;refine⟨⟨by omega,by omega⟩,?_⟩;have hsl:Sl w4 58 32 (.slice rp r.rs.length rc) r.rs.length R:=H.nth 1 rfl
  obtain⟨g,off,hp⟩:∃ g off,rp=some ⟨g,off,none⟩:=by
   rcases hsl.2 with ⟨-,h0⟩ | ⟨g,off,cap,cur,hv, -⟩
   ·omega
   ·have:=hv;simp only[Value.slice.injEq] at this;exact⟨g,off,this.1⟩
  subst hp;refine adr_some ?_;rw[qG];refine Zj H 1 rfl q (vs:=(u32s (rgN 7)).toArray) rfl (λ v hv=>Id _ v (by simpa using hv)) λ xs' w5 H=>?_;rintro z rfl;rw[w64 (by omega) (by omega)];exact⟨⟨m+1,E,xs',D,by omega,by omega,H⟩,by show r.rs.length - ((m:Int)+1).toNat<r.rs.length - (m:Int).toNat;omega⟩
 clear hm q m;refine⟨λ x B=>∃ (m:Nat) (E R:LV) (D:LI),x=m/\m≤r.ds.length/\St W S B (spL ep rp dp r.es.length ec r.rs.length rc r.ds.length dc k E R D (r.val ⟨ep,ec,rp,rc,dp,dc⟩)),λ x _=>r.ds.length - x.toNat,⟨0,_,_,_,rfl,qQ _,H⟩,λ _=>?_⟩;clear H;rintro x w5 ⟨m,E,R,D,rfl,hm,H⟩;refine⟨dp,r.ds.length,dc,H.ld 3 rfl rfl,aa (λ q=>?_) (λ q=>?_)⟩
 ·have q:m<r.ds.length:=by have:=qB q;omega
  refine H.dr λ w6 H=>⟨dp,r.ds.length,dc,H.ld 3 rfl rfl,dp,r.ds.length,dc,H.ld 3 rfl rfl,⟨by omega,by omega⟩,?_⟩;have hsl:Sl w6 5 1 (.slice dp r.ds.length dc) r.ds.length (zd D):=H.nth 2 rfl;obtain⟨ao,cap,hv,hl, -, -, -,hc⟩:=hsl.open1;cases hv;obtain⟨g,off,hp, -,hcc⟩:=hc (by omega);subst hp
  have hDl:D.length=r.ds.length:=by unfold zd at hl;rw[qd] at hl;exact hl
  have hcell:w6.cell? ⟨g,off+m,none⟩=some (.int .u8 (D.getD m 0)):=by
   rw[(hcc m q).1];unfold zd;rw[qS,qC (by omega),qF,qC (by omega)];rfl
  refine adr_some ⟨_,by rw[ix1];exact hcell,?_⟩;rintro z4 rfl;refine⟨⟨by omega,by omega⟩,adr_some ⟨⟨_,by rw[ix1];exact hcell⟩,by rw[ix1];exact(hcc m q).2,?_⟩⟩;rintro w7 rfl;rintro z5 rfl;rw[ix1,w64 (by omega) (by omega)];have hs2:=hsl.set1 m q (.int .u8 (IntKind.wrap .u8 (D.getD m 0+101)))
  have eo:(zd D).set m (.int .u8 (IntKind.wrap .u8 (D.getD m 0+101)))=zd (D.set m (IntKind.wrap .u8 (D.getD m 0+101))):=by unfold zd;rw[qtB]
  rw[eo] at hs2;have H2:=H.upd 2 rfl (A':=sl 5 1 (.slice (some ⟨g,off,none⟩) r.ds.length dc) r.ds.length (zd (D.set m (IntKind.wrap .u8 (D.getD m 0+101))))) ⟨hs2,(qH (sl 5 1 (.slice (some ⟨g,off,none⟩) r.ds.length dc) r.ds.length (zd D)).own _).setCell (p:=⟨g,off+m,none⟩) (.inl rfl) _,λ q e=>.inl e⟩;exact⟨⟨m+1,E,R,_,by omega,by omega,H2⟩,by show r.ds.length - ((m:Int)+1).toNat<r.ds.length - (m:Int).toNat;omega⟩
 clear hm q m;refine⟨ep,r.es.length,ec,H.ld 3 rfl rfl,rp,r.rs.length,rc,H.ld 3 rfl rfl,dp,r.ds.length,dc,H.ld 3 rfl rfl,?_⟩;refine⟨λ x p1 n1 c1 p2 n2 c2 p3 n3 c3 B=>∃ (m:Nat) (E R:LV) (D:LI),x=m/\m≤70/\n1=r.es.length+m/\n2=r.rs.length+m/\n3=r.ds.length+m/\St W S B (spL p1 p2 p3 n1 c1 n2 c2 n3 c3 k E R D (r.val ⟨ep,ec,rp,rc,dp,dc⟩)),λ x _ _ _ _ _ _ _ _ _ _=>100 - x.toNat,⟨0,E,R,D,rfl,by decide,rfl,rfl,rfl,H⟩,λ _=>?_⟩;clear H;rintro x p1 n1 c1 p2 n2 c2 p3 n3 c3 w6 ⟨m,E,R,D,rfl,hm,rfl,rfl,rfl,H⟩;refine aa (λ q=>?_) (λ q=>?_)
 ·have q:m<70:=by have:=qB q;omega
  rintro vs rfl;refine⟨rfl,H.al λ k38 w7 H=>?_⟩;refine H.app 0 (m:=1) rfl ev78.toList (.inr ⟨_,rfl,λ j u hj=>by rw[ac];exact H.ld 4 (i:=0+j) rfl (by simpa [ev78] using hj)⟩) rfl Xx (by omega) (by omega) λ p' c' w8 H=>?_;rintro vs rfl;refine⟨rfl,H.al λ k43 w9 H=>?_⟩;refine H.app 1 (m:=1) rfl (u32s (rgN 8)) (.inr ⟨_,rfl,λ j u hj=>by rw[ac];exact H.ld 5 (i:=0+j) rfl (by rw[qW];simpa [u32s,rgN] using hj)⟩) rfl (Id _) (by omega) (by omega) λ p2' c2' w10 H=>H.al λ k48 w11 H=>?_;refine H.app 2 (m:=1) rfl [.int .u8 238] (.inr ⟨_,rfl,λ j u hj=>by rw[ac];exact H.ld 6 (i:=0+j) rfl (by rw[qW];simpa using hj)⟩) rfl (λ v hv=>by rw[qR] at hv;subst hv;rfl) (by omega) (by omega) λ p3' c3' w12 H=>?_;rintro z6 rfl;rw[w64 (by omega) (by omega)]
  have eo:zd D++[.int .u8 238]=zd (D++[238]):=by unfold zd;rw[qV];rfl
  rw[eo] at H;exact⟨⟨m+1,_,_,_,by omega,by omega,rfl,rfl,rfl,H.take 4⟩,by show 100 - ((m:Int)+1).toNat<100 - (m:Int).toNat;omega⟩
 ·have q:m=70:=by have:=qE q;omega
  subst q;refine⟨ep,r.es.length,ec,H.ld 3 rfl rfl,?_⟩;rintro z7 rfl z8 rfl;refine⟨rp,r.rs.length,rc,H.ld 3 rfl rfl,?_⟩;rintro z9 rfl z10 rfl;refine⟨dp,r.ds.length,dc,H.ld 3 rfl rfl,?_⟩;rintro z11 rfl
  have w1:IntKind.wrap .i64 (((r.es.length+70:Nat):Int) - ((r.es.length:Nat):Int))=70:=by rw[w64 (by omega) (by omega)];omega
  have w2:IntKind.wrap .i64 (70+((r.rs.length+70:Nat):Int))=140+(r.rs.length:Nat):=by rw[w64 (by omega) (by omega)];omega
  have w3:IntKind.wrap .i64 (140+((r.rs.length:Nat):Int) - ((r.rs.length:Nat):Int))=140:=by rw[w64 (by omega) (by omega)];omega
  have w4:IntKind.wrap .i64 (140+((r.ds.length+70:Nat):Int))=210+(r.ds.length:Nat):=by rw[w64 (by omega) (by omega)];omega
  have w5:IntKind.wrap .i64 (210+((r.ds.length:Nat):Int) - ((r.ds.length:Nat):Int))=210:=by rw[w64 (by omega) (by omega)];omega
  rw[w1,w2,w3,w4,w5];rw[<- hS] at H;exact⟨rfl,trivial,H.touch,λ q e=>e.elim⟩
def ahp (R:Ko×Nat×Bool):Rp:=⟨R.2.2,R.2.1,Sx.bstr R.1.out,R.1.evs,[ni R.1],R.1.bus.data⟩
def rp0:Rp:=⟨false,0,ByteArray.mk #[],[],[],[]⟩
def ro0:RO:=⟨none,0,none,0,none,0⟩
theorem Tn {C:Kc}{ls:LI}:∀ (m n t:Nat) (K:Ko),Inv C n [] K->n+7000 * m+7000≤1000000000000->t+m≤1000000->∃ n',n'≤n+6100 * m/\Inv C n' [] (Ko.run C ls m K t).1
 | 0,n,t,K,h,_,_=>⟨n,qY _,h⟩
 | m+1,n,t,K,h,hn,ht=>by
  have h1:Inv C (n+6100) [] (K.cyc C ls t):=h.cyc (by omega) ⟨by omega,by omega⟩ ls;unfold Ko.run;by_cases he:(K.cyc C ls t).ended=true
  ·rw[if_pos he];exact⟨_,by omega,h1⟩
  ·rw[if_neg he];obtain⟨n',h2,h3⟩:=Tn m (n+6100) (t+1) _ h1 (by omega) (by omega);exact⟨n',by omega,h3⟩
theorem aeq {c:Cf} (hc:c.Whole):(⟨c.sets.toNat,0,0,0,List.replicate c.sets.toNat 0,c.ways.toNat,List.replicate c.sets.toNat (List.replicate c.ways.toNat cbus.zeroWay),0⟩:cbus.CS).Fresh c.sets.toNat c.ways.toNat:=by
 have hw:=hc.ways;refine⟨⟨?_,qi,qi,(show 1≤c.ways.toNat by omega),(show c.ways.toNat≤4 by omega),λ s hs=>?_,λ s hs y hy=>?_,(show 0<4611686018427387904 by decide)⟩,rfl,rfl,rfl,rfl⟩
 ·rcases hc.sets with h | h | h | h | h <;> rw[h]
  ·exact⟨0,by decide,rfl⟩
  ·exact⟨1,by decide,rfl⟩
  ·exact⟨2,by decide,rfl⟩
  ·exact⟨3,by decide,rfl⟩
  ·exact⟨4,by decide,rfl⟩
 ·rw[List.eq_of_mem_replicate hs];exact qi
 ·rw[List.eq_of_mem_replicate hs] at hy;rw[List.eq_of_mem_replicate hy];exact cbus.zero_ok
theorem zero_ok {c:Cf} (hc:c.Whole){data:LN} (hi:data.length % 16=0/\data.length≤4096) (hd:∀ v ∈ data,v<256):(cbus.PB.zero c.sets c.ways c.bus data).Ok 0:=by
 have hF:(cbus.PB.zero c.sets c.ways c.bus data).Fresh [(c.sets,c.ways)] c.bus data :=
  ⟨rfl,λ k x hk=>(by
   cases k with
   | zero=>cases hk;exact aeq hc
   | succ k=>cases hk),rfl,(by have:=hc.bus;show((c.bus.toNat:Nat):Int)=c.bus;omega),rfl,rfl,rfl,rfl⟩
 refine cbus.fresh_ok hF ?_ (by omega) hd;rintro(hb | hb | hb | hb | ⟨y,hy,hb⟩)
 ·exact absurd hb (by simp)
 ·exact absurd hb (by simp)
 ·have:=hc.bus;omega
 ·have:=hc.bus;omega
 ·obtain rfl:y=(c.sets,c.ways):=by simpa using hy
  have:=hc.ways;exact hb ⟨hc.sets,this⟩
theorem aer {c:Cf} (hc:c.Whole){code:LI}{data:LN}{ls:LI}{n:Nat} (hi:bk code.length data.length=true) (hu:∀ v ∈ code,U32 v) (hd:∀ v ∈ data,v<256) (hn:n≤1000):(ahp (As c code data ls n)).Ok:=by
 have hio:=qB hi;have hC:=Zh hc hi hu;have hok:(cbus.PB.zero c.sets c.ways c.bus data).Ok 0:=zero_ok hc ⟨by omega,by omega⟩ hd;have hI:Inv (Kc0 c code data) 0 [] (K0 (Kc0 c code data) (cbus.PB.zero c.sets c.ways c.bus data)):=Yy hC hc hok Nat.zero_lt_one rfl;obtain⟨n',h1,h2⟩:=Tn (ls:=ls) n 0 0 _ hI (by omega) (by omega);have h3:(As c code data ls n).1.bus.data.length=(As c code data ls n).1.bus.len:=cbus.upto_len h2.bu _ (qY _);have h4:((As c code data ls n).1.bus.len:Int)=data.length:=h2.bl;refine⟨?_,qY _,λ x hx=>?_,?_⟩
 ·have:(As c code data ls n).1.evs.length≤n':=h2.ev;show(As c code data ls n).1.evs.length≤_;omega
 ·rw[qR.1 hx];unfold ni;simp
 ·show(As c code data ls n).1.bus.data.length≤4096;omega
theorem ahq:rp0.Ok:=⟨qQ _,qQ _,λ x hx=>(by cases hx),qQ _⟩
theorem aes (R:Ko×Nat×Bool) (ro:RO):(ahp R).pieces ro=Xq R ro:=by
 unfold Rp.pieces Xq ahp;simp only[List.flatMap_cons,List.flatMap_nil,qqB,qy,List.length_nil,qW]
def erF (b:Bool):Value:=if b then .nilIface else errV 1
theorem Kz {b:Bool}{φ:Bool->Prop} (h:φ b):Sx.isNil (erF b) φ:=by
 cases b
 ·exact Ky h
 ·exact jk h
def rpF (c:Cf) (code:LI) (data:LN) (ls:LI) (n:Nat):Rp:=if bk code.length data.length then ahp (As c code data ls n) else rp0
theorem ahr {c:Cf} (hc:c.Whole){code:LI}{data:LN}{ls:LI}{n:Nat} (hu:∀ v ∈ code,U32 v) (hd:∀ v ∈ data,v<256) (hn:n≤1000):(rpF c code data ls n).Ok:=by
 unfold rpF;split
 ·next h=>exact aer hc h hu hd hn
 ·exact ahq
theorem aet {c:Cf}{code:LI}{data:LN}{ls:LI}{n:Nat} (h:bk code.length data.length=true):(rpF c code data ls n).rs.length=1:=by
 unfold rpF;rw[if_pos h];rfl
theorem alw {B:wD}{c:Cf} (hc:c.Whole) (hT:(br B).at_ W){cp dp lp:OA}{cc dc lc n:Nat}{code:LI}{data:LN}{ls:LI} (hG:Given W cp dp lp cc dc lc code data ls) (hn:n≤1000) :
  Calls prog 6 #[.slice cp code.length cc,.slice dp data.length dc,.agg (cfC c),.slice lp ls.length lc,.int .i64 n] W λ e w=>∃ o:RO,e=eY #[.agg ((rpF c code data ls n).val o),erF (bk code.length data.length)]/\Sep.Post emp W (all ((rpF c code data ls n).pieces o)) w:=by
 refine(aem hc hT.1.tab hT.1.code hG hn).mono ?_;intro e w hp;cases hi:bk code.length data.length
 ·rw[if_neg (by rw[hi];decide)] at hp;obtain⟨rfl,hp⟩:=hp
  have er:rpF c code data ls n=rp0:=by unfold rpF;rw[hi];rfl
  rw[er];refine⟨ro0,rfl,?_,hp,λ q hq=>?_⟩
  ·exact⟨Sl.nil _ _ _,λ q e=>(by cases e),Sl.nil _ _ _,λ q e=>(by cases e),Sl.nil _ _ _,λ q e=>(by cases e),trivial⟩
  ·rcases hq with h | h | h | h
   ·cases h
   ·cases h
   ·cases h
   ·exact h.elim
 ·rw[if_pos hi] at hp;obtain⟨ro,rfl,hp⟩:=hp
  have er:rpF c code data ls n=ahp (As c code data ls n):=by unfold rpF;rw[hi];rfl
  rw[er];exact⟨ro,rfl,by rw[aes];exact hp⟩
theorem aeu {κ:IntKind} (l:LI):∀ v ∈ l.map (Value.int κ),v.oneCell'=true:=by
 intro v hv;obtain⟨a, -,rfl⟩:=qCB.1 hv;rfl
def RdS (w:wD) (p:OA) (n:Nat) (xs:LV):Prop:=xs.length=n/\(n=0∨∃ g off,p=some ⟨g,off,none⟩/\g<w.heap.size/\∀ j,j<n->w.cell? ⟨g,off+j,none⟩=xs[j]?)
theorem aev {B:wD}{p:OA}{n:Nat}{xs:LV} (h:RdS B p n xs) (ht:(br B).at_ w):RdS w p n xs :=
 ⟨h.1,h.2.imp id λ ⟨g,off,hp,hg,hc⟩=>⟨g,off,hp,qaB hg ht.2.size,λ j hj=>(ht.2.cell hg (Nat.not_le.2 hg)).trans (hc j hj)⟩⟩
theorem Dc {κ:IntKind}{t:TI}{k n:Nat}{p:OA}{xs:LI}{φ:wD->Prop} (i:Nat) (hn:xs.length=n) (H:St W S w L) (hk:L[i]?=some (blk k (gn κ (List.replicate (n+70) 0)) t)) (hs:RdS w p n (xs.map (.int κ))) (hq:∀ w',St W S w' (L.set i (blk k (gn κ (xs++List.replicate 70 0)) t))->φ w') :
  ∃ l:LV,l.length=Nat.min n (n+70) * 1/\(∀ v,v ∈ l->v.oneCell'=true) /\
   (l=[]∨((∃ a:Addr,p=some a/\∀ (k5:Nat) (v4:Value),l[k5]?=some v4->w.cell? (a.add k5)=some v4)/\∃ k6 k7:Nat,some (⟨k,0,none⟩:Addr)=some ⟨k6,k7,none⟩/\∀ k8,k8<l.length->(∃ v5:Value,w.cell? ⟨k6,k7+k8,none⟩=some v5)/\w.frozen? ⟨k6,k7+k8,none⟩=false)) /\
   ∀ w',w'=Sx.setRow (some ⟨k,0,none⟩) w l->φ w':=by
 have hsz:(gn κ (List.replicate (n+70) 0)).size=n+70:=by rw[iv,qi]
 have hm:(xs.map (Value.int κ)).length=n:=by rw[qd];exact hn
 refine⟨xs.map (.int κ),by rw[hm,qT];exact(qPB (by omega)).symm,aeu xs,?_,?_⟩
 ·rcases hs.2 with h0 | ⟨g,off,ha, -,hc⟩
  ·left;rw[<- qDC,hm];exact h0
  ·right
   refine⟨⟨_,ha,λ j u hj=>by
    rw[ac]
    exact(hc j (by rw[<- hs.1];exact(qD.1 hj).1)).trans hj⟩,_,_,rfl,λ j hj=>⟨⟨_,(H.blk i hk).cell' (i:=0+j) (qh (by rw[hsz];omega))⟩,(H.blk i hk).frozen _⟩⟩
 ·rintro w' rfl;have H:=H.wrs i hk 0 (xs.map (.int κ)) (by rw[hm,hsz];omega)
  have es:bv (gn κ (List.replicate (n+70) 0)) 0 (xs.map (.int κ))=gn κ (xs++List.replicate 70 0):=by
   unfold bv gn;simp [hn]
  rw[es] at H;exact hq _ H
theorem row_sl {κ:IntKind}{t:TI}{k n:Nat}{xs:LI} (hn:xs.length=n) (hl:n≤2000000) (h:Blk w k (gn κ (xs++List.replicate 70 0)) t):Sl w t 1 (.slice (some ⟨k,0,none⟩) n (n+70)) n (xs.map (.int κ)):=by
 have hmax:maxLen=2 ^ 63 - 1:=rfl;refine⟨by rw[qd,qT];exact hn,.inr ⟨k,0,n+70,_,rfl,h,by omega,by omega,by rw[iv,qP,qi];omega,?_⟩⟩;unfold gn;rw[qT,List.drop_zero,qV];exact List.take_left' (by rw[qd];exact hn)
theorem Dd {κ:IntKind}{t:TI}{k n j:Nat}{p:OA}{xs:LI} (hn:xs.length=n) (hb:Blk w k (gn κ (xs++List.replicate 70 0)) t) (hs:RdS w p n (xs.map (.int κ))) (hj:j<n+70){F G:wD->Prop} (hG:∀ m,G (w.drewN m)) :
  Sx.split (decide ((j:Int)<(n:Int)))
   (((0:Int)≤(j:Int)/\(j:Int)<((n+70:Nat):Int))/\∃ z6:Int,w.cell? ⟨k,0+(j:Int).toNat * 1,none⟩=some (.int κ z6)/\((0:Int)≤(j:Int)/\(j:Int)<(n:Int))/\Sx.adr p λ k30 k31=>∃ z7:Int,w.cell? ⟨k30,k31+(j:Int).toNat * 1,none⟩=some (.int κ z7) /\
    Sx.split (z6 !=z7) (∀ (w2:wD) (m:Nat),w2=w.drewN m->F w2)
     (Sx.split (decide ((j:Int) ≥ (n:Int))) (((0:Int)≤(j:Int)/\(j:Int)<((n+70:Nat):Int))/\∃ z8:Int,w.cell? ⟨k,0+(j:Int).toNat * 1,none⟩=some (.int κ z8)/\∀ (w2:wD) (m:Nat),w2=w.drewN m->Sx.split (z8 !=0) (F w2) (G w2)) (∀ (w2:wD) (m:Nat),w2=w.drewN m->G w2)))
   (Sx.split (decide ((j:Int) ≥ (n:Int))) (((0:Int)≤(j:Int)/\(j:Int)<((n+70:Nat):Int))/\∃ z8:Int,w.cell? ⟨k,0+(j:Int).toNat * 1,none⟩=some (.int κ z8)/\∀ (w2:wD) (m:Nat),w2=w.drewN m->Sx.split (z8 !=0) (F w2) (G w2)) (∀ (w2:wD) (m:Nat),w2=w.drewN m->G w2)):=by
 have hcell:∀ {z:Int},(xs++List.replicate 70 (0:Int))[j]?=some z->w.cell? ⟨k,0+(j:Int).toNat * 1,none⟩=some (.int κ z):=λ h=>by
  rw[ix1,qW];exact hb.cell' (mi h)
 refine aa (λ q=>?_) (λ q=>?_)
 ·have q:j<n:=by have:=qB q;omega
  have hx:(xs++List.replicate 70 (0:Int))[j]?=some (xs[j]'(by omega)):=by rw[qk (by omega),qC (by omega)]
  obtain⟨g,off,hp, -,hcc⟩:=hs.2.resolve_left (by omega);subst hp;refine⟨⟨by omega,by omega⟩,_,hcell hx,⟨by omega,by omega⟩,adr_some ⟨xs[j]'(by omega),?_,aa (λ h=>by simp at h) (λ _=>aa (λ h=>absurd (qB h) (by omega)) (λ _=>?_))⟩⟩
  ·rw[ix1,hcc j q,qS,qC (by omega)];rfl
  ·rintro w2 m rfl;exact hG m
 ·have q:n≤j:=by have:=qE q;omega
  have hx:(xs++List.replicate 70 (0:Int))[j]?=some 0:=by rw[qf (by omega),qEC,if_pos (by omega)]
  refine aa (λ _=>⟨⟨by omega,by omega⟩,_,hcell hx,?_⟩) (λ h=>absurd (qE h) (by omega));rintro w2 m rfl;exact aa (λ h=>by simp at h) (λ _=>hG m)
end Go.Proofs.YtmncepdbglaphaaGreatDoor.ko
