/- The reference's parser: numbers, operations on one value. No condition. -/
import Derived.Test.YtojogkljneonmaaGreatDoorLangRl
set_option linter.unusedVariables false
set_option linter.unusedSimpArgs false
namespace Go.Proofs.YtojogkljneonmaaGreatDoor
open Go Go.Proofs.Tryz Go.Proofs Go.Sep Go.XHeap Go.RowKit Go.Lang
variable {W w0 w:World}{M:Nat->Prop}{L:List Asn}{R:Rx}{l:List Tok}{n:Nat}{line en:Int}
theorem pq {t:Tok}{k:Nat}{c:Int} (h:(k=3/\c=107)∨(k=2/\c=100)∨(k=1/\c=110)∨(k=0/\c=101)):((kR t.k:Nat):Int)=c↔t.k=k:=by
 unfold kR;rcases h with ⟨rfl,rfl⟩ | ⟨rfl,rfl⟩ | ⟨rfl,rfl⟩ | ⟨rfl,rfl⟩ <;> (split <;> simp_all)
theorem Yo [Inhabited G3o]{f:Nat} (I:JE 147 .un f) (Ip:JE 173 .prim f):JE 147 .un (f+1):=by
 intro W R n l h hn hr
 have hrun:run (f+1) .un n l=if oh l then (if 24≤n then .err (now l).line 3 else (run f .un (n+1) l.tail).bind λ x l'=>.ok (.un (now l) x) l') else run f .prim n l:=by rw[run]
 generalize run (f+1) .un n l=R0 at *;refine ait R.b 0 ?_;refine(St.begin h).al λ k w2 H2=>?_;refine H2.dr λ w3 H3=>?_;refine Iv H3 ?_;refine H3.alb λ k6 w4 H4 _ hb=>⟨hb,?_⟩;refine H4.sts0 2 (n:=3) (vs:=(tkR (now l)).toArray) rfl rfl rfl (by simpa using mr _) λ w5 H5=>?_;clear H2 H3 H4 hb;refine ta H5 (Sx.so (λ _=>?_) (λ h=>by cases h));refine⟨_,H5.ld 2 rfl (i:=0) rfl,Sx.so (λ h1=>?_) (λ h1=>?_)⟩
 ·have hk3:(now l).k=3:=(pq (.inl ⟨rfl,rfl⟩)).1 (beq_iff_eq.1 h1);refine⟨_,H5.ld 2 rfl (i:=1) rfl,Sx.so (λ h2=>?_) (λ h2=>?_)⟩
  ·have hone:oh l=true:=by unfold oh is;rw[hk3,show(now l).s=pn from dt ((ab _ _).symm.trans h2)];simp
   rw[if_pos hone] at hrun;refine(rc (H5.nth 0 rfl) hn).mono ?_;rintro e w6 (⟨hn2,rfl,hp⟩ | ⟨hn2,rfl,hp⟩)
   ·have H6:=H5.upd 0 rfl hp;rw[if_neg (by omega)] at hrun;refine⟨_,rfl,Sx.so (λ h=>by cases h) (λ _=>?_)⟩;refine tb (by omega) H6 λ w8 H8=>?_;refine Bz H8 hrun hr (λ hr=>I (H8.nth 0 rfl) (by omega) hr) ?_ ?_
    ·intro x l' us B w9 hR ho hF H9;refine⟨_,rfl,?_⟩;refine H9.al λ k9 w10 H10=>?_;refine H10.sts0 4 (n:=6) (vs:=us.toArray) rfl (by simpa using ho.1) rfl (by simpa using ho.2) λ w11 H11=>?_;refine Iw H11 λ w12 H12=>?_;refine⟨_,H12.ld 3 rfl (i:=1) rfl,_,H12.ld 3 rfl (i:=2) rfl,?_⟩;refine ac H12 (k:=4) rfl ho.1 ⟨by simpa using ho.1,?_⟩;refine H12.al λ k11 w13 H13=>?_;rintro vs6 rfl;refine ah H13 (k:=2) (us:=ae Mr (now l).s (now l).line 0 (.slice (some ⟨k11,0,none⟩) 1 1) (.slice none 0 0)) rfl rfl rfl af λ w14 H14=>?_;have H15:=H14.pick [5,1,0];simp only[List.append_nil] at H15;obtain⟨B2,hB2,H16⟩:=Av Mr (now l).s (now l).line 0 hF (m:=1) (di hF ho.1).symm (by omega) H15;exact kg hR az hB2 (H16.pick [1,0])
    ·intro line en us w9 hR ho H9;refine⟨_,rfl,?_⟩;refine H9.al λ k9 w10 H10=>?_;refine H10.sts0 3 (n:=6) (vs:=us.toArray) rfl (by simpa using ho.1) rfl (by simpa using ho.2) λ w11 H11=>?_;refine Dj H11 λ w12 H12=>?_;refine⟨_,H12.ld 2 rfl (i:=1) rfl,_,H12.ld 2 rfl (i:=2) rfl,?_⟩;refine ac H12 (k:=3) rfl ho.1 ⟨by simpa using ho.1,?_⟩;refine H12.al λ k11 w13 H13=>?_;rintro vs6 rfl;exact ah H13 (k:=1) (us:=ae Mr (now l).s (now l).line 0 (.slice (some ⟨k11,0,none⟩) 1 1) (.slice none 0 0)) rfl rfl rfl af λ w14 H14=>cq hR az H14
   ·have H6:=H5.upd 0 rfl hp;rw[if_pos hn2] at hrun;refine⟨_,rfl,Sx.so (λ _=>?_) (λ h=>by cases h)⟩;rintro vs rfl;exact ah H6 (k:=1) (us:=nodeZ) rfl rfl rfl cz λ w8 H8=>cq hrun xj H8
  refine⟨_,H5.ld 2 rfl (i:=1) rfl,Sx.so (λ h3=>?_) (λ h3=>?_)⟩
  ·have hone:oh l=true:=by unfold oh is;rw[hk3,show(now l).s=Vy from dt ((ab _ _).symm.trans h3)];simp
   rw[if_pos hone] at hrun;refine(rc (H5.nth 0 rfl) hn).mono ?_;rintro e w6 (⟨hn2,rfl,hp⟩ | ⟨hn2,rfl,hp⟩)
   ·have H6:=H5.upd 0 rfl hp;rw[if_neg (by omega)] at hrun;refine⟨_,rfl,Sx.so (λ h=>by cases h) (λ _=>?_)⟩;refine tb (by omega) H6 λ w8 H8=>?_;refine Bz H8 hrun hr (λ hr=>I (H8.nth 0 rfl) (by omega) hr) ?_ ?_
    ·intro x l' us B w9 hR ho hF H9;refine⟨_,rfl,?_⟩;refine H9.al λ k9 w10 H10=>?_;refine H10.sts0 4 (n:=6) (vs:=us.toArray) rfl (by simpa using ho.1) rfl (by simpa using ho.2) λ w11 H11=>?_;refine Iw H11 λ w12 H12=>?_;refine⟨_,H12.ld 3 rfl (i:=1) rfl,_,H12.ld 3 rfl (i:=2) rfl,?_⟩;refine ac H12 (k:=4) rfl ho.1 ⟨by simpa using ho.1,?_⟩;refine H12.al λ k11 w13 H13=>?_;rintro vs6 rfl;refine ah H13 (k:=2) (us:=ae Mr (now l).s (now l).line 0 (.slice (some ⟨k11,0,none⟩) 1 1) (.slice none 0 0)) rfl rfl rfl af λ w14 H14=>?_;have H15:=H14.pick [5,1,0];simp only[List.append_nil] at H15;obtain⟨B2,hB2,H16⟩:=Av Mr (now l).s (now l).line 0 hF (m:=1) (di hF ho.1).symm (by omega) H15;exact kg hR az hB2 (H16.pick [1,0])
    ·intro line en us w9 hR ho H9;refine⟨_,rfl,?_⟩;refine H9.al λ k9 w10 H10=>?_;refine H10.sts0 3 (n:=6) (vs:=us.toArray) rfl (by simpa using ho.1) rfl (by simpa using ho.2) λ w11 H11=>?_;refine Dj H11 λ w12 H12=>?_;refine⟨_,H12.ld 2 rfl (i:=1) rfl,_,H12.ld 2 rfl (i:=2) rfl,?_⟩;refine ac H12 (k:=3) rfl ho.1 ⟨by simpa using ho.1,?_⟩;refine H12.al λ k11 w13 H13=>?_;rintro vs6 rfl;exact ah H13 (k:=1) (us:=ae Mr (now l).s (now l).line 0 (.slice (some ⟨k11,0,none⟩) 1 1) (.slice none 0 0)) rfl rfl rfl af λ w14 H14=>cq hR az H14
   ·have H6:=H5.upd 0 rfl hp;rw[if_pos hn2] at hrun;refine⟨_,rfl,Sx.so (λ _=>?_) (λ h=>by cases h)⟩;rintro vs rfl;exact ah H6 (k:=1) (us:=nodeZ) rfl rfl rfl cz λ w8 H8=>cq hrun xj H8
  refine⟨_,H5.ld 2 rfl (i:=1) rfl,Sx.so (λ h4=>?_) (λ h4=>?_)⟩
  ·have hone:oh l=true:=by unfold oh is;rw[hk3,show(now l).s=Hb from dt ((ab _ _).symm.trans h4)];simp
   rw[if_pos hone] at hrun;refine(rc (H5.nth 0 rfl) hn).mono ?_;rintro e w6 (⟨hn2,rfl,hp⟩ | ⟨hn2,rfl,hp⟩)
   ·have H6:=H5.upd 0 rfl hp;rw[if_neg (by omega)] at hrun;refine⟨_,rfl,Sx.so (λ h=>by cases h) (λ _=>?_)⟩;refine tb (by omega) H6 λ w8 H8=>?_;refine Bz H8 hrun hr (λ hr=>I (H8.nth 0 rfl) (by omega) hr) ?_ ?_
    ·intro x l' us B w9 hR ho hF H9;refine⟨_,rfl,?_⟩;refine H9.al λ k9 w10 H10=>?_;refine H10.sts0 4 (n:=6) (vs:=us.toArray) rfl (by simpa using ho.1) rfl (by simpa using ho.2) λ w11 H11=>?_;refine Iw H11 λ w12 H12=>?_;refine⟨_,H12.ld 3 rfl (i:=1) rfl,_,H12.ld 3 rfl (i:=2) rfl,?_⟩;refine ac H12 (k:=4) rfl ho.1 ⟨by simpa using ho.1,?_⟩;refine H12.al λ k11 w13 H13=>?_;rintro vs6 rfl;refine ah H13 (k:=2) (us:=ae Mr (now l).s (now l).line 0 (.slice (some ⟨k11,0,none⟩) 1 1) (.slice none 0 0)) rfl rfl rfl af λ w14 H14=>?_;have H15:=H14.pick [5,1,0];simp only[List.append_nil] at H15;obtain⟨B2,hB2,H16⟩:=Av Mr (now l).s (now l).line 0 hF (m:=1) (di hF ho.1).symm (by omega) H15;exact kg hR az hB2 (H16.pick [1,0])
    ·intro line en us w9 hR ho H9;refine⟨_,rfl,?_⟩;refine H9.al λ k9 w10 H10=>?_;refine H10.sts0 3 (n:=6) (vs:=us.toArray) rfl (by simpa using ho.1) rfl (by simpa using ho.2) λ w11 H11=>?_;refine Dj H11 λ w12 H12=>?_;refine⟨_,H12.ld 2 rfl (i:=1) rfl,_,H12.ld 2 rfl (i:=2) rfl,?_⟩;refine ac H12 (k:=3) rfl ho.1 ⟨by simpa using ho.1,?_⟩;refine H12.al λ k11 w13 H13=>?_;rintro vs6 rfl;exact ah H13 (k:=1) (us:=ae Mr (now l).s (now l).line 0 (.slice (some ⟨k11,0,none⟩) 1 1) (.slice none 0 0)) rfl rfl rfl af λ w14 H14=>cq hR az H14
   ·have H6:=H5.upd 0 rfl hp;rw[if_pos hn2] at hrun;refine⟨_,rfl,Sx.so (λ _=>?_) (λ h=>by cases h)⟩;rintro vs rfl;exact ah H6 (k:=1) (us:=nodeZ) rfl rfl rfl cz λ w8 H8=>cq hrun xj H8
  ·have hno:¬ oh l=true:=by
    unfold oh is;rw[hk3];have a1:¬ (now l).s=pn:=df ((ab _ _).symm.trans h2);have a2:¬ (now l).s=Vy:=df ((ab _ _).symm.trans h3);have a3:¬ (now l).s=Hb:=df ((ab _ _).symm.trans h4);simp [a1,a2,a3]
   rw[if_neg hno] at hrun;refine Bz (kk:=λ x l=>.ok x l) H5 (by rw[hrun];cases run f .prim n l <;> rfl) hr (λ hr=>Ip (H5.nth 0 rfl) hn hr) ?_ ?_
   ·intro x l' us B w9 hR ho hF H9;exact⟨_,rfl,ah H9 (k:=2) rfl rfl ho.1 ho.2 λ w8 H8=>kg hR ho hF H8⟩
   ·intro line en us w9 hR ho H9;exact⟨_,rfl,ah H9 (k:=1) rfl rfl ho.1 ho.2 λ w8 H8=>cq hR ho H8⟩
 ·have hk3:¬ (now l).k=3:=λ e=>(beq_eq_false_iff_ne.1 h1) ((pq (.inl ⟨rfl,rfl⟩)).2 e)
  have hno:¬ oh l=true:=by
   unfold oh is;simp [hk3]
  rw[if_neg hno] at hrun;refine Bz (kk:=λ x l=>.ok x l) H5 (by rw[hrun];cases run f .prim n l <;> rfl) hr (λ hr=>Ip (H5.nth 0 rfl) hn hr) ?_ ?_
  ·intro x l' us B w9 hR ho hF H9;exact⟨_,rfl,ah H9 (k:=2) rfl rfl ho.1 ho.2 λ w8 H8=>kg hR ho hF H8⟩
  ·intro line en us w9 hR ho H9;exact⟨_,rfl,ah H9 (k:=1) rfl rfl ho.1 ho.2 λ w8 H8=>cq hR ho H8⟩
theorem Yp (l:List UInt8) (a:Nat):a≤l.foldl (λ n c=>10 * n+(c.toNat - 48)) a:=by
 induction l generalizing a with
 | nil=>exact Nat.le_refl _
 | cons x l ih=>exact Nat.le_trans (show a≤10 * a+(x.toNat - 48) by omega) (ih _)
def NK [Inhabited G3o] (R:Rx) (n:Nat) (W:World) (A:Asn) (r:Lang.R Int) (e:Ending) (w':World):Prop:=match r with
 | .ok v l'=>(0≤v/\v<4294967296)/\e= .returned (.int .u32 v)/\Post A W (rlA R l' n) w'
 | .err line en=>e= .returned (.int .u32 0)/\Post A W (rdA R line en) w'
 | .out=>True
theorem Iz [Inhabited G3o] (h:(rlA R l n).at_ W):Calls prog 62 #[pt R.b] W (NK R n W (rlA R l n) (number l λ v l=>.ok v l)):=by
 have hG:Good l:=h.1.2.1;refine ane R.b 0 ?_;refine(St.begin h).dr λ w2 H2=>?_;refine Iv H2 ?_;refine H2.alb λ k5 w3 H3 _ hb=>⟨hb,?_⟩;refine H3.sts0 1 (n:=3) (vs:=(tkR (now l)).toArray) rfl rfl rfl (by simpa using mr _) λ w4 H4=>?_;clear H2 H3 hb;refine⟨_,H4.ld 1 rfl (i:=0) rfl,Sx.so (λ h1=>?_) (λ h1=>?_)⟩
 ·have hk:(now l).k≠2:=λ e=>by
   rw[show((kR (now l).k:Nat):Int)=100 from (pq (.inr (.inl ⟨rfl,rfl⟩))).2 e] at h1;cases h1
  rw[number,if_pos hk];refine(tu 8 (by decide) (H4.nth 0 rfl)).mono ?_;rintro en w5 ⟨rfl,hp⟩;exact⟨_,rfl,rfl,(H4.upd 0 rfl hp).post 0 rfl⟩
 have hk:(now l).k=2:=(pq (.inr (.inl ⟨rfl,rfl⟩))).1 (bne_eq_false_iff_eq.1 h1);refine ta H4 (Sx.so (λ h=>by cases h) (λ _=>?_));obtain⟨t,l',hl⟩:=hG.cons
 have hnow:now l=t:=by rw[hl];rfl
 obtain⟨hd0,hd⟩:=hG.2.1 (now l) (by rw[hl,<- hnow,hl];exact List.mem_cons_self ..) hk;have hsz:=hG.2.2.1 (now l) (by rw[hl,<- hnow,hl];exact List.mem_cons_self ..);rw[number,if_neg (λ h=>h hk)]
 have hal:∀ c ∈ (now l).s.data.toList,48≤c.toNat/\c.toNat≤57:=by
  intro c hc;have:=List.all_eq_true.1 hd c hc;unfold Go.Lang.isD at this;rw[Bool.and_eq_true] at this;exact⟨dt this.1,dt this.2⟩
 have hlen:(now l).s.data.toList.length=(now l).s.size:=rfl;generalize hs:(now l).s.data.toList=cs at *
 have hval:Go.Lang.valOf (now l).s=cs.foldl (λ n c=>10 * n+(c.toNat - 48)) 0:=by unfold Go.Lang.valOf;rw[hs]
 refine⟨λ i v w=>∃ j:Nat,i=(j:Nat)/\j≤cs.length/\v=(((cs.take j).foldl (λ n c=>10 * n+(c.toNat - 48)) 0:Nat):Int)/\(cs.take j).foldl (λ n c=>10 * n+(c.toNat - 48)) 0<4294967296/\St W (rlA R l n).own w [rlA R l n,blk k5 (tkR (now l)).toArray 96],λ i _ _=>cs.length - i.toNat,⟨0,rfl,Nat.zero_le _,rfl,by show(0:Nat)<4294967296;omega,H4⟩,?_⟩;rintro _ i v w7 ⟨j,rfl,hj,rfl,hv,H7⟩;refine⟨_,H7.ld 1 rfl (i:=1) rfl,Sx.so (λ h2=>?_) (λ h2=>?_)⟩
 ·have h2:j<cs.length:=by have:=dt h2;omega
  generalize hvv:(cs.take j).foldl (λ n c=>10 * n+(c.toNat - 48)) 0=vv at *
  have htk:cs.take (j+1)=cs.take j++[cs[j]]:=by rw[List.take_succ_eq_append_getElem h2]
  have hfold:(cs.take (j+1)).foldl (λ n c=>10 * n+(c.toNat - 48)) 0=10 * vv+(cs[j].toNat - 48):=by rw[htk,List.foldl_append,hvv];rfl
  have hc:=hal cs[j] (List.getElem_mem h2);rintro z4 rfl;refine⟨_,H7.ld 1 rfl (i:=1) rfl,cs[j],by omega,?_,?_⟩
  ·rw[Int.toNat_natCast];show(now l).s.data[j]?=_;rw[<- Array.getElem?_toList,hs,List.getElem?_eq_getElem h2]
  rintro z5 rfl z6 rfl z7 rfl;rw[show(10:Int) * ((vv:Nat):Int)=((10 * vv:Nat):Int) by omega,Go.Bits.n64 (by omega),show((cs[j].toNat:Nat):Int) - 48=((cs[j].toNat - 48:Nat):Int) by omega,show IntKind.wrap .u8 (((cs[j].toNat - 48:Nat):Int))=((cs[j].toNat - 48:Nat):Int) by show((cs[j].toNat - 48:Nat):Int) % 256=_;omega,Go.Bits.n64 (by omega),show((10 * vv:Nat):Int)+((cs[j].toNat - 48:Nat):Int)=((10 * vv+(cs[j].toNat - 48):Nat):Int) by omega,Go.Bits.n64 (by omega),<- hfold];refine Sx.so (λ h3=>?_) (λ h3=>?_)
  ·have h3:=dt h3
   have:4294967296≤Go.Lang.valOf (now l).s:=by
    rw[hval,<- List.take_append_drop (j+1) cs,List.foldl_append];exact Nat.le_trans (by omega) (Yp _ _)
   rw[if_pos this];refine(tu 3 (by decide) (H7.nth 0 rfl)).mono ?_;rintro en w5 ⟨rfl,hp⟩;exact⟨_,rfl,rfl,(H7.upd 0 rfl hp).post 0 rfl⟩
  ·have h3:=df h3;rintro z8 rfl;rw[qd (by omega)];exact⟨⟨j+1,rfl,by omega,rfl,by omega,H7⟩,by show _ - ((j+1:Nat):Int).toNat<_ - ((j:Nat):Int).toNat;omega⟩
 ·have h2:j=cs.length:=by have:=df h2;omega
  subst h2;rw[List.take_length,<- hval] at hv ⊢;rw[if_neg (by omega)];refine tb (by omega) H7 λ w8 H8=>?_;rintro z rfl;rw[Go.Bits.n32 (by omega)];exact⟨⟨by omega,by omega⟩,rfl,H8.post 0 rfl⟩
variable {W w0 w:World}{M:Nat->Prop}{L:List Asn}{R:Rx}{l:List Tok}{n:Nat}{line en:Int}
theorem Np:∀ (ts:List T) (r:T) (q:Fo),toF (jj ts r) q=toF (jj ts .nil) (toF r q)
 | [],r,q=>rfl
 | t::ts,r,q=>by show toF t (toF (jj ts r) q)=toF t (toF (jj ts .nil) (toF r q));rw[Np ts r q]
theorem yk [Inhabited G3o] (ts:List T) (x:T):toF (jj (ts++[x]) .nil) .nil=(toF (jj ts .nil) .nil).app (toF x .nil):=by
 rw[fv,Np ts (.cons x .nil) .nil,lf];rfl
def RA [Inhabited G3o] (R:Rx) (n:Nat) (W:World) (A:Asn) (r:Lang.R T) (e:Ending) (w':World):Prop:=match r with
 | .ok x l'=>∃ p c us B,e= .returned (.slice p (toF x .nil).len c)/\isF (toF x .nil) us B/\Post A W (all [rlA R l' n,sl 52 6 (.slice p (toF x .nil).len c) (toF x .nil).len us,B]) w'
 | .err line en=>∃ p m c,e= .returned (.slice p m c)/\Post A W (rdA R line en) w'
 | .out=>True
def JA [Inhabited G3o] (f:Nat):Prop:=∀ {W:World} {R:Rx} {n:Nat} {l:List Tok},(rlA R l n).at_ W->n≤24->run f .args n l≠ .out->Calls prog 135 #[pt R.b] W (RA R n W (rlA R l n) (run f .args n l))
def anl [Inhabited G3o] (R:Rx) (n f:Nat) (W:World) (l:List Tok) (R0:Lang.R T) (end_:Bool) (p:Option Addr) (m c:Nat) (w:World):Prop :=
 (end_=false/\∃ ts f' l1 us B,isF (toF (jj ts .nil) .nil) us B/\m=(toF (jj ts .nil) .nil).len/\R0=(run f' .argl n l1).bind (λ xs l'=>.ok (jj ts xs) l')/\f'≤f/\m+l1.length≤8001 /\
  St W (rlA R l n).own w [rlA R l1 n,sl 52 6 (.slice p m c) m us,B]) ∨
 (end_=true/\∃ x l1 us B,isF (toF x .nil) us B/\m=(toF x .nil).len/\R0= .ok x l1/\St W (rlA R l n).own w [rlA R l1 n,sl 52 6 (.slice p m c) m us,B]) ∨
 (∃ line en,R0= .err line en/\St W (rlA R l n).own w [rdA R line en])
theorem Pn [Inhabited G3o]{f:Nat} (I:∀ f'≤f,JE 119 .expr f'):JA (f+1):=by
 intro W R n l h hn hr;have hG:Good l:=h.1.2.1
 have hrun:run (f+1) .args n l=if is cRP l then .ok .nil l.tail else run f .argl n l:=by rw[run]
 generalize run (f+1) .args n l=R0 at *;refine aiv R.b 0 ?_;refine(qz cRP h).mono ?_;rintro _ w2 ⟨rfl,hp⟩;have H0:=(St.begin h).upd 0 rfl hp;clear hp;have H2:St W (rlA R l n).own w2 ([rlA R (if is cRP l then l.tail else l) n]++[sl 52 6 (.slice none 0 0) 0 []]++[all []]):=(H0.add (A:=sl 52 6 (.slice none 0 0) 0 []) ⟨Sl.nil _ _ _,XTouch.refl _ _,λ q hq=>by cases hq⟩).add (A:=all []) ⟨trivial,XTouch.refl _ _,λ q hq=>hq.elim⟩;refine⟨_,rfl,λ e p m c w=>anl R n f W l R0 e p m c w,λ _ _ _ _ w=>sr R w,?_,?_⟩
 ·cases hi:is cRP l with
  | true =>
   rw[hi] at H2 hrun;exact .inr (.inl ⟨rfl,.nil,l.tail,[],_,⟨rfl,rfl⟩,rfl,hrun,H2⟩)
  | false =>
   rw[hi] at H2 hrun;refine .inl ⟨rfl,[],f,l,[],_,⟨rfl,rfl⟩,rfl,?_,Nat.le_refl _,by have:=hG.2.2.2;omega,H2⟩;rw[hrun];show run f .argl n l=_;cases run f .argl n l <;> rfl
 rintro _ end_ p m c w3 (⟨rfl,ts,f',l1,us,B,hF,hm,hR,hf,hml,H3⟩ | ⟨rfl,x,l1,us,B,hF,hm,hR,H3⟩ | ⟨line,en,hR,H3⟩)
 ·refine Sx.so (λ _=>?_) (λ h=>by cases h);refine ta H3 (Sx.so (λ _=>?_) (λ h=>by cases h))
  match f',hR with
  | 0,hR=>exact absurd hR hr
  | f'+1,hR =>
  have hR:R0=(run f' .expr n l1).bind λ x l=>(if is cRP l then .ok (.cons x .nil) l.tail else want ej l λ l=>(run f' .argl n l).bind λ xs l=>.ok (.cons x xs) l:Lang.R T).bind (λ xs l'=>.ok (jj ts xs) l'):=by
   rw[hR,run];cases run f' .expr n l1 <;> rfl
  have hlen:=λ (x:T) (l2:List Tok) (h:run f' .expr n l1= .ok x l2)=>(zk _ _ _ _ _ _ h).1;obtain⟨re,hre⟩:∃ re,re=run f' .expr n l1:=⟨_,rfl⟩;have hne:re≠ .out:=λ e=>hr (by rw[hR,<- hre,e];rfl);refine(I f' (by omega) (H3.nth 0 rfl) hn (by rw[<- hre];exact hne)).mono ?_;intro e w4 he;rw[<- hre] at he hR hlen
  cases re with
  | out=>exact absurd rfl hne
  | err line en =>
   obtain⟨vs,rfl,ho,hp⟩:=he;have H4:=(H3.upd 0 rfl hp);refine⟨_,rfl,?_⟩;refine H4.al λ k3 w5 H5=>?_;refine H5.sts0 3 (n:=6) (vs:=vs.toArray) rfl (by simpa using ho.1) rfl (by simpa using ho.2) λ w6 H6=>?_;refine ac H6 (k:=3) rfl ho.1 ⟨by simpa using ho.1,?_⟩;refine H6.al λ k5 w7 H7=>?_;simp only[List.append_nil] at H7;refine H7.app 1 rfl vs (.inr ⟨_,rfl,λ j v hj=>?_⟩) (by rw[ho.1]) ho.2 (by show m+1≤maxLen;unfold maxLen;omega) (by omega) λ p' c' w8 H8=>?_
   ·rw[show(Addr.add ⟨k5,0,none⟩ j)=⟨k5,j,none⟩ by simp [Addr.add];intro e;exact e.symm];exact H7.ld 4 rfl (i:=j) (by simpa using hj)
   refine H8.call 0 rfl (rb cRP (H8.nth 0 rfl)) λ w9 H9=>?_;refine⟨_,rfl,Sx.so (λ _=>?_) (λ h=>by cases h)⟩;refine H9.call 0 rfl (iy ej (H9.nth 0 rfl)) λ w10 H10=>?_;exact⟨rfl,.inr (.inr ⟨line,en,hR,H10.pick [0]⟩),il (H3.nth 0 rfl) (H10.nth 0 rfl)⟩
  | ok x l2 =>
   obtain⟨vs,B2,rfl,ho,hF2,hp⟩:=he;have hl2:=hlen x l2 rfl;have H4:=St.open_ (L:=[_,_]) (H3.upd 0 rfl hp);have hR:R0=(if is cRP l2 then .ok (.cons x .nil) l2.tail else want ej l2 λ l=>(run f' .argl n l).bind λ xs l=>.ok (.cons x xs) l:Lang.R T).bind (λ xs l'=>.ok (jj ts xs) l'):=hR;refine⟨_,rfl,?_⟩;refine H4.al λ k3 w5 H5=>?_;refine H5.sts0 4 (n:=6) (vs:=vs.toArray) rfl (by simpa using ho.1) rfl (by simpa using ho.2) λ w6 H6=>?_;refine ac H6 (k:=4) rfl ho.1 ⟨by simpa using ho.1,?_⟩;refine H6.al λ k5 w7 H7=>?_;simp only[List.append_nil] at H7;refine H7.app 2 rfl vs (.inr ⟨_,rfl,λ j v hj=>?_⟩) (by rw[ho.1]) ho.2 (by show m+1≤maxLen;unfold maxLen;omega) (by omega) λ p' c' w8 H8=>?_
   ·rw[show(Addr.add ⟨k5,0,none⟩ j)=⟨k5,j,none⟩ by simp [Addr.add];intro e;exact e.symm];exact H7.ld 5 rfl (i:=j) (by simpa using hj)
   have H8:=H8.pick [3,1,0,2];obtain⟨C,hC,H9⟩:=ph hF hF2 H8;rw[<- yk] at hC
   have hm2:m+1=(toF (jj (ts++[x]) .nil) .nil).len:=by rw[yk,Fo.app_len,<- di hF2 ho.1,hm]
   have H10:=H9.pick [1,2,0];refine H10.call 0 rfl (qz cRP (H10.nth 0 rfl)) λ w9 H11=>?_
   cases hi:is cRP l2 with
   | true =>
    rw[hi] at H11 hR;have ht:=dn (kz hi);refine⟨_,rfl,Sx.so (λ h=>by cases h) (λ _=>?_)⟩;refine⟨.inr (.inl ⟨rfl,_,l2.tail,_,C,hC,hm2,?_,H11⟩),mi (H3.nth 0 rfl) (H11.nth 0 rfl) (by show l2.tail.length<_;omega)⟩;rw[hR];show Lang.R.ok (jj ts (.cons x .nil)) l2.tail=_;rw[fv]
   | false =>
    rw[hi] at H11 hR;have hR:R0=(want ej l2 λ l=>(run f' .argl n l).bind λ xs l=>.ok (.cons x xs) l:Lang.R T).bind (λ xs l'=>.ok (jj ts xs) l'):=hR;refine⟨_,rfl,Sx.so (λ _=>?_) (λ h=>by cases h)⟩;unfold want at hR
    cases hc:is ej l2 with
    | true =>
     rw[hc] at hR;have ht:=dn (kz hc);refine H11.call 0 rfl (pg hc (H11.nth 0 rfl)) λ w10 H12=>?_;refine⟨rfl,.inl ⟨rfl,ts++[x],f',l2.tail,_,C,hC,hm2,?_,by omega,by omega,H12⟩,mi (H3.nth 0 rfl) (H12.nth 0 rfl) (by show l2.tail.length<_;omega)⟩;rw[hR];show((run f' .argl n l2.tail).bind λ xs l=>Lang.R.ok (T.cons x xs) l).bind _=_
     cases run f' .argl n l2.tail with
     | ok xs l3=>show Lang.R.ok (jj ts (.cons x xs)) l3=Lang.R.ok (jj (ts++[x]) xs) l3;rw[fv]
     | err=>rfl
     | out=>rfl
    | false =>
     rw[hc] at hR;refine H11.call 0 rfl (ry hc (H11.nth 0 rfl)) λ w10 H12=>?_;exact⟨rfl,.inr (.inr ⟨_,_,hR,H12.pick [0]⟩),il (H3.nth 0 rfl) (H12.nth 0 rfl)⟩
 ·refine Sx.so (λ h=>by cases h) (λ _=>?_);subst hm;rw[hR];exact⟨p,c,us,B,rfl,hF,St.post (St.shut (L:=[_,_,_]) (L':=[]) H3) 0 rfl⟩
 ·have fin:RA R n W (rlA R l n) R0 (.returned (.slice p m c)) w3:=by
   rw[hR];exact⟨p,m,c,rfl,H3.post 0 rfl⟩
  cases end_ with
  | true=>exact Sx.so (λ h=>by cases h) (λ _=>fin)
  | false=>exact Sx.so (λ _=>Au H3 (λ hen=>Sx.so (λ h=>absurd (beq_iff_eq.1 h) hen) (λ _=>fin))) (λ h=>by cases h)
variable {W w0 w:World}{M:Nat->Prop}{L:List Asn}{R:Rx}{l:List Tok}{n:Nat}{line en:Int}
theorem Ja [Inhabited G3o]{P:Asn}{R0:Lang.R T}{s:ByteArray}{kk:List Tok->Lang.R T}{Q:Ending->World->Prop} (H:St W P.own w (rlA R l n::L)) (hR:R0=want s l kk)
  (hok:∀ w',is s l=true->R0=kk l.tail->St W P.own w' (rlA R l.tail n::L)->Q (.returned (.tuple #[])) w') (herr:∀ w',R0= .err (now l).line 8->St W P.own w' (rdA R (now l).line 8::L)->Q (.returned (.tuple #[])) w'):Calls prog 64 #[pt R.b,.string s] w Q:=by
 unfold want at hR
 cases hi:is s l with
 | true =>
  rw[hi] at hR;exact H.call 0 rfl (pg hi (H.nth 0 rfl)) λ w' H'=>hok w' hi hR H'
 | false =>
  rw[hi] at hR;exact H.call 0 rfl (ry hi (H.nth 0 rfl)) λ w' H'=>herr w' hR H'
theorem Po [Inhabited G3o]{f:Nat} (I:JE 119 .expr f) (Ia:JA f):JE 173 .prim (f+1):=by
 intro W R n l h hn hr
 have hrun:run (f+1) .prim n l=if (now l).k=2 then number l λ v l'=>.ok (.num v (now l).line) l'
  else if is cLP l then (run f .expr n l.tail).bind λ x l=>want cRP l λ l=>.ok x l
  else name l λ t l =>
   if is cLP l then (run f .args n l.tail).bind λ xs l=>.ok (.call t none xs) l
   else if is cLB l then (run f .expr n l.tail).bind λ x l=>want cRB l λ l=>.ok (.index t 0 0 x) l
   else .ok (.name t 0 0) l:=by rw[run]
 generalize run (f+1) .prim n l=R0 at *;refine aiu R.b 0 ?_;refine(St.begin h).al λ k w2 H2=>?_;refine H2.dr λ w3 H3=>?_;refine Iv H3 ?_;refine H3.alb λ k6 w4 H4 _ hb=>⟨hb,?_⟩;refine H4.sts0 2 (n:=3) (vs:=(tkR (now l)).toArray) rfl rfl rfl (by simpa using mr _) λ w5 H5=>?_;clear H2 H3 H4 hb;have H5:St W (rlA R l n).own w5 [rlA R l n,blk k nodeZ.toArray 52,blk k6 (tkR (now l)).toArray 96]:=H5;refine ta H5 (Sx.so (λ h=>by cases h) (λ _=>?_));refine⟨_,H5.ld 2 rfl (i:=0) rfl,Sx.so (λ h1=>?_) (λ h1=>?_)⟩
 ·have hk2:(now l).k=2:=(pq (.inr (.inl ⟨rfl,rfl⟩))).1 (beq_iff_eq.1 h1);rw[if_pos hk2,ou] at hrun;refine(Iz (H5.nth 0 rfl)).mono ?_;intro e w6 he
  cases hb:(number l λ v l=>Lang.R.ok v l) with
  | out=>rw[hb] at hrun;exact absurd hrun hr
  | err line en =>
   rw[hb] at he hrun;obtain⟨rfl,hp⟩:=he;have H6:=H5.upd 0 rfl hp;refine⟨_,rfl,_,H6.ld 2 rfl (i:=2) rfl,?_⟩;rintro vs rfl;exact ah H6 (k:=1) (us:=ae Oz (ofL []) (now l).line 0 (.slice none 0 0) (.slice none 0 0)) rfl rfl rfl af λ w8 H8=>cq hrun az H8
  | ok v l' =>
   rw[hb] at he hrun;obtain⟨-,rfl,hp⟩:=he;have H6:=H5.upd 0 rfl hp;refine⟨_,rfl,_,H6.ld 2 rfl (i:=2) rfl,?_⟩;rintro vs rfl;refine ah H6 (k:=1) (us:=ae Oz (ofL []) (now l).line v (.slice none 0 0) (.slice none 0 0)) rfl rfl rfl af λ w8 H8=>?_;obtain⟨B,hB,H9⟩:=Fw Oz (ofL []) (now l).line v H8;exact kg hrun az hB (H9.pick [1,0])
 have hk2:¬ (now l).k=2:=λ e=>(beq_eq_false_iff_ne.1 h1) ((pq (.inr (.inl ⟨rfl,rfl⟩))).2 e);rw[if_neg hk2] at hrun;refine H5.call 0 rfl (qz cLP (H5.nth 0 rfl)) λ w6 H6=>?_
 cases hi:is cLP l with
 | true =>
  rw[hi] at H6 hrun;refine⟨_,rfl,Sx.so (λ _=>?_) (λ h=>by cases h)⟩;refine Bz H6 hrun hr (λ hr=>I (H6.nth 0 rfl) hn hr) ?_ ?_
  ·intro x l' us B w7 hR ho hF H7;refine⟨_,rfl,?_⟩;refine H7.al λ k10 w8 H8=>?_;refine H8.sts0 4 (n:=6) (vs:=us.toArray) rfl (by simpa using ho.1) rfl (by simpa using ho.2) λ w9 H9=>?_;refine Ja H9 hR ?_ ?_
   ·intro w10 _ hR H10;refine⟨rfl,ac H10 (k:=4) rfl ho.1 ?_⟩;exact ah H10 (k:=2) rfl rfl ho.1 ho.2 λ w8 H8=>kg hR ho hF H8
   ·intro w10 hR H10;refine⟨rfl,ac H10 (k:=4) rfl ho.1 ?_⟩;exact ah H10 (k:=2) rfl rfl ho.1 ho.2 λ w8 H8=>cq hR ho H8
  ·intro line en us w7 hR ho H7;refine⟨_,rfl,?_⟩;refine H7.al λ k10 w8 H8=>?_;refine H8.sts0 3 (n:=6) (vs:=us.toArray) rfl (by simpa using ho.1) rfl (by simpa using ho.2) λ w9 H9=>?_;refine H9.call 0 rfl (iy cRP (H9.nth 0 rfl)) λ w10 H10=>?_;refine⟨rfl,ac H10 (k:=3) rfl ho.1 ?_⟩;exact ah H10 (k:=1) rfl rfl ho.1 ho.2 λ w8 H8=>cq hR ho H8
 | false =>
  rw[hi] at H6 hrun;have H6:St W (rlA R l n).own w6 [rlA R l n,blk k nodeZ.toArray 52,blk k6 (tkR (now l)).toArray 96]:=H6
  have hrun:R0=name l λ t l =>
   if is cLP l then (run f .args n l.tail).bind λ xs l=>.ok (.call t none xs) l
   else if is cLB l then (run f .expr n l.tail).bind λ x l=>want cRB l λ l=>.ok (.index t 0 0 x) l
   else .ok (.name t 0 0) l:=hrun
  refine⟨_,rfl,Sx.so (λ h=>by cases h) (λ _=>?_)⟩;rcases wm l with ⟨a1,a2,a3⟩ | ⟨e1,a1,a2⟩
  ·rw[a3] at hrun;refine H6.call 0 rfl (wl a1 a2 (H6.nth 0 rfl)) λ w7 H7=>?_;refine⟨_,rfl,?_⟩;refine H7.call 0 rfl (qz cLP (H7.nth 0 rfl)) λ w8 H8=>?_
   cases hi2:is cLP l.tail with
   | true =>
    rw[hi2] at H8 hrun;have hrun:R0=(run f .args n l.tail.tail).bind λ xs l'=>.ok (.call (now l) none xs) l':=hrun;refine⟨_,rfl,Sx.so (λ _=>?_) (λ h=>by cases h)⟩;refine(Ia (H8.nth 0 rfl) hn (λ e=>hr (by rw[hrun];show Lang.R.bind (run f .args n l.tail.tail) _=_;rw[show run f .args n l.tail.tail= .out from e];rfl))).mono ?_;intro e w9 he;have he:RA R n w8 (rlA R l.tail.tail n) (run f .args n l.tail.tail) e w9:=he
    cases hb:run f .args n l.tail.tail with
    | out=>rw[hb] at hrun;exact absurd hrun hr
    | err line en =>
     rw[hb] at he hrun;obtain⟨p,m,c,rfl,hp⟩:=he;have H9:=H8.upd 0 rfl hp;refine⟨_,_,_,rfl,_,H9.ld 2 rfl (i:=2) rfl,?_⟩;rintro vs rfl;exact ah H9 (k:=1) (us:=ae ip (now l).s (now l).line 0 (.slice p m c) (.slice none 0 0)) rfl rfl rfl af λ w8 H8=>cq hrun az H8
    | ok xs l2 =>
     rw[hb] at he hrun;obtain⟨p,c,us,B,rfl,hF,hp⟩:=he;have H9:=St.open_ (L:=[_,_,_]) (H8.upd 0 rfl hp);refine⟨_,_,_,rfl,_,H9.ld 4 rfl (i:=2) rfl,?_⟩;rintro vs rfl;refine ah H9 (k:=3) (us:=ae ip (now l).s (now l).line 0 (.slice p (toF xs .nil).len c) (.slice none 0 0)) rfl rfl rfl af λ w8 H8=>?_;obtain⟨B2,hB,H10⟩:=Pk ip (now l).s (now l).line 0 hF (H8.pick [1,2,0]);exact kg hrun az hB (H10.pick [1,0])
   | false =>
    rw[hi2] at H8 hrun
    have hrun:R0=if is cLB l.tail then (run f .expr n l.tail.tail).bind λ x l'=>want cRB l' λ l'=>.ok (.index (now l) 0 0 x) l' else .ok (.name (now l) 0 0) l.tail:=hrun
    refine⟨_,rfl,Sx.so (λ h=>by cases h) (λ _=>?_)⟩;have H8:St W (rlA R l n).own w8 [rlA R l.tail n,blk k nodeZ.toArray 52,blk k6 (tkR (now l)).toArray 96]:=H8;refine H8.call 0 rfl (qz cLB (H8.nth 0 rfl)) λ w9 H9=>?_
    cases hi3:is cLB l.tail with
    | true =>
     rw[hi3] at hrun;rw[hi3] at H9;have H9:St W (rlA R l n).own w9 [rlA R l.tail.tail n,blk k nodeZ.toArray 52,blk k6 (tkR (now l)).toArray 96]:=H9;have hrun:R0=(run f .expr n l.tail.tail).bind λ x l'=>want cRB l' λ l'=>.ok (.index (now l) 0 0 x) l':=hrun;refine⟨_,rfl,Sx.so (λ _=>?_) (λ h=>by cases h)⟩;refine Bz H9 hrun hr (λ hr=>I (H9.nth 0 rfl) hn hr) ?_ ?_
     ·intro x l' us B w7 hR ho hF H7;refine⟨_,rfl,?_⟩;refine H7.al λ k10 w8 H8=>?_;refine H8.sts0 4 (n:=6) (vs:=us.toArray) rfl (by simpa using ho.1) rfl (by simpa using ho.2) λ w9 H9=>?_;refine Ja H9 hR ?_ ?_
      ·intro w10 _ hR H10;refine⟨rfl,_,H10.ld 3 rfl (i:=2) rfl,ac H10 (k:=4) rfl ho.1 ⟨by simpa using ho.1,?_⟩⟩;refine H10.al λ k18 w11 H11=>?_;rintro vs rfl;refine ah H11 (k:=2) (us:=ae jo (now l).s (now l).line 0 (.slice (some ⟨k18,0,none⟩) 1 1) (.slice none 0 0)) rfl rfl rfl af λ w8 H12=>?_;have H13:=H12.pick [5,1,0];simp only[List.append_nil] at H13;obtain⟨B2,hB2,H16⟩:=Av jo (now l).s (now l).line 0 hF (m:=1) (di hF ho.1).symm (by omega) H13;exact kg hR az hB2 (H16.pick [1,0])
      ·intro w10 hR H10;refine⟨rfl,_,H10.ld 3 rfl (i:=2) rfl,ac H10 (k:=4) rfl ho.1 ⟨by simpa using ho.1,?_⟩⟩;refine H10.al λ k18 w11 H11=>?_;rintro vs rfl;exact ah H11 (k:=2) (us:=ae jo (now l).s (now l).line 0 (.slice (some ⟨k18,0,none⟩) 1 1) (.slice none 0 0)) rfl rfl rfl af λ w8 H12=>cq hR az H12
     ·intro line en us w7 hR ho H7;refine⟨_,rfl,?_⟩;refine H7.al λ k10 w8 H8=>?_;refine H8.sts0 3 (n:=6) (vs:=us.toArray) rfl (by simpa using ho.1) rfl (by simpa using ho.2) λ w9 H9=>?_;refine H9.call 0 rfl (iy cRB (H9.nth 0 rfl)) λ w10 H10=>?_;refine⟨rfl,_,H10.ld 2 rfl (i:=2) rfl,ac H10 (k:=3) rfl ho.1 ⟨by simpa using ho.1,?_⟩⟩;refine H10.al λ k18 w11 H11=>?_;rintro vs rfl;exact ah H11 (k:=1) (us:=ae jo (now l).s (now l).line 0 (.slice (some ⟨k18,0,none⟩) 1 1) (.slice none 0 0)) rfl rfl rfl af λ w8 H12=>cq hR az H12
    | false =>
     rw[hi3] at hrun;rw[hi3] at H9;have H9:St W (rlA R l n).own w9 [rlA R l.tail n,blk k nodeZ.toArray 52,blk k6 (tkR (now l)).toArray 96]:=H9;have hrun:R0= .ok (.name (now l) 0 0) l.tail:=hrun;refine⟨_,rfl,Sx.so (λ h=>by cases h) (λ _=>?_)⟩;refine⟨_,H9.ld 2 rfl (i:=2) rfl,?_⟩;rintro vs rfl;refine ah H9 (k:=1) (us:=ae sx (now l).s (now l).line 0 (.slice none 0 0) (.slice none 0 0)) rfl rfl rfl af λ w8 H8=>?_;obtain⟨B,hB,H9⟩:=Fw sx (now l).s (now l).line 0 H8;exact kg hrun az hB (H9.pick [1,0])
  ·rw[a2] at hrun;refine H6.call 0 rfl (Ar (a2 _) (H6.nth 0 rfl)) λ w7 H7=>?_;refine⟨_,rfl,?_⟩;refine H7.call 0 rfl (rb cLP (H7.nth 0 rfl)) λ w8 H8=>?_;refine⟨_,rfl,Sx.so (λ h=>by cases h) (λ _=>?_)⟩;refine H8.call 0 rfl (rb cLB (H8.nth 0 rfl)) λ w9 H9=>?_;refine⟨_,rfl,Sx.so (λ h=>by cases h) (λ _=>?_)⟩;refine⟨_,H9.ld 2 rfl (i:=2) rfl,?_⟩;rintro vs rfl;exact ah H9 (k:=1) (us:=ae sx ⟨#[]⟩ (now l).line 0 (.slice none 0 0) (.slice none 0 0)) rfl rfl rfl af λ w8 H8=>cq hrun az H8
variable {W w0 w:World}{M:Nat->Prop}{L:List Asn}{R:Rx}{l:List Tok}{n:Nat}{line en:Int}
theorem rz [Inhabited G3o] (h:(rdA R line en).at_ W):Calls prog 119 #[pt R.b] W λ e w'=>∃ us,e= .returned (.agg us.toArray)/\ones us/\Post (rdA R line en) W (rdA R line en) w':=by
 refine afq R.b 0 ?_;refine(St.begin h).al λ k w2 H2=>?_;refine H2.call 0 rfl (It (H2.nth 0 rfl)) λ w3 H3=>?_;refine⟨_,rfl,Sx.so (λ _=>?_) (λ h=>by cases h)⟩;rintro vs rfl;exact ah H3 (k:=1) (us:=nodeZ) rfl rfl rfl cz λ w8 H8=>⟨nodeZ,rfl,xj,H8.post 0 rfl⟩
theorem lu [Inhabited G3o] (h:(rdA R line en).at_ W):Calls prog 65 #[pt R.b] W λ e w'=>∃ us,e= .returned (.agg us.toArray)/\ones us/\Post (rdA R line en) W (rdA R line en) w':=by
 refine ajp R.b 0 ?_;refine(St.begin h).al λ k w2 H2=>?_;refine H2.dr λ w3 H3=>?_;refine ada H3 λ x=>?_;rintro vs rfl;refine H3.alb λ k6 w4 H4 _ hb=>⟨hb,?_⟩;refine H4.sts0 2 (n:=6) (vs:=(ae bh ⟨#[]⟩ x 0 (.slice none 0 0) (.slice none 0 0)).toArray) rfl rfl rfl af λ w5 H5=>?_;refine H5.call 0 rfl (It (H5.nth 0 rfl)) λ w6 H6=>?_;refine⟨_,rfl,Sx.so (λ _=>?_) (λ h=>by cases h)⟩;refine ac H6 (k:=2) (us:=ae bh ⟨#[]⟩ x 0 (.slice none 0 0) (.slice none 0 0)) rfl rfl ?_;exact ah H6 (k:=1) (us:=ae bh ⟨#[]⟩ x 0 (.slice none 0 0) (.slice none 0 0)) rfl rfl rfl af λ w8 H8=>⟨_,rfl,az,H8.post 0 rfl⟩
def ZS [Inhabited G3o]{α:Type} (R:Rx) (n:Nat) (R0:Lang.R α) (P:List Tok->Prop) (Z:Asn):Prop:=(∃ l,P l/\Z=rlA R l n)∨(∃ line en,R0= .err line en/\Z=rdA R line en)
section
variable {α:Type}{R0:Lang.R α}{Z A0:Asn}{Q:Ending->World->Prop}
theorem js [Inhabited G3o]{s:ByteArray}{P P':List Tok->Prop} (H:St W A0.own w (Z::L)) (hZ:ZS R n R0 P Z) (hP:∀ l,P l->∃ kk:List Tok->Lang.R α,R0=want s l kk/\(is s l=true->R0=kk l.tail->P' l.tail))
  (hq:∀ Z' w',ZS R n R0 P' Z'->St W A0.own w' (Z'::L)->Q (.returned (.tuple #[])) w'):Calls prog 64 #[pt R.b,.string s] w Q:=by
 rcases hZ with ⟨l,hp,rfl⟩ | ⟨line,en,hR,rfl⟩
 ·obtain⟨kk,hR,hP⟩:=hP l hp;unfold want at hR
  cases hi:is s l with
  | true =>
   rw[hi] at hR;exact H.call 0 rfl (pg hi (H.nth 0 rfl)) λ w' H'=>hq _ w' (.inl ⟨l.tail,hP hi hR,rfl⟩) H'
  | false =>
   rw[hi] at hR;exact H.call 0 rfl (ry hi (H.nth 0 rfl)) λ w' H'=>hq _ w' (.inr ⟨_,_,hR,rfl⟩) H'
 ·exact H.call 0 rfl (iy s (H.nth 0 rfl)) λ w' H'=>hq _ w' (.inr ⟨_,_,hR,rfl⟩) H'
theorem tw [Inhabited G3o]{s:ByteArray}{P:List Tok->Prop} (H:St W A0.own w (Z::L)) (hZ:ZS R n R0 P Z)
  (hy:∀ l w',is s l=true->P l->St W A0.own w' (rlA R l.tail n::L)->Q (.returned (.bool true)) w')
  (hno:∀ Z' w',ZS R n R0 (λ l=>is s l=false/\P l) Z'->St W A0.own w' (Z'::L)->Q (.returned (.bool false)) w'):Calls prog 60 #[pt R.b,.string s] w Q:=by
 rcases hZ with ⟨l,hR,rfl⟩ | ⟨line,en,hR,rfl⟩
 ·refine H.call 0 rfl (qz s (H.nth 0 rfl)) λ w' H'=>?_
  cases hi:is s l with
  | true =>
   rw[hi] at H';exact hy l w' hi hR H'
  | false =>
   rw[hi] at H';exact hno _ w' (.inl ⟨l,⟨hi,hR⟩,rfl⟩) H'
 ·exact H.call 0 rfl (rb s (H.nth 0 rfl)) λ w' H'=>hno _ w' (.inr ⟨_,_,hR,rfl⟩) H'
theorem Fx [Inhabited G3o]{P:List Tok->Prop}{P':ByteArray->List Tok->Prop} (H:St W A0.own w (Z::L)) (hZ:ZS R n R0 P Z) (hP:∀ l,P l->∃ kk:Tok->List Tok->Lang.R α,R0=name l kk/\((now l).k=1->R0=kk (now l) l.tail->P' (now l).s l.tail))
  (hq:∀ s Z' w',ZS R n R0 (P' s) Z'->St W A0.own w' (Z'::L)->Q (.returned (.string s)) w'):Calls prog 61 #[pt R.b] w Q:=by
 rcases hZ with ⟨l,hp,rfl⟩ | ⟨line,en,hR,rfl⟩
 ·obtain⟨kk,hR,hP⟩:=hP l hp;rcases wm l with ⟨a1,a2,a3⟩ | ⟨e1,a1,a2⟩
  ·rw[a3] at hR;exact H.call 0 rfl (wl a1 a2 (H.nth 0 rfl)) λ w' H'=>hq _ _ w' (.inl ⟨l.tail,hP a1 hR,rfl⟩) H'
  ·rw[a2] at hR;exact H.call 0 rfl (Ar (a2 _) (H.nth 0 rfl)) λ w' H'=>hq _ _ w' (.inr ⟨_,_,hR,rfl⟩) H'
 ·exact H.call 0 rfl (acz (H.nth 0 rfl)) λ w' H'=>hq _ _ w' (.inr ⟨_,_,hR,rfl⟩) H'
theorem pj [Inhabited G3o]{F:FuncId}{q:Req}{f:Nat}{P:List Tok->Prop}{P':List Value->Asn->List Tok->Prop} (I:JE F q f) (hd:∀ {W:World}{R:Rx}{line en:Int},(rdA R line en).at_ W->Calls prog F #[pt R.b] W λ e w'=>∃ us,e= .returned (.agg us.toArray)/\ones us/\Post (rdA R line en) W (rdA R line en) w')
  (hn:n≤24) (hr:R0≠ .out) (H:St W A0.own w (Z::L)) (hZ:ZS R n R0 P Z) (hP:∀ l,P l->∃ kk:T->List Tok->Lang.R α,R0=(run f q n l).bind kk/\∀ x us B l',isF (toF x .nil) us B->R0=kk x l'->P' us B l')
  (hq:∀ us B Z' w',ones us->ZS R n R0 (P' us B) Z'->St W A0.own w' (Z'::B::L)->Q (.returned (.agg us.toArray)) w'):Calls prog F #[pt R.b] w Q:=by
 rcases hZ with ⟨l,hp,rfl⟩ | ⟨line,en,hR,rfl⟩
 ·obtain⟨kk,hR,hP⟩:=hP l hp;refine(I (H.nth 0 rfl) hn (λ e=>hr (by rw[hR,e];rfl))).mono ?_;intro e w' he
  cases hb:run f q n l with
  | out=>rw[hb] at hR;exact absurd hR hr
  | err line en =>
   rw[hb] at he hR;obtain⟨us,rfl,ho,hp⟩:=he;have H':=(H.upd 0 rfl hp).add (A:=emp) ⟨trivial,XTouch.refl _ _,λ q hq=>hq.elim⟩;exact hq us emp _ w' ho (.inr ⟨_,_,hR,rfl⟩) (H'.perm (List.Perm.cons _ (List.perm_append_singleton _ _)))
  | ok x l =>
   rw[hb] at he hR;obtain⟨us,B,rfl,ho,hF,hp⟩:=he;exact hq us B _ w' ho (.inl ⟨l,hP _ _ _ _ hF hR,rfl⟩) (St.open_ (L:=[_,_]) (H.upd 0 rfl hp))
 ·refine(hd (H.nth 0 rfl)).mono ?_;rintro e w' ⟨us,rfl,ho,hp⟩;have H':=(H.upd 0 rfl hp).add (A:=emp) ⟨trivial,XTouch.refl _ _,λ q hq=>hq.elim⟩;exact hq us emp _ w' ho (.inr ⟨_,_,hR,rfl⟩) (H'.perm (List.Perm.cons _ (List.perm_append_singleton _ _)))
theorem vi [Inhabited G3o]{f:Nat}{kd:ByteArray}{ln:Int}{P:List Tok->Prop}{P':List Value->Asn->List Tok->Prop} (I:JE 119 .expr f) (hn:n≤24) (hr:R0≠ .out) (H:St W A0.own w (Z::L)) (hZ:ZS R n R0 P Z)
  (hP:∀ l,P l->∃ kk:T->List Tok->Lang.R α,R0=((run f .expr n l).bind λ x l=>want cu l λ l=>kk x l)/\∀ x us B l',isF (toF x .nil) us B->R0=kk x l'->P' us B l')
  (hq:∀ q us B Z' w',ones us->ZS R n R0 (P' us B) Z'->St W A0.own w' (Z'::blk q us.toArray 52::B::L)->Q (.returned (.agg (ae kd ⟨#[]⟩ ln 0 (.slice (some ⟨q,0,none⟩) 1 1) (.slice none 0 0)).toArray)) w'):Calls prog 118 #[pt R.b,.string kd,.int .i64 ln] w Q:=by
 refine aiw R.b 0 kd ln ?_;refine H.al λ k w2 H2=>?_;have H2:St W A0.own w2 (Z::blk k nodeZ.toArray 52::L):=H2.perm (List.Perm.cons _ (List.perm_append_singleton _ _));refine pj (P':=λ us B l=>∃ (kk:T->List Tok->Lang.R α) (x:T),(∀ x us B l',isF (toF x .nil) us B->R0=kk x l'->P' us B l')/\isF (toF x .nil) us B/\R0=want cu l λ l=>kk x l) I rz hn hr H2 hZ (λ l hp=>?_) ?_
 ·obtain⟨kk,hR,h⟩:=hP l hp;exact⟨_,hR,λ x us B l' hF hR=>⟨kk,x,h,hF,hR⟩⟩
 intro us B Z2 w3 ho hZ2 H3;refine⟨_,rfl,?_⟩;refine H3.al λ k2 w4 H4=>?_;have H4:St W A0.own w4 (Z2::blk k2 nodeZ.toArray 52::B::blk k nodeZ.toArray 52::L):=H4.perm (List.Perm.cons _ (List.perm_append_singleton _ _));refine H4.sts0 1 (n:=6) (vs:=us.toArray) rfl (by simpa using ho.1) rfl (by simpa using ho.2) λ w5 H5=>?_;refine js (P':=P' us B) H5 hZ2 (λ l hp=>?_) ?_
 ·obtain⟨kk,x,h,hF,hR⟩:=hp;exact⟨_,hR,λ _ hR=>h x us B _ hF hR⟩
 intro Z3 w6 hZ3 H6;refine⟨rfl,ac H6 (k:=1) rfl ho.1 ⟨by simpa using ho.1,?_⟩⟩;refine H6.al λ k4 w7 H7=>?_;rintro vs rfl
 have H7:St W A0.own w7 (Z3::blk k4 us.toArray 52::blk k2 us.toArray 52::B::blk k nodeZ.toArray 52::L):=by
  simp only[List.append_nil] at H7;exact H7.perm (List.Perm.cons _ (List.perm_append_singleton _ _))
 refine ah H7 (k:=4) (us:=ae kd ⟨#[]⟩ ln 0 (.slice (some ⟨k4,0,none⟩) 1 1) (.slice none 0 0)) rfl rfl rfl af λ w8 H8=>?_;refine hq k4 us B Z3 w8 ho hZ3 ?_
 exact St.sub (L':=[blk k2 us.toArray 52,blk k (ae kd ⟨#[]⟩ ln 0 (.slice (some ⟨k4,0,none⟩) 1 1) (.slice none 0 0)).toArray 52]) (H8.perm (by
  refine List.Perm.cons _ (List.Perm.cons _ ?_);refine(List.Perm.swap ..).trans (List.Perm.cons _ ?_)
  refine(List.perm_append_comm (l₁:=[_,_]) (l₂:=L))))
theorem adb [Inhabited G3o]{f:Nat}{kk:T->List Tok->Lang.R α} (I:JA f) (hn:n≤24) (hr:R0≠ .out) (H:St W A0.own w (rlA R l n::L)) (hR:R0=(run f .args n l).bind kk)
  (hq:∀ p m c us S B Z' w',ZS R n R0 (λ l'=>∃ xs,isF (toF xs .nil) us B/\m=(toF xs .nil).len/\S=sl 52 6 (.slice p m c) m us/\R0=kk xs l') Z'->St W A0.own w' (Z'::S::B::L)->Q (.returned (.slice p m c)) w'):Calls prog 135 #[pt R.b] w Q:=by
 refine(I (H.nth 0 rfl) hn (λ e=>hr (by rw[hR,e];rfl))).mono ?_;intro e w' he
 cases hb:run f .args n l with
 | out=>rw[hb] at hR;exact absurd hR hr
 | err line en =>
  rw[hb] at he hR;obtain⟨p,m,c,rfl,hp⟩:=he;have H':=((H.upd 0 rfl hp).add (A:=emp) ⟨trivial,XTouch.refl _ _,λ q hq=>hq.elim⟩).add (A:=emp) ⟨trivial,XTouch.refl _ _,λ q hq=>hq.elim⟩;refine hq p m c [] emp emp _ w' (.inr ⟨_,_,hR,rfl⟩) (H'.perm ?_);simp only[List.append_assoc];exact List.Perm.cons _ (List.perm_append_comm (l₁:=L))
 | ok x l =>
  rw[hb] at he hR;obtain⟨p,c,us,B,rfl,hF,hp⟩:=he;exact hq p _ c us _ B _ w' (.inl ⟨l,⟨x,hF,rfl,rfl,hR⟩,rfl⟩) (St.open_ (L:=[_,_,_]) (H.upd 0 rfl hp))
end
theorem Pp [Inhabited G3o]{kd nm:ByteArray}{ln v:Int}{q:Nat}{us:List Value}{t:TypeId} (ho:ones us) (h:(blk q us.toArray t).at_ W):Calls prog 136 #[.agg (ae kd nm ln v (.slice (some ⟨q,0,none⟩) 1 1) (.slice none 0 0)).toArray] W λ e w'=>e= .returned (.agg us.toArray)/\im W w':=by
 refine aiz _ ?_;refine(St.nil W).al λ k w2 H2=>?_;refine H2.al λ k2 w3 H3=>?_;have hh:=fc h H3.touch;refine⟨_,_,_,H3.ld 0 rfl (i:=4) rfl,Sx.so (λ h=>by cases h) (λ _=>?_)⟩;refine⟨_,_,_,H3.ld 0 rfl (i:=4) rfl,⟨by omega,by omega⟩,adr_some ⟨us.toArray,by simpa using ho.1,?_,?_⟩⟩
 ·exact(St.begin hh).cells 0 rfl
 ·exact ah H3 (k:=1) rfl rfl ho.1 ho.2 λ w8 H8=>⟨rfl,H8.touch⟩
end Go.Proofs.YtojogkljneonmaaGreatDoor
