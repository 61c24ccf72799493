/- The reference's parser: how its state is read and written; nodes are made; levels, numbers. No condition. -/
import Derived.Test.YtojogkljneonmaaGreatDoorLangRh
import Derived.Test.YtojogkljneonmaaGreatDoorLangX
set_option linter.unusedVariables false
set_option linter.unusedSimpArgs false
namespace Go.Proofs.YtojogkljneonmaaGreatDoor
open Go Go.Proofs.Tryz Go.Proofs Go.Sep Go.XHeap Go.RowKit Go.Lang
variable {W w0 w:World}{M:Nat->Prop}{L:List Asn}{R:Rx}{l:List Tok}{n:Nat}{line en:Int}
theorem ta [Inhabited G3o]{φ:Int->Prop} (H:St w0 M w (rlA R l n::L)) (hq:φ 0):∃ z:Int,w.cell? ⟨R.b,0+3,none⟩=some (.int .i64 z)/\φ z:=by
 obtain⟨h0,a,h1,H⟩:=du H;exact⟨0,(St.open_ H).ld 0 rfl (i:=3) rfl,hq⟩
theorem Au [Inhabited G3o]{φ:Int->Prop} (H:St w0 M w (rdA R line en::L)) (hq:en≠0->φ en):∃ z:Int,w.cell? ⟨R.b,0+3,none⟩=some (.int .i64 z)/\φ z:=by
 obtain⟨h0,a,z,t,h1,H⟩:=pc H;exact⟨en,(St.open_ H).ld 0 rfl (i:=3) rfl,hq h0.1⟩
theorem Iv [Inhabited G3o]{φ:Array Value->Prop} (H:St w0 M w (rlA R l n::L)) (hq:φ (tkR (now l)).toArray):∃ (p2:Option Addr) (k k2:Nat),w.cell? ⟨R.b,0,none⟩=some (.slice p2 k k2)/\∃ z:Int,w.cell? ⟨R.b,0+1,none⟩=some (.int .i64 z)/\((0:Int)≤z/\z<(k:Int))/\Sx.adr p2 λ k3 k4=>∃ vs:Array Value,vs.size=3/\Sx.cellsAt w ⟨k3,k4+z.toNat * 3,none⟩ vs/\φ vs:=by
 obtain⟨h0,a,h1,H⟩:=du H;have H:=St.open_ H;have ht:=cg h1 h0.2.1;have hat:=(List.getElem?_eq_some_iff.1 ht).1;exact⟨_,_,_,H.ld 0 rfl (i:=0) rfl,_,H.ld 0 rfl (i:=1) rfl,⟨by omega,by omega⟩,adr_some ⟨(tkR (now l)).toArray,rfl,tq (H.nth 1 rfl) ht,hq⟩⟩
theorem Lm [Inhabited G3o]{φ:Int->Prop} (H:St w0 M w (rlA R l n::L)) (hq:φ (now l).line):∃ (p2:Option Addr) (k k2:Nat),w.cell? ⟨R.b,0,none⟩=some (.slice p2 k k2)/\∃ z:Int,w.cell? ⟨R.b,0+1,none⟩=some (.int .i64 z)/\((0:Int)≤z/\z<(k:Int))/\Sx.adr p2 λ k3 k4=>∃ x:Int,w.cell? ⟨k3,k4+z.toNat * 3+2,none⟩=some (.int .i64 x)/\φ x:=by
 obtain⟨h0,a,h1,H⟩:=du H;have H:=St.open_ H;have ht:=cg h1 h0.2.1;have hat:=(List.getElem?_eq_some_iff.1 ht).1;refine⟨_,_,_,H.ld 0 rfl (i:=0) rfl,_,H.ld 0 rfl (i:=1) rfl,⟨by omega,by omega⟩,adr_some ⟨(now l).line,?_,hq⟩⟩;exact tq (H.nth 1 rfl) ht 2 (.int .i64 (now l).line) rfl
theorem ada [Inhabited G3o]{φ:Int->Prop} (H:St w0 M w (rdA R line en::L)) (hq:∀ x,φ x):∃ (p2:Option Addr) (k k2:Nat),w.cell? ⟨R.b,0,none⟩=some (.slice p2 k k2)/\∃ z:Int,w.cell? ⟨R.b,0+1,none⟩=some (.int .i64 z)/\((0:Int)≤z/\z<(k:Int))/\Sx.adr p2 λ k3 k4=>∃ x:Int,w.cell? ⟨k3,k4+z.toNat * 3+2,none⟩=some (.int .i64 x)/\φ x:=by
 obtain⟨h0,a,z,t,ht,H⟩:=pc H;have H:=St.open_ H;have hat:=(List.getElem?_eq_some_iff.1 ht).1;refine⟨_,_,_,H.ld 0 rfl (i:=0) rfl,_,H.ld 0 rfl (i:=1) rfl,⟨by omega,by omega⟩,adr_some ⟨t.line,?_,hq _⟩⟩;exact tq (H.nth 1 rfl) ht 2 (.int .i64 t.line) rfl
theorem tb [Inhabited G3o]{φ:World->Prop} (hk:(now l).k≠0) (H:St w0 M w (rlA R l n::L)) (hq:∀ w',St w0 M w' (rlA R l.tail n::L)->φ w'):∃ z:Int,w.cell? ⟨R.b,0+1,none⟩=some (.int .i64 z)/\∀ z2,z2=IntKind.wrap .i64 (z+1)->(∃ v,w.cell? ⟨R.b,0+1,none⟩=some v)/\w.frozen? ⟨R.b,0+1,none⟩=false/\∀ w',w'=w.setCell ⟨R.b,0+1,none⟩ (.int .i64 z2)->φ w':=by
 obtain⟨h0,a,h1,H⟩:=du H;have H:=St.open_ H;have ht:=cg h1 h0.2.1;have hat:=(List.getElem?_eq_some_iff.1 ht).1;have:=h0.1.2.2.2;refine⟨_,H.ld 0 rfl (i:=1) rfl,?_⟩;rintro z2 rfl;rw[qd (by omega)];refine H.st 0 rfl (i:=1) (by simp) λ w4 H4=>hq w4 ?_;exact pb ⟨h0.1,qy h0.2.1 hk,h0.2.2⟩ (qx h1) (St.shut (L:=rpL R (a+1) 0 0 n) H4)
theorem Iw [Inhabited G3o]{φ:World->Prop} (H:St w0 M w (rlA R l (n+1)::L)) (hq:∀ w',St w0 M w' (rlA R l n::L)->φ w'):∃ z:Int,w.cell? ⟨R.b,0+4,none⟩=some (.int .i64 z)/\∀ z2,z2=IntKind.wrap .i64 (z - 1)->(∃ v,w.cell? ⟨R.b,0+4,none⟩=some v)/\w.frozen? ⟨R.b,0+4,none⟩=false/\∀ w',w'=w.setCell ⟨R.b,0+4,none⟩ (.int .i64 z2)->φ w':=by
 obtain⟨h0,a,h1,H⟩:=du H;have H:=St.open_ H;refine⟨_,H.ld 0 rfl (i:=4) rfl,?_⟩;rintro z2 rfl;rw[show IntKind.wrap .i64 (((n+1:Nat):Int) - 1)=(n:Int) by rw[show((n+1:Nat):Int) - 1=(n:Int) by omega];exact Go.Bits.n64 (by omega)];refine H.st 0 rfl (i:=4) (by simp) λ w4 H4=>hq w4 ?_;exact pb ⟨h0.1,h0.2.1,by omega⟩ h1 (St.shut (L:=rpL R a 0 0 n) H4)
theorem Dj [Inhabited G3o]{φ:World->Prop} (H:St w0 M w (rdA R line en::L)) (hq:∀ w',St w0 M w' (rdA R line en::L)->φ w'):∃ z:Int,w.cell? ⟨R.b,0+4,none⟩=some (.int .i64 z)/\∀ z2,z2=IntKind.wrap .i64 (z - 1)->(∃ v,w.cell? ⟨R.b,0+4,none⟩=some v)/\w.frozen? ⟨R.b,0+4,none⟩=false/\∀ w',w'=w.setCell ⟨R.b,0+4,none⟩ (.int .i64 z2)->φ w':=by
 obtain⟨h0,a,z,t,h1,H⟩:=pc H;have H:=St.open_ H;refine⟨_,H.ld 0 rfl (i:=4) rfl,?_⟩;rintro z2 rfl;refine H.st 0 rfl (i:=4) (by simp) λ w4 H4=>hq w4 ?_;exact jr h0 h1 (St.shut (L:=rpL R a line en (IntKind.wrap .i64 (z - 1))) H4)
theorem ah {k b:Nat}{cs:Array Value}{t:TypeId}{us:List Value}{φ:Array Value->World->Prop} (H:St w0 M w L) (hk:L[k]?=some (blk b cs t)) (hc:cs.size=6) (hu:us.length=6) (h1:∀ v ∈ us,v.oneCell'=true) (hq:∀ w',St w0 M w' (L.set k (blk b us.toArray t))->φ us.toArray w') :
  us.toArray.size=6/\(∀ j:Nat,j<6->(∃ v,w.cell? ⟨b,0+j,none⟩=some v)/\w.frozen? ⟨b,0+j,none⟩=false)/\(∀ v:Value,v ∈ us.toArray.toList->v.oneCell'=true)/\∀ w':World,w'=w.setCells b 0 us.toArray.toList->∃ vs:Array Value,vs.size=6/\Sx.cellsAt w' ⟨b,0,none⟩ vs/\φ vs w':=by
 refine H.sts0 k hk (n:=6) (vs:=us.toArray) (by simpa using hu) hc (by simpa using h1) λ w' H'=>?_;have hlt:k<L.length:=(List.getElem?_eq_some_iff.1 hk).1;exact⟨us.toArray,by simpa using hu,H'.cells k (List.getElem?_set_self hlt),hq w' H'⟩
theorem ac {k b:Nat}{us:List Value}{t:TypeId}{φ:Array Value->Prop} (H:St w0 M w L) (hk:L[k]?=some (blk b us.toArray t)) (hu:us.length=6) (hq:φ us.toArray):∃ vs:Array Value,vs.size=6/\Sx.cellsAt w ⟨b,0,none⟩ vs/\φ vs :=
 ⟨us.toArray,by simpa using hu,H.cells k hk,hq⟩
theorem Nm {b m size:Nat}{us:List Value}{t:TypeId} (hu:us.length=m * size) (hm:m≤maxLen) (h:Blk w b us.toArray t):Sl w t size (.slice (some ⟨b,0,none⟩) m m) m us :=
 ⟨hu,.inr ⟨b,0,m,us.toArray,rfl,h,Nat.le_refl _,hm,by simp [hu],by simp [<- hu]⟩⟩
theorem Pk {f:Fo}{us:List Value}{B:Asn}{q:Option Addr}{c:Nat} (kd nm:ByteArray) (ln v:Int) (hF:isF f us B) (H:St w0 M w (sl 52 6 (.slice q f.len c) f.len us::B::L)) :
  ∃ B',isF (.cons kd nm ln v f [] .nil) (ae kd nm ln v (.slice q f.len c) (.slice none 0 0)) B'/\St w0 M w (B'::L):=by
 have H2:=(H.add (A:=sl 9 1 (.slice none 0 0) 0 []) ⟨Sl.nil _ _ _,XTouch.refl _ _,λ q hq=>by cases hq⟩)
 have H3:St w0 M w ([sl 52 6 (.slice q f.len c) f.len us,B,sl 9 1 (.slice none 0 0) 0 []]++L):=H2.perm (by
  simp only[List.cons_append,List.nil_append]
  exact List.Perm.cons _ (List.Perm.cons _ (List.perm_append_singleton _ _)))
 exact⟨all [all [sl 52 6 (.slice q f.len c) f.len us,B,sl 9 1 (.slice none 0 0) 0 []]],⟨q,c,us,B,none,0,[],[],hF,⟨rfl,rfl⟩,by rw[List.append_nil];rfl,rfl⟩,St.shut (L:=[_]) (St.shut H3)⟩
theorem Av [Inhabited G3o]{f:Fo}{us:List Value}{B:Asn}{b m:Nat} (kd nm:ByteArray) (ln v:Int) (hF:isF f us B) (hm:f.len=m) (hm2:m≤3) (H:St w0 M w (blk b us.toArray 52::B::L)) :
  ∃ B',isF (.cons kd nm ln v f [] .nil) (ae kd nm ln v (.slice (some ⟨b,0,none⟩) m m) (.slice none 0 0)) B'/\St w0 M w (B'::L):=by
 subst hm;refine Pk kd nm ln v hF (H.conv 0 rfl (A':=sl 52 6 (.slice (some ⟨b,0,none⟩) f.len f.len) f.len us) (λ h=>Nm (Fv hF) (by show _≤maxLen;unfold maxLen;omega) h) ?_);intro q hq;have:some b=some q:=hq;cases this;rfl
theorem Fw [Inhabited G3o] (kd nm:ByteArray) (ln v:Int) (H:St w0 M w L):∃ B',isF (.cons kd nm ln v .nil [] .nil) (ae kd nm ln v (.slice none 0 0) (.slice none 0 0)) B'/\St w0 M w (B'::L):=by
 have H2:St w0 M w (sl 52 6 (.slice none 0 0) 0 []::all []::L):=by
  have h1:=(H.add (A:=sl 52 6 (.slice none 0 0) 0 []) ⟨Sl.nil _ _ _,XTouch.refl _ _,λ q hq=>by cases hq⟩).add (A:=all []) ⟨trivial,XTouch.refl _ _,λ q hq=>hq.elim⟩;refine h1.perm ?_;rw[List.append_assoc];exact(List.perm_append_comm (l₁:=L)).trans (by exact List.Perm.refl _)
 exact Pk (f:=.nil) kd nm ln v ⟨rfl,rfl⟩ H2
theorem ph [Inhabited G3o]{a b:Fo}{us vs:List Value}{A B:Asn} (h1:isF a us A) (h2:isF b vs B) (H:St w0 M w (A::B::L)):∃ C,isF (a.app b) (us++vs) C/\St w0 M w (C::L):=by
 obtain⟨As,rfl⟩:=Ui h1;obtain⟨Bs,rfl⟩:=Ui h2;obtain⟨Cs,h3,h4⟩:=Uj h1 h2;exact⟨_,h3,h4 _ _ _ _ H⟩
def ones (us:List Value):Prop:=us.length=6/\∀ v ∈ us,v.oneCell'=true
theorem xj [Inhabited G3o]:ones nodeZ:=⟨rfl,cz⟩
theorem az [Inhabited G3o]{k s:ByteArray}{line val:Int}{q q2:Option Addr}{m c m2 c2:Nat}:ones (ae k s line val (.slice q m c) (.slice q2 m2 c2)):=⟨rfl,af⟩
def RK [Inhabited G3o] (R:Rx) (n:Nat) (W:World) (A:Asn) (r:Lang.R T) (e:Ending) (w':World):Prop:=match r with
 | .ok x l'=>∃ us B,e= .returned (.agg us.toArray)/\ones us/\isF (toF x .nil) us B/\Post A W (all [rlA R l' n,B]) w'
 | .err line en=>∃ us,e= .returned (.agg us.toArray)/\ones us/\Post A W (rdA R line en) w'
 | .out=>True
theorem kg [Inhabited G3o]{A:Asn}{R0:Lang.R T}{x:T}{us:List Value}{B:Asn} (hR:R0= .ok x l) (ho:ones us) (hF:isF (toF x .nil) us B) (H:St W A.own w (rlA R l n::B::L)):RK R n W A R0 (.returned (.agg us.toArray)) w:=by
 subst hR;exact⟨us,B,rfl,ho,hF,St.post (St.shut (L:=[_,_]) (L':=L) H) 0 rfl⟩
theorem cq [Inhabited G3o]{A:Asn}{R0:Lang.R T}{us:List Value} (hR:R0= .err line en) (ho:ones us) (H:St W A.own w (rdA R line en::L)):RK R n W A R0 (.returned (.agg us.toArray)) w:=by
 subst hR;exact⟨us,rfl,ho,H.post 0 rfl⟩
theorem Bz [Inhabited G3o]{P:Program}{fn:FuncId}{args:Array Value}{A A0:Asn}{m:Nat}{r R0:Lang.R T}{kk:T->List Tok->Lang.R T}{Q:Ending->World->Prop} (H:St W A0.own w (A::L)) (hrun:R0=r.bind kk) (hr:R0≠ .out) (hc:r≠ .out->Calls P fn args w (RK R m w A r))
  (hok:∀ x l' us B w',R0=kk x l'->ones us->isF (toF x .nil) us B->St W A0.own w' (rlA R l' m::B::L)->Q (.returned (.agg us.toArray)) w')
  (herr:∀ line en us w',R0= .err line en->ones us->St W A0.own w' (rdA R line en::L)->Q (.returned (.agg us.toArray)) w'):Calls P fn args w Q:=by
 refine(hc (λ e=>hr (by rw[hrun,e];rfl))).mono ?_;intro e w' he
 cases hb:r with
 | out=>rw[hb] at hrun;exact absurd hrun hr
 | err line en =>
  rw[hb] at he hrun;obtain⟨us,rfl,ho,hp⟩:=he;exact herr line en us w' hrun ho (H.upd 0 rfl hp)
 | ok x l =>
  rw[hb] at he hrun;obtain⟨us,B,rfl,ho,hF,hp⟩:=he;exact hok x l us B w' hrun ho hF (St.open_ (L:=[_,_]) (H.upd 0 rfl hp))
end Go.Proofs.YtojogkljneonmaaGreatDoor
namespace Go.Lang
def bw:Nat->List ByteArray
 | 0=>[ofL [124,124]]
 | 1=>[ofL [38,38]]
 | 2=>[ofL [124]]
 | 3=>[ofL [94]]
 | 4=>[ofL [38]]
 | 5=>[ofL [61,61],ofL [33,61]]
 | 6=>[ofL [60],ofL [60,61],ofL [62],ofL [62,61]]
 | 7=>[ofL [60,60],ofL [62,62]]
 | 8=>[ofL [43],ofL [45]]
 | 9=>[ofL [42],ofL [47],ofL [37]]
 | _=>[]
theorem Pl {s:ByteArray}:∀ j,ai s=j->j≠0->s ∈ bw (j - 1):=by
 intro j hj h0;unfold ai at hj;by_cases h1:s=ofL [124,124]
 ·rw[if_pos h1] at hj;subst hj;exact List.mem_cons.2 (.inl h1)
 rw[if_neg h1] at hj;by_cases h2:s=ofL [38,38]
 ·rw[if_pos h2] at hj;subst hj;exact List.mem_cons.2 (.inl h2)
 rw[if_neg h2] at hj;by_cases h3:s=ofL [124]
 ·rw[if_pos h3] at hj;subst hj;exact List.mem_cons.2 (.inl h3)
 rw[if_neg h3] at hj;by_cases h4:s=ofL [94]
 ·rw[if_pos h4] at hj;subst hj;exact List.mem_cons.2 (.inl h4)
 rw[if_neg h4] at hj;by_cases h5:s=ofL [38]
 ·rw[if_pos h5] at hj;subst hj;exact List.mem_cons.2 (.inl h5)
 rw[if_neg h5] at hj;by_cases h6:s=ofL [61,61]∨s=ofL [33,61]
 ·rw[if_pos h6] at hj;subst hj;rcases h6 with h | h
  ·exact List.mem_cons.2 (.inl h)
  ·exact List.mem_cons.2 (.inr (List.mem_cons.2 (.inl h)))
 rw[if_neg h6] at hj;by_cases h7:s=ofL [60]∨s=ofL [60,61]∨s=ofL [62]∨s=ofL [62,61]
 ·rw[if_pos h7] at hj;subst hj;rcases h7 with h | h | h | h
  ·exact List.mem_cons.2 (.inl h)
  ·exact List.mem_cons.2 (.inr (List.mem_cons.2 (.inl h)))
  ·exact List.mem_cons.2 (.inr (List.mem_cons.2 (.inr (List.mem_cons.2 (.inl h)))))
  ·exact List.mem_cons.2 (.inr (List.mem_cons.2 (.inr (List.mem_cons.2 (.inr (List.mem_cons.2 (.inl h)))))))
 rw[if_neg h7] at hj;by_cases h8:s=ofL [60,60]∨s=ofL [62,62]
 ·rw[if_pos h8] at hj;subst hj;rcases h8 with h | h
  ·exact List.mem_cons.2 (.inl h)
  ·exact List.mem_cons.2 (.inr (List.mem_cons.2 (.inl h)))
 rw[if_neg h8] at hj;by_cases h9:s=ofL [43]∨s=ofL [45]
 ·rw[if_pos h9] at hj;subst hj;rcases h9 with h | h
  ·exact List.mem_cons.2 (.inl h)
  ·exact List.mem_cons.2 (.inr (List.mem_cons.2 (.inl h)))
 rw[if_neg h9] at hj;by_cases h10:s=ofL [42]∨s=ofL [47]∨s=ofL [37]
 ·rw[if_pos h10] at hj;subst hj;rcases h10 with h | h | h
  ·exact List.mem_cons.2 (.inl h)
  ·exact List.mem_cons.2 (.inr (List.mem_cons.2 (.inl h)))
  ·exact List.mem_cons.2 (.inr (List.mem_cons.2 (.inr (List.mem_cons.2 (.inl h)))))
 rw[if_neg h10] at hj;exact absurd hj.symm h0
theorem mem_ops {k:Nat}{s:ByteArray}:s ∈ bw k↔ai s=k+1/\k<10:=by
 constructor
 ·intro h
  match k,h with
  | 0,h=>simp only[bw,List.mem_cons,List.not_mem_nil,or_false] at h;subst h;decide
  | 1,h=>simp only[bw,List.mem_cons,List.not_mem_nil,or_false] at h;subst h;decide
  | 2,h=>simp only[bw,List.mem_cons,List.not_mem_nil,or_false] at h;subst h;decide
  | 3,h=>simp only[bw,List.mem_cons,List.not_mem_nil,or_false] at h;subst h;decide
  | 4,h=>simp only[bw,List.mem_cons,List.not_mem_nil,or_false] at h;subst h;decide
  | 5,h=>simp only[bw,List.mem_cons,List.not_mem_nil,or_false] at h;rcases h with rfl | rfl <;> decide
  | 6,h=>simp only[bw,List.mem_cons,List.not_mem_nil,or_false] at h;rcases h with rfl | rfl | rfl | rfl <;> decide
  | 7,h=>simp only[bw,List.mem_cons,List.not_mem_nil,or_false] at h;rcases h with rfl | rfl <;> decide
  | 8,h=>simp only[bw,List.mem_cons,List.not_mem_nil,or_false] at h;rcases h with rfl | rfl <;> decide
  | 9,h=>simp only[bw,List.mem_cons,List.not_mem_nil,or_false] at h;rcases h with rfl | rfl | rfl <;> decide
  | k+10,h=>cases h
 ·rintro⟨h,hk⟩;exact Pl (k+1) h (by omega)
end Go.Lang
namespace Go.Proofs.YtojogkljneonmaaGreatDoor
open Go Go.Proofs.Tryz Go.Proofs Go.Sep Go.XHeap Go.RowKit Go.Lang
variable {W w0 w:World}{M:Nat->Prop}{L:List Asn}{R:Rx}{l:List Tok}{n:Nat}{line en:Int}
def nx (l:List ByteArray):List Value:=l.map .string
theorem mt [Inhabited G3o]{k:Nat}{b:Nat}{ops:List ByteArray}{i:Nat} (H:St W emp.own w L) (hi:L[i]?=some (blk b (nx ops).toArray 9)) (hl:ops.length≤4) (hk:k<10) (ho:bw k=ops) :
  (k<10/\∃ b2:Nat,(Ending.returned (.slice (some ⟨b,0,none⟩) ops.length ops.length):Ending)= .returned (.slice (some ⟨b2,0,none⟩) (bw k).length (bw k).length)/\Post emp W (sl 9 1 (.slice (some ⟨b2,0,none⟩) (bw k).length (bw k).length) (bw k).length (nx (bw k))) w)∨(k=10/\(Ending.returned (.slice (some ⟨b,0,none⟩) ops.length ops.length):Ending)= .returned (.slice none 0 0)/\im W w):=by
 subst ho;refine .inl ⟨hk,_,rfl,?_⟩
 have H2:=H.conv i hi (A':=sl 9 1 (.slice (some ⟨b,0,none⟩) (bw k).length (bw k).length) (bw k).length (nx (bw k))) (λ h=>Nm (by simp [nx]) (by show _≤maxLen;unfold maxLen;omega) h) (λ q hq=>by
  have:some b=some q:=hq
  cases this;rfl)
 exact H2.post i (uk _ hi)
theorem Ln [Inhabited G3o]{k:Nat} (hk:k≤10):Calls prog 146 #[.int .i64 (k:Nat)] W λ e w'=>(k<10/\∃ b:Nat,e= .returned (.slice (some ⟨b,0,none⟩) (bw k).length (bw k).length)/\Post emp W (sl 9 1 (.slice (some ⟨b,0,none⟩) (bw k).length (bw k).length) (bw k).length (nx (bw k))) w')∨(k=10/\e= .returned (.slice none 0 0)/\im W w'):=by
 refine air (k:Nat) ?_;refine(St.nil W).al λ k2 w2 H=>?_;refine H.al λ k3 w3 H=>?_;refine H.al λ k4 w4 H=>?_;refine H.al λ k5 w5 H=>?_;refine H.al λ k6 w6 H=>?_;refine H.al λ k7 w7 H=>?_;refine H.al λ k8 w8 H=>?_;refine H.al λ k9 w9 H=>?_;refine H.al λ k10 w10 H=>?_;refine H.al λ k11 w11 H=>?_;refine H.al λ k12 w12 H=>?_;refine Sx.so (λ h=>?_) (λ h=>?_)
 ·have h:k=10:=by have:=dt h;omega
  exact .inr ⟨h,rfl,H.touch⟩
 ·have h:k<10:=by have:=df h;omega
  refine⟨⟨by omega,by omega⟩,?_⟩
  match k,h with
  | 0,h=>exact⟨_,_,_,H.ld 10 rfl (i:=0) rfl,mt (i:=0) (ops:=[ofL [124,124]]) H rfl (by decide) h rfl⟩
  | 1,h=>exact⟨_,_,_,H.ld 10 rfl (i:=1) rfl,mt (i:=1) (ops:=[ofL [38,38]]) H rfl (by decide) h rfl⟩
  | 2,h=>exact⟨_,_,_,H.ld 10 rfl (i:=2) rfl,mt (i:=2) (ops:=[ofL [124]]) H rfl (by decide) h rfl⟩
  | 3,h=>exact⟨_,_,_,H.ld 10 rfl (i:=3) rfl,mt (i:=3) (ops:=[ofL [94]]) H rfl (by decide) h rfl⟩
  | 4,h=>exact⟨_,_,_,H.ld 10 rfl (i:=4) rfl,mt (i:=4) (ops:=[ofL [38]]) H rfl (by decide) h rfl⟩
  | 5,h=>exact⟨_,_,_,H.ld 10 rfl (i:=5) rfl,mt (i:=5) (ops:=[ofL [61,61],ofL [33,61]]) H rfl (by decide) h rfl⟩
  | 6,h=>exact⟨_,_,_,H.ld 10 rfl (i:=6) rfl,mt (i:=6) (ops:=[ofL [60],ofL [60,61],ofL [62],ofL [62,61]]) H rfl (by decide) h rfl⟩
  | 7,h=>exact⟨_,_,_,H.ld 10 rfl (i:=7) rfl,mt (i:=7) (ops:=[ofL [60,60],ofL [62,62]]) H rfl (by decide) h rfl⟩
  | 8,h=>exact⟨_,_,_,H.ld 10 rfl (i:=8) rfl,mt (i:=8) (ops:=[ofL [43],ofL [45]]) H rfl (by decide) h rfl⟩
  | 9,h=>exact⟨_,_,_,H.ld 10 rfl (i:=9) rfl,mt (i:=9) (ops:=[ofL [42],ofL [47],ofL [37]]) H rfl (by decide) h rfl⟩
def JE [Inhabited G3o] (F:FuncId) (q:Req) (f:Nat):Prop:=∀ {W:World} {R:Rx} {n:Nat} {l:List Tok},(rlA R l n).at_ W->n≤24->run f q n l≠ .out->Calls prog F #[pt R.b] W (RK R n W (rlA R l n) (run f q n l))
def JB [Inhabited G3o] (f k:Nat):Prop:=∀ {W:World} {R:Rx} {n:Nat} {l:List Tok},(rlA R l n).at_ W->n≤24->run f (.bin (k+1)) n l≠ .out->Calls prog 137 #[pt R.b,.int .i64 (k:Nat)] W (RK R n W (rlA R l n) (run f (.bin (k+1)) n l))
def sr (R:Rx) (w:World):Nat:=match w.cell? ⟨R.b,3,none⟩ with
 | some (.int _ 0)=>(match w.cell? ⟨R.b,1,none⟩ with
  | some (.int _ a)=>9001 - a.toNat
  | _=>0)
 | _=>0
theorem ny [Inhabited G3o] (h:(rlA R l n).at_ W):sr R W=9001+l.length - R.L.length/\R.L.length≤8001/\l.length≤R.L.length:=by
 obtain⟨h0,a,h1,H⟩:=du (St.begin h);have H:=St.open_ H;have hat:=(List.getElem?_eq_some_iff.1 (cg h1 h0.2.1)).1;have c1:W.cell? ⟨R.b,3,none⟩=_:=H.ld 0 rfl (i:=3) rfl;have c2:W.cell? ⟨R.b,1,none⟩=_:=H.ld 0 rfl (i:=1) rfl
 have hl:l.length=R.L.length - a:=by rw[<- h1,List.length_drop]
 have:=h0.1.2.2.2;refine⟨?_,this,by omega⟩;unfold sr;rw[c1,c2];show 9001 - ((a:Nat):Int).toNat=_;rw[Int.toNat_natCast];omega
theorem Dk [Inhabited G3o] (h:(rdA R line en).at_ W):sr R W=0:=by
 obtain⟨h0,a,z,t,h1,H⟩:=pc (St.begin h);have H:=St.open_ H;have c1:W.cell? ⟨R.b,3,none⟩=_:=H.ld 0 rfl (i:=3) rfl;unfold sr;rw[c1];split
 ·rename_i e;cases e;exact absurd rfl h0.1
 ·rfl
theorem mi [Inhabited G3o]{m:Nat}{w2:World}{l2:List Tok} (h:(rlA R l n).at_ w) (h2:(rlA R l2 m).at_ w2) (hlt:l2.length<l.length):sr R w2<sr R w:=by
 obtain⟨a,b,c⟩:=ny h;obtain⟨d, -,e⟩:=ny h2;omega
theorem il [Inhabited G3o]{w2:World} (h:(rlA R l n).at_ w) (h2:(rdA R line en).at_ w2):sr R w2<sr R w:=by
 obtain⟨a,b,c⟩:=ny h;rw[Dk h2];omega
theorem Nn [Inhabited G3o] (h:Good l):0<l.length:=by
 obtain⟨t,l',rfl⟩:=h.cons;simp
theorem Pm [Inhabited G3o]{f:Nat} (I:JB f 0):JE 119 .expr (f+1):=by
 intro W R n l h hn hr
 have hrun:run (f+1) .expr n l=if 24≤n then .err (now l).line 3 else run f (.bin 1) (n+1) l:=by rw[run]
 generalize run (f+1) .expr n l=R0 at *;refine afq R.b 0 ?_;refine(St.begin h).al λ k w2 H2=>?_;refine(rc (H2.nth 0 rfl) hn).mono ?_;rintro e w3 (⟨hn2,rfl,hp⟩ | ⟨hn2,rfl,hp⟩)
 ·have H3:=H2.upd 0 rfl hp;rw[if_neg (by omega)] at hrun;refine⟨_,rfl,Sx.so (λ h=>by cases h) (λ _=>?_)⟩;refine Bz (kk:=λ x l=>.ok x l) H3 (by rw[hrun];cases run f (.bin 1) (n+1) l <;> rfl) hr (λ hr=>I (H3.nth 0 rfl) (by omega) hr) ?_ ?_
  ·intro x l' us B w4 hR ho hF H4;refine⟨_,rfl,?_⟩;refine H4.al λ k3 w5 H5=>?_;refine H5.sts0 3 (n:=6) (vs:=us.toArray) rfl (by simpa using ho.1) rfl (by simpa using ho.2) λ w6 H6=>?_;refine Iw H6 λ w7 H7=>?_;refine ac H7 (k:=3) rfl ho.1 ?_;exact ah H7 (k:=2) rfl rfl ho.1 ho.2 λ w8 H8=>kg hR ho hF H8
  ·intro line en us w4 hR ho H4;refine⟨_,rfl,?_⟩;refine H4.al λ k3 w5 H5=>?_;refine H5.sts0 2 (n:=6) (vs:=us.toArray) rfl (by simpa using ho.1) rfl (by simpa using ho.2) λ w6 H6=>?_;refine Dj H6 λ w7 H7=>?_;refine ac H7 (k:=2) rfl ho.1 ?_;exact ah H7 (k:=1) rfl rfl ho.1 ho.2 λ w8 H8=>cq hR ho H8
 ·have H3:=H2.upd 0 rfl hp;rw[if_pos hn2] at hrun;refine⟨_,rfl,Sx.so (λ _=>?_) (λ h=>by cases h)⟩;rintro vs rfl;exact ah H3 (k:=1) (us:=nodeZ) rfl rfl rfl cz λ w8 H8=>cq hrun xj H8
variable {W w0 w:World}{M:Nat->Prop}{L:List Asn}{R:Rx}{l:List Tok}{n:Nat}{line en:Int}
theorem Uk (k:Nat):(bw k).length≤4:=by
 unfold bw;split <;> simp
def opOf (l:List Tok) (ops:List ByteArray):ByteArray:=if ops.any (λ s=>is s l) then (now l).s else ⟨#[]⟩
theorem Ul {s:ByteArray} (h:is s l=true):s=(now l).s:=by
 unfold is at h;rw[Bool.and_eq_true] at h;exact(dt h.2).symm
theorem Ix [Inhabited G3o] (ops:List ByteArray) (s:ByteArray):opOf l (ops++[s])=if is s l then s else opOf l ops:=by
 unfold opOf;rw[List.any_append]
 cases h:is s l with
 | true =>
  rw[if_pos (by simp [h]),if_pos rfl];exact(Ul h).symm
 | false=>simp [h]
theorem Yn [Inhabited G3o]{k:Nat} (hk:k<10):((now l).k=3/\ai (now l).s=k+1/\opOf l (bw k)=(now l).s/\(now l).s≠⟨#[]⟩)∨(¬ ((now l).k=3/\ai (now l).s=k+1)/\opOf l (bw k)=⟨#[]⟩):=by
 by_cases h:(now l).k=3/\ai (now l).s=k+1
 ·refine .inl ⟨h.1,h.2,?_,?_⟩
  ·unfold opOf;rw[if_pos];rw[List.any_eq_true];exact⟨_,mem_ops.2 ⟨h.2,hk⟩,by unfold is;rw[h.1];simp⟩
  ·intro e;have h2:=h.2;rw[e,show ai ⟨#[]⟩=0 by decide] at h2;omega
 ·refine .inr ⟨h,?_⟩;unfold opOf;rw[if_neg];rw[List.any_eq_true];rintro⟨s,hs,hi⟩;exact h ⟨Ri hi,by rw[<- Ul hi];exact(mem_ops.1 hs).1⟩
theorem di [Inhabited G3o]{f:Fo}{us:List Value}{B:Asn} (h:isF f us B) (hu:us.length=6):1=f.len:=by
 have:=Fv h;omega
def ajq [Inhabited G3o] (R:Rx) (n k k1 g kx f:Nat) (W:World) (l:List Tok) (R0:Lang.R T) (w:World):Prop :=
 (∃ x l1 f1 us B,ones us/\isF (toF x .nil) us B/\run f1 (.loop (k+1) x) n l1=R0/\f1≤f/\aib (k+2) l1/\St W (rlA R l n).own w [rlA R l1 n,B,blk k1 nodeZ.toArray 52,sl 9 1 (.slice (some ⟨g,0,none⟩) (bw k).length (bw k).length) (bw k).length (nx (bw k)),blk kx us.toArray 52]) ∨
 (∃ line en us,R0= .err line en/\ones us/\St W (rlA R l n).own w [rdA R line en,blk k1 nodeZ.toArray 52,sl 9 1 (.slice (some ⟨g,0,none⟩) (bw k).length (bw k).length) (bw k).length (nx (bw k)),blk kx us.toArray 52])
theorem Iy [Inhabited G3o]{f k:Nat} (I:∀ f'<f,∀ k≤10,JB f' k) (Iu:∀ f'<f,JE 147 .un f') (hk:k≤10) (hK:k<10->JB f (k+1)):JB f k:=by
 intro W R n l h hn hr;generalize hR:run f (.bin (k+1)) n l=R0 at *;refine ais R.b 0 k ?_;refine(St.begin h).al λ k1 w2 H2=>?_;refine(Ln hk).mono ?_;rintro e w3 (⟨hk2,g,rfl,hp⟩ | ⟨hk2,rfl,hp⟩)
 ·have H3:=H2.add hp;clear hp H2;refine⟨_,_,_,rfl,Sx.so (λ h=>by cases h) (λ _=>?_)⟩;rintro z rfl;rw[qd (by omega)];have hsp:=Sn hR hr;refine(hK hk2 (H3.nth 0 rfl) hn ?_).mono ?_
  ·rcases hsp with ⟨a,b,c, -⟩ | ⟨a,b,c,d, -⟩
   ·rw[c];intro e;cases e
   ·rw[d];intro e;cases e
  intro e w4 he;rcases hsp with ⟨line,en,hb,hR0⟩ | ⟨x,l1,f1,hb,hf,hR0⟩
  rw[hb] at he;obtain⟨us,rfl,ho,hp⟩:=he;have H4:=H3.upd 0 rfl hp;clear hp H3;refine⟨_,rfl,?_⟩;refine H4.al λ kx w5 H5=>?_;refine H5.sts0 3 (n:=6) (vs:=us.toArray) rfl (by simpa using ho.1) rfl (by simpa using ho.2) λ w6 H6=>?_;refine⟨ajq R n k k1 g kx f W l R0,λ w=>sr R w,.inr ⟨line,en,us,hR0,ho,H6⟩,?_⟩
  rotate_left
  rw[hb] at he;obtain⟨us,B,rfl,ho,hF,hp⟩:=he;have H4:=St.open_ (L:=[_,_]) (H3.upd 0 rfl hp);clear hp H3;refine⟨_,rfl,?_⟩;refine H4.al λ kx w5 H5=>?_;refine H5.sts0 4 (n:=6) (vs:=us.toArray) rfl (by simpa using ho.1) rfl (by simpa using ho.2) λ w6 H6=>?_;refine⟨ajq R n k k1 g kx f W l R0,λ w=>sr R w,.inl ⟨x,l1,f1,us,B,ho,hF,hR0,by omega,Ms hb,H6⟩,?_⟩
  all_goals
   clear H6 H5 H4 hb hR0;intro _ w9 hI;rcases hI with ⟨x,l1,f1,us,B,ho,hF,hrun,hf,hwk,H9⟩ | ⟨line,en,us,hR0,ho,H9⟩
   ·refine ta H9 (Sx.so (λ _=>?_) (λ h=>by cases h));refine⟨λ i op w=>∃ j:Nat,i=(j:Nat)/\j≤(bw k).length/\op=opOf l1 ((bw k).take j)/\St W (rlA R l n).own w [rlA R l1 n,B,blk k1 nodeZ.toArray 52,sl 9 1 (.slice (some ⟨g,0,none⟩) (bw k).length (bw k).length) (bw k).length (nx (bw k)),blk kx us.toArray 52],λ i _ _=>(bw k).length - i.toNat,⟨0,rfl,Nat.zero_le _,rfl,H9⟩,?_⟩;rintro _ i op w10 ⟨j,rfl,hj,rfl,H10⟩;refine Sx.so (λ h1=>?_) (λ h1=>?_)
    ·have h1:j<(bw k).length:=by have:=dt h1;omega
     refine⟨⟨by omega,by omega⟩,?_⟩
     have hgj:(nx (bw k))[j]?=some (.string (bw k)[j]):=by simp [nx,h1]
     refine mc (H10.nth 3 rfl) hgj λ g2 o2 hc=>?_;refine⟨(bw k)[j],by rw[ix1];exact hc,?_⟩;refine H10.callq (ajb _ (H10.nth 0 rfl)) λ w11 H11=>?_
     have hw:IntKind.wrap .i64 ((j:Nat)+1:Int)=((j+1:Nat):Int):=by
      rw[show((j:Nat)+1:Int)=((j+1:Nat):Int) by omega];refine Go.Bits.n64 ?_;have:=Uk k;omega
     have htk:(bw k).take (j+1)=(bw k).take j++[(bw k)[j]]:=by rw[List.take_succ_eq_append_getElem h1]
     refine⟨_,rfl,Sx.so (λ h2=>?_) (λ h2=>?_)⟩
     ·refine⟨⟨by omega,by omega⟩,?_⟩;refine mc (H11.nth 3 rfl) hgj λ g3 o3 hc3=>?_;refine⟨(bw k)[j],by rw[ix1];exact hc3,?_⟩;rintro z rfl;rw[hw];exact⟨⟨j+1,rfl,by omega,by rw[htk,Ix,if_pos h2],H11⟩,by show _ - ((j+1:Nat):Int).toNat<_ - ((j:Nat):Int).toNat;omega⟩
     ·rintro z rfl;rw[hw];exact⟨⟨j+1,rfl,by omega,by rw[htk,Ix,if_neg (by rw[h2];exact Bool.false_ne_true)],H11⟩,by show _ - ((j+1:Nat):Int).toNat<_ - ((j:Nat):Int).toNat;omega⟩
    ·have h1:j=(bw k).length:=by have:=df h1;omega
     subst h1;rw[List.take_length];have e0:(ByteArray.toList (opOf l1 (bw k))==ByteArray.toList ⟨#[]⟩)=decide (opOf l1 (bw k)=⟨#[]⟩):=ab _ _;rw[e0];rcases Yn (l:=l1) hk2 with ⟨a1,a2,a3,a4⟩ | ⟨a1,a3⟩
     ·rw[a3,decide_eq_false a4];refine Sx.so (λ h=>by cases h) (λ _=>?_)
      match f1,hrun with
      | 0,hrun=>exact absurd hrun.symm hr
      | f1+1,hrun =>
      have hrun:R0=(run f1 (.bin (k+1+1)) n l1.tail).bind λ y l'=>run f1 (.loop (k+1) (.bin (now l1) x y)) n l':=by
       rw[<- hrun,run,if_pos ⟨a1,by omega⟩,a2]
      refine Lm H10 ?_;refine H10.drN λ w12 H12=>?_;refine tb (by omega) H12 λ w13 H13=>?_;rintro z rfl;have hb2:run f1 (.bin (k+1+1)) n l1.tail≠ .out:=λ e=>hr (by rw[hrun,e];rfl);refine(I f1 (by omega) (k+1) (by omega) (H13.nth 0 rfl) hn hb2).mono ?_;intro e w14 he
      cases hb:run f1 (.bin (k+1+1)) n l1.tail with
      | out=>exact absurd hb hb2
      | err line en =>
       rw[hb] at he hrun;obtain⟨vs,rfl,ho2,hp⟩:=he;have H14:=H13.upd 0 rfl hp;refine⟨_,rfl,?_⟩;refine H14.al λ k17 w15 H15=>?_;refine H15.sts0 5 (n:=6) (vs:=vs.toArray) rfl (by simpa using ho2.1) rfl (by simpa using ho2.2) λ w16 H16=>?_;refine ac H16 (k:=4) rfl ho.1 ?_;refine ac H16 (k:=5) rfl ho2.1 ⟨by simpa using ho.1,by simpa using ho2.1,?_⟩;refine H16.al λ k19 w17 H17=>?_;rintro vs9 rfl;refine H17.sts0 4 (n:=6) (vs:=(ae sm (now l1).s (now l1).line 0 (.slice (some ⟨k19,0,none⟩) 2 2) (.slice none 0 0)).toArray) rfl rfl (by simpa using ho.1) af λ w18 H18=>?_;exact⟨.inr ⟨line,en,_,hrun,az,H18.pick [0,2,3,4]⟩,il (H9.nth 0 rfl) (H18.nth 0 rfl)⟩
      | ok y l2 =>
       rw[hb] at he hrun;have hrun:R0=run f1 (.loop (k+1) (.bin (now l1) x y)) n l2:=hrun;obtain⟨vs,B2,rfl,ho2,hF2,hp⟩:=he;have H14:=St.open_ (L:=[_,_]) (H13.upd 0 rfl hp);refine⟨_,rfl,?_⟩;refine H14.al λ k17 w15 H15=>?_;refine H15.sts0 6 (n:=6) (vs:=vs.toArray) rfl (by simpa using ho2.1) rfl (by simpa using ho2.2) λ w16 H16=>?_;refine ac H16 (k:=5) rfl ho.1 ?_;refine ac H16 (k:=6) rfl ho2.1 ⟨by simpa using ho.1,by simpa using ho2.1,?_⟩;refine H16.al λ k19 w17 H17=>?_;rintro vs9 rfl;refine H17.sts0 5 (n:=6) (vs:=(ae sm (now l1).s (now l1).line 0 (.slice (some ⟨k19,0,none⟩) 2 2) (.slice none 0 0)).toArray) rfl rfl (by simpa using ho.1) af λ w18 H18=>?_;have H19:=H18.pick [2,1,7,0,3,4,5];obtain⟨C,hC,H20⟩:=ph hF hF2 H19;have H21:=H20.pick [1,0,2,3,4,5];obtain⟨C2,hC2,H22⟩:=Av sm (now l1).s (now l1).line 0 hC (m:=2) (by rw[Fo.app_len,<- di hF ho.1,<- di hF2 ho2.1]) (by omega) (by rw[List.append_nil] at H21;exact H21);have hl2:l2.length≤l1.tail.length:=(zk _ _ _ _ _ _ hb).1;have hlt:=dn (l:=l1) (by omega);refine⟨.inl ⟨_,l2,f1,_,C2,az,?_,hrun.symm,by omega,Ms hb,H22.pick [1,0,2,3,4]⟩,mi (H9.nth 0 rfl) (H18.nth 0 rfl) (by omega)⟩
       have e2:toF (.bin (now l1) x y) .nil= .cons sm (now l1).s (now l1).line 0 ((toF x .nil).app (toF y .nil)) [] .nil:=by rw[<- El];rfl
       rw[e2];exact hC2
     ·rw[a3,decide_eq_true rfl];refine Sx.so (λ _=>?_) (λ h=>by cases h)
      have hfin:R0= .ok x l1:=by
       rw[<- hrun]
       cases f1 with
       | zero=>exact absurd hrun.symm hr
       | succ f1 =>
        rw[run,if_neg];rintro⟨b1,b2⟩;by_cases b3:ai (now l1).s=k+1
        ·exact a1 ⟨b1,b3⟩
        ·exact hwk ⟨b1,by omega⟩
      refine ac H10 (k:=4) rfl ho.1 ?_;exact ah H10 (k:=2) rfl rfl ho.1 ho.2 λ w8 H8=>kg hfin ho hF H8
   ·refine Au H9 (λ hen=>Sx.so (λ h=>absurd (beq_iff_eq.1 h) hen) (λ _=>?_));refine ac H9 (k:=3) rfl ho.1 ?_;exact ah H9 (k:=1) rfl rfl ho.1 ho.2 λ w8 H8=>cq hR0 ho H8
 ·have H3:=H2.quiet hp;subst hk2;refine⟨_,_,_,rfl,Sx.so (λ _=>?_) (λ h=>by cases h)⟩;obtain⟨f1,hf,hrun⟩:=abi (f:=f) (n:=n) (l:=l) (by rw[hR];exact hr);rw[hR] at hrun;refine Bz (kk:=λ x l=>.ok x l) H3 (by rw[hrun];cases run f1 .un n l <;> rfl) hr (λ hr=>Iu f1 hf (H3.nth 0 rfl) hn hr) ?_ ?_
  ·intro x l' us B w4 hR ho hF H4;refine⟨_,rfl,?_⟩;exact ah H4 (k:=2) rfl rfl ho.1 ho.2 λ w8 H8=>kg hR ho hF H8
  ·intro line en us w4 hR ho H4;refine⟨_,rfl,?_⟩;exact ah H4 (k:=1) rfl rfl ho.1 ho.2 λ w8 H8=>cq hR ho H8
end Go.Proofs.YtojogkljneonmaaGreatDoor
