/- The checker in memory: lines, temporaries. No condition. -/
import Derived.Test.YtojogkljneonmaaGreatDoorLangX
set_option linter.unusedVariables false
set_option linter.unusedSimpArgs false
namespace Go.Lang
theorem ia:∀ (x:T) (k:Nat),1≤need x k
 | .num ..,k=>by simp [need]
 | .name ..,k=>by simp [need]
 | .nil,k=>by simp [need]
 | .index _ _ _ p,k=>ia p 0
 | .call _ _ p,k=>ia p 0
 | .un _ p,k=>ia p 0
 | .bin t x y,k=>by
  have h1:=ia x 0;rw[need];omega
 | .cons x xs,k=>by
  have h1:=ia x 0;rw[need];omega
 | .letS ..,k=>by simp [need]
 | .setS ..,k=>by simp [need]
 | .putS ..,k=>by simp [need]
 | .ifS ..,k=>by simp [need]
 | .whileS ..,k=>by simp [need]
 | .retS ..,k=>by simp [need]
 | .prtS ..,k=>by simp [need]
 | .doS ..,k=>by simp [need]
 | .block ..,k=>by simp [need]
theorem C.bind_assoc {α β γ:Type} (r:C α) (k:α->C β) (q:β->C γ):(r.bind k).bind q=r.bind λ x=>(k x).bind q:=by cases r <;> rfl
theorem So {x xs:T} (h:(T.cons x xs).ok 1=true):x.ok 0=true/\xs.ok 1=true:=by
 simpa [T.ok] using h
theorem Xl {x xs:T} (h:(T.cons x xs).ok 3=true):x.ok 2=true/\xs.ok 3=true:=by
 simpa [T.ok] using h
end Go.Lang
namespace Go.Proofs.YtojogkljneonmaaGreatDoor
open Go Go.Proofs.Tryz Go.Proofs Go.Sep Go.XHeap Go.RowKit Go.Lang
variable {W:World}{X:Cx}{S:Sp}{n:Nat}{Ls:Lcs}{lk:Lk}
theorem Pa [Inhabited G3o]{x:T}{v:Value}{B:Asn} (hx:x.ok 0=true) (hP:isP x [v] B) (h:B.at_ W):Calls prog 134 #[v] W λ e w'=>e= .returned (.int .i64 (zm x))/\w'=W:=by
 refine ahc v ?_
 cases x with
 | num a b =>
  obtain⟨e, -⟩:=hP;cases e;exact ag (by decide) (ag (by decide) (ag (by decide) (ag (by decide) (ag (by decide) ⟨rfl,rfl⟩))))
 | name t s w =>
  obtain⟨k,e,rfl⟩:=hP;cases e;have h:Blk W k (jd t s w).toArray 221:=h;exact bi ⟨_,rfl,ptr_some ⟨_,h.cell' (i:=2) rfl,rfl,rfl⟩⟩
 | index t w z p =>
  obtain⟨k,y,A1, -,e,rfl⟩:=hP;cases e;have h:Blk W k (em t w z y).toArray 176:=h.1;exact ag (by decide) (bi ⟨_,rfl,ptr_some ⟨_,h.cell' (i:=2) rfl,rfl,rfl⟩⟩)
 | call t f xs =>
  obtain⟨k,p,c,us,A1, -,e,rfl⟩:=hP;cases e;have h:Blk W k (sk t f (.slice p us.length c)).toArray 214:=h.1;exact ag (by decide) (ag (by decide) (bi ⟨_,rfl,ptr_some ⟨_,h.cell' (i:=2) rfl,rfl,rfl⟩⟩))
 | un t x =>
  obtain⟨k,u,A1, -,e,rfl⟩:=hP;cases e;have h:Blk W k (unC t u).toArray 217:=h.1;exact ag (by decide) (ag (by decide) (ag (by decide) (bi ⟨_,rfl,ptr_some ⟨_,h.cell' (i:=2) rfl,rfl,rfl⟩⟩)))
 | bin t x y =>
  obtain⟨k,u,u2,A1,A2, -, -,e,rfl⟩:=hP;cases e;have h:Blk W k (Wa t u u2).toArray 230:=h.1;exact ag (by decide) (ag (by decide) (ag (by decide) (ag (by decide) (bi ⟨_,rfl,ptr_some ⟨_,h.cell' (i:=2) rfl,rfl,rfl⟩⟩))))
 | nil=>obtain⟨e, -⟩:=hP;cases e
 | cons=>cases hx
 | letS=>cases hx
 | setS=>cases hx
 | putS=>cases hx
 | ifS=>cases hx
 | whileS=>cases hx
 | retS=>cases hx
 | prtS=>cases hx
 | doS=>cases hx
 | block=>cases hx
theorem Xm (W:World) (x:Int):Sx.meth prog (.iface 211 (.int .u32 x)) "Need" #[] W 233 #[.int .u32 x]:=by
 show Eq _ _;kernel_rfl
theorem Sq (W:World) (k:Nat):Sx.meth prog (.iface 167 (pt k)) "Need" #[] W 224 #[pt k]:=by
 show Eq _ _;kernel_rfl
theorem Pb (W:World) (k:Nat):Sx.meth prog (.iface 177 (pt k)) "Need" #[] W 226 #[pt k]:=by
 show Eq _ _;kernel_rfl
theorem Sr (W:World) (k:Nat):Sx.meth prog (.iface 193 (pt k)) "Need" #[] W 232 #[pt k]:=by
 show Eq _ _;kernel_rfl
theorem abj (W:World) (k:Nat):Sx.meth prog (.iface 215 (pt k)) "Need" #[] W 234 #[pt k]:=by
 show Eq _ _;kernel_rfl
theorem Xn (W:World) (k:Nat):Sx.meth prog (.iface 218 (pt k)) "Need" #[] W 235 #[pt k]:=by
 show Eq _ _;kernel_rfl
theorem Em {r:T}{A:Asn} (hr:r.ok 1=true) (h:isP r [] A):r= .nil:=by
 cases r with
 | nil=>rfl
 | cons x xs=>obtain⟨v,us,A1,As, -, -,e, -⟩:=h;cases e
 | num=>cases hr
 | name=>cases hr
 | index=>cases hr
 | call=>cases hr
 | un=>cases hr
 | bin=>cases hr
 | letS=>cases hr
 | setS=>cases hr
 | putS=>cases hr
 | ifS=>cases hr
 | whileS=>cases hr
 | retS=>cases hr
 | prtS=>cases hr
 | doS=>cases hr
 | block=>cases hr
theorem yf {r:T}{v:Value}{us:List Value}{A:Asn} (hr:r.ok 1=true) (h:isP r (v::us) A):∃ y ys A1 As,r= .cons y ys/\isP y [v] A1/\isP ys us (all As)/\A=all (A1::As)/\y.ok 0=true/\ys.ok 1=true:=by
 cases r with
 | nil=>obtain⟨e, -⟩:=h;cases e
 | cons x xs =>
  obtain⟨v',us',A1,As,h1,h2,e,rfl⟩:=h;cases e;exact⟨x,xs,A1,As,rfl,h1,h2,rfl,So hr⟩
 | num=>cases hr
 | name=>cases hr
 | index=>cases hr
 | call=>cases hr
 | un=>cases hr
 | bin=>cases hr
 | letS=>cases hr
 | setS=>cases hr
 | putS=>cases hr
 | ifS=>cases hr
 | whileS=>cases hr
 | retS=>cases hr
 | prtS=>cases hr
 | doS=>cases hr
 | block=>cases hr
theorem Ss [Inhabited G3o]{us:List Value}:∀ {r:T}{A:Asn},r.ok 1=true->isP r us A->us.length=r.len/\r.len≤r.sz:=by
 induction us with
 | nil=>intro r A hr h;have:=Em hr h;subst this;exact⟨rfl,by simp [T.len]⟩
 | cons v us ih =>
  intro r A hr h;obtain⟨y,ys,A1,As,rfl, -,h2, -, -,h3⟩:=yf hr h;obtain⟨h4,h5⟩:=ih h3 h2;exact⟨by simp [T.len,h4],by simp only[T.len,T.sz];omega⟩
theorem We {a b:Nat} (h:a+b<9223372036854775808):IntKind.wrap .i64 ((a:Int)+(b:Int))=((a+b:Nat):Int):=by
 rw[show((a:Int)+(b:Int))=((a+b:Nat):Int) by omega];exact Go.Bits.n64 h
theorem En (a b:Nat):(if ((b:Nat):Int) > (a:Int) then (b:Int) else (a:Int))=((max a b:Nat):Int):=by
 by_cases h:a<b
 ·rw[if_pos (by omega),Nat.max_eq_right (by omega)]
 ·rw[if_neg (by omega),Nat.max_eq_left (by omega)]
theorem Xo [Inhabited G3o] (W:World):∀ (N:Nat) (x:T),x.sz≤N->N<4611686018427387904->x.ok 0=true->∀ (v:Value) (B:Asn),isP x [v] B->B.at_ W ->
  ∃ u vs,Sx.meth prog v "Need" #[] W u vs/\Calls prog u vs W λ e w'=>e= .returned (.int .i64 ((need x 0:Nat):Int))/\w'=W:=by
 intro N
 induction N with
 | zero=>intro x hx;cases x <;> simp [T.sz] at hx
 | succ N ih =>
  intro x hsz hN hx v B hP h;have ih:=λ (x:T) (hs:x.sz≤N)=>ih x hs (by omega)
  cases x with
  | num a b =>
   obtain⟨e, -⟩:=hP;cases e;exact⟨_,_,Xm W _,ahg _ ⟨rfl,rfl⟩⟩
  | name t s w =>
   obtain⟨k,e,rfl⟩:=hP;cases e;exact⟨_,_,Sq W _,ahd k 0 ⟨rfl,rfl⟩⟩
  | index t w z p =>
   obtain⟨k,y,A1,h1,e,rfl⟩:=hP;cases e;have hb:Blk W k (em t w z y).toArray 176:=h.1
   have hp:p.ok 0=true:=by simpa [T.ok] using hx
   simp only[T.sz] at hsz;obtain⟨u,vs,hm,hc⟩:=ih p (by omega) hp y A1 h1 (h.2.2.1);refine⟨_,_,Pb W _,ahe k 0 ⟨_,hb.cell' (i:=5) rfl,u,vs,hm,hc.mono ?_⟩⟩;rintro _ w2 ⟨rfl,rfl⟩;exact⟨_,rfl,rfl,rfl⟩
  | un t p =>
   obtain⟨k,y,A1,h1,e,rfl⟩:=hP;cases e;have hb:Blk W k (unC t y).toArray 217:=h.1
   have hp:p.ok 0=true:=by simpa [T.ok] using hx
   simp only[T.sz] at hsz;obtain⟨u,vs,hm,hc⟩:=ih p (by omega) hp y A1 h1 (h.2.2.1);refine⟨_,_,abj W _,ahh k 0 ⟨_,hb.cell' (i:=4) rfl,u,vs,hm,hc.mono ?_⟩⟩;rintro _ w2 ⟨rfl,rfl⟩;exact⟨_,rfl,rfl,rfl⟩
  | bin t x y =>
   obtain⟨k,u1,u2,A1,A2,h1,h2,e,rfl⟩:=hP;cases e;have hb:Blk W k (Wa t u1 u2).toArray 230:=h.1;obtain⟨hx1,hy1⟩:x.ok 0=true/\y.ok 0=true:=by simpa [T.ok] using hx
   simp only[T.sz] at hsz;have hny:=ky y 0;obtain⟨u,vs,hm,hc⟩:=ih x (by omega) hx1 u1 A1 h1 (h.2.2.1);obtain⟨u',vs',hm',hc'⟩:=ih y (by omega) hy1 u2 A2 h2 (h.2.2.2.2.1);refine⟨_,_,Xn W _,ahi k 0 ⟨_,hb.cell' (i:=5) rfl,u',vs',hm',hc'.mono ?_⟩⟩;rintro _ w2 ⟨rfl,rfl⟩;refine⟨_,rfl,t.s,hb.cell' (i:=3) rfl,?_⟩
   try dsimp only
   rw[ab];have eq:need (.bin t x y) 0=max (need x 0) (if t.s=ofL [38,38]∨t.s=ofL [124,124] then need y 0 else need y 0+1):=rfl;refine Sx.so (λ h3=>?_) (λ h3=>?_)
   ·have h3:¬ t.s=ofL [38,38]:=by
     intro e;have e:t.s=⟨#[38,38]⟩:=e;rw[decide_eq_true e] at h3;cases h3
    refine⟨t.s,hb.cell' (i:=3) rfl,?_⟩
    try dsimp only
    rw[ab];refine Sx.so (λ h4=>?_) (λ h4=>?_)
    ·have h4:¬ t.s=ofL [124,124]:=by
      intro e;have e:t.s=⟨#[124,124]⟩:=e;rw[decide_eq_true e] at h4;cases h4
     rw[if_neg (by rintro(e | e);exact h3 e;exact h4 e)] at eq;rintro z rfl;refine⟨_,hb.cell' (i:=4) rfl,u,vs,hm,hc.mono ?_⟩;rintro _ w3 ⟨rfl,rfl⟩;refine⟨_,rfl,?_,rfl⟩;rw[show IntKind.wrap .i64 (((need y 0:Nat):Int)+1)=((need y 0+1:Nat):Int) from We (b:=1) (by omega),En,eq]
    ·have h4:t.s=ofL [124,124]:=by
      cases hd:decide (t.s=⟨#[124,124]⟩) with
      | true=>exact dt hd
      | false=>rw[hd] at h4;cases h4
     rw[if_pos (.inr h4)] at eq;refine⟨_,hb.cell' (i:=4) rfl,u,vs,hm,hc.mono ?_⟩;rintro _ w3 ⟨rfl,rfl⟩;refine⟨_,rfl,?_,rfl⟩;rw[En,eq]
   ·have h3:t.s=ofL [38,38]:=by
     cases hd:decide (t.s=⟨#[38,38]⟩) with
     | true=>exact dt hd
     | false=>rw[hd] at h3;cases h3
    rw[if_pos (.inl h3)] at eq;refine⟨_,hb.cell' (i:=4) rfl,u,vs,hm,hc.mono ?_⟩;rintro _ w3 ⟨rfl,rfl⟩;refine⟨_,rfl,?_,rfl⟩;rw[En,eq]
  | call t f xs =>
   obtain⟨k,p,c,us,A1,h1,e,rfl⟩:=hP;cases e;have hb:Blk W k (sk t f (.slice p us.length c)).toArray 214:=h.1;have hsl:Sl W 169 1 (.slice p us.length c) us.length us:=h.2.2.1;have hA:A1.at_ W:=h.2.2.2.2.1
   have hxs:xs.ok 1=true:=by simpa [T.ok] using hx
   simp only[T.sz] at hsz;refine⟨_,_,Sr W _,ahf k 0 ⟨_,_,_,hb.cell' (i:=4) rfl,?_⟩⟩;have hnl:=ky xs 0
   refine⟨λ x m w=>w=W/\∃ (i a:Nat) (r:T) (us2:List Value) (A2:Asn),x=i/\m=a/\us.drop i=us2/\i≤us.length/\isP r us2 A2/\A2.at_ W/\r.ok 1=true/\r.sz≤N/\1≤a/\max a (need r i)=need xs 0,λ x _ _=>((us.length:Int) - x).toNat,
    ⟨rfl,0,1,xs,us,A1,rfl,rfl,rfl,by omega,h1,hA,hxs,by omega,by omega,by have:=ia xs 0;omega⟩,λ _ x m w2 hI=>?_⟩
   obtain⟨rfl,i,a,r,us2,A2,rfl,rfl,hd,hi,hr,hA2,hro,hrs,ha,hm⟩:=hI;refine Sx.so (λ h2=>?_) (λ h2=>?_)
   ·have h2:i<us.length:=by have:=dt h2;omega
    have hdc:us.drop i=us[i]::us.drop (i+1):=List.drop_eq_getElem_cons h2;rw[hdc] at hd;subst hd;obtain⟨y,ys,B1,Bs,rfl,hy,hys,rfl,hyo,hyso⟩:=yf hro hr;simp only[T.sz] at hrs;obtain⟨u,vs,hm1,hc1⟩:=ih y (by omega) hyo _ B1 hy hA2.1;refine⟨⟨by omega,by omega⟩,?_⟩;refine mc hsl (i:=i) (v:=us[i]) (List.getElem?_eq_getElem h2) λ g o hc=>?_;rw[ix1];refine⟨_,hc,u,vs,hm1,hc1.mono ?_⟩;rintro _ w3 ⟨rfl,rfl⟩;refine⟨_,rfl,?_⟩;have hny:=ky y 0;obtain⟨hl1,hl2⟩:=Ss hxs h1;rintro z2 rfl z3 rfl;rw[We (by omega),En,show IntKind.wrap .i64 ((i:Nat)+1:Int)=((i+1:Nat):Int) from We (b:=1) (by omega)];refine⟨⟨rfl,i+1,_,ys,_,all Bs,rfl,rfl,rfl,by omega,hys,hA2.2.2,hyso,by omega,by omega,?_⟩,by show((us.length:Int) - ((i+1:Nat):Int)).toNat<((us.length:Int) - ((i:Nat):Int)).toNat;omega⟩;rw[<- hm,need,Nat.max_assoc]
   ·have h2:us.length≤i:=by have:=df h2;omega
    rw[List.drop_eq_nil_of_le h2] at hd;subst hd;have:=Em hro hr;subst this;refine⟨?_,rfl⟩;rw[show need (.call t f xs) 0=need xs 0 from rfl,<- hm,show need .nil i=1 from rfl,Nat.max_eq_left ha]
  | nil=>cases hx
  | cons=>cases hx
  | letS=>cases hx
  | setS=>cases hx
  | putS=>cases hx
  | ifS=>cases hx
  | whileS=>cases hx
  | retS=>cases hx
  | prtS=>cases hx
  | doS=>cases hx
  | block=>cases hx
variable {W:World}{X:Cx}{S:Sp}{n:Nat}{Ls:Lcs}{lk:Lk}
theorem ur {w0 w:World}{M:Nat->Prop}{A:Asn}{Bs L:List Asn} (H:St w0 M w (A::all Bs::L)):St w0 M w (A::(Bs++L)):=by
 have H1:=St.open_ (St.swap H);exact H1.perm List.perm_middle
theorem sn {w0 w:World}{M:Nat->Prop}{A:Asn}{Bs L:List Asn} (H:St w0 M w (A::(Bs++L))):St w0 M w (A::all Bs::L) :=
 St.swap (St.shut (L:=Bs) (L':=A::L) (H.perm List.perm_middle.symm))
def aic (X:Cx) (S:Sp) (n:Nat) (Ls:Lcs) (A0:Asn) (W:World) (v:Value) (R0:C T):Ending->World->Prop:=Wc A0 W R0 λ x' e w'=>e= .returned (.tuple #[])/\∃ B',isP x' [v] B'/\Post A0 W (all [scA X S n Ls,B']) w'
theorem abk [Inhabited G3o]{A0:Asn}{w:World}{v:Value}{R0:C T}{x':T}{B':Asn} (hR:R0= .ok x') (hP:isP x' [v] B') (H:St W A0.own w [scA X S n Ls,B']):aic X S n Ls A0 W v R0 (.returned (.tuple #[])) w :=
 zt hR ⟨rfl,B',hP,(St.shut (L:=[_,_]) (L':=[]) H).post 0 rfl⟩
theorem Su [Inhabited G3o] (hE:Hm lk X) (hZ:zu lk) (hn:Ls.length≤24):∀ (N:Nat) (x:T),x.sz≤N->N<4611686018427387904->x.ok 0=true->∀ (W:World) (v:Value) (B:Asn),isP x [v] B->(all [scA X S n Ls,B]).at_ W ->
  Calls prog 133 #[pt X.ks,v] W (aic X S n Ls (all [scA X S n Ls,B]) W v (gd lk Ls x)):=by
 intro N
 induction N with
 | zero=>intro x hx;cases x <;> simp [T.sz] at hx
 | succ N ih =>
  intro x hsz hN hx W v B hP h;have ih:=λ (x:T) (hs:x.sz≤N)=>ih x hs (by omega);refine ahb X.ks 0 v ?_;have H:=St.begin h
  cases x with
  | num a b =>
   obtain⟨e,rfl⟩:=hP;cases e;exact ag (by decide) (ag (by decide) (ag (by decide) (ag (by decide) (ag (by decide) (abk (x':=.num a b) rfl ⟨rfl,rfl⟩ (St.open_ (L':=[]) H))))))
  | name t s w =>
   obtain⟨k,e,rfl⟩:=hP;cases e;refine bi ⟨_,rfl,?_⟩;refine je H 0 rfl (R0:=gd lk Ls (.name t s w)) rfl (Hn hE hn h) ?_;rintro p _ w2 - hR ⟨rfl,hp⟩;exact⟨rfl,abk hR ⟨k,rfl,rfl⟩ (St.open_ (L':=[]) (H.upd 0 rfl hp))⟩
  | index t w z p =>
   obtain⟨k,y,A1,h1,e,rfl⟩:=hP;cases e
   have hp:p.ok 0=true:=by simpa [T.ok] using hx
   simp only[T.sz] at hsz;refine ag (by decide) (bi ⟨_,rfl,?_⟩);have H2:=ur (L:=[]) (St.open_ (L':=[]) H);have H3:=St.shut (L:=[scA X S n Ls,blk k (em t w z y).toArray 176]) (L':=[A1]) H2;refine je H3 0 rfl (R0:=gd lk Ls (.index t w z p)) rfl (Ct hE hZ hn (H3.nth 0 rfl)) ?_;rintro q _ w2 - hR ⟨rfl,hp1⟩;have H4:=St.open_ (L:=[scA X S n Ls,blk k (em t q.1 q.2 y).toArray 176]) (L':=[A1]) (H3.upd 0 rfl hp1);refine⟨rfl,ptr_some ⟨_,H4.ld 1 rfl (i:=5) rfl,?_⟩⟩;have H5:=St.shut (L:=[scA X S n Ls,A1]) (L':=[blk k (em t q.1 q.2 y).toArray 176]) (H4.pick [0,2,1]);refine je H5 0 rfl hR (ih p (by omega) hp _ _ _ h1 (H5.nth 0 rfl)) ?_;rintro p' _ w3 - hR ⟨rfl,B',hB',hp2⟩;have H6:=St.open_ (L:=[scA X S n Ls,B']) (L':=[blk k (em t q.1 q.2 y).toArray 176]) (H5.upd 0 rfl hp2);exact⟨rfl,abk hR ⟨k,y,B',hB',rfl,rfl⟩ (sn (Bs:=[blk k (em t q.1 q.2 y).toArray 176,B']) (L:=[]) (H6.pick [0,2,1]))⟩
  | un t p =>
   obtain⟨k,y,A1,h1,e,rfl⟩:=hP;cases e
   have hp:p.ok 0=true:=by simpa [T.ok] using hx
   simp only[T.sz] at hsz;refine ag (by decide) (ag (by decide) (ag (by decide) (bi ⟨_,rfl,?_⟩)));have H4:=ur (L:=[]) (St.open_ (L':=[]) H);refine ptr_some ⟨_,H4.ld 1 rfl (i:=4) rfl,?_⟩;have H5:=St.shut (L:=[scA X S n Ls,A1]) (L':=[blk k (unC t y).toArray 217]) (H4.pick [0,2,1]);refine je H5 0 rfl (R0:=gd lk Ls (.un t p)) rfl (ih p (by omega) hp _ _ _ h1 (H5.nth 0 rfl)) ?_;rintro p' _ w3 - hR ⟨rfl,B',hB',hp2⟩;have H6:=St.open_ (L:=[scA X S n Ls,B']) (L':=[blk k (unC t y).toArray 217]) (H5.upd 0 rfl hp2);exact⟨rfl,abk hR ⟨k,y,B',hB',rfl,rfl⟩ (sn (Bs:=[blk k (unC t y).toArray 217,B']) (L:=[]) (H6.pick [0,2,1]))⟩
  | bin t x y =>
   obtain⟨k,u1,u2,A1,A2,h1,h2,e,rfl⟩:=hP;cases e;obtain⟨hx1,hy1⟩:x.ok 0=true/\y.ok 0=true:=by simpa [T.ok] using hx
   simp only[T.sz] at hsz;refine ag (by decide) (ag (by decide) (ag (by decide) (ag (by decide) (bi ⟨_,rfl,?_⟩))));have H4:=ur (L:=[]) (St.open_ (L':=[]) H);refine ptr_some ⟨_,H4.ld 1 rfl (i:=4) rfl,?_⟩;have H5:=St.shut (L:=[scA X S n Ls,A1]) (L':=[blk k (Wa t u1 u2).toArray 230,A2]) (H4.pick [0,2,1,3]);refine je H5 0 rfl (R0:=gd lk Ls (.bin t x y)) rfl (ih x (by omega) hx1 _ _ _ h1 (H5.nth 0 rfl)) ?_;rintro x' _ w3 - hR ⟨rfl,B1,hB1,hp2⟩;have H6:=St.open_ (L:=[scA X S n Ls,B1]) (L':=[blk k (Wa t u1 u2).toArray 230,A2]) (H5.upd 0 rfl hp2);refine⟨rfl,ptr_some ⟨_,H6.ld 2 rfl (i:=5) rfl,?_⟩⟩;have H7:=St.shut (L:=[scA X S n Ls,A2]) (L':=[blk k (Wa t u1 u2).toArray 230,B1]) (H6.pick [0,3,2,1]);refine je H7 0 rfl hR (ih y (by omega) hy1 _ _ _ h2 (H7.nth 0 rfl)) ?_;rintro y' _ w4 - hR ⟨rfl,B2,hB2,hp3⟩;have H8:=St.open_ (L:=[scA X S n Ls,B2]) (L':=[blk k (Wa t u1 u2).toArray 230,B1]) (H7.upd 0 rfl hp3);exact⟨rfl,abk hR ⟨k,u1,u2,B1,B2,hB1,hB2,rfl,rfl⟩ (sn (Bs:=[blk k (Wa t u1 u2).toArray 230,B1,B2]) (L:=[]) (H8.pick [0,2,3,1]))⟩
  | call t f xs =>
   obtain⟨k,p,c,us,A1,h1,e,rfl⟩:=hP;cases e
   have hxs:xs.ok 1=true:=by simpa [T.ok] using hx
   simp only[T.sz] at hsz;refine ag (by decide) (ag (by decide) (bi ⟨_,rfl,?_⟩));have H2:=ur (L:=[]) (St.open_ (L':=[]) H);have H3:=St.open_ (L:=scL X S n Ls) H2;refine⟨_,H3.ld 0 rfl (i:=1) rfl,ptr_some ⟨_,H3.ld 5 rfl (i:=1) rfl,mapp_some ⟨X.I,H3.nth 3 rfl,_,rfl,?_⟩⟩⟩;have hL:=hE.2 n t.s
   have hcx:gd lk Ls (.call t f xs)=match lk t.s with
    | some (.fn k np)=>if 0≤bf Ls t.s then .err t.line 9 else if np≠xs.len then .err t.line 9 else (gd lk Ls xs).bind λ xs'=>.ok (.call t (some ⟨k,0,none⟩) xs')
    | _=>.err t.line 9:=by rw[gd];rfl
   generalize gd lk Ls (.call t f xs)=R0 at *
   cases hlk:lk t.s with
   | none =>
    rw[hlk] at hL hcx;rw[show X.I t.s=none from hL];refine Ek ?_;refine H3.drN λ w7 H7=>?_;refine H7.dr λ w8 H8=>?_;exact ptr_some ⟨_,H8.ld 5 rfl (i:=2) rfl,fx H8 t.line 9 hcx⟩
   | some g =>
    rw[hlk] at hL hcx
    cases g with
    | var wd z =>
     obtain⟨i,kv,tv,nv,hI, -⟩:=hL;rw[hI];refine ag (by decide) ?_;refine H3.drN λ w7 H7=>?_;refine H7.dr λ w8 H8=>?_;exact ptr_some ⟨_,H8.ld 5 rfl (i:=2) rfl,fx H8 t.line 9 hcx⟩
    | fn kf np =>
     obtain⟨i,hf,slv,hI,hG,rfl,rfl⟩:=hL;rw[hI];refine bi ⟨_,rfl,?_⟩;refine H3.drN λ w6 H6=>?_;refine H6.dr λ w7 H7=>?_;refine ptr_some ⟨_,H7.ld 5 rfl (i:=1) rfl,?_⟩;have H7':=St.shut (L:=scL X S n Ls) H7;refine(rp t.s hn (H7'.nth 0 rfl)).mono ?_;rintro _ w8 ⟨rfl,rfl⟩;refine⟨_,rfl,?_⟩;refine Sx.so (λ h3=>?_) (λ h3=>?_)
     ·have h3:=dt h3;exact ptr_some ⟨_,H7.ld 5 rfl (i:=2) rfl,fx H7 t.line 9 (hcx.trans (if_pos h3))⟩
     ·have h3:=df h3;have hcx:=hcx.trans (if_neg h3);have hb:Blk w8 hf.k (fnC hf.t hf.nm (.slice hf.p hf.np hf.c) (pt hf.kb) slv hf.no).toArray 115:=px (H7.nth 4 rfl) hG;refine ptr_some (ptr_some ⟨_,_,_,hb.cell' (i:=4) rfl,_,_,_,H7.ld 5 rfl (i:=4) rfl,?_⟩);obtain⟨hl1,hl2⟩:=Ss hxs h1;refine Sx.so (λ h4=>?_) (λ h4=>?_)
      ·have h4:hf.np≠xs.len:=by
        have:=bne_iff_ne.1 h4;omega
       exact ptr_some ⟨_,H7.ld 5 rfl (i:=2) rfl,fx H7 t.line 9 (hcx.trans (if_pos h4))⟩
      ·have h4:¬ hf.np≠xs.len:=by
        rw[bne_eq_false_iff_eq] at h4;omega
       have hcx:=hcx.trans (if_neg h4);refine ptr_some (H7.st 5 rfl (i:=3) (by simp [sk,tkL]) λ w9 H9=>?_);have H10:St W (all [scA X S n Ls,all [blk k (sk t f (.slice p us.length c)).toArray 214,sl 169 1 (.slice p us.length c) us.length us,A1]]).own w9 [scA X S n Ls,blk k (sk t (some ⟨hf.k,0,none⟩) (.slice p us.length c)).toArray 214,Sep.sl 169 1 (.slice p us.length c) us.length us,A1]:=St.shut (L:=scL X S n Ls) (L':=[blk k (sk t (some ⟨hf.k,0,none⟩) (.slice p us.length c)).toArray 214,Sep.sl 169 1 (.slice p us.length c) us.length us,A1]) H9;refine ptr_some ⟨_,_,_,H10.ld 1 rfl (i:=4) rfl,?_⟩
       obtain⟨As,rfl⟩:∃ As,A1=all As:=by
        cases us with
        | nil=>have:=Em hxs h1;subst this;exact⟨[],h1.2⟩
        | cons u us=>obtain⟨y,ys,B1,Bs, -, -, -,e, -⟩:=yf hxs h1;exact⟨_,e⟩
       refine⟨λ x w=>∃ (i:Nat) (ts:List T) (us1 us2:List Value) (As1 As2:List Asn) (r:T),x=i/\us=us1++us2/\us1.length=i/\isP (jj ts .nil) us1 (all As1)/\isP r us2 (all As2)/\r.ok 1=true/\r.sz≤N /\
        St W (all [scA X S n Ls,all [blk k (sk t f (.slice p us.length c)).toArray 214,sl 169 1 (.slice p us.length c) us.length us,all As]]).own w [scA X S n Ls,blk k (sk t (some ⟨hf.k,0,none⟩) (.slice p us.length c)).toArray 214,Sep.sl 169 1 (.slice p us.length c) us.length us,all As1,all As2] /\
        R0=(gd lk Ls r).bind λ r'=>.ok (.call t (some ⟨hf.k,0,none⟩) (jj ts r')),λ x _=>((us.length:Int) - x).toNat,?_,λ _ x w hI=>?_⟩
       ·refine⟨0,[],[],us,[],As,xs,rfl,rfl,rfl,⟨rfl,rfl⟩,h1,hxs,by omega,?_,hcx⟩;have H11:=H10.add (A:=all []) ⟨trivial,XTouch.refl _ _,λ q hq=>hq.elim⟩;exact H11.pick [0,1,2,4,3]
       obtain⟨i,ts,us1,us2,As1,As2,r,rfl,rfl,rfl,ht,hr,hro,hrs,H11,hR⟩:=hI;refine Sx.so (λ h5=>?_) (λ h5=>?_)
       ·have h5:=dt h5;rw[List.length_append] at h5
        cases us2 with
        | nil=>simp at h5
        | cons u us2 =>
         obtain⟨y,ys,B1,Bs,rfl,hy,hys,e,hyo,hyso⟩:=yf hro hr;rw[e] at H11;simp only[T.sz] at hrs;refine⟨⟨by omega,by rw[List.length_append,List.length_cons];omega⟩,?_⟩;refine mc (H11.nth 2 rfl) (i:=us1.length) (v:=u) (by simp) λ g o hc=>?_;rw[ix1];refine⟨_,hc,?_⟩;have H12:St W (all [scA X S n Ls,all [blk k (sk t f (.slice p (us1++u::us2).length c)).toArray 214,sl 169 1 (.slice p (us1++u::us2).length c) (us1++u::us2).length (us1++u::us2),all As]]).own w ((B1::Bs)++[scA X S n Ls,blk k (sk t (some ⟨hf.k,0,none⟩) (.slice p (us1++u::us2).length c)).toArray 214,Sep.sl 169 1 (.slice p (us1++u::us2).length c) (us1++u::us2).length (us1++u::us2),all As1]):=St.open_ (H11.pick [4,0,1,2,3])
         have H13:=(St.shut (L:=Bs) (L':=[scA X S n Ls,blk k (sk t (some ⟨hf.k,0,none⟩) (.slice p (us1++u::us2).length c)).toArray 214,Sep.sl 169 1 (.slice p (us1++u::us2).length c) (us1++u::us2).length (us1++u::us2),all As1,B1]) (H12.perm (by
          simp only[List.cons_append];refine(List.perm_append_singleton B1 _).symm.trans ?_
          simp))).pick [1,5,2,3,4,0]
         have H14:=St.shut (L:=[scA X S n Ls,B1]) H13;refine je H14 0 rfl (hR.trans (by rw[gd,C.bind_assoc])) (ih y (by omega) hyo _ _ _ hy (H14.nth 0 rfl)) ?_;rintro y' _ w4 - hR ⟨rfl,B2,hB2,hp3⟩;have H15:=St.open_ (L:=[scA X S n Ls,B2]) (H14.upd 0 rfl hp3);refine⟨rfl,?_⟩;rintro z4 rfl;rw[show IntKind.wrap .i64 ((us1.length:Nat)+1:Int)=((us1.length+1:Nat):Int) from We (b:=1) (by simp at hl1;omega)];obtain⟨As',hs1,hs2⟩:=ul hB2 ht;have H16:=hs2 _ _ _ _ (H15.pick [4,1,0,2,3,5]);refine⟨⟨_,ts++[y'],us1++[u],us2,As',Bs,ys,rfl,by simp,by simp,hs1,hys,hyso,by omega,H16.pick [1,2,3,0,4],?_⟩,by simp only[List.length_append,List.length_cons];omega⟩;rw[hR,C.bind_assoc];congr 1;funext z;rw[fv];rfl
       ·have h5:=df h5;rw[List.length_append] at h5;have:us2=[]:=List.eq_nil_of_length_eq_zero (by omega);subst this;have hnil:=Em hro hr;subst hnil;rw[List.append_nil] at H11 ⊢;exact abk hR ⟨k,p,c,us1,all As1,ht,rfl,rfl⟩ (sn (L:=[]) (H11.take 4))
  | nil=>cases hx
  | cons=>cases hx
  | letS=>cases hx
  | setS=>cases hx
  | putS=>cases hx
  | ifS=>cases hx
  | whileS=>cases hx
  | retS=>cases hx
  | prtS=>cases hx
  | doS=>cases hx
  | block=>cases hx
end Go.Proofs.YtojogkljneonmaaGreatDoor
namespace Go.Lang
theorem qt (lk:Lk) (Ls:Lcs):∀ (x:T) (k:Nat) (x':T),(k=0∨k=1)->x.ok k=true->gd lk Ls x= .ok x'->x'.ok k=true
 | .num ..,k,x',hk,hx,h=>by cases h;exact hx
 | .nil,k,x',hk,hx,h=>by cases h;exact hx
 | .name t s w,k,x',hk,hx,h=>by obtain⟨p, -,h⟩:=C.bind_ok h;cases h;exact hx
 | .index t w z p,k,x',hk,hx,h=>by
  obtain⟨a, -,h⟩:=C.bind_ok h;obtain⟨p',h1,h⟩:=C.bind_ok h;cases h;rw[T.ok,Bool.and_eq_true] at hx ⊢;exact⟨hx.1,qt lk Ls p 0 p' (.inl rfl) hx.2 h1⟩
 | .call t f xs,k,x',hk,hx,h=>by
  rw[gd] at h;split at h
  ·split at h
   ·cases h
   ·split at h
    ·cases h
    ·obtain⟨p',h1,h⟩:=C.bind_ok h;cases h;rw[T.ok,Bool.and_eq_true] at hx ⊢;exact⟨hx.1,qt lk Ls xs 1 p' (.inr rfl) hx.2 h1⟩
  ·cases h
 | .un t x,k,x',hk,hx,h=>by
  obtain⟨p',h1,h⟩:=C.bind_ok h;cases h;rw[T.ok,Bool.and_eq_true] at hx ⊢;exact⟨hx.1,qt lk Ls x 0 p' (.inl rfl) hx.2 h1⟩
 | .bin t x y,k,x',hk,hx,h=>by
  obtain⟨p',h1,h⟩:=C.bind_ok h;obtain⟨q',h2,h⟩:=C.bind_ok h;cases h;rw[T.ok,Bool.and_eq_true,Bool.and_eq_true] at hx ⊢;exact⟨⟨hx.1.1,qt lk Ls x 0 p' (.inl rfl) hx.1.2 h1⟩,qt lk Ls y 0 q' (.inl rfl) hx.2 h2⟩
 | .cons x y,k,x',hk,hx,h=>by
  obtain⟨p',h1,h⟩:=C.bind_ok h;obtain⟨q',h2,h⟩:=C.bind_ok h;cases h;rcases hk with rfl | rfl
  ·cases hx
  ·obtain⟨a,b⟩:=So hx;have a':=qt lk Ls x 0 p' (.inl rfl) a h1;have b':=qt lk Ls y 1 q' (.inr rfl) b h2;rw[T.ok,a',b'];rfl
 | .letS ..,k,x',hk,hx,h=>by cases h;exact hx
 | .setS ..,k,x',hk,hx,h=>by cases h;exact hx
 | .putS ..,k,x',hk,hx,h=>by cases h;exact hx
 | .ifS ..,k,x',hk,hx,h=>by cases h;exact hx
 | .whileS ..,k,x',hk,hx,h=>by cases h;exact hx
 | .retS ..,k,x',hk,hx,h=>by cases h;exact hx
 | .prtS ..,k,x',hk,hx,h=>by cases h;exact hx
 | .doS ..,k,x',hk,hx,h=>by cases h;exact hx
 | .block ..,k,x',hk,hx,h=>by cases h;exact hx
end Go.Lang
namespace Go.Proofs.YtojogkljneonmaaGreatDoor
open Go Go.Proofs.Tryz Go.Proofs Go.Sep Go.XHeap Go.RowKit Go.Lang
variable {W:World}{X:Cx}{S:Sp}{n:Nat}{Ls:Lcs}{lk:Lk}
theorem fp [Inhabited G3o] (hE:Hm lk X) (hZ:zu lk) (hn:Ls.length≤24){x:T} (hs:x.sz<4611686018427387904) (hx:x.ok 0=true) (beside:Nat) (hb:beside≤1){v:Value}{B:Asn} (hP:isP x [v] B) (h:(all [scA X S n Ls,B]).at_ W) :
  Calls prog 115 #[pt X.ks,v,.int .i64 (beside:Int)] W (aic X S n Ls (all [scA X S n Ls,B]) W v (ck lk Ls x beside)):=by
 refine agz X.ks 0 v beside ?_;have H:=St.begin h;refine je H 0 rfl (R0:=ck lk Ls x beside) rfl (Su hE hZ hn x.sz x (Nat.le_refl _) hs hx W v B hP h) ?_;rintro x' _ w2 hr hR ⟨rfl,B',hB',hp⟩;have H2:=St.open_ (L:=[scA X S n Ls,B']) (L':=[]) (H.upd 0 rfl hp);have hx':=qt lk Ls x 0 x' (.inl rfl) hx hr;have hs':=(ga lk Ls x x' hr).2;obtain⟨u,vs,hm,hc⟩:=Xo w2 x'.sz x' (Nat.le_refl _) (by omega) hx' v B' hB' (H2.nth 1 rfl);refine⟨rfl,u,vs,hm,hc.mono ?_⟩;rintro _ w3 ⟨rfl,rfl⟩;refine⟨_,rfl,?_⟩;rintro z rfl;have hnl:=ky x' 0;rw[We (by omega)];refine Sx.so (λ h1=>?_) (λ h1=>?_)
 ·have h1:=dt h1;refine(Pa hx' hB' (H2.nth 1 rfl)).mono ?_;rintro _ w4 ⟨rfl,rfl⟩;exact⟨_,rfl,fx H2 (zm x') 4 (hR.trans (if_pos (by omega)))⟩
 ·have h1:=df h1;exact abk (hR.trans (if_neg (by omega))) hB' H2
theorem Sv (hj:X.j<X.G.length) (n:Nat):(X.gs n)[X.j]?=some (.fn X.h (n:Int)):=by
 unfold Cx.gs;rw[List.getElem?_set_self hj]
theorem aeo (n m:Nat):((X.gs n).map hdA).set X.j (hdA (.fn X.h (m:Int)))=(X.gs m).map hdA:=by
 unfold Cx.gs;rw[<- List.map_set,List.set_set]
theorem Sw [Inhabited G3o]{w:World} (hj:X.j<X.G.length) (m:Nat) (h:(all ((X.gs n).map hdA)).at_ w):Post (all ((X.gs n).map hdA)) w (all ((X.gs m).map hdA)) (w.setCell ⟨X.h.k,6,none⟩ (.int .i64 (m:Int))):=by
 have hb:Blk w X.h.k (fnC X.h.t X.h.nm (.slice X.h.p X.h.np X.h.c) (pt X.h.kb) (n:Int) X.h.no).toArray 115:=px h (Sv hj n);have:=Rj (A:=hdA (.fn X.h (n:Int))) (i:=X.j) h (by rw[List.getElem?_map,Sv hj n];rfl) (Mj hb 6 (.int .i64 (m:Int)));rw[<- aeo n m];exact this
theorem Hs [Inhabited G3o] (hE:Hm lk X) (hL:Ls.length≤n) (hn:n≤24) (t:Tok) (s:ByteArray) (h:(scA X S n Ls).at_ W) :
  Calls prog 57 #[pt X.ks,.agg (tkL t).toArray,.string s] W (Wc (scA X S n Ls) W (pu lk Ls n t.line s) λ p e w'=>e= .returned (.int .i64 (n:Int))/\∃ S',Post (scA X S n Ls) W (scA X S' p.2 p.1) w'):=by
 refine akj X.ks 0 (tkL t).toArray s ?_;refine(St.begin h).al λ kt w2 H2=>?_;have H3:St W (scA X S n Ls).own w2 (scL X S n Ls++[blk kt (tkL t).toArray 87]):=St.open_ H2;refine⟨_,H3.ld 0 rfl (i:=1) rfl,mapp_some ⟨X.I,H3.nth 3 rfl,_,rfl,?_⟩⟩;unfold pu
 have hlk:(X.I s).isSome=(lk s).isSome:=by
  have:=hE.2 n s
  cases hq:lk s with
  | none=>rw[hq] at this;rw[show X.I s=none from this];rfl
  | some g =>
   rw[hq] at this
   cases g with
   | var w z=>obtain⟨i,k,t,nm,e, -⟩:=this;rw[e];rfl
   | fn k np=>obtain⟨i,hf,slv,e, -⟩:=this;rw[e];rfl
 rw[hlk];refine Sx.so (λ h1=>?_) (λ h1=>?_)
 ·exact⟨_,H3.ld 5 rfl (i:=2) rfl,fx H3 t.line 9 (if_pos h1)⟩
 have e1:∀ {y:C (Lcs×Nat)},(if (lk s).isSome=true then (C.err t.line 9:C (Lcs×Nat)) else y)=y:=λ {y}=>if_neg (by rw[h1];decide);rw[e1];have H3':=St.shut (L:=scL X S n Ls) H3;refine(rp s (by omega) (H3'.nth 0 rfl)).mono ?_;rintro _ w4 ⟨rfl,rfl⟩;refine⟨_,rfl,Sx.so (λ h2=>?_) (λ h2=>?_)⟩
 ·exact⟨_,H3.ld 5 rfl (i:=2) rfl,fx H3 t.line 9 (if_pos (dt h2))⟩
 have h2:=df h2;rw[show(if 0≤bf Ls s then (C.err t.line 9:C (Lcs×Nat)) else if n=24 then .err t.line 4 else .ok (Ls++[(s,n)],n+1))=if n=24 then .err t.line 4 else .ok (Ls++[(s,n)],n+1) from if_neg h2];have rd:∀ {w:World} {L:List Asn},L[4]?=some (all ((X.gs n).map hdA))->St W (scA X S n Ls).own w L->Blk w X.h.k (fnC X.h.t X.h.nm (.slice X.h.p X.h.np X.h.c) (pt X.h.kb) (n:Int) X.h.no).toArray 115:=λ e H=>px (H.nth 4 e) (Sv hE.1 n);refine⟨_,H3.ld 0 rfl (i:=4) rfl,ptr_some ⟨_,(rd rfl H3).cell' (i:=6) rfl,Sx.so (λ h3=>?_) (λ h3=>?_)⟩⟩
 ·have h3:=beq_iff_eq.1 h3;exact⟨_,H3.ld 5 rfl (i:=2) rfl,fx H3 t.line 4 (if_pos (by omega))⟩
 have h3:¬ n=24:=λ e=>by subst e;cases h3
 rw[if_neg h3]
 have l1:(Ls++[(s,n)]).length=Ls.length+1:=by simp
 refine⟨λ w=>∃ S',St W (scA X S n Ls).own w (scL X S' n (Ls++[(s,n)])),?_,λ _ w hI=>?_⟩
 ·have fin:∀ {w:World} {L:List Asn} {p p':Option Addr} {c c':Nat},St W (scA X S n Ls).own w ([blk X.ks #[pt X.kp,.map (some X.km),.slice p (Ls.length+1) c,.slice p' (Ls.length+1) c',pt X.h.k] 138,sl 9 1 (.slice p (Ls.length+1) c) (Ls.length+1) ((Ls.map λ p=>Value.string p.1)++[.string s]),sl 3 1 (.slice p' (Ls.length+1) c') (Ls.length+1) ((Ls.map λ p=>Value.int .i64 (p.2:Int))++[.int .i64 (n:Int)]),mpS X.km X.I,all ((X.gs n).map hdA)]++L)->∃ S',St W (scA X S n Ls).own w (scL X S' n (Ls++[(s,n)])):=by
   intro w L p p' c c' H;refine⟨⟨p,c,p',c'⟩,?_⟩;unfold scL;rw[l1,List.map_append,List.map_append];exact H.sub
  refine H3.dr λ w7 H7=>?_;refine⟨_,_,_,H7.ld 0 rfl (i:=2) rfl,_,_,_,H7.ld 0 rfl (i:=3) rfl,_,H7.ld 0 rfl (i:=4) rfl,ptr_some ⟨_,(rd rfl H7).cell' (i:=6) rfl,?_,?_⟩⟩
  ·refine H7.alb λ k7 w8 H8 _ hb8=>⟨hb8,⟨_,(rd rfl H8).cell' (i:=6) rfl,rfl⟩,⟨_,H8.ld 0 rfl (i:=4) rfl,rfl⟩,⟨_,_,_,H8.ld 0 rfl (i:=3) rfl,rfl⟩,?_,?_⟩
   ·refine H8.app 1 rfl [.string s] (.inr ⟨_,rfl,λ j u hj=>?_⟩) rfl (by simp;rfl) (by show Ls.length+1≤maxLen;unfold maxLen;omega) (by omega) λ p c w9 H9=>?_
    ·match j,hj with
     | 0,hj=>cases hj;exact H8.ld 6 rfl (i:=0) rfl
    refine⟨⟨_,(rd rfl H9).cell' (i:=6) rfl,rfl⟩,⟨_,H9.ld 0 rfl (i:=4) rfl,rfl⟩,⟨_,_,_,H9.ld 0 rfl (i:=3) rfl,rfl⟩,?_⟩;refine H9.al λ k16 w10 H10=>⟨⟨_,_,_,H10.ld 0 rfl (i:=3) rfl,rfl⟩,?_⟩;refine H10.app 2 rfl [.int .i64 (n:Int)] (.inr ⟨_,rfl,λ j u hj=>?_⟩) rfl (by simp;rfl) (by show Ls.length+1≤maxLen;unfold maxLen;omega) (by omega) λ p' c' w11 H11=>?_
    ·match j,hj with
     | 0,hj=>cases hj;exact H10.ld 7 rfl (i:=0) rfl
    refine H11.st 0 rfl (i:=2) (by simp) λ w12 H12=>?_;refine H12.st 0 rfl (i:=3) (by simp) λ w13 H13=>?_;exact fin H13
   ·refine H8.alb λ k8 w9 H9 _ hb9=>⟨(hb8.trans (hb9.mono hb8.size)),⟨_,_,_,H9.ld 0 rfl (i:=3) rfl,rfl⟩,?_⟩;refine H9.app 1 rfl [.string s] (.inr ⟨_,rfl,λ j u hj=>?_⟩) rfl (by simp;rfl) (by show Ls.length+1≤maxLen;unfold maxLen;omega) (by omega) λ p c w10 H10=>?_
    ·match j,hj with
     | 0,hj=>cases hj;exact H9.ld 6 rfl (i:=0) rfl
    refine⟨⟨_,_,_,H10.ld 0 rfl (i:=3) rfl,rfl⟩,?_⟩;refine H10.app 2 rfl [.int .i64 (n:Int)] (.inr ⟨_,rfl,λ j u hj=>?_⟩) rfl (by simp;rfl) (by show Ls.length+1≤maxLen;unfold maxLen;omega) (by omega) λ p' c' w11 H11=>?_
    ·match j,hj with
     | 0,hj=>cases hj;exact H10.ld 7 rfl (i:=0) rfl
    refine H11.st 0 rfl (i:=2) (by simp) λ w12 H12=>?_;refine H12.st 0 rfl (i:=3) (by simp) λ w13 H13=>?_;exact fin H13
  ·refine H7.alb λ k7 w8 H8 _ hb8=>⟨hb8,⟨_,_,_,H8.ld 0 rfl (i:=3) rfl,rfl⟩,?_⟩;refine H8.alb λ k8 w9 H9 _ hb9=>⟨(hb8.trans (hb9.mono hb8.size)),⟨_,_,_,H9.ld 0 rfl (i:=3) rfl,rfl⟩,?_⟩;refine H9.app 1 rfl [.string s] (.inr ⟨_,rfl,λ j u hj=>?_⟩) rfl (by simp;rfl) (by show Ls.length+1≤maxLen;unfold maxLen;omega) (by omega) λ p c w10 H10=>?_
   ·match j,hj with
    | 0,hj=>cases hj;exact H9.ld 7 rfl (i:=0) rfl
   refine⟨⟨_,_,_,H10.ld 0 rfl (i:=3) rfl,rfl⟩,?_⟩;refine H10.app 2 rfl [.int .i64 (n:Int)] (.inr ⟨_,rfl,λ j u hj=>?_⟩) rfl (by simp;rfl) (by show Ls.length+1≤maxLen;unfold maxLen;omega) (by omega) λ p' c' w11 H11=>?_
   ·match j,hj with
    | 0,hj=>cases hj;exact H10.ld 6 rfl (i:=0) rfl
   refine H11.st 0 rfl (i:=2) (by simp) λ w12 H12=>?_;refine H12.st 0 rfl (i:=3) (by simp) λ w13 H13=>?_;exact fin H13
 ·obtain⟨S',H5⟩:=hI;refine⟨_,H5.ld 0 rfl (i:=4) rfl,ptr_some ⟨_,(rd rfl H5).cell' (i:=6) rfl,?_⟩⟩;rintro z10 rfl;rw[show IntKind.wrap .i64 ((n:Nat)+1:Int)=((n+1:Nat):Int) from We (b:=1) (by omega)];refine ptr_some ⟨⟨_,(rd rfl H5).cell' (i:=6) rfl⟩,(rd rfl H5).frozen 6,?_⟩;rintro w14 rfl;have H6:=H5.upd 4 rfl (Sw hE.1 (n+1) (H5.nth 4 rfl));have hb:Blk _ X.h.k (fnC X.h.t X.h.nm (.slice X.h.p X.h.np X.h.c) (pt X.h.kb) ((n+1:Nat):Int) X.h.no).toArray 115:=px (H6.nth 4 rfl) (Sv hE.1 (n+1));refine⟨_,H6.ld 0 rfl (i:=4) rfl,ptr_some ⟨_,hb.cell' (i:=6) rfl,?_⟩⟩;rintro z12 rfl;refine⟨?_,S',?_⟩
  ·rw[show(((n+1:Nat):Int) - 1)=(n:Int) by omega,Go.Bits.n64 (by omega)]
  ·exact(St.shut (L:=scL X S' (n+1) (Ls++[(s,n)])) (L':=[]) H6).post 0 rfl
end Go.Proofs.YtojogkljneonmaaGreatDoor
