/- The queue, part F. No condition. -/
import Derived.Test.YtmncepdbglaphaaGreatDoorLsqE
set_option maxRecDepth 100000
namespace Go.Proofs.YtmncepdbglaphaaGreatDoor.lsq
open Go.RowKit Go.XHeap Go.Sx Go.Sep Go.Proofs.Tryz
variable {W w':wD}{b:Nat}{q v:PQ}
def ks (a:Nat) (e:En):Bool:=e.store&&(e.placed&&decide (e.addr≤a/\a<e.addr+e.size))
def xp (l:List En) (a:Nat):Option En:=l.reverse.find? (ks a)
theorem Pt (l l2:List En) (a:Nat):xp (l++l2) a=(xp l2 a).or (xp l a):=by
 unfold xp;rw[List.reverse_append,List.find?_append]
theorem Vt (e:En) (l:List En) (a:Nat):xp (e::l) a=(xp l a).or (if ks a e then some e else none):=by
 rw[show e::l=[e]++l from rfl,Pt];congr 1;unfold xp;cases h:ks a e <;> simp [h]
theorem abx {l:List En}{a:Nat}{e:En} (h:xp l a=some e):e ∈ l/\ks a e=true:=by
 unfold xp at h;exact⟨by simpa using qkB h,List.find?_some h⟩
abbrev Src:=Nat->Option En
def srcs (l:List En) (A s:Nat):Src:=λ b=>if b<s then xp l (A+b) else none
def frI:Option En->Int
 | some e=>e.seq
 | none=> -1
def bit (o:Option En):Bool:=o.isSome
def maskB (a b c d:Bool):Nat:=(if a then 1 else 0)+(if b then 2 else 0)+(if c then 4 else 0)+(if d then 8 else 0)
def maskF (F:Src):Nat:=maskB (F 0).isSome (F 1).isSome (F 2).isSome (F 3).isSome
def byteOf (a:Nat):Option En->Nat
 | some e=>e.data / 2 ^ (8 * (a - e.addr)) % 256
 | none=>0
def valF (A:Nat) (F:Src):Nat:=byteOf (A+0) (F 0)+256 * byteOf (A+1) (F 1)+65536 * byteOf (A+2) (F 2)+16777216 * byteOf (A+3) (F 3)
def Pu:Option En->Bool
 | some e=> !e.valued
 | none=>false
def waitF (F:Src):Bool:=(List.range 4).any λ b=>Pu (F b)
def frV (F:Src):AV:=#[.int .i64 (frI (F 0)),.int .i64 (frI (F 1)),.int .i64 (frI (F 2)),.int .i64 (frI (F 3))]
def jo (A:Nat) (F:Src):AV:=#[.bool false,.int .i64 (maskF F:Nat),.int .u32 (valF A F:Nat)]
def waitV:AV:=#[.bool true,.int .i64 0,.int .u32 0]
theorem ju (a:Nat) (o:Option En):byteOf a o<256:=by
 cases o with
 | none=>exact Nat.zero_lt_succ 255
 | some e=>exact qIB _ (by decide)
theorem age (A:Nat) (F:Src):valF A F<4294967296:=by
 have h0:=ju (A+0) (F 0);have h1:=ju (A+1) (F 1);have h2:=ju (A+2) (F 2);have h3:=ju (A+3) (F 3);unfold valF;omega
theorem aby (F:Src):maskF F<16:=by
 unfold maskF maskB;split <;> split <;> split <;> split <;> decide
def afc (F:Src) (c:Nat) (x:En):Src:=λ b=>if b=c then some x else F b
theorem agf (F:Src){c:Nat} (h:c<4) (x:En):(frV F).setIfInBounds c (.int .i64 x.seq)=frV (afc F c x):=by
 match c,h with
 | 0,_=>rfl
 | 1,_=>rfl
 | 2,_=>rfl
 | 3,_=>rfl
theorem agh (F:Src){c:Nat} (h:c<4):(frV F)[c]?=some (.int .i64 (frI (F c))):=by
 match c,h with
 | 0,_=>rfl
 | 1,_=>rfl
 | 2,_=>rfl
 | 3,_=>rfl
theorem Vu (F:Src){c:Nat} (h:c<4) (x:En) (hn:F c=none):maskF F |||2 ^ c=maskF (afc F c x):=by
 have key:∀ a b d e:Bool,maskB false b d e |||1=maskB true b d e/\maskB a false d e |||2=maskB a true d e/\maskB a b false e |||4=maskB a b true e/\maskB a b d false |||8=maskB a b d true:=by decide
 match c,h with
 | 0,_=>show maskB (F 0).isSome _ _ _ |||1=_;rw[hn];exact(key false (F 1).isSome (F 2).isSome (F 3).isSome).1
 | 1,_=>show maskB _ (F 1).isSome _ _ |||2=_;rw[hn];exact(key (F 0).isSome false (F 2).isSome (F 3).isSome).2.1
 | 2,_=>show maskB _ _ (F 2).isSome _ |||4=_;rw[hn];exact(key (F 0).isSome (F 1).isSome false (F 3).isSome).2.2.1
 | 3,_=>show maskB _ _ _ (F 3).isSome |||8=_;rw[hn];exact(key (F 0).isSome (F 1).isSome (F 2).isSome false).2.2.2
theorem Iz {i w h lo y:Nat} (hl:lo<2 ^ i) (hy:y<2 ^ w):(2 ^ (i+w) * h+lo) |||(2 ^ i * y)=2 ^ (i+w) * h+(2 ^ i * y+lo):=by
 have hp:2 ^ (i+w)=2 ^ i * 2 ^ w:=Nat.pow_add _ _ _
 have hlt:2 ^ i * y+lo<2 ^ (i+w):=by
  rw[hp];have:2 ^ i * (y+1)≤2 ^ i * 2 ^ w:=Nat.mul_le_mul_left _ hy;rw[Nat.mul_add] at this;omega
 have hlo:lo<2 ^ (i+w):=by omega
 rw[Nat.two_pow_add_eq_or_of_lt hlo,Nat.two_pow_add_eq_or_of_lt hlt,Nat.or_assoc];congr 1;rw[Nat.or_comm,<- Nat.two_pow_add_eq_or_of_lt hl]
theorem abz (A:Nat) (F:Src){c:Nat} (h:c<4) (x:En) (hn:F c=none):valF A F |||(byteOf (A+c) (some x) * 2 ^ (8 * c))=valF A (afc F c x):=by
 have h0:=ju (A+0) (F 0);have h1:=ju (A+1) (F 1);have h2:=ju (A+2) (F 2);have h3:=ju (A+3) (F 3);have hx:=ju (A+c) (some x);have z:∀ a,byteOf a none=0:=λ _=>rfl
 match c,h with
 | 0,_ =>
  have:=Iz (i:=0) (w:=8) (h:=byteOf (A+1) (F 1)+256 * byteOf (A+2) (F 2)+65536 * byteOf (A+3) (F 3)) (lo:=0) (y:=byteOf (A+0) (some x)) (by decide) hx;unfold valF
  show _ |||_=byteOf (A+0) (some x)+256 * byteOf (A+1) (F 1)+65536 * byteOf (A+2) (F 2)+16777216 * byteOf (A+3) (F 3)
  rw[hn,z];simp only[Nat.reduceAdd,Nat.reducePow,Nat.mul_zero,qT,Nat.one_mul,Nat.add_zero] at this ⊢;rw[show 0+256 * byteOf (A+1) (F 1)+65536 * byteOf (A+2) (F 2)+16777216 * byteOf (A+3) (F 3)=256 * (byteOf (A+1) (F 1)+256 * byteOf (A+2) (F 2)+65536 * byteOf (A+3) (F 3)) by omega,this];omega
 | 1,_ =>
  have:=Iz (i:=8) (w:=8) (h:=byteOf (A+2) (F 2)+256 * byteOf (A+3) (F 3)) (lo:=byteOf (A+0) (F 0)) (y:=byteOf (A+1) (some x)) h0 hx;unfold valF
  show _ |||_=byteOf (A+0) (F 0)+256 * byteOf (A+1) (some x)+65536 * byteOf (A+2) (F 2)+16777216 * byteOf (A+3) (F 3)
  rw[hn,z];simp only[Nat.reduceAdd,Nat.reduceMul,Nat.reducePow,Nat.mul_zero,Nat.add_zero] at this h0 ⊢;rw[show byteOf A (F 0)+65536 * byteOf (A+2) (F 2)+16777216 * byteOf (A+3) (F 3)=65536 * (byteOf (A+2) (F 2)+256 * byteOf (A+3) (F 3))+byteOf A (F 0) by omega,Nat.mul_comm _ 256,this];omega
 | 2,_ =>
  have:=Iz (i:=16) (w:=8) (h:=byteOf (A+3) (F 3)) (lo:=byteOf (A+0) (F 0)+256 * byteOf (A+1) (F 1)) (y:=byteOf (A+2) (some x)) (by show _<65536;omega) hx;unfold valF
  show _ |||_=byteOf (A+0) (F 0)+256 * byteOf (A+1) (F 1)+65536 * byteOf (A+2) (some x)+16777216 * byteOf (A+3) (F 3)
  rw[hn,z];simp only[Nat.reduceAdd,Nat.reduceMul,Nat.reducePow,Nat.mul_zero,Nat.add_zero] at this ⊢;rw[show byteOf A (F 0)+256 * byteOf (A+1) (F 1)+16777216 * byteOf (A+3) (F 3)=16777216 * byteOf (A+3) (F 3)+(byteOf A (F 0)+256 * byteOf (A+1) (F 1)) by omega,Nat.mul_comm _ 65536,this];omega
 | 3,_ =>
  have:=Iz (i:=24) (w:=8) (h:=0) (lo:=byteOf (A+0) (F 0)+256 * byteOf (A+1) (F 1)+65536 * byteOf (A+2) (F 2)) (y:=byteOf (A+3) (some x)) (by show _<16777216;omega) hx;unfold valF
  show _ |||_=byteOf (A+0) (F 0)+256 * byteOf (A+1) (F 1)+65536 * byteOf (A+2) (F 2)+16777216 * byteOf (A+3) (some x)
  rw[hn,z];simp only[Nat.reduceAdd,Nat.reduceMul,Nat.reducePow,Nat.mul_zero,Nat.add_zero,qW] at this ⊢;rw[Nat.mul_comm _ 16777216,this];omega
open Go.RowKit Go.XHeap Go.Sx Go.Sep Go.Bits
def pj (A:Nat) (F:Src) (e:Ending):Prop:=if waitF F=true then ∃ g0 g1 g2 g3:Int,e=eY #[.agg waitV,.agg #[.int .i64 g0,.int .i64 g1,.int .i64 g2,.int .i64 g3]] else e=eY #[.agg (jo A F),.agg (frV F)]
theorem Eh (F:Src):∀ v ∈ (frV F).toList,v.oneCell'=true:=by
 intro v hv;simp [frV] at hv;rcases hv with rfl | rfl | rfl | rfl <;> rfl
theorem xt (A:Nat) (F:Src):∀ v ∈ (jo A F).toList,v.oneCell'=true:=by
 intro v hv;simp [jo] at hv;rcases hv with rfl | rfl | rfl <;> rfl
theorem vx:∀ v ∈ waitV.toList,v.oneCell'=true:=by
 intro v hv;simp [waitV] at hv;rcases hv with rfl | rfl | rfl <;> rfl
theorem Lv {a s:Nat}{e:En} (ho:e.Ok) (ha:a+s≤4294967296) (hs:s≤4) (he:e.store=true) (hp:e.placed=true) (c:Nat) (hc:c<s):ks (a+c) e=true↔km e.addr a≤c/\(c:Int)<se e.addr e.size a s:=by
 have h4:e.size≤4:=by rcases ho.size with e | e | e | e <;> omega
 rw[Pp ho.fits ha hs h4];unfold ks;rw[he,hp,qoB,qoB,decide_eq_true_iff];omega
theorem aca {d n:Nat} (hd:d<4294967296):IntKind.wrap .u32 (((bZ .u32 ((d / 2 ^ n:Nat):Int) &&&bZ .u32 255).toNat:Nat):Int)=((d / 2 ^ n % 256:Nat):Int):=by
 have h:=land32 (x:=d / 2 ^ n) (y:=255) (qBC (Nat.div_le_self _ _) hd) (by decide);have e:d / 2 ^ n &&&255=d / 2 ^ n % 256:=Nat.and_two_pow_sub_one_eq_mod _ 8;rw[e] at h;exact h
set_option maxHeartbeats 1000000 in
theorem Ac (h:(qA b q).at_ W) (ho:AllOk q.es) (hn:q.es.length≤32) (i:Nat) (x:Nat×En) (hx:q.es[i]?=some x) :
  Calls Tryz.prog 210 #[pZ b 0,.int .i64 i] W λ e w=>pj x.2.addr (srcs ((ens q).take i) x.2.addr x.2.size) e/\ba W w:=by
 have hil:=(qD.1 hx).1;have hxo:=ho x (qN hx)
 have hsz:x.2.size≤4:=by rcases hxo.size with e | e | e | e <;> omega
 have hfit:=hxo.fits;have keep:∀ {A:wD} {L:List Asn},St W No A L->(qA b q).at_ A:=λ H=>(qA b q).keep h H.touch (λ _ _ e=>e);refine ajn b 0 i ((St.nil W).al λ k A H=>H.al λ k2 B H=>?_);have R:=fz (keep H);obtain⟨g,o,hpp,hc⟩:=ptr_at (R.nth 1 rfl) hx;refine⟨_,_,_,R.ld 0 rfl rfl,⟨by omega,by omega⟩,adr_eq hpp ⟨_,hc,?_⟩⟩;rintro vs rfl;refine H.sts0 1 rfl rfl rfl (by intro v hv;simp at hv;rcases hv with rfl | rfl | rfl | rfl <;> rfl) λ C H=>?_;rintro z rfl;rw[w64 (by omega) (by omega)];clear R hc hpp;obtain⟨old,hold⟩:∃ old,old=(ens q).take i:=⟨_,rfl⟩
 have holl:old.length=i:=by rw[hold,qq];simp [ens];omega
 rw[<- hold];obtain⟨Fm,hFm⟩:∃ Fm:Nat->Src,Fm=λ m=>srcs (old.drop m) x.2.addr x.2.size:=⟨_,rfl⟩
 have hFmb:∀ m c,Fm m c=if c<x.2.size then xp (old.drop m) (x.2.addr+c) else none:=λ m c=>by rw[hFm];rfl
 have hF0:Fm 0=srcs old x.2.addr x.2.size:=by rw[hFm];rfl
 rw[<- hF0]
 have hFi:Fm i=λ _=>none:=by
  funext c;rw[hFmb,qvB (by omega)];split <;> rfl
 have H:St W No C [blk k (jo x.2.addr (Fm i)) 290,blk k2 (frV (Fm i)) 196]:=by rw[hFi];exact H
 have oldmem:∀ e,e ∈ old->∃ y ∈ q.es,y.2=e:=λ e he=>by
  rw[hold] at he;have:=qRB he;unfold ens at this;obtain⟨y,hy,rfl⟩:=qCB.1 this;exact⟨y,hy,rfl⟩
 have seqpos:∀ m c e,Fm m c=some e->0≤e.seq:=λ m c e he=>by
  rw[hFmb] at he;split at he
  ·obtain⟨h1, -⟩:=abx he;obtain⟨y,hy,rfl⟩:=oldmem e (qhB h1);exact(ho y hy).pos
  ·cases he
 have mono:∀ m c e,Fm m c=some e->Fm 0 c=some e:=λ m c e he=>by
  rw[hFmb] at he ⊢;split at he
  ·rename_i hc;rw[if_pos hc,List.drop_zero,<- qzB m old,Pt,he];rfl
  ·cases he
 have Nu:∀ m c e,c<4->Fm m c=some e->e.valued=false->waitF (Fm 0)=true:=λ m c e hc he hv=>by
  unfold waitF;refine List.any_eq_true.2 ⟨c,qNB.2 hc,?_⟩;rw[mono m c e he];show(!e.valued)=true;rw[hv];rfl
 refine⟨λ z D=>∃ m:Nat,z=(m:Int) - 1/\m≤i/\(∀ c,c<4->Pu (Fm m c)=false)/\St W No D [blk k (jo x.2.addr (Fm m)) 290,blk k2 (frV (Fm m)) 196],λ z _=>(z+1).toNat,⟨i,rfl,qY _,λ c _=>by rw[hFi];rfl,H⟩,λ _=>?_⟩;clear H;rintro z D ⟨m,rfl,hm,hnw,H⟩;refine aa (λ q1=>?_) (λ q1=>?_)
 ·have q1:=qB q1;obtain⟨j,rfl⟩:∃ j,m=j+1:=⟨m - 1,by omega⟩
  have ej:((j+1:Nat):Int) - 1=(j:Nat):=by omega
  rw[ej]
  have hjl:j<q.es.length:=by omega
  have hy:=qC hjl;obtain⟨y,hye⟩:∃ y,y=q.es[j]:=⟨_,rfl⟩;rw[<- hye] at hy;have hyo:=ho y (qN hy)
  have hdr:old.drop j=y.2::old.drop (j+1):=by
   have:old[j]?=some y.2:=by rw[hold,qa (by omega)];simp [ens,hy]
   obtain⟨hjo,e⟩:=qD.1 this;rw[qYB hjo,e]
  have hFj:∀ c,Fm j c=if c<x.2.size then (Fm (j+1) c).or (if ks (x.2.addr+c) y.2 then some y.2 else none) else none:=λ c=>by
   rw[hFmb,hFmb];split
   ·rename_i hc;rw[hdr,Vt]
   ·rfl
  have R:=fz (keep H);obtain⟨g,o,hpp,hc⟩:=ptr_at (R.nth 1 rfl) hy;have hB:=bf (R.nth 2 rfl) hy;have hBx:=bf (R.nth 2 rfl) hx
  have miss:(∀ c,Fm j c=Fm (j+1) c)->∀ z2:Int,z2=IntKind.wrap .i64 ((j:Int) - 1)->(∃ m:Nat,z2=(m:Int) - 1/\m≤i/\(∀ c,c<4->Pu (Fm m c)=false)/\St W No D [blk k (jo x.2.addr (Fm m)) 290,blk k2 (frV (Fm m)) 196])/\(z2+1).toNat<((j:Int)+1).toNat:=by
   rintro hs z2 rfl;have:Fm j=Fm (j+1):=funext hs;rw[w64 (by omega) (by omega)];exact⟨⟨j,rfl,by omega,by rw[this];exact hnw,by rw[this];exact H⟩,by omega⟩
  have nocover:(∀ a,ks a y.2=false)->∀ c,Fm j c=Fm (j+1) c:=λ hno c=>by
   rw[hFj,hno];split
   ·cases Fm (j+1) c <;> rfl
   ·rename_i hc;rw[hFmb,if_neg hc]
  refine⟨_,_,_,R.ld 0 rfl rfl,⟨by omega,by omega⟩,adr_eq hpp ⟨_,hc,ptr_some ⟨y.2.store,by rw[ac];exact hB.cell' rfl,aa (λ q2=>?_) (λ q2=>ptr_some ⟨y.2.placed,by rw[ac];exact hB.cell' rfl,aa (λ q3=>?_) (λ q3=>?_)⟩)⟩⟩⟩
  ·have q2:y.2.store=false:=by simpa using q2
   exact miss (nocover λ a=>by unfold ks;rw[q2];rfl)
  ·have q3:y.2.placed=false:=by simpa using q3
   exact miss (nocover λ a=>by unfold ks;rw[q3,qbB,Bool.and_false])
  have q2:y.2.store=true:=by simpa using q2
  have q3:y.2.placed=true:=by simpa using q3
  refine ptr_some ⟨x.2.addr,by rw[ac];exact hBx.cell' rfl,ptr_some ⟨x.2.size,by rw[ac];exact hBx.cell' rfl,_,_,λ k12=>Ef hB hyo x.2.addr x.2.size hxo.addr hsz k12,?_⟩⟩;rintro E n rfl;have H:=H.drewN n;have hcov:=λ c hc=>Lv hyo hfit hsz q2 q3 c hc;have hlo:=Pq y.2.addr x.2.addr;have hhi:=Pr y.2.addr y.2.size x.2.addr x.2.size;obtain⟨lo,hlo2⟩:∃ lo:Nat,km y.2.addr x.2.addr=lo:=⟨(km y.2.addr x.2.addr).toNat,by omega⟩;obtain⟨hi,hhi2⟩:∃ hi:Int,se y.2.addr y.2.size x.2.addr x.2.size=hi:=⟨_,rfl⟩;rw[hlo2] at hlo;rw[hhi2] at hhi;rw[hlo2,hhi2] at hcov;rw[hlo2,hhi2]
  obtain⟨mix,hmix⟩:∃ mix:Nat->Src,mix=λ c c2=>if lo≤c2/\c2<c then Fm j c2 else Fm (j+1) c2:=⟨_,rfl⟩
  have hmx:∀ c c2,mix c c2=if lo≤c2/\c2<c then Fm j c2 else Fm (j+1) c2:=λ c c2=>by rw[hmix]
  have hm0:mix lo=Fm (j+1):=by
   funext c2;rw[hmx,if_neg (by omega)]
  refine⟨λ z F=>∃ c:Nat,z=c/\lo≤c/\(c:Int)≤max (lo:Int) hi/\(∀ c2,c2<4->Pu (mix c c2)=false)/\St W No F [blk k (jo x.2.addr (mix c)) 290,blk k2 (frV (mix c)) 196],λ z _=>100 - z.toNat,⟨lo,rfl,qY _,by omega,by rw[hm0];exact hnw,by rw[hm0];exact H⟩,λ _=>?_⟩;clear H R hpp hc hB hBx miss hnw;rintro z F ⟨c,rfl,hc1,hc2,hnw,H⟩;refine aa (λ q4=>?_) (λ q4=>?_)
  ·have q4:=qB q4
   have hcs:c<x.2.size:=by omega
   have hc4:c<4:=by omega
   have hcv:ks (x.2.addr+c) y.2=true:=(hcov c hcs).2 ⟨by omega,q4⟩
   have hFjc:Fm j c=(Fm (j+1) c).or (some y.2):=by rw[hFj,if_pos hcs,hcv];rfl
   have hmc:mix c c=Fm (j+1) c:=by rw[hmx,if_neg (by omega)]
   have next:∀ {G:wD},mix (c+1)=mix c->St W No G [blk k (jo x.2.addr (mix c)) 290,blk k2 (frV (mix c)) 196]->∀ z9:Int,z9=IntKind.wrap .i64 ((c:Int)+1)->(∃ c:Nat,z9=c/\lo≤c/\(c:Int)≤max (lo:Int) hi/\(∀ c2,c2<4->Pu (mix c c2)=false)/\St W No G [blk k (jo x.2.addr (mix c)) 290,blk k2 (frV (mix c)) 196])/\100 - z9.toNat<100 - (c:Int).toNat:=by
    rintro G hs H z9 rfl;rw[w64 (by omega) (by omega)];exact⟨⟨c+1,by omega,by omega,by omega,by rw[hs];exact hnw,by rw[hs];exact H⟩,by omega⟩
   have e0:0+(c:Int).toNat * 1=c:=by omega
   rw[e0];refine⟨⟨by omega,by omega⟩,frI (mix c c),(H.blk 1 rfl).cell' (agh _ hc4),aa (λ q5=>?_) (λ q5=>?_)⟩
   ·have q5:¬ frI (mix c c)= -1:=by simpa using q5
    refine next ?_ H
    funext c2;rw[hmx,hmx];by_cases e:c2=c
    ·subst e;rw[if_pos ⟨hc1,Nat.lt_succ_self _⟩,if_neg (by omega),hFjc]
     cases hq:Fm (j+1) c2 with
     | none=>exact absurd (by rw[hmc,hq];rfl) q5
     | some e=>rfl
    ·by_cases e2:lo≤c2/\c2<c
     ·rw[if_pos ⟨e2.1,by omega⟩,if_pos e2]
     ·rw[if_neg (by omega),if_neg e2]
   ·have q5:frI (mix c c)= -1:=by simpa using q5
    have hnone:mix c c=none:=by
     cases hq:mix c c with
     | none=>rfl
     | some e =>
      rw[hmc] at hq;have:=seqpos _ _ _ hq;rw[hmc,hq] at q5;have q5:e.seq= -1:=q5;omega
    have hFjs:Fm j c=some y.2:=by rw[hFjc,<- hmc,hnone];rfl
    have hupd:mix (c+1)=afc (mix c) c y.2:=by
     funext c2;rw[hmx];unfold afc;by_cases e:c2=c
     ·subst e;rw[if_pos ⟨hc1,Nat.lt_succ_self _⟩,if_pos rfl,hFjs]
     ·rw[if_neg e,hmx];by_cases e2:lo≤c2/\c2<c
      ·rw[if_pos ⟨e2.1,by omega⟩,if_pos e2]
      ·rw[if_neg (by omega),if_neg e2]
    have hB:=bf ((fz (keep H)).nth 2 rfl) hy;refine ptr_some ⟨y.2.seq,by rw[ac];exact hB.cell' rfl,⟨by omega,by omega⟩,H.st 1 rfl (by show c<4;omega) λ G H=>?_⟩;rw[agf _ hc4,<- hupd] at H;have H:St W No G [blk k (jo x.2.addr (mix c)) 290,blk k2 (frV (mix (c+1))) 196]:=H;have hB:=bf ((fz (keep H)).nth 2 rfl) hy;refine⟨λ G=>St W No G [blk k #[.bool (!y.2.valued),.int .i64 (maskF (mix c):Nat),.int .u32 (valF x.2.addr (mix c):Nat)] 290,blk k2 (frV (mix (c+1))) 196],⟨false,H.ld 0 rfl rfl,aa (λ q=>by cases q) (λ _=>ptr_some ⟨y.2.valued,by rw[ac];exact hB.cell' rfl,H.st 0 rfl (by show 0<3;omega) λ I H=>H⟩)⟩,λ _=>?_⟩;clear H hB;rintro G H;refine⟨!y.2.valued,H.ld 0 rfl rfl,aa (λ q6=>?_) (λ q6=>?_)⟩
    ·have q6:y.2.valued=false:=by simpa using q6
     refine H.dr λ I H=>?_;rintro vs rfl
     have fin:∀ {G:wD},ba W G->pj x.2.addr (Fm 0) (eY #[.agg waitV,.agg (frV (mix (c+1)))])/\ba W G:=λ hh=>⟨by
      unfold pj;rw[if_pos (Nu j c y.2 hc4 hFjs q6)]
      exact⟨_,_,_,_,rfl⟩,hh⟩
     exact⟨⟨_,rfl,H.cells 1 rfl,Below.refl _ _,H.sts0 0 rfl rfl rfl vx λ J H=>H.sts0 1 rfl rfl rfl (Eh _) λ K H=>⟨waitV,rfl,H.cells 0 rfl,_,rfl,H.cells 1 rfl,fin H.touch⟩⟩,
      H.sts0 0 rfl rfl rfl vx λ J H=>⟨_,rfl,H.cells 1 rfl,H.sts0 1 rfl rfl rfl (Eh _) λ K H=>⟨waitV,rfl,H.cells 0 rfl,_,rfl,H.cells 1 rfl,fin H.touch⟩⟩⟩
    ·have q6:y.2.valued=true:=by simpa using q6
     rw[q6] at H;have hml:=aby (mix c);have hvl:=age x.2.addr (mix c);refine H.dr λ I H=>⟨_,H.ld 0 rfl rfl,by omega,?_⟩;rintro z12 rfl;rw[one_shl (by omega)];rintro z13 rfl;rw[aip (by omega) (qBC (qX (by decide) (show c≤3 by omega)) (by decide)),Vu _ hc4 y.2 hnone,<- hupd];refine H.st 0 rfl (by show 1<3;omega) λ J H=>H.dr λ K H=>⟨_,H.ld 0 rfl rfl,?_⟩;have R:=fz (keep H);have hB:=bf (R.nth 2 rfl) hy;have hBx:=bf (R.nth 2 rfl) hx
     have hcv2:y.2.addr≤x.2.addr+c/\x.2.addr+c<y.2.addr+y.2.size:=by
      unfold ks at hcv;rw[q2,q3,qoB,qoB,decide_eq_true_iff] at hcv;exact hcv
     have hy4:y.2.size≤4:=by rcases hyo.size with e | e | e | e <;> omega
     have hyd:=hyo.data;have hya:=hyo.addr;refine ptr_some ⟨y.2.data,by rw[ac];exact hB.cell' rfl,ptr_some ⟨x.2.addr,by rw[ac];exact hBx.cell' rfl,?_⟩⟩;rintro z17 rfl;rw[n32 (by omega)];rintro z18 rfl;rw[show((x.2.addr:Nat):Int)+(c:Nat)=((x.2.addr+c:Nat):Int) by omega,n32 (by omega)];refine ptr_some ⟨y.2.addr,by rw[ac];exact hB.cell' rfl,?_⟩;rintro z20 rfl;rw[show((x.2.addr+c:Nat):Int) - (y.2.addr:Nat)=((x.2.addr+c - y.2.addr:Nat):Int) by omega,n32 (by omega)];rintro z21 rfl;rw[show 8 * ((x.2.addr+c - y.2.addr:Nat):Int)=((8 * (x.2.addr+c - y.2.addr):Nat):Int) by omega,n32 (by omega)];refine⟨by omega,?_⟩;have hbits:IntKind.bits .u32=32:=rfl;rintro z22 rfl;rw[qG,show min (8 * (x.2.addr+c - y.2.addr)) (IntKind.bits .u32)=8 * (x.2.addr+c - y.2.addr) by rw[hbits];omega,shr];rintro z23 rfl;rw[aca hyd];rintro z24 rfl;rw[show 8 * ((c:Nat):Int)=((8 * c:Nat):Int) by omega,n64 (by omega)];refine⟨by omega,?_⟩;rintro z25 rfl;have hby:=ju (x.2.addr+c) (some y.2);have hpow:2 ^ (8 * c)≤2 ^ 24:=qX (by decide) (by omega)
     have hprod:byteOf (x.2.addr+c) (some y.2) * 2 ^ (8 * c)<4294967296:=by
      have:=Nat.mul_le_mul (Nat.le_of_lt_succ (show byteOf (x.2.addr+c) (some y.2)<255+1 from hby)) hpow;omega
     have e25:IntKind.wrap .u32 (((y.2.data / 2 ^ (8 * (x.2.addr+c - y.2.addr)) % 256:Nat):Int) * 2 ^ min ((8 * c:Nat):Int).toNat (IntKind.bits .u32))=((byteOf (x.2.addr+c) (some y.2) * 2 ^ (8 * c):Nat):Int):=by
      rw[qG,show min (8 * c) (IntKind.bits .u32)=8 * c by rw[hbits];omega]
      have:((y.2.data / 2 ^ (8 * (x.2.addr+c - y.2.addr)) % 256:Nat):Int) * 2 ^ (8 * c)=((byteOf (x.2.addr+c) (some y.2) * 2 ^ (8 * c):Nat):Int):=by
       rw[Int.natCast_mul,Int.natCast_pow];rfl
      rw[this,n32 hprod]
     rw[e25];rintro z26 rfl;rw[lor32 hvl hprod,abz _ _ hc4 y.2 hnone,<- hupd];refine H.st 0 rfl (by show 2<3;omega) λ L H=>?_;rintro z27 rfl;rw[w64 (by omega) (by omega)];refine⟨⟨c+1,by omega,by omega,by omega,λ c2 hc2=>?_,H⟩,by show 100 - ((c:Int)+1).toNat<100 - (c:Int).toNat;omega⟩;rw[hupd];unfold afc;split
     ·show(!y.2.valued)=false;rw[q6];rfl
     ·exact hnw c2 hc2
  ·have q4:=qE q4
   have hall:mix c=Fm j:=by
    funext c2;rw[hmx];split
    ·rfl
    ·rename_i hne;rw[hFj];split
     ·rename_i hcs
      have:¬ ks (x.2.addr+c2) y.2=true:=λ e=>by
       have:=(hcov c2 hcs).1 e;omega
      rw[Bool.eq_false_iff.2 this];cases Fm (j+1) c2 <;> rfl
     ·rename_i hcs;rw[hFmb,if_neg hcs]
   rw[hall] at H hnw;rintro z28 rfl;rw[w64 (by omega) (by omega)];exact⟨⟨j,rfl,by omega,hnw,H⟩,by show((j:Int) - 1+1).toNat<((j:Int)+1).toNat;omega⟩
 ·have q1:=qE q1;obtain rfl:m=0:=by omega
  have hw:waitF (Fm 0)=false:=by
   refine Bool.eq_false_iff.2 λ e=>?_;obtain⟨c,hc,e⟩:=List.any_eq_true.1 e;rw[hnw c (qNB.1 hc)] at e;cases e
  refine H.dr λ I H=>⟨_,rfl,H.cells 0 rfl,?_⟩
  have fin:∀ {G:wD},ba W G->pj x.2.addr (Fm 0) (eY #[.agg (jo x.2.addr (Fm 0)),.agg (frV (Fm 0))])/\ba W G:=λ hh=>⟨by
   unfold pj
   rw[if_neg (by rw[hw];decide)],hh⟩
  exact⟨⟨_,rfl,H.cells 1 rfl,Below.refl _ _,H.sts0 0 rfl rfl rfl (xt _ _) λ J H=>H.sts0 1 rfl rfl rfl (Eh _) λ K H=>⟨_,rfl,H.cells 0 rfl,_,rfl,H.cells 1 rfl,fin H.touch⟩⟩,
   H.sts0 0 rfl rfl rfl (xt _ _) λ J H=>⟨_,rfl,H.cells 1 rfl,H.sts0 1 rfl rfl rfl (Eh _) λ K H=>⟨_,rfl,H.cells 0 rfl,_,rfl,H.cells 1 rfl,fin H.touch⟩⟩⟩
theorem load_some {s:Int}{es:Ens}{k:Nat} (h:loadP s es=some k):∃ x,es[k]?=some x/\x.2.store=false/\x.2.placed=true:=by
 unfold loadP at h
 cases hp:fu (findP s) es with
 | none=>rw[hp] at h;cases h
 | some k2 =>
  rw[hp] at h;obtain⟨x,hx, -, -⟩:=pos_some hp;have h:(match es[k2]? with | some x=>if x.2.store|| !x.2.placed then none else some k2 | none=>none)=some k:=h;rw[hx] at h;have h:(if x.2.store|| !x.2.placed then none else some k2)=some k:=h;split at h
  ·cases h
  ·rename_i hn;cases h;refine⟨x,hx,?_,?_⟩
   ·cases hs:x.2.store <;> simp [hs] at hn ⊢
   ·cases hs:x.2.placed <;> simp [hs] at hn ⊢
def unplaced (e:En):Bool:=e.store&& !e.placed
theorem Hc {A:wD}{x:Nat×En} (hb:Blk A x.1 x.2.cells 198):Calls prog 209 #[pZ x.1 0] A λ e w=>e=eZ (.bool (unplaced x.2))/\ba A w :=
 ajh x.1 0 ⟨x.2.store,hb.cell' rfl,aa (λ q=>⟨x.2.placed,hb.cell' rfl,by unfold unplaced;rw[q];rfl,qH _ _⟩) (λ q=>⟨by unfold unplaced;rw[q];rfl,qH _ _⟩)⟩
def searchV (bold:Bool) (es:Ens) (k:Nat) (x:En):AV :=
 if (!bold&&(es.take k).any λ y=>unplaced y.2)=true then waitV else if waitF (srcs ((es.map (·.2)).take k) x.addr x.size)=true then waitV else jo x.addr (srcs ((es.map (·.2)).take k) x.addr x.size)
def SearchPost (s:Int) (bold:Bool) (es:Ens) (e:Ending):Prop:=match loadP s es with
 | none=>e=eY #[.agg #[.bool false,.int .i64 0,.int .u32 0],errN 7]
 | some k=>∃ x,es[k]?=some x/\e=eY #[.agg (searchV bold es k x.2),.nilIface]
theorem Vv:∀ v ∈ (#[Value.bool false,.int .i64 0,.int .u32 0]:AV).toList,v.oneCell'=true:=by
 intro v hv;simp at hv;rcases hv with rfl | rfl | rfl <;> rfl
theorem Vw (a b c d:Int):∀ v ∈ (#[Value.int .i64 a,.int .i64 b,.int .i64 c,.int .i64 d]:AV).toList,v.oneCell'=true:=by
 intro v hv;simp at hv;rcases hv with rfl | rfl | rfl | rfl <;> rfl
theorem Ad {A:Nat}{F:Src}{e:Ending} (h:pj A F e):∃ v1 v2:AV,e=eY #[.agg v1,.agg v2]/\v1.size=3/\v2.size=4/\(∀ v ∈ v1.toList,v.oneCell'=true)/\(∀ v ∈ v2.toList,v.oneCell'=true)/\v1=(if waitF F=true then waitV else jo A F)/\v1[0]?=some (.bool (waitF F))/\(waitF F=false->v2=frV F):=by
 unfold pj at h;split at h
 ·rename_i hw;obtain⟨g0,g1,g2,g3,rfl⟩:=h;exact⟨_,_,rfl,rfl,rfl,vx,Vw _ _ _ _,(if_pos hw).symm,by rw[hw];rfl,λ e=>by rw[hw] at e;cases e⟩
 ·rename_i hw;subst h;have hw:waitF F=false:=Bool.eq_false_iff.2 hw;exact⟨_,_,rfl,rfl,rfl,xt _ _,Eh _,(if_neg (by rw[hw];decide)).symm,by rw[hw];rfl,λ _=>rfl⟩
theorem search_any (h:(qA b q).at_ W) (ho:AllOk q.es) (hn:q.es.length≤32) (s:Int) (bold:Bool):Calls prog 161 #[pZ b 0,.int .i64 s,.bool bold] W λ e w=>SearchPost s bold q.es e/\ba W w:=by
 have keep:∀ {A:wD} {L:List Asn},St W No A L->(qA b q).at_ A:=λ H=>(qA b q).keep h H.touch (λ _ _ e=>e);refine aiz b 0 s bold ((St.nil W).al λ k A H=>?_);refine(load_any (keep H) hn s).mono ?_;rintro e B ⟨rfl,hh⟩;have H:=H.quiet hh
 cases hp:loadP s q.es with
 | none =>
  refine⟨-1,rfl,aa (λ _=>?_) (λ q=>by simp at q)⟩;rintro vs rfl;refine H.sts0 0 rfl rfl rfl Vv λ C H=>⟨_,rfl,H.cells 0 rfl,?_,H.touch⟩;unfold SearchPost;rw[hp];rfl
 | some i =>
  obtain⟨x,hx,hst,hpl⟩:=load_some hp;have hil:=(qD.1 hx).1;refine⟨((i:Nat):Int),rfl,aa (λ q=>by have:=qB q;omega) (λ _=>?_)⟩;have give:∀ {C:wD} {vs2:AV},vs2=searchV bold q.es i x.2->ba W C->SearchPost s bold q.es (eY #[.agg vs2,.nilIface])/\ba W C:=λ e hh=>⟨by unfold SearchPost;rw[hp];exact⟨x,hx,by rw[e]⟩,hh⟩
  have gat:∀ {C:wD},St W No C [blk k #[.bool false,.int .i64 0,.int .u32 0] 290]->(!bold&&(q.es.take i).any λ y=>unplaced y.2)=false->Calls prog 210 #[pZ b 0,.int .i64 (i:Nat)] C λ e3 W7=>∃ vs5 vs6:AV,e3=eY #[.agg vs5,.agg vs6] /\
    ∀ (k6:Nat) (W8:wD),k6=W7.heap.size->W8=W7.alloc (.cells #[.bool false,.int .i64 0,.int .u32 0] 290)->∀ (k7:Nat) (W9:wD),k7=W8.heap.size->W9=W8.alloc (.cells #[.int .i64 0,.int .i64 0,.int .i64 0,.int .i64 0] 196) ->
     (vs5.size=3/\(∀ j:Nat,j<3->(∃ v,W9.cell? ⟨k6,0+j,none⟩=some v)/\W9.frozen? ⟨k6,0+j,none⟩=false)/\(∀ v:Value,v ∈ vs5.toList->v.oneCell'=true)/\∀ W10:wD,W10=W9.setCells k6 0 vs5.toList ->
      (vs6.size=4/\(∀ j:Nat,j<4->(∃ v,W10.cell? ⟨k7,0+j,none⟩=some v)/\W10.frozen? ⟨k7,0+j,none⟩=false)/\(∀ v:Value,v ∈ vs6.toList->v.oneCell'=true)/\∀ W11:wD,W11=W10.setCells k7 0 vs6.toList ->
       ∃ vs7:AV,vs7.size=3/\cellsAt W11 ⟨k6,0,none⟩ vs7/\(vs7.size=3/\(∀ j:Nat,j<3->(∃ v,W11.cell? ⟨k,0+j,none⟩=some v)/\W11.frozen? ⟨k,0+j,none⟩=false)/\(∀ v:Value,v ∈ vs7.toList->v.oneCell'=true)/\∀ W12:wD,W12=W11.setCells k 0 vs7.toList ->
        ∃ vs8:AV,vs8.size=3/\cellsAt W12 ⟨k,0,none⟩ vs8/\(SearchPost s bold q.es (eY #[.agg vs8,.nilIface])/\ba W W12)))):=by
   intro C H hno;refine(Ac (keep H) ho hn i x hx).mono ?_;rintro e3 D ⟨hg,hh⟩;obtain⟨v1,v2,rfl,s1,s2,o1,o2,e1, -, -⟩:=Ad hg;have H:=H.quiet hh;refine⟨v1,v2,rfl,H.al λ k6 E H=>H.al λ k7 F H=>H.sts0 1 rfl s1 rfl o1 λ G H=>H.sts0 2 rfl s2 rfl o2 λ I H=>⟨v1,s1,H.cells 1 rfl,H.sts0 0 rfl s1 rfl o1 λ J H=>⟨v1,s1,H.cells 0 rfl,give ?_ H.touch⟩⟩⟩;rw[e1,show searchV bold q.es i x.2=if waitF (srcs ((ens q).take i) x.2.addr x.2.size)=true then waitV else jo x.2.addr (srcs ((ens q).take i) x.2.addr x.2.size) by unfold searchV;rw[if_neg (by rw[hno];decide)];rfl]
  refine aa (λ q1=>?_) (λ q1=>?_)
  ·have q1:bold=false:=by simpa using q1
   have R:=fz (keep H);refine⟨_,_,_,R.ld 0 rfl rfl,⟨by omega,by have:=Iv (R.nth 1 rfl:Sl _ _ _ _ _ _);omega⟩,?_⟩;rw[qG];have hpre:=Sl.pre (R.nth 1 rfl:Sl _ _ _ _ _ _) (Nat.le_of_lt hil);rw[qT,show(ptrs q.es).take i=ptrs (q.es.take i) by unfold ptrs;rw[List.map_take]] at hpre;refine ajg _ _ _ ((ajp hpre (by omega) unplaced λ j y C hy hh2=>?_).mono ?_)
   ·have hy2:q.es[j]?=some y:=by
     have hjl:=(qD.1 hy).1;rw[qq] at hjl;rw[qa (by omega)] at hy;exact hy
    exact Hc ((bf (R.nth 2 rfl) hy2).keep hh2 (λ e=>e))
   ·rintro e C ⟨rfl,hh2⟩;have H:=H.quiet hh2
    have hany:decide (abu (fu unplaced (q.es.take i)) ≥ 0)=(q.es.take i).any λ y=>unplaced y.2:=by
     cases hq:fu unplaced (q.es.take i) with
     | none =>
      unfold fu at hq;rw[qxB] at hq
      rw[show((q.es.take i).any λ y=>unplaced y.2)=false from Bool.eq_false_iff.2 λ h=>by
       obtain⟨y,hy,e⟩:=List.any_eq_true.1 h
       rw[hq y hy] at e;cases e]
      rfl
     | some j =>
      obtain⟨y,hy,e, -⟩:=pos_some hq;rw[show((q.es.take i).any λ y=>unplaced y.2)=true from List.any_eq_true.2 ⟨y,qN hy,e⟩];exact qI (by show(0:Int)≤(j:Nat);omega)
    refine⟨_,rfl,_,congrArg (λ t:Bool=>eZ (Value.bool t)) hany,aa (λ q2=>?_) (λ q2=>gat H (by rw[q1,q2];rfl))⟩;rintro vs rfl;refine H.sts0 0 rfl rfl rfl vx λ D H=>⟨waitV,rfl,H.cells 0 rfl,give ?_ H.touch⟩;unfold searchV;rw[if_pos (by rw[q1,q2];rfl)]
  ·have q1:bold=true:=by simpa using q1
   exact gat H (by rw[q1];rfl)
def En.withFr (e:En) (F:Src):En:={ e with loaded:=true,f0:=frI (F 0),f1:=frI (F 1),f2:=frI (F 2),f3:=frI (F 3) }
def loadedK (s:Int) (es:Ens):Option Nat:=match loadP s es with
 | none=>none
 | some k=>match es[k]? with
  | none=>none
  | some x=>if x.2.loaded=true∨waitF (srcs ((es.map (·.2)).take k) x.2.addr x.2.size)=true then none else some k
def LoadedPost (W:wD) (b:Nat) (q:PQ) (s:Int) (e:Ending) (w:wD):Prop:=match loadedK s q.es with
 | none=>e=eZ (errN 7)/\Sep.Post (qA b q) W (qA b q) w
 | some k=>e=eZ .nilIface/\∃ x,q.es[k]?=some x/\Sep.Post (qA b q) W (qA b { q with es:=q.es.set k (x.1,x.2.withFr (srcs ((ens q).take k) x.2.addr x.2.size)) }) w
theorem _root_.Go.Sep.St.ents {w0 w:wD}{M:Nat->Prop}{L:List Asn} (H:St w0 M w L) (j:Nat){es:Ens} (hj:L[j]?=some (df es)){k:Nat}{x:Nat×En} (hk:es[k]?=some x){o n:Nat}{vs:AV} (e':En) (hv:vs.size=n) (hi:o+n≤13) (h1:∀ v ∈ vs.toList,v.oneCell'=true) (he:e'.cells=bv x.2.cells o vs.toList){φ:wD->Prop}
  (hq:∀ w',St w0 M w' (L.set j (df (es.set k (x.1,e'))))->φ w'):vs.size=n/\(∀ i:Nat,i<n->(∃ v,w.cell? ⟨x.1,o+i,none⟩=some v)/\w.frozen? ⟨x.1,o+i,none⟩=false)/\(∀ v:Value,v ∈ vs.toList->v.oneCell'=true)/\∀ w':wD,w'=w.setCells x.1 o vs.toList->φ w':=by
 have hl:vs.toList.length=n:=by rw[Array.length_toList];exact hv
 obtain⟨h2,h3⟩:=Vk (H.nth j hj) hk (o:=o) (vs:=vs.toList) (by rw[hl];exact hi) he;refine⟨hv,λ i hi=>h2 i (by rw[hl];exact hi),h1,?_⟩;rintro w' rfl;exact hq _ (H.upd j hj h3)
theorem loaded_any (h:(qA b q).at_ W) (ho:AllOk q.es) (hn:q.es.length≤32) (s:Int):Calls prog 164 #[pZ b 0,.int .i64 s] W (LoadedPost W b q s):=by
 refine aja b 0 s ((load_any h hn s).mono ?_);rintro e A ⟨rfl,hh⟩;have H:St W (qA b q).own A (q.pieces b++[]):=(fz h).quiet hh
 cases hp:loadP s q.es with
 | none =>
  refine⟨-1,rfl,aa (λ _=>?_) (λ q=>by simp at q)⟩;unfold LoadedPost;rw[show loadedK s q.es=none by unfold loadedK;rw[hp]];exact⟨rfl,Ed h hh⟩
 | some i =>
  obtain⟨x,hx,hst,hpl⟩:=load_some hp;have hil:=(qD.1 hx).1
  have hr:loadedK s q.es=if x.2.loaded=true∨waitF (srcs ((q.es.map (·.2)).take i) x.2.addr x.2.size)=true then none else some i:=by unfold loadedK;rw[hp];show(match q.es[i]? with | none=>none | some x=>_)=_;rw[hx]
  have bad:(x.2.loaded=true∨waitF (srcs ((q.es.map (·.2)).take i) x.2.addr x.2.size)=true)->∀ {B:wD},St W (qA b q).own B (q.pieces b++[])->LoadedPost W b q s (eZ (errN 7)) B:=λ e B H=>by
   unfold LoadedPost;rw[hr,if_pos e];exact⟨rfl,Ab H⟩
  obtain⟨g,o,hpp,hc⟩:=ptr_at (H.nth 1 rfl) hx;have hB:=bf (H.nth 2 rfl) hx;refine⟨((i:Nat):Int),rfl,aa (λ q=>by have:=qB q;omega) (λ _=>?_)⟩;refine⟨_,_,_,H.ld 0 rfl rfl,⟨by omega,by omega⟩,adr_eq hpp ⟨_,hc,ptr_some ⟨x.2.loaded,by rw[ac];exact hB.cell' rfl,aa (λ q1=>bad (.inl q1) H) (λ q1=>?_)⟩⟩⟩;have hcur:(qA b q).at_ A:=(here_append.1 H.here).1;refine(Ac hcur ho hn i x hx).mono ?_;rintro e3 B ⟨hg,hh2⟩;obtain⟨v1,v2,rfl,s1,s2,o1,o2, -,e0,e2⟩:=Ad hg;have H:=H.quiet hh2;refine⟨v1,v2,rfl,H.al λ k5 C H=>H.al λ k6 D H=>H.sts0 3 rfl s1 rfl o1 λ E H=>H.sts0 4 rfl s2 rfl o2 λ F H=>⟨_,H.ld 3 rfl e0,aa (λ q2=>bad (.inr q2) (H.take 3)) (λ q2=>?_)⟩⟩;have e2:=e2 q2;subst e2
  have fin:∀ {I:wD} {L:List Asn},St W (qA b q).own I ([blk b q.root 128,sl 199 1 (.slice q.p q.es.length q.cap) q.es.length (ptrs q.es),df (q.es.set i (x.1,x.2.withFr (srcs ((ens q).take i) x.2.addr x.2.size)))]++L)->LoadedPost W b q s (eZ .nilIface) I:=λ {I} {L} H=>by
   unfold LoadedPost;rw[hr,if_neg (by rintro(e | e);rw[q1] at e;cases e;exact absurd (e.symm.trans q2) (by decide))];exact⟨rfl,x,hx,vw hx H⟩
  refine H.dr λ G H=>?_;obtain⟨g,o,hpp,hc⟩:=ptr_at (H.nth 1 rfl) hx
  have hx2:(q.es.set i (x.1,{ x.2 with loaded:=true }))[i]?=some (x.1,{ x.2 with loaded:=true }):=by rw[qO hil]
  refine⟨_,_,_,H.ld 0 rfl rfl,⟨by omega,by omega⟩,adr_eq hpp ⟨_,hc,_,_,_,H.ld 0 rfl rfl,⟨by omega,by omega⟩,adr_eq hpp ⟨_,hc,ptr_some ⟨⟨_,s2,H.cells 4 rfl,Below.refl _ _,?_⟩,?_⟩⟩⟩⟩
  ·rw[ac];refine H.ent 2 rfl hx { x.2 with loaded:=true } (by omega) rfl λ I H=>ptr_some ?_
   exact H.ents (o:=8) 2 rfl hx2 (x.2.withFr (srcs ((ens q).take i) x.2.addr x.2.size)) s2 (by omega) o2 rfl λ J H=>fin (L:=[_,_]) (by
    rw[qWB,qWB] at H
    exact H)
  ·rw[ac];refine H.ent 2 rfl hx { x.2 with loaded:=true } (by omega) rfl λ I H=>⟨_,s2,H.cells 4 rfl,ptr_some ?_⟩
   exact H.ents (o:=8) 2 rfl hx2 (x.2.withFr (srcs ((ens q).take i) x.2.addr x.2.size)) s2 (by omega) o2 rfl λ J H=>fin (L:=[_,_]) (by
    rw[qWB,qWB] at H
    exact H)
end Go.Proofs.YtmncepdbglaphaaGreatDoor.lsq
