/- The parser in memory: its tokens; the small functions that look at them. No condition. -/
import Derived.Test.YtojogkljneonmaaGreatDoorSxH
import Derived.Test.YtojogkljneonmaaGreatDoorLangQ
import Derived.Test.YtojogkljneonmaaGreatDoorShelf
set_option linter.unusedVariables false
set_option linter.unusedSimpArgs false
namespace Go.Proofs.YtojogkljneonmaaGreatDoor
open Go Go.Proofs.Tryz Go.Proofs Go.Sep Go.XHeap Go.RowKit Go.Lang
def tkL (t:Tok):List Value:=[.int .u8 (t.k:Nat),.string t.s,.int .i64 t.line]
def tkV (t:Tok):Value:=.agg (tkL t).toArray
theorem Rm (t:Tok):(tkL t).length=3:=rfl
theorem gf (t:Tok):∀ v ∈ (tkL t),v.oneCell'=true:=by
 intro v hv;simp only[tkL,List.mem_cons,List.not_mem_nil,or_false] at hv;rcases hv with rfl | rfl | rfl <;> rfl
theorem Sl.tailN {w:World}{e size n g off cap:Nat}{x xs:List Value} (hx:x.length=size) (hs:0<size) (h:Sl w e size (.slice (some ⟨g,off,none⟩) (n+1) cap) (n+1) (x++xs)):Sl w e size (.slice (Sx.sub (some ⟨g,off,none⟩) cap 1 size) n (cap - 1)) n xs:=by
 obtain⟨hl,h⟩:=h;rw[List.length_append,hx,Nat.add_mul,Nat.one_mul] at hl;refine⟨by omega,?_⟩;rcases h with ⟨h, -⟩ | ⟨g',off',cap',cur,hv,hb,h1,h2,h3,h4⟩
 ·simp at h
 ·simp at hv;obtain⟨⟨rfl,rfl⟩,rfl⟩:=hv
  have key:(List.drop (off+size) cur.toList).take (n * size)=xs:=by
   rw[Nat.add_mul,Nat.one_mul,Nat.add_comm (n * size)] at h4;have:=congrArg (List.drop size) h4;rw[List.drop_take,List.drop_drop] at this;rw[show size+n * size - size=n * size by omega] at this;rw[this,<- hx];simp
  have hc:(cap - 1) * size=cap * size - size:=by rw[Nat.sub_mul,Nat.one_mul]
  have hcs:size≤cap * size:=Nat.le_mul_of_pos_left _ (by omega);unfold Sx.sub;split
  ·rename_i e;subst e
   have:n=0:=by omega
   subst this;refine .inr ⟨g,off,0,cur,rfl,hb,by omega,by omega,by omega,?_⟩;simp at hl;subst hl;simp
  ·refine .inr ⟨g,off+size,cap - 1,cur,by simp [Addr.add,Nat.one_mul];omega,hb,by omega,by omega,by omega,key⟩
def ahy (t:Tok):Prop:=t.k=2->t.s.data.toList≠[]/\t.s.data.toList.all isD=true
def Good (l:List Tok):Prop:=(∃ l0 t,l=l0++[t]/\t.k=0)/\(∀ t ∈ l,ahy t)/\(∀ t ∈ l,t.s.size≤8000)/\l.length≤8001
theorem Good.cons {l:List Tok} (h:Good l):∃ t l',l=t::l':=by
 obtain⟨⟨l0,t,rfl, -⟩, -⟩:=h
 cases l0 with
 | nil=>exact⟨t,[],rfl⟩
 | cons a l0=>exact⟨a,_,rfl⟩
theorem Good.tail {t:Tok}{l:List Tok} (h:Good (t::l)) (hk:t.k≠0):Good l:=by
 obtain⟨⟨l0,u,e,hu⟩,h2,h3,h4⟩:=h;refine⟨?_,λ x hx=>h2 x (List.mem_cons_of_mem _ hx),λ x hx=>h3 x (List.mem_cons_of_mem _ hx),by simp at h4;omega⟩
 cases l0 with
 | nil=>simp at e;rw[e.1] at hk;exact absurd hu hk
 | cons a l0=>simp at e;exact⟨l0,u,e.2,hu⟩
def globA [Inhabited G3o]:Asn where
 own k:=k=3
 at_ w:=(∃ t v,w.cell? ⟨3,0,none⟩=some (.iface t v))/\w.heap[3]?=some (default:G3o).o
 keep:=by
  rintro T w w' ⟨⟨t,v,h⟩,h2⟩ ht hn;have hlt:=World.block_lt_of_cell? _ _ h;exact⟨⟨t,v,(ht.cell (p:=⟨3,0,none⟩) hlt (hn 3 rfl)).trans h⟩,(ht.block 3 hlt (hn 3 rfl)).trans h2⟩
 lt:=by
  rintro w ⟨⟨t,v,h⟩, -⟩ k rfl;exact World.block_lt_of_cell? _ _ h
def Xc (g off c:Nat) (l:List Tok):Value:=.slice (some ⟨g,off,none⟩) l.length c
def Ro [Inhabited G3o] (b g off c:Nat) (l:List Tok) (n:Nat):List Asn:=[blk b #[Xc g off c l,.int .i64 (n:Nat)] 84,sl 87 3 (Xc g off c l) l.length (l.flatMap tkL),globA]
def bn [Inhabited G3o] (b g:Nat) (l:List Tok) (n:Nat):Asn where
 own k:=k=b∨k=g∨k=3
 at_ w:=(Good l/\n≤25)/\∃ off c,here (Ro b g off c l n) w
 keep:=by
  rintro T w w' ⟨h0,off,c,h⟩ ht hn;refine⟨h0,off,c,h.keep ht ?_⟩;rintro k (e | e | e | e)
  ·exact hn k (.inl e)
  ·have:some g=some k:=e;cases this;exact hn g (.inr (.inl rfl))
  ·exact hn k (.inr (.inr e))
  ·exact e.elim
 lt:=by
  rintro w ⟨h0,off,c,h⟩ k hk;refine h.lt k ?_;rcases hk with e | e | e
  ·exact .inl e
  ·subst e;exact .inr (.inl rfl)
  ·exact .inr (.inr (.inl e))
variable {W:World}{b g n:Nat}{l:List Tok}
theorem jx [Inhabited G3o]{w0 w:World}{M:Nat->Prop}{L:List Asn} (H:St w0 M w (bn b g l n::L)):Good l/\n≤25/\∃ off c,St w0 M w (Ro b g off c l n++L):=by
 obtain⟨h0,off,c,h⟩:=H.nth 0 rfl;refine⟨h0.1,h0.2,off,c,H.unfold_ (λ _=>h) ?_⟩;rintro q (e | e | e | e)
 ·exact .inl e
 ·have:some g=some q:=e;cases this;exact .inr (.inl rfl)
 ·exact .inr (.inr e)
 ·exact e.elim
theorem ol [Inhabited G3o]{w0 w:World}{M:Nat->Prop}{L:List Asn}{off c:Nat} (hG:Good l) (hn:n≤25) (H:St w0 M w (Ro b g off c l n++L)):St w0 M w (bn b g l n::L):=by
 refine H.fold (Ls:=Ro b g off c l n) (λ h=>⟨⟨hG,hn⟩,off,c,h⟩) ?_;rintro q (e | e | e)
 ·exact .inl e
 ·subst e;exact .inr (.inl rfl)
 ·exact .inr (.inr (.inl e))
theorem ye [Inhabited G3o] (h:(bn b g l n).at_ W):Good l/\n≤25:=h.1
theorem Kp [Inhabited G3o] (h:(bn b g l n).at_ W):∃ l',l=now l::l':=by
 obtain⟨t,l',rfl⟩:=h.1.1.cons;exact⟨l',rfl⟩
theorem Hh [Inhabited G3o]{t:Tok}{l:List Tok}{off c:Nat} (h:Sl W 87 3 (Xc g off c (t::l)) (t::l).length ((t::l).flatMap tkL)):Sx.cellsAt W ⟨g,off+0,none⟩ (tkL t).toArray:=by
 rcases h.2 with ⟨h, -⟩ | ⟨g',off',cap,cur,hv,hb,q1,q2,q3,q4⟩
 ·simp [Xc] at h
 ·simp [Xc] at hv;obtain⟨⟨rfl,rfl⟩,rfl⟩:=hv;refine Sx.cellsAt_of_blk (o:=off+0) hb _ λ i v hi=>?_
  have hi3:i<3:=by
   have:=(Array.getElem?_eq_some_iff.1 hi).1;simpa [tkL] using this
  rw[<- Array.getElem?_toList];have h5:=congrArg (·[i]?) q4;simp only[List.flatMap_cons] at h5;rw[List.getElem?_take_of_lt (by simp;omega),List.getElem?_drop,List.getElem?_append_left (by rw[Rm];exact hi3)] at h5;rw[Nat.add_zero,h5];simpa using hi
theorem fc {A:Asn}{w w':World} (h:A.at_ w) (hh:im w w'):A.at_ w':=A.keep h hh (λ _ _ e=>e)
theorem db {a b c:World} (h:im a b) (h':im b c):im a c:=XTouch.trans h h' (λ _ _ e=>e)
theorem gx [Inhabited G3o] (h:(bn b g l n).at_ W):Calls prog 25 #[.pointer (some ⟨b,0,none⟩)] W λ e w'=>e= .returned (tkV (now l))/\im W w':=by
 refine ala b 0 ?_;refine(St.nil W).al λ k w2 H2=>?_;obtain⟨-, -,off,c,h2⟩:=jx (St.begin (fc h H2.touch));obtain⟨l',hl⟩:=Kp h;rw[hl] at h2;refine⟨_,_,_,h2.ld 0 rfl (i:=0) (v:=Xc g off c (now l::l')) rfl,⟨by omega,by simp⟩,?_⟩;refine adr_some ?_;refine⟨_,rfl,Hh (h2.nth 1 rfl),?_⟩;refine H2.sts0 0 (n:=3) (vs:=(tkL (now l)).toArray) rfl rfl rfl (by simpa using gf _) λ w3 H3=>?_;refine⟨_,rfl,H3.cells 0 rfl,rfl,H3.touch⟩
theorem uj [Inhabited G3o] (h:(bn b g l n).at_ W) (hk:(now l).k≠0):Calls prog 90 #[.pointer (some ⟨b,0,none⟩)] W λ e w'=>e= .returned (tkV (now l))/\Post (bn b g l n) W (bn b g l.tail n) w':=by
 obtain⟨l',hl⟩:=Kp h;generalize ht:now l=t at *;subst hl;refine ald b 0 ?_;refine(St.begin h).al λ k w2 H2=>?_;obtain⟨hG,hn,off,c,H2⟩:=jx H2;refine⟨_,_,_,H2.ld 0 rfl (i:=0) (v:=Xc g off c (t::l')) rfl,⟨by omega,by simp⟩,?_⟩;refine adr_some ?_;refine⟨_,rfl,Hh (H2.nth 1 rfl),?_⟩;refine H2.al λ k2 w3 H3=>?_;refine H3.sts0 4 (n:=3) (vs:=(tkL t).toArray) rfl rfl rfl (by simpa using gf t) λ w4 H4=>?_;refine⟨_,_,_,H4.ld 0 rfl (i:=0) (v:=Xc g off c (t::l')) rfl,⟨by omega,by simp;omega⟩,?_⟩;refine H4.st 0 rfl (by simp) λ w5 H5=>?_;refine⟨_,rfl,H5.cells 4 rfl,?_⟩;refine H5.sts0 3 (n:=3) (vs:=(tkL t).toArray) rfl rfl rfl (by simpa using gf t) λ w6 H6=>?_;refine⟨_,rfl,H6.cells 3 rfl,rfl,?_⟩
 have H7:=(H6.take 3).conv 1 (A':=sl 87 3 (.slice (Sx.sub (some ⟨g,off,none⟩) c 1 3) l'.length (c - 1)) l'.length (l'.flatMap tkL)) rfl (λ h=>Sl.tailN (Rm t) (by omega) h) (by
  intro q hq;show some g=some q;unfold Sx.sub at hq
  split at hq <;> exact hq)
 have hex:∃ o,Sx.sub (some ⟨g,off,none⟩) c 1 3=some ⟨g,o,none⟩:=by
  unfold Sx.sub;split
  ·exact⟨_,rfl⟩
  ·exact⟨off+3,rfl⟩
 obtain⟨o,ho⟩:=hex;simp only[ho] at H7;have H8:St W (bn b g (t::l') n).own w6 (Ro b g o (c - 1) l' n++[]):=H7;exact(ol (hG.tail hk) hn H8).post 0 rfl
def Ow (b:Nat) (line e:Int):Asn:=blk b #[.int .i64 line,.int .i64 e] 79
def pan (b:Nat):List PanicEntry:=[{ v:=.iface 77 (.pointer (some ⟨b,0,none⟩)),recovered:=false }]
def Err (R A:Asn) (w:World) (line en:Int) (e:Ending) (w':World):Prop:=∃ b,e= .panicked (pan b)/\Post A w (all [Ow b line en,R]) w'
def Ans {α:Type} (R A:Asn) (w:World) (r:Lang.R α) (K:α->List Tok->Ending->World->Prop) (e:Ending) (w':World):Prop:=match r with
 | .ok x l=>K x l e w'
 | .err line en=>Err R A w line en e w'
 | .out=>True
section
variable {P:Program}{f:FuncId}{args:Array Value}{w0 w:World}{M:Nat->Prop}{R A A0:Asn}{L:List Asn}{α β:Type}{K:α->List Tok->Ending->World->Prop}{line en:Int}{x:α}{l:List Tok}{G:Ending->World->Prop}{Z:List PanicEntry->World->Prop}
theorem uk {k:Nat} (B:Asn) (hk:L[k]?=some A):(L.set k B)[k]?=some B:=by
 rw[List.getElem?_set_self (by
  rcases Nat.lt_or_ge k L.length with h | h
  ·exact h
  ·rw[List.getElem?_eq_none h] at hk;cases hk)]
theorem Vz [Inhabited G3o] (H:St w0 A0.own w L) (k:Nat) (hk:L[k]?=some A) (hc:Calls P f args w (Err R A w line en)):Calls P f args w (λ e w'=>G e w'∨∃ c:List PanicEntry,e= .panicked c/\Err R A0 w0 line en (.panicked c) w') :=
 hc.mono λ e w' ⟨b,he,hp⟩=>.inr ⟨_,he,b,rfl,(H.upd k hk hp).post k (uk _ hk)⟩
theorem vw [Inhabited G3o] (H:St w0 A0.own w L) (k:Nat) (hk:L[k]?=some A) (hc:Calls P f args w (Err R A w line en)):Calls P f args w (λ e w'=>∃ c:List PanicEntry,e= .panicked c/\Err R A0 w0 line en (.panicked c) w') :=
 hc.mono λ e w' ⟨b,he,hp⟩=>⟨_,he,b,rfl,(H.upd k hk hp).post k (uk _ hk)⟩
end
def mv [Inhabited G3o] (b:Nat):Asn where
 own k:=k=b∨k=3
 at_ w:=∃ v z,here [blk b #[v,.int .i64 z] 84,globA] w
 keep:=by
  rintro T w w' ⟨v,z,h⟩ ht hn;refine⟨v,z,h.keep ht ?_⟩;rintro k (e | e | e)
  ·exact hn k (.inl e)
  ·exact hn k (.inr e)
  ·exact e.elim
 lt:=by
  rintro w ⟨v,z,h⟩ k (e | e)
  ·exact h.lt k (.inl e)
  ·exact h.lt k (.inr (.inl e))
theorem zo [Inhabited G3o]{w0 w:World}{M:Nat->Prop}{L:List Asn}{b:Nat} (H:St w0 M w (mv b::L)):∃ v z,St w0 M w ([blk b #[v,.int .i64 z] 84,globA]++L):=by
 obtain⟨v,z,h⟩:=H.nth 0 rfl;refine⟨v,z,H.unfold_ (λ _=>h) ?_⟩;rintro q (e | e | e)
 ·exact .inl e
 ·exact .inr e
 ·exact e.elim
theorem Hi [Inhabited G3o]{w0 w:World}{M:Nat->Prop}{L:List Asn}{b:Nat}{v:Value}{z:Int} (H:St w0 M w ([blk b #[v,.int .i64 z] 84,globA]++L)):St w0 M w (mv b::L):=by
 refine H.fold (Ls:=[blk b #[v,.int .i64 z] 84,globA]) (λ h=>⟨v,z,h⟩) ?_;rintro q (e | e)
 ·exact .inl e
 ·exact .inr (.inl e)
theorem Xd [Inhabited G3o]{w0 w:World}{M:Nat->Prop}{L:List Asn} (H:St w0 M w (bn b g l n::L)):St w0 M w (mv b::L) :=
 H.conv 0 rfl (λ ⟨_,off,c,h⟩=>⟨_,_,St.here_sel h [0,2] (by decide)⟩) (λ q hq=>by
  rcases hq with e | e
  ·exact .inl e
  ·exact .inr (.inr e))
theorem Mm (line e:Int):Calls prog 52 #[.int .i64 line,.int .i64 e] W λ en w'=>∃ b,en= .panicked (pan b)/\Post emp W (Ow b line e) w':=by
 refine aky line e ?_;rintro _ rfl;refine(St.nil W).al λ k w2 H2=>?_;exact⟨k,rfl,H2.new 0 rfl⟩
theorem Ei [Inhabited G3o] (hA:(bn b g l n).at_ W) (line e:Int):Calls prog 52 #[.int .i64 line,.int .i64 e] W (Err (mv b) (bn b g l n) W line e):=by
 refine(Mm line e).mono ?_;rintro en w' ⟨q,rfl,hp⟩;have H:=(Xd (L:=[_]) ((St.begin hA).add hp)).pick [1,0];exact⟨q,rfl,St.post (St.shut (L:=[_,_]) (L':=[]) H) 0 rfl⟩
theorem gy [Inhabited G3o] (e:Int) (h:(bn b g l n).at_ W):Calls prog 91 #[.pointer (some ⟨b,0,none⟩),.int .i64 e] W (Err (mv b) (bn b g l n) W (now l).line e):=by
 refine akz b 0 e ?_;refine(St.begin h).callq (gx h) λ w2 H2=>?_;refine⟨_,rfl,_,rfl,?_⟩;exact vw H2 0 rfl (Ei (H2.nth 0 rfl) (now l).line e)
theorem ab (s t:ByteArray):(ByteArray.toList s==ByteArray.toList t)=decide (s=t):=by
 rw[<- beq_toListBytes];by_cases h:s=t
 ·rw[decide_eq_true h];exact(MapKept.bytes_beq s t).2 h
 ·rw[decide_eq_false h];exact Bool.eq_false_iff.2 λ e=>h ((MapKept.bytes_beq s t).1 e)
theorem Cp [Inhabited G3o] (s:ByteArray) (h:(bn b g l n).at_ W):Calls prog 89 #[.pointer (some ⟨b,0,none⟩),.string s] W λ e w'=>e= .returned (.bool (is s l))/\im W w':=by
 refine ale b 0 s ?_;refine(gx h).mono ?_;rintro _ w2 ⟨rfl,h2⟩;refine⟨_,rfl,_,rfl,?_⟩;refine Sx.so (λ h3=>?_) (λ h3=>?_)
 ·have hk:(now l).k=3:=by have:=beq_iff_eq.1 h3;omega
  refine(gx (fc h h2)).mono ?_;rintro _ w3 ⟨rfl,h4⟩;refine⟨_,rfl,_,rfl,?_,db h2 h4⟩;rw[ab];simp [Go.Lang.is,hk]
 ·have hk:¬ (now l).k=3:=λ e=>by rw[e] at h3;cases h3
  exact⟨by simp [Go.Lang.is,hk],h2⟩
theorem kz {s:ByteArray} (h:is s l=true):(now l).k≠0:=by
 unfold is at h;rw[Bool.and_eq_true] at h;have:=dt h.1;omega
theorem dq [Inhabited G3o] (s:ByteArray) (h:(bn b g l n).at_ W):Calls prog 49 #[.pointer (some ⟨b,0,none⟩),.string s] W λ e w'=>e= .returned (.bool (is s l))/\Post (bn b g l n) W (bn b g (if is s l then l.tail else l) n) w':=by
 refine alf b 0 s ?_;refine(St.begin h).callq (Cp s h) λ w2 H2=>?_;refine⟨_,rfl,?_⟩;refine Sx.so (λ h3=>?_) (λ h3=>?_)
 ·have h3:is s l=false:=by simpa using h3
  rw[h3];exact⟨rfl,H2.post 0 rfl⟩
 ·have h3:is s l=true:=by simpa using h3
  rw[h3];refine H2.call 0 rfl (uj (H2.nth 0 rfl) (kz h3)) λ w3 H3=>?_;exact⟨_,rfl,rfl,H3.post 0 rfl⟩
theorem om [Inhabited G3o] (s:ByteArray) (h:(bn b g l n).at_ W):Calls prog 53 #[.pointer (some ⟨b,0,none⟩),.string s] W (Ans (mv b) (bn b g l n) W (want s l λ l=>.ok () l) λ _ l' e w'=>e= .returned (.tuple #[])/\Post (bn b g l n) W (bn b g l' n) w'):=by
 refine alg b 0 s ?_;refine(St.begin h).call 0 rfl (dq s h) λ w2 H2=>?_;refine⟨_,rfl,?_⟩;unfold want
 cases hi:is s l with
 | false =>
  rw[hi] at H2;exact vw H2 0 rfl (gy 8 (H2.nth 0 rfl))
 | true =>
  rw[hi] at H2;exact⟨rfl,H2.post 0 rfl⟩
theorem oq [Inhabited G3o] (h:(bn b g l n).at_ W):Calls prog 50 #[.pointer (some ⟨b,0,none⟩)] W (Ans (mv b) (bn b g l n) W (name l λ t l=>.ok t l) λ t l' e w'=>e= .returned (tkV t)/\Post (bn b g l n) W (bn b g l' n) w'):=by
 refine alh b 0 ?_;refine(St.begin h).al λ k w2 H2=>?_;refine H2.callq (gx (H2.nth 0 rfl)) λ w3 H3=>?_;refine⟨_,rfl,_,rfl,?_⟩;unfold name;refine Sx.so (λ h3=>?_) (λ h3=>?_)
 ·have hk:(now l).k≠1:=λ e=>by rw[e] at h3;cases h3
  rw[if_pos hk];exact vw H3 0 rfl (gy 8 (H3.nth 0 rfl))
 ·have hk1:(now l).k=1:=by rw[bne_eq_false_iff_eq] at h3;omega
  rw[if_neg (λ h=>h hk1)];refine H3.callq (gx (H3.nth 0 rfl)) λ w4 H4=>?_;refine⟨_,rfl,_,rfl,?_⟩;refine Sx.so (λ h4=>?_) (λ h4=>?_)
  ·have h4:=dt h4;rw[if_pos (show 16<(now l).s.size by omega)];exact vw H4 0 rfl (gy 3 (H4.nth 0 rfl))
  ·have h4:=df h4;rw[if_neg (show ¬ 16<(now l).s.size by omega)];refine H4.call 0 rfl (uj (H4.nth 0 rfl) (by omega)) λ w5 H5=>?_;refine⟨_,rfl,?_⟩;refine H5.sts0 1 (n:=3) (vs:=(tkL (now l)).toArray) rfl rfl rfl (by simpa using gf _) λ w6 H6=>?_;exact⟨_,rfl,H6.cells 1 rfl,rfl,H6.post 0 rfl⟩
theorem gc [Inhabited G3o]{s:ByteArray} (h:(bn b g l n).at_ W) (hi:is s l=true):Calls prog 53 #[.pointer (some ⟨b,0,none⟩),.string s] W λ e w'=>e= .returned (.tuple #[])/\Post (bn b g l n) W (bn b g l.tail n) w':=by
 have:=om s h;unfold want at this;rw[hi] at this;exact this
theorem ml [Inhabited G3o]{s:ByteArray} (h:(bn b g l n).at_ W) (hi:is s l=false):Calls prog 53 #[.pointer (some ⟨b,0,none⟩),.string s] W (Err (mv b) (bn b g l n) W (now l).line 8):=by
 have:=om s h;unfold want at this;rw[hi] at this;exact this
theorem Zs:∀ (l:List UInt8) (acc:Nat),l.all isD=true->acc≤4294967295->Lib.parseUintM 4294967295 acc l=(if l.foldl (λ n c=>10 * n+(c.toNat - 48)) acc≤4294967295 then .ok (l.foldl (λ n c=>10 * n+(c.toNat - 48)) acc) else .range)
 | [],acc,_,ha=>by simp [Lib.parseUintM,ha]
 | c::r,acc,h,ha=>by
  rw[List.all_cons,Bool.and_eq_true] at h
  have hd:48≤c.toNat/\c.toNat≤57:=by
   have:=h.1;unfold isD at this;rw[Bool.and_eq_true] at this;have h1:=dt this.1;have h2:=dt this.2;exact⟨h1,h2⟩
  unfold Lib.parseUintM;rw[if_pos hd,if_neg (by omega)]
  have mono:∀ (l:List UInt8) (a:Nat),a≤l.foldl (λ n c=>10 * n+(c.toNat - 48)) a:=by
   intro l
   induction l with
   | nil=>intro a;exact Nat.le_refl _
   | cons x l ih=>intro a;exact Nat.le_trans (show a≤10 * a+(x.toNat - 48) by omega) (ih _)
  rw[List.foldl_cons,Nat.mul_comm acc 10];by_cases h2:4294967295<10 * acc+(c.toNat - 48)
  ·rw[if_pos h2,if_neg (by have:=mono r (10 * acc+(c.toNat - 48));omega)]
  ·rw[if_neg h2];exact Zs r _ h.2 (by omega)
theorem aej [Inhabited G3o]{s:ByteArray} (h0:s.data.toList≠[]) (h:s.data.toList.all isD=true):Lib.parseUintB 32 s.data.toList=if Go.Lang.valOf s≤4294967295 then .ok (Go.Lang.valOf s) else .range:=by
 unfold Lib.parseUintB;rw[if_neg h0];exact Zs _ 0 h (by omega)
theorem zp (w:World) (t:TypeId) (s:ByteArray):im w (Lib.bytesWorld w t s) :=
 ⟨rfl,rfl,rfl,by rw[Lib.bytesWorld_size];omega,λ k hk _=>Lib.bytesWorld_at_old w t s k hk⟩
theorem Cq [Inhabited G3o] (h:(bn b g l n).at_ W):Calls prog 51 #[.pointer (some ⟨b,0,none⟩)] W (Ans (mv b) (bn b g l n) W (number l λ v l=>.ok v l) λ v l' e w'=>e= .returned (.int .u32 v)/\Post (bn b g l n) W (bn b g l' n) w'):=by
 refine ali b 0 ?_;refine(St.begin h).callq (gx h) λ w3 H3=>?_;refine⟨_,rfl,_,rfl,?_⟩;unfold number;refine Sx.so (λ h3=>?_) (λ h3=>?_)
 ·have hk:(now l).k≠2:=λ e=>by rw[e] at h3;cases h3
  rw[if_pos hk];exact vw H3 0 rfl (gy 8 (H3.nth 0 rfl))
 ·have hk1:(now l).k=2:=by rw[bne_eq_false_iff_eq] at h3;omega
  rw[if_neg (λ h=>h hk1)];refine H3.callq (gx (H3.nth 0 rfl)) λ w4 H4=>?_;refine⟨_,rfl,_,rfl,?_⟩;obtain⟨hG, -⟩:=ye h;obtain⟨l',hl⟩:=Kp h;obtain⟨hd0,hd⟩:=hG.2.1 (now l) (by rw[hl];exact List.mem_cons_self ..) hk1;have hsz:=hG.2.2.1 (now l) (by rw[hl];exact List.mem_cons_self ..);have hp:=aej hd0 hd;by_cases hv:4294967296≤Go.Lang.valOf (now l).s
  ·rw[if_pos hv];rw[if_neg (by omega)] at hp;obtain⟨-, -,off,c,hop⟩:=jx (St.begin (H4.nth 0 rfl));obtain⟨⟨tt,vv,hgl⟩, -⟩:=hop.nth 2 rfl;refine(Tryz.strconv_ParseUint_10_at32_range (now l).s (by omega) hp _ w4 hgl (.inr ⟨_,_,rfl⟩)).mono ?_;rintro _ w5 ⟨N,rfl, -, -,hb⟩;have H5:=H4.quiet (w':=w5) ((XTouch.of_below hb).mono λ k hk hs=>by omega);refine⟨_,_,rfl,qp ?_⟩;exact vw H5 0 rfl (gy 3 (H5.nth 0 rfl))
  ·rw[if_neg hv];rw[if_pos (by omega)] at hp;refine(Tryz.strconv_ParseUint_10_at32_ok (now l).s (by omega) _ hp w4).mono ?_;rintro _ w5 ⟨rfl,hw⟩
   have H5:=H4.quiet (w':=w5) (by
    rcases hw with rfl | rfl
    ·exact XTouch.refl _ _
    ·exact zp _ _ _)
   refine⟨_,_,rfl,Mk ?_⟩;refine H5.call 0 rfl (uj (H5.nth 0 rfl) (by omega)) λ w6 H6=>?_;refine⟨_,rfl,?_⟩;rintro z rfl;refine⟨?_,H6.post 0 rfl⟩;rw[show IntKind.wrap .u32 ((Go.Lang.valOf (now l).s:Nat):Int)=((Go.Lang.valOf (now l).s:Nat):Int) from Go.Bits.n32 (by omega)]
def pt (k:Nat):Value:=.pointer (some ⟨k,0,none⟩)
def jd (t:Tok) (s w:Int):List Value:=tkL t++[.int .i64 s,.int .i64 w]
def em (t:Tok) (w z:Int) (x:Value):List Value:=tkL t++[.int .i64 w,.int .u32 z,x]
def sk (t:Tok) (f:Option Addr) (v:Value):List Value:=tkL t++[.pointer f,v]
def unC (t:Tok) (x:Value):List Value:=tkL t++[.string t.s,x]
def Wa (t:Tok) (x y:Value):List Value:=tkL t++[.string t.s,x,y]
def Qe (t:Tok) (k:Nat) (x:Value) (nw:Bool):List Value:=tkL t++[pt k,x,.bool nw]
def isP:T->List Value->Asn->Prop
 | .num v _,vs,A=>vs=[.iface 211 (.int .u32 v)]/\A=emp
 | .name t s w,vs,A=>∃ k,vs=[.iface 167 (pt k)]/\A=blk k (jd t s w).toArray 221
 | .index t w z p,vs,A=>∃ k x A1,isP p [x] A1/\vs=[.iface 177 (pt k)]/\A=all [blk k (em t w z x).toArray 176,A1]
 | .call t f xs,vs,A=>∃ k p c us A1,isP xs us A1/\vs=[.iface 193 (pt k)]/\A=all [blk k (sk t f (.slice p us.length c)).toArray 214,sl 169 1 (.slice p us.length c) us.length us,A1]
 | .un t x,vs,A=>∃ k v A1,isP x [v] A1/\vs=[.iface 215 (pt k)]/\A=all [blk k (unC t v).toArray 217,A1]
 | .bin t x y,vs,A=>∃ k u v A1 A2,isP x [u] A1/\isP y [v] A2/\vs=[.iface 218 (pt k)]/\A=all [blk k (Wa t u v).toArray 230,A1,A2]
 | .nil,vs,A=>vs=[]/\A=all []
 | .cons x xs,vs,A=>∃ v us A1 As,isP x [v] A1/\isP xs us (all As)/\vs=v::us/\A=all (A1::As)
 | .letS t nm s w x,vs,A=>∃ k k2 v A1,isP x [v] A1/\vs=[.iface 165 (pt k)]/\A=all [blk k (Qe t k2 v true).toArray 171,blk k2 (jd nm s w).toArray 221,A1]
 | .setS t s w x,vs,A=>∃ k k2 v A1,isP x [v] A1/\vs=[.iface 165 (pt k)]/\A=all [blk k (Qe t k2 v false).toArray 171,blk k2 (jd t s w).toArray 221,A1]
 | .putS t w z p x,vs,A=>∃ k k2 u v A1 A2,isP p [u] A1/\isP x [v] A2/\vs=[.iface 174 (pt k)]/\A=all [blk k #[pt k2,v] 179,blk k2 (em t w z u).toArray 176,A1,A2]
 | .ifS _ c a b,vs,A=>∃ k v k2 A1 A2,isP c [v] A1/\isP a [.iface 113 (pt k2)] A2/\vs=[.iface 181 (pt k)] /\
   ((b= .nil/\A=all [blk k #[v,pt k2,.pointer none] 183,A1,A2])∨∃ k3 A3,isP b [.iface 113 (pt k3)] A3/\A=all [blk k #[v,pt k2,pt k3] 183,A1,A2,A3])
 | .whileS _ c b,vs,A=>∃ k v k2 A1 A2,isP c [v] A1/\isP b [.iface 113 (pt k2)] A2/\vs=[.iface 184 (pt k)]/\A=all [blk k #[v,pt k2] 186,A1,A2]
 | .retS _ x,vs,A=>∃ k v A1,isP x [v] A1/\vs=[.iface 187 (pt k)]/\A=all [blk k #[v] 189,A1]
 | .prtS _ x,vs,A=>∃ k v A1,isP x [v] A1/\vs=[.iface 190 (pt k)]/\A=all [blk k #[v] 191,A1]
 | .doS _ x,vs,A=>∃ k k2 A1,isP x [.iface 193 (pt k2)] A1/\vs=[.iface 192 (pt k)]/\A=all [blk k #[pt k2] 195,A1]
 | .block _ l,vs,A=>∃ k p c us A1,isP l us A1/\vs=[.iface 113 (pt k)]/\A=all [blk k #[.slice p us.length c] 164,sl 161 1 (.slice p us.length c) us.length us,A1]
theorem Hj:∀ {t:T}{vs:List Value}{A:Asn},isP t vs A->∀ v ∈ vs,∃ ty p,v= .iface ty p:=by
 intro t
 induction t with
 | num v l=>rintro vs A ⟨rfl, -⟩ v hv;simp at hv;exact⟨_,_,hv⟩
 | name t s w=>rintro vs A ⟨k,rfl, -⟩ v hv;simp at hv;exact⟨_,_,hv⟩
 | nil=>rintro vs A ⟨rfl, -⟩ v hv;cases hv
 | cons x xs ih1 ih2 =>
  rintro vs A ⟨v,us,A1,As,h1,h2,rfl, -⟩ u hu;rcases List.mem_cons.1 hu with rfl | hu
  ·exact ih1 h1 _ (List.mem_cons_self ..)
  ·exact ih2 h2 _ hu
 | index t w z p _=>rintro vs A ⟨k,x,A1, -,rfl, -⟩ v hv;simp at hv;exact⟨_,_,hv⟩
 | call t f xs _=>rintro vs A ⟨k,p,c,us,A1, -,rfl, -⟩ v hv;simp at hv;exact⟨_,_,hv⟩
 | un t x _=>rintro vs A ⟨k,v,A1, -,rfl, -⟩ v hv;simp at hv;exact⟨_,_,hv⟩
 | bin t x y _ _=>rintro vs A ⟨k,u,v,A1,A2, -, -,rfl, -⟩ v hv;simp at hv;exact⟨_,_,hv⟩
 | letS t nm s w x _=>rintro vs A ⟨k,k2,v,A1, -,rfl, -⟩ v hv;simp at hv;exact⟨_,_,hv⟩
 | setS t s w x _=>rintro vs A ⟨k,k2,v,A1, -,rfl, -⟩ v hv;simp at hv;exact⟨_,_,hv⟩
 | putS t w z p x _ _=>rintro vs A ⟨k,k2,u,v,A1,A2, -, -,rfl, -⟩ v hv;simp at hv;exact⟨_,_,hv⟩
 | ifS l c a b _ _ _=>rintro vs A ⟨k,v,k2,A1,A2, -, -,rfl, -⟩ v hv;simp at hv;exact⟨_,_,hv⟩
 | whileS l c b _ _=>rintro vs A ⟨k,v,k2,A1,A2, -, -,rfl, -⟩ v hv;simp at hv;exact⟨_,_,hv⟩
 | retS l x _=>rintro vs A ⟨k,v,A1, -,rfl, -⟩ v hv;simp at hv;exact⟨_,_,hv⟩
 | prtS l x _=>rintro vs A ⟨k,v,A1, -,rfl, -⟩ v hv;simp at hv;exact⟨_,_,hv⟩
 | doS l x _=>rintro vs A ⟨k,k2,A1, -,rfl, -⟩ v hv;simp at hv;exact⟨_,_,hv⟩
 | block l x _=>rintro vs A ⟨k,p,c,us,A1, -,rfl, -⟩ v hv;simp at hv;exact⟨_,_,hv⟩
theorem gh [Inhabited G3o]{t:T}{v:Value}{A:Asn} (h:isP t [v] A){φ:Prop} (hφ:φ):Sx.one v φ:=by
 obtain⟨ty,p,rfl⟩:=Hj h v (List.mem_cons_self ..);exact hφ
theorem Mn [Inhabited G3o]{t:T}{v:Value}{A:Asn} (h:isP t [v] A):v.oneCell'=true:=by
 obtain⟨ty,p,rfl⟩:=Hj h v (List.mem_cons_self ..);rfl
def jj (ts:List T) (r:T):T:=ts.foldr .cons r
theorem ul {x:T}{v:Value}{B:Asn} (hx:isP x [v] B):∀ {ts:List T}{vs:List Value}{As:List Asn},isP (jj ts .nil) vs (all As)->∃ As',isP (jj (ts++[x]) .nil) (vs++[v]) (all As')/\∀ w0 M w L,St w0 M w (all As::B::L)->St w0 M w (all As'::L)
 | [],vs,As,h=>by
  obtain⟨rfl,e⟩:=h;refine⟨[B],⟨v,[],B,[],hx,⟨rfl,rfl⟩,rfl,rfl⟩,λ w0 M w L H=>?_⟩;rw[e] at H;exact St.push (Ls:=[]) H
 | t::ts,vs,As,h=>by
  obtain⟨u,us,A1,Bs,h1,h2,rfl,e⟩:=h;obtain⟨Bs',h3,h4⟩:=ul hx h2;refine⟨A1::Bs',⟨u,_,A1,Bs',h1,h3,rfl,rfl⟩,λ w0 M w L H=>?_⟩;rw[e] at H;have H1:=St.open_ (L:=A1::Bs) H
  have H2:St w0 M w (all Bs::B::A1::L):=by
   have:St w0 M w (all Bs::A1::B::L):=St.shut (L:=Bs) (L':=A1::B::L) (H1.perm (by
    simp only[List.cons_append]
    exact List.perm_middle.symm))
   exact this.perm (.cons _ (.swap ..))
  have H3:=h4 _ _ _ _ H2;have H4:=(St.open_ (L:=Bs') H3).perm (L':=(A1::Bs')++L) (by exact List.perm_middle);exact St.shut (L:=A1::Bs') H4
theorem fv (ts:List T) (x r:T):jj (ts++[x]) r=jj ts (.cons x r):=by simp [jj]
variable {W:World}{b g n:Nat}{l:List Tok}
def um [Inhabited G3o] (b g n:Nat) (W:World) (A:Asn) (x:T) (l':List Tok) (e:Ending) (w':World):Prop:=∃ v B,e= .returned v/\isP x [v] B/\Post A W (all [bn b g l' n,B]) w'
def PtK [Inhabited G3o] (ty:TypeId) (b g n:Nat) (W:World) (A:Asn) (x:T) (l':List Tok) (e:Ending) (w':World):Prop:=∃ k B,e= .returned (pt k)/\isP x [.iface ty (pt k)] B/\Post A W (all [bn b g l' n,B]) w'
structure Ih [Inhabited G3o] (f:Nat):Prop where
 expr:∀ {W:World} {b g n:Nat} {l:List Tok},(bn b g l n).at_ W->n≤24->run f .expr n l≠ .out->Calls prog 113 #[pt b] W (Ans (mv b) (bn b g l n) W (run f .expr n l) (um b g n W (bn b g l n)))
 bin:∀ {W:World} {b g n:Nat} {l:List Tok} (k:Nat),k≤11->(bn b g l n).at_ W->n≤24->run f (.bin k) n l≠ .out->Calls prog 132 #[pt b,.int .i64 (k:Nat)] W (Ans (mv b) (bn b g l n) W (run f (.bin k) n l) (um b g n W (bn b g l n)))
 un:∀ {W:World} {b g n:Nat} {l:List Tok},(bn b g l n).at_ W->n≤24->run f .un n l≠ .out->Calls prog 144 #[pt b] W (Ans (mv b) (bn b g l n) W (run f .un n l) (um b g n W (bn b g l n)))
 prim:∀ {W:World} {b g n:Nat} {l:List Tok},(bn b g l n).at_ W->n≤24->run f .prim n l≠ .out->Calls prog 172 #[pt b] W (Ans (mv b) (bn b g l n) W (run f .prim n l) (um b g n W (bn b g l n)))
 blk:∀ {W:World} {b g n:Nat} {l:List Tok},(bn b g l n).at_ W->n≤24->run f .blk n l≠ .out->Calls prog 56 #[pt b] W (Ans (mv b) (bn b g l n) W (run f .blk n l) (PtK 113 b g n W (bn b g l n)))
 stmt:∀ {W:World} {b g n:Nat} {l:List Tok},(bn b g l n).at_ W->n≤24->run f .stmt n l≠ .out->Calls prog 95 #[pt b] W (Ans (mv b) (bn b g l n) W (run f .stmt n l) (um b g n W (bn b g l n)))
def ot (b:Nat) (w:World):Nat:=match w.cell? ⟨b,0,none⟩ with | some (.slice _ n _)=>n | _=>0
theorem fw [Inhabited G3o] (h:(bn b g l n).at_ W):ot b W=l.length:=by
 obtain⟨-,off,c,h⟩:=h;have:W.cell? ⟨b,0,none⟩=some (Xc g off c l):=h.1.cell' rfl;unfold ot;rw[this];rfl
theorem xe [Inhabited G3o] (s:ByteArray):Calls prog 145 #[.string s] W λ e w'=>e= .returned (.int .i64 (ai s:Nat))/\w'=W:=by
 refine ahk s ?_;rw[ab,ab,ab,ab,ab,ab,ab,ab,ab,ab,ab,ab,ab,ab,ab,ab,ab,ab];refine Sx.so (λ h=>?_) (λ h0=>?_)
 ·rw[decide_eq_true_iff] at h;subst h;exact⟨congrArg (λ k:Nat=>Ending.returned (.int .i64 (k:Int))) (show 1=ai (ofL [124,124]) by decide),rfl⟩
 refine Sx.so (λ h=>?_) (λ h1=>?_)
 ·rw[decide_eq_true_iff] at h;subst h;exact⟨congrArg (λ k:Nat=>Ending.returned (.int .i64 (k:Int))) (show 2=ai (ofL [38,38]) by decide),rfl⟩
 refine Sx.so (λ h=>?_) (λ h2=>?_)
 ·rw[decide_eq_true_iff] at h;subst h;exact⟨congrArg (λ k:Nat=>Ending.returned (.int .i64 (k:Int))) (show 3=ai (ofL [124]) by decide),rfl⟩
 refine Sx.so (λ h=>?_) (λ h3=>?_)
 ·rw[decide_eq_true_iff] at h;subst h;exact⟨congrArg (λ k:Nat=>Ending.returned (.int .i64 (k:Int))) (show 4=ai (ofL [94]) by decide),rfl⟩
 refine Sx.so (λ h=>?_) (λ h4=>?_)
 ·rw[decide_eq_true_iff] at h;subst h;exact⟨congrArg (λ k:Nat=>Ending.returned (.int .i64 (k:Int))) (show 5=ai (ofL [38]) by decide),rfl⟩
 refine Sx.so (λ h=>?_) (λ h5=>?_)
 ·rw[decide_eq_true_iff] at h;subst h;exact⟨congrArg (λ k:Nat=>Ending.returned (.int .i64 (k:Int))) (show 6=ai (ofL [61,61]) by decide),rfl⟩
 refine Sx.so (λ h=>?_) (λ h6=>?_)
 ·rw[decide_eq_true_iff] at h;subst h;exact⟨congrArg (λ k:Nat=>Ending.returned (.int .i64 (k:Int))) (show 6=ai (ofL [33,61]) by decide),rfl⟩
 refine Sx.so (λ h=>?_) (λ h7=>?_)
 ·rw[decide_eq_true_iff] at h;subst h;exact⟨congrArg (λ k:Nat=>Ending.returned (.int .i64 (k:Int))) (show 7=ai (ofL [60]) by decide),rfl⟩
 refine Sx.so (λ h=>?_) (λ h8=>?_)
 ·rw[decide_eq_true_iff] at h;subst h;exact⟨congrArg (λ k:Nat=>Ending.returned (.int .i64 (k:Int))) (show 7=ai (ofL [60,61]) by decide),rfl⟩
 refine Sx.so (λ h=>?_) (λ h9=>?_)
 ·rw[decide_eq_true_iff] at h;subst h;exact⟨congrArg (λ k:Nat=>Ending.returned (.int .i64 (k:Int))) (show 7=ai (ofL [62]) by decide),rfl⟩
 refine Sx.so (λ h=>?_) (λ h10=>?_)
 ·rw[decide_eq_true_iff] at h;subst h;exact⟨congrArg (λ k:Nat=>Ending.returned (.int .i64 (k:Int))) (show 7=ai (ofL [62,61]) by decide),rfl⟩
 refine Sx.so (λ h=>?_) (λ h11=>?_)
 ·rw[decide_eq_true_iff] at h;subst h;exact⟨congrArg (λ k:Nat=>Ending.returned (.int .i64 (k:Int))) (show 8=ai (ofL [60,60]) by decide),rfl⟩
 refine Sx.so (λ h=>?_) (λ h12=>?_)
 ·rw[decide_eq_true_iff] at h;subst h;exact⟨congrArg (λ k:Nat=>Ending.returned (.int .i64 (k:Int))) (show 8=ai (ofL [62,62]) by decide),rfl⟩
 refine Sx.so (λ h=>?_) (λ h13=>?_)
 ·rw[decide_eq_true_iff] at h;subst h;exact⟨congrArg (λ k:Nat=>Ending.returned (.int .i64 (k:Int))) (show 9=ai (ofL [43]) by decide),rfl⟩
 refine Sx.so (λ h=>?_) (λ h14=>?_)
 ·rw[decide_eq_true_iff] at h;subst h;exact⟨congrArg (λ k:Nat=>Ending.returned (.int .i64 (k:Int))) (show 9=ai (ofL [45]) by decide),rfl⟩
 refine Sx.so (λ h=>?_) (λ h15=>?_)
 ·rw[decide_eq_true_iff] at h;subst h;exact⟨congrArg (λ k:Nat=>Ending.returned (.int .i64 (k:Int))) (show 10=ai (ofL [42]) by decide),rfl⟩
 refine Sx.so (λ h=>?_) (λ h16=>?_)
 ·rw[decide_eq_true_iff] at h;subst h;exact⟨congrArg (λ k:Nat=>Ending.returned (.int .i64 (k:Int))) (show 10=ai (ofL [47]) by decide),rfl⟩
 refine Sx.so (λ h=>?_) (λ h17=>?_)
 ·rw[decide_eq_true_iff] at h;subst h;exact⟨congrArg (λ k:Nat=>Ending.returned (.int .i64 (k:Int))) (show 10=ai (ofL [37]) by decide),rfl⟩
 have h0:¬ s=ofL [124,124]:=df h0;have h1:¬ s=ofL [38,38]:=df h1;have h2:¬ s=ofL [124]:=df h2;have h3:¬ s=ofL [94]:=df h3;have h4:¬ s=ofL [38]:=df h4;have h5:¬ s=ofL [61,61]:=df h5;have h6:¬ s=ofL [33,61]:=df h6;have h7:¬ s=ofL [60]:=df h7;have h8:¬ s=ofL [60,61]:=df h8;have h9:¬ s=ofL [62]:=df h9;have h10:¬ s=ofL [62,61]:=df h10;have h11:¬ s=ofL [60,60]:=df h11;have h12:¬ s=ofL [62,62]:=df h12;have h13:¬ s=ofL [43]:=df h13;have h14:¬ s=ofL [45]:=df h14;have h15:¬ s=ofL [42]:=df h15;have h16:¬ s=ofL [47]:=df h16;have h17:¬ s=ofL [37]:=df h17;refine⟨?_,rfl⟩
 have:ai s=0:=by
  unfold ai;rw[if_neg h0];rw[if_neg h1];rw[if_neg h2];rw[if_neg h3];rw[if_neg h4];rw[if_neg (λ h=>h.elim h5 (λ h=>h6 h))];rw[if_neg (λ h=>h.elim h7 (λ h=>h.elim h8 (λ h=>h.elim h9 (λ h=>h10 h))))];rw[if_neg (λ h=>h.elim h11 (λ h=>h12 h))];rw[if_neg (λ h=>h.elim h13 (λ h=>h14 h))];rw[if_neg (λ h=>h.elim h15 (λ h=>h.elim h16 (λ h=>h17 h)))]
 rw[this];rfl
theorem Hk [Inhabited G3o]{k:Nat}{u:FrameMode} (h:(all [blk k #[pt b] 80,bn b g l (n+1)]).at_ W):CallsD prog 143 #[pt k] u W λ e u' w'=>u'=u/\(e= .returned (.tuple #[])/\Post (all [blk k #[pt b] 80,bn b g l (n+1)]) W (all [blk k #[pt b] 80,bn b g l n]) w'):=by
 refine aef k 0 ?_;have H:=St.open_ (L':=[]) (St.begin h);have H:=H.perm (.swap ..);obtain⟨hG,hn,off,c,H2⟩:=jx H;refine⟨_,H2.ld 3 rfl (i:=0) rfl,ptr_some ⟨_,H2.ld 0 rfl (i:=1) rfl,?_⟩⟩;rintro z rfl;refine ptr_some (H2.st 0 rfl (i:=1) (by simp) λ w3 H3=>?_);rw[show IntKind.wrap .i64 (((n+1:Nat):Int) - 1)=(n:Int) by rw[show((n+1:Nat):Int) - 1=(n:Int) by omega];exact Go.Bits.n64 (by omega)] at H3;have H3:St W _ w3 (Ro b g off c l n++[blk k #[pt b] 80]):=H3;have H4:=(ol hG (by omega) H3).perm (.swap ..);exact⟨rfl,St.post (St.shut (L:=[_,_]) (L':=[]) H4) 0 rfl⟩
theorem Cr [Inhabited G3o]{k:Nat}{u:FrameMode} (h:(all [blk k #[pt b] 80,mv b]).at_ W):CallsD prog 143 #[pt k] u W λ e u' w'=>u'=u/\(e= .returned (.tuple #[])/\Post (all [blk k #[pt b] 80,mv b]) W (all [blk k #[pt b] 80,mv b]) w'):=by
 refine aef k 0 ?_;have H:=(St.open_ (L':=[]) (St.begin h)).perm (.swap ..);obtain⟨v,z,H⟩:=zo H;refine⟨_,H.ld 2 rfl (i:=0) rfl,ptr_some ⟨_,H.ld 0 rfl (i:=1) rfl,?_⟩⟩;rintro z2 rfl;refine ptr_some (H.st 0 rfl (i:=1) (by simp) λ w3 H3=>?_);have H3:St W _ w3 ([blk b #[v,.int .i64 _] 84,globA]++[blk k #[pt b] 80]):=H3;have H4:=(Hi H3).perm (.swap ..);exact⟨rfl,St.post (St.shut (L:=[_,_]) (L':=[]) H4) 0 rfl⟩
theorem Rt [Inhabited G3o]{k:Nat}{u:FrameMode} (h:(all [blk k #[pt b] 80,bn b g l (n+1)]).at_ W):CallsD prog 110 #[pt k] u W λ e u' w'=>u'=u/\(e= .returned (.tuple #[])/\Post (all [blk k #[pt b] 80,bn b g l (n+1)]) W (all [blk k #[pt b] 80,bn b g l n]) w'):=by
 refine aeg k 0 ?_;have H:=St.open_ (L':=[]) (St.begin h);have H:=H.perm (.swap ..);obtain⟨hG,hn,off,c,H2⟩:=jx H;refine⟨_,H2.ld 3 rfl (i:=0) rfl,ptr_some ⟨_,H2.ld 0 rfl (i:=1) rfl,?_⟩⟩;rintro z rfl;refine ptr_some (H2.st 0 rfl (i:=1) (by simp) λ w3 H3=>?_);rw[show IntKind.wrap .i64 (((n+1:Nat):Int) - 1)=(n:Int) by rw[show((n+1:Nat):Int) - 1=(n:Int) by omega];exact Go.Bits.n64 (by omega)] at H3;have H3:St W _ w3 (Ro b g off c l n++[blk k #[pt b] 80]):=H3;have H4:=(ol hG (by omega) H3).perm (.swap ..);exact⟨rfl,St.post (St.shut (L:=[_,_]) (L':=[]) H4) 0 rfl⟩
theorem Ox [Inhabited G3o]{k:Nat}{u:FrameMode} (h:(all [blk k #[pt b] 80,mv b]).at_ W):CallsD prog 110 #[pt k] u W λ e u' w'=>u'=u/\(e= .returned (.tuple #[])/\Post (all [blk k #[pt b] 80,mv b]) W (all [blk k #[pt b] 80,mv b]) w'):=by
 refine aeg k 0 ?_;have H:=(St.open_ (L':=[]) (St.begin h)).perm (.swap ..);obtain⟨v,z,H⟩:=zo H;refine⟨_,H.ld 2 rfl (i:=0) rfl,ptr_some ⟨_,H.ld 0 rfl (i:=1) rfl,?_⟩⟩;rintro z2 rfl;refine ptr_some (H.st 0 rfl (i:=1) (by simp) λ w3 H3=>?_);have H3:St W _ w3 ([blk b #[v,.int .i64 _] 84,globA]++[blk k #[pt b] 80]):=H3;have H4:=(Hi H3).perm (.swap ..);exact⟨rfl,St.post (St.shut (L:=[_,_]) (L':=[]) H4) 0 rfl⟩
theorem zq (hn:n≤24):IntKind.wrap .i64 ((n:Int)+1)=((n+1:Nat):Int):=by
 rw[show((n:Int)+1)=((n+1:Nat):Int) by omega];exact Go.Bits.n64 (by omega)
theorem Xe [Inhabited G3o]{f k:Nat} (I:Ih f) (h:(all [bn b g l n,blk k #[pt b] 80]).at_ W) (hn:n≤24) (hr:run (f+1) .expr n l≠ .out) :
  Calls prog 130 #[pt b,.func (.func 131) #[] #[pt k]] W (Ans (mv b) (all [bn b g l n,blk k #[pt b] 80]) W (run (f+1) .expr n l) (um b g n W (all [bn b g l n,blk k #[pt b] 80]))):=by
 refine aeh b 0 k ?_;have H:=St.open_ (L':=[]) (St.begin h);refine H.al λ k1 w2 H2=>?_;obtain⟨hG, -,off,c,H2⟩:=jx H2;refine⟨_,H2.ld 4 rfl (i:=0) rfl,ptr_some ⟨_,H2.ld 0 rfl (i:=1) rfl,?_⟩⟩;rintro z rfl;rw[zq hn];refine ptr_some (H2.st 0 rfl (i:=1) (by simp) λ w3 H3=>?_);have H3:St W _ w3 (Ro b g off c l (n+1)++[blk k #[pt b] 80,blk k1 #[pt b] 80]):=H3;refine⟨_,H3.ld 4 rfl (i:=0) rfl,ptr_some ⟨_,H3.ld 0 rfl (i:=1) rfl,?_⟩⟩;have H4:=ol hG (by omega) H3;refine Sx.so (λ h4=>?_) (λ h4=>?_)
 ·have h4:=dt h4;refine⟨_,H4.ld 2 rfl (i:=0) rfl,?_⟩;rw[show run (f+1) .expr n l= .err (now l).line 3 by unfold run;rw[if_pos (by omega)]];exact vw H4 0 rfl (gy 3 (H4.nth 0 rfl))
 ·have h4:=df h4
  have hrun:run (f+1) .expr n l=run f (.bin 1) (n+1) l:=by
   rw[run,if_neg (by omega)]
  rw[hrun] at hr ⊢;refine ahm k 0 ?_;refine⟨_,H4.ld 1 rfl (i:=0) rfl,?_⟩;refine(I.bin 1 (by omega) (H4.nth 0 rfl) (by omega) hr).mono ?_;intro e w5 he
  cases hb:run f (.bin 1) (n+1) l with
  | out=>exact absurd hb hr
  | ok x l1 =>
   rw[hb] at he;obtain⟨v,B,rfl,hB,hp⟩:=he;have H5:=(St.open_ (L:=[_,_]) (H4.upd 0 rfl hp)).pick [3,0,1];have H5:=St.shut (L:=[_,_]) (L':=[_]) H5;refine .inl ⟨_,rfl,.inl ⟨_,rfl,?_⟩⟩;refine(Hk (H5.nth 0 rfl)).mono ?_;rintro e u' w6 ⟨rfl,rfl,hp6⟩;have H6:=(St.open_ (L:=[_,_]) (H5.upd 0 rfl hp6)).pick [1,2];exact .inl ⟨_,rfl,.inl ⟨rfl,_,_,rfl,hB,St.post (St.shut (L:=[_,_]) (L':=[]) H6) 0 rfl⟩⟩
  | err line en =>
   rw[hb] at he;obtain⟨q,rfl,hp⟩:=he;have H5:=(St.open_ (L:=[_,_]) (H4.upd 0 rfl hp)).pick [3,1,0];have H5:=St.shut (L:=[_,_]) (L':=[_]) H5;refine .inr ⟨_,rfl,.inr ⟨_,rfl,?_⟩⟩;refine(Cr (H5.nth 0 rfl)).mono ?_;rintro e u' w6 ⟨rfl,rfl,hp6⟩;have H6:=(St.open_ (L:=[_,_]) (H5.upd 0 rfl hp6)).pick [2,1];exact .inl ⟨_,rfl,.inr ⟨_,rfl,q,rfl,St.post (St.shut (L:=[_,_]) (L':=[]) H6) 0 rfl⟩⟩
theorem Ru [Inhabited G3o]{f:Nat} (I:Ih f) (h:(bn b g l n).at_ W) (hn:n≤24) (hr:run (f+1) .expr n l≠ .out):Calls prog 113 #[pt b] W (Ans (mv b) (bn b g l n) W (run (f+1) .expr n l) (um b g n W (bn b g l n))):=by
 refine ahl b 0 ?_;refine(St.begin h).al λ k w2 H2=>?_;refine⟨_,H2.ld 1 rfl (i:=0) rfl,?_⟩;have H2:=St.shut (L:=[_,_]) (L':=[]) H2;refine(Xe I (H2.nth 0 rfl) hn hr).mono ?_;intro e w5 he
 cases hb:run (f+1) .expr n l with
 | out=>exact absurd hb hr
 | ok x l1 =>
  rw[hb] at he;obtain⟨v,B,rfl,hB,hp⟩:=he;exact .inl ⟨_,rfl,_,_,rfl,hB,(H2.upd 0 rfl hp).post 0 rfl⟩
 | err line en =>
  rw[hb] at he;obtain⟨q,rfl,hp⟩:=he;exact .inr ⟨_,rfl,_,rfl,(H2.upd 0 rfl hp).post 0 rfl⟩
end Go.Proofs.YtojogkljneonmaaGreatDoor
