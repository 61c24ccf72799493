/- The cache, part A. No condition. -/
import Derived.Test.YtmncepdbglaphaaGreatDoorCacheVc
import Derived.Test.YtmncepdbglaphaaGreatDoorRmIns
import Derived.Test.YtmncepdbglaphaaGreatDoorBits
set_option linter.unusedVariables false
set_option maxRecDepth 100000
namespace Go.Proofs.YtmncepdbglaphaaGreatDoor.cbus
open Go.RowKit Go.XHeap Go.Sx Go.Sep Go.Proofs.Tryz
structure Way where
 line:Nat
 state:Nat
 used:Nat
 bytes:LN
deriving Inhabited
def u8n (l:LN):LV:=l.map λ x=>.int .u8 (x:Nat)
def Way.cells (y:Way):LV:=.int .u32 y.line:: .int .i64 y.state:: .int .i64 y.used::u8n y.bytes
structure Way.Ok (y:Way):Prop where
 line:y.line<4294967296
 state:y.state≤3
 len:y.bytes.length=16
 byte:∀ x ∈ y.bytes,x<256
structure CS where
 S:Nat
 bs:Nat
 bo:Nat
 cap:Nat
 gs:LN
 N:Nat
 sets:List (List Way)
 clock:Nat
def CS.ix (C:CS) (a:Nat):Nat:=a / 16 % C.S
structure CS.Ok (C:CS):Prop where
 pow:∃ s,s≤4/\C.S=2 ^ s
 gl:C.gs.length=C.S
 sl:C.sets.length=C.S
 n0:1≤C.N
 n1:C.N≤4
 len:∀ s ∈ C.sets,s.length=C.N
 way:∀ s ∈ C.sets,∀ y ∈ s,y.Ok
 clk:C.clock<4611686018427387904
def acb (g:Nat) (s:List Way):Asn:=blk g (rows Way.cells s) 202
def setsA (gs:LN) (sets:List (List Way)):List Asn:=List.zipWith acb gs sets
def CS.rowL (C:CS):LV:=C.gs.map λ g=>.slice (some ⟨g,0,none⟩) C.N C.N
def CS.root (C:CS):AV:=#[.slice (some ⟨C.bs,C.bo,none⟩) C.S C.cap,.int .i64 C.clock]
def CS.pieces (b:Nat) (C:CS):List Asn:=[blk b C.root 111,sl 112 1 (.slice (some ⟨C.bs,C.bo,none⟩) C.S C.cap) C.S C.rowL,all (setsA C.gs C.sets)]
def af (b:Nat) (C:CS):Asn:=all (C.pieces b)
theorem sf {C:CS} (h:C.Ok){s:List Way} (hs:s ∈ C.sets):∀ y ∈ s,(Way.cells y).length=19:=λ y hy=>by
 have:=(h.way s hs y hy).len;simp [Way.cells,u8n,this]
theorem CS.Ok.pos {C:CS} (h:C.Ok):1≤C.S/\C.S≤16:=by
 obtain⟨s,h1,h2⟩:=h.pow;rw[h2];exact⟨Nat.one_le_two_pow,qX (n:=2) (by decide) h1⟩
theorem CS.Ok.ix_lt {C:CS} (h:C.Ok) (a:Nat):C.ix a<C.S:=qIB _ h.pos.1
def CS.set_ (C:CS) (i:Nat):List Way:=C.sets.getD i []
def CS.g (C:CS) (i:Nat):Nat:=C.gs.getD i 0
theorem CS.set_at {C:CS} (h:C.Ok){i:Nat} (hi:i<C.S):C.sets[i]?=some (C.set_ i):=by
 unfold CS.set_;rw[qF,qC (by rw[h.sl];exact hi)];rfl
theorem CS.g_at {C:CS} (h:C.Ok){i:Nat} (hi:i<C.S):C.gs[i]?=some (C.g i):=by
 unfold CS.g;rw[qF,qC (by rw[h.gl];exact hi)];rfl
theorem CS.set_mem {C:CS} (h:C.Ok){i:Nat} (hi:i<C.S):C.set_ i ∈ C.sets:=qN (CS.set_at h hi)
theorem Ja {C:CS} (h:C.Ok){i:Nat} (hi:i<C.S):(setsA C.gs C.sets)[i]?=some (acb (C.g i) (C.set_ i)):=by
 unfold setsA;rw[List.getElem?_zipWith,CS.g_at h hi,CS.set_at h hi]
theorem Pv (gs:LN) (sets:List (List Way)) (i:Nat) (g:Nat) (hg:gs[i]?=some g) (s:List Way):(setsA gs sets).set i (acb g s)=setsA gs (sets.set i s):=by
 unfold setsA;apply qEB;intro j;rw[qn,List.getElem?_zipWith,List.getElem?_zipWith,qn];by_cases e:i=j
 ·subst e;rw[if_pos rfl,if_pos rfl,hg];by_cases hl:i<sets.length
  ·have hgl:=(qD.1 hg).1;rw[if_pos hl,if_pos (by simp;omega)]
  ·rw[if_neg hl,if_neg (by simp;omega)]
 ·rw[if_neg e,if_neg e]
section
variable {W w:wD}{M:Nat->Prop}{b:Nat}{C C':CS}{L:List Asn}
theorem Ae (h:(af b C).at_ W):St W (af b C).own W (C.pieces b++[]):=(St.begin h).open_
theorem uk (H:St W (af b C).own w (C'.pieces b++L)):Sep.Post (af b C) W (af b C') w:=(St.shut H).post 0 rfl
theorem Bs (h:C.Ok) (hs:here (setsA C.gs C.sets) w){i:Nat} (hi:i<C.S):Blk w (C.g i) (rows Way.cells (C.set_ i)) 202:=hs.nth i (Ja h hi)
theorem dx (h:C.Ok) (hs:here (setsA C.gs C.sets) w){i j q:Nat}{y:Way} (hi:i<C.S) (hj:(C.set_ i)[j]?=some y) (hq:q<19){v:Value} (hv:y.cells[q]?=some v):w.cell? ⟨C.g i,j * 19+q,none⟩=some v :=
 (Bs h hs hi).cell' (Be (sf h (CS.set_mem h hi)) hj hq hv)
theorem Jb (h:C.Ok) (hs:Sl w 112 1 (.slice (some ⟨C.bs,C.bo,none⟩) C.S C.cap) C.S C.rowL){i:Nat} (hi:i<C.S):w.cell? ⟨C.bs,C.bo+i,none⟩=some (.slice (some ⟨C.g i,0,none⟩) C.N C.N):=by
 obtain⟨ao,cap,hv,hl, -, -, -,hc⟩:=hs.open1;obtain⟨g,off,rfl, -,hc⟩:=hc (by omega);cases hv;have:=(hc i hi).1;rw[this];unfold CS.rowL;rw[qS,CS.g_at h hi];rfl
end
theorem set_any {W:wD}{b:Nat}{C:CS} (ho:C.Ok) (h:(af b C).at_ W) (a:Nat) (ha:a<4294967296) :
  Calls prog 81 #[pZ b 0,.int .u32 a] W λ e w=>e=eZ (.slice (some ⟨C.g (C.ix a),0,none⟩) C.N C.N)/\ba W w:=by
 obtain⟨s,hs1,hs2⟩:=ho.pow;have hp:=ho.pos;have hx:=ho.ix_lt a
 have e1:IntKind.wrap .i64 (IntKind.wrap .u32 (Int.tdiv (a:Int) 16))=((a / 16:Nat):Int):=by
  rw[show Int.tdiv (a:Int) 16=((a / 16:Nat):Int) from rfl,Bits.n32 (by omega),Bits.n64 (by omega)]
 have H0:here (C.pieces b) W:=h;have hroot:Blk W b C.root 111:=H0.nth 0 rfl;refine aoj _ _ _ ⟨_,_,_,hroot.cell' rfl,by decide,?_⟩;rintro z rfl z2 rfl;refine⟨_,_,_,hroot.cell' rfl,?_⟩;rintro z3 rfl z4 rfl
 have em:C.ix a=a / 16 % 2 ^ s:=by unfold CS.ix;rw[hs2]
 rw[e1,w64 (e:=(C.S:Int) - 1) (by omega) (by omega),hs2,Bits.mask64 (by omega) (by omega),<- em];rw[hs2] at hx;refine⟨⟨by omega,by omega⟩,adr_some ?_⟩;rw[ix1];refine⟨_,_,_,Jb ho (H0.nth 1 rfl) (ho.ix_lt a),?_⟩;rintro w2 k rfl;exact⟨rfl,(qH _ _).drewN k⟩
def mn (L:Nat) (y:Way):Bool:=y.state !=0&&y.line==L
def CS.look (C:CS) (a:Nat):Option Nat:=(C.set_ (C.ix a)).findIdx? (mn (a / 16 * 16))
def CS.ptr (C:CS) (i:Nat):Option Nat->OA
 | some j=>some ⟨C.g i,j * 19,none⟩
 | none=>none
theorem agi {a:Nat} (ha:a<4294967296):IntKind.wrap .u32 ((bZ .u32 (a:Int) &&& ~~~ bZ .u32 15).toNat:Int)=((a / 16 * 16:Nat):Int):=by
 have:=Bits.andNot32 ha (show 15<4294967296 by decide);rw[show((15:Nat):Int)=15 from rfl] at this;rw[this];congr 1;apply Nat.eq_of_testBit_eq;intro i;rw[Nat.testBit_and,show a / 16 * 16=2 ^ 4 * (a / 2 ^ 4) by omega,Nat.testBit_two_pow_mul,Nat.testBit_div_two_pow];by_cases hi:i<32
 ·have:∀ i,i<32->Nat.testBit (4294967295 - 15) i=decide (i ≥ 4):=by decide
  rw[this i hi];by_cases h4:i ≥ 4
  ·rw[qI h4,Bool.and_true,qoB,show i - 4+4=i by omega]
  ·rw[qM h4,Bool.and_false,qbB]
 ·have h1:Nat.testBit a i=false:=Nat.testBit_lt_two_pow (qaB (show a<2 ^ 32 from ha) (qX (by decide) (by omega)));by_cases h4:i ≥ 4
  ·rw[h1,show i - 4+4=i by omega,h1];simp
  ·omega
theorem find_any {W:wD}{b:Nat}{C:CS} (ho:C.Ok) (h:(af b C).at_ W) (a:Nat) (ha:a<4294967296) :
  Calls prog 80 #[pZ b 0,.int .u32 a] W λ e w=>e=eZ (.pointer (C.ptr (C.ix a) (C.look a)))/\ba W w:=by
 have hx:=ho.ix_lt a;have hN:(C.set_ (C.ix a)).length=C.N:=ho.len _ (CS.set_mem ho hx);have hn1:=ho.n1;have H0:here (C.pieces b) W:=h;have hS:here (setsA C.gs C.sets) W:=H0.nth 2 rfl;refine aoi b 0 a ((set_any ho h a ha).mono ?_);rintro e w2 ⟨rfl,hh⟩;have fin:∀ {w:wD} {p:OA},p=C.ptr (C.ix a) (C.look a)->ba W w->(eZ (.pointer p)=eZ (.pointer (C.ptr (C.ix a) (C.look a)))/\ba W w):=λ e h=>⟨by rw[e],h⟩;refine⟨_,_,_,rfl,λ w=>C.look a=none/\ba W w,⟨λ x w=>∃ m:Nat,x=m/\m≤C.N/\ba W w/\∀ j y,j<m->(C.set_ (C.ix a))[j]?=some y->mn (a / 16 * 16) y=false,λ x _=>C.N - x.toNat,⟨0,rfl,by omega,hh,λ j y hj=>by omega⟩,λ _=>?_⟩,λ _=>?_⟩
 ·rintro x w3 ⟨m,rfl,hm,hw,hnot⟩;refine aa (λ q=>?_) (λ q=>?_)
  ·have q:=qB q
   have hml:m<(C.set_ (C.ix a)).length:=by omega
   obtain⟨y,hy⟩:∃ y,(C.set_ (C.ix a))[m]?=some y:=⟨_,qC hml⟩;have cell:∀ q v,q<19->y.cells[q]?=some v->w3.cell? ⟨C.g (C.ix a),m * 19+q,none⟩=some v:=λ q v hq hv=>dx ho (hS.keep hw (λ _ _ e=>e)) hx hy hq hv
   have more:mn (a / 16 * 16) y=false->∀ j y',j<m+1->(C.set_ (C.ix a))[j]?=some y'->mn (a / 16 * 16) y'=false:=λ e j y' hj hy'=>by
    by_cases ej:j=m
    ·subst ej;rw[hy] at hy';cases hy';exact e
    ·exact hnot j y' (by omega) hy'
   have e19:0+((m:Nat):Int).toNat * 19=m * 19:=by omega
   refine⟨⟨by omega,q⟩,adr_some ?_⟩;rw[e19];refine⟨y.state,cell 1 _ (by omega) rfl,aa (λ q2=>?_) (λ q2=>?_)⟩
   ·refine⟨⟨by omega,q⟩,adr_some ?_⟩;rw[e19];refine⟨y.line,cell 0 _ (by omega) rfl,?_⟩;rintro z3 rfl;rw[agi ha];refine aa (λ q3=>⟨⟨by omega,q⟩,adr_some ?_⟩) (λ q3=>?_)
    ·rw[e19];refine fin ?_ hw
     have hl:C.look a=some m:=by
      unfold CS.look;rw[qv];refine⟨hml,?_,λ j hj=>?_⟩
      ·have:(C.set_ (C.ix a))[m]=y:=by rw[qC hml] at hy;exact Option.some.inj hy
       rw[this]
       have h2:y.state≠0:=by
        have:(y.state:Int)≠0:=by simpa using q2
        omega
       have h3:y.line=a / 16 * 16:=by
        have:(y.line:Int)=((a / 16 * 16:Nat):Int):=by simpa using q3
        omega
       unfold mn;simp [h2,h3]
      ·rw[hnot j _ hj (qC (by omega))];decide
     rw[hl];rfl
    ·have h3:y.line≠a / 16 * 16:=λ e=>by rw[e] at q3;simp at q3
     rintro z4 rfl;rw[w64 (by omega) (by omega)];exact⟨⟨m+1,by omega,by omega,hw,more (by unfold mn;simp [h3])⟩,by show C.N - ((m:Int)+1).toNat<C.N - (m:Int).toNat;omega⟩
   ·have h2:y.state=0:=by
     have:(y.state:Int)=0:=by simpa using q2
     omega
    rintro z5 rfl;rw[w64 (by omega) (by omega)];exact⟨⟨m+1,by omega,by omega,hw,more (by unfold mn;simp [h2])⟩,by show C.N - ((m:Int)+1).toNat<C.N - (m:Int).toNat;omega⟩
  ·have q:=qE q;refine⟨?_,hw⟩;unfold CS.look;rw[qxB];intro y hy;obtain⟨j,hj,rfl⟩:=qGC hy;exact hnot j _ (by omega) (qC hj)
 ·rintro w4 ⟨hl,hw⟩;exact fin (by rw[hl];rfl) hw
theorem look_some {C:CS}{a j:Nat} (h:C.look a=some j):∃ y,(C.set_ (C.ix a))[j]?=some y/\y.state≠0/\y.line=a / 16 * 16:=by
 unfold CS.look at h;rw[qv] at h;obtain⟨h1,h2, -⟩:=h;refine⟨_,qC h1,?_⟩;unfold mn at h2;simpa using h2
def CS.stateAt (C:CS) (a:Nat):Nat:=match C.look a with
 | some j=>((C.set_ (C.ix a)).getD j default).state
 | none=>0
theorem xu {W:wD}{b:Nat}{C:CS} (ho:C.Ok) (h:(af b C).at_ W) (a:Nat) (ha:a<4294967296) :
  Calls prog 49 #[pZ b 0,.int .u32 a] W λ e w=>e=eZ (.int .i64 (C.stateAt a))/\ba W w:=by
 have H0:here (C.pieces b) W:=h;have hS:here (setsA C.gs C.sets) W:=H0.nth 2 rfl;refine aof b 0 a ((find_any ho h a ha).mono ?_);rintro e w2 ⟨rfl,hh⟩;refine⟨_,rfl,aa (λ q=>?_) (λ q=>?_)⟩
 ·cases hl:C.look a with
  | none=>rw[hl] at q;cases q
  | some j =>
   obtain⟨y,hy, -, -⟩:=look_some hl;refine ptr_some ⟨y.state,?_,?_,hh⟩
   ·have:=dx ho (hS.keep hh (λ _ _ e=>e)) (ho.ix_lt a) hy (q:=1) (by omega) (v:=.int .i64 y.state) rfl;rw[ac];exact this
   ·unfold CS.stateAt;rw[hl];simp only;rw[qF,hy];rfl
 ·cases hl:C.look a with
  | none=>exact⟨by unfold CS.stateAt;rw[hl];rfl,hh⟩
  | some j=>rw[hl] at q;cases q
def CS.put (C:CS) (i j:Nat) (y:Way):CS:={ C with sets:=C.sets.set i ((C.set_ i).set j y) }
def CS.tick (C:CS):CS:={ C with clock:=C.clock+1 }
theorem Ei {C:CS} (h:C.Ok){i j:Nat}{y:Way} (hi:i<C.S) (hy:y.Ok):(C.put i j y).Ok:=by
 have hm:∀ s ∈ (C.put i j y).sets,s ∈ C.sets∨s=(C.set_ i).set j y:=λ s hs=>qZ hs;refine⟨h.pow,h.gl,by show(C.sets.set i _).length=C.S;rw[qJ];exact h.sl,h.n0,h.n1,λ s hs=>?_,λ s hs z hz=>?_,h.clk⟩
 ·rcases hm s hs with e | rfl
  ·exact h.len s e
  ·rw[qJ];exact h.len _ (CS.set_mem h hi)
 ·rcases hm s hs with e | rfl
  ·exact h.way s e z hz
  ·rcases qZ hz with e | rfl
   ·exact h.way _ (CS.set_mem h hi) z e
   ·exact hy
theorem Bt {C:CS} (h:C.Ok){i:Nat} (hi:i<C.S) (j:Nat) (y:Way):(C.put i j y).set_ i=(C.set_ i).set j y:=by
 show(C.sets.set i _).getD i []=_;rw[qF,qO (by rw[h.sl];exact hi)];rfl
theorem Jc {w w':wD}{C:CS} (h:C.Ok) (hs:here (setsA C.gs C.sets) w){i j:Nat}{y:Way} (hi:i<C.S) (hp:Post (acb (C.g i) (C.set_ i)) w (acb (C.g i) ((C.set_ i).set j y)) w'):Post (all (setsA C.gs C.sets)) w (all (setsA C.gs (C.put i j y).sets)) w':=by
 have:=Gr hs (Ja h hi) hp;rwa [Pv C.gs C.sets i (C.g i) (CS.g_at h hi)] at this
theorem vy {w:wD}{C:CS} (h:C.Ok) (hs:here (setsA C.gs C.sets) w){i j q:Nat}{y y':Way} (hi:i<C.S) (hj:(C.set_ i)[j]?=some y) (hq:q<19){v:Value} (hy:y'.cells=y.cells.set q v) :
  Post (all (setsA C.gs C.sets)) w (all (setsA C.gs (C.put i j y').sets)) (w.setCell ⟨C.g i,j * 19+q,none⟩ v):=by
 refine Jc h hs hi ?_;have:=Io (Bs h hs hi) (j * 19+q) v;rw[Ip (sf h (CS.set_mem h hi)) hj hq hy] at this;exact this
theorem mq {w:wD}{C:CS} (h:C.Ok) (hs:here (setsA C.gs C.sets) w){i j q:Nat}{y:Way} (hi:i<C.S) (hj:(C.set_ i)[j]?=some y) (hq:q<19):(∃ u,w.cell? ⟨C.g i,j * 19+q,none⟩=some u)/\w.frozen? ⟨C.g i,j * 19+q,none⟩=false:=by
 have hl:=sf h (CS.set_mem h hi) y (qN hj);exact⟨⟨_,dx h hs hi hj hq (qC (by omega))⟩,(Bs h hs hi).frozen _⟩
def CS.touched (C:CS) (i j:Nat):CS:=match (C.set_ i)[j]? with
 | some y=>C.tick.put i j { y with used:=C.clock+1 }
 | none=>C
theorem gt {C:CS}{i j:Nat}{y:Way} (h:(C.set_ i)[j]?=some y):C.touched i j=C.tick.put i j { y with used:=C.clock+1 }:=by unfold CS.touched;rw[h]
theorem Bu {C:CS} (h:C.Ok) (hc:C.clock+1<4611686018427387904):C.tick.Ok:=⟨h.pow,h.gl,h.sl,h.n0,h.n1,h.len,h.way,hc⟩
theorem Ej {W:wD}{b:Nat}{C:CS} (ho:C.Ok) (h:(af b C).at_ W){i j:Nat}{y:Way} (hi:i<C.S) (hj:(C.set_ i)[j]?=some y) :
  Calls prog 82 #[pZ b 0,.pointer (some ⟨C.g i,j * 19,none⟩)] W λ e w=>e=eY #[]/\Post (af b C) W (af b (C.touched i j)) w:=by
 have hc:=ho.clk;have H:=Ae h;refine aol _ _ _ _ ⟨C.clock,H.ld 0 rfl rfl,?_⟩;rintro z2 rfl;rw[w64 (by omega) (by omega)];refine H.st 0 rfl (by show 1<2;omega) λ w2 H=>?_
 have ht:C.root.setIfInBounds (0+1) (.int .i64 ((C.clock:Int)+1))=C.tick.root:=by
  show _=#[_,Value.int .i64 ((C.clock+1:Nat):Int)];rw[show((C.clock+1:Nat):Int)=(C.clock:Int)+1 by omega];rfl
 have H:St W (af b C).own w2 (C.tick.pieces b++[]):=by rw[ht] at H;exact H
 have hS:here (setsA C.gs C.sets) w2:=H.nth 2 rfl;have hth:=mq ho hS hi hj (q:=2) (by omega);refine⟨(C.clock:Int)+1,H.ld 0 rfl (by show some (Value.int .i64 ((C.clock+1:Nat):Int))=_;rw[show((C.clock+1:Nat):Int)=(C.clock:Int)+1 by omega]),hth.1,hth.2,?_⟩;rintro w3 rfl;refine⟨rfl,?_⟩;rw[gt hj]
 have hp:=vy (C:=C) ho hS hi hj (q:=2) (by omega) (y':={ y with used:=C.clock+1 }) (v:=.int .i64 ((C.clock:Int)+1)) (by
  show _=(Value.int .u32 y.line:: .int .i64 y.state:: .int .i64 ((C.clock:Int)+1)::u8n y.bytes);unfold Way.cells
  rw[show((C.clock+1:Nat):Int)=(C.clock:Int)+1 by omega])
 have H:=H.upd 2 rfl hp;exact uk (C':=C.tick.put i j { y with used:=C.clock+1 }) (L:=[]) H
def lineC (line state:Nat) (bytes:LN):LV:=.int .u32 line:: .int .i64 state::u8n bytes
def Way.lineC (y:Way):LV:=Proofs.YtmncepdbglaphaaGreatDoor.cbus.lineC y.line y.state y.bytes
theorem jv (l:LN):(u8n l).length=l.length:=by simp [u8n]
theorem acd {l:LN}{i x:Nat} (h:l[i]?=some x):(u8n l)[i]?=some (.int .u8 x):=by simp [u8n,h]
theorem Hd (l:LN):∀ v ∈ u8n l,v.oneCell'=true:=by
 intro v hv;simp only[u8n,qCB] at hv;obtain⟨x, -,rfl⟩:=hv;rfl
theorem dy (line state:Nat) (bytes:LN):∀ v ∈ (lineC line state bytes).toArray.toList,v.oneCell'=true:=by
 intro v hv;simp only[lineC,qp] at hv;rcases hv with rfl | rfl | hv
 ·rfl
 ·rfl
 ·exact Hd _ v hv
theorem Pw {W:wD}{b:Nat}{C:CS} (ho:C.Ok) (h:(af b C).at_ W){i j:Nat}{y:Way} (hi:i<C.S) (hj:(C.set_ i)[j]?=some y) :
  Calls prog 77 #[.pointer (some ⟨C.g i,j * 19,none⟩)] W λ e w=>e=eZ (.agg y.lineC.toArray)/\ba W w:=by
 have hl:y.bytes.length=16:=(ho.way _ (CS.set_mem ho hi) y (qN hj)).len;have hSW:here (setsA C.gs C.sets) W:=(show here (C.pieces b) W from h).nth 2 rfl;refine aok _ _ ((St.nil W).al λ k w2 H=>H.dr λ w3 H=>?_);have hS:=hSW.keep H.touch (λ _ _ e=>e)
 refine⟨y.line,by
  have:=dx ho hS hi hj (q:=0) (by omega) (v:=.int .u32 y.line) rfl
  exact this,y.state,dx ho hS hi hj (q:=1) (by omega) rfl,(u8n y.bytes).toArray,by simp [jv,hl],?_,by simp [jv,hl],?_⟩
 ·intro q v hq;rw[ac,Nat.add_assoc]
  have hq2:q<16:=by have:=(qUB.1 hq).1;simpa [jv,hl] using this
  refine dx ho hS hi hj (q:=3+q) (by omega) ?_;rw[show 3+q=q+3 by omega];simpa [Way.cells] using hq
 ·rintro vs2 rfl
  have e:List.toArray (Value.int .u32 y.line::Value.int .i64 y.state::((u8n y.bytes).toArray.toList++[]))=y.lineC.toArray:=by simp [Way.lineC,lineC]
  rw[e];exact H.sts0 0 rfl (by simp [Way.lineC,lineC,jv,hl]) rfl (dy _ _ _) λ w4 H=>⟨_,by simp [Way.lineC,lineC,jv,hl],H.cells 0 rfl,rfl,H.touch⟩
def Px (a:Nat) (size:Int):Prop:=(size=1∨size=2∨size=4)/\a % size.toNat=0
instance (a:Nat) (size:Int):Decidable (Px a size):=inferInstanceAs (Decidable (_/\_))
def CS.hit (C:CS) (a:Nat) (size:Int) (least:Nat):Option Nat:=if Px a size/\least≤C.stateAt a then C.look a else none
theorem Bv {C:CS}{a least j:Nat}{size:Int} (h:C.hit a size least=some j):Px a size/\C.look a=some j/\∃ y,(C.set_ (C.ix a))[j]?=some y/\least≤y.state/\y.state≠0/\y.line=a / 16 * 16:=by
 unfold CS.hit at h;split at h
 ·rename_i hc;obtain⟨y,hy,h1,h2⟩:=look_some h;refine⟨hc.1,h,y,hy,?_,h1,h2⟩;have h3:=hc.2;unfold CS.stateAt at h3;rw[h] at h3;simp only at h3;rw[qF,hy] at h3;exact h3
 ·cases h
theorem ajz {a:Nat} (ha:a<4294967296):IntKind.wrap .i64 (IntKind.wrap .u32 ((bZ .u32 (a:Int) &&&bZ .u32 15).toNat:Int))=((a % 16:Nat):Int):=by
 have:=Bits.land32 ha (show 15<4294967296 by decide);rw[show((15:Nat):Int)=15 from rfl] at this;rw[this,show a &&&15=a % 2 ^ 4 from Bits.mask a 4];exact Bits.n64 (by omega)
def si (W:wD) (b:Nat) (C:CS) (a:Nat) (size:Int) (least:Nat) (e:Ending) (w:wD):Prop :=
 match C.hit a size least with
 | some j=>e=eY #[.pointer (some ⟨C.g (C.ix a),j * 19,none⟩),.slice (some ⟨C.g (C.ix a),j * 19+3+a % 16,none⟩) size.toNat size.toNat]/\Sep.Post (af b C) W (af b (C.touched (C.ix a) j)) w
 | none=>e=eY #[.pointer none,.slice none 0 0]/\ba W w
theorem part_any {W:wD}{b:Nat}{C:CS} (ho:C.Ok) (h:(af b C).at_ W) (a:Nat) (ha:a<4294967296) (size:Int) (least:Nat) (hl1:1≤least) :
  Calls prog 168 #[pZ b 0,.int .u32 a,.int .i64 size,.int .i64 least] W (si W b C a size least):=by
 have hi:=ho.ix_lt a;refine ajy b 0 a size least ((find_any ho h a ha).mono ?_);rintro e w2 ⟨rfl,hh⟩;have h2:(af b C).at_ w2:=(af b C).keep h hh (λ _ _ e=>e);have hS:here (setsA C.gs C.sets) w2:=(show here (C.pieces b) w2 from h2).nth 2 rfl
 have al:∀ s:Nat,(s=1∨s=2∨s=4)->IntKind.wrap .u32 (s:Int)≠0/\((Int.tmod (a:Int) (IntKind.wrap .u32 (s:Int)) !=0)=decide (¬ a % s=0)):=by
  intro s hs;rw[Bits.n32 (x:=s) (by omega),Bits.tmod];refine⟨by omega,?_⟩;rw[Bool.eq_iff_iff];simp;omega
 refine⟨_,rfl,λ x w=>x=(C.hit a size least).isNone/\w=w2,?_,λ _=>?_⟩
 ·cases hl:C.look a with
  | none =>
   refine aa (λ _=>⟨?_,rfl⟩) (λ q=>by cases q);unfold CS.hit;rw[hl];split <;> rfl
  | some j =>
   obtain⟨y,hy,hy1,hy2⟩:=look_some hl
   have hst:C.stateAt a=y.state:=by
    unfold CS.stateAt;rw[hl];simp only;rw[qF,hy];rfl
   refine aa (λ q=>by cases q) (λ _=>ptr_some ⟨y.state,?_,aa (λ q=>⟨?_,rfl⟩) (λ q=>?_)⟩)
   ·rw[ac];exact dx ho hS hi hy (q:=1) (by omega) rfl
   ·have q:=qB q;unfold CS.hit;rw[if_neg (λ e=>by have:=e.2;omega)];rfl
   ·have q:=qE q
    have go:∀ s:Nat,(s=1∨s=2∨s=4)->size=s->decide (¬ a % s=0)=(C.hit a size least).isNone:=by
     intro s hs e;subst e;unfold CS.hit;by_cases hz:a % s=0
     ·rw[if_pos ⟨⟨by omega,by rw[qG];exact hz⟩,by omega⟩,hl];simp [hz]
     ·rw[if_neg (λ e=>hz (by have:=e.1.2;rw[qG] at this;exact this))];simp [hz]
    refine aa (λ q1=>aa (λ q2=>aa (λ q3=>⟨?_,rfl⟩) (λ q3=>?_)) (λ q2=>?_)) (λ q1=>?_)
    ·have q1:¬ size=1:=by simpa using q1
     have q2:¬ size=2:=by simpa using q2
     have q3:¬ size=4:=by simpa using q3
     unfold CS.hit;rw[if_neg (λ e=>by have:=e.1.1;omega)];rfl
    ·have q3:size=((4:Nat):Int):=by simpa using q3
     rintro z rfl;rw[q3];refine⟨(al 4 (by omega)).1,?_⟩;rintro z3 rfl;exact⟨by rw[(al 4 (by omega)).2,<- q3];exact go 4 (by omega) q3,rfl⟩
    ·have q2:size=((2:Nat):Int):=by simpa using q2
     rintro z rfl;rw[q2];refine⟨(al 2 (by omega)).1,?_⟩;rintro z3 rfl;exact⟨by rw[(al 2 (by omega)).2,<- q2];exact go 2 (by omega) q2,rfl⟩
    ·have q1:size=((1:Nat):Int):=by simpa using q1
     rintro z rfl;rw[q1];refine⟨(al 1 (by omega)).1,?_⟩;rintro z3 rfl;exact⟨by rw[(al 1 (by omega)).2,<- q1];exact go 1 (by omega) q1,rfl⟩
 ·rintro x w3 ⟨rfl,rfl⟩;refine aa (λ q=>?_) (λ q=>?_)
  ·have:C.hit a size least=none:=Option.isNone_iff_eq_none.1 q;unfold si;rw[this];exact⟨rfl,hh⟩
  ·cases hj:C.hit a size least with
   | none=>rw[hj] at q;cases q
   | some j =>
    obtain⟨hf,hl,y,hy, -, -, -⟩:=Bv hj;rw[hl];obtain⟨s,hs,rfl⟩:∃ s:Nat,(s=1∨s=2∨s=4)/\size=s:=⟨size.toNat,by have:=hf.1;omega,by have:=hf.1;omega⟩
    have hal:a % s=0:=by have:=hf.2;rwa [qG] at this
    refine(Ej ho h2 hi hy).mono ?_;rintro e w4 ⟨rfl,hp⟩;refine⟨rfl,?_⟩;rintro z8 rfl z9 rfl;rw[ajz ha]
    have hlt:a % 16+s≤16:=by rcases hs with rfl | rfl | rfl <;> omega
    refine ptr_some ?_;rintro z10 rfl z11 rfl;rw[w64 (by omega) (by omega)];refine⟨⟨by omega,by omega,by omega,by omega⟩,?_⟩;rintro w5 k rfl;unfold si;rw[hj];refine⟨?_,?_⟩
    ·have e1:((a % 16:Nat):Int).toNat=a % 16:=qG _
     have e2:(((a % 16:Nat):Int)+(s:Int)).toNat=a % 16+s:=by omega
     show eY #[.pointer (some ⟨C.g (C.ix a),j * 19,none⟩),.slice (Sx.sub (some (Addr.add ⟨C.g (C.ix a),j * 19,none⟩ 3)) _ _ 1) _ _]=_;rw[e1,e2];unfold Sx.sub;rw[if_neg (by omega),Option.map_some,ac,ac,qT,show a % 16+s - a % 16=s by omega,qG]
    ·refine⟨(af b _).keep hp.1 ((qH (λ _=>False) w4).drewN k) (λ _ _ e=>e),?_,λ q hq=>?_⟩
     ·exact((hh.mono (λ _ _ e=>e.elim)).trans hp.2.1 (λ _ _ e=>e)).drewN k
     ·rcases hp.2.2 q hq with e | e
      ·exact .inl e
      ·exact .inr (qVB hh.size e)
def le:LN->Nat
 | []=>0
 | x::l=>x+256 * le l
theorem le_lt:∀ {l:LN},(∀ x ∈ l,x<256)->le l<256 ^ l.length
 | [],_=>by simp [le]
 | x::l,h=>by
  have h1:=h x (by simp);have h2:=le_lt (λ y hy=>h y (by simp [hy]):∀ y ∈ l,y<256);simp only[le,qy,Nat.pow_succ];omega
theorem Py:∀ (l:LN) (x:Nat),le (l++[x])=le l+256 ^ l.length * x
 | [],x=>by simp [le]
 | y::l,x=>by
  simp only[qAC,le,Py l x,qy,Nat.pow_succ,Nat.mul_add];rw[<- Nat.mul_assoc,Nat.mul_comm 256 (256 ^ l.length)];omega
theorem ace {v c x:Nat} (hx:x<4) (hv:v<256 ^ x) (hc:c<256):IntKind.wrap .u32 ((bZ .u32 (v:Int) |||bZ .u32 (IntKind.wrap .u32 (IntKind.wrap .u32 (c:Int) * 2 ^ min (8 * x) (IntKind.bits .u32)))).toNat:Int)=((v+256 ^ x * c:Nat):Int):=by
 have hp:256 ^ x≤256 ^ 3:=qX (by decide) (by omega)
 have hp2:256 ^ x * c<4294967296:=by
  have:256 ^ x * c≤256 ^ 3 * 255:=Nat.mul_le_mul hp (by omega);omega
 have e0:(2:Nat) ^ (8 * x)=256 ^ x:=by rw[Nat.pow_mul]
 have e1:IntKind.wrap .u32 (IntKind.wrap .u32 (c:Int) * 2 ^ min (8 * x) (IntKind.bits .u32))=((256 ^ x * c:Nat):Int):=by
  rw[Bits.n32 (x:=c) (by omega),qPB (by show 8 * x≤32;omega)];rw[show((c:Int) * 2 ^ (8 * x))=((256 ^ x * c:Nat):Int) by rw[<- e0];simp [Int.mul_comm]];exact Bits.n32 hp2
 rw[e1,Bits.lor32 (by omega) hp2];congr 1;have:=Nat.two_pow_add_eq_or_of_lt (i:=8 * x) (b:=v) (by rw[e0];exact hv) c;rw[e0] at this;rw[Nat.or_comm,<- this,Nat.add_comm]
def Way.part (y:Way) (a n:Nat):LN:=(y.bytes.drop (a % 16)).take n
theorem Jd {y:Way} (h:y.Ok){a n:Nat} (hn:a % 16+n≤16):(y.part a n).length=n:=by
 have:=h.len;unfold Way.part;simp;omega
theorem Pz {y:Way} (h:y.Ok){a n x:Nat} (hx:y.bytes[a % 16+n]?=some x):y.part a (n+1)=y.part a n++[x]:=by
 unfold Way.part;rw[qfB,qAB,hx];rfl
theorem Qa {y:Way} (h:y.Ok) (a n:Nat):∀ x ∈ y.part a n,x<256:=λ x hx=>h.byte x (qhB (qRB hx))
def CS.val (C:CS) (a:Nat) (size:Int) (j:Nat):Nat:=le ((((C.set_ (C.ix a)).getD j default).part a size.toNat))
def Bw (W:wD) (b:Nat) (C:CS) (a:Nat) (size:Int) (e:Ending) (w:wD):Prop :=
 match C.hit a size 1 with
 | some j=>e=eY #[.int .u32 (C.val a size j),.bool true]/\Sep.Post (af b C) W (af b (C.touched (C.ix a) j)) w
 | none=>e=eY #[.int .u32 0,.bool false]/\Sep.Post (af b C) W (af b C) w
theorem Lw {C:CS} (h:C.Ok) (hc:C.clock+1<4611686018427387904){i j:Nat} (hi:i<C.S):(C.touched i j).Ok:=by
 unfold CS.touched;split
 ·rename_i y hy;have:=h.way _ (CS.set_mem h hi) y (qN hy);exact Ei (Bu h hc) hi ⟨this.line,this.state,this.len,this.byte⟩
 ·exact h
theorem Lx {C:CS} (h:C.Ok){i j:Nat}{y:Way} (hi:i<C.S) (hj:(C.set_ i)[j]?=some y):((C.touched i j).set_ i)[j]?=some { y with used:=C.clock+1 }:=by
 rw[gt hj];have hl:=(qD.1 hj).1;show((C.sets.set i ((C.set_ i).set j _)).getD i [])[j]?=_;rw[qF,qO (by rw[h.sl];exact hi)];exact qO hl
theorem read_any {W:wD}{b:Nat}{C:CS} (ho:C.Ok) (hc:C.clock+1<4611686018427387904) (h:(af b C).at_ W) (a:Nat) (ha:a<4294967296) (size:Int) :
  Calls prog 211 #[pZ b 0,.int .u32 a,.int .i64 size] W (Bw W b C a size):=by
 have hi:=ho.ix_lt a;refine ajw b 0 a size ((part_any ho h a ha size 1 (by decide)).mono ?_);intro e w2 hpp;unfold si at hpp;unfold Bw
 cases hj:C.hit a size 1 with
 | none =>
  rw[hj] at hpp;obtain⟨rfl,hh⟩:=hpp;have hP:Sep.Post (af b C) W (af b C) w2:=⟨(af b C).keep h hh (λ _ _ e=>e),hh.mono (λ _ _ e=>e.elim),λ q hq=>.inl hq⟩;refine⟨_,_,_,_,rfl,λ x v w=>x=0/\v=0/\w=w2,λ _ _ _=>0,⟨rfl,rfl,rfl⟩,λ _=>?_⟩;rintro x v w3 ⟨rfl,rfl,rfl⟩;exact aa (λ q=>absurd (qB q) (by decide)) (λ _=>⟨rfl,hP⟩)
 | some j =>
  rw[hj] at hpp;obtain⟨rfl,hp⟩:=hpp;obtain⟨hf,hl,y,hy, -, -, -⟩:=Bv hj;obtain⟨s,hs,rfl⟩:∃ s:Nat,(s=1∨s=2∨s=4)/\size=s:=⟨size.toNat,by have:=hf.1;omega,by have:=hf.1;omega⟩
  have hal:a % s=0:=by have:=hf.2;rwa [qG] at this
  have hlt:a % 16+s≤16:=by rcases hs with rfl | rfl | rfl <;> omega
  have hyo:=ho.way _ (CS.set_mem ho hi) y (qN hy);have ho2:=Lw (j:=j) ho hc hi;have hy2:=Lx ho hi hy
  have hev:C.val a (s:Int) j=le (y.part a s):=by
   unfold CS.val;rw[qF,hy,qG];rfl
  have hg:(C.touched (C.ix a) j).g (C.ix a)=C.g (C.ix a):=by rw[gt hy];rfl
  have hSS:(C.touched (C.ix a) j).S=C.S:=by rw[gt hy];rfl
  have hp0:=hp;generalize C.touched (C.ix a) j=C2 at hp ho2 hy2 hg hSS;have hS:here (setsA C2.gs C2.sets) w2:=(show here (C2.pieces b) w2 from hp.1).nth 2 rfl;rw[qG];refine⟨_,_,_,_,rfl,λ x v w=>∃ m:Nat,x=m/\m≤s/\v=le (y.part a m)/\w=w2,λ x _ _=>s - x.toNat,⟨0,rfl,by omega,by unfold Way.part;simp [le],rfl⟩,λ _=>?_⟩;rintro x v w3 ⟨m,rfl,hm,rfl,rfl⟩;refine aa (λ q=>?_) (λ q=>?_)
  ·have q:=qB q;obtain⟨z,hz⟩:∃ z,y.bytes[a % 16+m]?=some z:=⟨_,qC (by have:=hyo.len;omega)⟩;have hz2:=hyo.byte z (qN hz);refine⟨⟨by omega,q⟩,adr_some ⟨z,?_,?_⟩⟩
   ·rw[ix1,show j * 19+3+a % 16+m=j * 19+(3+(a % 16+m)) by omega,<- hg];refine dx ho2 hS (by rw[hSS];exact hi) hy2 (by omega) ?_;rw[show 3+(a % 16+m)=a % 16+m+3 by omega];show(u8n y.bytes)[a % 16+m]?=_;exact acd hz
   ·rintro z2 rfl z3 rfl;rw[show(8 * (m:Int))=((8 * m:Nat):Int) by omega,Bits.n64 (by omega)];refine⟨by omega,?_⟩;rintro z4 rfl z5 rfl;rw[qG];have hv:=le_lt (Qa hyo a m);rw[Jd hyo (by omega)] at hv;rw[ace (x:=m) (by omega) hv hz2];rintro z6 rfl;rw[w64 (by omega) (by omega)];refine⟨⟨m+1,by omega,by omega,?_,rfl⟩,by show s - ((m:Int)+1).toNat<s - (m:Int).toNat;omega⟩;rw[Pz hyo hz,Py,Jd hyo (by omega)]
  ·have q:=qE q;obtain rfl:m=s:=by omega
   show eY #[.int .u32 (le (y.part a m):Nat),.bool true]=eY #[.int .u32 (C.val a (m:Int) j:Nat),.bool true]/\_;rw[hev];exact⟨rfl,hp0⟩
def aka (d i:Nat):Nat:=d / 2 ^ (8 * i) % 256
def wrN (l:LN) (k d:Nat):Nat->LN
 | 0=>l
 | n+1=>(wrN l k d n).set (k+n) (aka d n)
theorem He (l:LN) (k d:Nat):∀ n,(wrN l k d n).length=l.length
 | 0=>rfl
 | n+1=>by rw[wrN,qJ];exact He l k d n
theorem Bx {l:LN} (h:∀ x ∈ l,x<256) (k d:Nat):∀ n,∀ x ∈ wrN l k d n,x<256
 | 0=>h
 | n+1=>λ x hx=>by
  rcases qZ hx with e | rfl
  ·exact Bx h k d n x e
  ·exact qIB _ (by decide)
def CS.wrote (C:CS) (a:Nat) (size:Int) (d j:Nat):CS:=match (C.set_ (C.ix a))[j]? with
 | some y=>C.tick.put (C.ix a) j { y with used:=C.clock+1,state:=3,bytes:=wrN y.bytes (a % 16) d size.toNat }
 | none=>C
def xv (W:wD) (b:Nat) (C:CS) (a:Nat) (size:Int) (d:Nat) (e:Ending) (w:wD):Prop :=
 match C.hit a size 2 with
 | some j=>e=eZ (.bool true)/\Sep.Post (af b C) W (af b (C.wrote a size d j)) w
 | none=>e=eZ (.bool false)/\Sep.Post (af b C) W (af b C) w
theorem Ly (y:Way) (p x:Nat):({ y with bytes:=y.bytes.set p x }:Way).cells=y.cells.set (3+p) (.int .u8 x):=by
 unfold Way.cells;rw[show 3+p=p+3 by omega];simp [u8n,qtB]
theorem Bz {C:CS} (h:C.Ok){i:Nat} (hi:i<C.S) (j:Nat) (y z:Way):(C.put i j y).put i j z=C.put i j z:=by
 show CS.mk _ _ _ _ _ _ ((C.sets.set i _).set i (((C.put i j y).set_ i).set j z)) _=CS.mk _ _ _ _ _ _ _ _;rw[Bt h hi,qWB,qWB];rfl
theorem Qb {W:wD}{b:Nat}{C:CS} (ho:C.Ok) (hc:C.clock+1<4611686018427387904) (h:(af b C).at_ W) (a:Nat) (ha:a<4294967296) (size:Int) (d:Nat) (hd:d<4294967296) :
  Calls prog 124 #[pZ b 0,.int .u32 a,.int .i64 size,.int .u32 d] W (xv W b C a size d):=by
 have hi:=ho.ix_lt a;refine ajx b 0 a size d ((part_any ho h a ha size 2 (by decide)).mono ?_);intro e w2 hpp;unfold si at hpp;unfold xv
 cases hj:C.hit a size 2 with
 | none =>
  rw[hj] at hpp;obtain⟨rfl,hh⟩:=hpp;have hP:Sep.Post (af b C) W (af b C) w2:=⟨(af b C).keep h hh (λ _ _ e=>e),hh.mono (λ _ _ e=>e.elim),λ q hq=>.inl hq⟩;exact⟨_,_,_,_,rfl,aa (λ _=>⟨rfl,hP⟩) (λ q=>by cases q)⟩
 | some j =>
  rw[hj] at hpp;obtain⟨rfl,hp⟩:=hpp;obtain⟨hf,hl,y,hy, -, -, -⟩:=Bv hj;obtain⟨s,hs,rfl⟩:∃ s:Nat,(s=1∨s=2∨s=4)/\size=s:=⟨size.toNat,by have:=hf.1;omega,by have:=hf.1;omega⟩
  have hal:a % s=0:=by have:=hf.2;rwa [qG] at this
  have hlt:a % 16+s≤16:=by rcases hs with rfl | rfl | rfl <;> omega
  have hyo:=ho.way _ (CS.set_mem ho hi) y (qN hy);have hto:=Bu ho hc;have hjl:=(qD.1 hy).1;rw[qG];rw[gt hy] at hp;have Y:∀ m,Way.Ok { y with used:=C.clock+1,bytes:=wrN y.bytes (a % 16) d m }:=λ m=>⟨hyo.line,hyo.state,by show(wrN _ _ _ m).length=16;rw[He];exact hyo.len,Bx hyo.byte _ _ m⟩
  have at_j:∀ z:Way,((C.tick.put (C.ix a) j z).set_ (C.ix a))[j]?=some z:=λ z=>by
   rw[Bt hto hi];exact qO hjl
  refine⟨_,_,_,_,rfl,aa (λ q=>by cases q) (λ _=>?_)⟩;refine⟨λ x w=>∃ m:Nat,x=m/\m≤s/\Sep.Post (af b C) W (af b (C.tick.put (C.ix a) j { y with used:=C.clock+1,bytes:=wrN y.bytes (a % 16) d m })) w,λ x _=>s - x.toNat,⟨0,rfl,by omega,hp⟩,λ _=>?_⟩;rintro x w3 ⟨m,rfl,hm,hP⟩;have hoC:=Ei (j:=j) hto hi (Y m);have H:St W (af b C).own w3 (af b (C.tick.put (C.ix a) j { y with used:=C.clock+1,bytes:=wrN y.bytes (a % 16) d m })::[]):=(St.begin h).upd 0 rfl hP;have H:=H.open_;have hS:here (setsA C.gs (C.tick.put (C.ix a) j { y with used:=C.clock+1,bytes:=wrN y.bytes (a % 16) d m }).sets) w3:=H.nth 2 rfl;refine aa (λ q=>?_) (λ q=>?_)
  ·have q:=qB q;rintro z rfl;rw[show(8 * (m:Int))=((8 * m:Nat):Int) by omega,Bits.n64 (by omega)];refine⟨by omega,?_⟩;rintro z2 rfl z3 rfl;rw[qG (8 * m),qPB (by show 8 * m≤32;omega),Bits.shr,Bits.m8];refine⟨⟨by omega,q⟩,adr_some ?_⟩;rw[ix1,show j * 19+3+a % 16+m=j * 19+(3+(a % 16+m)) by omega];have ht:=mq hoC hS hi (at_j _) (q:=3+(a % 16+m)) (by omega);refine⟨ht.1,ht.2,?_⟩;rintro w4 rfl z4 rfl;rw[w64 (by omega) (by omega)];refine⟨⟨m+1,by omega,by omega,?_⟩,by show s - ((m:Int)+1).toNat<s - (m:Int).toNat;omega⟩;have hpw:=vy hoC hS hi (at_j _) (q:=3+(a % 16+m)) (by omega) (Ly { y with used:=C.clock+1,bytes:=wrN y.bytes (a % 16) d m } (a % 16+m) (d / 2 ^ (8 * m) % 256));rw[Bz hto hi] at hpw;exact uk (C':=C.tick.put (C.ix a) j { y with used:=C.clock+1,bytes:=wrN y.bytes (a % 16) d (m+1) }) (L:=[]) (H.upd 2 rfl hpw)
  ·have q:=qE q;obtain rfl:m=s:=by omega
   have ht:=mq hoC hS hi (at_j _) (q:=1) (by omega);refine ptr_some ⟨?_,?_,?_⟩
   ·rw[ac];exact ht.1
   ·rw[ac];exact ht.2
   rintro w5 rfl;refine⟨rfl,?_⟩;have hpw:=vy hoC hS hi (at_j _) (q:=1) (by omega) (y':={ y with used:=C.clock+1,state:=3,bytes:=wrN y.bytes (a % 16) d m }) (v:=.int .i64 3) rfl;rw[Bz hto hi] at hpw;rw[ac]
   have e:C.wrote a (m:Int) d j=C.tick.put (C.ix a) j { y with used:=C.clock+1,state:=3,bytes:=wrN y.bytes (a % 16) d m }:=by unfold CS.wrote;rw[hy,qG]
   rw[e];exact uk (C':=C.tick.put (C.ix a) j { y with used:=C.clock+1,state:=3,bytes:=wrN y.bytes (a % 16) d m }) (L:=[]) (H.upd 2 rfl hpw)
end Go.Proofs.YtmncepdbglaphaaGreatDoor.cbus
