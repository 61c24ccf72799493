/- The small language in plain Lean: how a program runs. No condition. -/
import Derived.Test.YtojogkljneonmaaGreatDoorLangX
import Derived.Test.YtojogkljneonmaaGreatDoorLangVd
set_option linter.unusedVariables false
set_option linter.unusedSimpArgs false
namespace Go.Lang
structure Rn where
 words:List UInt32
 out:List UInt8
 steps:Nat
 room:Nat
 slots:List UInt32
inductive Rs (σ:Type) where
 | ok (v:List UInt32) (s:σ)
 | stop (k:Nat) (s:σ)
 | out
def Rs.bind {σ:Type}:Rs σ->(List UInt32->σ->Rs σ)->Rs σ
 | .ok v s,k=>k v s
 | .stop n s,_=>.stop n s
 | .out,_=>.out
inductive Rq where
 | e (x:T) | al (xs:T) | en (k:Nat) (args:List UInt32) | s (x:T) | ss (xs:T) | w (c b:T)
abbrev Ft:=Nat->Option (Nat×T)
def hd (v:List UInt32):UInt32:=v.headD 0
def tr (b:Bool):UInt32:=if b then 1 else 0
def jn:ByteArray:=ofL [38,38]
def vz:ByteArray:=ofL [124,124]
def Rn.step (s:Rn) (k:Rn->Rs Rn):Rs Rn:=if s.steps=0 then .stop 0 s else k { s with steps:=s.steps - 1 }
def Rn.get (s:Rn) (sl w:Int):UInt32:=if 0≤sl then s.slots.getD sl.toNat 0 else s.words.getD w.toNat 0
def Rn.set (s:Rn) (sl w:Int) (v:UInt32):Rn:=if 0≤sl then { s with slots:=s.slots.set sl.toNat v } else { s with words:=s.words.set w.toNat v }
def opOf (s:ByteArray):Int :=
 if s=ofL [124] then 36 else if s=ofL [94] then 33 else if s=ofL [38] then 37 else if s=ofL [60] then 31 else if s=ofL [60,60] then 30 else if s=ofL [62,62] then 35
 else if s=ofL [43] then 28 else if s=ofL [45] then 29 else if s=ofL [42] then 38 else if s=ofL [47] then 42 else if s=ofL [37] then 44 else 0
def unV (s:ByteArray) (v:UInt32):UInt32:=if s=pn then 0 - v else if s=Vy then tr (v==0) else ~~~ v
def go (E:ByteArray->UInt32->UInt32->UInt32) (F:Ft):Nat->Rq->Rn->Rs Rn
 | 0,_,_=>.out
 | f+1,.e x,s=>s.step λ s=>match x with
  | .num v _=>.ok [UInt32.ofNat v.toNat] s
  | .name _ sl w=>.ok [s.get sl w] s
  | .index _ w z p=>(go E F f (.e p) s).bind λ v s=>if z≤((hd v).toNat:Int) then .stop 1 s else .ok [s.words.getD (w.toNat+(hd v).toNat) 0] s
  | .call _ a xs=>(go E F f (.al xs) s).bind λ vs s=>go E F f (.en ((a.map Addr.block).getD 0) vs) s
  | .un t x=>(go E F f (.e x) s).bind λ v s=>.ok [unV t.s (hd v)] s
  | .bin t x y=>(go E F f (.e x) s).bind λ v s=>if t.s=jn/\hd v=0 then .ok [0] s else if t.s=vz/\hd v≠0 then .ok [1] s else
   (go E F f (.e y) s).bind λ u s=>.ok [E t.s (hd v) (hd u)] s
  | _=>.out
 | f+1,.al xs,s=>match xs with
  | .cons x xs=>(go E F f (.e x) s).bind λ v s=>(go E F f (.al xs) s).bind λ vs s=>.ok (hd v::vs) s
  | .nil=>.ok [] s
  | _=>.out
 | f+1,.en k args,s=>match F k with
  | none=>.out
  | some (n,b)=>if s.room<10+n then .stop 2 s else
   (go E F f (.s b) { s with room:=s.room - (10+n),slots:=args++List.replicate (n - args.length) 0 }).bind λ v s'=>.ok [hd v] { s' with slots:=s.slots,room:=s'.room+(10+n) }
 | f+1,.s x,s=>s.step λ s=>match x with
  | .block _ l=>go E F f (.ss l) s
  | .letS _ _ sl w x=>(go E F f (.e x) s).bind λ v s=>.ok [] (s.set sl w (hd v))
  | .setS _ sl w x=>(go E F f (.e x) s).bind λ v s=>.ok [] (s.set sl w (hd v))
  | .putS _ w z p x=>(go E F f (.e p) s).bind λ k s=>(go E F f (.e x) s).bind λ v s=>if z≤((hd k).toNat:Int) then .stop 1 s else .ok [] { s with words:=s.words.set (w.toNat+(hd k).toNat) (hd v) }
  | .ifS _ c a b=>(go E F f (.e c) s).bind λ v s=>if hd v≠0 then go E F f (.s a) s else if b.isNil then .ok [] s else go E F f (.s b) s
  | .whileS _ c b=>go E F f (.w c b) s
  | .retS _ x=>(go E F f (.e x) s).bind λ v s=>.ok [hd v] s
  | .prtS _ x=>(go E F f (.e x) s).bind λ v s=>.ok [] { s with out:=s.out++[(hd v).toUInt8] }
  | .doS _ x=>(go E F f (.e x) s).bind λ v s=>.ok [] s
  | _=>.out
 | f+1,.ss xs,s=>match xs with
  | .cons x xs=>(go E F f (.s x) s).bind λ v s=>if v=[] then go E F f (.ss xs) s else .ok v s
  | .nil=>.ok [] s
  | _=>.out
 | f+1,.w c b,s=>(go E F f (.e c) s).bind λ v s=>if hd v=0 then .ok [] s else (go E F f (.s b) s).bind λ v s=>if v=[] then go E F f (.w c b) s else .ok v s
variable {E:ByteArray->UInt32->UInt32->UInt32}{F:Ft}{f:Nat}{s:Rn}
theorem go_num {v l:Int}:go E F (f+1) (.e (.num v l)) s=s.step λ s=>.ok [UInt32.ofNat v.toNat] s:=rfl
theorem go_name {t:Tok}{sl w:Int}:go E F (f+1) (.e (.name t sl w)) s=s.step λ s=>.ok [s.get sl w] s:=rfl
theorem go_index {t:Tok}{w z:Int}{p:T}:go E F (f+1) (.e (.index t w z p)) s=s.step λ s=>(go E F f (.e p) s).bind λ v s=>if z≤((hd v).toNat:Int) then .stop 1 s else .ok [s.words.getD (w.toNat+(hd v).toNat) 0] s:=rfl
theorem go_call {t:Tok}{a:Option Addr}{xs:T}:go E F (f+1) (.e (.call t a xs)) s=s.step λ s=>(go E F f (.al xs) s).bind λ vs s=>go E F f (.en ((a.map Addr.block).getD 0) vs) s:=rfl
theorem go_un {t:Tok}{x:T}:go E F (f+1) (.e (.un t x)) s=s.step λ s=>(go E F f (.e x) s).bind λ v s=>.ok [unV t.s (hd v)] s:=rfl
theorem go_bin {t:Tok}{x y:T}:go E F (f+1) (.e (.bin t x y)) s=s.step λ s=>(go E F f (.e x) s).bind λ v s=>if t.s=jn/\hd v=0 then .ok [0] s else if t.s=vz/\hd v≠0 then .ok [1] s else
   (go E F f (.e y) s).bind λ u s=>.ok [E t.s (hd v) (hd u)] s:=rfl
theorem ahz {x xs:T}:go E F (f+1) (.al (.cons x xs)) s=(go E F f (.e x) s).bind λ v s=>(go E F f (.al xs) s).bind λ vs s=>.ok (hd v::vs) s:=rfl
theorem ael:go E F (f+1) (.al .nil) s= .ok [] s:=rfl
theorem aem {k n:Nat}{b:T}{args:List UInt32} (h:F k=some (n,b)):go E F (f+1) (.en k args) s=if s.room<10+n then .stop 2 s else
   (go E F f (.s b) { s with room:=s.room - (10+n),slots:=args++List.replicate (n - args.length) 0 }).bind λ v s'=>.ok [hd v] { s' with slots:=s.slots,room:=s'.room+(10+n) }:=by
 rw[go,h]
theorem go_block {l:Int}{xs:T}:go E F (f+1) (.s (.block l xs)) s=s.step λ s=>go E F f (.ss xs) s:=rfl
theorem go_let {t nm:Tok}{sl w:Int}{x:T}:go E F (f+1) (.s (.letS t nm sl w x)) s=s.step λ s=>(go E F f (.e x) s).bind λ v s=>.ok [] (s.set sl w (hd v)):=rfl
theorem go_set {t:Tok}{sl w:Int}{x:T}:go E F (f+1) (.s (.setS t sl w x)) s=s.step λ s=>(go E F f (.e x) s).bind λ v s=>.ok [] (s.set sl w (hd v)):=rfl
theorem go_put {t:Tok}{w z:Int}{p x:T}:go E F (f+1) (.s (.putS t w z p x)) s=s.step λ s=>(go E F f (.e p) s).bind λ k s=>(go E F f (.e x) s).bind λ v s=>if z≤((hd k).toNat:Int) then .stop 1 s else .ok [] { s with words:=s.words.set (w.toNat+(hd k).toNat) (hd v) }:=rfl
theorem go_if {l:Int}{c a b:T}:go E F (f+1) (.s (.ifS l c a b)) s=s.step λ s=>(go E F f (.e c) s).bind λ v s=>if hd v≠0 then go E F f (.s a) s else if b.isNil then .ok [] s else go E F f (.s b) s:=rfl
theorem go_while {l:Int}{c b:T}:go E F (f+1) (.s (.whileS l c b)) s=s.step λ s=>go E F f (.w c b) s:=rfl
theorem go_ret {l:Int}{x:T}:go E F (f+1) (.s (.retS l x)) s=s.step λ s=>(go E F f (.e x) s).bind λ v s=>.ok [hd v] s:=rfl
theorem go_prt {l:Int}{x:T}:go E F (f+1) (.s (.prtS l x)) s=s.step λ s=>(go E F f (.e x) s).bind λ v s=>.ok [] { s with out:=s.out++[(hd v).toUInt8] }:=rfl
theorem go_do {l:Int}{x:T}:go E F (f+1) (.s (.doS l x)) s=s.step λ s=>(go E F f (.e x) s).bind λ v s=>.ok [] s:=rfl
theorem aia {x xs:T}:go E F (f+1) (.ss (.cons x xs)) s=(go E F f (.s x) s).bind λ v s=>if v=[] then go E F f (.ss xs) s else .ok v s:=rfl
theorem aen:go E F (f+1) (.ss .nil) s= .ok [] s:=rfl
theorem alp {c b:T}:go E F (f+1) (.w c b) s=(go E F f (.e c) s).bind λ v s=>if hd v=0 then .ok [] s else (go E F f (.s b) s).bind λ v s=>if v=[] then go E F f (.w c b) s else .ok v s:=rfl
theorem Ho {k:Rn->Rs Rn} (h:s.steps=0):s.step k= .stop 0 s:=by unfold Rn.step;rw[if_pos h]
theorem Hp {k:Rn->Rs Rn} (h:s.steps≠0):s.step k=k { s with steps:=s.steps - 1 }:=by unfold Rn.step;rw[if_neg h]
theorem Si {x:T} (h:s.steps=0):go E F (f+1) (.e x) s= .stop 0 s:=Ho h
theorem Sj {x:T} (h:s.steps=0):go E F (f+1) (.s x) s= .stop 0 s:=Ho h
variable {E:ByteArray->UInt32->UInt32->UInt32}{F:Ft}
def Rq.cost:Rq->Nat
 | .e _=>1
 | .s _=>1
 | _=>0
def Rq.len:Rq->List UInt32->Prop
 | .e _,v=>v.length=1
 | .al xs,v=>v.length=xs.len
 | .en _ _,v=>v.length=1
 | _,v=>v.length≤1
def Zu (q:Rq) (s:Rn):Rs Rn->Prop
 | .ok v s'=>s'.steps+q.cost≤s.steps/\s'.slots.length=s.slots.length/\s'.words.length=s.words.length/\s'.room=s.room/\s'.out.length+s'.steps≤s.out.length+s.steps/\q.len v
 | .stop _ s'=>s'.words.length=s.words.length/\s'.out.length≤s.out.length+s.steps
 | .out=>True
theorem br {q q1:Rq}{s s1:Rn}{r:Rs Rn}{k:List UInt32->Rn->Rs Rn} (h:Zu q1 s1 r) (hw:s1.words.length=s.words.length) (ho:s1.out.length+s1.steps≤s.out.length+s.steps)
  (hk:∀ v s2,s2.steps+q1.cost≤s1.steps->s2.slots.length=s1.slots.length->s2.words.length=s1.words.length->s2.room=s1.room->s2.out.length+s2.steps≤s1.out.length+s1.steps->q1.len v->Zu q s (k v s2)):Zu q s (r.bind k):=by
 cases r with
 | ok v s2=>obtain⟨a,b,c,d,e,f⟩:=h;exact hk v s2 a b c d e f
 | stop n s2=>obtain⟨a,b⟩:=h;exact⟨by omega,by omega⟩
 | out=>trivial
theorem Hq {q:Rq}{s:Rn}{k:Rn->Rs Rn} (hk:∀ s1:Rn,s1.steps+1=s.steps->s1.words=s.words->s1.out=s.out->s1.room=s.room->s1.slots=s.slots->Zu q s (k s1)):Zu q s (s.step k):=by
 unfold Rn.step;split
 ·exact⟨rfl,by omega⟩
 ·exact hk _ (by simp only;omega) rfl rfl rfl rfl
theorem Sk (s:Rn) (sl w:Int) (v:UInt32):(s.set sl w v).slots.length=s.slots.length/\(s.set sl w v).words.length=s.words.length/\(s.set sl w v).out=s.out/\(s.set sl w v).steps=s.steps/\(s.set sl w v).room=s.room:=by
 unfold Rn.set;split <;> simp
theorem bs:∀ (f:Nat) (q:Rq) (s:Rn),Zu q s (go E F f q s)
 | 0,_,_=>trivial
 | f+1,.e x,s=>by
  unfold go;refine Hq λ s1 h1 h2 h3 h4 h5=>?_
  have hw:s1.words.length=s.words.length:=by rw[h2]
  have hs:s1.slots.length=s.slots.length:=by rw[h5]
  have ho:s1.out.length=s.out.length:=by rw[h3]
  cases x with
  | num v l=>exact⟨by simp only[Rq.cost];omega,hs,hw,h4,by omega,rfl⟩
  | name t sl w=>exact⟨by simp only[Rq.cost];omega,hs,hw,h4,by omega,rfl⟩
  | index t w z p =>
   refine br (bs f (.e p) s1) hw (by omega) λ v s2 a b c d e g=>?_;simp only[Rq.cost] at a;split
   ·exact⟨by omega,by omega⟩
   ·exact⟨by simp only[Rq.cost];omega,by omega,by omega,by omega,by omega,rfl⟩
  | call t fa xs =>
   refine br (bs f (.al xs) s1) hw (by omega) λ v s2 a b c d e g=>?_;have h:=bs f (.en ((fa.map Addr.block).getD 0) v) s2;revert h
   cases go E F f (.en _ v) s2 with
   | ok v3 s3=>rintro⟨a1,b1,c1,d1,e1,g1⟩;exact⟨by simp only[Rq.cost] at *;omega,by omega,by omega,by omega,by omega,g1⟩
   | stop n s3=>rintro⟨a1,b1⟩;exact⟨by omega,by omega⟩
   | out=>exact λ _=>trivial
  | un t x =>
   refine br (bs f (.e x) s1) hw (by omega) λ v s2 a b c d e g=>?_;exact⟨by simp only[Rq.cost] at *;omega,by omega,by omega,by omega,by omega,rfl⟩
  | bin t x y =>
   refine br (bs f (.e x) s1) hw (by omega) λ v s2 a b c d e g=>?_;simp only[Rq.cost] at a;split
   ·exact⟨by simp only[Rq.cost];omega,by omega,by omega,by omega,by omega,rfl⟩
   split
   ·exact⟨by simp only[Rq.cost];omega,by omega,by omega,by omega,by omega,rfl⟩
   refine br (bs f (.e y) s2) (by omega) (by omega) λ v s3 a b c d e g=>?_;exact⟨by simp only[Rq.cost] at *;omega,by omega,by omega,by omega,by omega,rfl⟩
  | _=>trivial
 | f+1,.al xs,s=>by
  unfold go
  cases xs with
  | cons x xs =>
   refine br (bs f (.e x) s) rfl (Nat.le_refl _) λ v s1 a b c d e g=>?_;refine br (bs f (.al xs) s1) (by omega) (by omega) λ vs s2 a b c d e g=>?_;have g:vs.length=xs.len:=g;exact⟨by simp only[Rq.cost] at *;omega,by omega,by omega,by omega,by omega,by show vs.length+1=xs.len+1;omega⟩
  | nil=>exact⟨Nat.le_refl _,rfl,rfl,rfl,Nat.le_refl _,rfl⟩
  | _=>trivial
 | f+1,.en k args,s=>by
  unfold go;split
  ·trivial
  ·rename_i n b hF;split
   ·exact⟨rfl,by omega⟩
   ·rename_i hr;refine br (bs f (.s b) _) rfl (Nat.le_refl _) λ v s2 a b c d e g=>?_;simp only at a b c d e;exact⟨by simp only[Rq.cost] at *;omega,rfl,by omega,by simp only;omega,by simp only;omega,rfl⟩
 | f+1,.s x,s=>by
  unfold go;refine Hq λ s1 h1 h2 h3 h4 h5=>?_
  have hw:s1.words.length=s.words.length:=by rw[h2]
  have hs:s1.slots.length=s.slots.length:=by rw[h5]
  have ho:s1.out.length=s.out.length:=by rw[h3]
  have same:∀ {q:Rq} {c:T} {s2:Rn},Zu q s2 (go E F f q s2)->q.len=(Rq.s c).len->s2.steps+1≤s.steps->s2.words.length=s.words.length->s2.room=s.room->s2.slots.length=s.slots.length->s2.out.length+s2.steps≤s.out.length+s.steps->Zu (.s c) s (go E F f q s2):=by
   intro q c s2 h hq g1 g2 g3 g4 g5;revert h
   cases go E F f q s2 with
   | ok v3 s3=>rintro⟨a1,b1,c1,d1,e1,g1⟩;exact⟨by simp only[Rq.cost] at *;omega,by omega,by omega,by omega,by omega,by rw[<- hq];exact g1⟩
   | stop n s3=>rintro⟨a1,b1⟩;exact⟨by omega,by omega⟩
   | out=>exact λ _=>trivial
  cases x with
  | block l xs=>exact same (bs f (.ss xs) s1) rfl (by omega) hw h4 hs (by omega)
  | whileS l cc bb=>exact same (bs f (.w cc bb) s1) rfl (by omega) hw h4 hs (by omega)
  | letS t nm sl w x =>
   refine br (bs f (.e x) s1) hw (by omega) λ v s2 a b c d e g=>?_;obtain⟨g1,g2,g3,g4,g5⟩:=Sk s2 sl w (hd v);exact⟨by simp only[Rq.cost] at *;omega,by omega,by omega,by omega,by rw[g3];omega,Nat.zero_le _⟩
  | setS t sl w x =>
   refine br (bs f (.e x) s1) hw (by omega) λ v s2 a b c d e g=>?_;obtain⟨g1,g2,g3,g4,g5⟩:=Sk s2 sl w (hd v);exact⟨by simp only[Rq.cost] at *;omega,by omega,by omega,by omega,by rw[g3];omega,Nat.zero_le _⟩
  | putS t w z p x =>
   refine br (bs f (.e p) s1) hw (by omega) λ k s2 a b c d e g=>?_;refine br (bs f (.e x) s2) (by omega) (by omega) λ v s3 a1 b1 c1 d1 e1 g1=>?_;simp only[Rq.cost] at a a1;split
   ·exact⟨by omega,by omega⟩
   ·exact⟨by simp only[Rq.cost];omega,by simp only;omega,by simp only[List.length_set];omega,by simp only;omega,by simp only;omega,Nat.zero_le _⟩
  | ifS l cc aa bb =>
   refine br (bs f (.e cc) s1) hw (by omega) λ v s2 a1 b1 c1 d1 e1 g1=>?_;simp only[Rq.cost] at a1;split
   ·exact same (bs f (.s aa) s2) rfl (by omega) (by omega) (by omega) (by omega) (by omega)
   split
   ·exact⟨by simp only[Rq.cost];omega,by omega,by omega,by omega,by omega,Nat.zero_le _⟩
   ·exact same (bs f (.s bb) s2) rfl (by omega) (by omega) (by omega) (by omega) (by omega)
  | retS l x =>
   refine br (bs f (.e x) s1) hw (by omega) λ v s2 a b c d e g=>?_;exact⟨by simp only[Rq.cost] at *;omega,by omega,by omega,by omega,by omega,Nat.le_refl _⟩
  | prtS l x =>
   refine br (bs f (.e x) s1) hw (by omega) λ v s2 a b c d e g=>?_;simp only[Rq.cost] at a;exact⟨by simp only[Rq.cost];omega,by simp only;omega,by simp only;omega,by simp only;omega,by simp only[List.length_append,List.length_cons,List.length_nil];omega,Nat.zero_le _⟩
  | doS l x =>
   refine br (bs f (.e x) s1) hw (by omega) λ v s2 a b c d e g=>?_;exact⟨by simp only[Rq.cost] at *;omega,by omega,by omega,by omega,by omega,Nat.zero_le _⟩
  | _=>trivial
 | f+1,.ss xs,s=>by
  unfold go
  cases xs with
  | cons x xs =>
   refine br (bs f (.s x) s) rfl (Nat.le_refl _) λ v s1 a b c d e g=>?_;simp only[Rq.cost] at a;split
   ·have h:=bs f (.ss xs) s1;revert h
    cases go E F f (.ss xs) s1 with
    | ok v3 s3=>rintro⟨a1,b1,c1,d1,e1,g1⟩;exact⟨by simp only[Rq.cost] at *;omega,by omega,by omega,by omega,by omega,g1⟩
    | stop n s3=>rintro⟨a1,b1⟩;exact⟨by omega,by omega⟩
    | out=>exact λ _=>trivial
   ·exact⟨by simp only[Rq.cost];omega,by omega,by omega,by omega,by omega,g⟩
  | nil=>exact⟨Nat.le_refl _,rfl,rfl,rfl,Nat.le_refl _,Nat.zero_le _⟩
  | _=>trivial
 | f+1,.w cc bb,s=>by
  unfold go;refine br (bs f (.e cc) s) rfl (Nat.le_refl _) λ v s1 a b1 c d e g=>?_;simp only[Rq.cost] at a;split
  ·exact⟨by simp only[Rq.cost];omega,by omega,by omega,by omega,by omega,Nat.zero_le _⟩
  refine br (bs f (.s bb) s1) (by omega) (by omega) λ v2 s2 a2 b2 c2 d2 e2 g2=>?_;simp only[Rq.cost] at a2;split
  ·have h:=bs f (.w cc bb) s2;revert h
   cases go E F f (.w cc bb) s2 with
   | ok v3 s3=>rintro⟨a1,b1,c1,d1,e1,g1⟩;exact⟨by simp only[Rq.cost] at *;omega,by omega,by omega,by omega,by omega,g1⟩
   | stop n s3=>rintro⟨a1,b1⟩;exact⟨by omega,by omega⟩
   | out=>exact λ _=>trivial
  ·exact⟨by simp only[Rq.cost];omega,by omega,by omega,by omega,by omega,g2⟩
variable {E:ByteArray->UInt32->UInt32->UInt32}{F:Ft}
def inW (nw ns:Nat) (sl w:Int):Prop:=(0≤sl/\sl<ns)∨(sl<0/\0≤w/\w<nw)
def inA (nw:Nat) (w z:Int):Prop:=0≤w/\0≤z/\z≤256/\w+z≤nw
def wf (F:Ft) (nw ns:Nat):T->Nat->Prop
 | .num v _,k=>k=0/\0≤v/\v<4294967296
 | .name _ sl w,k=>k=0/\inW nw ns sl w
 | .index _ w z p,k=>k=0/\inA nw w z/\wf F nw ns p 0
 | .call _ a xs,k=>k=0/\(∃ b n bd,a=some ⟨b,0,none⟩/\F b=some (n,bd)/\xs.len≤n)/\wf F nw ns xs 1
 | .un _ x,k=>k=0/\wf F nw ns x 0
 | .bin _ x y,k=>k=0/\wf F nw ns x 0/\wf F nw ns y 0
 | .nil,k=>k=1∨k=3
 | .cons x xs,k=>(k=1/\wf F nw ns x 0/\wf F nw ns xs 1)∨(k=3/\wf F nw ns x 2/\wf F nw ns xs 3)
 | .letS _ _ sl w x,k=>k=2/\inW nw ns sl w/\wf F nw ns x 0
 | .setS _ sl w x,k=>k=2/\inW nw ns sl w/\wf F nw ns x 0
 | .putS _ w z p x,k=>k=2/\inA nw w z/\wf F nw ns p 0/\wf F nw ns x 0
 | .ifS _ c a b,k=>k=2/\wf F nw ns c 0/\wf F nw ns a 2/\(wf F nw ns b 2∨b.isNil=true)
 | .whileS _ c b,k=>k=2/\wf F nw ns c 0/\wf F nw ns b 2
 | .retS _ x,k=>k=2/\wf F nw ns x 0
 | .prtS _ x,k=>k=2/\wf F nw ns x 0
 | .doS _ x,k=>k=2/\wf F nw ns x 0
 | .block _ l,k=>k=2/\wf F nw ns l 3
def Rq.wf (F:Ft) (nw ns:Nat):Rq->Prop
 | .e x=>Lang.wf F nw ns x 0
 | .al xs=>Lang.wf F nw ns xs 1
 | .en k args=>∃ n b,F k=some (n,b)/\args.length≤n
 | .s x=>Lang.wf F nw ns x 2
 | .ss xs=>Lang.wf F nw ns xs 3
 | .w c b=>Lang.wf F nw ns c 0/\Lang.wf F nw ns b 2
def FOk (F:Ft) (nw K:Nat):Prop:=∀ k n b,F k=some (n,b)->wf F nw n b 2/\b.sz≤K/\n≤24
def mz (K:Nat) (q:Rq) (s:Rn):Nat:=s.steps * (K+2)+match q with
 | .e x=>x.sz
 | .al xs=>xs.sz
 | .en _ _=>K+1
 | .s x=>x.sz
 | .ss xs=>xs.sz
 | .w c b=>c.sz+b.sz
theorem bt {σ:Type}{r:Rs σ}{k:List UInt32->σ->Rs σ} (h:r.bind k= .out):r= .out∨∃ v s,r= .ok v s/\k v s= .out:=by
 cases r with
 | ok v s=>exact .inr ⟨v,s,rfl,h⟩
 | stop n s=>cases h
 | out=>exact .inl rfl
theorem Mq {s:Rn}{k:Rn->Rs Rn} (h:s.step k= .out):∃ s1:Rn,s1.steps+1=s.steps/\k s1= .out:=by
 unfold Rn.step at h;split at h
 ·cases h
 ·exact⟨_,by simp only;omega,h⟩
theorem Sm:∀ x:T,1≤x.sz:=by
 intro x;cases x <;> simp only[T.sz] <;> omega
theorem gk {f:Nat}{q:Rq}{s s':Rn}{v:List UInt32} (h:go E F f q s= .ok v s'):s'.steps+q.cost≤s.steps/\s'.slots.length=s.slots.length/\s'.words.length=s.words.length/\s'.room=s.room/\s'.out.length+s'.steps≤s.out.length+s.steps/\q.len v:=by
 have:=bs (E:=E) (F:=F) f q s;rw[h] at this;exact this
theorem abg {nw K:Nat} (hF:FOk F nw K):∀ (f:Nat) (ns:Nat) (q:Rq) (s:Rn),q.wf F nw ns->mz K q s<f->go E F f q s≠ .out:=by
 have hm:∀ a b:Nat,a≤b->a * (K+2)≤b * (K+2):=λ a b h=>Nat.mul_le_mul_right _ h
 have hm1:∀ a b:Nat,a+1≤b->a * (K+2)+(K+2)≤b * (K+2):=λ a b h=>by
  have:=Nat.mul_le_mul_right (K+2) h;rw[Nat.add_mul,Nat.one_mul] at this;exact this
 intro f
 induction f with
 | zero=>intro ns q s _ h;omega
 | succ f ih =>
  intro ns q s hq hz ho
  cases q with
  | e x =>
   unfold go at ho;obtain⟨s1,h1,ho⟩:=Mq ho;have hs:=hm1 s1.steps s.steps (by omega);simp only[mz] at hz
   cases x with
   | num v l=>cases ho
   | name t sl w=>cases ho
   | index t w z p =>
    obtain⟨-, -,hp⟩:=hq;simp only[T.sz] at hz;rcases bt ho with ho | ⟨v,s2,h2,ho⟩
    ·exact ih ns (.e p) s1 hp (by simp only[mz];omega) ho
    ·try dsimp only at ho
     split at ho <;> cases ho
   | call t fa xs =>
    obtain⟨-,⟨b,n,bd,rfl,hb,hn⟩,hxs⟩:=hq;simp only[T.sz] at hz;rcases bt ho with ho | ⟨v,s2,h2,ho⟩
    ·exact ih ns (.al xs) s1 hxs (by simp only[mz];omega) ho
    ·have h3:=gk h2;have h4:v.length=xs.len:=h3.2.2.2.2.2;simp only[Rq.cost] at h3;have hs2:=hm s2.steps s1.steps (by omega);have:=Sm xs;exact ih ns (.en b v) s2 ⟨n,bd,hb,by omega⟩ (by simp only[mz];omega) ho
   | un t x =>
    obtain⟨-,hx⟩:=hq;simp only[T.sz] at hz;rcases bt ho with ho | ⟨v,s2,h2,ho⟩
    ·exact ih ns (.e x) s1 hx (by simp only[mz];omega) ho
    ·cases ho
   | bin t x y =>
    obtain⟨-,hx,hy⟩:=hq;simp only[T.sz] at hz;rcases bt ho with ho | ⟨v,s2,h2,ho⟩
    ·exact ih ns (.e x) s1 hx (by simp only[mz];omega) ho
    ·have h3:=gk h2;simp only[Rq.cost] at h3;have hs2:=hm s2.steps s1.steps (by omega)
     try dsimp only at ho
     split at ho
     ·cases ho
     split at ho
     ·cases ho
     rcases bt ho with ho | ⟨u,s3,h3,ho⟩
     ·exact ih ns (.e y) s2 hy (by simp only[mz];omega) ho
     ·cases ho
   | nil=>rcases hq with h | h <;> cases h
   | cons x xs=>rcases hq with ⟨h, -⟩ | ⟨h, -⟩ <;> cases h
   | _=>cases hq.1
  | al xs =>
   unfold go at ho;simp only[mz] at hz
   cases xs with
   | cons x xs =>
    obtain⟨-,hx,hxs⟩:1=1/\wf F nw ns x 0/\wf F nw ns xs 1:=by
     rcases hq with h | ⟨h, -⟩
     ·exact h
     ·cases h
    simp only[T.sz] at hz;rcases bt ho with ho | ⟨v,s2,h2,ho⟩
    ·exact ih ns (.e x) s hx (by simp only[mz];omega) ho
    ·have h3:=gk h2;simp only[Rq.cost] at h3;have hs2:=hm s2.steps s.steps (by omega);rcases bt ho with ho | ⟨u,s3,h3,ho⟩
     ·exact ih ns (.al xs) s2 hxs (by simp only[mz];omega) ho
     ·cases ho
   | nil=>cases ho
   | _=>cases hq.1
  | en k args =>
   unfold go at ho;simp only[mz] at hz;obtain⟨n,b,hb,hn⟩:=hq;rw[hb] at ho
   try dsimp only at ho
   obtain⟨g1,g2,g3⟩:=hF k n b hb;split at ho
   ·cases ho
   rcases bt ho with ho | ⟨v,s2,h2,ho⟩
   ·exact ih n (.s b) _ g1 (by simp only[mz];omega) ho
   ·cases ho
  | s x =>
   unfold go at ho;obtain⟨s1,h1,ho⟩:=Mq ho;have hs:=hm1 s1.steps s.steps (by omega);simp only[mz] at hz
   cases x with
   | block l xs =>
    obtain⟨-,hx⟩:=hq;simp only[T.sz] at hz;exact ih ns (.ss xs) s1 hx (by simp only[mz];omega) ho
   | whileS l c b =>
    obtain⟨-,hc,hb⟩:=hq;simp only[T.sz] at hz;exact ih ns (.w c b) s1 ⟨hc,hb⟩ (by simp only[mz];omega) ho
   | letS t nm sl w x =>
    obtain⟨-, -,hx⟩:=hq;simp only[T.sz] at hz;rcases bt ho with ho | ⟨v,s2,h2,ho⟩
    ·exact ih ns (.e x) s1 hx (by simp only[mz];omega) ho
    ·cases ho
   | setS t sl w x =>
    obtain⟨-, -,hx⟩:=hq;simp only[T.sz] at hz;rcases bt ho with ho | ⟨v,s2,h2,ho⟩
    ·exact ih ns (.e x) s1 hx (by simp only[mz];omega) ho
    ·cases ho
   | putS t w z p x =>
    obtain⟨-, -,hp,hx⟩:=hq;simp only[T.sz] at hz;rcases bt ho with ho | ⟨v,s2,h2,ho⟩
    ·exact ih ns (.e p) s1 hp (by simp only[mz];omega) ho
    ·have h3:=gk h2;simp only[Rq.cost] at h3;have hs2:=hm s2.steps s1.steps (by omega);rcases bt ho with ho | ⟨u,s3,h3,ho⟩
     ·exact ih ns (.e x) s2 hx (by simp only[mz];omega) ho
     ·try dsimp only at ho
      split at ho <;> cases ho
   | ifS l c a b =>
    obtain⟨-,hc,ha,hb⟩:=hq;simp only[T.sz] at hz;rcases bt ho with ho | ⟨v,s2,h2,ho⟩
    ·exact ih ns (.e c) s1 hc (by simp only[mz];omega) ho
    ·have h3:=gk h2;simp only[Rq.cost] at h3;have hs2:=hm s2.steps s1.steps (by omega)
     try dsimp only at ho
     split at ho
     ·exact ih ns (.s a) s2 ha (by simp only[mz];omega) ho
     split at ho
     ·cases ho
     ·rename_i hn;rcases hb with hb | hb
      ·exact ih ns (.s b) s2 hb (by simp only[mz];omega) ho
      ·exact hn hb
   | retS l x =>
    obtain⟨-,hx⟩:=hq;simp only[T.sz] at hz;rcases bt ho with ho | ⟨v,s2,h2,ho⟩
    ·exact ih ns (.e x) s1 hx (by simp only[mz];omega) ho
    ·cases ho
   | prtS l x =>
    obtain⟨-,hx⟩:=hq;simp only[T.sz] at hz;rcases bt ho with ho | ⟨v,s2,h2,ho⟩
    ·exact ih ns (.e x) s1 hx (by simp only[mz];omega) ho
    ·cases ho
   | doS l x =>
    obtain⟨-,hx⟩:=hq;simp only[T.sz] at hz;rcases bt ho with ho | ⟨v,s2,h2,ho⟩
    ·exact ih ns (.e x) s1 hx (by simp only[mz];omega) ho
    ·cases ho
   | nil=>rcases hq with h | h <;> cases h
   | cons x xs=>rcases hq with ⟨h, -⟩ | ⟨h, -⟩ <;> cases h
   | _=>cases hq.1
  | ss xs =>
   unfold go at ho;simp only[mz] at hz
   cases xs with
   | cons x xs =>
    obtain⟨-,hx,hxs⟩:3=3/\wf F nw ns x 2/\wf F nw ns xs 3:=by
     rcases hq with ⟨h, -⟩ | h
     ·cases h
     ·exact h
    simp only[T.sz] at hz;rcases bt ho with ho | ⟨v,s2,h2,ho⟩
    ·exact ih ns (.s x) s hx (by simp only[mz];omega) ho
    ·have h3:=gk h2;simp only[Rq.cost] at h3;have hs2:=hm s2.steps s.steps (by omega)
     try dsimp only at ho
     split at ho
     ·exact ih ns (.ss xs) s2 hxs (by simp only[mz];omega) ho
     ·cases ho
   | nil=>cases ho
   | _=>cases hq.1
  | w c b =>
   unfold go at ho;simp only[mz] at hz;obtain⟨hc,hb⟩:=hq;have:=Sm b;have:=Sm c;rcases bt ho with ho | ⟨v,s2,h2,ho⟩
   ·exact ih ns (.e c) s hc (by simp only[mz];omega) ho
   ·have h3:=gk h2;simp only[Rq.cost] at h3;have hs2:=hm1 s2.steps s.steps (by omega)
    try dsimp only at ho
    split at ho
    ·cases ho
    rcases bt ho with ho | ⟨u,s3,h4,ho⟩
    ·exact ih ns (.s b) s2 hb (by simp only[mz];omega) ho
    ·have h5:=gk h4;simp only[Rq.cost] at h5;have hs3:=hm s3.steps s2.steps (by omega)
     try dsimp only at ho
     split at ho
     ·exact ih ns (.w c b) s3 ⟨hc,hb⟩ (by simp only[mz];omega) ho
     ·cases ho
def Rn.more (s:Rn) (a b:Nat):Rn:={ s with steps:=s.steps+a,room:=s.room+b }
theorem ez {σ:Type}{v:List UInt32}{s:σ}{k:List UInt32->σ->Rs σ}:(Rs.ok v s).bind k=k v s:=rfl
inductive Fo where
 | nil
 | cons (kind name:ByteArray) (line val:Int) (kids:Fo) (names:List ByteArray) (rest:Fo)
def Fo.len:Fo->Nat
 | .nil=>0
 | .cons _ _ _ _ _ _ r=>r.len+1
def Oz:ByteArray:=ofL [110,117,109]
def sx:ByteArray:=ofL [110,97,109,101]
def jo:ByteArray:=ofL [105,110,100,101,120]
def ip:ByteArray:=ofL [99,97,108,108]
def Mr:ByteArray:=ofL [117,110]
def sm:ByteArray:=ofL [98,105,110]
def xo:ByteArray:=ofL [115,101,116]
def ly:ByteArray:=ofL [112,117,116]
def abh:ByteArray:=ofL [100,111]
def bh:ByteArray:=ofL [98,108,111,99,107]
def toF:T->Fo->Fo
 | .num v line,r=>.cons Oz (ofL []) line v .nil [] r
 | .name t _ _,r=>.cons sx t.s t.line 0 .nil [] r
 | .index t _ _ p,r=>.cons jo t.s t.line 0 (toF p .nil) [] r
 | .call t _ xs,r=>.cons ip t.s t.line 0 (toF xs .nil) [] r
 | .un t x,r=>.cons Mr t.s t.line 0 (toF x .nil) [] r
 | .bin t x y,r=>.cons sm t.s t.line 0 (toF x (toF y .nil)) [] r
 | .nil,r=>r
 | .cons x xs,r=>toF x (toF xs r)
 | .letS t nm _ _ x,r=>.cons lx nm.s t.line 0 (toF x .nil) [] r
 | .setS t _ _ x,r=>.cons xo t.s t.line 0 (toF x .nil) [] r
 | .putS t _ _ p x,r=>.cons ly t.s t.line 0 (toF p (toF x .nil)) [] r
 | .ifS line c a b,r=>.cons cIf (ofL []) line 0 (toF c (toF a (toF b .nil))) [] r
 | .whileS line c b,r=>.cons dx (ofL []) line 0 (toF c (toF b .nil)) [] r
 | .retS line x,r=>.cons jm (ofL []) line 0 (toF x .nil) [] r
 | .prtS line x,r=>.cons ng (ofL []) line 0 (toF x .nil) [] r
 | .doS line x,r=>.cons abh (ofL []) line 0 (toF x .nil) [] r
 | .block line l,r=>.cons bh (ofL []) line 0 (toF l .nil) [] r
def toD:List D->Fo->Fo
 | [],r=>r
 | .var t nm _ z::ds,r=>.cons mb nm t.line z .nil [] (toD ds r)
 | .fn t nm ps _ _ b::ds,r=>.cons da nm t.line 0 (toF b .nil) ps (toD ds r)
def Fo.app:Fo->Fo->Fo
 | .nil,r=>r
 | .cons k n l v ks ns q,r=>.cons k n l v ks ns (q.app r)
theorem Fo.app_len:∀ (a b:Fo),(a.app b).len=a.len+b.len
 | .nil,b=>by simp [Fo.app,Fo.len]
 | .cons ..,b=>by simp only[Fo.app,Fo.len,Fo.app_len];omega
theorem Fo.app_assoc:∀ (a b c:Fo),(a.app b).app c=a.app (b.app c)
 | .nil,b,c=>rfl
 | .cons ..,b,c=>by simp only[Fo.app,Fo.app_assoc]
theorem El:∀ (x:T) (a b:Fo),toF x (a.app b)=(toF x a).app b
 | .num ..,a,b=>rfl
 | .name ..,a,b=>rfl
 | .index ..,a,b=>rfl
 | .call ..,a,b=>rfl
 | .un ..,a,b=>rfl
 | .bin ..,a,b=>rfl
 | .nil,a,b=>rfl
 | .cons x xs,a,b=>by simp only[toF,El xs a b,El x]
 | .letS ..,a,b=>rfl
 | .setS ..,a,b=>rfl
 | .putS ..,a,b=>rfl
 | .ifS ..,a,b=>rfl
 | .whileS ..,a,b=>rfl
 | .retS ..,a,b=>rfl
 | .prtS ..,a,b=>rfl
 | .doS ..,a,b=>rfl
 | .block ..,a,b=>rfl
theorem lf (x:T) (r:Fo):toF x r=(toF x .nil).app r:=by rw[<- El];rfl
def aib (j:Nat) (l:List Tok):Prop:=¬ ((now l).k=3/\j≤ai (now l).s)
theorem Hr:∀ (f:Nat){j:Nat}{u x:T}{n:Nat}{l l':List Tok},run f (.loop j u) n l= .ok x l'->aib j l'
 | 0,j,u,x,n,l,l',h=>by cases h
 | f+1,j,u,x,n,l,l',h=>by
  unfold run at h;split at h
  ·obtain⟨y,l1, -,h2⟩:=bind_ok h;exact Hr f h2
  ·rename_i hw;cases h;exact hw
theorem Ms {f j:Nat}{x:T}{n:Nat}{l l':List Tok} (h:run f (.bin j) n l= .ok x l'):aib j l':=by
 cases f with
 | zero=>cases h
 | succ f =>
  unfold run at h;obtain⟨y,l1, -,h2⟩:=bind_ok h;exact Hr f h2
theorem Cu:∀ (f:Nat){j:Nat}{u:T}{n:Nat}{l:List Tok}{r:R T},run f (.loop j u) n l=r->r≠ .out ->
  (∃ line en,run f (.loop (j+1) u) n l= .err line en/\r= .err line en)∨∃ x l1 f1,run f (.loop (j+1) u) n l= .ok x l1/\f1≤f/\run f1 (.loop j x) n l1=r
 | 0,j,u,n,l,r,h,hr=>absurd h.symm hr
 | f+1,j,u,n,l,r,h,hr=>by
  by_cases hs:(now l).k=3/\j+1≤ai (now l).s
  ·have h1:run (f+1) (.loop j u) n l=(run f (.bin (ai (now l).s+1)) n l.tail).bind λ y l'=>run f (.loop j (.bin (now l) u y)) n l':=by
    rw[run,if_pos ⟨hs.1,by omega⟩]
   have h2:run (f+1) (.loop (j+1) u) n l=(run f (.bin (ai (now l).s+1)) n l.tail).bind λ y l'=>run f (.loop (j+1) (.bin (now l) u y)) n l':=by
    rw[run,if_pos ⟨hs.1,by omega⟩]
   rw[h1] at h;rw[h2]
   cases hb:run f (.bin (ai (now l).s+1)) n l.tail with
   | out=>rw[hb] at h;exact absurd h.symm hr
   | err line en=>rw[hb] at h;exact .inl ⟨line,en,rfl,h.symm⟩
   | ok y l' =>
    rw[hb] at h;have h:run f (.loop j (.bin (now l) u y)) n l'=r:=h;rcases Cu f h hr with ⟨line,en,a,b⟩ | ⟨x,l1,f1,a,b,c⟩
    ·exact .inl ⟨line,en,a,b⟩
    ·exact .inr ⟨x,l1,f1,a,by omega,c⟩
  ·refine .inr ⟨u,l,f+1,?_,Nat.le_refl _,h⟩;rw[run,if_neg hs]
theorem Sn {f j:Nat}{n:Nat}{l:List Tok}{r:R T} (h:run f (.bin j) n l=r) (hr:r≠ .out) :
  (∃ line en,run f (.bin (j+1)) n l= .err line en/\r= .err line en)∨∃ x l1 f1,run f (.bin (j+1)) n l= .ok x l1/\f1<f/\run f1 (.loop j x) n l1=r:=by
 cases f with
 | zero=>exact absurd h.symm hr
 | succ f =>
  have h1:run (f+1) (.bin j) n l=(run f .un n l).bind λ x l=>run f (.loop j x) n l:=by rw[run]
  have h2:run (f+1) (.bin (j+1)) n l=(run f .un n l).bind λ x l=>run f (.loop (j+1) x) n l:=by rw[run]
  rw[h1] at h;rw[h2]
  cases hb:run f .un n l with
  | out=>rw[hb] at h;exact absurd h.symm hr
  | err line en=>rw[hb] at h;exact .inl ⟨line,en,rfl,h.symm⟩
  | ok y l' =>
   rw[hb] at h;have h:run f (.loop j y) n l'=r:=h;rcases Cu f h hr with ⟨line,en,a,b⟩ | ⟨x,l1,f1,a,b,c⟩
   ·exact .inl ⟨line,en,a,b⟩
   ·exact .inr ⟨x,l1,f1,a,by omega,c⟩
theorem abi {f:Nat}{n:Nat}{l:List Tok} (hr:run f (.bin 11) n l≠ .out):∃ f1,f1<f/\run f (.bin 11) n l=run f1 .un n l:=by
 cases f with
 | zero=>exact absurd rfl hr
 | succ f =>
  refine⟨f,by omega,?_⟩
  have h2:run (f+1) (.bin 11) n l=(run f .un n l).bind λ x l=>run f (.loop 11 x) n l:=by rw[run]
  rw[h2] at hr ⊢
  cases hb:run f .un n l with
  | out=>rfl
  | err line en=>rfl
  | ok y l' =>
   rw[hb] at hr;show run f (.loop 11 y) n l'=_;have hr:run f (.loop 11 y) n l'≠ .out:=hr
   cases f with
   | zero=>exact absurd rfl hr
   | succ f =>
    rw[run,if_neg];rintro⟨-,h⟩
    have:ai (now l').s≤10:=by
     unfold ai
     repeat' split
     all_goals decide
    omega
end Go.Lang
