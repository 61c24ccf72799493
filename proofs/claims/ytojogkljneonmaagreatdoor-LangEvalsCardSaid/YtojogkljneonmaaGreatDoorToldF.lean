/- What Told says of a fault. No condition. -/
import Derived.Test.YtojogkljneonmaaGreatDoorRows
import Derived.Test.YtojogkljneonmaaGreatDoorXHeap
import Derived.WalkLawsBesides
import Derived.RegionTactic
import Derived.BigRegion
import Derived.Outline
import Derived.Stop.Asserts
import Derived.Laws.LoneSync
import Derived.Lib.ReflectliteSlice
import Derived.Test.YtojogkljneonmaaGreatDoorLangQ
set_option linter.unusedVariables false
set_option linter.unusedSimpArgs false
namespace Go.Proofs.YtojogkljneonmaaGreatDoor.told
open Go.RowKit Go.XHeap
theorem Vd (p:Addr) (w:World):(callFunc 35 #[.iface 60 (.pointer (some p))]).run Tryz.prog w= .ok (.value (.agg #[.pointer (some ⟨7,60,none⟩),.pointer (some ⟨w.heap.size,0,none⟩),.int .u64 150])) (w.alloc (.cells #[.pointer (some p)] 60)):=by kernel_rfl
theorem Ve (n:Int) (w:World):(callFunc 35 #[.iface 29 (.int .i64 n)]).run Tryz.prog w= .ok (.value (.agg #[.pointer (some ⟨7,29,none⟩),.pointer (some ⟨w.heap.size,0,none⟩),.int .u64 130])) (w.alloc (.cells #[.int .i64 n] 29)):=by kernel_rfl
theorem Vf (a:Addr) (w:World):(callFunc 36 #[.agg #[.pointer (some ⟨7,60,none⟩),.pointer (some a),.int .u64 150]]).run Tryz.prog w= .ok (.value (.iface 147 (.agg #[.pointer (some ⟨7,60,none⟩)]))) w:=by kernel_rfl
theorem Vg (n:Int) (w:World):(callFunc 67 #[.iface 29 (.int .i64 n)]).run Tryz.prog w= .ok (.value (.iface 147 (.agg #[.pointer (some ⟨7,29,none⟩)]))) w:=by kernel_rfl
theorem Ny (z:Sem Value) (f:TypeId->Addr->Nat->Nat->Sem Value) (v:Value):Extern.ReflectliteValue.method z f #[v]=(do match ← Extern.ReflectliteValue.parts v with | none=>z | some (t,a,fl)=>f t a fl (fl % 32)):=rfl
theorem Vh (a:Addr) (w:World):(Extern.ReflectliteValue.parts (.agg #[.pointer (some ⟨7,60,none⟩),.pointer (some a),.int .u64 150])).run Tryz.prog w= .ok (some (60,a,150)) w:=by kernel_rfl
theorem age (w:World):(Extern.Rtype.elem? 60).run Tryz.prog w= .ok (some 29) w:=by kernel_rfl
theorem anx (p:Addr) (w:World):(Extern.ReflectliteValue.mk 29 p 256).run Tryz.prog w= .ok (.agg #[.pointer (some ⟨7,29,none⟩),.pointer (some p),.int .u64 386]) w:=by kernel_rfl
theorem aaq (a p:Addr) (w:World) (h:w.cell? a=some (.pointer (some p))):(loadVar 60 a).run Tryz.prog w= .ok (.pointer (some p)) w:=by
 simp [loadVar,isAgg,underlying,Tryz.underlying60,h,Result.andThen]
theorem agf (a:Addr) (n:Int) (w:World) (h:w.cell? a=some (.int .i64 n)):(loadVar 29 a).run Tryz.prog w= .ok (.int .i64 n) w:=by
 simp [loadVar,isAgg,underlying,Tryz.underlying29,h,Result.andThen]
theorem Vi (a p:Addr) (w:World) (h:w.cell? a=some (.pointer (some p))):(callFunc 37 #[.agg #[.pointer (some ⟨7,60,none⟩),.pointer (some a),.int .u64 150]]).run Tryz.prog w= .ok (.value (.bool false)) w:=by
 rw[run_callFunc_extern Tryz.func37 (by kernel_rfl) (by kernel_rfl) (by kernel_rfl) (e:=Extern.ReflectliteValue.method (Extern.ReflectliteValue.valueError "reflectlite.Value.IsNil" 0) Extern.ReflectliteValue.isNil) (by kernel_rfl),Ny];simp only[Sem.run_bind,Vh,Result.andThen];simp [Extern.ReflectliteValue.isNil,aaq a p w h,Result.andThen]
theorem Vj (a p:Addr) (w:World) (h:w.cell? a=some (.pointer (some p))):(callFunc 68 #[.agg #[.pointer (some ⟨7,60,none⟩),.pointer (some a),.int .u64 150]]).run Tryz.prog w= .ok (.value (.agg #[.pointer (some ⟨7,29,none⟩),.pointer (some p),.int .u64 386])) w:=by
 rw[run_callFunc_extern Tryz.func68 (by kernel_rfl) (by kernel_rfl) (by kernel_rfl) (e:=Extern.ReflectliteValue.method (Extern.ReflectliteValue.valueError "reflectlite.Value.Elem" 0) Extern.ReflectliteValue.elem) (by kernel_rfl),Ny];simp only[Sem.run_bind,Vh,Result.andThen];simp [Extern.ReflectliteValue.elem,aaq a p w h,age,anx,Extern.ReflectliteValue.flagAddr,Result.andThen]
end Go.Proofs.YtojogkljneonmaaGreatDoor.told
namespace Go.Proofs.YtojogkljneonmaaGreatDoor.told
open Go.RowKit Go.XHeap
theorem ajd (p b:Addr) (w:World):(Extern.ReflectliteValue.set #[.agg #[.pointer (some ⟨7,29,none⟩),.pointer (some p),.int .u64 386],.agg #[.pointer (some ⟨7,29,none⟩),.pointer (some b),.int .u64 130]]).run Tryz.prog w=(do let v ← loadVar 29 b;storeVar 29 p v;pure (.tuple #[]):Sem Value).run Tryz.prog w:=by kernel_rfl
theorem adt (p:Addr) (n m:Int) (w:World) (hp:w.cell? p=some (.int .i64 m)) (hz:w.frozen? p=false):(storeVar 29 p (.int .i64 n)).run Tryz.prog w= .ok () (w.setCell p (.int .i64 n)):=by
 simp [storeVar,hp,hz,go_sem,Result.andThen]
theorem Vk (p b:Addr) (n m:Int) (w:World) (hb:w.cell? b=some (.int .i64 n)) (hp:w.cell? p=some (.int .i64 m)) (hz:w.frozen? p=false) :
  (callFunc 69 #[.agg #[.pointer (some ⟨7,29,none⟩),.pointer (some p),.int .u64 386],.agg #[.pointer (some ⟨7,29,none⟩),.pointer (some b),.int .u64 130]]).run Tryz.prog w= .ok (.value (.tuple #[])) (w.setCell p (.int .i64 n)):=by
 rw[run_callFunc_extern Tryz.func69 (by kernel_rfl) (by kernel_rfl) (by kernel_rfl) (e:=Extern.ReflectliteValue.set) (by kernel_rfl)];rw[ajd];simp only[Sem.run_bind,agf b n w hb,adt p n m w hp hz,Result.andThen];rfl
theorem Vl (w:World):(method 408 147 (.agg #[.pointer (some ⟨7,60,none⟩)]) "Kind").run Tryz.prog w= .ok (202,.pointer (some ⟨7,60,none⟩)) w:=by kernel_rfl
theorem Vm (w:World):(method 408 147 (.agg #[.pointer (some ⟨7,29,none⟩)]) "Kind").run Tryz.prog w= .ok (202,.pointer (some ⟨7,29,none⟩)) w:=by kernel_rfl
theorem Vn (w:World):(method 408 147 (.agg #[.pointer (some ⟨7,60,none⟩)]) "Elem").run Tryz.prog w= .ok (215,.agg #[.pointer (some ⟨7,60,none⟩)]) w:=by kernel_rfl
theorem Vo (w:World):(method 408 147 (.agg #[.pointer (some ⟨7,29,none⟩)]) "Implements").run Tryz.prog w= .ok (216,.agg #[.pointer (some ⟨7,29,none⟩)]) w:=by kernel_rfl
theorem Js (w:World):(method 408 147 (.agg #[.pointer (some ⟨7,29,none⟩)]) "AssignableTo").run Tryz.prog w= .ok (213,.agg #[.pointer (some ⟨7,29,none⟩)]) w:=by kernel_rfl
theorem Vp (w:World):(callFunc 202 #[.pointer (some ⟨7,60,none⟩)]).run Tryz.prog w= .ok (.value (.int .u8 22)) w:=by kernel_rfl
theorem Vq (w:World):(callFunc 202 #[.pointer (some ⟨7,29,none⟩)]).run Tryz.prog w= .ok (.value (.int .u8 2)) w:=by kernel_rfl
theorem Vr (w:World):(callFunc 215 #[.agg #[.pointer (some ⟨7,60,none⟩)]]).run Tryz.prog w= .ok (.value (.iface 147 (.agg #[.pointer (some ⟨7,29,none⟩)]))) w:=by kernel_rfl
theorem Vs (w:World):(callFunc 216 #[.agg #[.pointer (some ⟨7,29,none⟩)],.iface 147 (.agg #[.pointer (some ⟨7,23,none⟩)])]).run Tryz.prog w= .ok (.value (.bool true)) w:=by kernel_rfl
theorem Jt (w:World):(callFunc 213 #[.agg #[.pointer (some ⟨7,29,none⟩)],.iface 147 (.agg #[.pointer (some ⟨7,29,none⟩)])]).run Tryz.prog w= .ok (.value (.bool true)) w:=by kernel_rfl
end Go.Proofs.YtojogkljneonmaaGreatDoor.told
namespace Go.Proofs.YtojogkljneonmaaGreatDoor.told
open Go.RowKit Go.XHeap
theorem grown_cell {a b:World} (h:Grown a b){g o:Nat}{v:Value} (hc:a.cell? ⟨g,o,none⟩=some v):b.cell? ⟨g,o,none⟩=some v :=
 (h.1.cell (World.block_lt_of_cell? _ _ hc) (λ f=>f)).trans hc
theorem grown_trans {a b c:World} (h1:Grown a b) (h2:Grown b c):Grown a c :=
 ⟨World.keptBut_trans h1.1 (World.keptBut_mono (λ _ f=>f.elim) h2.1),λ x=>(h2.2.1 x).trans (h1.2.1 x),Nat.le_trans h1.2.2 h2.2.2⟩
def Zl (g:Nat) (n:Int) (w:World) (e:Ending) (w':World):Prop:=e= .returned (.bool true)/\XTouch (λ k=>k=g) w w'/\w'.cell? ⟨g,0,none⟩=some (.int .i64 n)
set_option maxRecDepth 100000 in
set_option maxHeartbeats 1000000 in
theorem anz (n m:Int) (g a:Nat) (w:World) (ha:w.cell? ⟨a,0,none⟩=some (.pointer (some ⟨g,0,none⟩))) (hp:w.cell? ⟨g,0,none⟩=some (.int .i64 m)) (hz:w.frozen? ⟨g,0,none⟩=false) :
  Calls Tryz.prog 38 #[.iface 29 (.int .i64 n),.iface 60 (.pointer (some ⟨g,0,none⟩)),.agg #[.pointer (some ⟨7,60,none⟩),.pointer (some ⟨a,0,none⟩),.int .u64 150],.iface 147 (.agg #[.pointer (some ⟨7,29,none⟩)])] w (Zl g n w):=by
 have g0:=World.block_lt_of_cell? _ _ ha;have g1:=World.block_lt_of_cell? _ _ hp;have F22i:=Ve n;have F28:=Vg n;have M1:=Js;have C1:=Jt;have F29:=λ a=>Vj a ⟨g,0,none⟩;have hG:=((Grown.refl w).alloc #[.pointer (some ⟨7,60,none⟩),.pointer (some ⟨a,0,none⟩),.int .u64 150] 102).alloc #[.int .i64 n] 29
 have hb:((w.alloc (.cells #[.pointer (some ⟨7,60,none⟩),.pointer (some ⟨a,0,none⟩),.int .u64 150] 102)).alloc (.cells #[.int .i64 n] 29)).cell? ⟨w.heap.size+1,0,none⟩=some (.int .i64 n):=by
  have:=World.cell?_alloc_new (w.alloc (.cells #[.pointer (some ⟨7,60,none⟩),.pointer (some ⟨a,0,none⟩),.int .u64 150] 102)) #[.int .i64 n] 29 0;simp at this ⊢
 have F30:=Vk ⟨g,0,none⟩ ⟨w.heap.size+1,0,none⟩ n m _ hb (grown_cell hG hp) ((hG.2.1 _).trans hz)
 have hk:(w.setCell ⟨g,0,none⟩ (.int .i64 n)).cell? ⟨g,0,none⟩=some (.int .i64 n):=by first | exact World.cell?_setCell_same _ _ _ hp | exact World.cell?_setCell_same _ _ hp
 have HK:=Lib.hid (grown_cell (((Grown.refl (w.setCell ⟨g,0,none⟩ (.int .i64 n))).alloc #[.pointer (some ⟨7,60,none⟩),.pointer (some ⟨a,0,none⟩),.int .u64 150] 102).alloc #[.int .i64 n] 29) hk);clear hG hb hk
 go_enter Tryz.func38,Tryz.ntmps38
 go_wp2_with fail
 refine wp_loop_rounds 1 ?_;rw[rounds_succ]
 go_wp2_with fail
 go_ret
 exact⟨rfl,(((XTouch.refl (λ k=>k=g) w).setCell (p:=⟨g,0,none⟩) (.inl rfl) _).alloc _).alloc _,HK.out⟩
set_option maxRecDepth 100000 in
set_option maxHeartbeats 1000000 in
theorem aoa (n m:Int) (g:Nat) (w:World) (hp:w.cell? ⟨g,0,none⟩=some (.int .i64 m)) (hz:w.frozen? ⟨g,0,none⟩=false) (hE:w.cell? ⟨0,0,none⟩=some (.iface 147 (.agg #[.pointer (some ⟨7,23,none⟩)]))) :
  Calls Tryz.prog 19 #[.iface 29 (.int .i64 n),.iface 60 (.pointer (some ⟨g,0,none⟩))] w (Zl g n w):=by
 have g0:=World.block_lt_of_cell? _ _ hE;have g1:=World.block_lt_of_cell? _ _ hp;have F22:=Vd ⟨g,0,none⟩;have F23:=Vf;have F24:=λ a=>Vi a ⟨g,0,none⟩;have M1:=Vl;have M2:=Vm;have M3:=Vn;have M4:=Vo;have C1:=Vp;have C2:=Vq;have C3:=Vr;have C4:=Vs;have hG:=((Grown.refl w).alloc #[.pointer (some ⟨g,0,none⟩)] 60).alloc #[.pointer (some ⟨7,60,none⟩),.pointer (some ⟨w.heap.size,0,none⟩),.int .u64 150] 102
 have hA:((w.alloc (.cells #[.pointer (some ⟨g,0,none⟩)] 60)).alloc (.cells #[.pointer (some ⟨7,60,none⟩),.pointer (some ⟨w.heap.size,0,none⟩),.int .u64 150] 102)).cell? ⟨w.heap.size,0,none⟩=some (.pointer (some ⟨g,0,none⟩)) :=
  grown_cell ((Grown.refl (w.alloc (.cells #[.pointer (some ⟨g,0,none⟩)] 60))).alloc _ _) (World.cell?_alloc_new w #[.pointer (some ⟨g,0,none⟩)] 60 0)
 have HC:=Lib.hid (anz n m g w.heap.size _ hA (grown_cell hG hp) ((hG.2.1 _).trans hz));have HG:=Lib.hid hG;clear hG hA
 go_enter Tryz.func19,Tryz.ntmps19
 go_wp2_with fail
 refine(HC.out).mono ?_;rintro e w' ⟨rfl,ht,hc⟩;have HT:=Lib.hid ((((XTouch.refl (λ k=>k=g) w).alloc (.cells #[.pointer (some ⟨g,0,none⟩)] 60)).alloc (.cells #[.pointer (some ⟨7,60,none⟩),.pointer (some ⟨w.heap.size,0,none⟩),.int .u64 150] 102)).trans ht (λ k _ h=>h));have HC2:=Lib.hid hc;clear ht hc
 go_wp2
 go_ret
 exact⟨rfl,HT.out,HC2.out⟩
theorem told_err (n:Int) (w:World) (hE:w.cell? ⟨0,0,none⟩=some (.iface 147 (.agg #[.pointer (some ⟨7,23,none⟩)]))):Calls Tryz.prog 8 #[.iface 29 (.int .i64 n)] w λ e w'=>e= .returned (.int .i64 n)/\XTouch (λ _=>False) w w':=by
 have hG:=(Grown.refl w).alloc #[.int .i64 0] 29;have HC:=Lib.hid (aoa n 0 w.heap.size _ (World.cell?_alloc_new w #[.int .i64 0] 29 0) (World.frozen?_alloc_new _ _ _ _) (grown_cell hG hE));have HG:=Lib.hid hG;clear hG
 go_enter Tryz.func8,Tryz.ntmps8
 go_wp2_with fail
 refine(HC.out).mono ?_;rintro e w' ⟨rfl,ht,k0⟩
 have HT:Hid (XTouch (λ _=>False) w w'):=Lib.hid (by
  have h:=((XTouch.refl (λ k=>k=w.heap.size) w).alloc (.cells #[.int .i64 0] 29)).trans ht (λ k _ h=>h)
  exact h.mono (λ k hk e=>by omega))
 clear ht
 go_wp2
 go_ret
 exact⟨rfl,HT.out⟩
theorem told_nil (w:World):Calls Tryz.prog 8 #[.nilIface] w λ e w'=>e= .returned (.int .i64 0)/\w=w':=by
 go_enter Tryz.func8,Tryz.ntmps8
 go_wp2
 go_ret
 exact⟨rfl,rfl⟩
end Go.Proofs.YtojogkljneonmaaGreatDoor.told
namespace Go.Proofs.YtojogkljneonmaaGreatDoor.told
open Go.RowKit Go.XHeap
theorem Vt (p:Addr) (w:World):(callFunc 67 #[.iface 77 (.pointer (some p))]).run Tryz.prog w= .ok (.value (.iface 147 (.agg #[.pointer (some ⟨7,77,none⟩)]))) w:=by kernel_rfl
theorem Vu (w:World):(method 408 147 (.agg #[.pointer (some ⟨7,77,none⟩)]) "AssignableTo").run Tryz.prog w= .ok (213,.agg #[.pointer (some ⟨7,77,none⟩)]) w:=by kernel_rfl
theorem Vv (w:World):(callFunc 213 #[.agg #[.pointer (some ⟨7,77,none⟩)],.iface 147 (.agg #[.pointer (some ⟨7,29,none⟩)])]).run Tryz.prog w= .ok (.value (.bool false)) w:=by kernel_rfl
theorem adu (p:Addr) (w:World):(method 408 77 (.pointer (some p)) "Unwrap").run Tryz.prog w= .ok (207,.pointer (some p)) w:=by kernel_rfl
theorem aob (f:Nat) (w:World):(Instr.typeAssert (.iface 77 (.pointer (some ⟨f,0,none⟩))) 23 152 true).run Tryz.prog w= .ok (.tuple #[.nilIface,.bool false]) w:=by
 have hu:∃ want,Tryz.prog.underlying 152=some (.interface want)/\(Tryz.prog.info? 77).map (λ i=>(Go.lacking want i.methods).isEmpty)=some false:=by
  refine⟨#[("As",154)],?_,?_⟩ <;> kernel_rfl
 obtain⟨want,h1,h2⟩:=hu;exact run_typeAssert_lacksB h1 h2 (by kernel_rfl) _ _ _
theorem aoc (f:Nat) (w:World):(Instr.typeAssert (.iface 77 (.pointer (some ⟨f,0,none⟩))) 23 155 true).run Tryz.prog w= .ok (.tuple #[.iface 77 (.pointer (some ⟨f,0,none⟩)),.bool true]) w:=by kernel_rfl
theorem Qb (f:Nat) (en:Int) (w:World) (hf:w.cell? ⟨f,1,none⟩=some (.int .i64 en)):Calls Tryz.prog 207 #[.pointer (some ⟨f,0,none⟩)] w λ e w'=>e= .returned (.iface 29 (.int .i64 en))/\w'=w:=by
 go_enter Tryz.func207,Tryz.ntmps207
 go_wp2
 go_ret
 exact⟨rfl,rfl⟩
set_option maxRecDepth 100000 in
set_option maxHeartbeats 1000000 in
theorem aje (n m:Int) (g a f:Nat) (w:World) (hf:w.cell? ⟨f,1,none⟩=some (.int .i64 n)) (ha:w.cell? ⟨a,0,none⟩=some (.pointer (some ⟨g,0,none⟩))) (hp:w.cell? ⟨g,0,none⟩=some (.int .i64 m)) (hz:w.frozen? ⟨g,0,none⟩=false) :
  Calls Tryz.prog 38 #[.iface 77 (.pointer (some ⟨f,0,none⟩)),.iface 60 (.pointer (some ⟨g,0,none⟩)),.agg #[.pointer (some ⟨7,60,none⟩),.pointer (some ⟨a,0,none⟩),.int .u64 150],.iface 147 (.agg #[.pointer (some ⟨7,29,none⟩)])] w (Zl g n w):=by
 have g0:=World.block_lt_of_cell? _ _ ha;have g1:=World.block_lt_of_cell? _ _ hp;have F22i:=Ve n;have F28f:=Vt ⟨f,0,none⟩;have M2:=Vu;have C2:=Vv;have M3:=adu ⟨f,0,none⟩;have T1:=aob f;have T2:=aoc f;have HU:=Lib.hid (Qb f n (w.alloc (.cells #[.pointer (some ⟨7,60,none⟩),.pointer (some ⟨a,0,none⟩),.int .u64 150] 102)) (grown_cell ((Grown.refl w).alloc #[.pointer (some ⟨7,60,none⟩),.pointer (some ⟨a,0,none⟩),.int .u64 150] 102) hf));have F28:=Vg n;have M1:=Js;have C1:=Jt;have F29:=λ a=>Vj a ⟨g,0,none⟩;have hG:=((Grown.refl w).alloc #[.pointer (some ⟨7,60,none⟩),.pointer (some ⟨a,0,none⟩),.int .u64 150] 102).alloc #[.int .i64 n] 29
 have hb:((w.alloc (.cells #[.pointer (some ⟨7,60,none⟩),.pointer (some ⟨a,0,none⟩),.int .u64 150] 102)).alloc (.cells #[.int .i64 n] 29)).cell? ⟨w.heap.size+1,0,none⟩=some (.int .i64 n):=by
  have:=World.cell?_alloc_new (w.alloc (.cells #[.pointer (some ⟨7,60,none⟩),.pointer (some ⟨a,0,none⟩),.int .u64 150] 102)) #[.int .i64 n] 29 0;simp at this ⊢
 have F30:=Vk ⟨g,0,none⟩ ⟨w.heap.size+1,0,none⟩ n m _ hb (grown_cell hG hp) ((hG.2.1 _).trans hz)
 have hk:(w.setCell ⟨g,0,none⟩ (.int .i64 n)).cell? ⟨g,0,none⟩=some (.int .i64 n):=by first | exact World.cell?_setCell_same _ _ _ hp | exact World.cell?_setCell_same _ _ hp
 have HK:=Lib.hid (grown_cell (((Grown.refl (w.setCell ⟨g,0,none⟩ (.int .i64 n))).alloc #[.pointer (some ⟨7,60,none⟩),.pointer (some ⟨a,0,none⟩),.int .u64 150] 102).alloc #[.int .i64 n] 29) hk);clear hG hb hk
 go_enter Tryz.func38,Tryz.ntmps38
 go_wp2_with fail
 refine wp_loop_rounds 2 ?_;rw[rounds_succ]
 go_wp2_with fail
 refine(HU.out).mono ?_;rintro e w' ⟨rfl,rfl⟩
 go_wp2_with fail
 rw[rounds_succ]
 go_wp2_with fail
 go_ret
 exact⟨rfl,(((XTouch.refl (λ k=>k=g) w).setCell (p:=⟨g,0,none⟩) (.inl rfl) _).alloc _).alloc _,HK.out⟩
set_option maxRecDepth 100000 in
set_option maxHeartbeats 1000000 in
theorem ajf (n m:Int) (g f:Nat) (w:World) (hf:w.cell? ⟨f,1,none⟩=some (.int .i64 n)) (hp:w.cell? ⟨g,0,none⟩=some (.int .i64 m)) (hz:w.frozen? ⟨g,0,none⟩=false) (hE:w.cell? ⟨0,0,none⟩=some (.iface 147 (.agg #[.pointer (some ⟨7,23,none⟩)]))) :
  Calls Tryz.prog 19 #[.iface 77 (.pointer (some ⟨f,0,none⟩)),.iface 60 (.pointer (some ⟨g,0,none⟩))] w (Zl g n w):=by
 have g0:=World.block_lt_of_cell? _ _ hE;have g1:=World.block_lt_of_cell? _ _ hp;have F22:=Vd ⟨g,0,none⟩;have F23:=Vf;have F24:=λ a=>Vi a ⟨g,0,none⟩;have M1:=Vl;have M2:=Vm;have M3:=Vn;have M4:=Vo;have C1:=Vp;have C2:=Vq;have C3:=Vr;have C4:=Vs;have hG:=((Grown.refl w).alloc #[.pointer (some ⟨g,0,none⟩)] 60).alloc #[.pointer (some ⟨7,60,none⟩),.pointer (some ⟨w.heap.size,0,none⟩),.int .u64 150] 102
 have hA:((w.alloc (.cells #[.pointer (some ⟨g,0,none⟩)] 60)).alloc (.cells #[.pointer (some ⟨7,60,none⟩),.pointer (some ⟨w.heap.size,0,none⟩),.int .u64 150] 102)).cell? ⟨w.heap.size,0,none⟩=some (.pointer (some ⟨g,0,none⟩)) :=
  grown_cell ((Grown.refl (w.alloc (.cells #[.pointer (some ⟨g,0,none⟩)] 60))).alloc _ _) (World.cell?_alloc_new w #[.pointer (some ⟨g,0,none⟩)] 60 0)
 have HC:=Lib.hid (aje n m g w.heap.size f _ (grown_cell hG hf) hA (grown_cell hG hp) ((hG.2.1 _).trans hz));have HG:=Lib.hid hG;clear hG hA
 go_enter Tryz.func19,Tryz.ntmps19
 go_wp2_with fail
 refine(HC.out).mono ?_;rintro e w' ⟨rfl,ht,hc⟩;have HT:=Lib.hid ((((XTouch.refl (λ k=>k=g) w).alloc (.cells #[.pointer (some ⟨g,0,none⟩)] 60)).alloc (.cells #[.pointer (some ⟨7,60,none⟩),.pointer (some ⟨w.heap.size,0,none⟩),.int .u64 150] 102)).trans ht (λ k _ h=>h));have HC2:=Lib.hid hc;clear ht hc
 go_wp2
 go_ret
 exact⟨rfl,HT.out,HC2.out⟩
theorem told_fault (n:Int) (f:Nat) (w:World) (hf:w.cell? ⟨f,1,none⟩=some (.int .i64 n)) (hE:w.cell? ⟨0,0,none⟩=some (.iface 147 (.agg #[.pointer (some ⟨7,23,none⟩)]))):Calls Tryz.prog 8 #[.iface 77 (.pointer (some ⟨f,0,none⟩))] w λ e w'=>e= .returned (.int .i64 n)/\XTouch (λ _=>False) w w':=by
 have hG:=(Grown.refl w).alloc #[.int .i64 0] 29;have HC:=Lib.hid (ajf n 0 w.heap.size f _ (grown_cell hG hf) (World.cell?_alloc_new w #[.int .i64 0] 29 0) (World.frozen?_alloc_new _ _ _ _) (grown_cell hG hE));have HG:=Lib.hid hG;clear hG
 go_enter Tryz.func8,Tryz.ntmps8
 go_wp2_with fail
 refine(HC.out).mono ?_;rintro e w' ⟨rfl,ht,k0⟩
 have HT:Hid (XTouch (λ _=>False) w w'):=Lib.hid (by
  have h:=((XTouch.refl (λ k=>k=w.heap.size) w).alloc (.cells #[.int .i64 0] 29)).trans ht (λ k _ h=>h)
  exact h.mono (λ k hk e=>by omega))
 clear ht
 go_wp2
 go_ret
 exact⟨rfl,HT.out⟩
end Go.Proofs.YtojogkljneonmaaGreatDoor.told
