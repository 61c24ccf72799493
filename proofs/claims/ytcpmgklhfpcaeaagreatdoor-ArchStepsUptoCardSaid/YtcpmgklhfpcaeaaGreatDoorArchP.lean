/- What an instruction does, plainly: registers, control registers, traps, memory's places. No program in sight; no condition. -/
import Derived.Test.YtcpmgklhfpcaeaaGreatDoorSep
import Derived.Test.YtcpmgklhfpcaeaaGreatDoorBits
import Derived.Test.YtcpmgklhfpcaeaaGreatDoorIsaJ
import Derived.Test.YtcpmgklhfpcaeaaGreatDoorAluJ
namespace Go.Proofs.YtcpmgklhfpcaeaaGreatDoor
open Go.RowKit Go.XHeap Go.Sx Go.Sep
set_option linter.unusedVariables false
set_option maxRecDepth 100000

/-! ### numbers of 32 bits -/
def U32 (x : Int) : Prop := 0 ≤ x ∧ x < 4294967296
def wr (x : Int) : Int := IntKind.wrap .u32 x
def and32 (a b : Int) : Int := IntKind.wrap .u32 ((BitVec.ofInt (IntKind.bits .u32) a &&& BitVec.ofInt (IntKind.bits .u32) b).toNat : Int)
def or32 (a b : Int) : Int := IntKind.wrap .u32 ((BitVec.ofInt (IntKind.bits .u32) a ||| BitVec.ofInt (IntKind.bits .u32) b).toNat : Int)
def andn32 (a b : Int) : Int := IntKind.wrap .u32 ((BitVec.ofInt (IntKind.bits .u32) a &&& ~~~BitVec.ofInt (IntKind.bits .u32) b).toNat : Int)
theorem wr_u (x : Int) : U32 (wr x) := by unfold wr U32; rw [w32m]; omega
theorem and32_u (a b : Int) : U32 (and32 a b) := wr_u _
theorem or32_u (a b : Int) : U32 (or32 a b) := wr_u _
theorem andn32_u (a b : Int) : U32 (andn32 a b) := wr_u _
theorem wr_id {x : Int} (h : U32 x) : wr x = x := w32 h.1 h.2
theorem u32_lit {n : Int} (h0 : 0 ≤ n) (h1 : n < 4294967296) : U32 n := ⟨h0, h1⟩
/-! ### control registers -/
structure RS where
  hart : Int
  ret : Int
  csr : Int → Option Int
def maskF (n : Int) : Int := if n = 768 then 136 else if n = 772 then 2048 else if n = 773 then 4294967292 else if n = 833 then 4294967292 else if n = 832 then 4294967295 else if n = 834 then 4294967295 else if n = 835 then 4294967295 else 0
def maskOk (n : Int) : Bool := decide (n = 768 ∨ n = 772 ∨ n = 773 ∨ n = 833 ∨ n = 832 ∨ n = 834 ∨ n = 835)
def RS.at (R : RS) (n : Int) : Int := (R.csr n).getD 0
def RS.get (R : RS) (n : Int) : Int := if n = 3074 then R.ret else if n = 3860 then R.hart else R.at n
def RS.has (n : Int) : Bool := decide (n = 3074) || (decide (n = 3860) || maskOk n)
def RS.set (R : RS) (n v : Int) : RS := { R with csr := fun z => if z = n then some (and32 v (maskF n)) else R.csr z }
def RS.newv (R : RS) (op imm a : Int) : Int := if op = 63 ∨ op = 66 then or32 a (R.get imm) else if op = 64 ∨ op = 67 then andn32 (R.get imm) a else a
def RS.access (R : RS) (op rs1 imm a : Int) : Int × Bool × RS :=
  if ¬ (op = 62 ∨ op = 65) ∧ rs1 = 0 then (R.get imm, RS.has imm, R)
  else if RS.has imm = false ∨ imm / 1024 = 3 then (0, false, R)
  else (R.get imm, true, R.set imm (R.newv op imm (if 65 ≤ op then wr rs1 else a)))
def RS.trapped (R : RS) (pc cause tval : Int) : RS := (((R.set 833 pc).set 834 (wr cause)).set 835 tval).set 768 (wr (and32 (R.at 768) 8 * 16))
def RS.trap (R : RS) (pc cause tval : Int) : Int × Bool × RS := if R.at 773 = 0 then (pc, false, R) else (R.at 773, true, R.trapped pc cause tval)
def RS.back (R : RS) : RS := R.set 768 (or32 (and32 (R.at 768) 128 / 16) 128)
def RS.inter (R : RS) : Bool := decide (0 < and32 (R.at 768) 8) && decide (0 < R.at 772)
def RS.counted (R : RS) : RS := { R with ret := wr (R.ret + 1) }
structure RS.Ok (R : RS) : Prop where
  hart : U32 R.hart
  ret : U32 R.ret
  u : ∀ n v, R.csr n = some v → U32 v
  dom : ∀ n v, R.csr n = some v → maskOk n = true
theorem RS.Ok.at {R : RS} (h : R.Ok) (n : Int) : U32 (R.at n) := by
  unfold RS.at
  cases hc : R.csr n with
  | none => exact u32_lit (by decide) (by decide)
  | some v => exact h.u n v hc
theorem RS.Ok.get {R : RS} (h : R.Ok) (n : Int) : U32 (R.get n) := by
  unfold RS.get
  split
  · exact h.ret
  · split
    · exact h.hart
    · exact h.at n
theorem RS.Ok.set {R : RS} (h : R.Ok) (n v : Int) (hn : maskOk n = true) : (R.set n v).Ok := by
  refine ⟨h.hart, h.ret, fun k x hk => ?_, fun k x hk => ?_⟩
  · unfold RS.set at hk
    simp only at hk
    split at hk
    · cases hk; exact and32_u _ _
    · exact h.u k x hk
  · unfold RS.set at hk
    simp only at hk
    split at hk
    · rename_i e; rw [e]; exact hn
    · exact h.dom k x hk
theorem RS.Ok.trapped {R : RS} (h : R.Ok) (pc cause tval : Int) : (R.trapped pc cause tval).Ok := (((h.set 833 pc rfl).set 834 _ rfl).set 835 _ rfl).set 768 _ rfl
theorem RS.Ok.back {R : RS} (h : R.Ok) : R.back.Ok := h.set 768 _ rfl
theorem RS.Ok.counted {R : RS} (h : R.Ok) : R.counted.Ok := ⟨h.hart, wr_u _, h.u, h.dom⟩
theorem RS.has_mask {n : Int} (h : RS.has n = true) (h3 : n / 1024 ≠ 3) : maskOk n = true := by
  unfold RS.has at h
  simp only [Bool.or_eq_true, decide_eq_true_eq] at h
  rcases h with h | h | h
  · subst h; exact absurd rfl h3
  · subst h; exact absurd rfl h3
  · exact h
theorem RS.Ok.access {R : RS} (h : R.Ok) (op rs1 imm a : Int) : (R.access op rs1 imm a).2.2.Ok ∧ U32 (R.access op rs1 imm a).1 := by
  unfold RS.access
  split
  · exact ⟨h, h.get imm⟩
  · split
    · exact ⟨h, show U32 0 from u32_lit (by decide) (by decide)⟩
    · rename_i q
      have q1 : RS.has imm = true := by
        cases e : RS.has imm with
        | true => rfl
        | false => exact absurd (.inl e) q
      exact ⟨h.set imm _ (RS.has_mask q1 (fun e => q (.inr e))), h.get imm⟩
/-! ### instructions -/
structure Ins where
  op : Int
  rd : Int
  rs1 : Int
  rs2 : Int
  imm : Int
def Ins.vs (i : Ins) : Array Value := #[.int .i64 i.op, .int .i64 i.rd, .int .i64 i.rs1, .int .i64 i.rs2, .int .i64 i.imm]
def insOf (op : Int) (t : Int × Int × Int × Int) : Ins := ⟨op, t.1, t.2.1, t.2.2.1, t.2.2.2⟩
theorem insOf_val (op : Int) (t : Int × Int × Int × Int) : (insOf op t).vs = #[.int .i64 op, .int .i64 t.1, .int .i64 t.2.1, .int .i64 t.2.2.1, .int .i64 t.2.2.2] := rfl
instance (op x : Int) : Decidable (Mt op x) := by unfold Mt; infer_instance
def opF (x : Int) : Option Int := ((List.range 67).map fun k : Nat => ((k : Int) + 1)).find? fun op => decide (Mt op x)
theorem opF_some {x op : Int} (h : opF x = some op) : 1 ≤ op ∧ op ≤ 67 ∧ Mt op x := by
  have h1 := List.find?_some h
  have h2 := List.mem_of_find?_eq_some h
  simp only [List.mem_map, List.mem_range] at h2
  obtain ⟨k, hk, rfl⟩ := h2
  exact ⟨by omega, by omega, of_decide_eq_true h1⟩
theorem opF_of {x op : Int} (h1 : 1 ≤ op) (h2 : op ≤ 67) (hx0 : 0 ≤ x) (hx1 : x < 4294967296) (h : Mt op x) : opF x = some op := by
  cases e : opF x with
  | none =>
    have := List.find?_eq_none.1 e op (by simp only [List.mem_map, List.mem_range]; exact ⟨op.toNat - 1, by omega, by omega⟩)
    exact absurd (decide_eq_true h) this
  | some o =>
    obtain ⟨a, b, c⟩ := opF_some e
    rw [mt_one a b h1 h2 hx0 hx1 c h]
theorem opF_none {x : Int} (h : ∀ op, 1 ≤ op → op ≤ 67 → ¬ Mt op x) : opF x = none := by
  cases e : opF x with
  | none => rfl
  | some o =>
    obtain ⟨a, b, c⟩ := opF_some e
    exact absurd c (h o a b)
def decF (x : Int) : Ins := match opF x with
  | some op => insOf op (readT (shP op).1 x)
  | none => ⟨0, 0, 0, 0, 0⟩
def decOk (x : Int) : Bool := (opF x).isSome
def Ins.Ok (i : Ins) : Prop := (0 ≤ i.rd ∧ i.rd < 32) ∧ (0 ≤ i.rs1 ∧ i.rs1 < 32) ∧ (0 ≤ i.rs2 ∧ i.rs2 < 32)
theorem decF_ok (x : Int) : (decF x).Ok := by
  have p5 : ∀ s, 0 ≤ partF x s 5 ∧ partF x s 5 < 32 := fun s => part_bd x s 5 (by decide)
  have z : (0 : Int) ≤ 0 ∧ (0 : Int) < 32 := by decide
  unfold decF
  cases opF x with
  | none => exact ⟨z, z, z⟩
  | some op =>
    have key : ∀ t : Int × Int × Int × Int, readT (shP op).1 x = t → (insOf op t).Ok := by
      intro t ht
      unfold readT at ht
      split at ht <;> subst ht <;> exact ⟨by first | exact z | exact p5 _, by first | exact z | exact p5 _, by first | exact z | exact p5 _⟩
    exact key _ rfl
theorem decF_op (x : Int) : (decF x).op = (opF x).getD 0 := by
  unfold decF
  cases opF x <;> rfl
theorem decF_low {x : Int} (h : decOk x = true) : 1 ≤ (decF x).op ∧ (decF x).op ≤ 67 := by
  rw [decF_op]
  unfold decOk at h
  cases e : opF x with
  | none => rw [e] at h; cases h
  | some o => exact ⟨(opF_some e).1, (opF_some e).2.1⟩
/-! ### where it goes, what it computes with -/
def withinF (addr n fr size : Int) : Bool := decide (wr (addr - fr) < size) && decide (wr (wr (addr - fr) + n) ≤ size)
def isLd (op : Int) : Bool := decide (classP op = 4) || decide (op = 46)
def reachF (op addr data : Int) : Int :=
  if and32 addr (wr (wr (alu.sizeF op) - 1)) ≠ 0 then (if isLd op then 4 else 6)
  else if withinF addr (wr (alu.sizeF op)) 65536 (wr data) then -1
  else if classP op = 5 ∧ withinF addr (wr (alu.sizeF op)) 131072 4 = true then -1
  else if isLd op then 5 else 7
def whereF (op imm a : Int) : Int := if classP op = 6 then a else wr (a + wr imm)
def operF (op imm pc a b : Int) : Int × Int := if (readsP op).1 = false then (pc, wr imm) else if (readsP op).2 = false then (a, wr imm) else (a, b)
def targF (op imm pc a : Int) : Int := if op = 4 then andn32 (wr (a + wr imm)) 1 else wr (pc + wr imm)
/-! ### a hart -/
structure HS where
  code : List Int
  data : Int
  pc : Int
  x : List Int
  halted : Bool
  R : RS
structure Rt where
  pc : Int
  word : Int
  rd : Int
  value : Int
  cause : Int
  tval : Int
  next : Int
def Rt.vs (r : Rt) : Array Value := #[.int .u32 r.pc, .int .u32 r.word, .int .i64 r.rd, .int .u32 r.value, .int .i64 r.cause, .int .u32 r.tval, .int .u32 r.next]
def noRt : Rt := ⟨0, 0, 0, 0, 0, 0, 0⟩
def HS.reg (S : HS) (i : Int) : Int := S.x.getD i.toNat 0
def HS.there (S : HS) : Bool := decide (S.pc / 4 < S.code.length)
def HS.word (S : HS) : Int := if S.pc / 4 < S.code.length then S.code.getD (S.pc / 4).toNat 0 else 0
def HS.ins (S : HS) : Ins := decF S.word
structure HS.Ok (S : HS) : Prop where
  len : 1 ≤ S.code.length ∧ S.code.length ≤ 4096
  code : ∀ v ∈ S.code, U32 v
  data : 0 ≤ S.data ∧ S.data ≤ 4096 ∧ S.data % 16 = 0
  pc : U32 S.pc
  x32 : S.x.length = 32
  x : ∀ v ∈ S.x, U32 v
  x0 : S.reg 0 = 0
  R : S.R.Ok
theorem getD_u {l : List Int} (h : ∀ v ∈ l, U32 v) (i : Nat) : U32 (l.getD i 0) := by
  rw [List.getD_eq_getElem?_getD]
  cases e : l[i]? with
  | none => exact u32_lit (by decide) (by decide)
  | some v => exact h v (List.mem_of_getElem? e)
theorem HS.Ok.reg {S : HS} (h : S.Ok) (i : Int) : U32 (S.reg i) := getD_u h.x _
theorem HS.Ok.word {S : HS} (h : S.Ok) : U32 S.word := by
  unfold HS.word
  split
  · exact getD_u h.code _
  · exact u32_lit (by decide) (by decide)
def HS.trap (S : HS) (w cause tval : Int) : Rt × HS :=
  (⟨S.pc, w, 0, 0, cause, tval, (S.R.trap S.pc cause tval).1⟩, { S with R := (S.R.trap S.pc cause tval).2.2, pc := (S.R.trap S.pc cause tval).1, halted := !(S.R.trap S.pc cause tval).2.1 })
def HS.irq (S : HS) : Bool := !S.halted && S.R.inter
inductive Mid where
  | trap (cause tval : Int)
  | go (v next : Int) (R : RS)
def HS.p4 (S : HS) : Int := wr (S.pc + 4)
def HS.mid (S : HS) (loaded : Int) (held : Bool) : Mid :=
  let i := S.ins
  let a := S.reg i.rs1
  let b := S.reg i.rs2
  if classP i.op = 0 ∨ classP i.op = 1 then .go (alu.execF i.op (operF i.op i.imm S.pc a b).1 (operF i.op i.imm S.pc a b).2) S.p4 S.R
  else if classP i.op = 2 then .go 0 (if alu.takenF i.op a b then targF i.op i.imm S.pc a else S.p4) S.R
  else if classP i.op = 3 then .go S.p4 (targF i.op i.imm S.pc a) S.R
  else if classP i.op = 7 then
    if i.op = 58 then .trap 11 0
    else if i.op = 59 then .trap 3 S.pc
    else if i.op = 60 then .go 0 (S.R.back.at 833) S.R.back
    else if i.op = 57 ∨ i.op = 61 then .go 0 S.p4 S.R
    else if (S.R.access i.op i.rs1 i.imm a).2.1 then .go (S.R.access i.op i.rs1 i.imm a).1 S.p4 (S.R.access i.op i.rs1 i.imm a).2.2
    else .trap 2 S.word
  else if reachF i.op (whereF i.op i.imm a) S.data ≠ -1 then .trap (reachF i.op (whereF i.op i.imm a) S.data) (whereF i.op i.imm a)
  else .go (if i.op = 47 then (if held then 0 else 1) else alu.widenF i.op loaded) S.p4 S.R
def HS.wrs (S : HS) : Bool := writesP S.ins.op && decide (0 < S.ins.rd)
def HS.fin (S : HS) (v next : Int) (R : RS) : Rt × HS :=
  if and32 next 3 ≠ 0 then ({ S with R := R } : HS).trap S.word 0 next
  else (⟨S.pc, S.word, if S.wrs then S.ins.rd else 0, if S.wrs then v else 0, -1, 0, next⟩, { S with R := R.counted, pc := next, x := if S.wrs then S.x.set S.ins.rd.toNat v else S.x })
def HS.done (S : HS) (loaded : Int) (held : Bool) : Rt × HS :=
  if S.halted then (⟨S.pc, 0, 0, 0, -1, 0, S.pc⟩, S)
  else if S.there = false then S.trap 0 1 S.pc
  else if decOk S.word = false then S.trap S.word 2 S.word
  else match S.mid loaded held with
    | .trap cause tval => S.trap S.word cause tval
    | .go v next R => S.fin v next R
/-! what it asks of memory -/
structure Rq where
  op : Int
  addr : Int
  size : Int
  data : Int
def Rq.vs (q : Rq) : Array Value := #[.int .i64 q.op, .int .u32 q.addr, .int .i64 q.size, .int .u32 q.data]
def HS.addr (S : HS) : Int := whereF S.ins.op S.ins.imm (S.reg S.ins.rs1)
def cutF (n v : Int) : Int := wr (v * 2 ^ (32 - 8 * n).toNat) / 2 ^ (32 - 8 * n).toNat
def HS.asks (S : HS) : Bool := S.there && (decOk S.word && (!S.halted && (decide (alu.sizeF S.ins.op ≠ 0) && decide (reachF S.ins.op S.addr S.data = -1))))
def HS.ask (S : HS) : Rq := if S.asks then ⟨S.ins.op, S.addr, alu.sizeF S.ins.op, if classP S.ins.op = 4 then 0 else cutF (alu.sizeF S.ins.op) (S.reg S.ins.rs2)⟩ else ⟨0, 0, 0, 0⟩
end Go.Proofs.YtcpmgklhfpcaeaaGreatDoor
