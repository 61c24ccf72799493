/- The machine: New, Hart, Step. No condition but the tables as they are laid. -/
import Derived.Test.YtcpmgklhfpcaeaaGreatDoorArchF
namespace Go.Proofs.YtcpmgklhfpcaeaaGreatDoor
open Go.RowKit Go.XHeap Go.Sx Go.Sep
set_option linter.unusedVariables false
set_option maxRecDepth 100000

/-! ### plainly -/
structure MS where
  h : HS
  data : List Nat
  out : List Nat
  line : Bool
  res : Int
structure MS.Ok (M : MS) : Prop where
  h : M.h.Ok
  len : M.h.data = M.data.length
  byte : ∀ x ∈ M.data, x < 256
  res : U32 M.res
def MS.at (q : Rq) : Nat := (q.addr - 65536).toNat
def MS.rd (M : MS) (q : Rq) : Int := (le ((M.data.drop (MS.at q)).take q.size.toNat) : Nat)
structure Acc where
  write : Bool
  v : Int
  held : Bool
  res : Int
def MS.acc (M : MS) (q : Rq) : Acc :=
  if classP q.op = 4 then ⟨false, q.data, false, M.res⟩
  else if classP q.op = 6 then
    if q.op = 46 then ⟨false, alu.swapF q.op (M.rd q) q.data, false, q.addr⟩
    else if q.op = 47 then ⟨decide (M.res = q.addr), alu.swapF q.op (M.rd q) q.data, decide (M.res = q.addr), 0⟩
    else ⟨true, alu.swapF q.op (M.rd q) q.data, false, M.res⟩
  else ⟨true, q.data, false, M.res⟩
def MS.step (M : MS) : (Rt × Bool) × MS :=
  if M.h.halted then ((noRt, false), M)
  else if M.line && M.h.intr.1.2 then ((M.h.intr.1.1, true), { M with h := M.h.intr.2 })
  else if M.h.ask.op = 0 then (((M.h.done 0 false).1, true), { M with h := (M.h.done 0 false).2 })
  else if 131072 ≤ M.h.ask.addr then (((M.h.done 0 false).1, true), { M with h := (M.h.done 0 false).2, out := M.out ++ [(M.h.ask.data % 256).toNat] })
  else (((M.h.done (M.rd M.h.ask) (M.acc M.h.ask).held).1, true),
    { M with h := (M.h.done (M.rd M.h.ask) (M.acc M.h.ask).held).2, res := (M.acc M.h.ask).res,
             data := if (M.acc M.h.ask).write then wrN M.data (MS.at M.h.ask) (M.acc M.h.ask).v.toNat M.h.ask.size.toNat else M.data })
/-! ### in memory -/
structure MP where
  b : Nat
  g : HP
  dp : Option Addr
  dc : Nat
  op : Option Addr
  oc : Nat
def MP.root (P : MP) (M : MS) : Array Value := #[.pointer (some ⟨P.g.b, 0, none⟩), .slice P.dp M.data.length P.dc, .slice P.op M.out.length P.oc, .bool M.line, .int .u32 M.res]
def machL (P : MP) (M : MS) : List Asn := [blk P.b (P.root M) 123, hartA P.g M.h, memA P.dp P.dc M.data, memA P.op P.oc M.out]
def machA (P : MP) (M : MS) : Asn := all (machL P M)
variable {W w : World} {P : MP} {M M' : MS} {L : List Asn} {B : Nat} {Mo : Nat → Prop} {W0 : World}
theorem mach_open (h : (machA P M).at_ W) : St W (machA P M).own W (machL P M ++ []) := (St.begin h).open_
theorem mach_shut (H : St W (machA P M).own w (machL P M' ++ L)) : Sep.Post (machA P M) W (machA P M') w := (St.shut H).post 0 rfl
theorem mhart_any (hA : (machA P M).at_ W) : Calls Tryz.prog 23 #[.pointer (some ⟨P.b, 0, none⟩)] W fun e w => e = .returned (.pointer (some ⟨P.g.b, 0, none⟩)) ∧ w = W := by
  have H := mach_open hA
  exact vc23 P.b 0 ⟨_, H.ld 0 rfl rfl, rfl, rfl⟩
/-! ### where an access lies -/
theorem ask_in {S : HS} (ho : S.Ok) (h : S.ask.op ≠ 0) (hlt : S.ask.addr < 131072) : 65536 ≤ S.ask.addr ∧ S.ask.addr - 65536 + S.ask.size ≤ S.data ∧ (S.ask.size = 1 ∨ S.ask.size = 2 ∨ S.ask.size = 4) ∧ U32 S.ask.data := by
  have hb : U32 (S.reg S.ins.rs2) := ho.reg _
  have haddr : U32 S.addr := whereF_u (ho.reg _)
  have hd := ho.data
  unfold HS.ask at h hlt ⊢
  cases ha : S.asks with
  | false => rw [ha] at h; exact absurd rfl h
  | true =>
    rw [ha] at hlt
    rw [if_pos rfl] at hlt
    rw [if_pos rfl]
    simp only at hlt ⊢
    unfold HS.asks at ha
    simp only [Bool.and_eq_true, decide_eq_true_eq] at ha
    obtain ⟨-, -, -, hn, hr⟩ := ha
    have hs := size_cases S.ins.op
    have hw : withinF S.addr (wr (alu.sizeF S.ins.op)) 65536 (wr S.data) = true ∨ withinF S.addr (wr (alu.sizeF S.ins.op)) 131072 4 = true := by
      unfold reachF at hr
      split at hr
      · split at hr <;> exact absurd hr (by decide)
      · split at hr
        · rename_i h1; exact .inl h1
        · split at hr
          · rename_i h1; exact .inr h1.2
          · split at hr <;> exact absurd hr (by decide)
    unfold withinF wr at hw
    simp only [w32m, Bool.and_eq_true, decide_eq_true_eq] at hw
    obtain ⟨u0, u1⟩ := haddr
    refine ⟨by omega, by omega, by omega, ?_⟩
    split
    · exact u32_lit (by decide) (by decide)
    · unfold cutF
      exact div_u (wr_u _) (Int.pow_nonneg (by decide))
/-! ### New -/
def MS.new (code : List Int) (data : List Nat) : MS := ⟨HS.new code data.length 0, data, [], false, 0⟩
end Go.Proofs.YtcpmgklhfpcaeaaGreatDoor
