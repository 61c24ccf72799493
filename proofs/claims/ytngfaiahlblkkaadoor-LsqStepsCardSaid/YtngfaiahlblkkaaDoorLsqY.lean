/- The oldest one of both queues is the same. No condition. -/
import Derived.Test.YtngfaiahlblkkaaDoorLsqX
namespace Go.Proofs.YtngfaiahlblkkaaDoor
open Go.RowKit Go.XHeap Go.Sx Go.Sep Go.Bits
set_option linter.unusedVariables false
set_option maxRecDepth 100000
variable {W A : World} {b rb : Nat} {q : PQ} {r : RQ} {L : List Asn}

theorem wr_eq (ox oy : Operand) (a c : Int) (d : Int) (w : World) : (do eqGuard .eql 83 ox oy (.agg #[.int .u32 a, .int .i64 c, .int .u32 d]) (.agg #[.int .u32 a, .int .i64 c, .int .u32 d]); binOp .eql 83 (.agg #[.int .u32 a, .int .i64 c, .int .u32 d]) (.agg #[.int .u32 a, .int .i64 c, .int .u32 d]) : Sem Value).run Tryd.prog w = .ok (.bool true) w := by
  obtain ⟨z, h1, h2⟩ := SEq.struct_run (P := Tryd.prog) (t := 83) (S := [(false, 39, 0), (false, 3, 1), (false, 39, 2)]) (xs := #[.int .u32 a, .int .i64 c, .int .u32 d]) (ys := #[.int .u32 a, .int .i64 c, .int .u32 d]) (by kernel_rfl) (by kernel_rfl) (by kernel_rfl) (by kernel_rfl) (by
    intro s hs
    simp only [List.mem_cons, List.not_mem_nil, or_false] at hs
    rcases hs with rfl | rfl | rfl
    · exact ⟨rfl, _, _, rfl, rfl, .inl ⟨.u32, a, Tryd.underlying39, rfl⟩, .inl ⟨.u32, a, Tryd.underlying39, rfl⟩⟩
    · exact ⟨rfl, _, _, rfl, rfl, .inl ⟨.i64, c, Tryd.underlying3, rfl⟩, .inl ⟨.i64, c, Tryd.underlying3, rfl⟩⟩
    · exact ⟨rfl, _, _, rfl, rfl, .inl ⟨.u32, d, Tryd.underlying39, rfl⟩, .inl ⟨.u32, d, Tryd.underlying39, rfl⟩⟩)
  obtain rfl : z = true := h2.2 (fun _ _ => rfl)
  exact SEq.eql_run (by kernel_rfl) h1 ox oy w
theorem oldest_two (h : R2 q r) (hq : (qA b q).at_ A) (hr : (rA rb r).at_ A) : Calls Tryd.prog 36 #[.pointer (some ⟨b, 0, none⟩), .pointer (some ⟨rb, 0, none⟩)] A fun e w => e = .returned (.bool true) ∧ Hush A w := by
  have hn := h.n32
  refine vc36 b 0 rb 0 ((oldest_any hq h.oks).mono ?_)
  rintro e B ⟨rfl, hh⟩
  have H : St A No B [] := (St.nil A).quiet hh
  have hsz : (wrV (oldestOf q.es)).size = 3 := by cases oldestOf q.es <;> rfl
  have hone : ∀ v ∈ (wrV (oldestOf q.es)).toList, v.oneCell' = true := by
    intro v hv
    cases hq : oldestOf q.es with
    | none => rw [hq] at hv; simp [wrV] at hv; rcases hv with rfl | rfl | rfl <;> rfl
    | some e => rw [hq] at hv; simp [wrV] at hv; rcases hv with rfl | rfl | rfl <;> rfl
  refine ⟨_, _, rfl, H.al fun k C H => H.sts0 0 rfl hsz rfl hone fun D H => ?_⟩
  have H : St A No D [blk k (wrV (oldestOf q.es)) 83] := H
  refine H.callp (qlen_any ((qA b q).keep hq H.touch (fun _ _ e => e))) ⟨_, rfl, ?_⟩
  have R := r_open ((rA rb r).keep hr H.touch (fun _ _ e => e))
  refine ⟨_, _, _, R.ld 0 rfl rfl, split_of (fun q1 => ?_) (fun _ => ?_)⟩
  · exfalso
    rw [h.rlen] at q1
    simp at q1
  have hold : oldestOf q.es = none → ∀ {Q : Prop}, (∀ vs5 : Array Value, vs5 = wrV none → Q) → Q := fun _ Q h => h _ rfl
  have zero : oldestOf q.es = none → ∃ vs2 : Array Value, vs2.size = 3 ∧ cellsAt D ⟨k, 0, none⟩ vs2 ∧ ∀ vs3 : Array Value, vs3 = #[.int .u32 0, .int .i64 0, .int .u32 0] → ∃ t3 : Bool, (∀ W6 : World, (do eqGuard .eql 83 (.tmp 41) (.tmp 42) (.agg vs2) (.agg vs3); binOp .eql 83 (.agg vs2) (.agg vs3) : Sem Value).run Tryd.prog W6 = .ok (.bool t3) W6) ∧ (Ending.returned (Value.bool t3) = .returned (.bool true) ∧ Hush A D) := by
    intro hno
    refine ⟨wrV (oldestOf q.es), hsz, H.cells 0 rfl, ?_⟩
    rintro vs3 rfl
    refine ⟨true, fun W6 => ?_, rfl, H.touch⟩
    rw [hno]
    exact wr_eq _ _ 0 0 0 W6
  refine split_of (fun q1 => ?_) (fun q1 => ?_)
  · have q1 := of_decide_eq_true q1
    have hpos : 0 < q.es.length := by omega
    obtain ⟨x, es, hes⟩ : ∃ x es, q.es = x :: es := by
      match hq : q.es with
      | [] => rw [hq] at hpos; exact absurd hpos (by decide)
      | x :: es => exact ⟨x, es, rfl⟩
    have hx : q.es[0]? = some x := by rw [hes]; rfl
    have hxo := h.oks x (List.mem_of_getElem? hx)
    obtain ⟨e, he, hs⟩ := h.get hx
    obtain ⟨g, off, hp, hcs, hc⟩ := re_at (R.nth 1 rfl) he
    have ho : oldestOf q.es = if x.2.retired then some x.2 else none := by rw [hes, oldest_cons]
    refine ⟨_, _, _, R.ld 0 rfl rfl, ⟨by omega, by rw [h.rlen]; omega⟩, adr_eq hp ⟨e.retired, hc 12 _ rfl, ?_⟩⟩
    have hret : (oldestOf q.es).isSome = e.retired := by rw [ho, ← hs.retired]; cases x.2.retired <;> rfl
    rw [hret]
    refine split_of (fun q2 => ?_) (fun _ => split_of (fun q2 => ?_) (fun q2 => ?_))
    · cases hq3 : e.retired <;> rw [hq3] at q2 <;> cases q2
    · have q2 : e.retired = false := by simpa using q2
      exact zero (by rw [ho, hs.retired, q2]; rfl)
    · have q2 : e.retired = true := by simpa using q2
      have ho1 : oldestOf q.es = some x.2 := by rw [ho, hs.retired, q2]; rfl
      rw [ho1] at H
      have hret := hxo.ret (by rw [hs.retired, q2])
      have hsz4 : x.2.size = 1 ∨ x.2.size = 2 ∨ x.2.size = 4 := by
        rcases hxo.size with h2 | h2
        · exact absurd h2 (hxo.siz hret.2.1)
        · exact h2
      have hd := hxo.data
      have ha := hxo.addr
      refine ⟨_, _, _, R.ld 0 rfl rfl, ⟨by omega, by rw [h.rlen]; omega⟩, adr_eq hp ⟨e.rc.toArray, rfl, hcs, ?_⟩⟩
      refine H.al fun k13 E H => H.sts0 1 rfl rfl rfl (rc_one e) fun F H => ?_
      have H : St A No F [blk k (wrV (some x.2)) 83, blk k13 e.rc.toArray 98] := H
      have hdat : e.data < 4294967296 := by rw [← hs.data]; exact hd
      refine ⟨e.data, H.ld 1 rfl rfl, e.size, H.ld 1 rfl rfl, split_of (fun q3 => ?_) (fun q3 => ?_)⟩
      · have q3 := of_decide_eq_true q3
        refine ⟨e.size, H.ld 1 rfl rfl, ?_⟩
        rintro z5 rfl
        rw [show 8 * ((e.size : Nat) : Int) = ((8 * e.size : Nat) : Int) by omega, n64 (by omega)]
        refine ⟨by omega, ?_⟩
        rintro z6 rfl
        have e6 : IntKind.wrap .u32 (1 * 2 ^ min ((8 * e.size : Nat) : Int).toNat (IntKind.bits .u32)) = ((2 ^ (8 * e.size) : Nat) : Int) := by
          have hb : IntKind.bits .u32 = 32 := rfl
          rw [Int.toNat_natCast, hb, Nat.min_eq_left (by omega), w32m]
          rcases (show e.size = 0 ∨ e.size = 1 ∨ e.size = 2 ∨ e.size = 3 by omega) with e | e | e | e <;> rw [e] <;> rfl
        rw [e6]
        have hpw : 0 < 2 ^ (8 * e.size) := Nat.pow_pos (by decide)
        refine ⟨by omega, ?_⟩
        rintro z7 rfl
        rw [Bits.tmod]
        refine ⟨x.2.addr, H.ld 0 rfl rfl, ?_⟩
        rintro z9 rfl
        rw [n64 (by omega)]
        refine ⟨e.addr, H.ld 1 rfl rfl, split_of (fun _ => ?_) (fun q4 => ?_)⟩
        · refine ⟨x.2.size, H.ld 0 rfl rfl, e.size, H.ld 1 rfl rfl, split_of (fun _ => ?_) (fun q4 => ?_)⟩
          · refine ⟨((x.2.data % 2 ^ (8 * x.2.size) : Nat) : Int), H.ld 0 rfl rfl, ?_, H.touch⟩
            rw [hs.data, hs.size, beq_self_eq_true]
          · rw [hs.size] at q4; simp at q4
        · rw [hs.addr] at q4; simp at q4
      · have q3 := of_decide_eq_false q3
        have e4 : e.size = 4 := by rw [hs.size] at hsz4; omega
        refine ⟨x.2.addr, H.ld 0 rfl rfl, ?_⟩
        rintro z15 rfl
        rw [n64 (by omega)]
        refine ⟨e.addr, H.ld 1 rfl rfl, split_of (fun _ => ?_) (fun q4 => ?_)⟩
        · refine ⟨x.2.size, H.ld 0 rfl rfl, e.size, H.ld 1 rfl rfl, split_of (fun _ => ?_) (fun q4 => ?_)⟩
          · refine ⟨((x.2.data % 2 ^ (8 * x.2.size) : Nat) : Int), H.ld 0 rfl rfl, ?_, H.touch⟩
            have : x.2.data % 2 ^ (8 * x.2.size) = e.data := by
              rw [hs.size, e4, hs.data]
              exact Nat.mod_eq_of_lt hdat
            rw [this, beq_self_eq_true]
          · rw [hs.size] at q4; simp at q4
        · rw [hs.addr] at q4; simp at q4
  · have q1 := of_decide_eq_false q1
    have hnil : q.es = [] := List.eq_nil_of_length_eq_zero (by omega)
    have hno : oldestOf q.es = none := by rw [hnil]; rfl
    have hz := zero hno
    rw [hno]
    exact split_of (fun q2 => by cases q2) (fun _ => split_of (fun _ => hz) (fun q2 => by cases q2))
end Go.Proofs.YtngfaiahlblkkaaDoor
