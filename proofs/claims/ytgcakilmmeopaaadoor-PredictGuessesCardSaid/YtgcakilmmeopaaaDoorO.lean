/- Part O of the proofs over 'predict': New of any make, refused makes too. No condition. -/
import Derived.Test.YtgcakilmmeopaaaDoorN
namespace Go.Proofs.YtgcakilmmeopaaaDoor
open Go.RowKit Go.XHeap Go.Sx Go.Sep
set_option linter.unusedVariables false
set_option maxRecDepth 100000

theorem rep_set (a b : Nat) (hb : 0 < b) (x y : Int) : (List.replicate a x ++ List.replicate b y).set a x = List.replicate (a + 1) x ++ List.replicate (b - 1) y := by
  obtain ⟨c, rfl⟩ : ∃ c, b = c + 1 := ⟨b - 1, by omega⟩
  rw [List.set_append_right _ _ (by simp), List.length_replicate, Nat.sub_self, List.replicate_succ, List.set_cons_zero, List.replicate_succ', List.append_assoc]
  rfl
theorem table_ok (W : World) (B : Nat) (hB : B ≤ 10) :
    Calls Tryd.prog 21 #[.int .i64 B] W fun e w => ∃ cb, e = .returned (.slice (some ⟨cb, 0, none⟩) (2 ^ B) (2 ^ B)) ∧ Sep.Post emp W (blk cb (ints .u8 (List.replicate (2 ^ B) 1)) 102) w := by
  have hpow : 2 ^ B ≤ 2 ^ 10 := Nat.pow_le_pow_right (by decide) hB
  have hpos := Nat.two_pow_pos B
  refine vc21 _ ⟨by omega, ?_⟩
  rintro z rfl
  rw [Bits.one_shl (by omega)]
  refine ⟨⟨by omega, by omega, by omega, by omega⟩, ?_⟩
  rw [show (((2 ^ B : Nat) : Int).toNat) = 2 ^ B from Int.toNat_natCast _, Nat.mul_one, ints_made]
  refine (St.nil W).al fun k w2 H => ?_
  refine ⟨fun x w => ∃ m : Nat, x = m ∧ m ≤ 2 ^ B ∧ St W (fun _ => False) w [blk k (ints .u8 (List.replicate m 1 ++ List.replicate (2 ^ B - m) 0)) 102], fun x _ => 2 ^ B - x.toNat, ⟨0, rfl, by omega, by rw [List.replicate_zero, List.nil_append, Nat.sub_zero]; exact H⟩, fun _ => ?_⟩
  rintro x w3 ⟨m, rfl, hm, H⟩
  refine split_of (fun q => ?_) (fun q => ?_)
  · have q := of_decide_eq_true q
    refine ⟨⟨by omega, q⟩, ?_⟩
    rw [ix1, Nat.zero_add]
    refine H.st 0 rfl (by rw [ints_size]; simp; omega) fun w4 H => ?_
    rintro z2 rfl
    rw [w64 (by omega) (by omega)]
    refine ⟨⟨m + 1, by omega, by omega, ?_⟩, by show 2 ^ B - ((m : Int) + 1).toNat < 2 ^ B - (m : Int).toNat; omega⟩
    rw [ints_set, rep_set _ _ (by omega)] at H
    exact H
  · have q := of_decide_eq_false q
    obtain rfl : m = 2 ^ B := by omega
    rw [Nat.sub_self, List.replicate_zero, List.append_nil] at H
    exact ⟨k, rfl, H.new 0 rfl⟩
/-! ### what New makes -/
def S0 (D : Dir) (h t r tb sb : Nat) : PS := ⟨D.val, 0, ((2 ^ h - 1 : Nat) : Int), tb, 2 ^ t, 2 ^ t, rows tgtC (List.replicate (2 ^ t) (0, 0, false)), sb, r, List.replicate r 0, 0⟩
def D0 (κ B cb : Nat) : Dir := if κ = 2 then .tab false cb B (List.replicate (2 ^ B) 1) else if κ = 3 then .tab true cb B (List.replicate (2 ^ B) 1) else .fixed (decide (κ = 1))
def cfgC (κ B h t r : Int) : Array Value := #[.int .i64 κ, .int .i64 B, .int .i64 h, .int .i64 t, .int .i64 r]
def rootC (v : Value) (h t r tb sb : Nat) : Array Value := #[v, .int .i64 0, .int .i64 ((2 ^ h - 1 : Nat) : Int), .slice (some ⟨tb, 0, none⟩) (2 ^ t) (2 ^ t), .slice (some ⟨sb, 0, none⟩) r r, .int .i64 0]
theorem shut_pred {W w : World} {M : Nat → Prop} {D : Dir} {h t r b tb sb : Nat} {L : List Asn} (h1 : 1 ≤ r) (h2 : r ≤ 16)
    (H : St W M w ([blk b (rootC D.val h t r tb sb) 72, blk tb (rows tgtC (List.replicate (2 ^ t) (0, 0, false))) 87, blk sb (ints .u32 (List.replicate r 0)) 35] ++ L)) :
    St W M w (predA b (S0 D h t r tb sb) :: L) := by
  refine H.fold (fun h => ⟨?_, h.2.2.1, h.2.2.2.2.1, fun e => h.2.1 b rfl (.inl e), fun e => h.2.1 b rfl (.inr (.inl e)), fun e => h.2.2.2.1 tb rfl (.inl e), ?_, ?_⟩) (fun q hq => ?_)
  · have := h.1
    show Blk w b #[D.val, .int .i64 0, .int .i64 _, .slice (some ⟨tb, 0, none⟩) (2 ^ t) (2 ^ t), .slice (some ⟨sb, 0, none⟩) (List.replicate r (0 : Int)).length r, .int .i64 0] 72
    rw [List.length_replicate]
    exact this
  · show 0 < (List.replicate r (0 : Int)).length; rw [List.length_replicate]; omega
  · show (List.replicate r (0 : Int)).length ≤ 16; rw [List.length_replicate]; omega
  · rcases hq with rfl | rfl | rfl
    · exact .inl rfl
    · exact .inr (.inl rfl)
    · exact .inr (.inr (.inl rfl))
def NewPost (W : World) (κ B h t r : Nat) (e : Ending) (w : World) : Prop := ∃ b cb tb sb : Nat, e = .returned (.tuple #[.pointer (some ⟨b, 0, none⟩), .nilIface]) ∧ Sep.Post emp W (pgA b (S0 (D0 κ B cb) h t r tb sb) (D0 κ B cb)) w
theorem new_rest {W w : World} {κ B h t r k tb sb b : Nat} (hκ : κ ≤ 3) (hB : B ≤ 10) (h1 : 1 ≤ r) (h2 : r ≤ 16)
    (H : St W (fun _ => False) w [blk b (rootC .nilIface h t r tb sb) 72, blk tb (rows tgtC (List.replicate (2 ^ t) (0, 0, false))) 87, blk sb (ints .u32 (List.replicate r 0)) 35, blk k (cfgC κ B h t r) 30]) :
    ∃ z : Int, w.cell? ⟨k, 0, none⟩ = some (.int .i64 z) ∧
      Sx.split (z == 2)
       (∃ z2 : Int, w.cell? ⟨k, 0 + 1, none⟩ = some (.int .i64 z2) ∧
         Calls Tryd.prog 21 #[.int .i64 z2] w fun e w2 => ∃ p : Option Addr, ∃ k5 k6 : Nat, e = .returned (.slice p k5 k6) ∧ (∃ v, w2.cell? ⟨b, 0, none⟩ = some v) ∧ w2.frozen? ⟨b, 0, none⟩ = false ∧ ∀ w3 : World, w3 = w2.setCell ⟨b, 0, none⟩ (.iface 74 (.slice p k5 k6)) →
           NewPost W κ B h t r (.returned (.tuple #[.pointer (some ⟨b, 0, none⟩), .nilIface])) w3)
       (Sx.split (z == 3)
         (∃ z2 : Int, w.cell? ⟨k, 0 + 1, none⟩ = some (.int .i64 z2) ∧
           Calls Tryd.prog 21 #[.int .i64 z2] w fun e w2 => ∃ p : Option Addr, ∃ k5 k6 : Nat, e = .returned (.slice p k5 k6) ∧ ∀ vs : Array Value, vs = #[.slice p k5 k6] → (∃ v, w2.cell? ⟨b, 0, none⟩ = some v) ∧ w2.frozen? ⟨b, 0, none⟩ = false ∧ ∀ w3 : World, w3 = w2.setCell ⟨b, 0, none⟩ (.iface 77 (.agg vs)) →
             NewPost W κ B h t r (.returned (.tuple #[.pointer (some ⟨b, 0, none⟩), .nilIface])) w3)
         (∃ z2 : Int, w.cell? ⟨k, 0, none⟩ = some (.int .i64 z2) ∧ ∀ vs : Array Value, vs = #[.bool (z2 == 1)] → (∃ v, w.cell? ⟨b, 0, none⟩ = some v) ∧ w.frozen? ⟨b, 0, none⟩ = false ∧ ∀ w3 : World, w3 = w.setCell ⟨b, 0, none⟩ (.iface 79 (.agg vs)) →
             NewPost W κ B h t r (.returned (.tuple #[.pointer (some ⟨b, 0, none⟩), .nilIface])) w3)) := by
  have fin : ∀ {w : World} {D : Dir} {L : List Asn}, St W (fun _ => False) w ([blk b (rootC D.val h t r tb sb) 72, blk tb (rows tgtC (List.replicate (2 ^ t) (0, 0, false))) 87, blk sb (ints .u32 (List.replicate r 0)) 35] ++ (dirA D :: L)) → Sep.Post emp W (pgA b (S0 D h t r tb sb) D) w := fun {w D L} H => by
    have H : St W (fun _ => False) w (all [predA b (S0 D h t r tb sb), dirA D] :: L) := St.shut (shut_pred h1 h2 H)
    exact H.new 0 rfl
  refine ⟨κ, H.ld 3 rfl rfl, split_of (fun q => ?_) (fun q => ?_)⟩
  · have q : κ = 2 := by have : (κ : Int) = 2 := by simpa using q
                         omega
    refine ⟨B, H.ld 3 rfl rfl, H.calln (table_ok w B hB) fun cb w2 H => ⟨_, _, _, rfl, H.st 0 rfl (by show 0 < 6; omega) fun w3 H => ⟨b, cb, tb, sb, rfl, ?_⟩⟩⟩
    have e : D0 κ B cb = .tab false cb B (List.replicate (2 ^ B) 1) := by unfold D0; rw [if_pos q]
    rw [e]
    exact fin (H.pick [0, 1, 2, 4])
  refine split_of (fun q2 => ?_) (fun q2 => ?_)
  · have q2 : κ = 3 := by have : (κ : Int) = 3 := by simpa using q2
                          omega
    refine ⟨B, H.ld 3 rfl rfl, H.calln (table_ok w B hB) fun cb w2 H => ⟨_, _, _, rfl, ?_⟩⟩
    rintro vs rfl
    refine H.st 0 rfl (by show 0 < 6; omega) fun w3 H => ⟨b, cb, tb, sb, rfl, ?_⟩
    have e : D0 κ B cb = .tab true cb B (List.replicate (2 ^ B) 1) := by unfold D0; rw [if_neg (by omega), if_pos q2]
    rw [e]
    exact fin (H.pick [0, 1, 2, 4])
  · have q : ¬ (κ : Int) = 2 := by simpa using q
    have q2 : ¬ (κ : Int) = 3 := by simpa using q2
    refine ⟨κ, H.ld 3 rfl rfl, ?_⟩
    rintro vs rfl
    refine H.st 0 rfl (by show 0 < 6; omega) fun w3 H => ⟨b, 0, tb, sb, rfl, ?_⟩
    have e : D0 κ B 0 = .fixed ((κ : Int) == 1) := by
      unfold D0
      rw [if_neg (by omega), if_neg (by omega)]
      congr 1
      rw [Bool.eq_iff_iff]; simp; omega
    rw [e]
    have H : St W (fun _ => False) w3 ([blk b (rootC (Dir.fixed ((κ : Int) == 1)).val h t r tb sb) 72, blk tb (rows tgtC (List.replicate (2 ^ t) (0, 0, false))) 87, blk sb (ints .u32 (List.replicate r 0)) 35] ++ (emp :: [])) := (H.pick [0, 1, 2]).add ⟨trivial, XTouch.refl _ _, fun _ e => e.elim⟩
    exact fin H
theorem shl1 (n : Nat) (h : n ≤ 10) : IntKind.wrap .i64 (1 * 2 ^ min ((n : Int).toNat) (IntKind.bits .i64)) = ((2 ^ n : Nat) : Int) := Bits.one_shl (by omega)
theorem new_good (W : World) (κ B h t r : Nat) (hκ : κ ≤ 3) (hB0 : 1 ≤ B) (hB : B ≤ 10) (hh : h ≤ B) (ht : t ≤ 8) (h1 : 1 ≤ r) (h2 : r ≤ 16) :
    Calls Tryd.prog 7 #[.agg (cfgC κ B h t r)] W (NewPost W κ B h t r) := by
  refine vc7 _ ((St.nil W).al fun k w2 H => ⟨κ, H.ld 0 rfl rfl, H.callp (within_any _ κ 0 3) ⟨_, rfl, split_of (fun q => ?_) (fun _ => ?_)⟩⟩)
  · rw [within_yes (by omega) (by omega)] at q; cases q
  refine ⟨B, H.ld 0 rfl rfl, H.callp (within_any _ B 1 10) ⟨_, rfl, split_of (fun q => ?_) (fun _ => ?_)⟩⟩
  · rw [within_yes (by omega) (by omega)] at q; cases q
  refine ⟨h, H.ld 0 rfl rfl, B, H.ld 0 rfl rfl, H.callp (within_any _ h 0 _) ⟨_, rfl, split_of (fun q => ?_) (fun _ => ?_)⟩⟩
  · rw [within_yes (by omega) (by split <;> omega)] at q; cases q
  refine ⟨t, H.ld 0 rfl rfl, H.callp (within_any _ t 0 8) ⟨_, rfl, split_of (fun q => ?_) (fun _ => ?_)⟩⟩
  · rw [within_yes (by omega) (by omega)] at q; cases q
  refine ⟨r, H.ld 0 rfl rfl, H.callp (within_any _ r 1 16) ⟨_, rfl, split_of (fun q => ?_) (fun _ => ?_)⟩⟩
  · rw [within_yes (by omega) (by omega)] at q; cases q
  have hp1 : 2 ^ h ≤ 2 ^ 10 := Nat.pow_le_pow_right (by decide) (by omega)
  have hp2 : 2 ^ t ≤ 2 ^ 8 := Nat.pow_le_pow_right (by decide) ht
  have hq1 := Nat.two_pow_pos h
  have hq2 := Nat.two_pow_pos t
  refine H.dr fun w8 H => ⟨h, H.ld 0 rfl rfl, by omega, ?_⟩
  rintro z8 rfl z9 rfl
  refine ⟨t, H.ld 0 rfl rfl, by omega, ?_⟩
  rintro z11 rfl
  refine ⟨r, H.ld 0 rfl rfl, ?_⟩
  rw [shl1 h (by omega), shl1 t (by omega), w64 (e := ((2 ^ h : Nat) : Int) - 1) (by omega) (by omega), Bits.sub_pow, Int.toNat_natCast, Int.toNat_natCast]
  have e1 : madeCells #[Value.int IntKind.u32 0, Value.int IntKind.u32 0, Value.bool false] (2 ^ t * 3) = rows tgtC (List.replicate (2 ^ t) (0, 0, false)) := rows_made (f := tgtC) (x0 := (0, 0, false)) rfl (by decide) _
  have e2 : madeCells #[Value.int IntKind.u32 0] (r * 1) = ints .u32 (List.replicate r 0) := by rw [Nat.mul_one]; exact ints_made r
  rw [e1, e2]
  refine ⟨⟨⟨by omega, by omega, by omega, by omega⟩, H.alb fun k2 w9 H _ b9 => ⟨b9, ⟨by omega, by omega, by omega, by omega⟩, H.alb fun k3 w10 H _ b10 => ?_⟩⟩, ⟨by omega, by omega, by omega, by omega⟩, H.alb fun k2 w9 H _ b9 => ⟨b9, ⟨by omega, by omega, by omega, by omega⟩, H.alb fun k3 w10 H _ b10 => ?_⟩⟩
  · have b10 := b9.trans (b10.mono b9.size)
    refine ⟨b10, ?_⟩
    rintro vs rfl
    refine H.alb fun k4 w11 H _ b11 => ⟨b10.trans (b11.mono b10.size), new_rest hκ hB h1 h2 (H.pick [3, 1, 2, 0])⟩
  · have b10 := b9.trans (b10.mono b9.size)
    refine ⟨b10, ?_⟩
    rintro vs rfl
    refine H.alb fun k4 w11 H _ b11 => ⟨b10.trans (b11.mono b10.size), new_rest hκ hB h1 h2 (H.pick [3, 2, 1, 0])⟩
/-! ### refused makes -/
def fits (κ B h t r : Int) : Prop := (0 ≤ κ ∧ κ ≤ 3) ∧ (1 ≤ B ∧ B ≤ 10) ∧ (0 ≤ h ∧ h ≤ 10 ∧ h ≤ B) ∧ (0 ≤ t ∧ t ≤ 8) ∧ 1 ≤ r ∧ r ≤ 16
theorem within_no {n lo hi : Int} (h : (decide (n ≥ lo) && decide (n ≤ hi)) = false) : ¬ (lo ≤ n ∧ n ≤ hi) := by
  simp at h; omega
theorem within_is {n lo hi : Int} (h : (!(decide (n ≥ lo) && decide (n ≤ hi))) = false) : lo ≤ n ∧ n ≤ hi := by
  simp at h; omega
theorem new_bad (W : World) (κ B h t r : Int) (hb : ¬ fits κ B h t r) :
    Calls Tryd.prog 7 #[.agg (cfgC κ B h t r)] W fun e w => e = .returned (.tuple #[.pointer none, .iface 51 (.int .i64 2)]) ∧ Hush W w := by
  refine vc7 _ ((St.nil W).al fun k w2 H => ⟨κ, H.ld 0 rfl rfl, H.callp (within_any _ κ 0 3) ⟨_, rfl, split_of (fun _ => ⟨rfl, H.touch⟩) (fun q1 => ?_)⟩⟩)
  refine ⟨B, H.ld 0 rfl rfl, H.callp (within_any _ B 1 10) ⟨_, rfl, split_of (fun _ => ⟨rfl, H.touch⟩) (fun q2 => ?_)⟩⟩
  refine ⟨h, H.ld 0 rfl rfl, B, H.ld 0 rfl rfl, H.callp (within_any _ h 0 _) ⟨_, rfl, split_of (fun _ => ⟨rfl, H.touch⟩) (fun q3 => ?_)⟩⟩
  refine ⟨t, H.ld 0 rfl rfl, H.callp (within_any _ t 0 8) ⟨_, rfl, split_of (fun _ => ⟨rfl, H.touch⟩) (fun q4 => ?_)⟩⟩
  refine ⟨r, H.ld 0 rfl rfl, H.callp (within_any _ r 1 16) ⟨_, rfl, split_of (fun _ => ⟨rfl, H.touch⟩) (fun q5 => ?_)⟩⟩
  have q3 := within_is q3
  have hB := within_is q2
  exact absurd ⟨within_is q1, hB, ⟨q3.1, by have := q3.2; split at this <;> omega, by have := q3.2; split at this <;> omega⟩, within_is q4, within_is q5⟩ hb
end Go.Proofs.YtgcakilmmeopaaaDoor
