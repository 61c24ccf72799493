/- Control registers as they lie in memory: each method's contract. No condition. -/
import Derived.Test.YtcpmgklhfpcaeaaGreatDoorArchVc
import Derived.Test.YtcpmgklhfpcaeaaGreatDoorArchP
namespace Go.Proofs.YtcpmgklhfpcaeaaGreatDoor
open Go.RowKit Go.XHeap Go.Sx Go.Sep
set_option linter.unusedVariables false
set_option maxRecDepth 100000

theorem hush_refl (W : World) : Hush W W := XTouch.refl _ W
theorem hush_eq {e E : Ending} {W w : World} (h : e = E ∧ W = w) : e = E ∧ Hush W w := ⟨h.1, by rw [← h.2]; exact hush_refl W⟩
def csrV (f : Int → Option Int) : Int → Option Value := fun z => (f z).map (.int .u32)
def regsL (r m : Nat) (R : RS) : List Asn := [blk r #[.int .u32 R.hart, .int .u32 R.ret, .map (some m)] 133, mp .i64 m (csrV R.csr)]
def regsA (r m : Nat) (R : RS) : Asn := all (regsL r m R)
variable {W w : World} {r m : Nat} {R : RS} {L : List Asn}
theorem regs_open {R : RS} (h : (regsA r m R).at_ W) : St W (regsA r m R).own W (regsL r m R ++ []) := (St.begin h).open_
theorem regs_shut {R R' : RS} (H : St W (regsA r m R).own w (regsL r m R' ++ L)) : Sep.Post (regsA r m R) W (regsA r m R') w := (St.shut H).post 0 rfl
theorem csr_at (R : RS) (n : Int) : Option.getD (csrV R.csr n) (.int .u32 0) = .int .u32 (R.at n) := by
  unfold csrV RS.at
  cases R.csr n <;> rfl
theorem csr_set (R : RS) (n v : Int) : Sx.upd (csrV R.csr) n (some (.int .u32 (and32 v (maskF n)))) = csrV (R.set n v).csr := by
  funext z
  unfold Sx.upd csrV RS.set
  simp only
  by_cases h : z = n
  · rw [if_pos h, if_pos h]; rfl
  · rw [if_neg h, if_neg h]
theorem beq_i {a b : Int} (h : (a == b) = true) : a = b := by simpa using h
theorem bne_i {a b : Int} (h : (a == b) = false) : a ≠ b := by simpa using h
theorem mask_any (n : Int) (W : World) : Calls Tryz.prog 124 #[.int .i64 n] W fun e w => e = .returned (.tuple #[.int .u32 (maskF n), .bool (maskOk n)]) ∧ w = W := by
  refine vc124 n ?_
  refine split_of (fun q => ?_) (fun q => ?_)
  · have q := beq_i q; subst q; exact ⟨rfl, rfl⟩
  refine split_of (fun q2 => ?_) (fun q2 => ?_)
  · have q2 := beq_i q2; subst q2; exact ⟨rfl, rfl⟩
  refine split_of (fun q3 => ?_) (fun q3 => ?_)
  · have q3 := beq_i q3; subst q3; exact ⟨rfl, rfl⟩
  refine split_of (fun q4 => ?_) (fun q4 => ?_)
  · have q4 := beq_i q4; subst q4; exact ⟨rfl, rfl⟩
  refine split_of (fun q5 => ?_) (fun q5 => ?_)
  · have q5 := beq_i q5; subst q5; exact ⟨rfl, rfl⟩
  refine split_of (fun q6 => ?_) (fun q6 => ?_)
  · have q6 := beq_i q6; subst q6; exact ⟨rfl, rfl⟩
  refine split_of (fun q7 => ?_) (fun q7 => ?_)
  · have q7 := beq_i q7; subst q7; exact ⟨rfl, rfl⟩
  have q := bne_i q; have q2 := bne_i q2; have q3 := bne_i q3; have q4 := bne_i q4; have q5 := bne_i q5; have q6 := bne_i q6; have q7 := bne_i q7
  refine ⟨?_, rfl⟩
  have e1 : maskF n = 0 := by unfold maskF; rw [if_neg q, if_neg q2, if_neg q3, if_neg q4, if_neg q5, if_neg q6, if_neg q7]
  have e2 : maskOk n = false := decide_eq_false (by rintro (h | h | h | h | h | h | h) <;> omega)
  rw [e1, e2]
theorem get_any (hA : (regsA r m R).at_ W) (n : Int) : Calls Tryz.prog 86 #[.pointer (some ⟨r, 0, none⟩), .int .i64 n] W fun e w => e = .returned (.tuple #[.int .u32 (R.get n), .bool (RS.has n)]) ∧ w = W := by
  have H := regs_open hA
  refine vc86 r 0 n (split_of (fun q => ?_) (fun q => split_of (fun q2 => ?_) (fun q2 => ?_)))
  · have q := beq_i q; subst q
    exact ⟨_, H.ld 0 rfl rfl, rfl, rfl⟩
  · have q2 := beq_i q2; subst q2
    exact ⟨_, H.ld 0 rfl rfl, rfl, rfl⟩
  · have q := bne_i q
    have q2 := bne_i q2
    refine (mask_any n W).mono ?_
    rintro e w2 ⟨rfl, rfl⟩
    refine ⟨_, _, rfl, _, H.ld 0 rfl rfl, _, H.look 1 rfl, _, csr_at R n, ?_, rfl⟩
    unfold RS.get RS.has
    rw [if_neg q, if_neg q2, decide_eq_false q, decide_eq_false q2]
    rfl
theorem set_any (hA : (regsA r m R).at_ W) (n v : Int) : Calls Tryz.prog 85 #[.pointer (some ⟨r, 0, none⟩), .int .i64 n, .int .u32 v] W fun e w => e = .returned (.tuple #[]) ∧ Sep.Post (regsA r m R) W (regsA r m (R.set n v)) w := by
  have H := regs_open hA
  refine vc85 r 0 n v ((mask_any n W).mono ?_)
  rintro e w2 ⟨rfl, rfl⟩
  refine ⟨_, _, rfl, _, H.ld 0 rfl rfl, ?_⟩
  rintro z rfl
  refine ⟨_, H.look 1 rfl, H.put 1 rfl fun w3 H => ⟨rfl, ?_⟩⟩
  rw [show IntKind.wrap .u32 ((BitVec.ofInt (IntKind.bits .u32) v &&& BitVec.ofInt (IntKind.bits .u32) (maskF n)).toNat : Int) = and32 v (maskF n) from rfl, csr_set] at H
  exact regs_shut (L := []) H
theorem count_any (hA : (regsA r m R).at_ W) : Calls Tryz.prog 52 #[.pointer (some ⟨r, 0, none⟩)] W fun e w => e = .returned (.tuple #[]) ∧ Sep.Post (regsA r m R) W (regsA r m R.counted) w := by
  have H := regs_open hA
  refine vc52 r 0 ⟨_, H.ld 0 rfl rfl, ?_⟩
  rintro z rfl
  exact H.st 0 rfl (show 1 < 3 by decide) fun w2 H => ⟨rfl, regs_shut (L := []) H⟩
theorem inter_any (hA : (regsA r m R).at_ W) : Calls Tryz.prog 41 #[.pointer (some ⟨r, 0, none⟩)] W fun e w => e = .returned (.bool R.inter) ∧ w = W := by
  have H := regs_open hA
  refine vc41 r 0 ⟨_, H.ld 0 rfl rfl, _, H.look 1 rfl, _, csr_at R 768, ?_⟩
  rintro z rfl
  refine split_of (fun q => ?_) (fun q => ?_)
  · refine ⟨_, H.ld 0 rfl rfl, _, H.look 1 rfl, _, csr_at R 772, ?_, rfl⟩
    have q : decide (0 < and32 (R.at 768) 8) = true := q
    unfold RS.inter; rw [q]; rfl
  · refine ⟨?_, rfl⟩
    have q : decide (0 < and32 (R.at 768) 8) = false := q
    unfold RS.inter; rw [q]; rfl
theorem back_any (hA : (regsA r m R).at_ W) : Calls Tryz.prog 48 #[.pointer (some ⟨r, 0, none⟩)] W fun e w => e = .returned (.int .u32 (R.back.at 833)) ∧ Sep.Post (regsA r m R) W (regsA r m R.back) w := by
  have H := regs_open hA
  refine vc48 r 0 ⟨_, H.ld 0 rfl rfl, _, H.look 1 rfl, _, csr_at R 768, ?_⟩
  rintro z rfl
  refine ⟨by decide, ?_⟩
  rintro z2 rfl
  rintro z3 rfl
  have e1 : (or32 (Int.fdiv (and32 (R.at 768) 128) (2 ^ min 4 (IntKind.bits .u32))) 128) = or32 (and32 (R.at 768) 128 / 16) 128 := by
    rw [show (2 : Int) ^ min 4 (IntKind.bits .u32) = 16 from rfl, Int.fdiv_eq_ediv_of_nonneg _ (by decide)]
  refine (set_any hA 768 _).mono ?_
  rintro e w2 ⟨rfl, hp⟩
  have hp : Sep.Post (regsA r m R) W (regsA r m R.back) w2 := by
    unfold RS.back
    rw [← e1]
    exact hp
  have H2 := regs_open hp.1
  exact ⟨rfl, _, H2.ld 0 rfl rfl, _, H2.look 1 rfl, _, csr_at R.back 833, rfl, hp⟩
theorem trap_any (hA : (regsA r m R).at_ W) (pc cause tval : Int) : Calls Tryz.prog 82 #[.pointer (some ⟨r, 0, none⟩), .int .u32 pc, .int .i64 cause, .int .u32 tval] W fun e w => e = .returned (.tuple #[.int .u32 (R.trap pc cause tval).1, .bool (R.trap pc cause tval).2.1]) ∧ Sep.Post (regsA r m R) W (regsA r m (R.trap pc cause tval).2.2) w := by
  have H := regs_open hA
  refine vc82 r 0 pc cause tval ⟨_, H.ld 0 rfl rfl, _, H.look 1 rfl, _, csr_at R 773, split_of (fun q => ?_) (fun q => ?_)⟩
  · have q := beq_i q
    have e : R.trap pc cause tval = (pc, false, R) := by unfold RS.trap; rw [if_pos q]
    rw [e]
    exact ⟨rfl, hA, XTouch.refl _ _, fun q h => .inl h⟩
  · have q := bne_i q
    have e : R.trap pc cause tval = (R.at 773, true, R.trapped pc cause tval) := by unfold RS.trap; rw [if_neg q]
    rw [e]
    have H := St.begin hA
    refine H.call 0 rfl (set_any hA 833 pc) fun w2 H => ⟨rfl, ?_⟩
    rintro z rfl
    refine H.call 0 rfl (set_any (H.nth 0 rfl) 834 _) fun w3 H => ⟨rfl, ?_⟩
    refine H.call 0 rfl (set_any (H.nth 0 rfl) 835 _) fun w4 H => ⟨rfl, ?_⟩
    have H2 := regs_open (H.nth 0 rfl)
    refine ⟨_, H2.ld 0 rfl rfl, _, H2.look 1 rfl, _, csr_at _ 768, ?_⟩
    rintro z rfl
    refine ⟨by decide, ?_⟩
    rintro z2 rfl
    exact H.call 0 rfl (set_any (H.nth 0 rfl) 768 _) fun w5 H => ⟨rfl, rfl, H.post 0 rfl⟩
end Go.Proofs.YtcpmgklhfpcaeaaGreatDoor
