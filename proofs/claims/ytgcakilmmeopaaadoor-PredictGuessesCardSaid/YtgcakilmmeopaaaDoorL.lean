/- Part L of the proofs over 'predict': directions (fixed, counters, counters with the history), whatever the make. No condition. -/
import Derived.Test.YtgcakilmmeopaaaDoorF
import Derived.Test.YtgcakilmmeopaaaDoorSep
import Derived.Test.YtgcakilmmeopaaaDoorBits
namespace Go.Proofs.YtgcakilmmeopaaaDoor
open Go.RowKit Go.XHeap Go.Sx Go.Sep
set_option linter.unusedVariables false
set_option maxRecDepth 100000

theorem tat_any (W : World) (cb b c pc : Nat) (hb : b ≤ 62) (hp : pc < 4294967296) :
    Calls Tryd.prog 61 #[.slice (some ⟨cb, 0, none⟩) (2 ^ b) c, .int .u32 pc] W fun e w => e = .returned (.pointer (some ⟨cb, pc / 4 % 2 ^ b, none⟩)) ∧ w = W := by
  refine vc61 _ _ _ _ ⟨by decide, ?_⟩
  rintro z rfl z2 rfl z3 rfl z4 rfl
  have e1 : Int.fdiv (pc : Int) (2 ^ min 2 (IntKind.bits .u32)) = ((pc / 4 : Nat) : Int) := Bits.shr pc 2
  have hpow : 2 ^ b ≤ 2 ^ 62 := Nat.pow_le_pow_right (by decide) hb
  have hpos := Nat.two_pow_pos b
  rw [e1, Bits.n64 (x := pc / 4) (by omega), w64 (e := ((2 ^ b : Nat) : Int) - 1) (by omega) (by omega), Bits.mask64 (by omega) hb]
  have hlt := Nat.mod_lt (pc / 4) (Nat.two_pow_pos b)
  refine ⟨⟨by omega, by omega⟩, adr_some ?_⟩
  rw [ix1, Nat.zero_add]
  exact ⟨rfl, rfl⟩
theorem likely_any (W : World) (c : Int) : Calls Tryd.prog 62 #[.int .u8 c] W fun e w => e = .returned (.bool (decide (c > 1))) ∧ w = W := vc62 c ⟨rfl, rfl⟩
theorem tguess (W : World) (cb b c pc : Nat) (hb : b ≤ 62) (hp : pc < 4294967296) (l : List Int) (hl : l.length = 2 ^ b) (hB : Blk W cb (ints .u8 l) 102) (cs : Array Value) (hi : Int) :
    Calls Tryd.prog 59 #[.slice (some ⟨cb, 0, none⟩) (2 ^ b) c, .int .u32 pc, .agg cs, .int .i64 hi] W fun e w => e = .returned (.bool (decide (l.getD (pc / 4 % 2 ^ b) 0 > 1))) ∧ Hush W w := by
  refine vc59 _ _ _ _ _ _ ((St.nil W).al fun k w2 H => ?_)
  refine H.callp (tat_any _ cb b c pc hb hp) ⟨_, rfl, ptr_some ?_⟩
  refine ⟨_, (hB.keep H.touch (fun e => e)).cell' (ints_ok (getD_at ?_)), H.callp (likely_any _ _) ⟨_, rfl, rfl, H.touch⟩⟩
  rw [hl]
  exact Nat.mod_lt _ (Nat.two_pow_pos b)
def bump (n : Int) (t : Bool) : Int := if t && decide (n < 3) then n + 1 else if !t && decide (n > 0) then n - 1 else n
theorem set_self {l : List Int} {i : Nat} {n : Int} (h : l[i]? = some n) : l.set i n = l := by
  apply List.ext_getElem?
  intro j
  rw [List.getElem?_set]
  split
  · rename_i e; subst e; rw [h]; simp [(List.getElem?_eq_some_iff.1 h).1]
  · rfl
theorem clearn {W : World} {cb i : Nat} {l : List Int} (h : Blk W cb (ints .u8 l) 102) {n : Int} (hi : l[i]? = some n) (h0 : 0 ≤ n) (h3 : n ≤ 3) (t : Bool) :
    Calls Tryd.prog 63 #[.pointer (some ⟨cb, i, none⟩), .bool t] W fun e w => e = .returned (.tuple #[]) ∧ Post (blk cb (ints .u8 l) 102) W (blk cb (ints .u8 (l.set i (bump n t))) 102) w := by
  have H := St.begin (A := blk cb (ints .u8 l) 102) h
  have hg := ints_ok (κ := .u8) hi
  have hs : i < (ints .u8 l).size := by rw [ints_size]; exact (List.getElem?_eq_some_iff.1 hi).1
  have same : bump n t = n → (Ending.returned (.tuple #[]) = .returned (.tuple #[]) ∧ Post (blk cb (ints .u8 l) 102) W (blk cb (ints .u8 (l.set i (bump n t))) 102) W) := fun e => by
    rw [e, set_self hi]; exact ⟨rfl, H.post 0 rfl⟩
  have up : ∀ z : Int, z = bump n t → ∀ w', St W (blk cb (ints .u8 l) 102).own w' [blk cb ((ints .u8 l).setIfInBounds i (.int .u8 z)) 102] → (Ending.returned (.tuple #[]) = .returned (.tuple #[]) ∧ Post (blk cb (ints .u8 l) 102) W (blk cb (ints .u8 (l.set i (bump n t))) 102) w') := by
    rintro z rfl w' H
    rw [ints_set] at H
    exact ⟨rfl, H.post 0 rfl⟩
  refine vc63 cb i t (split_of (fun q => ?_) (fun q => ?_))
  · subst q
    refine ⟨n, H.ld 0 rfl hg, split_of (fun q2 => ⟨n, H.ld 0 rfl hg, ?_⟩) (fun q2 => split_of (fun q3 => by cases q3) (fun _ => same (by unfold bump; rw [q2]; rfl)))⟩
    rintro z rfl
    refine H.st 0 rfl hs (up _ ?_)
    rw [w8]; unfold bump; rw [q2]
    show (n + 1) % 256 = n + 1
    omega
  · subst q
    refine split_of (fun _ => ⟨n, H.ld 0 rfl hg, split_of (fun q2 => ⟨n, H.ld 0 rfl hg, ?_⟩) (fun q2 => same (by unfold bump; rw [q2]; rfl))⟩) (fun q3 => by cases q3)
    rintro z rfl
    refine H.st 0 rfl hs (up _ ?_)
    rw [w8]; unfold bump; rw [q2]
    have := of_decide_eq_true q2
    show (n - 1) % 256 = n - 1
    omega
theorem tlearn {W : World} {cb b c pc : Nat} (hb : b ≤ 62) (hp : pc < 4294967296) {l : List Int} (hl : l.length = 2 ^ b) (h3 : ∀ x ∈ l, 0 ≤ x ∧ x ≤ 3) (h : Blk W cb (ints .u8 l) 102) (hi : Int) (t : Bool) :
    Calls Tryd.prog 60 #[.slice (some ⟨cb, 0, none⟩) (2 ^ b) c, .int .u32 pc, .int .i64 hi, .bool t] W fun e w => e = .returned (.tuple #[]) ∧ Post (blk cb (ints .u8 l) 102) W (blk cb (ints .u8 (l.set (pc / 4 % 2 ^ b) (bump (l.getD (pc / 4 % 2 ^ b) 0) t))) 102) w := by
  have hlt : pc / 4 % 2 ^ b < l.length := by rw [hl]; exact Nat.mod_lt _ (Nat.two_pow_pos b)
  have hx := h3 _ (List.mem_of_getElem? (getD_at hlt))
  refine vc60 _ _ _ _ _ _ ((St.nil W).callp (tat_any W cb b c pc hb hp) ⟨_, rfl, ?_⟩)
  refine (clearn h (getD_at hlt) hx.1 hx.2 t).mono ?_
  rintro e w ⟨rfl, hP⟩
  exact ⟨rfl, rfl, hP⟩
/-- where a branch's counter is -/
def ixOf (mix : Bool) (b pc h : Nat) : Nat := (if mix then (pc ^^^ (h * 4 % 4294967296)) else pc) / 4 % 2 ^ b
theorem mix_pc {pc h : Nat} (hp : pc < 4294967296) (hh : h < 4294967296) : IntKind.wrap .u32 ((BitVec.ofInt (IntKind.bits .u32) (pc : Int) ^^^ BitVec.ofInt (IntKind.bits .u32) (IntKind.wrap .u32 (IntKind.wrap .u32 (h : Int) * 2 ^ min 2 (IntKind.bits .u32)))).toNat : Int) = ((pc ^^^ (h * 4 % 4294967296) : Nat) : Int) := by
  have e : IntKind.wrap .u32 (IntKind.wrap .u32 (h : Int) * 2 ^ min 2 (IntKind.bits .u32)) = ((h * 4 % 4294967296 : Nat) : Int) := by
    rw [Bits.n32 hh]
    exact Bits.m32 (h * 4)
  rw [e]
  exact Bits.lxor32 hp (Nat.mod_lt _ (by decide))
theorem xor_lt {pc h : Nat} (hp : pc < 4294967296) : pc ^^^ (h * 4 % 4294967296) < 4294967296 := Nat.xor_lt_two_pow (n := 32) hp (Nat.mod_lt _ (by decide))
theorem mguess (W : World) (cb b c pc h : Nat) (hb : b ≤ 62) (hp : pc < 4294967296) (hh : h < 4294967296) (l : List Int) (hl : l.length = 2 ^ b) (hB : Blk W cb (ints .u8 l) 102) (cs : Array Value) (hcs : cs.size = 5) :
    Calls Tryd.prog 64 #[.agg #[.slice (some ⟨cb, 0, none⟩) (2 ^ b) c], .int .u32 pc, .agg cs, .int .i64 h] W fun e w => e = .returned (.bool (decide (l.getD (ixOf true b pc h) 0 > 1))) ∧ Hush W w := by
  refine vc64 _ _ _ _ ((St.nil W).al fun k w2 H => H.al fun k2 w3 H => ?_)
  refine ⟨_, _, _, H.ld 0 rfl rfl, ?_⟩
  rintro z rfl
  refine ⟨by decide, ?_⟩
  rintro z2 rfl z3 rfl
  rw [mix_pc hp hh]
  refine ⟨cs, hcs, H.cells 1 rfl, H.callq (tguess _ cb b c _ hb (xor_lt hp) l hl (hB.keep H.touch (fun e => e)) _ _) fun w' H => ⟨_, rfl, rfl, H.touch⟩⟩
theorem mlearn {W : World} {cb b c pc h : Nat} (hb : b ≤ 62) (hp : pc < 4294967296) (hh : h < 4294967296) {l : List Int} (hl : l.length = 2 ^ b) (h3 : ∀ x ∈ l, 0 ≤ x ∧ x ≤ 3) (hB : Blk W cb (ints .u8 l) 102) (t : Bool) :
    Calls Tryd.prog 65 #[.agg #[.slice (some ⟨cb, 0, none⟩) (2 ^ b) c], .int .u32 pc, .int .i64 h, .bool t] W fun e w => e = .returned (.tuple #[]) ∧ Post (blk cb (ints .u8 l) 102) W (blk cb (ints .u8 (l.set (ixOf true b pc h) (bump (l.getD (ixOf true b pc h) 0) t))) 102) w := by
  refine vc65 _ _ _ _ ((St.begin (A := blk cb (ints .u8 l) 102) hB).al fun k w2 H => ?_)
  refine ⟨_, _, _, H.ld 1 rfl rfl, ?_⟩
  rintro z rfl
  refine ⟨by decide, ?_⟩
  rintro z2 rfl z3 rfl
  rw [mix_pc hp hh]
  exact H.call 0 rfl (tlearn hb (xor_lt hp) hl h3 (H.blk 0 rfl) _ t) fun w' H => ⟨rfl, rfl, H.post 0 rfl⟩
theorem fguess (W : World) (b : Bool) (pc : Int) (cs : Array Value) (imm : Int) (hcs : cs[4]? = some (.int .i64 imm)) (hi : Int) : Calls Tryd.prog 66 #[.agg #[.bool b], .int .u32 pc, .agg cs, .int .i64 hi] W fun e w => e = .returned (.bool (b && decide (imm < 0))) ∧ Hush W w := by
  refine vc66 _ pc cs hi ((St.nil W).al fun k w2 H => H.al fun k2 w3 H => ?_)
  refine ⟨b, H.ld 0 rfl rfl, split_of (fun q => ?_) (fun q => ?_)⟩
  · subst q
    exact ⟨imm, H.ld 1 rfl hcs, rfl, H.touch⟩
  · subst q
    exact ⟨rfl, H.touch⟩
theorem flearn (W : World) (b : Bool) (pc hi : Int) (t : Bool) : Calls Tryd.prog 67 #[.agg #[.bool b], .int .u32 pc, .int .i64 hi, .bool t] W fun e w => e = .returned (.tuple #[]) ∧ Hush W w :=
  vc67 _ _ _ _ ((St.nil W).al fun k w2 H => ⟨rfl, H.touch⟩)
/-! ### a direction -/
inductive Dir where
  | fixed (b : Bool)
  | tab (mix : Bool) (cb b : Nat) (l : List Int)
def Dir.val : Dir → Value
  | .fixed b => .iface 79 (.agg #[.bool b])
  | .tab false cb b l => .iface 74 (.slice (some ⟨cb, 0, none⟩) (2 ^ b) (2 ^ b))
  | .tab true cb b l => .iface 77 (.agg #[.slice (some ⟨cb, 0, none⟩) (2 ^ b) (2 ^ b)])
def dirA : Dir → Asn
  | .fixed _ => emp
  | .tab _ cb _ l => blk cb (ints .u8 l) 102
def Dir.ok : Dir → Prop
  | .fixed _ => True
  | .tab _ _ b l => b ≤ 62 ∧ l.length = 2 ^ b ∧ ∀ x ∈ l, 0 ≤ x ∧ x ≤ 3
def Dir.guess (D : Dir) (pc h : Nat) (imm : Int) : Bool := match D with
  | .fixed b => b && decide (imm < 0)
  | .tab mix _ b l => decide (l.getD (ixOf mix b pc h) 0 > 1)
def Dir.learn (D : Dir) (pc h : Nat) (t : Bool) : Dir := match D with
  | .fixed b => .fixed b
  | .tab mix cb b l => .tab mix cb b (l.set (ixOf mix b pc h) (bump (l.getD (ixOf mix b pc h) 0) t))
theorem bump_ok {n : Int} {t : Bool} (h : 0 ≤ n ∧ n ≤ 3) : 0 ≤ bump n t ∧ bump n t ≤ 3 := by
  unfold bump
  cases t <;> simp <;> split <;> omega
theorem Dir.ok_learn {D : Dir} (h : D.ok) (pc h' : Nat) (t : Bool) : (D.learn pc h' t).ok := by
  cases D with
  | fixed b => trivial
  | tab mix cb b l =>
    obtain ⟨h1, h2, h3⟩ := h
    refine ⟨h1, by rw [List.length_set]; exact h2, fun x hx => ?_⟩
    rcases List.mem_or_eq_of_mem_set hx with e | e
    · exact h3 x e
    · subst e
      exact bump_ok (h3 _ (List.mem_of_getElem? (getD_at (by rw [h2]; exact Nat.mod_lt _ (Nat.two_pow_pos b)))))
theorem Dir.val_learn (D : Dir) (pc h : Nat) (t : Bool) : (D.learn pc h t).val = D.val := by
  cases D with
  | fixed b => rfl
  | tab mix cb b l => cases mix <;> rfl
theorem dguess {W : World} {D : Dir} (ho : D.ok) (hD : (dirA D).at_ W) (pc h : Nat) (hp : pc < 4294967296) (hh : h < 4294967296) (cs : Array Value) (hs : cs.size = 5) (imm : Int) (hcs : cs[4]? = some (.int .i64 imm)) :
    ∃ f all, Sx.meth Tryd.prog D.val "oocore/predict.guess" #[.int .u32 pc, .agg cs, .int .i64 h] W f all ∧ Calls Tryd.prog f all W fun e w => e = .returned (.bool (D.guess pc h imm)) ∧ Hush W w := by
  cases D with
  | fixed b => exact ⟨66, #[.agg #[.bool b], .int .u32 pc, .agg cs, .int .i64 h], by show Eq _ _; kernel_rfl, fguess W b pc cs imm hcs h⟩
  | tab mix cb b l =>
    obtain ⟨h1, h2, h3⟩ := ho
    cases mix with
    | false => exact ⟨59, #[.slice (some ⟨cb, 0, none⟩) (2 ^ b) (2 ^ b), .int .u32 pc, .agg cs, .int .i64 h], by show Eq _ _; kernel_rfl, tguess W cb b _ pc h1 hp l h2 hD cs h⟩
    | true => exact ⟨64, #[.agg #[.slice (some ⟨cb, 0, none⟩) (2 ^ b) (2 ^ b)], .int .u32 pc, .agg cs, .int .i64 h], by show Eq _ _; kernel_rfl, mguess W cb b _ pc h h1 hp hh l h2 hD cs hs⟩
theorem dlearn {W : World} {D : Dir} (ho : D.ok) (hD : (dirA D).at_ W) (pc h : Nat) (hp : pc < 4294967296) (hh : h < 4294967296) (t : Bool) :
    ∃ f all, Sx.meth Tryd.prog D.val "oocore/predict.learn" #[.int .u32 pc, .int .i64 h, .bool t] W f all ∧ Calls Tryd.prog f all W fun e w => e = .returned (.tuple #[]) ∧ Post (dirA D) W (dirA (D.learn pc h t)) w := by
  cases D with
  | fixed b => exact ⟨67, #[.agg #[.bool b], .int .u32 pc, .int .i64 h, .bool t], by show Eq _ _; kernel_rfl, (flearn W b pc h t).mono fun e w h => ⟨h.1, trivial, h.2, fun _ e => e.elim⟩⟩
  | tab mix cb b l =>
    obtain ⟨h1, h2, h3⟩ := ho
    cases mix with
    | false => exact ⟨60, #[.slice (some ⟨cb, 0, none⟩) (2 ^ b) (2 ^ b), .int .u32 pc, .int .i64 h, .bool t], by show Eq _ _; kernel_rfl, tlearn h1 hp h2 h3 hD h t⟩
    | true => exact ⟨65, #[.agg #[.slice (some ⟨cb, 0, none⟩) (2 ^ b) (2 ^ b)], .int .u32 pc, .int .i64 h, .bool t], by show Eq _ _; kernel_rfl, mlearn h1 hp hh h2 h3 hD t⟩
end Go.Proofs.YtgcakilmmeopaaaDoor
