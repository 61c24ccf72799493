/- Bytes in memory: get, put, slices.Clone; NewRegisters, NewHart. No condition. -/
import Derived.Test.YtcpmgklhfpcaeaaGreatDoorArchE
namespace Go.Proofs.YtcpmgklhfpcaeaaGreatDoor
open Go.RowKit Go.XHeap Go.Sx Go.Sep
set_option linter.unusedVariables false
set_option maxRecDepth 100000

variable {W w : World} {g : HP} {S S' : HS} {L : List Asn} {B : Nat} {M : Nat → Prop} {W0 : World}
def u8n (l : List Nat) : List Value := l.map fun x => .int .u8 (x : Nat)
theorem u8n_length (l : List Nat) : (u8n l).length = l.length := by simp [u8n]
theorem u8n_get {l : List Nat} {i x : Nat} (h : l[i]? = some x) : (u8n l)[i]? = some (.int .u8 x) := by simp [u8n, h]
theorem u8n_one (l : List Nat) : ∀ v ∈ u8n l, v.oneCell' = true := by
  intro v hv
  simp only [u8n, List.mem_map] at hv
  obtain ⟨x, -, rfl⟩ := hv
  rfl
theorem u32s_one (l : List Int) : ∀ v ∈ u32s l, v.oneCell' = true := by
  intro v hv
  simp only [u32s, List.mem_map] at hv
  obtain ⟨x, -, rfl⟩ := hv
  rfl
def memA (p : Option Addr) (c : Nat) (l : List Nat) : Asn := sl 5 1 (.slice p l.length c) l.length (u8n l)
def le : List Nat → Nat
  | [] => 0
  | x :: l => x + 256 * le l
theorem le_lt : ∀ {l : List Nat}, (∀ x ∈ l, x < 256) → le l < 256 ^ l.length
  | [], _ => by simp [le]
  | x :: l, h => by
    have h1 := h x (by simp)
    have h2 := le_lt (fun y hy => h y (by simp [hy]) : ∀ y ∈ l, y < 256)
    simp only [le, List.length_cons, Nat.pow_succ]
    omega
theorem le_snoc : ∀ (l : List Nat) (x : Nat), le (l ++ [x]) = le l + 256 ^ l.length * x
  | [], x => by simp [le]
  | y :: l, x => by
    simp only [List.cons_append, le, le_snoc l x, List.length_cons, Nat.pow_succ, Nat.mul_add]
    rw [← Nat.mul_assoc, Nat.mul_comm 256 (256 ^ l.length)]
    omega
theorem or_high {v c x : Nat} (hx : x < 4) (hv : v < 256 ^ x) (hc : c < 256) : IntKind.wrap .u32 ((BitVec.ofInt (IntKind.bits .u32) (v : Int) ||| BitVec.ofInt (IntKind.bits .u32) (IntKind.wrap .u32 (IntKind.wrap .u32 (c : Int) * 2 ^ min (8 * x) (IntKind.bits .u32)))).toNat : Int) = ((v + 256 ^ x * c : Nat) : Int) := by
  have hp : 256 ^ x ≤ 256 ^ 3 := Nat.pow_le_pow_right (by decide) (by omega)
  have hp2 : 256 ^ x * c < 4294967296 := by
    have : 256 ^ x * c ≤ 256 ^ 3 * 255 := Nat.mul_le_mul hp (by omega)
    omega
  have e0 : (2 : Nat) ^ (8 * x) = 256 ^ x := by rw [Nat.pow_mul]
  have e1 : IntKind.wrap .u32 (IntKind.wrap .u32 (c : Int) * 2 ^ min (8 * x) (IntKind.bits .u32)) = ((256 ^ x * c : Nat) : Int) := by
    rw [Bits.n32 (x := c) (by omega), Nat.min_eq_left (by show 8 * x ≤ 32; omega)]
    rw [show ((c : Int) * 2 ^ (8 * x)) = ((256 ^ x * c : Nat) : Int) by rw [← e0]; simp [Int.mul_comm]]
    exact Bits.n32 hp2
  rw [e1, Bits.lor32 (by omega) hp2]
  congr 1
  have := Nat.two_pow_add_eq_or_of_lt (i := 8 * x) (b := v) (by rw [e0]; exact hv) c
  rw [e0] at this
  rw [Nat.or_comm, ← this, Nat.add_comm]
def byteN (d i : Nat) : Nat := d / 2 ^ (8 * i) % 256
def wrN (l : List Nat) (k d : Nat) : Nat → List Nat
  | 0 => l
  | n + 1 => (wrN l k d n).set (k + n) (byteN d n)
theorem wrN_len (l : List Nat) (k d : Nat) : ∀ n, (wrN l k d n).length = l.length
  | 0 => rfl
  | n + 1 => by rw [wrN, List.length_set]; exact wrN_len l k d n
theorem wrN_byte {l : List Nat} (h : ∀ x ∈ l, x < 256) (k d : Nat) : ∀ n, ∀ x ∈ wrN l k d n, x < 256
  | 0 => h
  | n + 1 => fun x hx => by
    rcases List.mem_or_eq_of_mem_set hx with e | rfl
    · exact wrN_byte h k d n x e
    · exact Nat.mod_lt _ (by decide)
/-- a slice of bytes in the world reads as l -/
def BytesAt (w : World) (p : Option Addr) (l : List Nat) : Prop := ∀ i x, l[i]? = some x → ∃ g off, p = some ⟨g, off, none⟩ ∧ g < w.heap.size ∧ w.cell? ⟨g, off + i, none⟩ = some (.int .u8 (x : Nat))
theorem clone_any {p : Option Addr} {l : List Nat} {c : Nat} (h : BytesAt W p l) (hs : p = none ∨ ∃ g off, p = some ⟨g, off, none⟩) (hl : l.length ≤ 4096) :
    Calls Tryz.prog 63 #[.slice p l.length c] W fun e w => ∃ z : Option Addr × Nat, e = .returned (.slice z.1 l.length z.2) ∧ Sep.Post emp W (memA z.1 z.2 l) w := by
  refine vc63 p l.length c (split_of (fun q => ?_) (fun q => ?_))
  · have q : p = none := by simpa using q
    have h0 : l = [] := by
      cases l with
      | nil => rfl
      | cons x r =>
        obtain ⟨g, off, e, -⟩ := h 0 x rfl
        rw [q] at e; cases e
    subst h0
    exact ⟨(none, 0), rfl, Sl.nil _ _ _, XTouch.refl _ _, fun q e => by cases e⟩
  · rcases hs with hs | ⟨g0, off0, hs⟩
    · rw [hs] at q; cases q
    refine (St.nil W).al fun k w2 H => ?_
    have H := H.conv 0 (A' := sl 5 1 (.slice (some ⟨k, 0, none⟩) 0 0) 0 []) rfl (fun hb => ⟨rfl, .inr ⟨k, 0, 0, #[], rfl, hb, Nat.le_refl _, Nat.zero_le _, Nat.zero_le _, rfl⟩⟩) (fun q e => by
      have e : some k = some q := e
      exact (Option.some.inj e).symm)
    refine H.app 0 (m := l.length) (bytes := 1) rfl (u8n l) ?_ (by rw [u8n_length, Nat.mul_one]) (u8n_one l) (by have : maxLen = 2 ^ 63 - 1 := rfl; omega) (by omega) fun p' c' w3 H => ⟨(p', c'), by rw [Nat.zero_add], ?_⟩
    · refine .inr ⟨⟨g0, off0, none⟩, hs, fun j u hj => ?_⟩
      unfold u8n at hj
      rw [List.getElem?_map, Option.map_eq_some_iff] at hj
      obtain ⟨x, hx, rfl⟩ := hj
      obtain ⟨g, off, e, hg, hc⟩ := h j x hx
      rw [hs] at e
      cases e
      rw [add_none]
      exact (H.touch.cell (p := ⟨g0, off0 + j, none⟩) hg (fun e => e)).trans hc
    · have e : memA p' c' l = sl 5 1 (.slice p' (0 + l.length) c') (0 + l.length) ([] ++ u8n l) := by unfold memA; rw [Nat.zero_add]; rfl
      show Sep.Post emp W (memA p' c' l) w3
      rw [e]
      exact H.new 0 rfl

theorem get_bytes {g off n c : Nat} {l : List Nat} (hn : n ≤ 4) (hb : ∀ x ∈ l, x < 256) (hl : l.length = n) (h : ∀ i x, l[i]? = some x → W.cell? ⟨g, off + i, none⟩ = some (.int .u8 (x : Nat))) :
    Calls Tryz.prog 64 #[.slice (some ⟨g, off, none⟩) n c] W fun e w => e = .returned (.int .u32 (le l : Nat)) ∧ w = W := by
  subst hl
  refine vc64 (some ⟨g, off, none⟩) l.length c ⟨fun x v w => ∃ m : Nat, x = m ∧ m ≤ l.length ∧ v = (le (l.take m) : Nat) ∧ w = W, fun x _ _ => l.length - x.toNat, ⟨0, rfl, by omega, by simp [le], rfl⟩, fun _ => ?_⟩
  rintro x v w3 ⟨m, rfl, hm, rfl, rfl⟩
  refine split_of (fun q => ?_) (fun q => ?_)
  · have q := of_decide_eq_true q
    obtain ⟨z, hz⟩ : ∃ z, l[m]? = some z := ⟨_, List.getElem?_eq_getElem (by omega)⟩
    have hz2 := hb z (List.mem_of_getElem? hz)
    refine ⟨⟨by omega, q⟩, adr_some ⟨z, ?_, ?_⟩⟩
    · rw [ix1]; exact h m z hz
    · rintro z2 rfl z3 rfl
      rw [show (8 * (m : Int)) = ((8 * m : Nat) : Int) by omega, Bits.n64 (by omega)]
      refine ⟨by omega, ?_⟩
      rintro z4 rfl z5 rfl
      rw [Int.toNat_natCast]
      have hv := le_lt (l := l.take m) (fun x hx => hb x (List.mem_of_mem_take hx))
      rw [List.length_take, Nat.min_eq_left hm] at hv
      rw [or_high (x := m) (by omega) hv hz2]
      rintro z6 rfl
      rw [w64 (by omega) (by omega)]
      refine ⟨⟨m + 1, by omega, by omega, ?_, rfl⟩, by show l.length - ((m : Int) + 1).toNat < l.length - (m : Int).toNat; omega⟩
      rw [List.take_add_one, hz]
      show _ = ((le (l.take m ++ [z]) : Nat) : Int)
      rw [le_snoc, List.length_take, Nat.min_eq_left hm]
  · have q := of_decide_eq_false q
    obtain rfl : m = l.length := by omega
    exact ⟨by rw [List.take_length], rfl⟩
theorem put_bytes {g off c c2 k n d : Nat} {l : List Nat} (hA : (memA (some ⟨g, off, none⟩) c l).at_ W) (hk : k + n ≤ l.length) (hn : n ≤ 4) (hd : d < 4294967296) :
    Calls Tryz.prog 66 #[.slice (some ⟨g, off + k, none⟩) n c2, .int .u32 (d : Nat)] W fun e w => e = .returned (.tuple #[]) ∧ Sep.Post (memA (some ⟨g, off, none⟩) c l) W (memA (some ⟨g, off, none⟩) c (wrN l k d n)) w := by
  refine vc66 (some ⟨g, off + k, none⟩) n c2 d ⟨fun x w => ∃ m : Nat, x = m ∧ m ≤ n ∧ Sep.Post (memA (some ⟨g, off, none⟩) c l) W (memA (some ⟨g, off, none⟩) c (wrN l k d m)) w, fun x _ => n - x.toNat, ⟨0, rfl, by omega, hA, XTouch.refl _ _, fun q h => .inl h⟩, fun _ => ?_⟩
  rintro x w3 ⟨m, rfl, hm, hP⟩
  refine split_of (fun q => ?_) (fun q => ?_)
  · have q := of_decide_eq_true q
    rintro z rfl
    rw [show (8 * (m : Int)) = ((8 * m : Nat) : Int) by omega, Bits.n64 (by omega)]
    refine ⟨by omega, ?_⟩
    rintro z2 rfl z3 rfl
    rw [Int.toNat_natCast (8 * m), Nat.min_eq_left (by show 8 * m ≤ 32; omega), Bits.shr, Bits.m8]
    refine ⟨⟨by omega, q⟩, adr_some ?_⟩
    rw [ix1, Nat.add_assoc]
    have hs : Sl w3 5 1 (.slice (some ⟨g, off, none⟩) (wrN l k d m).length c) (wrN l k d m).length (u8n (wrN l k d m)) := hP.1
    obtain ⟨ao, cap, hv, hl, -, -, -, hc⟩ := hs.open1
    cases hv
    obtain ⟨g', off', hpp, -, hc⟩ := hc (by rw [wrN_len]; omega)
    cases hpp
    have hc1 := hc (k + m) (by rw [wrN_len]; omega)
    refine ⟨⟨_, hc1.1.trans (List.getElem?_eq_getElem (by rw [u8n_length, wrN_len]; omega))⟩, hc1.2, ?_⟩
    rintro w4 rfl z4 rfl
    rw [w64 (by omega) (by omega)]
    refine ⟨⟨m + 1, by omega, by omega, ?_⟩, by show n - ((m : Int) + 1).toNat < n - (m : Int).toNat; omega⟩
    have hs2 := hs.set1 (k + m) (by rw [wrN_len]; omega) (.int .u8 ((d / 2 ^ (8 * m) % 256 : Nat) : Int))
    refine ⟨?_, hP.2.1.trans ((XTouch.refl (fun q => q = g) w3).setCell (p := ⟨g, off + (k + m), none⟩) (.inl rfl) _) (fun q _ e => ?_), fun q e => .inl ?_⟩
    · show Sl _ 5 1 (.slice (some ⟨g, off, none⟩) (wrN l k d (m + 1)).length c) (wrN l k d (m + 1)).length (u8n (wrN l k d (m + 1)))
      have e1 : wrN l k d (m + 1) = (wrN l k d m).set (k + m) (d / 2 ^ (8 * m) % 256) := rfl
      rw [e1, List.length_set]
      have e2 : u8n ((wrN l k d m).set (k + m) (d / 2 ^ (8 * m) % 256)) = (u8n (wrN l k d m)).set (k + m) (.int .u8 ((d / 2 ^ (8 * m) % 256 : Nat) : Int)) := by unfold u8n; rw [List.map_set]
      rw [e2]
      exact hs2
    · show (Value.slice (some ⟨g, off, none⟩) l.length c).ownBlock = some q
      rw [e]; rfl
    · exact e
  · have q := of_decide_eq_false q
    obtain rfl : m = n := by omega
    exact ⟨rfl, hP⟩
/-! ### NewRegisters, NewHart -/
theorem newregs_any (n : Int) (W : World) : Calls Tryz.prog 27 #[.int .i64 n] W fun e w => ∃ x : Nat × Nat, e = .returned (.pointer (some ⟨x.1, 0, none⟩)) ∧ Sep.Post emp W (regsA x.1 x.2 ⟨wr n, 0, fun _ => none⟩) w := by
  refine vc27 n ?_
  rintro z rfl
  refine (St.nil W).mkm .i64 fun k w2 H => ?_
  rintro vs rfl
  refine H.al fun k2 w3 H => ⟨(k2, k), rfl, ?_⟩
  have H := H.pick [1, 0]
  exact (St.shut (L' := []) H).new 0 rfl
def HS.new (code : List Int) (data number : Int) : HS := ⟨code, data, 0, List.replicate 32 0, false, ⟨wr number, 0, fun _ => none⟩⟩
/-- a slice of words in the world reads as l -/
def WordsAt (w : World) (p : Option Addr) (l : List Int) : Prop := ∀ i x, l[i]? = some x → ∃ g off, p = some ⟨g, off, none⟩ ∧ g < w.heap.size ∧ w.cell? ⟨g, off + i, none⟩ = some (.int .u32 x)
def NewHartIs (code : List Int) (data number : Int) (W : World) (e : Ending) (w : World) : Prop :=
  if imageOk code.length data = false then e = .returned (.tuple #[.pointer none, errV 1]) ∧ w = W
  else if number < 0 ∨ 2 ≤ number then e = .returned (.tuple #[.pointer none, errV 3]) ∧ w = W
  else ∃ g : HP, e = .returned (.tuple #[.pointer (some ⟨g.b, 0, none⟩), .nilIface]) ∧ Sep.Post emp W (hartA g (HS.new code data number)) w
theorem newHartIs_new {code : List Int} {data number : Int} {W w : World} {e : Ending} (h1 : imageOk code.length data = true) (h2 : ¬ (number < 0 ∨ 2 ≤ number))
    (h : ∃ g : HP, e = .returned (.tuple #[.pointer (some ⟨g.b, 0, none⟩), .nilIface]) ∧ Sep.Post emp W (hartA g (HS.new code data number)) w) : NewHartIs code data number W e w := by
  unfold NewHartIs
  rw [if_neg (by rw [h1]; decide), if_neg h2]
  exact h
theorem newhart_any {cp : Option Addr} {code : List Int} {cc : Nat} (hc : WordsAt W cp code) (data number : Int) : Calls Tryz.prog 5 #[.slice cp code.length cc, .int .i64 data, .int .i64 number] W (NewHartIs code data number W) := by
  refine vc5 cp code.length cc data number ((image_any cp code.length cc data W).mono ?_)
  rintro e w2 ⟨rfl, rfl⟩
  by_cases hi : imageOk code.length data = false
  · rw [hi]
    refine ⟨_, rfl, nil_false (split_of (fun _ => ?_) (fun q => by cases q))⟩
    unfold NewHartIs
    rw [if_pos hi]
    exact ⟨rfl, rfl⟩
  have hi : imageOk code.length data = true := by simpa using hi
  rw [hi]
  refine ⟨_, rfl, nil_true (split_of (fun q => by cases q) (fun _ => split_of (fun q => ?_) (fun q => split_of (fun q2 => ?_) (fun q2 => ?_))))⟩
  · have q := of_decide_eq_true q
    unfold NewHartIs
    rw [if_neg (by rw [hi]; decide), if_pos (.inl q)]
    exact ⟨rfl, rfl⟩
  · have q2 := of_decide_eq_true q2
    unfold NewHartIs
    rw [if_neg (by rw [hi]; decide), if_pos (.inr q2)]
    exact ⟨rfl, rfl⟩
  have q := of_decide_eq_false q
  have q2 := of_decide_eq_false q2
  have hi2 := of_decide_eq_true hi
  refine (St.nil w2).calln (newregs_any number w2) fun x w3 H => ⟨_, rfl, ?_⟩
  have H := H.add (A := sl 35 1 (.slice none 0 0) 0 []) ⟨Sl.nil _ _ _, XTouch.refl _ _, fun q e => by cases e⟩
  refine H.app 1 (m := code.length) (bytes := 4) rfl (u32s code) ?_ (by simp [u32s]) (u32s_one code) (by have : maxLen = 2 ^ 63 - 1 := rfl; omega) (by omega) fun p' c' w4 H => ?_
  · obtain ⟨x0, hx0⟩ : ∃ x0, code[0]? = some x0 := ⟨_, List.getElem?_eq_getElem (by omega)⟩
    obtain ⟨g0, off0, hp, -, -⟩ := hc 0 x0 hx0
    refine .inr ⟨⟨g0, off0, none⟩, hp, fun j u hj => ?_⟩
    unfold u32s at hj
    rw [List.getElem?_map, Option.map_eq_some_iff] at hj
    obtain ⟨y, hy, rfl⟩ := hj
    obtain ⟨g1, off1, e1, hg, hcell⟩ := hc j y hy
    rw [hp] at e1
    cases e1
    rw [add_none]
    exact (H.touch.cell (p := ⟨g0, off0 + j, none⟩) hg (fun e => e)).trans hcell
  rintro vs rfl
  refine H.al fun k5 w5 H => newHartIs_new hi (by omega) ⟨⟨k5, x.1, x.2, p', c'⟩, rfl, ?_⟩
  have H := H.pick [2, 0, 1]
  have e : sl 35 1 (.slice p' (0 + code.length) c') (0 + code.length) ([] ++ u32s code) = sl 35 1 (.slice p' code.length c') code.length (u32s code) := by rw [Nat.zero_add]; rfl
  have H2 : St w2 (fun _ => False) w5 ([blk k5 (rootC ⟨k5, x.1, x.2, p', c'⟩ (HS.new code data number)) 74, regsA x.1 x.2 ⟨wr number, 0, fun _ => none⟩, sl 35 1 (.slice p' code.length c') code.length (u32s code)] ++ []) := by
    rw [← e]
    have e2 : rootC ⟨k5, x.1, x.2, p', c'⟩ (HS.new code data number) = rootC ⟨k5, x.1, x.2, p', c'⟩ (HS.new code data number) := rfl
    refine H.conv 0 (A' := blk k5 (rootC ⟨k5, x.1, x.2, p', c'⟩ (HS.new code data number)) 74) rfl (fun h => ?_) (fun q h => h)
    have e3 : rootC ⟨k5, x.1, x.2, p', c'⟩ (HS.new code data number) = (Value.agg #[.pointer (some ⟨x.1, 0, none⟩), .slice p' (0 + code.length) c', .int .i64 data, .int .u32 0, .int .u32 0, .int .u32 0, .int .u32 0, .int .u32 0, .int .u32 0, .int .u32 0, .int .u32 0, .int .u32 0, .int .u32 0, .int .u32 0, .int .u32 0, .int .u32 0, .int .u32 0, .int .u32 0, .int .u32 0, .int .u32 0, .int .u32 0, .int .u32 0, .int .u32 0, .int .u32 0, .int .u32 0, .int .u32 0, .int .u32 0, .int .u32 0, .int .u32 0, .int .u32 0, .int .u32 0, .int .u32 0, .int .u32 0, .int .u32 0, .int .u32 0, .int .u32 0, .bool false]).cells := by
      rw [Nat.zero_add]; rfl
    rw [e3]
    exact h
  exact (St.shut H2).new 0 rfl
end Go.Proofs.YtcpmgklhfpcaeaaGreatDoor
