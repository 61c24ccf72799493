/- The document's cache, part B: Read, Write. No condition. -/
import Derived.Test.YtbiogceijdcoiaaDoorCacheR
namespace Go.Proofs.YtbiogceijdcoiaaDoor
open Go.RowKit Go.XHeap Go.Sx Go.Sep
set_option linter.unusedVariables false
set_option maxRecDepth 100000
variable {W w : World} {b : Nat} {R R' : RC} {L : List Asn}

def RC.hit (R : RC) (a : Nat) (size : Int) : Option Nat := if fitsAt a size then R.find a else none
/-- a line taken out, another behind the others -/
def RC.back (R : RC) (i : Nat) (x : RLine) (p : Option Addr) (c : Nat) : RC := { R with p := p, c := c, L := R.L.eraseIdx i ++ [x] }
def RC.lineAt (R : RC) (i : Nat) : RLine := R.L.getD i default
theorem lineAt_eq {i : Nat} {x : RLine} (h : R.L[i]? = some x) : R.lineAt i = x := by unfold RC.lineAt; rw [List.getD_eq_getElem?_getD, h]; rfl
theorem rhit_some {a i : Nat} {size : Int} (h : R.hit a size = some i) : fitsAt a size ∧ R.find a = some i ∧ R.L[i]? = some (R.lineAt i) ∧ (R.lineAt i).addr = a / 16 * 16 := by
  unfold RC.hit at h
  split at h
  · rename_i hf
    obtain ⟨x, hx, ha⟩ := rfind_some h
    rw [lineAt_eq hx]
    exact ⟨hf, h, hx, ha⟩
  · cases h
theorem back_ok {R : RC} (ho : R.Ok) {i : Nat} (hi : i < R.L.length) {x : RLine} (hx : x.Ok) (p : Option Addr) (c : Nat) : (R.back i x p c).Ok := by
  refine ⟨ho.s0, ho.s1, ho.n0, ho.n1, ?_, fun y hy => ?_⟩
  · show (R.L.eraseIdx i ++ [x]).length < 65536
    rw [List.length_append, List.length_eraseIdx_of_lt hi]
    have := ho.len
    simp; omega
  · rcases List.mem_append.1 hy with h | h
    · exact ho.line y (List.mem_of_mem_eraseIdx h)
    · rw [List.mem_singleton.1 h]; exact hx
theorem fitsAt_iff {a : Nat} {size : Int} (h : fitsAt a size) : ∃ s : Nat, (s = 1 ∨ s = 2 ∨ s = 4) ∧ size = s ∧ a % 16 + s ≤ 16 := by
  obtain ⟨h1, h2⟩ := h
  refine ⟨size.toNat, by omega, by omega, ?_⟩
  rcases h1 with rfl | rfl | rfl
  · show a % 16 + 1 ≤ 16; omega
  · have h2 : a % 2 = 0 := h2
    show a % 16 + 2 ≤ 16; omega
  · have h2 : a % 4 = 0 := h2
    show a % 16 + 4 ≤ 16; omega
theorem or_low {v c : Nat} (hv : v < 16777216) (hc : c < 256) : IntKind.wrap .u32 ((BitVec.ofInt (IntKind.bits .u32) (IntKind.wrap .u32 ((v : Int) * 2 ^ min 8 (IntKind.bits .u32))) ||| BitVec.ofInt (IntKind.bits .u32) (IntKind.wrap .u32 (c : Int))).toNat : Int) = ((c + 256 * v : Nat) : Int) := by
  rw [Bits.n32 (x := c) (by omega), show ((v : Int) * 2 ^ min 8 (IntKind.bits .u32)) = ((256 * v : Nat) : Int) by show (v : Int) * 256 = _; omega, Bits.n32 (x := 256 * v) (by omega), Bits.lor32 (by omega) (by omega)]
  congr 1
  have := Nat.two_pow_add_eq_or_of_lt (i := 8) (b := c) (by omega) v
  have e : (2 : Nat) ^ 8 = 256 := rfl
  rw [e] at this
  omega
/-- behind the other lines (the append's cells stand in the block k) -/
theorem back_news {x : RLine} (hx : x.cells.length = 18) : (x.cells.toArray.toList ++ []).length = 18 := by simpa using hx
def RLine.val (x : RLine) (a : Nat) (size : Int) : Nat := le ((x.bytes.drop (a % 16)).take size.toNat)
def RReadPost (W : World) (b : Nat) (R : RC) (a : Nat) (size : Int) (e : Ending) (w : World) : Prop :=
  match R.hit a size with
  | some i => e = .returned (.tuple #[.int .u32 ((R.lineAt i).val a size), .bool true]) ∧ ∃ z : Option Addr × Nat, Sep.Post (refcA b R) W (refcA b (R.back i (R.lineAt i) z.1 z.2)) w
  | none => e = .returned (.tuple #[.int .u32 0, .bool false]) ∧ Sep.Post (refcA b R) W (refcA b R) w
theorem rread_any {W : World} {b : Nat} {R : RC} (ho : R.Ok) (h : (refcA b R).at_ W) (a : Nat) (ha : a < 4294967296) (size : Int) :
    Calls Tryd.prog 31 #[.pointer (some ⟨b, 0, none⟩), .int .i64 a, .int .i64 size] W (RReadPost W b R a size) := by
  have hlen := ho.len
  refine vc31 b 0 a size ((rfind_any ho h a ha).mono ?_)
  rintro e w2 ⟨rfl, rfl⟩
  refine ⟨_, rfl, (aligned_any w2 a size).mono ?_⟩
  rintro e w3 ⟨rfl, rfl⟩
  refine ⟨_, rfl, fun x w => x = (R.hit a size).isNone ∧ w = w3, split_of (fun q => ⟨?_, rfl⟩) (fun q => ⟨?_, rfl⟩), fun _ => ?_⟩
  · have q := of_decide_eq_true q
    unfold RC.hit
    cases hf : R.find a with
    | none => split <;> rfl
    | some i => rw [hf] at q; exact absurd q (by show ¬ (i : Int) < 0; omega)
  · have q := of_decide_eq_false q
    unfold RC.hit
    cases hf : R.find a with
    | none => rw [hf] at q; exact absurd (show ixI none < 0 by decide) q
    | some i => by_cases hfit : fitsAt a size <;> simp [hfit]
  · rintro x w4 ⟨rfl, rfl⟩
    unfold RReadPost
    refine split_of (fun q => ?_) (fun q => ?_)
    · rw [Option.isNone_iff_eq_none.1 q]
      exact ⟨rfl, refc_same h (XTouch.refl _ _)⟩
    · cases hj : R.hit a size with
      | none => rw [hj] at q; cases q
      | some i =>
        obtain ⟨hf, hi, hx, hxa⟩ := rhit_some hj
        obtain ⟨s, hs, rfl, hlt⟩ := fitsAt_iff hf
        rw [hi]
        have hil := (List.getElem?_eq_some_iff.1 hx).1
        have hxo := ho.line _ (List.mem_of_getElem? hx)
        generalize hxx : R.lineAt i = x at hx hxa hxo
        have h18 : x.cells.length = 18 := lines18 ho.line x (List.mem_of_getElem? hx)
        have hs18 : x.cells.toArray.size = 18 := by simpa using h18
        have H := St.begin h
        refine H.callx 0 rfl (rout_any ho h hx) fun z w5 H => ⟨_, rfl, H.al fun k w6 H => H.sts0 1 rfl hs18 rfl (rline_one x) fun w7 H => H.dr fun w8 H => ?_⟩
        have H : St w4 (refcA b R).own w8 (RC.pieces b { R with p := z.1, c := z.2, L := R.L.eraseIdx i } ++ [blk k x.cells.toArray 104]) := H.open_
        have hel : (R.L.eraseIdx i).length + 1 = R.L.length := by rw [List.length_eraseIdx_of_lt hil]; omega
        refine ⟨_, _, _, H.ld 0 rfl rfl, _, hs18, H.cells 2 rfl, hs18, H.alb fun k5 w9 H _ b9 => ⟨b9, ?_⟩⟩
        refine H.app 1 rfl x.cells (.inr ⟨_, rfl, fun j u hj => H.cells 3 rfl j u (by simpa using hj)⟩) (by rw [h18]) (rline_one x) (by have : maxLen = 2 ^ 63 - 1 := rfl; show (R.L.eraseIdx i).length + 1 ≤ _; omega) (by show ((R.L.eraseIdx i).length + 1) * 32 ≤ _; omega) fun p2 c2 w10 H => H.st 0 rfl (by show 2 < 3; omega) fun w11 H => ?_
        have hP : Sep.Post (refcA b R) w4 (refcA b (R.back i x p2 c2)) w11 := by
          refine refc_shut (L := []) ?_
          have H := H.pick [0, 1]
          have e1 : (R.L.eraseIdx i).length + 1 = (R.L.eraseIdx i ++ [x]).length := by simp
          have e2 : (R.L.eraseIdx i).flatMap RLine.cells ++ x.cells = (R.L.eraseIdx i ++ [x]).flatMap RLine.cells := by simp
          have H : St w4 (refcA b R).own w11 [blk b #[.int .i64 R.S, .int .i64 R.N, .slice p2 ((R.L.eraseIdx i).length + 1) c2] 102, sl 104 18 (.slice p2 ((R.L.eraseIdx i).length + 1) c2) ((R.L.eraseIdx i).length + 1) ((R.L.eraseIdx i).flatMap RLine.cells ++ x.cells)] := H
          rw [e1, e2] at H
          exact H
        have hK : Blk w11 k x.cells.toArray 104 := H.nth 2 rfl
        clear H
        rintro z2 rfl
        rw [w64 (by omega) (by omega)]
        refine ⟨fun n v w => ∃ m r : Nat, m + r = s ∧ n = (m : Int) - 1 ∧ v = le ((x.bytes.drop (a % 16 + m)).take r) ∧ w = w11, fun n _ _ => (n + 1).toNat, ⟨s, 0, by omega, rfl, by simp [le], rfl⟩, fun _ => ?_⟩
        rintro n v w12 ⟨m, r, hmr, rfl, rfl, rfl⟩
        refine split_of (fun q => ?_) (fun q => ?_)
        · have q := of_decide_eq_true q
          obtain ⟨m, rfl⟩ : ∃ m', m = m' + 1 := ⟨m - 1, by omega⟩
          have hbl : a % 16 + m < x.bytes.length := by rw [hxo.len]; omega
          obtain ⟨c, hc⟩ : ∃ c, x.bytes[a % 16 + m]? = some c := ⟨_, List.getElem?_eq_getElem hbl⟩
          have hc2 := hxo.byte c (List.mem_of_getElem? hc)
          have hv : le ((x.bytes.drop (a % 16 + (m + 1))).take r) < 16777216 := by
            have h1 := le_lt (l := (x.bytes.drop (a % 16 + (m + 1))).take r) fun y hy => hxo.byte y (List.mem_of_mem_drop (List.mem_of_mem_take hy))
            have h2 : ((x.bytes.drop (a % 16 + (m + 1))).take r).length ≤ 3 := by
              rw [List.length_take]; omega
            exact Nat.lt_of_lt_of_le h1 (Nat.pow_le_pow_right (n := 256) (by decide) h2)
          refine ⟨by decide, ?_⟩
          rintro z3 rfl
          refine ⟨by decide, ?_⟩
          rintro z4 rfl z5 rfl
          have e4 : Int.tmod (a : Int) 16 = ((a % 16 : Nat) : Int) := rfl
          have e5 : ((a % 16 : Nat) : Int) + (((m + 1 : Nat) : Int) - 1) = ((a % 16 + m : Nat) : Int) := by omega
          rw [e4, e5, Bits.n64 (by omega)]
          refine ⟨⟨by omega, by omega⟩, c, ?_, ?_⟩
          · rw [Int.toNat_natCast]
            have := hK.cell' (i := 2 + (a % 16 + m)) (v := .int .u8 c) (by
              have : (RLine.cells x)[a % 16 + m + 2]? = some (.int .u8 c) := u8n_get hc
              rw [show 2 + (a % 16 + m) = a % 16 + m + 2 by omega]
              simpa using this)
            rw [show 0 + 2 + (a % 16 + m) * 1 = 2 + (a % 16 + m) by omega]
            exact this
          · rintro z7 rfl z8 rfl z9 rfl
            rw [or_low hv hc2, w64 (by omega) (by omega)]
            refine ⟨⟨m, r + 1, by omega, by omega, ?_, rfl⟩, by show (((m + 1 : Nat) : Int) - 1 - 1 + 1).toNat < (((m + 1 : Nat) : Int) - 1 + 1).toNat; omega⟩
            have e : x.bytes.drop (a % 16 + m) = c :: x.bytes.drop (a % 16 + (m + 1)) := by
              rw [List.drop_eq_getElem_cons hbl]
              congr 1
              rw [List.getElem?_eq_getElem hbl] at hc
              exact Option.some.inj hc
            rw [e, List.take_succ_cons, le]
        · have q := of_decide_eq_false q
          obtain rfl : m = 0 := by omega
          obtain rfl : r = s := by omega
          show _ = _ ∧ ∃ z : Option Addr × Nat, Sep.Post (refcA b R) w4 (refcA b (R.back i (R.lineAt i) z.1 z.2)) _
          rw [hxx]
          refine ⟨?_, (p2, c2), hP⟩
          unfold RLine.val
          rw [Int.toNat_natCast]
          rfl
/-! ### Write -/
def RC.hitW (R : RC) (a : Nat) (size : Int) : Option Nat := match R.hit a size with
  | some i => if (R.lineAt i).state < 2 then none else some i
  | none => none
def RLine.wr (x : RLine) (a : Nat) (size : Int) (d : Nat) : RLine := { x with state := 3, bytes := wrN x.bytes (a % 16) d size.toNat }
def RWritePost (W : World) (b : Nat) (R : RC) (a : Nat) (size : Int) (d : Nat) (e : Ending) (w : World) : Prop :=
  match R.hitW a size with
  | some i => e = .returned (.bool true) ∧ ∃ z : Option Addr × Nat, Sep.Post (refcA b R) W (refcA b (R.back i ((R.lineAt i).wr a size d) z.1 z.2)) w
  | none => e = .returned (.bool false) ∧ Sep.Post (refcA b R) W (refcA b R) w
theorem rcells_byte (x : RLine) (p v : Nat) : ({ x with bytes := x.bytes.set p v } : RLine).cells = x.cells.set (2 + p) (.int .u8 v) := by
  unfold RLine.cells
  rw [show 2 + p = p + 2 by omega]
  simp [u8n, List.map_set]
theorem wr_ok {x : RLine} (h : x.Ok) (a : Nat) (size : Int) (d : Nat) : (x.wr a size d).Ok := ⟨h.addr, by show 3 ≤ 3; decide, by show (wrN _ _ _ _).length = 16; rw [wrN_len]; exact h.len, wrN_byte h.byte _ _ _⟩
theorem rwrite_any {W : World} {b : Nat} {R : RC} (ho : R.Ok) (h : (refcA b R).at_ W) (a : Nat) (ha : a < 4294967296) (size : Int) (d : Nat) (hd : d < 4294967296) :
    Calls Tryd.prog 33 #[.pointer (some ⟨b, 0, none⟩), .int .i64 a, .int .i64 size, .int .u32 d] W (RWritePost W b R a size d) := by
  have hlen := ho.len
  have H0 := refc_open h
  refine vc33 b 0 a size d ((rfind_any ho h a ha).mono ?_)
  rintro e w2 ⟨rfl, rfl⟩
  refine ⟨_, rfl, (aligned_any w2 a size).mono ?_⟩
  rintro e w3 ⟨rfl, rfl⟩
  refine ⟨_, rfl, fun x w => x = (R.hitW a size).isNone ∧ w = w3, split_of (fun q => ⟨?_, rfl⟩) (fun q => split_of (fun q2 => ⟨?_, rfl⟩) (fun q2 => ?_)), fun _ => ?_⟩
  · have q := of_decide_eq_true q
    unfold RC.hitW RC.hit
    cases hf : R.find a with
    | none => by_cases hfit : fitsAt a size <;> simp [hfit]
    | some i => rw [hf] at q; exact absurd q (by show ¬ (i : Int) < 0; omega)
  · have q2 : ¬ fitsAt a size := by simpa using q2
    unfold RC.hitW RC.hit
    rw [if_neg q2]; rfl
  · have q := of_decide_eq_false q
    have q2 : fitsAt a size := by simpa using q2
    cases hf : R.find a with
    | none => rw [hf] at q; exact absurd (show ixI none < 0 by decide) q
    | some i =>
      obtain ⟨x, hx, -⟩ := rfind_some hf
      have hil := (List.getElem?_eq_some_iff.1 hx).1
      obtain ⟨g, o, hp, hc⟩ := rline_at ho.line (H0.nth 1 rfl) hx
      refine ⟨_, _, _, H0.ld 0 rfl rfl, ⟨by show (0 : Int) ≤ (i : Int); omega, by show (i : Int) < _; omega⟩, adr_eq hp ⟨x.state, ?_, ?_, rfl⟩⟩
      · show w3.cell? ⟨g, o + ((i : Nat) : Int).toNat * 18 + 1, none⟩ = _
        rw [Int.toNat_natCast]; exact cells_at (i := 1) hc rfl
      · unfold RC.hitW RC.hit
        rw [if_pos q2, hf]
        simp only
        rw [lineAt_eq hx]
        by_cases h2 : x.state < 2
        · rw [if_pos h2]; simp; omega
        · rw [if_neg h2]; simp; omega
  · rintro x w4 ⟨rfl, rfl⟩
    unfold RWritePost
    refine split_of (fun q => ?_) (fun q => ?_)
    · rw [Option.isNone_iff_eq_none.1 q]
      exact ⟨rfl, refc_same h (XTouch.refl _ _)⟩
    · cases hj : R.hitW a size with
      | none => rw [hj] at q; cases q
      | some i =>
        have hj2 : R.hit a size = some i := by
          unfold RC.hitW at hj
          split at hj
          · rename_i i2 h2
            split at hj
            · cases hj
            · cases hj; exact h2
          · cases hj
        obtain ⟨hf, hi, hx, hxa⟩ := rhit_some hj2
        obtain ⟨s, hs, rfl, hlt⟩ := fitsAt_iff hf
        rw [hi]
        have hil := (List.getElem?_eq_some_iff.1 hx).1
        have hxo := ho.line _ (List.mem_of_getElem? hx)
        generalize hxx : R.lineAt i = x at hx hxa hxo
        have h18 : x.cells.length = 18 := lines18 ho.line x (List.mem_of_getElem? hx)
        have hs18 : x.cells.toArray.size = 18 := by simpa using h18
        have H := St.begin h
        refine H.callx 0 rfl (rout_any ho h hx) fun z w5 H => ⟨_, rfl, H.al fun k w6 H => H.sts0 1 rfl hs18 rfl (rline_one x) fun w7 H => H.st 1 rfl (by rw [hs18]; decide) fun w8 H => ?_⟩
        have hY : ∀ m, (RLine.mk x.addr 3 (wrN x.bytes (a % 16) d m)).cells.length = 18 := fun m => by simp [RLine.cells, u8n, wrN_len, hxo.len]
        refine ⟨fun n w => ∃ m : Nat, n = m ∧ m ≤ s ∧ St w4 (refcA b R).own w [refcA b { R with p := z.1, c := z.2, L := R.L.eraseIdx i }, blk k (RLine.mk x.addr 3 (wrN x.bytes (a % 16) d m)).cells.toArray 104], fun n _ => s - n.toNat, ⟨0, rfl, by omega, H⟩, fun _ => ?_⟩
        clear H
        rintro n w9 ⟨m, rfl, hm, H⟩
        refine split_of (fun q => ?_) (fun q => ?_)
        · have q := of_decide_eq_true q
          refine ⟨by decide, ?_⟩
          rintro z3 rfl z4 rfl
          have e4 : Int.tmod (a : Int) 16 = ((a % 16 : Nat) : Int) := rfl
          have e5 : ((a % 16 : Nat) : Int) + (m : Int) = ((a % 16 + m : Nat) : Int) := by omega
          rw [e4, e5, Bits.n64 (by omega), show (8 * (m : Int)) = ((8 * m : Nat) : Int) by omega, Bits.n64 (by omega)]
          rintro z5 rfl
          refine ⟨by omega, ?_⟩
          rintro z6 rfl z7 rfl
          rw [Int.toNat_natCast (8 * m), Nat.min_eq_left (by show 8 * m ≤ 32; omega), Bits.shr, Bits.m8, Int.toNat_natCast, show 0 + 2 + (a % 16 + m) * 1 = 2 + (a % 16 + m) by omega]
          refine ⟨⟨by omega, by omega⟩, H.st 1 rfl (by have := hY m; simp [this]; omega) fun w10 H => ?_⟩
          rintro z8 rfl
          rw [w64 (by omega) (by omega)]
          refine ⟨⟨m + 1, by omega, by omega, ?_⟩, by show s - ((m : Int) + 1).toNat < s - (m : Int).toNat; omega⟩
          have e := rcells_byte (RLine.mk x.addr 3 (wrN x.bytes (a % 16) d m)) (a % 16 + m) (d / 2 ^ (8 * m) % 256)
          have e2 : (RLine.mk x.addr 3 (wrN x.bytes (a % 16) d (m + 1))).cells.toArray = (RLine.mk x.addr 3 (wrN x.bytes (a % 16) d m)).cells.toArray.setIfInBounds (2 + (a % 16 + m)) (.int .u8 ((d / 2 ^ (8 * m) % 256 : Nat) : Int)) := by
            rw [List.setIfInBounds_toArray]
            exact congrArg List.toArray e
          rw [e2]
          exact H
        · have q := of_decide_eq_false q
          obtain rfl : m = s := by omega
          refine H.dr fun w10 H => ?_
          generalize hy : RLine.mk x.addr 3 (wrN x.bytes (a % 16) d m) = y at H
          have hyc : y.cells.length = 18 := by rw [← hy]; exact hY m
          have hys : y.cells.toArray.size = 18 := by simpa using hyc
          have hyw : x.wr a (m : Int) d = y := by rw [← hy]; unfold RLine.wr; rw [Int.toNat_natCast]
          have H : St w4 (refcA b R).own w10 (RC.pieces b { R with p := z.1, c := z.2, L := R.L.eraseIdx i } ++ [blk k y.cells.toArray 104]) := H.open_
          have hel : (R.L.eraseIdx i).length + 1 = R.L.length := by rw [List.length_eraseIdx_of_lt hil]; omega
          refine ⟨_, _, _, H.ld 0 rfl rfl, _, hys, H.cells 2 rfl, hys, H.alb fun k5 w11 H _ b11 => ⟨b11, ?_⟩⟩
          refine H.app 1 rfl y.cells (.inr ⟨_, rfl, fun j u hj => H.cells 3 rfl j u (by simpa using hj)⟩) (by rw [hyc]) (rline_one y) (by have : maxLen = 2 ^ 63 - 1 := rfl; show (R.L.eraseIdx i).length + 1 ≤ _; omega) (by show ((R.L.eraseIdx i).length + 1) * 32 ≤ _; omega) fun p2 c2 w12 H => H.st 0 rfl (by show 2 < 3; omega) fun w13 H => ⟨rfl, (p2, c2), ?_⟩
          rw [hxx, hyw]
          refine refc_shut (L := []) ?_
          have H := H.pick [0, 1]
          have e1 : (R.L.eraseIdx i).length + 1 = (R.L.eraseIdx i ++ [y]).length := by simp
          have e2 : (R.L.eraseIdx i).flatMap RLine.cells ++ y.cells = (R.L.eraseIdx i ++ [y]).flatMap RLine.cells := by simp
          have H : St w4 (refcA b R).own w13 [blk b #[.int .i64 R.S, .int .i64 R.N, .slice p2 ((R.L.eraseIdx i).length + 1) c2] 102, sl 104 18 (.slice p2 ((R.L.eraseIdx i).length + 1) c2) ((R.L.eraseIdx i).length + 1) ((R.L.eraseIdx i).flatMap RLine.cells ++ y.cells)] := H
          rw [e1, e2] at H
          exact H
end Go.Proofs.YtbiogceijdcoiaaDoor
