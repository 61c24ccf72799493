/- The law's helpers: pick, bytes. No condition. -/
import Derived.Test.YtbiogceijdcoiaaCohD
import Derived.Test.YtbiogceijdcoiaaCohLVc
namespace Go.Proofs.Ytbiogceijdcoiaa
open Go.RowKit Go.XHeap Go.Sx Go.Sep
set_option linter.unusedVariables false
set_option maxRecDepth 100000
variable {W w : World} {b m : Nat} {S S' : PB} {L : List Asn}
theorem sl_setsN {e : TypeId} {size g off n c o : Nat} {xs vs : List Value} (hs : Sl w e size (.slice (some ⟨g, off, none⟩) n c) n xs) (hl : o + vs.length ≤ n * size) :
    (∀ j : Nat, j < vs.length → (∃ v, w.cell? ⟨g, off + o + j, none⟩ = some v) ∧ w.frozen? ⟨g, off + o + j, none⟩ = false) ∧
    Sep.Post (sl e size (.slice (some ⟨g, off, none⟩) n c) n xs) w (sl e size (.slice (some ⟨g, off, none⟩) n c) n (xs.take o ++ vs ++ xs.drop (o + vs.length))) (w.setCells g (off + o) vs) := by
  obtain ⟨hl0, h⟩ := hs
  rcases h with ⟨h, -⟩ | ⟨g', off', cap, cur, hv, hb, h1, h2, h3, h4⟩
  · cases h
  · simp only [Value.slice.injEq, Option.some.injEq, Addr.mk.injEq, and_true, true_and] at hv
    obtain ⟨⟨rfl, rfl⟩, rfl⟩ := hv
    have hnc : n * size ≤ c * size := Nat.mul_le_mul_right _ h1
    have hsz : (off + o) + vs.length ≤ cur.size := by omega
    refine ⟨fun j hj => ⟨⟨_, hb.cell' (i := off + o + j) (Array.getElem?_eq_getElem (by omega))⟩, hb.frozen _⟩, ⟨by simp; omega, .inr ⟨g, off, c, splice cur (off + o) vs, rfl, blk_setCells vs w cur _ hb hsz, h1, h2, by rw [splice_size _ _ _ hsz]; exact h3, ?_⟩⟩, (touch_setCells vs w _).mono (fun q _ e => by subst e; rfl), fun q e => .inl e⟩
    apply List.ext_getElem?
    intro i
    by_cases hi : i < n * size
    · rw [List.getElem?_take_of_lt hi, List.getElem?_drop, Array.getElem?_toList, splice_get _ _ _ hsz]
      have hx : xs[i]? = cur[off + i]? := by
        rw [← h4, List.getElem?_take_of_lt hi, List.getElem?_drop, Array.getElem?_toList]
      by_cases c1 : i < o
      · rw [if_neg (by omega), List.getElem?_append_left (by simp; omega), List.getElem?_append_left (by simp; omega), List.getElem?_take_of_lt c1, hx]
      · by_cases c2 : i < o + vs.length
        · rw [if_pos ⟨by omega, by omega⟩, List.getElem?_append_left (by simp; omega), List.getElem?_append_right (by simp; omega)]
          congr 1
          simp; omega
        · rw [if_neg (by omega), List.getElem?_append_right (by simp; omega), List.getElem?_drop, ← hx]
          congr 1
          simp; omega
    · rw [List.getElem?_eq_none (by simp; omega), List.getElem?_eq_none (by simp; omega)]
theorem bytes_any {p p2 : Option Addr} {c c2 : Nat} {l : List Nat} (h : here [memA p c l, memA p2 c2 l] W) (hlen : l.length ≤ 4096) :
    Calls Try.prog 13 #[.slice p l.length c, .slice p2 l.length c2] W fun e w => e = .returned (.bool true) ∧ XTouch (memA p c l).own W w := by
  have h1 : (memA p c l).at_ W := h.nth 0 rfl
  have hdis := Sep.St.disj h 1 0 (by decide) rfl rfl
  refine vc13 p l.length c p2 l.length c2 (split_of (fun q => by simp at q) (fun _ => ?_))
  refine ⟨fun x w => ∃ (j : Nat) (xs : List Value), x = j ∧ j ≤ l.length ∧ (∀ i, j ≤ i → xs[i]? = (u8n l)[i]?) ∧ St W (memA p c l).own w [sl 5 1 (.slice p l.length c) l.length xs], fun x _ => l.length - x.toNat, ⟨0, u8n l, rfl, Nat.zero_le _, fun _ _ => rfl, St.begin h1⟩, fun _ => ?_⟩
  rintro x w2 ⟨j, xs, rfl, hj, hxs, H⟩
  refine split_of (fun q => ?_) (fun q => ?_)
  · have q := of_decide_eq_true q
    have hjl : j < l.length := by omega
    have hr2 : (memA p2 c2 l).at_ w2 := (memA p2 c2 l).keep (h.nth 1 rfl) H.touch hdis
    obtain ⟨-, hm2⟩ := mem_at hr2
    obtain ⟨g2, o2, rfl, h4⟩ := hm2 (by omega)
    obtain ⟨-, g, o, rfl, hc⟩ := sl_cells (H.nth 0 rfl) (by omega)
    have hv : (u8n l)[j]? = some (.int .u8 (l.getD j 0 : Nat)) := by
      unfold u8n
      rw [List.getElem?_map, List.getElem?_eq_getElem hjl, List.getD_eq_getElem?_getD, List.getElem?_eq_getElem hjl]; rfl
    have hcj : ∀ {w : World}, Sl w 5 1 (.slice (some ⟨g, o, none⟩) l.length c) l.length xs → w.cell? ⟨g, o + ((j : Nat) : Int).toNat * 1, none⟩ = some (.int .u8 (l.getD j 0 : Nat)) := fun hs => by
      obtain ⟨-, g', o', e, hc⟩ := sl_cells hs (by omega)
      cases e
      rw [ix1]
      exact hc j _ ((hxs j (Nat.le_refl _)).trans hv)
    refine ⟨⟨by omega, q⟩, adr_some ⟨_, hcj (H.nth 0 rfl), ⟨by omega, q⟩, adr_some ⟨_, by rw [ix1]; exact (h4 j hjl).1, H.drN fun w3 H => split_of (fun e => by simp at e) (fun _ => ?_)⟩⟩⟩
    refine ⟨⟨by omega, q⟩, adr_some ⟨_, hcj (H.nth 0 rfl), ?_⟩⟩
    rintro z4 rfl
    have hs := sl_setsN (H.nth 0 rfl) (o := j) (vs := [.int .u8 (IntKind.wrap .u8 (((l.getD j 0 : Nat) : Int) + 101))]) (by simp; omega)
    have hs0 := hs.1 0 (by simp)
    refine ⟨⟨by omega, q⟩, adr_some ⟨by rw [ix1]; exact hs0.1, by rw [ix1]; exact hs0.2, ?_⟩⟩
    rintro w4 rfl z5 rfl
    rw [w64 (by omega) (by omega), ix1]
    have H := H.upd 0 rfl hs.2
    refine ⟨⟨j + 1, _, by omega, by omega, fun i hi => ?_, H⟩, by show l.length - ((j : Int) + 1).toNat < l.length - (j : Int).toNat; omega⟩
    have hxl : xs.length = l.length := by have := (show Sl w3 5 1 _ l.length xs from (by assumption : St W _ w3 _).nth 0 rfl).1; omega
    rw [List.getElem?_append_right (by simp; omega), List.getElem?_drop, ← hxs i (by omega)]
    congr 1
    simp; omega
  · have q := of_decide_eq_false q
    obtain rfl : j = l.length := by omega
    refine ⟨fun x p3 n3 c3 w => ∃ (i : Nat) (xs : List Value), x = i ∧ i ≤ 70 ∧ n3 = l.length + i ∧ St W (memA p c l).own w [sl 5 1 (.slice p3 (l.length + i) c3) (l.length + i) xs], fun x _ _ _ _ => 70 - x.toNat, ⟨0, _, rfl, by omega, rfl, H⟩, fun _ => ?_⟩
    clear H
    rintro x p3 n3 c3 w8 ⟨i, xs, rfl, hi, rfl, H⟩
    refine split_of (fun q => ?_) (fun q => ?_)
    · have q := of_decide_eq_true q
      refine H.al fun k26 w9 H => ?_
      refine H.app 0 (m := 1) (bytes := 1) rfl [.int .u8 238] (.inr ⟨_, rfl, fun j u hj => H.cells 1 rfl j u (by simpa using hj)⟩) rfl (by intro v hv; simp at hv; subst hv; rfl) (by have : maxLen = 2 ^ 63 - 1 := rfl; omega) (by omega) fun p' c' w10 H => ?_
      rintro z rfl
      rw [w64 (by omega) (by omega)]
      exact ⟨⟨i + 1, _, by omega, by omega, by omega, H.take 1⟩, by show 70 - ((i : Int) + 1).toNat < 70 - (i : Int).toNat; omega⟩
    · have q := of_decide_eq_false q
      obtain rfl : i = 70 := by omega
      rintro z rfl
      rw [w64 (by omega) (by omega)]
      refine ⟨?_, H.touch⟩
      simp
/-! ### pick -/
theorem pick_nat (c n : Int) (h0 : -9223372036854775808 ≤ c) (hn : 0 < n) : ∃ x : Nat, (x : Int) < n ∧ ∀ W : World, Calls Try.prog 4 #[.int .i64 c, .int .i64 n] W fun e w => e = .returned (.int .i64 (x : Nat)) ∧ w = W := by
  by_cases hc : c < 0
  · have hb : 0 ≤ Int.tmod (-(c + 1)) n ∧ Int.tmod (-(c + 1)) n < n := ⟨Int.tmod_nonneg _ (by omega), Int.tmod_lt_of_pos _ hn⟩
    refine ⟨(Int.tmod (-(c + 1)) n).toNat, by omega, fun W => vc4 c n (split_of (fun h => ?_) (fun h => absurd hc (of_decide_eq_false h)))⟩
    rintro z rfl
    refine ⟨by omega, ?_⟩
    rintro z2 rfl
    rw [w64 (e := c + 1) (by omega) (by omega), w64 (e := 0 - (c + 1)) (by omega) (by omega), Int.zero_sub, Int.toNat_of_nonneg hb.1]
    exact ⟨rfl, rfl⟩
  · have hb : 0 ≤ Int.tmod c n ∧ Int.tmod c n < n := ⟨Int.tmod_nonneg _ (by omega), Int.tmod_lt_of_pos _ hn⟩
    refine ⟨(Int.tmod c n).toNat, by omega, fun W => vc4 c n (split_of (fun h => absurd (of_decide_eq_true h) hc) (fun h => ?_))⟩
    refine ⟨by omega, ?_⟩
    rintro z2 rfl
    rw [Int.toNat_of_nonneg hb.1]
    exact ⟨rfl, rfl⟩
theorem or_low (v c : Nat) (hv : v < 16777216) (hc : c < 256) :
    IntKind.wrap .u32 (((BitVec.ofInt (IntKind.bits .u32) (IntKind.wrap .u32 ((v : Int) * 2 ^ min 8 (IntKind.bits .u32))) ||| BitVec.ofInt (IntKind.bits .u32) (IntKind.wrap .u32 (c : Int))).toNat : Nat) : Int) = (c : Int) + 256 * (v : Int) := by
  have e1 : ((v : Int) * 2 ^ min 8 (IntKind.bits .u32)) = ((v * 2 ^ 8 : Nat) : Int) := by simp [IntKind.bits]
  rw [e1, Bits.n32 (show v * 2 ^ 8 < 4294967296 by omega), Bits.n32 (show c < 4294967296 by omega), Bits.lor32 (by omega) (by omega)]
  have e3 : v * 2 ^ 8 ||| c = 2 ^ 8 * v + c := by rw [Nat.mul_comm v, ← Nat.two_pow_add_eq_or_of_lt (show c < 2 ^ 8 by omega)]
  rw [e3]
  omega
/-- so many bytes in a block, as a slice -/
theorem flat_mem {k : Nat} {F : List Nat} (h : Blk w k (u8n F).toArray 5) (hl : F.length = 256) : (memA (some ⟨k, 0, none⟩) 256 F).at_ w :=
  ⟨by simp [u8n_length], .inr ⟨k, 0, 256, _, by rw [hl], h, by omega, by have : maxLen = 2 ^ 63 - 1 := rfl; omega, by simp [u8n_length, hl], by
    simp only [List.drop_zero, Nat.mul_one]
    rw [List.take_of_length_le (by simp [u8n_length])]⟩⟩
end Go.Proofs.Ytbiogceijdcoiaa
