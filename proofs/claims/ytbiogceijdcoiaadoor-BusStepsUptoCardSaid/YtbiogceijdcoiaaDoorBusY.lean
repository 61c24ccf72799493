/- The law's helpers: told, snoops, bytes. No condition but the handle of the type 'error'. -/
import Derived.Test.YtbiogceijdcoiaaDoorBusX
import Derived.Test.YtbiogceijdcoiaaDoorBusLVc
import Derived.Test.YtbiogceijdcoiaaDoorTold
namespace Go.Proofs.YtbiogceijdcoiaaDoor
open Go.RowKit Go.XHeap Go.Sx Go.Sep
set_option linter.unusedVariables false
set_option maxRecDepth 100000
variable {W w : World} {b m : Nat} {P P' : RP} {S S' : PB} {L : List Asn}
/-- the handle of the type 'error' -/
def HErr (w : World) : Prop := w.cell? ⟨0, 0, none⟩ = some (.iface 150 (.agg #[.pointer (some ⟨1, 33, none⟩)]))
theorem ltold (W : World) (hE : HErr W) (n : Nat) : Calls Tryd.prog 7 #[errV n, .int .i64 n] W fun e w => e = .returned (.bool true) ∧ Hush W w := by
  by_cases h : n = 0
  · subst h
    refine vc7 _ _ ((told_nil W).mono ?_)
    rintro e w ⟨rfl, rfl⟩
    exact ⟨0, rfl, rfl, XTouch.refl _ _⟩
  · have e : errV n = errN n := by unfold errV; rw [if_neg h]
    rw [e]
    refine vc7 _ _ ((told_err n W hE).mono ?_)
    rintro e w ⟨rfl, hh⟩
    exact ⟨n, rfl, by simp, hh⟩
/-! ### elements of several cells, overwritten -/
theorem sl_setsN {e : TypeId} {size g off n c o : Nat} {xs vs : List Value} (hs : Sl w e size (.slice (some ⟨g, off, none⟩) n c) n xs) (hl : o + vs.length ≤ n * size) :
    (∀ j : Nat, j < vs.length → (∃ v, w.cell? ⟨g, off + o + j, none⟩ = some v) ∧ w.frozen? ⟨g, off + o + j, none⟩ = false) ∧
    Sep.Post (sl e size (.slice (some ⟨g, off, none⟩) n c) n xs) w (sl e size (.slice (some ⟨g, off, none⟩) n c) n (xs.take o ++ vs ++ xs.drop (o + vs.length))) (w.setCells g (off + o) vs) := by
  obtain ⟨hl0, h⟩ := hs
  rcases h with ⟨h, -⟩ | ⟨g', off', cap, cur, hv, hb, h1, h2, h3, h4⟩
  · cases h
  · simp only [Value.slice.injEq, Option.some.injEq, Addr.mk.injEq, and_true, true_and] at hv
    obtain ⟨⟨rfl, rfl⟩, rfl⟩ := hv
    have hnc : n * size ≤ c * size := Nat.mul_le_mul_right _ h1
    have hsz : (off + o) + vs.length ≤ cur.size := by omega
    refine ⟨fun j hj => ⟨⟨_, hb.cell' (i := off + o + j) (Array.getElem?_eq_getElem (by omega))⟩, hb.frozen _⟩, ⟨by simp; omega, .inr ⟨g, off, c, splice cur (off + o) vs, rfl, blk_setCells vs w cur _ hb hsz, h1, h2, by rw [splice_size _ _ _ hsz]; exact h3, ?_⟩⟩, (touch_setCells vs w _).mono (fun q _ e => by subst e; rfl), fun q e => .inl e⟩
    apply List.ext_getElem?
    intro i
    by_cases hi : i < n * size
    · rw [List.getElem?_take_of_lt hi, List.getElem?_drop, Array.getElem?_toList, splice_get _ _ _ hsz]
      have hx : xs[i]? = cur[off + i]? := by
        rw [← h4, List.getElem?_take_of_lt hi, List.getElem?_drop, Array.getElem?_toList]
      by_cases c1 : i < o
      · rw [if_neg (by omega), List.getElem?_append_left (by simp; omega), List.getElem?_append_left (by simp; omega), List.getElem?_take_of_lt c1, hx]
      · by_cases c2 : i < o + vs.length
        · rw [if_pos ⟨by omega, by omega⟩, List.getElem?_append_left (by simp; omega), List.getElem?_append_right (by simp; omega)]
          congr 1
          simp; omega
        · rw [if_neg (by omega), List.getElem?_append_right (by simp; omega), List.getElem?_drop, ← hx]
          congr 1
          simp; omega
    · rw [List.getElem?_eq_none (by simp; omega), List.getElem?_eq_none (by simp; omega)]
/-- the j-th of rows of n cells is another one -/
theorem rows_put {α : Type} {f : α → List Value} {n : Nat} {l : List α} (hf : ∀ x ∈ l, (f x).length = n) {j : Nat} {y : α} (hj : j < l.length) (hy : (f y).length = n) : (l.flatMap f).take (j * n) ++ f y ++ (l.flatMap f).drop (j * n + (f y).length) = (l.set j y).flatMap f := by
  have h := rows_splice hf j y hj hy
  have := congrArg Array.toList h
  simpa [splice, rows] using this
/-! ### snoops -/
theorem sn_len (x : Sn) : x.cells.length = 4 := rfl
theorem rsn_len (x : Sn) : x.rcells.length = 4 := rfl
theorem sn_junk_one (a b c d : Int) : ∀ v ∈ (#[.int .i64 a, .int .u32 b, .int .i64 c, .int .i64 d] : Array Value).toList, v.oneCell' = true := by
  intro v hv
  simp only [List.mem_cons, List.not_mem_nil, or_false] at hv
  rcases hv with rfl | rfl | rfl | rfl <;> rfl
/-- a list of snoops of which the first j are struck out -/
def struck (l : List Sn) (j : Nat) : List Value := (List.range j).flatMap (fun _ => [.int .i64 (-1), .int .u32 0, .int .i64 0, .int .i64 0]) ++ (l.drop j).flatMap Sn.cells
theorem struck_len (l : List Sn) {j : Nat} (h : j ≤ l.length) : (struck l j).length = l.length * 4 := by
  unfold struck
  rw [List.length_append, rows_len (n := 4) (fun x _ => rfl), rows_len (n := 4) (fun x _ => rfl)]
  simp; omega
theorem struck_zero (l : List Sn) : struck l 0 = l.flatMap Sn.cells := by simp [struck]
theorem struck_at {l : List Sn} {j q : Nat} {x : Sn} (hj : l[j]? = some x) (hq : q < 4) : (struck l j)[j * 4 + q]? = x.cells[q]? := by
  have hl : ((List.range j).flatMap (fun _ => ([.int .i64 (-1), .int .u32 0, .int .i64 0, .int .i64 0] : List Value))).length = j * 4 := by rw [rows_len (n := 4) (fun x _ => rfl)]; simp
  unfold struck
  rw [List.getElem?_append_right (by omega), hl, Nat.add_sub_cancel_left]
  have h := rows_getL (f := Sn.cells) (n := 4) (l := l.drop j) (fun x _ => rfl) 0 q x (by simpa using hj) hq
  simpa using h
theorem struck_step {l : List Sn} {j : Nat} (h : j < l.length) : (struck l j).take (j * 4) ++ [.int .i64 (-1), .int .u32 0, .int .i64 0, .int .i64 0] ++ (struck l j).drop (j * 4 + 4) = struck l (j + 1) := by
  have hl : ((List.range j).flatMap (fun _ => ([.int .i64 (-1), .int .u32 0, .int .i64 0, .int .i64 0] : List Value))).length = j * 4 := by rw [rows_len (n := 4) (fun x _ => rfl)]; simp
  unfold struck
  rw [List.take_left' hl, List.drop_append, hl, List.drop_eq_nil_of_le (by omega), List.range_succ, List.flatMap_append, List.drop_eq_getElem_cons h, List.flatMap_cons]
  have : j * 4 + 4 - j * 4 = 4 := by omega
  rw [this]
  simp [Sn.cells]
theorem snoops_any {p p2 : Option Addr} {c c2 : Nat} {l : List Sn} (h : here [outA p c l, routA p2 c2 l] W) (hlen : l.length ≤ 100) (haddr : ∀ x ∈ l, x.addr < 4294967296) :
    Calls Tryd.prog 10 #[.slice p l.length c, .slice p2 l.length c2] W fun e w => e = .returned (.bool true) ∧ XTouch (outA p c l).own W w := by
  have h1 : (outA p c l).at_ W := h.nth 0 rfl
  have hdis := Sep.St.disj h 1 0 (by decide) rfl rfl
  refine vc10 p l.length c p2 l.length c2 (split_of (fun q => by simp at q) (fun _ => ?_))
  refine ⟨fun x w => ∃ j : Nat, x = j ∧ j ≤ l.length ∧ St W (outA p c l).own w [sl 81 4 (.slice p l.length c) l.length (struck l j)], fun x _ => l.length - x.toNat, ⟨0, rfl, Nat.zero_le _, by rw [struck_zero]; exact St.begin h1⟩, fun _ => ?_⟩
  rintro x w2 ⟨j, rfl, hj, H⟩
  refine split_of (fun q => ?_) (fun q => ?_)
  · have q := of_decide_eq_true q
    have hjl : j < l.length := by omega
    obtain ⟨y, hy⟩ : ∃ y, l[j]? = some y := ⟨_, List.getElem?_eq_getElem hjl⟩
    have hya := haddr y (List.mem_of_getElem? hy)
    obtain ⟨-, g, o, rfl, hc⟩ := sl_cells (H.nth 0 rfl) (by omega)
    have hr2 : (routA p2 c2 l).at_ w2 := (routA p2 c2 l).keep (h.nth 1 rfl) H.touch hdis
    obtain ⟨-, g2, o2, rfl, hc2⟩ := sl_elem (n := 4) (f := Sn.rcells) hr2 (fun x _ => rfl) hy (by decide)
    have a0 : ∀ q v, q < 4 → y.cells[q]? = some v → w2.cell? ⟨g, o + ((j : Nat) : Int).toNat * 4 + q, none⟩ = some v := fun q v hq hv => by
      rw [Int.toNat_natCast, Nat.add_assoc]
      exact hc _ _ ((struck_at hy hq).trans hv)
    have b0 : ∀ q v, y.rcells[q]? = some v → w2.cell? ⟨g2, o2 + ((j : Nat) : Int).toNat * 4 + q, none⟩ = some v := fun q v hv => by
      rw [Int.toNat_natCast]
      exact cells_at hc2 (by simpa using hv)
    refine ⟨⟨by omega, q⟩, adr_some ⟨_, a0 0 _ (by decide) rfl, ⟨by omega, q⟩, adr_some ⟨_, b0 0 _ rfl, split_of (fun e => by simp at e) (fun _ => ?_)⟩⟩⟩
    refine ⟨⟨by omega, q⟩, adr_some ⟨_, a0 1 _ (by decide) rfl, ?_⟩⟩
    rintro z4 rfl
    rw [Bits.n64 (by omega)]
    refine ⟨⟨by omega, q⟩, adr_some ⟨_, b0 1 _ rfl, split_of (fun e => by simp at e) (fun _ => ?_)⟩⟩
    refine ⟨⟨by omega, q⟩, adr_some ⟨_, a0 2 _ (by decide) rfl, ⟨by omega, q⟩, adr_some ⟨_, b0 2 _ rfl, split_of (fun e => by simp at e) (fun _ => ?_)⟩⟩⟩
    refine ⟨⟨by omega, q⟩, adr_some ⟨_, a0 3 _ (by decide) rfl, ⟨by omega, q⟩, adr_some ⟨_, b0 3 _ rfl, H.drN fun w6 H => split_of (fun e => by simp at e) (fun _ => ?_)⟩⟩⟩
    rintro vs rfl
    have hs := sl_setsN (H.nth 0 rfl) (o := j * 4) (vs := [.int .i64 (-1), .int .u32 0, .int .i64 0, .int .i64 0]) (by simp; omega)
    refine ⟨⟨by omega, q⟩, adr_some ⟨rfl, fun i hi => by rw [Int.toNat_natCast]; exact hs.1 i hi, sn_junk_one _ _ _ _, ?_⟩⟩
    rintro w7 rfl z10 rfl
    rw [w64 (by omega) (by omega)]
    have H := H.upd 0 rfl hs.2
    refine ⟨⟨j + 1, by omega, by omega, ?_⟩, by show l.length - ((j : Int) + 1).toNat < l.length - (j : Int).toNat; omega⟩
    rw [Int.toNat_natCast]
    have H : St W (outA (some ⟨g, o, none⟩) c l).own (w6.setCells g (o + j * 4) [.int .i64 (-1), .int .u32 0, .int .i64 0, .int .i64 0]) [sl 81 4 (.slice (some ⟨g, o, none⟩) l.length c) l.length ((struck l j).take (j * 4) ++ [.int .i64 (-1), .int .u32 0, .int .i64 0, .int .i64 0] ++ (struck l j).drop (j * 4 + 4))] := H
    rw [struck_step hjl] at H
    exact H
  · have q := of_decide_eq_false q
    obtain rfl : j = l.length := by omega
    refine ⟨fun x p3 n3 c3 w => ∃ (i : Nat) (xs : List Value), x = i ∧ i ≤ 40 ∧ n3 = l.length + i ∧ St W (outA p c l).own w [sl 81 4 (.slice p3 (l.length + i) c3) (l.length + i) xs], fun x _ _ _ _ => 40 - x.toNat, ⟨0, _, rfl, by omega, rfl, H⟩, fun _ => ?_⟩
    clear H
    rintro x p3 n3 c3 w8 ⟨i, xs, rfl, hi, rfl, H⟩
    refine split_of (fun q => ?_) (fun q => ?_)
    · have q := of_decide_eq_true q
      rintro vs2 rfl
      refine ⟨rfl, H.al fun k26 w9 H => ?_⟩
      refine H.app 0 (m := 1) (bytes := 32) rfl [.int .i64 (-2), .int .u32 0, .int .i64 0, .int .i64 0] (.inr ⟨_, rfl, fun j u hj => H.cells 1 rfl j u (by simpa using hj)⟩) rfl (by intro v hv; exact sn_junk_one (-2) 0 0 0 v (by simpa using hv)) (by have : maxLen = 2 ^ 63 - 1 := rfl; omega) (by omega) fun p' c' w10 H => ?_
      rintro z rfl
      rw [w64 (by omega) (by omega)]
      exact ⟨⟨i + 1, _, by omega, by omega, by omega, H.take 1⟩, by show 40 - ((i : Int) + 1).toNat < 40 - (i : Int).toNat; omega⟩
    · have q := of_decide_eq_false q
      obtain rfl : i = 40 := by omega
      rintro z rfl
      rw [w64 (by omega) (by omega)]
      refine ⟨?_, H.touch⟩
      simp
/-! ### bytes -/
theorem bytes_any {p p2 : Option Addr} {c c2 : Nat} {l : List Nat} (h : here [memA p c l, memA p2 c2 l] W) (hlen : l.length ≤ 4096) :
    Calls Tryd.prog 21 #[.slice p l.length c, .slice p2 l.length c2] W fun e w => e = .returned (.bool true) ∧ XTouch (memA p c l).own W w := by
  have h1 : (memA p c l).at_ W := h.nth 0 rfl
  have hdis := Sep.St.disj h 1 0 (by decide) rfl rfl
  refine vc21 p l.length c p2 l.length c2 (split_of (fun q => by simp at q) (fun _ => ?_))
  refine ⟨fun x w => ∃ (j : Nat) (xs : List Value), x = j ∧ j ≤ l.length ∧ (∀ i, j ≤ i → xs[i]? = (u8n l)[i]?) ∧ St W (memA p c l).own w [sl 5 1 (.slice p l.length c) l.length xs], fun x _ => l.length - x.toNat, ⟨0, u8n l, rfl, Nat.zero_le _, fun _ _ => rfl, St.begin h1⟩, fun _ => ?_⟩
  rintro x w2 ⟨j, xs, rfl, hj, hxs, H⟩
  refine split_of (fun q => ?_) (fun q => ?_)
  · have q := of_decide_eq_true q
    have hjl : j < l.length := by omega
    have hr2 : (memA p2 c2 l).at_ w2 := (memA p2 c2 l).keep (h.nth 1 rfl) H.touch hdis
    obtain ⟨-, hm2⟩ := mem_at hr2
    obtain ⟨g2, o2, rfl, h4⟩ := hm2 (by omega)
    obtain ⟨-, g, o, rfl, hc⟩ := sl_cells (H.nth 0 rfl) (by omega)
    have hv : (u8n l)[j]? = some (.int .u8 (l.getD j 0 : Nat)) := by
      unfold u8n
      rw [List.getElem?_map, List.getElem?_eq_getElem hjl, List.getD_eq_getElem?_getD, List.getElem?_eq_getElem hjl]; rfl
    have hcj : ∀ {w : World}, Sl w 5 1 (.slice (some ⟨g, o, none⟩) l.length c) l.length xs → w.cell? ⟨g, o + ((j : Nat) : Int).toNat * 1, none⟩ = some (.int .u8 (l.getD j 0 : Nat)) := fun hs => by
      obtain ⟨-, g', o', e, hc⟩ := sl_cells hs (by omega)
      cases e
      rw [ix1]
      exact hc j _ ((hxs j (Nat.le_refl _)).trans hv)
    refine ⟨⟨by omega, q⟩, adr_some ⟨_, hcj (H.nth 0 rfl), ⟨by omega, q⟩, adr_some ⟨_, by rw [ix1]; exact (h4 j hjl).1, H.drN fun w3 H => split_of (fun e => by simp at e) (fun _ => ?_)⟩⟩⟩
    refine ⟨⟨by omega, q⟩, adr_some ⟨_, hcj (H.nth 0 rfl), ?_⟩⟩
    rintro z4 rfl
    have hs := sl_setsN (H.nth 0 rfl) (o := j) (vs := [.int .u8 (IntKind.wrap .u8 (((l.getD j 0 : Nat) : Int) + 101))]) (by simp; omega)
    have hs0 := hs.1 0 (by simp)
    refine ⟨⟨by omega, q⟩, adr_some ⟨by rw [ix1]; exact hs0.1, by rw [ix1]; exact hs0.2, ?_⟩⟩
    rintro w4 rfl z5 rfl
    rw [w64 (by omega) (by omega), ix1]
    have H := H.upd 0 rfl hs.2
    refine ⟨⟨j + 1, _, by omega, by omega, fun i hi => ?_, H⟩, by show l.length - ((j : Int) + 1).toNat < l.length - (j : Int).toNat; omega⟩
    have hxl : xs.length = l.length := by have := (show Sl w3 5 1 _ l.length xs from (by assumption : St W _ w3 _).nth 0 rfl).1; omega
    rw [List.getElem?_append_right (by simp; omega), List.getElem?_drop, ← hxs i (by omega)]
    congr 1
    simp; omega
  · have q := of_decide_eq_false q
    obtain rfl : j = l.length := by omega
    refine ⟨fun x p3 n3 c3 w => ∃ (i : Nat) (xs : List Value), x = i ∧ i ≤ 70 ∧ n3 = l.length + i ∧ St W (memA p c l).own w [sl 5 1 (.slice p3 (l.length + i) c3) (l.length + i) xs], fun x _ _ _ _ => 70 - x.toNat, ⟨0, _, rfl, by omega, rfl, H⟩, fun _ => ?_⟩
    clear H
    rintro x p3 n3 c3 w8 ⟨i, xs, rfl, hi, rfl, H⟩
    refine split_of (fun q => ?_) (fun q => ?_)
    · have q := of_decide_eq_true q
      refine H.al fun k26 w9 H => ?_
      refine H.app 0 (m := 1) (bytes := 1) rfl [.int .u8 238] (.inr ⟨_, rfl, fun j u hj => H.cells 1 rfl j u (by simpa using hj)⟩) rfl (by intro v hv; simp at hv; subst hv; rfl) (by have : maxLen = 2 ^ 63 - 1 := rfl; omega) (by omega) fun p' c' w10 H => ?_
      rintro z rfl
      rw [w64 (by omega) (by omega)]
      exact ⟨⟨i + 1, _, by omega, by omega, by omega, H.take 1⟩, by show 70 - ((i : Int) + 1).toNat < 70 - (i : Int).toNat; omega⟩
    · have q := of_decide_eq_false q
      obtain rfl : i = 70 := by omega
      rintro z rfl
      rw [w64 (by omega) (by omega)]
      refine ⟨?_, H.touch⟩
      simp
end Go.Proofs.YtbiogceijdcoiaaDoor
