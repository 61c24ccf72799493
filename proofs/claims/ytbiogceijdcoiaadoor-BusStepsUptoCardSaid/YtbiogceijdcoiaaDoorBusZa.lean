/- The law's 'made': two buses of one make. No condition but the handle of the type 'error', and bounds of lengths. -/
import Derived.Test.YtbiogceijdcoiaaDoorBusY
namespace Go.Proofs.YtbiogceijdcoiaaDoor
open Go.RowKit Go.XHeap Go.Sx Go.Sep
set_option linter.unusedVariables false
set_option maxRecDepth 100000
variable {W w : World} {b m : Nat} {P P' : RP} {S S' : PB} {L : List Asn}
theorem fresh_ok {l : List (Int × Int)} {cyc : Int} {data : List Nat} (h : S.Fresh l cyc data) (hg : ¬ cfgBad l cyc) (hd : ¬ (data.length % 16 ≠ 0 ∨ data.length > 4096)) (hb : ∀ x ∈ data, x < 256) : S.Ok 0 := by
  have hn1 : ¬ l.length < 1 := fun e => hg (.inl e)
  have hn2 : ¬ l.length > 2 := fun e => hg (.inr (.inl e))
  have hc1 : ¬ cyc < 0 := fun e => hg (.inr (.inr (.inl e)))
  have hc2 : ¬ cyc > 10 := fun e => hg (.inr (.inr (.inr (.inl e))))
  have hcy := h.cyc
  have hlen : S.len = data.length := by unfold PB.len; rw [h.mem]
  refine ⟨by rw [h.n]; omega, fun k hk => ?_, by rw [hlen]; omega, by rw [hlen]; omega, by rw [h.mem]; exact hb, by omega, fun k a w e => ?_, by rw [h.last, h.n]; omega, fun k e => ?_, by rw [h.left]; omega⟩
  · rw [h.n] at hk
    have hf := h.cs k l[k] (List.getElem?_eq_getElem hk)
    refine ⟨hf.ok, by rw [hf.clock]; omega, fun s hs y hy hv => ?_⟩
    rw [hf.sets] at hs
    have := List.eq_of_mem_replicate hs
    subst this
    have := List.eq_of_mem_replicate hy
    subst this
    exact absurd rfl hv
  · rw [h.asks] at e; cases e
  · rw [h.now] at e; cases e
/-- what a call of New gives -/
def Kind (l : List (Int × Int)) (cyc : Int) (data : List Nat) (en : Nat) (r : Option (Nat × BP × PB)) : Prop :=
  (en ≠ 0 ∧ ((cfgBad l cyc ∧ en = 2) ∨ (¬ cfgBad l cyc ∧ (data.length % 16 ≠ 0 ∨ data.length > 4096) ∧ en = 1)) ∧ r = none) ∨ (en = 0 ∧ ¬ cfgBad l cyc ∧ ¬ (data.length % 16 ≠ 0 ∨ data.length > 4096) ∧ ∃ b B S, r = some (b, B, S) ∧ S.Fresh l cyc data ∧ B.gs.length = S.Cs.length)
def X1 : Option (Nat × BP × PB) → List Asn
  | none => []
  | some (b, B, S) => [busA b B S]
def ptr1 : Option (Nat × BP × PB) → Option Addr
  | none => none
  | some (b, _, _) => some ⟨b, 0, none⟩
def X2 : Option (Nat × BP × PB) → Option (Nat × RP) → List Asn
  | some (b, B, S), some (b2, P) => [busA b B S, rbusA b2 P S]
  | _, _ => []
def ptr2 : Option (Nat × RP) → Option Addr
  | none => none
  | some (b, _) => some ⟨b, 0, none⟩
def Mate : Option (Nat × BP × PB) → Option (Nat × RP) → Prop
  | some (_, _, S), some (_, P) => P.Ok S
  | none, none => True
  | _, _ => False
def shapeL (x : Int × Int) : List Value := [.int .i64 x.1, .int .i64 x.2]
theorem ints_map {p : Option Addr} {xs ws : List Int} (h : IntsAt W p xs) : IntsAt W p ((xs.zip ws).map (·.1)) := by
  intro i x hx
  rw [List.getElem?_map, Option.map_eq_some_iff] at hx
  obtain ⟨y, hy, rfl⟩ := hx
  rw [List.getElem?_zip_eq_some] at hy
  exact h i y.1 hy.1
theorem ints_map2 {p : Option Addr} {xs ws : List Int} (h : IntsAt W p ws) : IntsAt W p ((xs.zip ws).map (·.2)) := by
  intro i x hx
  rw [List.getElem?_map, Option.map_eq_some_iff] at hx
  obtain ⟨y, hy, rfl⟩ := hx
  rw [List.getElem?_zip_eq_some] at hy
  exact h i y.2 hy.2
theorem made_any (hE : HErr W) (h1s : 1 ≤ W.heap.size) {p1 p2 dp : Option Addr} {xs ws : List Int} {c1 c2 dc : Nat} {cyc : Int} {data : List Nat} (h1 : IntsAt W p1 xs) (h2 : IntsAt W p2 ws) (hc1 : xs.length ≤ c1) (hc2 : ws.length ≤ c2) (hD : BytesAt W dp data) (hdp : dp = none ∨ ∃ g off, dp = some ⟨g, off, none⟩)
    (hb : ∀ x ∈ data, x < 256) (hx : xs.length ≤ 1048576) (hw : ws.length ≤ 1048576) (hd : data.length ≤ 1048576) :
    Calls Tryd.prog 4 #[.slice p1 xs.length c1, .slice p2 ws.length c2, .int .i64 cyc, .slice dp data.length dc] W fun e w => ∃ (r : Option (Nat × BP × PB)) (r2 : Option (Nat × RP)) (en : Nat), e = .returned (.tuple #[.pointer (ptr1 r), .pointer (ptr2 r2), .bool true]) ∧ Kind (xs.zip ws) cyc data en r ∧ Mate r r2 ∧ St W No w (X2 r r2) := by
  obtain ⟨l, hl⟩ : ∃ l, l = xs.zip ws := ⟨_, rfl⟩
  have hll : l.length = min xs.length ws.length := by rw [hl, List.length_zip]
  have H : St W No W [] := St.nil W
  refine vc4 p1 xs.length c1 p2 ws.length c2 cyc dp data.length dc ?_
  refine ⟨fun p n c w => n = l.length ∧ St W No w [sl 56 2 (.slice p n c) n (l.flatMap shapeL)], ?_, fun _ => ?_⟩
  · refine ⟨fun x p n c w => ∃ j : Nat, x = j ∧ n = j ∧ j ≤ l.length ∧ St W No w [sl 56 2 (.slice p j c) j ((l.take j).flatMap shapeL)], fun x _ _ _ _ => l.length - x.toNat, ⟨0, rfl, rfl, Nat.zero_le _, H.add (A := sl 56 2 (.slice none 0 0) 0 []) ⟨Sl.nil _ _ _, XTouch.refl _ _, fun q e => by cases e⟩⟩, fun _ => ?_⟩
    clear H
    rintro x p n c w2 ⟨j, rfl, rfl, hj, H⟩
    have fin : ¬ n < l.length → n = l.length ∧ St W No w2 [sl 56 2 (.slice p n c) n (l.flatMap shapeL)] := fun e => by
      obtain rfl : n = l.length := by omega
      rw [List.take_length] at H
      exact ⟨rfl, H⟩
    refine split_of (fun q => split_of (fun q2 => ?_) (fun q2 => fin (by have := of_decide_eq_false q2; omega))) (fun q => fin (by have := of_decide_eq_false q; omega))
    have q := of_decide_eq_true q
    have q2 := of_decide_eq_true q2
    have hnl : n < l.length := by omega
    obtain ⟨x, hxx⟩ : ∃ x, l[n]? = some x := ⟨_, List.getElem?_eq_getElem hnl⟩
    have hz := hxx
    rw [hl, List.getElem?_zip_eq_some] at hz
    refine H.dr fun w3 H => ?_
    obtain ⟨g1, o1, e1, hg1, hcl1⟩ := h1 n x.1 hz.1
    obtain ⟨g2, o2, e2, hg2, hcl2⟩ := h2 n x.2 hz.2
    refine ⟨⟨by omega, q⟩, adr_eq e1 ⟨⟨by omega, q2⟩, adr_eq e2 ⟨x.1, ?_, x.2, ?_, ?_⟩⟩⟩
    · rw [ix1]; exact (H.touch.cell (p := ⟨g1, o1 + n, none⟩) hg1 (fun e => e)).trans hcl1
    · rw [ix1]; exact (H.touch.cell (p := ⟨g2, o2 + n, none⟩) hg2 (fun e => e)).trans hcl2
    rintro vs rfl
    refine ⟨rfl, H.alb fun k7 w4 H _ hbl => ⟨hbl, ?_⟩⟩
    refine H.app 0 (m := 1) (bytes := 16) rfl (shapeL x) (.inr ⟨_, rfl, fun i u hi => H.cells 1 rfl i u (by simpa [shapeL] using hi)⟩) rfl (by intro u hu; simp only [shapeL, List.mem_cons, List.not_mem_nil, or_false] at hu; rcases hu with rfl | rfl <;> rfl) (by have : maxLen = 2 ^ 63 - 1 := rfl; omega) (by omega) fun p' c' w5 H => ?_
    rintro z rfl
    rw [w64 (by omega) (by omega)]
    refine ⟨⟨n + 1, by omega, rfl, by omega, ?_⟩, by show l.length - ((n : Int) + 1).toNat < l.length - (n : Int).toNat; omega⟩
    have e : (l.take (n + 1)).flatMap shapeL = (l.take n).flatMap shapeL ++ shapeL x := by rw [List.take_add_one, hxx, List.flatMap_append]; simp
    rw [e]
    exact H.take 1
  clear H
  rintro sp sn sc w6 ⟨rfl, H⟩
  rintro z rfl
  rw [show (data.length : Int) + 70 = ((data.length + 70 : Nat) : Int) by omega, Bits.n64 (by omega)]
  refine ⟨⟨by omega, by omega, by omega, by omega⟩, H.al fun ka w7 H => ?_⟩
  rw [Int.toNat_natCast, Nat.mul_one] at H
  have em : madeCells #[.int .u8 0] (data.length + 70) = (u8n (List.replicate (data.length + 70) 0)).toArray := by
    rw [ints_made]
    unfold ints u8n
    simp
  rw [em] at H
  have hD7 : BytesAt w7 dp data := hD.keep H.touch
  have u0 : (u8n data).length = data.length := u8n_length data
  have hsz0 : 0 + (u8n data).length ≤ (u8n (List.replicate (data.length + 70) 0)).toArray.size := by simp [u8n_length]
  refine ⟨u8n data, by rw [u0, Int.toNat_natCast]; show data.length = min data.length (data.length + 70) * 1; omega, u8n_one data, ?_, ?_⟩
  · by_cases h0 : data = []
    · left; rw [h0]; rfl
    · right
      rcases hdp with rfl | ⟨g0, off0, rfl⟩
      · obtain ⟨x, r, rfl⟩ := List.exists_cons_of_ne_nil h0
        obtain ⟨g, off, e, -⟩ := hD 0 x rfl; cases e
      · refine ⟨⟨_, rfl, fun i u hu => ?_⟩, _, _, rfl, fun j hj => ⟨⟨_, (H.blk 1 rfl).cell' (i := 0 + j) (Array.getElem?_eq_getElem (by simp [u8n_length] at hj ⊢; omega))⟩, (H.blk 1 rfl).frozen _⟩⟩
        unfold u8n at hu
        rw [List.getElem?_map, Option.map_eq_some_iff] at hu
        obtain ⟨x, hx, rfl⟩ := hu
        obtain ⟨g, off, e, hg, hc⟩ := hD7 i x hx
        cases e
        rw [add_none]
        exact hc
  rintro w8 rfl
  have H := H.wrs 1 rfl 0 (u8n data) hsz0
  have es : splice (u8n (List.replicate (data.length + 70) 0)).toArray 0 (u8n data) = (u8n (data ++ List.replicate 70 0)).toArray := by
    unfold splice u8n
    simp
  rw [es] at H
  have H : St W No (setRow (some ⟨ka, 0, none⟩) w7 (u8n data)) [sl 56 2 (.slice sp l.length sc) l.length (l.flatMap shapeL), blk ka (u8n (data ++ List.replicate 70 0)).toArray 5] := H
  generalize setRow (some ⟨ka, 0, none⟩) w7 (u8n data) = w8 at H
  refine ⟨fun v p w => ∃ (en : Nat) (r : Option (Nat × BP × PB)), v = errV en ∧ Kind l cyc data en r ∧ p = ptr1 r ∧ St W No w ([sl 56 2 (.slice sp l.length sc) l.length (l.flatMap shapeL), blk ka (u8n (data ++ List.replicate 70 0)).toArray 5] ++ X1 r), ⟨⟨by omega, by rw [Int.toNat_natCast]; omega⟩, ?_⟩, fun _ => ?_⟩
  · rw [Int.toNat_natCast, Int.toNat_natCast]
    have hS8 : ShapesAt w8 sp l := by
      intro i x hx
      obtain ⟨-, g, o, e, hc⟩ := sl_elem (n := 2) (f := shapeL) (H.nth 0 rfl) (fun _ _ => rfl) hx (by decide)
      refine ⟨g, o, e, ?_, hc⟩
      have := hc 0 _ rfl
      exact World.block_lt_of_cell? _ _ this
    have hD8 : BytesAt w8 (some ⟨ka, 0, none⟩) data := by
      intro i x hx
      have hi := (List.getElem?_eq_some_iff.1 hx).1
      have : w8.cell? ⟨ka, 0 + i, none⟩ = some (.int .u8 (x : Nat)) := by
        refine (H.blk 1 rfl).cell' ?_
        rw [Nat.zero_add, List.getElem?_toArray]
        unfold u8n
        rw [List.getElem?_map, List.getElem?_append_left hi, hx]; rfl
      exact ⟨ka, 0, rfl, World.block_lt_of_cell? _ _ this, this⟩
    refine (bnew_any (pc := sc) (dc := data.length + 70) hS8 hD8 (.inr ⟨_, _, rfl⟩)).mono ?_
    rintro e w9 (⟨hg, rfl, hh⟩ | ⟨hg, hdl, rfl, hh⟩ | ⟨hg, hdl, b, B, S, hF, hB, rfl, hp⟩)
    · refine ⟨_, _, rfl, 2, none, rfl, .inl ⟨by decide, .inl ⟨hg, rfl⟩, rfl⟩, rfl, ?_⟩
      exact H.quiet hh
    · refine ⟨_, _, rfl, 1, none, rfl, .inl ⟨by decide, .inr ⟨hg, hdl, rfl⟩, rfl⟩, rfl, ?_⟩
      exact H.quiet hh
    · exact ⟨_, _, rfl, 0, some (b, B, S), rfl, .inr ⟨rfl, hg, hdl, b, B, S, rfl, hF, hB⟩, rfl, H.add hp⟩
  clear H
  rintro v x5 w10 ⟨en, r, rfl, hK, rfl, H⟩
  refine ⟨fun z p w => ∃ r2 : Option (Nat × RP), z = en ∧ Mate r r2 ∧ p = ptr2 r2 ∧ St W No w ([sl 56 2 (.slice sp l.length sc) l.length (l.flatMap shapeL), blk ka (u8n (data ++ List.replicate 70 0)).toArray 5] ++ X2 r r2), H.dr fun w11 H => ⟨⟨by omega, by omega⟩, ⟨by omega, by omega⟩, ?_⟩, fun _ => ?_⟩
  · rw [Int.toNat_natCast]
    have i1 : IntsAt w11 p1 (l.map (·.1)) := by rw [hl]; exact ints_map (h1.keep H.touch)
    have i2 : IntsAt w11 p2 (l.map (·.2)) := by rw [hl]; exact ints_map2 (h2.keep H.touch)
    refine (rbnew_any i1 i2 (hD.keep H.touch) hdp).mono ?_
    rintro e w12 (⟨hg, rfl, hh⟩ | ⟨hg, hdl, rfl, hh⟩ | ⟨hg, hdl, b2, rfl, hp⟩)
    · rcases hK with ⟨-, ⟨-, rfl⟩ | ⟨hg2, -⟩, rfl⟩ | ⟨-, hg2, -⟩
      · exact ⟨_, _, rfl, none, rfl, trivial, rfl, by simpa [X1, X2] using H.quiet hh⟩
      · exact absurd hg hg2
      · exact absurd hg hg2
    · rcases hK with ⟨-, ⟨hg2, -⟩ | ⟨-, -, rfl⟩, rfl⟩ | ⟨-, -, hd2, -⟩
      · exact absurd hg2 hg
      · exact ⟨_, _, rfl, none, rfl, trivial, rfl, by simpa [X1, X2] using H.quiet hh⟩
      · exact absurd hdl hd2
    · rcases hK with ⟨-, ⟨hg2, -⟩ | ⟨-, hd2, -⟩, -⟩ | ⟨rfl, -, -, b, B, S, rfl, hF, hB⟩
      · exact absurd hg2 hg
      · exact absurd hd2 hdl
      · obtain ⟨P, hP, hpost⟩ := hp S hF
        exact ⟨_, _, rfl, some (b2, P), rfl, hP, rfl, H.add hpost⟩
  clear H
  rintro z x7 w13 ⟨r2, rfl, hM, rfl, H⟩
  have EE : ∀ {w : World} {L : List Asn}, St W No w L → HErr w := fun H => (H.touch.cell (p := ⟨0, 0, none⟩) (by show 0 < W.heap.size; omega) (fun e => e)).trans hE
  refine H.callq (ltold w13 (EE H) en) fun w14 H => ⟨_, rfl, ?_⟩
  rw [Int.toNat_natCast]
  have eall : ∀ i, i < data.length + 70 → (u8n (data ++ List.replicate 70 0)).toArray[i]? = some (.int .u8 (((data ++ List.replicate 70 0).getD i 0 : Nat) : Int)) := by
    intro i hi
    rw [List.getElem?_toArray]
    unfold u8n
    have hl2 : i < (data ++ List.replicate 70 0).length := by simp; omega
    rw [List.getElem?_map, List.getElem?_eq_getElem hl2, List.getD_eq_getElem?_getD, List.getElem?_eq_getElem hl2]; rfl
  refine ⟨fun x w => x = true ∧ ∃ cs : Array Value, St W No w ([sl 56 2 (.slice sp l.length sc) l.length (l.flatMap shapeL), blk ka cs 5] ++ X2 r r2), ?_, fun _ => ?_⟩
  · refine ⟨fun x8 x9 w => ∃ (j : Nat) (cs : Array Value), x8 = j ∧ x9 = true ∧ j ≤ data.length + 70 ∧ cs.size = data.length + 70 ∧ (∀ i, j ≤ i → cs[i]? = (u8n (data ++ List.replicate 70 0)).toArray[i]?) ∧ St W No w ([sl 56 2 (.slice sp l.length sc) l.length (l.flatMap shapeL), blk ka cs 5] ++ X2 r r2),
      fun x8 _ _ => data.length + 70 - x8.toNat, ⟨0, _, rfl, rfl, Nat.zero_le _, by simp [u8n_length], fun _ _ => rfl, H⟩, fun _ => ?_⟩
    clear H
    rintro x8 x9 w15 ⟨j, cs, rfl, rfl, hj, hcs, hci, H⟩
    refine split_of (fun q => ?_) (fun q => ⟨rfl, cs, H⟩)
    have q := of_decide_eq_true q
    have hjl : j < data.length + 70 := by omega
    have hcj : cs[j]? = some (.int .u8 (((data ++ List.replicate 70 0).getD j 0 : Nat) : Int)) := (hci j (Nat.le_refl _)).trans (eall j hjl)
    have hcell : ∀ {w : World}, St W No w ([sl 56 2 (.slice sp l.length sc) l.length (l.flatMap shapeL), blk ka cs 5] ++ X2 r r2) → w.cell? ⟨ka, 0 + ((j : Nat) : Int).toNat * 1, none⟩ = some (.int .u8 (((data ++ List.replicate 70 0).getD j 0 : Nat) : Int)) := fun H => by rw [ix1, Nat.zero_add]; exact (H.blk 1 rfl).cell' hcj
    refine ⟨fun t w => t = true ∧ St W No w ([sl 56 2 (.slice sp l.length sc) l.length (l.flatMap shapeL), blk ka cs 5] ++ X2 r r2), split_of (fun _ => ?_) (fun q => by cases q), fun _ => ?_⟩
    · refine split_of (fun q2 => ?_) (fun q2 => split_of (fun _ => ?_) (fun q3 => absurd (of_decide_eq_false q2) (by have := of_decide_eq_false q3; omega)))
      · have q2 := of_decide_eq_true q2
        have hjd : j < data.length := by omega
        obtain ⟨g, off, e, hg, hc⟩ := hD j data[j] (List.getElem?_eq_getElem hjd)
        refine ⟨⟨by omega, q⟩, _, hcell H, ⟨by omega, q2⟩, adr_eq e ⟨((data[j] : Nat) : Int), ?_, ?_⟩⟩
        · rw [ix1]; exact (H.touch.cell (p := ⟨g, off + j, none⟩) hg (fun e => e)).trans hc
        · have : (data ++ List.replicate 70 0).getD j 0 = data[j] := by rw [List.getD_eq_getElem?_getD, List.getElem?_append_left hjd, List.getElem?_eq_getElem hjd]; rfl
          rw [this]
          exact split_of (fun _ => H.drN fun w16 H => ⟨rfl, H⟩) (fun q => by simp at q)
      · have q2 := of_decide_eq_false q2
        refine ⟨⟨by omega, q⟩, _, hcell H, H.drN fun w16 H => ⟨?_, H⟩⟩
        have : (data ++ List.replicate 70 0).getD j 0 = 0 := by
          rw [List.getD_eq_getElem?_getD, List.getElem?_append_right (by omega), List.getElem?_replicate, if_pos (by omega)]; rfl
        rw [this]; rfl
    · clear H
      rintro t w22 ⟨rfl, H⟩
      refine ⟨⟨by omega, q⟩, H.st 1 rfl (by rw [hcs]; omega) fun w23 H => ?_⟩
      rintro z10 rfl
      rw [w64 (by omega) (by omega)]
      refine ⟨⟨j + 1, _, by omega, rfl, by omega, by simpa using hcs, fun i hi => ?_, H⟩, by show data.length + 70 - ((j : Int) + 1).toNat < data.length + 70 - (j : Int).toNat; omega⟩
      rw [ix1, Nat.zero_add, Array.getElem?_setIfInBounds_ne (by omega)]
      exact hci i (by omega)
  · clear H
    rintro x11 w24 ⟨rfl, cs, H⟩
    refine ⟨fun x w => x = true ∧ St W No w (X2 r r2), ?_, fun _ => ?_⟩
    · refine ⟨fun x12 x13 w => ∃ (j : Nat) (ys : List (Int × Int)), x12 = j ∧ x13 = true ∧ j ≤ l.length ∧ ys.length = l.length ∧ (∀ i, j ≤ i → ys[i]? = l[i]?) ∧ St W No w ([sl 56 2 (.slice sp l.length sc) l.length (ys.flatMap shapeL), blk ka cs 5] ++ X2 r r2),
        fun x12 _ _ => l.length - x12.toNat, ⟨0, l, rfl, rfl, Nat.zero_le _, rfl, fun _ _ => rfl, H⟩, fun _ => ?_⟩
      clear H
      rintro x12 x13 w25 ⟨j, ys, rfl, rfl, hj, hys, hyi, H⟩
      refine split_of (fun q => ?_) (fun q => ⟨rfl, H.tail.tail⟩)
      have q := of_decide_eq_true q
      have hjl : j < l.length := by omega
      obtain ⟨x, hxx⟩ : ∃ x, l[j]? = some x := ⟨_, List.getElem?_eq_getElem hjl⟩
      have hz := hxx
      rw [hl, List.getElem?_zip_eq_some] at hz
      have hyx : ys[j]? = some x := (hyi j (Nat.le_refl _)).trans hxx
      obtain ⟨-, gs, os, rfl, hcs2⟩ := sl_elem (n := 2) (f := shapeL) (H.nth 0 rfl) (fun _ _ => rfl) hyx (by decide)
      obtain ⟨g1, o1, e1, hg1, hcl1⟩ := h1 j x.1 hz.1
      obtain ⟨g2, o2, e2, hg2, hcl2⟩ := h2 j x.2 hz.2
      have hxl : j < xs.length := (List.getElem?_eq_some_iff.1 hz.1).1
      have hwl : j < ws.length := (List.getElem?_eq_some_iff.1 hz.2).1
      refine ⟨fun t w => t = true ∧ St W No w ([sl 56 2 (.slice (some ⟨gs, os, none⟩) l.length sc) l.length (ys.flatMap shapeL), blk ka cs 5] ++ X2 r r2), split_of (fun _ => ?_) (fun q => by cases q), fun _ => ?_⟩
      · have k1 := cells_at hcs2 (i := 0) (v := .int .i64 x.1) rfl
        have k2 := cells_at hcs2 (i := 1) (v := .int .i64 x.2) rfl
        refine ⟨⟨by omega, q⟩, adr_some ⟨x.1, by rw [Int.toNat_natCast]; exact k1, ⟨by omega, by omega⟩, adr_eq e1 ⟨x.1, ?_, split_of (fun _ => ?_) (fun q => by simp at q)⟩⟩⟩
        · rw [ix1]; exact (H.touch.cell (p := ⟨g1, o1 + j, none⟩) hg1 (fun e => e)).trans hcl1
        · refine ⟨⟨by omega, q⟩, adr_some ⟨x.2, by rw [Int.toNat_natCast]; exact k2, ⟨by omega, by omega⟩, adr_eq e2 ⟨x.2, ?_, H.drN fun w26 H => ⟨by simp, H⟩⟩⟩⟩
          rw [ix1]; exact (H.touch.cell (p := ⟨g2, o2 + j, none⟩) hg2 (fun e => e)).trans hcl2
      · clear H
        rintro t w29 ⟨rfl, H⟩
        rintro vs rfl
        have hs := sl_setsN (H.nth 0 rfl) (o := j * 2) (vs := shapeL (1, 1)) (by show j * 2 + 2 ≤ l.length * 2; omega)
        refine ⟨⟨by omega, q⟩, adr_some ⟨rfl, fun i hi => by rw [Int.toNat_natCast]; exact hs.1 i hi, shape_one 1 1, ?_⟩⟩
        rintro w30 rfl z15 rfl
        rw [w64 (by omega) (by omega), Int.toNat_natCast]
        have H := H.upd 0 rfl hs.2
        rw [rows_put (f := shapeL) (n := 2) (fun _ _ => rfl) (by omega) rfl] at H
        refine ⟨⟨j + 1, ys.set j (1, 1), by omega, rfl, by omega, by simpa using hys, fun i hi => ?_, H⟩, by show l.length - ((j : Int) + 1).toNat < l.length - (j : Int).toNat; omega⟩
        rw [List.getElem?_set_ne (by omega)]
        exact hyi i (by omega)
    · clear H
      rintro x15 w31 ⟨rfl, H⟩
      refine split_of (fun _ => ⟨r, r2, en, ?_, by rw [← hl]; exact hK, hM, H⟩) (fun q => by cases q)
      have : (Option.isNone (ptr1 r) == Option.isNone (ptr2 r2)) = true := by
        cases r <;> cases r2 <;> first | rfl | exact hM.elim
      rw [this]
end Go.Proofs.YtbiogceijdcoiaaDoor
