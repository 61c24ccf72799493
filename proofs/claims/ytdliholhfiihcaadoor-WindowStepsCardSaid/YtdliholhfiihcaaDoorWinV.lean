/- The lists that the law holds: same, own. No condition. -/
import Derived.Test.YtdliholhfiihcaaDoorWinU
namespace Go.Proofs.YtdliholhfiihcaaDoor
open Go.RowKit Go.XHeap Go.Sx Go.Sep
set_option linter.unusedVariables false
set_option maxRecDepth 100000
variable {W w' : World}

/-- at p stand these numbers -/
def Rd (w : World) (p : Option Addr) (l : List Int) : Prop := ∀ j (h : j < l.length), ∃ g off, p = some ⟨g, off, none⟩ ∧ g < w.heap.size ∧ w.cell? ⟨g, off + j, none⟩ = some (.int .i64 l[j])
theorem Rd.keep {T : Nat → Prop} {w w' : World} {p : Option Addr} {l : List Int} (h : Rd w p l) (ht : XTouch T w w') (hn : ∀ k, blkOf p k → ¬ T k) : Rd w' p l := by
  intro j hj
  obtain ⟨g, off, hp, hg, hc⟩ := h j hj
  exact ⟨g, off, hp, Nat.lt_of_lt_of_le hg ht.size, (ht.cell (p := ⟨g, off + j, none⟩) hg (hn g ⟨_, hp, rfl⟩)).trans hc⟩
theorem rd_of_sl {w : World} {p : Option Addr} {n c : Nat} {l : List Int} (h : Sl w 3 1 (.slice p n c) n (intsV l)) : Rd w p l := by
  intro j hj
  have hln : l.length = n := by have := h.1; simpa [intsV] using this
  obtain ⟨-, -, g, o, rfl, hc⟩ := slr_cells h (by omega)
  have := hc j (.int .i64 l[j]) (by simp [intsV, hj])
  exact ⟨g, o, rfl, World.block_lt_of_cell? _ _ this, this⟩
theorem rd_of_blk {w : World} {k : Nat} {t : TypeId} {l : List Int} (h : Blk w k (intsV l).toArray t) : Rd w (some ⟨k, 0, none⟩) l := by
  intro j hj
  exact ⟨k, 0, rfl, h.lt, h.cell' (by rw [Nat.zero_add]; simp [intsV, hj])⟩
theorem Rd.pre {w : World} {p : Option Addr} {l : List Int} (h : Rd w p l) (n : Nat) : Rd w p (l.take n) := by
  intro j hj
  rw [List.length_take] at hj
  obtain ⟨g, off, hp, hg, hc⟩ := h j (by omega)
  exact ⟨g, off, hp, hg, by rw [hc]; simp⟩
theorem same_any (W : World) (p q : Option Addr) (l m : List Int) (c d : Nat) (hl : l.length ≤ 1000) (h1 : Rd W p l) (h2 : Rd W q m) :
    Calls Tryd.prog 20 #[.agg #[.slice p l.length c, .slice q m.length d]] W fun e w2 => e = .returned (.bool (decide (l = m))) ∧ Hush W w2 := by
  refine vc20 _ ((St.nil W).al fun k A H => ?_)
  have H : St W No A [blk k #[.slice p l.length c, .slice q m.length d] 58] := H
  refine ⟨_, _, _, H.ld 0 rfl rfl, _, _, _, H.ld 0 rfl rfl, split_of (fun q0 => ⟨?_, H.touch⟩) (fun q0 => ?_)⟩
  · have : ¬ l = m := fun e => by subst e; simp at q0
    rw [decide_eq_false this]
  have hlen : l.length = m.length := by have : ((l.length : Nat) : Int) = (m.length : Nat) := by simpa using q0
                                        omega
  refine ⟨fun i B => ∃ j : Nat, i = j ∧ j ≤ l.length ∧ l.take j = m.take j ∧ St W No B [blk k #[.slice p l.length c, .slice q m.length d] 58], fun i _ => l.length - i.toNat, ⟨0, rfl, Nat.zero_le _, rfl, H⟩, fun _ => ?_⟩
  clear H
  rintro i B ⟨j, rfl, hj, htk, H⟩
  refine ⟨_, _, _, H.ld 0 rfl rfl, split_of (fun q1 => ?_) (fun q1 => ?_)⟩
  · have q1 := of_decide_eq_true q1
    have hjl : j < l.length := by omega
    obtain ⟨g, off, hp, -, hc⟩ := (h1.keep H.touch (fun _ _ e => e)) j hjl
    obtain ⟨g2, off2, hp2, -, hc2⟩ := (h2.keep H.touch (fun _ _ e => e)) j (by omega)
    refine ⟨_, _, _, H.ld 0 rfl rfl, ⟨by omega, q1⟩, adr_eq hp ⟨_, by rw [ix1]; exact hc, _, _, _, H.ld 0 rfl rfl, ⟨by omega, by omega⟩, adr_eq hp2 ⟨_, by rw [ix1]; exact hc2, H.drN fun C H => split_of (fun q2 => ⟨?_, H.touch⟩) (fun q2 => ?_)⟩⟩⟩
    · have : ¬ l = m := fun e => by subst e; simp at q2
      rw [decide_eq_false this]
    · rintro z rfl
      rw [w64 (by omega) (by omega)]
      have q2 : l[j] = m[j] := by simpa using q2
      refine ⟨⟨j + 1, by omega, by omega, ?_, H⟩, by show l.length - ((j : Int) + 1).toNat < l.length - (j : Int).toNat; omega⟩
      rw [List.take_add_one, List.take_add_one, htk, List.getElem?_eq_getElem hjl, List.getElem?_eq_getElem (by omega), q2]
  · have q1 := of_decide_eq_false q1
    obtain rfl : j = l.length := by omega
    rw [List.take_length, List.take_of_length_le (by omega)] at htk
    refine ⟨?_, H.touch⟩
    rw [decide_eq_true htk]
structure HE where
  p : Option Addr
  c : Nat
  q : Option Addr
  d : Nat
  l : List Int
def HE.cells (e : HE) : List Value := [.slice e.p e.l.length e.c, .slice e.q e.l.length e.d]
theorem he_len (l : List HE) : ∀ s ∈ l, s.cells.length = 2 := fun _ _ => rfl
structure HE.At (e : HE) (w : World) : Prop where
  short : e.l.length ≤ 1000
  rp : Rd w e.p e.l
  rq : Rd w e.q e.l
  lp : ∀ k, blkOf e.p k → k < w.heap.size
  lq : ∀ k, blkOf e.q k → k < w.heap.size
def heldA (es : List HE) : Asn where
  own k := ∃ e ∈ es, blkOf e.p k ∨ blkOf e.q k
  at_ w := ∀ e ∈ es, e.At w
  keep h ht hn := fun e he => ⟨(h e he).short, (h e he).rp.keep ht (fun k hk => hn k ⟨e, he, .inl hk⟩), (h e he).rq.keep ht (fun k hk => hn k ⟨e, he, .inr hk⟩), fun k hk => Nat.lt_of_lt_of_le ((h e he).lp k hk) ht.size, fun k hk => Nat.lt_of_lt_of_le ((h e he).lq k hk) ht.size⟩
  lt h := fun k ⟨e, he, hk⟩ => hk.elim ((h e he).lp k) ((h e he).lq k)
/-- the list of the held ones -/
def hsA (es : List HE) (z : Option Addr × Nat) : Asn := all [sl 58 2 (.slice z.1 es.length z.2) es.length (es.flatMap HE.cells), heldA es]
/-- two lists that may share a block: one, and what was put behind it -/
def pairA (lp : Option Addr) (l1 : List Int) (gp : Option Addr) (gc : Nat) (l2 : List Int) : Asn where
  own k := blkOf lp k ∨ blkOf gp k
  at_ w := Rd w lp l1 ∧ (∀ k, blkOf lp k → k < w.heap.size) ∧ Sl w 3 1 (.slice gp l2.length gc) l2.length (intsV l2) ∧ ((gp = lp ∧ l2.take l1.length = l1) ∨ ∀ k, blkOf lp k → ¬ blkOf gp k)
  keep h ht hn := ⟨h.1.keep ht (fun k hk => hn k (.inl hk)), fun k hk => Nat.lt_of_lt_of_le (h.2.1 k hk) ht.size, h.2.2.1.keep ht (fun k hk => hn k (.inr (by
    cases gp with
    | none => cases hk
    | some a => exact ⟨a, rfl, by simpa [Value.ownBlock] using hk⟩))), h.2.2.2⟩
  lt h := fun k hk => hk.elim (h.2.1 k) (fun hk => h.2.2.1.lt k (by
    obtain ⟨a, rfl, rfl⟩ := hk
    rfl))
theorem own_any (W : World) (es : List HE) (z : Option Addr × Nat) (hes : es.length ≤ 100000) (lp : Option Addr) (lc : Nat) (l : List Int) (hl : l.length ≤ 100)
    (h : (all [hsA es z, sl 3 1 (.slice lp l.length lc) l.length (intsV l)]).at_ W) :
    Calls Tryd.prog 21 #[.slice z.1 es.length z.2, .slice lp l.length lc] W fun e w2 => ∃ y : (Option Addr × Nat) × { es' : List HE // es'.length = es.length + 2 }, e = .returned (.slice y.1.1 (es.length + 2) y.1.2) ∧ Sep.Post (all [hsA es z, sl 3 1 (.slice lp l.length lc) l.length (intsV l)]) W (hsA y.2.1 y.1) w2 := by
  have H := (St.begin h).open_
  obtain ⟨M, hM⟩ : ∃ M, M = (all [hsA es z, sl 3 1 (.slice lp l.length lc) l.length (intsV l)]).own := ⟨_, rfl⟩
  rw [← hM] at H
  have H : St W M W [hsA es z, sl 3 1 (.slice lp l.length lc) l.length (intsV l)] := H
  obtain ⟨n, hn⟩ : ∃ n, n = l.length := ⟨_, rfl⟩
  rw [← hn] at hl H
  have hint : ∀ m : List Int, (intsV m).length = m.length := fun m => by simp [intsV]
  rw [← hn]
  refine vc21 z.1 es.length z.2 lp n lc ⟨fun i A => ∃ (j : Nat) (l1 : List Int), i = j ∧ j ≤ n ∧ l1.length = n ∧ St W M A [hsA es z, sl 3 1 (.slice lp n lc) n (intsV l1)], fun i _ => n - i.toNat, ⟨0, l, rfl, Nat.zero_le _, hn.symm, H⟩, fun _ => ?_⟩
  clear H
  rintro i A ⟨j, l1, rfl, hj, hl1, H⟩
  refine split_of (fun q => ?_) (fun q => ?_)
  · have q := of_decide_eq_true q
    rintro z1 - z2 - z3 -
    obtain ⟨-, -, g, o, hp, -⟩ := slr_cells (H.nth 1 rfl) (by omega)
    refine ⟨⟨by omega, q⟩, adr_eq hp ?_⟩
    have hs : Sl A 3 1 (.slice (some ⟨g, o, none⟩) n lc) n (intsV l1) := by rw [← hp]; exact H.nth 1 rfl
    obtain ⟨c1, c2, c3⟩ := slr_set hs (j := j) (by rw [hint]; omega) (.int .i64 z3)
    rw [ix1]
    refine ⟨c1, c2, ?_⟩
    rintro B rfl z4 rfl
    rw [w64 (by omega) (by omega)]
    rw [← hp] at c3
    have H := H.upd 1 rfl c3
    have e : (intsV l1).set j (.int .i64 z3) = intsV (l1.set j z3) := by simp [intsV, List.map_set]
    rw [e] at H
    exact ⟨⟨j + 1, l1.set j z3, by omega, by omega, by rw [List.length_set]; exact hl1, H⟩, by show n - ((j : Int) + 1).toNat < n - (j : Int).toNat; omega⟩
  · clear q hj
    have hpair : Sep.Post (sl 3 1 (.slice lp n lc) n (intsV l1)) A (pairA lp l1 lp lc l1) A := by
      have hs : Sl A 3 1 (.slice lp n lc) n (intsV l1) := H.nth 1 rfl
      refine ⟨⟨rd_of_sl hs, fun k hk => hs.lt k (own_blk.2 hk), by rw [hl1]; exact hs, .inl ⟨rfl, List.take_length⟩⟩, XTouch.refl _ _, fun q hq => .inl (own_blk.2 (hq.elim id id))⟩
    have H := H.upd 1 rfl hpair
    refine ⟨fun i g k c B => ∃ (j : Nat) (l2 : List Int), i = j ∧ j ≤ 70 ∧ k = l2.length ∧ l2.length = n + j ∧ St W M B [hsA es z, pairA lp l1 g c l2], fun i _ _ _ _ => 70 - i.toNat, ⟨0, l1, rfl, Nat.zero_le _, hl1.symm, hl1, H⟩, fun _ => ?_⟩
    clear H hpair
    rintro i gp k gc B ⟨j, l2, rfl, hj, rfl, hl2, HK⟩
    refine split_of (fun q => ?_) (fun q => ?_)
    · have q := of_decide_eq_true q
      rintro z5 - z6 - z7 -
      refine HK.al fun k5 C H => ?_
      have hP := H.nth 1 rfl
      refine ⟨intsV l2, [.int .i64 z7], hP.2.2.1, .inr ⟨_, rfl, fun j u hj => H.cells 2 rfl j u (by simpa using hj)⟩, rfl, (by intro u hu; simp at hu; subst hu; rfl), (by have : maxLen = 2 ^ 63 - 1 := rfl; omega), (by omega), ?_⟩
      intro p7 c7 D s1 s2 s3 s4 s5
      have e2 : l2.length + 1 = (l2 ++ [z7]).length := by simp
      have e3 : intsV l2 ++ [Value.int .i64 z7] = intsV (l2 ++ [z7]) := by simp [intsV]
      have hPost : Sep.Post (pairA lp l1 gp gc l2) C (pairA lp l1 p7 c7 (l2 ++ [z7])) D := by
        have hsz := s2.size
        have hrd : Rd D lp l1 := by
          rcases hP.2.2.2 with ⟨eg, et⟩ | hne
          · have := (rd_of_sl s4).pre l1.length
            rwa [et, eg] at this
          · exact hP.1.keep s2 (fun k hk e => hne k hk (own_blk.1 e))
        refine ⟨⟨hrd, fun k hk => Nat.lt_of_lt_of_le (hP.2.1 k hk) hsz, ?_, ?_⟩, s2.mono (fun k _ e => .inr (own_blk.1 e)), ?_⟩
        · rw [← e2, ← e3]; exact s1
        · rcases s5 with rfl | s5
          · rcases hP.2.2.2 with ⟨eg, et⟩ | hne
            · exact .inl ⟨eg, by rw [List.take_append_of_le_length (by omega)]; exact et⟩
            · exact .inr hne
          · exact .inr (fun k hk e => by have := s5 k (own_blk.2 e); have := hP.2.1 k hk; omega)
        · rintro q (hq | hq)
          · exact .inl (.inl hq)
          · exact (s3 q (own_blk.2 hq)).imp (fun e => .inr (own_blk.1 e)) id
      have H := (H.upd 1 rfl hPost).take 2
      rintro z8 rfl
      rw [w64 (by omega) (by omega)]
      exact ⟨⟨j + 1, l2 ++ [z7], by omega, by omega, e2, by rw [← e2]; omega, H⟩, by show 70 - ((j : Int) + 1).toNat < 70 - (j : Int).toNat; omega⟩
    · clear q
      have hcopy : ∀ {A B : World} {L : List Asn} {k : Nat} {m : List Int} {p : Option Addr} {c : Nat}, St W M A L → k = A.heap.size → B = A.alloc (.cells (madeCells #[.int .i64 0] (((m.length : Nat) : Int).toNat * 1)) 3) → Rd A p m →
          ∀ {φ : World → Prop}, (∀ C, St W M C (L ++ [blk k (intsV m).toArray 3]) → φ C) →
          ∃ l4 : List Value, l4.length = Nat.min m.length ((m.length : Nat) : Int).toNat * 1 ∧ (∀ v ∈ l4, v.oneCell' = true) ∧ (l4 = [] ∨ ((∃ a : Addr, p = some a ∧ ∀ (j : Nat) (u : Value), l4[j]? = some u → B.cell? (a.add j) = some u) ∧
            ∃ g o : Nat, some (⟨k, 0, none⟩ : Addr) = some ⟨g, o, none⟩ ∧ ∀ j : Nat, j < l4.length → (∃ u, B.cell? ⟨g, o + j, none⟩ = some u) ∧ B.frozen? ⟨g, o + j, none⟩ = false)) ∧
          ∀ C : World, C = Sx.setRow (some ⟨k, 0, none⟩) B l4 → φ C := by
        rintro A B L k m p c H rfl rfl hrd φ hφ
        simp only [Int.toNat_natCast, Nat.mul_one]
        have HB := H.alloc (madeCells #[.int .i64 0] m.length) 3
        have hsz : (madeCells #[Value.int .i64 0] m.length).size = m.length := size_madeCells _ _
        have hlast : (L ++ [blk A.heap.size (madeCells #[Value.int .i64 0] m.length) 3])[L.length]? = some (blk A.heap.size (madeCells #[.int .i64 0] m.length) 3) := by simp
        have hb := HB.blk L.length hlast
        refine ⟨intsV m, by rw [hint]; exact (Nat.min_self _).symm, ?_, ?_, ?_⟩
        · intro v hv
          simp [intsV] at hv
          obtain ⟨a, -, rfl⟩ := hv
          rfl
        · by_cases hm : m = []
          · left; rw [hm]; rfl
          · right
            have hpos : 0 < m.length := List.length_pos_iff.2 hm
            obtain ⟨g, o, hp, -, -⟩ := hrd 0 hpos
            refine ⟨⟨_, hp, fun j u hj => ?_⟩, A.heap.size, 0, rfl, fun j hj => ⟨⟨_, hb.cell' (i := 0 + j) (Array.getElem?_eq_getElem (by rw [hsz, Nat.zero_add]; rw [hint] at hj; exact hj))⟩, hb.frozen _⟩⟩
            have hjl : j < m.length := by have := (List.getElem?_eq_some_iff.1 hj).1; rw [hint] at this; exact this
            obtain ⟨g', o', hp', hg', hc'⟩ := hrd j hjl
            rw [hp] at hp'
            obtain ⟨rfl, rfl⟩ : g = g' ∧ o = o' := by simpa using hp'
            rw [add_none, ((XTouch.refl (fun _ => False) A).alloc _).cell (p := ⟨g, o + j, none⟩) hg' id, hc', ← hj]
            simp [intsV, hjl]
        · rintro C rfl
          refine hφ _ ?_
          have := HB.wrs L.length hlast 0 (intsV m) (by rw [hsz, hint]; omega)
          rw [splice_all _ _ (by rw [hsz, hint])] at this
          have e : (L ++ [blk A.heap.size (madeCells #[Value.int .i64 0] m.length) 3]).set L.length (blk A.heap.size (intsV m).toArray 3) = L ++ [blk A.heap.size (intsV m).toArray 3] := by
            rw [List.set_append_right _ _ (Nat.le_refl _), Nat.sub_self]; rfl
          rw [e] at this
          exact this
      subst hl1
      have hP := HK.nth 1 rfl
      refine ⟨⟨by omega, Int.le_refl _, by omega, by omega⟩, ?_⟩
      intro k9 W7 hk9 hW7
      refine hcopy (c := 0) HK hk9 hW7 hP.1 fun C HC => ?_
      refine ⟨⟨by omega, Int.le_refl _, by omega, by omega⟩, ?_⟩
      intro k14 W9 hk14 hW9
      have hPC := HC.nth 1 rfl
      refine hcopy (c := 0) HC hk14 hW9 (rd_of_sl hPC.2.2.1) fun D HD => ?_
      rintro vs rfl vs2 rfl
      refine ⟨rfl, rfl, HD.al fun k19 E HV => ?_⟩
      have HV := HV.pick [0, 1, 2, 3, 4]
      have HV : St W M E ([sl 58 2 (.slice z.1 es.length z.2) es.length (es.flatMap HE.cells), heldA es] ++ [pairA lp l1 gp gc l2, blk k9 (intsV l1).toArray 3, blk k14 (intsV l2).toArray 3, blk k19 #[.slice lp l1.length lc, .slice (some ⟨k9, 0, none⟩) l1.length l1.length, .slice gp l2.length gc, .slice (some ⟨k14, 0, none⟩) l2.length l2.length] 58])      := St.open_ HV
      refine HV.app 0 rfl [.slice lp l1.length lc, .slice (some ⟨k9, 0, none⟩) l1.length l1.length, .slice gp l2.length gc, .slice (some ⟨k14, 0, none⟩) l2.length l2.length] (.inr ⟨_, rfl, fun j u hj => HV.cells 5 rfl j u (by simpa using hj)⟩) rfl (by intro u hu; simp at hu; rcases hu with rfl | rfl | rfl | rfl <;> rfl) (by have : maxLen = 2 ^ 63 - 1 := rfl; omega) (by omega) fun p21 c21 F HF => ?_
      obtain ⟨es', hes'⟩ : ∃ es' : List HE, es' = es ++ [⟨lp, lc, some ⟨k9, 0, none⟩, l1.length, l1⟩, ⟨gp, gc, some ⟨k14, 0, none⟩, l2.length, l2⟩] := ⟨_, rfl⟩
      have hlen : es'.length = es.length + 2 := by rw [hes']; simp
      have hcells : es.flatMap HE.cells ++ [.slice lp l1.length lc, .slice (some ⟨k9, 0, none⟩) l1.length l1.length, .slice gp l2.length gc, .slice (some ⟨k14, 0, none⟩) l2.length l2.length] = es'.flatMap HE.cells := by
        rw [hes', List.flatMap_append]
        simp [HE.cells]
      rw [hcells] at HF
      have HF := (HF.pick [1, 2, 3, 4, 0])
      have HF : St W M F ([heldA es, pairA lp l1 gp gc l2, blk k9 (intsV l1).toArray 3, blk k14 (intsV l2).toArray 3] ++ [sl 58 2 (.slice p21 (es.length + 2) c21) (es.length + 2) (es'.flatMap HE.cells)]) := HF
      have HF := HF.fold (A := heldA es') (fun h => by
        obtain ⟨a1, -, a2, -, a3, -, a4, -, -⟩ := h
        intro e he
        rw [hes'] at he
        rcases List.mem_append.1 he with he | he
        · exact a1 e he
        · rcases List.mem_cons.1 he with rfl | he
          · exact ⟨by show l1.length ≤ 1000; omega, a2.1, rd_of_blk a3, a2.2.1, fun k ⟨a, e1, e2⟩ => by cases e1; rw [← e2]; exact Blk.lt a3⟩
          · obtain rfl := List.mem_singleton.1 he
            exact ⟨by show l2.length ≤ 1000; omega, rd_of_sl a2.2.2.1, rd_of_blk a4, fun k hk => a2.2.2.1.lt k (own_blk.2 hk), fun k ⟨a, e1, e2⟩ => by cases e1; rw [← e2]; exact Blk.lt a4⟩)
        (fun q hq => by
        obtain ⟨e, he, hq⟩ := hq
        rw [hes'] at he
        rcases List.mem_append.1 he with he | he
        · exact .inl ⟨e, he, hq⟩
        · rcases List.mem_cons.1 he with rfl | he
          · rcases hq with hq | ⟨a, e1, e2⟩
            · exact .inr (.inl (.inl hq))
            · cases e1; exact .inr (.inr (.inl e2.symm))
          · obtain rfl := List.mem_singleton.1 he
            rcases hq with hq | ⟨a, e1, e2⟩
            · exact .inr (.inl (.inr hq))
            · cases e1; exact .inr (.inr (.inr (.inl e2.symm))))
      have HF := HF.pick [1, 0]
      rw [← hlen] at HF
      refine ⟨((p21, c21), ⟨es', hlen⟩), rfl, ?_⟩
      rw [hM] at HF
      rw [hn]
      exact ((St.shut (L := [_, heldA es']) (L' := []) HF)).post 0 rfl
end Go.Proofs.YtdliholhfiihcaaDoor
