import Derived.Test.YthacioiefgabbaaGreatDoorLsqB
/- The queue, part C: Delete, DeleteFunc, Retire, Squash, Oldest. No condition. -/
namespace Go.Proofs.YthacioiefgabbaaGreatDoor.lsq
open Go.RowKit Go.XHeap Go.Sx Go.Sep
set_option linter.unusedVariables false
set_option maxRecDepth 100000
variable {W w' : World} {b : Nat} {q v : PQ}

/-- what lies behind a slice is cleared -/
theorem sl_clear2 {w : World} {e m m2 c : Nat} {p : Option Addr} {xs : List Value} (h : Sl w e 1 (.slice p m c) m xs) (hm : m2 ≤ c) (hm0 : m ≤ m2) (u : Value) :
    (m2 - m = 0 ∨ ∃ g o : Nat, Sx.sub p c m 1 = some ⟨g, o, none⟩ ∧ ∀ j : Nat, j < m2 - m → (∃ v, w.cell? ⟨g, o + j, none⟩ = some v) ∧ w.frozen? ⟨g, o + j, none⟩ = false) ∧
      ∀ w' : World, w' = Sx.setRow (Sx.sub p c m 1) w (List.replicate (m2 - m) u) → Sep.Post (sl e 1 (.slice p m c) m xs) w (sl e 1 (.slice p m c) m xs) w' := by
  have same : Sep.Post (sl e 1 (.slice p m c) m xs) w (sl e 1 (.slice p m c) m xs) w := ⟨h, XTouch.refl _ _, fun q hq => .inl hq⟩
  have h0 := h
  obtain ⟨hl, h⟩ := h
  rcases h with ⟨h, h1⟩ | ⟨g, off, cap, cur, hv, hb, h1, h2, h3, h4⟩
  · cases h
    refine ⟨.inl (by omega), fun w' e => ?_⟩
    have e2 : Sx.setRow (Sx.sub (none : Option Addr) 0 0 1) w (List.replicate (m2 - 0) u) = w := rfl
    rw [e, e2]
    exact same
  · cases hv
    by_cases hz : m2 - m = 0
    · refine ⟨.inl hz, ?_⟩
      rintro w' rfl
      rw [hz]
      have : ∀ a : Option Addr, Sx.setRow a w (List.replicate 0 u) = w := fun a => by cases a <;> rfl
      rw [this]
      exact same
    · have hne : ¬ c = m := by omega
      have hsub : Sx.sub (some ⟨g, off, none⟩) c m 1 = some ⟨g, off + m, none⟩ := by
        unfold Sx.sub
        rw [if_neg hne, Option.map_some, add_none, Nat.mul_one]
      rw [hsub]
      refine ⟨.inr ⟨g, off + m, rfl, fun j hj => ⟨⟨_, hb.cell' (Array.getElem?_eq_getElem (show off + m + j < cur.size by omega))⟩, hb.frozen _⟩⟩, ?_⟩
      rintro w' rfl
      have hlen : off + m + (List.replicate (m2 - m) u).length ≤ cur.size := by rw [List.length_replicate]; omega
      refine ⟨⟨hl, .inr ⟨g, off, c, _, rfl, blk_setCells _ w cur (off + m) hb hlen, h1, h2, by rw [splice_size _ _ _ hlen]; exact h3, ?_⟩⟩, (touch_setCells _ w _).mono (fun k _ e => by subst e; rfl), fun q hq => .inl hq⟩
      rw [← h4]
      apply List.ext_getElem?
      intro i
      rw [Nat.mul_one]
      by_cases hi : i < m
      · rw [List.getElem?_take_of_lt hi, List.getElem?_take_of_lt hi, List.getElem?_drop, List.getElem?_drop, Array.getElem?_toList, Array.getElem?_toList, splice_get _ _ _ hlen, if_neg (by omega)]
      · rw [List.getElem?_take_eq_none (by omega), List.getElem?_take_eq_none (by omega)]
theorem sl_clear {w : World} {e n i c : Nat} {p : Option Addr} {xs : List Value} (h : Sl w e 1 (.slice p n c) n xs) (hi : i ≤ n) (u : Value) :
    (n - i = 0 ∨ ∃ g o : Nat, Sx.sub p c i 1 = some ⟨g, o, none⟩ ∧ ∀ j : Nat, j < n - i → (∃ v, w.cell? ⟨g, o + j, none⟩ = some v) ∧ w.frozen? ⟨g, o + j, none⟩ = false) ∧
      ∀ w' : World, w' = Sx.setRow (Sx.sub p c i 1) w (List.replicate (n - i) u) → Sep.Post (sl e 1 (.slice p n c) n xs) w (sl e 1 (.slice p i c) i (xs.take i)) w' := by
  have h2 := Sl.pre h hi
  rw [Nat.mul_one] at h2
  obtain ⟨a, b⟩ := sl_clear2 h2 (slr_le h) hi u
  refine ⟨a, fun w' e => ?_⟩
  obtain ⟨c1, c2, c3⟩ := b w' e
  exact ⟨c1, c2.mono (fun k _ hk => own_blk.2 (own_blk.1 hk)), fun q hq => .inl (own_blk.2 (own_blk.1 hq))⟩
theorem ptrs_one (es : Ens) : ∀ u ∈ ptrs es, u.oneCell' = true := by
  intro u hu
  simp [ptrs] at hu
  obtain ⟨a, ⟨x, hx⟩, rfl⟩ := hu
  rfl
theorem del_any {A : World} {p : Option Addr} {n c i : Nat} {es : Ens} (hs : Sl A 288 1 (.slice p n c) n (ptrs es)) (hn : n ≤ 32) (hi : i < n) :
    Calls Tryz.prog 182 #[.slice p n c, .int .i64 i, .int .i64 ((i : Nat) + 1 : Int)] A fun e w => ∃ z : Option Addr × Nat, e = .returned (.slice z.1 (n - 1) z.2) ∧ Sep.Post (sl 288 1 (.slice p n c) n (ptrs es)) A (sl 288 1 (.slice z.1 (n - 1) z.2) (n - 1) (ptrs (es.eraseIdx i))) w := by
  have hl : (ptrs es).length = n := by have := hs.1; omega
  have hle : es.length = n := by rw [ptrs_len] at hl; exact hl
  have hnc := slr_le hs
  have ei : ((i : Nat) : Int) + 1 = ((i + 1 : Nat) : Int) := by omega
  refine vc182 p n c i _ ⟨⟨by omega, by omega, by omega, by omega⟩, split_of (fun q => ?_) (fun _ => ?_)⟩
  · exfalso
    have : (i : Int) = (i : Int) + 1 := by simpa using q
    omega
  have H : St A (sl 288 1 (.slice p n c) n (ptrs es)).own A [sl 288 1 (.slice p n c) n (ptrs es)] := St.begin hs
  refine H.dr fun B H => ⟨⟨by omega, by omega⟩, ⟨by omega, by omega⟩, ?_⟩
  have hsB : Sl B 288 1 (.slice p n c) n (ptrs es) := H.nth 0 rfl
  obtain ⟨-, hcm, g, o, hp, hcell⟩ := slr_cells hsB (by omega)
  have hpre := Sl.pre hsB (Nat.le_of_lt hi)
  rw [Nat.mul_one] at hpre
  have H := H.conv 0 rfl (A' := sl 288 1 (.slice p i c) i ((ptrs es).take i)) (fun _ => hpre) (fun q e => own_blk.2 (own_blk.1 e))
  rw [ei, Int.toNat_natCast, Int.toNat_natCast]
  refine H.app2 0 rfl ((ptrs es).drop (i + 1)) (.inr ?_) (by rw [List.length_drop, hl]; omega) (fun u hu => ptrs_one es u (List.mem_of_mem_drop hu)) (by have : maxLen = 2 ^ 63 - 1 := rfl; omega) (by omega) fun p2 c2 C HC _ hd => ?_
  · rw [hp]
    by_cases hcc : c = i + 1
    · refine ⟨⟨g, o, none⟩, by unfold Sx.sub; rw [if_pos hcc], fun j u hj => ?_⟩
      exfalso
      have := (List.getElem?_eq_some_iff.1 hj).1
      rw [List.length_drop] at this; omega
    · refine ⟨⟨g, o + (i + 1), none⟩, by unfold Sx.sub; rw [if_neg hcc, Option.map_some, add_none, Nat.mul_one], fun j u hj => ?_⟩
      rw [add_none, Nat.add_assoc]
      rw [List.getElem?_drop] at hj
      exact hcell _ u hj
  have en : i + (n - (i + 1)) = n - 1 := by omega
  rw [en] at HC hd ⊢
  have hc2 : n ≤ c2 := by
    rcases hd with ⟨-, rfl⟩ | ⟨hd, -⟩
    · exact hnc
    · rcases hd with hd | hd
      · have hd : p = none := hd
        rw [hp] at hd; cases hd
      · omega
  refine ⟨⟨by omega, by omega, by omega⟩, ?_⟩
  rw [Int.toNat_natCast, Int.toNat_natCast]
  obtain ⟨h1, h2⟩ := sl_clear2 (HC.nth 0 rfl) hc2 (by omega) (.pointer none)
  refine ⟨h1, ?_⟩
  rintro w' hw
  have HC := HC.upd 0 rfl (h2 w' hw)
  refine ⟨(p2, c2), rfl, ?_⟩
  have e2 : (ptrs es).take i ++ (ptrs es).drop (i + 1) = ptrs (es.eraseIdx i) := by
    unfold ptrs
    rw [List.eraseIdx_eq_take_drop_succ, List.map_append, List.map_take, List.map_drop]
  rw [e2] at HC
  exact HC.post 0 rfl
def keepP (s : Int) (e : En) : Bool := !(decide (e.seq > s) && !e.retired)
theorem squC_any {A : World} {x : Nat × En} {kb : Nat} {s : Int} {t : TypeId} (hb : Blk A x.1 x.2.cells 287) (hs : Blk A kb #[.int .i64 s] t) :
    Calls Tryz.prog 192 #[.pointer (some ⟨x.1, 0, none⟩), .pointer (some ⟨kb, 0, none⟩)] A fun e w => e = .returned (.bool (!keepP s x.2)) ∧ Hush A w := by
  refine vc192 x.1 0 kb 0 ⟨x.2.seq, hb.cell' rfl, s, hs.cell' rfl, split_of (fun q => ⟨x.2.retired, hb.cell' rfl, fun w n hw => ?_⟩) (fun q w n hw => ?_)⟩
  · subst hw
    refine ⟨?_, (XTouch.refl _ _).drewN n⟩
    unfold keepP; rw [q, Bool.true_and, Bool.not_not]
  · subst hw
    refine ⟨?_, (XTouch.refl _ _).drewN n⟩
    unfold keepP; rw [q, Bool.false_and]; rfl
theorem delf_any {A : World} {p : Option Addr} {n c kb : Nat} {es : Ens} {s : Int} (hs : Sl A 288 1 (.slice p n c) n (ptrs es)) (hn : n ≤ 32)
    (hcl : ∀ (i : Nat) (x : Nat × En) (B : World), es[i]? = some x → XTouch (sl 288 1 (.slice p n c) n (ptrs es)).own A B → Calls Tryz.prog 192 #[.pointer (some ⟨x.1, 0, none⟩), .pointer (some ⟨kb, 0, none⟩)] B fun e w => e = .returned (.bool (!keepP s x.2)) ∧ Hush B w) :
    Calls Tryz.prog 191 #[.slice p n c, .func (.func 192) #[] #[.pointer (some ⟨kb, 0, none⟩)]] A fun e w => ∃ m, e = .returned (.slice p m c) ∧ Sep.Post (sl 288 1 (.slice p n c) n (ptrs es)) A (sl 288 1 (.slice p m c) m (ptrs (es.filter fun x => keepP s x.2))) w := by
  have hl : (ptrs es).length = n := by have := hs.1; omega
  have hle : es.length = n := by rw [ptrs_len] at hl; exact hl
  have hnc := slr_le hs
  refine vc191 p n c kb ((idx_q hs hn (fun e => !keepP s e) kb fun i x B hx hh => hcl i x B hx (hh.mono (fun _ _ e => e.elim))).mono ?_)
  rintro e B ⟨rfl, hh⟩
  cases hp : posOf (fun e => !keepP s e) es with
  | none =>
    refine ⟨-1, rfl, split_of (fun _ => ⟨n, rfl, ?_⟩) (fun q => by simp at q)⟩
    have : es.filter (fun x => keepP s x.2) = es := by
      rw [List.filter_eq_self]
      intro x hx
      unfold posOf at hp
      rw [List.findIdx?_eq_none_iff] at hp
      have := hp x hx
      simpa using this
    rw [this]
    exact ⟨hs.keep hh (fun _ _ e => e), hh.mono (fun _ _ e => e.elim), fun q hq => .inl hq⟩
  | some k =>
    obtain ⟨x, hx, hxp, hnot⟩ := pos_some hp
    have hkl := (List.getElem?_eq_some_iff.1 hx).1
    refine ⟨((k : Nat) : Int), rfl, split_of (fun q => ?_) (fun _ => ?_)⟩
    · exfalso
      simp at q
    rintro z2 rfl
    rw [w64 (by omega) (by omega)]
    have hk0 : ((es.take k).filter fun x => keepP s x.2) = es.take k := by
      rw [List.filter_eq_self]
      intro y hy
      obtain ⟨i, hi, rfl⟩ := List.getElem_of_mem hy
      rw [List.length_take] at hi
      have := hnot i es[i] (by omega) (List.getElem?_eq_getElem (by omega))
      rw [List.getElem_take]
      simpa using this
    have hk1 : ((es.take (k + 1)).filter fun x => keepP s x.2) = es.take k := by
      rw [List.take_add_one, hx, List.filter_append, hk0]
      have : keepP s x.2 = false := by simpa using hxp
      simp [this]
    have HB : St A (sl 288 1 (.slice p n c) n (ptrs es)).own B [sl 288 1 (.slice p n c) n (ptrs es)] := (St.begin hs).quiet hh
    refine ⟨fun j i C => ∃ (jj ii : Nat) (xs : List Value), j = jj ∧ i = ii ∧ jj ≤ n ∧ ii < jj ∧ xs.take ii = ptrs ((es.take jj).filter fun x => keepP s x.2) ∧ ii = ((es.take jj).filter fun x => keepP s x.2).length ∧ xs.drop jj = (ptrs es).drop jj ∧ xs.length = n ∧ St A (sl 288 1 (.slice p n c) n (ptrs es)).own C [sl 288 1 (.slice p n c) n xs], fun j _ _ => n - j.toNat,
      ⟨k + 1, k, ptrs es, by omega, rfl, by omega, by omega, by rw [hk1]; unfold ptrs; rw [List.map_take], by rw [hk1, List.length_take]; omega, rfl, hl, HB⟩, fun _ => ?_⟩
    clear HB
    rintro j i C ⟨jj, ii, xs, rfl, rfl, hj, hij, htk, hii, hdr, hxl, H⟩
    refine split_of (fun q => ?_) (fun q => ?_)
    · have q := of_decide_eq_true q
      have hjl : jj < es.length := by omega
      have hy := List.getElem?_eq_getElem hjl
      have hsC : Sl C 288 1 (.slice p n c) n xs := H.nth 0 rfl
      obtain ⟨-, -, g, o, hpp, hcell⟩ := slr_cells hsC (by omega)
      have hxj : xs[jj]? = some (.pointer (some ⟨es[jj].1, 0, none⟩)) := by
        have := congrArg (·[0]?) hdr
        simp only [List.getElem?_drop, Nat.add_zero] at this
        rw [this]
        simp [ptrs, hjl]
      refine ⟨⟨by omega, q⟩, adr_eq hpp ⟨_, by rw [ix1]; exact hcell _ _ hxj, (hcl jj _ C hy H.touch).mono ?_⟩⟩
      rintro e D ⟨rfl, hh2⟩
      have H := H.quiet hh2
      refine ⟨_, rfl, split_of (fun q1 => ?_) (fun q1 => ?_)⟩
      · have q1 : keepP s es[jj].2 = true := by simpa using q1
        have hsD : Sl D 288 1 (.slice (some ⟨g, o, none⟩) n c) n xs := by rw [← hpp]; exact H.nth 0 rfl
        obtain ⟨c1, c2, c3⟩ := slr_set hsD (j := ii) (by omega) (.pointer (some ⟨es[jj].1, 0, none⟩))
        refine ⟨⟨by omega, by omega⟩, adr_eq hpp ?_⟩
        rw [ix1]
        refine ⟨c1, c2, ?_⟩
        rintro E rfl z3 rfl z4 rfl
        rw [w64 (by omega) (by omega), w64 (by omega) (by omega)]
        rw [← hpp] at c3
        have H := H.upd 0 rfl c3
        have hfl : ((es.take (jj + 1)).filter fun x => keepP s x.2) = ((es.take jj).filter fun x => keepP s x.2) ++ [es[jj]] := by
          rw [List.take_add_one, hy, List.filter_append]
          simp [q1]
        refine ⟨⟨jj + 1, ii + 1, xs.set ii (.pointer (some ⟨es[jj].1, 0, none⟩)), by omega, by omega, by omega, by omega, ?_, ?_, ?_, by rw [List.length_set]; exact hxl, H⟩, by show n - ((jj : Int) + 1).toNat < n - (jj : Int).toNat; omega⟩
        · rw [hfl]
          unfold ptrs at htk ⊢
          rw [List.map_append, ← htk, List.take_add_one, List.take_set_of_le (Nat.le_refl _), List.getElem?_set_self (by omega)]
          rfl
        · rw [hfl, List.length_append, ← hii]; rfl
        · rw [List.drop_set, if_pos (by omega)]
          have := congrArg (List.drop 1) hdr
          rwa [List.drop_drop, List.drop_drop] at this
      · rintro z5 rfl
        rw [w64 (by omega) (by omega)]
        have q1 : keepP s es[jj].2 = false := by simpa using q1
        have hfl : ((es.take (jj + 1)).filter fun x => keepP s x.2) = ((es.take jj).filter fun x => keepP s x.2) := by
          rw [List.take_add_one, hy, List.filter_append]
          simp [q1]
        refine ⟨⟨jj + 1, ii, xs, by omega, rfl, by omega, by omega, by rw [hfl]; exact htk, by rw [hfl]; exact hii, ?_, hxl, H⟩, by show n - ((jj : Int) + 1).toNat < n - (jj : Int).toNat; omega⟩
        have := congrArg (List.drop 1) hdr
        rwa [List.drop_drop, List.drop_drop] at this
    · have q := of_decide_eq_false q
      have hjn : jj = es.length := by omega
      rw [hjn, List.take_length] at htk hii
      obtain ⟨d1, d2⟩ := sl_clear (i := ii) (H.nth 0 rfl) (by omega) (.pointer none)
      refine ⟨⟨by omega, by omega⟩, ?_⟩
      rw [Int.toNat_natCast]
      refine ⟨d1, ?_⟩
      rintro w' hw
      have H := H.upd 0 rfl (d2 w' hw)
      rw [htk] at H
      exact ⟨⟨by omega, by omega⟩, ii, rfl, H.post 0 rfl⟩
/-! ### Squash -/
theorem q_cut {w : World} {es' : Ens} {p' : Option Addr} {c' : Nat} {L : List Asn} (hsub : es'.Sublist q.es)
    (H : St W (qA b q).own w ([blk b #[.int .i64 q.size, .slice p' es'.length c'] 212, sl 288 1 (.slice p' es'.length c') es'.length (ptrs es'), entsA q.es] ++ L)) : Sep.Post (qA b q) W (qA b { q with p := p', cap := c', es := es' }) w := by
  have hs := ents_sub (W := w) hsub
  have H := H.conv 2 rfl (A' := entsA es') hs.2 hs.1
  exact q_shut (v := { q with p := p', cap := c', es := es' }) (L := L) H
theorem squash_any (h : (qA b q).at_ W) (hn : q.es.length ≤ 32) (s : Int) : Calls Tryz.prog 144 #[.pointer (some ⟨b, 0, none⟩), .int .i64 s] W fun e w => e = .returned (.tuple #[]) ∧ Sep.Post (qA b q) W (qA b { q with es := q.es.filter fun x => keepP s x.2 }) w := by
  refine vc144 b 0 s ((q_open h).al fun k A H => ?_)
  have H : St W (qA b q).own A [blk b q.root 212, sl 288 1 (.slice q.p q.es.length q.cap) q.es.length (ptrs q.es), entsA q.es, blk k #[.int .i64 s] 3] := H
  refine ⟨_, _, _, H.ld 0 rfl rfl, H.callx (E := fun m => .returned (.slice q.p m q.cap)) 1 rfl (delf_any (kb := k) (s := s) (H.nth 1 rfl) hn ?_) fun m B H => ⟨_, _, _, rfl, ?_⟩⟩
  · intro i x B hx ht
    have d2 : ∀ q', (entsA q.es).own q' → ¬ (sl 288 1 (.slice q.p q.es.length q.cap) q.es.length (ptrs q.es)).own q' := fun q' h1 => St.disj H.here 2 1 (by decide) rfl rfl q' h1
    have hE : (entsA q.es).at_ B := (entsA q.es).keep (H.nth 2 rfl) ht d2
    have d3 : ∀ q', (blk k #[.int .i64 s] 3).own q' → ¬ (sl 288 1 (.slice q.p q.es.length q.cap) q.es.length (ptrs q.es)).own q' := fun q' h1 => St.disj H.here 3 1 (by decide) rfl rfl q' h1
    exact squC_any (ent_blk hE hx) ((H.blk 3 rfl).keep ht (d3 k rfl))
  · refine H.st 0 rfl (by show 1 < 2; omega) fun C H => ⟨rfl, ?_⟩
    have hm : (ptrs (q.es.filter fun x => keepP s x.2)).length = m * 1 := (H.nth 1 rfl : Sl C 288 1 (.slice q.p m q.cap) m _).1
    rw [ptrs_len, Nat.mul_one] at hm
    subst hm
    exact q_cut (L := [blk k #[.int .i64 s] 3]) List.filter_sublist H
end Go.Proofs.YthacioiefgabbaaGreatDoor.lsq
/- The queue, part D: Retire, Oldest, Drain. No condition. -/
namespace Go.Proofs.YthacioiefgabbaaGreatDoor.lsq
open Go.RowKit Go.XHeap Go.Sx Go.Sep
set_option linter.unusedVariables false
set_option maxRecDepth 100000
variable {W w' : World} {b : Nat} {q v : PQ}

/-! ### Retire -/
inductive RetR where
  | err (n : Int)
  | ret (k : Nat)
  | del (k : Nat)
def retE (s : Int) (k : Nat) (e : En) : RetR := if e.seq ≠ s then .err 5 else if (e.store && e.placed && e.valued) = true then .ret k else if e.loaded = true then .del k else .err 7
def retireR (s : Int) (es : Ens) : RetR := match posOf (fun e => !e.retired) es with
  | none => .err 5
  | some k => match es[k]? with
    | none => .err 5
    | some x => retE s k x.2
def RetirePost (W : World) (b : Nat) (q : PQ) (s : Int) (e : Ending) (w : World) : Prop := match retireR s q.es with
  | .err n => e = .returned (errN n) ∧ Sep.Post (qA b q) W (qA b q) w
  | .ret k => e = .returned .nilIface ∧ ∃ x, q.es[k]? = some x ∧ Sep.Post (qA b q) W (qA b { q with es := q.es.set k (x.1, { x.2 with retired := true }) }) w
  | .del k => e = .returned .nilIface ∧ ∃ (p : Option Addr) (c : Nat), Sep.Post (qA b q) W (qA b { q with p := p, cap := c, es := q.es.eraseIdx k }) w
theorem retC_any {A : World} {x : Nat × En} (hb : Blk A x.1 x.2.cells 287) : Calls Tryz.prog 200 #[.pointer (some ⟨x.1, 0, none⟩)] A fun e w => e = .returned (.bool (!x.2.retired)) ∧ Hush A w :=
  vc200 x.1 0 ⟨x.2.retired, hb.cell' rfl, rfl, XTouch.refl _ _⟩
/-- one is deleted -/
theorem q_del {A : World} {k : Nat} (hn : q.es.length ≤ 32) (hk : k < q.es.length) (H : St W (qA b q).own A (q.pieces b ++ [])) {φ : World → Prop}
    (hq : ∀ p c w, Sep.Post (qA b q) W (qA b { q with p := p, cap := c, es := q.es.eraseIdx k }) w → φ w) :
    ∃ p6 k11 k12, A.cell? ⟨b, 0 + 1, none⟩ = some (.slice p6 k11 k12) ∧ ∀ z3 : Int, z3 = IntKind.wrap .i64 ((k : Int) + 1) → Calls Tryz.prog 182 #[.slice p6 k11 k12, .int .i64 (k : Nat), .int .i64 z3] A fun e2 W4 => ∃ p7 k13 k14, e2 = .returned (.slice p7 k13 k14) ∧
      (∃ u, W4.cell? ⟨b, 0 + 1, none⟩ = some u) ∧ W4.frozen? ⟨b, 0 + 1, none⟩ = false ∧ ∀ W5 : World, W5 = W4.setCell ⟨b, 0 + 1, none⟩ (.slice p7 k13 k14) → φ W5 := by
  refine ⟨_, _, _, H.ld 0 rfl rfl, ?_⟩
  rintro z3 rfl
  rw [w64 (by omega) (by omega)]
  refine H.callx (E := fun z : Option Addr × Nat => .returned (.slice z.1 (q.es.length - 1) z.2)) 1 rfl (del_any (H.nth 1 rfl) hn hk) fun z B H => ⟨_, _, _, rfl, ?_⟩
  refine H.st 0 rfl (by show 1 < 2; omega) fun C H => hq z.1 z.2 C ?_
  have hl : (q.es.eraseIdx k).length = q.es.length - 1 := by rw [List.length_eraseIdx, if_pos hk]
  refine q_cut (L := []) (List.eraseIdx_sublist _ _) ?_
  rw [hl]
  exact H
theorem retire_any (h : (qA b q).at_ W) (hn : q.es.length ≤ 32) (s : Int) : Calls Tryz.prog 150 #[.pointer (some ⟨b, 0, none⟩), .int .i64 s] W (RetirePost W b q s) := by
  have H := q_open h
  refine vc150 b 0 s ⟨_, _, _, H.ld 0 rfl rfl, (idx_r (H.nth 1 rfl) hn (fun e => !e.retired) fun i x B hx hh => retC_any ((ent_blk (H.nth 2 rfl) hx).keep hh (fun e => e))).mono ?_⟩
  rintro e A ⟨rfl, hh⟩
  have bad : ∀ n, retireR s q.es = .err n → RetirePost W b q s (.returned (errN n)) A := fun n e => by unfold RetirePost; rw [e]; exact ⟨rfl, q_same h hh⟩
  have H : St W (qA b q).own A (q.pieces b ++ []) := H.quiet hh
  cases hp : posOf (fun e => !e.retired) q.es with
  | none => exact ⟨-1, rfl, split_of (fun _ => bad 5 (by unfold retireR; rw [hp])) (fun q => by simp at q)⟩
  | some k =>
    obtain ⟨x, hx, -, -⟩ := pos_some hp
    have hkl := (List.getElem?_eq_some_iff.1 hx).1
    obtain ⟨g, o, hpp, hc⟩ := ptr_at (H.nth 1 rfl) hx
    have hB := ent_blk (H.nth 2 rfl) hx
    have hr : retireR s q.es = retE s k x.2 := by unfold retireR; rw [hp]; show (match q.es[k]? with | none => _ | some x => _) = _; rw [hx]
    refine ⟨((k : Nat) : Int), rfl, split_of (fun q => ?_) (fun _ => ?_)⟩
    · have := of_decide_eq_true q; omega
    refine ⟨_, _, _, H.ld 0 rfl rfl, ⟨by omega, by omega⟩, adr_eq hpp ⟨_, hc, ptr_some ⟨x.2.seq, by rw [add_none]; exact hB.cell' rfl, split_of (fun q1 => bad 5 (by rw [hr]; unfold retE; rw [if_pos (by simpa using q1)])) (fun q1 => ?_)⟩⟩⟩
    have q1 : ¬ x.2.seq ≠ s := by simpa using q1
    have tail : (x.2.store && x.2.placed && x.2.valued) = false → Sx.ptr (some ⟨x.1, 0, none⟩) fun a => ∃ t : Bool, A.cell? (a.add 7) = some (.bool t) ∧ Sx.split t (∃ p6 k11 k12, A.cell? ⟨b, 0 + 1, none⟩ = some (.slice p6 k11 k12) ∧ ∀ z3 : Int, z3 = IntKind.wrap .i64 ((k : Int) + 1) → Calls Tryz.prog 182 #[.slice p6 k11 k12, .int .i64 (k : Nat), .int .i64 z3] A fun e2 W4 => ∃ p7 k13 k14, e2 = .returned (.slice p7 k13 k14) ∧
      (∃ u, W4.cell? ⟨b, 0 + 1, none⟩ = some u) ∧ W4.frozen? ⟨b, 0 + 1, none⟩ = false ∧ ∀ W5 : World, W5 = W4.setCell ⟨b, 0 + 1, none⟩ (.slice p7 k13 k14) → RetirePost W b q s (.returned .nilIface) W5) (RetirePost W b q s (.returned (errN 7)) A) := by
      intro hno
      refine ptr_some ⟨x.2.loaded, by rw [add_none]; exact hB.cell' rfl, split_of (fun q2 => ?_) (fun q2 => ?_)⟩
      · refine q_del hn hkl H fun p c w hP => ?_
        unfold RetirePost
        rw [hr]
        unfold retE
        rw [if_neg q1, if_neg (by rw [hno]; decide), if_pos q2]
        exact ⟨rfl, p, c, hP⟩
      · exact bad 7 (by rw [hr]; unfold retE; rw [if_neg q1, if_neg (by rw [hno]; decide), if_neg (by rw [q2]; decide)])
    refine ⟨_, _, _, H.ld 0 rfl rfl, ⟨by omega, by omega⟩, adr_eq hpp ⟨_, hc, ptr_some ⟨x.2.store, by rw [add_none]; exact hB.cell' rfl, split_of (fun q2 => ?_) (fun q2 => tail (by rw [q2]; rfl))⟩⟩⟩
    refine ptr_some ⟨x.2.placed, by rw [add_none]; exact hB.cell' rfl, split_of (fun q3 => ?_) (fun q3 => tail (by rw [q2, q3]; rfl))⟩
    refine ptr_some ⟨x.2.valued, by rw [add_none]; exact hB.cell' rfl, split_of (fun q4 => ?_) (fun q4 => tail (by rw [q2, q3, q4]; rfl))⟩
    refine ptr_some ?_
    rw [add_none]
    refine H.ent 2 rfl hx { x.2 with retired := true } (by omega) rfl fun C H => ?_
    unfold RetirePost
    rw [hr]
    unfold retE
    rw [if_neg q1, if_pos (by rw [q2, q3, q4]; rfl)]
    exact ⟨rfl, x, hx, q_turned hx (L := []) H⟩
/-! ### Oldest -/
def oldestOf (es : Ens) : Option En := match es with
  | x :: _ => if x.2.retired then some x.2 else none
  | [] => none
theorem oldest_cons (x : Nat × En) (r : Ens) : oldestOf (x :: r) = if x.2.retired then some x.2 else none := rfl
def wrV : Option En → Array Value
  | some e => #[.int .u32 e.addr, .int .i64 e.size, .int .u32 ((e.data % 2 ^ (8 * e.size) : Nat) : Int)]
  | none => #[.int .u32 0, .int .i64 0, .int .u32 0]
def AllOk (es : Ens) : Prop := ∀ x ∈ es, x.2.Ok
theorem oldest_any (h : (qA b q).at_ W) (ho : AllOk q.es) : Calls Tryz.prog 79 #[.pointer (some ⟨b, 0, none⟩)] W fun e w => e = .returned (.tuple #[.agg (wrV (oldestOf q.es)), .bool (oldestOf q.es).isSome]) ∧ Hush W w := by
  refine vc79 b 0 ((St.nil W).al fun k A H => ?_)
  have H : St W No A [blk k #[.int .u32 0, .int .i64 0, .int .u32 0] 233] := H
  have R := q_open ((qA b q).keep h H.touch (fun _ _ e => e))
  have out : ∀ {B : World} (vs : Array Value) (t : Bool), vs.size = 3 → (∀ v ∈ vs.toList, v.oneCell' = true) → St W No B [blk k #[.int .u32 0, .int .i64 0, .int .u32 0] 233] → vs = wrV (oldestOf q.es) → t = (oldestOf q.es).isSome →
      vs.size = 3 ∧ (∀ j : Nat, j < 3 → (∃ v, B.cell? ⟨k, 0 + j, none⟩ = some v) ∧ B.frozen? ⟨k, 0 + j, none⟩ = false) ∧ (∀ v : Value, v ∈ vs.toList → v.oneCell' = true) ∧ ∀ w' : World, w' = B.setCells k 0 vs.toList → ∃ vs2 : Array Value, vs2.size = 3 ∧ cellsAt w' ⟨k, 0, none⟩ vs2 ∧ (Ending.returned (.tuple #[.agg vs2, .bool t]) = .returned (.tuple #[.agg (wrV (oldestOf q.es)), .bool (oldestOf q.es).isSome]) ∧ Hush W w') := by
    intro B vs t hs h1 H e1 e2
    refine H.sts0 0 rfl hs rfl h1 fun C H => ⟨vs, hs, H.cells 0 rfl, ?_, H.touch⟩
    rw [e1, e2]
  have one0 : ∀ v ∈ (#[Value.int .u32 0, .int .i64 0, .int .u32 0] : Array Value).toList, v.oneCell' = true := by intro v hv; simp at hv; rcases hv with rfl | rfl | rfl <;> rfl
  refine ⟨_, _, _, R.ld 0 rfl rfl, split_of (fun q0 => ?_) (fun q0 => ?_)⟩
  · have q0 : q.es = [] := List.eq_nil_of_length_eq_zero (by have : ((q.es.length : Nat) : Int) = 0 := by simpa using q0
                                                             omega)
    rintro vs rfl
    exact out _ false rfl one0 H (by rw [q0]; rfl) (by rw [q0]; rfl)
  have q0 : q.es.length ≠ 0 := fun e => by rw [e] at q0; simp at q0
  obtain ⟨x, r, hes⟩ : ∃ x r, q.es = x :: r := by
    match hq : q.es with
    | [] => rw [hq] at q0; exact absurd rfl q0
    | x :: r => exact ⟨x, r, rfl⟩
  have hx : q.es[0]? = some x := by rw [hes]; rfl
  have hxo := ho x (List.mem_of_getElem? hx)
  obtain ⟨g, o, hpp, hc⟩ := ptr_at (R.nth 1 rfl) hx
  have hc : A.cell? ⟨g, o + 0, none⟩ = some (.pointer (some ⟨x.1, 0, none⟩)) := hc
  have hB := ent_blk (R.nth 2 rfl) hx
  refine ⟨_, _, _, R.ld 0 rfl rfl, ⟨by omega, by omega⟩, adr_eq hpp ⟨_, hc, ptr_some ⟨x.2.retired, by rw [add_none]; exact hB.cell' rfl, split_of (fun q1 => ?_) (fun q1 => ?_)⟩⟩⟩
  · have q1 : x.2.retired = false := by simpa using q1
    have e : oldestOf q.es = none := by rw [hes, oldest_cons, q1]; rfl
    rintro vs rfl
    exact out _ false rfl one0 H (by rw [e]; rfl) (by rw [e]; rfl)
  · have q1 : x.2.retired = true := by simpa using q1
    have e : oldestOf q.es = some x.2 := by rw [hes, oldest_cons, q1]; rfl
    refine ⟨_, _, _, R.ld 0 rfl rfl, ⟨by omega, by omega⟩, adr_eq hpp ⟨_, hc, ?_⟩⟩
    refine H.dr fun B H => ?_
    have R := q_open ((qA b q).keep h H.touch (fun _ _ e => e))
    have hB := ent_blk (R.nth 2 rfl) hx
    refine ptr_some ⟨x.2.addr, by rw [add_none]; exact hB.cell' rfl, ptr_some ⟨x.2.size, by rw [add_none]; exact hB.cell' rfl, ptr_some ⟨x.2.data, by rw [add_none]; exact hB.cell' rfl, ptr_some ⟨x.2.size, by rw [add_none]; exact hB.cell' rfl, ?_⟩⟩⟩⟩
    have hsz : x.2.size = 1 ∨ x.2.size = 2 ∨ x.2.size = 4 := by
      have h1 := hxo.siz (hxo.ret q1).2.1
      rcases hxo.size with h2 | h2
      · exact absurd h2 h1
      · exact h2
    have hd := hxo.data
    rintro z5 rfl
    rw [w64 (e := 8 * (x.2.size : Int)) (by omega) (by omega)]
    rintro z6 rfl
    rw [w64 (e := 32 - 8 * (x.2.size : Int)) (by omega) (by omega)]
    refine ⟨by omega, ?_⟩
    rintro z7 rfl
    refine ptr_some ⟨x.2.size, by rw [add_none]; exact hB.cell' rfl, ?_⟩
    rintro z9 rfl
    rw [w64 (e := 8 * (x.2.size : Int)) (by omega) (by omega)]
    rintro z10 rfl
    rw [w64 (e := 32 - 8 * (x.2.size : Int)) (by omega) (by omega)]
    refine ⟨by omega, ?_⟩
    rintro z11 rfl
    rintro vs rfl
    refine out _ true rfl (by intro v hv; simp at hv; rcases hv with rfl | rfl | rfl <;> rfl) H ?_ (by rw [e]; rfl)
    rw [e]
    unfold wrV
    have key : (IntKind.wrap .u32 ((x.2.data : Int) * 2 ^ min (32 - 8 * (x.2.size : Int)).toNat (IntKind.bits .u32))).fdiv (2 ^ min (32 - 8 * (x.2.size : Int)).toNat (IntKind.bits .u32)) = ((x.2.data % 2 ^ (8 * x.2.size) : Nat) : Int) := by
      rw [w32m]
      have hbits : IntKind.bits .u32 = 32 := rfl
      rw [hbits]
      rcases hsz with e | e | e
      · rw [e]
        show (((x.2.data : Int) * 16777216) % 4294967296).fdiv 16777216 = ((x.2.data % 256 : Nat) : Int)
        rw [Int.fdiv_eq_ediv_of_nonneg _ (by decide)]
        omega
      · rw [e]
        show (((x.2.data : Int) * 65536) % 4294967296).fdiv 65536 = ((x.2.data % 65536 : Nat) : Int)
        rw [Int.fdiv_eq_ediv_of_nonneg _ (by decide)]
        omega
      · rw [e]
        show (((x.2.data : Int) * 1) % 4294967296).fdiv 1 = ((x.2.data % 4294967296 : Nat) : Int)
        rw [Int.fdiv_eq_ediv_of_nonneg _ (by decide)]
        omega
    rw [key]
/-! ### Drain -/
end Go.Proofs.YthacioiefgabbaaGreatDoor.lsq
