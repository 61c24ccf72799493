/- The plain law, part B: the bus coheres: Read, Write, the transaction. No condition. -/
import Derived.Test.YtbiogceijdcoiaaCohA
import Derived.Test.YtbiogceijdcoiaaBusH
namespace Go.Proofs.Ytbiogceijdcoiaa
open Go.RowKit Go.XHeap Go.Sx Go.Sep
set_option linter.unusedVariables false
set_option maxRecDepth 100000
variable {S S' : PB} {F : List Nat} {m : Nat}
def seg (l : List Nat) (L : Nat) : List Nat := (l.drop (L - 65536)).take 16
theorem seg_get (l : List Nat) (L i : Nat) (hi : i < 16) : (seg l L)[i]? = l[L - 65536 + i]? := by
  unfold seg
  rw [List.getElem?_take_of_lt hi, List.getElem?_drop]
theorem seg_len {l : List Nat} {L : Nat} (h : LineOk l.length L) : (seg l L).length = 16 := by
  unfold LineOk at h
  unfold seg; simp; omega
theorem seg_ext {l l' : List Nat} {L L' : Nat} (h : ∀ i, i < 16 → l[L - 65536 + i]? = l'[L' - 65536 + i]?) : seg l L = seg l' L' := by
  apply List.ext_getElem?
  intro i
  by_cases hi : i < 16
  · rw [seg_get _ _ _ hi, seg_get _ _ _ hi, h i hi]
  · unfold seg
    rw [List.getElem?_eq_none (by simp; omega), List.getElem?_eq_none (by simp; omega)]
theorem all_ext {l l' : List Nat} (h1 : l.length = 256) (h2 : l'.length = 256) (h : ∀ L, LineOk 256 L → seg l L = seg l' L) : l = l' := by
  apply List.ext_getElem?
  intro i
  by_cases hi : i < 256
  · have := h (65536 + i / 16 * 16) (by unfold LineOk; omega)
    have e := congrArg (·[i % 16]?) this
    rw [seg_get _ _ _ (by omega), seg_get _ _ _ (by omega), show 65536 + i / 16 * 16 - 65536 + i % 16 = i by omega] at e
    exact e
  · rw [List.getElem?_eq_none (by omega), List.getElem?_eq_none (by omega)]
theorem putL_get {l v : List Nat} {o : Nat} (h : o + v.length ≤ l.length) (i : Nat) : (putL l o v)[i]? = if o ≤ i ∧ i < o + v.length then v[i - o]? else l[i]? := by
  unfold putL
  have h1 : (l.take o).length = o := by simp; omega
  rw [List.append_assoc]
  by_cases c1 : i < o
  · rw [if_neg (by omega), List.getElem?_append_left (by omega), List.getElem?_take_of_lt c1]
  · rw [List.getElem?_append_right (by omega), h1]
    by_cases c2 : i < o + v.length
    · rw [if_pos (by omega), List.getElem?_append_left (by omega)]
    · rw [if_neg (by omega), List.getElem?_append_right (by omega), List.getElem?_drop]
      congr 1; omega
theorem seg_putL {l b : List Nat} {L L0 : Nat} (hl : l.length = 256) (hb : b.length = 16) (h0 : LineOk 256 L0) (h : LineOk 256 L) : seg (putL l (L0 - 65536) b) L = if L = L0 then b else seg l L := by
  unfold LineOk at h0 h
  split
  · rename_i e
    subst e
    apply List.ext_getElem?
    intro i
    by_cases hi : i < 16
    · rw [seg_get _ _ _ hi, putL_get (by omega), if_pos (by omega), Nat.add_sub_cancel_left]
    · unfold seg
      rw [List.getElem?_eq_none (by simp; omega), List.getElem?_eq_none (by omega)]
  · rename_i e
    refine seg_ext fun i hi => ?_
    rw [putL_get (by omega), if_neg (by omega)]
theorem seg_keep {l : List Nat} {y : Way} {L : Nat} (hl : l.length = 256) (hy : y.Ok) (h0 : y.state ≠ 0 → LineOk 256 y.line) (h : LineOk 256 L) : seg (keepM l y) L = if y.state = 3 ∧ y.line = L then y.bytes else seg l L := by
  unfold keepM
  by_cases e : y.state = 3
  · rw [if_pos e, seg_putL hl hy.len (h0 (by omega)) h]
    by_cases e2 : L = y.line
    · rw [if_pos e2, if_pos ⟨e, e2.symm⟩]
    · rw [if_neg e2, if_neg (fun q => e2 q.2.symm)]
  · rw [if_neg e, if_neg (fun q => e q.1)]
theorem seg_set (l : List Nat) (L q x : Nat) (h : ¬ (L - 65536 ≤ q ∧ q < L - 65536 + 16)) : seg (l.set q x) L = seg l L :=
  seg_ext fun i hi => by rw [List.getElem?_set_ne (by omega)]
theorem seg_set_same (l : List Nat) (L p x : Nat) (hp : p < 16) : seg (l.set (L - 65536 + p) x) L = (seg l L).set p x := by
  apply List.ext_getElem?
  intro i
  by_cases hi : i < 16
  · rw [seg_get _ _ _ hi, List.getElem?_set, List.getElem?_set]
    by_cases e : p = i
    · subst e
      rw [if_pos rfl, if_pos rfl]
      have hl : (seg l L).length = min 16 (l.length - (L - 65536)) := by unfold seg; simp
      by_cases c : L - 65536 + p < l.length
      · rw [if_pos c, if_pos (by omega)]
      · rw [if_neg c, if_neg (by omega)]
    · rw [if_neg (by omega), if_neg e, seg_get _ _ _ hi]
  · have hl : ∀ l : List Nat, (seg l L).length ≤ 16 := fun l => by unfold seg; simp; omega
    rw [List.getElem?_eq_none (by have := hl (l.set (L - 65536 + p) x); omega), List.getElem?_eq_none (by rw [List.length_set]; have := hl l; omega)]
theorem seg_wr (l : List Nat) (L k d : Nat) : ∀ s, k + s ≤ 16 → seg (wrN l (L - 65536 + k) d s) L = wrN (seg l L) k d s
  | 0, _ => rfl
  | s + 1, h => by
    show seg ((wrN l (L - 65536 + k) d s).set (L - 65536 + k + s) _) L = (wrN (seg l L) k d s).set (k + s) _
    rw [show L - 65536 + k + s = L - 65536 + (k + s) by omega, seg_set_same _ _ _ _ (by omega), seg_wr l L k d s (by omega)]
theorem seg_wr_ne (l : List Nat) (L A d : Nat) : ∀ s, (∀ i, i < s → ¬ (L - 65536 ≤ A + i ∧ A + i < L - 65536 + 16)) → seg (wrN l A d s) L = seg l L
  | 0, _ => rfl
  | s + 1, h => by
    show seg ((wrN l A d s).set (A + s) _) L = _
    rw [seg_set _ _ _ _ (h s (by omega)), seg_wr_ne l L A d s (fun i hi => h i (by omega))]
/-- WHAT HOLDS OF THE BUS: 'F' is what was written last -/
structure Coh (S : PB) (F : List Nat) : Prop where
  n : S.Cs.length = 2
  len : S.mem.length = 256
  fl : F.length = 256
  tidy : ∀ k, k < 2 → (S.C k).Tidy
  excl : ∀ k k' L s b s' b', k < 2 → k' < 2 → k ≠ k' → Has (S.C k) L s b → Has (S.C k') L s' b' → s = 1 ∧ s' = 1
  cur : ∀ k L s b, k < 2 → Has (S.C k) L s b → b = seg F L
  mem : ∀ L, LineOk 256 L → (∀ k b, k < 2 → ¬ Has (S.C k) L 3 b) → seg S.mem L = seg F L
theorem Coh.of (h : Coh S F) (e1 : S'.Cs = S.Cs) (e2 : S'.mem = S.mem) : Coh S' F := by
  have e : ∀ k, S'.C k = S.C k := fun k => by unfold PB.C; rw [e1]
  refine ⟨by rw [e1]; exact h.n, by rw [e2]; exact h.len, h.fl, fun k hk => by rw [e]; exact h.tidy k hk, fun k k' L s b s' b' => ?_, fun k L s b => ?_, fun L hL => ?_⟩
  · rw [e, e]; exact h.excl k k' L s b s' b'
  · rw [e]; exact h.cur k L s b
  · intro hn
    rw [e2]
    exact h.mem L hL fun k b hk => by have := hn k b hk; rw [e] at this; exact this
/-- a cache of which the lines are as before -/
theorem Coh.same (h : Coh S F) {k : Nat} (hk : k < 2) {C : CS} (ht : C.Tidy) (hC : ∀ L s b, Has C L s b ↔ Has (S.C k) L s b) : Coh (S.setC k C) F := by
  have hk2 : k < S.Cs.length := by rw [h.n]; exact hk
  have e : ∀ j L s b, Has ((S.setC k C).C j) L s b ↔ Has (S.C j) L s b := fun j L s b => by
    rw [setC_C hk2]
    split
    · rename_i q; subst q; exact hC L s b
    · exact Iff.rfl
  refine ⟨by show (S.Cs.set k C).length = 2; rw [List.length_set]; exact h.n, h.len, h.fl, fun j hj => ?_, fun k k' L s b s' b' h1 h2 h3 h4 h5 => h.excl k k' L s b s' b' h1 h2 h3 ((e _ _ _ _).1 h4) ((e _ _ _ _).1 h5), fun k L s b h1 h2 => h.cur k L s b h1 ((e _ _ _ _).1 h2), fun L hL hn => h.mem L hL fun k b hk => fun q => hn k b hk ((e _ _ _ _).2 q)⟩
  rw [setC_C hk2]
  split
  · exact ht
  · exact h.tidy j hj
theorem Coh.ok (h : Coh S F) (ho : S.Ok m) {k : Nat} (hk : k < 2) : (S.C k).Ok := (ho.cs k (by rw [h.n]; exact hk)).ok
/-- where a line is held it is one of the memory's -/
theorem Coh.line (h : Coh S F) (ho : S.Ok m) {k L s : Nat} {b : List Nat} (hk : k < 2) (hh : Has (S.C k) L s b) : LineOk 256 L := by
  obtain ⟨i, j, y, h1, rfl, rfl, -⟩ := hh
  have hg := ho.cs k (by rw [h.n]; exact hk)
  have hm := CS.set_mem hg.ok h1.1
  have := hg.line _ hm y (List.mem_of_getElem? h1.2.1) h1.2.2
  unfold PB.len at this
  rw [h.len] at this
  exact this
theorem within_of (h : Coh S F) {c a : Nat} (hc : c < 2) (ha : a < 256) : S.within (c : Nat) (65536 + a) = true := by
  unfold PB.within PB.len
  rw [h.n, h.len]
  exact decide_eq_true (by omega)
theorem state_of (h : Coh S F) {c a : Nat} (hc : c < 2) (ha : a < 256) : S.state (c : Nat) (65536 + a) = (S.C c).stateAt (65536 + a) := by
  unfold PB.state
  rw [within_of h hc ha, Int.toNat_natCast]; rfl
/-! ### Read, Write -/
theorem coh_read (h : Coh S F) (ho : S.Ok m) {c a s : Nat} (hc : c < 2) (ha : a < 256) (hs : s = 1 ∨ s = 2 ∨ s = 4) (hal : a % s = 0) (hst : 1 ≤ S.state c (65536 + a)) :
    S.readT c (65536 + a) s = true ∧ S.readV c (65536 + a) s = le ((F.drop a).take s) ∧ Coh (S.readN c (65536 + a) s) F := by
  rw [state_of h hc ha] at hst
  have hw := within_of h hc ha
  have hok := h.ok ho hc
  obtain ⟨bs, hb⟩ := state_has hok (a := 65536 + a) (by omega)
  have hf : fitsAt (65536 + a) s := ⟨by omega, by rw [Int.toNat_natCast]; rcases hs with rfl | rfl | rfl <;> omega⟩
  obtain ⟨r1, r2⟩ := read_has hok (h.tidy c hc) hb hf
  unfold PB.readT PB.readV PB.readN
  rw [hw, Int.toNat_natCast]
  refine ⟨r1, r2.trans ?_, ?_⟩
  · rw [h.cur c _ _ _ hc hb, Int.toNat_natCast]
    congr 1
    apply List.ext_getElem?
    intro i
    by_cases hi : i < s
    · rw [List.getElem?_take_of_lt hi, List.getElem?_take_of_lt hi, List.getElem?_drop, List.getElem?_drop, seg_get _ _ _ (by rcases hs with rfl | rfl | rfl <;> omega), show (65536 + a) / 16 * 16 - 65536 + ((65536 + a) % 16 + i) = a + i by omega]
    · rw [List.getElem?_eq_none (by simp; omega), List.getElem?_eq_none (by simp; omega)]
  · obtain ⟨t1, t2⟩ := readN_has hok (h.tidy c hc) (65536 + a) s
    exact h.same hc t1 t2
theorem coh_write (h : Coh S F) (ho : S.Ok m) {c a s d : Nat} (hc : c < 2) (ha : a < 256) (hs : s = 1 ∨ s = 2 ∨ s = 4) (hal : a % s = 0) (hst : 2 ≤ S.state c (65536 + a)) :
    S.writeT c (65536 + a) s = true ∧ Coh (S.writeN c (65536 + a) s d) (wrN F a d s) := by
  rw [state_of h hc ha] at hst
  have hw := within_of h hc ha
  have hok := h.ok ho hc
  obtain ⟨bs, hb⟩ := state_has hok (a := 65536 + a) (by omega)
  have hf : fitsAt (65536 + a) s := ⟨by omega, by rw [Int.toNat_natCast]; rcases hs with rfl | rfl | rfl <;> omega⟩
  obtain ⟨t1, t2, t3⟩ := writeN_has hok (h.tidy c hc) (d := d) hb hst hf
  rw [Int.toNat_natCast] at t3
  unfold PB.writeT PB.writeN
  rw [hw, Int.toNat_natCast]
  refine ⟨t2, ?_⟩
  show Coh (S.setC c ((S.C c).writeN (65536 + a) s d)) (wrN F a d s)
  generalize (S.C c).writeN (65536 + a) s d = C' at t1 t3
  have hk2 : c < S.Cs.length := by rw [h.n]; exact hc
  have hCe : ∀ j, (S.setC c C').C j = if c = j then C' else S.C j := fun j => setC_C hk2 C'
  have hcur := h.cur c _ _ _ hc hb
  have hseg : seg (wrN F a d s) ((65536 + a) / 16 * 16) = wrN bs ((65536 + a) % 16) d s := by
    have := seg_wr F ((65536 + a) / 16 * 16) ((65536 + a) % 16) d s (by rcases hs with rfl | rfl | rfl <;> omega)
    rw [show (65536 + a) / 16 * 16 - 65536 + (65536 + a) % 16 = a by omega] at this
    rw [this, hcur]
  have hne : ∀ L, LineOk 256 L → L ≠ (65536 + a) / 16 * 16 → seg (wrN F a d s) L = seg F L := fun L hL hn => by
    unfold LineOk at hL
    exact seg_wr_ne F L a d s (fun i hi => by rcases hs with rfl | rfl | rfl <;> omega)
  have alone : ∀ k s b, k < 2 → c ≠ k → ¬ Has (S.C k) ((65536 + a) / 16 * 16) s b := fun k s b hk hn hh => by
    have := (h.excl c k _ _ _ _ _ hc hk hn hb hh).1
    omega
  have other : ∀ k L s b, k < 2 → c ≠ k → Has (S.C k) L s b → L ≠ (65536 + a) / 16 * 16 := fun k L s b hk hn hh e => alone k s b hk hn (e ▸ hh)
  refine ⟨by show (S.Cs.set c C').length = 2; rw [List.length_set]; exact h.n, h.len, by rw [wrN_len]; exact h.fl, fun j hj => ?_, ?_, ?_, ?_⟩
  · rw [hCe]
    split
    · exact t1
    · exact h.tidy j hj
  · intro k k' L s1 b1 s2 b2 hk hk' hn h1 h2
    rw [hCe] at h1 h2
    by_cases e : c = k
    · rw [if_pos e] at h1
      rw [if_neg (by omega)] at h2
      have hL := other k' L _ _ hk' (by omega) h2
      rcases (t3 _ _ _).1 h1 with ⟨q, -⟩ | ⟨h1, -⟩
      · exact absurd q hL
      · exact h.excl c k' L _ _ _ _ hc hk' (by omega) h1 h2
    · rw [if_neg e] at h1
      by_cases e' : c = k'
      · rw [if_pos e'] at h2
        have hL := other k L _ _ hk e h1
        rcases (t3 _ _ _).1 h2 with ⟨q, -⟩ | ⟨h2, -⟩
        · exact absurd q hL
        · exact h.excl k c L _ _ _ _ hk hc (by omega) h1 h2
      · rw [if_neg e'] at h2
        exact h.excl k k' L _ _ _ _ hk hk' hn h1 h2
  · intro k L s1 b1 hk h1
    rw [hCe] at h1
    by_cases e : c = k
    · rw [if_pos e] at h1
      rcases (t3 _ _ _).1 h1 with ⟨rfl, -, rfl⟩ | ⟨h1, hL⟩
      · exact hseg.symm
      · rw [hne L (h.line ho hc h1) hL]
        exact h.cur c _ _ _ hc h1
    · rw [if_neg e] at h1
      rw [hne L (h.line ho hk h1) (other k L _ _ hk e h1)]
      exact h.cur k _ _ _ hk h1
  · intro L hL hn
    show seg S.mem L = _
    by_cases e : L = (65536 + a) / 16 * 16
    · have := hn c (wrN bs ((65536 + a) % 16) d s) hc
      rw [hCe, if_pos rfl] at this
      exact absurd ((t3 _ _ _).2 (.inl ⟨e, rfl, rfl⟩)) this
    · rw [hne L hL e]
      refine h.mem L hL fun k b hk hh => ?_
      have := hn k b hk
      rw [hCe] at this
      by_cases e2 : c = k
      · rw [if_pos e2] at this
        subst e2
        exact this ((t3 _ _ _).2 (.inr ⟨hh, e⟩))
      · rw [if_neg e2] at this
        exact this hh
end Go.Proofs.Ytbiogceijdcoiaa
