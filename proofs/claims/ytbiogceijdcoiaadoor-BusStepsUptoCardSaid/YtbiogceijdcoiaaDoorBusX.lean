/- The document's bus, part X: Data. No condition. -/
import Derived.Test.YtbiogceijdcoiaaDoorBusV
namespace Go.Proofs.YtbiogceijdcoiaaDoor
open Go.RowKit Go.XHeap Go.Sx Go.Sep
set_option linter.unusedVariables false
set_option maxRecDepth 100000
variable {W w : World} {b m : Nat} {P P' : RP} {S S' : PB} {L : List Asn}
/-! ### in whatever order lines are laid in -/
theorem putL_get {l v : List Nat} {o : Nat} (h : o + v.length ≤ l.length) (i : Nat) : (putL l o v)[i]? = if o ≤ i ∧ i < o + v.length then v[i - o]? else l[i]? := by
  unfold putL
  by_cases c1 : i < o
  · rw [if_neg (by omega), List.getElem?_append_left (by simp; omega), List.getElem?_append_left (by simp; omega), List.getElem?_take_of_lt c1]
  · by_cases c2 : i < o + v.length
    · rw [if_pos ⟨by omega, c2⟩, List.getElem?_append_left (by simp; omega), List.getElem?_append_right (by simp; omega)]
      congr 1
      simp; omega
    · rw [if_neg (by omega), List.getElem?_append_right (by simp; omega), List.getElem?_drop]
      congr 1
      simp; omega
theorem keepM_get {l : List Nat} {y : Way} (ho : y.Ok) (hl : LineOk l.length y.line) (i : Nat) : (keepM l y)[i]? = if y.state = 3 ∧ y.line - 65536 ≤ i ∧ i < y.line - 65536 + 16 then y.bytes[i - (y.line - 65536)]? else l[i]? := by
  have h16 := ho.len
  unfold LineOk at hl
  unfold keepM
  by_cases e : y.state = 3
  · rw [if_pos e, putL_get (by omega), h16]
    by_cases c : y.line - 65536 ≤ i ∧ i < y.line - 65536 + 16
    · rw [if_pos c, if_pos ⟨e, c⟩]
    · rw [if_neg c, if_neg (fun h => c h.2)]
  · rw [if_neg e, if_neg (fun h => e h.1)]
theorem keepM_comm {l : List Nat} {x y : Way} (hx : x.Ok) (hy : y.Ok) (lx : LineOk l.length x.line) (ly : LineOk l.length y.line) (hne : x.line ≠ y.line ∨ x = y) : keepM (keepM l x) y = keepM (keepM l y) x := by
  rcases hne with hne | rfl
  · apply List.ext_getElem?
    intro i
    have e1 := keepM_len hx (l := l) (fun _ => lx)
    have e2 := keepM_len hy (l := l) (fun _ => ly)
    rw [keepM_get hy (by rw [e1]; exact ly), keepM_get hx lx, keepM_get hx (by rw [e2]; exact lx), keepM_get hy ly]
    unfold LineOk at lx ly
    by_cases c1 : y.state = 3 ∧ y.line - 65536 ≤ i ∧ i < y.line - 65536 + 16
    · rw [if_pos c1]
      rw [if_neg (by omega), if_pos c1]
    · rw [if_neg c1, if_neg c1]
  · rfl
theorem fold_perm {len : Nat} : ∀ {xs ys : List Way}, xs.Perm ys → (∀ x ∈ xs, x.Ok ∧ LineOk len x.line) → (∀ x ∈ xs, ∀ y ∈ xs, x.line ≠ y.line ∨ x = y) → ∀ l : List Nat, l.length = len → xs.foldl keepM l = ys.foldl keepM l := by
  intro xs ys hp
  induction hp with
  | nil => intro _ _ l _; rfl
  | @cons x xs ys _ ih =>
    intro h1 h2 l hl
    show xs.foldl keepM (keepM l x) = ys.foldl keepM (keepM l x)
    have hx := h1 x (by simp)
    exact ih (fun y hy => h1 y (by simp [hy])) (fun y hy z hz => h2 y (by simp [hy]) z (by simp [hz])) _ (by rw [keepM_len hx.1 (fun _ => by rw [hl]; exact hx.2)]; exact hl)
  | swap x y xs =>
    intro h1 h2 l hl
    show xs.foldl keepM (keepM (keepM l y) x) = xs.foldl keepM (keepM (keepM l x) y)
    have hx := h1 x (by simp)
    have hy := h1 y (by simp)
    rw [keepM_comm hy.1 hx.1 (by rw [hl]; exact hy.2) (by rw [hl]; exact hx.2) (h2 y (by simp) x (by simp))]
  | trans p1 p2 ih1 ih2 =>
    intro h1 h2 l hl
    rw [ih1 h1 h2 l hl]
    exact ih2 (fun x hx => h1 x (p1.mem_iff.2 hx)) (fun x hx y hy => h2 x (p1.mem_iff.2 hx) y (p1.mem_iff.2 hy)) l hl
theorem rel_ways {C : CS} {R : RC} {U : List Way} (h : Rel C R U) {len m : Nat} (hg : C.Good len m) : ∀ x ∈ U, x.Ok ∧ LineOk len x.line ∧ x.state ≠ 0 := fun x hx => ways_ok hg x (h.perm.mem_iff.1 hx)
theorem rel_fold {C : CS} {R : RC} {U : List Way} (h : Rel C R U) {m : Nat} {l : List Nat} (hg : C.Good l.length m) : U.foldl keepM l = C.ways.foldl keepM l :=
  fold_perm h.perm (fun x hx => ⟨(rel_ways h hg x hx).1, (rel_ways h hg x hx).2.1⟩) (fun x hx y hy => by
    by_cases e : x.line = y.line
    · exact .inr (h.uniq hx hy e)
    · exact .inl e) l rfl
theorem rdata_any (hA : (rbusA b P S).at_ W) (ho : S.Ok m) (hP : P.Ok S) :
    Calls Tryd.prog 20 #[.pointer (some ⟨b, 0, none⟩)] W fun e w => ∃ z : Option Addr × Nat, e = .returned (.slice z.1 S.len z.2) ∧ Sep.Post emp W (memA z.1 z.2 S.data) w := by
  have hn := ho.n
  have hlen := ho.len
  have keep : ∀ {A : World} {L : List Asn}, St W No A L → (rbusA b P S).at_ A := fun H => (rbusA b P S).keep hA H.touch (fun _ _ e => e)
  have H0 := rbus_open hA
  have hmem := H0.nth 4 rfl
  refine vc20 b 0 ⟨_, _, _, H0.ld 0 rfl rfl, ?_⟩
  have H : St W No W [sl 5 1 (.slice none 0 0) 0 []] := (St.nil W).add (A := sl 5 1 (.slice none 0 0) 0 []) ⟨Sl.nil _ _ _, XTouch.refl _ _, fun q e => by cases e⟩
  refine H.app 0 (m := S.len) (bytes := 1) rfl (u8n S.mem) ?_ (by rw [u8n_length, Nat.mul_one]; rfl) (u8n_one _) (by have : maxLen = 2 ^ 63 - 1 := rfl; omega) (by omega) fun p2 c2 w2 H => ?_
  · rcases memA_ptr hmem with e | ⟨g0, o0, e⟩
    · refine .inl ⟨?_, e⟩
      obtain ⟨-, hm2⟩ := mem_at hmem
      rcases Nat.eq_zero_or_pos S.mem.length with h0 | h0
      · exact h0
      · obtain ⟨g, off, e2, -⟩ := hm2 h0
        rw [e] at e2; cases e2
    · refine .inr ⟨_, e, fun i u hu => ?_⟩
      unfold u8n at hu
      rw [List.getElem?_map, Option.map_eq_some_iff] at hu
      obtain ⟨x, hx, rfl⟩ := hu
      obtain ⟨g, off, e2, hg, hc⟩ := bytes_of hmem i x hx
      rw [e] at e2
      cases e2
      rw [add_none]
      exact hc
  have hlu : ∀ k, k ≤ S.Cs.length → (S.upto k).length = S.len := upto_len ho
  have H : St W No w2 [memA p2 c2 (S.upto 0)] := by
    have e : memA p2 c2 (S.upto 0) = sl 5 1 (.slice p2 (0 + S.len) c2) (0 + S.len) ([] ++ u8n S.mem) := by unfold memA; rw [Nat.zero_add]; rfl
    rw [e]; exact H
  refine ⟨fun x w => ∃ k : Nat, x = k ∧ k ≤ S.Cs.length ∧ St W No w [memA p2 c2 (S.upto k)], fun x _ => S.Cs.length - x.toNat, ⟨0, rfl, Nat.zero_le _, H⟩, fun _ => ?_⟩
  clear H
  rintro x w3 ⟨k, rfl, hk, H⟩
  refine ⟨_, _, _, (rbus_open (keep H)).ld 0 rfl rfl, split_of (fun q => ?_) (fun q => ?_)⟩
  rotate_left
  · have q := of_decide_eq_false q
    obtain rfl : k = S.Cs.length := by omega
    exact ⟨(p2, c2), by rw [Nat.zero_add], H.new 0 rfl⟩
  have q := of_decide_eq_true q
  have hkl : k < S.Cs.length := by omega
  have hg := ho.cs k hkl
  obtain ⟨U, hU⟩ := hP.rel k hkl
  have hRo := hU.ok hg.ok
  have hLl : (P.R k).L.length = U.length := by rw [hU.l, List.length_map]
  have hUw := rel_ways hU hg
  have hlk := hlu k (by omega)
  refine ⟨fun w => St W No w [memA p2 c2 (S.upto (k + 1))], ?_, fun _ => ?_⟩
  rotate_left
  · intro w11 H
    rintro z8 rfl
    rw [w64 (by omega) (by omega)]
    exact ⟨⟨k + 1, by omega, by omega, H⟩, by show S.Cs.length - ((k : Int) + 1).toNat < S.Cs.length - (k : Int).toNat; omega⟩
  refine ⟨fun x w => ∃ i : Nat, x = i ∧ i ≤ U.length ∧ St W No w [memA p2 c2 ((U.take i).foldl keepM (S.upto k))], fun x _ => U.length - x.toNat, ⟨0, rfl, Nat.zero_le _, H⟩, fun _ => ?_⟩
  clear H
  rintro x2 w4 ⟨i, rfl, hi, H⟩
  have hA4 := keep H
  obtain ⟨g, off, hp, hcell⟩ := rptr_cell ((rbus_open hA4).nth 1 rfl) hP hkl
  have hR4 := refc_open (rstate_of hA4 hP hkl)
  have hUlt : U.length < 65536 := by have := hRo.len; omega
  refine ⟨_, _, _, (rbus_open hA4).ld 0 rfl rfl, ⟨by omega, q⟩, adr_eq hp ⟨_, by rw [ix1]; exact hcell, ptr_some ⟨_, _, _, by rw [add_none]; exact hR4.ld 0 rfl rfl, split_of (fun q2 => ?_) (fun q2 => ?_)⟩⟩⟩
  rotate_left
  · have q2 := of_decide_eq_false q2
    obtain rfl : i = U.length := by omega
    rw [List.take_length] at H
    have e : S.upto (k + 1) = U.foldl keepM (S.upto k) := by
      rw [upto_succ, rel_fold hU (m := m) (by rw [hlk]; exact hg)]
    rw [e]; exact H
  have q2 := of_decide_eq_true q2
  have hiU : i < U.length := by omega
  obtain ⟨y, hy⟩ : ∃ y, U[i]? = some y := ⟨_, List.getElem?_eq_getElem hiU⟩
  obtain ⟨hyo, hyl, hys⟩ := hUw y (List.mem_of_getElem? hy)
  obtain ⟨hLy, -⟩ := hU.get hy
  have hfl : ((U.take i).foldl keepM (S.upto k)).length = S.len := by
    rw [fold_len (fun z hz => by rw [hlk]; exact hUw z (List.mem_of_mem_take hz)), hlk]
  have estep : (U.take (i + 1)).foldl keepM (S.upto k) = keepM ((U.take i).foldl keepM (S.upto k)) y := by
    rw [List.take_add_one, hy, List.foldl_append]; rfl
  refine ⟨fun w => St W No w [memA p2 c2 ((U.take (i + 1)).foldl keepM (S.upto k))], ?_, fun _ => ?_⟩
  rotate_left
  · intro w10 H
    rintro z7 rfl
    rw [w64 (by omega) (by omega)]
    exact ⟨⟨i + 1, by omega, by omega, H⟩, by show U.length - ((i : Int) + 1).toNat < U.length - (i : Int).toNat; omega⟩
  rw [estep]
  generalize (U.take i).foldl keepM (S.upto k) = l at *
  obtain ⟨hil, g9, o9, hp9, hc9⟩ := sl_elem (n := 18) (f := RLine.cells) (hR4.nth 1 rfl) (lines18 hRo.line) hLy (by decide)
  have h18 : y.toR.cells.toArray.size = 18 := by simpa using rline_cells_len hyo
  refine ⟨_, _, _, (rbus_open hA4).ld 0 rfl rfl, ⟨by omega, q⟩, adr_eq hp ⟨_, by rw [ix1]; exact hcell, ptr_some ⟨_, _, _, by rw [add_none]; exact hR4.ld 0 rfl rfl, ⟨by omega, q2⟩, ?_⟩⟩⟩
  refine adr_eq hp9 ⟨_, h18, by rw [Int.toNat_natCast]; exact hc9, H.al fun kx w5 H => H.sts0 1 rfl h18 rfl (rline_one _) fun w6 H => ?_⟩
  have hyL : y.state ≠ 0 → LineOk l.length y.line := fun _ => by rw [hfl]; exact hyl
  refine ⟨fun x w => ∃ j : Nat, x = j ∧ j ≤ 16 ∧ St W No w [memA p2 c2 (putJ l y j), blk kx y.toR.cells.toArray 104], fun x _ => 16 - x.toNat, ⟨0, rfl, by omega, by rw [putJ_zero]; exact H⟩, fun _ => ?_⟩
  clear H
  rintro x3 w7 ⟨j, rfl, hj, H⟩
  have hlen16 := hyo.len
  refine split_of (fun q3 => ?_) (fun q3 => ?_)
  rotate_left
  · have q3 := of_decide_eq_false q3
    obtain rfl : j = 16 := by omega
    rw [putJ_end hlen16] at H
    exact H.take 1
  have q3 := of_decide_eq_true q3
  refine ⟨_, H.ld 1 rfl rfl, split_of (fun q4 => ?_) (fun q4 => ?_)⟩
  rotate_left
  · have q4 : ¬ (y.state : Int) = 3 := by simpa [Way.toR] using q4
    have e : putJ l y j = keepM l y := by unfold putJ keepM; rw [if_neg (by omega), if_neg (by omega)]
    rw [e] at H
    exact H.take 1
  have q4 : (y.state : Int) = 3 := by simpa [Way.toR] using q4
  have q4 : y.state = 3 := by omega
  have hLn := hyL hys
  unfold LineOk at hLn
  have hjb : j < y.bytes.length := by omega
  obtain ⟨x, hx⟩ : ∃ x, y.bytes[j]? = some x := ⟨_, List.getElem?_eq_getElem hjb⟩
  have hpl := putJ_len hyo hyL j
  refine H.dr fun w8 H => ⟨_, H.ld 1 rfl rfl, ?_⟩
  rintro z3 rfl z4 rfl
  obtain ⟨d, hd⟩ : ∃ d, d = y.line - 65536 := ⟨_, rfl⟩
  have e1 : IntKind.wrap .i64 (IntKind.wrap .i64 ((y.toR.addr : Int) - 65536) + (j : Int)) = ((d + j : Nat) : Int) := by
    rw [show (y.toR.addr : Int) = (y.line : Int) from rfl, show (y.line : Int) - 65536 = (d : Int) by omega, Bits.n64 (by omega), show (d : Int) + (j : Int) = ((d + j : Nat) : Int) by omega, Bits.n64 (by omega)]
  rw [e1]
  obtain ⟨-, hm2⟩ := mem_at (H.nth 0 rfl)
  obtain ⟨g, off, rfl, h4⟩ := hm2 (by omega)
  have h5 := h4 (d + j) (by omega)
  refine ⟨⟨by omega, by omega⟩, (x : Int), ?_, ⟨by omega, by show ((d + j : Nat) : Int) < ((0 + S.len : Nat) : Int); omega⟩, adr_some ⟨⟨_, by rw [ix1]; exact h5.1⟩, by rw [ix1]; exact h5.2, ?_⟩⟩
  · refine H.ld 1 rfl ?_
    rw [show 0 + 2 + ((j : Nat) : Int).toNat * 1 = j + 1 + 1 by omega, List.getElem?_toArray]
    unfold Way.toR RLine.cells
    simp only [List.getElem?_cons_succ]
    unfold u8n
    rw [List.getElem?_map, hx]; rfl
  · rintro w9 rfl z6 rfl
    rw [w64 (by omega) (by omega)]
    have H := H.upd 0 rfl (sl_sets (o := d + j) (vs := [Value.int .u8 (x : Nat)]) (H.nth 0 rfl) (by simp; omega))
    have e2 : sl 5 1 (.slice (some ⟨g, off, none⟩) (putJ l y j).length c2) (putJ l y j).length ((u8n (putJ l y j)).take (d + j) ++ [Value.int .u8 (x : Nat)] ++ (u8n (putJ l y j)).drop (d + j + [Value.int .u8 (x : Nat)].length)) = memA (some ⟨g, off, none⟩) c2 (putJ l y (j + 1)) := by
      unfold memA
      rw [putJ_len hyo hyL (j + 1), hpl]
      have : u8n (putJ l y (j + 1)) = (u8n (putJ l y j)).take (d + j) ++ [Value.int .u8 (x : Nat)] ++ (u8n (putJ l y j)).drop (d + j + [Value.int .u8 (x : Nat)].length) := by
        unfold putJ
        rw [if_pos q4, if_pos q4, ← hd, ← putL_step hx (by omega)]
        unfold u8n
        simp
      rw [this]
    rw [e2] at H
    refine ⟨⟨j + 1, by omega, by omega, ?_⟩, by show 16 - ((j : Int) + 1).toNat < 16 - (j : Int).toNat; omega⟩
    rw [ix1]
    exact H
theorem data_len (ho : S.Ok m) : S.data.length = S.len := upto_len ho _ (Nat.le_refl _)
end Go.Proofs.YtbiogceijdcoiaaDoor
