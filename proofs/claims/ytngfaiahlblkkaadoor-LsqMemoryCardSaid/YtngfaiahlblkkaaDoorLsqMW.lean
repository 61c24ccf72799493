/- The law 'LsqMemory': its own methods, walked: enter, back, drain. Condition: the handle of the type 'error'. -/
import Derived.Test.YtngfaiahlblkkaaDoorLsqMQ
import Derived.Test.YtngfaiahlblkkaaDoorTold
namespace Go.Proofs.YtngfaiahlblkkaaDoor
open Go.RowKit Go.XHeap Go.Sx Go.Sep Go.Bits
set_option linter.unusedVariables false
set_option maxRecDepth 100000
variable {a : Nat → Ac} {X : RX} {W0 W : World}

structure Ids where
  b : Nat
  kx : Nat
  kg : Nat
  kv : Nat
  kk : Nat
  kd : Nat
  km : Nat
  lp : Option Addr
  lc : Nat
def rootV (I : Ids) (X : RX) : Array Value := #[.pointer (some ⟨I.b, 0, none⟩), .slice I.lp X.n I.lc, .int .i64 (X.inn : Int), .int .i64 (X.out : Int), .slice (some ⟨I.kg, 0, none⟩) X.n X.n, .slice (some ⟨I.kv, 0, none⟩) X.n X.n, .slice (some ⟨I.kk, 0, none⟩) X.n X.n, .slice (some ⟨I.kd, 0, none⟩) X.n X.n, .slice (some ⟨I.km, 0, none⟩) 16 16]
def pcs (I : Ids) (q : PQ) (X : RX) : List Asn := [qA I.b q, blk I.kx (rootV I X) 35, blk I.kg (natsV .u32 X.n X.got) 39, blk I.kv (boolsV X.n X.given) 4, blk I.kk (boolsV X.n X.known) 4, blk I.kd (boolsV X.n X.done) 4, blk I.km (natsV .u8 16 X.mem) 5]
structure QOk (a : Nat → Ac) (X : RX) (q : PQ) : Prop where
  eq : ens q = X.J.map (entR a X)
  len : q.es.length ≤ q.size
  s1 : 1 ≤ q.size
  s32 : q.size ≤ 32
theorem QOk.jl {q : PQ} (h : QOk a X q) : X.J.length = q.es.length := by
  have := congrArg List.length h.eq
  rw [List.length_map] at this
  rw [← this]; simp [ens]
theorem QOk.n32 {q : PQ} (h : QOk a X q) : q.es.length ≤ 32 := Nat.le_trans h.len h.s32
theorem QOk.oks {q : PQ} (h : QOk a X q) (hI : Inv a X) : AllOk q.es := by
  intro x hx
  have : x.2 ∈ ens q := List.mem_map.2 ⟨x, hx, rfl⟩
  rw [h.eq] at this
  obtain ⟨k, hk, e⟩ := List.mem_map.1 this
  rw [← e]
  exact hI.ok hk
theorem QOk.get {q : PQ} (h : QOk a X q) {i k : Nat} (hk : X.J[i]? = some k) : ∃ x, q.es[i]? = some x ∧ x.2 = entR a X k := by
  have h1 : (ens q)[i]? = some (entR a X k) := by rw [h.eq, List.getElem?_map, hk]; rfl
  unfold ens at h1
  rw [List.getElem?_map] at h1
  cases hq : q.es[i]? with
  | none => rw [hq] at h1; cases h1
  | some x => rw [hq] at h1; exact ⟨x, rfl, Option.some.inj h1⟩
def Q1 (a : Nat → Ac) (W0 : World) (I : Ids) (X : RX) (A : World) : Prop := ∃ q : PQ, QOk a X q ∧ St W0 No A (pcs I q X)
def AcsAt (W0 : World) (p : Option Addr) (n : Nat) (a : Nat → Ac) : Prop := ∀ i, i < n → ∃ g off, p = some ⟨g, off, none⟩ ∧ g < W0.heap.size ∧ ∀ j v, (a i).cells[j]? = some v → W0.cell? ⟨g, off + i * 4 + j, none⟩ = some v
theorem ix0 (k : Nat) : 0 + ((k : Nat) : Int).toNat * 1 = k := by omega
def inCell (kx : Nat) (A : World) : Nat := match A.cell? ⟨kx, 2, none⟩ with
  | some (.int _ z) => z.toNat
  | _ => 0
theorem inCell_eq {kx : Nat} {A : World} {n : Nat} (h : A.cell? ⟨kx, 2, none⟩ = some (.int .i64 (n : Int))) : inCell kx A = n := by
  unfold inCell
  rw [h]
  exact Int.toNat_natCast n
/-! ### enter -/
structure RelE (X X' : RX) : Prop where
  n : X'.n = X.n
  out : X'.out = X.out
  given : X'.given = X.given
  known : X'.known = X.known
  done : X'.done = X.done
  psi : X'.psi = X.psi
  inn : X.inn ≤ X'.inn
  J : X.J ≠ [] → X'.J ≠ []
theorem RelE.refl (X : RX) : RelE X X := ⟨rfl, rfl, rfl, rfl, rfl, rfl, Nat.le_refl _, id⟩
theorem xenter_any {I : Ids} (hI : Inv a X) (hA : AcsAt W0 I.lp X.n a) (h1 : 1 ≤ W0.heap.size) (hE : W0.cell? ⟨0, 0, none⟩ = some (.iface 121 (.agg #[.pointer (some ⟨1, 26, none⟩)]))) (h : Q1 a W0 I X W) :
    Calls Tryd.prog 8 #[.pointer (some ⟨I.kx, 0, none⟩)] W fun e w => e = .returned (.bool true) ∧ ∃ X', Inv a X' ∧ Q1 a W0 I X' w ∧ RelE X X' ∧ (X'.inn = X.n ∨ X'.J ≠ []) := by
  refine vc8 I.kx 0 ⟨fun A => ∃ X', Inv a X' ∧ RelE X X' ∧ Q1 a W0 I X' A, fun A => X.n - inCell I.kx A, ⟨X, hI, .refl X, h⟩, fun _ => ?_⟩
  rintro A ⟨X', hI', hr, q, hq, H⟩
  have e2 : inCell I.kx A = X'.inn := inCell_eq (H.ld 1 rfl rfl)
  have hn60 := hI'.n60
  have hin := hI'.inn
  have hXn := hr.n
  refine ⟨_, H.ld 1 rfl rfl, _, _, _, H.ld 1 rfl rfl, H.drN fun B H => split_of (fun q1 => ?_) (fun q1 => ?_)⟩
  · have q1 : X'.inn < X'.n := by have := of_decide_eq_true q1; omega
    obtain ⟨g, off, hp, hg, hc⟩ := hA X'.inn (by omega)
    refine H.dr fun C H => ⟨_, H.ld 1 rfl rfl, _, H.ld 1 rfl rfl, _, _, _, H.ld 1 rfl rfl, _, H.ld 1 rfl rfl, ⟨by omega, by omega⟩, adr_eq hp ⟨(a X'.inn).store, ?_, ?_⟩⟩
    · rw [Int.toNat_natCast]
      exact (H.touch.cell (p := ⟨g, off + X'.inn * 4, none⟩) hg (fun e => e)).trans (hc 0 _ rfl)
    refine (enter_any (H.nth 0 rfl) hq.n32 X'.inn (a X'.inn).store).mono ?_
    intro e D hpp
    unfold EnterPost at hpp
    rw [hq.eq, enter_dec hI', hq.jl] at hpp
    have hErr : ∀ {w : World} {L : List Asn}, St W0 No w L → w.cell? ⟨0, 0, none⟩ = some (.iface 121 (.agg #[.pointer (some ⟨1, 26, none⟩)])) := fun H => (H.touch.cell (p := ⟨0, 0, none⟩) (by show 0 < W0.heap.size; omega) (fun e => e)).trans hE
    by_cases hf : q.es.length = q.size
    · rw [if_pos hf] at hpp
      obtain ⟨rfl, hP⟩ := hpp
      have H := H.upd 0 rfl hP
      refine ⟨_, rfl, H.callq (told_err 4 D (hErr H)) fun E H => ⟨_, rfl, split_of (fun _ => ⟨rfl, X', hI', ⟨q, hq, H⟩, hr, .inr fun e => ?_⟩) (fun q => by cases q)⟩⟩
      have := hq.jl
      have := hq.s1
      rw [e] at *
      simp at *
      omega
    · rw [if_neg hf] at hpp
      obtain ⟨rfl, k, p2, c2, hP⟩ := hpp
      have H := H.upd 0 rfl hP
      refine ⟨_, rfl, H.callp (Q := _) ((told_nil D).mono fun e w h => ⟨h.1, h.2.symm⟩) ⟨_, rfl, split_of (fun q => by cases q) (fun _ => nil_true (split_of (fun q => by cases q) (fun _ => ⟨_, H.ld 1 rfl rfl, ?_⟩)))⟩⟩
      rintro z6 rfl
      rw [w64 (e := (X'.inn : Int) + 1) (by omega) (by omega)]
      refine H.st 1 rfl (by show 0 + 2 < 9; decide) fun E H => ?_
      have H : St W0 No E (pcs I { q with p := p2, cap := c2, es := q.es ++ [(k, newEn X'.inn (a X'.inn).store)] } X'.enter) := H
      have hq' : QOk a X'.enter { q with p := p2, cap := c2, es := q.es ++ [(k, newEn X'.inn (a X'.inn).store)] } := by
        refine ⟨?_, ?_, hq.s1, hq.s32⟩
        · rw [← enter_list hI', ← hq.eq]
          show (q.es ++ [(k, newEn X'.inn (a X'.inn).store)]).map (·.2) = _
          rw [List.map_append]; rfl
        · show (q.es ++ [_]).length ≤ q.size
          rw [List.length_append]
          have := hq.len
          show q.es.length + 1 ≤ _
          omega
      refine ⟨⟨X'.enter, enter_inv hI' q1, ⟨hr.n, hr.out, hr.given, hr.known, hr.done, (psi_enter hI' q1).trans hr.psi, Nat.le_succ_of_le hr.inn, fun _ e => ?_⟩, _, hq', H⟩, ?_⟩
      · have e : X'.J ++ [X'.inn] = [] := e
        simp at e
      · have e3 : inCell I.kx E = X'.inn + 1 := inCell_eq (H.ld 1 rfl rfl)
        show X.n - inCell I.kx E < X.n - inCell I.kx A
        rw [e2, e3]
        omega
  · have q1 : ¬ X'.inn < X'.n := by have := of_decide_eq_false q1; omega
    exact ⟨rfl, X', hI', ⟨q, hq, H⟩, hr, .inl (by omega)⟩
/-! ### back -/
def clr (f : Nat → Bool) (m j : Nat) : Nat → Bool := fun i => if m ≤ i ∧ i < j then false else f i
theorem clr_zero (f : Nat → Bool) (m : Nat) : clr f m m = f := by
  funext i
  exact if_neg (by omega)
theorem clr_step (f : Nat → Bool) {m j : Nat} (h : m ≤ j) : upd (clr f m j) j false = clr f m (j + 1) := by
  funext i
  unfold upd clr
  by_cases e : i = j
  · rw [if_pos e, if_pos (by omega)]
  · rw [if_neg e]
    by_cases e2 : m ≤ i ∧ i < j
    · rw [if_pos e2, if_pos (by omega)]
    · rw [if_neg e2, if_neg (by omega)]
theorem bools_congr {n : Nat} {f g : Nat → Bool} (h : ∀ i, i < n → f i = g i) : boolsV n f = boolsV n g := by
  unfold boolsV fnV
  rw [List.map_congr_left fun i hi => by rw [h i (List.mem_range.1 hi)]]
theorem clr_end (f : Nat → Bool) (m n : Nat) : boolsV n (clr f m n) = boolsV n (cutB f m) := bools_congr fun i hi => by
  unfold clr cutB
  by_cases e : i < m
  · rw [if_neg (by omega), if_pos e]
  · rw [if_pos (by omega), if_neg e]
def bp (I : Ids) (q : PQ) (X : RX) (f g h : Nat → Bool) : List Asn := [qA I.b q, blk I.kx (rootV I X) 35, blk I.kg (natsV .u32 X.n X.got) 39, blk I.kv (boolsV X.n f) 4, blk I.kk (boolsV X.n g) 4, blk I.kd (boolsV X.n h) 4, blk I.km (natsV .u8 16 X.mem) 5]
theorem xback_any {I : Ids} {m : Nat} (hm : X.out ≤ m) (hn : m ≤ X.n) (h60 : X.n ≤ 60) (h : Q1 a W0 I X W) :
    Calls Tryd.prog 37 #[.pointer (some ⟨I.kx, 0, none⟩), .int .i64 m] W fun e w => e = .returned (.tuple #[]) ∧ Q1 a W0 I (X.back m) w := by
  obtain ⟨q, hq, H⟩ := h
  refine vc37 I.kx 0 m ⟨_, H.ld 1 rfl rfl, ?_⟩
  rintro z rfl
  rw [w64 (e := (m : Int) - 1) (by omega) (by omega)]
  refine H.call 0 rfl (squash_any (H.nth 0 rfl) hq.n32 _) fun A H => ⟨rfl, ?_⟩
  obtain ⟨q', hq'⟩ : ∃ q', { q with es := q.es.filter fun x => keepP ((m : Int) - 1) x.2 } = q' := ⟨_, rfl⟩
  have hq2 : QOk a (X.back m) q' := by
    subst hq'
    refine ⟨?_, Nat.le_trans (List.length_filter_le _ _) hq.len, hq.s1, hq.s32⟩
    rw [← back_list]
    show (q.es.filter fun x => keepP ((m : Int) - 1) x.2).map (·.2) = _
    have h1 : (q.es.filter fun x => keepP ((m : Int) - 1) x.2).map (·.2) = (ens q).filter (keepP ((m : Int) - 1)) := by
      unfold ens
      rw [List.filter_map]; rfl
    rw [h1, hq.eq, List.filter_map]
    congr 1
    refine List.filter_congr fun k _ => ?_
    show (!(decide ((k : Int) > (m : Int) - 1) && !decide (k < X.out))) = decide (k < m)
    by_cases e1 : k < m
    · rw [decide_eq_false (by omega : ¬ (k : Int) > (m : Int) - 1), decide_eq_true e1]; rfl
    · rw [decide_eq_true (by omega : (k : Int) > (m : Int) - 1), decide_eq_false e1, decide_eq_false (by omega : ¬ k < X.out)]; rfl
  have H : St W0 No A (pcs I q' X) := by rw [← hq']; exact H
  clear hq'
  refine ⟨fun i B => ∃ j : Nat, i = j ∧ m ≤ j ∧ j ≤ X.n ∧ St W0 No B (bp I q' X (clr X.given m j) (clr X.known m j) (clr X.done m j)), fun i _ => X.n - i.toNat, ⟨m, rfl, Nat.le_refl _, hn, by rw [clr_zero, clr_zero, clr_zero]; exact H⟩, fun _ => ?_⟩
  clear H
  rintro i B ⟨j, rfl, h1, h2, H⟩
  refine ⟨_, _, _, H.ld 1 rfl rfl, split_of (fun q1 => ?_) (fun q1 => ?_)⟩
  · have q1 : j < X.n := by have := of_decide_eq_true q1; omega
    refine ⟨_, _, _, H.ld 1 rfl rfl, ⟨by omega, by omega⟩, adr_some ?_⟩
    rw [ix0]
    refine H.st 3 rfl (by rw [boolsV, fn_size]; exact q1) fun C H => ?_
    refine ⟨_, _, _, H.ld 1 rfl rfl, ⟨by omega, by omega⟩, adr_some ?_⟩
    rw [ix0]
    refine H.st 4 rfl (by rw [boolsV, fn_size]; exact q1) fun D H => ?_
    refine ⟨_, _, _, H.ld 1 rfl rfl, ⟨by omega, by omega⟩, adr_some ?_⟩
    rw [ix0]
    refine H.st 5 rfl (by rw [boolsV, fn_size]; exact q1) fun E H => ?_
    rintro z2 rfl
    rw [w64 (by omega) (by omega)]
    refine ⟨⟨j + 1, by omega, by omega, by omega, ?_⟩, by show X.n - ((j : Int) + 1).toNat < X.n - (j : Int).toNat; omega⟩
    have H : St W0 No E [qA I.b q', blk I.kx (rootV I X) 35, blk I.kg (natsV .u32 X.n X.got) 39, blk I.kv ((boolsV X.n (clr X.given m j)).setIfInBounds j (.bool false)) 4, blk I.kk ((boolsV X.n (clr X.known m j)).setIfInBounds j (.bool false)) 4, blk I.kd ((boolsV X.n (clr X.done m j)).setIfInBounds j (.bool false)) 4, blk I.km (natsV .u8 16 X.mem) 5] := H
    rw [bools_set, bools_set, bools_set, clr_step _ h1, clr_step _ h1, clr_step _ h1] at H
    exact H
  · have q1 : ¬ j < X.n := by have := of_decide_eq_false q1; omega
    obtain rfl : j = X.n := by omega
    refine H.st 1 rfl (by show 0 + 2 < 9; decide) fun C H => ⟨rfl, q', hq2, ?_⟩
    have H : St W0 No C [qA I.b q', blk I.kx (rootV I (X.back m)) 35, blk I.kg (natsV .u32 X.n X.got) 39, blk I.kv (boolsV X.n (clr X.given m X.n)) 4, blk I.kk (boolsV X.n (clr X.known m X.n)) 4, blk I.kd (boolsV X.n (clr X.done m X.n)) 4, blk I.km (natsV .u8 16 X.mem) 5] := H
    rw [clr_end, clr_end, clr_end] at H
    exact H
/-! ### drain -/
structure RelD (X X' : RX) : Prop where
  n : X'.n = X.n
  inn : X'.inn = X.inn
  out : X'.out = X.out
  given : X'.given = X.given
  known : X'.known = X.known
  done : X'.done = X.done
  psi : X'.psi ≤ X.psi
  less : X.J ≠ [] → X.inn = X.out → X'.psi < X.psi
theorem old_nil {es : Ens} (h : es.map (·.2) = ([] : List Nat).map (entR a X)) : oldestOf es = none := by
  rw [List.map_nil, List.map_eq_nil_iff] at h
  rw [h]; rfl
theorem old_cons {es : Ens} {o : Nat} {J : List Nat} (h : es.map (·.2) = (o :: J).map (entR a X)) : oldestOf es = if o < X.out then some (entR a X o) else none := by
  rw [List.map_cons, List.map_eq_cons_iff] at h
  obtain ⟨x, l, rfl, h1, h2⟩ := h
  rw [oldest_cons, h1]
  show (if decide (o < X.out) = true then some (entR a X o) else none) = _
  by_cases e : o < X.out
  · rw [if_pos e, if_pos (decide_eq_true e)]
  · rw [if_neg e, if_neg (by rw [decide_eq_false e]; decide)]
def memW (a : Nat → Ac) (X : RX) (o c : Nat) : Nat → Nat := fun x => if (a o).B ≤ x ∧ x < (a o).B + c then byteD a o x else X.mem x
theorem memW_zero (o : Nat) : memW a X o 0 = X.mem := by
  funext x
  exact if_neg (by omega)
theorem memW_step (o c : Nat) : upd (memW a X o c) ((a o).B + c) (byteD a o ((a o).B + c)) = memW a X o (c + 1) := by
  funext x
  unfold upd memW
  by_cases e : x = (a o).B + c
  · rw [if_pos e, if_pos (by omega), e]
  · rw [if_neg e]
    by_cases e2 : (a o).B ≤ x ∧ x < (a o).B + c
    · rw [if_pos e2, if_pos (by omega)]
    · rw [if_neg e2, if_neg (by omega)]
theorem low_byte {d S c : Nat} (hS : S = 1 ∨ S = 2 ∨ S = 4) (hc : c < S) (hd : d < 4294967296) : d % 2 ^ (8 * S) / 2 ^ (8 * c) % 256 = d / 2 ^ (8 * c) % 256 := by
  rcases hS with rfl | rfl | rfl
  · obtain rfl : c = 0 := by omega
    show d % 256 / 1 % 256 = d / 1 % 256
    omega
  · obtain rfl | rfl : c = 0 ∨ c = 1 := by omega
    · show d % 65536 / 1 % 256 = d / 1 % 256
      omega
    · show d % 65536 / 256 % 256 = d / 256 % 256
      omega
  · rw [Nat.mod_eq_of_lt (show d < 2 ^ (8 * 4) from hd)]
def dp (I : Ids) (q : PQ) (X : RX) (m : Nat → Nat) (k : Nat) (vs : Array Value) : List Asn := [qA I.b q, blk I.kx (rootV I X) 35, blk I.kg (natsV .u32 X.n X.got) 39, blk I.kv (boolsV X.n X.given) 4, blk I.kk (boolsV X.n X.known) 4, blk I.kd (boolsV X.n X.done) 4, blk I.km (natsV .u8 16 m) 5, blk k vs 83]
theorem xdrain_any {I : Ids} (hI : Inv a X) (h : Q1 a W0 I X W) :
    Calls Tryd.prog 10 #[.pointer (some ⟨I.kx, 0, none⟩)] W fun e w => e = .returned (.bool true) ∧ ∃ X', Inv a X' ∧ Q1 a W0 I X' w ∧ RelD X X' := by
  obtain ⟨q, hq, H⟩ := h
  refine vc10 I.kx 0 ⟨_, H.ld 1 rfl rfl, ?_⟩
  have hes : q.es.map (·.2) = X.J.map (entR a X) := hq.eq
  refine H.callq (oldest_any (H.nth 0 rfl) (hq.oks hI)) fun A H => ⟨_, _, rfl, H.al fun k B H => ?_⟩
  have one : ∀ o, ∀ v ∈ (wrV o).toList, v.oneCell' = true := by
    intro o v hv
    cases o with
    | none => simp [wrV] at hv; rcases hv with rfl | rfl | rfl <;> rfl
    | some e => simp [wrV] at hv; rcases hv with rfl | rfl | rfl <;> rfl
  have sz : (wrV (oldestOf q.es)).size = 3 := by cases oldestOf q.es <;> rfl
  refine H.sts0 7 rfl sz rfl (one _) fun C H => ?_
  have H : St W0 No C (dp I q X X.mem k (wrV (oldestOf q.es))) := H
  have none_case : oldestOf q.es = none → (X.J ≠ [] → X.inn = X.out → False) → ∃ X', Inv a X' ∧ Q1 a W0 I X' C ∧ RelD X X' := fun _ h2 => ⟨X, hI, ⟨q, hq, H.take 7⟩, rfl, rfl, rfl, rfl, rfl, rfl, Nat.le_refl _, fun e1 e2 => (h2 e1 e2).elim⟩
  cases hJ : X.J with
  | nil =>
    rw [hJ] at hes
    have ho := old_nil hes
    rw [ho]
    exact split_of (fun _ => ⟨rfl, none_case ho fun e => absurd hJ e⟩) (fun q => by cases q)
  | cons o J =>
    rw [hJ] at hes
    have ho := old_cons hes
    by_cases hlt : o < X.out
    · rw [if_pos hlt] at ho
      have hold := hI.old o hlt
      have hoJ := (hI.live o).1 (by rw [hJ]; simp)
      have host : (a o).store = true := hoJ.2.2.elim id (fun e => by omega)
      have hf := (a o).fits
      have hS := (a o).S_is
      have hd := (a o).hd
      have e1 : wrV (some (entR a X o)) = #[.int .u32 ((64 + (a o).B : Nat) : Int), .int .i64 ((a o).S : Nat), .int .u32 (((a o).data % 2 ^ (8 * (a o).S) : Nat) : Int)] := by
        show #[Value.int .u32 (((if X.given o then 64 + (a o).B else 0 : Nat)) : Int), .int .i64 ((if X.given o then (a o).S else 0 : Nat) : Int), .int .u32 (((if X.known o then (a o).data else 0) % 2 ^ (8 * (if X.given o then (a o).S else 0)) : Nat) : Int)] = _
        rw [hold.1, hold.2 host]; rfl
      rw [ho, e1] at H
      rw [ho]
      refine split_of (fun q => by cases q) (fun _ => ?_)
      refine ⟨fun b A => ∃ c : Nat, b = c ∧ c ≤ (a o).S ∧ St W0 No A (dp I q X (memW a X o c) k #[.int .u32 ((64 + (a o).B : Nat) : Int), .int .i64 ((a o).S : Nat), .int .u32 (((a o).data % 2 ^ (8 * (a o).S) : Nat) : Int)]), fun b _ => (a o).S - b.toNat, ⟨0, rfl, Nat.zero_le _, by rw [memW_zero]; exact H⟩, fun _ => ?_⟩
      clear H none_case
      rintro b D ⟨c, rfl, hc, H⟩
      refine ⟨_, H.ld 7 rfl rfl, split_of (fun q1 => ?_) (fun q1 => ?_)⟩
      · have q1 : c < (a o).S := by have := of_decide_eq_true q1; omega
        refine H.dr fun E H => ⟨_, _, _, H.ld 1 rfl rfl, _, H.ld 7 rfl rfl, ?_⟩
        rintro z3 rfl
        rw [n64 (by omega)]
        rintro z4 rfl
        rw [w64 (e := ((64 + (a o).B : Nat) : Int) - 64) (by omega) (by omega)]
        rintro z5 rfl
        rw [show ((64 + (a o).B : Nat) : Int) - 64 + (c : Int) = (((a o).B + c : Nat) : Int) by omega, n64 (by omega)]
        refine ⟨_, H.ld 7 rfl rfl, ?_⟩
        rintro z7 rfl
        rw [show (8 : Int) * (c : Int) = ((8 * c : Nat) : Int) by omega, n64 (by omega)]
        refine ⟨by omega, ?_⟩
        rintro z8 rfl
        have eb : IntKind.bits .u32 = 32 := rfl
        rw [Int.toNat_natCast, eb, Nat.min_eq_left (by omega), shr]
        rintro z9 rfl
        rw [m8, low_byte hS q1 hd]
        refine ⟨⟨by omega, by omega⟩, adr_some ?_⟩
        rw [ix0]
        refine H.st 6 rfl (by rw [natsV, fn_size]; omega) fun F H => ?_
        rintro z10 rfl
        rw [w64 (e := (c : Int) + 1) (by omega) (by omega)]
        refine ⟨⟨c + 1, by omega, by omega, ?_⟩, by show (a o).S - ((c : Int) + 1).toNat < (a o).S - (c : Int).toNat; omega⟩
        have eD : (a o).data / 2 ^ (8 * c) % 256 = byteD a o ((a o).B + c) := by unfold byteD; rw [Nat.add_sub_cancel_left]
        rw [eD] at H
        have H : St W0 No F [qA I.b q, blk I.kx (rootV I X) 35, blk I.kg (natsV .u32 X.n X.got) 39, blk I.kv (boolsV X.n X.given) 4, blk I.kk (boolsV X.n X.known) 4, blk I.kd (boolsV X.n X.done) 4, blk I.km ((natsV .u8 16 (memW a X o c)).setIfInBounds ((a o).B + c) (.int .u8 (byteD a o ((a o).B + c) : Nat))) 5, blk k #[.int .u32 ((64 + (a o).B : Nat) : Int), .int .i64 ((a o).S : Nat), .int .u32 (((a o).data % 2 ^ (8 * (a o).S) : Nat) : Int)] 83] := H
        rw [nats_set, memW_step] at H
        exact H
      · have q1 : ¬ c < (a o).S := by have := of_decide_eq_false q1; omega
        obtain rfl : c = (a o).S := by omega
        refine ⟨_, H.ld 1 rfl rfl, (drain_any (H.nth 0 rfl) (hq.oks hI) hq.n32).mono ?_⟩
        intro e E hpp
        unfold DrainPost at hpp
        rw [ho] at hpp
        obtain ⟨rfl, p2, c2, hP⟩ := hpp
        have H := H.upd 0 rfl hP
        refine ⟨_, rfl, nil_true ⟨rfl, X.drain a o J, drain_inv hI hJ hlt, ⟨_, ?_, H.take 7⟩, rfl, rfl, rfl, rfl, rfl, rfl, ?_, fun _ _ => ?_⟩⟩
        · have el : (drained (entR a X o).seq (q.es.drop 1)).map (·.2) = ((ens q).drop 1).map fun e => drainB (entR a X o).seq e 4 := by
            unfold drained ens
            rw [List.map_map, ← List.map_drop, List.map_map]; rfl
          refine ⟨?_, ?_, hq.s1, hq.s32⟩
          · show (drained (entR a X o).seq (q.es.drop 1)).map (·.2) = _
            rw [el, hq.eq, hJ, ← drain_list o J]; rfl
          · show (drained _ _).length ≤ q.size
            unfold drained
            rw [List.length_map, List.length_drop]
            have := hq.len
            omega
        · show J.length + (X.n - X.inn) ≤ X.J.length + (X.n - X.inn)
          rw [hJ, List.length_cons]; omega
        · show J.length + (X.n - X.inn) < X.J.length + (X.n - X.inn)
          rw [hJ, List.length_cons]; omega
    · rw [if_neg hlt] at ho
      rw [ho]
      refine split_of (fun _ => ⟨rfl, none_case ho fun _ e => ?_⟩) (fun q => by cases q)
      have := ((hI.live o).1 (by rw [hJ]; simp)).1
      omega
end Go.Proofs.YtngfaiahlblkkaaDoor
