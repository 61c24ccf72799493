/- The document's bus, part S: keep, done. No condition. -/
import Derived.Test.YtbiogceijdcoiaaDoorBusR
namespace Go.Proofs.YtbiogceijdcoiaaDoor
open Go.RowKit Go.XHeap Go.Sx Go.Sep
set_option linter.unusedVariables false
set_option maxRecDepth 100000
variable {W w : World} {b m : Nat} {P P' : RP} {S S' : PB} {L : List Asn}
/-! ### keep -/
theorem putL_step {l v : List Nat} {o j x : Nat} (hj : v[j]? = some x) (h : o + v.length ≤ l.length) : (putL l o (v.take j)).take (o + j) ++ [x] ++ (putL l o (v.take j)).drop (o + j + 1) = putL l o (v.take (j + 1)) := by
  have hjl := (List.getElem?_eq_some_iff.1 hj).1
  have h1 : (l.take o ++ v.take j).length = o + j := by simp; omega
  have e : v.take (j + 1) = v.take j ++ [x] := by rw [List.take_add_one, hj]; rfl
  unfold putL
  rw [e]
  have h2 : (v.take j).length = j := by simp; omega
  rw [List.take_left' h1, List.drop_append, h1, List.drop_eq_nil_of_le (by omega), List.drop_drop]
  simp only [List.length_append, List.length_singleton, List.append_assoc, List.nil_append, h2]
  congr 4
  omega
def putJ (l : List Nat) (y : Way) (j : Nat) : List Nat := if y.state = 3 then putL l (y.line - 65536) (y.bytes.take j) else l
theorem putJ_zero (l : List Nat) (y : Way) : putJ l y 0 = l := by
  unfold putJ putL
  split
  · simp
  · rfl
theorem putJ_end {l : List Nat} {y : Way} (h : y.bytes.length = 16) : putJ l y 16 = keepM l y := by
  unfold putJ keepM
  rw [List.take_of_length_le (by omega)]
theorem putJ_len {l : List Nat} {y : Way} (ho : y.Ok) (hL : y.state ≠ 0 → LineOk l.length y.line) (j : Nat) : (putJ l y j).length = l.length := by
  unfold putJ
  split
  · have := hL (by omega)
    have h16 := ho.len
    unfold LineOk at this
    exact putL_len (by simp; omega)
  · rfl
theorem rline_cells_len {y : Way} (h : y.Ok) : y.toR.cells.length = 18 := by simp [RLine.cells, Way.toR, u8n_length, h.len]
theorem rkeep_any {cs : Array Value} {p : Option Addr} {c : Nat} {l : List Nat} (hr : Blk W b cs 75) (h2 : cs[2]? = some (.slice p l.length c)) (hm : (memA p c l).at_ W) (hnb : ¬ (memA p c l).own b) (hl : l.length ≤ 4096) {y : Way} (hy : y.Ok) (hL : y.state ≠ 0 → LineOk l.length y.line) :
    Calls Tryd.prog 46 #[.pointer (some ⟨b, 0, none⟩), .agg y.toR.cells.toArray] W fun e w => e = .returned (.tuple #[]) ∧ Sep.Post (memA p c l) W (memA p c (keepM l y)) w := by
  have hlen := hy.len
  refine vc46 b 0 _ ((St.begin hm).al fun k w2 H => ?_)
  have H : St W (memA p c l).own w2 [memA p c (putJ l y 0), blk k y.toR.cells.toArray 104] := by rw [putJ_zero]; exact H
  refine ⟨fun x w => ∃ j : Nat, x = j ∧ j ≤ 16 ∧ St W (memA p c l).own w [memA p c (putJ l y j), blk k y.toR.cells.toArray 104], fun x _ => 16 - x.toNat, ⟨0, rfl, by omega, H⟩, fun _ => ?_⟩
  clear H
  rintro x w3 ⟨j, rfl, hj, H⟩
  refine split_of (fun q => ?_) (fun q => ?_)
  · have q := of_decide_eq_true q
    refine ⟨_, H.ld 1 rfl rfl, split_of (fun q2 => ?_) (fun q2 => ?_)⟩
    · have q2 : (y.state : Int) = 3 := by simpa [Way.toR] using q2
      have q2 : y.state = 3 := by omega
      have hLn := hL (by omega)
      unfold LineOk at hLn
      have hjb : j < y.bytes.length := by omega
      obtain ⟨x, hx⟩ : ∃ x, y.bytes[j]? = some x := ⟨_, List.getElem?_eq_getElem hjb⟩
      have hxb := hy.byte x (List.mem_of_getElem? hx)
      have hpl := putJ_len hy hL j
      refine H.dr fun w4 H => ⟨p, _, c, (hr.keep H.touch hnb).cell' h2, _, H.ld 1 rfl rfl, ?_⟩
      rintro z3 rfl z4 rfl
      obtain ⟨d, hd⟩ : ∃ d, d = y.line - 65536 := ⟨_, rfl⟩
      have e1 : IntKind.wrap .i64 (IntKind.wrap .i64 ((y.toR.addr : Int) - 65536) + (j : Int)) = ((d + j : Nat) : Int) := by
        rw [show (y.toR.addr : Int) = (y.line : Int) from rfl, show (y.line : Int) - 65536 = (d : Int) by omega, Bits.n64 (by omega), show (d : Int) + (j : Int) = ((d + j : Nat) : Int) by omega, Bits.n64 (by omega)]
      rw [e1]
      obtain ⟨-, hm2⟩ := mem_at (H.nth 0 rfl)
      obtain ⟨g, off, rfl, h4⟩ := hm2 (by omega)
      have h5 := h4 (d + j) (by omega)
      refine ⟨⟨by omega, by omega⟩, (x : Int), ?_, ⟨by omega, by omega⟩, adr_some ⟨⟨_, by rw [ix1]; exact h5.1⟩, by rw [ix1]; exact h5.2, ?_⟩⟩
      · refine H.ld 1 rfl ?_
        rw [show 0 + 2 + ((j : Nat) : Int).toNat * 1 = j + 1 + 1 by omega, List.getElem?_toArray]
        unfold Way.toR RLine.cells
        simp only [List.getElem?_cons_succ]
        unfold u8n
        rw [List.getElem?_map, hx]; rfl
      · rintro w5 rfl z6 rfl
        rw [w64 (by omega) (by omega)]
        have H := H.upd 0 rfl (sl_sets (o := d + j) (vs := [Value.int .u8 (x : Nat)]) (H.nth 0 rfl) (by simp; omega))
        have e2 : sl 5 1 (.slice (some ⟨g, off, none⟩) (putJ l y j).length c) (putJ l y j).length ((u8n (putJ l y j)).take (d + j) ++ [Value.int .u8 (x : Nat)] ++ (u8n (putJ l y j)).drop (d + j + [Value.int .u8 (x : Nat)].length)) = memA (some ⟨g, off, none⟩) c (putJ l y (j + 1)) := by
          unfold memA
          rw [putJ_len hy hL (j + 1), hpl]
          have : u8n (putJ l y (j + 1)) = (u8n (putJ l y j)).take (d + j) ++ [Value.int .u8 (x : Nat)] ++ (u8n (putJ l y j)).drop (d + j + [Value.int .u8 (x : Nat)].length) := by
            unfold putJ
            rw [if_pos q2, if_pos q2, ← hd, ← putL_step hx (by omega)]
            unfold u8n
            simp
          rw [this]
        rw [e2] at H
        refine ⟨⟨j + 1, by omega, by omega, ?_⟩, by show 16 - ((j : Int) + 1).toNat < 16 - (j : Int).toNat; omega⟩
        rw [ix1]
        exact H
    · have q2 : ¬ (y.state : Int) = 3 := by simpa [Way.toR] using q2
      have e : putJ l y j = keepM l y := by unfold putJ keepM; rw [if_neg (by omega), if_neg (by omega)]
      rw [e] at H
      exact ⟨rfl, H.post 0 rfl⟩
  · have q := of_decide_eq_false q
    obtain rfl : j = 16 := by omega
    rw [putJ_end hlen] at H
    exact ⟨rfl, H.post 0 rfl⟩
theorem rbkeep_any (hA : (rbusA b P S).at_ W) (ho : S.len ≤ 4096) {y : Way} (hy : y.Ok) (hL : y.state ≠ 0 → LineOk S.len y.line) :
    Calls Tryd.prog 46 #[.pointer (some ⟨b, 0, none⟩), .agg y.toR.cells.toArray] W fun e w => e = .returned (.tuple #[]) ∧ Sep.Post (rbusA b P S) W (rbusA b P (S.keepN y)) w := by
  have H := rbus_open hA
  refine (rkeep_any (H.blk 0 rfl) rfl (H.nth 4 rfl) (fun e => (Sep.St.disj (rbus_at hA) 0 4 (by decide) rfl rfl b rfl) e) ho hy hL).mono ?_
  rintro e w ⟨rfl, hp⟩
  refine ⟨rfl, rbus_shut (L := []) ?_⟩
  have e2 : (S.keepN y).len = S.len := keepM_len hy hL
  unfold RP.pieces RP.root
  rw [e2]
  exact H.upd 4 rfl hp
theorem keepN_pok (hP : P.Ok S) (y : Way) : P.Ok (S.keepN y) := ⟨hP.g, hP.r, hP.rel, hP.left, hP.le⟩
/-! ### done -/
def Sn.rcells (s : Sn) : List Value := [.int .i64 (s.core : Nat), .int .i64 (s.addr : Nat), .int .i64 (s.from_ : Nat), .int .i64 (s.to : Nat)]
def routA (p : Option Addr) (c : Nat) (l : List Sn) : Asn := sl 83 4 (.slice p l.length c) l.length (l.flatMap Sn.rcells)
theorem rsnoop_one (x : Sn) : ∀ v ∈ x.rcells, v.oneCell' = true := by
  intro v hv
  simp only [Sn.rcells, List.mem_cons, List.not_mem_nil, or_false] at hv
  rcases hv with rfl | rfl | rfl | rfl <;> rfl
theorem rsnoop_app {M : Nat → Prop} (H : St W M w L) (k : Nat) {p : Option Addr} {c : Nat} {out : List Sn} (hk : L[k]? = some (routA p c out)) (x : Sn) (hlen : out.length ≤ 100) {φ : Option Addr → Nat → World → Prop}
    (hq : ∀ p' c' w', St W M w' (L.set k (routA p' c' (out ++ [x]))) → φ p' c' w') : ∀ vs : Array Value, vs = x.rcells.toArray → vs.size = 4 ∧ ∀ (kb : Nat) (wb : World), kb = w.heap.size → wb = w.alloc (.cells (vs.toList ++ []).toArray 83) →
      ∃ olds news : List Value, Sl wb 83 4 (.slice p out.length c) out.length olds ∧ (((1 : Nat) = (0 : Nat) ∧ some (⟨kb, 0, none⟩ : Addr) = none) ∨ ∃ a, some (⟨kb, 0, none⟩ : Addr) = some a ∧ ∀ j u, news[j]? = some u → wb.cell? (a.add j) = some u) ∧ news.length = 4 ∧ (∀ u ∈ news, u.oneCell' = true) ∧ out.length + 1 ≤ maxLen ∧ (out.length + 1) * 32 ≤ 140737488355328 ∧
      ∀ (p' : Option Addr) (c' : Nat) (w' : World), Sl w' 83 4 (.slice p' (out.length + 1) c') (out.length + 1) (olds ++ news) → XTouch (fun b => (Value.slice p out.length c).ownBlock = some b) wb w' → (∀ b, (Value.slice p' (out.length + 1) c').ownBlock = some b → (Value.slice p out.length c).ownBlock = some b ∨ wb.heap.size ≤ b) → Sl w' 83 4 (.slice p out.length c) out.length olds → ((p' = p ∧ c' = c) ∨ ((NilP p ∨ c < out.length + 1) ∧ ∀ b, (Value.slice p' (out.length + 1) c').ownBlock = some b → wb.heap.size ≤ b)) → φ p' c' w' := by
  rintro vs rfl
  have hkl : k < L.length := (List.getElem?_eq_some_iff.1 hk).1
  refine ⟨rfl, H.al fun kb wb H => ?_⟩
  have hk2 : (L ++ [blk kb (x.rcells.toArray.toList ++ []).toArray 83])[k]? = some (routA p c out) := by rw [List.getElem?_append_left hkl]; exact hk
  have hk3 : (L ++ [blk kb (x.rcells.toArray.toList ++ []).toArray 83])[L.length]? = some (blk kb (x.rcells.toArray.toList ++ []).toArray 83) := by simp
  refine H.app k (m := 1) (bytes := 32) hk2 x.rcells (.inr ⟨_, rfl, fun j u hj => H.cells L.length hk3 j u (by simpa using hj)⟩) rfl (rsnoop_one x) (by have : maxLen = 2 ^ 63 - 1 := rfl; omega) (by omega) fun p' c' w' H => hq p' c' w' ?_
  have H : St W M w' ((L ++ [blk kb (x.rcells.toArray.toList ++ []).toArray 83]).set k (sl 83 4 (.slice p' (out.length + 1) c') (out.length + 1) (out.flatMap Sn.rcells ++ x.rcells))) := H
  rw [List.set_append_left _ _ hkl] at H
  have H := H.sub
  have e : routA p' c' (out ++ [x]) = sl 83 4 (.slice p' (out.length + 1) c') (out.length + 1) (out.flatMap Sn.rcells ++ x.rcells) := by
    unfold routA
    simp
  rw [e]
  exact H
end Go.Proofs.YtbiogceijdcoiaaDoor
