/- Squash, of the program's window and of the document's. No condition. -/
import Derived.Test.YtdliholhfiihcaaDoorWinS
namespace Go.Proofs.YtdliholhfiihcaaDoor
open Go.RowKit Go.XHeap Go.Sx Go.Sep
set_option linter.unusedVariables false
set_option maxRecDepth 100000
variable {W w' : World} {b : Nat} {w v : WS} {x y : RA}

def blkOf (p : Option Addr) (k : Nat) : Prop := ∃ a, p = some a ∧ a.block = k
theorem own_blk {p : Option Addr} {n c k : Nat} : (Value.slice p n c).ownBlock = some k ↔ blkOf p k := by
  cases p with
  | none => exact ⟨fun h => by (simp [Value.ownBlock] at h), fun ⟨a, h, _⟩ => by cases h⟩
  | some a => exact ⟨fun h => ⟨a, rfl, by simpa [Value.ownBlock] using h⟩, fun ⟨a', h, e⟩ => by cases h; simpa [Value.ownBlock] using e⟩
def WS.sqN (w : WS) (after : Int) : Nat → Nat
  | 0 => 0
  | n + 1 => if after < (w.slot n).seq then w.sqN after n else n + 1
def WS.sqL (w : WS) (after : Int) : Nat → List Int
  | 0 => []
  | n + 1 => if after < (w.slot n).seq then (w.slot n).seq :: w.sqL after n else []
theorem sqN_hit {w : WS} {after : Int} {n : Nat} (h : after < (w.slot n).seq) : w.sqN after (n + 1) = w.sqN after n := by
  show (if after < (w.slot n).seq then w.sqN after n else n + 1) = _
  rw [if_pos h]
theorem sqL_hit {w : WS} {after : Int} {n : Nat} (h : after < (w.slot n).seq) : w.sqL after (n + 1) = (w.slot n).seq :: w.sqL after n := by
  show (if after < (w.slot n).seq then (w.slot n).seq :: w.sqL after n else []) = _
  rw [if_pos h]
theorem sqN_le (w : WS) (after : Int) : ∀ n, w.sqN after n ≤ n
  | 0 => Nat.le_refl _
  | n + 1 => by
    unfold WS.sqN
    split
    · exact Nat.le_succ_of_le (sqN_le w after n)
    · exact Nat.le_refl _
theorem sqL_le (w : WS) (after : Int) : ∀ n, (w.sqL after n).length ≤ n
  | 0 => Nat.le_refl _
  | n + 1 => by
    unfold WS.sqL
    split
    · exact Nat.succ_le_succ (sqL_le w after n)
    · exact Nat.zero_le _
def WS.cut (w : WS) (m : Nat) : WS := { w with n := m }
theorem cut_ok (ho : w.Ok) {m : Nat} (hm : m ≤ w.n) : (w.cut m).Ok := ⟨ho.s0, ho.s1, ho.ring, ho.head, Nat.le_trans hm ho.n, ho.next, ho.r0, ho.r1, ho.ready, ho.st⟩
theorem cut_slot (w : WS) (m k : Nat) : (w.cut m).slot k = w.slot k := rfl
theorem cut_self (w : WS) : w.cut w.n = w := rfl
theorem cut_slots (w : WS) (m : Nat) : (w.cut (m + 1)).slots = (w.cut m).slots ++ [w.slot m] := by
  unfold WS.slots
  show (List.range (m + 1)).map _ = (List.range m).map _ ++ _
  rw [List.range_succ, List.map_append]
  rfl
def squA (b : Nat) (w : WS) (l : List Int) (z : Option Addr × Nat) : Asn := all [winA b w, sl 3 1 (.slice z.1 l.length z.2) l.length (intsV l)]
theorem squash_any (ho : w.Ok) (h : (winA b w).at_ W) (after : Int) : Calls Tryd.prog 25 #[.pointer (some ⟨b, 0, none⟩), .int .i64 after] W fun e w2 => ∃ z : Option Addr × Nat, e = .returned (.slice z.1 (w.sqL after w.n).length z.2) ∧ Sep.Post (winA b w) W (squA b (w.cut (w.sqN after w.n)) (w.sqL after w.n) z) w2 := by
  have hs1 := ho.s1
  have hn := ho.n
  have H0 := (win_open h).add (A := sl 3 1 (.slice none 0 0) 0 []) ⟨Sl.nil _ _ _, XTouch.refl _ _, fun q hq => by cases hq⟩
  refine vc25 b 0 after ⟨fun p k c A => ∃ (m : Nat) (l : List Int), k = l.length ∧ m ≤ w.n ∧ l.length + m = w.n ∧ l ++ w.sqL after m = w.sqL after w.n ∧ w.sqN after m = w.sqN after w.n ∧ St W (winA b w).own A ((w.cut m).pieces b ++ [sl 3 1 (.slice p l.length c) l.length (intsV l)]), fun _ k _ _ => w.n - k, ⟨w.n, [], rfl, Nat.le_refl _, by simp, by simp, rfl, H0⟩, fun _ => ?_⟩
  clear H0
  rintro p k c A ⟨m, l, rfl, hm, hlm, hl, hN, H⟩
  have fin : ∀ (B : World) (n : Nat), B = A.drewN n → (m = 0 ∨ ∃ i, m = i + 1 ∧ ¬ after < (w.slot i).seq) → ∃ z : Option Addr × Nat, Ending.returned (.slice p l.length c) = .returned (.slice z.1 (w.sqL after w.n).length z.2) ∧ Sep.Post (winA b w) W (squA b (w.cut (w.sqN after w.n)) (w.sqL after w.n) z) B := by
    rintro B n rfl hc
    have e1 : w.sqL after m = [] ∧ w.sqN after m = m := by
      rcases hc with rfl | ⟨i, rfl, hi⟩
      · exact ⟨rfl, rfl⟩
      · unfold WS.sqL WS.sqN; rw [if_neg hi, if_neg hi]; exact ⟨rfl, rfl⟩
    rw [e1.1, List.append_nil] at hl
    rw [← hl, ← hN, e1.2]
    exact ⟨(p, c), rfl, ((St.shut (H.drewN n)).shut (L := [winA b (w.cut m), _]) (L' := [])).post 0 rfl⟩
  refine ⟨(m : Nat), H.ld 0 rfl rfl, split_of (fun q => ?_) (fun q => ?_)⟩
  · have q := of_decide_eq_true q
    obtain ⟨i, rfl⟩ : ∃ i, m = i + 1 := ⟨m - 1, by omega⟩
    refine ⟨((i + 1 : Nat) : Int), H.ld 0 rfl rfl, ?_⟩
    rintro z3 rfl
    rw [w64 (by omega) (by omega), show (((i + 1 : Nat) : Int) - 1) = (i : Nat) by omega]
    have hcur : (winA b (w.cut (i + 1))).at_ A := (here_append.1 H.here).1
    refine (at_any (cut_ok ho hm) hcur i (by omega)).mono ?_
    rintro e B ⟨rfl, n3, rfl⟩
    have HB := H.drewN n3
    have hg : Blk (A.drewN n3) w.g (rows Slot.cells w.ring) 76 := HB.nth 1 rfl
    refine ⟨_, rfl, ptr_some ⟨(w.slot i).seq, ?_, split_of (fun q1 => ?_) (fun q1 => fin _ n3 rfl (.inr ⟨i, rfl, fun e => by have := of_decide_eq_false q1; omega⟩))⟩⟩
    · rw [add_none]; exact slot_cell ho hg i (q := 5) (by omega) rfl
    have q1 : after < (w.slot i).seq := by have := of_decide_eq_true q1; omega
    refine ⟨((i + 1 : Nat) : Int), HB.ld 0 rfl rfl, ?_⟩
    rintro z6 rfl
    rw [w64 (by omega) (by omega), show (((i + 1 : Nat) : Int) - 1) = (i : Nat) by omega]
    refine HB.st 0 rfl (by show 2 < 5; omega) fun C HC => ?_
    have HC : St W (winA b w).own C ((w.cut i).pieces b ++ [sl 3 1 (.slice p l.length c) l.length (intsV l)]) := HC
    refine ⟨(i : Nat), HC.ld 0 rfl rfl, ?_⟩
    have hcur2 : (winA b (w.cut i)).at_ C := (here_append.1 HC.here).1
    refine (at_any (cut_ok ho (by omega)) hcur2 i (by omega)).mono ?_
    rintro e D ⟨rfl, n5, rfl⟩
    have HD := HC.drewN n5
    have hg2 : Blk (C.drewN n5) w.g (rows Slot.cells w.ring) 76 := HD.nth 1 rfl
    refine ⟨_, rfl, ptr_some ⟨(w.slot i).seq, ?_, HD.al fun k E HE => HE.app 3 rfl [.int .i64 (w.slot i).seq] (.inr ⟨_, rfl, fun j u hj => HE.cells 4 rfl j u (by simpa using hj)⟩) rfl (by intro u hu; simp at hu; subst hu; rfl) (by have : maxLen = 2 ^ 63 - 1 := rfl; omega) (by omega) fun p2 c2 F HF => ?_⟩⟩
    · rw [add_none]; exact slot_cell ho hg2 i (q := 5) (by omega) rfl
    have e2 : l.length + 1 = (l ++ [(w.slot i).seq]).length := by simp
    have e3 : intsV l ++ [Value.int .i64 (w.slot i).seq] = intsV (l ++ [(w.slot i).seq]) := by simp [intsV]
    refine ⟨⟨i, l ++ [(w.slot i).seq], e2, by omega, by rw [← e2]; omega, ?_, ?_, ?_⟩, by show w.n - (l.length + 1) < w.n - l.length; omega⟩
    · rw [← hl]
      show _ = l ++ w.sqL after (i + 1)
      rw [sqL_hit q1]
      simp
    · rw [← hN]
      show _ = w.sqN after (i + 1)
      rw [sqN_hit q1]
    · rw [e2, e3] at HF
      exact HF.take 4
  · have q := of_decide_eq_false q
    exact fin A 0 (by cases A; rfl) (.inl (by omega))
def rsquA (b : Nat) (y : RA) (w : WS) (l : List Int) (z : Option Addr × Nat) : Asn := all [refA b y w, sl 3 1 (.slice z.1 l.length z.2) l.length (intsV l)]
theorem rsquash_any (ho : w.Ok) (h : (refA b x w).at_ W) (after : Int) : Calls Tryd.prog 26 #[.pointer (some ⟨b, 0, none⟩), .int .i64 after] W fun e w2 => ∃ z : RA × Option Addr × Nat, e = .returned (.slice z.2.1 (w.sqL after w.n).length z.2.2) ∧ Sep.Post (refA b x w) W (rsquA b z.1 (w.cut (w.sqN after w.n)) (w.sqL after w.n) z.2) w2 := by
  have hs1 := ho.s1
  have hn := ho.n
  have H0 := (ref_open h).add (A := sl 3 1 (.slice none 0 0) 0 []) ⟨Sl.nil _ _ _, XTouch.refl _ _, fun q hq => by cases hq⟩
  refine vc26 b 0 after ⟨fun p k c A => ∃ (m : Nat) (l : List Int), k = l.length ∧ m ≤ w.n ∧ l.length + m = w.n ∧ l ++ w.sqL after m = w.sqL after w.n ∧ w.sqN after m = w.sqN after w.n ∧ St W (refA b x w).own A (x.pieces b (w.cut m) ++ [sl 3 1 (.slice p l.length c) l.length (intsV l)]), fun _ k _ _ => w.n - k, ⟨w.n, [], rfl, Nat.le_refl _, by simp, by simp, rfl, H0⟩, fun _ => ?_⟩
  clear H0
  rintro p k c A ⟨m, l, rfl, hm, hlm, hl, hN, H⟩
  have fin : ∀ (B : World) (n : Nat), B = A.drewN n → (m = 0 ∨ ∃ i, m = i + 1 ∧ ¬ after < (w.slot i).seq) → ∃ z : RA × Option Addr × Nat, Ending.returned (.slice p l.length c) = .returned (.slice z.2.1 (w.sqL after w.n).length z.2.2) ∧ Sep.Post (refA b x w) W (rsquA b z.1 (w.cut (w.sqN after w.n)) (w.sqL after w.n) z.2) B := by
    rintro B n rfl hc
    have e1 : w.sqL after m = [] ∧ w.sqN after m = m := by
      rcases hc with rfl | ⟨i, rfl, hi⟩
      · exact ⟨rfl, rfl⟩
      · unfold WS.sqL WS.sqN; rw [if_neg hi, if_neg hi]; exact ⟨rfl, rfl⟩
    rw [e1.1, List.append_nil] at hl
    rw [← hl, ← hN, e1.2]
    exact ⟨(x, p, c), rfl, ((St.shut (H.drewN n)).shut (L := [refA b x (w.cut m), _]) (L' := [])).post 0 rfl⟩
  have hmn : (w.cut m).n = m := rfl
  refine ⟨x.p, m, x.cap, H.ld 0 rfl rfl, split_of (fun q => ?_) (fun q => ?_)⟩
  · have q := of_decide_eq_true q
    obtain ⟨i, rfl⟩ : ∃ i, m = i + 1 := ⟨m - 1, by omega⟩
    have hi : i < (w.cut (i + 1)).n := Nat.lt_succ_self i
    have ez : IntKind.wrap .i64 (((i + 1 : Nat) : Int) - 1) = (i : Nat) := by rw [w64 (by omega) (by omega)]; omega
    have cell : ∀ {B : World} {L : List Asn}, St W (refA b x w).own B (x.pieces b (w.cut (i + 1)) ++ L) → ∀ {f : Nat → Nat → Prop}, (∀ g off, B.cell? ⟨g, off + ((i : Nat) : Int).toNat * 5, none⟩ = some (.int .i64 (w.slot i).seq) → f g off) → Sx.adr x.p f := by
      intro B L HB f hf
      obtain ⟨g, off, hp, -, hc⟩ := ent_at (HB.nth 1 rfl) hi
      exact adr_eq hp (hf g off (by rw [Int.toNat_natCast]; exact hc 0 _ rfl))
    refine ⟨_, _, _, H.ld 0 rfl rfl, x.p, i + 1, x.cap, H.ld 0 rfl rfl, ?_⟩
    rintro z rfl
    rw [ez]
    refine ⟨⟨by omega, by show ((i : Nat) : Int) < ((i + 1 : Nat) : Int); omega⟩, cell H fun g off hc => ⟨_, hc, ?_⟩⟩
    rintro B n rfl
    have HB := H.drewN n
    refine split_of (fun q1 => ?_) (fun q1 => fin _ n rfl (.inr ⟨i, rfl, fun e => by have := of_decide_eq_false q1; omega⟩))
    have q1 : after < (w.slot i).seq := by have := of_decide_eq_true q1; omega
    refine HB.dr fun C HC => ⟨_, _, _, HC.ld 0 rfl rfl, x.p, i + 1, x.cap, HC.ld 0 rfl rfl, Below.refl _ _, ?_⟩
    rintro z3 rfl
    rw [ez]
    refine ⟨⟨by omega, by show ((i : Nat) : Int) < ((i + 1 : Nat) : Int); omega⟩, cell HC fun g off hc => ⟨_, hc, ?_⟩⟩
    refine HC.alb fun k E HE _ hb => ⟨hb, HE.app 3 rfl [.int .i64 (w.slot i).seq] (.inr ⟨_, rfl, fun j u hj => HE.cells 4 rfl j u (by simpa using hj)⟩) rfl (by intro u hu; simp at hu; subst hu; rfl) (by have : maxLen = 2 ^ 63 - 1 := rfl; omega) (by omega) fun p2 c2 F HF => ?_⟩
    refine HF.dr fun G HG => ⟨x.p, i + 1, x.cap, HG.ld 0 rfl rfl, x.p, i + 1, x.cap, HG.ld 0 rfl rfl, ?_⟩
    rintro z5 rfl
    rw [ez, Int.toNat_natCast]
    have hcap : i + 1 ≤ x.cap := (slr_cells (HG.nth 1 rfl) (Nat.succ_pos i)).1
    refine ⟨⟨by omega, by omega⟩, HG.st 0 rfl (by show 2 < 4; omega) fun I HI => ?_⟩
    have hini : ∀ {B : World}, Sl B 67 5 (.slice x.p (i + 1) x.cap) (i + 1) (w.cut (i + 1)).ents → Sl B 67 5 (.slice x.p i x.cap) i (w.cut i).ents := fun {B} hs => by
      have := Sl.init hs
      have e : (w.cut (i + 1)).ents.take (i * 5) = (w.cut i).ents := by
        unfold WS.ents
        rw [cut_slots, List.flatMap_append, List.take_append_of_le_length (by rw [rows_len (ent_len _), slots_len]; exact Nat.le_refl _), List.take_of_length_le (by rw [rows_len (ent_len _), slots_len]; exact Nat.le_refl _)]
      rwa [e] at this
    have HI := HI.conv 1 rfl (A' := sl 67 5 (.slice x.p i x.cap) i (w.cut i).ents) hini (fun q e => own_blk.2 (own_blk.1 e))
    have e2 : l.length + 1 = (l ++ [(w.slot i).seq]).length := by simp
    have e3 : intsV l ++ [Value.int .i64 (w.slot i).seq] = intsV (l ++ [(w.slot i).seq]) := by simp [intsV]
    refine ⟨⟨i, l ++ [(w.slot i).seq], e2, by omega, by rw [← e2]; omega, ?_, ?_, ?_⟩, by show w.n - (l.length + 1) < w.n - l.length; omega⟩
    · rw [← hl]
      show _ = l ++ w.sqL after (i + 1)
      rw [sqL_hit q1]
      simp
    · rw [← hN]
      show _ = w.sqN after (i + 1)
      rw [sqN_hit q1]
    · rw [e2, e3] at HI
      exact HI.take 4
  · have q := of_decide_eq_false q
    rintro B n rfl
    exact fin _ n rfl (.inl (by omega))
end Go.Proofs.YtdliholhfiihcaaDoor
