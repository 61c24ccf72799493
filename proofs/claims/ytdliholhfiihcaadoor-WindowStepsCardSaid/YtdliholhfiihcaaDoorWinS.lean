/- The document's window, part B: New, Enter, Retire, Able. No condition. -/
import Derived.Test.YtdliholhfiihcaaDoorWinR
import Derived.Test.YtdliholhfiihcaaDoorWinD
import Derived.Test.YtdliholhfiihcaaDoorWinH
namespace Go.Proofs.YtdliholhfiihcaaDoor
open Go.RowKit Go.XHeap Go.Sx Go.Sep
set_option linter.unusedVariables false
set_option maxRecDepth 100000
variable {W w' : World} {b : Nat} {w v : WS} {x y : RA}

theorem tf_set {m k : Nat} (h : 0 < k) : (bools (tf m k)).setIfInBounds m (.bool true) = bools (tf (m + 1) (k - 1)) := by
  obtain ⟨k, rfl⟩ : ∃ i, k = i + 1 := ⟨k - 1, by omega⟩
  rw [bools_set]
  congr 1
  unfold tf
  rw [List.set_append_right _ _ (by simp), List.replicate_succ (n := k), List.replicate_succ' (n := m)]
  simp
theorem rnew_bad (W : World) (S R : Int) (h : ¬ winOk S R) : Calls Tryd.prog 15 #[.int .i64 S, .int .i64 R] W fun e w => e = .returned (.tuple #[.pointer none, .int .i64 2]) ∧ Hush W w := by
  refine vc15 S R (split_of (fun _ => ⟨rfl, XTouch.refl _ _⟩) (fun q1 => split_of (fun _ => ⟨rfl, XTouch.refl _ _⟩) (fun q2 => split_of (fun _ => ⟨rfl, XTouch.refl _ _⟩) (fun q3 => split_of (fun _ => ⟨rfl, XTouch.refl _ _⟩) (fun q4 => ?_)))))
  have q1 := of_decide_eq_false q1
  have q2 := of_decide_eq_false q2
  have q3 := of_decide_eq_false q3
  have q4 := of_decide_eq_false q4
  exact absurd (show winOk S R from ⟨by omega, by omega, by omega, by omega⟩) h
theorem fresh_ents {S R : Nat} (h : w.Fresh S R) : w.ents = [] := by unfold WS.ents WS.slots; rw [h.n]; rfl
theorem rnew_good (W : World) {S R : Nat} (hf : w.Fresh S R) : Calls Tryd.prog 15 #[.int .i64 S, .int .i64 R] W fun e w2 => ∃ z : Nat × RA, e = .returned (.tuple #[.pointer (some ⟨z.1, 0, none⟩), .int .i64 0]) ∧ Sep.Post emp W (refA z.1 z.2 w) w2 := by
  have h1 := hf.ok.s0
  have h2 := hf.ok.s1
  have h3 := hf.ok.r0
  have h4 := hf.ok.r1
  have hs := hf.s
  have hr := hf.r
  refine vc15 S R (split_of (fun q => absurd (of_decide_eq_true q) (by omega)) (fun _ => split_of (fun q => absurd (of_decide_eq_true q) (by omega)) (fun _ => split_of (fun q => absurd (of_decide_eq_true q) (by omega)) (fun _ => split_of (fun q => absurd (of_decide_eq_true q) (by omega)) (fun _ => ?_)))))
  refine ⟨⟨by omega, Int.le_refl _, by omega, by omega⟩, ?_⟩
  rw [Int.toNat_natCast, bools_made]
  refine (St.nil W).al fun k A H => ?_
  rintro vs rfl
  refine H.al fun k2 B H => ?_
  have H : St W No B [blk k (bools (tf 0 R)) 4, blk k2 #[.int .i64 (S : Nat), .int .i64 0, .slice none 0 0, .slice (some ⟨k, 0, none⟩) R R] 52] := H
  refine ⟨fun i A => ∃ j : Nat, i = j ∧ j ≤ R ∧ St W No A [blk k (bools (tf j (R - j))) 4, blk k2 #[.int .i64 (S : Nat), .int .i64 0, .slice none 0 0, .slice (some ⟨k, 0, none⟩) R R] 52], fun i _ => R - i.toNat, ⟨0, rfl, Nat.zero_le _, H⟩, fun _ => ?_⟩
  clear H
  rintro i A ⟨j, rfl, hj, H⟩
  refine split_of (fun q => ?_) (fun q => ?_)
  · have q := of_decide_eq_true q
    refine ⟨_, _, _, H.ld 1 rfl rfl, ⟨by omega, by omega⟩, adr_some ?_⟩
    rw [ix1, Nat.zero_add]
    refine H.st 0 rfl (by rw [bools_size, tf_len]; omega) fun C H => ?_
    rw [tf_set (by omega)] at H
    rintro z rfl
    rw [w64 (by omega) (by omega)]
    exact ⟨⟨j + 1, by omega, by omega, H⟩, by show R - ((j : Int) + 1).toNat < R - (j : Int).toNat; omega⟩
  · have q := of_decide_eq_false q
    obtain rfl : j = R := by omega
    refine ⟨(k2, ⟨none, 0, k⟩), rfl, ?_⟩
    have H := H.add (A := sl 67 5 (.slice none 0 0) 0 []) ⟨Sl.nil _ _ _, XTouch.refl _ _, fun q hq => by cases hq⟩
    have H := H.pick [1, 2, 0]
    have e1 : bools (tf j (j - j)) = bools w.ready := by
      rw [Nat.sub_self, hf.ready]; unfold tf; rw [List.replicate_zero, List.append_nil]
    have H : St W No A ((RA.mk none 0 k).pieces k2 w ++ []) := by
      unfold RA.pieces RA.root
      rw [fresh_ents hf, hf.n, hs, hf.next, hr, ← e1]
      exact H
    exact (St.shut H).new 0 rfl
theorem ix_ne {w : WS} (ho : w.Ok) {j k : Nat} (hj : j < w.S) (hk : k < w.S) (h : j ≠ k) : w.ix j ≠ w.ix k := by
  have hh := ho.head
  have key : ∀ i, i < w.S → w.ix i = if w.head + i < w.S then w.head + i else w.head + i - w.S := fun i hi => by
    unfold WS.ix
    split
    · rename_i e; exact Nat.mod_eq_of_lt e
    · rename_i e; rw [Nat.mod_eq_sub_mod (by omega), Nat.mod_eq_of_lt (by omega)]
  rw [key j hj, key k hk]
  split <;> split <;> omega
theorem entered_slot (ho : w.Ok) (hn : w.n < w.S) (cls s1 s2 dst : Int) {j : Nat} (hj : j ≤ w.n) : (w.entered cls s1 s2 dst).slot j = if j = w.n then ⟨cls, s1, s2, dst, 0, w.next⟩ else w.slot j := by
  have e1 : (w.entered cls s1 s2 dst).ix j = w.ix j := rfl
  unfold WS.slot
  rw [e1]
  show (w.ring.set (w.ix w.n) _).getD (w.ix j) default = _
  have hi := ho.ix_lt w.n
  by_cases e : j = w.n
  · subst e
    rw [if_pos rfl, List.getD_eq_getElem?_getD, List.getElem?_set_self hi]; rfl
  · rw [if_neg e, List.getD_eq_getElem?_getD, List.getElem?_set_ne (Ne.symm (ix_ne ho (by omega) hn e)), ← List.getD_eq_getElem?_getD]
theorem entered_ents (ho : w.Ok) (hn : w.n < w.S) (cls s1 s2 dst : Int) : (w.entered cls s1 s2 dst).ents = w.ents ++ [.int .i64 w.next, .int .i64 cls, .int .i64 s1, .int .i64 s2, .int .i64 0] := by
  have : (w.entered cls s1 s2 dst).slots = w.slots ++ [⟨cls, s1, s2, dst, 0, w.next⟩] := by
    unfold WS.slots
    show (List.range (w.n + 1)).map _ = _
    rw [List.range_succ, List.map_append]
    congr 1
    · refine List.map_congr_left fun j hj => ?_
      have := List.mem_range.1 hj
      rw [entered_slot ho hn _ _ _ _ (by omega), if_neg (by omega)]
    · simp only [List.map_cons, List.map_nil]
      rw [entered_slot ho hn _ _ _ _ (Nat.le_refl _), if_pos rfl]
  unfold WS.ents
  rw [this, List.flatMap_append]
  rfl
def rEnterPost (W : World) (b : Nat) (x : RA) (w : WS) (cls s1 s2 dst : Int) (e : Ending) (w2 : World) : Prop :=
  if w.enterOk cls s1 s2 dst then
    (if w.n = w.S then e = .returned (.tuple #[.int .i64 0, .int .i64 4]) ∧ Sep.Post (refA b x w) W (refA b x w) w2
    else e = .returned (.tuple #[.int .i64 w.next, .int .i64 0]) ∧ ∃ y, Sep.Post (refA b x w) W (refA b y (w.entered cls s1 s2 dst)) w2)
  else e = .returned (.tuple #[.int .i64 0, .int .i64 3]) ∧ Sep.Post (refA b x w) W (refA b x w) w2
theorem renter_any (ho : w.Ok) (h : (refA b x w).at_ W) (cls s1 s2 dst : Int) :
    Calls Tryd.prog 17 #[.pointer (some ⟨b, 0, none⟩), .int .i64 cls, .int .i64 s1, .int .i64 s2, .int .i64 dst] W (rEnterPost W b x w cls s1 s2 dst) := by
  have hs0 := ho.s0
  have hs1 := ho.s1
  have hn := ho.n
  have hnx := ho.next
  have bad : ¬ w.enterOk cls s1 s2 dst → rEnterPost W b x w cls s1 s2 dst (.returned (.tuple #[.int .i64 0, .int .i64 3])) W := fun e => by unfold rEnterPost; rw [if_neg e]; exact ⟨rfl, ref_same h (XTouch.refl _ _)⟩
  have H := ref_open h
  refine vc17 b 0 cls s1 s2 dst (H.callp (rreg_any h s1) ⟨_, rfl, H.callp (rreg_any h s2) ⟨_, rfl, H.callp (rreg_any h dst) ⟨_, rfl, ?_⟩⟩⟩)
  refine split_of (fun q => bad (fun e => by have := of_decide_eq_true q; have := e.1; omega)) (fun q => split_of (fun q1 => bad (fun e => by have := of_decide_eq_true q1; have := e.2.1; omega)) (fun q1 => ?_))
  have all3 : [s1, s2, dst].all w.regOk = (w.regOk s1 && (w.regOk s2 && (w.regOk dst && true))) := rfl
  refine split_of (fun q2 => bad (fun e => by have := e.2.2; rw [all3] at this; simp at q2 this; rw [q2] at this; simp at this)) (fun q2 => split_of (fun q3 => bad (fun e => by have := e.2.2; rw [all3] at this; simp at q3 this; rw [q3] at this; simp at this)) (fun q3 => split_of (fun q4 => bad (fun e => by have := e.2.2; rw [all3] at this; simp at q4 this; rw [q4] at this; simp at this)) (fun q4 => ?_)))
  have q := of_decide_eq_false q
  have q1 := of_decide_eq_false q1
  have q2 : w.regOk s1 = true := by simpa using q2
  have q3 : w.regOk s2 = true := by simpa using q3
  have q4 : w.regOk dst = true := by simpa using q4
  have hok : w.enterOk cls s1 s2 dst := ⟨by omega, by omega, by rw [all3, q2, q3, q4]; rfl⟩
  refine ⟨_, _, _, H.ld 0 rfl rfl, _, H.ld 0 rfl rfl, H.drN fun A H => split_of (fun q5 => ?_) (fun q5 => ?_)⟩
  · have q5 : w.n = w.S := by have : ((w.n : Nat) : Int) = (w.S : Nat) := by simpa using q5
                              omega
    unfold rEnterPost
    rw [if_pos hok, if_pos q5]
    exact ⟨rfl, ref_shut (L := []) H⟩
  have q5 : ¬ w.n = w.S := fun e => by rw [e] at q5; simp at q5
  refine ⟨_, H.ld 0 rfl rfl, ?_⟩
  rintro z rfl
  rw [w64 (by omega) (by omega)]
  refine H.st 0 rfl (by show 1 < 4; omega) fun B H => ⟨_, _, _, H.ld 0 rfl rfl, ?_⟩
  rintro vs rfl
  refine ⟨rfl, H.al fun k6 C H => H.app 1 rfl [.int .i64 w.next, .int .i64 cls, .int .i64 s1, .int .i64 s2, .int .i64 0] (.inr ⟨_, rfl, fun j u hj => H.cells 3 rfl j u (by simpa using hj)⟩) rfl (by intro u hu; simp at hu; rcases hu with rfl | rfl | rfl | rfl | rfl <;> rfl) (by have : maxLen = 2 ^ 63 - 1 := rfl; omega) (by omega) fun p2 c2 D H => ?_⟩
  refine H.st 0 rfl (by show 2 < 4; omega) fun E H => ?_
  have fin : ∀ (F : World) (y : RA) (L : List Asn), St W (refA b x w).own F (y.pieces b (w.entered cls s1 s2 dst) ++ L) → rEnterPost W b x w cls s1 s2 dst (.returned (.tuple #[.int .i64 w.next, .int .i64 0])) F := by
    intro F y L H
    unfold rEnterPost
    rw [if_pos hok, if_neg q5]
    exact ⟨rfl, y, ref_shut H⟩
  have hnx1 : ((w.next : Nat) : Int) + 1 = ((w.next + 1 : Nat) : Int) := by omega
  rw [hnx1] at H
  refine split_of (fun q6 => ?_) (fun q6 => ?_)
  · have q6 := of_decide_eq_true q6
    obtain ⟨dd, rfl⟩ : ∃ d : Nat, dst = d := ⟨dst.toNat, by omega⟩
    have hdr : dd < w.R := by
      unfold WS.regOk at q4
      simp at q4; omega
    refine ⟨_, _, _, H.ld 0 rfl rfl, ⟨by omega, by omega⟩, adr_some ?_⟩
    rw [ix1, Nat.zero_add]
    refine H.st 2 rfl (by rw [bools_size, ho.ready]; exact hdr) fun F H => ?_
    rw [bools_set] at H
    refine fin F ⟨p2, c2, x.g⟩ [] ?_
    have H := H.take 3
    unfold RA.pieces RA.root
    rw [entered_ents ho (by omega)]
    have er : (w.entered cls s1 s2 ((dd : Nat) : Int)).ready = w.ready.set dd false := by
      unfold WS.entered
      show (if (0 : Int) ≤ ((dd : Nat) : Int) then w.ready.set ((dd : Nat) : Int).toNat false else w.ready) = w.ready.set dd false
      rw [if_pos (by omega)]; rfl
    rw [er]
    exact H
  · have q6 := of_decide_eq_false q6
    refine fin E ⟨p2, c2, x.g⟩ [] ?_
    have H := H.take 3
    unfold RA.pieces RA.root
    rw [entered_ents ho (by omega)]
    have er : (w.entered cls s1 s2 dst).ready = w.ready := by
      unfold WS.entered
      show (if (0 : Int) ≤ dst then w.ready.set dst.toNat false else w.ready) = w.ready
      rw [if_neg (by omega)]
    rw [er]
    exact H
/-! ### Retire -/
theorem retired_at (w : WS) (k : Nat) : w.retired.slot k = w.slot (k + 1) := by
  have e : w.retired.ix k = w.ix (k + 1) := by
    show ((w.head + 1) % w.S + k) % w.S = (w.head + (k + 1)) % w.S
    rw [Nat.mod_add_mod, Nat.add_assoc, Nat.add_comm 1 k]
  unfold WS.slot
  rw [e]; rfl
theorem retired_slots {n : Nat} (hn : w.n = n + 1) : w.slots = w.slot 0 :: w.retired.slots := by
  unfold WS.slots
  show _ = _ :: (List.range (w.n - 1)).map _
  rw [hn, List.range_succ_eq_map, List.map_cons, List.map_map]
  congr 1
  refine List.map_congr_left fun j _ => ?_
  rw [retired_at]; rfl
def rRetirePost (W : World) (b : Nat) (x : RA) (w : WS) (e : Ending) (w2 : World) : Prop :=
  if w.n ≠ 0 ∧ (w.slot 0).st = 2 then e = .returned (.tuple #[.int .i64 (w.slot 0).seq, .int .i64 0]) ∧ ∃ y, Sep.Post (refA b x w) W (refA b y w.retired) w2
  else e = .returned (.tuple #[.int .i64 0, .int .i64 7]) ∧ Sep.Post (refA b x w) W (refA b x w) w2
theorem rretire_any (ho : w.Ok) (h : (refA b x w).at_ W) : Calls Tryd.prog 24 #[.pointer (some ⟨b, 0, none⟩)] W (rRetirePost W b x w) := by
  have hs1 := ho.s1
  have hn := ho.n
  have H := ref_open h
  have bad : ¬ (w.n ≠ 0 ∧ (w.slot 0).st = 2) → rRetirePost W b x w (.returned (.tuple #[.int .i64 0, .int .i64 7])) W := fun e => by unfold rRetirePost; rw [if_neg e]; exact ⟨rfl, ref_same h (XTouch.refl _ _)⟩
  refine vc24 b 0 ⟨_, _, _, H.ld 0 rfl rfl, split_of (fun q => bad (fun e => e.1 (by simpa using q))) (fun q => ?_)⟩
  have q : w.n ≠ 0 := fun e => by rw [e] at q; simp at q
  have hk : 0 < w.n := by omega
  obtain ⟨g, off, hp, hcs, hc⟩ := ent_at (H.nth 1 rfl) hk
  refine ⟨_, _, _, H.ld 0 rfl rfl, ⟨by omega, by omega⟩, adr_eq hp ⟨_, by have := hc 4 _ rfl; rwa [Nat.zero_mul] at this, split_of (fun q1 => bad (fun e => by rw [e.2] at q1; simp at q1)) (fun q1 => ?_)⟩⟩
  have q1 : (w.slot 0).st = 2 := by have : ((w.slot 0).st : Int) = 2 := by simpa using q1
                                    omega
  refine ⟨_, _, _, H.ld 0 rfl rfl, ⟨by omega, by omega⟩, adr_eq hp ⟨_, by have := hc 0 _ rfl; rwa [Nat.zero_mul] at this, _, _, _, H.ld 0 rfl rfl, ⟨by omega, by omega⟩, ?_⟩⟩
  obtain ⟨m, hm⟩ : ∃ m, w.n = m + 1 := ⟨w.n - 1, by omega⟩
  have hsl := retired_slots hm
  have hel : w.ents = (w.slot 0).ent ++ w.retired.ents := by unfold WS.ents; rw [hsl]; rfl
  have hrn : w.retired.n = w.n - 1 := rfl
  have hrl : w.retired.ents.length = (w.n - 1) * 5 := by
    unfold WS.ents
    rw [rows_len (ent_len _), slots_len, hrn]
  obtain ⟨hnc, hcm, g', o', hp', hcells⟩ := slr_cells (H.nth 1 rfl) hk
  rw [hp] at hp'
  obtain ⟨rfl, rfl⟩ : g = g' ∧ off = o' := by simpa using hp'
  refine ⟨[], w.retired.ents, Sl.nil _ _ _, ?_, hrl, ?_, by have : maxLen = 2 ^ 63 - 1 := rfl; omega, by omega, ?_⟩
  · right
    rw [hp]
    by_cases hcap : x.cap = 1
    · refine ⟨⟨g, off, none⟩, by rw [hcap]; rfl, fun j v hj => ?_⟩
      exfalso
      have : j < w.retired.ents.length := (List.getElem?_eq_some_iff.1 hj).1
      omega
    · refine ⟨⟨g, off + 5, none⟩, by unfold Sx.sub; rw [if_neg hcap, Option.map_some, add_none], fun j v hj => ?_⟩
      rw [add_none, Nat.add_assoc]
      refine hcells (5 + j) v ?_
      rw [hel, List.getElem?_append_right (by show 5 ≤ 5 + j; omega)]
      have : 5 + j - (w.slot 0).ent.length = j := by show 5 + j - 5 = j; omega
      rw [this, hj]
  · intro u hu
    unfold WS.ents at hu
    obtain ⟨s, -, hs⟩ := List.mem_flatMap.1 hu
    simp [Slot.ent] at hs
    rcases hs with rfl | rfl | rfl | rfl | rfl <;> rfl
  · intro p5 c5 A hS hT ho5 _ _
    have hS' : Sl A 67 5 (.slice p5 (w.n - 1) c5) (w.n - 1) w.retired.ents := by rw [Nat.zero_add] at hS; exact hS
    have hT0 : Hush W A := hT.mono (fun k _ e => by simp [Value.ownBlock] at e)
    have hadd : Sep.Post emp W (sl 67 5 (.slice p5 (w.n - 1) c5) (w.n - 1) w.retired.ents) A := ⟨hS', hT0, fun q e => .inr ((ho5 q (by rw [Nat.zero_add]; exact e)).elim (fun e => by simp [Value.ownBlock] at e) id)⟩
    have H := H.add hadd
    refine H.st 0 rfl (by show 2 < 4; omega) fun B H => ?_
    have H := H.pick [0, 3, 2]
    unfold rRetirePost
    rw [if_pos ⟨q, q1⟩]
    refine ⟨rfl, ⟨p5, c5, x.g⟩, ref_shut (L := []) ?_⟩
    rw [Nat.zero_add (w.n - 1)] at H
    exact H
/-! ### Able -/
theorem able_list (ho : w.Ok) (h : (refA b x w).at_ W) (hr : ∀ k, k < w.n → (w.slot k).regs w.R) (c most : Int) :
    Calls Tryd.prog 19 #[.pointer (some ⟨b, 0, none⟩), .int .i64 c, .int .i64 most] W fun e w2 => ∃ z : Option Addr × Nat, e = .returned (.slice z.1 (w.readyL c most).length z.2) ∧ Sep.Post emp W (sl 3 1 (.slice z.1 (w.readyL c most).length z.2) (w.readyL c most).length (intsV (w.readyL c most))) w2 := by
  have hs1 := ho.s1
  have hn := ho.n
  have keep : ∀ {A : World} {L : List Asn}, St W No A L → (refA b x w).at_ A := fun H => (refA b x w).keep h H.touch (fun _ _ e => e)
  refine vc19 b 0 c most ⟨fun i p l d A => ∃ j : Nat, i = j ∧ j ≤ w.n ∧ l = (w.rdy c j).length ∧ l ≤ most.toNat ∧ St W No A [sl 3 1 (.slice p (w.rdy c j).length d) (w.rdy c j).length (intsV (w.rdy c j))], fun i _ _ _ _ => w.n - i.toNat, ⟨0, rfl, Nat.zero_le _, rfl, Nat.zero_le _, (St.nil W).add (A := sl 3 1 (.slice none 0 0) 0 []) ⟨Sl.nil _ _ _, XTouch.refl _ _, fun q hq => by cases hq⟩⟩, fun _ => ?_⟩
  rintro i p l d A ⟨j, rfl, hj, rfl, hlm, H⟩
  have R := ref_open (keep H)
  have hrl := rdy_len (w := w) c j
  refine ⟨_, _, _, R.ld 0 rfl rfl, split_of (fun q => split_of (fun q1 => ?_) (fun q1 => ?_)) (fun q => ?_)⟩
  · have q := of_decide_eq_true q
    have q1 := of_decide_eq_true q1
    have hjn : j < w.n := by omega
    obtain ⟨g, off, hp, hcs, hc⟩ := ent_at (R.nth 1 rfl) hjn
    refine ⟨_, _, _, R.ld 0 rfl rfl, ⟨by omega, q⟩, adr_eq hp ?_⟩
    rw [Int.toNat_natCast]
    refine ⟨(w.slot j).ent.toArray, rfl, hcs, (rable_any ho (keep H) (w.slot j) (hr j hjn)).mono ?_⟩
    rintro e B ⟨rfl, hh⟩
    have H := H.quiet hh
    have R := ref_open (keep H)
    obtain ⟨g, off, hp, hcs, hc⟩ := ent_at (R.nth 1 rfl) hjn
    have miss : w.may c j = false → ∀ z : Int, z = IntKind.wrap .i64 ((j : Int) + 1) → (∃ j2 : Nat, z = j2 ∧ j2 ≤ w.n ∧ (w.rdy c j).length = (w.rdy c j2).length ∧ (w.rdy c j).length ≤ most.toNat ∧ St W No B [sl 3 1 (.slice p (w.rdy c j2).length d) (w.rdy c j2).length (intsV (w.rdy c j2))]) ∧ w.n - z.toNat < w.n - (j : Int).toNat := by
      rintro hm z rfl
      rw [w64 (by omega) (by omega)]
      refine ⟨⟨j + 1, by omega, by omega, by rw [rdy_miss hm], hlm, ?_⟩, by omega⟩
      rw [rdy_miss hm]; exact H
    refine ⟨_, rfl, split_of (fun q2 => ?_) (fun q2 => miss (by unfold WS.may; rw [q2, Bool.and_false]))⟩
    refine ⟨_, _, _, R.ld 0 rfl rfl, ⟨by omega, q⟩, adr_eq hp ?_⟩
    refine ⟨_, hc 1 _ rfl, split_of (fun q3 => ?_) (fun q3 => miss (by unfold WS.may; rw [q3, Bool.false_and]))⟩
    have hmay : w.may c j = true := by unfold WS.may; rw [q2, q3]; rfl
    refine ⟨_, _, _, R.ld 0 rfl rfl, ⟨by omega, q⟩, adr_eq hp ?_⟩
    refine ⟨_, hc 0 _ rfl, H.al fun k C H => H.app 0 rfl [.int .i64 (w.slot j).seq] (.inr ⟨_, rfl, fun i u hi => H.cells 1 rfl i u (by simpa using hi)⟩) rfl (by intro u hu; simp at hu; subst hu; rfl) (by have : maxLen = 2 ^ 63 - 1 := rfl; omega) (by omega) fun p2 c2 D H => ?_⟩
    have e1 : w.rdy c (j + 1) = w.rdy c j ++ [(w.slot j).seq] := rdy_hit hmay
    have e2 : (w.rdy c j).length + 1 = (w.rdy c (j + 1)).length := by rw [e1]; simp
    have e3 : intsV (w.rdy c j) ++ [Value.int .i64 (w.slot j).seq] = intsV (w.rdy c (j + 1)) := by rw [e1]; simp [intsV]
    rw [e2, e3] at H
    rintro z rfl
    rw [w64 (by omega) (by omega)]
    exact ⟨⟨j + 1, by omega, by omega, e2, by omega, H.take 1⟩, by show w.n - ((j : Int) + 1).toNat < w.n - (j : Int).toNat; omega⟩
  · have q1 := of_decide_eq_false q1
    rw [readyL_stop hj hlm (by omega)]
    exact ⟨(p, d), rfl, H.new 0 rfl⟩
  · have q := of_decide_eq_false q
    obtain rfl : j = w.n := by omega
    rw [readyL_all hlm]
    exact ⟨(p, d), rfl, H.new 0 rfl⟩
end Go.Proofs.YtdliholhfiihcaaDoor
