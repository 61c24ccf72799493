/- The window, part C: Ready: a range over the method value that collects. No condition. -/
import Derived.Test.YtdliholhfiihcaaDoorWinB
import Derived.Test.YtdliholhfiihcaaDoorWinBody
import Derived.Test.YtdliholhfiihcaaDoorSxR
namespace Go.Proofs.YtdliholhfiihcaaDoor
open Go.RowKit Go.XHeap Go.Sx Go.Sep Go.RangeM Go.Shelf
attribute [local go_sem] Oper.semAt_some
set_option linter.unusedVariables false
set_option maxRecDepth 100000
variable {W w' : World} {b : Nat} {w v : WS}

def WS.may (w : WS) (c : Int) (k : Nat) : Bool := (w.slot k).cls == c && w.able (w.slot k)
/-- what may begin among the k oldest -/
def WS.rdy (w : WS) (c : Int) (k : Nat) : List Int := ((List.range k).filter (w.may c)).map fun j => (w.slot j).seq
theorem rdy_zero (c : Int) : w.rdy c 0 = [] := rfl
theorem rdy_hit {c : Int} {k : Nat} (h : w.may c k = true) : w.rdy c (k + 1) = w.rdy c k ++ [(w.slot k).seq] := by
  unfold WS.rdy; rw [List.range_succ, List.filter_append, List.map_append]; simp [h]
theorem rdy_miss {c : Int} {k : Nat} (h : w.may c k = false) : w.rdy c (k + 1) = w.rdy c k := by
  unfold WS.rdy; rw [List.range_succ, List.filter_append, List.map_append]; simp [h]
theorem rdy_len (c : Int) (k : Nat) : (w.rdy c k).length ≤ k := by
  unfold WS.rdy
  rw [List.length_map]
  exact Nat.le_trans (List.length_filter_le _ _) (by simp)
theorem rdy_pre {c : Int} {k n : Nat} (h : k ≤ n) : (w.rdy c n).take (w.rdy c k).length = w.rdy c k := by
  obtain ⟨d, rfl⟩ : ∃ d, n = k + d := ⟨n - k, by omega⟩
  have : w.rdy c (k + d) = w.rdy c k ++ (((List.range d).map (k + ·)).filter (w.may c)).map fun j => (w.slot j).seq := by
    unfold WS.rdy
    rw [List.range_add, List.filter_append, List.map_append]
  rw [this, List.take_left']
  rfl
/-- what Ready gives -/
def WS.readyL (w : WS) (c most : Int) : List Int := (w.rdy c w.n).take most.toNat
theorem readyL_stop {c most : Int} {k : Nat} (hk : k ≤ w.n) (h1 : (w.rdy c k).length ≤ most.toNat) (h2 : most ≤ (w.rdy c k).length) : w.readyL c most = w.rdy c k := by
  unfold WS.readyL
  rw [show most.toNat = (w.rdy c k).length by omega]
  exact rdy_pre hk
theorem readyL_all {c most : Int} (h1 : (w.rdy c w.n).length ≤ most.toNat) : w.readyL c most = w.rdy c w.n := List.take_of_length_le h1
def intsV (l : List Int) : List Value := l.map (.int .i64)
theorem Tryd.info3W : (Tryd.prog.info? 3).map (fun i => (i.zero, i.size, i.bytes)) = some (some (.int .i64 0), 1, 8) := by kernel_rfl
theorem row_sl {A : World} {base e n : Nat} {x : Value} {xs : List Value} (h : A.ownsRow base e 1 x n xs) : Sl A e 1 x n xs := by
  obtain ⟨hl, hr⟩ := h
  refine ⟨hl, ?_⟩
  rcases hr with ⟨rfl, h⟩ | ⟨g, cap, cur, rfl, hb, hh, q1, q2, q3, q4⟩
  · exact .inl ⟨rfl, h⟩
  · exact .inr ⟨g, 0, cap, cur, rfl, hh, q1, q2, by omega, by simpa using q4⟩
def readyB (W : World) (b : Nat) (c most : Int) (p : Option Addr) (d : Nat) (l : List Int) : List Asn := [blk W.heap.size #[.pointer (some ⟨b, 0, none⟩)] 24, blk (W.heap.size + 1) #[.int .i64 c] 30, blk (W.heap.size + 2) #[.int .i64 most] 3, blk (W.heap.size + 3) #[.slice p l.length d] 29, sl 3 1 (.slice p l.length d) l.length (intsV l)]
def ReadyI (W : World) (b : Nat) (c most : Int) (l : List Int) (A : World) : Prop := ∃ p d, St W No A (readyB W b c most p d l) ∧ ∀ q, (Value.slice p l.length d).ownBlock = some q → W.heap.size + 6 ≤ q
theorem _root_.Go.Sep.St.then_ {M : Nat → Prop} {A B : World} {L L' : List Asn} (H : St W M A L) (H2 : St A (owns L) B L') : St W M B L' :=
  ⟨H.touch.trans H2.touch (fun q hq e => (H.mine q e).elim id (fun h => by omega)), fun q hq => (H2.mine q hq).elim (H.mine q) (fun e => .inr (Nat.le_trans H.size e)), H2.here⟩
theorem two_of {W0 A B : World} {L : List Asn} (ht : XTouch (owns L) A B) (hn : ∀ q, owns L q → ¬ Rec W0 q) (hs : W0.heap.size + 2 ≤ A.heap.size) : Two W0 A B := by
  intro q hq
  exact ht.block q (by rcases hq with e | e <;> omega) (fun e => hn q e hq)
def toExit : Ex → Exit
  | .normal => .normal
  | .exit i => .exit i
  | .ret => .ret
theorem round_post {W0 A : World} {I : Nat → World → Prop} {Ix : Code → World → Prop} {k n : Nat} {c : Code} {a a0 : Act} : ∀ (e : Exit) (a' : Act) (w : World), Sx.Post n c (fun e _ w => roundEnd W0 I Ix k A (toExit e) a0 w) a e a' w → roundEnd W0 I Ix k A e a' w
  | .normal, _, _, h => by obtain ⟨⟨F, -, h⟩, -⟩ := h; exact h
  | .exit _, _, _, h => by obtain ⟨⟨F, -, h⟩, -⟩ := h; exact h
  | .ret, _, _, h => by obtain ⟨⟨F, -, h⟩, -⟩ := h; exact h
  | .goto _, _, _, h => h.elim
  | .panic _, _, _, h => h.elim
  | .outgrown, _, _, h => h.elim
theorem ready_low {W0 : World} (hsz : W0.heap.size = W.heap.size + 4) {c most : Int} {p : Option Addr} {d : Nat} {l : List Int} (hown : ∀ q, (Value.slice p l.length d).ownBlock = some q → W.heap.size + 6 ≤ q) : ∀ q, owns (readyB W b c most p d l) q → ¬ Rec W0 q := by
  rintro q hq hr
  rcases hq with e | e | e | e | e | e
  · have e : q = W.heap.size := e
    rcases hr with hr | hr <;> omega
  · have e : q = W.heap.size + 1 := e
    rcases hr with hr | hr <;> omega
  · have e : q = W.heap.size + 2 := e
    rcases hr with hr | hr <;> omega
  · have e : q = W.heap.size + 3 := e
    rcases hr with hr | hr <;> omega
  · have := hown q e
    rcases hr with hr | hr <;> omega
  · exact e
def RI (W : World) (w : WS) (b : Nat) (c most : Int) (k : Nat) (A : World) : Prop := k ≤ w.n ∧ (w.rdy c k).length ≤ most.toNat ∧ ReadyI W b c most (w.rdy c k) A
def RX (W : World) (w : WS) (b : Nat) (c most : Int) (j : Code) (A : World) : Prop := j = .exit 0 ∧ ReadyI W b c most (w.readyL c most) A
/-- one round -/
theorem ready_round (ho : w.Ok) (h : (winA b w).at_ W) (hr : ∀ k, k < w.n → (w.slot k).regs w.R) (c most : Int) {W0 : World} (hsz : W0.heap.size = W.heap.size + 4) {l m k : Nat} {A : World} {a : Act} (hk : k < w.n) (hi : RI W w b c most k A) (hs2 : W0.heap.size + 2 ≤ A.heap.size)
    (hs : a.tmps.size = 35) (hd : a.defers = []) (h0 : a.tmps.getD 3 undef = .pointer (some ⟨W.heap.size, 0, none⟩)) (h1 : a.tmps.getD 4 undef = .pointer (some ⟨W.heap.size + 1, 0, none⟩)) (h2 : a.tmps.getD 5 undef = .pointer (some ⟨W.heap.size + 2, 0, none⟩)) (h3 : a.tmps.getD 6 undef = .pointer (some ⟨W.heap.size + 3, 0, none⟩)) (h4 : a.tmps.getD 7 undef = .pointer (some ⟨w.g, w.ix k * 6, none⟩)) :
    (Sx.bodyIn Tryd.f9).wpIn (Fence.wide.inRound l) m Tryd.prog (roundEnd W0 (RI W w b c most) (RX W w b c most) k A) a A := by
  obtain ⟨hkn, hlen, p, d, H, hown⟩ := hi
  have keep : ∀ {A : World} {L : List Asn}, St W No A L → (winA b w).at_ A := fun H => (winA b w).keep h H.touch (fun _ _ e => e)
  have hn := ho.n
  have hs1 := ho.s1
  have hlk := rdy_len (w := w) c k
  have low := ready_low (W0 := W0) (b := b) (c := c) (most := most) hsz hown
  refine wpIn_mono (vcB9 (W := A) (Q := fun e B => roundEnd W0 (RI W w b c most) (RX W w b c most) k A (toExit e) a B) W.heap.size 0 (W.heap.size + 1) 0 (W.heap.size + 2) 0 (W.heap.size + 3) 0 w.g (w.ix k * 6) (fun J => ?_) hs hd h0 h1 h2 h3 h4) round_post
  have HA : St A (owns (readyB W b c most p d (w.rdy c k))) A (readyB W b c most p d (w.rdy c k)) := St.all_ H.here
  have hg : ∀ {B : World} {L : List Asn}, St A (owns (readyB W b c most p d (w.rdy c k))) B L → Blk B w.g (rows Slot.cells w.ring) 76 ∧ (winA b w).at_ B := fun HB => ⟨(win_open (keep (H.then_ HB))).nth 1 rfl, keep (H.then_ HB)⟩
  refine ⟨p, _, d, HA.ld 3 rfl rfl, most, HA.ld 2 rfl rfl, split_of (fun q => ?_) (fun q => ?_)⟩
  · have q := of_decide_eq_true q
    exact ⟨two_of HA.touch low hs2, rfl, by rw [readyL_stop (by omega) hlen q]; exact ⟨p, d, H, hown⟩⟩
  have q := of_decide_eq_false q
  refine ⟨(w.slot k).cls, slot_cell ho (hg HA).1 k (q := 0) (by omega) rfl, c, HA.ld 1 rfl rfl, split_of (fun q1 => ?_) (fun q1 => ?_)⟩
  · refine ⟨some ⟨b, 0, none⟩, HA.ld 0 rfl rfl, w.able (w.slot k), fun n => (able_any ho (hg (HA.drewN n)).2 k (hr k hk)).mono ?_, ?_⟩
    · rintro e B ⟨rfl, rfl⟩
      exact ⟨rfl, n, rfl⟩
    · refine HA.drN fun B HB => split_of (fun q2 => ?_) (fun q2 => ?_)
      · have hmay : w.may c k = true := by unfold WS.may; rw [q1, q2]; rfl
        refine HB.dr fun B HB => ⟨p, _, d, HB.ld 3 rfl rfl, (w.slot k).seq, slot_cell ho (hg HB).1 k (q := 5) (by omega) rfl, HB.alb fun k8 B5 HB5 hk8 b5 => ⟨b5, ?_⟩⟩
        refine ⟨intsV (w.rdy c k), [.int .i64 (w.slot k).seq], HB5.nth 4 rfl, .inr ⟨_, rfl, fun j u hj => HB5.cells 5 rfl j u (by simpa using hj)⟩, rfl, by intro u hu; simp at hu; subst hu; rfl, by have : maxLen = 2 ^ 63 - 1 := rfl; omega, by omega, ?_⟩
        intro p4 k10 B6 s1 s2 s3 _ _
        have hpp : Sep.Post (sl 3 1 (.slice p (w.rdy c k).length d) (w.rdy c k).length (intsV (w.rdy c k))) B5 (sl 3 1 (.slice p4 ((w.rdy c k).length + 1) k10) ((w.rdy c k).length + 1) (intsV (w.rdy c k) ++ [Value.int .i64 (w.slot k).seq])) B6 := ⟨s1, s2, s3⟩
        have HB6 := HB5.upd 4 rfl hpp
        refine HB6.st 3 rfl (by show 0 < 1; omega) fun B7 HB7 => ?_
        have HF := (HB7.take 5)
        have e1 : w.rdy c (k + 1) = w.rdy c k ++ [(w.slot k).seq] := rdy_hit hmay
        have e2 : (w.rdy c k).length + 1 = (w.rdy c (k + 1)).length := by rw [e1]; simp
        have e3 : intsV (w.rdy c k) ++ [.int .i64 (w.slot k).seq] = intsV (w.rdy c (k + 1)) := by rw [e1]; simp [intsV]
        refine ⟨two_of HB7.touch low hs2, by omega, by omega, p4, k10, ?_, ?_⟩
        · have HF : St A (owns (readyB W b c most p d (w.rdy c k))) B7 [blk W.heap.size #[.pointer (some ⟨b, 0, none⟩)] 24, blk (W.heap.size + 1) #[.int .i64 c] 30, blk (W.heap.size + 2) #[.int .i64 most] 3, blk (W.heap.size + 3) #[.slice p4 ((w.rdy c k).length + 1) k10] 29, sl 3 1 (.slice p4 ((w.rdy c k).length + 1) k10) ((w.rdy c k).length + 1) (intsV (w.rdy c k) ++ [.int .i64 (w.slot k).seq])] := HF
          rw [e2, e3] at HF
          exact H.then_ HF
        · rw [← e2]
          intro q hq
          rcases s3 q hq with e | e
          · exact hown q e
          · have := HB5.size
            omega
      · have hmay : w.may c k = false := by unfold WS.may; rw [q1, q2]; rfl
        refine ⟨two_of HB.touch low hs2, by omega, by rw [rdy_miss hmay]; exact hlen, ?_⟩
        rw [rdy_miss hmay]
        exact ⟨p, d, H.then_ HB, hown⟩
  · have hmay : w.may c k = false := by unfold WS.may; rw [q1]; rfl
    refine HA.drN fun B HB => ⟨two_of HB.touch low hs2, by omega, by rw [rdy_miss hmay]; exact hlen, ?_⟩
    rw [rdy_miss hmay]
    exact ⟨p, d, H.then_ HB, hown⟩
end Go.Proofs.YtdliholhfiihcaaDoor
