/- The law 'WindowSteps', its steps. Condition: the handle of the type 'error', where it is named. -/
import Derived.Test.YtdliholhfiihcaaDoorWinV
import Derived.Test.YtdliholhfiihcaaDoorWinX
import Derived.Test.YtdliholhfiihcaaDoorWinStepVc
namespace Go.Proofs.YtdliholhfiihcaaDoor
open Go.RowKit Go.XHeap Go.Sx Go.Sep
set_option linter.unusedVariables false
set_option maxRecDepth 100000
variable {W : World} {b rb : Nat} {w : WS} {x : RA}

def Scr (W : World) (p : Option Addr) (n : Nat) : Prop := ∀ i, i < n → ∃ g off, p = some ⟨g, off, none⟩ ∧ g < W.heap.size ∧ ∃ o0 o1 o2 o3 o4 : Int, ∀ j v, (#[.int .i64 o0, .int .i64 o1, .int .i64 o2, .int .i64 o3, .int .i64 o4] : Array Value)[j]? = some v → W.cell? ⟨g, off + i * 5 + j, none⟩ = some v
def Regs (w : WS) : Prop := ∀ k, k < w.n → (w.slot k).regs w.R
theorem told_nil_any (W : World) : Calls Tryd.prog 16 #[.nilIface, .int .i64 0] W fun e w2 => e = .returned (.bool true) ∧ Hush W w2 :=
  vc16 _ 0 ((told_nil W).mono fun e w2 ⟨h1, h2⟩ => ⟨0, h1, rfl, by rw [h2]; exact XTouch.refl _ _⟩)
theorem told_err_any (W : World) (hE : HErr W) (n : Int) : Calls Tryd.prog 16 #[errN n, .int .i64 n] W fun e w2 => e = .returned (.bool true) ∧ Hush W w2 :=
  vc16 _ n ((told_err n W hE).mono fun e w2 ⟨h1, h2⟩ => ⟨n, h1, by simp, h2⟩)
structure Fine (w : WS) (N : Nat) : Prop where
  ok : w.Ok
  regs : Regs w
  next : w.next ≤ N
theorem Fine.le {N M : Nat} (h : Fine w N) (hm : N ≤ M) : Fine w M := ⟨h.ok, h.regs, Nat.le_trans h.next hm⟩
theorem fine_turned {N k to : Nat} (h : Fine w N) (hk : k < w.n) (ht : to < 256) : Fine (w.turned k to) N :=
  ⟨turned_ok h.ok k ht, fun j hj => by
    rw [turned_slot h.ok hk hj]
    split
    · exact h.regs k hk
    · exact h.regs j hj, h.next⟩
theorem fine_retired {N : Nat} (h : Fine w N) : Fine w.retired N :=
  ⟨retired_ok h.ok, fun j hj => by
    rw [retired_at]
    exact h.regs (j + 1) (by have : w.retired.n = w.n - 1 := rfl
                             omega), h.next⟩
theorem fine_woken {N p : Nat} (h : Fine w N) : Fine (w.woken p) N := ⟨woken_ok h.ok p, h.regs, h.next⟩
theorem fine_cut {N m : Nat} (h : Fine w N) (hm : m ≤ w.n) : Fine (w.cut m) N := ⟨cut_ok h.ok hm, fun j hj => h.regs j (Nat.lt_of_lt_of_le hj hm), h.next⟩
theorem fine_entered {N : Nat} {cls s1 s2 dst : Int} (h : Fine w N) (hN : N < 5000) (hok : w.enterOk cls s1 s2 dst) (hn : ¬ w.n = w.S) : Fine (w.entered cls s1 s2 dst) (N + 1) := by
  have hn2 := h.ok.n
  have hx := h.next
  have q := hok.2.2
  simp only [List.all_cons, List.all_nil, Bool.and_true, Bool.and_eq_true, WS.regOk, decide_eq_true_eq] at q
  refine ⟨entered_ok h.ok (by omega) (by omega) _ _ _ _, fun j hj => ?_, by show w.next + 1 ≤ N + 1; omega⟩
  have hj' : j < w.n + 1 := hj
  rw [entered_slot h.ok (by omega) _ _ _ _ (by omega)]
  split
  · exact ⟨q.1.2, q.2.1.2⟩
  · exact h.regs j (by omega)
/-- what stands between two steps -/
def Inv (W : World) (b rb N : Nat) (p : Option Addr) (n c : Nat) (A : World) : Prop := ∃ (w : WS) (x : RA) (es : List HE), Fine w N ∧ es.length ≤ 2 * N ∧ n = es.length ∧ St W No A [winA b w, refA rb x w, hsA es (p, c)]
theorem turn_case {A : World} {f : FuncId} {es : List HE} {z : Option Addr × Nat} {N : Nat} {s : Int} {a to : Nat} {I : Bool → World → Prop} (hF : Fine w N) (hEE : ∀ {w : World} {L : List Asn}, St W No w L → HErr w)
    (H : St W No A [winA b w, refA rb x w, hsA es z]) (ht : to < 256) (hc : Calls Tryd.prog f #[.pointer (some ⟨b, 0, none⟩), .int .i64 s] A (TurnPost A b w s a to))
    (hI : ∀ (w' : WS) (B : World), Fine w' N → St W No B [winA b w', refA rb x w', hsA es z] → I true B) :
    Calls Tryd.prog f #[.pointer (some ⟨b, 0, none⟩), .int .i64 s] A (fun e B => ∃ v, e = .returned v ∧ Calls Tryd.prog 22 #[.pointer (some ⟨rb, 0, none⟩), .int .i64 s, .int .i64 (a : Nat), .int .i64 (to : Nat)] B (fun e C => ∃ m, e = .returned (.int .i64 m) ∧ Calls Tryd.prog 16 #[v, .int .i64 m] C (fun e D => ∃ t, e = .returned (.bool t) ∧ I t D))) := by
  refine hc.mono ?_
  intro e B hp
  unfold TurnPost at hp
  have two : ∀ {C : World}, (refA rb x w).at_ C → Calls Tryd.prog 22 #[.pointer (some ⟨rb, 0, none⟩), .int .i64 s, .int .i64 (a : Nat), .int .i64 (to : Nat)] C (rTurnPost C rb x w s a to) := fun h => rturn_any hF.ok h hF.regs s a to
  cases h : w.turn s a to with
  | none =>
    rw [h] at hp
    obtain ⟨rfl, hP⟩ := hp
    have H := H.upd 0 rfl hP
    refine ⟨_, rfl, (two (H.nth 1 rfl)).mono ?_⟩
    intro e C hp
    unfold rTurnPost at hp
    rw [h] at hp
    obtain ⟨rfl, hP⟩ := hp
    have H := H.upd 1 rfl hP
    exact ⟨_, rfl, H.callq (told_err_any C (hEE H) 7) fun D H => ⟨_, rfl, hI w D hF H⟩⟩
  | some k =>
    rw [h] at hp
    obtain ⟨rfl, hP⟩ := hp
    have H := H.upd 0 rfl hP
    refine ⟨_, rfl, (two (H.nth 1 rfl)).mono ?_⟩
    intro e C hp
    unfold rTurnPost at hp
    rw [h] at hp
    obtain ⟨rfl, hP⟩ := hp
    have H := H.upd 1 rfl hP
    have hk : k < w.n := by
      unfold WS.turn at h
      cases hf : w.find s with
      | none => rw [hf] at h; cases h
      | some k2 =>
        rw [hf] at h
        have h : (if (w.slot k2).st = a ∧ (to = 1 → w.able (w.slot k2) = true) then some k2 else none) = some k := h
        split at h
        · cases h; exact find_lt hf
        · cases h
    exact ⟨_, rfl, H.callq (told_nil_any C) fun D H => ⟨_, rfl, hI _ D (fine_turned hF hk ht) H⟩⟩
theorem list_case {A : World} {es : List HE} {z : Option Addr × Nat} {l : List Int} {p q : Option Addr} {c d : Nat} {I : Bool → Option Addr → Nat → Nat → World → Prop} (hl : l.length ≤ 64) (hes : es.length ≤ 100000)
    (H : St W No A [winA b w, refA rb x w, hsA es z, sl 3 1 (.slice p l.length c) l.length (intsV l), sl 3 1 (.slice q l.length d) l.length (intsV l)])
    (hI : ∀ (es' : List HE) (z' : Option Addr × Nat) (B : World), es'.length = es.length + 2 → St W No B [winA b w, refA rb x w, hsA es' z'] → I true z'.1 (es.length + 2) z'.2 B) :
    Calls Tryd.prog 20 #[.agg #[.slice p l.length c, .slice q l.length d]] A (fun e B => ∃ t, e = .returned (.bool t) ∧ Calls Tryd.prog 21 #[.slice z.1 es.length z.2, .slice p l.length c] B (fun e C => ∃ p5 k12 k13, e = .returned (.slice p5 k12 k13) ∧ I t p5 k12 k13 C)) := by
  have hs := same_any A p q l l c d (by omega) (rd_of_sl (H.nth 3 rfl)) (rd_of_sl (H.nth 4 rfl))
  rw [decide_eq_true rfl] at hs
  refine H.callq hs fun B H => ⟨_, rfl, ?_⟩
  have H := H.pick [2, 3, 0, 1]
  have H : St W No B ([hsA es z, sl 3 1 (.slice p l.length c) l.length (intsV l)] ++ [winA b w, refA rb x w]) := H
  have H := St.shut H
  refine H.callx 0 rfl (own_any B es z hes p c l (by omega) (H.nth 0 rfl)) fun y C H => ⟨_, _, _, rfl, ?_⟩
  have H := H.pick [1, 2, 0]
  exact hI y.2.1 y.1 C y.2.2 H
theorem ready_case {A : World} {es : List HE} {z : Option Addr × Nat} {N : Nat} {o1 o2 : Int} {kb : Nat} {o0 o3 o4 : Int} {I : Bool → Option Addr → Nat → Nat → World → Prop} (hF : Fine w N) (hes : es.length ≤ 100000)
    (H : St W No A [winA b w, refA rb x w, hsA es z, blk kb #[.int .i64 o0, .int .i64 o1, .int .i64 o2, .int .i64 o3, .int .i64 o4] 49])
    (hI : ∀ (es' : List HE) (z' : Option Addr × Nat) (B : World), es'.length = es.length + 2 → St W No B [winA b w, refA rb x w, hsA es' z'] → I true z'.1 (es.length + 2) z'.2 B) :
    ∃ z21, A.cell? ⟨kb, 0 + 1, none⟩ = some (.int .i64 z21) ∧ ∃ z22, A.cell? ⟨kb, 0 + 2, none⟩ = some (.int .i64 z22) ∧ Calls Tryd.prog 9 #[.pointer (some ⟨b, 0, none⟩), .int .i64 z21, .int .i64 z22] A (fun e B => ∃ p3 k8 k9, e = .returned (.slice p3 k8 k9) ∧
      ∃ z23, B.cell? ⟨kb, 0 + 1, none⟩ = some (.int .i64 z23) ∧ ∃ z24, B.cell? ⟨kb, 0 + 2, none⟩ = some (.int .i64 z24) ∧ Calls Tryd.prog 19 #[.pointer (some ⟨rb, 0, none⟩), .int .i64 z23, .int .i64 z24] B (fun e C => ∃ p4 k10 k11, e = .returned (.slice p4 k10 k11) ∧
        ∀ vs3 : Array Value, vs3 = #[.slice p3 k8 k9, .slice p4 k10 k11] → Calls Tryd.prog 20 #[.agg vs3] C (fun e D => ∃ t, e = .returned (.bool t) ∧ Calls Tryd.prog 21 #[.slice z.1 es.length z.2, .slice p3 k8 k9] D (fun e E => ∃ p5 k12 k13, e = .returned (.slice p5 k12 k13) ∧ I t p5 k12 k13 E)))) := by
  refine ⟨o1, H.ld 3 rfl rfl, o2, H.ld 3 rfl rfl, ?_⟩
  refine H.calln (ready_any hF.ok (H.nth 0 rfl) hF.regs o1 o2) fun y D H => ⟨_, _, _, rfl, o1, H.ld 3 rfl rfl, o2, H.ld 3 rfl rfl, ?_⟩
  refine H.calln (able_list hF.ok (H.nth 1 rfl) hF.regs o1 o2) fun y2 E H => ⟨_, _, _, rfl, ?_⟩
  have hlen : (w.readyL o1 o2).length ≤ 64 := by
    have h1 := rdy_len (w := w) o1 w.n
    have h2 := hF.ok.n
    have h3 := hF.ok.s1
    have : (w.readyL o1 o2).length ≤ (w.rdy o1 w.n).length := by unfold WS.readyL; rw [List.length_take]; omega
    omega
  have H := H.pick [0, 1, 2, 4, 5]
  generalize w.readyL o1 o2 = l at H hlen ⊢
  rintro vs rfl
  have H : St W No E [winA b w, refA rb x w, hsA es z, sl 3 1 (.slice y.1 l.length y.2) l.length (intsV l), sl 3 1 (.slice y2.1 l.length y2.2) l.length (intsV l)] := H
  exact list_case (l := l) (p := y.1) (q := y2.1) (c := y.2) (d := y2.2) hlen hes H hI
theorem squash_case {A : World} {es : List HE} {z : Option Addr × Nat} {N : Nat} {s : Int} {kb : Nat} {cs : Array Value} {t : TypeId} {I : Bool → Option Addr → Nat → Nat → World → Prop} (hF : Fine w N) (hes : es.length ≤ 100000)
    (H : St W No A [winA b w, refA rb x w, hsA es z, blk kb cs t])
    (hI : ∀ (w' : WS) (y : RA) (es' : List HE) (z' : Option Addr × Nat) (B : World), Fine w' N → es'.length = es.length + 2 → St W No B [winA b w', refA rb y w', hsA es' z'] → I true z'.1 (es.length + 2) z'.2 B) :
    Calls Tryd.prog 25 #[.pointer (some ⟨b, 0, none⟩), .int .i64 s] A (fun e B => ∃ p3 k8 k9, e = .returned (.slice p3 k8 k9) ∧
      Calls Tryd.prog 26 #[.pointer (some ⟨rb, 0, none⟩), .int .i64 s] B (fun e C => ∃ p4 k10 k11, e = .returned (.slice p4 k10 k11) ∧
        ∀ vs3 : Array Value, vs3 = #[.slice p3 k8 k9, .slice p4 k10 k11] → Calls Tryd.prog 20 #[.agg vs3] C (fun e D => ∃ t, e = .returned (.bool t) ∧ Calls Tryd.prog 21 #[.slice z.1 es.length z.2, .slice p3 k8 k9] D (fun e E => ∃ p5 k12 k13, e = .returned (.slice p5 k12 k13) ∧ I t p5 k12 k13 E)))) := by
  refine H.callx 0 rfl (squash_any hF.ok (H.nth 0 rfl) s) fun y D H => ⟨_, _, _, rfl, ?_⟩
  refine H.callx 1 rfl (rsquash_any hF.ok (H.nth 1 rfl) s) fun y2 E H => ⟨_, _, _, rfl, ?_⟩
  have hlen : (w.sqL s w.n).length ≤ 64 := by
    have h1 := sqL_le w s w.n
    have h2 := hF.ok.n
    have h3 := hF.ok.s1
    omega
  have hF2 := fine_cut hF (sqN_le w s w.n)
  have H := H.pick [0, 1, 2]
  generalize w.sqL s w.n = l at H hlen ⊢
  generalize w.cut (w.sqN s w.n) = w2 at H hF2 ⊢
  rintro vs rfl
  have H : St W No E ([winA b w2, sl 3 1 (.slice y.1 l.length y.2) l.length (intsV l)] ++ [rsquA rb y2.1 w2 l y2.2, hsA es z]) := St.open_ H
  have H := H.pick [2, 0, 1, 3]
  have H : St W No E ([refA rb y2.1 w2, sl 3 1 (.slice y2.2.1 l.length y2.2.2) l.length (intsV l)] ++ [winA b w2, sl 3 1 (.slice y.1 l.length y.2) l.length (intsV l), hsA es z]) := St.open_ H
  have H := H.pick [2, 0, 4, 3, 1]
  have H : St W No E [winA b w2, refA rb y2.1 w2, hsA es z, sl 3 1 (.slice y.1 l.length y.2) l.length (intsV l), sl 3 1 (.slice y2.2.1 l.length y2.2.2) l.length (intsV l)] := H
  exact list_case (l := l) (p := y.1) (q := y2.2.1) (c := y.2) (d := y2.2.2) hlen hes H (fun es' z' B h1 h2 => hI w2 y2.1 es' z' B hF2 h1 h2)
end Go.Proofs.YtdliholhfiihcaaDoor
