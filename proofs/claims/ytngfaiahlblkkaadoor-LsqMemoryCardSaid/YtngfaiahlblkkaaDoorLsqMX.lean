/- The law 'LsqMemory': the oldest retires; the order's cells. No condition. -/
import Derived.Test.YtngfaiahlblkkaaDoorLsqMY
namespace Go.Proofs.YtngfaiahlblkkaaDoor
open Go.RowKit Go.XHeap Go.Sx Go.Sep Go.Bits
set_option linter.unusedVariables false
set_option maxRecDepth 100000
variable {a : Nat → Ac} {X : RX} {W0 W A : World}

def RX.outJ (X : RX) (J : List Nat) : RX := { X with out := X.out + 1, J := J }
theorem xretire_any {I : Ids} (hI : Inv a X) (h : Q1 a W0 I X W) (h1 : X.out < X.inn) (hr : rdyB a X = true) :
    Calls Tryd.prog 11 #[.pointer (some ⟨I.b, 0, none⟩), .int .i64 X.out] W fun e w => e = .returned .nilIface ∧ ∃ (J : List Nat) (q : PQ), Inv a (X.outJ J) ∧ QOk a (X.outJ J) q ∧ J.length ≤ X.J.length ∧ St W0 No w (pcs I q X) := by
  obtain ⟨q, hq, H⟩ := h
  obtain ⟨i, hk⟩ := hI.pos (Nat.le_refl _) h1
  obtain ⟨x, hx, hxe⟩ := hq.get hk
  have hes : q.es.map (·.2) = X.J.map (entR a X) := hq.eq
  have hp : posOf (fun e => !e.retired) q.es = some i := by rw [posOf_ens, hes, ret_pos hI hk]
  have hrr : retireR X.out q.es = retE X.out i x.2 := by
    unfold retireR
    rw [hp]
    show (match q.es[i]? with | none => _ | some x => _) = _
    rw [hx]
  unfold rdyB at hr
  have hg : X.given X.out = true := by revert hr; cases X.given X.out <;> simp
  rw [hg, Bool.true_and] at hr
  refine (retire_any (H.nth 0 rfl) hq.n32 X.out).mono ?_
  intro e w hpp
  unfold RetirePost at hpp
  rw [hrr, hxe] at hpp
  have hseq : ¬ (entR a X X.out).seq ≠ (X.out : Int) := fun h => h rfl
  by_cases hs : (a X.out).store = true
  · have hkn : X.known X.out = true := by
      have hd : X.done X.out = false := by
        cases e : X.done X.out with
        | false => rfl
        | true => have := (hI.dn _ e).2; rw [hs] at this; cases this
      rw [hs, hd] at hr; simpa using hr
    have hE : retE X.out i (entR a X X.out) = .ret i := by
      unfold retE
      have e : ((entR a X X.out).store && (entR a X X.out).placed && (entR a X X.out).valued) = true := by show ((a X.out).store && X.given X.out && X.known X.out) = true; rw [hs, hg, hkn]; rfl
      rw [if_neg hseq, if_pos e]
    rw [hE] at hpp
    obtain ⟨rfl, x', hx', hP⟩ := hpp
    rw [hx] at hx'
    cases hx'
    have H := H.upd 0 rfl hP
    obtain ⟨q', hq'⟩ : ∃ q', ({ q with es := q.es.set i (x.1, { x.2 with retired := true }) } : PQ) = q' := ⟨_, rfl⟩
    have H : St W0 No w (pcs I { q with es := q.es.set i (x.1, { x.2 with retired := true }) } X) := H
    rw [hq'] at H
    refine ⟨rfl, X.J, q', ret_inv hI h1 hg hs hkn, ?_, Nat.le_refl _, H⟩
    subst hq'
    refine ⟨?_, by show (q.es.set i _).length ≤ q.size; rw [List.length_set]; exact hq.len, hq.s1, hq.s32⟩
    show (q.es.set i (x.1, _)).map (·.2) = X.ret.J.map (entR a X.ret)
    rw [← ret_list hI hk, List.map_set, hes, hxe]
  · have hs : (a X.out).store = false := by simpa using hs
    have hd : X.done X.out = true := by rw [hs] at hr; simpa using hr
    have hE : retE X.out i (entR a X X.out) = .del i := by
      unfold retE
      have e : ¬ ((entR a X X.out).store && (entR a X X.out).placed && (entR a X X.out).valued) = true := by show ¬ ((a X.out).store && X.given X.out && X.known X.out) = true; rw [hs]; simp
      rw [if_neg hseq, if_neg e, if_pos (show (entR a X X.out).loaded = true from hd)]
    rw [hE] at hpp
    obtain ⟨rfl, p2, c2, hP⟩ := hpp
    have H := H.upd 0 rfl hP
    obtain ⟨q', hq'⟩ : ∃ q', ({ q with p := p2, cap := c2, es := q.es.eraseIdx i } : PQ) = q' := ⟨_, rfl⟩
    have H : St W0 No w (pcs I { q with p := p2, cap := c2, es := q.es.eraseIdx i } X) := H
    rw [hq'] at H
    refine ⟨rfl, X.J.eraseIdx i, q', retl_inv hI hk h1 hd, ?_, (List.eraseIdx_sublist _ _).length_le, H⟩
    subst hq'
    refine ⟨?_, Nat.le_trans (by show (q.es.eraseIdx i).length ≤ q.es.length; exact (List.eraseIdx_sublist _ _).length_le) hq.len, hq.s1, hq.s32⟩
    show (q.es.eraseIdx i).map (·.2) = (X.retl i).J.map (entR a (X.retl i))
    rw [← retl_list hI hk, mapErase, hes]
/-! ### memory, once more -/
def specW (a : Nat → Ac) (k c : Nat) : Nat → Nat := fun x => if (a k).B ≤ x ∧ x < (a k).B + c then byteD a k x else spec a k x
theorem specW_zero (k : Nat) : specW a k 0 = spec a k := by
  funext x
  exact if_neg (by omega)
theorem specW_step (k c : Nat) : upd (specW a k c) ((a k).B + c) (byteD a k ((a k).B + c)) = specW a k (c + 1) := by
  funext x
  unfold upd specW
  by_cases e : x = (a k).B + c
  · rw [if_pos e, if_pos (by omega), e]
  · rw [if_neg e]
    by_cases e2 : (a k).B ≤ x ∧ x < (a k).B + c
    · rw [if_pos e2, if_pos (by omega)]
    · rw [if_neg e2, if_neg (by omega)]
theorem specW_end {k : Nat} (h : (a k).store = true) : specW a k (a k).S = spec a (k + 1) := by
  funext x
  show (if (a k).B ≤ x ∧ x < (a k).B + (a k).S then byteD a k x else spec a k x) = if (a k).store = true ∧ covB a k x then byteD a k x else spec a k x
  by_cases e : (a k).B ≤ x ∧ x < (a k).B + (a k).S
  · rw [if_pos e, if_pos ⟨h, e⟩]
  · rw [if_neg e, if_neg fun e2 => e e2.2]
theorem spec_load {k : Nat} (h : (a k).store = false) : spec a (k + 1) = spec a k := by
  funext x
  exact if_neg fun e => by rw [h] at e; cases e.1
theorem mem_end (h : Inv a X) (h1 : X.out = X.n) (h2 : X.J = []) (x : Nat) : X.mem x = spec a X.n x := by
  have hdr := h.dro
  have hin := h.inn
  have hoi := h.oi
  rw [h.mem]
  refine (spec_skip X.n (by omega) fun i h3 h4 h5 => ?_).symm
  have : i ∈ X.J := (h.live i).2 ⟨by omega, h3, .inl h5.1⟩
  rw [h2] at this
  cases this
end Go.Proofs.YtngfaiahlblkkaaDoor
