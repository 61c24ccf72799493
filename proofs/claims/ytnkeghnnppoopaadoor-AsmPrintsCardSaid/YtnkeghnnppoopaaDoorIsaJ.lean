/- Part J: the program's decoding, walked. -/
import Derived.Test.YtnkeghnnppoopaaDoorIsaI
namespace Go.Proofs.YtnkeghnnppoopaaDoor
open Go.RowKit Go.XHeap
set_option linter.unusedVariables false

theorem blk_grown {w w' : World} {k : Nat} {cs : Array Value} {t : TypeId} (h : Blk w k cs t) (hg : Grown w w') : Blk w' k cs t := by
  have hl := h.lt
  have h3 := hg.1.2.2 k hl
  have e : w.heap[k]? = some (.cells cs t) := h
  rw [e] at h3
  show w'.heap[k]? = some (.cells cs t)
  cases hw : w'.heap[k]? with
  | none => rw [hw] at h3; exact absurd h3 (by simp)
  | some o =>
    rw [hw] at h3
    cases o with
    | cells c' t' fr' =>
      obtain ⟨rfl, rfl, hs, hc⟩ := h3
      have : c' = cs := by
        apply Array.ext
        · exact hs
        · intro i h1 h2
          have := hc i (fun f => f)
          simpa [Array.getElem?_eq_getElem h1, Array.getElem?_eq_getElem h2] using this
      rw [this]
    | map es cl => exact absurd h3 (by simp)
    | _ => exact absurd h3 (by simp)
def insT (op : Int) (t : Int × Int × Int × Int) : Value := ins op t.1 t.2.1 t.2.2.1 t.2.2.2
def Dec (x : Int) (T : Int → Int × Int × Int × Int) (e : Ending) : Prop :=
  (∃ op, 1 ≤ op ∧ op ≤ 67 ∧ Mt op x ∧ e = .returned (.tuple #[insT op (T op), .bool true])) ∨ ((∀ op, 1 ≤ op → op ≤ 67 → ¬ Mt op x) ∧ e = .returned (.tuple #[ins 0 0 0 0 0, .bool false]))
def DecIs (x : Int) (T : Int → Int × Int × Int × Int) (w : World) (e : Ending) (w' : World) : Prop := Dec x T e ∧ Grown w w'
theorem list_at {w : World} (hC : CodeAt w 0 codeL) (k : Nat) (hk : k < 128) : ∃ ao cap, w.cell? ⟨0, k, none⟩ = some (.slice ao (codeL.getD k []).length cap) ∧ (codeL.getD k []).length ≤ 67 ∧
    ∀ i n, (codeL.getD k [])[i]? = some n → ∃ b off, ao = some ⟨b, off, none⟩ ∧ w.cell? ⟨b, off + i, none⟩ = some (.int .i64 n) := by
  have hg : codeL[k]? = some (codeL.getD k []) := by
    rw [List.getD_eq_getElem?_getD, List.getElem?_eq_getElem (by rw [code_len]; exact hk)]; rfl
  have hl : (codeL.getD k []).length ≤ 67 := by
    have h : (codeL.all fun l => decide (l.length ≤ 67)) = true := by kernel_rfl
    have := List.all_eq_true.1 h _ (List.mem_of_getElem? hg)
    simpa using this
  have h := hC k _ hg
  generalize codeL.getD k [] = l at *
  by_cases he : l = []
  · subst he
    exact ⟨none, 0, h.1 rfl, hl, fun i n hi => by simp at hi⟩
  · obtain ⟨b, off, cap, h1, h2⟩ := h.2 he
    exact ⟨some ⟨b, off, none⟩, cap, h1, hl, fun i n hi => ⟨b, off, rfl, h2 i n hi⟩⟩
end Go.Proofs.YtnkeghnnppoopaaDoor
