/- '==' of two structs of numbers and truth values. No condition. -/
import Derived.Test.YtcpmgklhfpcaeaaGreatDoorSxH
import Derived.Laws.StructEq
import Derived.ChangeKeysEq
namespace Go.SEq
set_option linter.unusedVariables false
variable {P : Program} {w : World}
/-- a number, or a truth value, of this type stands there -/
def Scal (P : Program) (t : TypeId) (v : Value) : Prop := (∃ k x, P.underlying t = some (.int k) ∧ v = .int k x) ∨ (∃ b, P.underlying t = some .bool ∧ v = .bool b)
theorem isAgg_scal {t : TypeId} {v : Value} (h : Scal P t v) : (isAgg t).run P w = .ok false w := by
  rcases h with ⟨k, x, h, -⟩ | ⟨b, h, -⟩ <;> simp [isAgg, underlying, h, program, Sem.run_bind, Sem.run]
theorem part_scal {t : TypeId} {v : Value} {xs : Array Value} {o : Nat} (h : Scal P t v) (hx : xs[o]? = some v) : (part t xs o).run P w = .ok v w := by
  unfold part
  rw [Sem.run_bind, isAgg_scal h]
  simp [Result.andThen, hx]
theorem eq_scal {d : Nat} {t : TypeId} {u v : Value} (hu : Scal P t u) (hv : Scal P t v) : ∃ b, (Op.equalIn (d + 1) t u v).run P w = .ok b w ∧ (b = true ↔ u = v) := by
  rcases hu with ⟨k, x, h, rfl⟩ | ⟨b, h, rfl⟩
  · rcases hv with ⟨k', y, h', rfl⟩ | ⟨b, h', -⟩
    · rw [h] at h'; cases h'
      exact ⟨_, run_equalIn_int w d t k k x y h, by simp⟩
    · rw [h] at h'; cases h'
  · rcases hv with ⟨k', y, h', -⟩ | ⟨b', h', rfl⟩
    · rw [h] at h'; cases h'
    · exact ⟨_, run_equalIn_bool w d t b b' h, by simp⟩
theorem fields_run {d : Nat} {xs ys : Array Value} : ∀ (fs : List Field), (∀ f ∈ fs, f.name ≠ "_" ∧ ∃ u v, xs[f.offset]? = some u ∧ ys[f.offset]? = some v ∧ Scal P f.type u ∧ Scal P f.type v) →
    ∃ b, (Op.eqFields (d + 1) xs ys fs).run P w = .ok b w ∧ (b = true ↔ ∀ f ∈ fs, xs[f.offset]? = ys[f.offset]?)
  | [], _ => ⟨true, rfl, by simp⟩
  | f :: fs, h => by
    obtain ⟨hn, u, v, hu, hv, su, sv⟩ := h f (by simp)
    obtain ⟨b, hb, hiff⟩ := eq_scal (d := d) (w := w) su sv
    obtain ⟨b', hb', hiff'⟩ := fields_run (d := d) fs (fun g hg => h g (by simp [hg]))
    have e : (Op.eqFields (d + 1) xs ys (f :: fs)).run P w = if b then .ok b' w else .ok false w := by
      unfold Op.eqFields
      rw [if_pos hn, Sem.run_bind, part_scal su hu]
      simp only [Result.andThen_ok]
      rw [Sem.run_bind, part_scal sv hv]
      simp only [Result.andThen_ok]
      rw [Sem.run_bind, hb]
      simp only [Result.andThen_ok]
      cases b
      · rfl
      · simp only [Bool.not_true, Bool.false_eq_true, if_false, if_true]
        exact hb'
    cases b
    · refine ⟨false, by rw [e]; rfl, ?_⟩
      simp only [Bool.false_eq_true, false_iff]
      intro hall
      have := hall f (by simp)
      rw [hu, hv] at this
      exact absurd (hiff.2 (Option.some.inj this)) (by decide)
    · refine ⟨b', by rw [e]; rfl, ?_⟩
      rw [hiff']
      have huv := hiff.1 rfl
      constructor
      · intro hall g hg
        rcases List.mem_cons.1 hg with rfl | hg
        · rw [hu, hv, huv]
        · exact hall g hg
      · exact fun hall g hg => hall g (by simp [hg])
/-- a struct's fields as (no name, type, where): S -/
theorem struct_run {t : TypeId} {S : List (Bool × TypeId × Nat)} {xs ys : Array Value} (ht : P.underlying t = some (.struct (P.fieldsOf t))) (hp : P.stoodInHeld t = false) (hg : P.eqGuardType P.depth t = false)
    (hS : (P.fieldsOf t).toList.map (fun f => (f.name == "_", f.type, f.offset)) = S) (h : ∀ s ∈ S, s.1 = false ∧ ∃ u v, xs[s.2.2]? = some u ∧ ys[s.2.2]? = some v ∧ Scal P s.2.1 u ∧ Scal P s.2.1 v) :
    ∃ b, (∀ w, (Op.equalIn 10000 t (.agg xs) (.agg ys)).run P w = .ok b w) ∧ (b = true ↔ ∀ s ∈ S, xs[s.2.2]? = ys[s.2.2]?) := by
  have key : ∀ w, ∃ b, (Op.equalIn 10000 t (.agg xs) (.agg ys)).run P w = .ok b w ∧ (b = true ↔ ∀ s ∈ S, xs[s.2.2]? = ys[s.2.2]?) := by
    intro w
    rw [run_equalIn_struct w 9999 t xs ys ht hp]
    obtain ⟨b, hb, hiff⟩ := fields_run (P := P) (w := w) (d := 9998) (xs := xs) (ys := ys) (P.fieldsOf t).toList (fun f hf => by
      have := h (f.name == "_", f.type, f.offset) (by rw [← hS]; exact List.mem_map.2 ⟨f, hf, rfl⟩)
      exact ⟨by simpa using this.1, this.2⟩)
    refine ⟨b, hb, hiff.trans ?_⟩
    rw [← hS]
    simp
  obtain ⟨b, -, hiff⟩ := key default
  refine ⟨b, fun w => ?_, hiff⟩
  obtain ⟨b', hb', hiff'⟩ := key w
  have : b' = b := by rw [Bool.eq_iff_iff, hiff', hiff]
  rw [hb', this]
theorem items_same {d k : Nat} {e : TypeId} {xs : Array Value} : ∀ (is : List Nat), (∀ j ∈ is, ∃ v, xs[j * k]? = some v ∧ Scal P e v) → (Op.eqItems (d + 1) e k xs xs is).run P w = .ok true w
  | [], _ => by simp [Op.eqItems]
  | j :: is, h => by
    obtain ⟨v, hv, sv⟩ := h j (by simp)
    obtain ⟨b, hb, hiff⟩ := eq_scal (d := d) (w := w) sv sv
    have hb1 : b = true := hiff.2 rfl
    subst hb1
    simp only [Op.eqItems, Sem.run_bind, part_scal sv hv, Result.andThen_ok, hb]
    simpa using items_same is fun j hj => h j (by simp [hj])
/-- an array of numbers equals itself -/
theorem array_same {t e : TypeId} {n : Nat} {i : TypeInfo} {xs : Array Value} (hu : P.underlying t = some (.array n e)) (hi : P.info? e = some i) (h : ∀ j, j < n → ∃ v, xs[j * P.cellsOf e]? = some v ∧ Scal P e v) :
    ∀ w, (Op.equalIn 10000 t (.agg xs) (.agg xs)).run P w = .ok true w := fun w => by
  rw [run_equalIn_array w 9999 xs xs hu hi]
  exact items_same _ fun j hj => h j (List.mem_range.1 hj)
theorem eql_run {t : TypeId} {xs ys : Array Value} {b : Bool} (hg : P.eqGuardType P.depth t = false) (h : ∀ w, (Op.equalIn 10000 t (.agg xs) (.agg ys)).run P w = .ok b w) (ox oy : Operand) (w : World) :
    (do eqGuard .eql t ox oy (.agg xs) (.agg ys); binOp .eql t (.agg xs) (.agg ys) : Sem Value).run P w = .ok (.bool b) w := by
  rw [Sem.run_bind, run_eqGuard_agg w .eql t ox oy xs ys hg]
  simp only [Result.andThen_ok]
  rw [run_eql_struct, h w]
  rfl
theorem neq_run {t : TypeId} {xs ys : Array Value} {b : Bool} (hg : P.eqGuardType P.depth t = false) (h : ∀ w, (Op.equalIn 10000 t (.agg xs) (.agg ys)).run P w = .ok b w) (ox oy : Operand) (w : World) :
    (do eqGuard .neq t ox oy (.agg xs) (.agg ys); binOp .neq t (.agg xs) (.agg ys) : Sem Value).run P w = .ok (.bool (!b)) w := by
  rw [Sem.run_bind, run_eqGuard_agg w .neq t ox oy xs ys hg]
  simp only [Result.andThen_ok]
  rw [run_neq_struct, h w]
  rfl
end Go.SEq
