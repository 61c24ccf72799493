import Derived.Test.YtojogkljneonmaaGreatDoorLangRk
import Derived.LaidEql
/- The checker in memory: all declarations. No condition. -/
namespace Go.Proofs.YtojogkljneonmaaGreatDoor
open Go Go.Proofs Go.Sep Go.XHeap Go.RowKit Go.Lang
set_option linter.unusedVariables false
set_option linter.unusedSimpArgs false
variable {W : World}
theorem mkmS {w0 w : World} {M : Nat → Prop} {L : List Asn} (H : St w0 M w L) {φ : Nat → World → Prop} (hq : ∀ k w', St w0 M w' (L ++ [mpS k fun _ => none]) → φ k w') : ∀ k : Nat, ∀ w' : World, k = w.heap.size → w' = w.alloc (.map #[] 0) → φ k w' := by
  rintro k w' rfl rfl
  exact hq _ _ (H.add ⟨Sx.MpS.new w, (XTouch.refl _ w).alloc _, fun q hq => .inr (by rw [show q = _ from hq]; exact Nat.le_refl _)⟩)
/-- a program before its check -/
def rawL (kp : Nat) (pd : Option Addr) (cd : Nat) (ms : List Dm) : List Asn :=
  [blk kp #[.slice none 0 0, .pointer none, .int .i64 0, .slice pd ms.length cd] 66, sl 20 1 (.slice pd ms.length cd) ms.length (ms.map fun m => gval m.g), all ((ms.map Dm.g).map hdA), all (ms.map rsA)]
/-- .. while names and words are found -/
def midL (kp km : Nat) (pf : Option Addr) (cf : Nat) (pd : Option Addr) (cd : Nat) (tot : Int) (ms : List Dm) (done all_ : List Gd) : List Asn :=
  [blk kp #[.slice pf (fnsOf done).length cf, .pointer none, .int .i64 tot, .slice pd ms.length cd] 66, sl 20 1 (.slice pd ms.length cd) ms.length (ms.map fun m => gval m.g), mpS km (mapOf done), sl 63 1 (.slice pf (fnsOf done).length cf) (fnsOf done).length (fnsOf done), all (all_.map hdA), all (ms.map rsA)]
theorem set_mid {α : Type} : ∀ (a : List α) (x y : α) (b : List α), (a ++ x :: b).set a.length y = a ++ y :: b
  | [], x, y, b => rfl
  | z :: a, x, y, b => by simp [set_mid a x y b]
theorem get_mid {α : Type} : ∀ (a : List α) (x : α) (b : List α), (a ++ x :: b)[a.length]? = some x
  | [], x, b => rfl
  | z :: a, x, b => by simp
def gOk : Gd → Prop
  | .var _ _ _ _ z => 0 ≤ z ∧ z ≤ 256
  | .fn .. => True
theorem fnsOf_le : ∀ (a : List Gd), (fnsOf a).length ≤ a.length
  | [] => Nat.le_refl _
  | .var .. :: r => by have := fnsOf_le r; simp [fnsOf]; omega
  | .fn h _ :: r => by have := fnsOf_le r; simp [fnsOf]; omega
/-- how many words the variables take -/
def gtot : List Gd → Nat
  | [] => 0
  | .var _ _ _ _ z :: r => max 1 z.toNat + gtot r
  | .fn .. :: r => gtot r
theorem gtot_append : ∀ (a b : List Gd), gtot (a ++ b) = gtot a + gtot b
  | [], b => by simp [gtot]
  | .var _ _ _ _ z :: r, b => by
    show max 1 z.toNat + gtot (r ++ b) = max 1 z.toNat + gtot r + gtot b
    rw [gtot_append r b]; omega
  | .fn .. :: r, b => gtot_append r b
/-- the first of the check's loops -/
def One (W : World) (A0 : Asn) (kp km : Nat) (pd : Option Addr) (cd : Nat) (ms : List Dm) (x tot : Int) (w : World) : Prop :=
  ∃ (done todo : List Gd) (t : Nat) (pf : Option Addr) (cf : Nat), x = done.length ∧ tot = t ∧ done.length + todo.length = ms.length ∧ (done ++ todo).map gval = ms.map (fun m => gval m.g) ∧ countG (ms.map Dm.g) 0 0 = done ++ countG todo t (fnsOf done).length ∧ (t ≤ 256 * done.length ∧ t = gtot done) ∧ (∀ g ∈ todo, gOk g) ∧ St W A0.own w (midL kp km pf cf pd cd 0 ms done (done ++ todo))
theorem check_one [Inhabited G3o] {A0 : Asn} {kp km : Nat} {pd : Option Addr} {cd : Nat} {ms : List Dm} {w : World} {done todo : List Gd} {t : Nat} {pf : Option Addr} {cf k : Nat} {tk : Tok} {nm : ByteArray} {w0 z : Int} (hms : ms.length ≤ 8001)
    (h1 : done.length + (Gd.var k tk nm w0 z :: todo).length = ms.length) (h2 : (done ++ Gd.var k tk nm w0 z :: todo).map gval = ms.map (fun m => gval m.g)) (h3 : countG (ms.map Dm.g) 0 0 = done ++ countG (Gd.var k tk nm w0 z :: todo) t (fnsOf done).length) (h4 : t ≤ 256 * done.length ∧ t = gtot done) (h5 : ∀ g ∈ Gd.var k tk nm w0 z :: todo, gOk g)
    (H : St W A0.own w (midL kp km pf cf pd cd 0 ms (done ++ [Gd.var k tk nm (t : Int) z]) (done ++ Gd.var k tk nm (t : Int) z :: todo))) :
    One W A0 kp km pd cd ms ((done.length + 1 : Nat) : Int) ((t + max 1 z.toNat : Nat) : Int) w := by
  have hz := h5 _ (List.mem_cons_self ..)
  simp only [gOk] at hz
  simp only [List.length_cons] at h1
  refine ⟨done ++ [Gd.var k tk nm (t : Int) z], todo, t + max 1 z.toNat, pf, cf, by simp, rfl, by simp; omega, by rw [← h2]; simp [gval], ?_, ⟨by simp; omega, by rw [gtot_append, ← h4.2]; simp [gtot]⟩, fun g hg => h5 g (List.mem_cons_of_mem _ hg), by rw [List.append_assoc]; exact H⟩
  rw [h3, fnsOf_append, List.append_assoc]
  simp [countG, fnsOf]
theorem check_oneF [Inhabited G3o] {A0 : Asn} {kp km : Nat} {pd : Option Addr} {cd : Nat} {ms : List Dm} {w : World} {done todo : List Gd} {t : Nat} {pf : Option Addr} {cf : Nat} {hd : Fh} {s : Int} (hms : ms.length ≤ 8001)
    (h1 : done.length + (Gd.fn hd s :: todo).length = ms.length) (h2 : (done ++ Gd.fn hd s :: todo).map gval = ms.map (fun m => gval m.g)) (h3 : countG (ms.map Dm.g) 0 0 = done ++ countG (Gd.fn hd s :: todo) t (fnsOf done).length) (h4 : t ≤ 256 * done.length ∧ t = gtot done) (h5 : ∀ g ∈ Gd.fn hd s :: todo, gOk g)
    (H : St W A0.own w (midL kp km pf cf pd cd 0 ms (done ++ [Gd.fn { hd with no := ((fnsOf done).length : Int) } s]) (done ++ Gd.fn { hd with no := ((fnsOf done).length : Int) } s :: todo))) :
    One W A0 kp km pd cd ms ((done.length + 1 : Nat) : Int) (t : Int) w := by
  simp only [List.length_cons] at h1
  refine ⟨done ++ [Gd.fn { hd with no := ((fnsOf done).length : Int) } s], todo, t, pf, cf, by simp, rfl, by simp; omega, by rw [← h2]; simp [gval], ?_, ⟨by simp; omega, by rw [gtot_append, ← h4.2]; simp [gtot]⟩, fun g hg => h5 g (List.mem_cons_of_mem _ hg), by rw [List.append_assoc]; exact H⟩
  rw [h3, fnsOf_append, List.append_assoc]
  simp [countG, fnsOf]
theorem mapOf_there [Inhabited G3o] {gs : List Gd} {g : Gd} (h : (mapOf gs (gnm g)).isSome = true) : mapOf (gs ++ [g]) = mapOf gs := by rw [mapOf_snoc, if_pos h]
theorem mapOf_new [Inhabited G3o] {gs : List Gd} {g : Gd} (h : (mapOf gs (gnm g)).isSome = false) : mapOf (gs ++ [g]) = Sx.updS (mapOf gs) (gnm g) (some (gval g)) := by rw [mapOf_snoc, if_neg (by rw [h]; decide)]
end Go.Proofs.YtojogkljneonmaaGreatDoor
/- Declarations are compared; the environment that they make. No condition. -/
namespace Go.Proofs.YtojogkljneonmaaGreatDoor
open Go Go.Proofs Go.Sep Go.XHeap Go.RowKit Go.Lang
set_option linter.unusedVariables false
set_option linter.unusedSimpArgs false
theorem any_iface : Tryz.prog.underlying 20 = some (.interface #[]) := by kernel_rfl
theorem pvar_ptr : Tryz.prog.underlying 125 = some (.pointer 127) := by kernel_rfl
theorem pfunc_ptr : Tryz.prog.underlying 63 = some (.pointer 115) := by kernel_rfl
theorem pvar_info : ∃ i, Tryz.prog.info? 125 = some i ∧ i.comparable = true := by
  have : (Tryz.prog.info? 125).map (·.comparable) = some true := by kernel_rfl
  obtain ⟨i, h, e⟩ := Option.map_eq_some_iff.1 this
  exact ⟨i, h, e⟩
theorem pfunc_info : ∃ i, Tryz.prog.info? 63 = some i ∧ i.comparable = true := by
  have : (Tryz.prog.info? 63).map (·.comparable) = some true := by kernel_rfl
  obtain ⟨i, h, e⟩ := Option.map_eq_some_iff.1 this
  exact ⟨i, h, e⟩
theorem var_info : ∃ j, Tryz.prog.info? 127 = some j ∧ j.size ≠ 0 := by
  have : (Tryz.prog.info? 127).map (fun j => Nat.beq j.size 0) = some false := by kernel_rfl
  obtain ⟨i, h, e⟩ := Option.map_eq_some_iff.1 this
  exact ⟨i, h, fun e' => by rw [e'] at e; cases e⟩
theorem func_info : ∃ j, Tryz.prog.info? 115 = some j ∧ j.size ≠ 0 := by
  have : (Tryz.prog.info? 115).map (fun j => Nat.beq j.size 0) = some false := by kernel_rfl
  obtain ⟨i, h, e⟩ := Option.map_eq_some_iff.1 this
  exact ⟨i, h, fun e' => by rw [e'] at e; cases e⟩
theorem neq_of {w : World} {tx ty : TypeId} {vx vy : Value} {b : Bool} {x y : Operand} (h : (Op.equalIn 10000 20 (.iface tx vx) (.iface ty vy)).run Tryz.prog w = .ok b w) : (Sx.binOpS .neq 20 x y (.iface tx vx) (.iface ty vy)).run Tryz.prog w = .ok (.bool (!b)) w := by
  unfold Sx.binOpS
  rw [Sem.run_bind]
  have h0 : (eqGuard .neq 20 x y (.iface tx vx) (.iface ty vy)).run Tryz.prog w = .ok () w := by
    simp [eqGuard]
  rw [h0]
  simp only [binOp]
  simp [Op.equal, Op.maxDepth, h]
/-- two declarations are the same one where they stand in one block -/
theorem neq_run [Inhabited G3o] {w w' : World} {a b : Gd} {x y : Operand} (ha : (hdA a).at_ w) (hb : (hdA b).at_ w) (hk : Sx.Keeps w w') : (Sx.binOpS .neq 20 x y (gval a) (gval b)).run Tryz.prog w' = .ok (.bool (!(decide (gkey a = gkey b)))) w' := by
  have cl : ∀ {k : Nat} {cs : Array Value} {t : TypeId}, Blk w k cs t → w'.heap[k]? = some (.cells cs t (0, 0)) := fun h => hk.2.2.2 _ _ h
  cases a with
  | var k t nm u z =>
    have ha' := cl (show Blk w k (varC t nm u z).toArray 127 from ha)
    cases b with
    | var k2 t2 nm2 u2 z2 =>
      have hb' := cl (show Blk w k2 (varC t2 nm2 u2 z2).toArray 127 from hb)
      obtain ⟨i, h1, h2⟩ := pvar_info
      obtain ⟨j, h3, h4⟩ := var_info
      refine neq_of ?_
      by_cases e : k = k2
      · subst e
        rw [show decide (gkey (.var k t nm u z) = gkey (.var k t2 nm2 u2 z2)) = true from decide_eq_true rfl]
        exact run_equalIn_iface_ptr_same w' 9998 ⟨k, 0, none⟩ any_iface pvar_ptr h1 h2 h3
      · rw [show decide (gkey (.var k t nm u z) = gkey (.var k2 t2 nm2 u2 z2)) = false from decide_eq_false e]
        exact run_equalIn_iface_ptr_other w' 9998 (a := ⟨k, 0, none⟩) (b := ⟨k2, 0, none⟩) any_iface pvar_ptr h1 h2 h3 h4 (fun e' => e (congrArg Addr.block e')) ha' hb'
    | fn h2 s2 =>
      have hb' := cl (show Blk w h2.k (fnC h2.t h2.nm (.slice h2.p h2.np h2.c) (pt h2.kb) s2 h2.no).toArray 115 from hb)
      have e : ¬ k = h2.k := fun e => by
        rw [e] at ha'
        injection Option.some.inj (ha'.symm.trans hb') with _ h _
        exact absurd h (by decide)
      rw [show decide (gkey (.var k t nm u z) = gkey (.fn h2 s2)) = false from decide_eq_false e]
      refine neq_of ?_
      show Eq _ _
      kernel_rfl
  | fn h1 s1 =>
    have ha' := cl (show Blk w h1.k (fnC h1.t h1.nm (.slice h1.p h1.np h1.c) (pt h1.kb) s1 h1.no).toArray 115 from ha)
    cases b with
    | var k2 t2 nm2 u2 z2 =>
      have hb' := cl (show Blk w k2 (varC t2 nm2 u2 z2).toArray 127 from hb)
      have e : ¬ h1.k = k2 := fun e => by
        rw [e] at ha'
        injection Option.some.inj (ha'.symm.trans hb') with _ h _
        exact absurd h (by decide)
      rw [show decide (gkey (.fn h1 s1) = gkey (.var k2 t2 nm2 u2 z2)) = false from decide_eq_false e]
      refine neq_of ?_
      show Eq _ _
      kernel_rfl
    | fn h2 s2 =>
      have hb' := cl (show Blk w h2.k (fnC h2.t h2.nm (.slice h2.p h2.np h2.c) (pt h2.kb) s2 h2.no).toArray 115 from hb)
      obtain ⟨i, g1, g2⟩ := pfunc_info
      obtain ⟨j, g3, g4⟩ := func_info
      refine neq_of ?_
      by_cases e : h1.k = h2.k
      · rw [show decide (gkey (.fn h1 s1) = gkey (.fn h2 s2)) = true from decide_eq_true e, e]
        exact run_equalIn_iface_ptr_same w' 9998 ⟨h2.k, 0, none⟩ any_iface pfunc_ptr g1 g2 g3
      · rw [show decide (gkey (.fn h1 s1) = gkey (.fn h2 s2)) = false from decide_eq_false e]
        exact run_equalIn_iface_ptr_other w' 9998 (a := ⟨h1.k, 0, none⟩) (b := ⟨h2.k, 0, none⟩) any_iface pfunc_ptr g1 g2 g3 g4 (fun e' => e (congrArg Addr.block e')) ha' hb'
/-! ### the environment -/
/-- a header, its slots forgotten -/
def gz : Gd → Gd
  | .var k t nm w z => .var k t nm w z
  | .fn h _ => .fn h 0
def countM : List Dm → Nat → Nat → List Dm
  | [], _, _ => []
  | m :: r, tot, no => match m.g with
    | .var k t n _ z => { m with g := .var k t n (tot : Int) z } :: countM r (tot + max 1 z.toNat) no
    | .fn h s => { m with g := .fn { h with no := (no : Int) } s } :: countM r tot (no + 1)
theorem countM_g : ∀ (ms : List Dm) (t n : Nat), (countM ms t n).map Dm.g = countG (ms.map Dm.g) t n
  | [], _, _ => rfl
  | ⟨.var k tt nm w z, ps, bd, B⟩ :: r, t, n => by simp [countM, countG, countM_g r]
  | ⟨.fn h s, ps, bd, B⟩ :: r, t, n => by simp [countM, countG, countM_g r]
theorem countM_d : ∀ (ms : List Dm) (t n : Nat), (countM ms t n).map Dm.d = count (ms.map Dm.d) t n
  | [], _, _ => rfl
  | ⟨.var k tt nm w z, ps, bd, B⟩ :: r, t, n => by simp [countM, count, countM_d r, Dm.d]
  | ⟨.fn h s, ps, bd, B⟩ :: r, t, n => by simp [countM, count, countM_d r, Dm.d]
theorem countM_rs : ∀ (ms : List Dm) (t n : Nat), (countM ms t n).map rsA = ms.map rsA
  | [], _, _ => rfl
  | ⟨.var k tt nm w z, ps, bd, B⟩ :: r, t, n => by simp [countM, countM_rs r, rsA]
  | ⟨.fn h s, ps, bd, B⟩ :: r, t, n => by simp [countM, countM_rs r, rsA]
theorem countM_ok : ∀ (ms : List Dm) (t n : Nat), (∀ m ∈ ms, m.Ok) → ∀ m ∈ countM ms t n, m.Ok
  | [], _, _, _, m, hm => by cases hm
  | ⟨.var k tt nm w z, ps, bd, B⟩ :: r, t, n, h, m, hm => by
    rcases List.mem_cons.1 hm with rfl | hm
    · exact h ⟨.var k tt nm w z, ps, bd, B⟩ (List.mem_cons_self ..)
    · exact countM_ok r _ _ (fun m hm => h m (List.mem_cons_of_mem _ hm)) m hm
  | ⟨.fn hh s, ps, bd, B⟩ :: r, t, n, h, m, hm => by
    rcases List.mem_cons.1 hm with rfl | hm
    · exact h ⟨.fn hh s, ps, bd, B⟩ (List.mem_cons_self ..)
    · exact countM_ok r _ _ (fun m hm => h m (List.mem_cons_of_mem _ hm)) m hm
theorem countM_vals : ∀ (ms : List Dm) (t n : Nat), (countM ms t n).map (fun m => gval m.g) = ms.map fun m => gval m.g
  | [], _, _ => rfl
  | ⟨.var k tt nm w z, ps, bd, B⟩ :: r, t, n => by
    simp only [countM, List.map_cons, countM_vals r]
    rfl
  | ⟨.fn h s, ps, bd, B⟩ :: r, t, n => by
    simp only [countM, List.map_cons, countM_vals r]
    rfl
/-- where a declaration's block is -/
def adOf (ns : List Dm) (i : Nat) : Nat := ((ns[i]?).map fun m => gkey m.g).getD 0
theorem find_idx {α : Type} (p : α → Bool) : ∀ (L : List α), (L.findIdx? p = none ∧ L.find? p = none) ∨ ∃ i a, L.findIdx? p = some i ∧ L[i]? = some a ∧ p a = true ∧ L.find? p = some a ∧ ∀ j b, j < i → L[j]? = some b → p b = false
  | [] => .inl ⟨rfl, rfl⟩
  | x :: L => by
    cases hx : p x with
    | true => exact .inr ⟨0, x, by simp [List.findIdx?_cons, hx], rfl, hx, by simp [hx], fun j b hj => by omega⟩
    | false =>
      rcases find_idx p L with ⟨h1, h2⟩ | ⟨i, a, h1, h2, h3, h4, h5⟩
      · exact .inl ⟨by simp [List.findIdx?_cons, hx, h1], by simp [hx, h2]⟩
      · refine .inr ⟨i + 1, a, by simp [List.findIdx?_cons, hx, h1], by simpa using h2, h3, by simp [hx, h4], fun j b hj hb => ?_⟩
        cases j with
        | zero => simp at hb; subst hb; exact hx
        | succ j => exact h5 j b (by omega) (by simpa using hb)
theorem firstOf_g [Inhabited G3o] (ns : List Dm) (s : ByteArray) : firstOf (ns.map Dm.d) s = (ns.map Dm.g).findIdx? fun g => decide (gnm g = s) := by
  unfold firstOf
  rw [List.findIdx?_map, List.findIdx?_map]
  congr 1
  funext m
  simp [Function.comp, dm_nm]
/-- what the map holds, what the plain environment says -/
theorem env_at [Inhabited G3o] (ns : List Dm) (G : List Gd) (hG : G.map gz = (ns.map Dm.g).map gz) (hok : ∀ m ∈ ns, m.Ok) (s : ByteArray) : LkAt (mapOf (ns.map Dm.g)) G s (lkOf (adOf ns) (ns.map Dm.d) s) := by
  unfold lkOf
  rw [firstOf_g]
  rcases find_idx (fun g => decide (gnm g = s)) (ns.map Dm.g) with ⟨h1, h2⟩ | ⟨i, g, h1, h2, h3, h4, -⟩
  · rw [h1]
    show mapOf _ _ = none
    unfold mapOf
    rw [h2]; rfl
  · rw [h1]
    obtain ⟨m, hm, rfl⟩ : ∃ m, ns[i]? = some m ∧ m.g = g := by
      rw [List.getElem?_map] at h2
      exact Option.map_eq_some_iff.1 h2
    have hmem : m ∈ ns := List.mem_of_getElem? hm
    have hI : mapOf (ns.map Dm.g) s = some (gval m.g) := by unfold mapOf; rw [h4]; rfl
    have hGi : (G[i]?).map gz = some (gz m.g) := by
      rw [← List.getElem?_map, hG, List.getElem?_map, List.getElem?_map, hm]; rfl
    obtain ⟨g', hg', hgz⟩ := Option.map_eq_some_iff.1 hGi
    have had : adOf ns i = gkey m.g := by unfold adOf; rw [hm]; rfl
    have hmo := hok m hmem
    rw [Option.bind_some, List.getElem?_map, hm, Option.map_some, Option.map_some, had]
    obtain ⟨mg, ps, bd, B⟩ := m
    cases mg with
    | var k t nm w z =>
      refine ⟨i, k, t, nm, hI, ?_⟩
      rw [hg']
      cases g' with
      | var => exact congrArg some hgz
      | fn => cases hgz
    | fn h sl =>
      cases g' with
      | var => cases hgz
      | fn h' sl' =>
        have : h' = h := by
          have hgz : Gd.fn h' 0 = Gd.fn h 0 := hgz
          cases hgz; rfl
        subst this
        exact ⟨i, h', sl', hI, hg', rfl, hmo.1⟩
end Go.Proofs.YtojogkljneonmaaGreatDoor
/- The checker in memory: all declarations. No condition. -/
namespace Go.Proofs.YtojogkljneonmaaGreatDoor
open Go Go.Proofs Go.Sep Go.XHeap Go.RowKit Go.Lang
set_option linter.unusedVariables false
set_option linter.unusedSimpArgs false
variable {W : World}
theorem bnot_true {b : Bool} (h : (!b) = true) : b = false := by cases b; rfl; cases h
theorem bnot_false {b : Bool} (h : (!b) = false) : b = true := by cases b; cases h; rfl
theorem countM_w : ∀ (ms : List Dm) (t n : Nat), (∀ m ∈ ms, m.Ok) → ∀ m ∈ countM ms t n, match m.g with
    | .var _ _ _ w _ => 0 ≤ w ∧ w ≤ (t : Int) + 256 * ms.length
    | .fn .. => True
  | [], _, _, _, m, hm => by cases hm
  | ⟨.var k tt nm w z, ps, bd, B⟩ :: r, t, n, h, m, hm => by
    have hz : 0 ≤ z ∧ z ≤ 256 := h ⟨.var k tt nm w z, ps, bd, B⟩ (List.mem_cons_self ..)
    rcases List.mem_cons.1 hm with rfl | hm
    · show 0 ≤ (t : Int) ∧ (t : Int) ≤ _
      simp only [List.length_cons]; omega
    · have := countM_w r _ _ (fun m hm => h m (List.mem_cons_of_mem _ hm)) m hm
      split
      · rename_i he; rw [he] at this
        simp only [List.length_cons] at this ⊢; omega
      · trivial
  | ⟨.fn hh s, ps, bd, B⟩ :: r, t, n, h, m, hm => by
    rcases List.mem_cons.1 hm with rfl | hm
    · trivial
    · have := countM_w r _ _ (fun m hm => h m (List.mem_cons_of_mem _ hm)) m hm
      split
      · rename_i he; rw [he] at this
        simp only [List.length_cons] at this ⊢; omega
      · trivial
def Dm.New (m : Dm) : Prop := match m.g with
  | .var .. => True
  | .fn _ s => s = 0
theorem countM_new : ∀ (ms : List Dm) (t n : Nat), (∀ m ∈ ms, m.New) → ∀ m ∈ countM ms t n, m.New
  | [], _, _, _, m, hm => by cases hm
  | ⟨.var k tt nm w z, ps, bd, B⟩ :: r, t, n, h, m, hm => by
    rcases List.mem_cons.1 hm with rfl | hm
    · trivial
    · exact countM_new r _ _ (fun m hm => h m (List.mem_cons_of_mem _ hm)) m hm
  | ⟨.fn hh s, ps, bd, B⟩ :: r, t, n, h, m, hm => by
    rcases List.mem_cons.1 hm with rfl | hm
    · exact h ⟨.fn hh s, ps, bd, B⟩ (List.mem_cons_self ..)
    · exact countM_new r _ _ (fun m hm => h m (List.mem_cons_of_mem _ hm)) m hm
theorem countM_len [Inhabited G3o] : ∀ (ms : List Dm) (t n : Nat), (countM ms t n).length = ms.length := fun ms t n => by
  have := congrArg List.length (countM_rs ms t n)
  simpa using this
/-- the body stands in memory -/
def Dm.Fit (m : Dm) : Prop := match m.g with
  | .var .. => True
  | .fn h _ => h.np = m.ps.length ∧ isP m.bd [.iface 113 (pt h.kb)] m.B
def twoL (kp km : Nat) (pf : Option Addr) (cf : Nat) (pd : Option Addr) (cd : Nat) (mn : Value) (tot : Int) (ns cur : List Dm) : List Asn :=
  [blk kp #[.slice pf (fnsOf (ns.map Dm.g)).length cf, mn, .int .i64 tot, .slice pd ns.length cd] 66, sl 20 1 (.slice pd ns.length cd) ns.length (ns.map fun m => gval m.g), mpS km (mapOf (ns.map Dm.g)), sl 63 1 (.slice pf (fnsOf (ns.map Dm.g)).length cf) (fnsOf (ns.map Dm.g)).length (fnsOf (ns.map Dm.g)), all ((cur.map Dm.g).map hdA), all (cur.map rsA)]
/-- the second of the check's loops -/
def Two (W : World) (A0 : Asn) (kp km : Nat) (pf : Option Addr) (cf : Nat) (pd : Option Addr) (cd : Nat) (tot : Int) (ns : List Dm) (F : List D → C (List D × Nat)) (R0 : C (List D × Nat)) (x : Int) (w : World) : Prop :=
  ∃ (pre todo cur : List Dm), x = pre.length ∧ ns = pre ++ todo ∧ cur.length = pre.length ∧ (cur.map Dm.g).map gz = (pre.map Dm.g).map gz ∧ (∀ m ∈ cur, m.Fit) ∧ St W A0.own w (twoL kp km pf cf pd cd (.pointer none) tot ns (cur ++ todo)) ∧ R0 = (crest (lkOf (adOf ns) (ns.map Dm.d)) (ns.map Dm.d) pre.length (todo.map Dm.d)).bind fun r => F (cur.map Dm.d ++ r)
theorem gz_val {a b : Gd} (h : gz a = gz b) : gval a = gval b ∧ gkey a = gkey b := by
  cases a with
  | var k t nm w z =>
    cases b with
    | var => cases h; exact ⟨rfl, rfl⟩
    | fn => cases h
  | fn h1 s1 =>
    cases b with
    | var => cases h
    | fn h2 s2 =>
      have h : Gd.fn h1 0 = Gd.fn h2 0 := h
      have : h1 = h2 := by injection h
      subst this
      exact ⟨rfl, rfl⟩
/-- whether a name is another's already -/
theorem dup_at [Inhabited G3o] {w : World} {ns cur : List Dm} {i : Nat} {b : Gd} (hG : (cur.map Dm.g).map gz = (ns.map Dm.g).map gz) (h : here ((cur.map Dm.g).map hdA) w) (hb : (cur.map Dm.g)[i]? = some b) (hbn : (ns.map Dm.g)[i]? = some b) :
    ∃ a, (mapOf (ns.map Dm.g) (gnm b)).getD .nilIface = gval a ∧ (hdA a).at_ w ∧ (hdA b).at_ w ∧ (!(decide (gkey a = gkey b))) = decide (firstOf (ns.map Dm.d) (gnm b) ≠ some i) := by
  rw [firstOf_g]
  rcases find_idx (fun g => decide (gnm g = gnm b)) (ns.map Dm.g) with ⟨h1, h2⟩ | ⟨i0, g, h1, h2, h3, h4, h5⟩
  · exfalso
    have := List.find?_eq_none.1 h2 b (List.mem_of_getElem? hbn)
    simp at this
  · have hI : mapOf (ns.map Dm.g) (gnm b) = some (gval g) := by unfold mapOf; rw [h4]; rfl
    have hGi : ((cur.map Dm.g)[i0]?).map gz = some (gz g) := by
      rw [← List.getElem?_map, hG, List.getElem?_map, h2]; rfl
    obtain ⟨g', hg', hgz⟩ := Option.map_eq_some_iff.1 hGi
    obtain ⟨e1, e2⟩ := gz_val hgz
    refine ⟨g', by rw [hI, e1]; rfl, hd_at h hg', hd_at h hb, ?_⟩
    rw [h1]
    by_cases e : i0 = i
    · subst e
      rw [hb] at hg'
      cases hg'
      simp
    · have hne : gkey g' ≠ gkey b := by
        intro ek
        have own : ∀ g : Gd, (hdA g).own (gkey g) := by intro g; cases g <;> rfl
        exact St.disj h i0 i e (by rw [List.getElem?_map, hg']; rfl) (by rw [List.getElem?_map, hb]; rfl) (gkey g') (own g') (by rw [ek]; exact own b)
      rw [decide_eq_false hne]
      exact (decide_eq_true (show some i0 ≠ some i from fun e' => e (Option.some.inj e'))).symm
theorem sizes_ok {ns : List Dm} (hok : ∀ m ∈ ns, m.Ok) : SizesOk (lkOf (adOf ns) (ns.map Dm.d)) := by
  intro s w z h
  unfold lkOf at h
  obtain ⟨i, -, h⟩ := Option.bind_eq_some_iff.1 h
  rw [List.getElem?_map] at h
  obtain ⟨d, hd, h⟩ := Option.map_eq_some_iff.1 h
  obtain ⟨m, hm, rfl⟩ := Option.map_eq_some_iff.1 hd
  have := hok m (List.mem_of_getElem? hm)
  obtain ⟨mg, ps, bd, B⟩ := m
  cases mg with
  | var => cases h; exact this
  | fn => cases h
end Go.Proofs.YtojogkljneonmaaGreatDoor
