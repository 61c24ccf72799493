import Derived.Test.YtojogkljneonmaaGreatDoorLangMq
import Derived.Test.YtojogkljneonmaaGreatDoorLangMn
import Derived.Test.YtojogkljneonmaaGreatDoorSxB
import Derived.Test.YtojogkljneonmaaGreatDoorChecked
import Derived.Test.YtojogkljneonmaaGreatDoorLangTi
/- A program that was loaded runs as its names say. No condition. -/
namespace Go.Lang
set_option linter.unusedVariables false
set_option linter.unusedSimpArgs false
theorem firstOf_cons (d : D) (r : List D) (s : ByteArray) : firstOf (d :: r) s = if d.nm = s then some 0 else (firstOf r s).map (· + 1) := by
  unfold firstOf
  rw [List.findIdx?_cons]
  by_cases h : d.nm = s
  · rw [if_pos h, if_pos (by simpa using h)]
  · rw [if_neg h, if_neg (by simpa using h)]
/-- a counted declaration is the one that was read -/
def CdOf : D → D → Prop
  | .var t nm _ z, d => ∃ w, d = .var t nm w z
  | .fn t nm ps s _ b, d => ∃ no, d = .fn t nm ps s no b
theorem count_find : ∀ (ds : List D) (t n : Nat) (s : ByteArray) (i : Nat) (d : D), firstOf (count ds t n) s = some i → (count ds t n)[i]? = some d → ∃ d0, findD ds s = some d0 ∧ CdOf d d0 ∧ ∀ tk nm w z, d = .var tk nm w z → w = ((t + placeN ds s : Nat) : Int)
  | [], t, n, s, i, d, h, hd => by cases h
  | .var tk nm w z :: r, t, n, s, i, d, h, hd => by
    rw [count, firstOf_cons] at h
    by_cases e : nm = s
    · rw [if_pos (show D.nm (.var tk nm (t : Int) z) = s from e)] at h
      cases h
      cases hd
      refine ⟨.var tk nm w z, ?_, ⟨w, rfl⟩, fun _ _ _ _ e2 => ?_⟩
      · exact fcons_pos (show D.nm (.var tk nm w z) = s from e)
      · cases e2
        show (t : Int) = _
        unfold placeN
        rw [if_pos (show D.nm (.var tk nm w z) = s from e)]
        rfl
    · rw [if_neg (show ¬ D.nm (.var tk nm (t : Int) z) = s from e)] at h
      cases hr : firstOf (count r (t + max 1 z.toNat) n) s with
      | none => rw [hr] at h; cases h
      | some j =>
        rw [hr] at h
        cases h
        obtain ⟨d0, h1, h2, h3⟩ := count_find r _ _ s j d hr (by simpa [count] using hd)
        refine ⟨d0, ?_, h2, fun tk2 nm2 w2 z2 e2 => ?_⟩
        · unfold findD at *
          rw [fcons_neg (by exact e)]
          exact h1
        · rw [h3 _ _ _ _ e2]
          show _ = ((t + placeN (.var tk nm w z :: r) s : Nat) : Int)
          rw [placeN, if_neg (show ¬ D.nm (.var tk nm w z) = s from e)]
          show _ = ((t + (max 1 z.toNat + placeN r s) : Nat) : Int)
          omega
  | .fn tk nm ps s0 no b :: r, t, n, s, i, d, h, hd => by
    rw [count, firstOf_cons] at h
    by_cases e : nm = s
    · rw [if_pos (show D.nm (.fn tk nm ps s0 (n : Int) b) = s from e)] at h
      cases h
      cases hd
      refine ⟨.fn tk nm ps s0 no b, ?_, ⟨no, rfl⟩, fun _ _ _ _ e2 => by cases e2⟩
      exact fcons_pos (show D.nm (.fn tk nm ps s0 no b) = s from e)
    · rw [if_neg (show ¬ D.nm (.fn tk nm ps s0 (n : Int) b) = s from e)] at h
      cases hr : firstOf (count r t (n + 1)) s with
      | none => rw [hr] at h; cases h
      | some j =>
        rw [hr] at h
        cases h
        obtain ⟨d0, h1, h2, h3⟩ := count_find r _ _ s j d hr (by simpa [count] using hd)
        refine ⟨d0, ?_, h2, fun tk2 nm2 w2 z2 e2 => ?_⟩
        · unfold findD at *
          rw [fcons_neg (by exact e)]
          exact h1
        · rw [h3 _ _ _ _ e2]
          show _ = ((t + placeN (.fn tk nm ps s0 no b :: r) s : Nat) : Int)
          rw [placeN, if_neg (show ¬ D.nm (.fn tk nm ps s0 no b) = s from e)]
          show _ = ((t + (0 + placeN r s) : Nat) : Int)
          omega
theorem cone_parts {lk : Lk} {dup : Bool} {t : Tok} {nm : ByteArray} {ps : List ByteArray} {s no : Int} {b : T} {d' : D} (hq : cone lk dup (.fn t nm ps s no b) = .ok d') : ∃ (p : Lcs × Nat) (r : T × Lcs × Nat), cpars lk t.line ps [] 0 = .ok p ∧ cst lk b p.1 p.2 = .ok r ∧ d' = .fn t nm ps (r.2.2 : Int) no r.1 := by
  rw [cone] at hq
  split at hq
  · cases hq
  obtain ⟨p, hp, hq⟩ := C.bind_ok hq
  obtain ⟨r, hr, hq⟩ := C.bind_ok hq
  cases hq
  exact ⟨p, r, hp, hr, rfl⟩
end Go.Lang
namespace Go.Proofs.YtojogkljneonmaaGreatDoor
open Go Go.Proofs Go.Sep Go.XHeap Go.RowKit Go.Lang
set_option linter.unusedVariables false
set_option linter.unusedSimpArgs false
/-- what the names of a loaded program stand for is what the document finds -/
theorem lks_of {w : World} {ms cur : List Dm} {q : List D × Nat} (hch : check (adOf (countM ms 0 0)) (ms.map Dm.d) = .ok q) (hd : ∀ d ∈ ms.map Dm.d, DOk d ∧ d.nok) (hq : cur.map Dm.d = q.1) (hgz : (cur.map Dm.g).map gz = ((countM ms 0 0).map Dm.g).map gz) (h : (all ((cur.map Dm.g).map hdA)).at_ w) :
    LkS (ftOf cur) (lkOf (adOf (countM ms 0 0)) (count (ms.map Dm.d) 0 0)) (ms.map Dm.d) := by
  obtain ⟨hr, -⟩ := check_ok hch
  constructor
  · intro s w z hs
    unfold lkOf at hs
    cases hi : firstOf (count (ms.map Dm.d) 0 0) s with
    | none => rw [hi] at hs; cases hs
    | some i =>
      rw [hi, Option.bind_some] at hs
      cases hx : (count (ms.map Dm.d) 0 0)[i]? with
      | none => rw [hx] at hs; cases hs
      | some d =>
        rw [hx] at hs
        obtain ⟨d0, h1, h2, h3⟩ := count_find _ _ _ _ _ _ hi hx
        cases d with
        | var t nm w' z' =>
          cases hs
          obtain ⟨w0, rfl⟩ := h2
          have e := h3 _ _ _ _ rfl
          refine ⟨by omega, by omega, ?_⟩
          unfold sizeN
          rw [h1]
        | fn => cases hs
  · intro s k np hs
    unfold lkOf at hs
    cases hi : firstOf (count (ms.map Dm.d) 0 0) s with
    | none => rw [hi] at hs; cases hs
    | some i =>
      rw [hi, Option.bind_some] at hs
      cases hx : (count (ms.map Dm.d) 0 0)[i]? with
      | none => rw [hx] at hs; cases hs
      | some d =>
        rw [hx] at hs
        obtain ⟨d0, h1, h2, -⟩ := count_find _ _ _ _ _ _ hi hx
        cases d with
        | var => cases hs
        | fn t nm ps s0 no b =>
          cases hs
          obtain ⟨no0, rfl⟩ := h2
          obtain ⟨-, hco⟩ := crest_ok _ _ _ _ hr
          obtain ⟨d', dup, hj, hcone⟩ := hco i _ hx
          obtain ⟨p, r, hp, hst, rfl⟩ := cone_parts hcone
          rw [← hq, List.getElem?_map] at hj
          cases hm : cur[i]? with
          | none => rw [hm] at hj; cases hj
          | some m =>
            rw [hm] at hj
            have hmd : m.d = .fn t nm ps (r.2.2 : Int) no r.1 := Option.some.inj hj
            have hkey : adOf (countM ms 0 0) i = gkey m.g := by
              have e1 : ((cur.map Dm.g).map gz)[i]? = some (gz m.g) := by rw [List.getElem?_map, List.getElem?_map, hm]; rfl
              rw [hgz, List.getElem?_map, List.getElem?_map] at e1
              unfold adOf
              cases hc : (countM ms 0 0)[i]? with
              | none => rw [hc] at e1; cases e1
              | some m0 =>
                rw [hc] at e1
                have : gz m0.g = gz m.g := Option.some.inj e1
                show gkey m0.g = gkey m.g
                exact (gz_val this).2
            cases hg : m.g with
            | var k2 t2 nm2 w2 z2 => unfold Dm.d at hmd; rw [hg] at hmd; cases hmd
            | fn hh sl =>
              have hft := ft_at h hm hg
              have hb : b.nok := (hd _ (List.mem_of_find?_eq_some h1)).2
              unfold Dm.d at hmd
              rw [hg] at hmd
              injection hmd with e1 e2 e3 e4 e5 e6
              rw [hkey, hg]
              refine ⟨t, nm, ps, s0, no0, b, r.2.2, p, r, h1, rfl, hb, hp, hst, ?_, rfl⟩
              show ftOf cur hh.k = _
              rw [hft, e4, e6]
              simp
end Go.Proofs.YtojogkljneonmaaGreatDoor
/- What each function asks, reckoned out of its text; printed by a program of mine (wip/tpl/VcTool.lean). No condition. -/
namespace Go.Proofs.YtojogkljneonmaaGreatDoor
open Go Go.Proofs
set_option linter.unusedVariables false
set_option maxRecDepth 100000
theorem vc9 {W : World} {Q : Ending → World → Prop} (arg0 : ByteArray) (arg1 : Int) (arg2 : Int)
 (hVC :
 ∀ k : Nat, ∀ W2 : World, k = W.heap.size → W2 = W.alloc (Obj.cells #[.bool false, .string ⟨#[]⟩, .int .u32 0, .int .i64 0, .slice none 0 0] 35) →
 Calls Tryz.prog 12 #[.string arg0] W2 (fun e => fun W3 => ∃ p : Option Addr, ∃ z : Int, ∃ v : Value, e = .returned (.tuple #[.pointer p, .int .i64 z, v]) ∧ Sx.isNil v (fun t =>
 Sx.split (!t) (∃ vs : Array Value, vs.size = 5 ∧ Sx.cellsAt W3 ⟨k, 0, none⟩ vs ∧ vs.size = 5 ∧ (∀ k2 : Nat, k2 < 5 → (∃ v2 : Value, W3.cell? ⟨k, 0 + k2, none⟩ = some v2) ∧
 W3.frozen? ⟨k, 0 + k2, none⟩ = false) ∧ ((∀ v3 : Value, v3 ∈ vs.toList → Value.oneCell' v3 = true) ∧ ∀ W4 : World, W4 = W3.setCells k 0 vs.toList →
 ∃ vs2 : Array Value, vs2.size = 5 ∧ Sx.cellsAt W4 ⟨k, 0, none⟩ vs2 ∧ Q (.returned (.tuple #[.agg vs2, v])) W4)) (Sx.split (decide (arg1 < 0)) (∃ vs3 : Array Value, vs3.size = 5 ∧
 Sx.cellsAt W3 ⟨k, 0, none⟩ vs3 ∧ vs3.size = 5 ∧ (∀ k3 : Nat, k3 < 5 → (∃ v4 : Value, W3.cell? ⟨k, 0 + k3, none⟩ = some v4) ∧ W3.frozen? ⟨k, 0 + k3, none⟩ = false) ∧
 ((∀ v5 : Value, v5 ∈ vs3.toList → Value.oneCell' v5 = true) ∧ ∀ W5 : World, W5 = W3.setCells k 0 vs3.toList → ∃ vs4 : Array Value, vs4.size = 5 ∧ Sx.cellsAt W5 ⟨k, 0, none⟩ vs4 ∧
 Q (.returned (.tuple #[.agg vs4, .iface 29 (Value.int .i64 3)])) W5)) (Sx.split (decide (arg1 > 512)) (∃ vs5 : Array Value, vs5.size = 5 ∧ Sx.cellsAt W3 ⟨k, 0, none⟩ vs5 ∧
 vs5.size = 5 ∧ (∀ k4 : Nat, k4 < 5 → (∃ v6 : Value, W3.cell? ⟨k, 0 + k4, none⟩ = some v6) ∧ W3.frozen? ⟨k, 0 + k4, none⟩ = false) ∧ ((∀ v7 : Value, v7 ∈ vs5.toList →
 Value.oneCell' v7 = true) ∧ ∀ W6 : World, W6 = W3.setCells k 0 vs5.toList → ∃ vs6 : Array Value, vs6.size = 5 ∧ Sx.cellsAt W6 ⟨k, 0, none⟩ vs6 ∧
 Q (.returned (.tuple #[.agg vs6, .iface 29 (Value.int .i64 3)])) W6)) (Sx.split (decide (arg2 < 0)) (∃ vs7 : Array Value, vs7.size = 5 ∧ Sx.cellsAt W3 ⟨k, 0, none⟩ vs7 ∧
 vs7.size = 5 ∧ (∀ k5 : Nat, k5 < 5 → (∃ v8 : Value, W3.cell? ⟨k, 0 + k5, none⟩ = some v8) ∧ W3.frozen? ⟨k, 0 + k5, none⟩ = false) ∧ ((∀ v9 : Value, v9 ∈ vs7.toList →
 Value.oneCell' v9 = true) ∧ ∀ W7 : World, W7 = W3.setCells k 0 vs7.toList → ∃ vs8 : Array Value, vs8.size = 5 ∧ Sx.cellsAt W7 ⟨k, 0, none⟩ vs8 ∧
 Q (.returned (.tuple #[.agg vs8, .iface 29 (Value.int .i64 3)])) W7)) (Sx.split (decide (arg2 > 20000)) (∃ vs9 : Array Value, vs9.size = 5 ∧ Sx.cellsAt W3 ⟨k, 0, none⟩ vs9 ∧
 vs9.size = 5 ∧ (∀ k6 : Nat, k6 < 5 → (∃ v10 : Value, W3.cell? ⟨k, 0 + k6, none⟩ = some v10) ∧ W3.frozen? ⟨k, 0 + k6, none⟩ = false) ∧ ((∀ v11 : Value, v11 ∈ vs9.toList →
 Value.oneCell' v11 = true) ∧ ∀ W8 : World, W8 = W3.setCells k 0 vs9.toList → ∃ vs10 : Array Value, vs10.size = 5 ∧ Sx.cellsAt W8 ⟨k, 0, none⟩ vs10 ∧
 Q (.returned (.tuple #[.agg vs10, .iface 29 (Value.int .i64 3)])) W8)) (Sx.ptr p (fun a => ∃ z2 : Int, W3.cell? (Addr.add a 2) = some (.int .i64 z2) ∧ (((0 : Int) ≤ z2 ∧ z2 ≤ z2 ∧
 z2 ≤ 9223372036854775807 ∧ (4 : Int) * z2 ≤ 281474976710656) ∧ ∀ k7 : Nat, ∀ W9 : World, k7 = W3.heap.size →
 W9 = W3.alloc (Obj.cells (madeCells #[.int .u32 0] (Int.toNat z2 * 1)) 32) →
 ∀ vs11 : Array Value, vs11 = #[.slice (some (Addr.mk k7 0 none)) (Int.toNat z2) (Int.toNat z2), .slice none 0 0, .int .i64 arg2, .int .i64 arg1, .slice none 0 0] →
 ∀ k8 : Nat, ∀ W10 : World, k8 = W9.heap.size → W10 = W9.alloc (Obj.cells (Value.cells (Value.agg vs11)) 69) → ∀ k9 : Nat, ∀ W11 : World, k9 = W10.heap.size →
 W11 = W10.alloc (Obj.cells #[.pointer none] 61) → (∃ v12 : Value, W11.cell? ⟨k9, 0, none⟩ = some v12) ∧ (W11.frozen? ⟨k9, 0, none⟩ = false ∧
 ∀ W12 : World, W12 = W11.setCell ⟨k9, 0, none⟩ (Value.pointer (some ⟨k8, 0, none⟩)) → ∀ W13 : World, W13 = World.drew W12 → Sx.ptr p (fun a2 =>
 ∃ p2 : Option Addr, W13.cell? ⟨k9, 0, none⟩ = some (.pointer p2) ∧ ∃ p3 : Option Addr, W13.cell? (Addr.add a2 1) = some (.pointer p3) ∧
 Calls Tryz.prog 21 #[.pointer p2, .pointer p3, .slice none 0 0] W13 (fun e2 => fun W14 => (∃ z3 : Int, e2 = .returned (.int .u32 z3) ∧ ∀ W15 : World, W15 = World.drew W14 →
 ∃ p4 : Option Addr, W15.cell? ⟨k9, 0, none⟩ = some (.pointer p4) ∧ Sx.ptr p4 (fun a3 =>
 ∃ p5 : Option Addr, ∃ k10 : Nat, ∃ k11 : Nat, W15.cell? (Addr.add a3 1) = some (.slice p5 k10 k11) ∧ ∃ l : List Int, Sx.Bts W15 p5 k10 l ∧
 ∃ p6 : Option Addr, W15.cell? ⟨k9, 0, none⟩ = some (.pointer p6) ∧ Sx.ptr p6 (fun a4 =>
 ∃ p7 : Option Addr, ∃ k12 : Nat, ∃ k13 : Nat, W15.cell? (Addr.add a4 0) = some (.slice p7 k12 k13) ∧
 ∀ vs12 : Array Value, vs12 = #[.bool true, .string (Sx.bstr l), .int .u32 z3, .int .i64 0, .slice p7 k12 k13] → vs12.size = 5 ∧ (∀ k14 : Nat, k14 < 5 →
 (∃ v13 : Value, W15.cell? ⟨k, 0 + k14, none⟩ = some v13) ∧ W15.frozen? ⟨k, 0 + k14, none⟩ = false) ∧ ((∀ v14 : Value, v14 ∈ vs12.toList → Value.oneCell' v14 = true) ∧
 ∀ W16 : World, W16 = W15.setCells k 0 vs12.toList → CallsD Tryz.prog 20 #[.pointer (some ⟨k, 0, none⟩), .pointer (some ⟨k9, 0, none⟩)] FrameMode.returning W16 (fun e3 => fun u =>
 fun W17 => (∃ v15 : Value, e3 = .returned v15 ∧ ((settle u = FrameMode.returning ∧ ∃ vs13 : Array Value, vs13.size = 5 ∧ Sx.cellsAt W17 ⟨k, 0, none⟩ vs13 ∧
 Q (.returned (.tuple #[.agg vs13, .nilIface])) W17) ∨ (∃ l2 : List PanicEntry, settle u = FrameMode.panicking l2 ∧ Q (Ending.panicked l2) W17))) ∨
 (∃ l3 : List PanicEntry, e3 = Ending.panicked l3 ∧ ∃ l4 : List PanicEntry, raised u l3 = FrameMode.panicking l4 ∧ Q (Ending.panicked l4) W17)))))) ∨
 (∃ l5 : List PanicEntry, e2 = Ending.panicked l5 ∧ CallsD Tryz.prog 20 #[.pointer (some ⟨k, 0, none⟩), .pointer (some ⟨k9, 0, none⟩)] (FrameMode.panicking l5) W14 (fun e4 =>
 fun u2 => fun W18 => (∃ v16 : Value, e4 = .returned v16 ∧ ((settle u2 = FrameMode.returning ∧ ∃ vs14 : Array Value, vs14.size = 5 ∧ Sx.cellsAt W18 ⟨k, 0, none⟩ vs14 ∧
 Q (.returned (.tuple #[.agg vs14, v])) W18) ∨ (∃ l6 : List PanicEntry, settle u2 = FrameMode.panicking l6 ∧ Q (Ending.panicked l6) W18))) ∨
 (∃ l7 : List PanicEntry, e4 = Ending.panicked l7 ∧ ∃ l8 : List PanicEntry, raised u2 l7 = FrameMode.panicking l8 ∧ Q (Ending.panicked l8) W18)))))))))))))))) :
 Calls Tryz.prog 9 #[.string arg0, .int .i64 arg1, .int .i64 arg2] W Q :=
 Sx.soundD (pk := [70,21,40,71,73,105]) Tryz.func9 (.node [] [] 0 .leaf (.node [] [] 0 .leaf (.node [] [] 0 .leaf (.node [] [] 0 .leaf (.node [] [] 0 .leaf (.node [] [] 0 .leaf (.node [] [] 0 (.node [] [] 1001006 .leaf .leaf) (.node [] [] 0 (.node [] [] 12 .leaf .leaf) .leaf)))))))) [Value.string arg0, .int .i64 arg1, .int .i64 arg2] rfl (Eq.mp (by kernel_rfl) hVC)
theorem vc20 {W : World} {Q : Ending → FrameMode → World → Prop} (fv0 : Nat) (fv0o : Nat) (fv1 : Nat) (fv1o : Nat) (v : Value)
 (hVC :
 Sx.isNil v (fun t => Sx.split t (Q (.returned (.tuple #[])) (FrameMode.panicking [PanicEntry.mk v true false]) W) (Sx.tagOf v 70 (fun v2 => ∃ z : Int, v2 = Value.int .i64 z ∧
 ∀ vs : Array Value, vs = #[.bool false, .string ⟨#[]⟩, .int .u32 0, .int .i64 0, .slice none 0 0] → vs.size = 5 ∧ (∀ k : Nat, k < 5 →
 (∃ v3 : Value, W.cell? ⟨fv0, fv0o + k, none⟩ = some v3) ∧ W.frozen? ⟨fv0, fv0o + k, none⟩ = false) ∧ ((∀ v4 : Value, v4 ∈ vs.toList → Value.oneCell' v4 = true) ∧
 ∀ W2 : World, W2 = W.setCells fv0 fv0o vs.toList → Sx.split (decide (z > 0)) (∀ W3 : World, W3 = World.drew W2 → ∃ p : Option Addr, W3.cell? ⟨fv1, fv1o, none⟩ = some (.pointer p) ∧
 Sx.ptr p (fun a => ∃ p2 : Option Addr, ∃ k2 : Nat, ∃ k3 : Nat, W3.cell? (Addr.add a 1) = some (.slice p2 k2 k3) ∧ ∃ l : List Int, Sx.Bts W3 p2 k2 l ∧
 ∃ p3 : Option Addr, W3.cell? ⟨fv1, fv1o, none⟩ = some (.pointer p3) ∧ Sx.ptr p3 (fun a2 =>
 ∃ p4 : Option Addr, ∃ k4 : Nat, ∃ k5 : Nat, W3.cell? (Addr.add a2 0) = some (.slice p4 k4 k5) ∧
 ∀ vs2 : Array Value, vs2 = #[.bool true, .string (Sx.bstr l), .int .u32 0, .int .i64 z, .slice p4 k4 k5] → vs2.size = 5 ∧ (∀ k6 : Nat, k6 < 5 →
 (∃ v5 : Value, W3.cell? ⟨fv0, fv0o + k6, none⟩ = some v5) ∧ W3.frozen? ⟨fv0, fv0o + k6, none⟩ = false) ∧ ((∀ v6 : Value, v6 ∈ vs2.toList → Value.oneCell' v6 = true) ∧
 ∀ W4 : World, W4 = W3.setCells fv0 fv0o vs2.toList → Q (.returned (.tuple #[])) (FrameMode.panicking [PanicEntry.mk v true false]) W4))))
 (Q (.returned (.tuple #[])) (FrameMode.panicking [PanicEntry.mk v true false]) W2))) (Sx.split false
 (∀ vs3 : Array Value, vs3 = #[.bool false, .string ⟨#[]⟩, .int .u32 0, .int .i64 0, .slice none 0 0] → vs3.size = 5 ∧ (∀ k7 : Nat, k7 < 5 →
 (∃ v7 : Value, W.cell? ⟨fv0, fv0o + k7, none⟩ = some v7) ∧ W.frozen? ⟨fv0, fv0o + k7, none⟩ = false) ∧ ((∀ v8 : Value, v8 ∈ vs3.toList → Value.oneCell' v8 = true) ∧
 ∀ W5 : World, W5 = W.setCells fv0 fv0o vs3.toList → Q (.returned (.tuple #[])) (FrameMode.panicking [PanicEntry.mk v true false]) W5)) (match v with
 | Value.iface t v_1 => Q (Ending.panicked [PanicEntry.mk (Value.iface t v_1) false false]) (FrameMode.panicking [PanicEntry.mk v true false]) W | x => False))))) :
 CallsD Tryz.prog 20 #[.pointer (some ⟨fv0, fv0o, none⟩), .pointer (some ⟨fv1, fv1o, none⟩)] (.panicking [{ v, recovered := false }]) W Q :=
 Sx.soundR (pk := [70,21,40,71,73,105]) Tryz.func20 (.node [] [] 0 .leaf (.node [] [] 0 (.node [] [] 0 .leaf (.node [] [] 0 .leaf (.node [] [] 0 .leaf (.node [] [] 0 (.node [] [] 0 .leaf (.node [] [] 0 .leaf (.node [] [] 0 .leaf (.node [] [] 0 (.node [] [] 12 .leaf .leaf) .leaf)))) .leaf)))) .leaf)) [Value.pointer (some ⟨fv0, fv0o, none⟩), .pointer (some ⟨fv1, fv1o, none⟩)] (Eq.mp (by kernel_rfl) hVC)
theorem vc20z {W : World} {Q : Ending → FrameMode → World → Prop} (fv0 : Nat) (fv0o : Nat) (fv1 : Nat) (fv1o : Nat) (v : Value)
 (hVC :
 Q (.returned (.tuple #[])) FrameMode.returning W) :
 CallsD Tryz.prog 20 #[.pointer (some ⟨fv0, fv0o, none⟩), .pointer (some ⟨fv1, fv1o, none⟩)] .returning W Q :=
 Sx.soundR (pk := [70,21,40,71,73,105]) Tryz.func20 (.node [] [] 0 .leaf (.node [] [] 0 (.node [] [] 0 .leaf (.node [] [] 0 .leaf (.node [] [] 0 .leaf (.node [] [] 0 (.node [] [] 0 .leaf (.node [] [] 0 .leaf (.node [] [] 0 .leaf (.node [] [] 0 (.node [] [] 12 .leaf .leaf) .leaf)))) .leaf)))) .leaf)) [Value.pointer (some ⟨fv0, fv0o, none⟩), .pointer (some ⟨fv1, fv1o, none⟩)] (Eq.mp (by kernel_rfl) hVC)
end Go.Proofs.YtojogkljneonmaaGreatDoor
/- What a text comes to: the program's Eval, by names. No condition. -/
namespace Go.Lang
set_option linter.unusedVariables false
set_option linter.unusedSimpArgs false
/-- what a program comes to -/
structure Oc where
  ended : Bool
  out : List UInt8
  value : UInt32
  fault : Nat
  globals : List UInt32
def oc0 : Oc := ⟨false, [], 0, 0, []⟩
def ocOf : Rs Rw → Oc
  | .ok v r => ⟨true, r.out, hd v, 0, r.words⟩
  | .stop 0 _ => oc0
  | .stop (k + 1) r => ⟨true, r.out, 0, k + 1, r.words⟩
  | .out => oc0
def r0 (ds : List D) (stack steps : Nat) : Rw := ⟨List.replicate (total ds) 0, [], steps, stack, []⟩
def inB (stack steps : Int) : Prop := (0 ≤ stack ∧ stack ≤ 512) ∧ 0 ≤ steps ∧ steps ≤ 20000
theorem sim_go {E : ByteArray → UInt32 → UInt32 → UInt32} {F : Ft} {lk : Lk} {ds : List D} (hl : LkS F lk ds) (f : Nat) {k : Nat} {stack steps : Nat} (hk : lk cMain = some (.fn k 0)) : Sim (PE [] 0) (go E F f (.en k []) ⟨List.replicate (total ds) 0, [], steps, stack, []⟩) (rgo E ds f (.en cMain []) (r0 ds stack steps)) :=
  (simf hl f).en cMain k 0 [] [] 0 _ _ hk rfl ⟨⟨rfl, rfl, rfl, rfl, rfl⟩, rfl⟩
theorem bstr_ofL (l : List UInt8) : Sx.bstr (l.map fun x => (x.toNat : Int)) = ofL l := by
  have key : ∀ (l : List UInt8) (a : ByteArray), (l.map fun x => (x.toNat : Int)).foldl (fun r n => r.push (UInt8.ofNat n.toNat)) a = ⟨a.data ++ l.toArray⟩ := by
    intro l
    induction l with
    | nil => intro a; simp
    | cons x l ih =>
      intro a
      rw [List.map_cons, List.foldl_cons, ih]
      simp [ByteArray.push]
  unfold Sx.bstr
  rw [key]
  unfold ofL
  simp [ByteArray.empty, ByteArray.emptyWithCapacity]
  rfl
end Go.Lang
namespace Go.Proofs.YtojogkljneonmaaGreatDoor
open Go Go.Proofs Go.Sep Go.XHeap Go.RowKit Go.Lang
set_option linter.unusedVariables false
set_option linter.unusedSimpArgs false
variable {W : World}
/-- a program that was checked, in plain Lean: its declarations -/
def loadP (f g : Nat) (s : List UInt8) : C (List D) := (parseP f g s).bind fun ds => (fcheck (toD ds .nil)).bind fun _ => (.ok ds : C (List D))
def ocC (o : Oc) (p : Option Addr) (c : Nat) : Array Value := #[.bool o.ended, .string (ofL o.out), vU o.value, .int .i64 (o.fault : Nat), .slice p o.globals.length c]
def ocZ : Array Value := #[.bool false, .string (ofL []), .int .u32 0, .int .i64 0, .slice none 0 0]
theorem bts_sl {w : World} {p : Option Addr} {c : Nat} {l : List UInt8} (h : Sl w 5 1 (.slice p l.length c) l.length (l.map vB)) : Sx.Bts w p l.length (l.map fun x => (x.toNat : Int)) := by
  refine ⟨by simp, fun hn => ?_⟩
  obtain ⟨g, off, hp, -⟩ := els_at h hn
  refine ⟨g, off, hp, fun i x hi => ?_⟩
  rw [List.getElem?_map] at hi
  cases hx : l[i]? with
  | none => rw [hx] at hi; cases hi
  | some u =>
    rw [hx] at hi
    cases hi
    obtain ⟨g2, off2, hp2, h2, -⟩ := els_at h (List.getElem?_eq_some_iff.1 hx).1
    rw [hp] at hp2
    cases hp2
    rw [h2, List.getElem?_map, hx]
    rfl
theorem blk_sl' {w : World} {b m size : Nat} {us : List Value} {t : TypeId} (hu : us.length = m * size) (hm : m ≤ maxLen) (h : Blk w b us.toArray t) : Sl w t size (.slice (some ⟨b, 0, none⟩) m m) m us :=
  ⟨hu, .inr ⟨b, 0, m, us.toArray, rfl, h, Nat.le_refl _, hm, by simp [hu], by simp [← hu]⟩⟩
theorem zero_sl {w : World} {k n : Nat} (hn : n ≤ 1000) (h : Blk w k (madeCells #[Value.int .u32 0] (n * 1)) 32) : Sl w 32 1 (.slice (some ⟨k, 0, none⟩) n n) n ((List.replicate n (0 : UInt32)).map vU) := by
  rw [Nat.mul_one, ints_made] at h
  refine blk_sl' (by simp) (by unfold maxLen; omega) ?_
  have e : ((List.replicate n (0 : UInt32)).map vU).toArray = ints .u32 (List.replicate n 0) := by
    unfold ints
    rw [List.map_replicate, List.map_replicate]
    rfl
  rw [e]
  exact h
/-- what Eval hands back, of a program -/
def EvalOk [Inhabited G3o] (W : World) (ds : List D) (fu : Nat) (stack steps : Int) (e : Ending) (w' : World) : Prop :=
  (¬ inB stack steps ∧ e = .returned (.tuple #[.agg ocZ, .iface 29 (.int .i64 3)]) ∧ Post globA W globA w') ∨
    (inB stack steps ∧ ∃ R p c, rgo opE ds fu (.en cMain []) (r0 ds stack.toNat steps.toNat) = R ∧ R ≠ .out ∧ e = .returned (.tuple #[.agg (ocC (ocOf R) p c), .nilIface]) ∧
      Post globA W (all [globA, sl 32 1 (.slice p (ocOf R).globals.length c) (ocOf R).globals.length ((ocOf R).globals.map vU)]) w')
def EvalK [Inhabited G3o] (W : World) (s : List UInt8) (f g fu : Nat) (stack steps : Int) (e : Ending) (w' : World) : Prop := match loadP f g s with
  | .err line en => ∃ v, e = .returned (.tuple #[.agg ocZ, v]) ∧ ((v = .iface 29 (.int .i64 en) ∧ Post globA W globA w') ∨ ∃ b, v = .iface 77 (pt b) ∧ Post globA W (all [globA, fltA b line en]) w')
  | .ok ds => EvalOk W ds fu stack steps e w'
theorem mz_en {K k : Nat} {args : List UInt32} {s : Rn} : mz K (.en k args) s = s.steps * (K + 2) + (K + 1) := rfl
theorem mz_lt {K k fu : Nat} {args : List UInt32} {s : Rn} (hK : 20001 * (K + 2) + K + 2 < fu) (h : s.steps ≤ 20000) : mz K (.en k args) s < fu := by
  rw [mz_en]
  have := Nat.mul_le_mul_right (K + 2) h
  omega
theorem nok_of {f g : Nat} {s : List UInt8} {ds : List D} (h : parseP f g s = .ok ds) : ∀ d ∈ ds, d.nok := by
  unfold parseP at h
  split at h
  · cases h
  · cases hd : decls f g (lex s 1) with
    | ok ds' l' => rw [hd] at h; cases h; exact decls_nok _ _ _ _ hd
    | err l e => rw [hd] at h; cases h
    | out => rw [hd] at h; cases h
theorem dok_of {s : List UInt8} {ds : List D} (h : parseP 64009 8002 s = .ok ds) : ∀ d ∈ ds, DOk d := by
  unfold parseP at h
  split at h
  · cases h
  · cases hd : decls 64009 8002 (lex s 1) with
    | ok ds' l' =>
      rw [hd] at h
      cases h
      have hl := (lex_ind s.length s 1 (Nat.le_refl _)).2.2.2
      exact (decls_shape 8002 (lex s 1) l' ds hd (by omega)).1
    | err l e => rw [hd] at h; cases h
    | out => rw [hd] at h; cases h
theorem loadP_er {ad : Nat → Nat} {s : List UInt8} : (loadP 64009 8002 s).er = ((parseP 64009 8002 s).bind (check ad)).er := by
  unfold loadP
  cases hp : parseP 64009 8002 s with
  | err l e => rfl
  | ok ds =>
    show ((fcheck (toD ds .nil)).bind _).er = (check ad ds).er
    rw [fcheck_eq ad ds (dok_of hp)]
    cases check ad ds <;> rfl
theorem loadP_ok {s : List UInt8} {ds : List D} (h : loadP 64009 8002 s = .ok ds) : parseP 64009 8002 s = .ok ds := by
  unfold loadP at h
  obtain ⟨ds', h1, h⟩ := C.bind_ok h
  obtain ⟨_, h2, h⟩ := C.bind_ok h
  cases h
  exact h1
def OcR (P : List UInt32 → Rn → Rw → Prop) (a : Rs Rn) (b : Rs Rw) : Prop := match a with
  | .ok v s => ∃ r, b = .ok v r ∧ P v s r
  | .stop k s => ∃ r, b = .stop k r ∧ r.words = s.words ∧ r.out = s.out
  | .out => b = .out
theorem sim_oc {P : List UInt32 → Rn → Rw → Prop} {a : Rs Rn} {b : Rs Rw} (h : Sim P a b) : OcR P a b := by
  cases a <;> cases b <;> first | exact h.elim | rfl | exact ⟨_, by rw [h.1], h.2⟩
theorem oc_one (o : Oc) (p : Option Addr) (c : Nat) : ∀ v ∈ (ocC o p c).toList, v.oneCell' = true := by
  intro v hv
  simp [ocC, vU] at hv
  rcases hv with rfl | rfl | rfl | rfl | rfl <;> rfl
theorem ocz_one : ∀ v ∈ ocZ.toList, v.oneCell' = true := by
  intro v hv
  simp [ocZ] at hv
  rcases hv with rfl | rfl | rfl | rfl | rfl <;> rfl
set_option maxHeartbeats 2000000 in
theorem eval_any [Inhabited G3o] {fu : Nat} (s : List UInt8) (stack steps : Int) (hfu : 20001 * 1000002 + 1000002 < fu) (h : globA.at_ W) : Calls Tryz.prog 9 #[.string (ofL s), .int .i64 stack, .int .i64 steps] W (EvalK W s 64009 8002 fu stack steps) := by
  refine vc9 (ofL s) stack steps ?_
  refine (St.begin h).al fun k w2 H2 => ?_
  have H2 : St W globA.own w2 [globA, blk k ocZ 35] := H2
  have hr : s.length ≤ 8000 → decls 64009 8002 (lex s 1) ≠ .out := fun hs => by
    have hl := (lex_ind s.length s 1 (Nat.le_refl _)).2.2.2
    exact decls_fuel 8002 (lex s 1) (by omega) (by omega) (by omega)
  refine (load_any (W := w2) (f := 64009) (g := 8002) s hr (H2.nth 0 rfl)).mono ?_
  rintro e w3 ⟨ad, he⟩
  have her := loadP_er (ad := ad) (s := s)
  cases hc : (parseP 64009 8002 s).bind (check ad) with
  | err line en =>
    rw [hc] at he her
    obtain ⟨v, rfl, he⟩ := he
    have hl : loadP 64009 8002 s = .err line en := by
      cases hl : loadP 64009 8002 s with
      | ok ds => rw [hl] at her; cases her
      | err a b => rw [hl] at her; cases her; rfl
    refine ⟨_, _, _, rfl, ?_⟩
    rcases he with ⟨rfl, hp⟩ | ⟨b, rfl, hp⟩
    · have H3 := H2.upd 0 rfl hp
      refine nil_false (Sx.split_of (fun _ => ?_) (fun h => by cases h))
      refine ⟨_, rfl, H3.cells 1 rfl, ?_⟩
      refine H3.sts0 1 (n := 5) (vs := ocZ) rfl rfl rfl ocz_one fun w4 H4 => ⟨_, rfl, H4.cells 1 rfl, ?_⟩
      unfold EvalK
      rw [hl]
      exact ⟨_, rfl, .inl ⟨rfl, H4.post 0 rfl⟩⟩
    · have H3 := H2.upd 0 rfl hp
      refine nil_false (Sx.split_of (fun _ => ?_) (fun h => by cases h))
      refine ⟨_, rfl, H3.cells 1 rfl, ?_⟩
      refine H3.sts0 1 (n := 5) (vs := ocZ) rfl rfl rfl ocz_one fun w4 H4 => ⟨_, rfl, H4.cells 1 rfl, ?_⟩
      unfold EvalK
      rw [hl]
      exact ⟨_, rfl, .inr ⟨b, rfl, H4.post 0 rfl⟩⟩
  | ok q =>
    rw [hc] at he her
    obtain ⟨kp, rfl, ms, cur, km, pf, pd, cf, cd, tot, rfl, hpar, hmok, rfl, hq, hgz, hfit, hp⟩ := he
    obtain ⟨ds, hl⟩ : ∃ ds, loadP 64009 8002 s = .ok ds := by
      cases hl : loadP 64009 8002 s with
      | ok ds => exact ⟨ds, rfl⟩
      | err a b => rw [hl] at her; cases her
    have hds : ms.map Dm.d = ds := by
      have := loadP_ok hl
      rw [hpar] at this
      cases this; rfl
    have hch : check (adOf (countM ms 0 0)) (ms.map Dm.d) = .ok q := by rw [hpar] at hc; exact hc
    have hdd : ∀ d ∈ ms.map Dm.d, DOk d ∧ d.nok := by rw [hds]; exact fun d hd => ⟨dok_of (loadP_ok hl) d hd, nok_of (loadP_ok hl) d hd⟩
    refine ⟨_, _, _, rfl, nil_true (Sx.split_of (fun h => by cases h) (fun _ => ?_))⟩
    have H3 := St.open_ (L := [globA, all (finL kp km pf cf pd cd (pt q.2) ((gtot ((countM ms 0 0).map Dm.g) : Nat) : Int) (countM ms 0 0) cur)]) (L' := [blk k ocZ 35]) (H2.upd 0 rfl hp)
    have refuse : ∀ {w : World}, ¬ inB stack steps → St W globA.own w [globA, all (finL kp km pf cf pd cd (pt q.2) ((gtot ((countM ms 0 0).map Dm.g) : Nat) : Int) (countM ms 0 0) cur), blk k ocZ 35] →
        ∃ vs : Array Value, vs.size = 5 ∧ Sx.cellsAt w ⟨k, 0, none⟩ vs ∧ vs.size = 5 ∧ (∀ k2 : Nat, k2 < 5 → (∃ v2 : Value, w.cell? ⟨k, 0 + k2, none⟩ = some v2) ∧ w.frozen? ⟨k, 0 + k2, none⟩ = false) ∧ (∀ v3 : Value, v3 ∈ vs.toList → v3.oneCell' = true) ∧ ∀ w4 : World, w4 = w.setCells k 0 vs.toList → ∃ vs2 : Array Value, vs2.size = 5 ∧ Sx.cellsAt w4 ⟨k, 0, none⟩ vs2 ∧ EvalK W s 64009 8002 fu stack steps (.returned (.tuple #[.agg vs2, .iface 29 (.int .i64 3)])) w4 := by
      intro w hb H
      refine ⟨_, rfl, H.cells 2 rfl, ?_⟩
      refine H.sts0 2 (n := 5) (vs := ocZ) rfl rfl rfl ocz_one fun w4 H4 => ⟨_, rfl, H4.cells 2 rfl, ?_⟩
      unfold EvalK
      rw [hl]
      exact .inl ⟨hb, rfl, H4.post 0 rfl⟩
    refine Sx.split_of (fun hb => ?_) (fun hb1 => ?_)
    · have hb := of_decide_eq_true hb
      exact refuse (fun h => by obtain ⟨⟨a, b⟩, c, d⟩ := h; omega) H3
    refine Sx.split_of (fun hb => ?_) (fun hb2 => ?_)
    · have hb := of_decide_eq_true hb
      exact refuse (fun h => by obtain ⟨⟨a, b⟩, c, d⟩ := h; omega) H3
    refine Sx.split_of (fun hb => ?_) (fun hb3 => ?_)
    · have hb := of_decide_eq_true hb
      exact refuse (fun h => by obtain ⟨⟨a, b⟩, c, d⟩ := h; omega) H3
    refine Sx.split_of (fun hb => ?_) (fun hb4 => ?_)
    · have hb := of_decide_eq_true hb
      exact refuse (fun h => by obtain ⟨⟨a, b⟩, c, d⟩ := h; omega) H3
    have hb1 := of_decide_eq_false hb1
    have hb2 := of_decide_eq_false hb2
    have hb3 := of_decide_eq_false hb3
    have hb4 := of_decide_eq_false hb4
    have hin : inB stack steps := ⟨⟨by omega, by omega⟩, by omega, by omega⟩
    -- what runs
    obtain ⟨z1, rfl⟩ : ∃ z : Nat, stack = (z : Int) := ⟨stack.toNat, by omega⟩
    obtain ⟨z2, rfl⟩ : ∃ z : Nat, steps = (z : Int) := ⟨steps.toNat, by omega⟩
    obtain ⟨DA, hDA⟩ : ∃ A, A = all (finL kp km pf cf pd cd (pt q.2) ((gtot ((countM ms 0 0).map Dm.g) : Nat) : Int) (countM ms 0 0) cur) := ⟨_, rfl⟩
    have hDo : ∀ W, DA.at_ W → (all ((cur.map Dm.g).map hdA)).at_ W ∧ (all (cur.map rsA)).at_ W := by
      intro W hW
      rw [hDA] at hW
      have hW : Sep.here _ W := hW
      exact ⟨hW.nth 4 rfl, hW.nth 5 rfl⟩
    have hD1 : ∀ W, DA.at_ W → Blk W kp #[.slice pf (fnsOf ((countM ms 0 0).map Dm.g)).length cf, pt q.2, .int .i64 ((gtot ((countM ms 0 0).map Dm.g) : Nat) : Int), .slice pd (countM ms 0 0).length cd] 66 := by
      intro W hW
      rw [hDA] at hW
      have hW : Sep.here _ W := hW
      exact hW.nth 0 rfl
    rw [← hDA] at H3
    have hat := (hDo _ (H3.nth 1 rfl)).1
    have hgt := gtot_total ms 0 0
    obtain ⟨C0, hFO, n, b, hmain⟩ := code_of (X := ⟨0, none, 0, DA⟩) hch hdd hq hgz hfit hat hDo
    have hn1 := C0.nw
    rw [hgt] at hD1
    have lk := lks_of hch hdd hq hgz hat
    obtain ⟨-, np, hlk, rfl⟩ := check_ok hch
    rw [hds] at lk hlk hn1 hD1 hFO
    obtain ⟨nw, hnw⟩ : ∃ n, n = total ds := ⟨_, rfl⟩
    rw [← hnw] at hn1 hD1 hFO
    refine ptr_some ⟨((nw : Nat) : Int), (hD1 _ (H3.nth 1 rfl)).cell' (i := 2) rfl, ⟨by omega, by omega, by omega, by omega⟩, ?_⟩
    refine H3.al fun k7 w4 H4 => ?_
    rintro vs rfl
    refine H4.al fun k8 w5 H5 => ?_
    refine H5.al fun k9 w6 H6 => ?_
    rw [Int.toNat_natCast] at H6
    refine H6.st 5 rfl (i := 0) (by simp) fun w7 H7 => ?_
    refine H7.dr fun w8 H8 => ?_
    refine ptr_some ⟨_, H8.ld 5 rfl (i := 0) rfl, _, (hD1 _ (H8.nth 1 rfl)).cell' (i := 1) rfl, ?_⟩
    have H9 : St W globA.own w8 [globA, DA, blk k ocZ 35, sl 32 1 (.slice (some ⟨k7, 0, none⟩) nw nw) nw ((List.replicate nw (0 : UInt32)).map vU), blk k8 #[.slice (some ⟨k7, 0, none⟩) nw nw, .slice none 0 0, .int .i64 (z2 : Int), .int .i64 (z1 : Int), .slice none 0 0] 69, blk k9 #[pt k8] 61] := by
      refine H8.conv 3 rfl (A' := sl 32 1 (.slice (some ⟨k7, 0, none⟩) nw nw) nw ((List.replicate nw (0 : UInt32)).map vU)) (fun h => zero_sl hn1 h) ?_
      intro q' hq'
      have : some k7 = some q' := hq'
      cases this
      rfl
    obtain ⟨s0, hs0⟩ : ∃ s0 : Rn, s0 = ⟨List.replicate nw 0, [], z2, z1, []⟩ := ⟨_, rfl⟩
    have C1 : Code ⟨k8, some ⟨k7, 0, none⟩, nw, DA⟩ (ftOf cur) nw := by
      have := (code_of (X := ⟨k8, some ⟨k7, 0, none⟩, nw, DA⟩) hch hdd hq hgz hfit hat hDo).1
      rw [hds, ← hnw] at this
      exact this
    have H10 : St W globA.own w8 ([blk k8 #[.slice (some ⟨k7, 0, none⟩) nw nw, .slice none 0 0, .int .i64 (z2 : Int), .int .i64 (z1 : Int), .slice none 0 0] 69, sl 32 1 (.slice (some ⟨k7, 0, none⟩) nw nw) nw ((List.replicate nw (0 : UInt32)).map vU), sl 5 1 (.slice none 0 0) 0 [], sl 32 1 (.slice none 0 0) 0 [], DA] ++ [sl 32 1 (.slice none 0 0) 0 [], globA, blk k ocZ 35, blk k9 #[pt k8] 61]) :=
      (((H9.add (A := sl 5 1 (.slice none 0 0) 0 []) ⟨Sl.nil _ _ _, XTouch.refl _ _, fun q hq => by cases hq⟩).add (A := sl 32 1 (.slice none 0 0) 0 []) ⟨Sl.nil _ _ _, XTouch.refl _ _, fun q hq => by cases hq⟩).add (A := sl 32 1 (.slice none 0 0) 0 []) ⟨Sl.nil _ _ _, XTouch.refl _ _, fun q hq => by cases hq⟩).pick [4, 3, 6, 7, 1, 8, 0, 2, 5]
    have H11 : St W globA.own w8 (rnA ⟨k8, some ⟨k7, 0, none⟩, nw, DA⟩ ⟨none, 0, none, 0⟩ s0 :: sl 32 1 (.slice none ([] : List UInt32).length 0) ([] : List UInt32).length (([] : List UInt32).map vU) :: [globA, blk k ocZ 35, blk k9 #[pt k8] 61]) := by
      have := St.shut H10
      rw [hs0]
      unfold rnA rnL
      simp only [List.length_replicate]
      exact this
    have hgd : Gd' nw s0 := by
      rw [hs0]
      exact ⟨by simp, by show z2 ≤ 20000; omega, by show z1 ≤ 512; omega, by show 0 + z2 ≤ 20000; omega⟩
    have hne : go opE (ftOf cur) fu (.en q.2 []) s0 ≠ .out := by
      refine go_fuel hFO fu 0 (.en q.2 []) s0 ⟨n, b, hmain, Nat.zero_le _⟩ ?_
      exact mz_lt (K := 1000000) hfu hgd.2.1
    have hsim : OcR (PE [] 0) (go opE (ftOf cur) fu (.en q.2 []) s0) (rgo opE ds fu (.en cMain []) (r0 ds z1 z2)) := by
      rw [hs0, hnw]
      exact sim_oc (sim_go (E := opE) (stack := z1) (steps := z2) lk fu hlk)
    have key := (wk_all C1 fu).en H11 hmain (Nat.zero_le _) hgd hne
    refine key.mono ?_
    intro e w9 he
    have fin : ∀ {R : Rs Rw} {po : Option Addr} {co : Nat} {w : World} {o : Oc}, rgo opE ds fu (.en cMain []) (r0 ds z1 z2) = R → R ≠ .out → ocOf R = o → St W globA.own w [globA, sl 32 1 (.slice po o.globals.length co) o.globals.length (o.globals.map vU)] → EvalK W s 64009 8002 fu ((z1 : Nat) : Int) ((z2 : Nat) : Int) (.returned (.tuple #[.agg (ocC o po co), .nilIface])) w := by
      intro R po co w o hR hRo ho H
      unfold EvalK
      rw [hl]
      have e1 : rgo opE ds fu (.en cMain []) (r0 ds ((z1 : Nat) : Int).toNat ((z2 : Nat) : Int).toNat) = R := by rw [Int.toNat_natCast, Int.toNat_natCast]; exact hR
      subst ho
      exact .inr ⟨hin, R, po, co, e1, hRo, rfl, St.post (St.shut (L := [globA, _]) (L' := []) H) 0 rfl⟩
    cases hR : go opE (ftOf cur) fu (.en q.2 []) s0 with
    | out => exact absurd hR hne
    | ok v s' =>
      rw [hR] at he hsim
      obtain ⟨rfl, po, co, H12⟩ := he
      obtain ⟨r, hr2, ⟨⟨e1, e2, -⟩, -⟩⟩ := hsim
      have H13 := rn_open H12
      refine .inl ⟨_, rfl, H13.dr fun w10 H14 => ?_⟩
      refine ⟨_, H14.ld 7 rfl (i := 0) rfl, ptr_some ⟨_, _, _, H14.ld 0 rfl (i := 1) rfl, _, bts_sl (H14.nth 2 rfl), _, H14.ld 7 rfl (i := 0) rfl, ptr_some ⟨_, _, _, H14.ld 0 rfl (i := 0) rfl, ?_⟩⟩⟩
      rintro vs rfl
      rw [bstr_ofL]
      have hw : r.words = s'.words := e1
      have ho : r.out = s'.out := e2
      refine H14.sts0 6 (n := 5) (vs := ocC ⟨true, s'.out, hd v, 0, s'.words⟩ (some ⟨k7, 0, none⟩) nw) rfl rfl rfl (oc_one _ _ _) fun w11 H15 => ?_
      refine vc20z k 0 k9 0 .nilIface (.inl ⟨_, rfl, .inl ⟨rfl, _, rfl, H15.cells 6 rfl, ?_⟩⟩)
      refine fin hr2 (fun h => by cases h) ?_ (H15.pick [5, 1])
      show Oc.mk true r.out (hd v) 0 r.words = _
      rw [hw, ho]
    | stop m s' =>
      rw [hR] at he hsim
      obtain ⟨rfl, h', y1, y2, v, H12⟩ := he
      obtain ⟨r, hr2, e1, e2⟩ := hsim
      have H13 := St.open_ (L := stL ⟨k8, some ⟨k7, 0, none⟩, nw, DA⟩ h' y1 y2 v s') H12
      refine .inr ⟨_, rfl, ?_⟩
      refine vc20 k 0 k9 0 _ (nil_false (split_false (tag_eq ⟨_, rfl, ?_⟩)))
      rintro vs rfl
      refine H13.sts0 5 (n := 5) (vs := ocZ) rfl rfl rfl ocz_one fun w10 H14 => ?_
      cases m with
      | zero =>
        refine Sx.split_of (fun h => by simp at h) (fun _ => ?_)
        refine .inl ⟨_, rfl, .inl ⟨rfl, _, rfl, H14.cells 5 rfl, ?_⟩⟩
        exact fin (po := none) (co := 0) hr2 (fun h => by cases h) rfl ((H14.add (A := sl 32 1 (.slice none 0 0) 0 []) ⟨Sl.nil _ _ _, XTouch.refl _ _, fun q hq => by cases hq⟩).pick [4, 7])
      | succ m =>
        refine Sx.split_of (fun _ => ?_) (fun h => by have := of_decide_eq_false h; omega)
        refine H14.dr fun w11 H15 => ?_
        refine ⟨_, H15.ld 6 rfl (i := 0) rfl, ptr_some ⟨_, _, _, H15.ld 0 rfl (i := 1) rfl, _, bts_sl (H15.nth 2 rfl), _, H15.ld 6 rfl (i := 0) rfl, ptr_some ⟨_, _, _, H15.ld 0 rfl (i := 0) rfl, ?_⟩⟩⟩
        rintro vs rfl
        rw [bstr_ofL]
        refine H15.sts0 5 (n := 5) (vs := ocC ⟨true, s'.out, 0, m + 1, s'.words⟩ (some ⟨k7, 0, none⟩) nw) rfl rfl rfl (oc_one _ _ _) fun w12 H16 => ?_
        refine .inl ⟨_, rfl, .inl ⟨rfl, _, rfl, H16.cells 5 rfl, ?_⟩⟩
        refine fin hr2 (fun h => by cases h) ?_ (H16.pick [4, 1])
        show Oc.mk true r.out 0 (m + 1) r.words = _
        rw [e1, e2]
end Go.Proofs.YtojogkljneonmaaGreatDoor
