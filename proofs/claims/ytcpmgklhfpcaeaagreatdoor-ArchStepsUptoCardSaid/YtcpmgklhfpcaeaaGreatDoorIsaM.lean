/- Part M: the document's decoding, walked. -/
import Derived.Test.YtcpmgklhfpcaeaaGreatDoorIsaK
namespace Go.Proofs.YtcpmgklhfpcaeaaGreatDoor
open Go.RowKit Go.XHeap
set_option linter.unusedVariables false
set_option maxRecDepth 100000

theorem post5r {Q : Ending → World → Prop} {a : Act} {W : World} {g : Nat} {b : Bool} {cs : Array Value} {v0 v1 v2 v3 v4 : Value} (hd : a.defers = []) (ht : a.tmps[2]?.getD undef = .pointer (some ⟨g, 0, none⟩)) (h3 : a.tmps[3]?.getD undef = .bool b) (hB : Blk W g cs 92)
    (hcs : cs = #[v0, v1, v2, v3, v4]) (hQ : Q (.returned (.tuple #[.agg #[v0, v1, v2, v3, v4], .bool b])) W) : bodyPost Tryz.prog Tryz.f80 Q .ret a W := by
  subst hcs
  have k0 : W.cell? ⟨g, 0, none⟩ = some v0 := hB.cell' (i := 0) rfl
  have k1 : W.cell? ⟨g, 1, none⟩ = some v1 := hB.cell' (i := 1) rfl
  have k2 : W.cell? ⟨g, 2, none⟩ = some v2 := hB.cell' (i := 2) rfl
  have k3 : W.cell? ⟨g, 3, none⟩ = some v3 := hB.cell' (i := 3) rfl
  have k4 : W.cell? ⟨g, 4, none⟩ = some v4 := hB.cell' (i := 4) rfl
  clear hB
  exact bodyPost_ret (v := .tuple #[.agg #[v0, v1, v2, v3, v4], .bool b]) (by simp [results, Tryz.results80, go_sem, ht, h3, k0, k1, k2, k3, k4]) hd hQ
set_option maxRecDepth 20000 in
set_option maxHeartbeats 500000 in
theorem rdecode_any (x : Int) (hx0 : 0 ≤ x) (hx1 : x < 4294967296) (w : World) : Calls Tryz.prog 80 #[.int .u32 x] w (DecIs x (fun op => fieldsT (rF op) x) w) := by
  have HB0 := Lib.hid (Blk.new w #[.int .i64 0, .int .i64 0, .int .i64 0, .int .i64 0, .int .i64 0] 92)
  have HG0 := Lib.hid ((Grown.refl w).alloc #[.int .i64 0, .int .i64 0, .int .i64 0, .int .i64 0, .int .i64 0] 92)
  go_enter Tryz.func80, Tryz.ntmps80
  go_wp2_with fail
  generalize w.alloc (.cells #[.int .i64 0, .int .i64 0, .int .i64 0, .int .i64 0, .int .i64 0] 92) = W at *
  refine (rows_made W).mono ?_
  rintro e W1 ⟨b, rfl, hR, hGR⟩
  have HR := Lib.hid hR; have HGR := Lib.hid hGR
  clear hR hGR
  go_wp2_with fail
  go_loopw [5] (fun i wr => ∃ k : Nat, k ≤ 67 ∧ i = .int .i64 k ∧ Grown W1 wr ∧ ∀ op : Int, 1 ≤ op → op ≤ k → ¬ Mt op x) (fun i _ => 67 - (intOf i).toNat)
  case atStart => exact ⟨0, by omega, rfl, Grown.refl _, fun op h1 h2 => by omega⟩
  case round =>
    obtain ⟨k, hkl, rfl, hg, hno⟩ := hrel
    have HG := Lib.hid hg; have HN := Lib.hid hno
    clear hg hno
    by_cases hlt : k < 67
    · have hr := HR.out ((k : Int) + 1) (by omega) (by omega)
      rw [show ((k : Int) + 1).toNat - 1 = k by omega] at hr
      obtain ⟨q0, q1, q2, q3, q4⟩ := hr
      replace q0 := grown_cell HG.out q0
      replace q1 := grown_cell HG.out q1
      replace q2 := grown_cell HG.out q2
      replace q3 := grown_cell HG.out q3
      replace q4 := grown_cell HG.out q4
      by_cases hm : Mt ((k : Int) + 1) x
      · have hm' : (bits .and .u32 x (shP ((k : Int) + 1)).2.1 == (shP ((k : Int) + 1)).2.2) = true := by simpa [Mt] using hm
        have HM1 := Lib.hid hm
        clear hm
        go_wp2_with fail
        refine (fixed_op ((k : Int) + 1) (by omega) (by omega) _).mono ?_
        rintro e w1 ⟨rfl, hG1⟩
        have HG1 := Lib.hid hG1
        replace q0 := grown_cell hG1 q0
        replace q1 := grown_cell hG1 q1
        replace q2 := grown_cell hG1 q2
        replace q3 := grown_cell hG1 q3
        replace q4 := grown_cell hG1 q4
        clear hG1
        go_wp2_with fail
        refine (fields_op ((k : Int) + 1) (by omega) (by omega) x hx0 hx1 _).mono ?_
        rintro e w2 ⟨rfl, hG2⟩
        have HG2 := Lib.hid hG2
        have hB2 := blk_grown (blk_grown (blk_grown (blk_grown HB0.out HGR.out) HG.out) HG1.out) HG2.out
        clear hG2 q0 q1 q2 q3 q4
        have hlt2 := hB2.lt
        have hne : w.heap.size ≠ w2.heap.size := by omega
        have HL := Lib.hid (Nat.le_of_lt hlt2)
        have HNE := Lib.hid hne
        have HGG := Lib.hid (grown_trans HG0.out (grown_trans HGR.out (grown_trans HG.out (grown_trans HG1.out HG2.out))))
        unfold ins
        have k0 : w2.cell? ⟨w.heap.size, 0, none⟩ = some (.int .i64 0) := hB2.cell' (i := 0) rfl
        have k1 : w2.cell? ⟨w.heap.size, 1, none⟩ = some (.int .i64 0) := hB2.cell' (i := 1) rfl
        have k2 : w2.cell? ⟨w.heap.size, 2, none⟩ = some (.int .i64 0) := hB2.cell' (i := 2) rfl
        have k3 : w2.cell? ⟨w.heap.size, 3, none⟩ = some (.int .i64 0) := hB2.cell' (i := 3) rfl
        have k4 : w2.cell? ⟨w.heap.size, 4, none⟩ = some (.int .i64 0) := hB2.cell' (i := 4) rfl
        have zf := hB2.frozen
        have HB2 := Lib.hid hB2
        clear hB2
        go_wp2
        apply post5r (b := true) (v0 := .int .i64 ((k : Int) + 1)) (v1 := .int .i64 (fieldsT (rF ((k : Int) + 1)) x).1) (v2 := .int .i64 (fieldsT (rF ((k : Int) + 1)) x).2.1) (v3 := .int .i64 (fieldsT (rF ((k : Int) + 1)) x).2.2.1) (v4 := .int .i64 (fieldsT (rF ((k : Int) + 1)) x).2.2.2)
        case hd => rfl
        case ht => rfl
        case h3 => rfl
        case hB => repeat (first | with_reducible apply Blk.set | with_reducible refine Blk.set_ne ?_ _ _ HNE.out | with_reducible apply Blk.drewN | with_reducible exact HB2.out | with_reducible apply Blk.alloc)
        case hcs => simp
        case hQ =>
          refine ⟨.inl ⟨_, by omega, by omega, HM1.out, rfl⟩, ?_⟩
          repeat (first | with_reducible refine Grown.setCell ?_ (Nat.le_refl _) _ | with_reducible refine Grown.setCell ?_ HL.out _ | with_reducible refine Grown.alloc ?_ _ _)
          exact HGG.out
      · have hm' : (bits .and .u32 x (shP ((k : Int) + 1)).2.1 == (shP ((k : Int) + 1)).2.2) = false := by simpa [Mt] using hm
        have HM1 := Lib.hid hm
        clear hm
        go_wp2_with fail
        refine (fixed_op ((k : Int) + 1) (by omega) (by omega) _).mono ?_
        rintro e w1 ⟨rfl, hG1⟩
        have HG1 := Lib.hid hG1
        clear hG1 q0 q1 q2 q3 q4
        go_wp2
        go_roundw
        case rel => exact ⟨k + 1, by omega, by go_num, grown_trans HG.out HG1.out, fun op h1 h2 hM => by
            by_cases ho : op ≤ k
            · exact HN.out op h1 ho hM
            · obtain rfl : op = (k : Int) + 1 := by omega
              exact HM1.out hM⟩
        case measure => simp [intOf]; omega
    · have hB2 := blk_grown (blk_grown HB0.out HGR.out) HG.out
      have HGG := Lib.hid (grown_trans HG0.out (grown_trans HGR.out HG.out))
      have k0 : wr.cell? ⟨w.heap.size, 0, none⟩ = some (.int .i64 0) := hB2.cell' (i := 0) rfl
      have k1 : wr.cell? ⟨w.heap.size, 1, none⟩ = some (.int .i64 0) := hB2.cell' (i := 1) rfl
      have k2 : wr.cell? ⟨w.heap.size, 2, none⟩ = some (.int .i64 0) := hB2.cell' (i := 2) rfl
      have k3 : wr.cell? ⟨w.heap.size, 3, none⟩ = some (.int .i64 0) := hB2.cell' (i := 3) rfl
      have k4 : wr.cell? ⟨w.heap.size, 4, none⟩ = some (.int .i64 0) := hB2.cell' (i := 4) rfl
      have zf := hB2.frozen
      have HB2 := Lib.hid hB2
      clear hB2
      go_wp2
      apply post5r (b := false) (v0 := .int .i64 0) (v1 := .int .i64 0) (v2 := .int .i64 0) (v3 := .int .i64 0) (v4 := .int .i64 0)
      case hd => rfl
      case ht => rfl
      case h3 => rfl
      case hB => repeat (first | with_reducible apply Blk.set | with_reducible apply Blk.drewN | with_reducible exact HB2.out)
      case hcs => simp
      case hQ =>
        refine ⟨.inr ⟨fun op h1 h2 hM => HN.out op h1 (by omega) hM, rfl⟩, ?_⟩
        repeat (with_reducible refine Grown.setCell ?_ (Nat.le_refl _) _)
        exact HGG.out
end Go.Proofs.YtcpmgklhfpcaeaaGreatDoor
