/- Part J: the program's decoding, walked. -/
import Derived.Test.YtcpmgklhfpcaeaaGreatDoorIsaI
namespace Go.Proofs.YtcpmgklhfpcaeaaGreatDoor
open Go.RowKit Go.XHeap
set_option linter.unusedVariables false
set_option maxRecDepth 100000

def insT (op : Int) (t : Int × Int × Int × Int) : Value := ins op t.1 t.2.1 t.2.2.1 t.2.2.2
def Dec (x : Int) (T : Int → Int × Int × Int × Int) (e : Ending) : Prop :=
  (∃ op, 1 ≤ op ∧ op ≤ 67 ∧ Mt op x ∧ e = .returned (.tuple #[insT op (T op), .bool true])) ∨ ((∀ op, 1 ≤ op → op ≤ 67 → ¬ Mt op x) ∧ e = .returned (.tuple #[ins 0 0 0 0 0, .bool false]))
def DecIs (x : Int) (T : Int → Int × Int × Int × Int) (w : World) (e : Ending) (w' : World) : Prop := Dec x T e ∧ Grown w w'
theorem post5d {Q : Ending → World → Prop} {a : Act} {W : World} {g : Nat} {b : Bool} {cs : Array Value} {v0 v1 v2 v3 v4 : Value} (hd : a.defers = []) (ht : a.tmps[2]?.getD undef = .pointer (some ⟨g, 0, none⟩)) (h3 : a.tmps[3]?.getD undef = .bool b) (hB : Blk W g cs 83)
    (hcs : cs = #[v0, v1, v2, v3, v4]) (hQ : Q (.returned (.tuple #[.agg #[v0, v1, v2, v3, v4], .bool b])) W) : bodyPost Tryz.prog Tryz.f31 Q .ret a W := by
  subst hcs
  have k0 : W.cell? ⟨g, 0, none⟩ = some v0 := hB.cell' (i := 0) rfl
  have k1 : W.cell? ⟨g, 1, none⟩ = some v1 := hB.cell' (i := 1) rfl
  have k2 : W.cell? ⟨g, 2, none⟩ = some v2 := hB.cell' (i := 2) rfl
  have k3 : W.cell? ⟨g, 3, none⟩ = some v3 := hB.cell' (i := 3) rfl
  have k4 : W.cell? ⟨g, 4, none⟩ = some v4 := hB.cell' (i := 4) rfl
  clear hB
  exact bodyPost_ret (v := .tuple #[.agg #[v0, v1, v2, v3, v4], .bool b]) (by simp [results, Tryz.results31, go_sem, ht, h3, k0, k1, k2, k3, k4]) hd hQ
theorem list_at {w : World} (hC : CodeAt w 1 codeL) (k : Nat) (hk : k < 128) : ∃ ao cap, w.cell? ⟨1, k, none⟩ = some (.slice ao (codeL.getD k []).length cap) ∧ (codeL.getD k []).length ≤ 67 ∧
    ∀ i n, (codeL.getD k [])[i]? = some n → ∃ b off, ao = some ⟨b, off, none⟩ ∧ w.cell? ⟨b, off + i, none⟩ = some (.int .i64 n) := by
  have hg : codeL[k]? = some (codeL.getD k []) := by
    rw [List.getD_eq_getElem?_getD, List.getElem?_eq_getElem (by rw [code_len]; exact hk)]; rfl
  have hl : (codeL.getD k []).length ≤ 67 := by
    have h : (codeL.all fun l => decide (l.length ≤ 67)) = true := by kernel_rfl
    have := List.all_eq_true.1 h _ (List.mem_of_getElem? hg)
    simpa using this
  have h := hC k _ hg
  generalize codeL.getD k [] = l at *
  by_cases he : l = []
  · subst he
    exact ⟨none, 0, h.1 rfl, hl, fun i n hi => by simp at hi⟩
  · obtain ⟨b, off, cap, h1, h2⟩ := h.2 he
    exact ⟨some ⟨b, off, none⟩, cap, h1, hl, fun i n hi => ⟨b, off, rfl, h2 i n hi⟩⟩
set_option maxRecDepth 20000 in
set_option maxHeartbeats 500000 in
theorem decode_any (x : Int) (hx0 : 0 ≤ x) (hx1 : x < 4294967296) (w : World) (hT : Tab w) (hC : CodeAt w 1 codeL) : Calls Tryz.prog 31 #[.int .u32 x] w (DecIs x (fun op => readT (shP op).1 x) w) := by
  obtain ⟨kk, hkk⟩ : ∃ kk : Nat, x.toNat % 128 = kk := ⟨_, rfl⟩
  have hk : kk < 128 := by omega
  obtain ⟨ao, cap, c0, hlen, hel⟩ := list_at hC kk hk
  have hb : bits .and .u32 x 127 = (kk : Int) := by
    have := u32_and x 127 hx0 hx1 (by decide) (by decide)
    rw [this]
    have e : x.toNat &&& (127 : Int).toNat = x.toNat % 128 := nat_mask7 _
    rw [e, hkk]
  have hcode : ∀ op, op ∈ codeL.getD kk [] → 1 ≤ op ∧ op ≤ 67 := fun op h => code_ops h
  have hmt : ∀ op, 1 ≤ op → op ≤ 67 → Mt op x → op ∈ codeL.getD kk [] := fun op h1 h2 h => hkk ▸ mt_code h1 h2 hx0 hx1 h
  have g0 : 1 < w.heap.size := World.block_lt_of_cell? _ _ c0
  generalize codeL.getD kk [] = l at *
  have HEL := Lib.hid hel; have HC := Lib.hid hcode; have HM := Lib.hid hmt; have HT := Lib.hid hT
  have HB0 := Lib.hid (Blk.new w #[.int .i64 0, .int .i64 0, .int .i64 0, .int .i64 0, .int .i64 0] 83)
  have HG0 := Lib.hid ((Grown.refl w).alloc #[.int .i64 0, .int .i64 0, .int .i64 0, .int .i64 0, .int .i64 0] 83)
  clear hel hcode hmt hT hkk hC
  go_enter Tryz.func31, Tryz.ntmps31
  go_wp2_with fail
  generalize w.alloc (.cells #[.int .i64 0, .int .i64 0, .int .i64 0, .int .i64 0, .int .i64 0] 83) = W at *
  go_loopw [12] (fun i wr => ∃ k : Nat, k ≤ l.length ∧ i = .int .i64 k ∧ Grown W wr ∧ ∀ j n, j < k → l[j]? = some n → ¬ Mt n x) (fun i _ => l.length - (intOf i).toNat)
  case atStart => exact ⟨0, by omega, rfl, Grown.refl _, fun j n hj => by omega⟩
  case round =>
    obtain ⟨k, hkl, rfl, hg, hno⟩ := hrel
    have HG := Lib.hid hg; have HN := Lib.hid hno
    clear hg hno
    by_cases hlt : k < l.length
    · obtain ⟨n, hn⟩ : ∃ n, l[k]? = some n := ⟨_, List.getElem?_eq_getElem hlt⟩
      obtain ⟨b, off, rfl, ce⟩ := HEL.out k n hn
      have cR := grown_cell HG.out (grown_cell HG0.out ce)
      have hmem := HC.out n (List.mem_of_getElem? hn)
      have HN1 := Lib.hid hn
      clear ce hn
      obtain ⟨n1, n2⟩ := hmem
      by_cases hm : Mt n x
      · have hm' : (bits .and .u32 x (shP n).2.1 == (shP n).2.2) = true := by simpa [Mt] using hm
        have HM1 := Lib.hid hm
        clear hm
        go_wp2_with fail
        refine (shaped_any n (by omega) (by omega) _ (HT.out.grown (grown_trans HG0.out HG.out))).mono ?_
        rintro e w1 ⟨rfl, hG1⟩
        have HG1 := Lib.hid hG1
        clear hG1
        go_wp2_with fail
        refine (read_any n n1 n2 x hx0 hx1 _).mono ?_
        rintro e w2 ⟨rfl, hG2⟩
        have HG2 := Lib.hid hG2
        have HGG := Lib.hid (grown_trans HG0.out (grown_trans HG.out (grown_trans (HG1.out.alloc _ _) HG2.out)))
        unfold ins
        have hB2 := blk_grown ((blk_grown (blk_grown HB0.out HG.out) HG1.out).alloc _) HG2.out
        clear hG2
        have k0 : w2.cell? ⟨w.heap.size, 0, none⟩ = some (.int .i64 0) := hB2.cell' (i := 0) rfl
        have k1 : w2.cell? ⟨w.heap.size, 1, none⟩ = some (.int .i64 0) := hB2.cell' (i := 1) rfl
        have k2 : w2.cell? ⟨w.heap.size, 2, none⟩ = some (.int .i64 0) := hB2.cell' (i := 2) rfl
        have k3 : w2.cell? ⟨w.heap.size, 3, none⟩ = some (.int .i64 0) := hB2.cell' (i := 3) rfl
        have k4 : w2.cell? ⟨w.heap.size, 4, none⟩ = some (.int .i64 0) := hB2.cell' (i := 4) rfl
        have zf := hB2.frozen
        have HB2 := Lib.hid hB2
        clear hB2
        go_wp2
        apply post5d (b := true) (v0 := .int .i64 n) (v1 := .int .i64 (readT (shP n).1 x).1) (v2 := .int .i64 (readT (shP n).1 x).2.1) (v3 := .int .i64 (readT (shP n).1 x).2.2.1) (v4 := .int .i64 (readT (shP n).1 x).2.2.2)
        case hd => rfl
        case ht => rfl
        case h3 => rfl
        case hB => repeat (first | with_reducible apply Blk.set | with_reducible apply Blk.drewN | with_reducible exact HB2.out)
        case hcs => simp
        case hQ =>
          refine ⟨.inl ⟨n, n1, n2, HM1.out, rfl⟩, ?_⟩
          repeat (with_reducible refine Grown.setCell ?_ (Nat.le_refl _) _)
          exact HGG.out
      · have hm' : (bits .and .u32 x (shP n).2.1 == (shP n).2.2) = false := by simpa [Mt] using hm
        have HM1 := Lib.hid hm
        clear hm
        go_wp2_with fail
        refine (shaped_any n (by omega) (by omega) _ (HT.out.grown (grown_trans HG0.out HG.out))).mono ?_
        rintro e w1 ⟨rfl, hG1⟩
        have HG1 := Lib.hid hG1
        clear hG1
        go_wp2
        go_roundw
        case rel => exact ⟨k + 1, by omega, by go_num, (grown_trans HG.out HG1.out).alloc _ _, fun j m hj hjm => by
            rcases Nat.lt_succ_iff_lt_or_eq.1 hj with h | rfl
            · exact HN.out j m h hjm
            · obtain rfl := Option.some.inj (HN1.out.symm.trans hjm); exact HM1.out⟩
        case measure => simp [intOf]; omega
    · have hB2 := blk_grown HB0.out HG.out
      have HGG := Lib.hid (grown_trans HG0.out HG.out)
      have k0 : wr.cell? ⟨w.heap.size, 0, none⟩ = some (.int .i64 0) := hB2.cell' (i := 0) rfl
      have k1 : wr.cell? ⟨w.heap.size, 1, none⟩ = some (.int .i64 0) := hB2.cell' (i := 1) rfl
      have k2 : wr.cell? ⟨w.heap.size, 2, none⟩ = some (.int .i64 0) := hB2.cell' (i := 2) rfl
      have k3 : wr.cell? ⟨w.heap.size, 3, none⟩ = some (.int .i64 0) := hB2.cell' (i := 3) rfl
      have k4 : wr.cell? ⟨w.heap.size, 4, none⟩ = some (.int .i64 0) := hB2.cell' (i := 4) rfl
      have zf := hB2.frozen
      have HB2 := Lib.hid hB2
      clear hB2
      go_wp2
      apply post5d (b := false) (v0 := .int .i64 0) (v1 := .int .i64 0) (v2 := .int .i64 0) (v3 := .int .i64 0) (v4 := .int .i64 0)
      case hd => rfl
      case ht => rfl
      case h3 => rfl
      case hB => repeat (first | with_reducible apply Blk.set | with_reducible apply Blk.drewN | with_reducible exact HB2.out)
      case hcs => simp
      case hQ =>
        refine ⟨.inr ⟨fun op h1 h2 hM => by
        have hmem := HM.out op h1 h2 hM
        obtain ⟨j, hj, hje⟩ := List.getElem_of_mem hmem
        exact HN.out j op (by omega) (by rw [List.getElem?_eq_getElem hj, hje]) hM, rfl⟩, ?_⟩
        repeat (with_reducible refine Grown.setCell ?_ (Nat.le_refl _) _)
        exact HGG.out
end Go.Proofs.YtcpmgklhfpcaeaaGreatDoor
