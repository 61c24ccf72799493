/- The bus, part C: settle, Tick. No condition. -/
import Derived.Test.YthacioiefgabbaaGreatDoorBusB
namespace Go.Proofs.YthacioiefgabbaaGreatDoor.cbus
open Go.RowKit Go.XHeap Go.Sx Go.Sep
set_option linter.unusedVariables false
set_option maxRecDepth 100000
structure Sn where
  core : Nat
  addr : Nat
  from_ : Nat
  to : Nat
def Sn.cells (s : Sn) : List Value := [.int .i64 (s.core : Nat), .int .u32 (s.addr : Nat), .int .i64 (s.from_ : Nat), .int .i64 (s.to : Nat)]
def outA (p : Option Addr) (c : Nat) (l : List Sn) : Asn := sl 231 4 (.slice p l.length c) l.length (l.flatMap Sn.cells)
structure LS where
  S : PB
  out : List Sn
  mine : Nat
def othS (w : Bool) : Nat := if w then 0 else 1
/-- another core's cache in a transaction -/
def LS.step (core a : Nat) (w : Bool) (X : LS) (k : Nat) : LS :=
  if k = core ∨ (X.S.C k).stateAt a = 0 then X
  else if othS w < (X.S.C k).stateAt a then
    ⟨{ X.S.setC k ((X.S.C k).lowN a (othS w)) with mem := keepM X.S.mem ((X.S.C k).lowY a (othS w)) }, X.out ++ [⟨k, a, (X.S.C k).stateAt a, othS w⟩], if w then X.mine else 1⟩
  else { X with mine := if w then X.mine else 1 }
def LS.run (core a : Nat) (w : Bool) (S : PB) : Nat → LS
  | 0 => ⟨S, [], 2⟩
  | k + 1 => (LS.run core a w S k).step core a w k
variable {W w : World} {b m : Nat} {B : BP} {S S' : PB} {L : List Asn}
/-- what stays -/
structure Same (S S' : PB) : Prop where
  n : S'.Cs.length = S.Cs.length
  len : S'.len = S.len
  cyc : S'.cyc = S.cyc
  asks : S'.asks = S.asks
  last : S'.last = S.last
  now : S'.now = S.now
  left : S'.left = S.left
theorem Same.refl (S : PB) : Same S S := ⟨rfl, rfl, rfl, rfl, rfl, rfl, rfl⟩
theorem Same.trans {S S' S'' : PB} (h : Same S S') (h' : Same S' S'') : Same S S'' := ⟨h'.n.trans h.n, h'.len.trans h.len, h'.cyc.trans h.cyc, h'.asks.trans h.asks, h'.last.trans h.last, h'.now.trans h.now, h'.left.trans h.left⟩
/-- a cache is another one, and memory keeps a line -/
def PB.move (S : PB) (k : Nat) (C : CS) (y : Way) : PB := { S.setC k C with mem := keepM S.mem y }
theorem move_same {k : Nat} {C : CS} {y : Way} (hy : y.Ok) (hl : y.state ≠ 0 → LineOk S.len y.line) : Same S (S.move k C y) :=
  ⟨List.length_set, keepM_len hy hl, rfl, rfl, rfl, rfl, rfl⟩
theorem move_ok (ho : S.Ok m) {k : Nat} (hk : k < S.Cs.length) {C : CS} {m' : Nat} (hm : m ≤ m') (hC : C.Good S.len m') {y : Way} (hy : y.Ok) (hl : y.state ≠ 0 → LineOk S.len y.line) : (S.move k C y).Ok m' := by
  have h1 := setC_ok ho hk hm hC
  have e : (S.move k C y).len = S.len := keepM_len hy hl
  exact ⟨h1.n, fun j hj => by rw [e]; exact h1.cs j hj, by rw [e]; exact ho.l16, by rw [e]; exact ho.len, keepM_byte hy ho.byte, ho.cyc, fun j a w h => by rw [e]; exact h1.asks j a w h, h1.last, h1.now, ho.left⟩
theorem step_def (core a : Nat) (wr : Bool) (X : LS) (k : Nat) : X.step core a wr k =
  if k = core ∨ (X.S.C k).stateAt a = 0 then X
  else if othS wr < (X.S.C k).stateAt a then ⟨X.S.move k ((X.S.C k).lowN a (othS wr)) ((X.S.C k).lowY a (othS wr)), X.out ++ [⟨k, a, (X.S.C k).stateAt a, othS wr⟩], if wr then X.mine else 1⟩
  else { X with mine := if wr then X.mine else 1 } := rfl
structure LS.Ok (X : LS) (S : PB) (m k : Nat) : Prop where
  ok : X.S.Ok m
  same : Same S X.S
  out : X.out.length ≤ k
  mine : X.mine = 1 ∨ X.mine = 2
theorem oth_le (wr : Bool) : othS wr ≤ 1 := by unfold othS; split <;> omega
theorem run_ok (ho : S.Ok m) (core a : Nat) (wr : Bool) : ∀ k, k ≤ S.Cs.length → (LS.run core a wr S k).Ok S m k
  | 0, _ => ⟨ho, Same.refl S, Nat.le_refl _, .inr rfl⟩
  | k + 1, hk => by
    have ih := run_ok ho core a wr k (by omega)
    show ((LS.run core a wr S k).step core a wr k).Ok S m (k + 1)
    generalize LS.run core a wr S k = X at ih
    have hkx : k < X.S.Cs.length := by rw [ih.same.n]; omega
    have hmine : (if wr then X.mine else 1) = 1 ∨ (if wr then X.mine else 1) = 2 := by
      cases wr
      · exact .inl rfl
      · exact ih.mine
    rw [step_def]
    split
    · exact ⟨ih.ok, ih.same, by have := ih.out; omega, ih.mine⟩
    · split
      · have hg := ih.ok.cs k hkx
        obtain ⟨h1, h2⟩ := lowY_ok hg a (othS wr)
        exact ⟨move_ok ih.ok hkx (Nat.le_refl _) (lowN_good hg a _ (by have := oth_le wr; omega)) h1 h2, ih.same.trans (move_same h1 h2), by have := ih.out; simp; omega, hmine⟩
      · exact ⟨ih.ok, ih.same, by have := ih.out; show X.out.length ≤ k + 1; omega, hmine⟩
/-- behind the loop -/
def PB.done (S : PB) (core a : Nat) (wr : Bool) : LS :=
  let X := LS.run core a wr S S.Cs.length
  let C1 := (X.S.C core).lowN a 0
  let g := C1.goneOf a
  ⟨X.S.move core (C1.fillN a ((X.S.mem.drop (a - 65536)).take 16) X.mine) g, (if g.state ≠ 0 then X.out ++ [⟨core, g.line, g.state, 0⟩] else X.out) ++ [⟨core, a, (X.S.C core).stateAt a, X.mine⟩], X.mine⟩
theorem done_ok (ho : S.Ok m) (hm : m + 1 < 4611686018427387904) {core a : Nat} (hk : core < S.Cs.length) (hl : LineOk S.len a) (wr : Bool) : (S.done core a wr).Ok S (m + 1) (S.Cs.length + 2) := by
  have hr := run_ok ho core a wr S.Cs.length (Nat.le_refl _)
  unfold PB.done
  generalize LS.run core a wr S S.Cs.length = X at hr
  dsimp only
  have hkx : core < X.S.Cs.length := by rw [hr.same.n]; exact hk
  have hg := lowN_good (hr.ok.cs core hkx) a 0 (by omega)
  obtain ⟨h1, h2⟩ := goneOf_ok hg a
  have hlen := hr.ok.len
  have hlx : LineOk X.S.len a := by rw [hr.same.len]; exact hl
  have hl2 := hlx
  unfold LineOk at hl2
  unfold PB.len at hl2 hlen
  refine ⟨move_ok hr.ok hkx (Nat.le_succ _) (fillN_good hg hm (by omega) hlx (by simp; omega) (fun x hx => hr.ok.byte x (List.mem_of_mem_drop (List.mem_of_mem_take hx))) (by have := hr.mine; omega)) h1 h2, hr.same.trans (move_same h1 h2), ?_, hr.mine⟩
  have := hr.out
  split <;> simp <;> omega
/-! ### pieces -/
theorem snoop_one (x : Sn) : ∀ v ∈ x.cells, v.oneCell' = true := by
  intro v hv
  simp only [Sn.cells, List.mem_cons, List.not_mem_nil, or_false] at hv
  rcases hv with rfl | rfl | rfl | rfl <;> rfl
/-- memory keeps a line: the bus then -/
def PB.keepN (S : PB) (y : Way) : PB := { S with mem := keepM S.mem y }
theorem bkeep_any (hA : (busA b B S).at_ W) (ho : S.len ≤ 4096) {y : Way} (hy : y.Ok) (hL : y.state ≠ 0 → LineOk S.len y.line) :
    Calls Tryz.prog 82 #[.pointer (some ⟨b, 0, none⟩), .agg y.lineC.toArray] W fun e w => e = .returned (.tuple #[]) ∧ Sep.Post (busA b B S) W (busA b B (S.keepN y)) w := by
  have H := bus_open hA
  refine (keep_any (H.blk 0 rfl) rfl (H.nth 4 rfl) (fun e => (Sep.St.disj (bus_at hA) 0 4 (by decide) rfl rfl b rfl) e) ho hy hL).mono ?_
  rintro e w ⟨rfl, hp⟩
  refine ⟨rfl, bus_shut (L := []) ?_⟩
  have e2 : (S.keepN y).len = S.len := keepM_len hy hL
  unfold BP.pieces BP.root
  rw [e2]
  exact H.upd 4 rfl hp
theorem bstate_of (hA : (busA b B S).at_ W) (hB : B.gs.length = S.Cs.length) {k : Nat} (hk : k < S.Cs.length) : (cacheA (B.gs.getD k 0) (S.C k)).at_ W := ((bus_open hA).nth 2 rfl).nth k (caches_at hB hk)
theorem snoop_app {M : Nat → Prop} (H : St W M w L) (k : Nat) {p : Option Addr} {c : Nat} {out : List Sn} (hk : L[k]? = some (outA p c out)) (x : Sn) (hlen : out.length ≤ 100) {φ : Option Addr → Nat → World → Prop}
    (hq : ∀ p' c' w', St W M w' (L.set k (outA p' c' (out ++ [x]))) → φ p' c' w') : ∀ vs : Array Value, vs = x.cells.toArray → vs.size = 4 ∧ ∀ (kb : Nat) (wb : World), kb = w.heap.size → wb = w.alloc (.cells (vs.toList ++ []).toArray 231) →
      ∃ olds news : List Value, Sl wb 231 4 (.slice p out.length c) out.length olds ∧ (((1 : Nat) = (0 : Nat) ∧ some (⟨kb, 0, none⟩ : Addr) = none) ∨ ∃ a, some (⟨kb, 0, none⟩ : Addr) = some a ∧ ∀ j u, news[j]? = some u → wb.cell? (a.add j) = some u) ∧ news.length = 4 ∧ (∀ u ∈ news, u.oneCell' = true) ∧ out.length + 1 ≤ maxLen ∧ (out.length + 1) * 32 ≤ 140737488355328 ∧
      ∀ (p' : Option Addr) (c' : Nat) (w' : World), Sl w' 231 4 (.slice p' (out.length + 1) c') (out.length + 1) (olds ++ news) → XTouch (fun b => (Value.slice p out.length c).ownBlock = some b) wb w' → (∀ b, (Value.slice p' (out.length + 1) c').ownBlock = some b → (Value.slice p out.length c).ownBlock = some b ∨ wb.heap.size ≤ b) → Sl w' 231 4 (.slice p out.length c) out.length olds → ((p' = p ∧ c' = c) ∨ ((NilP p ∨ c < out.length + 1) ∧ ∀ b, (Value.slice p' (out.length + 1) c').ownBlock = some b → wb.heap.size ≤ b)) → φ p' c' w' := by
  rintro vs rfl
  have hkl : k < L.length := (List.getElem?_eq_some_iff.1 hk).1
  refine ⟨rfl, H.al fun kb wb H => ?_⟩
  have hk2 : (L ++ [blk kb (x.cells.toArray.toList ++ []).toArray 231])[k]? = some (outA p c out) := by rw [List.getElem?_append_left hkl]; exact hk
  have hk3 : (L ++ [blk kb (x.cells.toArray.toList ++ []).toArray 231])[L.length]? = some (blk kb (x.cells.toArray.toList ++ []).toArray 231) := by simp
  refine H.app k (m := 1) (bytes := 32) hk2 x.cells (.inr ⟨_, rfl, fun j u hj => H.cells L.length hk3 j u (by simpa using hj)⟩) rfl (snoop_one x) (by have : maxLen = 2 ^ 63 - 1 := rfl; omega) (by omega) fun p' c' w' H => hq p' c' w' ?_
  have H : St W M w' ((L ++ [blk kb (x.cells.toArray.toList ++ []).toArray 231]).set k (sl 231 4 (.slice p' (out.length + 1) c') (out.length + 1) (out.flatMap Sn.cells ++ x.cells))) := H
  rw [List.set_append_left _ _ hkl] at H
  have H := H.sub
  have e : outA p' c' (out ++ [x]) = sl 231 4 (.slice p' (out.length + 1) c') (out.length + 1) (out.flatMap Sn.cells ++ x.cells) := by
    unfold outA
    simp
  rw [e]
  exact H
theorem lowN_no {C : CS} {a s : Nat} (h : ¬ s < C.stateAt a) : C.lowN a s = C := by
  unfold CS.lowN
  split
  · rw [if_neg h]
  · rfl
theorem setC_self {k : Nat} (hk : k < S.Cs.length) : S.setC k (S.C k) = S := by
  unfold PB.setC PB.C
  have : S.Cs.set k (S.Cs.getD k noCS) = S.Cs := by
    rw [List.getD_eq_getElem?_getD, List.getElem?_eq_getElem hk]
    exact List.set_getElem_self hk
  rw [this]
theorem run_line (ho : S.Ok m) (core a : Nat) (wr : Bool) {k : Nat} (hk : k ≤ S.Cs.length) (hl : LineOk S.len a) : LineOk (LS.run core a wr S k).S.len a := by
  rw [(run_ok ho core a wr k hk).same.len]; exact hl
theorem settle_any (hA : (busA b B S).at_ W) (ho : S.Ok m) (hm : m + 1 < 4611686018427387904) (hB : B.gs.length = S.Cs.length) {core a : Nat} (hk : core < S.Cs.length) (hl : LineOk S.len a) (wr : Bool) :
    Calls Tryz.prog 72 #[.pointer (some ⟨b, 0, none⟩), .int .i64 core, .agg #[.int .u32 a, .bool wr]] W fun e w => ∃ z : Option Addr × Nat, e = .returned (.slice z.1 (S.done core a wr).out.length z.2) ∧ Sep.Post (busA b B S) W (all [busA b B (S.done core a wr).S, outA z.1 z.2 (S.done core a wr).out]) w := by
  have hn := ho.n
  have hlen := ho.len
  have hl2 := hl
  unfold LineOk at hl2
  have ha : a < 4294967296 := by omega
  have ha16 : a % 16 = 0 := hl2.1
  refine vc72 b 0 core _ ((St.begin hA).al fun ka w2 H => ?_)
  have H : St W (busA b B S).own w2 [busA b B S, blk ka #[.int .u32 a, .bool wr] 227] := H
  refine ⟨fun x w => x = (othS wr : Nat) ∧ St W (busA b B S).own w [busA b B S, blk ka #[.int .u32 a, .bool wr] 227], ⟨wr, H.ld 1 rfl rfl, split_of (fun q => ⟨by simp at q; rw [q]; rfl, H⟩) (fun q => ⟨by simp at q; rw [q]; rfl, H⟩)⟩, fun _ => ?_⟩
  clear H
  rintro x w3 ⟨rfl, H⟩
  have hB0 := hB
  refine ⟨fun x8 x9 k17 k18 w => x8 = ((LS.run core a wr S S.Cs.length).mine : Nat) ∧ k17 = (LS.run core a wr S S.Cs.length).out.length ∧ St W (busA b B S).own w [busA b B (LS.run core a wr S S.Cs.length).S, blk ka #[.int .u32 a, .bool wr] 227, outA x9 k18 (LS.run core a wr S S.Cs.length).out], ?_, fun _ => ?_⟩
  · refine ⟨_, _, _, ((bus_open (H.nth 0 rfl)).ld 0 rfl rfl), ?_⟩
    refine ⟨fun x2 x3 k4 k5 x4 w => ∃ k : Nat, x2 = k ∧ k ≤ S.Cs.length ∧ x4 = ((LS.run core a wr S k).mine : Nat) ∧ k4 = (LS.run core a wr S k).out.length ∧ St W (busA b B S).own w [busA b B (LS.run core a wr S k).S, blk ka #[.int .u32 a, .bool wr] 227, outA x3 k5 (LS.run core a wr S k).out],
      fun x2 _ _ _ _ _ => S.Cs.length - x2.toNat, ⟨0, rfl, Nat.zero_le _, rfl, rfl, ?_⟩, fun _ => ?_⟩
    · exact H.add (A := outA none 0 []) ⟨Sl.nil _ _ _, XTouch.refl _ _, fun q e => by cases e⟩
    have hsl := (bus_open (H.nth 0 rfl)).nth 1 rfl
    obtain ⟨g, off, hp, -⟩ := ptr_cell hsl hB (k := 0) (by omega)
    clear H
    rintro x2 x3 k4 k5 x4 w4 ⟨k, rfl, hkn, rfl, rfl, H⟩
    have hr := run_ok ho core a wr k hkn
    have hlx := run_line ho core a wr hkn hl
    have hout := hr.out
    refine split_of (fun q => ?_) (fun q => ?_)
    rotate_left
    · have q := of_decide_eq_false q
      obtain rfl : k = S.Cs.length := by omega
      exact ⟨rfl, rfl, H⟩
    have q := of_decide_eq_true q
    have hkl : k < S.Cs.length := by omega
    have hkx : k < (LS.run core a wr S k).S.Cs.length := by rw [hr.same.n]; exact hkl
    have hBx : B.gs.length = (LS.run core a wr S k).S.Cs.length := by rw [hr.same.n]; exact hB
    have erun : LS.run core a wr S (k + 1) = (LS.run core a wr S k).step core a wr k := rfl
    refine ⟨fun p n c mine w => mine = ((LS.run core a wr S (k + 1)).mine : Nat) ∧ n = (LS.run core a wr S (k + 1)).out.length ∧ St W (busA b B S).own w [busA b B (LS.run core a wr S (k + 1)).S, blk ka #[.int .u32 a, .bool wr] 227, outA p c (LS.run core a wr S (k + 1)).out], ?_, fun _ => ?_⟩
    rotate_left
    · rintro x6 k15 k16 x7 w13 ⟨rfl, rfl, H⟩ z5 rfl
      rw [w64 (by omega) (by omega)]
      exact ⟨⟨k + 1, by omega, by omega, rfl, rfl, H⟩, by show S.Cs.length - ((k : Int) + 1).toNat < S.Cs.length - (k : Int).toNat; omega⟩
    rw [erun]
    generalize LS.run core a wr S k = X at *
    obtain ⟨g', off', hp', hcell⟩ := ptr_cell ((bus_open (H.nth 0 rfl)).nth 1 rfl) hBx hkx
    rw [hp] at hp'
    cases hp'
    refine ⟨⟨by omega, q⟩, adr_eq hp ⟨_, by rw [ix1]; exact hcell, _, H.ld 1 rfl rfl, ?_⟩⟩
    refine H.callq (state_any (hr.ok.cs k hkx).ok (bstate_of (H.nth 0 rfl) hBx hkx) a ha) fun w5 H => ⟨_, rfl, ?_⟩
    rw [step_def]
    refine split_of (fun q1 => ?_) (fun q1 => split_of (fun q2 => ?_) (fun q2 => ?_))
    · have q1 : (k : Int) = (core : Int) := by simpa using q1
      rw [if_pos (.inl (by omega))]
      exact ⟨rfl, rfl, H⟩
    · have q2 : ((X.S.C k).stateAt a : Int) = 0 := by simpa using q2
      rw [if_pos (.inr (by omega))]
      exact ⟨rfl, rfl, H⟩
    have q1 : ¬ (k : Int) = (core : Int) := by simpa using q1
    have q2 : ¬ ((X.S.C k).stateAt a : Int) = 0 := by simpa using q2
    rw [if_neg (by omega)]
    refine ⟨fun mine w => mine = ((if wr then X.mine else 1 : Nat) : Int) ∧ St W (busA b B S).own w [busA b B X.S, blk ka #[.int .u32 a, .bool wr] 227, outA x3 k5 X.out], ⟨wr, H.ld 1 rfl rfl, split_of (fun q => ⟨by simp at q; rw [q]; rfl, H⟩) (fun q => ⟨by simp at q; rw [q]; rfl, H⟩)⟩, fun _ => ?_⟩
    clear H
    rintro x5 w6 ⟨rfl, H⟩
    have hg := hr.ok.cs k hkx
    refine ⟨_, H.ld 1 rfl rfl, (lower_f hg (bstate_of (H.nth 0 rfl) hBx hkx) a ha ha16 (othS wr) (by have := oth_le wr; omega)).mono ?_⟩
    rintro e w7 ⟨rfl, hpost⟩
    have H := H.upd 0 rfl (setC_post (H.nth 0 rfl) hBx hkx hpost)
    obtain ⟨hy1, hy2⟩ := lowY_ok hg a (othS wr)
    have h18 : ((X.S.C k).lowY a (othS wr)).lineC.toArray.size = 18 := by simpa using line_len hy1
    refine ⟨_, _, rfl, H.al fun k8 w8 H => H.sts0 3 rfl h18 rfl (line_one _ _ _) fun w9 H => ?_⟩
    have H : St W (busA b B S).own w9 [busA b B (X.S.setC k ((X.S.C k).lowN a (othS wr))), blk ka #[.int .u32 a, .bool wr] 227, outA x3 k5 X.out, blk k8 ((X.S.C k).lowY a (othS wr)).lineC.toArray 248] := H
    by_cases q3 : othS wr < (X.S.C k).stateAt a
    · rw [if_pos q3]
      have e0 : errV ((X.S.C k).lowE a (othS wr)) = .nilIface := by unfold CS.lowE; rw [if_pos q3]; rfl
      rw [e0]
      refine nil_true (split_of (fun _ => ⟨_, h18, H.cells 3 rfl, ?_⟩) (fun q => by cases q))
      refine H.call 0 rfl (bkeep_any (H.nth 0 rfl) (by exact hr.ok.len) hy1 hy2) fun w10 H => ⟨rfl, _, H.ld 1 rfl rfl, ?_⟩
      exact snoop_app H 2 rfl ⟨k, a, (X.S.C k).stateAt a, othS wr⟩ (by omega) fun p' c' w' H => ⟨rfl, by simp, H.take 3⟩
    · rw [if_neg q3]
      have e0 : errV ((X.S.C k).lowE a (othS wr)) = errN 7 := by unfold CS.lowE; rw [if_neg q3]; rfl
      rw [e0]
      refine nil_false (split_of (fun q => by cases q) (fun _ => ⟨rfl, rfl, ?_⟩))
      rw [lowN_no q3, setC_self hkx] at H
      exact H.take 3
  · clear H
    rintro x8 x9 k17 k18 w14 ⟨rfl, rfl, H⟩
    have hr := run_ok ho core a wr S.Cs.length (Nat.le_refl _)
    have hlx := run_line ho core a wr (Nat.le_refl _) hl
    have hout := hr.out
    have hdok := done_ok ho hm hk hl wr
    unfold PB.done at hdok ⊢
    generalize LS.run core a wr S S.Cs.length = X at *
    dsimp only at hdok ⊢
    have hkx : core < X.S.Cs.length := by rw [hr.same.n]; exact hk
    have hBx : B.gs.length = X.S.Cs.length := by rw [hr.same.n]; exact hB
    have hg := hr.ok.cs core hkx
    obtain ⟨g, off, hp, hcell⟩ := ptr_cell ((bus_open (H.nth 0 rfl)).nth 1 rfl) hBx hkx
    have hmine := hr.mine
    refine ⟨_, _, _, (bus_open (H.nth 0 rfl)).ld 0 rfl rfl, ⟨by omega, by omega⟩, adr_eq hp ⟨_, by rw [ix1]; exact hcell, _, H.ld 1 rfl rfl, ?_⟩⟩
    refine H.callq (state_any hg.ok (bstate_of (H.nth 0 rfl) hBx hkx) a ha) fun w15 H => ⟨_, rfl, ?_⟩
    have hC1 := lowN_good hg a 0 (by omega)
    refine ⟨fun w => St W (busA b B S).own w [busA b B (X.S.setC core ((X.S.C core).lowN a 0)), blk ka #[.int .u32 a, .bool wr] 227, outA x9 k18 X.out], split_of (fun q => ?_) (fun q => ?_), fun _ => ?_⟩
    · refine ⟨_, H.ld 1 rfl rfl, (lower_f hg (bstate_of (H.nth 0 rfl) hBx hkx) a ha ha16 0 (by omega)).mono ?_⟩
      rintro e w16 ⟨rfl, hpost⟩
      exact ⟨_, _, rfl, H.upd 0 rfl (setC_post (H.nth 0 rfl) hBx hkx hpost)⟩
    · have q : ((X.S.C core).stateAt a : Int) = 0 := by simpa using q
      rw [lowN_no (by omega), setC_self hkx]
      exact H
    clear H
    intro w17 H
    have hkx' : core < (X.S.setC core ((X.S.C core).lowN a 0)).Cs.length := by rw [show (X.S.setC core ((X.S.C core).lowN a 0)).Cs.length = X.S.Cs.length from List.length_set]; exact hkx
    have hB' : B.gs.length = (X.S.setC core ((X.S.C core).lowN a 0)).Cs.length := by rw [show (X.S.setC core ((X.S.C core).lowN a 0)).Cs.length = X.S.Cs.length from List.length_set]; exact hBx
    have eC : (X.S.setC core ((X.S.C core).lowN a 0)).C core = (X.S.C core).lowN a 0 := by rw [setC_C hkx, if_pos rfl]
    have ell : ∀ C : CS, (X.S.setC core ((X.S.C core).lowN a 0)).setC core C = X.S.setC core C := by
      intro C
      unfold PB.setC
      simp
    have hl3 := hlx
    unfold LineOk PB.len at hl3
    have hlen2 := hr.ok.len
    unfold PB.len at hlen2
    have hb16 : ((X.S.mem.drop (a - 65536)).take 16).length = 16 := by
      have : a - 65536 + 16 ≤ X.S.mem.length := by omega
      generalize a - 65536 = d at this
      simp
      omega
    have hb2 : ∀ x ∈ (X.S.mem.drop (a - 65536)).take 16, x < 256 := fun x hx => hr.ok.byte x (List.mem_of_mem_drop (List.mem_of_mem_take hx))
    have u16 : (u8n ((X.S.mem.drop (a - 65536)).take 16)).toArray.size = 16 := by simpa [u8n_length] using hb16
    obtain ⟨hy1, hy2⟩ := goneOf_ok hC1 a
    have h18 : (((X.S.C core).lowN a 0).goneOf a).lineC.toArray.size = 18 := by simpa using line_len hy1
    have hgo : ∀ {w : World} {L : List Asn}, St W (busA b B S).own w (busA b B (X.S.setC core ((X.S.C core).lowN a 0)) :: L) → Calls Tryz.prog 101 #[.pointer (some ⟨B.gs.getD core 0, 0, none⟩), .int .u32 a, .agg (u8n ((X.S.mem.drop (a - 65536)).take 16)).toArray, .int .i64 X.mine] w fun e w' =>
        e = .returned (.tuple #[.agg (((X.S.C core).lowN a 0).goneOf a).lineC.toArray, .bool (decide ((((X.S.C core).lowN a 0).goneOf a).state ≠ 0)), errV (((X.S.C core).lowN a 0).fillE a)]) ∧ St W (busA b B S).own w' (busA b B (X.S.setC core (((X.S.C core).lowN a 0).fillN a ((X.S.mem.drop (a - 65536)).take 16) X.mine)) :: L) := by
      intro w L H
      have hc := bstate_of (H.nth 0 rfl) hB' hkx'
      rw [eC] at hc
      refine (fill_f hC1 hm hc a ha ha16 _ hb16 hb2 X.mine (by omega) (by omega)).mono ?_
      rintro e w' ⟨rfl, hpost⟩
      have hp2 := setC_post (C := ((X.S.C core).lowN a 0).fillN a ((X.S.mem.drop (a - 65536)).take 16) X.mine) (H.nth 0 rfl) hB' hkx' (by rw [eC]; exact hpost)
      rw [ell] at hp2
      exact ⟨rfl, H.upd 0 rfl hp2⟩
    obtain ⟨hdc, hm2⟩ := mem_at ((bus_open (H.nth 0 rfl)).nth 4 rfl)
    obtain ⟨g2, off2, hdp, -⟩ := hm2 (by show 0 < X.S.mem.length; omega)
    have hmem : ∀ {w : World} {L : List Asn}, St W (busA b B S).own w (busA b B (X.S.setC core ((X.S.C core).lowN a 0)) :: L) → Calls Tryz.prog 102 #[.pointer (some ⟨b, 0, none⟩), .int .u32 a] w fun e w' => e = .returned (.slice (some ⟨g2, off2 + (a - 65536), none⟩) 16 (B.dc - (a - 65536))) ∧ w' = w :=
      fun H => memory_any (l := X.S.mem) ((bus_open (H.nth 0 rfl)).blk 0 rfl) rfl hdp hdc hlen2 hlx
    have hcells : ∀ {w : World} {L : List Asn}, St W (busA b B S).own w (busA b B (X.S.setC core ((X.S.C core).lowN a 0)) :: L) → cellsAt w ⟨g2, off2 + (a - 65536), none⟩ (u8n ((X.S.mem.drop (a - 65536)).take 16)).toArray := by
      intro w L H i v hi
      obtain ⟨-, hm3⟩ := mem_at ((bus_open (H.nth 0 rfl)).nth 4 rfl)
      obtain ⟨g', off', e, h4⟩ := hm3 (by show 0 < X.S.mem.length; omega)
      rw [hdp] at e
      cases e
      rw [add_none]
      have hi16 : i < 16 := by
        have := (Array.getElem?_eq_some_iff.1 hi).1
        omega
      have := (h4 (a - 65536 + i) (by show _ < X.S.mem.length; omega)).1
      rw [Nat.add_assoc, this]
      rw [List.getElem?_toArray] at hi
      unfold u8n at hi
      rw [List.getElem?_map, List.getElem?_take_of_lt hi16, List.getElem?_drop] at hi
      rw [← hi, List.getD_eq_getElem?_getD]
      have hlt : a - 65536 + i < X.S.mem.length := by omega
      show some (Value.int .u8 ((X.S.mem[a - 65536 + i]?.getD 0 : Nat) : Int)) = _
      rw [List.getElem?_eq_getElem hlt]
      rfl
    refine ⟨fun t q w => ∃ kg : Nat, t = decide ((((X.S.C core).lowN a 0).goneOf a).state ≠ 0) ∧ q = some ⟨kg, 0, none⟩ ∧ St W (busA b B S).own w [busA b B (X.S.setC core (((X.S.C core).lowN a 0).fillN a ((X.S.mem.drop (a - 65536)).take 16) X.mine)), blk ka #[.int .u32 a, .bool wr] 227, outA x9 k18 X.out, blk kg (((X.S.C core).lowN a 0).goneOf a).lineC.toArray 248], H.dr fun w18 H => ⟨_, H.ld 1 rfl rfl, _, H.ld 1 rfl rfl, ?_, ?_⟩, fun _ => ?_⟩
    · refine (hmem H).mono ?_
      rintro e w19 ⟨rfl, rfl⟩
      refine ⟨_, _, _, rfl, RowKit.Below.refl _ _, Nat.le_refl _, ptr_some ⟨_, u16, hcells H, ?_, ?_⟩⟩
      · refine (hgo H).mono ?_
        rintro e w20 ⟨rfl, H⟩
        exact ⟨_, _, _, rfl, H.al fun kg w21 H => H.sts0 3 rfl h18 rfl (line_one _ _ _) fun w22 H => ⟨kg, rfl, rfl, H⟩⟩
      · refine H.alb fun kg w23 H _ hb => ⟨hb, (hgo H).mono ?_⟩
        rintro e w24 ⟨rfl, H⟩
        exact ⟨_, _, _, rfl, H.sts0 3 rfl h18 rfl (line_one _ _ _) fun w22 H => ⟨kg, rfl, rfl, H⟩⟩
    · have hcell0 := hcells H
      refine H.alb fun kg w26 H _ hb => ⟨hb, (hmem H).mono ?_⟩
      rintro e w27 ⟨rfl, rfl⟩
      refine ⟨_, _, _, rfl, hb, Nat.le_refl _, ptr_some ⟨_, u16, hcell0, (hgo H).mono ?_⟩⟩
      rintro e w28 ⟨rfl, H⟩
      exact ⟨_, _, _, rfl, H.sts0 3 rfl h18 rfl (line_one _ _ _) fun w22 H => ⟨kg, rfl, rfl, H⟩⟩
    clear H
    rintro x10 x11 w30 ⟨kg, rfl, rfl, H⟩
    have hout2 : (if (((X.S.C core).lowN a 0).goneOf a).state ≠ 0 then X.out ++ [⟨core, (((X.S.C core).lowN a 0).goneOf a).line, (((X.S.C core).lowN a 0).goneOf a).state, 0⟩] else X.out).length ≤ 100 := by
      split
      · simp; omega
      · omega
    refine ⟨fun p n c w => n = (if (((X.S.C core).lowN a 0).goneOf a).state ≠ 0 then X.out ++ [⟨core, (((X.S.C core).lowN a 0).goneOf a).line, (((X.S.C core).lowN a 0).goneOf a).state, 0⟩] else X.out).length ∧
      St W (busA b B S).own w [busA b B (X.S.move core (((X.S.C core).lowN a 0).fillN a ((X.S.mem.drop (a - 65536)).take 16) X.mine) (((X.S.C core).lowN a 0).goneOf a)), blk ka #[.int .u32 a, .bool wr] 227, outA p c (if (((X.S.C core).lowN a 0).goneOf a).state ≠ 0 then X.out ++ [⟨core, (((X.S.C core).lowN a 0).goneOf a).line, (((X.S.C core).lowN a 0).goneOf a).state, 0⟩] else X.out)], split_of (fun q => ?_) (fun q => ?_), fun _ => ?_⟩
    · have q := of_decide_eq_true q
      rw [if_pos q]
      refine ptr_some ⟨_, h18, H.cells 3 rfl, ?_⟩
      refine H.call 0 rfl (bkeep_any (H.nth 0 rfl) (by exact hr.ok.len) hy1 hy2) fun w31 H => ⟨rfl, ptr_some ⟨_, by rw [add_none]; exact H.ld 3 rfl rfl, ptr_some ⟨_, by rw [add_none]; exact H.ld 3 rfl rfl, ?_⟩⟩⟩
      exact snoop_app H 2 rfl ⟨core, (((X.S.C core).lowN a 0).goneOf a).line, (((X.S.C core).lowN a 0).goneOf a).state, 0⟩ (by omega) fun p' c' w' H => ⟨by simp, H.take 3⟩
    · have q := of_decide_eq_false q
      rw [if_neg q]
      have e : X.S.move core (((X.S.C core).lowN a 0).fillN a ((X.S.mem.drop (a - 65536)).take 16) X.mine) (((X.S.C core).lowN a 0).goneOf a) = X.S.setC core (((X.S.C core).lowN a 0).fillN a ((X.S.mem.drop (a - 65536)).take 16) X.mine) := by
        unfold PB.move keepM
        rw [if_neg (by omega)]
        rfl
      rw [e]
      exact ⟨rfl, H.take 3⟩
    · clear H
      rintro x12 k38 k39 w34 ⟨rfl, H⟩
      refine ⟨_, H.ld 1 rfl rfl, ?_⟩
      refine snoop_app H 2 rfl ⟨core, a, (X.S.C core).stateAt a, X.mine⟩ hout2 fun p' c' w' H => ⟨(p', c'), by simp, ?_⟩
      exact (St.fold (Ls := [_, _]) (L := []) (A := all [_, _]) (H.pick [0, 2]) id (fun q h => h)).post 0 rfl
end Go.Proofs.YthacioiefgabbaaGreatDoor.cbus
