import Derived.Test.YthacioiefgabbaaGreatDoorCoreI
/- A core: its first and its second cycle, where the code is one break. No condition. -/
namespace Go.Proofs.YthacioiefgabbaaGreatDoor
open Go.RowKit Go.XHeap Go.Sx Go.Sep
set_option linter.unusedVariables false
set_option maxRecDepth 100000
variable {W w : World} {x : Nat} {C : KC} {K K' : KS} {L : List Asn} {b j : Nat} {F F' : Fl} {M : Nat → Prop}

/-- a core as it is made -/
structure Fr (C : KC) (K : KS) : Prop where
  pc : K.pc = 0
  d : K.d = 0
  n : K.n = 0
  fl : K.fl = []
  w : Flw K.w 0
  en : K.en = 0
  halted : K.halted = false
  idle : K.idle = false
  S : C.c.window = K.w.S
/-- .. and with one instruction taken in -/
structure One (C : KC) (K : KS) : Prop where
  ent : Ent C K 1
  pc : K.pc = 4
  idle : K.idle = false
  en : K.en = 1
  S : C.c.window = K.w.S
theorem Fr.took (h : Fr C K) (k : Nat) (p : Option Addr) (c : Nat) (y : Tl) : One C (K.took k (flA0.numbered 0 C.P) p c y) := by
  have hS := h.w.ok.s0
  have hn1 : K.n + 1 = 1 := by rw [h.n]
  have hfl : K.fl ++ [(k, flA0.numbered 0 C.P)] = [(k, flA0.numbered 0 C.P)] := by rw [h.fl]; rfl
  refine ⟨⟨by decide, by decide, h.d, hn1, by show (K.fl ++ _).length = 1; rw [hfl]; rfl, h.w.enter (by omega) (by decide), by show K.en + 1 ≤ 10; rw [h.en]; decide, h.halted, fun j z hj => ?_, fun z hz => ?_⟩, ?_, h.idle, by show K.en + 1 = 1; rw [h.en], h.S⟩
  · have hj : (K.fl ++ [(k, flA0.numbered 0 C.P)])[j]? = some z := hj
    rw [hfl] at hj
    cases j with
    | zero => cases hj; exact ⟨rfl, rfl, rfl, rfl⟩
    | succ j => cases hj
  · have hz : (K.fl ++ [(k, flA0.numbered 0 C.P)])[0]? = some z := hz
    rw [hfl] at hz
    cases hz
    exact ⟨rfl, rfl, rfl, rfl, rfl, rfl⟩
  · show IntKind.wrap .u32 (0 + 4) = 4
    decide
theorem One.took (h : One C K) (k : Nat) (p : Option Addr) (c : Nat) (y : Tl) : Ent C (K.idled.took k (flB0.numbered 1 C.P) p c y) 2 := by
  have hS := h.ent.w.ok.s0
  have hlen := h.ent.len
  refine ⟨by decide, by decide, h.ent.d, by show K.n + 1 = 2; rw [h.ent.n], by show (K.fl ++ _).length = 2; rw [List.length_append, hlen]; rfl, h.ent.w.enter (by show 1 < K.w.S; omega) (by decide), by show K.en + 1 ≤ 10; rw [h.en]; decide, h.ent.halted, fun j z hj => ?_, fun z hz => ?_⟩
  · have hj : (K.fl ++ [(k, flB0.numbered 1 C.P)])[j]? = some z := hj
    by_cases e : j < 1
    · rw [List.getElem?_append_left (by omega)] at hj
      exact h.ent.all j z hj
    · rw [List.getElem?_append_right (by omega), hlen] at hj
      obtain ⟨i, rfl⟩ : ∃ i, j = i + 1 := ⟨j - 1, by omega⟩
      rw [Nat.add_sub_cancel] at hj
      cases i with
      | zero => cases hj; exact ⟨rfl, rfl, rfl, rfl⟩
      | succ i => cases hj
  · have hz : (K.fl ++ [(k, flB0.numbered 1 C.P)])[0]? = some z := hz
    rw [List.getElem?_append_left (by omega)] at hz
    exact h.ent.one z hz
theorem enter_fresh (h : (coreA x C K).at_ W) (hG : Good C) (hF : Fr C K) (hw : 1 ≤ C.c.width) :
    Calls Tryz.prog 77 #[.pointer (some ⟨x, 0, none⟩)] W fun e w => ∃ K' : { K' : KS // ∃ m, Ent C K' m }, e = .returned (.tuple #[]) ∧ Sep.Post (coreA x C K) W (coreA x C K'.1) w := by
  have H := St.begin h
  refine vc77 x 0 ⟨C.c.width, (core_open h).ld 0 rfl rfl, fun i A => (i = 0 ∧ St W (coreA x C K).own A [coreA x C K]) ∨ (i = 1 ∧ ∃ K1, One C K1 ∧ St W (coreA x C K).own A [coreA x C K1]) ∨ (i = 2 ∧ ∃ K2, Ent C K2 2 ∧ K2.idle = true ∧ St W (coreA x C K).own A [coreA x C K2]), fun i _ => 3 - i.toNat, .inl ⟨rfl, H⟩, fun _ => ?_⟩
  clear H
  rintro i w2 (⟨rfl, H⟩ | ⟨rfl, K1, h1, H⟩ | ⟨rfl, K2, h2, hi, H⟩)
  · refine split_of (fun _ => ⟨K.idle, (core_open (H.nth 0 rfl)).ld 0 rfl rfl, ?_⟩) (fun q => absurd (of_decide_eq_false q) (by omega))
    rw [hF.idle]
    refine split_of (fun q => by cases q) (fun _ => ?_)
    refine H.callx 0 rfl (take_any (H.nth 0 rfl) hG.P (decoded_0 (H.nth 0 rfl) hF.pc) rawA hF.w (by have := hF.w.ok.s0; omega) hF.S hF.d (by rw [hF.n, hF.fl]; rfl) (by rw [hF.n]; decide) (by rw [hF.en]; decide)) fun y w3 H => ⟨_, rfl, split_of (fun q => by cases q) (fun _ => ?_)⟩
    rintro z2 rfl
    exact ⟨.inr (.inl ⟨by decide, _, hF.took y.1 y.2.1 y.2.2.1 y.2.2.2, H⟩), by show 3 - (IntKind.wrap .i64 (0 + 1)).toNat < 3 - (0 : Int).toNat; decide⟩
  · refine split_of (fun _ => ⟨K1.idle, (core_open (H.nth 0 rfl)).ld 0 rfl rfl, ?_⟩) (fun _ => ⟨⟨K1, 1, h1.ent⟩, rfl, H.post 0 rfl⟩)
    rw [h1.idle]
    refine split_of (fun q => by cases q) (fun _ => ?_)
    refine H.callx 0 rfl (take_any (K1 := K1.idled) (H.nth 0 rfl) hG.P (decoded_4 (H.nth 0 rfl) h1.pc) rawB h1.ent.w (by have := h1.ent.w.ok.s0; show 1 < K1.w.S; omega) h1.S h1.ent.d (by show K1.n = K1.fl.length; rw [h1.ent.n, h1.ent.len]) (by show K1.n ≤ 100; rw [h1.ent.n]; decide) (by show K1.en < 900; rw [h1.en]; decide)) fun y w3 H => ⟨_, rfl, split_of (fun q => by cases q) (fun _ => ?_)⟩
    rintro z2 rfl
    exact ⟨.inr (.inr ⟨by decide, _, h1.took y.1 y.2.1 y.2.2.1 y.2.2.2, rfl, H⟩), by show 3 - (IntKind.wrap .i64 (1 + 1)).toNat < 3 - (1 : Int).toNat; decide⟩
  · refine split_of (fun _ => ⟨K2.idle, (core_open (H.nth 0 rfl)).ld 0 rfl rfl, ?_⟩) (fun _ => ⟨⟨K2, 2, h2⟩, rfl, H.post 0 rfl⟩)
    rw [hi]
    exact split_of (fun _ => ⟨⟨K2, 2, h2⟩, rfl, H.post 0 rfl⟩) (fun q => by cases q)
/-! ### a cycle -/
theorem step_fresh (h : (coreA x C K).at_ W) (hG : Good C) (hF : Fr C K) (hw : 1 ≤ C.c.width) (hu : 1 ≤ C.c.units) :
    Calls Tryz.prog 50 #[.pointer (some ⟨x, 0, none⟩)] W fun e w => ∃ K' : { K' : KS // ∃ m, Ent C K' m }, e = .returned (.tuple #[]) ∧ Sep.Post (coreA x C K) W (coreA x C K'.1) w := by
  have H := St.begin h
  refine vc50 x 0 ⟨K.halted, (core_open h).ld 0 rfl rfl, ?_⟩
  rw [hF.halted]
  refine split_of (fun _ => ?_) (fun q => by cases q)
  refine H.callq (complete_none (H.nth 0 rfl) (by rw [hF.n]; decide) (by rw [hF.n, hF.d, hF.fl]; decide) (fun j y hy => by rw [hF.fl] at hy; cases hy)) fun w2 H => ⟨rfl, ?_⟩
  refine H.callp (retire_none (H.nth 0 rfl) hF.n hw) ⟨rfl, K.halted, (core_open (H.nth 0 rfl)).ld 0 rfl rfl, ?_⟩
  rw [hF.halted]
  refine split_of (fun _ => ?_) (fun q => by cases q)
  refine H.callq (issue_none (H.nth 0 rfl) hF.w.ok hF.w.n hu) fun w3 H => ⟨rfl, ?_⟩
  refine H.callx 0 rfl (enter_fresh (H.nth 0 rfl) hG hF hw) fun K' w4 H => ⟨rfl, ?_⟩
  exact H.callq (drain_none (H.nth 0 rfl)) fun w5 H => ⟨rfl, K', rfl, H.post 0 rfl⟩
theorem step_break (h : (coreA x C K).at_ W) (hG : Good C) {m : Nat} (hE : Ent C K m) (hw : 1 ≤ C.c.width) :
    Calls Tryz.prog 50 #[.pointer (some ⟨x, 0, none⟩)] W fun e w => ∃ K' : { K' : KS // K'.halted = true ∧ K'.n = 0 }, e = .returned (.tuple #[]) ∧ Sep.Post (coreA x C K) W (coreA x C K'.1) w := by
  have H := St.begin h
  have hm2 := hE.m2
  refine vc50 x 0 ⟨K.halted, (core_open h).ld 0 rfl rfl, ?_⟩
  rw [hE.halted]
  refine split_of (fun _ => ?_) (fun q => by cases q)
  refine H.callq (complete_none (H.nth 0 rfl) (by rw [hE.n]; omega) (by rw [hE.n, hE.d, hE.len]; omega) (fun j y hy => (hE.all j y hy).issued)) fun w2 H => ⟨rfl, ?_⟩
  refine H.callx 0 rfl (retire_break (H.nth 0 rfl) hG hE hw) fun K' w3 H => ⟨rfl, K'.1.halted, (core_open (H.nth 0 rfl)).ld 0 rfl rfl, ?_⟩
  rw [K'.2.1]
  refine split_of (fun q => by cases q) (fun _ => ?_)
  exact H.callq (drain_none (H.nth 0 rfl)) fun w5 H => ⟨rfl, K', rfl, H.post 0 rfl⟩
/-! ### registers at the end -/
theorem committed_any (h : (coreA x C K).at_ W) (hn : K.n ≤ 100) (hfl : K.d + K.n ≤ K.fl.length) (hf : ∀ (j : Nat) (y : Nat × Fl), K.d ≤ j → j < K.d + K.n → K.fl[j]? = some y → y.2.fresh = -1) (hR : 34 ≤ C.c.regs) (r : Nat) (hr : r < 32) :
    Calls Tryz.prog 52 #[.pointer (some ⟨x, 0, none⟩), .int .i64 r] W fun e w => e = .returned (.int .u32 0) ∧ w = W := by
  have H := core_open h
  refine vc52 x 0 r ⟨_, H.ld 0 rfl rfl, H.callp (look_new (H.nth 3 rfl) r hr) ⟨_, rfl, _, _, _, H.ld 0 rfl rfl, ?_⟩⟩
  rintro z2 rfl
  rw [w64 (by omega) (by omega)]
  refine ⟨fun i nm A => ∃ m : Nat, i = (m : Int) - 1 ∧ m ≤ K.n ∧ nm = r ∧ A = W, fun i _ _ => (i + 1).toNat, ⟨K.n, rfl, Nat.le_refl _, rfl, rfl⟩, fun _ => ?_⟩
  rintro i nm w2 ⟨m, rfl, hm, rfl, rfl⟩
  refine split_of (fun q => ?_) (fun q => ?_)
  · have q := of_decide_eq_true q
    obtain ⟨k, rfl⟩ : ∃ k, m = k + 1 := ⟨m - 1, by omega⟩
    have e1 : ((k + 1 : Nat) : Int) - 1 = (k : Int) := by omega
    rw [e1]
    obtain ⟨y, hy⟩ : ∃ y, K.fl[K.d + k]? = some y := ⟨_, List.getElem?_eq_getElem (by omega)⟩
    obtain ⟨g, o, hp, hc⟩ := fl_ptr (l := K.fl) (H.nth 10 rfl) hy (by omega)
    have hb : Blk w2 y.1 y.2.cells 243 := fl_blk (H.nth 11 rfl) hy
    refine ⟨_, _, _, H.ld 0 rfl rfl, ⟨by omega, by omega⟩, ?_⟩
    rw [hp]
    refine adr_some ⟨_, by rw [ix1]; exact hc, ptr_some ⟨y.2.fresh, by rw [add_none]; exact hb.cell' rfl, split_of (fun q2 => absurd (of_decide_eq_true q2) (by rw [hf _ y (by omega) (by omega) hy]; decide)) (fun _ => ?_)⟩⟩
    rintro z8 rfl
    rw [w64 (by omega) (by omega)]
    exact ⟨⟨k, rfl, by omega, rfl, rfl⟩, by show ((k : Int) - 1 + 1).toNat < ((k : Int) + 1).toNat; omega⟩
  · refine ⟨_, _, _, H.ld 0 rfl rfl, ⟨by omega, by omega⟩, adr_some ⟨0, ?_, rfl, rfl⟩⟩
    rw [ix1, Nat.zero_add]
    exact H.ld 7 rfl (ints_ok (by rw [List.getElem?_replicate, if_pos (by omega)]))
end Go.Proofs.YthacioiefgabbaaGreatDoor
/- A core: what is checked of a configuration, and making one. No condition. -/
namespace Go.Proofs.YthacioiefgabbaaGreatDoor
open Go.RowKit Go.XHeap Go.Sx Go.Sep
set_option linter.unusedVariables false
set_option maxRecDepth 100000
variable {W w : World} {x : Nat} {C : KC} {K K' : KS} {L : List Asn} {b j : Nat} {F F' : Fl} {M : Nat → Prop}

theorem fits_any (n lo hi : Int) (W : World) : Calls Tryz.prog 21 #[.int .i64 n, .int .i64 lo, .int .i64 hi] W fun e w => e = .returned (.bool (decide (lo ≤ n) && decide (n ≤ hi))) ∧ w = W :=
  vc21 n lo hi (split_of (fun q => ⟨by have : decide (lo ≤ n) = true := q; rw [this]; rfl, rfl⟩) (fun q => ⟨by have : decide (lo ≤ n) = false := q; rw [this]; rfl, rfl⟩))
/-- what Check asks -/
def Cf.chk (c : Cf) : Prop := (1 ≤ c.width ∧ c.width ≤ 4) ∧ (1 ≤ c.units ∧ c.units ≤ 4) ∧ (1 ≤ c.mul ∧ c.mul ≤ 10) ∧ 0 ≤ c.bus ∧ c.bus ≤ 10
def err2 : Value := .iface 33 (.int .i64 2)
theorem check_any (c : Cf) (W : World) : Calls Tryz.prog 42 #[.agg c.cells] W fun e w => ((c.chk ∧ e = .returned .nilIface) ∨ (¬ c.chk ∧ e = .returned err2)) ∧ Hush W w := by
  have no : ∀ {n lo hi : Int}, (!(decide (lo ≤ n) && decide (n ≤ hi))) = true → ¬ (lo ≤ n ∧ n ≤ hi) := fun h => within_no h
  have yes : ∀ {n lo hi : Int}, (!(decide (lo ≤ n) && decide (n ≤ hi))) = false → lo ≤ n ∧ n ≤ hi := fun h => within_yes h
  refine vc42 c.cells ((St.nil W).al fun k w2 H => ⟨c.width, H.ld 0 rfl rfl, H.callp (fits_any c.width 1 4 _) ⟨_, rfl, split_of (fun q => ⟨.inr ⟨fun h => no q h.1, rfl⟩, H.quiet'⟩) (fun q1 => ?_)⟩⟩)
  refine ⟨c.units, H.ld 0 rfl rfl, H.callp (fits_any c.units 1 4 _) ⟨_, rfl, split_of (fun q => ⟨.inr ⟨fun h => no q h.2.1, rfl⟩, H.quiet'⟩) (fun q2 => ?_)⟩⟩
  refine ⟨c.mul, H.ld 0 rfl rfl, H.callp (fits_any c.mul 1 10 _) ⟨_, rfl, split_of (fun q => ⟨.inr ⟨fun h => no q h.2.2.1, rfl⟩, H.quiet'⟩) (fun q3 => ?_)⟩⟩
  exact ⟨c.bus, H.ld 0 rfl rfl, H.callp (fits_any c.bus 0 10 _) ⟨_, rfl, split_of (fun q => ⟨.inr ⟨fun h => no q h.2.2.2, rfl⟩, H.quiet'⟩) (fun q4 => ⟨.inl ⟨⟨yes q1, yes q2, yes q3, yes q4⟩, rfl⟩, H.quiet'⟩)⟩⟩
/-! ### parts, made or refused -/
def pO (ok : Bool) (k : Nat) : Option Addr := if ok then some ⟨k, 0, none⟩ else none
def eO (ok : Bool) : Value := if ok then .nilIface else err2
def aO (ok : Bool) (A : Asn) : Asn := if ok then A else emp
theorem pO_t {ok : Bool} (h : ok = true) (k : Nat) : pO ok k = some ⟨k, 0, none⟩ := by subst h; rfl
theorem pO_f {ok : Bool} (h : ok = false) (k : Nat) : pO ok k = none := by subst h; rfl
theorem eO_t {ok : Bool} (h : ok = true) : eO ok = .nilIface := by subst h; rfl
theorem eO_f {ok : Bool} (h : ok = false) : eO ok = err2 := by subst h; rfl
theorem aO_f {ok : Bool} (h : ok = false) (A : Asn) : aO ok A = emp := by subst h; rfl
theorem aO_t {ok : Bool} (h : ok = true) (A : Asn) : aO ok A = A := by subst h; rfl
theorem hush_emp (h : Hush W w) : Sep.Post emp W emp w := ⟨trivial, XTouch.mono h (fun _ _ e => e.elim), fun _ e => e.elim⟩
/-- what New asks of a window -/
def Cf.winB (c : Cf) : Bool := decide (win.winOk c.window (if 34 > c.regs then 34 else c.regs))
structure FW (c : Cf) (v : win.WS) : Prop where
  w : Flw v 0
  S : c.window = v.S
theorem wnew_b (c : Cf) (W : World) : Calls Tryz.prog 44 #[.int .i64 c.window, .int .i64 (if 34 > c.regs then 34 else c.regs)] W fun e w => ∃ a : { a : Nat × win.WS // c.winB = true → FW c a.2 }, e = .returned (.tuple #[.pointer (pO c.winB a.1.1), eO c.winB]) ∧ Sep.Post emp W (aO c.winB (win.winA a.1.1 a.1.2)) w := by
  by_cases hb : win.winOk c.window (if 34 > c.regs then 34 else c.regs)
  · have hB : c.winB = true := decide_eq_true hb
    obtain ⟨h1, h2, h3, h4⟩ := hb
    have e1 : ((c.window.toNat : Nat) : Int) = c.window := by omega
    have e2 : (((if 34 > c.regs then 34 else c.regs).toNat : Nat) : Int) = (if 34 > c.regs then 34 else c.regs) := by omega
    have hc := win.wnew_good W c.window.toNat (if 34 > c.regs then 34 else c.regs).toNat (by rw [e1, e2]; exact ⟨h1, h2, h3, h4⟩)
    rw [e1, e2] at hc
    refine hc.mono ?_
    rintro e w ⟨y, rfl, hp⟩
    refine ⟨⟨y.1, fun _ => ⟨⟨y.2.ok, y.2.n, y.2.next, fun i hi => absurd hi (Nat.not_lt_zero _)⟩, by rw [y.2.s]; omega⟩⟩, ?_, ?_⟩
    · rw [pO_t hB, eO_t hB]
    · rw [aO_t hB]; exact hp
  · have hB : c.winB = false := decide_eq_false hb
    refine (win.wnew_bad W _ _ hb).mono ?_
    rintro e w ⟨rfl, hp⟩
    refine ⟨⟨(0, ⟨0, 0, 0, 0, 0, [], 0, 0, []⟩), fun h => by rw [hB] at h; cases h⟩, ?_, ?_⟩
    · rw [pO_f hB, eO_f hB]; rfl
    · rw [aO_f hB]; exact hush_emp hp
def Cf.namB (c : Cf) : Bool := decide (34 ≤ c.regs ∧ c.regs ≤ 128)
theorem rnew_b (c : Cf) (W : World) : Calls Tryz.prog 45 #[.int .i64 c.regs] W fun e w => ∃ a : Nat × Nm, e = .returned (.tuple #[.pointer (pO c.namB a.1), eO c.namB]) ∧ Sep.Post emp W (aO c.namB (nmA a.1 a.2)) w := by
  refine (rnew_any W c.regs).mono ?_
  rintro e w (⟨h, y, rfl, hp⟩ | ⟨h, rfl, hp⟩)
  · have hB : c.namB = true := decide_eq_true h
    exact ⟨y, by rw [pO_t hB, eO_t hB], by rw [aO_t hB]; exact hp⟩
  · have hB : c.namB = false := decide_eq_false h
    exact ⟨(0, ⟨0, 0, [], none, 0, 0, []⟩), by rw [pO_f hB, eO_f hB]; rfl, by rw [aO_f hB]; exact hush_emp hp⟩
def Cf.queB (c : Cf) : Bool := decide (1 ≤ c.queue ∧ c.queue ≤ 32)
theorem qnew_b (c : Cf) (W : World) : Calls Tryz.prog 46 #[.int .i64 c.queue] W fun e w => ∃ a : Nat, e = .returned (.tuple #[.pointer (pO c.queB a), eO c.queB]) ∧ Sep.Post emp W (aO c.queB (lsq.qA a ⟨c.queue.toNat, none, 0, []⟩)) w := by
  by_cases hb : 1 ≤ c.queue ∧ c.queue ≤ 32
  · have hB : c.queB = true := decide_eq_true hb
    have e1 : ((c.queue.toNat : Nat) : Int) = c.queue := by omega
    have hc := lsq.qnew_good W c.queue.toNat (by omega)
    rw [e1] at hc
    refine hc.mono ?_
    rintro e w ⟨y, rfl, hp⟩
    exact ⟨y, by rw [pO_t hB, eO_t hB], by rw [aO_t hB]; exact hp⟩
  · have hB : c.queB = false := decide_eq_false hb
    refine (lsq.qnew_bad W _ hb).mono ?_
    rintro e w ⟨rfl, hp⟩
    exact ⟨0, by rw [pO_f hB, eO_f hB]; rfl, by rw [aO_f hB]; exact hush_emp hp⟩
instance (κ n h t r : Int) : Decidable (predOk κ n h t r) := inferInstanceAs (Decidable (_ ∧ _))
def Cf.preB (c : Cf) : Bool := decide (predOk c.kind c.bits c.hist c.tgts c.rets)
def pr0 : Pr := ⟨.nilIface, 0, 0, 0, 0, #[], 0, [0], 0⟩
theorem pnew_b (c : Cf) (W : World) : Calls Tryz.prog 47 #[.agg (gsC c.kind c.bits c.hist c.tgts c.rets)] W fun e w => ∃ a : { a : Nat × Pr // a.2.Ok }, e = .returned (.tuple #[.pointer (pO c.preB a.1.1), eO c.preB]) ∧ Sep.Post emp W (aO c.preB (predA a.1.1 a.1.2)) w := by
  refine (pnew_any W c.kind c.bits c.hist c.tgts c.rets).mono ?_
  rintro e w (⟨h, y, rfl, hp⟩ | ⟨h, rfl, hp⟩)
  · have hB : c.preB = true := decide_eq_true h
    exact ⟨y, by rw [pO_t hB, eO_t hB], by rw [aO_t hB]; exact hp⟩
  · have hB : c.preB = false := decide_eq_false h
    exact ⟨⟨(0, pr0), ⟨by decide, by decide, by decide, by decide⟩⟩, by rw [pO_f hB, eO_f hB]; rfl, by rw [aO_f hB]; exact hush_emp hp⟩
theorem eO_isNil {ok : Bool} {φ : Bool → Prop} (h : φ ok) : Sx.isNil (eO ok) φ := by cases ok <;> exact h
theorem eO_one {ok : Bool} {φ : Prop} (h : φ) : Sx.one (eO ok) φ := by cases ok <;> exact h
end Go.Proofs.YthacioiefgabbaaGreatDoor
