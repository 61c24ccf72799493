/- A core: parts of a cycle that change nothing. No condition. -/
import Derived.Test.YthacioiefgabbaaGreatDoorCoreG
namespace Go.Proofs.YthacioiefgabbaaGreatDoor
open Go.RowKit Go.XHeap Go.Sx Go.Sep
set_option linter.unusedVariables false
set_option maxRecDepth 100000
variable {W w : World} {x : Nat} {C : KC} {K K' : KS} {L : List Asn} {b j : Nat} {F F' : Fl} {M : Nat → Prop}

theorem core_keep (h : (coreA x C K).at_ W) (H : St W (fun _ => False) w L) : (coreA x C K).at_ w := (coreA x C K).keep h H.touch (fun _ _ e => e)
/-! ### no store waits -/
def wr0 : Array Value := #[.int .u32 0, .int .i64 0, .int .u32 0]
theorem wr0_one : ∀ v ∈ wr0.toList, v.oneCell' = true := by
  intro v hv
  simp only [wr0, List.mem_cons, List.not_mem_nil, or_false] at hv
  rcases hv with rfl | rfl | rfl <;> rfl
theorem oldest_none (h : (coreA x C K).at_ W) : Calls Tryz.prog 79 #[.pointer (some ⟨C.qb, 0, none⟩)] W fun e w => e = .returned (.tuple #[.agg wr0, .bool false]) ∧ Hush W w :=
  lsq.oldest_any (q := ⟨C.Q, none, 0, []⟩) ((core_open h).nth 4 rfl) (fun _ hx => by cases hx)
theorem ended_any (h : (coreA x C K).at_ W) : Calls Tryz.prog 51 #[.pointer (some ⟨x, 0, none⟩)] W fun e w => e = .returned (.bool K.halted) ∧ Hush W w := by
  refine vc51 x 0 ⟨_, (core_open h).ld 0 rfl rfl, (St.nil W).callq (oldest_none h) fun w2 H => ⟨_, _, rfl, H.al fun k w3 H => ?_⟩⟩
  refine H.sts0 0 (vs := wr0) rfl rfl rfl wr0_one fun w4 H => ⟨K.halted, (core_open (core_keep h H)).ld 0 rfl rfl, ?_⟩
  cases hh : K.halted with
  | true => exact split_of (fun _ => ⟨rfl, H.quiet'⟩) (fun q => by cases q)
  | false => exact split_of (fun q => by cases q) (fun _ => ⟨rfl, H.quiet'⟩)
theorem drain_none (h : (coreA x C K).at_ W) : Calls Tryz.prog 78 #[.pointer (some ⟨x, 0, none⟩)] W fun e w => e = .returned (.tuple #[]) ∧ Hush W w := by
  refine vc78 x 0 ⟨_, (core_open h).ld 0 rfl rfl, (St.nil W).callq (oldest_none h) fun w2 H => ⟨_, _, rfl, H.al fun k w3 H => ?_⟩⟩
  exact H.sts0 0 (vs := wr0) rfl rfl rfl wr0_one fun w4 H => split_of (fun _ => ⟨rfl, H.quiet'⟩) (fun q => by cases q)
/-! ### nobody else -/
theorem spoil_none (W : World) (p : Option Addr) (c : Nat) : Calls Tryz.prog 73 #[.pointer (some ⟨x, 0, none⟩), .slice p 0 c] W fun e w => e = .returned (.tuple #[]) ∧ w = W := by
  refine vc73 x 0 p 0 c ⟨fun i o w => i = 0 ∧ o = -1 ∧ w = W, fun _ _ _ => 0, ⟨rfl, rfl, rfl⟩, fun _ => ?_⟩
  rintro i o w ⟨rfl, rfl, rfl⟩
  exact split_of (fun q => absurd (of_decide_eq_true q) (by decide)) (fun _ => split_of (fun q => absurd (of_decide_eq_true q) (by decide)) (fun _ => ⟨rfl, rfl⟩))
theorem snoop_none (W : World) (p : Option Addr) (c : Nat) : Calls Tryz.prog 49 #[.pointer (some ⟨x, 0, none⟩), .slice p 0 c] W fun e w => e = .returned (.tuple #[]) ∧ w = W := by
  refine vc49 x 0 p 0 c ⟨fun i q n c w => i = 0 ∧ q = none ∧ n = 0 ∧ c = 0 ∧ w = W, fun _ _ _ _ _ => 0, ⟨rfl, rfl, rfl, rfl, rfl⟩, fun _ => ?_⟩
  rintro i q n c w ⟨rfl, rfl, rfl, rfl, rfl⟩
  exact split_of (fun q => absurd (of_decide_eq_true q) (by decide)) (fun _ => (spoil_none w none 0).mono fun e w' h => ⟨h.1, h.1 ▸ rfl, h.2⟩)
/-! ### nothing has begun -/
theorem flptrs_one (l : Fls) (d n : Nat) : ∀ u ∈ ((flptrs l).drop d).take n, u.oneCell' = true := by
  intro u hu
  have hu := List.mem_of_mem_drop (List.mem_of_mem_take hu)
  unfold flptrs at hu
  obtain ⟨y, -, rfl⟩ := List.mem_map.1 hu
  rfl
theorem complete_none (h : (coreA x C K).at_ W) (hn : K.n ≤ 100) (hfl : K.d + K.n ≤ K.fl.length) (hi : ∀ (j : Nat) (y : Nat × Fl), K.fl[j]? = some y → y.2.issued = false) :
    Calls Tryz.prog 74 #[.pointer (some ⟨x, 0, none⟩)] W fun e w => e = .returned (.tuple #[]) ∧ Hush W w := by
  have Ho := core_open h
  refine vc74 x 0 ⟨_, _, _, Ho.ld 0 rfl rfl, (St.nil W).calln (clone_fl (Ho.nth 10 rfl) hn (flptrs_one K.fl K.d K.n)) fun z w2 H => ⟨_, _, _, rfl, ?_⟩⟩
  have H : St W (fun _ => False) w2 [sl 236 1 (.slice z.1 K.n z.2) K.n (((flptrs K.fl).drop K.d).take K.n)] := H
  refine ⟨fun i A => ∃ m : Nat, i = m ∧ m ≤ K.n ∧ St W (fun _ => False) A [sl 236 1 (.slice z.1 K.n z.2) K.n (((flptrs K.fl).drop K.d).take K.n)], fun i _ => K.n - i.toNat, ⟨0, rfl, Nat.zero_le _, H⟩, fun _ => ?_⟩
  clear H
  rintro i w3 ⟨m, rfl, hm, H⟩
  refine split_of (fun q => ?_) (fun _ => ⟨rfl, H.quiet'⟩)
  have q := of_decide_eq_true q
  obtain ⟨y, hy⟩ : ∃ y, K.fl[K.d + m]? = some y := ⟨_, List.getElem?_eq_getElem (by omega)⟩
  obtain ⟨g, o, hp, hc⟩ := fl_ptr (H.nth 0 rfl) hy (by omega)
  have hb : Blk w3 y.1 y.2.cells 243 := fl_blk ((core_open (core_keep h H)).nth 11 rfl) hy
  refine ⟨⟨by omega, q⟩, ?_⟩
  rw [hp] at H ⊢
  refine adr_some ⟨_, by rw [ix1]; exact hc, fun _ => False, ptr_some ⟨y.2.issued, by rw [add_none]; exact hb.cell' rfl, ?_⟩, fun _ _ e => e.elim⟩
  rw [hi _ y hy]
  refine split_of (fun _ => H.drN fun w4 H => ?_) (fun q => by cases q)
  rintro z2 rfl
  rw [w64 (by omega) (by omega)]
  exact ⟨⟨m + 1, by omega, by omega, H⟩, by show K.n - ((m : Int) + 1).toNat < K.n - (m : Int).toNat; omega⟩
theorem ready_none (h : (coreA x C K).at_ W) (ho : K.w.Ok) (hn : K.w.n = 0) (c most : Int) :
    Calls Tryz.prog 113 #[.pointer (some ⟨C.wb, 0, none⟩), .int .i64 c, .int .i64 most] W fun e w => ∃ z : Option Addr × Nat, e = .returned (.slice z.1 0 z.2) ∧ Sep.Post emp W (sl 3 1 (.slice z.1 0 z.2) 0 []) w := by
  have e : K.w.readyL c most = [] := by
    unfold win.WS.readyL
    rw [hn, win.rdy_zero, List.take_nil]
  have := win.ready_any ho ((core_open h).nth 2 rfl) (fun k hk => absurd hk (by omega)) c most
  rw [e] at this
  exact this
theorem issue_none (h : (coreA x C K).at_ W) (ho : K.w.Ok) (hn : K.w.n = 0) (hu : 1 ≤ C.c.units) :
    Calls Tryz.prog 76 #[.pointer (some ⟨x, 0, none⟩)] W fun e w => e = .returned (.tuple #[]) ∧ Hush W w := by
  have sm : ∀ (A : World) (z : Option Addr × Nat) (j : Nat) (u : Value), ([] : List Value)[j]? = some u → A.cell? ((⟨0, 0, none⟩ : Addr).add j) = some u := fun _ _ _ _ hj => by cases hj
  refine vc76 x 0 ⟨fun p n c A => n = 0 ∧ St W (fun _ => False) A [sl 3 1 (.slice p 0 c) 0 []], (St.nil W).al fun k w2 H => ?_, fun _ => ?_⟩
  · have H := H.add (A := sl 3 1 (.slice none 0 0) 0 []) ⟨Sl.nil _ _ _, XTouch.refl _ _, fun q e => by cases e⟩
    have H : St W (fun _ => False) w2 [blk k #[.int .i64 0, .int .i64 2, .int .i64 3] 239, sl 3 1 (.slice none 0 0) 0 []] := H
    refine ⟨fun i p n c A => ∃ m : Nat, i = m ∧ m ≤ 3 ∧ n = 0 ∧ St W (fun _ => False) A [blk k #[.int .i64 0, .int .i64 2, .int .i64 3] 239, sl 3 1 (.slice p 0 c) 0 []], fun i _ _ _ _ => 3 - i.toNat, ⟨0, rfl, by decide, rfl, H⟩, fun _ => ?_⟩
    clear H
    rintro i p n c w3 ⟨m, rfl, hm, rfl, H⟩
    refine split_of (fun q => ?_) (fun _ => ⟨rfl, H.pick [1]⟩)
    have q := of_decide_eq_true q
    have hm3 : m = 0 ∨ m = 1 ∨ m = 2 := by omega
    obtain ⟨cl, hcl⟩ : ∃ cl : Int, (#[Value.int .i64 0, .int .i64 2, .int .i64 3] : Array Value)[m]? = some (.int .i64 cl) := by
      rcases hm3 with rfl | rfl | rfl
      · exact ⟨0, rfl⟩
      · exact ⟨2, rfl⟩
      · exact ⟨3, rfl⟩
    refine ⟨⟨by omega, q⟩, cl, by rw [ix1, Nat.zero_add]; exact H.ld 0 rfl hcl, H.dr fun w4 H => ?_⟩
    refine ⟨_, (core_open (core_keep h H)).ld 0 rfl rfl, C.c.units, (core_open (core_keep h H)).ld 0 rfl rfl, H.calln (ready_none (core_keep h H) ho hn cl C.c.units) fun z w5 H => ⟨_, _, _, rfl, ?_⟩⟩
    refine H.app 1 (m := 0) rfl [] ?_ rfl (by intro u hu; cases hu) (by decide) (by decide) fun p' c' w6 H => ?_
    · cases hz : z.1 with
      | none => exact .inl ⟨rfl, rfl⟩
      | some a => exact .inr ⟨a, rfl, fun j u hj => by cases hj⟩
    rintro z3 rfl
    rw [w64 (by omega) (by omega)]
    exact ⟨⟨m + 1, by omega, by omega, rfl, H.take 2⟩, by show 3 - ((m : Int) + 1).toNat < 3 - (m : Int).toNat; omega⟩
  rintro p n c w3 ⟨rfl, H⟩
  refine H.callp (sort_0 _ _ _) ⟨rfl, fun A => ∃ L, St W (fun _ => False) A L, ⟨C.c.units, (core_open (core_keep h H)).ld 0 rfl rfl, ?_⟩, fun _ => ?_⟩
  · have e : (if C.c.units < ((0 : Nat) : Int) then C.c.units else ((0 : Nat) : Int)) = 0 := if_neg (by omega)
    rw [e]
    refine ⟨⟨by decide, by omega⟩, fun i A => i = 0 ∧ A = w3, fun _ _ => 0, ⟨rfl, rfl⟩, fun _ => ?_⟩
    rintro i w4 ⟨rfl, rfl⟩
    exact split_of (fun q => absurd (of_decide_eq_true q) (by decide)) (fun _ => ⟨_, H⟩)
  clear H
  rintro w4 ⟨L4, H⟩
  refine ⟨fun A => ∃ L, St W (fun _ => False) A L, ⟨_, (core_open (core_keep h H)).ld 0 rfl rfl, H.calln (ready_none (core_keep h H) ho hn 1 1) fun z w5 H => ⟨_, _, _, rfl, fun i A => i = 0 ∧ A = w5, fun _ _ => 0, ⟨rfl, rfl⟩, fun _ => ?_⟩⟩, fun _ => ?_⟩
  · rintro i w6 ⟨rfl, rfl⟩
    exact split_of (fun q => absurd (of_decide_eq_true q) (by decide)) (fun _ => ⟨_, H⟩)
  clear H
  rintro w6 ⟨L6, H⟩
  refine ⟨fun A => ∃ L, St W (fun _ => False) A L, ⟨_, (core_open (core_keep h H)).ld 0 rfl rfl, H.calln (ready_none (core_keep h H) ho hn 5 1) fun z w5 H => ⟨_, _, _, rfl, fun i A => i = 0 ∧ A = w5, fun _ _ => 0, ⟨rfl, rfl⟩, fun _ => ?_⟩⟩, fun _ => ?_⟩
  · rintro i w6 ⟨rfl, rfl⟩
    exact split_of (fun q => absurd (of_decide_eq_true q) (by decide)) (fun _ => ⟨_, H⟩)
  clear H
  rintro w8 ⟨L8, H⟩
  refine H.dr fun w9 H => ⟨_, (core_open (core_keep h H)).ld 0 rfl rfl, C.c.window, (core_open (core_keep h H)).ld 0 rfl rfl, H.calln (ready_none (core_keep h H) ho hn 4 C.c.window) fun z w5 H => ⟨_, _, _, rfl, fun i A => i = 0 ∧ A = w5, fun _ _ => 0, ⟨rfl, rfl⟩, fun _ => ?_⟩⟩
  rintro i w6 ⟨rfl, rfl⟩
  exact split_of (fun q => absurd (of_decide_eq_true q) (by decide)) (fun _ => ⟨rfl, H.quiet'⟩)
end Go.Proofs.YthacioiefgabbaaGreatDoor
