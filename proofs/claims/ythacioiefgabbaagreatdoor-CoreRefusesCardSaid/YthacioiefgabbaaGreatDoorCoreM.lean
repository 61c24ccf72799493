/- One core with a bus: cycles. No condition. -/
import Derived.Test.YthacioiefgabbaaGreatDoorCoreL
import Derived.Test.YthacioiefgabbaaGreatDoorCoreVf
import Derived.Test.YthacioiefgabbaaGreatDoorBusH
namespace Go.Proofs.YthacioiefgabbaaGreatDoor
open Go.RowKit Go.XHeap Go.Sx Go.Sep
set_option linter.unusedVariables false
set_option maxRecDepth 100000
variable {W w : World} {x : Nat} {C : KC} {K K' : KS} {L : List Asn} {b j : Nat} {F F' : Fl} {M : Nat → Prop}

/-- a bus that nobody asks, without data -/
structure QB (m : Nat) (B : cbus.BP) (S : cbus.PB) : Prop where
  ok : S.Ok m
  asks : ∀ k, S.asks k = none
  now : S.now = none
  mem : S.mem = []
  gs : B.gs.length = S.Cs.length
theorem QB.tick {m : Nat} {B : cbus.BP} {S : cbus.PB} (h : QB m B S) (hm : m ≤ 100) : S.tick.out = [] ∧ QB (m + 1) B S.tick.S := by
  obtain ⟨t1, t2, -, -⟩ := cbus.tick_ok' h.ok (by omega)
  have hn : S.next = none := by
    unfold cbus.PB.next
    have : (List.range S.Cs.length).find? (fun k => (S.asks (S.turnAt k)).isSome) = none := by
      rw [List.find?_eq_none]
      intro k _
      rw [h.asks]; simp
    rw [this]; rfl
  have ht : S.tick = ⟨S.turn, [], 0⟩ := by
    have hnow : S.turn.now = none := by
      unfold cbus.PB.turn
      rw [if_pos h.now]
      exact hn
    unfold cbus.PB.tick
    rw [hnow]
  have hturn : S.turn = { S with now := S.next, left := S.cyc } := by unfold cbus.PB.turn; rw [if_pos h.now]
  rw [ht] at t1 t2 ⊢
  refine ⟨rfl, t1, ?_, ?_, ?_, by rw [t2]; exact h.gs⟩
  · intro k; show S.turn.asks k = none; rw [hturn]; exact h.asks k
  · show S.turn.now = none; rw [hturn]; exact hn
  · show S.turn.mem = []; rw [hturn]; exact h.mem
/-- where a core stands behind so many cycles -/
def KS.clock (K : KS) (n : Int) : KS := { K with cycle := n }
theorem Fr.clock (h : Fr C K) (n : Int) : Fr C (K.clock n) := ⟨h.pc, h.d, h.n, h.fl, h.w, h.en, h.halted, h.idle, h.S⟩
theorem Ent.clock {m : Nat} (h : Ent C K m) (n : Int) : Ent C (K.clock n) m := ⟨h.m1, h.m2, h.d, h.n, h.len, h.w, h.en, h.halted, h.all, h.one⟩
def At (C : KC) (cyc : Nat) (ended : Bool) (K : KS) : Prop :=
  (cyc = 0 ∧ ended = false ∧ Fr C K) ∨ (cyc = 1 ∧ ended = false ∧ ∃ m, Ent C K m) ∨ (cyc = 2 ∧ ended = true ∧ K.halted = true ∧ K.n = 0)
/-- registers may be read -/
structure Fin (K : KS) : Prop where
  n : K.n ≤ 100
  fl : K.n = 0 ∨ K.d + K.n ≤ K.fl.length
  f : ∀ (j : Nat) (y : Nat × Fl), K.d ≤ j → j < K.d + K.n → K.fl[j]? = some y → y.2.fresh = -1
theorem At.fin {cyc : Nat} {en : Bool} (h : At C cyc en K) : Fin K := by
  rcases h with ⟨-, -, h⟩ | ⟨-, -, m, h⟩ | ⟨-, -, -, h⟩
  · exact ⟨by rw [h.n]; decide, .inl h.n, fun j y h1 h2 _ => absurd h2 (by rw [h.n]; omega)⟩
  · have := h.m2
    exact ⟨by rw [h.n]; omega, .inr (by rw [h.d, h.n, h.len]; omega), fun j y _ _ hy => (h.all j y hy).fresh⟩
  · exact ⟨by rw [h]; decide, .inl h, fun j y h1 h2 _ => absurd h2 (by rw [h]; omega)⟩
theorem committed_fin (h : (coreA x C K).at_ W) (hf : Fin K) (hR : 34 ≤ C.c.regs) (r : Nat) (hr : r < 32) :
    Calls Tryz.prog 52 #[.pointer (some ⟨x, 0, none⟩), .int .i64 r] W fun e w => e = .returned (.int .u32 0) ∧ w = W := by
  rcases hf.fl with h0 | h1
  · have H := core_open h
    refine vc52 x 0 r ⟨_, H.ld 0 rfl rfl, H.callp (look_new (H.nth 3 rfl) r hr) ⟨_, rfl, _, _, _, H.ld 0 rfl rfl, ?_⟩⟩
    rintro z2 rfl
    rw [h0]
    refine ⟨fun i nm A => i = -1 ∧ nm = r ∧ A = W, fun _ _ _ => 0, ⟨by decide, rfl, rfl⟩, fun _ => ?_⟩
    rintro i nm w2 ⟨rfl, rfl, rfl⟩
    refine split_of (fun q => absurd (of_decide_eq_true q) (by decide)) (fun _ => ⟨_, _, _, H.ld 0 rfl rfl, ⟨by omega, by omega⟩, adr_some ⟨0, ?_, rfl, rfl⟩⟩)
    rw [ix1, Nat.zero_add]
    exact H.ld 7 rfl (ints_ok (by rw [List.getElem?_replicate, if_pos (by omega)]))
  · exact committed_any h hf.n h1 hf.f hR r hr
/-! ### a report -/
def repC (en : Bool) (cy : Int) (ev out rg da : Value) : Array Value := #[.bool en, .int .i64 cy, ev, out, rg, da]
theorem rep_one (en : Bool) (cy : Int) {ev out rg da : Value} (h1 : ev.oneCell' = true) (h2 : out.oneCell' = true) (h3 : rg.oneCell' = true) (h4 : da.oneCell' = true) : ∀ v ∈ (repC en cy ev out rg da).toList, v.oneCell' = true := by
  intro v hv
  simp only [repC, List.mem_cons, List.not_mem_nil, or_false] at hv
  rcases hv with rfl | rfl | rfl | rfl | rfl | rfl
  · rfl
  · rfl
  · exact h1
  · exact h2
  · exact h3
  · exact h4
def msr (k : Nat) (w : World) : Nat := match w.cell? ⟨k, 1, none⟩ with
  | some (.int _ z) => (3 - z).toNat
  | _ => 0
theorem msr_at {k : Nat} {z : Int} {κ : IntKind} (h : w.cell? ⟨k, 1, none⟩ = some (.int κ z)) : msr k w = (3 - z).toNat := by unfold msr; rw [h]
def emptyS : Value := .string (ByteArray.mk #[])
/-- what drive is handed -/
def drvL (x : Nat) (C : KC) (K : KS) (B : cbus.BP) (S : cbus.PB) (cp : Option Addr) (cc lb : Nat) : List Asn := [coreA x C K, cbus.busA C.bb B S, sl 84 1 (.slice cp 1 cc) 1 [.pointer (some ⟨x, 0, none⟩)], blk lb #[.slice none 0 0] 57]
/-- a round -/
theorem round_any {cyc : Nat} {en : Bool} (h : (coreA x C K).at_ W) (hG : Good C) (hw : 1 ≤ C.c.width) (hu : 1 ≤ C.c.units) (hA : At C cyc en K) (he : en = false) :
    Calls Tryz.prog 50 #[.pointer (some ⟨x, 0, none⟩)] W fun e w => ∃ K' : { K' : KS // At C (cyc + 1) K'.halted K' }, e = .returned (.tuple #[]) ∧ Sep.Post (coreA x C K) W (coreA x C K'.1) w := by
  rcases hA with ⟨rfl, -, hA⟩ | ⟨rfl, -, m, hA⟩ | ⟨-, rfl, -⟩
  · refine (step_fresh h hG hA hw hu).mono ?_
    rintro e w ⟨K', rfl, hp⟩
    obtain ⟨m, hE⟩ := K'.2
    exact ⟨⟨K'.1, .inr (.inl ⟨rfl, hE.halted, m, hE⟩)⟩, rfl, hp⟩
  · refine (step_break h hG hA hw).mono ?_
    rintro e w ⟨K', rfl, hp⟩
    exact ⟨⟨K'.1, .inr (.inr ⟨rfl, K'.2.1, K'.2.1, K'.2.2⟩)⟩, rfl, hp⟩
  · cases he
theorem At.clock {cyc : Nat} {en : Bool} (h : At C cyc en K) (n : Int) : At C cyc en (K.clock n) := by
  rcases h with ⟨h1, h2, h⟩ | ⟨h1, h2, m, h⟩ | h
  · exact .inl ⟨h1, h2, h.clock n⟩
  · exact .inr (.inl ⟨h1, h2, m, h.clock n⟩)
  · exact .inr (.inr h)
/-- what a run of a good configuration comes to -/
def RunIs (n : Int) (e : Ending) : Prop := ∃ (en : Bool) (cy : Int) (p p2 p3 : Option Addr) (m c c2 c3 : Nat) (s : ByteArray), e = .returned (.agg (repC en cy (.slice p m c) (.string s) (.slice p2 1 c2) (.slice p3 0 c3))) ∧ (en = true ∨ n < 2)
theorem slcore {cp : Option Addr} {cc : Nat} (h : Sl w 84 1 (.slice cp 1 cc) 1 [.pointer (some ⟨x, 0, none⟩)]) : ∃ g o, cp = some ⟨g, o, none⟩ ∧ w.cell? ⟨g, o, none⟩ = some (.pointer (some ⟨x, 0, none⟩)) := by
  obtain ⟨ao, cap, hv, hl, -, -, -, hc⟩ := h.open1
  cases hv
  obtain ⟨g, off, e, -, hcc⟩ := hc (by decide)
  exact ⟨g, off, e, (hcc 0 (by decide)).1⟩
end Go.Proofs.YthacioiefgabbaaGreatDoor
