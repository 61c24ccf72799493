/- The bus, part B: Ask, next, memory, keep. No condition. -/
import Derived.Test.YthacioiefgabbaaGreatDoorBusA
namespace Go.Proofs.YthacioiefgabbaaGreatDoor.cbus
open Go.RowKit Go.XHeap Go.Sx Go.Sep
set_option linter.unusedVariables false
set_option maxRecDepth 100000
variable {W w : World} {b m : Nat} {B : BP} {S S' : PB} {L : List Asn}
/-! ### Ask -/
def PB.asked (S : PB) (core : Int) (a : Nat) (wr : Bool) : PB := { S with asks := fun k => if k = core.toNat then some (a / 16 * 16, wr) else S.asks k }
theorem upd_ask (f : Nat → Option (Nat × Bool)) (k : Nat) (v : Option (Nat × Bool)) : upd (askF f) (k : Int) (askV v) = askF fun j => if j = k then v else f j := by
  funext z
  unfold upd
  by_cases e : z = (k : Int)
  · rw [if_pos e, e, askF_nat, if_pos rfl]
  · rw [if_neg e]
    unfold askF
    split
    · show askV (f z.toNat) = askV (if z.toNat = k then v else f z.toNat)
      rw [if_neg (by omega)]
    · rfl
/-! ### next -/
def PB.turnAt (S : PB) (k : Nat) : Nat := (S.last + 1 + k) % S.Cs.length
def PB.next (S : PB) : Option Nat := ((List.range S.Cs.length).find? fun k => (S.asks (S.turnAt k)).isSome).map S.turnAt
theorem next_of {k : Nat} (hk : k < S.Cs.length) (he : (S.asks (S.turnAt k)).isSome = true) (hnot : ∀ j, j < k → (S.asks (S.turnAt j)).isSome = false) : S.next = some (S.turnAt k) := by
  unfold PB.next
  have : (List.range S.Cs.length).find? (fun k => (S.asks (S.turnAt k)).isSome) = some k := by
    rw [List.find?_eq_some_iff_getElem]
    refine ⟨he, k, by simpa using hk, by simp, fun j hj => ?_⟩
    have := hnot j hj
    simp only [List.getElem_range]
    rw [this]; rfl
  rw [this]; rfl
theorem next_none (hnot : ∀ j, j < S.Cs.length → (S.asks (S.turnAt j)).isSome = false) : S.next = none := by
  unfold PB.next
  rw [List.find?_eq_none.2 (fun k hk => by rw [hnot k (List.mem_range.1 hk)]; decide)]
  rfl
theorem next_ok (ho : S.Ok m) {k : Nat} (h : S.next = some k) : k < S.Cs.length ∧ (S.asks k).isSome = true := by
  unfold PB.next at h
  obtain ⟨j, hj, rfl⟩ := Option.map_eq_some_iff.1 h
  have h1 := List.find?_some hj
  have hn := ho.n
  exact ⟨Nat.mod_lt _ (by omega), h1⟩
theorem next_any (hA : (busA b B S).at_ W) (ho : S.Ok m) :
    Calls Tryz.prog 71 #[.pointer (some ⟨b, 0, none⟩)] W fun e w => e = .returned (.int .i64 (nowI S.next)) ∧ Hush W w := by
  have hn := ho.n
  have hlast := ho.last
  have H := bus_open hA
  refine vc71 b 0 ⟨_, _, _, H.ld 0 rfl rfl, fun x w => ∃ k : Nat, x = k ∧ k ≤ S.Cs.length ∧ (∀ j, j < k → (S.asks (S.turnAt j)).isSome = false) ∧ Hush W w, fun x _ => S.Cs.length - x.toNat, ⟨0, rfl, Nat.zero_le _, fun j hj => by omega, XTouch.refl _ _⟩, fun _ => ?_⟩
  rintro x w ⟨k, rfl, hk, hnot, hh⟩
  refine split_of (fun q => ?_) (fun q => ?_)
  · have q := of_decide_eq_true q
    have H := H.quiet hh
    refine ⟨_, H.ld 0 rfl rfl, ?_⟩
    rintro z2 rfl z3 rfl
    refine ⟨_, _, _, H.ld 0 rfl rfl, by omega, ?_⟩
    rintro z4 rfl w3 k5 rfl
    have et : Int.tmod (IntKind.wrap .i64 (IntKind.wrap .i64 ((S.last : Int) + 1) + (k : Int))) (S.Cs.length : Int) = (S.turnAt k : Nat) := by
      rw [w64 (e := (S.last : Int) + 1) (by omega) (by omega), w64 (by omega) (by omega)]
      rw [show (S.last : Int) + 1 + (k : Int) = ((S.last + 1 + k : Nat) : Int) by omega, Bits.tmod]
      rfl
    rw [et]
    have hA2 : (busA b B S).at_ (w.drewN k5) := (busA b B S).keep ((busA b B S).keep hA hh (fun _ _ e => e)) ((XTouch.refl (fun _ => False) w).drewN k5) (fun _ _ e => e)
    refine (busy_any hA2 _).mono ?_
    rintro e w4 ⟨rfl, hh2⟩
    have hh4 : Hush W w4 := (hh.drewN k5).trans hh2 (fun _ _ e => e)
    have eb : S.busy (S.turnAt k : Nat) = (S.asks (S.turnAt k)).isSome := by
      unfold PB.busy
      rw [askF_nat]
      unfold askV
      cases S.asks (S.turnAt k) <;> rfl
    refine ⟨_, rfl, split_of (fun q3 => ?_) (fun q3 => ?_)⟩
    · rw [eb] at q3
      rw [next_of (by omega) q3 hnot]
      exact ⟨rfl, hh4⟩
    · rw [eb] at q3
      rintro z5 rfl
      rw [w64 (by omega) (by omega)]
      refine ⟨⟨k + 1, by omega, by omega, fun j hj => ?_, hh4⟩, by show S.Cs.length - ((k : Int) + 1).toNat < S.Cs.length - (k : Int).toNat; omega⟩
      by_cases e : j = k
      · rw [e]; exact q3
      · exact hnot j (by omega)
  · have q := of_decide_eq_false q
    rw [next_none fun j hj => hnot j (by omega)]
    exact ⟨rfl, hh⟩
/-! ### memory, keep -/
def putL (l : List Nat) (o : Nat) (v : List Nat) : List Nat := l.take o ++ v ++ l.drop (o + v.length)
def keepM (l : List Nat) (y : Way) : List Nat := if y.state = 3 then putL l (y.line - 65536) y.bytes else l
theorem putL_len {l v : List Nat} {o : Nat} (h : o + v.length ≤ l.length) : (putL l o v).length = l.length := by simp [putL]; omega
theorem keepM_len {l : List Nat} {y : Way} (ho : y.Ok) (hl : y.state ≠ 0 → LineOk l.length y.line) : (keepM l y).length = l.length := by
  unfold keepM
  split
  · rename_i e
    have h := hl (by omega)
    exact putL_len (by rw [ho.len]; unfold LineOk at h; omega)
  · rfl
theorem keepM_byte {l : List Nat} {y : Way} (ho : y.Ok) (hl : ∀ x ∈ l, x < 256) : ∀ x ∈ keepM l y, x < 256 := by
  unfold keepM
  split
  · intro x hx
    unfold putL at hx
    simp only [List.mem_append] at hx
    rcases hx with (hx | hx) | hx
    · exact hl x (List.mem_of_mem_take hx)
    · exact ho.byte x hx
    · exact hl x (List.mem_of_mem_drop hx)
  · exact hl
theorem sl_sets {e : TypeId} {g off n c o : Nat} {xs vs : List Value} (hs : Sl w e 1 (.slice (some ⟨g, off, none⟩) n c) n xs) (hl : o + vs.length ≤ n) :
    Sep.Post (sl e 1 (.slice (some ⟨g, off, none⟩) n c) n xs) w (sl e 1 (.slice (some ⟨g, off, none⟩) n c) n (xs.take o ++ vs ++ xs.drop (o + vs.length))) (w.setCells g (off + o) vs) := by
  obtain ⟨hl0, h⟩ := hs
  rcases h with ⟨h, -⟩ | ⟨g', off', cap, cur, hv, hb, h1, h2, h3, h4⟩
  · cases h
  · simp only [Value.slice.injEq, Option.some.injEq, Addr.mk.injEq, and_true, true_and] at hv
    obtain ⟨⟨rfl, rfl⟩, rfl⟩ := hv
    have hsz : (off + o) + vs.length ≤ cur.size := by omega
    refine ⟨⟨by simp; omega, .inr ⟨g, off, c, splice cur (off + o) vs, rfl, blk_setCells vs w cur _ hb hsz, h1, h2, by rw [splice_size _ _ _ hsz]; exact h3, ?_⟩⟩, (touch_setCells vs w _).mono (fun q _ e => by subst e; rfl), fun q e => .inl e⟩
    apply List.ext_getElem?
    intro i
    by_cases hi : i < n
    · rw [List.getElem?_take_of_lt (by omega), List.getElem?_drop, Array.getElem?_toList, splice_get _ _ _ hsz]
      have hx : xs[i]? = cur[off + i]? := by
        rw [← h4, List.getElem?_take_of_lt (by omega), List.getElem?_drop, Array.getElem?_toList]
      by_cases c1 : i < o
      · rw [if_neg (by omega), List.getElem?_append_left (by simp; omega), List.getElem?_append_left (by simp; omega), List.getElem?_take_of_lt c1, hx]
      · by_cases c2 : i < o + vs.length
        · rw [if_pos ⟨by omega, by omega⟩, List.getElem?_append_left (by simp; omega), List.getElem?_append_right (by simp; omega)]
          congr 1
          simp; omega
        · rw [if_neg (by omega), List.getElem?_append_right (by simp; omega), List.getElem?_drop, ← hx]
          congr 1
          simp; omega
    · rw [List.getElem?_eq_none (by simp; omega), List.getElem?_eq_none (by simp; omega)]
theorem memory_any {cs : Array Value} {p : Option Addr} {c g off : Nat} {l : List Nat} (hr : Blk W b cs 132) (h2 : cs[2]? = some (.slice p l.length c)) (hp : p = some ⟨g, off, none⟩) (hc : l.length ≤ c) (hl : l.length ≤ 4096) {ln : Nat} (hL : LineOk l.length ln) :
    Calls Tryz.prog 102 #[.pointer (some ⟨b, 0, none⟩), .int .u32 ln] W fun e w => e = .returned (.slice (some ⟨g, off + (ln - 65536), none⟩) 16 (c - (ln - 65536))) ∧ w = W := by
  unfold LineOk at hL
  obtain ⟨d, hd⟩ : ∃ d, d = ln - 65536 := ⟨_, rfl⟩
  rw [← hd]
  refine vc102 b 0 ln ?_
  rintro z rfl z2 rfl
  rw [show (ln : Int) - 65536 = (d : Int) by omega, Bits.n32 (by omega), Bits.n64 (by omega)]
  refine ⟨_, _, _, hr.cell' h2, ?_⟩
  rintro z3 rfl
  rw [show (d : Int) + 16 = ((d + 16 : Nat) : Int) by omega, Bits.n64 (by omega)]
  refine ⟨⟨by omega, by omega, by omega⟩, ?_, rfl⟩
  unfold sub
  rw [Int.toNat_natCast, Int.toNat_natCast, if_neg (by omega), hp, Nat.mul_one, show d + 16 - d = 16 by omega, Option.map_some, add_none]
theorem keep_any {cs : Array Value} {p : Option Addr} {c : Nat} {l : List Nat} (hr : Blk W b cs 132) (h2 : cs[2]? = some (.slice p l.length c)) (hm : (memA p c l).at_ W) (hnb : ¬ (memA p c l).own b) (hl : l.length ≤ 4096) {y : Way} (hy : y.Ok) (hL : y.state ≠ 0 → LineOk l.length y.line) :
    Calls Tryz.prog 82 #[.pointer (some ⟨b, 0, none⟩), .agg y.lineC.toArray] W fun e w => e = .returned (.tuple #[]) ∧ Sep.Post (memA p c l) W (memA p c (keepM l y)) w := by
  have hlen := hy.len
  refine vc82 b 0 _ ((St.begin hm).al fun k w2 H => ?_)
  have H : St W (memA p c l).own w2 [memA p c l, blk k y.lineC.toArray 248] := H
  have hr2 : Blk w2 b cs 132 := hr.keep H.touch hnb
  refine ⟨_, H.ld 1 rfl rfl, split_of (fun q => ?_) (fun q => ?_)⟩
  · have q : (y.state : Int) = 3 := by simpa using q
    have q : y.state = 3 := by omega
    have hL := hL (by omega)
    obtain ⟨hc, hm2⟩ := mem_at (H.nth 0 rfl)
    obtain ⟨g, off, rfl, -⟩ := hm2 (by unfold LineOk at hL; omega)
    refine H.dr fun w3 H => ⟨_, H.ld 1 rfl rfl, _, _, _, (memory_any (hr.keep H.touch hnb) h2 rfl hc hl hL), ?_⟩
    refine ⟨u8n y.bytes, by rw [u8n_length, hlen]; rfl, ?_, .inr ⟨⟨_, rfl, ?_⟩, _, _, rfl, ?_⟩, ?_⟩
    · intro v hv
      obtain ⟨x, -, rfl⟩ := List.mem_map.1 hv
      rfl
    · intro j u hu
      rw [add_none]
      refine H.ld 1 rfl ?_
      rw [show 0 + 2 + j = j + 1 + 1 by omega, List.getElem?_toArray]
      unfold Way.lineC lineC
      simpa using hu
    · intro j hj
      rw [u8n_length, hlen] at hj
      obtain ⟨-, hm3⟩ := mem_at (H.nth 0 rfl)
      obtain ⟨g', off', e, h4⟩ := hm3 (by unfold LineOk at hL; omega)
      cases e
      have := h4 (y.line - 65536 + j) (by unfold LineOk at hL; omega)
      rw [← Nat.add_assoc] at this
      exact ⟨⟨_, this.1⟩, this.2⟩
    · rintro w4 rfl
      refine ⟨rfl, ?_⟩
      have H := H.upd 0 rfl (sl_sets (o := y.line - 65536) (vs := u8n y.bytes) (H.nth 0 rfl) (by rw [u8n_length, hlen]; unfold LineOk at hL; omega))
      have e : keepM l y = putL l (y.line - 65536) y.bytes := by unfold keepM; rw [if_pos q]
      have hle := keepM_len hy (l := l) (fun _ => hL)
      have e2 : memA (some ⟨g, off, none⟩) c (keepM l y) = sl 5 1 (.slice (some ⟨g, off, none⟩) l.length c) l.length ((u8n l).take (y.line - 65536) ++ u8n y.bytes ++ (u8n l).drop (y.line - 65536 + (u8n y.bytes).length)) := by
        unfold memA
        rw [hle, e]
        generalize y.line - 65536 = d
        have : u8n (putL l d y.bytes) = (u8n l).take d ++ u8n y.bytes ++ (u8n l).drop (d + (u8n y.bytes).length) := by
          unfold putL u8n
          simp
        rw [this]
      rw [e2]
      exact H.post 0 rfl
  · have q : ¬ (y.state : Int) = 3 := by simpa using q
    have q : y.state ≠ 3 := by omega
    refine ⟨rfl, ?_⟩
    have e : keepM l y = l := by unfold keepM; rw [if_neg q]
    rw [e]
    exact H.post 0 rfl
end Go.Proofs.YthacioiefgabbaaGreatDoor.cbus
