/- The law 'LsqSteps', walked. Condition: the handle of the type 'error'. -/
import Derived.Test.YtngfaiahlblkkaaDoorLsqY
import Derived.Test.YtngfaiahlblkkaaDoorLsqLVc
namespace Go.Proofs.YtngfaiahlblkkaaDoor
open Go.RowKit Go.XHeap Go.Sx Go.Sep Go.Bits
set_option linter.unusedVariables false
set_option maxRecDepth 100000
variable {W A : World} {b rb : Nat} {q : PQ} {r : RQ}

def Scr (W : World) (p : Option Addr) (n : Nat) : Prop := ∀ i, i < n → ∃ g off, p = some ⟨g, off, none⟩ ∧ g < W.heap.size ∧ ∃ o0 o1 o2 o3 : Int, ∀ j v, (#[.int .i64 o0, .int .i64 o1, .int .i64 o2, .int .i64 o3] : Array Value)[j]? = some v → W.cell? ⟨g, off + i * 4 + j, none⟩ = some v
def Q2 (W : World) (b rb : Nat) (A : World) : Prop := ∃ (q : PQ) (r : RQ), R2 q r ∧ St W No A [qA b q, rA rb r]
theorem Q2.of {kb : Nat} {cs : Array Value} {t : TypeId} (h : R2 q r) (H : St W No A [qA b q, rA rb r, blk kb cs t]) : Q2 W b rb A := ⟨q, r, h, H.take 2⟩
theorem newEn_ok {s : Int} (hs : 0 ≤ s) (st : Bool) : (newEn s st).Ok := ⟨by show 0 < _; decide, by show 0 < _; decide, .inl rfl, by show 0 + 0 ≤ _; decide, (fun e => by cases e), (fun _ => ⟨rfl, rfl⟩), (fun e => by cases e), (fun e => by cases e), hs⟩
theorem enter_good {l : List En} (h : Good l) {S : Nat} {s : Int} (he : enterE S l s = none) (st : Bool) : Good (l ++ [newEn s st]) ∧ l.length ≠ S := by
  unfold enterE at he
  split at he
  · cases he
  · rename_i hno
    split at he
    · cases he
    · rename_i hS
      have h0 : 0 ≤ s := Int.not_lt.1 (fun e => hno (.inl e))
      have hlt : ∀ e ∈ l, e.seq < s := by
        intro e hm
        obtain ⟨i, hi, rfl⟩ := List.getElem_of_mem hm
        have hl : lateE l s = false := Bool.eq_false_iff.2 (fun e => hno (.inr e))
        unfold lateE at hl
        rw [List.getLast?_eq_getElem?, List.getElem?_eq_getElem (show l.length - 1 < l.length by omega)] at hl
        have hl : ¬ s ≤ (l[l.length - 1]).seq := of_decide_eq_false hl
        by_cases e : i = l.length - 1
        · subst e; omega
        · have := (List.pairwise_iff_getElem.1 h.ord i (l.length - 1) hi (by omega) (by omega)).1
          omega
      refine ⟨⟨List.pairwise_append.2 ⟨h.ord, List.pairwise_singleton _ _, fun a ha b hb => ?_⟩, fun e he => ?_⟩, hS⟩
      · rw [List.mem_singleton.1 hb]
        exact ⟨hlt a ha, fun e => by cases e⟩
      · rcases List.mem_append.1 he with he | he
        · exact h.ok e he
        · rw [List.mem_singleton.1 he]; exact newEn_ok h0 st
theorem retire_good {l : List En} (h : Good l) {k : Nat} {e : En} (hk : l.findIdx? (fun e => !e.retired) = some k) (hx : l[k]? = some e) (ho : ({ e with retired := true } : En).Ok) : Good (l.set k { e with retired := true }) := by
  obtain ⟨e', he', -, hnot⟩ := rpos_some hk
  have hkl := (List.getElem?_eq_some_iff.1 hx).1
  refine ⟨?_, fun x hx => (List.mem_or_eq_of_mem_set hx).elim (h.ok x) (fun e => e ▸ ho)⟩
  rw [List.pairwise_iff_getElem]
  intro i j hi hj hij
  rw [List.length_set] at hi hj
  have hR := List.pairwise_iff_getElem.1 h.ord i j hi hj hij
  obtain ⟨hl, hek⟩ := List.getElem?_eq_some_iff.1 hx
  rw [List.getElem_set, List.getElem_set]
  by_cases ei : k = i
  · subst ei
    rw [if_pos rfl, if_neg (by omega)]
    refine ⟨?_, fun _ => rfl⟩
    show e.seq < _
    have := hR.1
    rw [hek] at this; exact this
  · rw [if_neg ei]
    by_cases ej : k = j
    · subst ej
      rw [if_pos rfl]
      refine ⟨?_, fun _ => ?_⟩
      · show _ < e.seq
        have := hR.1
        rw [hek] at this; exact this
      · have := hnot i l[i] hij (List.getElem?_eq_getElem hi)
        simpa using this
    · rw [if_neg ej]
      exact hR
theorem retire_facts {s : Int} {es : Ens} {k : Nat} (h : retireR s es = .ret k) : (es.map (·.2)).findIdx? (fun e => !e.retired) = some k ∧ ∃ x, es[k]? = some x ∧ x.2.store = true ∧ x.2.placed = true ∧ x.2.valued = true := by
  unfold retireR at h
  rw [posOf_ens] at h
  split at h
  · cases h
  · rename_i k2 hp
    split at h
    · cases h
    · rename_i x hx
      unfold retE at h
      split at h
      · cases h
      · split at h
        · rename_i h3
          cases h
          rw [Bool.and_eq_true, Bool.and_eq_true] at h3
          exact ⟨hp, x, hx, h3.1.1, h3.1.2, h3.2⟩
        · split at h <;> cases h
theorem map_erase {α β : Type} (f : α → β) : ∀ (l : List α) (k : Nat), (l.eraseIdx k).map f = (l.map f).eraseIdx k
  | [], _ => rfl
  | _ :: _, 0 => rfl
  | x :: l, k + 1 => by
    show f x :: (l.eraseIdx k).map f = f x :: (l.map f).eraseIdx k
    rw [map_erase f l k]
set_option maxHeartbeats 4000000 in
theorem steps_ok {W : World} (h1 : 1 ≤ W.heap.size) (hE : HErr W) (a0 : Int) (p : Option Addr) (n c : Nat) (hS : Scr W p n) :
    Calls Tryd.prog 4 #[.int .i64 a0, .slice p n c] W fun e w => e = .returned (.bool true) ∧ Hush W w := by
  have EE : ∀ {w : World} {L : List Asn}, St W No w L → HErr w := fun H => (H.touch.cell (p := ⟨0, 0, none⟩) (by show 0 < W.heap.size; omega) (fun e => e)).trans hE
  refine vc4 a0 p n c ?_
  by_cases hw : 1 ≤ a0 ∧ a0 ≤ 32
  · obtain ⟨S, rfl⟩ : ∃ S : Nat, a0 = S := ⟨a0.toNat, by omega⟩
    have hS0 : 1 ≤ S ∧ S ≤ 32 := by omega
    have H := St.nil W
    refine H.calln (qnew_good W S hS0) fun b W2 H => ⟨_, _, rfl, ?_⟩
    refine H.calln (rnew_good W2 S hS0) fun rb W3 H => ⟨_, _, rfl, ?_⟩
    have H : St W No W3 [qA b ⟨S, none, 0, []⟩, rA rb ⟨S, none, 0, []⟩] := H
    refine H.callq (told_nil_any W3) fun W4 H => ⟨_, rfl, split_of (fun q => by cases q) (fun _ => split_of (fun q => by cases q) (fun _ => ?_))⟩
    have hR0 : R2 ⟨S, none, 0, []⟩ ⟨S, none, 0, []⟩ := ⟨⟨List.Pairwise.nil, fun e he => by cases he⟩, Nat.zero_le _, hS0.2, rfl, trivial⟩
    refine ⟨fun i nx ok A => ∃ N : Nat, i = N ∧ ok = true ∧ N ≤ 4096 ∧ Q2 W b rb A, fun i _ _ _ => 4096 - i.toNat, ⟨0, rfl, rfl, by omega, _, _, hR0, H⟩, fun _ => ?_⟩
    clear H hR0
    rintro i nx ok A ⟨N, rfl, rfl, hN, q, r, hR, H⟩
    refine split_of (fun q1 => split_of (fun q2 => split_of (fun _ => ?_) (fun q => by cases q)) (fun q2 => ⟨rfl, H.touch⟩)) (fun q1 => ⟨rfl, H.touch⟩)
    have q1 := of_decide_eq_true q1
    have q2 := of_decide_eq_true q2
    obtain ⟨g, off, hp, hg, o0, o1, o2, o3, hop⟩ := hS N (by omega)
    refine ⟨⟨by omega, q1⟩, adr_eq hp ⟨#[.int .i64 o0, .int .i64 o1, .int .i64 o2, .int .i64 o3], rfl, fun j v hj => ?_, ?_⟩⟩
    · rw [add_none, Int.toNat_natCast]
      exact (H.touch.cell (p := ⟨g, off + N * 4 + j, none⟩) hg (fun e => e)).trans (hop j v hj)
    refine H.al fun kb B H => H.sts0 2 rfl rfl rfl (by intro v hv; simp at hv; rcases hv with rfl | rfl | rfl | rfl <;> rfl) fun C H => ?_
    have H : St W No C [qA b q, rA rb r, blk kb #[.int .i64 o0, .int .i64 o1, .int .i64 o2, .int .i64 o3] 53] := H
    have hn := hR.n32
    have hrn := hR.r32
    rintro z2 -
    refine ⟨o1, H.ld 2 rfl rfl, ?_⟩
    rintro z4 -
    obtain ⟨u2, hu2⟩ : ∃ u2 : Nat, IntKind.wrap .u32 o2 = u2 := ⟨(o2 % 4294967296).toNat, by rw [w32m]; omega⟩
    have hu2b : u2 < 4294967296 := by rw [w32m] at hu2; omega
    refine ⟨fun ok nx D => ok = true ∧ Q2 W b rb D, ?_, fun _ => ?_⟩
    · refine ⟨o0, H.ld 2 rfl rfl, split_of (fun _ => ?_) (fun _ => split_of (fun _ => ?_) (fun _ => split_of (fun _ => ?_) (fun _ => split_of (fun _ => ?_) (fun _ => split_of (fun _ => ?_) (fun _ => split_of (fun _ => ?_) (fun _ => split_of (fun _ => ?_) (fun _ => split_of (fun _ => ?_) (fun _ => split_of (fun _ => ?_) (fun _ => ⟨rfl, Q2.of hR H⟩)))))))))⟩
      · refine ⟨o3, H.ld 2 rfl rfl, ?_⟩
        rintro z7 -
        refine ⟨o2, H.ld 2 rfl rfl, ?_⟩
        refine (enter_any (H.nth 0 rfl) hn z7 (o2 == 1)).mono ?_
        intro e D hpp
        have two := fun {E : World} (h : (rA rb r).at_ E) => renter_any h hrn z7 (o2 == 1)
        have hag := enter_agree hR z7
        unfold EnterPost at hpp
        cases he : enterE q.size (ens q) z7 with
        | some m =>
          rw [he] at hpp hag
          obtain ⟨rfl, hP⟩ := hpp
          have H := H.upd 0 rfl hP
          refine ⟨_, rfl, o2, H.ld 2 rfl rfl, (two (H.nth 1 rfl)).mono ?_⟩
          intro e E hpp
          unfold rEnterPost at hpp
          rw [hag] at hpp
          obtain ⟨rfl, hP⟩ := hpp
          have H := H.upd 1 rfl hP
          refine ⟨_, rfl, H.callq (told_err_any E (EE H) m) fun F H => ⟨_, rfl, split_of (fun _ z11 _ => ⟨rfl, Q2.of hR H⟩) (fun _ => ⟨rfl, Q2.of hR H⟩)⟩⟩
        | none =>
          rw [he] at hpp hag
          obtain ⟨rfl, k, p2, c2, hP⟩ := hpp
          have H := H.upd 0 rfl hP
          refine ⟨_, rfl, o2, H.ld 2 rfl rfl, (two (H.nth 1 rfl)).mono ?_⟩
          intro e E hpp
          unfold rEnterPost at hpp
          rw [hag] at hpp
          obtain ⟨rfl, p3, c3, hP⟩ := hpp
          have H := H.upd 1 rfl hP
          obtain ⟨hg2, hne⟩ := enter_good hR.good he (o2 == 1)
          have hne : q.es.length ≠ q.size := by rw [show (ens q).length = q.es.length by simp [ens]] at hne; exact hne
          have hR' : R2 { q with p := p2, cap := c2, es := q.es ++ [(k, newEn z7 (o2 == 1))] } { r with p := p3, cap := c3, L := r.L ++ [newEn z7 (o2 == 1)] } := by
            have e1 : (q.es ++ [(k, newEn z7 (o2 == 1))]).map (·.2) = ens q ++ [newEn z7 (o2 == 1)] := by rw [List.map_append]; rfl
            refine ⟨?_, ?_, hR.s32, hR.size, ?_⟩
            · show Good ((q.es ++ [(k, newEn z7 (o2 == 1))]).map (·.2))
              rw [e1]; exact hg2
            · show (q.es ++ [(k, newEn z7 (o2 == 1))]).length ≤ q.size
              rw [List.length_append]
              have := hR.len
              show q.es.length + 1 ≤ q.size
              omega
            · show Sim ((q.es ++ [(k, newEn z7 (o2 == 1))]).map (·.2)) (r.L ++ [newEn z7 (o2 == 1)])
              rw [e1]
              exact hR.sim.app ⟨⟨rfl, fun _ _ => rfl, fun _ _ _ => rfl⟩, trivial⟩
          refine ⟨_, rfl, H.callq (told_nil_any E) fun F H => ⟨_, rfl, split_of (fun _ z11 _ => ⟨rfl, Q2.of hR' H⟩) (fun _ => ⟨rfl, Q2.of hR' H⟩)⟩⟩
      · refine ⟨o2, H.ld 2 rfl rfl, ?_⟩
        rintro z13 rfl
        rw [hu2]
        refine ⟨o3, H.ld 2 rfl rfl, ?_⟩
        refine (addr_any (H.nth 0 rfl) hR.oks hn z4 u2 hu2b o3).mono ?_
        intro e D hpp
        have two := fun {E : World} (h : (rA rb r).at_ E) => raddr_any h hR.roks hrn z4 u2 hu2b o3
        have hag := addr_agree hR z4 u2 o3
        unfold AddrPost at hpp
        cases he : addrR z4 u2 o3 q.es with
        | err m =>
          rw [he] at hpp hag
          obtain ⟨rfl, hP⟩ := hpp
          have H := H.upd 0 rfl hP
          refine ⟨_, _, rfl, o2, H.ld 2 rfl rfl, ?_⟩
          rintro z17 rfl
          rw [hu2]
          rintro z18 rfl
          rw [n64 (by omega)]
          refine ⟨o3, H.ld 2 rfl rfl, (two (H.nth 1 rfl)).mono ?_⟩
          intro e E hpp
          unfold rAddrPost at hpp
          rw [hag] at hpp
          obtain ⟨rfl, hP⟩ := hpp
          have H := H.upd 1 rfl hP
          exact ⟨_, _, rfl, H.callq (told_err_any E (EE H) m) fun F H => ⟨_, rfl, split_of (fun _ => ⟨rfl, Q2.of hR H⟩) (fun q => by cases q)⟩⟩
        | ok k =>
          rw [he] at hpp hag
          obtain ⟨x, hx, rfl, hP⟩ := hpp
          have H := H.upd 0 rfl hP
          refine ⟨_, _, rfl, o2, H.ld 2 rfl rfl, ?_⟩
          rintro z17 rfl
          rw [hu2]
          rintro z18 rfl
          rw [n64 (by omega)]
          refine ⟨o3, H.ld 2 rfl rfl, (two (H.nth 1 rfl)).mono ?_⟩
          intro e E hpp
          unfold rAddrPost at hpp
          rw [hag] at hpp
          obtain ⟨x2, hx2, rfl, hP⟩ := hpp
          have H := H.upd 1 rfl hP
          obtain ⟨x3, hx3, hsx⟩ := hR.get hx
          rw [hx2] at hx3
          cases hx3
          have hxo := hR.oks x (List.mem_of_getElem? hx)
          have hsz : (o3 = 1 ∨ o3 = 2 ∨ o3 = 4) ∧ (u2 : Int) % o3 = 0 ∧ x.2.placed = false := by
            unfold addrR at he
            split at he
            · cases he
            · split at he
              · cases he
              · rename_i x5 hx5
                split at he
                · cases he
                · rename_i hpl
                  split at he
                  · rename_i hc
                    cases he
                    rw [hx] at hx5
                    cases hx5
                    exact ⟨hc.1, hc.2, Bool.eq_false_iff.2 hpl⟩
                  · cases he
          have ho' : ({ x.2 with placed := true, addr := u2, size := o3.toNat } : En).Ok := by
            obtain ⟨h2, h3, h4⟩ := hsz
            refine ⟨hu2b, hxo.data, ?_, ?_, fun _ => ?_, (fun e => by cases e), fun e => ⟨rfl, (hxo.load e).2⟩, fun e => ⟨(hxo.ret e).1, rfl, (hxo.ret e).2.2⟩, hxo.pos⟩
            · show o3.toNat = 0 ∨ o3.toNat = 1 ∨ o3.toNat = 2 ∨ o3.toNat = 4
              omega
            · show u2 + o3.toNat ≤ 4294967296
              rcases h2 with rfl | rfl | rfl <;> omega
            · show o3.toNat ≠ 0
              omega
          have hR' := hR.set (e' := { x.2 with placed := true, addr := u2, size := o3.toNat }) (e2 := { x2 with placed := true, addr := u2, size := o3.toNat }) hx hx2 ⟨by
            show ({ core x.2 with placed := true, addr := u2, size := o3.toNat } : En) = { core x2 with placed := true, addr := u2, size := o3.toNat }
            rw [hsx.1], fun c hc => by
            have hc : c < o3.toNat := hc
            exact hsx.2.2 (Bool.eq_false_iff.2 fun e => by have := (hxo.load e).1; rw [hsz.2.2] at this; cases this) c (by omega), fun e => hsx.2.2 e⟩ ho' rfl
          refine ⟨_, _, rfl, H.callq (told_nil_any E) fun F H => ⟨_, rfl, split_of (fun _ => ?_) (fun q => by cases q)⟩⟩
          rw [ahead_agree hR z4 u2 o3.toNat k hsx, beq_self_eq_true]
          exact ⟨rfl, Q2.of hR' H⟩
      · refine ⟨o2, H.ld 2 rfl rfl, ?_⟩
        rintro z23 rfl
        rw [hu2]
        refine (value_any (H.nth 0 rfl) hn z4 u2).mono ?_
        intro e D hpp
        have two := fun {E : World} (h : (rA rb r).at_ E) => rvalue_any h hrn z4 u2
        have hag := value_agree hR z4
        unfold ValuePost at hpp
        cases he : valueK z4 q.es with
        | none =>
          rw [he] at hpp hag
          obtain ⟨rfl, hP⟩ := hpp
          have H := H.upd 0 rfl hP
          refine ⟨_, rfl, o2, H.ld 2 rfl rfl, ?_⟩
          rintro z25 rfl
          rw [hu2]
          refine (two (H.nth 1 rfl)).mono ?_
          intro e E hpp
          unfold rValuePost at hpp
          rw [hag] at hpp
          obtain ⟨rfl, hP⟩ := hpp
          have H := H.upd 1 rfl hP
          exact ⟨_, rfl, H.callq (told_err_any E (EE H) 7) fun F H => ⟨_, rfl, rfl, Q2.of hR H⟩⟩
        | some k =>
          rw [he] at hpp hag
          obtain ⟨rfl, x, hx, hP⟩ := hpp
          have H := H.upd 0 rfl hP
          refine ⟨_, rfl, o2, H.ld 2 rfl rfl, ?_⟩
          rintro z25 rfl
          rw [hu2]
          refine (two (H.nth 1 rfl)).mono ?_
          intro e E hpp
          unfold rValuePost at hpp
          rw [hag] at hpp
          obtain ⟨rfl, x2, hx2, hP⟩ := hpp
          have H := H.upd 1 rfl hP
          obtain ⟨x3, hx3, hsx⟩ := hR.get hx
          rw [hx2] at hx3
          cases hx3
          have hxo := hR.oks x (List.mem_of_getElem? hx)
          have ho' : ({ x.2 with valued := true, data := u2 } : En).Ok := ⟨hxo.addr, hu2b, hxo.size, hxo.fits, hxo.siz, hxo.free, hxo.load, fun e => ⟨(hxo.ret e).1, (hxo.ret e).2.1, rfl⟩, hxo.pos⟩
          have hR' := hR.set (e' := { x.2 with valued := true, data := u2 }) (e2 := { x2 with valued := true, data := u2 }) hx hx2 ⟨by
            show ({ core x.2 with valued := true, data := u2 } : En) = { core x2 with valued := true, data := u2 }
            rw [hsx.1], hsx.2⟩ ho' rfl
          exact ⟨_, rfl, H.callq (told_nil_any E) fun F H => ⟨_, rfl, rfl, Q2.of hR' H⟩⟩
      · refine ⟨o2, H.ld 2 rfl rfl, (search_any (H.nth 0 rfl) hR.oks hn z4 (o2 == 1)).mono ?_⟩
        rintro e D ⟨hpp, hh⟩
        have H := H.quiet hh
        have hag := load_agree hR z4
        have three : ∀ {v1 v2 : Array Value} {v : Value} {m : Int} {E : World}, (∃ (t : Bool) (x d : Int), v1 = #[.bool t, .int .i64 x, .int .u32 d]) → v2 = v1 → ((v = .nilIface ∧ m = 0) ∨ (v = errN m)) → St W No E [qA b q, rA rb r, blk kb #[.int .i64 o0, .int .i64 o1, .int .i64 o2, .int .i64 o3] 53] →
            rSearchPost z4 (o2 == 1) r.L (.returned (.tuple #[.agg v2, .int .i64 m])) → ∀ (k5 : Nat) (W18 : World), k5 = E.heap.size → W18 = E.alloc (.cells #[.bool false, .int .i64 0, .int .u32 0] 63) → (v1.size = 3 ∧ (∀ j : Nat, j < 3 → (∃ v, W18.cell? ⟨k5, 0 + j, none⟩ = some v) ∧ W18.frozen? ⟨k5, 0 + j, none⟩ = false) ∧ (∀ v : Value, v ∈ v1.toList → v.oneCell' = true) ∧ ∀ W19 : World, W19 = W18.setCells k5 0 v1.toList → ∃ z28 : Int, W19.cell? ⟨kb, 0 + 2, none⟩ = some (.int .i64 z28) ∧ Calls Tryd.prog 23 #[.pointer (some ⟨rb, 0, none⟩), .int .i64 z4, .bool (z28 == 1)] W19 fun e14 W20 => ∃ (vs3 : Array Value) (z29 : Int), e14 = .returned (.tuple #[.agg vs3, .int .i64 z29]) ∧ ∀ (k7 : Nat) (W21 : World), k7 = W20.heap.size → W21 = W20.alloc (.cells #[.bool false, .int .i64 0, .int .u32 0] 66) → (vs3.size = 3 ∧ (∀ j : Nat, j < 3 → (∃ v, W21.cell? ⟨k7, 0 + j, none⟩ = some v) ∧ W21.frozen? ⟨k7, 0 + j, none⟩ = false) ∧ (∀ v : Value, v ∈ vs3.toList → v.oneCell' = true) ∧ ∀ W22 : World, W22 = W21.setCells k7 0 vs3.toList → Calls Tryd.prog 15 #[v, .int .i64 z29] W22 fun e15 W23 => ∃ t5 : Bool, e15 = .returned (.bool t5) ∧ ∃ vs4 : Array Value, vs4.size = 3 ∧ cellsAt W23 ⟨k5, 0, none⟩ vs4 ∧ ∃ vs5 : Array Value, vs5.size = 3 ∧ cellsAt W23 ⟨k7, 0, none⟩ vs5 ∧ Calls Tryd.prog 24 #[.agg vs4, .agg vs5] W23 fun e16 W24 => ∃ t6 : Bool, e16 = .returned (.bool t6) ∧ Sx.split t5 (t6 = true ∧ Q2 W b rb W24) (false = true ∧ Q2 W b rb W24))) := by
          rintro v1 v2 v m E ⟨t, x, d, rfl⟩ rfl hv H hpr
          have one : ∀ u ∈ (#[Value.bool t, .int .i64 x, .int .u32 d] : Array Value).toList, u.oneCell' = true := by intro u hu; simp at hu; rcases hu with rfl | rfl | rfl <;> rfl
          refine H.al fun k5 F H => H.sts0 3 rfl rfl rfl one fun G H => ⟨o2, H.ld 2 rfl rfl, (rsearch_any (H.nth 1 rfl) hR.roks hrn z4 (o2 == 1)).mono ?_⟩
          rintro e I ⟨hpp, hh⟩
          have H := H.quiet hh
          have : e = .returned (.tuple #[.agg #[.bool t, .int .i64 x, .int .u32 d], .int .i64 m]) := by
            unfold rSearchPost at hpp hpr
            cases hl : rloadK z4 r.L with
            | none => rw [hl] at hpp hpr; rw [hpp, hpr]
            | some k =>
              rw [hl] at hpp hpr
              obtain ⟨y, hy, rfl⟩ := hpp
              obtain ⟨y2, hy2, e2⟩ := hpr
              rw [hy] at hy2
              cases hy2
              exact e2.symm
          subst this
          refine ⟨_, _, rfl, H.al fun k7 J H => H.sts0 4 rfl rfl rfl one fun K H => ?_⟩
          have hT : Calls Tryd.prog 15 #[v, .int .i64 m] K fun e w2 => e = .returned (.bool true) ∧ Hush K w2 := by
            rcases hv with ⟨rfl, rfl⟩ | rfl
            · exact told_nil_any K
            · exact told_err_any K (EE H) m
          refine H.callq hT fun M H => ⟨_, rfl, _, rfl, H.cells 3 rfl, _, rfl, H.cells 4 rfl, H.callq (found_any M t x d) fun O H => ⟨_, rfl, split_of (fun _ => ⟨rfl, q, r, hR, H.take 2⟩) (fun q => by cases q)⟩⟩
        unfold SearchPost at hpp
        cases hl : loadP z4 q.es with
        | none =>
          rw [hl] at hpp hag
          subst hpp
          exact ⟨_, _, rfl, three ⟨_, _, _, rfl⟩ rfl (.inr rfl) H (by unfold rSearchPost; rw [hag])⟩
        | some k =>
          rw [hl] at hpp hag
          obtain ⟨x, hx, rfl⟩ := hpp
          obtain ⟨e2, he2, hsx⟩ := hR.get hx
          refine ⟨_, _, rfl, three ?_ rfl (.inl ⟨rfl, rfl⟩) H (by unfold rSearchPost; rw [hag]; exact ⟨e2, he2, by rw [search_agree hR _ hsx]⟩)⟩
          unfold searchV
          split
          · exact ⟨_, _, _, rfl⟩
          · split
            · exact ⟨_, _, _, rfl⟩
            · exact ⟨_, _, _, rfl⟩
      · refine (loaded_any (H.nth 0 rfl) hR.oks hn z4).mono ?_
        intro e D hpp
        have hag : rtakeK z4 r.L = loadedK z4 q.es := by
          unfold rtakeK loadedK
          rw [load_agree hR]
          cases hl : loadP z4 q.es with
          | none => rfl
          | some k =>
            obtain ⟨x, hx, -, -⟩ := load_some hl
            obtain ⟨e2, he2, hsx⟩ := hR.get hx
            dsimp only
            rw [hx, he2]
            dsimp only
            have h2 : ∀ c, (srcs ((q.es.map (·.2)).take k) x.2.addr x.2.size c).map core = (srcs (r.L.take k) e2.addr e2.size c).map core := fun c => by
              rw [hsx.addr, hsx.size]
              exact (take_sim hR k).srcs _ _ c
            rw [wait_of h2, hsx.loaded]
            simp only [Or.comm]
        unfold LoadedPost at hpp
        cases he : loadedK z4 q.es with
        | none =>
          rw [he] at hpp hag
          obtain ⟨rfl, hP⟩ := hpp
          have H := H.upd 0 rfl hP
          refine ⟨_, rfl, (take_any (H.nth 1 rfl) hR.roks hrn z4).mono ?_⟩
          intro e E hpp
          unfold rTakePost at hpp
          rw [hag] at hpp
          obtain ⟨rfl, hP⟩ := hpp
          have H := H.upd 1 rfl hP
          exact ⟨_, rfl, H.callq (told_err_any E (EE H) 7) fun F H => ⟨_, rfl, rfl, Q2.of hR H⟩⟩
        | some k =>
          rw [he] at hpp hag
          obtain ⟨rfl, x, hx, hP⟩ := hpp
          have H := H.upd 0 rfl hP
          refine ⟨_, rfl, (take_any (H.nth 1 rfl) hR.roks hrn z4).mono ?_⟩
          intro e E hpp
          unfold rTakePost at hpp
          rw [hag] at hpp
          obtain ⟨rfl, x2, hx2, hP⟩ := hpp
          have H := H.upd 1 rfl hP
          obtain ⟨x3, hx3, hsx⟩ := hR.get hx
          rw [hx2] at hx3
          cases hx3
          have hxo := hR.oks x (List.mem_of_getElem? hx)
          have hpl : x.2.store = false ∧ x.2.placed = true := by
            unfold loadedK at he
            cases hl : loadP z4 q.es with
            | none => rw [hl] at he; cases he
            | some k2 =>
              rw [hl] at he
              obtain ⟨y, hy, h1, h2⟩ := load_some hl
              have he : (match q.es[k2]? with | none => none | some x => if x.2.loaded = true ∨ waitF (srcs ((q.es.map (·.2)).take k2) x.2.addr x.2.size) = true then none else some k2) = some k := he
              rw [hy] at he
              dsimp only at he
              split at he
              · cases he
              · cases he
                rw [hx] at hy
                cases hy
                exact ⟨h1, h2⟩
          have ho' : (x.2.withFr (srcs ((ens q).take k) x.2.addr x.2.size)).Ok := ⟨hxo.addr, hxo.data, hxo.size, hxo.fits, hxo.siz, hxo.free, fun _ => ⟨hpl.2, hpl.1⟩, hxo.ret, hxo.pos⟩
          have hR' := hR.set hx hx2 (fr_sim hR hx hsx) ho' rfl
          exact ⟨_, rfl, H.callq (told_nil_any E) fun F H => ⟨_, rfl, rfl, Q2.of hR' H⟩⟩
      · refine ⟨fun x4 D => St W No D [qA b q, rA rb r, blk kb #[.int .i64 o0, .int .i64 o1, .int .i64 o2, .int .i64 o3] 53], ⟨o2, H.ld 2 rfl rfl, split_of (fun _ => (lfirst_any (H.nth 1 rfl) hrn).mono (by rintro e D ⟨rfl, rfl⟩; exact ⟨_, rfl, H⟩)) (fun _ => H)⟩, fun _ => ?_⟩
        clear H
        intro x4 D H
        refine (retire_any (H.nth 0 rfl) hn x4).mono ?_
        intro e E hpp
        have two := fun {E : World} (h : (rA rb r).at_ E) => rretire_any h hrn x4
        have hag := retire_agree hR x4
        unfold RetirePost at hpp
        cases he : retireR x4 q.es with
        | err m =>
          rw [he] at hpp hag
          obtain ⟨rfl, hP⟩ := hpp
          have H := H.upd 0 rfl hP
          refine ⟨_, rfl, (two (H.nth 1 rfl)).mono ?_⟩
          intro e F hpp
          unfold rRetirePost at hpp
          rw [hag] at hpp
          obtain ⟨rfl, hP⟩ := hpp
          have H := H.upd 1 rfl hP
          exact ⟨_, rfl, H.callq (told_err_any F (EE H) m) fun G H => ⟨_, rfl, rfl, Q2.of hR H⟩⟩
        | ret k =>
          rw [he] at hpp hag
          obtain ⟨rfl, x, hx, hP⟩ := hpp
          have H := H.upd 0 rfl hP
          refine ⟨_, rfl, (two (H.nth 1 rfl)).mono ?_⟩
          intro e F hpp
          unfold rRetirePost at hpp
          rw [hag] at hpp
          obtain ⟨rfl, x2, hx2, hP⟩ := hpp
          have H := H.upd 1 rfl hP
          obtain ⟨x3, hx3, hsx⟩ := hR.get hx
          rw [hx2] at hx3
          cases hx3
          have hxo := hR.oks x (List.mem_of_getElem? hx)
          obtain ⟨hk, y, hy, y1, y2, y3⟩ := retire_facts he
          rw [hx] at hy
          cases hy
          have ho' : ({ x.2 with retired := true } : En).Ok := ⟨hxo.addr, hxo.data, hxo.size, hxo.fits, hxo.siz, hxo.free, hxo.load, fun _ => ⟨y1, y2, y3⟩, hxo.pos⟩
          have hR' : R2 { q with es := q.es.set k (x.1, { x.2 with retired := true }) } { r with L := r.L.set k { x2 with retired := true } } := by
            refine ⟨?_, by show (q.es.set k _).length ≤ q.size; rw [List.length_set]; exact hR.len, hR.s32, hR.size, ?_⟩
            · show Good ((q.es.set k (x.1, { x.2 with retired := true })).map (·.2))
              rw [ens_set]
              exact retire_good hR.good hk (by show (q.es.map (·.2))[k]? = some x.2; simp [hx]) ho'
            · show Sim ((q.es.set k (x.1, { x.2 with retired := true })).map (·.2)) (r.L.set k { x2 with retired := true })
              rw [ens_set]
              refine hR.sim.set k ⟨?_, hsx.2⟩
              show ({ core x.2 with retired := true } : En) = { core x2 with retired := true }
              rw [hsx.1]
          exact ⟨_, rfl, H.callq (told_nil_any F) fun G H => ⟨_, rfl, rfl, Q2.of hR' H⟩⟩
        | del k =>
          rw [he] at hpp hag
          obtain ⟨rfl, p2, c2, hP⟩ := hpp
          have H := H.upd 0 rfl hP
          refine ⟨_, rfl, (two (H.nth 1 rfl)).mono ?_⟩
          intro e F hpp
          unfold rRetirePost at hpp
          rw [hag] at hpp
          obtain ⟨rfl, p3, c3, hP⟩ := hpp
          have H := H.upd 1 rfl hP
          have e1 : (q.es.eraseIdx k).map (·.2) = (ens q).eraseIdx k := map_erase _ _ _
          have hR' : R2 { q with p := p2, cap := c2, es := q.es.eraseIdx k } { r with p := p3, cap := c3, L := r.L.eraseIdx k } := by
            refine ⟨?_, ?_, hR.s32, hR.size, ?_⟩
            · show Good ((q.es.eraseIdx k).map (·.2))
              rw [e1]
              exact hR.good.sub (List.eraseIdx_sublist _ _)
            · exact Nat.le_trans (List.Sublist.length_le (List.eraseIdx_sublist _ _)) hR.len
            · show Sim ((q.es.eraseIdx k).map (·.2)) (r.L.eraseIdx k)
              rw [e1]
              exact hR.sim.erase k
          exact ⟨_, rfl, H.callq (told_nil_any F) fun G H => ⟨_, rfl, rfl, Q2.of hR' H⟩⟩
      · refine (drain_any (H.nth 0 rfl) hR.oks hn).mono ?_
        intro e D hpp
        have hold := old_agree hR
        unfold DrainPost at hpp
        cases he : oldestOf q.es with
        | none =>
          rw [he] at hpp hold
          obtain ⟨rfl, hP⟩ := hpp
          have H := H.upd 0 rfl hP
          have hro : rOld r.L = none := by cases hq : rOld r.L with
            | none => rfl
            | some e => rw [hq] at hold; cases hold.1
          refine ⟨_, rfl, (rdrain_any (H.nth 1 rfl) hrn).mono ?_⟩
          intro e E hpp
          rw [hro] at hpp
          obtain ⟨rfl, hP⟩ := hpp
          have H := H.upd 1 rfl hP
          refine ⟨_, rfl, H.callq (told_err 7 E (EE H)) fun F H => ⟨_, rfl, split_of (fun q => by cases q) (fun _ => split_of (fun _ => ⟨rfl, Q2.of hR H⟩) (fun q => by cases q))⟩⟩
        | some o =>
          rw [he] at hpp hold
          obtain ⟨rfl, p2, c2, hP⟩ := hpp
          have H := H.upd 0 rfl hP
          obtain ⟨e2, hro, hso⟩ := hold.2 o rfl
          refine ⟨_, rfl, (rdrain_any (H.nth 1 rfl) hrn).mono ?_⟩
          intro e E hpp
          rw [hro] at hpp
          obtain ⟨rfl, p3, c3, hP⟩ := hpp
          have H := H.upd 1 rfl hP
          have e1 : (drained o.seq (q.es.drop 1)).map (·.2) = ((ens q).drop 1).map fun e => drainB o.seq e 4 := by
            unfold drained ens
            rw [List.map_map, ← List.map_drop, List.map_map]; rfl
          have hR' : R2 { q with p := p2, cap := c2, es := drained o.seq (q.es.drop 1) } { r with p := p3, cap := c3, L := (r.L.drop 1).map fun e => drainB e2.seq e 4 } := by
            have hsub := hR.good.sub (List.drop_sublist 1 (ens q))
            refine ⟨?_, ?_, hR.s32, hR.size, ?_⟩
            · show Good ((drained o.seq (q.es.drop 1)).map (·.2))
              rw [e1]
              refine ⟨ord_key hsub.ord ?_, fun e he => ?_⟩
              · rw [List.map_map]
                refine List.map_congr_left fun e _ => ?_
                have hc := (drain_facts o.seq e 4 (Nat.le_refl _)).1
                show ((drainB o.seq e 4).seq, (drainB o.seq e 4).retired) = (e.seq, e.retired)
                rw [show (drainB o.seq e 4).seq = e.seq by (have := congrArg En.seq hc; exact this), show (drainB o.seq e 4).retired = e.retired by (have := congrArg En.retired hc; exact this)]
              · obtain ⟨e0, he0, rfl⟩ := List.mem_map.1 he
                exact drain_ok (hsub.ok e0 he0) _
            · show (drained o.seq (q.es.drop 1)).length ≤ q.size
              unfold drained
              rw [List.length_map, List.length_drop]
              have := hR.len
              omega
            · show Sim ((drained o.seq (q.es.drop 1)).map (·.2)) ((r.L.drop 1).map fun e => drainB e2.seq e 4)
              rw [e1, ← hso.seq]
              have hb : ∀ e ∈ (ens q).drop 1, e.Ok := hsub.ok
              have hs := hR.sim.drop 1
              revert hb hs
              generalize (ens q).drop 1 = l
              generalize r.L.drop 1 = L
              intro hb hs
              induction l generalizing L with
              | nil => cases L with
                | nil => trivial
                | cons _ _ => exact hs.elim
              | cons e l ih => cases L with
                | nil => exact hs.elim
                | cons e' L =>
                  have hok := hb e (by simp)
                  exact ⟨drain_sim _ _ _ hs.1 (by rcases hok.size with e | e | e | e <;> omega), ih L (fun x hx => hb x (by simp [hx])) hs.2⟩
          refine ⟨_, rfl, H.callp (Q := _) ((told_nil E).mono fun e w h => ⟨h.1, h.2.symm⟩) ⟨_, rfl, split_of (fun _ => split_of (fun _ => ⟨rfl, Q2.of hR' H⟩) (fun q => by cases q)) (fun q => by cases q)⟩⟩
      · refine ⟨o2, H.ld 2 rfl rfl, ?_⟩
        rintro z36 rfl
        rw [hu2]
        refine H.callq (spoil_any (H.nth 0 rfl) hR.oks hn u2 hu2b) fun D H => ⟨_, rfl, o2, H.ld 2 rfl rfl, ?_⟩
        rintro z39 rfl
        rw [hu2]
        rintro z40 rfl
        rw [n64 (by omega)]
        refine H.callq (rspoil_any (H.nth 1 rfl) hR.roks hrn u2 hu2b) fun E H => ⟨_, rfl, ?_⟩
        rw [spoil_agree hR, beq_self_eq_true]
        exact ⟨rfl, Q2.of hR H⟩
      · refine H.call 0 rfl (squash_any (H.nth 0 rfl) hn z4) fun D H => ⟨rfl, H.call 1 rfl (rsquash_any (H.nth 1 rfl) hrn z4) fun E H => ⟨rfl, rfl, ?_⟩⟩
        have e1 : (q.es.filter fun x => keepP z4 x.2).map (·.2) = (ens q).take (cutN z4 r.L r.L.length) := by
          have hc := cut_keep (s := z4) hR.good (ens q).length (Nat.le_refl _)
          rw [List.take_length, cut_sim hR.sim, hR.sim.len] at hc
          rw [← hc]
          unfold ens
          rw [List.filter_map]; rfl
        have hR' : R2 { q with es := q.es.filter fun x => keepP z4 x.2 } { r with L := r.L.take (cutN z4 r.L r.L.length) } := by
          refine ⟨?_, Nat.le_trans (List.length_filter_le _ _) hR.len, hR.s32, hR.size, ?_⟩
          · show Good ((q.es.filter fun x => keepP z4 x.2).map (·.2))
            rw [e1]
            exact hR.good.sub (List.take_sublist _ _)
          · show Sim ((q.es.filter fun x => keepP z4 x.2).map (·.2)) (r.L.take _)
            rw [e1]
            exact hR.sim.take _
        exact Q2.of hR' H
    · clear H hR hn hrn
      rintro ok nx D ⟨rfl, q, r, hR, H⟩
      refine H.callq (oldest_two hR (H.nth 0 rfl) (H.nth 1 rfl)) fun E H => ⟨_, rfl, split_of (fun q => by cases q) (fun _ => split_of (fun q => by cases q) (fun _ => ?_))⟩
      rintro z42 rfl
      rw [w64 (by omega) (by omega)]
      exact ⟨⟨N + 1, by omega, rfl, by omega, q, r, hR, H⟩, by show 4096 - ((N : Int) + 1).toNat < 4096 - (N : Int).toNat; omega⟩
  · refine (qnew_bad W a0 hw).mono ?_
    rintro e W2 ⟨rfl, hh2⟩
    refine ⟨_, _, rfl, (rnew_bad W2 a0 hw).mono ?_⟩
    rintro e W3 ⟨rfl, hh3⟩
    have H : St W No W3 [] := ((St.nil W).quiet hh2).quiet hh3
    refine ⟨_, _, rfl, H.callq (told_err_any W3 (EE H) 2) fun W4 H => ⟨_, rfl, split_of (fun q => by cases q) (fun _ => split_of (fun q => by cases q) (fun _ => ?_))⟩⟩
    refine ⟨fun _ _ _ A => St W No A [], fun _ _ _ _ => 0, H, fun _ => ?_⟩
    rintro i nx ok A H
    exact split_of (fun q => split_of (fun q1 => split_of (fun q => by cases q) (fun _ => ⟨rfl, H.touch⟩)) (fun q1 => ⟨rfl, H.touch⟩)) (fun q => ⟨rfl, H.touch⟩)
end Go.Proofs.YtngfaiahlblkkaaDoor
