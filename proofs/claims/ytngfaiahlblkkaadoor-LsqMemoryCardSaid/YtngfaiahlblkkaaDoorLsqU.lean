/- The document's queue, part D: Take. No condition. -/
import Derived.Test.YtngfaiahlblkkaaDoorLsqT
namespace Go.Proofs.YtngfaiahlblkkaaDoor
open Go.RowKit Go.XHeap Go.Sx Go.Sep Go.Bits
set_option linter.unusedVariables false
set_option maxRecDepth 100000
variable {W w' : World} {b : Nat} {q v : RQ}

def takeB (x : En) (F : Src) : Nat → En
  | 0 => x
  | c + 1 => (takeB x F c).setFr c (frI (F c))
theorem takeB_four (x : En) (F : Src) : { takeB x F 4 with loaded := true } = x.withFr F := rfl
theorem setFr_set (e : En) (c : Nat) (a b : Int) : (e.setFr c a).setFr c b = e.setFr c b := by
  match c with
  | 0 => rfl
  | 1 => rfl
  | 2 => rfl
  | c + 3 => rfl
theorem setFr_ok {e : En} (h : e.Ok) (c : Nat) (a : Int) : (e.setFr c a).Ok := by
  match c with
  | 0 => exact ⟨h.addr, h.data, h.size, h.fits, h.siz, h.free, h.load, h.ret, h.pos⟩
  | 1 => exact ⟨h.addr, h.data, h.size, h.fits, h.siz, h.free, h.load, h.ret, h.pos⟩
  | 2 => exact ⟨h.addr, h.data, h.size, h.fits, h.siz, h.free, h.load, h.ret, h.pos⟩
  | c + 3 => exact ⟨h.addr, h.data, h.size, h.fits, h.siz, h.free, h.load, h.ret, h.pos⟩
theorem takeB_ok {x : En} (h : x.Ok) (F : Src) : ∀ c, (takeB x F c).Ok
  | 0 => h
  | c + 1 => setFr_ok (takeB_ok h F c) c _
theorem setFr_addr (e : En) (c : Nat) (a : Int) : (e.setFr c a).addr = e.addr := by
  match c with
  | 0 => rfl
  | 1 => rfl
  | 2 => rfl
  | c + 3 => rfl
theorem takeB_addr (x : En) (F : Src) : ∀ c, (takeB x F c).addr = x.addr
  | 0 => rfl
  | c + 1 => by unfold takeB; rw [setFr_addr, takeB_addr x F c]
theorem srcK_set (L : List En) {k : Nat} (e : En) {i : Nat} (hi : i ≤ k) (a : Nat) : srcK (L.set k e) i a = srcK L i a := by
  induction i with
  | zero => rfl
  | succ i ih =>
    have hs : ∀ M : List En, srcK M (i + 1) a = if (match M[i]? with | some e => coverP a e | none => false) then some i else srcK M i a := fun M => by
      unfold srcK
      rw [List.range_succ, List.reverse_append, List.reverse_singleton, List.singleton_append, List.find?_cons]
      cases h : M[i]? with
      | none => rfl
      | some e' =>
        dsimp only
        by_cases hcv : coverP a e' = true
        · simp only [hcv]; rfl
        · have hcv := Bool.eq_false_iff.2 hcv
          simp only [hcv]; rfl
    rw [hs, hs, List.getElem?_set_ne (by omega), ih (by omega)]
def rtakeK (s : Int) (L : List En) : Option Nat := match rloadK s L with
  | none => none
  | some k => match L[k]? with
    | none => none
    | some x => if waitF (srcs (L.take k) x.addr x.size) = true ∨ x.loaded = true then none else some k
def all4 (L : List En) (k A : Nat) : Src := fun c => srcOf (L.take k) (A + c)
def rTakePost (W : World) (b : Nat) (q : RQ) (s : Int) (e : Ending) (w : World) : Prop := match rtakeK s q.L with
  | none => e = .returned (.int .i64 7) ∧ Sep.Post (rA b q) W (rA b q) w
  | some k => e = .returned (.int .i64 0) ∧ ∃ x, q.L[k]? = some x ∧ Sep.Post (rA b q) W (rA b { q with L := q.L.set k (x.withFr (all4 q.L k x.addr)) }) w
theorem take_any (h : (rA b q).at_ W) (ho : ∀ e ∈ q.L, e.Ok) (hn : q.L.length ≤ 32) (s : Int) : Calls Tryd.prog 26 #[.pointer (some ⟨b, 0, none⟩), .int .i64 s] W (rTakePost W b q s) := by
  refine vc26 b 0 s ((rfind_any h hn s).mono ?_)
  rintro e A ⟨rfl, rfl⟩
  refine ⟨_, rfl, (rsearch_any h ho hn s true).mono ?_⟩
  rintro e B ⟨hp, hh⟩
  have H : St A (rA b q).own B [rA b q] := (St.begin h).quiet hh
  have bad : rtakeK s q.L = none → ∀ {C : World} {L : List Asn}, St A (rA b q).own C (rA b q :: L) → rTakePost A b q s (.returned (.int .i64 7)) C := fun e C L H => by unfold rTakePost; rw [e]; exact ⟨rfl, H.post 0 rfl⟩
  unfold rSearchPost at hp
  cases hl : rloadK s q.L with
  | none =>
    rw [hl] at hp
    subst hp
    refine ⟨_, _, rfl, H.al fun k C H => H.sts0 1 rfl rfl rfl zero_one fun D H => split_of (fun _ => bad (by unfold rtakeK; rw [hl]) H) (fun q => by cases q)⟩
  | some i =>
    rw [hl] at hp
    obtain ⟨x, hx, rfl⟩ := hp
    have hil := (List.getElem?_eq_some_iff.1 hx).1
    have hxo := ho x (List.mem_of_getElem? hx)
    have hpos : rpos s q.L = some i := by
      unfold rloadK at hl
      cases hq : rpos s q.L with
      | none => rw [hq] at hl; cases hl
      | some i2 =>
        rw [hq] at hl
        have hl : (match q.L[i2]? with | none => none | some x => if x.store || !x.placed then none else some i2) = some i := hl
        split at hl
        · cases hl
        · split at hl
          · cases hl
          · exact hl
    have ht : rtakeK s q.L = if waitF (srcs (q.L.take i) x.addr x.size) = true ∨ x.loaded = true then none else some i := by unfold rtakeK; rw [hl]; show (match q.L[i]? with | none => none | some x => _) = _; rw [hx]
    have hE : searchE true q.L i x = if waitF (srcs (q.L.take i) x.addr x.size) = true then waitV else foundV x.addr (srcs (q.L.take i) x.addr x.size) := by
      unfold searchE
      rw [if_neg (by show ¬ (false && _) = true; rw [Bool.false_and]; decide)]
    have hone : ∀ v ∈ (searchE true q.L i x).toList, v.oneCell' = true := by
      rw [hE]; split
      · exact wait_one
      · exact found_one _ _
    have hs3 : (searchE true q.L i x).size = 3 := by rw [hE]; split <;> rfl
    have h0 : (searchE true q.L i x)[0]? = some (.bool (waitF (srcs (q.L.take i) x.addr x.size))) := by
      rw [hE]
      cases hw : waitF (srcs (q.L.take i) x.addr x.size) <;> rfl
    rw [hpos]
    refine ⟨_, _, rfl, H.al fun k C H => H.sts0 1 rfl hs3 rfl hone fun D H => split_of (fun q => by simp at q) (fun _ => ⟨_, H.ld 1 rfl h0, split_of (fun q1 => bad (by rw [ht, if_pos (.inl q1)]) H) (fun q1 => ?_)⟩)⟩
    have H : St A (rA b q).own D (q.pieces b ++ [blk k (searchE true q.L i x) 66]) := H.open_
    obtain ⟨g, off, hpp, -, hc⟩ := re_at (H.nth 1 rfl) hx
    refine ⟨_, _, _, H.ld 0 rfl rfl, ⟨by show (0 : Int) ≤ (i : Nat); omega, by show ((i : Nat) : Int) < _; omega⟩, adr_eq hpp ⟨_, hc 7 _ rfl, split_of (fun q2 => bad (L := []) (by rw [ht, if_pos (.inr q2)]) (by exact (St.shut (L := q.pieces b) H).take 1)) (fun q2 => ?_)⟩⟩
    obtain ⟨F, hF⟩ : ∃ F, F = all4 q.L i x.addr := ⟨_, rfl⟩
    refine ⟨fun z G => ∃ c : Nat, z = c ∧ c ≤ 4 ∧ St A (rA b q).own G ([blk b q.root 96, sl 98 13 (.slice q.p q.L.length q.cap) q.L.length (rents (q.L.set i (takeB x F c)))] ++ []), fun z _ => 4 - z.toNat, ⟨0, rfl, by omega, by
      have : q.L.set i (takeB x F 0) = q.L := by
        obtain ⟨h1, h2⟩ := List.getElem?_eq_some_iff.1 hx
        show q.L.set i x = q.L
        rw [← h2, List.set_getElem_self]
      rw [this]
      exact H.take 2⟩, fun _ => ?_⟩
    clear H hc
    rintro z G ⟨c, rfl, hc4, H⟩
    have hx2 : ∀ e2 : En, (q.L.set i e2)[i]? = some e2 := fun e2 => by rw [List.getElem?_set_self hil]
    have e8 : ∀ o : Nat, o + 8 + (c : Int).toNat * 1 = o + (8 + c) := fun o => by omega
    refine split_of (fun q3 => ?_) (fun q3 => ?_)
    · have q3 := of_decide_eq_true q3
      have hc4 : c < 4 := by omega
      obtain ⟨g, off, hpp, -, -⟩ := re_at (H.nth 1 rfl) (hx2 _)
      refine ⟨_, _, _, H.ld 0 rfl rfl, ⟨by show (0 : Int) ≤ (i : Nat); omega, by show ((i : Nat) : Int) < _; omega⟩, adr_eq hpp ⟨⟨by omega, by omega⟩, ?_⟩⟩
      rw [e8]
      refine H.rent 1 rfl (hx2 _) hpp ((takeB x F c).setFr c (-1)) (by omega) (rc_setFr _ hc4 _) fun I H => ?_
      rw [List.set_set] at H
      have H : St A (rA b q).own I ([blk b q.root 96, sl 98 13 (.slice q.p q.L.length q.cap) q.L.length (rents (q.L.set i ((takeB x F c).setFr c (-1))))] ++ []) := H
      obtain ⟨g, off, hpp, -, hc⟩ := re_at (H.nth 1 rfl) (hx2 _)
      have hadr : ((takeB x F c).setFr c (-1)).addr = x.addr := by rw [setFr_addr, takeB_addr]
      have hxa := hxo.addr
      refine ⟨_, _, _, H.ld 0 rfl rfl, ⟨by show (0 : Int) ≤ (i : Nat); omega, by show ((i : Nat) : Int) < _; omega⟩, adr_eq hpp ⟨x.addr, by have := hc 3 _ rfl; rw [hadr] at this; exact this, ?_⟩⟩
      rintro z4 rfl
      rw [w64 (by omega) (by omega), show ((x.addr : Nat) : Int) + (c : Nat) = ((x.addr + c : Nat) : Int) by omega]
      obtain ⟨q2', hq2⟩ : ∃ q2 : RQ, q2 = { q with L := q.L.set i ((takeB x F c).setFr c (-1)) } := ⟨_, rfl⟩
      have hcur : (rA b q2').at_ I := by
        have H2 : St A (rA b q).own I (q2'.pieces b ++ []) := by
          rw [hq2]
          show St A (rA b q).own I ([blk b #[.int .i64 q.size, .slice q.p (q.L.set i ((takeB x F c).setFr c (-1))).length q.cap] 96, sl 98 13 (.slice q.p (q.L.set i ((takeB x F c).setFr c (-1))).length q.cap) (q.L.set i ((takeB x F c).setFr c (-1))).length (rents (q.L.set i ((takeB x F c).setFr c (-1))))] ++ [])
          rw [List.length_set]
          exact H
        exact (here_append.1 H2.here).1
      have ho2 : ∀ e ∈ q2'.L, e.Ok := fun e he => by
        rw [hq2] at he
        rcases List.mem_or_eq_of_mem_set he with he | rfl
        · exact ho e he
        · exact setFr_ok (takeB_ok hxo F c) c _
      have hn2 : q2'.L.length ≤ 32 := by rw [hq2]; show (q.L.set _ _).length ≤ 32; rw [List.length_set]; exact hn
      have hil2 : i ≤ q2'.L.length := by rw [hq2]; show i ≤ (q.L.set _ _).length; rw [List.length_set]; omega
      refine (source_any hcur ho2 hn2 i hil2 (x.addr + c) (by omega)).mono ?_
      rintro e J ⟨rfl, hh2⟩
      have H := H.quiet hh2
      have hk2 : srcK q2'.L i (x.addr + c) = srcK q.L i (x.addr + c) := by rw [hq2]; exact srcK_set q.L _ (Nat.le_refl i) _
      rw [hk2]
      have hspec := srcK_spec q.L i (x.addr + c) (by omega)
      have hFc : F c = srcOf (q.L.take i) (x.addr + c) := by rw [hF]; rfl
      have next : ∀ {K : World}, St A (rA b q).own K ([blk b q.root 96, sl 98 13 (.slice q.p q.L.length q.cap) q.L.length (rents (q.L.set i (takeB x F (c + 1))))] ++ []) → ∀ z8 : Int, z8 = IntKind.wrap .i64 ((c : Int) + 1) → (∃ c : Nat, z8 = c ∧ c ≤ 4 ∧ St A (rA b q).own K ([blk b q.root 96, sl 98 13 (.slice q.p q.L.length q.cap) q.L.length (rents (q.L.set i (takeB x F c)))] ++ [])) ∧ 4 - z8.toNat < 4 - (c : Int).toNat := by
        rintro K H z8 rfl
        rw [w64 (by omega) (by omega)]
        exact ⟨⟨c + 1, by omega, by omega, H⟩, by omega⟩
      cases hk : srcK q.L i (x.addr + c) with
      | none =>
        rw [hk] at hspec
        refine ⟨-1, rfl, split_of (fun q => by simp at q) (fun _ => next ?_)⟩
        show St A (rA b q).own J ([blk b q.root 96, sl 98 13 (.slice q.p q.L.length q.cap) q.L.length (rents (q.L.set i ((takeB x F c).setFr c (frI (F c)))))] ++ [])
        rw [hFc, hspec]
        exact H
      | some m =>
        rw [hk] at hspec
        obtain ⟨hmi, y, hy, hsy⟩ := hspec
        refine ⟨((m : Nat) : Int), rfl, split_of (fun _ => ?_) (fun q => by have := of_decide_eq_false q; omega)⟩
        refine H.dr fun K H => ?_
        have hy2 : (q.L.set i ((takeB x F c).setFr c (-1)))[m]? = some y := by rw [List.getElem?_set_ne (by omega)]; exact hy
        obtain ⟨g2, off2, hpp2, -, hc2⟩ := re_at (H.nth 1 rfl) hy2
        refine ⟨_, _, _, H.ld 0 rfl rfl, _, _, _, H.ld 0 rfl rfl, ⟨by omega, by omega⟩, adr_eq hpp2 ⟨_, hc2 0 _ rfl, ⟨by show (0 : Int) ≤ (i : Nat); omega, by show ((i : Nat) : Int) < _; omega⟩, adr_eq hpp ⟨⟨by omega, by omega⟩, ?_⟩⟩⟩
        rw [e8]
        refine H.rent 1 rfl (hx2 _) hpp (((takeB x F c).setFr c (-1)).setFr c y.seq) (by omega) (rc_setFr _ hc4 _) fun N H => next ?_
        rw [List.set_set] at H
        show St A (rA b q).own N ([blk b q.root 96, sl 98 13 (.slice q.p q.L.length q.cap) q.L.length (rents (q.L.set i ((takeB x F c).setFr c (frI (F c)))))] ++ [])
        rw [hFc, hsy]
        rw [setFr_set] at H
        exact H
    · have q3 := of_decide_eq_false q3
      obtain rfl : c = 4 := by omega
      obtain ⟨g, off, hpp, -, -⟩ := re_at (H.nth 1 rfl) (hx2 _)
      refine ⟨_, _, _, H.ld 0 rfl rfl, ⟨by show (0 : Int) ≤ (i : Nat); omega, by show ((i : Nat) : Int) < _; omega⟩, adr_eq hpp ?_⟩
      refine H.rent 1 rfl (hx2 _) hpp (x.withFr F) (by omega) rfl fun I H => ?_
      rw [List.set_set] at H
      unfold rTakePost
      rw [ht, if_neg (by rintro (e | e); exact absurd (e.symm.trans q1) (by decide); exact absurd (e.symm.trans q2) (by decide))]
      refine ⟨rfl, x, hx, ?_⟩
      rw [← hF]
      exact r_turned (L := []) H
end Go.Proofs.YtngfaiahlblkkaaDoor
