/- The program's queue and the document's: what stands between them, part A (plain). No program in sight. -/
import Derived.Test.YtngfaiahlblkkaaDoorLsqU
namespace Go.Proofs.YtngfaiahlblkkaaDoor
open Go.RowKit Go.XHeap Go.Sx Go.Sep Go.Bits
set_option linter.unusedVariables false

def core (e : En) : En := { e with f0 := 0, f1 := 0, f2 := 0, f3 := 0 }
def SimE (e r : En) : Prop := core e = core r ∧ (∀ c, c < e.size → e.fr c = r.fr c) ∧ (e.loaded = false → ∀ c, c < 4 → e.fr c = r.fr c)
theorem SimE.seq {e r : En} (h : SimE e r) : e.seq = r.seq := (by have := congrArg En.seq h.1; exact this)
theorem SimE.store {e r : En} (h : SimE e r) : e.store = r.store := (by have := congrArg En.store h.1; exact this)
theorem SimE.placed {e r : En} (h : SimE e r) : e.placed = r.placed := (by have := congrArg En.placed h.1; exact this)
theorem SimE.valued {e r : En} (h : SimE e r) : e.valued = r.valued := (by have := congrArg En.valued h.1; exact this)
theorem SimE.addr {e r : En} (h : SimE e r) : e.addr = r.addr := (by have := congrArg En.addr h.1; exact this)
theorem SimE.size {e r : En} (h : SimE e r) : e.size = r.size := (by have := congrArg En.size h.1; exact this)
theorem SimE.data {e r : En} (h : SimE e r) : e.data = r.data := (by have := congrArg En.data h.1; exact this)
theorem SimE.loaded {e r : En} (h : SimE e r) : e.loaded = r.loaded := (by have := congrArg En.loaded h.1; exact this)
theorem SimE.retired {e r : En} (h : SimE e r) : e.retired = r.retired := (by have := congrArg En.retired h.1; exact this)
theorem SimE.ok {e r : En} (h : SimE e r) (ho : e.Ok) : r.Ok := by
  refine ⟨?_, ?_, ?_, ?_, ?_, ?_, ?_, ?_, ?_⟩
  · rw [← h.addr]; exact ho.addr
  · rw [← h.data]; exact ho.data
  · rw [← h.size]; exact ho.size
  · rw [← h.addr, ← h.size]; exact ho.fits
  · rw [← h.placed, ← h.size]; exact ho.siz
  · rw [← h.placed, ← h.addr, ← h.size]; exact ho.free
  · rw [← h.loaded, ← h.placed, ← h.store]; exact ho.load
  · rw [← h.retired, ← h.store, ← h.placed, ← h.valued]; exact ho.ret
  · rw [← h.seq]; exact ho.pos
def Sim : List En → List En → Prop
  | [], [] => True
  | e :: l, r :: L => SimE e r ∧ Sim l L
  | _, _ => False
theorem Sim.len : ∀ {l L : List En}, Sim l L → l.length = L.length
  | [], [], _ => rfl
  | e :: l, r :: L, h => by rw [List.length_cons, List.length_cons, Sim.len h.2]
  | [], _ :: _, h => h.elim
  | _ :: _, [], h => h.elim
theorem Sim.get : ∀ {l L : List En}, Sim l L → ∀ {i : Nat} {e : En}, l[i]? = some e → ∃ r, L[i]? = some r ∧ SimE e r
  | [], _, _, i, e, he => by simp at he
  | e :: l, r :: L, h, 0, e', he => by simp at he; subst he; exact ⟨r, rfl, h.1⟩
  | e :: l, r :: L, h, i + 1, e', he => by
    obtain ⟨r', h1, h2⟩ := Sim.get h.2 (i := i) (e := e') (by simpa using he)
    exact ⟨r', by simpa using h1, h2⟩
  | _ :: _, [], h, _, _, _ => h.elim
theorem Sim.cores : ∀ {l L : List En}, Sim l L → l.map core = L.map core
  | [], [], _ => rfl
  | e :: l, r :: L, h => by rw [List.map_cons, List.map_cons, h.1.1, Sim.cores h.2]
  | [], _ :: _, h => h.elim
  | _ :: _, [], h => h.elim
theorem Sim.app : ∀ {l L l2 L2 : List En}, Sim l L → Sim l2 L2 → Sim (l ++ l2) (L ++ L2)
  | [], [], _, _, _, h => h
  | e :: l, r :: L, _, _, h, h2 => ⟨h.1, Sim.app h.2 h2⟩
  | [], _ :: _, _, _, h, _ => h.elim
  | _ :: _, [], _, _, h, _ => h.elim
theorem Sim.set : ∀ {l L : List En}, Sim l L → ∀ (k : Nat) {e r : En}, SimE e r → Sim (l.set k e) (L.set k r)
  | [], [], _, _, _, _, _ => trivial
  | e :: l, r :: L, h, 0, _, _, h2 => ⟨h2, h.2⟩
  | e :: l, r :: L, h, k + 1, _, _, h2 => ⟨h.1, Sim.set h.2 k h2⟩
  | [], _ :: _, h, _, _, _, _ => h.elim
  | _ :: _, [], h, _, _, _, _ => h.elim
theorem Sim.erase : ∀ {l L : List En}, Sim l L → ∀ (k : Nat), Sim (l.eraseIdx k) (L.eraseIdx k)
  | [], [], _, _ => trivial
  | e :: l, r :: L, h, 0 => h.2
  | e :: l, r :: L, h, k + 1 => ⟨h.1, Sim.erase h.2 k⟩
  | [], _ :: _, h, _ => h.elim
  | _ :: _, [], h, _ => h.elim
theorem Sim.take : ∀ {l L : List En}, Sim l L → ∀ (k : Nat), Sim (l.take k) (L.take k)
  | [], [], _, k => by cases k <;> trivial
  | e :: l, r :: L, h, 0 => trivial
  | e :: l, r :: L, h, k + 1 => ⟨h.1, Sim.take h.2 k⟩
  | [], _ :: _, h, _ => h.elim
  | _ :: _, [], h, _ => h.elim
theorem Sim.drop : ∀ {l L : List En}, Sim l L → ∀ (k : Nat), Sim (l.drop k) (L.drop k)
  | [], [], _, k => by cases k <;> trivial
  | e :: l, r :: L, h, 0 => h
  | e :: l, r :: L, h, k + 1 => by rw [List.drop_succ_cons, List.drop_succ_cons]; exact Sim.drop h.2 k
  | [], _ :: _, h, _ => h.elim
  | _ :: _, [], h, _ => h.elim
theorem Sim.map {f : En → En} (hf : ∀ e r, SimE e r → SimE (f e) (f r)) : ∀ {l L : List En}, Sim l L → Sim (l.map f) (L.map f)
  | [], [], _ => trivial
  | e :: l, r :: L, h => ⟨hf e r h.1, Sim.map hf h.2⟩
  | [], _ :: _, h => h.elim
  | _ :: _, [], h => h.elim
theorem Sim.oks : ∀ {l L : List En}, Sim l L → (∀ e ∈ l, e.Ok) → ∀ r ∈ L, r.Ok
  | [], [], _, _ => fun r hr => by simp at hr
  | e :: l, r :: L, h, ho => fun r' hr => by
    rcases List.mem_cons.1 hr with rfl | hr
    · exact h.1.ok (ho e (by simp))
    · exact Sim.oks h.2 (fun e he => ho e (by simp [he])) r' hr
  | [], _ :: _, h, _ => h.elim
  | _ :: _, [], h, _ => h.elim
/-- a test that looks at no source -/
theorem Sim.idx {p : En → Bool} (hp : ∀ e r, SimE e r → p e = p r) : ∀ {l L : List En}, Sim l L → l.findIdx? p = L.findIdx? p
  | [], [], _ => rfl
  | e :: l, r :: L, h => by rw [List.findIdx?_cons, List.findIdx?_cons, hp e r h.1, Sim.idx hp h.2]
  | [], _ :: _, h => h.elim
  | _ :: _, [], h => h.elim
theorem Sim.find {p : En → Bool} (hp : ∀ e r, SimE e r → p e = p r) : ∀ {l L : List En}, Sim l L → seqE (l.find? p) = seqE (L.find? p)
  | [], [], _ => rfl
  | e :: l, r :: L, h => by
    rw [List.find?_cons, List.find?_cons, hp e r h.1]
    cases p r with
    | true => exact h.1.seq
    | false => exact Sim.find hp h.2
  | [], _ :: _, h => h.elim
  | _ :: _, [], h => h.elim
theorem Sim.any {p : En → Bool} (hp : ∀ e r, SimE e r → p e = p r) : ∀ {l L : List En}, Sim l L → l.any p = L.any p
  | [], [], _ => rfl
  | e :: l, r :: L, h => by rw [List.any_cons, List.any_cons, hp e r h.1, Sim.any hp h.2]
  | [], _ :: _, h => h.elim
  | _ :: _, [], h => h.elim
theorem Sim.last : ∀ {l L : List En}, Sim l L → ∀ s, lateE l s = lateE L s := by
  intro l L h s
  unfold lateE
  rw [List.getLast?_eq_getElem?, List.getLast?_eq_getElem?, ← h.len]
  cases hl : l[l.length - 1]? with
  | none =>
    have : L[l.length - 1]? = none := by rw [List.getElem?_eq_none_iff] at hl ⊢; rw [← h.len]; exact hl
    rw [this]
  | some e =>
    obtain ⟨r, h1, h2⟩ := h.get hl
    rw [h1]
    show decide (s ≤ e.seq) = decide (s ≤ r.seq)
    rw [h2.seq]
/-! ### where bytes come from -/
theorem cover_core (a : Nat) (e : En) : coverP a (core e) = coverP a e := rfl
theorem src_core (l : List En) (a : Nat) : srcOf (l.map core) a = (srcOf l a).map core := by
  unfold srcOf
  rw [← List.map_reverse, List.find?_map]
  rfl
theorem Sim.src {l L : List En} (h : Sim l L) (a : Nat) : (srcOf l a).map core = (srcOf L a).map core := by
  rw [← src_core, ← src_core, h.cores]
theorem waitO_core (o : Option En) : waitO (o.map core) = waitO o := by cases o <;> rfl
theorem byte_core (a : Nat) (o : Option En) : byteOf a (o.map core) = byteOf a o := by cases o <;> rfl
theorem frI_core (o : Option En) : frI (o.map core) = frI o := by cases o <;> rfl
theorem some_core (o : Option En) : (o.map core).isSome = o.isSome := by cases o <;> rfl
theorem Sim.srcs {l L : List En} (h : Sim l L) (A s c : Nat) : (Proofs.YtngfaiahlblkkaaDoor.srcs l A s c).map core = (Proofs.YtngfaiahlblkkaaDoor.srcs L A s c).map core := by
  unfold Proofs.YtngfaiahlblkkaaDoor.srcs
  split
  · exact h.src _
  · rfl
theorem wait_of {F G : Src} (h : ∀ c, (F c).map core = (G c).map core) : waitF F = waitF G := by
  unfold waitF
  congr 1
  funext c
  rw [← waitO_core (F c), ← waitO_core (G c), h c]
theorem found_of {F G : Src} (A : Nat) (h : ∀ c, (F c).map core = (G c).map core) : foundV A F = foundV A G := by
  have hm : maskF F = maskF G := by
    unfold maskF
    rw [← some_core (F 0), ← some_core (F 1), ← some_core (F 2), ← some_core (F 3), h, h, h, h, some_core, some_core, some_core, some_core]
  have hv : valF A F = valF A G := by
    unfold valF
    rw [← byte_core _ (F 0), ← byte_core _ (F 1), ← byte_core _ (F 2), ← byte_core _ (F 3), h, h, h, h, byte_core, byte_core, byte_core, byte_core]
  unfold foundV
  rw [hm, hv]
/-! ### the order of the list -/
def Rl (a b : En) : Prop := a.seq < b.seq ∧ (b.retired = true → a.retired = true)
structure Good (l : List En) : Prop where
  ord : l.Pairwise Rl
  ok : ∀ e ∈ l, e.Ok
theorem Good.sub {l l' : List En} (h : Good l) (hs : l'.Sublist l) : Good l' := ⟨h.ord.sublist hs, fun e he => h.ok e (hs.subset he)⟩
def key (e : En) : Int × Bool := (e.seq, e.retired)
def Rk (a b : Int × Bool) : Prop := a.1 < b.1 ∧ (b.2 = true → a.2 = true)
theorem ord_key {l l' : List En} (h : l.Pairwise Rl) (hk : l'.map key = l.map key) : l'.Pairwise Rl := by
  have h1 : (l.map key).Pairwise Rk := (List.pairwise_map (f := key) (R := Rk)).2 h
  rw [← hk] at h1
  exact (List.pairwise_map (f := key) (R := Rk)).1 h1
theorem Good.set {l : List En} (h : Good l) {k : Nat} {e e' : En} (hk : l[k]? = some e) (ho : e'.Ok) (hkey : key e' = key e) : Good (l.set k e') := by
  refine ⟨ord_key h.ord ?_, fun x hx => (List.mem_or_eq_of_mem_set hx).elim (h.ok x) (fun e => e ▸ ho)⟩
  rw [List.map_set]
  apply List.ext_getElem?
  intro i
  rw [List.getElem?_set]
  split
  · rename_i hi
    subst hi
    obtain ⟨hl, rfl⟩ := List.getElem?_eq_some_iff.1 hk
    rw [if_pos (by simpa using hl), hkey]
    simp [hl]
  · rfl
/-- the same place: by number -/
theorem Good.uniq {l : List En} (h : Good l) {i j : Nat} {a b : En} (hi : l[i]? = some a) (hj : l[j]? = some b) (hs : a.seq = b.seq) : i = j := by
  obtain ⟨h1, rfl⟩ := List.getElem?_eq_some_iff.1 hi
  obtain ⟨h2, rfl⟩ := List.getElem?_eq_some_iff.1 hj
  rcases Nat.lt_trichotomy i j with h3 | h3 | h3
  · have := (List.pairwise_iff_getElem.1 h.ord i j h1 h2 h3).1; omega
  · exact h3
  · have := (List.pairwise_iff_getElem.1 h.ord j i h2 h1 h3).1; omega
theorem posOf_ens (p : En → Bool) (es : Ens) : posOf p es = (es.map (·.2)).findIdx? p := by
  unfold posOf
  rw [List.findIdx?_map]; rfl
/-- the program's find and the document's -/
theorem find_agree {es : Ens} {L : List En} (hg : Good (es.map (·.2))) (h : Sim (es.map (·.2)) L) (s : Int) : posOf (findP s) es = match rpos s L with
    | some k => match L[k]? with
      | some r => if r.retired then none else some k
      | none => none
    | none => none := by
  have hr : rpos s L = (es.map (·.2)).findIdx? fun e => e.seq == s := by
    unfold rpos
    exact (h.idx (p := fun e => e.seq == s) (fun e r hs => by show (e.seq == s) = (r.seq == s); rw [hs.seq])).symm
  rw [hr, posOf_ens]
  cases hq : (es.map (·.2)).findIdx? fun e => e.seq == s with
  | none =>
    refine rpos_none fun i y hy => ?_
    rw [List.findIdx?_eq_none_iff] at hq
    have := hq y (List.mem_of_getElem? hy)
    unfold findP
    rw [this, Bool.false_and]
  | some k =>
    obtain ⟨x, hx, hxs, hnot⟩ := rpos_some hq
    obtain ⟨r, hrk, hsr⟩ := h.get hx
    dsimp only
    rw [hrk]
    dsimp only
    cases hret : r.retired with
    | false =>
      rw [if_neg (by decide)]
      refine rpos_hit hx ?_ fun i y hi hy => ?_
      · unfold findP
        rw [hxs, hsr.retired, hret]; rfl
      · unfold findP
        rw [hnot i y hi hy, Bool.false_and]
    | true =>
      rw [if_pos rfl]
      refine rpos_none fun i y hy => ?_
      unfold findP
      by_cases e : (y.seq == s) = true
      · have hys : y.seq = x.seq := by
          have h1 : y.seq = s := by simpa using e
          have h2 : x.seq = s := by simpa using hxs
          rw [h1, h2]
        have := hg.uniq hy hx hys
        subst this
        rw [hx] at hy
        cases hy
        rw [hsr.retired, hret, Bool.not_true, Bool.and_false]
      · rw [Bool.eq_false_iff.2 e, Bool.false_and]
/-- of the drained -/
theorem drain_facts (s : Int) (e : En) : ∀ n, n ≤ 4 → core (drainB s e n) = core e ∧ (∀ c, c < 4 → (drainB s e n).fr c = if c < n ∧ e.loaded = true ∧ e.fr c = s then -1 else e.fr c)
  | 0, _ => ⟨rfl, fun c _ => by rw [if_neg (by omega)]; rfl⟩
  | n + 1, hn => by
    obtain ⟨h1, h2⟩ := drain_facts s e n (by omega)
    have hl : (drainB s e n).loaded = e.loaded := (by have := congrArg En.loaded h1; exact this)
    have hset : ∀ (x : En) (c : Nat) (a : Int), core (x.setFr c a) = core x := fun x c a => by
      match c with
      | 0 => rfl
      | 1 => rfl
      | 2 => rfl
      | c + 3 => rfl
    have hfr : ∀ (x : En) (m : Nat) (a : Int), m < 4 → ∀ c, c < 4 → (x.setFr m a).fr c = if c = m then a else x.fr c := fun x m a hm c hc => by
      match m, hm, c, hc with
      | 0, _, 0, _ => rfl
      | 0, _, 1, _ => rfl
      | 0, _, 2, _ => rfl
      | 0, _, 3, _ => rfl
      | 1, _, 0, _ => rfl
      | 1, _, 1, _ => rfl
      | 1, _, 2, _ => rfl
      | 1, _, 3, _ => rfl
      | 2, _, 0, _ => rfl
      | 2, _, 1, _ => rfl
      | 2, _, 2, _ => rfl
      | 2, _, 3, _ => rfl
      | 3, _, 0, _ => rfl
      | 3, _, 1, _ => rfl
      | 3, _, 2, _ => rfl
      | 3, _, 3, _ => rfl
    have hnn : (drainB s e n).fr n = e.fr n := by rw [h2 n (by omega), if_neg (by omega)]
    have hd : drainB s e (n + 1) = if (drainB s e n).loaded = true ∧ (drainB s e n).fr n = s then (drainB s e n).setFr n (-1) else drainB s e n := rfl
    rw [hd, hl, hnn]
    by_cases hc : e.loaded = true ∧ e.fr n = s
    · rw [if_pos hc]
      refine ⟨by rw [hset, h1], fun c h4 => ?_⟩
      rw [hfr _ _ _ (by omega) c h4]
      by_cases ec : c = n
      · subst ec
        rw [if_pos rfl, if_pos ⟨Nat.lt_succ_self _, hc⟩]
      · rw [if_neg ec, h2 c h4]
        by_cases hlt : c < n
        · by_cases hq : e.loaded = true ∧ e.fr c = s
          · rw [if_pos ⟨hlt, hq⟩, if_pos ⟨by omega, hq⟩]
          · rw [if_neg (fun e => hq e.2), if_neg (fun e => hq e.2)]
        · rw [if_neg (fun e => hlt e.1), if_neg (by omega)]
    · rw [if_neg hc]
      refine ⟨h1, fun c h4 => ?_⟩
      rw [h2 c h4]
      by_cases ec : c = n
      · subst ec
        rw [if_neg (by omega), if_neg (fun e => hc e.2)]
      · by_cases hlt : c < n
        · by_cases hq : e.loaded = true ∧ e.fr c = s
          · rw [if_pos ⟨hlt, hq⟩, if_pos ⟨by omega, hq⟩]
          · rw [if_neg (fun e => hq e.2), if_neg (fun e => hq e.2)]
        · rw [if_neg (fun e => hlt e.1), if_neg (by omega)]
theorem drain_sim (s : Int) (e r : En) (h : SimE e r) (h4 : e.size ≤ 4) : SimE (drainB s e 4) (drainB s r 4) := by
  obtain ⟨a1, a2⟩ := drain_facts s e 4 (Nat.le_refl _)
  obtain ⟨b1, b2⟩ := drain_facts s r 4 (Nat.le_refl _)
  refine ⟨by rw [a1, b1, h.1], fun c hc => ?_, fun hl c hc => ?_⟩
  · have hc : c < e.size := by
      have : (drainB s e 4).size = e.size := (by have := congrArg En.size a1; exact this)
      omega
    rw [a2 c (by omega), b2 c (by omega), h.loaded, h.2.1 c hc]
  · have hl : e.loaded = false := by
      have : (drainB s e 4).loaded = e.loaded := (by have := congrArg En.loaded a1; exact this)
      rw [← this, hl]
    rw [a2 c hc, b2 c hc, h.loaded, h.2.2 hl c hc]
theorem drain_ok {e : En} (h : e.Ok) (s : Int) : (drainB s e 4).Ok :=
  SimE.ok ⟨(drain_facts s e 4 (Nat.le_refl _)).1.symm.symm ▸ rfl, fun c hc => rfl, fun _ c hc => rfl⟩ (by
    have h1 := (drain_facts s e 4 (Nat.le_refl _)).1
    have g : ∀ {a b : En}, core a = core b → b.Ok → a.Ok := fun {a b} hab hb => by
      refine ⟨?_, ?_, ?_, ?_, ?_, ?_, ?_, ?_, ?_⟩
      · rw [show a.addr = b.addr from (by have := congrArg En.addr hab; exact this)]; exact hb.addr
      · rw [show a.data = b.data from (by have := congrArg En.data hab; exact this)]; exact hb.data
      · rw [show a.size = b.size from (by have := congrArg En.size hab; exact this)]; exact hb.size
      · rw [show a.addr = b.addr from (by have := congrArg En.addr hab; exact this), show a.size = b.size from (by have := congrArg En.size hab; exact this)]; exact hb.fits
      · rw [show a.placed = b.placed from (by have := congrArg En.placed hab; exact this), show a.size = b.size from (by have := congrArg En.size hab; exact this)]; exact hb.siz
      · rw [show a.placed = b.placed from (by have := congrArg En.placed hab; exact this), show a.addr = b.addr from (by have := congrArg En.addr hab; exact this), show a.size = b.size from (by have := congrArg En.size hab; exact this)]; exact hb.free
      · rw [show a.loaded = b.loaded from (by have := congrArg En.loaded hab; exact this), show a.placed = b.placed from (by have := congrArg En.placed hab; exact this), show a.store = b.store from (by have := congrArg En.store hab; exact this)]; exact hb.load
      · rw [show a.retired = b.retired from (by have := congrArg En.retired hab; exact this), show a.store = b.store from (by have := congrArg En.store hab; exact this), show a.placed = b.placed from (by have := congrArg En.placed hab; exact this), show a.valued = b.valued from (by have := congrArg En.valued hab; exact this)]; exact hb.ret
      · rw [show a.seq = b.seq from (by have := congrArg En.seq hab; exact this)]; exact hb.pos
    exact g h1 h)
/-! ### Squash -/
theorem cut_keep {s : Int} {l : List En} (hg : Good l) : ∀ n, n ≤ l.length → (l.take n).filter (keepP s) = l.take (cutN s l n)
  | 0, _ => rfl
  | n + 1, hn => by
    have ih := cut_keep (s := s) hg n (by omega)
    have hx := List.getElem?_eq_getElem (show n < l.length by omega)
    have ht : l.take (n + 1) = l.take n ++ [l[n]] := by rw [List.take_add_one, hx]; rfl
    have hc : cutN s l (n + 1) = if goneP s l[n] then cutN s l n else n + 1 := by
      show (match l[n]? with | some e => if goneP s e then cutN s l n else n + 1 | none => n + 1) = _
      rw [hx]
    have hk : keepP s l[n] = !goneP s l[n] := rfl
    rw [hc]
    cases hgo : goneP s l[n] with
    | true =>
      rw [if_pos rfl, ht, List.filter_append, ih, List.filter_cons, hk, hgo]
      simp
    | false =>
      rw [if_neg (by decide), List.filter_eq_self]
      intro e he
      obtain ⟨i, hi, rfl⟩ := List.getElem_of_mem he
      rw [List.length_take] at hi
      rw [List.getElem_take]
      by_cases e : i = n
      · subst e; rw [hk, hgo]; rfl
      · have hR := List.pairwise_iff_getElem.1 hg.ord i n (by omega) (by omega) (by omega)
        unfold goneP at hgo
        unfold keepP
        cases hr : l[n].retired with
        | true => rw [hR.2 hr]; simp
        | false =>
          rw [hr, Bool.not_false, Bool.and_true, decide_eq_false_iff_not] at hgo
          rw [decide_eq_false (by have := hR.1; omega), Bool.false_and]; rfl
theorem cut_sim {s : Int} {l L : List En} (h : Sim l L) : ∀ n, cutN s l n = cutN s L n
  | 0 => rfl
  | n + 1 => by
    show (match l[n]? with | some e => if goneP s e then cutN s l n else n + 1 | none => n + 1) = (match L[n]? with | some e => if goneP s e then cutN s L n else n + 1 | none => n + 1)
    rw [cut_sim h n]
    cases hl : l[n]? with
    | none =>
      have : L[n]? = none := by rw [List.getElem?_eq_none_iff] at hl ⊢; rw [← h.len]; exact hl
      rw [this]
    | some e =>
      obtain ⟨r, h1, h2⟩ := h.get hl
      rw [h1]
      dsimp only
      have : goneP s e = goneP s r := by unfold goneP; rw [h2.seq, h2.retired]
      rw [this]
end Go.Proofs.YtngfaiahlblkkaaDoor
