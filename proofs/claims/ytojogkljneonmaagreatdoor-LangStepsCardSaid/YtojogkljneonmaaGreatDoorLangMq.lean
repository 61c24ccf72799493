/- The two ways to run a program agree. No condition. -/
import Derived.Test.YtojogkljneonmaaGreatDoorLangMp
namespace Go.Lang
set_option linter.unusedVariables false
set_option linter.unusedSimpArgs false
variable {E : ByteArray → UInt32 → UInt32 → UInt32} {F : Ft} {lk : Lk} {ds : List D}

/-- what the names stand for is what the document finds -/
structure LkS (F : Ft) (lk : Lk) (ds : List D) : Prop where
  v : ∀ s w z, lk s = some (.var w z) → 0 ≤ w ∧ placeN ds s = w.toNat ∧ sizeN ds s = z
  f : ∀ s k np, lk s = some (.fn k np) → ∃ (t : Tok) (nm : ByteArray) (ps : List ByteArray) (s0 no : Int) (b : T) (n : Nat) (p : Lcs × Nat) (r : T × Lcs × Nat), findD ds s = some (.fn t nm ps s0 no b) ∧ ps.length = np ∧ b.nok ∧ cpars lk t.line ps [] 0 = .ok p ∧ cst lk b p.1 p.2 = .ok r ∧ F k = some (n, r.1) ∧ r.2.2 = n
def RelN (Ls : Lcs) (N : Nat) (s : Rn) (r : Rw) : Prop := Rel Ls s r ∧ s.slots.length = N
/-- two parts agree -/
def Sim (P : List UInt32 → Rn → Rw → Prop) : Rs Rn → Rs Rw → Prop
  | .ok v s, .ok u r => v = u ∧ P v s r
  | .stop k s, .stop j r => k = j ∧ r.words = s.words ∧ r.out = s.out
  | .out, .out => True
  | _, _ => False
theorem sim_bind {P Q : List UInt32 → Rn → Rw → Prop} {a : Rs Rn} {b : Rs Rw} {k : List UInt32 → Rn → Rs Rn} {k' : List UInt32 → Rw → Rs Rw} (h : Sim P a b) (hk : ∀ v s r, a = .ok v s → P v s r → Sim Q (k v s) (k' v r)) : Sim Q (a.bind k) (b.bind k') := by
  cases a with
  | ok v s => cases b with
    | ok u r => obtain ⟨e, h⟩ := h; subst e; exact hk v s r rfl h
    | stop => exact h.elim
    | out => exact h.elim
  | stop n s => cases b with
    | ok u r => exact h.elim
    | stop => exact h
    | out => exact h.elim
  | out => cases b with
    | ok u r => exact h.elim
    | stop => exact h.elim
    | out => trivial
theorem sim_step {Q : List UInt32 → Rn → Rw → Prop} {Ls : Lcs} {N : Nat} {s : Rn} {r : Rw} {k : Rn → Rs Rn} {k' : Rw → Rs Rw} (h : RelN Ls N s r) (hk : ∀ s1 r1, RelN Ls N s1 r1 → Sim Q (k s1) (k' r1)) : Sim Q (s.step k) (r.step k') := by
  obtain ⟨⟨h1, h2, h3, h4, h5⟩, h6⟩ := h
  unfold Rn.step Rw.step
  rw [h3]
  split
  · exact ⟨rfl, h1, h2⟩
  · exact hk _ _ ⟨⟨h1, h2, by rfl, h4, h5⟩, h6⟩
theorem cst_isNil {x : T} {Ls : Lcs} {n : Nat} {q : T × Lcs × Nat} (hq : cst lk x Ls n = .ok q) : q.1.isNil = x.isNil := by
  cases x <;> unfold cst at hq
  case letS => obtain ⟨_, _, hq⟩ := C.bind_ok hq; obtain ⟨_, _, hq⟩ := C.bind_ok hq; cases hq; rfl
  case setS => obtain ⟨_, _, hq⟩ := C.bind_ok hq; obtain ⟨_, _, hq⟩ := C.bind_ok hq; cases hq; rfl
  case putS => obtain ⟨_, _, hq⟩ := C.bind_ok hq; obtain ⟨_, _, hq⟩ := C.bind_ok hq; obtain ⟨_, _, hq⟩ := C.bind_ok hq; cases hq; rfl
  case ifS => obtain ⟨_, _, hq⟩ := C.bind_ok hq; obtain ⟨_, _, hq⟩ := C.bind_ok hq; obtain ⟨_, _, hq⟩ := C.bind_ok hq; cases hq; rfl
  case whileS => obtain ⟨_, _, hq⟩ := C.bind_ok hq; obtain ⟨_, _, hq⟩ := C.bind_ok hq; cases hq; rfl
  case retS => obtain ⟨_, _, hq⟩ := C.bind_ok hq; cases hq; rfl
  case prtS => obtain ⟨_, _, hq⟩ := C.bind_ok hq; cases hq; rfl
  case doS => obtain ⟨_, _, hq⟩ := C.bind_ok hq; cases hq; rfl
  case block => obtain ⟨_, _, hq⟩ := C.bind_ok hq; cases hq; rfl
  case cons => obtain ⟨_, _, hq⟩ := C.bind_ok hq; obtain ⟨_, _, hq⟩ := C.bind_ok hq; cases hq; rfl
  all_goals (cases hq; rfl)
theorem cwhole_ok {Ls : Lcs} {x x' : T} {b : Nat} (h : cwhole lk Ls x b = .ok x') : cexp lk Ls x = .ok x' := by
  unfold cwhole at h
  obtain ⟨y, hy, h⟩ := C.bind_ok h
  split at h
  · cases h
  · cases h; exact hy
/-- a name's word, read and written -/
theorem word_sim (hl : LkS F lk ds) {Ls : Lcs} {N : Nat} {s : Rn} {r : Rw} {t : Tok} {w : Int} {p : Int × Int} (hp : cword lk Ls t w = .ok p) (hs : Sc Ls N) (h : RelN Ls N s r) : r.get ds t.s = s.get p.1 p.2 ∧ ∀ v, RelN Ls N (s.set p.1 p.2 v) (r.set ds t.s v) := by
  obtain ⟨⟨h1, h2, h3, h4, h5⟩, h6⟩ := h
  unfold cword at hp
  rcases local_some (Ls := Ls) (nm := t.s) s.slots with ⟨a, b⟩ | ⟨i, q, a, b, c, d⟩
  · rw [if_neg (by omega)] at hp
    split at hp
    · rename_i wd z hz
      split at hp
      · cases hp
      · cases hp
        obtain ⟨g1, g2, -⟩ := hl.v _ _ _ hz
        refine ⟨?_, fun v => ?_⟩
        · unfold Rw.get Rn.get
          rw [h5, b]
          try dsimp only
          rw [if_neg (by omega), g2, h1]
        · unfold Rw.set Rn.set
          rw [h5, b]
          try dsimp only
          rw [if_neg (by omega), g2, h1]
          exact ⟨⟨rfl, h2, h3, h4, rfl⟩, h6⟩
    · cases hp
  · rw [if_pos (by omega)] at hp
    cases hp
    have hil := (List.getElem?_eq_some_iff.1 a).1
    refine ⟨?_, fun v => ?_⟩
    · unfold Rw.get Rn.get
      rw [h5, d]
      try dsimp only
      rw [if_pos (by omega), c]
      unfold valsOf
      rw [List.getElem?_map, a]
      rfl
    · unfold Rw.set Rn.set
      rw [h5, d]
      try dsimp only
      rw [if_pos (by omega), c]
      refine ⟨⟨h1, h2, h3, h4, ?_⟩, by simpa using h6⟩
      show (valsOf Ls s.slots).set i (t.s, v) = valsOf Ls (s.slots.set ((q.2 : Int)).toNat v)
      rw [Int.toNat_natCast, ← vals_set hs (by omega) a, b]
theorem arr_sim (hl : LkS F lk ds) {Ls : Lcs} {t : Tok} {p : Int × Int} (hp : carr lk Ls t = .ok p) : placeN ds t.s = p.1.toNat ∧ sizeN ds t.s = p.2 := by
  unfold carr at hp
  split at hp
  · rename_i wd z hz
    obtain ⟨g1, g2, g3⟩ := hl.v _ _ _ hz
    split at hp
    · cases hp
    split at hp
    · cases hp
    · cases hp; exact ⟨g2, g3⟩
  · cases hp
theorem vals_zip {ps : List ByteArray} {args : List UInt32} {k : Nat} (h : args.length = ps.length) : valsOf (ps.zipIdx 0) (args ++ List.replicate k 0) = ps.zip args := by
  apply List.ext_getElem?
  intro i
  unfold valsOf List.zip
  rw [List.getElem?_map, List.getElem?_zipIdx, List.getElem?_zipWith]
  by_cases hi : i < ps.length
  · have h2 : i < args.length := by omega
    rw [List.getElem?_eq_getElem hi, List.getElem?_eq_getElem h2]
    simp only [Option.map_some, Nat.zero_add]
    rw [List.getD_eq_getElem?_getD, List.getElem?_append_left h2, List.getElem?_eq_getElem h2]
    rfl
  · rw [List.getElem?_eq_none (by omega)]
    rfl
def PE (Ls : Lcs) (N : Nat) (_ : List UInt32) (s : Rn) (r : Rw) : Prop := RelN Ls N s r
def PS (Ls L1 : Lcs) (N : Nat) (v : List UInt32) (s : Rn) (r : Rw) : Prop := (v = [] → RelN L1 N s r) ∧ ∃ L', Ls <+: L' ∧ RelN L' N s r
structure SimF (E : ByteArray → UInt32 → UInt32 → UInt32) (F : Ft) (lk : Lk) (ds : List D) (f : Nat) : Prop where
  e : ∀ (x x' : T) (Ls : Lcs) (N : Nat) (s : Rn) (r : Rw), cexp lk Ls x = .ok x' → Sc Ls N → RelN Ls N s r → Sim (PE Ls N) (go E F f (.e x') s) (rgo E ds f (.e x) r)
  al : ∀ (x x' : T) (Ls : Lcs) (N : Nat) (s : Rn) (r : Rw), cexp lk Ls x = .ok x' → Sc Ls N → RelN Ls N s r → Sim (PE Ls N) (go E F f (.al x') s) (rgo E ds f (.al x) r)
  en : ∀ (nm : ByteArray) (k np : Nat) (args : List UInt32) (Ls : Lcs) (N : Nat) (s : Rn) (r : Rw), lk nm = some (.fn k np) → args.length = np → RelN Ls N s r → Sim (PE Ls N) (go E F f (.en k args) s) (rgo E ds f (.en nm args) r)
  s : ∀ (x : T) (q : T × Lcs × Nat) (Ls : Lcs) (n N : Nat) (s : Rn) (r : Rw), x.nok → cst lk x Ls n = .ok q → Sc Ls n → q.2.2 ≤ N → RelN Ls N s r → Sim (PS Ls q.2.1 N) (go E F f (.s q.1) s) (rgo E ds f (.s x) r)
  ss : ∀ (x : T) (q : T × Lcs × Nat) (Ls : Lcs) (n N : Nat) (s : Rn) (r : Rw), x.nok → cst lk x Ls n = .ok q → Sc Ls n → q.2.2 ≤ N → RelN Ls N s r → Sim (PS Ls q.2.1 N) (go E F f (.ss q.1) s) (rgo E ds f (.ss x) r)
  w : ∀ (c c' x : T) (q : T × Lcs × Nat) (Ls : Lcs) (n N : Nat) (s : Rn) (r : Rw), x.nok → x.isBlk = true → cexp lk Ls c = .ok c' → cst lk x Ls n = .ok q → Sc Ls n → q.2.2 ≤ N → RelN Ls N s r → Sim (PS Ls Ls N) (go E F f (.w c' q.1) s) (rgo E ds f (.w c x) r)
theorem sim_mono {P Q : List UInt32 → Rn → Rw → Prop} {a : Rs Rn} {b : Rs Rw} (h : Sim P a b) (hk : ∀ v s r, P v s r → Q v s r) : Sim Q a b := by
  cases a <;> cases b <;> first | exact h.elim | exact h | exact ⟨h.1, hk _ _ _ h.2⟩
theorem simf_succ (hl : LkS F lk ds) {f : Nat} (ih : SimF E F lk ds f) : SimF E F lk ds (f + 1) := by
  refine ⟨?_, ?_, ?_, ?_, ?_, ?_⟩
  · intro x x' Ls N s r hx hs h
    cases x with
    | num v l => cases hx; exact sim_step h fun s1 r1 h1 => ⟨rfl, h1⟩
    | name t sl w =>
      obtain ⟨p, hp, hx⟩ := C.bind_ok hx
      cases hx
      exact sim_step h fun s1 r1 h1 => ⟨by rw [(word_sim hl hp hs h1).1], h1⟩
    | index t w z p =>
      obtain ⟨a, ha, hx⟩ := C.bind_ok hx
      obtain ⟨p', hp, hx⟩ := C.bind_ok hx
      cases hx
      obtain ⟨g1, g2⟩ := arr_sim hl ha
      refine sim_step h fun s1 r1 h1 => sim_bind (ih.e p p' Ls N s1 r1 hp hs h1) fun v s2 r2 _ h2 => ?_
      have hw : r2.words = s2.words := h2.1.1
      have ho : r2.out = s2.out := h2.1.2.1
      try dsimp only
      rw [g2, g1, hw]
      split
      · exact ⟨rfl, hw, ho⟩
      · exact ⟨rfl, h2⟩
    | call t fa xs =>
      rw [cexp] at hx
      split at hx
      · rename_i k np hlk
        split at hx
        · cases hx
        split at hx
        · cases hx
        rename_i hnp
        obtain ⟨xs', hxs, hx⟩ := C.bind_ok hx
        cases hx
        refine sim_step h fun s1 r1 h1 => sim_bind (ih.al xs xs' Ls N s1 r1 hxs hs h1) fun v s2 r2 ho h2 => ?_
        have hv : v.length = xs'.len := (fine_ok ho).2.2.2.2.2
        have hxl := (cexp_len lk Ls xs xs' hxs).1
        exact ih.en t.s k np v Ls N s2 r2 hlk (by omega) h2
      · cases hx
    | un t x =>
      obtain ⟨p', hp, hx⟩ := C.bind_ok hx
      cases hx
      exact sim_step h fun s1 r1 h1 => sim_bind (ih.e x p' Ls N s1 r1 hp hs h1) fun v s2 r2 _ h2 => ⟨rfl, h2⟩
    | bin t x y =>
      obtain ⟨p', hp, hx⟩ := C.bind_ok hx
      obtain ⟨q', hq, hx⟩ := C.bind_ok hx
      cases hx
      refine sim_step h fun s1 r1 h1 => sim_bind (ih.e x p' Ls N s1 r1 hp hs h1) fun v s2 r2 _ h2 => ?_
      try dsimp only
      split
      · exact ⟨rfl, h2⟩
      split
      · exact ⟨rfl, h2⟩
      exact sim_bind (ih.e y q' Ls N s2 r2 hq hs h2) fun u s3 r3 _ h3 => ⟨rfl, h3⟩
    | cons x y =>
      obtain ⟨p', hp, hx⟩ := C.bind_ok hx
      obtain ⟨q', hq, hx⟩ := C.bind_ok hx
      cases hx
      exact sim_step h fun s1 r1 h1 => trivial
    | _ => cases hx; exact sim_step h fun s1 r1 h1 => trivial
  · intro x x' Ls N s r hx hs h
    cases x with
    | cons x y =>
      obtain ⟨p', hp, hx⟩ := C.bind_ok hx
      obtain ⟨q', hq, hx⟩ := C.bind_ok hx
      cases hx
      exact sim_bind (ih.e x p' Ls N s r hp hs h) fun v s2 r2 _ h2 => sim_bind (ih.al y q' Ls N s2 r2 hq hs h2) fun u s3 r3 _ h3 => ⟨rfl, h3⟩
    | name t sl w =>
      obtain ⟨p, hp, hx⟩ := C.bind_ok hx
      cases hx
      trivial
    | index t w z p =>
      obtain ⟨a, ha, hx⟩ := C.bind_ok hx
      obtain ⟨p', hp, hx⟩ := C.bind_ok hx
      cases hx
      trivial
    | call t fa xs =>
      rw [cexp] at hx
      split at hx
      · split at hx
        · cases hx
        split at hx
        · cases hx
        obtain ⟨xs', hxs, hx⟩ := C.bind_ok hx
        cases hx
        trivial
      · cases hx
    | un t x =>
      obtain ⟨p', hp, hx⟩ := C.bind_ok hx
      cases hx
      trivial
    | bin t x y =>
      obtain ⟨p', hp, hx⟩ := C.bind_ok hx
      obtain ⟨q', hq, hx⟩ := C.bind_ok hx
      cases hx
      trivial
    | nil => cases hx; exact ⟨rfl, h⟩
    | _ => cases hx; trivial
  · intro nm k np args Ls N s r hlk ha h
    obtain ⟨t, nm', ps, s0, no, b, n, p, q, h1, h2, h3, h4, h5, h6, h7⟩ := hl.f _ _ _ hlk
    rw [go_en h6, rgo_en h1]
    obtain ⟨p1, p2, p3⟩ := cpars_sc ps t.line [] 0 p ⟨List.nodup_nil, List.nodup_nil, fun p hp => by cases hp⟩ h4
    obtain ⟨c1, c2, c3, -⟩ := cst_sc b _ _ q p1 h5
    have hn : ps.length + lets b = n := by omega
    obtain ⟨⟨g1, g2, g3, g4, g5⟩, g6⟩ := h
    rw [hn, g4]
    split
    · exact ⟨rfl, g1, g2⟩
    · rename_i hr
      refine sim_bind (ih.s b q p.1 p.2 n _ _ h3 h5 p1 (by omega) ⟨⟨g1, g2, g3, rfl, ?_⟩, ?_⟩) fun v s2 r2 ho h8 => ?_
      · rw [p3, List.nil_append]
        exact (vals_zip (by omega)).symm
      · show (args ++ List.replicate (n - args.length) 0).length = n
        rw [List.length_append, List.length_replicate]
        omega
      · obtain ⟨-, L', -, ⟨e1, e2, e3, e4, e5⟩, e6⟩ := h8
        exact ⟨rfl, ⟨e1, e2, e3, by simp only; omega, g5⟩, g6⟩
  · intro x q Ls n N s r hn hq hs hN h
    have hsc := cst_sc x Ls n q hs hq
    have hSN : Sc Ls N := hs.mono (by omega)
    cases x with
    | block l xs =>
      obtain ⟨l', hx, hq⟩ := C.bind_ok hq
      cases hq
      refine sim_step h fun s1 r1 h1 => ?_
      have hsm := ih.ss xs l' Ls n N s1 r1 hn hx hs hN h1
      have hlen : r1.locals.length = Ls.length := by
        have := h1.1.2.2.2.2
        rw [this]; unfold valsOf; simp
      show Sim _ (go E F f (.ss l'.1) s1) ((rgo E ds f (.ss xs) r1).bind fun v s' => .ok v { s' with locals := s'.locals.take r1.locals.length })
      revert hsm
      cases go E F f (.ss l'.1) s1 with
      | ok v s2 => cases rgo E ds f (.ss xs) r1 with
        | ok u r2 =>
          rintro ⟨e, -, L', hL, ⟨e1, e2, e3, e4, e5⟩, e6⟩
          have : RelN Ls N s2 { r2 with locals := r2.locals.take r1.locals.length } := ⟨⟨e1, e2, e3, e4, by simp only; rw [e5, hlen, vals_take hL]⟩, e6⟩
          exact ⟨e, fun _ => this, Ls, List.prefix_rfl, this⟩
        | stop => exact fun h => h.elim
        | out => exact fun h => h.elim
      | stop n s2 => cases rgo E ds f (.ss xs) r1 with
        | ok u r2 => exact fun h => h.elim
        | stop => exact fun h => h
        | out => exact fun h => h.elim
      | out => cases rgo E ds f (.ss xs) r1 with
        | ok u r2 => exact fun h => h.elim
        | stop => exact fun h => h.elim
        | out => exact fun _ => trivial
    | letS t nm sl w x =>
      obtain ⟨x', hx, hq⟩ := C.bind_ok hq
      obtain ⟨p, hp, hq⟩ := C.bind_ok hq
      obtain ⟨e, hs'⟩ := cdecl_sc hs hp
      subst e
      cases hq
      refine sim_step h fun s1 r1 h1 => sim_bind (ih.e x x' Ls N s1 r1 (cwhole_ok hx) hSN h1) fun v s2 r2 _ h2 => ?_
      obtain ⟨⟨e1, e2, e3, e4, e5⟩, e6⟩ := h2
      have hN : n + 1 ≤ N := hN
      have : RelN (Ls ++ [(nm.s, n)]) N (s2.set (n : Int) w (hd v)) { r2 with locals := r2.locals ++ [(nm.s, hd v)] } := by
        unfold Rn.set
        rw [if_pos (by omega), Int.toNat_natCast]
        refine ⟨⟨e1, e2, e3, e4, ?_⟩, by simpa using e6⟩
        simp only
        rw [e5, vals_new hs (by omega)]
      exact ⟨rfl, fun _ => this, _, List.prefix_append _ _, this⟩
    | setS t sl w x =>
      obtain ⟨p, hp, hq⟩ := C.bind_ok hq
      obtain ⟨x', hx, hq⟩ := C.bind_ok hq
      cases hq
      refine sim_step h fun s1 r1 h1 => sim_bind (ih.e x x' Ls N s1 r1 (cwhole_ok hx) hSN h1) fun v s2 r2 _ h2 => ?_
      have := (word_sim hl hp hSN h2).2 (hd v)
      exact ⟨rfl, fun _ => this, _, List.prefix_rfl, this⟩
    | putS t w z p x =>
      obtain ⟨a, ha, hq⟩ := C.bind_ok hq
      obtain ⟨p', hp, hq⟩ := C.bind_ok hq
      obtain ⟨x', hx, hq⟩ := C.bind_ok hq
      cases hq
      obtain ⟨g1, g2⟩ := arr_sim hl ha
      refine sim_step h fun s1 r1 h1 => sim_bind (ih.e p p' Ls N s1 r1 (cwhole_ok hp) hSN h1) fun v s2 r2 _ h2 => sim_bind (ih.e x x' Ls N s2 r2 (cwhole_ok hx) hSN h2) fun u s3 r3 _ h3 => ?_
      obtain ⟨⟨e1, e2, e3, e4, e5⟩, e6⟩ := h3
      try dsimp only
      rw [g2, g1]
      split
      · exact ⟨rfl, e1, e2⟩
      · have : RelN Ls N { s3 with words := s3.words.set (a.1.toNat + (hd v).toNat) (hd u) } { r3 with words := r3.words.set (a.1.toNat + (hd v).toNat) (hd u) } := ⟨⟨by simp only; rw [e1], e2, e3, e4, e5⟩, e6⟩
        exact ⟨rfl, fun _ => this, _, List.prefix_rfl, this⟩
    | ifS l c a b =>
      obtain ⟨c', hc, hq⟩ := C.bind_ok hq
      obtain ⟨a', ha, hq⟩ := C.bind_ok hq
      obtain ⟨b', hb, hq⟩ := C.bind_ok hq
      cases hq
      obtain ⟨n1, n2, n3, n4, n5⟩ := hn
      obtain ⟨a1, a2, a3, a4⟩ := cst_sc a Ls n a' hs ha
      have e0 := a4 n4
      obtain ⟨b1, b2, b3, b4⟩ := cst_sc b _ _ b' a1 hb
      have hN : b'.2.2 ≤ N := hN
      have eb : b'.2.1 = Ls := by
        rcases n5 with n5 | n5
        · rw [b4 n5, e0]
        · cases b with
          | nil => cases hb; exact e0
          | _ => cases n5
      refine sim_step h fun s1 r1 h1 => sim_bind (ih.e c c' Ls N s1 r1 (cwhole_ok hc) hSN h1) fun v s2 r2 _ h2 => ?_
      try dsimp only
      rw [cst_isNil hb]
      show Sim (PS Ls b'.2.1 N) _ _
      rw [eb]
      split
      · have := ih.s a a' Ls n N s2 r2 n2 ha hs (by omega) h2
        rw [e0] at this
        exact this
      split
      · exact ⟨rfl, fun _ => h2, _, List.prefix_rfl, h2⟩
      · have := ih.s b b' a'.2.1 a'.2.2 N s2 r2 n3 hb a1 (by omega) (by rw [e0]; exact h2)
        rw [e0, eb] at this
        exact this
    | whileS l c b =>
      obtain ⟨c', hc, hq⟩ := C.bind_ok hq
      obtain ⟨b', hb, hq⟩ := C.bind_ok hq
      cases hq
      obtain ⟨n1, n2, n3⟩ := hn
      refine sim_step h fun s1 r1 h1 => ?_
      have := ih.w c c' b b' Ls n N s1 r1 n2 n3 (cwhole_ok hc) hb hs hN h1
      have e0 := (cst_sc b Ls n b' hs hb).2.2.2 n3
      show Sim (PS Ls b'.2.1 N) _ _
      rw [e0]
      exact this
    | retS l x =>
      obtain ⟨x', hx, hq⟩ := C.bind_ok hq
      cases hq
      exact sim_step h fun s1 r1 h1 => sim_bind (ih.e x x' Ls N s1 r1 (cwhole_ok hx) hSN h1) fun v s2 r2 _ h2 => ⟨rfl, fun _ => h2, _, List.prefix_rfl, h2⟩
    | prtS l x =>
      obtain ⟨x', hx, hq⟩ := C.bind_ok hq
      cases hq
      refine sim_step h fun s1 r1 h1 => sim_bind (ih.e x x' Ls N s1 r1 (cwhole_ok hx) hSN h1) fun v s2 r2 _ h2 => ?_
      obtain ⟨⟨e1, e2, e3, e4, e5⟩, e6⟩ := h2
      have : RelN Ls N { s2 with out := s2.out ++ [(hd v).toUInt8] } { r2 with out := r2.out ++ [(hd v).toUInt8] } := ⟨⟨e1, by simp only; rw [e2], e3, e4, e5⟩, e6⟩
      exact ⟨rfl, fun _ => this, _, List.prefix_rfl, this⟩
    | doS l x =>
      obtain ⟨x', hx, hq⟩ := C.bind_ok hq
      cases hq
      exact sim_step h fun s1 r1 h1 => sim_bind (ih.e x x' Ls N s1 r1 (cwhole_ok hx) hSN h1) fun v s2 r2 _ h2 => ⟨rfl, fun _ => h2, _, List.prefix_rfl, h2⟩
    | cons x xs =>
      obtain ⟨a, ha, hq⟩ := C.bind_ok hq
      obtain ⟨b, hb, hq⟩ := C.bind_ok hq
      cases hq
      exact sim_step h fun s1 r1 h1 => trivial
    | _ => cases hq; exact sim_step h fun s1 r1 h1 => trivial
  · intro x q Ls n N s r hn hq hs hN h
    cases x with
    | cons x xs =>
      obtain ⟨a, ha, hq⟩ := C.bind_ok hq
      obtain ⟨b, hb, hq⟩ := C.bind_ok hq
      cases hq
      obtain ⟨a1, a2, a3, a4⟩ := cst_sc x Ls n a hs ha
      obtain ⟨b1, b2, b3, b4⟩ := cst_sc xs _ _ b a1 hb
      have hN : b.2.2 ≤ N := hN
      refine sim_bind (ih.s x a Ls n N s r hn.1 ha hs (by omega) h) fun v s2 r2 _ h2 => ?_
      try dsimp only
      by_cases hv : v = []
      · rw [if_pos hv, if_pos hv]
        refine sim_mono (ih.ss xs b a.2.1 a.2.2 N s2 r2 hn.2 hb a1 hN (h2.1 hv)) ?_
        rintro v s3 r3 ⟨g1, L', g2, g3⟩
        exact ⟨g1, L', a2.trans g2, g3⟩
      · rw [if_neg hv, if_neg hv]
        exact ⟨rfl, fun e => absurd e hv, h2.2⟩
    | nil => cases hq; exact ⟨rfl, fun _ => h, _, List.prefix_rfl, h⟩
    | letS => obtain ⟨_, _, hq⟩ := C.bind_ok hq; obtain ⟨_, _, hq⟩ := C.bind_ok hq; cases hq; trivial
    | setS => obtain ⟨_, _, hq⟩ := C.bind_ok hq; obtain ⟨_, _, hq⟩ := C.bind_ok hq; cases hq; trivial
    | putS => obtain ⟨_, _, hq⟩ := C.bind_ok hq; obtain ⟨_, _, hq⟩ := C.bind_ok hq; obtain ⟨_, _, hq⟩ := C.bind_ok hq; cases hq; trivial
    | ifS => obtain ⟨_, _, hq⟩ := C.bind_ok hq; obtain ⟨_, _, hq⟩ := C.bind_ok hq; obtain ⟨_, _, hq⟩ := C.bind_ok hq; cases hq; trivial
    | whileS => obtain ⟨_, _, hq⟩ := C.bind_ok hq; obtain ⟨_, _, hq⟩ := C.bind_ok hq; cases hq; trivial
    | retS => obtain ⟨_, _, hq⟩ := C.bind_ok hq; cases hq; trivial
    | prtS => obtain ⟨_, _, hq⟩ := C.bind_ok hq; cases hq; trivial
    | doS => obtain ⟨_, _, hq⟩ := C.bind_ok hq; cases hq; trivial
    | block => obtain ⟨_, _, hq⟩ := C.bind_ok hq; cases hq; trivial
    | _ => cases hq; trivial
  · intro c c' x q Ls n N s r hn hb hc hq hs hN h
    have hSN : Sc Ls N := hs.mono (by have := (cst_sc x Ls n q hs hq).2.2.1; omega)
    have e0 := (cst_sc x Ls n q hs hq).2.2.2 hb
    refine sim_bind (ih.e c c' Ls N s r hc hSN h) fun v s2 r2 _ h2 => ?_
    try dsimp only
    split
    · exact ⟨rfl, fun _ => h2, _, List.prefix_rfl, h2⟩
    refine sim_bind (ih.s x q Ls n N s2 r2 hn hq hs hN h2) fun v s3 r3 _ h3 => ?_
    rw [e0] at h3
    try dsimp only
    by_cases hv : v = []
    · rw [if_pos hv, if_pos hv]
      exact ih.w c c' x q Ls n N s3 r3 hn hb hc hq hs hN (h3.1 hv)
    · rw [if_neg hv, if_neg hv]
      exact ⟨rfl, fun e => absurd e hv, h3.2⟩
/-- THE TWO WAYS AGREE -/
theorem simf (hl : LkS F lk ds) : ∀ f, SimF E F lk ds f
  | 0 => ⟨fun _ _ _ _ _ _ _ _ _ => trivial, fun _ _ _ _ _ _ _ _ _ => trivial, fun _ _ _ _ _ _ _ _ _ _ _ => trivial, fun _ _ _ _ _ _ _ _ _ _ _ _ => trivial, fun _ _ _ _ _ _ _ _ _ _ _ _ => trivial, fun _ _ _ _ _ _ _ _ _ _ _ _ _ _ _ _ => trivial⟩
  | f + 1 => simf_succ hl (simf hl f)
end Go.Lang
