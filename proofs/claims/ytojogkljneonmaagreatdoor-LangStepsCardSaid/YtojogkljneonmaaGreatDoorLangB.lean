import Derived.Test.YtojogkljneonmaaGreatDoorLangVc
import Derived.Test.YtojogkljneonmaaGreatDoorLangU
import Derived.Test.YtojogkljneonmaaGreatDoorShelf
/- The parser in memory: its tokens; the small functions that look at them. No condition. -/
namespace Go.Proofs.YtojogkljneonmaaGreatDoor
open Go Go.Proofs Go.Sep Go.XHeap Go.RowKit Go.Lang
set_option linter.unusedVariables false
set_option linter.unusedSimpArgs false

def tkL (t : Tok) : List Value := [.int .u8 (t.k : Nat), .string t.s, .int .i64 t.line]
def tkV (t : Tok) : Value := .agg (tkL t).toArray
theorem tkL_len (t : Tok) : (tkL t).length = 3 := rfl
theorem tkL_one (t : Tok) : ∀ v ∈ (tkL t), v.oneCell' = true := by
  intro v hv
  simp only [tkL, List.mem_cons, List.not_mem_nil, or_false] at hv
  rcases hv with rfl | rfl | rfl <;> rfl
/-- a slice of structs, its first element left out -/
theorem Sl.tailN {w : World} {e size n g off cap : Nat} {x xs : List Value} (hx : x.length = size) (hs : 0 < size) (h : Sl w e size (.slice (some ⟨g, off, none⟩) (n + 1) cap) (n + 1) (x ++ xs)) : Sl w e size (.slice (Sx.sub (some ⟨g, off, none⟩) cap 1 size) n (cap - 1)) n xs := by
  obtain ⟨hl, h⟩ := h
  rw [List.length_append, hx, Nat.add_mul, Nat.one_mul] at hl
  refine ⟨by omega, ?_⟩
  rcases h with ⟨h, -⟩ | ⟨g', off', cap', cur, hv, hb, h1, h2, h3, h4⟩
  · simp at h
  · simp at hv
    obtain ⟨⟨rfl, rfl⟩, rfl⟩ := hv
    have key : (List.drop (off + size) cur.toList).take (n * size) = xs := by
      rw [Nat.add_mul, Nat.one_mul, Nat.add_comm (n * size)] at h4
      have := congrArg (List.drop size) h4
      rw [List.drop_take, List.drop_drop] at this
      rw [show size + n * size - size = n * size by omega] at this
      rw [this, ← hx]; simp
    have hc : (cap - 1) * size = cap * size - size := by rw [Nat.sub_mul, Nat.one_mul]
    have hcs : size ≤ cap * size := Nat.le_mul_of_pos_left _ (by omega)
    unfold Sx.sub
    split
    · rename_i e
      subst e
      have : n = 0 := by omega
      subst this
      refine .inr ⟨g, off, 0, cur, rfl, hb, by omega, by omega, by omega, ?_⟩
      simp at hl; subst hl; simp
    · refine .inr ⟨g, off + size, cap - 1, cur, by simp [Addr.add, Nat.one_mul]; omega, hb, by omega, by omega, by omega, key⟩
/-- a number's text is a number; there is an end -/
def TokOk (t : Tok) : Prop := t.k = 2 → t.s.data.toList ≠ [] ∧ t.s.data.toList.all isD = true
def Good (l : List Tok) : Prop := (∃ l0 t, l = l0 ++ [t] ∧ t.k = 0) ∧ (∀ t ∈ l, TokOk t) ∧ (∀ t ∈ l, t.s.size ≤ 8000) ∧ l.length ≤ 8001
theorem Good.cons {l : List Tok} (h : Good l) : ∃ t l', l = t :: l' := by
  obtain ⟨⟨l0, t, rfl, -⟩, -⟩ := h
  cases l0 with
  | nil => exact ⟨t, [], rfl⟩
  | cons a l0 => exact ⟨a, _, rfl⟩
theorem Good.tail {t : Tok} {l : List Tok} (h : Good (t :: l)) (hk : t.k ≠ 0) : Good l := by
  obtain ⟨⟨l0, u, e, hu⟩, h2, h3, h4⟩ := h
  refine ⟨?_, fun x hx => h2 x (List.mem_cons_of_mem _ hx), fun x hx => h3 x (List.mem_cons_of_mem _ hx), by simp at h4; omega⟩
  cases l0 with
  | nil => simp at e; rw [e.1] at hk; exact absurd hu hk
  | cons a l0 => simp at e; exact ⟨l0, u, e.2, hu⟩
/-- a global that holds an error -/
def globA [Inhabited G3o] : Asn where
  own k := k = 3
  at_ w := (∃ t v, w.cell? ⟨3, 0, none⟩ = some (.iface t v)) ∧ w.heap[3]? = some (default : G3o).o
  keep := by
    rintro T w w' ⟨⟨t, v, h⟩, h2⟩ ht hn
    have hlt := World.block_lt_of_cell? _ _ h
    exact ⟨⟨t, v, (ht.cell (p := ⟨3, 0, none⟩) hlt (hn 3 rfl)).trans h⟩, (ht.block 3 hlt (hn 3 rfl)).trans h2⟩
  lt := by
    rintro w ⟨⟨t, v, h⟩, -⟩ k rfl
    exact World.block_lt_of_cell? _ _ h
def tokP (g off c : Nat) (l : List Tok) : Value := .slice (some ⟨g, off, none⟩) l.length c
def parL [Inhabited G3o] (b g off c : Nat) (l : List Tok) (n : Nat) : List Asn := [blk b #[tokP g off c l, .int .i64 (n : Nat)] 84, sl 87 3 (tokP g off c l) l.length (l.flatMap tkL), globA]
/-- the parser in block b, its tokens in block g: those that are left; how deep it is -/
def parA [Inhabited G3o] (b g : Nat) (l : List Tok) (n : Nat) : Asn where
  own k := k = b ∨ k = g ∨ k = 3
  at_ w := (Good l ∧ n ≤ 25) ∧ ∃ off c, here (parL b g off c l n) w
  keep := by
    rintro T w w' ⟨h0, off, c, h⟩ ht hn
    refine ⟨h0, off, c, h.keep ht ?_⟩
    rintro k (e | e | e | e)
    · exact hn k (.inl e)
    · have : some g = some k := e
      cases this; exact hn g (.inr (.inl rfl))
    · exact hn k (.inr (.inr e))
    · exact e.elim
  lt := by
    rintro w ⟨h0, off, c, h⟩ k hk
    refine h.lt k ?_
    rcases hk with e | e | e
    · exact .inl e
    · subst e; exact .inr (.inl rfl)
    · exact .inr (.inr (.inl e))
variable {W : World} {b g n : Nat} {l : List Tok}
theorem par_open [Inhabited G3o] {w0 w : World} {M : Nat → Prop} {L : List Asn} (H : St w0 M w (parA b g l n :: L)) : Good l ∧ n ≤ 25 ∧ ∃ off c, St w0 M w (parL b g off c l n ++ L) := by
  obtain ⟨h0, off, c, h⟩ := H.nth 0 rfl
  refine ⟨h0.1, h0.2, off, c, H.unfold_ (fun _ => h) ?_⟩
  rintro q (e | e | e | e)
  · exact .inl e
  · have : some g = some q := e
    cases this; exact .inr (.inl rfl)
  · exact .inr (.inr e)
  · exact e.elim
theorem par_shut [Inhabited G3o] {w0 w : World} {M : Nat → Prop} {L : List Asn} {off c : Nat} (hG : Good l) (hn : n ≤ 25) (H : St w0 M w (parL b g off c l n ++ L)) : St w0 M w (parA b g l n :: L) := by
  refine H.fold (Ls := parL b g off c l n) (fun h => ⟨⟨hG, hn⟩, off, c, h⟩) ?_
  rintro q (e | e | e)
  · exact .inl e
  · subst e; exact .inr (.inl rfl)
  · exact .inr (.inr (.inl e))
theorem par_good [Inhabited G3o] (h : (parA b g l n).at_ W) : Good l ∧ n ≤ 25 := h.1
theorem par_now [Inhabited G3o] (h : (parA b g l n).at_ W) : ∃ l', l = now l :: l' := by
  obtain ⟨t, l', rfl⟩ := h.1.1.cons
  exact ⟨l', rfl⟩
theorem tok_first [Inhabited G3o] {t : Tok} {l : List Tok} {off c : Nat} (h : Sl W 87 3 (tokP g off c (t :: l)) (t :: l).length ((t :: l).flatMap tkL)) : Sx.cellsAt W ⟨g, off + 0, none⟩ (tkL t).toArray := by
  rcases h.2 with ⟨h, -⟩ | ⟨g', off', cap, cur, hv, hb, q1, q2, q3, q4⟩
  · simp [tokP] at h
  · simp [tokP] at hv
    obtain ⟨⟨rfl, rfl⟩, rfl⟩ := hv
    refine Sx.cellsAt_of_blk (o := off + 0) hb _ fun i v hi => ?_
    have hi3 : i < 3 := by
      have := (Array.getElem?_eq_some_iff.1 hi).1
      simpa [tkL] using this
    rw [← Array.getElem?_toList]
    have h5 := congrArg (·[i]?) q4
    simp only [List.flatMap_cons] at h5
    rw [List.getElem?_take_of_lt (by simp; omega), List.getElem?_drop, List.getElem?_append_left (by rw [tkL_len]; exact hi3)] at h5
    rw [Nat.add_zero, h5]
    simpa using hi
theorem hush_keep {A : Asn} {w w' : World} (h : A.at_ w) (hh : Hush w w') : A.at_ w' := A.keep h hh (fun _ _ e => e)
theorem hush_trans {a b c : World} (h : Hush a b) (h' : Hush b c) : Hush a c := XTouch.trans h h' (fun _ _ e => e)
theorem now_any [Inhabited G3o] (h : (parA b g l n).at_ W) : Calls Tryz.prog 25 #[.pointer (some ⟨b, 0, none⟩)] W fun e w' => e = .returned (tkV (now l)) ∧ Hush W w' := by
  refine vc25 b 0 ?_
  refine (St.nil W).al fun k w2 H2 => ?_
  obtain ⟨-, -, off, c, h2⟩ := par_open (St.begin (hush_keep h H2.touch))
  obtain ⟨l', hl⟩ := par_now h
  rw [hl] at h2
  refine ⟨_, _, _, h2.ld 0 rfl (i := 0) (v := tokP g off c (now l :: l')) rfl, ⟨by omega, by simp⟩, ?_⟩
  refine adr_some ?_
  refine ⟨_, rfl, tok_first (h2.nth 1 rfl), ?_⟩
  refine H2.sts0 0 (n := 3) (vs := (tkL (now l)).toArray) rfl rfl rfl (by simpa using tkL_one _) fun w3 H3 => ?_
  refine ⟨_, rfl, H3.cells 0 rfl, rfl, H3.touch⟩
theorem next_any [Inhabited G3o] (h : (parA b g l n).at_ W) (hk : (now l).k ≠ 0) : Calls Tryz.prog 90 #[.pointer (some ⟨b, 0, none⟩)] W fun e w' => e = .returned (tkV (now l)) ∧ Post (parA b g l n) W (parA b g l.tail n) w' := by
  obtain ⟨l', hl⟩ := par_now h
  generalize ht : now l = t at *
  subst hl
  refine vc90 b 0 ?_
  refine (St.begin h).al fun k w2 H2 => ?_
  obtain ⟨hG, hn, off, c, H2⟩ := par_open H2
  refine ⟨_, _, _, H2.ld 0 rfl (i := 0) (v := tokP g off c (t :: l')) rfl, ⟨by omega, by simp⟩, ?_⟩
  refine adr_some ?_
  refine ⟨_, rfl, tok_first (H2.nth 1 rfl), ?_⟩
  refine H2.al fun k2 w3 H3 => ?_
  refine H3.sts0 4 (n := 3) (vs := (tkL t).toArray) rfl rfl rfl (by simpa using tkL_one t) fun w4 H4 => ?_
  refine ⟨_, _, _, H4.ld 0 rfl (i := 0) (v := tokP g off c (t :: l')) rfl, ⟨by omega, by simp; omega⟩, ?_⟩
  refine H4.st 0 rfl (by simp) fun w5 H5 => ?_
  refine ⟨_, rfl, H5.cells 4 rfl, ?_⟩
  refine H5.sts0 3 (n := 3) (vs := (tkL t).toArray) rfl rfl rfl (by simpa using tkL_one t) fun w6 H6 => ?_
  refine ⟨_, rfl, H6.cells 3 rfl, rfl, ?_⟩
  have H7 := (H6.take 3).conv 1 (A' := sl 87 3 (.slice (Sx.sub (some ⟨g, off, none⟩) c 1 3) l'.length (c - 1)) l'.length (l'.flatMap tkL)) rfl (fun h => Sl.tailN (tkL_len t) (by omega) h) (by
    intro q hq
    show some g = some q
    unfold Sx.sub at hq
    split at hq <;> exact hq)
  have hex : ∃ o, Sx.sub (some ⟨g, off, none⟩) c 1 3 = some ⟨g, o, none⟩ := by
    unfold Sx.sub
    split
    · exact ⟨_, rfl⟩
    · exact ⟨off + 3, rfl⟩
  obtain ⟨o, ho⟩ := hex
  simp only [ho] at H7
  have H8 : St W (parA b g (t :: l') n).own w6 (parL b g o (c - 1) l' n ++ []) := H7
  exact (par_shut (hG.tail hk) hn H8).post 0 rfl
/-! ### answers -/
def fltA (b : Nat) (line e : Int) : Asn := blk b #[.int .i64 line, .int .i64 e] 79
def pan (b : Nat) : List PanicEntry := [{ v := .iface 77 (.pointer (some ⟨b, 0, none⟩)), recovered := false }]
/-- it panics with the fault; what else is still there -/
def Err (R A : Asn) (w : World) (line en : Int) (e : Ending) (w' : World) : Prop := ∃ b, e = .panicked (pan b) ∧ Post A w (all [fltA b line en, R]) w'
/-- what a function that may fail leaves: it returns, or panics with the fault -/
def Ans {α : Type} (R A : Asn) (w : World) (r : Lang.R α) (K : α → List Tok → Ending → World → Prop) (e : Ending) (w' : World) : Prop := match r with
  | .ok x l => K x l e w'
  | .err line en => Err R A w line en e w'
  | .out => True
section
variable {P : Program} {f : FuncId} {args : Array Value} {w0 w : World} {M : Nat → Prop} {R A A0 : Asn} {L : List Asn} {α β : Type} {K : α → List Tok → Ending → World → Prop} {line en : Int} {x : α} {l : List Tok} {G : Ending → World → Prop} {Z : List PanicEntry → World → Prop}
theorem set_same {k : Nat} (B : Asn) (hk : L[k]? = some A) : (L.set k B)[k]? = some B := by
  rw [List.getElem?_set_self (by
    rcases Nat.lt_or_ge k L.length with h | h
    · exact h
    · rw [List.getElem?_eq_none h] at hk; cases hk)]
theorem perr [Inhabited G3o] (H : St w0 A0.own w L) (k : Nat) (hk : L[k]? = some A) (hc : Calls P f args w (Err R A w line en)) : Calls P f args w (fun e w' => G e w' ∨ ∃ c : List PanicEntry, e = .panicked c ∧ Err R A0 w0 line en (.panicked c) w') :=
  hc.mono fun e w' ⟨b, he, hp⟩ => .inr ⟨_, he, b, rfl, (H.upd k hk hp).post k (set_same _ hk)⟩
theorem perr' [Inhabited G3o] (H : St w0 A0.own w L) (k : Nat) (hk : L[k]? = some A) (hc : Calls P f args w (Err R A w line en)) : Calls P f args w (fun e w' => ∃ c : List PanicEntry, e = .panicked c ∧ Err R A0 w0 line en (.panicked c) w') :=
  hc.mono fun e w' ⟨b, he, hp⟩ => ⟨_, he, b, rfl, (H.upd k hk hp).post k (set_same _ hk)⟩
end
/-- of a parser, behind a panic: its block -/
def parW [Inhabited G3o] (b : Nat) : Asn where
  own k := k = b ∨ k = 3
  at_ w := ∃ v z, here [blk b #[v, .int .i64 z] 84, globA] w
  keep := by
    rintro T w w' ⟨v, z, h⟩ ht hn
    refine ⟨v, z, h.keep ht ?_⟩
    rintro k (e | e | e)
    · exact hn k (.inl e)
    · exact hn k (.inr e)
    · exact e.elim
  lt := by
    rintro w ⟨v, z, h⟩ k (e | e)
    · exact h.lt k (.inl e)
    · exact h.lt k (.inr (.inl e))
theorem parW_open [Inhabited G3o] {w0 w : World} {M : Nat → Prop} {L : List Asn} {b : Nat} (H : St w0 M w (parW b :: L)) : ∃ v z, St w0 M w ([blk b #[v, .int .i64 z] 84, globA] ++ L) := by
  obtain ⟨v, z, h⟩ := H.nth 0 rfl
  refine ⟨v, z, H.unfold_ (fun _ => h) ?_⟩
  rintro q (e | e | e)
  · exact .inl e
  · exact .inr e
  · exact e.elim
theorem parW_shut [Inhabited G3o] {w0 w : World} {M : Nat → Prop} {L : List Asn} {b : Nat} {v : Value} {z : Int} (H : St w0 M w ([blk b #[v, .int .i64 z] 84, globA] ++ L)) : St w0 M w (parW b :: L) := by
  refine H.fold (Ls := [blk b #[v, .int .i64 z] 84, globA]) (fun h => ⟨v, z, h⟩) ?_
  rintro q (e | e)
  · exact .inl e
  · exact .inr (.inl e)
theorem par_weak [Inhabited G3o] {w0 w : World} {M : Nat → Prop} {L : List Asn} (H : St w0 M w (parA b g l n :: L)) : St w0 M w (parW b :: L) :=
  H.conv 0 rfl (fun ⟨_, off, c, h⟩ => ⟨_, _, St.here_sel h [0, 2] (by decide)⟩) (fun q hq => by
    rcases hq with e | e
    · exact .inl e
    · exact .inr (.inr e))
theorem fail_any (line e : Int) : Calls Tryz.prog 52 #[.int .i64 line, .int .i64 e] W fun en w' => ∃ b, en = .panicked (pan b) ∧ Post emp W (fltA b line e) w' := by
  refine vc52 line e ?_
  rintro _ rfl
  refine (St.nil W).al fun k w2 H2 => ?_
  exact ⟨k, rfl, H2.new 0 rfl⟩
/-- .. in the parser -/
theorem fail_in [Inhabited G3o] (hA : (parA b g l n).at_ W) (line e : Int) : Calls Tryz.prog 52 #[.int .i64 line, .int .i64 e] W (Err (parW b) (parA b g l n) W line e) := by
  refine (fail_any line e).mono ?_
  rintro en w' ⟨q, rfl, hp⟩
  have H := (par_weak (L := [_]) ((St.begin hA).add hp)).pick [1, 0]
  exact ⟨q, rfl, St.post (St.shut (L := [_, _]) (L' := []) H) 0 rfl⟩
theorem pfail_any [Inhabited G3o] (e : Int) (h : (parA b g l n).at_ W) : Calls Tryz.prog 91 #[.pointer (some ⟨b, 0, none⟩), .int .i64 e] W (Err (parW b) (parA b g l n) W (now l).line e) := by
  refine vc91 b 0 e ?_
  refine (St.begin h).callq (now_any h) fun w2 H2 => ?_
  refine ⟨_, rfl, _, rfl, ?_⟩
  exact perr' H2 0 rfl (fail_in (H2.nth 0 rfl) (now l).line e)
theorem toList_eq (s t : ByteArray) : (ByteArray.toList s == ByteArray.toList t) = decide (s = t) := by
  rw [← beq_toListBytes]
  by_cases h : s = t
  · rw [decide_eq_true h]; exact (MapKept.bytes_beq s t).2 h
  · rw [decide_eq_false h]
    exact Bool.eq_false_iff.2 fun e => h ((MapKept.bytes_beq s t).1 e)
theorem is_any [Inhabited G3o] (s : ByteArray) (h : (parA b g l n).at_ W) : Calls Tryz.prog 89 #[.pointer (some ⟨b, 0, none⟩), .string s] W fun e w' => e = .returned (.bool (is s l)) ∧ Hush W w' := by
  refine vc89 b 0 s ?_
  refine (now_any h).mono ?_
  rintro _ w2 ⟨rfl, h2⟩
  refine ⟨_, rfl, _, rfl, ?_⟩
  refine Sx.split_of (fun h3 => ?_) (fun h3 => ?_)
  · have hk : (now l).k = 3 := by have := beq_iff_eq.1 h3; omega
    refine (now_any (hush_keep h h2)).mono ?_
    rintro _ w3 ⟨rfl, h4⟩
    refine ⟨_, rfl, _, rfl, ?_, hush_trans h2 h4⟩
    rw [toList_eq]
    simp [Go.Lang.is, hk]
  · have hk : ¬ (now l).k = 3 := fun e => by rw [e] at h3; cases h3
    exact ⟨by simp [Go.Lang.is, hk], h2⟩
theorem is_mark {s : ByteArray} (h : is s l = true) : (now l).k ≠ 0 := by
  unfold is at h
  rw [Bool.and_eq_true] at h
  have := of_decide_eq_true h.1
  omega
theorem take_any [Inhabited G3o] (s : ByteArray) (h : (parA b g l n).at_ W) : Calls Tryz.prog 49 #[.pointer (some ⟨b, 0, none⟩), .string s] W fun e w' => e = .returned (.bool (is s l)) ∧ Post (parA b g l n) W (parA b g (if is s l then l.tail else l) n) w' := by
  refine vc49 b 0 s ?_
  refine (St.begin h).callq (is_any s h) fun w2 H2 => ?_
  refine ⟨_, rfl, ?_⟩
  refine Sx.split_of (fun h3 => ?_) (fun h3 => ?_)
  · have h3 : is s l = false := by simpa using h3
    rw [h3]
    exact ⟨rfl, H2.post 0 rfl⟩
  · have h3 : is s l = true := by simpa using h3
    rw [h3]
    refine H2.call 0 rfl (next_any (H2.nth 0 rfl) (is_mark h3)) fun w3 H3 => ?_
    exact ⟨_, rfl, rfl, H3.post 0 rfl⟩
theorem want_any [Inhabited G3o] (s : ByteArray) (h : (parA b g l n).at_ W) : Calls Tryz.prog 53 #[.pointer (some ⟨b, 0, none⟩), .string s] W (Ans (parW b) (parA b g l n) W (want s l fun l => .ok () l) fun _ l' e w' => e = .returned (.tuple #[]) ∧ Post (parA b g l n) W (parA b g l' n) w') := by
  refine vc53 b 0 s ?_
  refine (St.begin h).call 0 rfl (take_any s h) fun w2 H2 => ?_
  refine ⟨_, rfl, ?_⟩
  unfold want
  cases hi : is s l with
  | false =>
    rw [hi] at H2
    exact perr' H2 0 rfl (pfail_any 8 (H2.nth 0 rfl))
  | true =>
    rw [hi] at H2
    exact ⟨rfl, H2.post 0 rfl⟩
theorem name_any [Inhabited G3o] (h : (parA b g l n).at_ W) : Calls Tryz.prog 50 #[.pointer (some ⟨b, 0, none⟩)] W (Ans (parW b) (parA b g l n) W (name l fun t l => .ok t l) fun t l' e w' => e = .returned (tkV t) ∧ Post (parA b g l n) W (parA b g l' n) w') := by
  refine vc50 b 0 ?_
  refine (St.begin h).al fun k w2 H2 => ?_
  refine H2.callq (now_any (H2.nth 0 rfl)) fun w3 H3 => ?_
  refine ⟨_, rfl, _, rfl, ?_⟩
  unfold name
  refine Sx.split_of (fun h3 => ?_) (fun h3 => ?_)
  · have hk : (now l).k ≠ 1 := fun e => by rw [e] at h3; cases h3
    rw [if_pos hk]
    exact perr' H3 0 rfl (pfail_any 8 (H3.nth 0 rfl))
  · have hk1 : (now l).k = 1 := by rw [bne_eq_false_iff_eq] at h3; omega
    rw [if_neg (fun h => h hk1)]
    refine H3.callq (now_any (H3.nth 0 rfl)) fun w4 H4 => ?_
    refine ⟨_, rfl, _, rfl, ?_⟩
    refine Sx.split_of (fun h4 => ?_) (fun h4 => ?_)
    · have h4 := of_decide_eq_true h4
      rw [if_pos (show 16 < (now l).s.size by omega)]
      exact perr' H4 0 rfl (pfail_any 3 (H4.nth 0 rfl))
    · have h4 := of_decide_eq_false h4
      rw [if_neg (show ¬ 16 < (now l).s.size by omega)]
      refine H4.call 0 rfl (next_any (H4.nth 0 rfl) (by omega)) fun w5 H5 => ?_
      refine ⟨_, rfl, ?_⟩
      refine H5.sts0 1 (n := 3) (vs := (tkL (now l)).toArray) rfl rfl rfl (by simpa using tkL_one _) fun w6 H6 => ?_
      exact ⟨_, rfl, H6.cells 1 rfl, rfl, H6.post 0 rfl⟩
theorem want_yes [Inhabited G3o] {s : ByteArray} (h : (parA b g l n).at_ W) (hi : is s l = true) : Calls Tryz.prog 53 #[.pointer (some ⟨b, 0, none⟩), .string s] W fun e w' => e = .returned (.tuple #[]) ∧ Post (parA b g l n) W (parA b g l.tail n) w' := by
  have := want_any s h
  unfold want at this
  rw [hi] at this
  exact this
theorem want_no [Inhabited G3o] {s : ByteArray} (h : (parA b g l n).at_ W) (hi : is s l = false) : Calls Tryz.prog 53 #[.pointer (some ⟨b, 0, none⟩), .string s] W (Err (parW b) (parA b g l n) W (now l).line 8) := by
  have := want_any s h
  unfold want at this
  rw [hi] at this
  exact this
/-! ### numbers -/
theorem parseM : ∀ (l : List UInt8) (acc : Nat), l.all isD = true → acc ≤ 4294967295 → Lib.parseUintM 4294967295 acc l = (if l.foldl (fun n c => 10 * n + (c.toNat - 48)) acc ≤ 4294967295 then .ok (l.foldl (fun n c => 10 * n + (c.toNat - 48)) acc) else .range)
  | [], acc, _, ha => by simp [Lib.parseUintM, ha]
  | c :: r, acc, h, ha => by
    rw [List.all_cons, Bool.and_eq_true] at h
    have hd : 48 ≤ c.toNat ∧ c.toNat ≤ 57 := by
      have := h.1
      unfold isD at this
      rw [Bool.and_eq_true] at this
      have h1 := of_decide_eq_true this.1
      have h2 := of_decide_eq_true this.2
      exact ⟨h1, h2⟩
    unfold Lib.parseUintM
    rw [if_pos hd, if_neg (by omega)]
    have mono : ∀ (l : List UInt8) (a : Nat), a ≤ l.foldl (fun n c => 10 * n + (c.toNat - 48)) a := by
      intro l
      induction l with
      | nil => intro a; exact Nat.le_refl _
      | cons x l ih => intro a; exact Nat.le_trans (show a ≤ 10 * a + (x.toNat - 48) by omega) (ih _)
    rw [List.foldl_cons, Nat.mul_comm acc 10]
    by_cases h2 : 4294967295 < 10 * acc + (c.toNat - 48)
    · rw [if_pos h2, if_neg (by have := mono r (10 * acc + (c.toNat - 48)); omega)]
    · rw [if_neg h2]
      exact parseM r _ h.2 (by omega)
theorem parseB [Inhabited G3o] {s : ByteArray} (h0 : s.data.toList ≠ []) (h : s.data.toList.all isD = true) : Lib.parseUintB 32 s.data.toList = if Go.Lang.valOf s ≤ 4294967295 then .ok (Go.Lang.valOf s) else .range := by
  unfold Lib.parseUintB
  rw [if_neg h0]
  exact parseM _ 0 h (by omega)
theorem bytesWorld_hush (w : World) (t : TypeId) (s : ByteArray) : Hush w (Lib.bytesWorld w t s) :=
  ⟨rfl, rfl, rfl, by rw [Lib.bytesWorld_size]; omega, fun k hk _ => Lib.bytesWorld_at_old w t s k hk⟩
theorem number_any [Inhabited G3o] (h : (parA b g l n).at_ W) : Calls Tryz.prog 51 #[.pointer (some ⟨b, 0, none⟩)] W (Ans (parW b) (parA b g l n) W (number l fun v l => .ok v l) fun v l' e w' => e = .returned (.int .u32 v) ∧ Post (parA b g l n) W (parA b g l' n) w') := by
  refine vc51 b 0 ?_
  refine (St.begin h).callq (now_any h) fun w3 H3 => ?_
  refine ⟨_, rfl, _, rfl, ?_⟩
  unfold number
  refine Sx.split_of (fun h3 => ?_) (fun h3 => ?_)
  · have hk : (now l).k ≠ 2 := fun e => by rw [e] at h3; cases h3
    rw [if_pos hk]
    exact perr' H3 0 rfl (pfail_any 8 (H3.nth 0 rfl))
  · have hk1 : (now l).k = 2 := by rw [bne_eq_false_iff_eq] at h3; omega
    rw [if_neg (fun h => h hk1)]
    refine H3.callq (now_any (H3.nth 0 rfl)) fun w4 H4 => ?_
    refine ⟨_, rfl, _, rfl, ?_⟩
    obtain ⟨hG, -⟩ := par_good h
    obtain ⟨l', hl⟩ := par_now h
    obtain ⟨hd0, hd⟩ := hG.2.1 (now l) (by rw [hl]; exact List.mem_cons_self ..) hk1
    have hsz := hG.2.2.1 (now l) (by rw [hl]; exact List.mem_cons_self ..)
    have hp := parseB hd0 hd
    by_cases hv : 4294967296 ≤ Go.Lang.valOf (now l).s
    · rw [if_pos hv]
      rw [if_neg (by omega)] at hp
      obtain ⟨-, -, off, c, hop⟩ := par_open (St.begin (H4.nth 0 rfl))
      obtain ⟨⟨tt, vv, hgl⟩, -⟩ := hop.nth 2 rfl
      refine (Tryz.strconv_ParseUint_10_at32_range (now l).s (by omega) hp _ w4 hgl (.inr ⟨_, _, rfl⟩)).mono ?_
      rintro _ w5 ⟨N, rfl, -, -, hb⟩
      have H5 := H4.quiet (w' := w5) ((XTouch.of_below hb).mono fun k hk hs => by omega)
      refine ⟨_, _, rfl, nil_false ?_⟩
      exact perr' H5 0 rfl (pfail_any 3 (H5.nth 0 rfl))
    · rw [if_neg hv]
      rw [if_pos (by omega)] at hp
      refine (Tryz.strconv_ParseUint_10_at32_ok (now l).s (by omega) _ hp w4).mono ?_
      rintro _ w5 ⟨rfl, hw⟩
      have H5 := H4.quiet (w' := w5) (by
        rcases hw with rfl | rfl
        · exact XTouch.refl _ _
        · exact bytesWorld_hush _ _ _)
      refine ⟨_, _, rfl, nil_true ?_⟩
      refine H5.call 0 rfl (next_any (H5.nth 0 rfl) (by omega)) fun w6 H6 => ?_
      refine ⟨_, rfl, ?_⟩
      rintro z rfl
      refine ⟨?_, H6.post 0 rfl⟩
      rw [show IntKind.wrap .u32 ((Go.Lang.valOf (now l).s : Nat) : Int) = ((Go.Lang.valOf (now l).s : Nat) : Int) from Go.Bits.n32 (by omega)]
end Go.Proofs.YtojogkljneonmaaGreatDoor
/- Trees in memory; the parser's functions for expressions. No condition. -/
namespace Go.Proofs.YtojogkljneonmaaGreatDoor
open Go Go.Proofs Go.Sep Go.XHeap Go.RowKit Go.Lang
set_option linter.unusedVariables false
set_option linter.unusedSimpArgs false

def pt (k : Nat) : Value := .pointer (some ⟨k, 0, none⟩)
def nameC (t : Tok) (s w : Int) : List Value := tkL t ++ [.int .i64 s, .int .i64 w]
def indexC (t : Tok) (w z : Int) (x : Value) : List Value := tkL t ++ [.int .i64 w, .int .u32 z, x]
def callC (t : Tok) (f : Option Addr) (v : Value) : List Value := tkL t ++ [.pointer f, v]
def unC (t : Tok) (x : Value) : List Value := tkL t ++ [.string t.s, x]
def binC (t : Tok) (x y : Value) : List Value := tkL t ++ [.string t.s, x, y]
def setC (t : Tok) (k : Nat) (x : Value) (nw : Bool) : List Value := tkL t ++ [pt k, x, .bool nw]
/-- the piece that is this tree, and the values that stand for it -/
def isP : T → List Value → Asn → Prop
  | .num v _, vs, A => vs = [.iface 211 (.int .u32 v)] ∧ A = emp
  | .name t s w, vs, A => ∃ k, vs = [.iface 167 (pt k)] ∧ A = blk k (nameC t s w).toArray 221
  | .index t w z p, vs, A => ∃ k x A1, isP p [x] A1 ∧ vs = [.iface 177 (pt k)] ∧ A = all [blk k (indexC t w z x).toArray 176, A1]
  | .call t f xs, vs, A => ∃ k p c us A1, isP xs us A1 ∧ vs = [.iface 193 (pt k)] ∧ A = all [blk k (callC t f (.slice p us.length c)).toArray 214, sl 169 1 (.slice p us.length c) us.length us, A1]
  | .un t x, vs, A => ∃ k v A1, isP x [v] A1 ∧ vs = [.iface 215 (pt k)] ∧ A = all [blk k (unC t v).toArray 217, A1]
  | .bin t x y, vs, A => ∃ k u v A1 A2, isP x [u] A1 ∧ isP y [v] A2 ∧ vs = [.iface 218 (pt k)] ∧ A = all [blk k (binC t u v).toArray 230, A1, A2]
  | .nil, vs, A => vs = [] ∧ A = all []
  | .cons x xs, vs, A => ∃ v us A1 As, isP x [v] A1 ∧ isP xs us (all As) ∧ vs = v :: us ∧ A = all (A1 :: As)
  | .letS t nm s w x, vs, A => ∃ k k2 v A1, isP x [v] A1 ∧ vs = [.iface 165 (pt k)] ∧ A = all [blk k (setC t k2 v true).toArray 171, blk k2 (nameC nm s w).toArray 221, A1]
  | .setS t s w x, vs, A => ∃ k k2 v A1, isP x [v] A1 ∧ vs = [.iface 165 (pt k)] ∧ A = all [blk k (setC t k2 v false).toArray 171, blk k2 (nameC t s w).toArray 221, A1]
  | .putS t w z p x, vs, A => ∃ k k2 u v A1 A2, isP p [u] A1 ∧ isP x [v] A2 ∧ vs = [.iface 174 (pt k)] ∧ A = all [blk k #[pt k2, v] 179, blk k2 (indexC t w z u).toArray 176, A1, A2]
  | .ifS _ c a b, vs, A => ∃ k v k2 A1 A2, isP c [v] A1 ∧ isP a [.iface 113 (pt k2)] A2 ∧ vs = [.iface 181 (pt k)] ∧
      ((b = .nil ∧ A = all [blk k #[v, pt k2, .pointer none] 183, A1, A2]) ∨ ∃ k3 A3, isP b [.iface 113 (pt k3)] A3 ∧ A = all [blk k #[v, pt k2, pt k3] 183, A1, A2, A3])
  | .whileS _ c b, vs, A => ∃ k v k2 A1 A2, isP c [v] A1 ∧ isP b [.iface 113 (pt k2)] A2 ∧ vs = [.iface 184 (pt k)] ∧ A = all [blk k #[v, pt k2] 186, A1, A2]
  | .retS _ x, vs, A => ∃ k v A1, isP x [v] A1 ∧ vs = [.iface 187 (pt k)] ∧ A = all [blk k #[v] 189, A1]
  | .prtS _ x, vs, A => ∃ k v A1, isP x [v] A1 ∧ vs = [.iface 190 (pt k)] ∧ A = all [blk k #[v] 191, A1]
  | .doS _ x, vs, A => ∃ k k2 A1, isP x [.iface 193 (pt k2)] A1 ∧ vs = [.iface 192 (pt k)] ∧ A = all [blk k #[pt k2] 195, A1]
  | .block _ l, vs, A => ∃ k p c us A1, isP l us A1 ∧ vs = [.iface 113 (pt k)] ∧ A = all [blk k #[.slice p us.length c] 164, sl 161 1 (.slice p us.length c) us.length us, A1]
theorem isP_iface : ∀ {t : T} {vs : List Value} {A : Asn}, isP t vs A → ∀ v ∈ vs, ∃ ty p, v = .iface ty p := by
  intro t
  induction t with
  | num v l => rintro vs A ⟨rfl, -⟩ v hv; simp at hv; exact ⟨_, _, hv⟩
  | name t s w => rintro vs A ⟨k, rfl, -⟩ v hv; simp at hv; exact ⟨_, _, hv⟩
  | nil => rintro vs A ⟨rfl, -⟩ v hv; cases hv
  | cons x xs ih1 ih2 =>
    rintro vs A ⟨v, us, A1, As, h1, h2, rfl, -⟩ u hu
    rcases List.mem_cons.1 hu with rfl | hu
    · exact ih1 h1 _ (List.mem_cons_self ..)
    · exact ih2 h2 _ hu
  | index t w z p _ => rintro vs A ⟨k, x, A1, -, rfl, -⟩ v hv; simp at hv; exact ⟨_, _, hv⟩
  | call t f xs _ => rintro vs A ⟨k, p, c, us, A1, -, rfl, -⟩ v hv; simp at hv; exact ⟨_, _, hv⟩
  | un t x _ => rintro vs A ⟨k, v, A1, -, rfl, -⟩ v hv; simp at hv; exact ⟨_, _, hv⟩
  | bin t x y _ _ => rintro vs A ⟨k, u, v, A1, A2, -, -, rfl, -⟩ v hv; simp at hv; exact ⟨_, _, hv⟩
  | letS t nm s w x _ => rintro vs A ⟨k, k2, v, A1, -, rfl, -⟩ v hv; simp at hv; exact ⟨_, _, hv⟩
  | setS t s w x _ => rintro vs A ⟨k, k2, v, A1, -, rfl, -⟩ v hv; simp at hv; exact ⟨_, _, hv⟩
  | putS t w z p x _ _ => rintro vs A ⟨k, k2, u, v, A1, A2, -, -, rfl, -⟩ v hv; simp at hv; exact ⟨_, _, hv⟩
  | ifS l c a b _ _ _ => rintro vs A ⟨k, v, k2, A1, A2, -, -, rfl, -⟩ v hv; simp at hv; exact ⟨_, _, hv⟩
  | whileS l c b _ _ => rintro vs A ⟨k, v, k2, A1, A2, -, -, rfl, -⟩ v hv; simp at hv; exact ⟨_, _, hv⟩
  | retS l x _ => rintro vs A ⟨k, v, A1, -, rfl, -⟩ v hv; simp at hv; exact ⟨_, _, hv⟩
  | prtS l x _ => rintro vs A ⟨k, v, A1, -, rfl, -⟩ v hv; simp at hv; exact ⟨_, _, hv⟩
  | doS l x _ => rintro vs A ⟨k, k2, A1, -, rfl, -⟩ v hv; simp at hv; exact ⟨_, _, hv⟩
  | block l x _ => rintro vs A ⟨k, p, c, us, A1, -, rfl, -⟩ v hv; simp at hv; exact ⟨_, _, hv⟩
theorem isP_one [Inhabited G3o] {t : T} {v : Value} {A : Asn} (h : isP t [v] A) {φ : Prop} (hφ : φ) : Sx.one v φ := by
  obtain ⟨ty, p, rfl⟩ := isP_iface h v (List.mem_cons_self ..)
  exact hφ
theorem isP_cell [Inhabited G3o] {t : T} {v : Value} {A : Asn} (h : isP t [v] A) : v.oneCell' = true := by
  obtain ⟨ty, p, rfl⟩ := isP_iface h v (List.mem_cons_self ..)
  rfl
/-! ### lists of trees -/
def ofTs (ts : List T) (r : T) : T := ts.foldr .cons r
theorem isP_snoc {x : T} {v : Value} {B : Asn} (hx : isP x [v] B) : ∀ {ts : List T} {vs : List Value} {As : List Asn}, isP (ofTs ts .nil) vs (all As) → ∃ As', isP (ofTs (ts ++ [x]) .nil) (vs ++ [v]) (all As') ∧ ∀ w0 M w L, St w0 M w (all As :: B :: L) → St w0 M w (all As' :: L)
  | [], vs, As, h => by
    obtain ⟨rfl, e⟩ := h
    refine ⟨[B], ⟨v, [], B, [], hx, ⟨rfl, rfl⟩, rfl, rfl⟩, fun w0 M w L H => ?_⟩
    rw [e] at H
    exact St.push (Ls := []) H
  | t :: ts, vs, As, h => by
    obtain ⟨u, us, A1, Bs, h1, h2, rfl, e⟩ := h
    obtain ⟨Bs', h3, h4⟩ := isP_snoc hx h2
    refine ⟨A1 :: Bs', ⟨u, _, A1, Bs', h1, h3, rfl, rfl⟩, fun w0 M w L H => ?_⟩
    rw [e] at H
    have H1 := St.open_ (L := A1 :: Bs) H
    have H2 : St w0 M w (all Bs :: B :: A1 :: L) := by
      have : St w0 M w (all Bs :: A1 :: B :: L) := St.shut (L := Bs) (L' := A1 :: B :: L) (H1.perm (by
        simp only [List.cons_append]
        exact List.perm_middle.symm))
      exact this.perm (.cons _ (.swap ..))
    have H3 := h4 _ _ _ _ H2
    have H4 := (St.open_ (L := Bs') H3).perm (L' := (A1 :: Bs') ++ L) (by exact List.perm_middle)
    exact St.shut (L := A1 :: Bs') H4
theorem ofTs_snoc (ts : List T) (x r : T) : ofTs (ts ++ [x]) r = ofTs ts (.cons x r) := by simp [ofTs]
end Go.Proofs.YtojogkljneonmaaGreatDoor
