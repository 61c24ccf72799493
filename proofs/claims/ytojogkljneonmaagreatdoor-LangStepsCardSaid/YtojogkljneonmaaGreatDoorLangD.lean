import Derived.Test.YtojogkljneonmaaGreatDoorLangB
/- The parser's functions for expressions do what the plain parser says. No condition. -/
namespace Go.Proofs.YtojogkljneonmaaGreatDoor
open Go Go.Proofs Go.Sep Go.XHeap Go.RowKit Go.Lang
set_option linter.unusedVariables false
set_option linter.unusedSimpArgs false

variable {W : World} {b g n : Nat} {l : List Tok}
/-- a tree is read -/
def TreeK [Inhabited G3o] (b g n : Nat) (W : World) (A : Asn) (x : T) (l' : List Tok) (e : Ending) (w' : World) : Prop := ∃ v B, e = .returned v ∧ isP x [v] B ∧ Post A W (all [parA b g l' n, B]) w'
/-- .. as a pointer -/
def PtK [Inhabited G3o] (ty : TypeId) (b g n : Nat) (W : World) (A : Asn) (x : T) (l' : List Tok) (e : Ending) (w' : World) : Prop := ∃ k B, e = .returned (pt k) ∧ isP x [.iface ty (pt k)] B ∧ Post A W (all [parA b g l' n, B]) w'
/-- what the functions do with so much fuel -/
structure Ih [Inhabited G3o] (f : Nat) : Prop where
  expr : ∀ {W : World} {b g n : Nat} {l : List Tok}, (parA b g l n).at_ W → n ≤ 24 → run f .expr n l ≠ .out → Calls Tryz.prog 113 #[pt b] W (Ans (parW b) (parA b g l n) W (run f .expr n l) (TreeK b g n W (parA b g l n)))
  bin : ∀ {W : World} {b g n : Nat} {l : List Tok} (k : Nat), k ≤ 11 → (parA b g l n).at_ W → n ≤ 24 → run f (.bin k) n l ≠ .out → Calls Tryz.prog 132 #[pt b, .int .i64 (k : Nat)] W (Ans (parW b) (parA b g l n) W (run f (.bin k) n l) (TreeK b g n W (parA b g l n)))
  un : ∀ {W : World} {b g n : Nat} {l : List Tok}, (parA b g l n).at_ W → n ≤ 24 → run f .un n l ≠ .out → Calls Tryz.prog 144 #[pt b] W (Ans (parW b) (parA b g l n) W (run f .un n l) (TreeK b g n W (parA b g l n)))
  prim : ∀ {W : World} {b g n : Nat} {l : List Tok}, (parA b g l n).at_ W → n ≤ 24 → run f .prim n l ≠ .out → Calls Tryz.prog 172 #[pt b] W (Ans (parW b) (parA b g l n) W (run f .prim n l) (TreeK b g n W (parA b g l n)))
  blk : ∀ {W : World} {b g n : Nat} {l : List Tok}, (parA b g l n).at_ W → n ≤ 24 → run f .blk n l ≠ .out → Calls Tryz.prog 56 #[pt b] W (Ans (parW b) (parA b g l n) W (run f .blk n l) (PtK 113 b g n W (parA b g l n)))
  stmt : ∀ {W : World} {b g n : Nat} {l : List Tok}, (parA b g l n).at_ W → n ≤ 24 → run f .stmt n l ≠ .out → Calls Tryz.prog 95 #[pt b] W (Ans (parW b) (parA b g l n) W (run f .stmt n l) (TreeK b g n W (parA b g l n)))
/-- how many tokens the parser has left -/
def lenAt (b : Nat) (w : World) : Nat := match w.cell? ⟨b, 0, none⟩ with | some (.slice _ n _) => n | _ => 0
theorem lenAt_par [Inhabited G3o] (h : (parA b g l n).at_ W) : lenAt b W = l.length := by
  obtain ⟨-, off, c, h⟩ := h
  have : W.cell? ⟨b, 0, none⟩ = some (tokP g off c l) := h.1.cell' rfl
  unfold lenAt
  rw [this]
  rfl
theorem strength_any [Inhabited G3o] (s : ByteArray) : Calls Tryz.prog 145 #[.string s] W fun e w' => e = .returned (.int .i64 (strength s : Nat)) ∧ w' = W := by
  refine vc145 s ?_
  rw [toList_eq, toList_eq, toList_eq, toList_eq, toList_eq, toList_eq, toList_eq, toList_eq, toList_eq, toList_eq, toList_eq, toList_eq, toList_eq, toList_eq, toList_eq, toList_eq, toList_eq, toList_eq]
  refine Sx.split_of (fun h => ?_) (fun h0 => ?_)
  · rw [decide_eq_true_iff] at h; subst h; exact ⟨congrArg (fun k : Nat => Ending.returned (.int .i64 (k : Int))) (show 1 = strength (ofL [124, 124]) by decide), rfl⟩
  refine Sx.split_of (fun h => ?_) (fun h1 => ?_)
  · rw [decide_eq_true_iff] at h; subst h; exact ⟨congrArg (fun k : Nat => Ending.returned (.int .i64 (k : Int))) (show 2 = strength (ofL [38, 38]) by decide), rfl⟩
  refine Sx.split_of (fun h => ?_) (fun h2 => ?_)
  · rw [decide_eq_true_iff] at h; subst h; exact ⟨congrArg (fun k : Nat => Ending.returned (.int .i64 (k : Int))) (show 3 = strength (ofL [124]) by decide), rfl⟩
  refine Sx.split_of (fun h => ?_) (fun h3 => ?_)
  · rw [decide_eq_true_iff] at h; subst h; exact ⟨congrArg (fun k : Nat => Ending.returned (.int .i64 (k : Int))) (show 4 = strength (ofL [94]) by decide), rfl⟩
  refine Sx.split_of (fun h => ?_) (fun h4 => ?_)
  · rw [decide_eq_true_iff] at h; subst h; exact ⟨congrArg (fun k : Nat => Ending.returned (.int .i64 (k : Int))) (show 5 = strength (ofL [38]) by decide), rfl⟩
  refine Sx.split_of (fun h => ?_) (fun h5 => ?_)
  · rw [decide_eq_true_iff] at h; subst h; exact ⟨congrArg (fun k : Nat => Ending.returned (.int .i64 (k : Int))) (show 6 = strength (ofL [61, 61]) by decide), rfl⟩
  refine Sx.split_of (fun h => ?_) (fun h6 => ?_)
  · rw [decide_eq_true_iff] at h; subst h; exact ⟨congrArg (fun k : Nat => Ending.returned (.int .i64 (k : Int))) (show 6 = strength (ofL [33, 61]) by decide), rfl⟩
  refine Sx.split_of (fun h => ?_) (fun h7 => ?_)
  · rw [decide_eq_true_iff] at h; subst h; exact ⟨congrArg (fun k : Nat => Ending.returned (.int .i64 (k : Int))) (show 7 = strength (ofL [60]) by decide), rfl⟩
  refine Sx.split_of (fun h => ?_) (fun h8 => ?_)
  · rw [decide_eq_true_iff] at h; subst h; exact ⟨congrArg (fun k : Nat => Ending.returned (.int .i64 (k : Int))) (show 7 = strength (ofL [60, 61]) by decide), rfl⟩
  refine Sx.split_of (fun h => ?_) (fun h9 => ?_)
  · rw [decide_eq_true_iff] at h; subst h; exact ⟨congrArg (fun k : Nat => Ending.returned (.int .i64 (k : Int))) (show 7 = strength (ofL [62]) by decide), rfl⟩
  refine Sx.split_of (fun h => ?_) (fun h10 => ?_)
  · rw [decide_eq_true_iff] at h; subst h; exact ⟨congrArg (fun k : Nat => Ending.returned (.int .i64 (k : Int))) (show 7 = strength (ofL [62, 61]) by decide), rfl⟩
  refine Sx.split_of (fun h => ?_) (fun h11 => ?_)
  · rw [decide_eq_true_iff] at h; subst h; exact ⟨congrArg (fun k : Nat => Ending.returned (.int .i64 (k : Int))) (show 8 = strength (ofL [60, 60]) by decide), rfl⟩
  refine Sx.split_of (fun h => ?_) (fun h12 => ?_)
  · rw [decide_eq_true_iff] at h; subst h; exact ⟨congrArg (fun k : Nat => Ending.returned (.int .i64 (k : Int))) (show 8 = strength (ofL [62, 62]) by decide), rfl⟩
  refine Sx.split_of (fun h => ?_) (fun h13 => ?_)
  · rw [decide_eq_true_iff] at h; subst h; exact ⟨congrArg (fun k : Nat => Ending.returned (.int .i64 (k : Int))) (show 9 = strength (ofL [43]) by decide), rfl⟩
  refine Sx.split_of (fun h => ?_) (fun h14 => ?_)
  · rw [decide_eq_true_iff] at h; subst h; exact ⟨congrArg (fun k : Nat => Ending.returned (.int .i64 (k : Int))) (show 9 = strength (ofL [45]) by decide), rfl⟩
  refine Sx.split_of (fun h => ?_) (fun h15 => ?_)
  · rw [decide_eq_true_iff] at h; subst h; exact ⟨congrArg (fun k : Nat => Ending.returned (.int .i64 (k : Int))) (show 10 = strength (ofL [42]) by decide), rfl⟩
  refine Sx.split_of (fun h => ?_) (fun h16 => ?_)
  · rw [decide_eq_true_iff] at h; subst h; exact ⟨congrArg (fun k : Nat => Ending.returned (.int .i64 (k : Int))) (show 10 = strength (ofL [47]) by decide), rfl⟩
  refine Sx.split_of (fun h => ?_) (fun h17 => ?_)
  · rw [decide_eq_true_iff] at h; subst h; exact ⟨congrArg (fun k : Nat => Ending.returned (.int .i64 (k : Int))) (show 10 = strength (ofL [37]) by decide), rfl⟩
  have h0 : ¬ s = ofL [124, 124] := of_decide_eq_false h0
  have h1 : ¬ s = ofL [38, 38] := of_decide_eq_false h1
  have h2 : ¬ s = ofL [124] := of_decide_eq_false h2
  have h3 : ¬ s = ofL [94] := of_decide_eq_false h3
  have h4 : ¬ s = ofL [38] := of_decide_eq_false h4
  have h5 : ¬ s = ofL [61, 61] := of_decide_eq_false h5
  have h6 : ¬ s = ofL [33, 61] := of_decide_eq_false h6
  have h7 : ¬ s = ofL [60] := of_decide_eq_false h7
  have h8 : ¬ s = ofL [60, 61] := of_decide_eq_false h8
  have h9 : ¬ s = ofL [62] := of_decide_eq_false h9
  have h10 : ¬ s = ofL [62, 61] := of_decide_eq_false h10
  have h11 : ¬ s = ofL [60, 60] := of_decide_eq_false h11
  have h12 : ¬ s = ofL [62, 62] := of_decide_eq_false h12
  have h13 : ¬ s = ofL [43] := of_decide_eq_false h13
  have h14 : ¬ s = ofL [45] := of_decide_eq_false h14
  have h15 : ¬ s = ofL [42] := of_decide_eq_false h15
  have h16 : ¬ s = ofL [47] := of_decide_eq_false h16
  have h17 : ¬ s = ofL [37] := of_decide_eq_false h17
  refine ⟨?_, rfl⟩
  have : strength s = 0 := by
    unfold strength
    rw [if_neg h0]
    rw [if_neg h1]
    rw [if_neg h2]
    rw [if_neg h3]
    rw [if_neg h4]
    rw [if_neg (fun h => h.elim h5 (fun h => h6 h))]
    rw [if_neg (fun h => h.elim h7 (fun h => h.elim h8 (fun h => h.elim h9 (fun h => h10 h))))]
    rw [if_neg (fun h => h.elim h11 (fun h => h12 h))]
    rw [if_neg (fun h => h.elim h13 (fun h => h14 h))]
    rw [if_neg (fun h => h.elim h15 (fun h => h.elim h16 (fun h => h17 h)))]
  rw [this]; rfl
theorem withE_dec [Inhabited G3o] {k : Nat} {u : FrameMode} (h : (all [blk k #[pt b] 80, parA b g l (n + 1)]).at_ W) : CallsD Tryz.prog 143 #[pt k] u W fun e u' w' => u' = u ∧ (e = .returned (.tuple #[]) ∧ Post (all [blk k #[pt b] 80, parA b g l (n + 1)]) W (all [blk k #[pt b] 80, parA b g l n]) w') := by
  refine vc143 k 0 ?_
  have H := St.open_ (L' := []) (St.begin h)
  have H := H.perm (.swap ..)
  obtain ⟨hG, hn, off, c, H2⟩ := par_open H
  refine ⟨_, H2.ld 3 rfl (i := 0) rfl, ptr_some ⟨_, H2.ld 0 rfl (i := 1) rfl, ?_⟩⟩
  rintro z rfl
  refine ptr_some (H2.st 0 rfl (i := 1) (by simp) fun w3 H3 => ?_)
  rw [show IntKind.wrap .i64 (((n + 1 : Nat) : Int) - 1) = (n : Int) by rw [show ((n + 1 : Nat) : Int) - 1 = (n : Int) by omega]; exact Go.Bits.n64 (by omega)] at H3
  have H3 : St W _ w3 (parL b g off c l n ++ [blk k #[pt b] 80]) := H3
  have H4 := (par_shut hG (by omega) H3).perm (.swap ..)
  exact ⟨rfl, St.post (St.shut (L := [_, _]) (L' := []) H4) 0 rfl⟩
theorem withE_decW [Inhabited G3o] {k : Nat} {u : FrameMode} (h : (all [blk k #[pt b] 80, parW b]).at_ W) : CallsD Tryz.prog 143 #[pt k] u W fun e u' w' => u' = u ∧ (e = .returned (.tuple #[]) ∧ Post (all [blk k #[pt b] 80, parW b]) W (all [blk k #[pt b] 80, parW b]) w') := by
  refine vc143 k 0 ?_
  have H := (St.open_ (L' := []) (St.begin h)).perm (.swap ..)
  obtain ⟨v, z, H⟩ := parW_open H
  refine ⟨_, H.ld 2 rfl (i := 0) rfl, ptr_some ⟨_, H.ld 0 rfl (i := 1) rfl, ?_⟩⟩
  rintro z2 rfl
  refine ptr_some (H.st 0 rfl (i := 1) (by simp) fun w3 H3 => ?_)
  have H3 : St W _ w3 ([blk b #[v, .int .i64 _] 84, globA] ++ [blk k #[pt b] 80]) := H3
  have H4 := (parW_shut H3).perm (.swap ..)
  exact ⟨rfl, St.post (St.shut (L := [_, _]) (L' := []) H4) 0 rfl⟩
theorem withB_dec [Inhabited G3o] {k : Nat} {u : FrameMode} (h : (all [blk k #[pt b] 80, parA b g l (n + 1)]).at_ W) : CallsD Tryz.prog 110 #[pt k] u W fun e u' w' => u' = u ∧ (e = .returned (.tuple #[]) ∧ Post (all [blk k #[pt b] 80, parA b g l (n + 1)]) W (all [blk k #[pt b] 80, parA b g l n]) w') := by
  refine vc110 k 0 ?_
  have H := St.open_ (L' := []) (St.begin h)
  have H := H.perm (.swap ..)
  obtain ⟨hG, hn, off, c, H2⟩ := par_open H
  refine ⟨_, H2.ld 3 rfl (i := 0) rfl, ptr_some ⟨_, H2.ld 0 rfl (i := 1) rfl, ?_⟩⟩
  rintro z rfl
  refine ptr_some (H2.st 0 rfl (i := 1) (by simp) fun w3 H3 => ?_)
  rw [show IntKind.wrap .i64 (((n + 1 : Nat) : Int) - 1) = (n : Int) by rw [show ((n + 1 : Nat) : Int) - 1 = (n : Int) by omega]; exact Go.Bits.n64 (by omega)] at H3
  have H3 : St W _ w3 (parL b g off c l n ++ [blk k #[pt b] 80]) := H3
  have H4 := (par_shut hG (by omega) H3).perm (.swap ..)
  exact ⟨rfl, St.post (St.shut (L := [_, _]) (L' := []) H4) 0 rfl⟩
theorem withB_decW [Inhabited G3o] {k : Nat} {u : FrameMode} (h : (all [blk k #[pt b] 80, parW b]).at_ W) : CallsD Tryz.prog 110 #[pt k] u W fun e u' w' => u' = u ∧ (e = .returned (.tuple #[]) ∧ Post (all [blk k #[pt b] 80, parW b]) W (all [blk k #[pt b] 80, parW b]) w') := by
  refine vc110 k 0 ?_
  have H := (St.open_ (L' := []) (St.begin h)).perm (.swap ..)
  obtain ⟨v, z, H⟩ := parW_open H
  refine ⟨_, H.ld 2 rfl (i := 0) rfl, ptr_some ⟨_, H.ld 0 rfl (i := 1) rfl, ?_⟩⟩
  rintro z2 rfl
  refine ptr_some (H.st 0 rfl (i := 1) (by simp) fun w3 H3 => ?_)
  have H3 : St W _ w3 ([blk b #[v, .int .i64 _] 84, globA] ++ [blk k #[pt b] 80]) := H3
  have H4 := (parW_shut H3).perm (.swap ..)
  exact ⟨rfl, St.post (St.shut (L := [_, _]) (L' := []) H4) 0 rfl⟩
theorem wrap_nest (hn : n ≤ 24) : IntKind.wrap .i64 ((n : Int) + 1) = ((n + 1 : Nat) : Int) := by
  rw [show ((n : Int) + 1) = ((n + 1 : Nat) : Int) by omega]; exact Go.Bits.n64 (by omega)
theorem within_e [Inhabited G3o] {f k : Nat} (I : Ih f) (h : (all [parA b g l n, blk k #[pt b] 80]).at_ W) (hn : n ≤ 24) (hr : run (f + 1) .expr n l ≠ .out) :
    Calls Tryz.prog 130 #[pt b, .func (.func 131) #[] #[pt k]] W (Ans (parW b) (all [parA b g l n, blk k #[pt b] 80]) W (run (f + 1) .expr n l) (TreeK b g n W (all [parA b g l n, blk k #[pt b] 80]))) := by
  refine vc130e b 0 k ?_
  have H := St.open_ (L' := []) (St.begin h)
  refine H.al fun k1 w2 H2 => ?_
  obtain ⟨hG, -, off, c, H2⟩ := par_open H2
  refine ⟨_, H2.ld 4 rfl (i := 0) rfl, ptr_some ⟨_, H2.ld 0 rfl (i := 1) rfl, ?_⟩⟩
  rintro z rfl
  rw [wrap_nest hn]
  refine ptr_some (H2.st 0 rfl (i := 1) (by simp) fun w3 H3 => ?_)
  have H3 : St W _ w3 (parL b g off c l (n + 1) ++ [blk k #[pt b] 80, blk k1 #[pt b] 80]) := H3
  refine ⟨_, H3.ld 4 rfl (i := 0) rfl, ptr_some ⟨_, H3.ld 0 rfl (i := 1) rfl, ?_⟩⟩
  have H4 := par_shut hG (by omega) H3
  refine Sx.split_of (fun h4 => ?_) (fun h4 => ?_)
  · have h4 := of_decide_eq_true h4
    refine ⟨_, H4.ld 2 rfl (i := 0) rfl, ?_⟩
    rw [show run (f + 1) .expr n l = .err (now l).line 3 by unfold run; rw [if_pos (by omega)]]
    exact perr' H4 0 rfl (pfail_any 3 (H4.nth 0 rfl))
  · have h4 := of_decide_eq_false h4
    have hrun : run (f + 1) .expr n l = run f (.bin 1) (n + 1) l := by
      rw [run, if_neg (by omega)]
    rw [hrun] at hr ⊢
    refine vc131 k 0 ?_
    refine ⟨_, H4.ld 1 rfl (i := 0) rfl, ?_⟩
    refine (I.bin 1 (by omega) (H4.nth 0 rfl) (by omega) hr).mono ?_
    intro e w5 he
    cases hb : run f (.bin 1) (n + 1) l with
    | out => exact absurd hb hr
    | ok x l1 =>
      rw [hb] at he
      obtain ⟨v, B, rfl, hB, hp⟩ := he
      have H5 := (St.open_ (L := [_, _]) (H4.upd 0 rfl hp)).pick [3, 0, 1]
      have H5 := St.shut (L := [_, _]) (L' := [_]) H5
      refine .inl ⟨_, rfl, .inl ⟨_, rfl, ?_⟩⟩
      refine (withE_dec (H5.nth 0 rfl)).mono ?_
      rintro e u' w6 ⟨rfl, rfl, hp6⟩
      have H6 := (St.open_ (L := [_, _]) (H5.upd 0 rfl hp6)).pick [1, 2]
      exact .inl ⟨_, rfl, .inl ⟨rfl, _, _, rfl, hB, St.post (St.shut (L := [_, _]) (L' := []) H6) 0 rfl⟩⟩
    | err line en =>
      rw [hb] at he
      obtain ⟨q, rfl, hp⟩ := he
      have H5 := (St.open_ (L := [_, _]) (H4.upd 0 rfl hp)).pick [3, 1, 0]
      have H5 := St.shut (L := [_, _]) (L' := [_]) H5
      refine .inr ⟨_, rfl, .inr ⟨_, rfl, ?_⟩⟩
      refine (withE_decW (H5.nth 0 rfl)).mono ?_
      rintro e u' w6 ⟨rfl, rfl, hp6⟩
      have H6 := (St.open_ (L := [_, _]) (H5.upd 0 rfl hp6)).pick [2, 1]
      exact .inl ⟨_, rfl, .inr ⟨_, rfl, q, rfl, St.post (St.shut (L := [_, _]) (L' := []) H6) 0 rfl⟩⟩
theorem expr_step [Inhabited G3o] {f : Nat} (I : Ih f) (h : (parA b g l n).at_ W) (hn : n ≤ 24) (hr : run (f + 1) .expr n l ≠ .out) : Calls Tryz.prog 113 #[pt b] W (Ans (parW b) (parA b g l n) W (run (f + 1) .expr n l) (TreeK b g n W (parA b g l n))) := by
  refine vc113 b 0 ?_
  refine (St.begin h).al fun k w2 H2 => ?_
  refine ⟨_, H2.ld 1 rfl (i := 0) rfl, ?_⟩
  have H2 := St.shut (L := [_, _]) (L' := []) H2
  refine (within_e I (H2.nth 0 rfl) hn hr).mono ?_
  intro e w5 he
  cases hb : run (f + 1) .expr n l with
  | out => exact absurd hb hr
  | ok x l1 =>
    rw [hb] at he
    obtain ⟨v, B, rfl, hB, hp⟩ := he
    exact .inl ⟨_, rfl, _, _, rfl, hB, (H2.upd 0 rfl hp).post 0 rfl⟩
  | err line en =>
    rw [hb] at he
    obtain ⟨q, rfl, hp⟩ := he
    exact .inr ⟨_, rfl, _, rfl, (H2.upd 0 rfl hp).post 0 rfl⟩
end Go.Proofs.YtojogkljneonmaaGreatDoor
/- The parser's binary, unary and primary expressions. No condition. -/
namespace Go.Proofs.YtojogkljneonmaaGreatDoor
open Go Go.Proofs Go.Sep Go.XHeap Go.RowKit Go.Lang
set_option linter.unusedVariables false
set_option linter.unusedSimpArgs false

variable {W : World} {b g n : Nat} {l : List Tok}
theorem strength_le (s : ByteArray) : strength s ≤ 10 := by
  unfold strength
  repeat' split
  all_goals decide
theorem bin_step [Inhabited G3o] {f : Nat} (I : ∀ f' ≤ f, Ih f') (k : Nat) (hk : k ≤ 11) (h : (parA b g l n).at_ W) (hn : n ≤ 24) (hr : run (f + 1) (.bin k) n l ≠ .out) : Calls Tryz.prog 132 #[pt b, .int .i64 (k : Nat)] W (Ans (parW b) (parA b g l n) W (run (f + 1) (.bin k) n l) (TreeK b g n W (parA b g l n))) := by
  refine vc132 b 0 k ?_
  have H := St.begin h
  have hrun : run (f + 1) (.bin k) n l = (run f .un n l).bind fun x l => run f (.loop k x) n l := by rw [run]
  generalize hR : run (f + 1) (.bin k) n l = R0 at *
  refine ((I f (Nat.le_refl _)).un (H.nth 0 rfl) hn (fun e => hr (by rw [hrun, e]; rfl))).mono ?_
  intro e w2 he
  cases hu : run f .un n l with
  | out => rw [hu] at hrun; exact absurd hrun hr
  | err line en =>
    rw [hu] at he hrun
    obtain ⟨q, rfl, hp⟩ := he
    rw [show R0 = .err line en from hrun]
    exact .inr ⟨_, rfl, _, rfl, (H.upd 0 rfl hp).post 0 rfl⟩
  | ok x l1 =>
    rw [hu] at he hrun
    obtain ⟨v, B, rfl, hB, hp⟩ := he
    have H2 := St.open_ (L := [_, _]) (H.upd 0 rfl hp)
    refine .inl ⟨_, rfl, ?_⟩
    refine ⟨fun v w => ∃ x f' l1 B, isP x [v] B ∧ St W (parA b g l n).own w [parA b g l1 n, B] ∧ R0 = run f' (.loop k x) n l1 ∧ f' ≤ f, fun _ w => lenAt b w, ⟨x, f, l1, B, hB, H2, hrun, Nat.le_refl _⟩, fun _ => ?_⟩
    clear hu hrun hB H2 hp
    rintro v w3 ⟨x, f', l1, B, hB, H3, hrun, hf⟩
    match f', hrun with
    | 0, hrun => exact absurd hrun hr
    | f' + 1, hrun =>
    unfold run at hrun
    refine H3.callq (now_any (H3.nth 0 rfl)) fun w4 H4 => ?_
    refine ⟨_, rfl, _, rfl, ?_⟩
    refine Sx.split_of (fun h4 => ?_) (fun h4 => ?_)
    · have hk3 : (now l1).k = 3 := by have := beq_iff_eq.1 h4; omega
      refine H4.callq (now_any (H4.nth 0 rfl)) fun w5 H5 => ?_
      refine ⟨_, rfl, _, rfl, ?_⟩
      refine H5.callp (strength_any _) ?_
      refine ⟨_, rfl, ?_⟩
      refine Sx.split_of (fun h5 => ?_) (fun h5 => ?_)
      · have h5 := of_decide_eq_true h5
        rw [if_pos ⟨hk3, by omega⟩] at hrun
        have hlt : l1.tail.length < l1.length := tail_lt (by omega)
        refine H5.call 0 rfl (next_any (H5.nth 0 rfl) (by omega)) fun w6 H6 => ?_
        refine ⟨_, rfl, ?_⟩
        refine H6.al fun k1 w7 H7 => ?_
        refine H7.sts0 2 (n := 3) (vs := (tkL (now l1)).toArray) rfl rfl rfl (by simpa using tkL_one _) fun w8 H8 => ?_
        refine H8.dr fun w9 H9 => ?_
        refine ⟨_, H9.ld 2 rfl (i := 1) rfl, _, rfl, H9.cells 2 rfl, _, H9.ld 2 rfl (i := 1) rfl, ?_⟩
        refine H9.callp (strength_any _) ?_
        refine ⟨_, rfl, ⟨_, H9.ld 2 rfl (i := 1) rfl, rfl⟩, ⟨_, rfl, H9.cells 2 rfl, rfl⟩, ?_⟩
        rintro z rfl
        have hs := strength_le (now l1).s
        rw [show IntKind.wrap .i64 (((strength (now l1).s : Nat) : Int) + 1) = ((strength (now l1).s + 1 : Nat) : Int) by
          rw [show ((strength (now l1).s : Nat) : Int) + 1 = ((strength (now l1).s + 1 : Nat) : Int) by omega]; exact Go.Bits.n64 (by omega)]
        refine ((I f' (by omega)).bin _ (by omega) (H9.nth 0 rfl) hn (fun e => hr (by rw [hrun, e]; rfl))).mono ?_
        intro e w10 he
        cases hy : run f' (.bin (strength (now l1).s + 1)) n l1.tail with
        | out => rw [hy] at hrun; exact absurd hrun hr
        | err line en =>
          rw [hy] at he hrun
          obtain ⟨q, rfl, hp⟩ := he
          rw [show R0 = .err line en from hrun]
          exact .inr ⟨_, rfl, _, rfl, (H9.upd 0 rfl hp).post 0 rfl⟩
        | ok y l2 =>
          rw [hy] at he hrun
          obtain ⟨u, B2, rfl, hB2, hp⟩ := he
          have H10 := St.open_ (L := [_, _]) (H9.upd 0 rfl hp)
          refine .inl ⟨_, rfl, ⟨_, H10.ld 3 rfl (i := 1) rfl, rfl⟩, ⟨_, rfl, H10.cells 3 rfl, rfl⟩, rfl, isP_one hB (isP_one hB2 ?_)⟩
          rintro _ rfl
          refine H10.al fun k3 w11 H11 => ?_
          have H12 := H11.pick [0, 4, 2, 1]
          have H13 := (St.shut (L := [_, _, _]) (L' := [_]) (H12.pick [1, 2, 3, 0])).pick [1, 0]
          have hle := (run_le _ _ _ _ _ _ hy).1
          refine ⟨⟨.bin (now l1) x y, f', l2, _, ⟨k3, v, u, B, B2, hB, hB2, rfl, rfl⟩, H13, hrun, by omega⟩, ?_⟩
          show lenAt b w11 < lenAt b w3
          rw [lenAt_par (H13.nth 0 rfl), lenAt_par (H3.nth 0 rfl)]
          omega
      · have h5 := of_decide_eq_false h5
        rw [if_neg (by omega)] at hrun
        rw [hrun]
        exact ⟨_, _, rfl, hB, St.post (St.shut (L := [_, _]) (L' := []) H5) 0 rfl⟩
    · have hk3 : ¬ (now l1).k = 3 := fun e => by rw [e] at h4; cases h4
      rw [if_neg (fun h => hk3 h.1)] at hrun
      rw [hrun]
      exact ⟨_, _, rfl, hB, St.post (St.shut (L := [_, _]) (L' := []) H4) 0 rfl⟩
theorem within_u [Inhabited G3o] {f k k2 : Nat} {s : ByteArray} (I : Ih f) (h : (all [parA b g l n, blk k #[pt b] 80, blk k2 #[.string s] 9]).at_ W) (hn : n ≤ 24) (hs : is s l = true) (hone : isOne l = true) (hr : run (f + 1) .un n l ≠ .out) :
    Calls Tryz.prog 130 #[pt b, .func (.func 171) #[] #[pt k, pt k2]] W (Ans (parW b) (all [parA b g l n, blk k #[pt b] 80, blk k2 #[.string s] 9]) W (run (f + 1) .un n l) (TreeK b g n W (all [parA b g l n, blk k #[pt b] 80, blk k2 #[.string s] 9]))) := by
  refine vc130u b 0 k k2 ?_
  have H := St.open_ (L' := []) (St.begin h)
  refine H.al fun k1 w2 H2 => ?_
  obtain ⟨hG, -, off, c, H2⟩ := par_open H2
  refine ⟨_, H2.ld 5 rfl (i := 0) rfl, ptr_some ⟨_, H2.ld 0 rfl (i := 1) rfl, ?_⟩⟩
  rintro z rfl
  rw [wrap_nest hn]
  refine ptr_some (H2.st 0 rfl (i := 1) (by simp) fun w3 H3 => ?_)
  have H3 : St W _ w3 (parL b g off c l (n + 1) ++ [blk k #[pt b] 80, blk k2 #[.string s] 9, blk k1 #[pt b] 80]) := H3
  refine ⟨_, H3.ld 5 rfl (i := 0) rfl, ptr_some ⟨_, H3.ld 0 rfl (i := 1) rfl, ?_⟩⟩
  have H4 := par_shut hG (by omega) H3
  have hrun : run (f + 1) .un n l = if 24 ≤ n then .err (now l).line 3 else (run f .un (n + 1) l.tail).bind fun x l' => .ok (.un (now l) x) l' := by
    rw [run, if_pos hone]
  refine Sx.split_of (fun h4 => ?_) (fun h4 => ?_)
  · have h4 := of_decide_eq_true h4
    refine ⟨_, H4.ld 3 rfl (i := 0) rfl, ?_⟩
    rw [hrun, if_pos (by omega)]
    exact perr' H4 0 rfl (pfail_any 3 (H4.nth 0 rfl))
  · have h4 := of_decide_eq_false h4
    rw [if_neg (by omega)] at hrun
    generalize hR : run (f + 1) .un n l = R0 at *
    have hts : (now l).s = s := by
      unfold is at hs; rw [Bool.and_eq_true] at hs; exact of_decide_eq_true hs.2
    refine vc171 k 0 k2 0 ?_
    refine ⟨_, H4.ld 1 rfl (i := 0) rfl, ?_⟩
    refine H4.call 0 rfl (next_any (H4.nth 0 rfl) (is_mark hs)) fun w5 H5 => ?_
    refine ⟨_, rfl, ?_⟩
    refine H5.al fun k3 w6 H6 => ?_
    refine H6.sts0 4 (n := 3) (vs := (tkL (now l)).toArray) rfl rfl rfl (by simpa using tkL_one _) fun w7 H7 => ?_
    refine H7.dr fun w8 H8 => ?_
    refine ⟨_, H8.ld 1 rfl (i := 0) rfl, _, rfl, H8.cells 4 rfl, _, H8.ld 2 rfl (i := 0) rfl, ?_⟩
    refine (I.un (H8.nth 0 rfl) (by omega) (fun e => hr (by rw [hrun, e]; rfl))).mono ?_
    intro e w9 he
    cases hb : run f .un (n + 1) l.tail with
    | out => rw [hb] at hrun; exact absurd hrun hr
    | ok x l1 =>
      rw [hb] at he hrun
      obtain ⟨v, B, rfl, hB, hp⟩ := he
      have H9 := St.open_ (L := [_, _]) (H8.upd 0 rfl hp)
      refine .inl ⟨_, rfl, ⟨_, H9.ld 3 rfl (i := 0) rfl, rfl⟩, ⟨_, rfl, H9.cells 5 rfl, rfl⟩, rfl, isP_one hB ?_⟩
      rintro _ rfl
      refine H9.al fun k4 w10 H10 => ?_
      refine .inl ⟨_, rfl, ?_⟩
      have H11 := St.shut (L := [_, _]) (L' := [_]) ((St.shut (L := [_, _]) (L' := [_, _]) (H10.pick [6, 1, 4, 0])).pick [1, 2, 0])
      refine (withE_dec (H11.nth 0 rfl)).mono ?_
      rintro e u' w11 ⟨rfl, rfl, hp6⟩
      have H12 := (St.open_ (L := [_, _]) (H11.upd 0 rfl hp6)).pick [1, 2]
      rw [show R0 = .ok (.un (now l) x) l1 from hrun]
      exact .inl ⟨_, rfl, .inl ⟨rfl, _, _, rfl, ⟨k4, v, B, hB, rfl, by rw [unC, hts]; rfl⟩, St.post (St.shut (L := [_, _]) (L' := []) H12) 0 rfl⟩⟩
    | err line en =>
      rw [hb] at he hrun
      obtain ⟨q, rfl, hp⟩ := he
      rw [show R0 = .err line en from hrun]
      have H9 := (St.open_ (L := [_, _]) (H8.upd 0 rfl hp)).pick [4, 1, 0]
      have H9 := St.shut (L := [_, _]) (L' := [_]) H9
      refine .inr ⟨_, rfl, .inr ⟨_, rfl, ?_⟩⟩
      refine (withE_decW (H9.nth 0 rfl)).mono ?_
      rintro e u' w10 ⟨rfl, rfl, hp6⟩
      have H10 := (St.open_ (L := [_, _]) (H9.upd 0 rfl hp6)).pick [2, 1]
      exact .inl ⟨_, rfl, .inr ⟨_, rfl, q, rfl, St.post (St.shut (L := [_, _]) (L' := []) H10) 0 rfl⟩⟩
def unOps : List ByteArray := [cMinus, cNot, cTilde]
theorem un_step [Inhabited G3o] {f : Nat} (I : Ih f) (h : (parA b g l n).at_ W) (hn : n ≤ 24) (hr : run (f + 1) .un n l ≠ .out) : Calls Tryz.prog 144 #[pt b] W (Ans (parW b) (parA b g l n) W (run (f + 1) .un n l) (TreeK b g n W (parA b g l n))) := by
  refine vc144 b 0 ?_
  refine (St.begin h).al fun k w2 H2 => ?_
  rintro _ rfl
  refine ⟨fun x w => 0 ≤ x ∧ x ≤ 3 ∧ St W (parA b g l n).own w [parA b g l n, blk k #[pt b] 80] ∧ ∀ j : Nat, (j : Int) < x → ∀ s, unOps[j]? = some s → is s l = false, fun x _ => (3 - x).toNat, ⟨by omega, by omega, H2, fun j hj => by omega⟩, fun _ => ?_⟩
  rintro x w3 ⟨h0, h3, H3, hno⟩
  refine Sx.split_of (fun hx => ?_) (fun hx => ?_)
  · have hx := of_decide_eq_true hx
    obtain ⟨j, rfl⟩ : ∃ j : Nat, x = j := ⟨x.toNat, by omega⟩
    obtain ⟨s, hs⟩ : ∃ s, unOps[j]? = some s := ⟨unOps[j]'(by show j < 3; omega), List.getElem?_eq_getElem _⟩
    refine ⟨⟨by omega, by omega⟩, s, ?_, ?_⟩
    · rw [show ((j : Int).toNat * 1) = j by omega]
      match j, hs with
      | 0, hs => cases hs; rfl
      | 1, hs => cases hs; rfl
      | 2, hs => cases hs; rfl
    · refine H3.al fun k2 w4 H4 => ?_
      refine H4.st 2 rfl (i := 0) (by simp) fun w5 H5 => ?_
      have H5 : St W _ w5 [parA b g l n, blk k #[pt b] 80, blk k2 #[.string s] 9] := H5
      refine ⟨_, H5.ld 1 rfl (i := 0) rfl, _, H5.ld 2 rfl (i := 0) rfl, ?_⟩
      refine H5.callq (is_any s (H5.nth 0 rfl)) fun w6 H6 => ?_
      refine ⟨_, rfl, ?_⟩
      refine Sx.split_of (fun h6 => ?_) (fun h6 => ?_)
      · refine ⟨_, H6.ld 1 rfl (i := 0) rfl, ?_⟩
        have hone : isOne l = true := by
          unfold isOne
          match j, hs with
          | 0, hs => cases hs; rw [h6]; rfl
          | 1, hs => cases hs; rw [h6]; simp
          | 2, hs => cases hs; rw [h6]; simp
        have H7 := St.shut (L := [_, _, _]) (L' := []) H6
        refine (within_u I (H7.nth 0 rfl) hn h6 hone hr).mono ?_
        intro e w8 he
        cases hb : run (f + 1) .un n l with
        | out => exact absurd hb hr
        | ok x l1 =>
          rw [hb] at he
          obtain ⟨v, B, rfl, hB, hp⟩ := he
          exact .inl ⟨_, rfl, _, _, rfl, hB, (H7.upd 0 rfl hp).post 0 rfl⟩
        | err line en =>
          rw [hb] at he
          obtain ⟨q, rfl, hp⟩ := he
          exact .inr ⟨_, rfl, _, rfl, (H7.upd 0 rfl hp).post 0 rfl⟩
      · rintro z rfl
        rw [show IntKind.wrap .i64 ((j : Int) + 1) = ((j + 1 : Nat) : Int) by
          rw [show ((j : Int) + 1) = ((j + 1 : Nat) : Int) by omega]; exact Go.Bits.n64 (by omega)]
        refine ⟨⟨by omega, by omega, H6.take 2, fun i hi s' hs' => ?_⟩, by show (3 - ((j + 1 : Nat) : Int)).toNat < (3 - (j : Int)).toNat; omega⟩
        by_cases e : i = j
        · subst e; rw [hs] at hs'; cases hs'; exact h6
        · exact hno i (by omega) s' hs'
  · have hx := of_decide_eq_false hx
    refine ⟨_, H3.ld 1 rfl (i := 0) rfl, ?_⟩
    have hone : isOne l = false := by
      unfold isOne
      rw [hno 0 (by omega) cMinus rfl, hno 1 (by omega) cNot rfl, hno 2 (by omega) cTilde rfl]
      rfl
    have hrun : run (f + 1) .un n l = run f .prim n l := by rw [run, hone]; rfl
    rw [hrun] at hr ⊢
    refine (I.prim (H3.nth 0 rfl) hn hr).mono ?_
    intro e w8 he
    cases hb : run f .prim n l with
    | out => exact absurd hb hr
    | ok x l1 =>
      rw [hb] at he
      obtain ⟨v, B, rfl, hB, hp⟩ := he
      exact .inl ⟨_, rfl, _, _, rfl, hB, (H3.upd 0 rfl hp).post 0 rfl⟩
    | err line en =>
      rw [hb] at he
      obtain ⟨q, rfl, hp⟩ := he
      exact .inr ⟨_, rfl, _, rfl, (H3.upd 0 rfl hp).post 0 rfl⟩
end Go.Proofs.YtojogkljneonmaaGreatDoor
