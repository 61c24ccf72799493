import Derived.Test.YtojogkljneonmaaGreatDoorLangZf
import Derived.Test.YtojogkljneonmaaGreatDoorLangX
/- The checker in memory: all declarations. No condition. -/
namespace Go.Proofs.YtojogkljneonmaaGreatDoor
open Go Go.Proofs Go.Sep Go.XHeap Go.RowKit Go.Lang
set_option linter.unusedVariables false
set_option linter.unusedSimpArgs false
variable {W : World}
theorem set_id {α : Type} : ∀ {L : List α} {i : Nat} {a : α}, L[i]? = some a → L.set i a = L
  | [], i, a, h => by simp at h
  | x :: L, 0, a, h => by simp at h; subst h; rfl
  | x :: L, i + 1, a, h => by
    have h : L[i]? = some a := by simpa using h
    simp [set_id h]
def mkX (ks kp km : Nat) (I : ByteArray → Option Value) (G : List Gd) (j : Nat) (h : Fh) : Cx := ⟨ks, kp, km, I, G, j, h⟩
/-- a program behind its check -/
def finL (kp km : Nat) (pf : Option Addr) (cf : Nat) (pd : Option Addr) (cd : Nat) (mn : Value) (tot : Int) (ns cur : List Dm) : List Asn := twoL kp km pf cf pd cd mn tot ns cur
def finF (lk : Lk) (l : List D) : C (List D × Nat) := match lk cMain with
  | some (.fn k np) => if 0 < np then .err 0 9 else .ok (l, k)
  | _ => .err 0 9
def ChkK (kp : Nat) (pd : Option Addr) (cd : Nat) (ms : List Dm) (A0 : Asn) (W : World) (q : List D × Nat) (e : Ending) (w' : World) : Prop :=
  e = .returned (.tuple #[]) ∧ ∃ (cur : List Dm) (km : Nat) (pf : Option Addr) (cf tot : Nat), cur.map Dm.d = q.1 ∧ (cur.map Dm.g).map gz = ((countM ms 0 0).map Dm.g).map gz ∧ (∀ m ∈ cur, m.Fit) ∧ Post A0 W (all (finL kp km pf cf pd cd (pt q.2) (tot : Int) (countM ms 0 0) cur)) w'
theorem check_any [Inhabited G3o] {kp : Nat} {pd : Option Addr} {cd : Nat} {ms : List Dm} (hms : ms.length ≤ 8001) (hok : ∀ m ∈ ms, m.Ok) (hnew : ∀ m ∈ ms, m.New) (h : (all (rawL kp pd cd ms)).at_ W) :
    Calls Tryz.prog 27 #[pt kp] W (AnsC (all (rawL kp pd cd ms)) W (check (adOf (countM ms 0 0)) (ms.map Dm.d)) (ChkK kp pd cd ms (all (rawL kp pd cd ms)) W)) := by
  refine vc27 kp 0 ?_
  have H : St W (all (rawL kp pd cd ms)).own W (rawL kp pd cd ms) := by
    have := St.open_ (L' := []) (St.begin h); rwa [List.append_nil] at this
  refine mkmS H fun km w2 H2 => ?_
  refine ⟨_, _, _, H2.ld 0 rfl (i := 3) rfl, ?_⟩
  refine ⟨One W (all (rawL kp pd cd ms)) kp km pd cd ms, fun x _ _ => ((ms.length : Int) - x).toNat, ?_, fun _ x tot w hI => ?_⟩
  · have H3 := H2.add (A := sl 63 1 (.slice none 0 0) 0 []) ⟨Sl.nil _ _ _, XTouch.refl _ _, fun q hq => by cases hq⟩
    refine ⟨[], ms.map Dm.g, 0, none, 0, rfl, rfl, by simp, by simp [Function.comp], rfl, by simp, fun g hg => ?_, H3.pick [0, 1, 4, 5, 2, 3]⟩
    obtain ⟨m, hm, rfl⟩ := List.mem_map.1 hg
    have := hok m hm
    unfold Dm.Ok at this
    unfold gOk
    split
    · rename_i he; rw [he] at this; exact this
    · trivial
  obtain ⟨done, todo, t, pf, cf, rfl, rfl, h1, h2, h3, h4, h5, H3⟩ := hI
  have hw : IntKind.wrap .i64 ((done.length : Nat) + 1 : Int) = ((done.length + 1 : Nat) : Int) := i64s (b := 1) (by omega)
  refine Sx.split_of (fun hlt => ?_) (fun hge => ?_)
  · have hlt := of_decide_eq_true hlt
    cases todo with
    | nil => simp at h1; omega
    | cons g todo =>
    refine ⟨⟨by omega, by omega⟩, ?_⟩
    refine sl_get (H3.nth 1 rfl) (i := done.length) (v := gval g) (by rw [← h2, List.map_append, List.map_cons]; have := get_mid (done.map gval) (gval g) (todo.map gval); rw [List.length_map] at this; exact this) fun gg oo hc => ?_
    rw [ix1]
    refine ⟨_, hc, ?_⟩
    have hms' : ((ms.length : Int) - ((done.length + 1 : Nat) : Int)).toNat < ((ms.length : Int) - ((done.length : Nat) : Int)).toNat := by omega
    cases g with
    | var k tk nm w0 z =>
      have hz := h5 _ (List.mem_cons_self ..)
      simp only [gOk] at hz
      refine tag_eq ⟨_, rfl, ?_⟩
      have hb : Blk w k (varC tk nm w0 z).toArray 127 := hd_at (H3.nth 4 rfl) (get_mid done _ todo)
      refine ptr_some ⟨⟨_, hb.cell' (i := 4) rfl⟩, hb.frozen 4, ?_⟩
      rintro w4 rfl
      have H4 := H3.upd 4 rfl (hd_set (g := .var k tk nm w0 z) (g' := .var k tk nm (t : Int) z) (c := 4) (v := .int .i64 (t : Int)) (H3.nth 4 rfl) (get_mid done _ todo) rfl rfl)
      rw [set_mid] at H4
      have hb4 : Blk _ k (varC tk nm (t : Int) z).toArray 127 := hd_at (H4.nth 4 rfl) (get_mid done _ todo)
      refine ptr_some ⟨_, hb4.cell' (i := 5) rfl, ?_⟩
      rintro z2 rfl
      rw [show IntKind.wrap .i64 ((t : Int) + if z > 1 then z else 1) = ((t + max 1 z.toNat : Nat) : Int) by
        rw [show ((t : Int) + if z > 1 then z else 1) = ((t + max 1 z.toNat : Nat) : Int) by split <;> omega]
        exact Go.Bits.n64 (by omega)]
      refine ptr_some ⟨nm, hb4.cell' (i := 3) rfl, _, H4.nth 2 rfl, _, rfl, ?_⟩
      refine Sx.split_of (fun hs => ?_) (fun hs => ?_)
      · have hs : (mapOf done (gnm (.var k tk nm (t : Int) z))).isSome = false := bnot_true hs
        refine ptr_some ⟨nm, hb4.cell' (i := 3) rfl, _, H4.nth 2 rfl, fun w5 hm ht => ?_⟩
        have H5 := H4.upd 2 rfl (A' := mpS km (mapOf (done ++ [.var k tk nm (t : Int) z]))) ⟨by rw [mapOf_new hs]; exact hm, ht, fun q hq => .inl hq⟩
        rintro z3 rfl
        rw [hw]
        have e : fnsOf (done ++ [Gd.var k tk nm (t : Int) z]) = fnsOf done := by rw [fnsOf_append]; simp [fnsOf]
        exact ⟨check_one hms h1 h2 h3 h4 h5 (by unfold midL; rw [e]; exact H5), hms'⟩
      · have hs : (mapOf done (gnm (.var k tk nm (t : Int) z))).isSome = true := bnot_false hs
        rintro z3 rfl
        rw [hw]
        have e : fnsOf (done ++ [Gd.var k tk nm (t : Int) z]) = fnsOf done := by rw [fnsOf_append]; simp [fnsOf]
        exact ⟨check_one hms h1 h2 h3 h4 h5 (by unfold midL; rw [e, mapOf_there hs]; exact H4), hms'⟩
    | fn hd s =>
      refine tag_ne (by decide) (tag_eq ⟨_, rfl, ?_⟩)
      have hfl := fnsOf_le done
      simp only [List.length_cons] at h1
      have hb : Blk w hd.k (fnC hd.t hd.nm (.slice hd.p hd.np hd.c) (pt hd.kb) s hd.no).toArray 115 := hd_at (H3.nth 4 rfl) (get_mid done _ todo)
      refine ⟨_, _, _, H3.ld 0 rfl (i := 0) rfl, ptr_some ⟨⟨_, hb.cell' (i := 7) rfl⟩, hb.frozen 7, ?_⟩⟩
      rintro w4 rfl
      have H4 := H3.upd 4 rfl (hd_set (g := .fn hd s) (g' := .fn { hd with no := ((fnsOf done).length : Int) } s) (c := 7) (v := .int .i64 ((fnsOf done).length : Int)) (H3.nth 4 rfl) (get_mid done _ todo) rfl rfl)
      rw [set_mid] at H4
      refine ⟨_, _, _, H4.ld 0 rfl (i := 0) rfl, ?_⟩
      refine H4.al fun ka w5 H5 => ?_
      refine H5.app 3 rfl [pt hd.k] (.inr ⟨_, rfl, fun j u hj => ?_⟩) rfl (by simp; rfl) (by show (fnsOf done).length + 1 ≤ maxLen; unfold maxLen; omega) (by omega) fun p' c' w6 H6 => ?_
      · match j, hj with
        | 0, hj => cases hj; exact H5.ld 6 rfl (i := 0) rfl
      refine H6.st 0 rfl (i := 0) (by simp) fun w7 H7 => ?_
      have hb7 : Blk w7 hd.k (fnC hd.t hd.nm (.slice hd.p hd.np hd.c) (pt hd.kb) s ((fnsOf done).length : Int)).toArray 115 := hd_at (H7.nth 4 rfl) (get_mid done (Gd.fn { hd with no := ((fnsOf done).length : Int) } s) todo)
      refine ptr_some ⟨hd.nm, hb7.cell' (i := 3) rfl, _, H7.nth 2 rfl, _, rfl, ?_⟩
      have e : fnsOf (done ++ [Gd.fn { hd with no := ((fnsOf done).length : Int) } s]) = fnsOf done ++ [pt hd.k] := by rw [fnsOf_append]; simp [fnsOf]
      have e2 : (fnsOf done ++ [pt hd.k]).length = (fnsOf done).length + 1 := by simp
      refine Sx.split_of (fun hs => ?_) (fun hs => ?_)
      · have hs : (mapOf done (gnm (.fn { hd with no := ((fnsOf done).length : Int) } s))).isSome = false := bnot_true hs
        refine ptr_some ⟨hd.nm, hb7.cell' (i := 3) rfl, _, H7.nth 2 rfl, fun w8 hm ht => ?_⟩
        have H8 := H7.upd 2 rfl (A' := mpS km (mapOf (done ++ [.fn { hd with no := ((fnsOf done).length : Int) } s]))) ⟨by rw [mapOf_new hs]; exact hm, ht, fun q hq => .inl hq⟩
        rintro z3 rfl
        rw [hw]
        exact ⟨check_oneF (pf := p') (cf := c') hms (by simp only [List.length_cons]; omega) h2 h3 h4 h5 (by unfold midL; rw [e, e2]; exact H8.take 6), hms'⟩
      · have hs : (mapOf done (gnm (.fn { hd with no := ((fnsOf done).length : Int) } s))).isSome = true := bnot_false hs
        rintro z3 rfl
        rw [hw]
        exact ⟨check_oneF (pf := p') (cf := c') hms (by simp only [List.length_cons]; omega) h2 h3 h4 h5 (by unfold midL; rw [e, e2, mapOf_there hs]; exact H7.take 6), hms'⟩
  · have hge := of_decide_eq_false hge
    have : todo = [] := List.eq_nil_of_length_eq_zero (by omega)
    subst this
    simp only [countG, List.append_nil] at h3 H3 h2
    rw [← countM_g] at h3
    subst h3
    have hns := countM_len ms 0 0
    have hnok := countM_ok ms 0 0 hok
    have hnnew := countM_new ms 0 0 hnew
    have hnw := countM_w ms 0 0 hok
    rw [List.length_map] at h1 h4
    generalize hR0 : check (adOf (countM ms 0 0)) (ms.map Dm.d) = R0
    have hR0 : R0 = (crest (lkOf (adOf (countM ms 0 0)) ((countM ms 0 0).map Dm.d)) ((countM ms 0 0).map Dm.d) 0 ((countM ms 0 0).map Dm.d)).bind (finF (lkOf (adOf (countM ms 0 0)) ((countM ms 0 0).map Dm.d))) := by
      rw [← hR0, countM_d]; rfl
    have H3 : St W (all (rawL kp pd cd ms)).own w (twoL kp km pf cf pd cd (.pointer none) 0 (countM ms 0 0) (countM ms 0 0)) := by
      unfold twoL
      rw [hns, countM_vals, countM_rs]
      exact H3
    unfold ChkK
    generalize hgns : countM ms 0 0 = ns at *
    refine H3.st 0 rfl (i := 2) (by simp) fun w4 H4 => ?_
    have H4 : St W (all (rawL kp pd cd ms)).own w4 (twoL kp km pf cf pd cd (.pointer none) (t : Int) ns ns) := H4
    refine ⟨_, _, _, H4.ld 0 rfl (i := 3) rfl, ?_⟩
    have hZ := sizes_ok hnok
    have henv := fun G hG s => env_at ns G hG hnok s
    generalize hlk : lkOf (adOf ns) (ns.map Dm.d) = lk at *
    have hrest : ∀ {pre todo cur : List Dm}, ns = pre ++ todo → (cur.map Dm.g).map gz = (pre.map Dm.g).map gz → ((cur ++ todo).map Dm.g).map gz = (ns.map Dm.g).map gz := by
      intro pre todo cur e1 e2
      rw [e1, List.map_append, List.map_append, e2, ← List.map_append, ← List.map_append]
    refine ⟨Two W (all (rawL kp pd cd ms)) kp km pf cf pd cd (t : Int) ns (finF lk) R0, fun x _ => ((ns.length : Int) - x).toNat, ⟨[], ns, [], rfl, rfl, rfl, rfl, (fun m hm => by cases hm), H4, by rw [hlk]; exact hR0⟩, fun _ x w6 hI => ?_⟩
    obtain ⟨pre, todo, cur, rfl, hpre, hcl, hgz, hfit, H6, hR⟩ := hI
    rw [hlk] at hR
    have hlen : ns.length = pre.length + todo.length := by rw [hpre, List.length_append]
    have hG := hrest hpre hgz
    refine Sx.split_of (fun hlt => ?_) (fun hge => ?_)
    · have hlt := of_decide_eq_true hlt
      cases todo with
      | nil => simp at hlen; omega
      | cons m todo =>
      have hmem : m ∈ ns := by rw [hpre]; simp
      have hmok := hnok m hmem
      have hmnew := hnnew m hmem
      have hmw := hnw m hmem
      refine ⟨⟨by omega, by omega⟩, ?_⟩
      refine sl_get (H6.nth 1 rfl) (i := pre.length) (v := gval m.g) (by rw [hpre, List.map_append, List.map_cons]; have := get_mid (pre.map fun m => gval m.g) (gval m.g) (todo.map fun m => gval m.g); rw [List.length_map] at this; exact this) fun gg oo hc => ?_
      rw [ix1]
      refine ⟨_, hc, ?_⟩
      have hms' : ((ns.length : Int) - ((pre.length + 1 : Nat) : Int)).toNat < ((ns.length : Int) - ((pre.length : Nat) : Int)).toNat := by omega
      have hw2 : IntKind.wrap .i64 ((pre.length : Nat) + 1 : Int) = ((pre.length + 1 : Nat) : Int) := i64s (b := 1) (by omega)
      have hcg : ((cur ++ m :: todo).map Dm.g)[pre.length]? = some m.g := by
        rw [List.getElem?_map, ← hcl, get_mid]; rfl
      have hng : (ns.map Dm.g)[pre.length]? = some m.g := by
        rw [hpre, List.getElem?_map, get_mid]; rfl
      obtain ⟨a, ha1, ha2, ha3, ha4⟩ := dup_at hG (H6.nth 4 rfl) hcg hng
      rw [List.map_cons, crest, C.bind_assoc, dm_nm] at hR
      generalize hdup : decide (firstOf (ns.map Dm.d) (gnm m.g) ≠ some pre.length) = dp at hR ha4
      have next : ∀ {m' : Dm} {w9 : World}, gz m'.g = gz m.g → m'.Fit → St W (all (rawL kp pd cd ms)).own w9 (twoL kp km pf cf pd cd (.pointer none) (t : Int) ns (cur ++ m' :: todo)) → R0 = ((crest lk (ns.map Dm.d) (pre.length + 1) (todo.map Dm.d)).bind fun r' => C.ok (m'.d :: r')).bind (fun r => finF lk (cur.map Dm.d ++ r)) → Two W (all (rawL kp pd cd ms)) kp km pf cf pd cd (t : Int) ns (finF lk) R0 ((pre.length + 1 : Nat) : Int) w9 := by
        intro m' w9 e1 e2 H9 e3
        refine ⟨pre ++ [m], todo, cur ++ [m'], by simp, by rw [hpre]; simp, by simp [hcl], by simp [← hgz, e1], fun x hx => ?_, by rw [List.append_assoc]; exact H9, ?_⟩
        · rcases List.mem_append.1 hx with hx | hx
          · exact hfit x hx
          · simp at hx; subst hx; exact e2
        · rw [e3, hlk, C.bind_assoc, List.length_append]
          congr 1
          funext r
          simp [C.bind]
      obtain ⟨mg, ps, bd, B⟩ := m
      cases mg with
      | var k tk nm wd z =>
        have hz : 0 ≤ z ∧ z ≤ 256 := hmok
        have hwd : 0 ≤ wd ∧ wd ≤ ((0 : Nat) : Int) + 256 * ms.length := hmw
        refine tag_eq ⟨_, rfl, ?_⟩
        have hb : Blk w6 k (varC tk nm wd z).toArray 127 := ha3
        refine ptr_some ⟨nm, hb.cell' (i := 3) rfl, _, H6.nth 2 rfl, _, rfl, ?_⟩
        rw [show ((mapOf (ns.map Dm.g)) nm).getD .nilIface = gval a from ha1]
        refine ⟨dp, fun w' hk => by rw [← ha4]; exact neq_run ha2 ha3 hk, ?_⟩
        have hR : R0 = (cone lk dp (.var tk nm wd z)).bind _ := hR
        refine Sx.split_of (fun hd => ?_) (fun hd => ?_)
        · exact ptr_some ⟨_, hb.cell' (i := 2) rfl, fail_c H6 tk.line 9 (by rw [hR, hd]; rfl)⟩
        · refine ptr_some ⟨_, hb.cell' (i := 4) rfl, ptr_some ⟨_, hb.cell' (i := 5) rfl, ?_⟩⟩
          rintro z11 rfl
          have hmax : (if z > 1 then z else 1) = max 1 z := by split <;> omega
          rw [hmax, show IntKind.wrap .i64 (wd + max 1 z) = wd + max 1 z by
            obtain ⟨a1, rfl⟩ : ∃ a1 : Nat, wd = a1 := ⟨wd.toNat, by omega⟩
            obtain ⟨a2, rfl⟩ : ∃ a2 : Nat, z = a2 := ⟨z.toNat, by omega⟩
            rw [show ((a1 : Int) + max 1 (a2 : Int)) = ((a1 + max 1 a2 : Nat) : Int) by omega]
            exact Go.Bits.n64 (by omega)]
          refine H6.drN fun w7 H7 => ?_
          have hb : Blk w7 k (varC tk nm wd z).toArray 127 := hd_at (H7.nth 4 rfl) hcg
          have hone : cone lk dp (.var tk nm wd z) = if 512 < wd + max 1 z then .err tk.line 1 else .ok (.var tk nm wd z) := by
            rw [hd]; rfl
          refine Sx.split_of (fun h9 => ?_) (fun h9 => ?_)
          · have h9 := of_decide_eq_true h9
            exact ptr_some ⟨_, hb.cell' (i := 2) rfl, fail_c H7 tk.line 1 (by rw [hR, hone, if_pos h9]; rfl)⟩
          · have h9 := of_decide_eq_false h9
            rintro z13 rfl
            rw [hw2]
            refine ⟨next (m' := ⟨.var k tk nm wd z, ps, bd, B⟩) rfl trivial H7 ?_, hms'⟩
            rw [hR, hone, if_neg h9]; rfl
      | fn hh sl0 =>
        obtain ⟨hnp, hbP, hbo, hbs, hp6⟩ : hh.np = ps.length ∧ isP bd [.iface 113 (pt hh.kb)] B ∧ bd.ok 2 = true ∧ bd.sz < 1000000 ∧ ps.length ≤ 6 := hmok
        have hs0 : sl0 = 0 := hmnew
        subst hs0
        refine tag_ne (by decide) (tag_eq ⟨_, rfl, ?_⟩)
        have hb : Blk w6 hh.k (fnC hh.t hh.nm (.slice hh.p hh.np hh.c) (pt hh.kb) 0 hh.no).toArray 115 := ha3
        refine ptr_some ⟨hh.nm, hb.cell' (i := 3) rfl, _, H6.nth 2 rfl, _, rfl, ?_⟩
        rw [show ((mapOf (ns.map Dm.g)) hh.nm).getD .nilIface = gval a from ha1]
        refine ⟨dp, fun w' hk => by rw [← ha4]; exact neq_run ha2 ha3 hk, ?_⟩
        obtain ⟨KK, hKK⟩ : ∃ KK : D → C (List D × Nat), KK = fun d' => ((crest lk (ns.map Dm.d) (pre.length + 1) (todo.map Dm.d)).bind fun r' => C.ok (d' :: r')).bind fun r => finF lk (cur.map Dm.d ++ r) := ⟨_, rfl⟩
        have hRb : R0 = (cone lk dp (.fn hh.t hh.nm ps 0 hh.no bd)).bind KK := by rw [hKK]; exact hR
        clear hR
        refine Sx.split_of (fun hd => ?_) (fun hd => ?_)
        · exact ptr_some ⟨_, hb.cell' (i := 2) rfl, fail_c H6 hh.t.line 9 (by rw [hRb, hd]; rfl)⟩
        have hone : cone lk dp (.fn hh.t hh.nm ps 0 hh.no bd) = (cpars lk hh.t.line ps [] 0).bind fun q => (cst lk bd q.1 q.2).bind fun r => .ok (.fn hh.t hh.nm ps (r.2.2 : Int) hh.no r.1) := by
          rw [hd]; rfl
        rw [hone, C.bind_assoc] at hRb
        rintro vs rfl
        refine H6.al fun ks w7 H7 => ?_
        have hb7 : Blk w7 hh.k (fnC hh.t hh.nm (.slice hh.p hh.np hh.c) (pt hh.kb) 0 hh.no).toArray 115 := hd_at (H7.nth 4 rfl) hcg
        refine ptr_some ⟨_, _, _, hb7.cell' (i := 4) rfl, ?_⟩
        generalize hm0 : (⟨.fn hh 0, ps, bd, B⟩ : Dm) = m0 at *
        have hm0g : m0.g = .fn hh 0 := by rw [← hm0]
        rw [hm0g] at hcg hng
        have hlt2 : pre.length < ((cur ++ m0 :: todo).map Dm.g).length := by simp; omega
        generalize hXd : mkX ks kp km (mapOf (ns.map Dm.g)) ((cur ++ m0 :: todo).map Dm.g) pre.length hh = X
        have x1 : X.ks = ks := by rw [← hXd]; rfl
        have x2 : X.kp = kp := by rw [← hXd]; rfl
        have x3 : X.km = km := by rw [← hXd]; rfl
        have x4 : X.I = mapOf (ns.map Dm.g) := by rw [← hXd]; rfl
        have x5 : X.h = hh := by rw [← hXd]; rfl
        have x6 : ∀ n, X.gs n = ((cur ++ m0 :: todo).map Dm.g).set pre.length (.fn hh (n : Int)) := fun n => by rw [← hXd]; rfl
        have x7 : X.G = (cur ++ m0 :: todo).map Dm.g := by rw [← hXd]; rfl
        have x8 : X.j = pre.length := by rw [← hXd]; rfl
        have hX0 : X.gs 0 = (cur ++ m0 :: todo).map Dm.g := by rw [x6]; exact set_id hcg
        have hE : EnvOk lk X := by
          refine ⟨by rw [x7, x8]; exact hlt2, fun n s => ?_⟩
          rw [x4]
          refine henv _ ?_ s
          rw [x6, List.map_set]
          show ((List.map gz ((cur ++ m0 :: todo).map Dm.g)).set pre.length (.fn hh 0)) = _
          rw [set_id (by rw [List.getElem?_map, hcg]; rfl)]
          exact hG
        have H8 := (H7.add (A := sl 9 1 (.slice none 0 0) 0 []) ⟨Sl.nil _ _ _, XTouch.refl _ _, fun q hq => by cases hq⟩).add (A := sl 3 1 (.slice none 0 0) 0 []) ⟨Sl.nil _ _ _, XTouch.refl _ _, fun q hq => by cases hq⟩
        obtain ⟨Rk, hRk⟩ : ∃ Rk, Rk = [blk kp #[.slice pf (fnsOf (ns.map Dm.g)).length cf, .pointer none, .int .i64 (t : Int), .slice pd ns.length cd] 66, sl 20 1 (.slice pd ns.length cd) ns.length (ns.map fun m => gval m.g), sl 63 1 (.slice pf (fnsOf (ns.map Dm.g)).length cf) (fnsOf (ns.map Dm.g)).length (fnsOf (ns.map Dm.g))] := ⟨_, rfl⟩
        have H9 : St W (all (rawL kp pd cd ms)).own w7 (scL X ⟨none, 0, none, 0⟩ 0 [] ++ (all ((cur ++ m0 :: todo).map rsA) :: Rk)) := by
          unfold scL
          rw [hX0, hRk, x1, x2, x3, x4, x5]
          exact H8.pick [6, 7, 8, 2, 4, 5, 0, 1, 3]
        have H10 := St.shut (L := scL X ⟨none, 0, none, 0⟩ 0 []) H9
        have hrs : ((cur ++ m0 :: todo).map rsA)[pre.length]? = some (all [sl 9 1 (.slice hh.p hh.np hh.c) hh.np (strs ps), B]) := by
          rw [List.getElem?_map, ← hcl, get_mid, ← hm0]; rfl
        have rdh : ∀ {w : World} {S : Sp} {n : Nat} {Ls : Lcs} {L : List Asn}, St W (all (rawL kp pd cd ms)).own w (scA X S n Ls :: L) → Blk w hh.k (fnC hh.t hh.nm (.slice hh.p hh.np hh.c) (pt hh.kb) (n : Int) hh.no).toArray 115 := by
          intro w S n Ls L H
          have h1 : here (scL X S n Ls) w := H.nth 0 rfl
          have h2 : here ((X.gs n).map hdA) w := h1.nth 4 rfl
          have := hd_at h2 (gs_at hE.1 n)
          rw [x5] at this
          exact this
        refine ⟨fun x w => ∃ (j : Nat) (S : Sp) (n : Nat) (Ls : Lcs), x = j ∧ j ≤ ps.length ∧ Ls.length ≤ n ∧ n ≤ 24 ∧ St W (all (rawL kp pd cd ms)).own w (scA X S n Ls :: all ((cur ++ m0 :: todo).map rsA) :: Rk) ∧ R0 = (cpars lk hh.t.line (ps.drop j) Ls n).bind fun q => ((cst lk bd q.1 q.2).bind fun r => .ok (.fn hh.t hh.nm ps (r.2.2 : Int) hh.no r.1)).bind KK, fun x _ => ((ps.length : Int) - x).toNat, ⟨0, _, 0, [], rfl, by omega, by simp, by omega, H10, hRb⟩, fun _ x w8 hI => ?_⟩
        obtain ⟨j, S, n, Ls, rfl, hj, g1, g2, H11, hR⟩ := hI
        have hb8 := rdh H11
        refine Sx.split_of (fun h9 => ?_) (fun h9 => ?_)
        · have h9 : j < ps.length := by have := of_decide_eq_true h9; omega
          have hrow : Sl w8 9 1 (.slice hh.p hh.np hh.c) hh.np (strs ps) := by
            have h1 : here ((cur ++ m0 :: todo).map rsA) w8 := H11.nth 1 rfl
            have h2 : here [sl 9 1 (.slice hh.p hh.np hh.c) hh.np (strs ps), B] w8 := h1.nth pre.length hrs
            exact h2.1
          refine ⟨⟨by omega, by omega⟩, ?_⟩
          refine sl_get hrow (i := j) (v := .string ps[j]) (by unfold strs; rw [List.getElem?_map, List.getElem?_eq_getElem h9]; rfl) fun gg oo hc => ?_
          rw [ix1]
          refine ⟨_, hc, ptr_some ⟨(tkL hh.t).toArray, rfl, Sx.cellsAt_of_blk (o := 0) hb8 _ (fun i v hi => ?_), ?_⟩⟩
          · rw [Nat.zero_add]
            unfold fnC
            rw [List.getElem?_toArray] at hi ⊢
            rw [List.getElem?_append_left (List.getElem?_eq_some_iff.1 hi).1]; exact hi
          have hdr : ps.drop j = ps[j] :: ps.drop (j + 1) := List.drop_eq_getElem_cons h9
          rw [hdr, cpars, C.bind_assoc] at hR
          have hcall := sdecl_any hE g1 g2 hh.t ps[j] (H11.nth 0 rfl)
          rw [x1] at hcall
          refine ccase H11 0 rfl hR hcall ?_
          rintro q _ w9 hq hR ⟨rfl, S', hp⟩
          obtain ⟨rfl, h24⟩ := cdecl_inv hq
          refine ⟨_, rfl, ?_⟩
          rintro z16 rfl
          rw [show IntKind.wrap .i64 ((j : Nat) + 1 : Int) = ((j + 1 : Nat) : Int) from i64s (b := 1) (by omega)]
          exact ⟨⟨j + 1, S', n + 1, Ls ++ [(ps[j], n)], rfl, by omega, by simp; omega, by omega, H11.upd 0 rfl hp, hR⟩, by show ((ps.length : Int) - ((j + 1 : Nat) : Int)).toNat < ((ps.length : Int) - ((j : Nat) : Int)).toNat; omega⟩
        · have h9 : ps.length ≤ j := by have := of_decide_eq_false h9; omega
          rw [List.drop_eq_nil_of_le h9] at hR
          have hR : R0 = ((cst lk bd Ls n).bind fun r => .ok (.fn hh.t hh.nm ps (r.2.2 : Int) hh.no r.1)).bind KK := hR
          rw [C.bind_assoc] at hR
          refine ptr_some ⟨_, hb8.cell' (i := 5) rfl, ?_⟩
          obtain ⟨line, l, kb', rfl, e, hl3⟩ := block_of hbo hbP
          have H12 := St.open_ (L := [sl 9 1 (.slice hh.p hh.np hh.c) hh.np (strs ps), B]) (focus (St.swap H11) hrs)
          have H13 : St W (all (rawL kp pd cd ms)).own w8 ([scA X S n Ls, B] ++ (sl 9 1 (.slice hh.p hh.np hh.c) hh.np (strs ps) :: all (((cur ++ m0 :: todo).map rsA).eraseIdx pre.length) :: Rk)) := by
            rw [hRk] at H12 ⊢
            exact H12.pick [3, 1, 0, 2, 4, 5, 6]
          have H14 := St.shut H13
          simp only [T.sz] at hbs
          have hcall := sblock_any (sth_all hE hZ l.sz (by omega)) hE (by omega) (Nat.le_refl _) hl3 g1 g2 hbP (H14.nth 0 rfl)
          rw [x1] at hcall
          refine ccase H14 0 rfl hR hcall ?_
          rintro q _ w9 hq hR ⟨rfl, B', S', hB', hp⟩
          have H15 := St.open_ (L := [scA X S' q.2.2 q.2.1, B']) (H14.upd 0 rfl hp)
          have H16 : St W (all (rawL kp pd cd ms)).own w9 ([sl 9 1 (.slice hh.p hh.np hh.c) hh.np (strs ps), B'] ++ (all (((cur ++ m0 :: todo).map rsA).eraseIdx pre.length) :: scA X S' q.2.2 q.2.1 :: Rk)) := by
            rw [hRk] at H15 ⊢
            exact H15.pick [2, 1, 3, 0, 4, 5, 6]
          have H17 := unfocus (St.shut H16) (by rw [List.length_map]; rw [List.length_map] at hlt2; exact hlt2)
          have H18 := St.open_ (L := scL X S' q.2.2 q.2.1) (St.swap H17)
          refine ⟨rfl, ?_⟩
          rintro z17 rfl
          rw [hw2]
          refine ⟨next (m' := ⟨.fn hh (q.2.2 : Int), ps, q.1, B'⟩) ?_ ⟨hnp, hB'⟩ ?_ ?_, hms'⟩
          · rw [hm0g]; rfl
          · have eg : (cur ++ (⟨.fn hh (q.2.2 : Int), ps, q.1, B'⟩ : Dm) :: todo).map Dm.g = X.gs q.2.2 := by
              rw [x6, List.map_append, List.map_cons, List.map_append, List.map_cons]
              have := set_mid (cur.map Dm.g) m0.g (.fn hh (q.2.2 : Int)) (todo.map Dm.g)
              rw [List.length_map, hcl] at this
              exact this.symm
            have er : (cur ++ (⟨.fn hh (q.2.2 : Int), ps, q.1, B'⟩ : Dm) :: todo).map rsA = ((cur ++ m0 :: todo).map rsA).set pre.length (all [sl 9 1 (.slice hh.p hh.np hh.c) hh.np (strs ps), B']) := by
              rw [List.map_append, List.map_cons, List.map_append, List.map_cons]
              have := set_mid (cur.map rsA) (rsA m0) (all [sl 9 1 (.slice hh.p hh.np hh.c) hh.np (strs ps), B']) (todo.map rsA)
              rw [List.length_map, hcl] at this
              exact this.symm
            unfold twoL
            rw [eg, er]
            unfold scL at H18
            rw [hRk, x3, x4] at H18
            exact H18.pick [6, 7, 3, 8, 4, 5]
          · rw [hR, hKK]; rfl
    · have hge := of_decide_eq_false hge
      have : todo = [] := List.eq_nil_of_length_eq_zero (by omega)
      subst this
      simp only [List.map_nil, crest, List.append_nil] at hR H6 hpre
      have hR : R0 = finF lk (cur.map Dm.d) := by
        rw [hR]; show finF lk (cur.map Dm.d ++ []) = _; rw [List.append_nil]
      rw [List.append_nil] at hG
      have hL := henv _ hG cMain
      refine ⟨_, H6.nth 2 rfl, _, rfl, ?_⟩
      unfold finF at hR
      cases hlm : lk cMain with
      | none =>
        rw [hlm] at hL hR
        rw [show mapOf (ns.map Dm.g) (ByteArray.mk #[109, 97, 105, 110]) = none from hL]
        exact tag_nil (fail_c H6 0 9 hR)
      | some g =>
        rw [hlm] at hL hR
        cases g with
        | var wd z =>
          obtain ⟨i, k, tt, nm, hI, -⟩ := hL
          rw [show mapOf (ns.map Dm.g) (ByteArray.mk #[109, 97, 105, 110]) = _ from hI]
          exact tag_ne (by decide) (fail_c H6 0 9 hR)
        | fn k np =>
          obtain ⟨i, hh, slv, hI, hGi, rfl, rfl⟩ := hL
          rw [show mapOf (ns.map Dm.g) (ByteArray.mk #[109, 97, 105, 110]) = _ from hI]
          refine tag_eq ⟨_, rfl, ?_⟩
          have hb : Blk w6 hh.k (fnC hh.t hh.nm (.slice hh.p hh.np hh.c) (pt hh.kb) slv hh.no).toArray 115 := hd_at (H6.nth 4 rfl) hGi
          refine ptr_some ⟨_, _, _, hb.cell' (i := 4) rfl, ?_⟩
          refine Sx.split_of (fun h9 => ?_) (fun h9 => ?_)
          · have h9 := of_decide_eq_true h9
            exact fail_c H6 0 9 (hR.trans (if_pos (by omega)))
          · have h9 := of_decide_eq_false h9
            refine H6.st 0 rfl (i := 1) (by simp) fun w7 H7 => ?_
            refine ansc_ok (x := (cur.map Dm.d, hh.k)) (hR.trans (if_neg (by omega))) ⟨rfl, cur, km, pf, cf, t, rfl, hG, hfit, ?_⟩
            have H8 : St W (all (rawL kp pd cd ms)).own w7 (finL kp km pf cf pd cd (pt hh.k) (t : Int) ns cur ++ []) := by
              rw [List.append_nil]; exact H7
            exact (St.shut H8).post 0 rfl
end Go.Proofs.YtojogkljneonmaaGreatDoor
/- What the parser in plain Lean makes is well formed, and no greater than its tokens. No condition. -/
namespace Go.Lang
set_option linter.unusedVariables false
def kindOf : Req → Nat
  | .args => 1
  | .argl => 1
  | .blk => 2
  | .stmts => 3
  | .stmt => 2
  | _ => 0
def before : Req → Nat
  | .loop _ x => x.sz + 1
  | _ => 0
def reqOk : Req → Prop
  | .loop _ x => x.ok 0 = true
  | _ => True
theorem tail_eq {l : List Tok} (h : (now l).k ≠ 0) : l.tail.length + 1 = l.length := by
  cases l with
  | nil => exact absurd rfl h
  | cons t l => simp
theorem is_tail {s : ByteArray} {l : List Tok} (h : is s l = true) : l.tail.length + 1 = l.length := tail_eq (by rw [is_k h]; omega)
theorem k_tail {l : List Tok} {k : Nat} (h : (now l).k = k) (hk : k ≠ 0) : l.tail.length + 1 = l.length := tail_eq (by rw [h]; exact hk)
theorem run_shape : ∀ (f : Nat) (q : Req) (n : Nat) (l : List Tok) (x : T) (l' : List Tok), run f q n l = .ok x l' → reqOk q → x.ok (kindOf q) = true ∧ x.sz + 1 + 4 * l'.length ≤ 4 * l.length + before q := by
  intro f
  induction f with
  | zero => intro q n l x l' h; cases h
  | succ f ih =>
    intro q n l x l' h hq
    cases q with
    | expr =>
      unfold run at h
      split at h
      · cases h
      · exact ih (.bin 1) _ _ _ _ h trivial
    | bin k =>
      unfold run at h
      obtain ⟨x1, l1, h1, h2⟩ := bind_ok h
      obtain ⟨a1, a2⟩ := ih _ _ _ _ _ h1 trivial
      obtain ⟨b1, b2⟩ := ih (.loop k x1) _ _ _ _ h2 a1
      exact ⟨b1, by simp only [before] at *; omega⟩
    | loop k u =>
      unfold run at h
      split at h
      · rename_i hk
        have t0 := k_tail hk.1 (by omega)
        obtain ⟨x1, l1, h1, h2⟩ := bind_ok h
        obtain ⟨a1, a2⟩ := ih _ _ _ _ _ h1 trivial
        have hu : u.ok 0 = true := hq
        obtain ⟨b1, b2⟩ := ih (.loop k (.bin (now l) u x1)) _ _ _ _ h2 (show (T.bin (now l) u x1).ok 0 = true by simp only [kindOf] at a1; simp [T.ok, hu, a1])
        exact ⟨b1, by simp only [before, T.sz] at *; omega⟩
      · cases h
        exact ⟨hq, by simp only [before]; omega⟩
    | un =>
      unfold run at h
      split at h
      · rename_i h1
        have t0 : l.tail.length + 1 = l.length := by
          unfold isOne at h1
          rw [Bool.or_eq_true, Bool.or_eq_true] at h1
          rcases h1 with (h1 | h1) | h1 <;> exact is_tail h1
        split at h
        · cases h
        · obtain ⟨x1, l1, h1, h2⟩ := bind_ok h
          cases h2
          obtain ⟨a1, a2⟩ := ih _ _ _ _ _ h1 trivial
          exact ⟨by simp only [kindOf] at a1 ⊢; simp [T.ok, a1], by simp only [before, T.sz] at *; omega⟩
      · exact ih .prim _ _ _ _ h trivial
    | prim =>
      unfold run at h
      split at h
      · rename_i hk
        have t0 := k_tail hk (by omega)
        obtain ⟨-, v, h1⟩ := number_ok h
        cases h1
        exact ⟨rfl, by simp only [before, T.sz] at *; omega⟩
      · split at h
        · rename_i hk
          have t0 := is_tail hk
          obtain ⟨x1, l1, h1, h2⟩ := bind_ok h
          obtain ⟨h3', h3⟩ := want_ok h2
          cases h3
          have t1 := is_tail h3'
          obtain ⟨a1, a2⟩ := ih _ _ _ _ _ h1 trivial
          exact ⟨a1, by simp only [before] at *; omega⟩
        · obtain ⟨hk, h1⟩ := name_ok h
          have t0 := k_tail hk (by omega)
          split at h1
          · rename_i hk
            have t1 := is_tail hk
            obtain ⟨x1, l1, h1, h2⟩ := bind_ok h1
            cases h2
            obtain ⟨a1, a2⟩ := ih _ _ _ _ _ h1 trivial
            exact ⟨by simp only [kindOf] at a1 ⊢; simp [T.ok, a1], by simp only [before, T.sz] at *; omega⟩
          · split at h1
            · rename_i hk
              have t1 := is_tail hk
              obtain ⟨x1, l1, h5, h2⟩ := bind_ok h1
              obtain ⟨h3', h3⟩ := want_ok h2
              have t2 := is_tail h3'
              cases h3
              obtain ⟨a1, a2⟩ := ih _ _ _ _ _ h5 trivial
              exact ⟨by simp only [kindOf] at a1 ⊢; simp [T.ok, a1], by simp only [before, T.sz] at *; omega⟩
            · cases h1
              exact ⟨rfl, by simp only [before, T.sz] at *; omega⟩
    | args =>
      unfold run at h
      split at h
      · rename_i hk
        have t1 := is_tail hk
        cases h
        exact ⟨rfl, by simp only [before, T.sz] at *; omega⟩
      · exact ih .argl _ _ _ _ h trivial
    | argl =>
      unfold run at h
      obtain ⟨x1, l1, h1, h2⟩ := bind_ok h
      obtain ⟨a1, a2⟩ := ih _ _ _ _ _ h1 trivial
      split at h2
      · rename_i hk
        have t1 := is_tail hk
        cases h2
        exact ⟨by simp only [kindOf] at a1 ⊢; simp [T.ok, a1], by simp only [before, T.sz] at *; omega⟩
      · obtain ⟨h3', h3⟩ := want_ok h2
        have t1 := is_tail h3'
        obtain ⟨x2, l2, h4, h5⟩ := bind_ok h3
        cases h5
        obtain ⟨b1, b2⟩ := ih _ _ _ _ _ h4 trivial
        exact ⟨by simp only [kindOf] at a1 b1 ⊢; simp [T.ok, a1, b1], by simp only [before, T.sz] at *; omega⟩
    | blk =>
      unfold run at h
      split at h
      · cases h
      · obtain ⟨h3', h1⟩ := want_ok h
        have t1 := is_tail h3'
        obtain ⟨x2, l2, h4, h5⟩ := bind_ok h1
        cases h5
        obtain ⟨b1, b2⟩ := ih _ _ _ _ _ h4 trivial
        exact ⟨by simp only [kindOf] at b1 ⊢; simp [T.ok, b1], by simp only [before, T.sz] at *; omega⟩
    | stmts =>
      unfold run at h
      split at h
      · rename_i hk
        have t1 := is_tail hk
        cases h
        exact ⟨rfl, by simp only [before, T.sz] at *; omega⟩
      · obtain ⟨x1, l1, h1, h2⟩ := bind_ok h
        obtain ⟨x2, l2, h4, h5⟩ := bind_ok h2
        cases h5
        obtain ⟨a1, a2⟩ := ih _ _ _ _ _ h1 trivial
        obtain ⟨b1, b2⟩ := ih _ _ _ _ _ h4 trivial
        exact ⟨by simp only [kindOf] at a1 b1 ⊢; simp [T.ok, a1, b1], by simp only [before, T.sz] at *; omega⟩
    | stmt =>
      unfold run at h
      split at h
      · rename_i hk
        have t0 := k_tail hk (by omega)
        obtain ⟨-, h⟩ := name_ok h
        split at h
        · rename_i hk1
          have t1 := is_tail hk1
          obtain ⟨x1, l1, h1, h2⟩ := bind_ok h
          obtain ⟨h3', h3⟩ := want_ok h2
          have t2 := is_tail h3'
          cases h3
          obtain ⟨a1, a2⟩ := ih _ _ _ _ _ h1 trivial
          exact ⟨by simp only [kindOf] at a1 ⊢; simp [T.ok, a1], by simp only [before, T.sz] at *; omega⟩
        · split at h
          · rename_i hk1
            have t1 := is_tail hk1
            obtain ⟨x1, l1, h1, h2⟩ := bind_ok h
            obtain ⟨h3', h3⟩ := want_ok h2
            have t2 := is_tail h3'
            obtain ⟨h4', h3⟩ := want_ok h3
            have t3 := is_tail h4'
            obtain ⟨x2, l2, h4, h5⟩ := bind_ok h3
            obtain ⟨h5', h5⟩ := want_ok h5
            have t4 := is_tail h5'
            cases h5
            obtain ⟨a1, a2⟩ := ih _ _ _ _ _ h1 trivial
            obtain ⟨b1, b2⟩ := ih _ _ _ _ _ h4 trivial
            exact ⟨by simp only [kindOf] at a1 b1 ⊢; simp [T.ok, a1, b1], by simp only [before, T.sz] at *; omega⟩
          · obtain ⟨h3', h3⟩ := want_ok h
            have t2 := is_tail h3'
            obtain ⟨x2, l2, h4, h5⟩ := bind_ok h3
            obtain ⟨h5', h5⟩ := want_ok h5
            have t4 := is_tail h5'
            cases h5
            obtain ⟨b1, b2⟩ := ih _ _ _ _ _ h4 trivial
            exact ⟨by simp only [kindOf] at b1 ⊢; simp [T.ok, b1], by simp only [before, T.sz] at *; omega⟩
      · split at h
        · rename_i hk
          have t0 := is_tail hk
          obtain ⟨hn, h⟩ := name_ok h
          have t1 := k_tail hn (by omega)
          obtain ⟨h3', h⟩ := want_ok h
          have t2 := is_tail h3'
          obtain ⟨x2, l2, h4, h5⟩ := bind_ok h
          obtain ⟨h5', h5⟩ := want_ok h5
          have t4 := is_tail h5'
          cases h5
          obtain ⟨b1, b2⟩ := ih _ _ _ _ _ h4 trivial
          exact ⟨by simp only [kindOf] at b1 ⊢; simp [T.ok, b1], by simp only [before, T.sz] at *; omega⟩
        · split at h
          · rename_i hk
            have t0 := is_tail hk
            obtain ⟨x2, l2, h4, h5⟩ := bind_ok h
            obtain ⟨h5', h5⟩ := want_ok h5
            have t4 := is_tail h5'
            cases h5
            obtain ⟨b1, b2⟩ := ih _ _ _ _ _ h4 trivial
            exact ⟨by simp only [kindOf] at b1 ⊢; simp [T.ok, b1], by simp only [before, T.sz] at *; omega⟩
          · split at h
            · rename_i hk
              have t0 := is_tail hk
              obtain ⟨x2, l2, h4, h5⟩ := bind_ok h
              obtain ⟨h5', h5⟩ := want_ok h5
              have t4 := is_tail h5'
              cases h5
              obtain ⟨b1, b2⟩ := ih _ _ _ _ _ h4 trivial
              exact ⟨by simp only [kindOf] at b1 ⊢; simp [T.ok, b1], by simp only [before, T.sz] at *; omega⟩
            · split at h
              · rename_i hk
                have t0 := is_tail hk
                obtain ⟨x2, l2, h4, h5⟩ := bind_ok h
                obtain ⟨x3, l3, h6, h7⟩ := bind_ok h5
                cases h7
                obtain ⟨a1, a2⟩ := ih _ _ _ _ _ h4 trivial
                obtain ⟨b1, b2⟩ := ih _ _ _ _ _ h6 trivial
                exact ⟨by simp only [kindOf] at a1 b1 ⊢; simp [T.ok, a1, b1], by simp only [before, T.sz] at *; omega⟩
              · split at h
                · rename_i hk
                  have t0 := is_tail hk
                  obtain ⟨x2, l2, h4, h5⟩ := bind_ok h
                  obtain ⟨x3, l3, h6, h7⟩ := bind_ok h5
                  obtain ⟨a1, a2⟩ := ih _ _ _ _ _ h4 trivial
                  obtain ⟨b1, b2⟩ := ih _ _ _ _ _ h6 trivial
                  split at h7
                  · rename_i hk2
                    have t5 := is_tail hk2
                    obtain ⟨x4, l4, h8, h9⟩ := bind_ok h7
                    cases h9
                    obtain ⟨c1, c2⟩ := ih _ _ _ _ _ h8 trivial
                    exact ⟨by simp only [kindOf] at a1 b1 c1 ⊢; simp [T.ok, a1, b1, c1], by simp only [before, T.sz] at *; omega⟩
                  · cases h7
                    exact ⟨by simp only [kindOf] at a1 b1 ⊢; simp [T.ok, a1, b1, T.isNil], by simp only [before, T.sz] at *; omega⟩
                · cases h
/-! ### declarations -/
def DOk : D → Prop
  | .var _ _ _ z => 0 ≤ z ∧ z ≤ 256
  | .fn _ _ ps s _ b => s = 0 ∧ ps.length ≤ 6 ∧ b.ok 2 = true ∧ b.sz < 1000000
theorem paramL_shape : ∀ (k : Nat) (l l' : List Tok) (ps : List ByteArray), params.paramL k l = .ok ps l' → ps.length ≤ k ∧ l'.length ≤ l.length
  | 0, l, l', ps, h => by
    rw [params.paramL] at h
    obtain ⟨-, h⟩ := name_ok h
    cases h
  | k + 1, l, l', ps, h => by
    rw [params.paramL] at h
    obtain ⟨-, h⟩ := name_ok h
    have t1 := tail_le l
    have t2 := tail_le l.tail
    split at h
    · cases h; exact ⟨by simp, by omega⟩
    · obtain ⟨-, h⟩ := want_ok h
      obtain ⟨x2, l2, h4, h5⟩ := bind_ok h
      cases h5
      obtain ⟨a1, a2⟩ := paramL_shape k _ _ _ h4
      exact ⟨by simp; omega, by omega⟩
theorem params_shape {k : Nat} {l l' : List Tok} {ps : List ByteArray} (h : params k l = .ok ps l') : ps.length ≤ k ∧ l'.length ≤ l.length := by
  have e : params k l = if is cRP l then .ok [] l.tail else params.paramL k l := by rw [params]
  rw [e] at h
  by_cases hp : is cRP l = true
  · rw [if_pos hp] at h; cases h; exact ⟨by simp, tail_le l⟩
  · rw [if_neg hp] at h; exact paramL_shape k _ _ _ h
theorem decl_shape {f : Nat} {l l' : List Tok} {d : D} (hl : l.length ≤ 8001) (h : decl f l = .ok d l') : DOk d ∧ l'.length < l.length := by
  unfold decl at h
  split at h
  · rename_i hk
    have t0 := is_tail hk
    obtain ⟨hn, h⟩ := name_ok h
    have t1 := k_tail hn (by omega)
    split at h
    · rename_i hk2
      have t2 := is_tail hk2
      unfold number at h
      split at h
      · cases h
      · split at h
        · cases h
        · rename_i hk3 _
          have t3 := k_tail (Decidable.not_not.1 hk3) (by omega)
          dsimp only at h
          split at h
          · cases h
          · rename_i hv
            obtain ⟨h3', h⟩ := want_ok h
            have t4 := is_tail h3'
            obtain ⟨h3'', h⟩ := want_ok h
            have t5 := is_tail h3''
            cases h
            exact ⟨⟨by omega, by omega⟩, by omega⟩
    · obtain ⟨h3', h⟩ := want_ok h
      have t4 := is_tail h3'
      cases h
      exact ⟨⟨Int.le_refl _, by omega⟩, by omega⟩
  · obtain ⟨h3', h⟩ := want_ok h
    have t0 := is_tail h3'
    obtain ⟨hn, h⟩ := name_ok h
    have t1 := k_tail hn (by omega)
    obtain ⟨h4', h⟩ := want_ok h
    have t2 := is_tail h4'
    obtain ⟨ps, l2, h5, h⟩ := bind_ok h
    obtain ⟨b, l3, h6, h⟩ := bind_ok h
    cases h
    obtain ⟨a1, a2⟩ := params_shape h5
    obtain ⟨b1, b2⟩ := run_shape _ _ _ _ _ _ h6 trivial
    simp only [before, kindOf] at b1 b2
    exact ⟨⟨rfl, a1, b1, by omega⟩, by omega⟩
end Go.Lang
