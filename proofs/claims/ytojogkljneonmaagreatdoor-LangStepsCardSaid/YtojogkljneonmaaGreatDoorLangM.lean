import Derived.Test.YtojogkljneonmaaGreatDoorLangZf
import Derived.Test.YtojogkljneonmaaGreatDoorLangVd
import Derived.Test.YtojogkljneonmaaGreatDoorLangB
import Derived.Test.YtojogkljneonmaaGreatDoorLangU
/- The checker in memory: all declarations. No condition. -/
namespace Go.Proofs.YtojogkljneonmaaGreatDoor
open Go Go.Proofs Go.Sep Go.XHeap Go.RowKit Go.Lang
set_option linter.unusedVariables false
set_option linter.unusedSimpArgs false
variable {W : World}
theorem set_id {α : Type} : ∀ {L : List α} {i : Nat} {a : α}, L[i]? = some a → L.set i a = L
  | [], i, a, h => by simp at h
  | x :: L, 0, a, h => by simp at h; subst h; rfl
  | x :: L, i + 1, a, h => by
    have h : L[i]? = some a := by simpa using h
    simp [set_id h]
def mkX (ks kp km : Nat) (I : ByteArray → Option Value) (G : List Gd) (j : Nat) (h : Fh) : Cx := ⟨ks, kp, km, I, G, j, h⟩
/-- a program behind its check -/
def finL (kp km : Nat) (pf : Option Addr) (cf : Nat) (pd : Option Addr) (cd : Nat) (mn : Value) (tot : Int) (ns cur : List Dm) : List Asn := twoL kp km pf cf pd cd mn tot ns cur
def finF (lk : Lk) (l : List D) : C (List D × Nat) := match lk cMain with
  | some (.fn k np) => if 0 < np then .err 0 9 else .ok (l, k)
  | _ => .err 0 9
def ChkK (kp : Nat) (pd : Option Addr) (cd : Nat) (ms : List Dm) (A0 : Asn) (W : World) (q : List D × Nat) (e : Ending) (w' : World) : Prop :=
  e = .returned (.tuple #[]) ∧ ∃ (cur : List Dm) (km : Nat) (pf : Option Addr) (cf tot : Nat), cur.map Dm.d = q.1 ∧ (cur.map Dm.g).map gz = ((countM ms 0 0).map Dm.g).map gz ∧ (∀ m ∈ cur, m.Fit) ∧ tot = gtot ((countM ms 0 0).map Dm.g) ∧ Post A0 W (all (finL kp km pf cf pd cd (pt q.2) (tot : Int) (countM ms 0 0) cur)) w'
theorem check_any [Inhabited G3o] {kp : Nat} {pd : Option Addr} {cd : Nat} {ms : List Dm} (hms : ms.length ≤ 8001) (hok : ∀ m ∈ ms, m.Ok) (hnew : ∀ m ∈ ms, m.New) (h : (all (rawL kp pd cd ms)).at_ W) :
    Calls Tryz.prog 27 #[pt kp] W (AnsC (all (rawL kp pd cd ms)) W (check (adOf (countM ms 0 0)) (ms.map Dm.d)) (ChkK kp pd cd ms (all (rawL kp pd cd ms)) W)) := by
  refine vc27 kp 0 ?_
  have H : St W (all (rawL kp pd cd ms)).own W (rawL kp pd cd ms) := by
    have := St.open_ (L' := []) (St.begin h); rwa [List.append_nil] at this
  refine mkmS H fun km w2 H2 => ?_
  refine ⟨_, _, _, H2.ld 0 rfl (i := 3) rfl, ?_⟩
  refine ⟨One W (all (rawL kp pd cd ms)) kp km pd cd ms, fun x _ _ => ((ms.length : Int) - x).toNat, ?_, fun _ x tot w hI => ?_⟩
  · have H3 := H2.add (A := sl 63 1 (.slice none 0 0) 0 []) ⟨Sl.nil _ _ _, XTouch.refl _ _, fun q hq => by cases hq⟩
    refine ⟨[], ms.map Dm.g, 0, none, 0, rfl, rfl, by simp, by simp [Function.comp], rfl, ⟨by simp, rfl⟩, fun g hg => ?_, H3.pick [0, 1, 4, 5, 2, 3]⟩
    obtain ⟨m, hm, rfl⟩ := List.mem_map.1 hg
    have := hok m hm
    unfold Dm.Ok at this
    unfold gOk
    split
    · rename_i he; rw [he] at this; exact this
    · trivial
  obtain ⟨done, todo, t, pf, cf, rfl, rfl, h1, h2, h3, h4, h5, H3⟩ := hI
  have hw : IntKind.wrap .i64 ((done.length : Nat) + 1 : Int) = ((done.length + 1 : Nat) : Int) := i64s (b := 1) (by omega)
  refine Sx.split_of (fun hlt => ?_) (fun hge => ?_)
  · have hlt := of_decide_eq_true hlt
    cases todo with
    | nil => simp at h1; omega
    | cons g todo =>
    refine ⟨⟨by omega, by omega⟩, ?_⟩
    refine sl_get (H3.nth 1 rfl) (i := done.length) (v := gval g) (by rw [← h2, List.map_append, List.map_cons]; have := get_mid (done.map gval) (gval g) (todo.map gval); rw [List.length_map] at this; exact this) fun gg oo hc => ?_
    rw [ix1]
    refine ⟨_, hc, ?_⟩
    have hms' : ((ms.length : Int) - ((done.length + 1 : Nat) : Int)).toNat < ((ms.length : Int) - ((done.length : Nat) : Int)).toNat := by omega
    cases g with
    | var k tk nm w0 z =>
      have hz := h5 _ (List.mem_cons_self ..)
      simp only [gOk] at hz
      refine tag_eq ⟨_, rfl, ?_⟩
      have hb : Blk w k (varC tk nm w0 z).toArray 127 := hd_at (H3.nth 4 rfl) (get_mid done _ todo)
      refine ptr_some ⟨⟨_, hb.cell' (i := 4) rfl⟩, hb.frozen 4, ?_⟩
      rintro w4 rfl
      have H4 := H3.upd 4 rfl (hd_set (g := .var k tk nm w0 z) (g' := .var k tk nm (t : Int) z) (c := 4) (v := .int .i64 (t : Int)) (H3.nth 4 rfl) (get_mid done _ todo) rfl rfl)
      rw [set_mid] at H4
      have hb4 : Blk _ k (varC tk nm (t : Int) z).toArray 127 := hd_at (H4.nth 4 rfl) (get_mid done _ todo)
      refine ptr_some ⟨_, hb4.cell' (i := 5) rfl, ?_⟩
      rintro z2 rfl
      rw [show IntKind.wrap .i64 ((t : Int) + if z > 1 then z else 1) = ((t + max 1 z.toNat : Nat) : Int) by
        rw [show ((t : Int) + if z > 1 then z else 1) = ((t + max 1 z.toNat : Nat) : Int) by split <;> omega]
        exact Go.Bits.n64 (by omega)]
      refine ptr_some ⟨nm, hb4.cell' (i := 3) rfl, _, H4.nth 2 rfl, _, rfl, ?_⟩
      refine Sx.split_of (fun hs => ?_) (fun hs => ?_)
      · have hs : (mapOf done (gnm (.var k tk nm (t : Int) z))).isSome = false := bnot_true hs
        refine ptr_some ⟨nm, hb4.cell' (i := 3) rfl, _, H4.nth 2 rfl, fun w5 hm ht => ?_⟩
        have H5 := H4.upd 2 rfl (A' := mpS km (mapOf (done ++ [.var k tk nm (t : Int) z]))) ⟨by rw [mapOf_new hs]; exact hm, ht, fun q hq => .inl hq⟩
        rintro z3 rfl
        rw [hw]
        have e : fnsOf (done ++ [Gd.var k tk nm (t : Int) z]) = fnsOf done := by rw [fnsOf_append]; simp [fnsOf]
        exact ⟨check_one hms h1 h2 h3 h4 h5 (by unfold midL; rw [e]; exact H5), hms'⟩
      · have hs : (mapOf done (gnm (.var k tk nm (t : Int) z))).isSome = true := bnot_false hs
        rintro z3 rfl
        rw [hw]
        have e : fnsOf (done ++ [Gd.var k tk nm (t : Int) z]) = fnsOf done := by rw [fnsOf_append]; simp [fnsOf]
        exact ⟨check_one hms h1 h2 h3 h4 h5 (by unfold midL; rw [e, mapOf_there hs]; exact H4), hms'⟩
    | fn hd s =>
      refine tag_ne (by decide) (tag_eq ⟨_, rfl, ?_⟩)
      have hfl := fnsOf_le done
      simp only [List.length_cons] at h1
      have hb : Blk w hd.k (fnC hd.t hd.nm (.slice hd.p hd.np hd.c) (pt hd.kb) s hd.no).toArray 115 := hd_at (H3.nth 4 rfl) (get_mid done _ todo)
      refine ⟨_, _, _, H3.ld 0 rfl (i := 0) rfl, ptr_some ⟨⟨_, hb.cell' (i := 7) rfl⟩, hb.frozen 7, ?_⟩⟩
      rintro w4 rfl
      have H4 := H3.upd 4 rfl (hd_set (g := .fn hd s) (g' := .fn { hd with no := ((fnsOf done).length : Int) } s) (c := 7) (v := .int .i64 ((fnsOf done).length : Int)) (H3.nth 4 rfl) (get_mid done _ todo) rfl rfl)
      rw [set_mid] at H4
      refine ⟨_, _, _, H4.ld 0 rfl (i := 0) rfl, ?_⟩
      refine H4.al fun ka w5 H5 => ?_
      refine H5.app 3 rfl [pt hd.k] (.inr ⟨_, rfl, fun j u hj => ?_⟩) rfl (by simp; rfl) (by show (fnsOf done).length + 1 ≤ maxLen; unfold maxLen; omega) (by omega) fun p' c' w6 H6 => ?_
      · match j, hj with
        | 0, hj => cases hj; exact H5.ld 6 rfl (i := 0) rfl
      refine H6.st 0 rfl (i := 0) (by simp) fun w7 H7 => ?_
      have hb7 : Blk w7 hd.k (fnC hd.t hd.nm (.slice hd.p hd.np hd.c) (pt hd.kb) s ((fnsOf done).length : Int)).toArray 115 := hd_at (H7.nth 4 rfl) (get_mid done (Gd.fn { hd with no := ((fnsOf done).length : Int) } s) todo)
      refine ptr_some ⟨hd.nm, hb7.cell' (i := 3) rfl, _, H7.nth 2 rfl, _, rfl, ?_⟩
      have e : fnsOf (done ++ [Gd.fn { hd with no := ((fnsOf done).length : Int) } s]) = fnsOf done ++ [pt hd.k] := by rw [fnsOf_append]; simp [fnsOf]
      have e2 : (fnsOf done ++ [pt hd.k]).length = (fnsOf done).length + 1 := by simp
      refine Sx.split_of (fun hs => ?_) (fun hs => ?_)
      · have hs : (mapOf done (gnm (.fn { hd with no := ((fnsOf done).length : Int) } s))).isSome = false := bnot_true hs
        refine ptr_some ⟨hd.nm, hb7.cell' (i := 3) rfl, _, H7.nth 2 rfl, fun w8 hm ht => ?_⟩
        have H8 := H7.upd 2 rfl (A' := mpS km (mapOf (done ++ [.fn { hd with no := ((fnsOf done).length : Int) } s]))) ⟨by rw [mapOf_new hs]; exact hm, ht, fun q hq => .inl hq⟩
        rintro z3 rfl
        rw [hw]
        exact ⟨check_oneF (pf := p') (cf := c') hms (by simp only [List.length_cons]; omega) h2 h3 h4 h5 (by unfold midL; rw [e, e2]; exact H8.take 6), hms'⟩
      · have hs : (mapOf done (gnm (.fn { hd with no := ((fnsOf done).length : Int) } s))).isSome = true := bnot_false hs
        rintro z3 rfl
        rw [hw]
        exact ⟨check_oneF (pf := p') (cf := c') hms (by simp only [List.length_cons]; omega) h2 h3 h4 h5 (by unfold midL; rw [e, e2, mapOf_there hs]; exact H7.take 6), hms'⟩
  · have hge := of_decide_eq_false hge
    have : todo = [] := List.eq_nil_of_length_eq_zero (by omega)
    subst this
    simp only [countG, List.append_nil] at h3 H3 h2
    rw [← countM_g] at h3
    subst h3
    have hns := countM_len ms 0 0
    have hnok := countM_ok ms 0 0 hok
    have hnnew := countM_new ms 0 0 hnew
    have hnw := countM_w ms 0 0 hok
    rw [List.length_map] at h1 h4
    have ht := h4.2
    replace h4 := h4.1
    generalize hR0 : check (adOf (countM ms 0 0)) (ms.map Dm.d) = R0
    have hR0 : R0 = (crest (lkOf (adOf (countM ms 0 0)) ((countM ms 0 0).map Dm.d)) ((countM ms 0 0).map Dm.d) 0 ((countM ms 0 0).map Dm.d)).bind (finF (lkOf (adOf (countM ms 0 0)) ((countM ms 0 0).map Dm.d))) := by
      rw [← hR0, countM_d]; rfl
    have H3 : St W (all (rawL kp pd cd ms)).own w (twoL kp km pf cf pd cd (.pointer none) 0 (countM ms 0 0) (countM ms 0 0)) := by
      unfold twoL
      rw [hns, countM_vals, countM_rs]
      exact H3
    unfold ChkK
    generalize hgns : countM ms 0 0 = ns at *
    refine H3.st 0 rfl (i := 2) (by simp) fun w4 H4 => ?_
    have H4 : St W (all (rawL kp pd cd ms)).own w4 (twoL kp km pf cf pd cd (.pointer none) (t : Int) ns ns) := H4
    refine ⟨_, _, _, H4.ld 0 rfl (i := 3) rfl, ?_⟩
    have hZ := sizes_ok hnok
    have henv := fun G hG s => env_at ns G hG hnok s
    generalize hlk : lkOf (adOf ns) (ns.map Dm.d) = lk at *
    have hrest : ∀ {pre todo cur : List Dm}, ns = pre ++ todo → (cur.map Dm.g).map gz = (pre.map Dm.g).map gz → ((cur ++ todo).map Dm.g).map gz = (ns.map Dm.g).map gz := by
      intro pre todo cur e1 e2
      rw [e1, List.map_append, List.map_append, e2, ← List.map_append, ← List.map_append]
    refine ⟨Two W (all (rawL kp pd cd ms)) kp km pf cf pd cd (t : Int) ns (finF lk) R0, fun x _ => ((ns.length : Int) - x).toNat, ⟨[], ns, [], rfl, rfl, rfl, rfl, (fun m hm => by cases hm), H4, by rw [hlk]; exact hR0⟩, fun _ x w6 hI => ?_⟩
    obtain ⟨pre, todo, cur, rfl, hpre, hcl, hgz, hfit, H6, hR⟩ := hI
    rw [hlk] at hR
    have hlen : ns.length = pre.length + todo.length := by rw [hpre, List.length_append]
    have hG := hrest hpre hgz
    refine Sx.split_of (fun hlt => ?_) (fun hge => ?_)
    · have hlt := of_decide_eq_true hlt
      cases todo with
      | nil => simp at hlen; omega
      | cons m todo =>
      have hmem : m ∈ ns := by rw [hpre]; simp
      have hmok := hnok m hmem
      have hmnew := hnnew m hmem
      have hmw := hnw m hmem
      refine ⟨⟨by omega, by omega⟩, ?_⟩
      refine sl_get (H6.nth 1 rfl) (i := pre.length) (v := gval m.g) (by rw [hpre, List.map_append, List.map_cons]; have := get_mid (pre.map fun m => gval m.g) (gval m.g) (todo.map fun m => gval m.g); rw [List.length_map] at this; exact this) fun gg oo hc => ?_
      rw [ix1]
      refine ⟨_, hc, ?_⟩
      have hms' : ((ns.length : Int) - ((pre.length + 1 : Nat) : Int)).toNat < ((ns.length : Int) - ((pre.length : Nat) : Int)).toNat := by omega
      have hw2 : IntKind.wrap .i64 ((pre.length : Nat) + 1 : Int) = ((pre.length + 1 : Nat) : Int) := i64s (b := 1) (by omega)
      have hcg : ((cur ++ m :: todo).map Dm.g)[pre.length]? = some m.g := by
        rw [List.getElem?_map, ← hcl, get_mid]; rfl
      have hng : (ns.map Dm.g)[pre.length]? = some m.g := by
        rw [hpre, List.getElem?_map, get_mid]; rfl
      obtain ⟨a, ha1, ha2, ha3, ha4⟩ := dup_at hG (H6.nth 4 rfl) hcg hng
      rw [List.map_cons, crest, C.bind_assoc, dm_nm] at hR
      generalize hdup : decide (firstOf (ns.map Dm.d) (gnm m.g) ≠ some pre.length) = dp at hR ha4
      have next : ∀ {m' : Dm} {w9 : World}, gz m'.g = gz m.g → m'.Fit → St W (all (rawL kp pd cd ms)).own w9 (twoL kp km pf cf pd cd (.pointer none) (t : Int) ns (cur ++ m' :: todo)) → R0 = ((crest lk (ns.map Dm.d) (pre.length + 1) (todo.map Dm.d)).bind fun r' => C.ok (m'.d :: r')).bind (fun r => finF lk (cur.map Dm.d ++ r)) → Two W (all (rawL kp pd cd ms)) kp km pf cf pd cd (t : Int) ns (finF lk) R0 ((pre.length + 1 : Nat) : Int) w9 := by
        intro m' w9 e1 e2 H9 e3
        refine ⟨pre ++ [m], todo, cur ++ [m'], by simp, by rw [hpre]; simp, by simp [hcl], by simp [← hgz, e1], fun x hx => ?_, by rw [List.append_assoc]; exact H9, ?_⟩
        · rcases List.mem_append.1 hx with hx | hx
          · exact hfit x hx
          · simp at hx; subst hx; exact e2
        · rw [e3, hlk, C.bind_assoc, List.length_append]
          congr 1
          funext r
          simp [C.bind]
      obtain ⟨mg, ps, bd, B⟩ := m
      cases mg with
      | var k tk nm wd z =>
        have hz : 0 ≤ z ∧ z ≤ 256 := hmok
        have hwd : 0 ≤ wd ∧ wd ≤ ((0 : Nat) : Int) + 256 * ms.length := hmw
        refine tag_eq ⟨_, rfl, ?_⟩
        have hb : Blk w6 k (varC tk nm wd z).toArray 127 := ha3
        refine ptr_some ⟨nm, hb.cell' (i := 3) rfl, _, H6.nth 2 rfl, _, rfl, ?_⟩
        rw [show ((mapOf (ns.map Dm.g)) nm).getD .nilIface = gval a from ha1]
        refine ⟨dp, fun w' hk => by rw [← ha4]; exact neq_run ha2 ha3 hk, ?_⟩
        have hR : R0 = (cone lk dp (.var tk nm wd z)).bind _ := hR
        refine Sx.split_of (fun hd => ?_) (fun hd => ?_)
        · exact ptr_some ⟨_, hb.cell' (i := 2) rfl, fail_c H6 tk.line 9 (by rw [hR, hd]; rfl)⟩
        · refine ptr_some ⟨_, hb.cell' (i := 4) rfl, ptr_some ⟨_, hb.cell' (i := 5) rfl, ?_⟩⟩
          rintro z11 rfl
          have hmax : (if z > 1 then z else 1) = max 1 z := by split <;> omega
          rw [hmax, show IntKind.wrap .i64 (wd + max 1 z) = wd + max 1 z by
            obtain ⟨a1, rfl⟩ : ∃ a1 : Nat, wd = a1 := ⟨wd.toNat, by omega⟩
            obtain ⟨a2, rfl⟩ : ∃ a2 : Nat, z = a2 := ⟨z.toNat, by omega⟩
            rw [show ((a1 : Int) + max 1 (a2 : Int)) = ((a1 + max 1 a2 : Nat) : Int) by omega]
            exact Go.Bits.n64 (by omega)]
          refine H6.drN fun w7 H7 => ?_
          have hb : Blk w7 k (varC tk nm wd z).toArray 127 := hd_at (H7.nth 4 rfl) hcg
          have hone : cone lk dp (.var tk nm wd z) = if 512 < wd + max 1 z then .err tk.line 1 else .ok (.var tk nm wd z) := by
            rw [hd]; rfl
          refine Sx.split_of (fun h9 => ?_) (fun h9 => ?_)
          · have h9 := of_decide_eq_true h9
            exact ptr_some ⟨_, hb.cell' (i := 2) rfl, fail_c H7 tk.line 1 (by rw [hR, hone, if_pos h9]; rfl)⟩
          · have h9 := of_decide_eq_false h9
            rintro z13 rfl
            rw [hw2]
            refine ⟨next (m' := ⟨.var k tk nm wd z, ps, bd, B⟩) rfl trivial H7 ?_, hms'⟩
            rw [hR, hone, if_neg h9]; rfl
      | fn hh sl0 =>
        obtain ⟨hnp, hbP, hbo, hbs, hp6⟩ : hh.np = ps.length ∧ isP bd [.iface 113 (pt hh.kb)] B ∧ bd.ok 2 = true ∧ bd.sz < 1000000 ∧ ps.length ≤ 6 := hmok
        have hs0 : sl0 = 0 := hmnew
        subst hs0
        refine tag_ne (by decide) (tag_eq ⟨_, rfl, ?_⟩)
        have hb : Blk w6 hh.k (fnC hh.t hh.nm (.slice hh.p hh.np hh.c) (pt hh.kb) 0 hh.no).toArray 115 := ha3
        refine ptr_some ⟨hh.nm, hb.cell' (i := 3) rfl, _, H6.nth 2 rfl, _, rfl, ?_⟩
        rw [show ((mapOf (ns.map Dm.g)) hh.nm).getD .nilIface = gval a from ha1]
        refine ⟨dp, fun w' hk => by rw [← ha4]; exact neq_run ha2 ha3 hk, ?_⟩
        obtain ⟨KK, hKK⟩ : ∃ KK : D → C (List D × Nat), KK = fun d' => ((crest lk (ns.map Dm.d) (pre.length + 1) (todo.map Dm.d)).bind fun r' => C.ok (d' :: r')).bind fun r => finF lk (cur.map Dm.d ++ r) := ⟨_, rfl⟩
        have hRb : R0 = (cone lk dp (.fn hh.t hh.nm ps 0 hh.no bd)).bind KK := by rw [hKK]; exact hR
        clear hR
        refine Sx.split_of (fun hd => ?_) (fun hd => ?_)
        · exact ptr_some ⟨_, hb.cell' (i := 2) rfl, fail_c H6 hh.t.line 9 (by rw [hRb, hd]; rfl)⟩
        have hone : cone lk dp (.fn hh.t hh.nm ps 0 hh.no bd) = (cpars lk hh.t.line ps [] 0).bind fun q => (cst lk bd q.1 q.2).bind fun r => .ok (.fn hh.t hh.nm ps (r.2.2 : Int) hh.no r.1) := by
          rw [hd]; rfl
        rw [hone, C.bind_assoc] at hRb
        rintro vs rfl
        refine H6.al fun ks w7 H7 => ?_
        have hb7 : Blk w7 hh.k (fnC hh.t hh.nm (.slice hh.p hh.np hh.c) (pt hh.kb) 0 hh.no).toArray 115 := hd_at (H7.nth 4 rfl) hcg
        refine ptr_some ⟨_, _, _, hb7.cell' (i := 4) rfl, ?_⟩
        generalize hm0 : (⟨.fn hh 0, ps, bd, B⟩ : Dm) = m0 at *
        have hm0g : m0.g = .fn hh 0 := by rw [← hm0]
        rw [hm0g] at hcg hng
        have hlt2 : pre.length < ((cur ++ m0 :: todo).map Dm.g).length := by simp; omega
        generalize hXd : mkX ks kp km (mapOf (ns.map Dm.g)) ((cur ++ m0 :: todo).map Dm.g) pre.length hh = X
        have x1 : X.ks = ks := by rw [← hXd]; rfl
        have x2 : X.kp = kp := by rw [← hXd]; rfl
        have x3 : X.km = km := by rw [← hXd]; rfl
        have x4 : X.I = mapOf (ns.map Dm.g) := by rw [← hXd]; rfl
        have x5 : X.h = hh := by rw [← hXd]; rfl
        have x6 : ∀ n, X.gs n = ((cur ++ m0 :: todo).map Dm.g).set pre.length (.fn hh (n : Int)) := fun n => by rw [← hXd]; rfl
        have x7 : X.G = (cur ++ m0 :: todo).map Dm.g := by rw [← hXd]; rfl
        have x8 : X.j = pre.length := by rw [← hXd]; rfl
        have hX0 : X.gs 0 = (cur ++ m0 :: todo).map Dm.g := by rw [x6]; exact set_id hcg
        have hE : EnvOk lk X := by
          refine ⟨by rw [x7, x8]; exact hlt2, fun n s => ?_⟩
          rw [x4]
          refine henv _ ?_ s
          rw [x6, List.map_set]
          show ((List.map gz ((cur ++ m0 :: todo).map Dm.g)).set pre.length (.fn hh 0)) = _
          rw [set_id (by rw [List.getElem?_map, hcg]; rfl)]
          exact hG
        have H8 := (H7.add (A := sl 9 1 (.slice none 0 0) 0 []) ⟨Sl.nil _ _ _, XTouch.refl _ _, fun q hq => by cases hq⟩).add (A := sl 3 1 (.slice none 0 0) 0 []) ⟨Sl.nil _ _ _, XTouch.refl _ _, fun q hq => by cases hq⟩
        obtain ⟨Rk, hRk⟩ : ∃ Rk, Rk = [blk kp #[.slice pf (fnsOf (ns.map Dm.g)).length cf, .pointer none, .int .i64 (t : Int), .slice pd ns.length cd] 66, sl 20 1 (.slice pd ns.length cd) ns.length (ns.map fun m => gval m.g), sl 63 1 (.slice pf (fnsOf (ns.map Dm.g)).length cf) (fnsOf (ns.map Dm.g)).length (fnsOf (ns.map Dm.g))] := ⟨_, rfl⟩
        have H9 : St W (all (rawL kp pd cd ms)).own w7 (scL X ⟨none, 0, none, 0⟩ 0 [] ++ (all ((cur ++ m0 :: todo).map rsA) :: Rk)) := by
          unfold scL
          rw [hX0, hRk, x1, x2, x3, x4, x5]
          exact H8.pick [6, 7, 8, 2, 4, 5, 0, 1, 3]
        have H10 := St.shut (L := scL X ⟨none, 0, none, 0⟩ 0 []) H9
        have hrs : ((cur ++ m0 :: todo).map rsA)[pre.length]? = some (all [sl 9 1 (.slice hh.p hh.np hh.c) hh.np (strs ps), B]) := by
          rw [List.getElem?_map, ← hcl, get_mid, ← hm0]; rfl
        have rdh : ∀ {w : World} {S : Sp} {n : Nat} {Ls : Lcs} {L : List Asn}, St W (all (rawL kp pd cd ms)).own w (scA X S n Ls :: L) → Blk w hh.k (fnC hh.t hh.nm (.slice hh.p hh.np hh.c) (pt hh.kb) (n : Int) hh.no).toArray 115 := by
          intro w S n Ls L H
          have h1 : here (scL X S n Ls) w := H.nth 0 rfl
          have h2 : here ((X.gs n).map hdA) w := h1.nth 4 rfl
          have := hd_at h2 (gs_at hE.1 n)
          rw [x5] at this
          exact this
        refine ⟨fun x w => ∃ (j : Nat) (S : Sp) (n : Nat) (Ls : Lcs), x = j ∧ j ≤ ps.length ∧ Ls.length ≤ n ∧ n ≤ 24 ∧ St W (all (rawL kp pd cd ms)).own w (scA X S n Ls :: all ((cur ++ m0 :: todo).map rsA) :: Rk) ∧ R0 = (cpars lk hh.t.line (ps.drop j) Ls n).bind fun q => ((cst lk bd q.1 q.2).bind fun r => .ok (.fn hh.t hh.nm ps (r.2.2 : Int) hh.no r.1)).bind KK, fun x _ => ((ps.length : Int) - x).toNat, ⟨0, _, 0, [], rfl, by omega, by simp, by omega, H10, hRb⟩, fun _ x w8 hI => ?_⟩
        obtain ⟨j, S, n, Ls, rfl, hj, g1, g2, H11, hR⟩ := hI
        have hb8 := rdh H11
        refine Sx.split_of (fun h9 => ?_) (fun h9 => ?_)
        · have h9 : j < ps.length := by have := of_decide_eq_true h9; omega
          have hrow : Sl w8 9 1 (.slice hh.p hh.np hh.c) hh.np (strs ps) := by
            have h1 : here ((cur ++ m0 :: todo).map rsA) w8 := H11.nth 1 rfl
            have h2 : here [sl 9 1 (.slice hh.p hh.np hh.c) hh.np (strs ps), B] w8 := h1.nth pre.length hrs
            exact h2.1
          refine ⟨⟨by omega, by omega⟩, ?_⟩
          refine sl_get hrow (i := j) (v := .string ps[j]) (by unfold strs; rw [List.getElem?_map, List.getElem?_eq_getElem h9]; rfl) fun gg oo hc => ?_
          rw [ix1]
          refine ⟨_, hc, ptr_some ⟨(tkL hh.t).toArray, rfl, Sx.cellsAt_of_blk (o := 0) hb8 _ (fun i v hi => ?_), ?_⟩⟩
          · rw [Nat.zero_add]
            unfold fnC
            rw [List.getElem?_toArray] at hi ⊢
            rw [List.getElem?_append_left (List.getElem?_eq_some_iff.1 hi).1]; exact hi
          have hdr : ps.drop j = ps[j] :: ps.drop (j + 1) := List.drop_eq_getElem_cons h9
          rw [hdr, cpars, C.bind_assoc] at hR
          have hcall := sdecl_any hE g1 g2 hh.t ps[j] (H11.nth 0 rfl)
          rw [x1] at hcall
          refine ccase H11 0 rfl hR hcall ?_
          rintro q _ w9 hq hR ⟨rfl, S', hp⟩
          obtain ⟨rfl, h24⟩ := cdecl_inv hq
          refine ⟨_, rfl, ?_⟩
          rintro z16 rfl
          rw [show IntKind.wrap .i64 ((j : Nat) + 1 : Int) = ((j + 1 : Nat) : Int) from i64s (b := 1) (by omega)]
          exact ⟨⟨j + 1, S', n + 1, Ls ++ [(ps[j], n)], rfl, by omega, by simp; omega, by omega, H11.upd 0 rfl hp, hR⟩, by show ((ps.length : Int) - ((j + 1 : Nat) : Int)).toNat < ((ps.length : Int) - ((j : Nat) : Int)).toNat; omega⟩
        · have h9 : ps.length ≤ j := by have := of_decide_eq_false h9; omega
          rw [List.drop_eq_nil_of_le h9] at hR
          have hR : R0 = ((cst lk bd Ls n).bind fun r => .ok (.fn hh.t hh.nm ps (r.2.2 : Int) hh.no r.1)).bind KK := hR
          rw [C.bind_assoc] at hR
          refine ptr_some ⟨_, hb8.cell' (i := 5) rfl, ?_⟩
          obtain ⟨line, l, kb', rfl, e, hl3⟩ := block_of hbo hbP
          have H12 := St.open_ (L := [sl 9 1 (.slice hh.p hh.np hh.c) hh.np (strs ps), B]) (focus (St.swap H11) hrs)
          have H13 : St W (all (rawL kp pd cd ms)).own w8 ([scA X S n Ls, B] ++ (sl 9 1 (.slice hh.p hh.np hh.c) hh.np (strs ps) :: all (((cur ++ m0 :: todo).map rsA).eraseIdx pre.length) :: Rk)) := by
            rw [hRk] at H12 ⊢
            exact H12.pick [3, 1, 0, 2, 4, 5, 6]
          have H14 := St.shut H13
          simp only [T.sz] at hbs
          have hcall := sblock_any (sth_all hE hZ l.sz (by omega)) hE (by omega) (Nat.le_refl _) hl3 g1 g2 hbP (H14.nth 0 rfl)
          rw [x1] at hcall
          refine ccase H14 0 rfl hR hcall ?_
          rintro q _ w9 hq hR ⟨rfl, B', S', hB', hp⟩
          have H15 := St.open_ (L := [scA X S' q.2.2 q.2.1, B']) (H14.upd 0 rfl hp)
          have H16 : St W (all (rawL kp pd cd ms)).own w9 ([sl 9 1 (.slice hh.p hh.np hh.c) hh.np (strs ps), B'] ++ (all (((cur ++ m0 :: todo).map rsA).eraseIdx pre.length) :: scA X S' q.2.2 q.2.1 :: Rk)) := by
            rw [hRk] at H15 ⊢
            exact H15.pick [2, 1, 3, 0, 4, 5, 6]
          have H17 := unfocus (St.shut H16) (by rw [List.length_map]; rw [List.length_map] at hlt2; exact hlt2)
          have H18 := St.open_ (L := scL X S' q.2.2 q.2.1) (St.swap H17)
          refine ⟨rfl, ?_⟩
          rintro z17 rfl
          rw [hw2]
          refine ⟨next (m' := ⟨.fn hh (q.2.2 : Int), ps, q.1, B'⟩) ?_ ⟨hnp, hB'⟩ ?_ ?_, hms'⟩
          · rw [hm0g]; rfl
          · have eg : (cur ++ (⟨.fn hh (q.2.2 : Int), ps, q.1, B'⟩ : Dm) :: todo).map Dm.g = X.gs q.2.2 := by
              rw [x6, List.map_append, List.map_cons, List.map_append, List.map_cons]
              have := set_mid (cur.map Dm.g) m0.g (.fn hh (q.2.2 : Int)) (todo.map Dm.g)
              rw [List.length_map, hcl] at this
              exact this.symm
            have er : (cur ++ (⟨.fn hh (q.2.2 : Int), ps, q.1, B'⟩ : Dm) :: todo).map rsA = ((cur ++ m0 :: todo).map rsA).set pre.length (all [sl 9 1 (.slice hh.p hh.np hh.c) hh.np (strs ps), B']) := by
              rw [List.map_append, List.map_cons, List.map_append, List.map_cons]
              have := set_mid (cur.map rsA) (rsA m0) (all [sl 9 1 (.slice hh.p hh.np hh.c) hh.np (strs ps), B']) (todo.map rsA)
              rw [List.length_map, hcl] at this
              exact this.symm
            unfold twoL
            rw [eg, er]
            unfold scL at H18
            rw [hRk, x3, x4] at H18
            exact H18.pick [6, 7, 3, 8, 4, 5]
          · rw [hR, hKK]; rfl
    · have hge := of_decide_eq_false hge
      have : todo = [] := List.eq_nil_of_length_eq_zero (by omega)
      subst this
      simp only [List.map_nil, crest, List.append_nil] at hR H6 hpre
      have hR : R0 = finF lk (cur.map Dm.d) := by
        rw [hR]; show finF lk (cur.map Dm.d ++ []) = _; rw [List.append_nil]
      rw [List.append_nil] at hG
      have hL := henv _ hG cMain
      refine ⟨_, H6.nth 2 rfl, _, rfl, ?_⟩
      unfold finF at hR
      cases hlm : lk cMain with
      | none =>
        rw [hlm] at hL hR
        rw [show mapOf (ns.map Dm.g) (ByteArray.mk #[109, 97, 105, 110]) = none from hL]
        exact tag_nil (fail_c H6 0 9 hR)
      | some g =>
        rw [hlm] at hL hR
        cases g with
        | var wd z =>
          obtain ⟨i, k, tt, nm, hI, -⟩ := hL
          rw [show mapOf (ns.map Dm.g) (ByteArray.mk #[109, 97, 105, 110]) = _ from hI]
          exact tag_ne (by decide) (fail_c H6 0 9 hR)
        | fn k np =>
          obtain ⟨i, hh, slv, hI, hGi, rfl, rfl⟩ := hL
          rw [show mapOf (ns.map Dm.g) (ByteArray.mk #[109, 97, 105, 110]) = _ from hI]
          refine tag_eq ⟨_, rfl, ?_⟩
          have hb : Blk w6 hh.k (fnC hh.t hh.nm (.slice hh.p hh.np hh.c) (pt hh.kb) slv hh.no).toArray 115 := hd_at (H6.nth 4 rfl) hGi
          refine ptr_some ⟨_, _, _, hb.cell' (i := 4) rfl, ?_⟩
          refine Sx.split_of (fun h9 => ?_) (fun h9 => ?_)
          · have h9 := of_decide_eq_true h9
            exact fail_c H6 0 9 (hR.trans (if_pos (by omega)))
          · have h9 := of_decide_eq_false h9
            refine H6.st 0 rfl (i := 1) (by simp) fun w7 H7 => ?_
            refine ansc_ok (x := (cur.map Dm.d, hh.k)) (hR.trans (if_neg (by omega))) ⟨rfl, cur, km, pf, cf, t, rfl, hG, hfit, ht, ?_⟩
            have H8 : St W (all (rawL kp pd cd ms)).own w7 (finL kp km pf cf pd cd (pt hh.k) (t : Int) ns cur ++ []) := by
              rw [List.append_nil]; exact H7
            exact (St.shut H8).post 0 rfl
end Go.Proofs.YtojogkljneonmaaGreatDoor
/- The lexer in memory: the first token of a text. No condition. -/
namespace Go.Lang
set_option linter.unusedVariables false
open Go

theorem ofL_get (l : List UInt8) (i : Nat) : (ofL l)[i]? = l[i]? := by
  by_cases h : i < l.length
  · rw [getElem?_pos (ofL l) i (by show i < (ofL l).size; rw [ofL_size]; exact h), List.getElem?_eq_getElem h]
    rfl
  · rw [getElem?_neg (ofL l) i (by show ¬ i < (ofL l).size; rw [ofL_size]; exact h), List.getElem?_eq_none (by omega)]
def letR (r : Nat) : Bool := r == 95 || (decide (97 ≤ r) && decide (r ≤ 122))
def digR (r : Nat) : Bool := decide (48 ≤ r) && decide (r ≤ 57)
theorem isL_nat (c : UInt8) : isL c = letR c.toNat := by
  unfold isL letR
  congr 1
  rw [Bool.eq_iff_iff, beq_iff_eq, beq_iff_eq]
  exact ⟨fun h => by rw [h]; rfl, fun h => UInt8.toNat_inj.1 h⟩
theorem isD_nat (c : UInt8) : isD c = digR c.toNat := rfl
theorem high_word {r : Nat} (h : 128 ≤ r) : (letR r || digR r) = false := by
  unfold letR digR
  rw [Bool.or_eq_false_iff, Bool.or_eq_false_iff, Bool.and_eq_false_iff, Bool.and_eq_false_iff]
  exact ⟨⟨beq_eq_false_iff_ne.2 (by omega), .inr (decide_eq_false (by omega))⟩, .inr (decide_eq_false (by omega))⟩
theorem size_list (s : ByteArray) : s.size = s.data.toList.length := rfl
/-- where the first rune stands of which p holds -/
theorem idx_eq (p : Nat → Bool) (q : UInt8 → Bool) (s : ByteArray) (H : ∀ i, (h : i < s.size) → ((s[i]'h).toNat < 128 ∧ q s[i] = !p (s[i]'h).toNat) ∨ (128 ≤ (s[i]'h).toNat ∧ q s[i] = false ∧ ∀ r, 128 ≤ r → p r = true)) :
    ∀ (f pos : Nat), s.size ≤ pos + f → Lib.idxFuncFrom p true s f pos = if (s.data.toList.drop pos).all q then -1 else ((pos + ((s.data.toList.drop pos).takeWhile q).length : Nat) : Int) := by
  intro f
  induction f with
  | zero =>
    intro pos h
    rw [List.drop_eq_nil_of_le (by rw [← size_list]; omega)]
    rfl
  | succ f ih =>
    intro pos h
    unfold Lib.idxFuncFrom
    by_cases hp : pos < s.size
    · rw [if_pos hp]
      have hd : s.data.toList.drop pos = s[pos] :: s.data.toList.drop (pos + 1) := List.drop_eq_getElem_cons (by rw [← size_list]; exact hp)
      rw [hd, List.all_cons, List.takeWhile_cons]
      rcases H pos hp with ⟨h1, h2⟩ | ⟨h1, h2, h3⟩
      · rw [decode_ascii s pos hp h1]
        show (if p (s[pos]'hp).toNat = true then (pos : Int) else Lib.idxFuncFrom p true s f (pos + 1)) = _
        rw [h2]
        cases p (s[pos]'hp).toNat with
        | true => simp
        | false =>
          rw [if_neg (by decide), ih (pos + 1) (by omega)]
          simp only [Bool.not_false, Bool.true_and, if_true, List.length_cons]
          rw [show pos + 1 + (List.takeWhile q (List.drop (pos + 1) s.data.toList)).length = pos + ((List.takeWhile q (List.drop (pos + 1) s.data.toList)).length + 1) by omega]
      · rw [if_pos (h3 _ (decode_high s pos hp h1).1), h2]
        simp
    · rw [if_neg hp, List.drop_eq_nil_of_le (by rw [← size_list]; omega)]
      rfl
theorem mem_byte {s : ByteArray} {c : UInt8} {i : Nat} (h : i < s.size) (e : s[i]'h = c) : c ∈ s.data.toList := by
  rw [← e]
  exact List.getElem_mem (l := s.data.toList) (by rw [← size_list]; exact h)
theorem all_takeWhile {α : Type} (p : α → Bool) : ∀ (l : List α), l.all p = true ↔ (l.takeWhile p).length = l.length
  | [] => by simp
  | a :: l => by
    rw [List.all_cons, List.takeWhile_cons]
    cases p a with
    | false => simp
    | true => simpa using all_takeWhile p l
/-- how long the word is -/
theorem idx_word (s : ByteArray) : Lib.idxFunc (fun r => !(letR r || digR r)) true s = if wordLen s.data.toList = s.data.toList.length then -1 else (wordLen s.data.toList : Int) := by
  unfold Lib.idxFunc
  rw [idx_eq (fun r => !(letR r || digR r)) (fun c => isL c || isD c) s (fun i h => by
    by_cases h2 : (s[i]'h).toNat < 128
    · exact .inl ⟨h2, by rw [isL_nat, isD_nat]; simp⟩
    · refine .inr ⟨by omega, ?_, fun r hr => by rw [high_word hr]; rfl⟩
      rw [isL_nat, isD_nat]
      exact high_word (by omega)) s.size 0 (by omega)]
  rw [List.drop_zero]
  unfold wordLen
  generalize s.data.toList = l
  have key := all_takeWhile (fun c => isL c || isD c) l
  by_cases h : (l.all fun c => isL c || isD c) = true
  · rw [if_pos h, if_pos (key.1 h)]
  · rw [if_neg h, if_neg (fun e => h (key.2 e))]
    simp
/-- whether a word of letters and digits has a letter -/
theorem idx_letter (s : ByteArray) (hs : ∀ c ∈ s.data.toList, (isL c || isD c) = true) : (0 ≤ Lib.idxFunc letR true s) ↔ s.data.toList.all isD = false := by
  unfold Lib.idxFunc
  have hlow : ∀ c ∈ s.data.toList, c.toNat < 128 := by
    intro c hc
    rcases Nat.lt_or_ge c.toNat 128 with h | h
    · exact h
    · have := hs c hc
      rw [isL_nat, isD_nat, high_word h] at this
      cases this
  rw [idx_eq letR (fun c => !isL c) s (fun i h => .inl ⟨hlow _ (mem_byte h rfl), by rw [isL_nat]⟩) s.size 0 (by omega)]
  rw [List.drop_zero]
  have e : s.data.toList.all (fun c => !isL c) = s.data.toList.all isD := by
    rw [Bool.eq_iff_iff, List.all_eq_true, List.all_eq_true]
    refine forall_congr' fun c => forall_congr' fun hc => ?_
    have h1 := hs c hc
    have h2 : ¬ (isL c = true ∧ isD c = true) := by
      rw [isL_nat, isD_nat]
      unfold letR digR
      intro ⟨a, b⟩
      rw [Bool.and_eq_true] at b
      have b1 := of_decide_eq_true b.1
      have b2 := of_decide_eq_true b.2
      rcases Bool.or_eq_true_iff.1 a with a | a
      · have := beq_iff_eq.1 a; omega
      · rw [Bool.and_eq_true] at a
        have := of_decide_eq_true a.1; omega
    cases hL : isL c <;> cases hD : isD c <;> simp_all
  rw [e]
  cases s.data.toList.all isD with
  | true => simp
  | false => simp
theorem indexByte_eq (l : List UInt8) (c : UInt8) : Lib.indexByte l c = if c ∈ l then (((l.takeWhile fun x => decide (x ≠ c)).length : Nat) : Int) else -1 := by
  induction l with
  | nil => rfl
  | cons b l ih =>
    unfold Lib.indexByte
    by_cases h : b = c
    · subst h; simp
    · rw [if_neg (by simpa using h), ih]
      have hm : c ∈ b :: l ↔ c ∈ l := by simp [Ne.symm h]
      by_cases h2 : c ∈ l
      · rw [if_pos h2, if_pos (hm.2 h2), List.takeWhile_cons_of_pos (by simpa using h), List.length_cons]
        rw [if_neg (by simp)]
        rfl
      · rw [if_neg h2, if_neg (fun e => h2 (hm.1 e))]
        rfl
end Go.Lang
