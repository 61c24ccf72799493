import Derived.Shelf.Small.Strs
import Derived.Shelf.Strconv.Itoa0
import Derived.Shelf.Strconv.Itoa1
import Derived.Shelf.LaysM
import Derived.Shelf.Strconv.Itoa2
import Derived.Shelf.Strconv.Itoa3
import Derived.Ground.MpProg
import Derived.Shelf.Pu.ParseUintPublic10
import Derived.Shelf.Strings.Search1
import Derived.Shelf.GgClosure.StringsIndexFunc
import Derived.Ground.GgwProg
import Derived.Shelf.GgClosure.StringsIndexFuncTop
import Derived.Shelf.GgClosure.StringsRunes
import Derived.Shelf.Strings.Prefix
import Derived.Shelf.Strings.FuncGrows
import Derived.Test.YtojogkljneonmaaGreatDoorProg
import Derived.Test.YtojogkljneonmaaGreatDoorLangVc
import Derived.Test.YtojogkljneonmaaGreatDoorBits
/-
  DERIVED: THE SHELF's CONTRACTS AT THIS DUMP, IN PLAIN WORDS (tools/lay-plain.mjs out of 'YtojogkljneonmaaGreatDoorShelf.lean', which tools/lay-shelf.mjs wrote): THE SAME DECLARATIONS UNDER THE SAME NAMES: 'import', 'namespace', 'open', 'def', 'theorem' AND NOTHING ELSE: no command of the shelf's: FOR A HAND-IN. Each laying: the table of numbers ('.._ren') and one theorem, a field a fact of the dump's own or the kernel's comparison; each contract: ONE APPLICATION.
-/
namespace Go.Proofs
open Go.Shelf
def Tryz.lays137_ren : Go.Shelf.Ren := ⟨fun | 137 => 47 | 217 => 83 | 266 => 106 | n => n, fun | 9 => 9 | 5 => 5 | 3 => 3 | n => n, fun | n => n⟩
theorem Tryz.lays137 : Go.Proofs.Lays.n137 Tryz.prog Tryz.lays137_ren := {
  mixed := by kernel_rfl
  f137 := Tryz.func47.trans (congrArg some (by kernel_rfl))
  f217 := Tryz.func83.trans (congrArg some (by kernel_rfl))
  f266 := Tryz.func106.trans (congrArg some (by kernel_rfl))
  t3 := Tryz.underlying3
  a3 := Tryz.isAgg3
  z3 := Tryz.sizeOf3
  v3 := Tryz.zeroValue3
  t5 := Tryz.underlying5
  a5 := Tryz.isAgg5
  z5 := Tryz.sizeOf5
  v5 := Tryz.zeroValue5
  t9 := Tryz.underlying9
  a9 := Tryz.isAgg9
  z9 := Tryz.sizeOf9
  v9 := Tryz.zeroValue9 }
open Go.RowKit in
/-- strings.IndexByte: "IndexByte returns the index of the first instance of c in s, or -1 if c is not present in s.": IT RETURNS 'Lib.indexByte s c'; the world is as it was. (LAID: no walk: one application.) -/
theorem Tryz.strings_IndexByte (s : ByteArray) (c : Int) (w : World) :
    Calls Tryz.prog 47 #[.string s, .int .u8 c] w fun e w' => e = .returned (.int .i64 (Lib.indexByte s.data.toList c.toNat.toUInt8)) ∧ w' = w := Any.strings_IndexByte Tryz.lays137 s c w
open Go.RowKit Go.Sort Go.Lib in
def Tryz.laysPu14_ren : Go.Shelf.Ren := ⟨fun | 14 => 92 | 16 => 108 | 17 => 109 | 19 => 122 | 20 => 123 | 21 => 124 | 22 => 125 | 23 => 126 | 24 => 127 | 25 => 139 | 27 => 141 | 26 => 140 | 28 => 170 | 29 => 176 | 30 => 177 | 31 => 178 | 32 => 179 | 33 => 180 | 35 => 182 | 34 => 181 | 36 => 183 | 37 => 184 | 38 => 185 | 39 => 186 | 40 => 187 | n => n, fun | 9 => 9 | 3 => 3 | 22 => 204 | 24 => 23 | 25 => 205 | 4 => 4 | 34 => 234 | 5 => 5 | 36 => 236 | 37 => 67 | 0 => 0 | 39 => 237 | 21 => 21 | 44 => 253 | 47 => 261 | 50 => 264 | 48 => 262 | 2 => 2 | 52 => 268 | 55 => 271 | 59 => 275 | 60 => 32 | 20 => 20 | 61 => 276 | 65 => 280 | 66 => 281 | 67 => 144 | n => n, fun | 0 => 2 | 1 => 3 | 2 => 4 | 3 => 5 | 4 => 6 | n => n⟩
theorem Tryz.laysPu14 : Go.Proofs.LaysPu.n14 Tryz.prog Tryz.laysPu14_ren := {
  mixed := by kernel_rfl
  f14 := Tryz.func92.trans (congrArg some (by kernel_rfl))
  f16 := Tryz.func108.trans (congrArg some (by kernel_rfl))
  f17 := Tryz.func109.trans (congrArg some (by kernel_rfl))
  f19 := Tryz.func122.trans (congrArg some (by kernel_rfl))
  f20 := Tryz.func123.trans (congrArg some (by kernel_rfl))
  f21 := Tryz.func124.trans (congrArg some (by kernel_rfl))
  f22 := Tryz.func125.trans (congrArg some (by kernel_rfl))
  f23 := Tryz.func126.trans (congrArg some (by kernel_rfl))
  f24 := Tryz.func127.trans (congrArg some (by kernel_rfl))
  f25 := Tryz.func139.trans (congrArg some (by kernel_rfl))
  f26 := Tryz.func140.trans (congrArg some (by kernel_rfl))
  f27 := Tryz.func141.trans (congrArg some (by kernel_rfl))
  f28 := Tryz.func170.trans (congrArg some (by kernel_rfl))
  f29 := Tryz.func176.trans (congrArg some (by kernel_rfl))
  f30 := Tryz.func177.trans (congrArg some (by kernel_rfl))
  f31 := Tryz.func178.trans (congrArg some (by kernel_rfl))
  f32 := Tryz.func179.trans (congrArg some (by kernel_rfl))
  f33 := Tryz.func180.trans (congrArg some (by kernel_rfl))
  f34 := Tryz.func181.trans (congrArg some (by kernel_rfl))
  f35 := Tryz.func182.trans (congrArg some (by kernel_rfl))
  f36 := Tryz.func183.trans (congrArg some (by kernel_rfl))
  f37 := Tryz.func184.trans (congrArg some (by kernel_rfl))
  f38 := Tryz.func185.trans (congrArg some (by kernel_rfl))
  f39 := Tryz.func186.trans (congrArg some (by kernel_rfl))
  f40 := Tryz.func187.trans (congrArg some (by kernel_rfl))
  t0 := Tryz.underlying0
  a0 := Tryz.isAgg0
  z0 := Tryz.sizeOf0
  v0 := Tryz.zeroValue0
  i0 := by kernel_rfl
  t2 := Tryz.underlying2
  a2 := Tryz.isAgg2
  z2 := Tryz.sizeOf2
  v2 := Tryz.zeroValue2
  i2 := by kernel_rfl
  t3 := Tryz.underlying3
  a3 := Tryz.isAgg3
  z3 := Tryz.sizeOf3
  v3 := Tryz.zeroValue3
  i3 := by kernel_rfl
  t4 := Tryz.underlying4
  a4 := Tryz.isAgg4
  z4 := Tryz.sizeOf4
  v4 := Tryz.zeroValue4
  i4 := by kernel_rfl
  t5 := Tryz.underlying5
  a5 := Tryz.isAgg5
  z5 := Tryz.sizeOf5
  v5 := Tryz.zeroValue5
  i5 := by kernel_rfl
  t9 := Tryz.underlying9
  a9 := Tryz.isAgg9
  z9 := Tryz.sizeOf9
  v9 := Tryz.zeroValue9
  i9 := by kernel_rfl
  t20 := Tryz.underlying20
  a20 := Tryz.isAgg20
  z20 := Tryz.sizeOf20
  v20 := Tryz.zeroValue20
  i20 := by kernel_rfl
  t21 := Tryz.underlying21
  a21 := Tryz.isAgg21
  z21 := Tryz.sizeOf21
  v21 := Tryz.zeroValue21
  i21 := by kernel_rfl
  t22 := Tryz.underlying204
  a22 := Tryz.isAgg204
  z22 := Tryz.sizeOf204
  v22 := Tryz.zeroValue204
  i22 := by kernel_rfl
  t24 := Tryz.underlying23
  a24 := Tryz.isAgg23
  z24 := Tryz.sizeOf23
  v24 := Tryz.zeroValue23
  i24 := by kernel_rfl
  t25 := Tryz.underlying205
  a25 := Tryz.isAgg205
  z25 := Tryz.sizeOf205
  v25 := Tryz.zeroValue205
  i25 := by kernel_rfl
  t34 := Tryz.underlying234
  a34 := Tryz.isAgg234
  z34 := Tryz.sizeOf234
  v34 := Tryz.zeroValue234
  i34 := by kernel_rfl
  c34 := by kernel_rfl
  t36 := Tryz.underlying236
  a36 := Tryz.isAgg236
  z36 := Tryz.sizeOf236
  v36 := Tryz.zeroValue236
  i36 := by kernel_rfl
  t37 := Tryz.underlying67
  a37 := Tryz.isAgg67
  z37 := Tryz.sizeOf67
  v37 := Tryz.zeroValue67
  i37 := by kernel_rfl
  t39 := Tryz.underlying237
  a39 := Tryz.isAgg237
  z39 := Tryz.sizeOf237
  v39 := Tryz.zeroValue237
  i39 := by kernel_rfl
  t44 := Tryz.underlying253
  a44 := Tryz.isAgg253
  z44 := Tryz.sizeOf253
  v44 := Tryz.zeroValue253
  i44 := by kernel_rfl
  t47 := Tryz.underlying261
  a47 := Tryz.isAgg261
  z47 := Tryz.sizeOf261
  v47 := Tryz.zeroValue261
  i47 := by kernel_rfl
  t48 := Tryz.underlying262
  a48 := Tryz.isAgg262
  z48 := Tryz.sizeOf262
  v48 := Tryz.zeroValue262
  i48 := by kernel_rfl
  t50 := Tryz.underlying264
  a50 := Tryz.isAgg264
  z50 := Tryz.sizeOf264
  v50 := Tryz.zeroValue264
  i50 := by kernel_rfl
  t52 := Tryz.underlying268
  a52 := Tryz.isAgg268
  z52 := Tryz.sizeOf268
  v52 := Tryz.zeroValue268
  i52 := by kernel_rfl
  t55 := Tryz.underlying271
  a55 := Tryz.isAgg271
  z55 := Tryz.sizeOf271
  v55 := Tryz.zeroValue271
  i55 := by kernel_rfl
  t59 := Tryz.underlying275
  a59 := Tryz.isAgg275
  z59 := Tryz.sizeOf275
  v59 := Tryz.zeroValue275
  i59 := by kernel_rfl
  t60 := Tryz.underlying32
  a60 := Tryz.isAgg32
  z60 := Tryz.sizeOf32
  v60 := Tryz.zeroValue32
  i60 := by kernel_rfl
  t61 := Tryz.underlying276
  a61 := Tryz.isAgg276
  z61 := Tryz.sizeOf276
  t65 := Tryz.underlying280
  a65 := Tryz.isAgg280
  z65 := Tryz.sizeOf280
  v65 := Tryz.zeroValue280
  i65 := by kernel_rfl
  t66 := Tryz.underlying281
  a66 := Tryz.isAgg281
  z66 := Tryz.sizeOf281
  v66 := Tryz.zeroValue281
  i66 := by kernel_rfl
  t67 := Tryz.underlying144
  a67 := Tryz.isAgg144
  z67 := Tryz.sizeOf144
  v67 := Tryz.zeroValue144
  i67 := by kernel_rfl
  g0 := by kernel_rfl
  m0 := by kernel_rfl
  g1 := by kernel_rfl
  m1 := by kernel_rfl
  g2 := by kernel_rfl
  m2 := by kernel_rfl
  g3 := by kernel_rfl
  m3 := by kernel_rfl
  g4 := by kernel_rfl
  m4 := by kernel_rfl }
open Go.RowKit in
/-- strconv.ParseUint(s, 10, 32), AT EVERY STRING THAT SPELLS A uint32 ('Lib.parseUintB 32 s.data.toList = .ok u'): u, AND NO ERROR. (LAID: no walk: one application.) -/
theorem Tryz.strconv_ParseUint_10_at32_ok (s : ByteArray) (hmax : s.size ≤ 9223372036854775806) (u : Nat) (h : Lib.parseUintB 32 s.data.toList = .ok u) (w : World) :
    Calls Tryz.prog 92 #[.string s, .int .i64 10, .int .i64 32] w fun e w' => e = .returned (.tuple #[.int .u64 u, .nilIface]) ∧ (w' = w ∨ w' = Lib.bytesWorld w 5 s) := Any.strconv_ParseUint_10_at32_ok Tryz.laysPu14 s hmax u h w
open Go.RowKit in
/-- strconv.ParseUint(s, 10, 32), AT EVERY NUMERAL THAT NO uint32 HOLDS: THE GREATEST uint32, AND AN ERROR THAT IS NOT nil: a *NumError in a new block N: {Func: "ParseUint", Num: s's bytes, Err: what the variable ErrRange holds}. Of what was there nothing has turned. (LAID: no walk: one application.) -/
theorem Tryz.strconv_ParseUint_10_at32_range (s : ByteArray) (hlim : s.size ≤ 281474976710656) (h : Lib.parseUintB 32 s.data.toList = .range) (ev : Value) (w : World) (hv : w.cell? ⟨3, 0, none⟩ = some ev) (hev : ev = .nilIface ∨ ∃ te pe, ev = .iface te pe) :
    Calls Tryz.prog 92 #[.string s, .int .i64 10, .int .i64 32] w fun e w' => ∃ N, e = .returned (.tuple #[.int .u64 4294967295, .iface 237 (.pointer (some ⟨N, 0, none⟩))]) ∧ w.heap.size ≤ N ∧ w'.heap[N]? = some (.cells #[.string ⟨#[80, 97, 114, 115, 101, 85, 105, 110, 116]⟩, .string s, ev] 253 (0, 0)) ∧ Below w.heap.size w w' := Any.strconv_ParseUint_10_at32_range Tryz.laysPu14 s hlim h ev w hv hev
open Go.RowKit Go.Lib in
def Tryz.laysGw15_ren : Go.Shelf.Ren := ⟨fun | 15 => 84 | 20 => 107 | n => n, fun | 9 => 9 | 23 => 201 | 3 => 3 | 4 => 4 | 0 => 0 | 21 => 21 | n => n, fun | n => n⟩
theorem Tryz.laysGw15 : Go.Proofs.LaysGw.n15 Tryz.prog Tryz.laysGw15_ren := {
  mixed := by kernel_rfl
  f15 := Tryz.func84.trans (congrArg some (by kernel_rfl))
  f20 := Tryz.func107.trans (congrArg some (by kernel_rfl))
  t0 := Tryz.underlying0
  a0 := Tryz.isAgg0
  z0 := Tryz.sizeOf0
  v0 := Tryz.zeroValue0
  i0 := by kernel_rfl
  t3 := Tryz.underlying3
  a3 := Tryz.isAgg3
  z3 := Tryz.sizeOf3
  v3 := Tryz.zeroValue3
  i3 := by kernel_rfl
  t4 := Tryz.underlying4
  a4 := Tryz.isAgg4
  z4 := Tryz.sizeOf4
  v4 := Tryz.zeroValue4
  i4 := by kernel_rfl
  t9 := Tryz.underlying9
  a9 := Tryz.isAgg9
  z9 := Tryz.sizeOf9
  v9 := Tryz.zeroValue9
  i9 := by kernel_rfl
  t21 := Tryz.underlying21
  a21 := Tryz.isAgg21
  z21 := Tryz.sizeOf21
  v21 := Tryz.zeroValue21
  i21 := by kernel_rfl
  t23 := Tryz.underlying201
  a23 := Tryz.isAgg201
  z23 := Tryz.sizeOf201
  v23 := Tryz.zeroValue201
  i23 := by kernel_rfl }
open Go.RowKit Go.Lib in
theorem Tryz.strings_IndexFunc (g : Nat) (lb : Array Value) (eg : ∀ args w, (callFunc g args).run Tryz.prog w = .ok (.enter g args) w) (p : Nat → Bool) (s : ByteArray) (w : World) (hp : PredAt Tryz.prog g lb encR p w) :
    Calls Tryz.prog 84 #[.string s, .func (.func g) #[] lb] w fun e w' => e = .returned (.int .i64 (Lib.idxFunc p true s)) ∧ Below w.heap.size w w' := Any.strings_IndexFunc Tryz.laysGw15 g lb eg p s w hp
open Go.RowKit Go.Lib in
def Tryz.lays99_ren : Go.Shelf.Ren := ⟨fun | 99 => 46 | 206 => 82 | n => n, fun | 9 => 9 | 4 => 4 | 3 => 3 | n => n, fun | n => n⟩
theorem Tryz.lays99 : Go.Proofs.Lays.n99 Tryz.prog Tryz.lays99_ren := {
  mixed := by kernel_rfl
  f99 := Tryz.func46.trans (congrArg some (by kernel_rfl))
  f206 := Tryz.func82.trans (congrArg some (by kernel_rfl))
  t3 := Tryz.underlying3
  a3 := Tryz.isAgg3
  z3 := Tryz.sizeOf3
  v3 := Tryz.zeroValue3
  t4 := Tryz.underlying4
  a4 := Tryz.isAgg4
  z4 := Tryz.sizeOf4
  v4 := Tryz.zeroValue4
  t9 := Tryz.underlying9
  a9 := Tryz.isAgg9
  z9 := Tryz.sizeOf9
  v9 := Tryz.zeroValue9 }
open Go.RowKit Go.Lib in
/-- strings.HasPrefix: "HasPrefix reports whether the string s begins with prefix.": IT RETURNS 'Lib.hasPrefix s prefix'; the world is as it was. (LAID: no walk: one application.) -/
theorem Tryz.strings_HasPrefix (s p : ByteArray) (w : World) :
    Calls Tryz.prog 46 #[.string s, .string p] w fun e w' => e = .returned (.bool (Lib.hasPrefix s.data.toList p.data.toList)) ∧ w' = w := Any.strings_HasPrefix Tryz.lays99 s p w
end Go.Proofs
/- The parser in memory: its tokens; the small functions that look at them. No condition. -/
namespace Go.Proofs.YtojogkljneonmaaGreatDoor
open Go Go.Proofs Go.Sep Go.XHeap Go.RowKit Go.Lang
set_option linter.unusedVariables false
set_option linter.unusedSimpArgs false

def tkL (t : Tok) : List Value := [.int .u8 (t.k : Nat), .string t.s, .int .i64 t.line]
def tkV (t : Tok) : Value := .agg (tkL t).toArray
theorem tkL_len (t : Tok) : (tkL t).length = 3 := rfl
theorem tkL_one (t : Tok) : ∀ v ∈ (tkL t), v.oneCell' = true := by
  intro v hv
  simp only [tkL, List.mem_cons, List.not_mem_nil, or_false] at hv
  rcases hv with rfl | rfl | rfl <;> rfl
/-- a slice of structs, its first element left out -/
theorem Sl.tailN {w : World} {e size n g off cap : Nat} {x xs : List Value} (hx : x.length = size) (hs : 0 < size) (h : Sl w e size (.slice (some ⟨g, off, none⟩) (n + 1) cap) (n + 1) (x ++ xs)) : Sl w e size (.slice (Sx.sub (some ⟨g, off, none⟩) cap 1 size) n (cap - 1)) n xs := by
  obtain ⟨hl, h⟩ := h
  rw [List.length_append, hx, Nat.add_mul, Nat.one_mul] at hl
  refine ⟨by omega, ?_⟩
  rcases h with ⟨h, -⟩ | ⟨g', off', cap', cur, hv, hb, h1, h2, h3, h4⟩
  · simp at h
  · simp at hv
    obtain ⟨⟨rfl, rfl⟩, rfl⟩ := hv
    have key : (List.drop (off + size) cur.toList).take (n * size) = xs := by
      rw [Nat.add_mul, Nat.one_mul, Nat.add_comm (n * size)] at h4
      have := congrArg (List.drop size) h4
      rw [List.drop_take, List.drop_drop] at this
      rw [show size + n * size - size = n * size by omega] at this
      rw [this, ← hx]; simp
    have hc : (cap - 1) * size = cap * size - size := by rw [Nat.sub_mul, Nat.one_mul]
    have hcs : size ≤ cap * size := Nat.le_mul_of_pos_left _ (by omega)
    unfold Sx.sub
    split
    · rename_i e
      subst e
      have : n = 0 := by omega
      subst this
      refine .inr ⟨g, off, 0, cur, rfl, hb, by omega, by omega, by omega, ?_⟩
      simp at hl; subst hl; simp
    · refine .inr ⟨g, off + size, cap - 1, cur, by simp [Addr.add, Nat.one_mul]; omega, hb, by omega, by omega, by omega, key⟩
/-- a number's text is a number; there is an end -/
def TokOk (t : Tok) : Prop := t.k = 2 → t.s.data.toList ≠ [] ∧ t.s.data.toList.all isD = true
def Good (l : List Tok) : Prop := (∃ l0 t, l = l0 ++ [t] ∧ t.k = 0) ∧ (∀ t ∈ l, TokOk t) ∧ (∀ t ∈ l, t.s.size ≤ 8000) ∧ l.length ≤ 8001
theorem Good.cons {l : List Tok} (h : Good l) : ∃ t l', l = t :: l' := by
  obtain ⟨⟨l0, t, rfl, -⟩, -⟩ := h
  cases l0 with
  | nil => exact ⟨t, [], rfl⟩
  | cons a l0 => exact ⟨a, _, rfl⟩
theorem Good.tail {t : Tok} {l : List Tok} (h : Good (t :: l)) (hk : t.k ≠ 0) : Good l := by
  obtain ⟨⟨l0, u, e, hu⟩, h2, h3, h4⟩ := h
  refine ⟨?_, fun x hx => h2 x (List.mem_cons_of_mem _ hx), fun x hx => h3 x (List.mem_cons_of_mem _ hx), by simp at h4; omega⟩
  cases l0 with
  | nil => simp at e; rw [e.1] at hk; exact absurd hu hk
  | cons a l0 => simp at e; exact ⟨l0, u, e.2, hu⟩
/-- a global that holds an error -/
def globA [Inhabited G3o] : Asn where
  own k := k = 3
  at_ w := (∃ t v, w.cell? ⟨3, 0, none⟩ = some (.iface t v)) ∧ w.heap[3]? = some (default : G3o).o
  keep := by
    rintro T w w' ⟨⟨t, v, h⟩, h2⟩ ht hn
    have hlt := World.block_lt_of_cell? _ _ h
    exact ⟨⟨t, v, (ht.cell (p := ⟨3, 0, none⟩) hlt (hn 3 rfl)).trans h⟩, (ht.block 3 hlt (hn 3 rfl)).trans h2⟩
  lt := by
    rintro w ⟨⟨t, v, h⟩, -⟩ k rfl
    exact World.block_lt_of_cell? _ _ h
def tokP (g off c : Nat) (l : List Tok) : Value := .slice (some ⟨g, off, none⟩) l.length c
def parL [Inhabited G3o] (b g off c : Nat) (l : List Tok) (n : Nat) : List Asn := [blk b #[tokP g off c l, .int .i64 (n : Nat)] 84, sl 87 3 (tokP g off c l) l.length (l.flatMap tkL), globA]
/-- the parser in block b, its tokens in block g: those that are left; how deep it is -/
def parA [Inhabited G3o] (b g : Nat) (l : List Tok) (n : Nat) : Asn where
  own k := k = b ∨ k = g ∨ k = 3
  at_ w := (Good l ∧ n ≤ 25) ∧ ∃ off c, here (parL b g off c l n) w
  keep := by
    rintro T w w' ⟨h0, off, c, h⟩ ht hn
    refine ⟨h0, off, c, h.keep ht ?_⟩
    rintro k (e | e | e | e)
    · exact hn k (.inl e)
    · have : some g = some k := e
      cases this; exact hn g (.inr (.inl rfl))
    · exact hn k (.inr (.inr e))
    · exact e.elim
  lt := by
    rintro w ⟨h0, off, c, h⟩ k hk
    refine h.lt k ?_
    rcases hk with e | e | e
    · exact .inl e
    · subst e; exact .inr (.inl rfl)
    · exact .inr (.inr (.inl e))
variable {W : World} {b g n : Nat} {l : List Tok}
theorem par_open [Inhabited G3o] {w0 w : World} {M : Nat → Prop} {L : List Asn} (H : St w0 M w (parA b g l n :: L)) : Good l ∧ n ≤ 25 ∧ ∃ off c, St w0 M w (parL b g off c l n ++ L) := by
  obtain ⟨h0, off, c, h⟩ := H.nth 0 rfl
  refine ⟨h0.1, h0.2, off, c, H.unfold_ (fun _ => h) ?_⟩
  rintro q (e | e | e | e)
  · exact .inl e
  · have : some g = some q := e
    cases this; exact .inr (.inl rfl)
  · exact .inr (.inr e)
  · exact e.elim
theorem par_shut [Inhabited G3o] {w0 w : World} {M : Nat → Prop} {L : List Asn} {off c : Nat} (hG : Good l) (hn : n ≤ 25) (H : St w0 M w (parL b g off c l n ++ L)) : St w0 M w (parA b g l n :: L) := by
  refine H.fold (Ls := parL b g off c l n) (fun h => ⟨⟨hG, hn⟩, off, c, h⟩) ?_
  rintro q (e | e | e)
  · exact .inl e
  · subst e; exact .inr (.inl rfl)
  · exact .inr (.inr (.inl e))
theorem par_good [Inhabited G3o] (h : (parA b g l n).at_ W) : Good l ∧ n ≤ 25 := h.1
theorem par_now [Inhabited G3o] (h : (parA b g l n).at_ W) : ∃ l', l = now l :: l' := by
  obtain ⟨t, l', rfl⟩ := h.1.1.cons
  exact ⟨l', rfl⟩
theorem tok_first [Inhabited G3o] {t : Tok} {l : List Tok} {off c : Nat} (h : Sl W 87 3 (tokP g off c (t :: l)) (t :: l).length ((t :: l).flatMap tkL)) : Sx.cellsAt W ⟨g, off + 0, none⟩ (tkL t).toArray := by
  rcases h.2 with ⟨h, -⟩ | ⟨g', off', cap, cur, hv, hb, q1, q2, q3, q4⟩
  · simp [tokP] at h
  · simp [tokP] at hv
    obtain ⟨⟨rfl, rfl⟩, rfl⟩ := hv
    refine Sx.cellsAt_of_blk (o := off + 0) hb _ fun i v hi => ?_
    have hi3 : i < 3 := by
      have := (Array.getElem?_eq_some_iff.1 hi).1
      simpa [tkL] using this
    rw [← Array.getElem?_toList]
    have h5 := congrArg (·[i]?) q4
    simp only [List.flatMap_cons] at h5
    rw [List.getElem?_take_of_lt (by simp; omega), List.getElem?_drop, List.getElem?_append_left (by rw [tkL_len]; exact hi3)] at h5
    rw [Nat.add_zero, h5]
    simpa using hi
theorem hush_keep {A : Asn} {w w' : World} (h : A.at_ w) (hh : Hush w w') : A.at_ w' := A.keep h hh (fun _ _ e => e)
theorem hush_trans {a b c : World} (h : Hush a b) (h' : Hush b c) : Hush a c := XTouch.trans h h' (fun _ _ e => e)
theorem now_any [Inhabited G3o] (h : (parA b g l n).at_ W) : Calls Tryz.prog 25 #[.pointer (some ⟨b, 0, none⟩)] W fun e w' => e = .returned (tkV (now l)) ∧ Hush W w' := by
  refine vc25 b 0 ?_
  refine (St.nil W).al fun k w2 H2 => ?_
  obtain ⟨-, -, off, c, h2⟩ := par_open (St.begin (hush_keep h H2.touch))
  obtain ⟨l', hl⟩ := par_now h
  rw [hl] at h2
  refine ⟨_, _, _, h2.ld 0 rfl (i := 0) (v := tokP g off c (now l :: l')) rfl, ⟨by omega, by simp⟩, ?_⟩
  refine adr_some ?_
  refine ⟨_, rfl, tok_first (h2.nth 1 rfl), ?_⟩
  refine H2.sts0 0 (n := 3) (vs := (tkL (now l)).toArray) rfl rfl rfl (by simpa using tkL_one _) fun w3 H3 => ?_
  refine ⟨_, rfl, H3.cells 0 rfl, rfl, H3.touch⟩
theorem next_any [Inhabited G3o] (h : (parA b g l n).at_ W) (hk : (now l).k ≠ 0) : Calls Tryz.prog 90 #[.pointer (some ⟨b, 0, none⟩)] W fun e w' => e = .returned (tkV (now l)) ∧ Post (parA b g l n) W (parA b g l.tail n) w' := by
  obtain ⟨l', hl⟩ := par_now h
  generalize ht : now l = t at *
  subst hl
  refine vc90 b 0 ?_
  refine (St.begin h).al fun k w2 H2 => ?_
  obtain ⟨hG, hn, off, c, H2⟩ := par_open H2
  refine ⟨_, _, _, H2.ld 0 rfl (i := 0) (v := tokP g off c (t :: l')) rfl, ⟨by omega, by simp⟩, ?_⟩
  refine adr_some ?_
  refine ⟨_, rfl, tok_first (H2.nth 1 rfl), ?_⟩
  refine H2.al fun k2 w3 H3 => ?_
  refine H3.sts0 4 (n := 3) (vs := (tkL t).toArray) rfl rfl rfl (by simpa using tkL_one t) fun w4 H4 => ?_
  refine ⟨_, _, _, H4.ld 0 rfl (i := 0) (v := tokP g off c (t :: l')) rfl, ⟨by omega, by simp; omega⟩, ?_⟩
  refine H4.st 0 rfl (by simp) fun w5 H5 => ?_
  refine ⟨_, rfl, H5.cells 4 rfl, ?_⟩
  refine H5.sts0 3 (n := 3) (vs := (tkL t).toArray) rfl rfl rfl (by simpa using tkL_one t) fun w6 H6 => ?_
  refine ⟨_, rfl, H6.cells 3 rfl, rfl, ?_⟩
  have H7 := (H6.take 3).conv 1 (A' := sl 87 3 (.slice (Sx.sub (some ⟨g, off, none⟩) c 1 3) l'.length (c - 1)) l'.length (l'.flatMap tkL)) rfl (fun h => Sl.tailN (tkL_len t) (by omega) h) (by
    intro q hq
    show some g = some q
    unfold Sx.sub at hq
    split at hq <;> exact hq)
  have hex : ∃ o, Sx.sub (some ⟨g, off, none⟩) c 1 3 = some ⟨g, o, none⟩ := by
    unfold Sx.sub
    split
    · exact ⟨_, rfl⟩
    · exact ⟨off + 3, rfl⟩
  obtain ⟨o, ho⟩ := hex
  simp only [ho] at H7
  have H8 : St W (parA b g (t :: l') n).own w6 (parL b g o (c - 1) l' n ++ []) := H7
  exact (par_shut (hG.tail hk) hn H8).post 0 rfl
/-! ### answers -/
def fltA (b : Nat) (line e : Int) : Asn := blk b #[.int .i64 line, .int .i64 e] 79
def pan (b : Nat) : List PanicEntry := [{ v := .iface 77 (.pointer (some ⟨b, 0, none⟩)), recovered := false }]
/-- it panics with the fault; what else is still there -/
def Err (R A : Asn) (w : World) (line en : Int) (e : Ending) (w' : World) : Prop := ∃ b, e = .panicked (pan b) ∧ Post A w (all [fltA b line en, R]) w'
/-- what a function that may fail leaves: it returns, or panics with the fault -/
def Ans {α : Type} (R A : Asn) (w : World) (r : Lang.R α) (K : α → List Tok → Ending → World → Prop) (e : Ending) (w' : World) : Prop := match r with
  | .ok x l => K x l e w'
  | .err line en => Err R A w line en e w'
  | .out => True
section
variable {P : Program} {f : FuncId} {args : Array Value} {w0 w : World} {M : Nat → Prop} {R A A0 : Asn} {L : List Asn} {α β : Type} {K : α → List Tok → Ending → World → Prop} {line en : Int} {x : α} {l : List Tok} {G : Ending → World → Prop} {Z : List PanicEntry → World → Prop}
theorem set_same {k : Nat} (B : Asn) (hk : L[k]? = some A) : (L.set k B)[k]? = some B := by
  rw [List.getElem?_set_self (by
    rcases Nat.lt_or_ge k L.length with h | h
    · exact h
    · rw [List.getElem?_eq_none h] at hk; cases hk)]
theorem perr [Inhabited G3o] (H : St w0 A0.own w L) (k : Nat) (hk : L[k]? = some A) (hc : Calls P f args w (Err R A w line en)) : Calls P f args w (fun e w' => G e w' ∨ ∃ c : List PanicEntry, e = .panicked c ∧ Err R A0 w0 line en (.panicked c) w') :=
  hc.mono fun e w' ⟨b, he, hp⟩ => .inr ⟨_, he, b, rfl, (H.upd k hk hp).post k (set_same _ hk)⟩
theorem perr' [Inhabited G3o] (H : St w0 A0.own w L) (k : Nat) (hk : L[k]? = some A) (hc : Calls P f args w (Err R A w line en)) : Calls P f args w (fun e w' => ∃ c : List PanicEntry, e = .panicked c ∧ Err R A0 w0 line en (.panicked c) w') :=
  hc.mono fun e w' ⟨b, he, hp⟩ => ⟨_, he, b, rfl, (H.upd k hk hp).post k (set_same _ hk)⟩
end
/-- of a parser, behind a panic: its block -/
def parW [Inhabited G3o] (b : Nat) : Asn where
  own k := k = b ∨ k = 3
  at_ w := ∃ v z, here [blk b #[v, .int .i64 z] 84, globA] w
  keep := by
    rintro T w w' ⟨v, z, h⟩ ht hn
    refine ⟨v, z, h.keep ht ?_⟩
    rintro k (e | e | e)
    · exact hn k (.inl e)
    · exact hn k (.inr e)
    · exact e.elim
  lt := by
    rintro w ⟨v, z, h⟩ k (e | e)
    · exact h.lt k (.inl e)
    · exact h.lt k (.inr (.inl e))
theorem parW_open [Inhabited G3o] {w0 w : World} {M : Nat → Prop} {L : List Asn} {b : Nat} (H : St w0 M w (parW b :: L)) : ∃ v z, St w0 M w ([blk b #[v, .int .i64 z] 84, globA] ++ L) := by
  obtain ⟨v, z, h⟩ := H.nth 0 rfl
  refine ⟨v, z, H.unfold_ (fun _ => h) ?_⟩
  rintro q (e | e | e)
  · exact .inl e
  · exact .inr e
  · exact e.elim
theorem parW_shut [Inhabited G3o] {w0 w : World} {M : Nat → Prop} {L : List Asn} {b : Nat} {v : Value} {z : Int} (H : St w0 M w ([blk b #[v, .int .i64 z] 84, globA] ++ L)) : St w0 M w (parW b :: L) := by
  refine H.fold (Ls := [blk b #[v, .int .i64 z] 84, globA]) (fun h => ⟨v, z, h⟩) ?_
  rintro q (e | e)
  · exact .inl e
  · exact .inr (.inl e)
theorem par_weak [Inhabited G3o] {w0 w : World} {M : Nat → Prop} {L : List Asn} (H : St w0 M w (parA b g l n :: L)) : St w0 M w (parW b :: L) :=
  H.conv 0 rfl (fun ⟨_, off, c, h⟩ => ⟨_, _, St.here_sel h [0, 2] (by decide)⟩) (fun q hq => by
    rcases hq with e | e
    · exact .inl e
    · exact .inr (.inr e))
theorem fail_any (line e : Int) : Calls Tryz.prog 52 #[.int .i64 line, .int .i64 e] W fun en w' => ∃ b, en = .panicked (pan b) ∧ Post emp W (fltA b line e) w' := by
  refine vc52 line e ?_
  rintro _ rfl
  refine (St.nil W).al fun k w2 H2 => ?_
  exact ⟨k, rfl, H2.new 0 rfl⟩
/-- .. in the parser -/
theorem fail_in [Inhabited G3o] (hA : (parA b g l n).at_ W) (line e : Int) : Calls Tryz.prog 52 #[.int .i64 line, .int .i64 e] W (Err (parW b) (parA b g l n) W line e) := by
  refine (fail_any line e).mono ?_
  rintro en w' ⟨q, rfl, hp⟩
  have H := (par_weak (L := [_]) ((St.begin hA).add hp)).pick [1, 0]
  exact ⟨q, rfl, St.post (St.shut (L := [_, _]) (L' := []) H) 0 rfl⟩
theorem pfail_any [Inhabited G3o] (e : Int) (h : (parA b g l n).at_ W) : Calls Tryz.prog 91 #[.pointer (some ⟨b, 0, none⟩), .int .i64 e] W (Err (parW b) (parA b g l n) W (now l).line e) := by
  refine vc91 b 0 e ?_
  refine (St.begin h).callq (now_any h) fun w2 H2 => ?_
  refine ⟨_, rfl, _, rfl, ?_⟩
  exact perr' H2 0 rfl (fail_in (H2.nth 0 rfl) (now l).line e)
theorem toList_eq (s t : ByteArray) : (ByteArray.toList s == ByteArray.toList t) = decide (s = t) := by
  rw [← beq_toListBytes]
  by_cases h : s = t
  · rw [decide_eq_true h]; exact (MapKept.bytes_beq s t).2 h
  · rw [decide_eq_false h]
    exact Bool.eq_false_iff.2 fun e => h ((MapKept.bytes_beq s t).1 e)
theorem is_any [Inhabited G3o] (s : ByteArray) (h : (parA b g l n).at_ W) : Calls Tryz.prog 89 #[.pointer (some ⟨b, 0, none⟩), .string s] W fun e w' => e = .returned (.bool (is s l)) ∧ Hush W w' := by
  refine vc89 b 0 s ?_
  refine (now_any h).mono ?_
  rintro _ w2 ⟨rfl, h2⟩
  refine ⟨_, rfl, _, rfl, ?_⟩
  refine Sx.split_of (fun h3 => ?_) (fun h3 => ?_)
  · have hk : (now l).k = 3 := by have := beq_iff_eq.1 h3; omega
    refine (now_any (hush_keep h h2)).mono ?_
    rintro _ w3 ⟨rfl, h4⟩
    refine ⟨_, rfl, _, rfl, ?_, hush_trans h2 h4⟩
    rw [toList_eq]
    simp [Go.Lang.is, hk]
  · have hk : ¬ (now l).k = 3 := fun e => by rw [e] at h3; cases h3
    exact ⟨by simp [Go.Lang.is, hk], h2⟩
theorem is_mark {s : ByteArray} (h : is s l = true) : (now l).k ≠ 0 := by
  unfold is at h
  rw [Bool.and_eq_true] at h
  have := of_decide_eq_true h.1
  omega
theorem take_any [Inhabited G3o] (s : ByteArray) (h : (parA b g l n).at_ W) : Calls Tryz.prog 49 #[.pointer (some ⟨b, 0, none⟩), .string s] W fun e w' => e = .returned (.bool (is s l)) ∧ Post (parA b g l n) W (parA b g (if is s l then l.tail else l) n) w' := by
  refine vc49 b 0 s ?_
  refine (St.begin h).callq (is_any s h) fun w2 H2 => ?_
  refine ⟨_, rfl, ?_⟩
  refine Sx.split_of (fun h3 => ?_) (fun h3 => ?_)
  · have h3 : is s l = false := by simpa using h3
    rw [h3]
    exact ⟨rfl, H2.post 0 rfl⟩
  · have h3 : is s l = true := by simpa using h3
    rw [h3]
    refine H2.call 0 rfl (next_any (H2.nth 0 rfl) (is_mark h3)) fun w3 H3 => ?_
    exact ⟨_, rfl, rfl, H3.post 0 rfl⟩
theorem want_any [Inhabited G3o] (s : ByteArray) (h : (parA b g l n).at_ W) : Calls Tryz.prog 53 #[.pointer (some ⟨b, 0, none⟩), .string s] W (Ans (parW b) (parA b g l n) W (want s l fun l => .ok () l) fun _ l' e w' => e = .returned (.tuple #[]) ∧ Post (parA b g l n) W (parA b g l' n) w') := by
  refine vc53 b 0 s ?_
  refine (St.begin h).call 0 rfl (take_any s h) fun w2 H2 => ?_
  refine ⟨_, rfl, ?_⟩
  unfold want
  cases hi : is s l with
  | false =>
    rw [hi] at H2
    exact perr' H2 0 rfl (pfail_any 8 (H2.nth 0 rfl))
  | true =>
    rw [hi] at H2
    exact ⟨rfl, H2.post 0 rfl⟩
theorem name_any [Inhabited G3o] (h : (parA b g l n).at_ W) : Calls Tryz.prog 50 #[.pointer (some ⟨b, 0, none⟩)] W (Ans (parW b) (parA b g l n) W (name l fun t l => .ok t l) fun t l' e w' => e = .returned (tkV t) ∧ Post (parA b g l n) W (parA b g l' n) w') := by
  refine vc50 b 0 ?_
  refine (St.begin h).al fun k w2 H2 => ?_
  refine H2.callq (now_any (H2.nth 0 rfl)) fun w3 H3 => ?_
  refine ⟨_, rfl, _, rfl, ?_⟩
  unfold name
  refine Sx.split_of (fun h3 => ?_) (fun h3 => ?_)
  · have hk : (now l).k ≠ 1 := fun e => by rw [e] at h3; cases h3
    rw [if_pos hk]
    exact perr' H3 0 rfl (pfail_any 8 (H3.nth 0 rfl))
  · have hk1 : (now l).k = 1 := by rw [bne_eq_false_iff_eq] at h3; omega
    rw [if_neg (fun h => h hk1)]
    refine H3.callq (now_any (H3.nth 0 rfl)) fun w4 H4 => ?_
    refine ⟨_, rfl, _, rfl, ?_⟩
    refine Sx.split_of (fun h4 => ?_) (fun h4 => ?_)
    · have h4 := of_decide_eq_true h4
      rw [if_pos (show 16 < (now l).s.size by omega)]
      exact perr' H4 0 rfl (pfail_any 3 (H4.nth 0 rfl))
    · have h4 := of_decide_eq_false h4
      rw [if_neg (show ¬ 16 < (now l).s.size by omega)]
      refine H4.call 0 rfl (next_any (H4.nth 0 rfl) (by omega)) fun w5 H5 => ?_
      refine ⟨_, rfl, ?_⟩
      refine H5.sts0 1 (n := 3) (vs := (tkL (now l)).toArray) rfl rfl rfl (by simpa using tkL_one _) fun w6 H6 => ?_
      exact ⟨_, rfl, H6.cells 1 rfl, rfl, H6.post 0 rfl⟩
theorem want_yes [Inhabited G3o] {s : ByteArray} (h : (parA b g l n).at_ W) (hi : is s l = true) : Calls Tryz.prog 53 #[.pointer (some ⟨b, 0, none⟩), .string s] W fun e w' => e = .returned (.tuple #[]) ∧ Post (parA b g l n) W (parA b g l.tail n) w' := by
  have := want_any s h
  unfold want at this
  rw [hi] at this
  exact this
theorem want_no [Inhabited G3o] {s : ByteArray} (h : (parA b g l n).at_ W) (hi : is s l = false) : Calls Tryz.prog 53 #[.pointer (some ⟨b, 0, none⟩), .string s] W (Err (parW b) (parA b g l n) W (now l).line 8) := by
  have := want_any s h
  unfold want at this
  rw [hi] at this
  exact this
/-! ### numbers -/
theorem parseM : ∀ (l : List UInt8) (acc : Nat), l.all isD = true → acc ≤ 4294967295 → Lib.parseUintM 4294967295 acc l = (if l.foldl (fun n c => 10 * n + (c.toNat - 48)) acc ≤ 4294967295 then .ok (l.foldl (fun n c => 10 * n + (c.toNat - 48)) acc) else .range)
  | [], acc, _, ha => by simp [Lib.parseUintM, ha]
  | c :: r, acc, h, ha => by
    rw [List.all_cons, Bool.and_eq_true] at h
    have hd : 48 ≤ c.toNat ∧ c.toNat ≤ 57 := by
      have := h.1
      unfold isD at this
      rw [Bool.and_eq_true] at this
      have h1 := of_decide_eq_true this.1
      have h2 := of_decide_eq_true this.2
      exact ⟨h1, h2⟩
    unfold Lib.parseUintM
    rw [if_pos hd, if_neg (by omega)]
    have mono : ∀ (l : List UInt8) (a : Nat), a ≤ l.foldl (fun n c => 10 * n + (c.toNat - 48)) a := by
      intro l
      induction l with
      | nil => intro a; exact Nat.le_refl _
      | cons x l ih => intro a; exact Nat.le_trans (show a ≤ 10 * a + (x.toNat - 48) by omega) (ih _)
    rw [List.foldl_cons, Nat.mul_comm acc 10]
    by_cases h2 : 4294967295 < 10 * acc + (c.toNat - 48)
    · rw [if_pos h2, if_neg (by have := mono r (10 * acc + (c.toNat - 48)); omega)]
    · rw [if_neg h2]
      exact parseM r _ h.2 (by omega)
theorem parseB [Inhabited G3o] {s : ByteArray} (h0 : s.data.toList ≠ []) (h : s.data.toList.all isD = true) : Lib.parseUintB 32 s.data.toList = if Go.Lang.valOf s ≤ 4294967295 then .ok (Go.Lang.valOf s) else .range := by
  unfold Lib.parseUintB
  rw [if_neg h0]
  exact parseM _ 0 h (by omega)
theorem bytesWorld_hush (w : World) (t : TypeId) (s : ByteArray) : Hush w (Lib.bytesWorld w t s) :=
  ⟨rfl, rfl, rfl, by rw [Lib.bytesWorld_size]; omega, fun k hk _ => Lib.bytesWorld_at_old w t s k hk⟩
theorem number_any [Inhabited G3o] (h : (parA b g l n).at_ W) : Calls Tryz.prog 51 #[.pointer (some ⟨b, 0, none⟩)] W (Ans (parW b) (parA b g l n) W (number l fun v l => .ok v l) fun v l' e w' => e = .returned (.int .u32 v) ∧ Post (parA b g l n) W (parA b g l' n) w') := by
  refine vc51 b 0 ?_
  refine (St.begin h).callq (now_any h) fun w3 H3 => ?_
  refine ⟨_, rfl, _, rfl, ?_⟩
  unfold number
  refine Sx.split_of (fun h3 => ?_) (fun h3 => ?_)
  · have hk : (now l).k ≠ 2 := fun e => by rw [e] at h3; cases h3
    rw [if_pos hk]
    exact perr' H3 0 rfl (pfail_any 8 (H3.nth 0 rfl))
  · have hk1 : (now l).k = 2 := by rw [bne_eq_false_iff_eq] at h3; omega
    rw [if_neg (fun h => h hk1)]
    refine H3.callq (now_any (H3.nth 0 rfl)) fun w4 H4 => ?_
    refine ⟨_, rfl, _, rfl, ?_⟩
    obtain ⟨hG, -⟩ := par_good h
    obtain ⟨l', hl⟩ := par_now h
    obtain ⟨hd0, hd⟩ := hG.2.1 (now l) (by rw [hl]; exact List.mem_cons_self ..) hk1
    have hsz := hG.2.2.1 (now l) (by rw [hl]; exact List.mem_cons_self ..)
    have hp := parseB hd0 hd
    by_cases hv : 4294967296 ≤ Go.Lang.valOf (now l).s
    · rw [if_pos hv]
      rw [if_neg (by omega)] at hp
      obtain ⟨-, -, off, c, hop⟩ := par_open (St.begin (H4.nth 0 rfl))
      obtain ⟨⟨tt, vv, hgl⟩, -⟩ := hop.nth 2 rfl
      refine (Tryz.strconv_ParseUint_10_at32_range (now l).s (by omega) hp _ w4 hgl (.inr ⟨_, _, rfl⟩)).mono ?_
      rintro _ w5 ⟨N, rfl, -, -, hb⟩
      have H5 := H4.quiet (w' := w5) ((XTouch.of_below hb).mono fun k hk hs => by omega)
      refine ⟨_, _, rfl, nil_false ?_⟩
      exact perr' H5 0 rfl (pfail_any 3 (H5.nth 0 rfl))
    · rw [if_neg hv]
      rw [if_pos (by omega)] at hp
      refine (Tryz.strconv_ParseUint_10_at32_ok (now l).s (by omega) _ hp w4).mono ?_
      rintro _ w5 ⟨rfl, hw⟩
      have H5 := H4.quiet (w' := w5) (by
        rcases hw with rfl | rfl
        · exact XTouch.refl _ _
        · exact bytesWorld_hush _ _ _)
      refine ⟨_, _, rfl, nil_true ?_⟩
      refine H5.call 0 rfl (next_any (H5.nth 0 rfl) (by omega)) fun w6 H6 => ?_
      refine ⟨_, rfl, ?_⟩
      rintro z rfl
      refine ⟨?_, H6.post 0 rfl⟩
      rw [show IntKind.wrap .u32 ((Go.Lang.valOf (now l).s : Nat) : Int) = ((Go.Lang.valOf (now l).s : Nat) : Int) from Go.Bits.n32 (by omega)]
end Go.Proofs.YtojogkljneonmaaGreatDoor
/- What the parser in plain Lean leaves is no longer than what it had. No condition. -/
namespace Go.Lang
set_option linter.unusedVariables false

theorem bind_ok {α β : Type} {r : R α} {k : α → List Tok → R β} {y : β} {l' : List Tok} (h : r.bind k = .ok y l') : ∃ x l, r = .ok x l ∧ k x l = .ok y l' := by
  cases r with
  | ok x l => exact ⟨x, l, rfl, h⟩
  | err a e => cases h
  | out => cases h
theorem is_k {s : ByteArray} {l : List Tok} (h : is s l = true) : (now l).k = 3 := by
  unfold is at h
  rw [Bool.and_eq_true] at h
  exact of_decide_eq_true h.1
theorem tail_lt {l : List Tok} (h : (now l).k ≠ 0) : l.tail.length < l.length := by
  cases l with
  | nil => exact absurd rfl h
  | cons t l => simp
theorem tail_le (l : List Tok) : l.tail.length ≤ l.length := by simp
theorem want_ok {β : Type} {s : ByteArray} {l l' : List Tok} {k : List Tok → R β} {y : β} (h : want s l k = .ok y l') : is s l = true ∧ k l.tail = .ok y l' := by
  unfold want at h
  split at h
  · rename_i hi; exact ⟨hi, h⟩
  · cases h
theorem name_ok {β : Type} {l l' : List Tok} {k : Tok → List Tok → R β} {y : β} (h : name l k = .ok y l') : (now l).k = 1 ∧ k (now l) l.tail = .ok y l' := by
  unfold name at h
  split at h
  · cases h
  · rename_i hk
    split at h
    · cases h
    · exact ⟨Decidable.not_not.1 hk, h⟩
theorem number_ok {β : Type} {l l' : List Tok} {k : Int → List Tok → R β} {y : β} (h : number l k = .ok y l') : (now l).k = 2 ∧ ∃ v, k v l.tail = .ok y l' := by
  unfold number at h
  split at h
  · cases h
  · rename_i hk
    split at h
    · cases h
    · exact ⟨Decidable.not_not.1 hk, _, h⟩
theorem run_le : ∀ (f : Nat) (q : Req) (n : Nat) (l : List Tok) (x : T) (l' : List Tok), run f q n l = .ok x l' → l'.length ≤ l.length ∧ (q = .stmt → l'.length < l.length) := by
  intro f
  induction f with
  | zero => intro q n l x l' h; cases h
  | succ f ih =>
    intro q n l x l' h
    have le : ∀ {q n l x l'}, run f q n l = .ok x l' → l'.length ≤ l.length := fun h => (ih _ _ _ _ _ h).1
    have tl := fun (l : List Tok) => tail_le l
    cases q with
    | expr =>
      unfold run at h
      split at h
      · cases h
      · exact ⟨le h, fun e => by cases e⟩
    | bin k =>
      unfold run at h
      obtain ⟨x1, l1, h1, h2⟩ := bind_ok h
      exact ⟨Nat.le_trans (le h2) (le h1), fun e => by cases e⟩
    | loop k u =>
      unfold run at h
      refine ⟨?_, fun e => by cases e⟩
      split at h
      · obtain ⟨x1, l1, h1, h2⟩ := bind_ok h
        have := le h1; have := le h2; have := tl l; omega
      · cases h; exact Nat.le_refl _
    | un =>
      unfold run at h
      refine ⟨?_, fun e => by cases e⟩
      split at h
      · split at h
        · cases h
        · obtain ⟨x1, l1, h1, h2⟩ := bind_ok h
          cases h2
          have := le h1; have := tl l; omega
      · exact le h
    | prim =>
      unfold run at h
      refine ⟨?_, fun e => by cases e⟩
      split at h
      · obtain ⟨-, v, h1⟩ := number_ok h
        cases h1; exact tl l
      · split at h
        · obtain ⟨x1, l1, h1, h2⟩ := bind_ok h
          obtain ⟨-, h3⟩ := want_ok h2
          cases h3
          have := le h1; have := tl l; have := tl l1; omega
        · obtain ⟨-, h1⟩ := name_ok h
          have t1 := tl l; have t2 := tl l.tail
          split at h1
          · obtain ⟨x1, l1, h1, h2⟩ := bind_ok h1
            cases h2
            have := le h1; omega
          · split at h1
            · obtain ⟨x1, l1, h5, h2⟩ := bind_ok h1
              obtain ⟨-, h3⟩ := want_ok h2
              cases h3
              have := le h5; have := tl l1; omega
            · cases h1; omega
    | args =>
      unfold run at h
      refine ⟨?_, fun e => by cases e⟩
      split at h
      · cases h; exact tl l
      · exact le h
    | argl =>
      unfold run at h
      refine ⟨?_, fun e => by cases e⟩
      obtain ⟨x1, l1, h1, h2⟩ := bind_ok h
      have a1 := le h1; have a2 := tl l1
      split at h2
      · cases h2; omega
      · obtain ⟨-, h3⟩ := want_ok h2
        obtain ⟨x2, l2, h4, h5⟩ := bind_ok h3
        cases h5
        have := le h4; omega
    | blk =>
      unfold run at h
      refine ⟨?_, fun e => by cases e⟩
      split at h
      · cases h
      · obtain ⟨-, h1⟩ := want_ok h
        obtain ⟨x2, l2, h4, h5⟩ := bind_ok h1
        cases h5
        have := le h4; have := tl l; omega
    | stmts =>
      unfold run at h
      refine ⟨?_, fun e => by cases e⟩
      split at h
      · cases h; exact tl l
      · obtain ⟨x1, l1, h1, h2⟩ := bind_ok h
        obtain ⟨x2, l2, h4, h5⟩ := bind_ok h2
        cases h5
        have := le h1; have := le h4; omega
    | stmt =>
      have key : l'.length < l.length := by
        unfold run at h
        split at h
        · rename_i hk
          have t0 := tail_lt (l := l) (by omega)
          obtain ⟨-, h⟩ := name_ok h
          have t2 := tl l.tail
          split at h
          · obtain ⟨x1, l1, h1, h2⟩ := bind_ok h
            obtain ⟨-, h3⟩ := want_ok h2
            cases h3
            have := le h1; have := tl l1; omega
          · split at h
            · obtain ⟨x1, l1, h1, h2⟩ := bind_ok h
              obtain ⟨-, h3⟩ := want_ok h2
              obtain ⟨-, h3⟩ := want_ok h3
              obtain ⟨x2, l2, h4, h5⟩ := bind_ok h3
              obtain ⟨-, h5⟩ := want_ok h5
              cases h5
              have := le h1; have := tl l1; have := tl l1.tail; have := le h4; have := tl l2; omega
            · obtain ⟨-, h3⟩ := want_ok h
              obtain ⟨x2, l2, h4, h5⟩ := bind_ok h3
              obtain ⟨-, h5⟩ := want_ok h5
              cases h5
              have := le h4; have := tl l2; omega
        · split at h
          · rename_i hk
            have t0 := tail_lt (l := l) (by rw [is_k hk]; omega)
            obtain ⟨-, h⟩ := name_ok h
            obtain ⟨-, h⟩ := want_ok h
            obtain ⟨x2, l2, h4, h5⟩ := bind_ok h
            obtain ⟨-, h5⟩ := want_ok h5
            cases h5
            have := le h4; have := tl l2; have := tl l.tail; have := tl l.tail.tail; omega
          · split at h
            · rename_i hk
              have t0 := tail_lt (l := l) (by rw [is_k hk]; omega)
              obtain ⟨x2, l2, h4, h5⟩ := bind_ok h
              obtain ⟨-, h5⟩ := want_ok h5
              cases h5
              have := le h4; have := tl l2; omega
            · split at h
              · rename_i hk
                have t0 := tail_lt (l := l) (by rw [is_k hk]; omega)
                obtain ⟨x2, l2, h4, h5⟩ := bind_ok h
                obtain ⟨-, h5⟩ := want_ok h5
                cases h5
                have := le h4; have := tl l2; omega
              · split at h
                · rename_i hk
                  have t0 := tail_lt (l := l) (by rw [is_k hk]; omega)
                  obtain ⟨x2, l2, h4, h5⟩ := bind_ok h
                  obtain ⟨x3, l3, h6, h7⟩ := bind_ok h5
                  cases h7
                  have := le h4; have := le h6; omega
                · split at h
                  · rename_i hk
                    have t0 := tail_lt (l := l) (by rw [is_k hk]; omega)
                    obtain ⟨x2, l2, h4, h5⟩ := bind_ok h
                    obtain ⟨x3, l3, h6, h7⟩ := bind_ok h5
                    have a1 := le h4; have a2 := le h6; have a3 := tl l3
                    split at h7
                    · obtain ⟨x4, l4, h8, h9⟩ := bind_ok h7
                      cases h9
                      have := le h8; omega
                    · cases h7; omega
                  · cases h
      exact ⟨Nat.le_of_lt key, fun _ => key⟩
end Go.Lang
