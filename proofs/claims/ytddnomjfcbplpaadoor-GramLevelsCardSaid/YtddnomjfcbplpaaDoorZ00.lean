/- DERIVED: THE SHELF's CONTRACTS AT THIS DUMP, IN PLAIN WORDS (tools/lay-plain.mjs out of 'TrydShelf.lean', which tools/lay-shelf.mjs wrote): THE SAME DECLARATIONS UNDER THE SAME NAMES: 'import', 'namespace', 'open', 'def', 'theorem' AND NOTHING ELSE: no command of the shelf's: FOR A HAND-IN. Each laying: the table of numbers ('.._ren') and one theorem, a field a fact of the dump's own or the kernel's comparison; each contract: ONE APPLICATION. Small lemmas that all walks of this seat use. The frame that the laws share: the program's own knobs, the library's variables out of a row's list, a world for the witness. The frame that the laws of seats without strconv's errors share: the library's variables out of a row's list, a world for the witness. Plain functions on lists of bytes: what the functions of layer 5 (texts of actions) compute. No program in sight. Plain functions: pieces of an action's text. Plain functions: an action's text cut into pieces. Plain laws: a dollar with digits between braces is cut into three pieces, or refused. No program in sight. Plain laws: within quotes and remarks nothing is looked at. No program in sight. Plain laws: the form of a dollar's piece, and where it is the same. No program in sight. -/
import Derived.Test.YtddnomjfcbplpaaDoorProg
import Derived.Shelf.Strings.Builder1
import Derived.Shelf.Small.Strs
import Derived.Shelf.Strings.BuilderF
import Derived.Shelf.Strings.BuilderK
import Derived.Shelf.Strconv.Atoi
import Derived.Shelf.Strconv.Itoa0
import Derived.Shelf.Strconv.Itoa1
import Derived.Shelf.LaysM
import Derived.Shelf.Strconv.Itoa2
import Derived.Shelf.Strconv.Itoa3
import Derived.Shelf.Strconv.AtoiErrFast
import Derived.Shelf.Strconv.ParseIntEmpty
import Derived.Shelf.Strconv.AtoiFail
import Derived.Shelf.Strconv.Clone
import Derived.Shelf.Strconv.SyntaxError
import Derived.Shelf.LaysC
import Derived.Shelf.Strconv.ToError
import Derived.Shelf.Strconv.AtoiErr
import Derived.Shelf.Strconv.ErrVar
import Derived.Shelf.Strconv.Lower
import Derived.Shelf.Strconv.ParseUint10
import Derived.Shelf.Strconv.ParseUint10Empty
import Derived.Shelf.Strconv.ParseUint10Any
import Derived.Shelf.Strconv.ParseInt10
import Derived.Shelf.Strconv.AtoiLong
import Derived.Shelf.Strconv.AtoiInnerAll
import Derived.Shelf.Strconv.RangeError
import Derived.Shelf.Strconv.ToErrorRange
import Derived.Shelf.Strconv.AtoiAll
import Derived.Shelf.Strconv.ErrVarAll
import Derived.Shelf.Strconv.ParseUintEmpty
import Derived.Shelf.Strconv.ParseUint10b64
import Derived.Shelf.Strconv.ParseUint10b32
import Derived.Shelf.Strconv.ParseUint10b16
import Derived.Shelf.Strconv.ParseUint10b8
import Derived.Shelf.Strconv.ParseUint10At
import Derived.Shelf.Strconv.ParseInt10At64
import Derived.Shelf.Strconv.ParseInt10At32
import Derived.Shelf.Strconv.ParseInt10At16
import Derived.Shelf.Strconv.ParseInt10At8
import Derived.Shelf.Strconv.ParseInt10All
import Derived.Shelf.Strings.Search1
import Derived.Shelf.Strings.Search2
import Derived.Shelf.Strings.Search3
import Derived.Shelf.Strings.Shaped
import Derived.Shelf.Strings.Prefix
import Derived.Shelf.Strings.BuilderCap
import Derived.WalkKit
import Derived.WalkSpells
import Derived.WalkLawsBesides
import Derived.Lib.Hide
import Derived.Deep.Light
import Derived.Handy
import Derived.Deep.QuietTactic
import Derived.BigQuiet
import Derived.Deep.Draws
import Derived.Lib.Strings
import Derived.Lib.AtoiErrMem
import Derived.Lib.AppendIntMem
import Derived.WalkSmall
import Derived.Shelf.Strings.Builder2
import Derived.Shelf.Lay
import Derived.Test.YtddnomjfcbplpaaDoorCards
import Derived.Test.YtddnomjfcbplpaaDoorTie
import Derived.ProofKit
import Derived.OpenShut
import Derived.ShutString
import Derived.ChangeOld
import Derived.Below
import Derived.Deep.DeepHandedRow
import Derived.Lib.LaidTab
import Derived.Stop.LaidErr
import Derived.Lib.Index
import Derived.Lib.IndexMore
import Derived.Lib.Bytealg
import Derived.Lib.Atoi
import Derived.Lib.ItoaNum
namespace Go.Proofs
open Go.Shelf
def Tryd.lays137_ren : Go.Shelf.Ren := ⟨fun | 137 => 63 | 217 => 91 | 266 => 111 | n => n, fun | 9 => 9 | 5 => 5 | 3 => 3 | n => n, fun | n => n⟩
theorem Tryd.lays137 : Go.Proofs.Lays.n137 Tryd.prog Tryd.lays137_ren := {
  mixed := by kernel_rfl
  f137 := Tryd.func63.trans (congrArg some (by kernel_rfl))
  f217 := Tryd.func91.trans (congrArg some (by kernel_rfl))
  f266 := Tryd.func111.trans (congrArg some (by kernel_rfl))
  t3 := Tryd.underlying3
  a3 := Tryd.isAgg3
  z3 := Tryd.sizeOf3
  v3 := Tryd.zeroValue3
  t5 := Tryd.underlying5
  a5 := Tryd.isAgg5
  z5 := Tryd.sizeOf5
  v5 := Tryd.zeroValue5
  t9 := Tryd.underlying9
  a9 := Tryd.isAgg9
  z9 := Tryd.sizeOf9
  v9 := Tryd.zeroValue9 }
open Go.RowKit in
/-- strings.IndexByte: "IndexByte returns the index of the first instance of c in s, or -1 if c is not present in s.": IT RETURNS 'Lib.indexByte s c'; the world is as it was. (LAID: no walk: one application.) -/
theorem Tryd.strings_IndexByte (s : ByteArray) (c : Int) (w : World) :
    Calls Tryd.prog 63 #[.string s, .int .u8 c] w fun e w' => e = .returned (.int .i64 (Lib.indexByte s.data.toList c.toNat.toUInt8)) ∧ w' = w := Any.strings_IndexByte Tryd.lays137 s c w
def Tryd.laysM171_ren : Go.Shelf.Ren := ⟨fun | 171 => 32 | 243 => 54 | 246 => 84 | 283 => 103 | 284 => 104 | 285 => 105 | 286 => 106 | 129 => 122 | 317 => 121 | 318 => 123 | 319 => 124 | 320 => 125 | 337 => 134 | 338 => 135 | n => n, fun | 3 => 3 | 9 => 9 | 2 => 2 | 4 => 4 | 171 => 151 | 0 => 0 | 53 => 74 | 37 => 75 | 5 => 5 | 173 => 154 | 212 => 166 | 51 => 167 | 20 => 20 | 213 => 168 | 46 => 157 | 232 => 187 | 233 => 188 | n => n, fun | 17 => 1 | 18 => 4 | 19 => 5 | n => n⟩
theorem Tryd.laysM171 : Go.Proofs.LaysM.n171 Tryd.prog Tryd.laysM171_ren := {
  mixed := by kernel_rfl
  f129 := Tryd.func122.trans (congrArg some (by kernel_rfl))
  f171 := Tryd.func32.trans (congrArg some (by kernel_rfl))
  f243 := Tryd.func54.trans (congrArg some (by kernel_rfl))
  f246 := Tryd.func84.trans (congrArg some (by kernel_rfl))
  f283 := Tryd.func103.trans (congrArg some (by kernel_rfl))
  f284 := Tryd.func104.trans (congrArg some (by kernel_rfl))
  f285 := Tryd.func105.trans (congrArg some (by kernel_rfl))
  f286 := Tryd.func106.trans (congrArg some (by kernel_rfl))
  f317 := Tryd.func121.trans (congrArg some (by kernel_rfl))
  f318 := Tryd.func123.trans (congrArg some (by kernel_rfl))
  f319 := Tryd.func124.trans (congrArg some (by kernel_rfl))
  f320 := Tryd.func125.trans (congrArg some (by kernel_rfl))
  f337 := Tryd.func134.trans (congrArg some (by kernel_rfl))
  f338 := Tryd.func135.trans (congrArg some (by kernel_rfl))
  t0 := Tryd.underlying0
  a0 := Tryd.isAgg0
  z0 := Tryd.sizeOf0
  v0 := Tryd.zeroValue0
  t2 := Tryd.underlying2
  a2 := Tryd.isAgg2
  z2 := Tryd.sizeOf2
  v2 := Tryd.zeroValue2
  t3 := Tryd.underlying3
  a3 := Tryd.isAgg3
  z3 := Tryd.sizeOf3
  v3 := Tryd.zeroValue3
  t4 := Tryd.underlying4
  a4 := Tryd.isAgg4
  z4 := Tryd.sizeOf4
  v4 := Tryd.zeroValue4
  t5 := Tryd.underlying5
  a5 := Tryd.isAgg5
  z5 := Tryd.sizeOf5
  v5 := Tryd.zeroValue5
  t9 := Tryd.underlying9
  a9 := Tryd.isAgg9
  z9 := Tryd.sizeOf9
  v9 := Tryd.zeroValue9
  t20 := Tryd.underlying20
  a20 := Tryd.isAgg20
  z20 := Tryd.sizeOf20
  v20 := Tryd.zeroValue20
  t37 := Tryd.underlying75
  a37 := Tryd.isAgg75
  z37 := Tryd.sizeOf75
  v37 := Tryd.zeroValue75
  t46 := Tryd.underlying157
  a46 := Tryd.isAgg157
  z46 := Tryd.sizeOf157
  v46 := Tryd.zeroValue157
  t51 := Tryd.underlying167
  a51 := Tryd.isAgg167
  z51 := Tryd.sizeOf167
  v51 := Tryd.zeroValue167
  t53 := Tryd.underlying74
  a53 := Tryd.isAgg74
  z53 := Tryd.sizeOf74
  v53 := Tryd.zeroValue74
  t171 := Tryd.underlying151
  a171 := Tryd.isAgg151
  z171 := Tryd.sizeOf151
  v171 := Tryd.zeroValue151
  t173 := Tryd.underlying154
  a173 := Tryd.isAgg154
  z173 := Tryd.sizeOf154
  v173 := Tryd.zeroValue154
  t212 := Tryd.underlying166
  a212 := Tryd.isAgg166
  z212 := Tryd.sizeOf166
  v212 := Tryd.zeroValue166
  t213 := Tryd.underlying168
  a213 := Tryd.isAgg168
  z213 := Tryd.sizeOf168
  t232 := Tryd.underlying187
  a232 := Tryd.isAgg187
  z232 := Tryd.sizeOf187
  v232 := Tryd.zeroValue187
  t233 := Tryd.underlying188
  a233 := Tryd.isAgg188
  z233 := Tryd.sizeOf188
  v233 := Tryd.zeroValue188
  g17 := by kernel_rfl
  g18 := by kernel_rfl
  g19 := by kernel_rfl
  i0 := by kernel_rfl
  i2 := by kernel_rfl
  i3 := by kernel_rfl
  i4 := by kernel_rfl
  i5 := by kernel_rfl
  i9 := by kernel_rfl
  i20 := by kernel_rfl
  i37 := by kernel_rfl
  i46 := by kernel_rfl
  i51 := by kernel_rfl
  i53 := by kernel_rfl
  i171 := by kernel_rfl
  i173 := by kernel_rfl
  i212 := by kernel_rfl
  i232 := by kernel_rfl
  i233 := by kernel_rfl
  m17 := by kernel_rfl
  m18 := by kernel_rfl
  m19 := by kernel_rfl }
open Go.RowKit Go.Sort Go.Lib in
/-- strconv.Itoa: "Itoa is equivalent to FormatInt(int64(i), 10).": i's DECIMAL NUMERAL ('Lib.itoa': a '-' where i is negative, then the digits), FOR EVERY int. The world behind the call: the world before it, new blocks behind the heap (the library's 'var a [24]byte'), draws. (LAID: no walk: one application.) -/
theorem Tryd.strconv_Itoa (n : Int) (h0 : -9223372036854775808 ≤ n) (h1 : n ≤ 9223372036854775807) (w : World) (htab : Lib.TabIs Tryd.prog w "internal/strconv.uint64pow10" .u64 Lib.pow10Tab) :
    Calls Tryd.prog 32 #[.int .i64 n] w fun e w' => e = .returned (.string ⟨(Lib.itoa n).toArray⟩) ∧ ∃ k os, w' = grow (w.drewN k) os := Any.strconv_Itoa Tryd.laysM171 n h0 h1 w htab
def Tryd.lays143_ren : Go.Shelf.Ren := ⟨fun | 143 => 64 | 219 => 92 | 217 => 91 | 225 => 112 | 224 => 113 | 267 => 114 | 266 => 111 | 314 => 130 | n => n, fun | 9 => 9 | 3 => 3 | 4 => 4 | 5 => 5 | 46 => 157 | 146 => 173 | 51 => 167 | n => n, fun | 1 => 0 | n => n⟩
theorem Tryd.lays143 : Go.Proofs.Lays.n143 Tryd.prog Tryd.lays143_ren := {
  mixed := by kernel_rfl
  f143 := Tryd.func64.trans (congrArg some (by kernel_rfl))
  f217 := Tryd.func91.trans (congrArg some (by kernel_rfl))
  f219 := Tryd.func92.trans (congrArg some (by kernel_rfl))
  f224 := Tryd.func113.trans (congrArg some (by kernel_rfl))
  f225 := Tryd.func112.trans (congrArg some (by kernel_rfl))
  f266 := Tryd.func111.trans (congrArg some (by kernel_rfl))
  f267 := Tryd.func114.trans (congrArg some (by kernel_rfl))
  f314 := Tryd.func130.trans (congrArg some (by kernel_rfl))
  t3 := Tryd.underlying3
  a3 := Tryd.isAgg3
  z3 := Tryd.sizeOf3
  v3 := Tryd.zeroValue3
  t4 := Tryd.underlying4
  a4 := Tryd.isAgg4
  z4 := Tryd.sizeOf4
  v4 := Tryd.zeroValue4
  t5 := Tryd.underlying5
  a5 := Tryd.isAgg5
  z5 := Tryd.sizeOf5
  v5 := Tryd.zeroValue5
  t9 := Tryd.underlying9
  a9 := Tryd.isAgg9
  z9 := Tryd.sizeOf9
  v9 := Tryd.zeroValue9
  t46 := Tryd.underlying157
  a46 := Tryd.isAgg157
  z46 := Tryd.sizeOf157
  v46 := Tryd.zeroValue157
  t51 := Tryd.underlying167
  a51 := Tryd.isAgg167
  z51 := Tryd.sizeOf167
  v51 := Tryd.zeroValue167
  t146 := Tryd.underlying173
  a146 := Tryd.isAgg173
  z146 := Tryd.sizeOf173
  v146 := Tryd.zeroValue173
  g1 := by kernel_rfl }
open Go.RowKit Go.Lib in
/-- strings.Index: "Index returns the index of the first instance of substr in s, or -1 if substr is not present in s.": IT RETURNS 'Lib.index s substr'; the world is as it was. (LAID: no walk: one application.) -/
theorem Tryd.strings_Index (s sub : ByteArray) (m : Int) (w : World) (hs : s.size < 4294967281) (hm : w.cell? ⟨0, 0, none⟩ = some (.int .i64 m)) :
    Calls Tryd.prog 64 #[.string s, .string sub] w fun e w' => e = .returned (.int .i64 (Lib.index s.data.toList sub.data.toList)) ∧ w' = w := Any.strings_Index Tryd.lays143 s sub m w hs hm
def Tryd.lays144_ren : Go.Shelf.Ren := ⟨fun | 144 => 37 | 143 => 64 | 219 => 92 | 217 => 91 | 225 => 112 | 224 => 113 | 267 => 114 | 266 => 111 | 314 => 130 | n => n, fun | 9 => 9 | 4 => 4 | 3 => 3 | 5 => 5 | 46 => 157 | 146 => 173 | 51 => 167 | n => n, fun | 1 => 0 | n => n⟩
theorem Tryd.lays144 : Go.Proofs.Lays.n144 Tryd.prog Tryd.lays144_ren := {
  mixed := by kernel_rfl
  f143 := Tryd.func64.trans (congrArg some (by kernel_rfl))
  f144 := Tryd.func37.trans (congrArg some (by kernel_rfl))
  f217 := Tryd.func91.trans (congrArg some (by kernel_rfl))
  f219 := Tryd.func92.trans (congrArg some (by kernel_rfl))
  f224 := Tryd.func113.trans (congrArg some (by kernel_rfl))
  f225 := Tryd.func112.trans (congrArg some (by kernel_rfl))
  f266 := Tryd.func111.trans (congrArg some (by kernel_rfl))
  f267 := Tryd.func114.trans (congrArg some (by kernel_rfl))
  f314 := Tryd.func130.trans (congrArg some (by kernel_rfl))
  t3 := Tryd.underlying3
  a3 := Tryd.isAgg3
  z3 := Tryd.sizeOf3
  v3 := Tryd.zeroValue3
  t4 := Tryd.underlying4
  a4 := Tryd.isAgg4
  z4 := Tryd.sizeOf4
  v4 := Tryd.zeroValue4
  t5 := Tryd.underlying5
  a5 := Tryd.isAgg5
  z5 := Tryd.sizeOf5
  v5 := Tryd.zeroValue5
  t9 := Tryd.underlying9
  a9 := Tryd.isAgg9
  z9 := Tryd.sizeOf9
  v9 := Tryd.zeroValue9
  t46 := Tryd.underlying157
  a46 := Tryd.isAgg157
  z46 := Tryd.sizeOf157
  v46 := Tryd.zeroValue157
  t51 := Tryd.underlying167
  a51 := Tryd.isAgg167
  z51 := Tryd.sizeOf167
  v51 := Tryd.zeroValue167
  t146 := Tryd.underlying173
  a146 := Tryd.isAgg173
  z146 := Tryd.sizeOf173
  v146 := Tryd.zeroValue173
  g1 := by kernel_rfl }
open Go.RowKit Go.Lib in
/-- strings.Contains: "Contains reports whether substr is within s.": IT RETURNS 'Lib.contains s substr'; the world is as it was. (LAID: no walk: one application.) -/
theorem Tryd.strings_Contains (s sub : ByteArray) (m : Int) (w : World) (hs : s.size < 4294967281) (hm : w.cell? ⟨0, 0, none⟩ = some (.int .i64 m)) :
    Calls Tryd.prog 37 #[.string s, .string sub] w fun e w' => e = .returned (.bool (Lib.contains s.data.toList sub.data.toList)) ∧ w' = w := Any.strings_Contains Tryd.lays144 s sub m w hs hm
def Tryd.lays99_ren : Go.Shelf.Ren := ⟨fun | 99 => 79 | 206 => 99 | n => n, fun | 9 => 9 | 4 => 4 | 3 => 3 | n => n, fun | n => n⟩
theorem Tryd.lays99 : Go.Proofs.Lays.n99 Tryd.prog Tryd.lays99_ren := {
  mixed := by kernel_rfl
  f99 := Tryd.func79.trans (congrArg some (by kernel_rfl))
  f206 := Tryd.func99.trans (congrArg some (by kernel_rfl))
  t3 := Tryd.underlying3
  a3 := Tryd.isAgg3
  z3 := Tryd.sizeOf3
  v3 := Tryd.zeroValue3
  t4 := Tryd.underlying4
  a4 := Tryd.isAgg4
  z4 := Tryd.sizeOf4
  v4 := Tryd.zeroValue4
  t9 := Tryd.underlying9
  a9 := Tryd.isAgg9
  z9 := Tryd.sizeOf9
  v9 := Tryd.zeroValue9 }
open Go.RowKit Go.Lib in
/-- strings.HasPrefix: "HasPrefix reports whether the string s begins with prefix.": IT RETURNS 'Lib.hasPrefix s prefix'; the world is as it was. (LAID: no walk: one application.) -/
theorem Tryd.strings_HasPrefix (s p : ByteArray) (w : World) :
    Calls Tryd.prog 79 #[.string s, .string p] w fun e w' => e = .returned (.bool (Lib.hasPrefix s.data.toList p.data.toList)) ∧ w' = w := Any.strings_HasPrefix Tryd.lays99 s p w
end Go.Proofs

namespace Go.Proofs.YtddnomjfcbplpaaDoor
open Go.RowKit

theorem ret_bool {a b : Bool} (h : a = b) : Ending.returned (.bool a) = .returned (.bool b) := by rw [h]
theorem ret_int {k : IntKind} {a b : Int} (h : a = b) : Ending.returned (.int k a) = .returned (.int k b) := by rw [h]
theorem drop_at (s : ByteArray) (k : Nat) (h : k < s.size) : s.data.toList.drop k = s[k] :: s.data.toList.drop (k + 1) := by
  have h' : k < s.data.toList.length := by simpa using h
  rw [List.drop_eq_getElem_cons h']; rfl
theorem drop_end (s : ByteArray) (k : Nat) (h : ¬ k < s.size) : s.data.toList.drop k = [] := List.drop_of_length_le (by simp; omega)
theorem ext_end (s : ByteArray) (a : Nat) : (s.extract a s.size).data.toList = s.data.toList.drop a := by
  rw [Lib.extract_data]; exact List.take_of_length_le (by simp)
/-- What the library's own variables hold: bytealg.MaxLen some number; the table of the powers of ten. -/
def Gl (w : World) : Prop := (∃ m : Int, w.cell? ⟨0, 0, none⟩ = some (.int .i64 m)) ∧ 6 ≤ w.heap.size ∧ Lib.TabIs Tryd.prog w "internal/strconv.uint64pow10" .u64 Lib.pow10Tab
theorem Gl.drewN {w : World} (h : Gl w) (n : Nat) : Gl (w.drewN n) := h
theorem strings_Index_gl (s sub : ByteArray) (w : World) (hs : s.size < 4294967281) (hg : Gl w) :
    Calls Tryd.prog 64 #[.string s, .string sub] w fun e w' => e = .returned (.int .i64 (Lib.index s.data.toList sub.data.toList)) ∧ w = w' := by
  obtain ⟨⟨m, hm⟩, _⟩ := hg
  exact (Tryd.strings_Index s sub m w hs hm).mono fun _ _ ⟨h1, h2⟩ => ⟨h1, h2.symm⟩
theorem strings_HasPrefix_gl (s p : ByteArray) (w : World) :
    Calls Tryd.prog 79 #[.string s, .string p] w fun e w' => e = .returned (.bool (Lib.hasPrefix s.data.toList p.data.toList)) ∧ w = w' :=
  (Tryd.strings_HasPrefix s p w).mono fun _ _ ⟨h1, h2⟩ => ⟨h1, h2.symm⟩
theorem strings_IndexByte_gl (s : ByteArray) (c : Int) (w : World) :
    Calls Tryd.prog 63 #[.string s, .int .u8 c] w fun e w' => e = .returned (.int .i64 (Lib.indexByte s.data.toList c.toNat.toUInt8)) ∧ w = w' :=
  (Tryd.strings_IndexByte s c w).mono fun _ _ ⟨h1, h2⟩ => ⟨h1, h2.symm⟩
theorem Gl.below {w w' : World} (h : Gl w) (hb : Below w.heap.size w w') : Gl w' := by
  obtain ⟨⟨m, hm⟩, hz, ht⟩ := h
  have hs := hb.size
  have h0 : w'.heap[1]? = w.heap[1]? := hb.block _ (by omega)
  refine ⟨⟨m, (hb.cell (p := ⟨0, 0, none⟩) (by show 0 < _; omega)).trans hm⟩, by omega, ?_⟩
  exact var?_below hb (by kernel_rfl : Tryd.prog.globalNamed "internal/strconv.uint64pow10" = some 1) (by omega) ht
theorem Gl.alloc {w : World} (h : Gl w) (o : Obj) : Gl (w.alloc o) := h.below ((Below.refl _ _).alloc (Nat.le_refl _) o)
theorem strconv_Itoa_gl (n : Int) (h0 : -9223372036854775808 ≤ n) (h1 : n ≤ 9223372036854775807) (w : World) (hg : Gl w) :
    Calls Tryd.prog 32 #[.int .i64 n] w fun e w' => e = .returned (.string ⟨(Lib.itoa n).toArray⟩) ∧ Below w.heap.size w w' :=
  (Tryd.strconv_Itoa n h0 h1 w hg.2.2).mono fun _ _ ⟨h1, k, os, h2⟩ => ⟨h1, h2 ▸ Lib.below_grow _ _ (Nat.le_refl _) k os⟩
/-! ### Results that lie in memory -/
section
variable {P : Program} {fn : Func} {R : Ending → World → Prop} {a : Act} {W : World} {g : Nat} {t ty : TypeId} {cs : Array Value} {fr : Nat × Nat} {d : TypeDesc} {p u x : Tmp}
theorem ret_cell (hf : fn.results = #[.cell p ty]) (hp : a.tmps.getD p undef = .pointer (some ⟨g, 0, none⟩)) (hg : W.heap[g]? = some (.cells cs t fr))
    (hd : (match d with | .struct _ | .array _ _ => true | _ => false) = true) (hu : P.underlying ty = some d) (hi : (P.info? ty).map (·.size) = some cs.size)
    (hdef : a.defers = []) (hR : R (.returned (.agg cs)) W) : bodyPost P fn R .ret a W := by
  refine bodyPost_ret ?_ hdef hR
  have hl := run_loadVar_row (P := P) W g t ty cs fr d hg hu (by cases d <;> simp_all) hi
  have hp' : a.tmps[p]?.getD undef = .pointer (some ⟨g, 0, none⟩) := by simpa using hp
  simp [results, hf, hp', asAddr, hl]
end
theorem heap_setCell_at {w : World} {b i : Nat} {v : Value} {c : Array Value} {t : TypeId} {fr : Nat × Nat} (h : w.heap[b]? = some (.cells c t fr)) :
    (w.setCell ⟨b, i, none⟩ v).heap[b]? = some (.cells (c.setIfInBounds i v) t fr) := by
  simp [World.setCell, Array.getElem?_modify, h]
theorem cell_at {w : World} {b i : Nat} {c : Array Value} {t : TypeId} {fr : Nat × Nat} (h : w.heap[b]? = some (.cells c t fr)) : w.cell? ⟨b, i, none⟩ = c[i]? := by
  simp [World.cell?, h]
theorem frozen_at {w : World} {b i : Nat} {c : Array Value} {t : TypeId} (h : w.heap[b]? = some (.cells c t (0, 0))) : w.frozen? ⟨b, i, none⟩ = false := by
  simp [World.frozen?, h]
theorem lt_at {w : World} {b : Nat} {o : Obj} (h : w.heap[b]? = some o) : b < w.heap.size := (Array.getElem?_eq_some_iff.1 h).1
theorem heap_last (w : World) (o : Obj) : (w.alloc o).heap[w.heap.size]? = some o := heap_alloc_new w o

end Go.Proofs.YtddnomjfcbplpaaDoor

namespace Go.Proofs.YtddnomjfcbplpaaDoor
open Go.ChangeShapes Go.WideShapes Go.ChangeAt Go.RowKit
open Go.ChangeMaps (open_string shut_string)

theorem own : ownKnob Tryd.prog.godebug = none := by kernel_rfl
theorem laidOut : laidOutB Tryd.prog = true := by kernel_rfl

theorem gPow : Tryd.prog.globalNamed "internal/strconv.uint64pow10" = some 1 := by kernel_rfl
theorem gPowType : (Tryd.prog.globals[1]?).map (·.type) = some 166 := by kernel_rfl
theorem powCells : Tryd.prog.cellsOf 166 = 20 := by kernel_rfl
theorem powCell : Tryd.prog.cellsOf 74 = 1 := by kernel_rfl
theorem powData : (Rows.laid_internal_strconv_uint64pow10 : DataW Unit) = Lib.tabData .u64 Lib.pow10Tab := by kernel_rfl

/-! ### A world for the witness -/
def put (h : Array Obj) (g : Nat) (cs : Array Value) : Array Obj := h.modify g fun
  | .cells _ t frozen => .cells cs t frozen
  | o => o
def tab32 : List Int := [0, 1, 28, 2, 29, 14, 24, 3, 30, 22, 20, 15, 25, 17, 4, 8, 31, 27, 13, 23, 21, 19, 16, 7, 26, 12, 18, 6, 11, 5, 10, 9]
def tab64 : List Int := [0, 1, 56, 2, 57, 49, 28, 3, 61, 58, 42, 50, 38, 29, 17, 4, 62, 47, 59, 36, 45, 43, 51, 22, 53, 39, 33, 30, 24, 18, 12, 5, 63, 55, 48, 27, 60, 41, 37, 16, 46, 35, 44, 21, 52, 32, 23, 11, 54, 26, 40, 15, 34, 20, 31, 10, 25, 14, 19, 9, 13, 8, 7, 6]
end Go.Proofs.YtddnomjfcbplpaaDoor

namespace Go.Proofs.YtddnomjfcbplpaaDoor
open Go.ChangeShapes Go.WideShapes Go.ChangeAt Go.RowKit
open Go.ChangeMaps (open_string shut_string)

/-- The list of the rows of these seats. -/
def laid3 : List (String × DataW Unit) := [("math/bits.deBruijn32tab", Rows.laid_math_bits_deBruijn32tab), ("math/bits.deBruijn64tab", Rows.laid_math_bits_deBruijn64tab), ("internal/strconv.uint64pow10", Rows.laid_internal_strconv_uint64pow10)]
/-- What the walks ask of the library's variables, out of the row's list and the world's shape. -/
theorem gl_of3 {W : World} (hL : laidMetH Tryd.prog laid3 W) (hsh : W.ShapedOpen Tryd.prog) : (∃ m : Int, W.cell? ⟨0, 0, none⟩ = some (.int .i64 m)) ∧ 4 ≤ W.heap.size ∧ Lib.TabIs Tryd.prog W "internal/strconv.uint64pow10" .u64 Lib.pow10Tab := by
  have hL' : laidMet Tryd.prog laid3 W := hL
  have h2 := hL'.tail.tail
  rw [powData] at h2
  have ht := Lib.tabIs_of_head gPow gPowType Tryd.underlying166 Tryd.underlying74 powCell powCells h2
  refine ⟨Go.Proofs.cell_of_shapedOpen_int (zero := #[.int .i64 0]) (t := 3) hsh (of_decide_eq_true (by kernel_rfl)) (by kernel_rfl) rfl (by kernel_rfl) (by kernel_rfl) Tryd.underlying3, ?_, ht⟩
  obtain ⟨zero, t, hz⟩ : ∃ zero t, ((begin Tryd.prog (fun _ _ => 0) default).world.heap[5]?).bind Obj.row? = some (zero, t) := ⟨(List.replicate 64 (Value.int .u8 0)).toArray, 188, by kernel_rfl⟩
  obtain ⟨cs, hc, _⟩ := hsh.1 5 zero t (of_decide_eq_true (by kernel_rfl)) hz
  have := (Array.getElem?_eq_some_iff.1 hc).1
  omega
noncomputable def laidWorld3 (os : Os) : World :=
  let w0 := World.holding Tryd.prog os ⟨#[], #[], []⟩
  let h1 := put w0.heap 1 (Lib.pow10Tab.map fun z => Value.int .u64 z).toArray
  let h2 := put h1 4 (tab32.map fun z => Value.int .u8 z).toArray
  { w0 with heap := put h2 5 (tab64.map fun z => Value.int .u8 z).toArray }
set_option maxRecDepth 1000000 in
theorem laid_met3 (os : Os) (args : Array Value) : laidMet Tryd.prog laid3 ((laidWorld3 os).forCall (fun _ _ => 0) ⟨#[], args, []⟩).memory :=
  laidMet_of_run' 8 (by kernel_rfl) (by kernel_rfl)
end Go.Proofs.YtddnomjfcbplpaaDoor

namespace Go.Proofs.YtddnomjfcbplpaaDoor
namespace Sp
open Go.Lib (index indexByte hasPrefix)

def digit (c : UInt8) : Bool := decide (48 ≤ c.toNat) && decide (c.toNat ≤ 57)
def letter (c : UInt8) : Bool := (decide (97 ≤ c.toNat) && decide (c.toNat ≤ 122)) || (decide (65 ≤ c.toNat) && decide (c.toNat ≤ 90)) || decide (c.toNat = 95)

/-- How many bytes a name takes; the Bool: at its first byte. -/
def nameLen : Bool → List UInt8 → Nat
  | _, [] => 0
  | fst, c :: t => if letter c || (!fst && (digit c || (c.toNat : Int) == 46)) then nameLen false t + 1 else 0

theorem nameLen_le : ∀ (b : Bool) (l : List UInt8), nameLen b l ≤ l.length
  | _, [] => Nat.le_refl _
  | b, c :: t => by
    unfold nameLen
    split
    · have := nameLen_le false t
      simp; omega
    · omega

def isName (l : List UInt8) : Bool := !l.isEmpty && decide (l.length ≤ 20) && decide (nameLen true l = l.length)

/-- Where p bytes ahead and n behind come to; -1 for none. -/
def place (p : Nat) : Option Nat → Int
  | none => -1
  | some n => ((p + n : Nat) : Int)
theorem place_map (p k : Nat) (o : Option Nat) : place p (o.map (· + k)) = place (p + k) o := by
  cases o with
  | none => rfl
  | some n => simp [place]; omega

/-- What stands in quotes, behind the quote q: how many bytes up to the closing one and with it. -/
def quoteEnd (q : UInt8) : List UInt8 → Option Nat
  | [] => none
  | c :: t =>
    if ((c.toNat : Int) == 92) = true then
      match t with
      | [] => none
      | d :: t' => if ((d.toNat : Int) == 10) = true then none else (quoteEnd q t').map (· + 2)
    else if ((c.toNat : Int) == (q.toNat : Int)) = true then some 1
    else if ((c.toNat : Int) == 10) = true then none
    else (quoteEnd q t).map (· + 1)

/-- How many bytes up to a text and with it. -/
def upto (r e : List UInt8) : Option Nat := if 0 ≤ index r e then some ((index r e).toNat + e.length) else none

theorem indexByte_cons (c d : UInt8) (t : List UInt8) : indexByte (c :: t) d = if ((c.toNat : Int) == (d.toNat : Int)) = true then 0 else if indexByte t d = -1 then -1 else indexByte t d + 1 := by
  have e : (c == d) = ((c.toNat : Int) == (d.toNat : Int)) := by
    rw [Bool.eq_iff_iff]; simp; constructor
    · rintro rfl; rfl
    · exact fun h => UInt8.toNat_inj.1 (by omega)
  rw [← e]; simp [indexByte]
theorem indexByte_le (l : List UInt8) (c : UInt8) : indexByte l c < l.length ∨ indexByte l c = -1 := by
  induction l with
  | nil => right; rfl
  | cons b l ih =>
    rw [indexByte_cons]
    have := Go.Lib.indexByte_ge l c
    split
    · left; simp only [List.length_cons]; omega
    · split
      · right; rfl
      · left; simp only [List.length_cons]; omega
/-- How many bytes up to a line's end, or all. -/
def line (r : List UInt8) : Nat := if 0 ≤ indexByte r 10 then (indexByte r 10).toNat else r.length
/-- What is passed over as a whole. -/
def passLen : List UInt8 → Option Nat
  | [] => some 0
  | c :: t =>
    if ((c.toNat : Int) == 34) = true ∨ ((c.toNat : Int) == 39) = true then (quoteEnd c t).map (· + 1)
    else if ((c.toNat : Int) == 96) = true then (upto t [96]).map (· + 1)
    else if hasPrefix (c :: t) [47, 42] = true then (upto (t.drop 1) [42, 47]).map (· + 2)
    else if hasPrefix (c :: t) [47, 47] = true then some (line (c :: t))
    else some 0

theorem passLen_cons (c : UInt8) (t : List UInt8) : passLen (c :: t) =
    if ((c.toNat : Int) == 34) = true ∨ ((c.toNat : Int) == 39) = true then (quoteEnd c t).map (· + 1)
    else if ((c.toNat : Int) == 96) = true then (upto t [96]).map (· + 1)
    else if hasPrefix (c :: t) [47, 42] = true then (upto (t.drop 1) [42, 47]).map (· + 2)
    else if hasPrefix (c :: t) [47, 47] = true then some (line (c :: t))
    else some 0 := rfl
theorem quoteEnd_le (q : UInt8) : ∀ (l : List UInt8) (n : Nat), quoteEnd q l = some n → n ≤ l.length
  | [], n, h => by simp [quoteEnd] at h
  | [c], n, h => by
    unfold quoteEnd at h
    split at h
    · simp at h
    · split at h
      · simp at h; simp; omega
      · split at h
        · simp at h
        · simp [quoteEnd] at h
  | c :: d :: t, n, h => by
    unfold quoteEnd at h
    have ih1 := quoteEnd_le q t
    have ih2 := quoteEnd_le q (d :: t)
    split at h
    · simp only at h
      split at h
      · simp at h
      · obtain ⟨m, hm, rfl⟩ := Option.map_eq_some_iff.1 h
        have := ih1 m hm
        simp; omega
    · split at h
      · simp at h; simp; omega
      · split at h
        · simp at h
        · obtain ⟨m, hm, rfl⟩ := Option.map_eq_some_iff.1 h
          have := ih2 m hm
          simp at *; omega
theorem upto_le (l e : List UInt8) (n : Nat) (h : upto l e = some n) : n ≤ l.length := by
  unfold upto at h
  have := Go.Lib.index_room l e
  split at h
  · simp at h; omega
  · simp at h
theorem line_le (l : List UInt8) : line l ≤ l.length := by
  unfold line
  have := indexByte_le l 10
  split <;> omega
theorem passLen_le (l : List UInt8) (n : Nat) (h : passLen l = some n) : n ≤ l.length := by
  cases l with
  | nil => simp [passLen] at h; omega
  | cons c t =>
    rw [passLen_cons] at h
    split at h
    · obtain ⟨m, hm, rfl⟩ := Option.map_eq_some_iff.1 h
      have := quoteEnd_le c t m hm
      simp; omega
    · split at h
      · obtain ⟨m, hm, rfl⟩ := Option.map_eq_some_iff.1 h
        have := upto_le t _ m hm
        simp; omega
      · split at h
        · rename_i hp
          obtain ⟨m, hm, rfl⟩ := Option.map_eq_some_iff.1 h
          have := upto_le (t.drop 1) _ m hm
          cases t with
          | nil => simp [hasPrefix] at hp
          | cons => simp at *; omega
        · split at h
          · have := line_le (c :: t)
            simp only [Option.some.injEq] at h; omega
          · simp at h; omega

/-- Where an action's text ends: fuel, how deep, what is left. -/
def endGo : Nat → Int → List UInt8 → Option Nat
  | 0, _, _ => none
  | _, _, [] => none
  | f + 1, d, c :: t =>
    match passLen (c :: t) with
    | none => none
    | some (n + 1) => (endGo f d ((c :: t).drop (n + 1))).map (· + (n + 1))
    | some 0 =>
      if ((if ((c.toNat : Int) == 123) = true then d + 1 else if ((c.toNat : Int) == 125) = true then d - 1 else d) == 0) = true then some 1
      else (endGo f (if ((c.toNat : Int) == 123) = true then d + 1 else if ((c.toNat : Int) == 125) = true then d - 1 else d) t).map (· + 1)
def endLen (r : List UInt8) : Option Nat := match r with
  | [] => none
  | c :: _ => if ((c.toNat : Int) == 123) = true then endGo (r.length + 1) 0 r else none

/-- Where an action's text ends that begins at a place; -1: it does not. -/
def endAt (l : List UInt8) (a : Int) : Int := if 0 ≤ a ∧ a < l.length then place a.toNat (endLen (l.drop a.toNat)) else -1

end Sp
end Go.Proofs.YtddnomjfcbplpaaDoor

namespace Go.Proofs.YtddnomjfcbplpaaDoor
namespace Sp
open Go.Lib (index indexByte hasPrefix)

structure Piece where
  kind : Int
  text : List UInt8
  n : Int
  tag : List UInt8
  deriving DecidableEq

def nil : Piece := ⟨0, [], 0, []⟩

/-- How many digits a text begins with. -/
def digits : List UInt8 → Nat
  | [] => 0
  | c :: t => if digit c = true then digits t + 1 else 0
/-- The number that digits spell. -/
def num (l : List UInt8) : Int := (Go.Lib.atoi l).getD 0

/-- What stands behind a dollar and its tag: the piece, how many bytes from the dollar on (0: none), the error. -/
def dollar2 (tag : List UInt8) (off : Nat) (r : List UInt8) : Piece × Nat × Int :=
  if hasPrefix r [36] = true then (⟨2, [], 0, tag⟩, off + 1, 0)
  else if digits r = 0 then (nil, 0, 0)
  else if 3 < digits r then (nil, 0, 6)
  else (⟨3, [], num (r.take (digits r)), tag⟩, off + digits r, 0)
def dollar (r : List UInt8) : Piece × Nat × Int :=
  if hasPrefix r [60] = true then
    if isName ((r.drop 1).take (nameLen true (r.drop 1))) = true ∧ hasPrefix (r.drop (1 + nameLen true (r.drop 1))) [62] = true then
      dollar2 ((r.drop 1).take (nameLen true (r.drop 1))) (nameLen true (r.drop 1) + 3) (r.drop (nameLen true (r.drop 1) + 2))
    else (nil, 0, 0)
  else dollar2 [] 1 r

end Sp
end Go.Proofs.YtddnomjfcbplpaaDoor

namespace Go.Proofs.YtddnomjfcbplpaaDoor
namespace Sp
open Go.Lib (index indexByte hasPrefix)

def flush (t : List UInt8) : List Piece := if t = [] then [] else [⟨1, t, 0, []⟩]
/-- Fuel, the text that stands since the last piece, what is left; none: a number that is too long. -/
def cutGo : Nat → List UInt8 → List UInt8 → Option (List Piece)
  | 0, _, _ => none
  | _ + 1, pend, [] => some (flush pend)
  | f + 1, pend, c :: t =>
    match passLen (c :: t) with
    | none => none
    | some (n + 1) => cutGo f (pend ++ (c :: t).take (n + 1)) ((c :: t).drop (n + 1))
    | some 0 =>
      if ((c.toNat : Int) == 36) = true then
        if ((dollar t).2.2 != 0) = true then none
        else if 0 < (dollar t).2.1 then (cutGo f [] ((c :: t).drop (dollar t).2.1)).map (flush pend ++ (dollar t).1 :: ·)
        else cutGo f (pend ++ [c]) t
      else cutGo f (pend ++ [c]) t
def cutRes : Option (List Piece) → List Piece × Int
  | none => ([], 6)
  | some ps => (ps, 0)
def cut (l : List UInt8) : List Piece × Int :=
  if l = [] ∨ endAt l 0 ≠ l.length then ([], 1)
  else cutRes (cutGo (l.length + 1) [] l)

/-- A text that ends where it ends. -/
def Ok (r : List UInt8) : Prop := r = [] ∨ ∃ f d, endGo f d r = some r.length
theorem Ok.pass {r : List UInt8} (h : Ok r) (hr : r ≠ []) : passLen r ≠ none := by
  rcases h with h | ⟨f, d, h⟩
  · exact absurd h hr
  · cases r with
    | nil => exact absurd rfl hr
    | cons c t =>
      cases f with
      | zero => simp [endGo] at h
      | succ f =>
        intro hn
        simp [endGo, hn] at h
theorem Ok.skip {r : List UInt8} {n : Nat} (h : Ok r) (hp : passLen r = some (n + 1)) : Ok (r.drop (n + 1)) := by
  rcases h with h | ⟨f, d, h⟩
  · subst h; left; rfl
  · cases r with
    | nil => left; rfl
    | cons c t =>
      cases f with
      | zero => simp [endGo] at h
      | succ f =>
        unfold endGo at h
        rw [hp] at h
        simp only at h
        obtain ⟨m, hm, he⟩ := Option.map_eq_some_iff.1 h
        right
        refine ⟨f, d, ?_⟩
        rw [hm, List.length_drop]
        congr 1
        omega
theorem Ok.step {c : UInt8} {t : List UInt8} (h : Ok (c :: t)) (hp : passLen (c :: t) = some 0) : Ok t := by
  rcases h with h | ⟨f, d, h⟩
  · cases h
  · cases f with
    | zero => simp [endGo] at h
    | succ f =>
      unfold endGo at h
      rw [hp] at h
      simp only at h
      generalize (if ((c.toNat : Int) == 123) = true then d + 1 else if ((c.toNat : Int) == 125) = true then d - 1 else d) = d' at h
      split at h
      · left
        simp at h
        exact h
      · obtain ⟨m, hm, he⟩ := Option.map_eq_some_iff.1 h
        right
        refine ⟨f, d', ?_⟩
        rw [hm]
        simp at he
        simp [he]

/-- A byte at which nothing is passed over. -/
def plain (c : UInt8) : Bool := !((c.toNat : Int) == 34) && !((c.toNat : Int) == 39) && !((c.toNat : Int) == 96) && !((c.toNat : Int) == 47)
theorem plain_pass {c : UInt8} (t : List UInt8) (h : plain c = true) : passLen (c :: t) = some 0 := by
  unfold plain at h
  simp only [Bool.and_eq_true, Bool.not_eq_true'] at h
  obtain ⟨⟨⟨h1, h2⟩, h3⟩, h4⟩ := h
  have h5 : c ≠ 47 := by rintro rfl; simp at h4
  have e1 : ¬ hasPrefix (c :: t) [47, 42] = true := by simp [hasPrefix]; exact fun e => absurd e.symm h5
  have e2 : ¬ hasPrefix (c :: t) [47, 47] = true := by simp [hasPrefix]; exact fun e => absurd e.symm h5
  rw [passLen_cons, if_neg (by rw [h1, h2]; simp), if_neg (by rw [h3]; simp), if_neg e1, if_neg e2]
theorem Ok.plains : ∀ (n : Nat) (r : List UInt8), Ok r → (∀ c ∈ r.take n, plain c = true) → Ok (r.drop n)
  | 0, r, h, _ => by simpa using h
  | _ + 1, [], _, _ => by left; rfl
  | n + 1, c :: t, h, hp => by
    have hc := hp c (by simp)
    have := Ok.plains n t (h.step (plain_pass t hc)) (fun x hx => hp x (by simp [hx]))
    simpa using this
theorem digit_plain {c : UInt8} (h : digit c = true) : plain c = true := by
  unfold digit at h; simp at h
  unfold plain; simp; omega
theorem letter_plain {c : UInt8} (h : letter c = true) : plain c = true := by
  unfold letter at h; simp at h
  unfold plain; simp; omega
theorem digits_plain : ∀ (l : List UInt8), ∀ c ∈ l.take (digits l), plain c = true
  | [], c, h => by simp at h
  | b :: t, c, h => by
    unfold digits at h
    by_cases hb : digit b = true
    · rw [if_pos hb] at h
      simp only [List.take_succ_cons, List.mem_cons] at h
      rcases h with rfl | h
      · exact digit_plain hb
      · exact digits_plain t c h
    · rw [if_neg hb] at h; simp at h
theorem name_plain : ∀ (b : Bool) (l : List UInt8), ∀ c ∈ l.take (nameLen b l), plain c = true
  | _, [], c, h => by simp at h
  | b, x :: t, c, h => by
    unfold nameLen at h
    split at h
    · rename_i hx
      simp only [List.take_succ_cons, List.mem_cons] at h
      rcases h with rfl | h
      · simp only [Bool.or_eq_true, Bool.and_eq_true] at hx
        rcases hx with hx | ⟨_, hx | hx⟩
        · exact letter_plain hx
        · exact digit_plain hx
        · unfold plain; simp at hx; simp; omega
      · exact name_plain false t c h
    · simp at h
theorem dollar2_plain (tag : List UInt8) (off : Nat) (r pre : List UInt8) (hpre : ∀ c ∈ pre, plain c = true) (hl : pre.length = off) :
    ∀ c ∈ (pre ++ r).take (dollar2 tag off r).2.1, plain c = true := by
  intro c hc
  unfold dollar2 at hc
  split at hc
  · rename_i h
    cases r with
    | nil => simp [hasPrefix] at h
    | cons d t =>
      simp [hasPrefix] at h
      subst h
      simp only [List.take_append, hl, List.mem_append] at hc
      rcases hc with hc | hc
      · exact hpre c (List.mem_of_mem_take hc)
      · simp at hc
        subst hc; decide
  · split at hc
    · simp at hc
    · split at hc
      · simp at hc
      · simp only [List.take_append, hl, List.mem_append] at hc
        rcases hc with hc | hc
        · exact hpre c (List.mem_of_mem_take hc)
        · rw [Nat.add_sub_cancel_left] at hc
          exact digits_plain r c hc
theorem dollar_plain (c : UInt8) (t : List UInt8) (hc : ((c.toNat : Int) == 36) = true) : ∀ x ∈ (c :: t).take (dollar t).2.1, plain x = true := by
  have hcp : plain c = true := by simp at hc; unfold plain; simp; omega
  unfold dollar
  split
  · rename_i h60
    cases t with
    | nil => simp [hasPrefix] at h60
    | cons d t =>
      simp [hasPrefix] at h60
      subst h60
      simp only [List.drop_succ_cons, List.drop_zero]
      split
      · rename_i hn
        obtain ⟨hn, h62⟩ := hn
        have hm := nameLen_le true t
        generalize hmm : nameLen true t = m at *
        rw [Nat.add_comm 1 m] at h62
        simp only [List.drop_succ_cons] at h62
        cases hd : t.drop m with
        | nil => rw [hd] at h62; simp [hasPrefix] at h62
        | cons e u =>
          rw [hd] at h62
          simp [hasPrefix] at h62
          subst h62
          have ht : c :: 60 :: t = (c :: 60 :: (t.take m ++ [62])) ++ u := by
            simp only [List.cons_append, List.append_assoc, List.nil_append]
            rw [← hd, List.take_append_drop]
          have hu : t.drop (m + 1) = u := by
            rw [← List.drop_drop, hd]; rfl
          rw [hu, ht]
          refine dollar2_plain _ (m + 3) u _ ?_ (by simp; omega)
          intro x hx
          simp only [List.mem_cons, List.mem_append, List.not_mem_nil, or_false] at hx
          rcases hx with rfl | rfl | hx | rfl
          · exact hcp
          · decide
          · rw [← hmm] at hx; exact name_plain true t x hx
          · decide
      · simp
  · have := dollar2_plain [] 1 t [c] (by simpa using hcp) rfl
    simpa using this
theorem Ok.dollar {c : UInt8} {t : List UInt8} (h : Ok (c :: t)) (hc : ((c.toNat : Int) == 36) = true) : Ok ((c :: t).drop (dollar t).2.1) :=
  h.plains _ _ (dollar_plain c t hc)
theorem Ok.start {l : List UInt8} (h : endAt l 0 = l.length) : Ok l := by
  unfold endAt at h
  split at h
  · rename_i h0
    simp only [Int.toNat_zero, List.drop_zero] at h
    cases l with
    | nil => left; rfl
    | cons c t =>
      right
      unfold endLen at h
      simp only at h
      split at h
      · rename_i hc
        refine ⟨(c :: t).length + 1, 0, ?_⟩
        · cases he : endGo ((c :: t).length + 1) 0 (c :: t) with
          | none => rw [he] at h; simp [place] at h; omega
          | some n => rw [he] at h; simp [place] at h; simp; omega
      · simp [place] at h; omega
  · omega

end Sp
end Go.Proofs.YtddnomjfcbplpaaDoor

namespace Go.Proofs.YtddnomjfcbplpaaDoor
namespace Sp
open Go.Lib (index indexByte hasPrefix decDigits decFrom digitVal)

/-- A byte that neither opens nor closes anything. -/
def inner (c : UInt8) : Bool := plain c && !((c.toNat : Int) == 123) && !((c.toNat : Int) == 125)
def nm (tag : Bool) : List UInt8 := if tag = true then [60, 118, 62] else []
def tg (tag : Bool) : List UInt8 := if tag = true then [118] else []
def parts (tag : Bool) (d : List UInt8) : List UInt8 := 123 :: 36 :: (nm tag ++ (d ++ [32, 125]))
/-! ### Numerals -/
end Sp
end Go.Proofs.YtddnomjfcbplpaaDoor

namespace Go.Proofs.YtddnomjfcbplpaaDoor
namespace Sp
open Go.Lib (index indexByte hasPrefix)

def ahead : Nat → List UInt8
  | 0 => [34] | 1 => [39] | 2 => [96] | 3 => [47, 47] | _ => [47, 42]
def behind : Nat → List UInt8
  | 0 => [34] | 1 => [39] | 2 => [96] | 3 => [10] | _ => [42, 47]

end Sp
end Go.Proofs.YtddnomjfcbplpaaDoor

namespace Go.Proofs.YtddnomjfcbplpaaDoor
namespace Sp
open Go.Lib (index indexByte hasPrefix decDigits decFrom digitVal)

/-! ### Alike up to the first dollar -/
def Lk (r r' : List UInt8) : Prop := ∃ x, (36 : UInt8) ∉ x ∧ ((r = x ∧ r' = x) ∨ ∃ a b, r = x ++ 36 :: a ∧ r' = x ++ 36 :: b)
theorem Lk.head {r r' : List UInt8} (h : Lk r r') : r.head? = r'.head? := by
  obtain ⟨x, _, ⟨rfl, rfl⟩ | ⟨a, b, rfl, rfl⟩⟩ := h
  · rfl
  · cases x <;> rfl
theorem Lk.dollar (a b : List UInt8) : Lk (36 :: a) (36 :: b) := ⟨[], by simp, .inr ⟨a, b, rfl, rfl⟩⟩
theorem Lk.cons {r r' : List UInt8} (h : Lk r r') (c : UInt8) : Lk (c :: r) (c :: r') := by
  by_cases hc : c = 36
  · subst hc; exact Lk.dollar _ _
  · obtain ⟨x, hx, h⟩ := h
    refine ⟨c :: x, by simp only [List.mem_cons, not_or]; exact ⟨fun e => hc e.symm, hx⟩, ?_⟩
    rcases h with ⟨rfl, rfl⟩ | ⟨a, b, rfl, rfl⟩
    · exact .inl ⟨rfl, rfl⟩
    · exact .inr ⟨a, b, rfl, rfl⟩
end Sp
end Go.Proofs.YtddnomjfcbplpaaDoor
