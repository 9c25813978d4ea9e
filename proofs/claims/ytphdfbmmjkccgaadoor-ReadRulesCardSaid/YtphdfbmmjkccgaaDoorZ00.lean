/- DERIVED: THE SHELF's CONTRACTS AT THIS DUMP, IN PLAIN WORDS (tools/lay-plain.mjs out of 'TrydShelf.lean', which tools/lay-shelf.mjs wrote): THE SAME DECLARATIONS UNDER THE SAME NAMES: 'import', 'namespace', 'open', 'def', 'theorem' AND NOTHING ELSE: no command of the shelf's: FOR A HAND-IN. Each laying: the table of numbers ('.._ren') and one theorem, a field a fact of the dump's own or the kernel's comparison; each contract: ONE APPLICATION. Small lemmas that all walks of this seat use. The frame that the laws share: the program's own knobs, the library's variables out of a row's list, a world for the witness. Plain functions on lists of bytes: what the functions of layer 5 (texts of actions) compute. No program in sight. Plain functions: pieces of an action's text. Plain functions: an action's text cut into pieces. Plain laws: a dollar with digits between braces is cut into three pieces, or refused. No program in sight. -/
import Derived.Test.YtphdfbmmjkccgaaDoorProg
import Derived.Shelf.Strings.Builder1
import Derived.Shelf.Small.Strs
import Derived.Shelf.Strings.BuilderF
import Derived.Shelf.Strings.BuilderK
import Derived.Shelf.Strconv.Atoi
import Derived.Shelf.Strconv.Itoa0
import Derived.Shelf.Strconv.Itoa1
import Derived.Shelf.LaysM
import Derived.Shelf.Strconv.Itoa2
import Derived.Shelf.Strconv.Itoa3
import Derived.Shelf.Strconv.AtoiErrFast
import Derived.Shelf.Strconv.ParseIntEmpty
import Derived.Shelf.Strconv.AtoiFail
import Derived.Shelf.Strconv.Clone
import Derived.Shelf.Strconv.SyntaxError
import Derived.Shelf.LaysC
import Derived.Shelf.Strconv.ToError
import Derived.Shelf.Strconv.AtoiErr
import Derived.Shelf.Strconv.ErrVar
import Derived.Shelf.Strconv.Lower
import Derived.Shelf.Strconv.ParseUint10
import Derived.Shelf.Strconv.ParseUint10Empty
import Derived.Shelf.Strconv.ParseUint10Any
import Derived.Shelf.Strconv.ParseInt10
import Derived.Shelf.Strconv.AtoiLong
import Derived.Shelf.Strconv.AtoiInnerAll
import Derived.Shelf.Strconv.RangeError
import Derived.Shelf.Strconv.ToErrorRange
import Derived.Shelf.Strconv.AtoiAll
import Derived.Shelf.Strconv.ErrVarAll
import Derived.Shelf.Strconv.ParseUintEmpty
import Derived.Shelf.Strconv.ParseUint10b64
import Derived.Shelf.Strconv.ParseUint10b32
import Derived.Shelf.Strconv.ParseUint10b16
import Derived.Shelf.Strconv.ParseUint10b8
import Derived.Shelf.Strconv.ParseUint10At
import Derived.Shelf.Strconv.ParseInt10At64
import Derived.Shelf.Strconv.ParseInt10At32
import Derived.Shelf.Strconv.ParseInt10At16
import Derived.Shelf.Strconv.ParseInt10At8
import Derived.Shelf.Strconv.ParseInt10All
import Derived.Shelf.Strings.Search1
import Derived.Shelf.Strings.Search2
import Derived.Shelf.Strings.Search3
import Derived.Shelf.Strings.Shaped
import Derived.Shelf.Strings.Prefix
import Derived.Shelf.Strings.BuilderCap
import Derived.Shelf.Slices.Turned
import Derived.WalkKit
import Derived.WalkSpells
import Derived.WalkLawsBesides
import Derived.Lib.Hide
import Derived.Deep.Light
import Derived.Handy
import Derived.Deep.QuietTactic
import Derived.BigQuiet
import Derived.Deep.Draws
import Derived.Lib.Strings
import Derived.Lib.AtoiErrMem
import Derived.Lib.AppendIntMem
import Derived.WalkSmall
import Derived.Shelf.Strings.Builder2
import Derived.Shelf.Lay
import Derived.Test.YtphdfbmmjkccgaaDoorCards
import Derived.Test.YtphdfbmmjkccgaaDoorTie
import Derived.ProofKit
import Derived.OpenShut
import Derived.ShutString
import Derived.ChangeOld
import Derived.Below
import Derived.Deep.DeepHandedRow
import Derived.Lib.LaidTab
import Derived.Stop.LaidErr
import Derived.Lib.Index
import Derived.Lib.IndexMore
import Derived.Lib.Bytealg
import Derived.Lib.Atoi
import Derived.Lib.ItoaNum
namespace Go.Proofs
open Go.Shelf
def Tryd.lays137_ren : Go.Shelf.Ren := ⟨fun | 137 => 50 | 217 => 79 | 266 => 95 | n => n, fun | 9 => 9 | 5 => 5 | 3 => 3 | n => n, fun | n => n⟩
theorem Tryd.lays137 : Go.Proofs.Lays.n137 Tryd.prog Tryd.lays137_ren := {
  mixed := by kernel_rfl
  f137 := Tryd.func50.trans (congrArg some (by kernel_rfl))
  f217 := Tryd.func79.trans (congrArg some (by kernel_rfl))
  f266 := Tryd.func95.trans (congrArg some (by kernel_rfl))
  t3 := Tryd.underlying3
  a3 := Tryd.isAgg3
  z3 := Tryd.sizeOf3
  v3 := Tryd.zeroValue3
  t5 := Tryd.underlying5
  a5 := Tryd.isAgg5
  z5 := Tryd.sizeOf5
  v5 := Tryd.zeroValue5
  t9 := Tryd.underlying9
  a9 := Tryd.isAgg9
  z9 := Tryd.sizeOf9
  v9 := Tryd.zeroValue9 }
open Go.RowKit in
/-- strings.IndexByte: "IndexByte returns the index of the first instance of c in s, or -1 if c is not present in s.": IT RETURNS 'Lib.indexByte s c'; the world is as it was. (LAID: no walk: one application.) -/
theorem Tryd.strings_IndexByte (s : ByteArray) (c : Int) (w : World) :
    Calls Tryd.prog 50 #[.string s, .int .u8 c] w fun e w' => e = .returned (.int .i64 (Lib.indexByte s.data.toList c.toNat.toUInt8)) ∧ w' = w := Any.strings_IndexByte Tryd.lays137 s c w
def Tryd.lays172_ren : Go.Shelf.Ren := ⟨fun | 172 => 64 | 244 => 85 | 245 => 86 | 247 => 100 | 279 => 101 | 280 => 102 | 281 => 103 | 282 => 104 | 287 => 115 | 316 => 116 | 171 => 28 | 205 => 117 | 321 => 121 | 322 => 122 | 243 => 49 | 246 => 78 | 283 => 91 | 284 => 92 | 285 => 93 | 286 => 94 | 129 => 110 | 317 => 109 | 318 => 111 | 319 => 112 | 320 => 113 | 337 => 119 | 338 => 120 | n => n, fun | 9 => 9 | 3 => 3 | 75 => 94 | 76 => 95 | 4 => 4 | 5 => 5 | 167 => 154 | 37 => 68 | 0 => 0 | 85 => 155 | 2 => 2 | 168 => 157 | 53 => 67 | 175 => 170 | 46 => 152 | 210 => 174 | 127 => 123 | 145 => 181 | 143 => 179 | 21 => 21 | 171 => 147 | 173 => 150 | 212 => 163 | 51 => 164 | 20 => 20 | 213 => 165 | 232 => 182 | 233 => 183 | 80 => 101 | n => n, fun | 15 => 2 | 16 => 3 | 17 => 1 | 18 => 4 | 19 => 5 | n => n⟩
theorem Tryd.lays172 : Go.Proofs.Lays.n172 Tryd.prog Tryd.lays172_ren := {
  mixed := by kernel_rfl
  f129 := Tryd.func110.trans (congrArg some (by kernel_rfl))
  f171 := Tryd.func28.trans (congrArg some (by kernel_rfl))
  f172 := Tryd.func64.trans (congrArg some (by kernel_rfl))
  f205 := Tryd.func117.trans (congrArg some (by kernel_rfl))
  f243 := Tryd.func49.trans (congrArg some (by kernel_rfl))
  f244 := Tryd.func85.trans (congrArg some (by kernel_rfl))
  f245 := Tryd.func86.trans (congrArg some (by kernel_rfl))
  f246 := Tryd.func78.trans (congrArg some (by kernel_rfl))
  f247 := Tryd.func100.trans (congrArg some (by kernel_rfl))
  f279 := Tryd.func101.trans (congrArg some (by kernel_rfl))
  f280 := Tryd.func102.trans (congrArg some (by kernel_rfl))
  f281 := Tryd.func103.trans (congrArg some (by kernel_rfl))
  f282 := Tryd.func104.trans (congrArg some (by kernel_rfl))
  f283 := Tryd.func91.trans (congrArg some (by kernel_rfl))
  f284 := Tryd.func92.trans (congrArg some (by kernel_rfl))
  f285 := Tryd.func93.trans (congrArg some (by kernel_rfl))
  f286 := Tryd.func94.trans (congrArg some (by kernel_rfl))
  f287 := Tryd.func115.trans (congrArg some (by kernel_rfl))
  f316 := Tryd.func116.trans (congrArg some (by kernel_rfl))
  f317 := Tryd.func109.trans (congrArg some (by kernel_rfl))
  f318 := Tryd.func111.trans (congrArg some (by kernel_rfl))
  f319 := Tryd.func112.trans (congrArg some (by kernel_rfl))
  f320 := Tryd.func113.trans (congrArg some (by kernel_rfl))
  f321 := Tryd.func121.trans (congrArg some (by kernel_rfl))
  f322 := Tryd.func122.trans (congrArg some (by kernel_rfl))
  f337 := Tryd.func119.trans (congrArg some (by kernel_rfl))
  f338 := Tryd.func120.trans (congrArg some (by kernel_rfl))
  t0 := Tryd.underlying0
  a0 := Tryd.isAgg0
  z0 := Tryd.sizeOf0
  v0 := Tryd.zeroValue0
  t2 := Tryd.underlying2
  a2 := Tryd.isAgg2
  z2 := Tryd.sizeOf2
  v2 := Tryd.zeroValue2
  t3 := Tryd.underlying3
  a3 := Tryd.isAgg3
  z3 := Tryd.sizeOf3
  v3 := Tryd.zeroValue3
  t4 := Tryd.underlying4
  a4 := Tryd.isAgg4
  z4 := Tryd.sizeOf4
  v4 := Tryd.zeroValue4
  t5 := Tryd.underlying5
  a5 := Tryd.isAgg5
  z5 := Tryd.sizeOf5
  v5 := Tryd.zeroValue5
  t9 := Tryd.underlying9
  a9 := Tryd.isAgg9
  z9 := Tryd.sizeOf9
  v9 := Tryd.zeroValue9
  t20 := Tryd.underlying20
  a20 := Tryd.isAgg20
  z20 := Tryd.sizeOf20
  v20 := Tryd.zeroValue20
  t21 := Tryd.underlying21
  a21 := Tryd.isAgg21
  z21 := Tryd.sizeOf21
  v21 := Tryd.zeroValue21
  t37 := Tryd.underlying68
  a37 := Tryd.isAgg68
  z37 := Tryd.sizeOf68
  v37 := Tryd.zeroValue68
  t46 := Tryd.underlying152
  a46 := Tryd.isAgg152
  z46 := Tryd.sizeOf152
  v46 := Tryd.zeroValue152
  t51 := Tryd.underlying164
  a51 := Tryd.isAgg164
  z51 := Tryd.sizeOf164
  v51 := Tryd.zeroValue164
  t53 := Tryd.underlying67
  a53 := Tryd.isAgg67
  z53 := Tryd.sizeOf67
  v53 := Tryd.zeroValue67
  t75 := Tryd.underlying94
  a75 := Tryd.isAgg94
  z75 := Tryd.sizeOf94
  v75 := Tryd.zeroValue94
  t76 := Tryd.underlying95
  a76 := Tryd.isAgg95
  z76 := Tryd.sizeOf95
  v76 := Tryd.zeroValue95
  t85 := Tryd.underlying155
  a85 := Tryd.isAgg155
  z85 := Tryd.sizeOf155
  v85 := Tryd.zeroValue155
  t127 := Tryd.underlying123
  a127 := Tryd.isAgg123
  z127 := Tryd.sizeOf123
  v127 := Tryd.zeroValue123
  t143 := Tryd.underlying179
  a143 := Tryd.isAgg179
  z143 := Tryd.sizeOf179
  v143 := Tryd.zeroValue179
  t145 := Tryd.underlying181
  a145 := Tryd.isAgg181
  z145 := Tryd.sizeOf181
  v145 := Tryd.zeroValue181
  t167 := Tryd.underlying154
  a167 := Tryd.isAgg154
  z167 := Tryd.sizeOf154
  v167 := Tryd.zeroValue154
  t168 := Tryd.underlying157
  a168 := Tryd.isAgg157
  z168 := Tryd.sizeOf157
  v168 := Tryd.zeroValue157
  t171 := Tryd.underlying147
  a171 := Tryd.isAgg147
  z171 := Tryd.sizeOf147
  v171 := Tryd.zeroValue147
  t173 := Tryd.underlying150
  a173 := Tryd.isAgg150
  z173 := Tryd.sizeOf150
  v173 := Tryd.zeroValue150
  t175 := Tryd.underlying170
  a175 := Tryd.isAgg170
  z175 := Tryd.sizeOf170
  v175 := Tryd.zeroValue170
  t210 := Tryd.underlying174
  a210 := Tryd.isAgg174
  z210 := Tryd.sizeOf174
  v210 := Tryd.zeroValue174
  t212 := Tryd.underlying163
  a212 := Tryd.isAgg163
  z212 := Tryd.sizeOf163
  v212 := Tryd.zeroValue163
  t213 := Tryd.underlying165
  a213 := Tryd.isAgg165
  z213 := Tryd.sizeOf165
  t232 := Tryd.underlying182
  a232 := Tryd.isAgg182
  z232 := Tryd.sizeOf182
  v232 := Tryd.zeroValue182
  t233 := Tryd.underlying183
  a233 := Tryd.isAgg183
  z233 := Tryd.sizeOf183
  v233 := Tryd.zeroValue183
  g15 := by kernel_rfl
  g16 := by kernel_rfl
  g17 := by kernel_rfl
  g18 := by kernel_rfl
  g19 := by kernel_rfl }
open Go.RowKit in
/-- strconv.Atoi: "Atoi is equivalent to ParseInt(s, 10, 0), converted to type int.": AT A DECIMAL NUMERAL OF AT MOST 18 BYTES: its value, and a nil error. The world behind the call: the one new row that the library's '[]byte(s)' lays. (LAID: no walk: one application.) -/
theorem Tryd.strconv_Atoi (s : ByteArray) (n : Int) (hl : s.size ≤ 18) (h : Lib.atoi s.data.toList = some n) (w : World) :
    Calls Tryd.prog 64 #[.string s] w fun e w' => e = .returned (.tuple #[.int .i64 n, .nilIface]) ∧ ∃ t, w' = Lib.bytesWorld w 5 t := Any.strconv_Atoi Tryd.lays172 s n hl h w
def Tryd.lays143_ren : Go.Shelf.Ren := ⟨fun | 143 => 54 | 219 => 81 | 217 => 79 | 225 => 96 | 224 => 97 | 267 => 98 | 266 => 95 | 314 => 114 | n => n, fun | 9 => 9 | 3 => 3 | 4 => 4 | 5 => 5 | 46 => 152 | 146 => 168 | 51 => 164 | n => n, fun | 1 => 0 | n => n⟩
theorem Tryd.lays143 : Go.Proofs.Lays.n143 Tryd.prog Tryd.lays143_ren := {
  mixed := by kernel_rfl
  f143 := Tryd.func54.trans (congrArg some (by kernel_rfl))
  f217 := Tryd.func79.trans (congrArg some (by kernel_rfl))
  f219 := Tryd.func81.trans (congrArg some (by kernel_rfl))
  f224 := Tryd.func97.trans (congrArg some (by kernel_rfl))
  f225 := Tryd.func96.trans (congrArg some (by kernel_rfl))
  f266 := Tryd.func95.trans (congrArg some (by kernel_rfl))
  f267 := Tryd.func98.trans (congrArg some (by kernel_rfl))
  f314 := Tryd.func114.trans (congrArg some (by kernel_rfl))
  t3 := Tryd.underlying3
  a3 := Tryd.isAgg3
  z3 := Tryd.sizeOf3
  v3 := Tryd.zeroValue3
  t4 := Tryd.underlying4
  a4 := Tryd.isAgg4
  z4 := Tryd.sizeOf4
  v4 := Tryd.zeroValue4
  t5 := Tryd.underlying5
  a5 := Tryd.isAgg5
  z5 := Tryd.sizeOf5
  v5 := Tryd.zeroValue5
  t9 := Tryd.underlying9
  a9 := Tryd.isAgg9
  z9 := Tryd.sizeOf9
  v9 := Tryd.zeroValue9
  t46 := Tryd.underlying152
  a46 := Tryd.isAgg152
  z46 := Tryd.sizeOf152
  v46 := Tryd.zeroValue152
  t51 := Tryd.underlying164
  a51 := Tryd.isAgg164
  z51 := Tryd.sizeOf164
  v51 := Tryd.zeroValue164
  t146 := Tryd.underlying168
  a146 := Tryd.isAgg168
  z146 := Tryd.sizeOf168
  v146 := Tryd.zeroValue168
  g1 := by kernel_rfl }
open Go.RowKit Go.Lib in
/-- strings.Index: "Index returns the index of the first instance of substr in s, or -1 if substr is not present in s.": IT RETURNS 'Lib.index s substr'; the world is as it was. (LAID: no walk: one application.) -/
theorem Tryd.strings_Index (s sub : ByteArray) (m : Int) (w : World) (hs : s.size < 4294967281) (hm : w.cell? ⟨0, 0, none⟩ = some (.int .i64 m)) :
    Calls Tryd.prog 54 #[.string s, .string sub] w fun e w' => e = .returned (.int .i64 (Lib.index s.data.toList sub.data.toList)) ∧ w' = w := Any.strings_Index Tryd.lays143 s sub m w hs hm
def Tryd.lays99_ren : Go.Shelf.Ren := ⟨fun | 99 => 51 | 206 => 80 | n => n, fun | 9 => 9 | 4 => 4 | 3 => 3 | n => n, fun | n => n⟩
theorem Tryd.lays99 : Go.Proofs.Lays.n99 Tryd.prog Tryd.lays99_ren := {
  mixed := by kernel_rfl
  f99 := Tryd.func51.trans (congrArg some (by kernel_rfl))
  f206 := Tryd.func80.trans (congrArg some (by kernel_rfl))
  t3 := Tryd.underlying3
  a3 := Tryd.isAgg3
  z3 := Tryd.sizeOf3
  v3 := Tryd.zeroValue3
  t4 := Tryd.underlying4
  a4 := Tryd.isAgg4
  z4 := Tryd.sizeOf4
  v4 := Tryd.zeroValue4
  t9 := Tryd.underlying9
  a9 := Tryd.isAgg9
  z9 := Tryd.sizeOf9
  v9 := Tryd.zeroValue9 }
open Go.RowKit Go.Lib in
/-- strings.HasPrefix: "HasPrefix reports whether the string s begins with prefix.": IT RETURNS 'Lib.hasPrefix s prefix'; the world is as it was. (LAID: no walk: one application.) -/
theorem Tryd.strings_HasPrefix (s p : ByteArray) (w : World) :
    Calls Tryd.prog 51 #[.string s, .string p] w fun e w' => e = .returned (.bool (Lib.hasPrefix s.data.toList p.data.toList)) ∧ w' = w := Any.strings_HasPrefix Tryd.lays99 s p w
def Tryd.lays110_ren : Go.Shelf.Ren := ⟨fun | 110 => 84 | 109 => 99 | n => n, fun | 31 => 47 | 9 => 9 | 4 => 4 | 3 => 3 | 0 => 0 | n => n, fun | n => n⟩
theorem Tryd.lays110 : Go.Proofs.Lays.n110 Tryd.prog Tryd.lays110_ren := {
  mixed := by kernel_rfl
  f109 := Tryd.func99.trans (congrArg some (by kernel_rfl))
  f110 := Tryd.func84.trans (congrArg some (by kernel_rfl))
  t0 := Tryd.underlying0
  a0 := Tryd.isAgg0
  z0 := Tryd.sizeOf0
  v0 := Tryd.zeroValue0
  t3 := Tryd.underlying3
  a3 := Tryd.isAgg3
  z3 := Tryd.sizeOf3
  v3 := Tryd.zeroValue3
  t4 := Tryd.underlying4
  a4 := Tryd.isAgg4
  z4 := Tryd.sizeOf4
  v4 := Tryd.zeroValue4
  t9 := Tryd.underlying9
  a9 := Tryd.isAgg9
  z9 := Tryd.sizeOf9
  v9 := Tryd.zeroValue9
  t31 := Tryd.underlying47
  a31 := Tryd.isAgg47
  z31 := Tryd.sizeOf47
  v31 := Tryd.zeroValue47 }
open Go.Lib in
/-- slices.Contains at []string: "Contains reports whether v is present in s.": IT RETURNS 'Lib.containsS (the elements) v', which is true just where v is among them ('Lib.containsS_iff'); the world is as it was. ITS CALLEE slices.Index IS MET BY ITS OWN CONTRACT OFF THE SHELF (lay that first): no loop is walked here. (LAID: no walk: one application.) -/
theorem Tryd.slices_Contains_string (b off n c : Nat) (zs : List ByteArray) (x : ByteArray) (w : World) (hz : n ≤ zs.length) (hbig : n ≤ 9223372036854775807) (hc : ∀ j, j < zs.length → w.cell? ⟨b, off + j, none⟩ = some (.string (zs.getD j ByteArray.empty))) :
    Calls Tryd.prog 84 #[.slice (some ⟨b, off, none⟩) n c, .string x] w fun e w' => e = .returned (.bool (Lib.containsS (zs.take n) x)) ∧ w' = w := Any.slices_Contains_string Tryd.lays110 b off n c zs x w hz hbig hc
end Go.Proofs

namespace Go.Proofs.YtphdfbmmjkccgaaDoor
open Go.RowKit

theorem ret_bool {a b : Bool} (h : a = b) : Ending.returned (.bool a) = .returned (.bool b) := by rw [h]
theorem ret_int {k : IntKind} {a b : Int} (h : a = b) : Ending.returned (.int k a) = .returned (.int k b) := by rw [h]
theorem drop_at (s : ByteArray) (k : Nat) (h : k < s.size) : s.data.toList.drop k = s[k] :: s.data.toList.drop (k + 1) := by
  have h' : k < s.data.toList.length := by simpa using h
  rw [List.drop_eq_getElem_cons h']; rfl
theorem drop_end (s : ByteArray) (k : Nat) (h : ¬ k < s.size) : s.data.toList.drop k = [] := List.drop_of_length_le (by simp; omega)
theorem ext_end (s : ByteArray) (a : Nat) : (s.extract a s.size).data.toList = s.data.toList.drop a := by
  rw [Lib.extract_data]; exact List.take_of_length_le (by simp)
theorem ext_any (s : ByteArray) (a b : Nat) : (s.extract a b).data.toList = (s.data.toList.drop a).take (b - a) := Lib.extract_data s a b

/-- What the library's own variables hold: bytealg.MaxLen some number; the table of the powers of ten. -/
def Gl (w : World) : Prop := (∃ m : Int, w.cell? ⟨0, 0, none⟩ = some (.int .i64 m)) ∧ 6 ≤ w.heap.size ∧ Lib.TabIs Tryd.prog w "internal/strconv.uint64pow10" .u64 Lib.pow10Tab
theorem Gl.drewN {w : World} (h : Gl w) (n : Nat) : Gl (w.drewN n) := h
theorem strings_Index_gl (s sub : ByteArray) (w : World) (hs : s.size < 4294967281) (hg : Gl w) :
    Calls Tryd.prog 54 #[.string s, .string sub] w fun e w' => e = .returned (.int .i64 (Lib.index s.data.toList sub.data.toList)) ∧ w = w' := by
  obtain ⟨⟨m, hm⟩, _⟩ := hg
  exact (Tryd.strings_Index s sub m w hs hm).mono fun _ _ ⟨h1, h2⟩ => ⟨h1, h2.symm⟩
theorem strings_HasPrefix_gl (s p : ByteArray) (w : World) :
    Calls Tryd.prog 51 #[.string s, .string p] w fun e w' => e = .returned (.bool (Lib.hasPrefix s.data.toList p.data.toList)) ∧ w = w' :=
  (Tryd.strings_HasPrefix s p w).mono fun _ _ ⟨h1, h2⟩ => ⟨h1, h2.symm⟩
theorem strings_IndexByte_gl (s : ByteArray) (c : Int) (w : World) :
    Calls Tryd.prog 50 #[.string s, .int .u8 c] w fun e w' => e = .returned (.int .i64 (Lib.indexByte s.data.toList c.toNat.toUInt8)) ∧ w = w' :=
  (Tryd.strings_IndexByte s c w).mono fun _ _ ⟨h1, h2⟩ => ⟨h1, h2.symm⟩
theorem Gl.below {w w' : World} (h : Gl w) (hb : Below w.heap.size w w') : Gl w' := by
  obtain ⟨⟨m, hm⟩, hz, ht⟩ := h
  have hs := hb.size
  have h0 : w'.heap[1]? = w.heap[1]? := hb.block _ (by omega)
  refine ⟨⟨m, (hb.cell (p := ⟨0, 0, none⟩) (by show 0 < _; omega)).trans hm⟩, by omega, ?_⟩
  exact var?_below hb (by kernel_rfl : Tryd.prog.globalNamed "internal/strconv.uint64pow10" = some 1) (by omega) ht
theorem Gl.alloc {w : World} (h : Gl w) (o : Obj) : Gl (w.alloc o) := h.below ((Below.refl _ _).alloc (Nat.le_refl _) o)
theorem strconv_Atoi_gl (s : ByteArray) (n : Int) (hl : s.size ≤ 18) (h : Lib.atoi s.data.toList = some n) (w : World) :
    Calls Tryd.prog 64 #[.string s] w fun e w' => e = .returned (.tuple #[.int .i64 n, .nilIface]) ∧ Below w.heap.size w w' :=
  (Tryd.strconv_Atoi s n hl h w).mono fun _ _ ⟨h1, _, h2⟩ => ⟨h1, h2 ▸ Lib.bytesWorld_below _ _ _⟩
/-! ### Results that lie in memory -/
section
variable {P : Program} {fn : Func} {R : Ending → World → Prop} {a : Act} {W : World} {g : Nat} {t ty : TypeId} {cs : Array Value} {fr : Nat × Nat} {d : TypeDesc} {p u x : Tmp}
theorem ret_cell (hf : fn.results = #[.cell p ty]) (hp : a.tmps.getD p undef = .pointer (some ⟨g, 0, none⟩)) (hg : W.heap[g]? = some (.cells cs t fr))
    (hd : (match d with | .struct _ | .array _ _ => true | _ => false) = true) (hu : P.underlying ty = some d) (hi : (P.info? ty).map (·.size) = some cs.size)
    (hdef : a.defers = []) (hR : R (.returned (.agg cs)) W) : bodyPost P fn R .ret a W := by
  refine bodyPost_ret ?_ hdef hR
  have hl := run_loadVar_row (P := P) W g t ty cs fr d hg hu (by cases d <;> simp_all) hi
  have hp' : a.tmps[p]?.getD undef = .pointer (some ⟨g, 0, none⟩) := by simpa using hp
  simp [results, hf, hp', asAddr, hl]
theorem ret_cell_tmp (hf : fn.results = #[.cell p ty, .tmp u]) (hp : a.tmps.getD p undef = .pointer (some ⟨g, 0, none⟩)) (hg : W.heap[g]? = some (.cells cs t fr))
    (hd : (match d with | .struct _ | .array _ _ => true | _ => false) = true) (hu : P.underlying ty = some d) (hi : (P.info? ty).map (·.size) = some cs.size)
    (hdef : a.defers = []) (hR : R (.returned (.tuple #[.agg cs, a.tmps.getD u undef])) W) : bodyPost P fn R .ret a W := by
  refine bodyPost_ret ?_ hdef hR
  have hl := run_loadVar_row (P := P) W g t ty cs fr d hg hu (by cases d <;> simp_all) hi
  have hp' : a.tmps[p]?.getD undef = .pointer (some ⟨g, 0, none⟩) := by simpa using hp
  simp [results, hf, hp', asAddr, hl]
end
theorem heap_setCell_at {w : World} {b i : Nat} {v : Value} {c : Array Value} {t : TypeId} {fr : Nat × Nat} (h : w.heap[b]? = some (.cells c t fr)) :
    (w.setCell ⟨b, i, none⟩ v).heap[b]? = some (.cells (c.setIfInBounds i v) t fr) := by
  simp [World.setCell, Array.getElem?_modify, h]
theorem cell_at {w : World} {b i : Nat} {c : Array Value} {t : TypeId} {fr : Nat × Nat} (h : w.heap[b]? = some (.cells c t fr)) : w.cell? ⟨b, i, none⟩ = c[i]? := by
  simp [World.cell?, h]
theorem frozen_at {w : World} {b i : Nat} {c : Array Value} {t : TypeId} (h : w.heap[b]? = some (.cells c t (0, 0))) : w.frozen? ⟨b, i, none⟩ = false := by
  simp [World.frozen?, h]
theorem lt_at {w : World} {b : Nat} {o : Obj} (h : w.heap[b]? = some o) : b < w.heap.size := (Array.getElem?_eq_some_iff.1 h).1
theorem heap_last (w : World) (o : Obj) : (w.alloc o).heap[w.heap.size]? = some o := heap_alloc_new w o

end Go.Proofs.YtphdfbmmjkccgaaDoor

namespace Go.Proofs.YtphdfbmmjkccgaaDoor
open Go.ChangeShapes Go.WideShapes Go.ChangeAt Go.RowKit
open Go.ChangeMaps (open_string shut_string)

theorem own : ownKnob Tryd.prog.godebug = none := by kernel_rfl
theorem laidOut : laidOutB Tryd.prog = true := by kernel_rfl

/-- The list of the rows of this seat (variable 3 is one of them). -/
def laid5 : List (String × DataW Unit) := [("math/bits.deBruijn32tab", Rows.laid_math_bits_deBruijn32tab), ("math/bits.deBruijn64tab", Rows.laid_math_bits_deBruijn64tab), ("internal/strconv.uint64pow10", Rows.laid_internal_strconv_uint64pow10), ("strconv.ErrRange", Rows.laid_strconv_ErrRange), ("strconv.ErrSyntax", Rows.laid_strconv_ErrSyntax)]
theorem gPow : Tryd.prog.globalNamed "internal/strconv.uint64pow10" = some 1 := by kernel_rfl
theorem gPowType : (Tryd.prog.globals[1]?).map (·.type) = some 163 := by kernel_rfl
theorem powCells : Tryd.prog.cellsOf 163 = 20 := by kernel_rfl
theorem powCell : Tryd.prog.cellsOf 67 = 1 := by kernel_rfl
theorem powData : (Rows.laid_internal_strconv_uint64pow10 : DataW Unit) = Lib.tabData .u64 Lib.pow10Tab := by kernel_rfl

/-- What the walks ask of the library's variables, out of the row's list and the world's shape. -/
theorem gl_of {W : World} (hL : laidMetH Tryd.prog laid5 W) (hsh : W.ShapedOpen Tryd.prog) : Gl W := by
  have hL' : laidMet Tryd.prog laid5 W := hL
  have h2 := hL'.tail.tail
  rw [powData] at h2
  have ht := Lib.tabIs_of_head gPow gPowType Tryd.underlying163 Tryd.underlying67 powCell powCells h2
  refine ⟨Go.Proofs.cell_of_shapedOpen_int (zero := #[.int .i64 0]) (t := 3) hsh (of_decide_eq_true (by kernel_rfl)) (by kernel_rfl) rfl (by kernel_rfl) (by kernel_rfl) Tryd.underlying3, ?_, ht⟩
  obtain ⟨zero, t, hz⟩ : ∃ zero t, ((begin Tryd.prog (fun _ _ => 0) default).world.heap[5]?).bind Obj.row? = some (zero, t) := ⟨(List.replicate 64 (Value.int .u8 0)).toArray, 183, by kernel_rfl⟩
  obtain ⟨cs, hc, _⟩ := hsh.1 5 zero t (of_decide_eq_true (by kernel_rfl)) hz
  have := (Array.getElem?_eq_some_iff.1 hc).1
  omega

/-! ### A world for the witness -/
abbrev synS : ByteArray := { data := #[105, 110, 118, 97, 108, 105, 100, 32, 115, 121, 110, 116, 97, 120] }
abbrev rngS : ByteArray := { data := #[118, 97, 108, 117, 101, 32, 111, 117, 116, 32, 111, 102, 32, 114, 97, 110, 103, 101] }
def put (h : Array Obj) (g : Nat) (cs : Array Value) : Array Obj := h.modify g fun
  | .cells _ t frozen => .cells cs t frozen
  | o => o
def tab32 : List Int := [0, 1, 28, 2, 29, 14, 24, 3, 30, 22, 20, 15, 25, 17, 4, 8, 31, 27, 13, 23, 21, 19, 16, 7, 26, 12, 18, 6, 11, 5, 10, 9]
def tab64 : List Int := [0, 1, 56, 2, 57, 49, 28, 3, 61, 58, 42, 50, 38, 29, 17, 4, 62, 47, 59, 36, 45, 43, 51, 22, 53, 39, 33, 30, 24, 18, 12, 5, 63, 55, 48, 27, 60, 41, 37, 16, 46, 35, 44, 21, 52, 32, 23, 11, 54, 26, 40, 15, 34, 20, 31, 10, 25, 14, 19, 9, 13, 8, 7, 6]
noncomputable def laidWorld (os : Os) : World :=
  let N := (World.settled Tryd.prog os).heap.size
  let w0 := World.holding Tryd.prog os ⟨#[.cells #[.string synS] 181, .cells #[.string rngS] 181], #[], []⟩
  let h0 := put (put w0.heap 2 #[.iface 179 (.pointer (some ⟨N, 0, none⟩))]) 3 #[.iface 179 (.pointer (some ⟨N + 1, 0, none⟩))]
  let h1 := put h0 1 (Lib.pow10Tab.map fun z => Value.int .u64 z).toArray
  let h2 := put h1 4 (tab32.map fun z => Value.int .u8 z).toArray
  { w0 with heap := put h2 5 (tab64.map fun z => Value.int .u8 z).toArray }
set_option maxRecDepth 1000000 in
theorem laid_met (os : Os) (args : Array Value) : laidMet Tryd.prog laid5 ((laidWorld os).forCall (fun _ _ => 0) ⟨#[], args, []⟩).memory :=
  laidMet_of_run' 8 (by kernel_rfl) (by kernel_rfl)
end Go.Proofs.YtphdfbmmjkccgaaDoor

namespace Go.Proofs.YtphdfbmmjkccgaaDoor
namespace Sp
open Go.Lib (index indexByte hasPrefix)

def digit (c : UInt8) : Bool := decide (48 ≤ c.toNat) && decide (c.toNat ≤ 57)
def letter (c : UInt8) : Bool := (decide (97 ≤ c.toNat) && decide (c.toNat ≤ 122)) || (decide (65 ≤ c.toNat) && decide (c.toNat ≤ 90)) || decide (c.toNat = 95)

/-- How many bytes a name takes; the Bool: at its first byte. -/
def nameLen : Bool → List UInt8 → Nat
  | _, [] => 0
  | fst, c :: t => if letter c || (!fst && (digit c || (c.toNat : Int) == 46)) then nameLen false t + 1 else 0

theorem nameLen_le : ∀ (b : Bool) (l : List UInt8), nameLen b l ≤ l.length
  | _, [] => Nat.le_refl _
  | b, c :: t => by
    unfold nameLen
    split
    · have := nameLen_le false t
      simp; omega
    · omega

def isName (l : List UInt8) : Bool := !l.isEmpty && decide (l.length ≤ 20) && decide (nameLen true l = l.length)

/-- Where p bytes ahead and n behind come to; -1 for none. -/
def place (p : Nat) : Option Nat → Int
  | none => -1
  | some n => ((p + n : Nat) : Int)
theorem place_map (p k : Nat) (o : Option Nat) : place p (o.map (· + k)) = place (p + k) o := by
  cases o with
  | none => rfl
  | some n => simp [place]; omega

/-- What stands in quotes, behind the quote q: how many bytes up to the closing one and with it. -/
def quoteEnd (q : UInt8) : List UInt8 → Option Nat
  | [] => none
  | c :: t =>
    if ((c.toNat : Int) == 92) = true then
      match t with
      | [] => none
      | d :: t' => if ((d.toNat : Int) == 10) = true then none else (quoteEnd q t').map (· + 2)
    else if ((c.toNat : Int) == (q.toNat : Int)) = true then some 1
    else if ((c.toNat : Int) == 10) = true then none
    else (quoteEnd q t).map (· + 1)

/-- How many bytes up to a text and with it. -/
def upto (r e : List UInt8) : Option Nat := if 0 ≤ index r e then some ((index r e).toNat + e.length) else none

theorem index_cons (b : UInt8) (l sub : List UInt8) : index (b :: l) sub = if sub.isPrefixOf (b :: l) = true then 0 else if index l sub = -1 then -1 else index l sub + 1 := by
  simp [index]
theorem upto_cons (c d : UInt8) (t e : List UInt8) : upto (c :: t) (d :: e) = if hasPrefix (c :: t) (d :: e) = true then some (e.length + 1) else (upto t (d :: e)).map (· + 1) := by
  unfold upto hasPrefix
  rw [index_cons]
  have := Go.Lib.index_ge t (d :: e)
  by_cases h : (d :: e).isPrefixOf (c :: t) = true
  · simp [h]
  · rw [if_neg h, if_neg h]
    by_cases h2 : index t (d :: e) = -1
    · simp [h2]
    · rw [if_neg h2, if_pos (by omega), if_pos (by omega)]
      simp; omega
theorem hasPrefix_one (c d : UInt8) (t : List UInt8) : hasPrefix (c :: t) [d] = ((c.toNat : Int) == (d.toNat : Int)) := by
  rw [Bool.eq_iff_iff]; simp [hasPrefix]
  constructor
  · rintro rfl; rfl
  · intro h; exact (UInt8.toNat_inj.1 (by omega)).symm
theorem indexByte_cons (c d : UInt8) (t : List UInt8) : indexByte (c :: t) d = if ((c.toNat : Int) == (d.toNat : Int)) = true then 0 else if indexByte t d = -1 then -1 else indexByte t d + 1 := by
  have e : (c == d) = ((c.toNat : Int) == (d.toNat : Int)) := by
    rw [Bool.eq_iff_iff]; simp; constructor
    · rintro rfl; rfl
    · exact fun h => UInt8.toNat_inj.1 (by omega)
  rw [← e]; simp [indexByte]
theorem indexByte_le (l : List UInt8) (c : UInt8) : indexByte l c < l.length ∨ indexByte l c = -1 := by
  induction l with
  | nil => right; rfl
  | cons b l ih =>
    rw [indexByte_cons]
    have := Go.Lib.indexByte_ge l c
    split
    · left; simp only [List.length_cons]; omega
    · split
      · right; rfl
      · left; simp only [List.length_cons]; omega
/-- How many bytes up to a line's end, or all. -/
def line (r : List UInt8) : Nat := if 0 ≤ indexByte r 10 then (indexByte r 10).toNat else r.length
theorem line_cons (c : UInt8) (t : List UInt8) : line (c :: t) = if ((c.toNat : Int) == 10) = true then 0 else line t + 1 := by
  unfold line
  rw [indexByte_cons]
  have := Go.Lib.indexByte_ge t 10
  by_cases h : ((c.toNat : Int) == 10) = true
  · simp_all
  · have h' : ¬ ((c.toNat : Int) == ((10 : UInt8).toNat : Int)) = true := h
    rw [if_neg h, if_neg h']
    by_cases h2 : indexByte t 10 = -1
    · simp [h2]
    · rw [if_neg h2, if_pos (by omega), if_pos (by omega)]
      omega

/-- What is passed over as a whole. -/
def passLen : List UInt8 → Option Nat
  | [] => some 0
  | c :: t =>
    if ((c.toNat : Int) == 34) = true ∨ ((c.toNat : Int) == 39) = true then (quoteEnd c t).map (· + 1)
    else if ((c.toNat : Int) == 96) = true then (upto t [96]).map (· + 1)
    else if hasPrefix (c :: t) [47, 42] = true then (upto (t.drop 1) [42, 47]).map (· + 2)
    else if hasPrefix (c :: t) [47, 47] = true then some (line (c :: t))
    else some 0

theorem passLen_cons (c : UInt8) (t : List UInt8) : passLen (c :: t) =
    if ((c.toNat : Int) == 34) = true ∨ ((c.toNat : Int) == 39) = true then (quoteEnd c t).map (· + 1)
    else if ((c.toNat : Int) == 96) = true then (upto t [96]).map (· + 1)
    else if hasPrefix (c :: t) [47, 42] = true then (upto (t.drop 1) [42, 47]).map (· + 2)
    else if hasPrefix (c :: t) [47, 47] = true then some (line (c :: t))
    else some 0 := rfl
theorem slash_not_star {l : List UInt8} (h : hasPrefix l [47, 47] = true) : ¬ hasPrefix l [47, 42] = true := by
  revert h
  rcases l with _ | ⟨a, _ | ⟨b, l⟩⟩ <;> simp [hasPrefix]
  intro _ hb _ hc
  rw [← hb] at hc
  exact absurd hc (by decide)

theorem quoteEnd_le (q : UInt8) : ∀ (l : List UInt8) (n : Nat), quoteEnd q l = some n → n ≤ l.length
  | [], n, h => by simp [quoteEnd] at h
  | [c], n, h => by
    unfold quoteEnd at h
    split at h
    · simp at h
    · split at h
      · simp at h; simp; omega
      · split at h
        · simp at h
        · simp [quoteEnd] at h
  | c :: d :: t, n, h => by
    unfold quoteEnd at h
    have ih1 := quoteEnd_le q t
    have ih2 := quoteEnd_le q (d :: t)
    split at h
    · simp only at h
      split at h
      · simp at h
      · obtain ⟨m, hm, rfl⟩ := Option.map_eq_some_iff.1 h
        have := ih1 m hm
        simp; omega
    · split at h
      · simp at h; simp; omega
      · split at h
        · simp at h
        · obtain ⟨m, hm, rfl⟩ := Option.map_eq_some_iff.1 h
          have := ih2 m hm
          simp at *; omega
theorem upto_le (l e : List UInt8) (n : Nat) (h : upto l e = some n) : n ≤ l.length := by
  unfold upto at h
  have := Go.Lib.index_room l e
  split at h
  · simp at h; omega
  · simp at h
theorem line_le (l : List UInt8) : line l ≤ l.length := by
  unfold line
  have := indexByte_le l 10
  split <;> omega
theorem passLen_le (l : List UInt8) (n : Nat) (h : passLen l = some n) : n ≤ l.length := by
  cases l with
  | nil => simp [passLen] at h; omega
  | cons c t =>
    rw [passLen_cons] at h
    split at h
    · obtain ⟨m, hm, rfl⟩ := Option.map_eq_some_iff.1 h
      have := quoteEnd_le c t m hm
      simp; omega
    · split at h
      · obtain ⟨m, hm, rfl⟩ := Option.map_eq_some_iff.1 h
        have := upto_le t _ m hm
        simp; omega
      · split at h
        · rename_i hp
          obtain ⟨m, hm, rfl⟩ := Option.map_eq_some_iff.1 h
          have := upto_le (t.drop 1) _ m hm
          cases t with
          | nil => simp [hasPrefix] at hp
          | cons => simp at *; omega
        · split at h
          · have := line_le (c :: t)
            simp only [Option.some.injEq] at h; omega
          · simp at h; omega

/-- Where an action's text ends: fuel, how deep, what is left. -/
def endGo : Nat → Int → List UInt8 → Option Nat
  | 0, _, _ => none
  | _, _, [] => none
  | f + 1, d, c :: t =>
    match passLen (c :: t) with
    | none => none
    | some (n + 1) => (endGo f d ((c :: t).drop (n + 1))).map (· + (n + 1))
    | some 0 =>
      if ((if ((c.toNat : Int) == 123) = true then d + 1 else if ((c.toNat : Int) == 125) = true then d - 1 else d) == 0) = true then some 1
      else (endGo f (if ((c.toNat : Int) == 123) = true then d + 1 else if ((c.toNat : Int) == 125) = true then d - 1 else d) t).map (· + 1)
def endLen (r : List UInt8) : Option Nat := match r with
  | [] => none
  | c :: _ => if ((c.toNat : Int) == 123) = true then endGo (r.length + 1) 0 r else none

/-- Where an action's text ends that begins at a place; -1: it does not. -/
def endAt (l : List UInt8) (a : Int) : Int := if 0 ≤ a ∧ a < l.length then place a.toNat (endLen (l.drop a.toNat)) else -1

end Sp
end Go.Proofs.YtphdfbmmjkccgaaDoor

namespace Go.Proofs.YtphdfbmmjkccgaaDoor
namespace Sp
open Go.Lib (index indexByte hasPrefix)

structure Piece where
  kind : Int
  text : List UInt8
  n : Int
  tag : List UInt8
  deriving DecidableEq

def nil : Piece := ⟨0, [], 0, []⟩

/-- How many digits a text begins with. -/
def digits : List UInt8 → Nat
  | [] => 0
  | c :: t => if digit c = true then digits t + 1 else 0
theorem digits_le : ∀ l : List UInt8, digits l ≤ l.length
  | [] => Nat.le_refl _
  | c :: t => by
    unfold digits
    have := digits_le t
    split <;> simp <;> omega
/-- The number that digits spell. -/
def num (l : List UInt8) : Int := (Go.Lib.atoi l).getD 0

theorem decFrom_digits : ∀ (l : List UInt8) (acc : Nat), ∃ v, Go.Lib.decFrom acc (l.take (digits l)) = some v
  | [], acc => ⟨acc, rfl⟩
  | c :: t, acc => by
    unfold digits
    by_cases h : digit c = true
    · rw [if_pos h]
      simp only [List.take_succ_cons, Go.Lib.decFrom]
      have hd : Go.Lib.digitVal c = some (c.toNat - 48) := by
        unfold digit at h
        simp at h
        simp [Go.Lib.digitVal, h]
      rw [hd]
      exact decFrom_digits t _
    · rw [if_neg h]
      exact ⟨acc, by simp [Go.Lib.decFrom]⟩
/-- Digits, one at least, are a numeral. -/
theorem atoi_digits (l : List UInt8) (h : digits l ≠ 0) : Go.Lib.atoi (l.take (digits l)) = some (num (l.take (digits l))) := by
  have key : ∃ v, Go.Lib.atoi (l.take (digits l)) = some v := by
    cases l with
    | nil => simp [digits] at h
    | cons c t =>
      obtain ⟨v, hv⟩ := decFrom_digits (c :: t) 0
      unfold digits at h hv ⊢
      by_cases hc : digit c = true
      · rw [if_pos hc] at hv ⊢
        simp only [List.take_succ_cons] at hv ⊢
        unfold digit at hc
        simp at hc
        have h1 : (c == 45) = false := by
          rw [beq_eq_false_iff_ne]; rintro rfl; simp at hc
        have h2 : (c == 43) = false := by
          rw [beq_eq_false_iff_ne]; rintro rfl; simp at hc
        simp [Go.Lib.atoi, h1, h2, Go.Lib.decNat, hv]
      · rw [if_neg hc] at h; exact absurd rfl h
  obtain ⟨v, hv⟩ := key
  simp [num, hv]

/-- What stands behind a dollar and its tag: the piece, how many bytes from the dollar on (0: none), the error. -/
def dollar2 (tag : List UInt8) (off : Nat) (r : List UInt8) : Piece × Nat × Int :=
  if hasPrefix r [36] = true then (⟨2, [], 0, tag⟩, off + 1, 0)
  else if digits r = 0 then (nil, 0, 0)
  else if 3 < digits r then (nil, 0, 6)
  else (⟨3, [], num (r.take (digits r)), tag⟩, off + digits r, 0)
def dollar (r : List UInt8) : Piece × Nat × Int :=
  if hasPrefix r [60] = true then
    if isName ((r.drop 1).take (nameLen true (r.drop 1))) = true ∧ hasPrefix (r.drop (1 + nameLen true (r.drop 1))) [62] = true then
      dollar2 ((r.drop 1).take (nameLen true (r.drop 1))) (nameLen true (r.drop 1) + 3) (r.drop (nameLen true (r.drop 1) + 2))
    else (nil, 0, 0)
  else dollar2 [] 1 r

end Sp
end Go.Proofs.YtphdfbmmjkccgaaDoor

namespace Go.Proofs.YtphdfbmmjkccgaaDoor
namespace Sp
open Go.Lib (index indexByte hasPrefix)

/-- A text that ends where it ends. -/
def Ok (r : List UInt8) : Prop := r = [] ∨ ∃ f d, endGo f d r = some r.length
theorem Ok.skip {r : List UInt8} {n : Nat} (h : Ok r) (hp : passLen r = some (n + 1)) : Ok (r.drop (n + 1)) := by
  rcases h with h | ⟨f, d, h⟩
  · subst h; left; rfl
  · cases r with
    | nil => left; rfl
    | cons c t =>
      cases f with
      | zero => simp [endGo] at h
      | succ f =>
        unfold endGo at h
        rw [hp] at h
        simp only at h
        obtain ⟨m, hm, he⟩ := Option.map_eq_some_iff.1 h
        right
        refine ⟨f, d, ?_⟩
        rw [hm, List.length_drop]
        congr 1
        omega
theorem Ok.step {c : UInt8} {t : List UInt8} (h : Ok (c :: t)) (hp : passLen (c :: t) = some 0) : Ok t := by
  rcases h with h | ⟨f, d, h⟩
  · cases h
  · cases f with
    | zero => simp [endGo] at h
    | succ f =>
      unfold endGo at h
      rw [hp] at h
      simp only at h
      generalize (if ((c.toNat : Int) == 123) = true then d + 1 else if ((c.toNat : Int) == 125) = true then d - 1 else d) = d' at h
      split at h
      · left
        simp at h
        exact h
      · obtain ⟨m, hm, he⟩ := Option.map_eq_some_iff.1 h
        right
        refine ⟨f, d', ?_⟩
        rw [hm]
        simp at he
        simp [he]

/-- A byte at which nothing is passed over. -/
def plain (c : UInt8) : Bool := !((c.toNat : Int) == 34) && !((c.toNat : Int) == 39) && !((c.toNat : Int) == 96) && !((c.toNat : Int) == 47)
theorem plain_pass {c : UInt8} (t : List UInt8) (h : plain c = true) : passLen (c :: t) = some 0 := by
  unfold plain at h
  simp only [Bool.and_eq_true, Bool.not_eq_true'] at h
  obtain ⟨⟨⟨h1, h2⟩, h3⟩, h4⟩ := h
  have h5 : c ≠ 47 := by rintro rfl; simp at h4
  have e1 : ¬ hasPrefix (c :: t) [47, 42] = true := by simp [hasPrefix]; exact fun e => absurd e.symm h5
  have e2 : ¬ hasPrefix (c :: t) [47, 47] = true := by simp [hasPrefix]; exact fun e => absurd e.symm h5
  rw [passLen_cons, if_neg (by rw [h1, h2]; simp), if_neg (by rw [h3]; simp), if_neg e1, if_neg e2]
theorem Ok.plains : ∀ (n : Nat) (r : List UInt8), Ok r → (∀ c ∈ r.take n, plain c = true) → Ok (r.drop n)
  | 0, r, h, _ => by simpa using h
  | _ + 1, [], _, _ => by left; rfl
  | n + 1, c :: t, h, hp => by
    have hc := hp c (by simp)
    have := Ok.plains n t (h.step (plain_pass t hc)) (fun x hx => hp x (by simp [hx]))
    simpa using this
theorem digit_plain {c : UInt8} (h : digit c = true) : plain c = true := by
  unfold digit at h; simp at h
  unfold plain; simp; omega
theorem letter_plain {c : UInt8} (h : letter c = true) : plain c = true := by
  unfold letter at h; simp at h
  unfold plain; simp; omega
theorem digits_plain : ∀ (l : List UInt8), ∀ c ∈ l.take (digits l), plain c = true
  | [], c, h => by simp at h
  | b :: t, c, h => by
    unfold digits at h
    by_cases hb : digit b = true
    · rw [if_pos hb] at h
      simp only [List.take_succ_cons, List.mem_cons] at h
      rcases h with rfl | h
      · exact digit_plain hb
      · exact digits_plain t c h
    · rw [if_neg hb] at h; simp at h
theorem name_plain : ∀ (b : Bool) (l : List UInt8), ∀ c ∈ l.take (nameLen b l), plain c = true
  | _, [], c, h => by simp at h
  | b, x :: t, c, h => by
    unfold nameLen at h
    split at h
    · rename_i hx
      simp only [List.take_succ_cons, List.mem_cons] at h
      rcases h with rfl | h
      · simp only [Bool.or_eq_true, Bool.and_eq_true] at hx
        rcases hx with hx | ⟨_, hx | hx⟩
        · exact letter_plain hx
        · exact digit_plain hx
        · unfold plain; simp at hx; simp; omega
      · exact name_plain false t c h
    · simp at h
theorem dollar2_plain (tag : List UInt8) (off : Nat) (r pre : List UInt8) (hpre : ∀ c ∈ pre, plain c = true) (hl : pre.length = off) :
    ∀ c ∈ (pre ++ r).take (dollar2 tag off r).2.1, plain c = true := by
  intro c hc
  unfold dollar2 at hc
  split at hc
  · rename_i h
    cases r with
    | nil => simp [hasPrefix] at h
    | cons d t =>
      simp [hasPrefix] at h
      subst h
      simp only [List.take_append, hl, List.mem_append] at hc
      rcases hc with hc | hc
      · exact hpre c (List.mem_of_mem_take hc)
      · simp at hc
        subst hc; decide
  · split at hc
    · simp at hc
    · split at hc
      · simp at hc
      · simp only [List.take_append, hl, List.mem_append] at hc
        rcases hc with hc | hc
        · exact hpre c (List.mem_of_mem_take hc)
        · rw [Nat.add_sub_cancel_left] at hc
          exact digits_plain r c hc
theorem dollar_plain (c : UInt8) (t : List UInt8) (hc : ((c.toNat : Int) == 36) = true) : ∀ x ∈ (c :: t).take (dollar t).2.1, plain x = true := by
  have hcp : plain c = true := by simp at hc; unfold plain; simp; omega
  unfold dollar
  split
  · rename_i h60
    cases t with
    | nil => simp [hasPrefix] at h60
    | cons d t =>
      simp [hasPrefix] at h60
      subst h60
      simp only [List.drop_succ_cons, List.drop_zero]
      split
      · rename_i hn
        obtain ⟨hn, h62⟩ := hn
        have hm := nameLen_le true t
        generalize hmm : nameLen true t = m at *
        rw [Nat.add_comm 1 m] at h62
        simp only [List.drop_succ_cons] at h62
        cases hd : t.drop m with
        | nil => rw [hd] at h62; simp [hasPrefix] at h62
        | cons e u =>
          rw [hd] at h62
          simp [hasPrefix] at h62
          subst h62
          have ht : c :: 60 :: t = (c :: 60 :: (t.take m ++ [62])) ++ u := by
            simp only [List.cons_append, List.append_assoc, List.nil_append]
            rw [← hd, List.take_append_drop]
          have hu : t.drop (m + 1) = u := by
            rw [← List.drop_drop, hd]; rfl
          rw [hu, ht]
          refine dollar2_plain _ (m + 3) u _ ?_ (by simp; omega)
          intro x hx
          simp only [List.mem_cons, List.mem_append, List.not_mem_nil, or_false] at hx
          rcases hx with rfl | rfl | hx | rfl
          · exact hcp
          · decide
          · rw [← hmm] at hx; exact name_plain true t x hx
          · decide
      · simp
  · have := dollar2_plain [] 1 t [c] (by simpa using hcp) rfl
    simpa using this
theorem Ok.dollar {c : UInt8} {t : List UInt8} (h : Ok (c :: t)) (hc : ((c.toNat : Int) == 36) = true) : Ok ((c :: t).drop (dollar t).2.1) :=
  h.plains _ _ (dollar_plain c t hc)
theorem Ok.start {l : List UInt8} (h : endAt l 0 = l.length) : Ok l := by
  unfold endAt at h
  split at h
  · rename_i h0
    simp only [Int.toNat_zero, List.drop_zero] at h
    cases l with
    | nil => left; rfl
    | cons c t =>
      right
      unfold endLen at h
      simp only at h
      split at h
      · rename_i hc
        refine ⟨(c :: t).length + 1, 0, ?_⟩
        · cases he : endGo ((c :: t).length + 1) 0 (c :: t) with
          | none => rw [he] at h; simp [place] at h; omega
          | some n => rw [he] at h; simp [place] at h; simp; omega
      · simp [place] at h; omega
  · omega

end Sp
end Go.Proofs.YtphdfbmmjkccgaaDoor

namespace Go.Proofs.YtphdfbmmjkccgaaDoor
namespace Sp
open Go.Lib (index indexByte hasPrefix decDigits decFrom digitVal)

/-- A byte that neither opens nor closes anything. -/
def inner (c : UInt8) : Bool := plain c && !((c.toNat : Int) == 123) && !((c.toNat : Int) == 125)
def nm (tag : Bool) : List UInt8 := if tag = true then [60, 118, 62] else []
def parts (tag : Bool) (d : List UInt8) : List UInt8 := 123 :: 36 :: (nm tag ++ (d ++ [32, 125]))
/-! ### Numerals -/
end Sp
end Go.Proofs.YtphdfbmmjkccgaaDoor
