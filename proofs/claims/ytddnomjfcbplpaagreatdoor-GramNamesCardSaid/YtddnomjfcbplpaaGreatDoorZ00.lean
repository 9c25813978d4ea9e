import Derived.Test.YtddnomjfcbplpaaGreatDoorProg
import Derived.Shelf.Small.Strs
import Derived.Shelf.Strconv.Itoa0
import Derived.Shelf.Strconv.Itoa1
import Derived.Shelf.LaysM
import Derived.Shelf.Strconv.Itoa2
import Derived.Shelf.Strconv.Itoa3
import Derived.Shelf.Strings.Search1
import Derived.Shelf.Strings.Search2
import Derived.Shelf.Strings.Search3
import Derived.Shelf.Strings.Shaped
import Derived.Shelf.Strings.Prefix
import Derived.WalkKit
import Derived.WalkSpells
import Derived.WalkLawsBesides
import Derived.Lib.Hide
import Derived.Deep.Light
import Derived.Handy
import Derived.Deep.QuietTactic
import Derived.BigQuiet
import Derived.Deep.Draws
import Derived.Lib.Strings
import Derived.Lib.AtoiErrMem
import Derived.Lib.AppendIntMem
import Derived.WalkSmall
import Derived.Shelf.Strings.Builder1
import Derived.Shelf.Strings.Builder2
import Derived.Shelf.Lay
import Derived.Test.YtddnomjfcbplpaaGreatDoorCards
import Derived.Test.YtddnomjfcbplpaaGreatDoorTie
import Derived.ProofKit
import Derived.OpenShut
import Derived.ShutString
import Derived.ChangeOld
import Derived.Below
import Derived.Deep.DeepHandedRow
import Derived.Lib.LaidTab
import Derived.Stop.LaidErr
import Derived.Lib.Index
import Derived.Lib.IndexMore
import Derived.Lib.Bytealg
import Derived.Lib.Atoi
import Derived.Lib.ItoaNum
namespace Go.Proofs
open Go.Shelf
def Tryz.lays137_ren : Go.Shelf.Ren := ⟨fun | 137 => 55 | 217 => 73 | 266 => 91 | n => n, fun | 9 => 9 | 5 => 5 | 3 => 3 | n => n, fun | n => n⟩
theorem Tryz.lays137 : Go.Proofs.Lays.n137 Tryz.prog Tryz.lays137_ren := {
 mixed := by kernel_rfl
 f137 := Tryz.func55.trans (congrArg some (by kernel_rfl))
 f217 := Tryz.func73.trans (congrArg some (by kernel_rfl))
 f266 := Tryz.func91.trans (congrArg some (by kernel_rfl))
 t3 := Tryz.underlying3
 a3 := Tryz.isAgg3
 z3 := Tryz.sizeOf3
 v3 := Tryz.zeroValue3
 t5 := Tryz.underlying5
 a5 := Tryz.isAgg5
 z5 := Tryz.sizeOf5
 v5 := Tryz.zeroValue5
 t9 := Tryz.underlying9
 a9 := Tryz.isAgg9
 z9 := Tryz.sizeOf9
 v9 := Tryz.zeroValue9 }
open Go.RowKit in
theorem Tryz.strings_IndexByte (s : ByteArray) (c : Int) (w : World) :
  Calls Tryz.prog 55 #[.string s, .int .u8 c] w fun e w' => e = .returned (.int .i64 (Lib.indexByte s.data.toList c.toNat.toUInt8)) ∧ w' = w := Any.strings_IndexByte Tryz.lays137 s c w
def Tryz.laysM171_ren : Go.Shelf.Ren := ⟨fun | 171 => 87 | 243 => 100 | 246 => 109 | 283 => 112 | 284 => 113 | 285 => 114 | 286 => 115 | 129 => 120 | 317 => 119 | 318 => 121 | 319 => 122 | 320 => 123 | 337 => 125 | 338 => 126 | n => n, fun | 3 => 3 | 9 => 9 | 2 => 2 | 4 => 4 | 171 => 146 | 0 => 0 | 53 => 111 | 37 => 104 | 5 => 5 | 173 => 149 | 212 => 153 | 51 => 143 | 20 => 20 | 213 => 154 | 46 => 140 | 232 => 158 | 233 => 159 | n => n, fun | 17 => 1 | 18 => 2 | 19 => 3 | n => n⟩
theorem Tryz.laysM171 : Go.Proofs.LaysM.n171 Tryz.prog Tryz.laysM171_ren := {
 mixed := by kernel_rfl
 f129 := Tryz.func120.trans (congrArg some (by kernel_rfl))
 f171 := Tryz.func87.trans (congrArg some (by kernel_rfl))
 f243 := Tryz.func100.trans (congrArg some (by kernel_rfl))
 f246 := Tryz.func109.trans (congrArg some (by kernel_rfl))
 f283 := Tryz.func112.trans (congrArg some (by kernel_rfl))
 f284 := Tryz.func113.trans (congrArg some (by kernel_rfl))
 f285 := Tryz.func114.trans (congrArg some (by kernel_rfl))
 f286 := Tryz.func115.trans (congrArg some (by kernel_rfl))
 f317 := Tryz.func119.trans (congrArg some (by kernel_rfl))
 f318 := Tryz.func121.trans (congrArg some (by kernel_rfl))
 f319 := Tryz.func122.trans (congrArg some (by kernel_rfl))
 f320 := Tryz.func123.trans (congrArg some (by kernel_rfl))
 f337 := Tryz.func125.trans (congrArg some (by kernel_rfl))
 f338 := Tryz.func126.trans (congrArg some (by kernel_rfl))
 t0 := Tryz.underlying0
 a0 := Tryz.isAgg0
 z0 := Tryz.sizeOf0
 v0 := Tryz.zeroValue0
 t2 := Tryz.underlying2
 a2 := Tryz.isAgg2
 z2 := Tryz.sizeOf2
 v2 := Tryz.zeroValue2
 t3 := Tryz.underlying3
 a3 := Tryz.isAgg3
 z3 := Tryz.sizeOf3
 v3 := Tryz.zeroValue3
 t4 := Tryz.underlying4
 a4 := Tryz.isAgg4
 z4 := Tryz.sizeOf4
 v4 := Tryz.zeroValue4
 t5 := Tryz.underlying5
 a5 := Tryz.isAgg5
 z5 := Tryz.sizeOf5
 v5 := Tryz.zeroValue5
 t9 := Tryz.underlying9
 a9 := Tryz.isAgg9
 z9 := Tryz.sizeOf9
 v9 := Tryz.zeroValue9
 t20 := Tryz.underlying20
 a20 := Tryz.isAgg20
 z20 := Tryz.sizeOf20
 v20 := Tryz.zeroValue20
 t37 := Tryz.underlying104
 a37 := Tryz.isAgg104
 z37 := Tryz.sizeOf104
 v37 := Tryz.zeroValue104
 t46 := Tryz.underlying140
 a46 := Tryz.isAgg140
 z46 := Tryz.sizeOf140
 v46 := Tryz.zeroValue140
 t51 := Tryz.underlying143
 a51 := Tryz.isAgg143
 z51 := Tryz.sizeOf143
 v51 := Tryz.zeroValue143
 t53 := Tryz.underlying111
 a53 := Tryz.isAgg111
 z53 := Tryz.sizeOf111
 v53 := Tryz.zeroValue111
 t171 := Tryz.underlying146
 a171 := Tryz.isAgg146
 z171 := Tryz.sizeOf146
 v171 := Tryz.zeroValue146
 t173 := Tryz.underlying149
 a173 := Tryz.isAgg149
 z173 := Tryz.sizeOf149
 v173 := Tryz.zeroValue149
 t212 := Tryz.underlying153
 a212 := Tryz.isAgg153
 z212 := Tryz.sizeOf153
 v212 := Tryz.zeroValue153
 t213 := Tryz.underlying154
 a213 := Tryz.isAgg154
 z213 := Tryz.sizeOf154
 t232 := Tryz.underlying158
 a232 := Tryz.isAgg158
 z232 := Tryz.sizeOf158
 v232 := Tryz.zeroValue158
 t233 := Tryz.underlying159
 a233 := Tryz.isAgg159
 z233 := Tryz.sizeOf159
 v233 := Tryz.zeroValue159
 g17 := by kernel_rfl
 g18 := by kernel_rfl
 g19 := by kernel_rfl
 i0 := by kernel_rfl
 i2 := by kernel_rfl
 i3 := by kernel_rfl
 i4 := by kernel_rfl
 i5 := by kernel_rfl
 i9 := by kernel_rfl
 i20 := by kernel_rfl
 i37 := by kernel_rfl
 i46 := by kernel_rfl
 i51 := by kernel_rfl
 i53 := by kernel_rfl
 i171 := by kernel_rfl
 i173 := by kernel_rfl
 i212 := by kernel_rfl
 i232 := by kernel_rfl
 i233 := by kernel_rfl
 m17 := by kernel_rfl
 m18 := by kernel_rfl
 m19 := by kernel_rfl }
open Go.RowKit Go.Sort Go.Lib in
theorem Tryz.strconv_Itoa (n : Int) (h0 : -9223372036854775808 ≤ n) (h1 : n ≤ 9223372036854775807) (w : World) (htab : Lib.TabIs Tryz.prog w "internal/strconv.uint64pow10" .u64 Lib.pow10Tab) :
  Calls Tryz.prog 87 #[.int .i64 n] w fun e w' => e = .returned (.string ⟨(Lib.itoa n).toArray⟩) ∧ ∃ k os, w' = grow (w.drewN k) os := Any.strconv_Itoa Tryz.laysM171 n h0 h1 w htab
def Tryz.lays143_ren : Go.Shelf.Ren := ⟨fun | 143 => 74 | 219 => 92 | 217 => 73 | 225 => 102 | 224 => 103 | 267 => 104 | 266 => 91 | 314 => 110 | n => n, fun | 9 => 9 | 3 => 3 | 4 => 4 | 5 => 5 | 46 => 140 | 146 => 144 | 51 => 143 | n => n, fun | 1 => 0 | n => n⟩
theorem Tryz.lays143 : Go.Proofs.Lays.n143 Tryz.prog Tryz.lays143_ren := {
 mixed := by kernel_rfl
 f143 := Tryz.func74.trans (congrArg some (by kernel_rfl))
 f217 := Tryz.func73.trans (congrArg some (by kernel_rfl))
 f219 := Tryz.func92.trans (congrArg some (by kernel_rfl))
 f224 := Tryz.func103.trans (congrArg some (by kernel_rfl))
 f225 := Tryz.func102.trans (congrArg some (by kernel_rfl))
 f266 := Tryz.func91.trans (congrArg some (by kernel_rfl))
 f267 := Tryz.func104.trans (congrArg some (by kernel_rfl))
 f314 := Tryz.func110.trans (congrArg some (by kernel_rfl))
 t3 := Tryz.underlying3
 a3 := Tryz.isAgg3
 z3 := Tryz.sizeOf3
 v3 := Tryz.zeroValue3
 t4 := Tryz.underlying4
 a4 := Tryz.isAgg4
 z4 := Tryz.sizeOf4
 v4 := Tryz.zeroValue4
 t5 := Tryz.underlying5
 a5 := Tryz.isAgg5
 z5 := Tryz.sizeOf5
 v5 := Tryz.zeroValue5
 t9 := Tryz.underlying9
 a9 := Tryz.isAgg9
 z9 := Tryz.sizeOf9
 v9 := Tryz.zeroValue9
 t46 := Tryz.underlying140
 a46 := Tryz.isAgg140
 z46 := Tryz.sizeOf140
 v46 := Tryz.zeroValue140
 t51 := Tryz.underlying143
 a51 := Tryz.isAgg143
 z51 := Tryz.sizeOf143
 v51 := Tryz.zeroValue143
 t146 := Tryz.underlying144
 a146 := Tryz.isAgg144
 z146 := Tryz.sizeOf144
 v146 := Tryz.zeroValue144
 g1 := by kernel_rfl }
open Go.RowKit Go.Lib in
theorem Tryz.strings_Index (s sub : ByteArray) (m : Int) (w : World) (hs : s.size < 4294967281) (hm : w.cell? ⟨0, 0, none⟩ = some (.int .i64 m)) :
  Calls Tryz.prog 74 #[.string s, .string sub] w fun e w' => e = .returned (.int .i64 (Lib.index s.data.toList sub.data.toList)) ∧ w' = w := Any.strings_Index Tryz.lays143 s sub m w hs hm
def Tryz.lays144_ren : Go.Shelf.Ren := ⟨fun | 144 => 57 | 143 => 74 | 219 => 92 | 217 => 73 | 225 => 102 | 224 => 103 | 267 => 104 | 266 => 91 | 314 => 110 | n => n, fun | 9 => 9 | 4 => 4 | 3 => 3 | 5 => 5 | 46 => 140 | 146 => 144 | 51 => 143 | n => n, fun | 1 => 0 | n => n⟩
theorem Tryz.lays144 : Go.Proofs.Lays.n144 Tryz.prog Tryz.lays144_ren := {
 mixed := by kernel_rfl
 f143 := Tryz.func74.trans (congrArg some (by kernel_rfl))
 f144 := Tryz.func57.trans (congrArg some (by kernel_rfl))
 f217 := Tryz.func73.trans (congrArg some (by kernel_rfl))
 f219 := Tryz.func92.trans (congrArg some (by kernel_rfl))
 f224 := Tryz.func103.trans (congrArg some (by kernel_rfl))
 f225 := Tryz.func102.trans (congrArg some (by kernel_rfl))
 f266 := Tryz.func91.trans (congrArg some (by kernel_rfl))
 f267 := Tryz.func104.trans (congrArg some (by kernel_rfl))
 f314 := Tryz.func110.trans (congrArg some (by kernel_rfl))
 t3 := Tryz.underlying3
 a3 := Tryz.isAgg3
 z3 := Tryz.sizeOf3
 v3 := Tryz.zeroValue3
 t4 := Tryz.underlying4
 a4 := Tryz.isAgg4
 z4 := Tryz.sizeOf4
 v4 := Tryz.zeroValue4
 t5 := Tryz.underlying5
 a5 := Tryz.isAgg5
 z5 := Tryz.sizeOf5
 v5 := Tryz.zeroValue5
 t9 := Tryz.underlying9
 a9 := Tryz.isAgg9
 z9 := Tryz.sizeOf9
 v9 := Tryz.zeroValue9
 t46 := Tryz.underlying140
 a46 := Tryz.isAgg140
 z46 := Tryz.sizeOf140
 v46 := Tryz.zeroValue140
 t51 := Tryz.underlying143
 a51 := Tryz.isAgg143
 z51 := Tryz.sizeOf143
 v51 := Tryz.zeroValue143
 t146 := Tryz.underlying144
 a146 := Tryz.isAgg144
 z146 := Tryz.sizeOf144
 v146 := Tryz.zeroValue144
 g1 := by kernel_rfl }
open Go.RowKit Go.Lib in
theorem Tryz.strings_Contains (s sub : ByteArray) (m : Int) (w : World) (hs : s.size < 4294967281) (hm : w.cell? ⟨0, 0, none⟩ = some (.int .i64 m)) :
  Calls Tryz.prog 57 #[.string s, .string sub] w fun e w' => e = .returned (.bool (Lib.contains s.data.toList sub.data.toList)) ∧ w' = w := Any.strings_Contains Tryz.lays144 s sub m w hs hm
def Tryz.lays99_ren : Go.Shelf.Ren := ⟨fun | 99 => 118 | 206 => 124 | n => n, fun | 9 => 9 | 4 => 4 | 3 => 3 | n => n, fun | n => n⟩
theorem Tryz.lays99 : Go.Proofs.Lays.n99 Tryz.prog Tryz.lays99_ren := {
 mixed := by kernel_rfl
 f99 := Tryz.func118.trans (congrArg some (by kernel_rfl))
 f206 := Tryz.func124.trans (congrArg some (by kernel_rfl))
 t3 := Tryz.underlying3
 a3 := Tryz.isAgg3
 z3 := Tryz.sizeOf3
 v3 := Tryz.zeroValue3
 t4 := Tryz.underlying4
 a4 := Tryz.isAgg4
 z4 := Tryz.sizeOf4
 v4 := Tryz.zeroValue4
 t9 := Tryz.underlying9
 a9 := Tryz.isAgg9
 z9 := Tryz.sizeOf9
 v9 := Tryz.zeroValue9 }
open Go.RowKit Go.Lib in
theorem Tryz.strings_HasPrefix (s p : ByteArray) (w : World) :
  Calls Tryz.prog 118 #[.string s, .string p] w fun e w' => e = .returned (.bool (Lib.hasPrefix s.data.toList p.data.toList)) ∧ w' = w := Any.strings_HasPrefix Tryz.lays99 s p w
end Go.Proofs

namespace Go.Proofs.YtddnomjfcbplpaaGreatDoor
open Go.RowKit Go.ChangeShapes Go.WideShapes Go.ChangeAt

theorem zK {a b : Bool} (h : a = b) : Ending.returned (.bool a) = .returned (.bool b) := by rw [h]
theorem zW {k : IntKind} {a b : Int} (h : a = b) : Ending.returned (.int k a) = .returned (.int k b) := by rw [h]
theorem xM (s : ByteArray) (k : Nat) (h : k < s.size) : s.data.toList.drop k = s[k] :: s.data.toList.drop (k + 1) := by
 have h' : k < s.data.toList.length := by simpa using h
 rw [List.drop_eq_getElem_cons h']; rfl
theorem qV (s : ByteArray) (k : Nat) (h : ¬ k < s.size) : s.data.toList.drop k = [] := List.drop_of_length_le (by simp; omega)
theorem ext_end (s : ByteArray) (a : Nat) : (s.extract a s.size).data.toList = s.data.toList.drop a := by
 rw [Lib.extract_data]; exact List.take_of_length_le (by simp)
theorem ext_any (s : ByteArray) (a b : Nat) : (s.extract a b).data.toList = (s.data.toList.drop a).take (b - a) := Lib.extract_data s a b

def Gl (w : World) : Prop := (∃ m : Int, w.cell? ⟨0, 0, none⟩ = some (.int .i64 m)) ∧ 6 ≤ w.heap.size ∧ Lib.TabIs Tryz.prog w "internal/strconv.uint64pow10" .u64 Lib.pow10Tab
theorem Gl.drewN {w : World} (h : Gl w) (n : Nat) : Gl (w.drewN n) := h
theorem strings_Index_gl (s sub : ByteArray) (w : World) (hs : s.size < 4294967281) (hg : Gl w) :
  Calls Tryz.prog 74 #[.string s, .string sub] w fun e w' => e = .returned (.int .i64 (Lib.index s.data.toList sub.data.toList)) ∧ w = w' := by
 obtain ⟨⟨m, hm⟩, _⟩ := hg; exact (Tryz.strings_Index s sub m w hs hm).mono fun _ _ ⟨h1, h2⟩ => ⟨h1, h2.symm⟩
theorem jG (s p : ByteArray) (w : World) :
  Calls Tryz.prog 118 #[.string s, .string p] w fun e w' => e = .returned (.bool (Lib.hasPrefix s.data.toList p.data.toList)) ∧ w = w' :=
 (Tryz.strings_HasPrefix s p w).mono fun _ _ ⟨h1, h2⟩ => ⟨h1, h2.symm⟩
theorem yS (s : ByteArray) (c : Int) (w : World) :
  Calls Tryz.prog 55 #[.string s, .int .u8 c] w fun e w' => e = .returned (.int .i64 (Lib.indexByte s.data.toList c.toNat.toUInt8)) ∧ w = w' :=
 (Tryz.strings_IndexByte s c w).mono fun _ _ ⟨h1, h2⟩ => ⟨h1, h2.symm⟩
theorem Gl.below {w w' : World} (h : Gl w) (hb : Below w.heap.size w w') : Gl w' := by
 obtain ⟨⟨m, hm⟩, hz, ht⟩ := h; have hs := hb.size; have h0 : w'.heap[1]? = w.heap[1]? := hb.block _ (by omega); refine ⟨⟨m, (hb.cell (p := ⟨0, 0, none⟩) (by show 0 < _; omega)).trans hm⟩, by omega, ?_⟩; exact var?_below hb (by kernel_rfl : Tryz.prog.globalNamed "internal/strconv.uint64pow10" = some 1) (by omega) ht
theorem Gl.alloc {w : World} (h : Gl w) (o : Obj) : Gl (w.alloc o) := h.below ((Below.refl _ _).alloc (Nat.le_refl _) o)
theorem strconv_Itoa_gl (n : Int) (h0 : -9223372036854775808 ≤ n) (h1 : n ≤ 9223372036854775807) (w : World) (hg : Gl w) :
  Calls Tryz.prog 87 #[.int .i64 n] w fun e w' => e = .returned (.string ⟨(Lib.itoa n).toArray⟩) ∧ Below w.heap.size w w' :=
 (Tryz.strconv_Itoa n h0 h1 w hg.2.2).mono fun _ _ ⟨h1, k, os, h2⟩ => ⟨h1, h2 ▸ Lib.below_grow _ _ (Nat.le_refl _) k os⟩
section
variable {P : Program} {fn : Func} {R : Ending → World → Prop} {a : Act} {W : World} {g : Nat} {t ty : TypeId} {cs : Array Value} {fr : Nat × Nat} {d : TypeDesc} {p u x : Tmp}
theorem jH (hf : fn.results = #[.cell p ty]) (hp : a.tmps.getD p undef = .pointer (some ⟨g, 0, none⟩)) (hg : W.heap[g]? = some (.cells cs t fr))
  (hd : (match d with | .struct _ | .array _ _ => true | _ => false) = true) (hu : P.underlying ty = some d) (hi : (P.info? ty).map (·.size) = some cs.size)
  (hdef : a.defers = []) (hR : R (.returned (.agg cs)) W) : bodyPost P fn R .ret a W := by
 refine bodyPost_ret ?_ hdef hR; have hl := run_loadVar_row (P := P) W g t ty cs fr d hg hu (by cases d <;> simp_all) hi; have hp' : a.tmps[p]?.getD undef = .pointer (some ⟨g, 0, none⟩) := by simpa using hp
 simp [results, hf, hp', asAddr, hl]
end
theorem zA {w : World} {b i : Nat} {v : Value} {c : Array Value} {t : TypeId} {fr : Nat × Nat} (h : w.heap[b]? = some (.cells c t fr)) :
  (w.setCell ⟨b, i, none⟩ v).heap[b]? = some (.cells (c.setIfInBounds i v) t fr) := by
 simp [World.setCell, Array.getElem?_modify, h]
theorem cell_at {w : World} {b i : Nat} {c : Array Value} {t : TypeId} {fr : Nat × Nat} (h : w.heap[b]? = some (.cells c t fr)) : w.cell? ⟨b, i, none⟩ = c[i]? := by
 simp [World.cell?, h]
theorem frozen_at {w : World} {b i : Nat} {c : Array Value} {t : TypeId} (h : w.heap[b]? = some (.cells c t (0, 0))) : w.frozen? ⟨b, i, none⟩ = false := by
 simp [World.frozen?, h]
theorem zc {w : World} {b : Nat} {c : Array Value} {t : TypeId} {fr : Nat × Nat} (i : Nat) (h : w.heap[b]? = some (.cells c t fr)) : w.cell? ⟨b, i, none⟩ = c[i]? := cell_at h
theorem zf {w : World} {b : Nat} {c : Array Value} {t : TypeId} (i : Nat) (h : w.heap[b]? = some (.cells c t (0, 0))) : w.frozen? ⟨b, i, none⟩ = false := frozen_at h
theorem zC {w : World} {b : Nat} {o : Obj} (h : w.heap[b]? = some o) : b < w.heap.size := (Array.getElem?_eq_some_iff.1 h).1
theorem zE (w : World) (o : Obj) : (w.alloc o).heap[w.heap.size]? = some o := heap_alloc_new w o


open Go.ChangeMaps (open_string shut_string)

theorem own : ownKnob Tryz.prog.godebug = none := by kernel_rfl
theorem laidOut : laidOutB Tryz.prog = true := by kernel_rfl

theorem gPow : Tryz.prog.globalNamed "internal/strconv.uint64pow10" = some 1 := by kernel_rfl
theorem gPowType : (Tryz.prog.globals[1]?).map (·.type) = some 153 := by kernel_rfl
theorem powCells : Tryz.prog.cellsOf 153 = 20 := by kernel_rfl
theorem powCell : Tryz.prog.cellsOf 111 = 1 := by kernel_rfl
theorem powData : (Rows.laid_internal_strconv_uint64pow10 : DataW Unit) = Lib.tabData .u64 Lib.pow10Tab := by kernel_rfl

def put (h : Array Obj) (g : Nat) (cs : Array Value) : Array Obj := h.modify g fun
 | .cells _ t frozen => .cells cs t frozen
 | o => o
def tab32 : List Int := [0, 1, 28, 2, 29, 14, 24, 3, 30, 22, 20, 15, 25, 17, 4, 8, 31, 27, 13, 23, 21, 19, 16, 7, 26, 12, 18, 6, 11, 5, 10, 9]
def tab64 : List Int := [0, 1, 56, 2, 57, 49, 28, 3, 61, 58, 42, 50, 38, 29, 17, 4, 62, 47, 59, 36, 45, 43, 51, 22, 53, 39, 33, 30, 24, 18, 12, 5, 63, 55, 48, 27, 60, 41, 37, 16, 46, 35, 44, 21, 52, 32, 23, 11, 54, 26, 40, 15, 34, 20, 31, 10, 25, 14, 19, 9, 13, 8, 7, 6]
open Go.ChangeMaps (open_string shut_string)

def laid3 : List (String × DataW Unit) := [("math/bits.deBruijn32tab", Rows.laid_math_bits_deBruijn32tab), ("math/bits.deBruijn64tab", Rows.laid_math_bits_deBruijn64tab), ("internal/strconv.uint64pow10", Rows.laid_internal_strconv_uint64pow10)]
theorem gl_of3 {W : World} (hL : laidMetH Tryz.prog laid3 W) (hsh : W.ShapedOpen Tryz.prog) : (∃ m : Int, W.cell? ⟨0, 0, none⟩ = some (.int .i64 m)) ∧ 4 ≤ W.heap.size ∧ Lib.TabIs Tryz.prog W "internal/strconv.uint64pow10" .u64 Lib.pow10Tab := by
 have hL' : laidMet Tryz.prog laid3 W := hL; have h2 := hL'.tail.tail; rw [powData] at h2; have ht := Lib.tabIs_of_head gPow gPowType Tryz.underlying153 Tryz.underlying111 powCell powCells h2; refine ⟨Go.Proofs.cell_of_shapedOpen_int (zero := #[.int .i64 0]) (t := 3) hsh (of_decide_eq_true (by kernel_rfl)) (by kernel_rfl) rfl (by kernel_rfl) (by kernel_rfl) Tryz.underlying3, ?_, ht⟩; obtain ⟨zero, t, hz⟩ : ∃ zero t, ((begin Tryz.prog (fun _ _ => 0) default).world.heap[3]?).bind Obj.row? = some (zero, t) := ⟨(List.replicate 64 (Value.int .u8 0)).toArray, 159, by kernel_rfl⟩
 obtain ⟨cs, hc, _⟩ := hsh.1 3 zero t (of_decide_eq_true (by kernel_rfl)) hz; have := (Array.getElem?_eq_some_iff.1 hc).1; omega
noncomputable def laidWorld3 (os : Os) : World :=
 let w0 := World.holding Tryz.prog os ⟨#[], #[], []⟩
 let h1 := put w0.heap 1 (Lib.pow10Tab.map fun z => Value.int .u64 z).toArray
 let h2 := put h1 2 (tab32.map fun z => Value.int .u8 z).toArray
 { w0 with heap := put h2 3 (tab64.map fun z => Value.int .u8 z).toArray }
set_option maxRecDepth 1000000 in
theorem laid_met3 (os : Os) (args : Array Value) : laidMet Tryz.prog laid3 ((laidWorld3 os).forCall (fun _ _ => 0) ⟨#[], args, []⟩).memory :=
 laidMet_of_run' 8 (by kernel_rfl) (by kernel_rfl)

namespace Sp
open Go.Lib (index indexByte hasPrefix)

def digit (c : UInt8) : Bool := decide (48 ≤ c.toNat) && decide (c.toNat ≤ 57)
def zBZ (c : UInt8) : Bool := (decide (97 ≤ c.toNat) && decide (c.toNat ≤ 122)) || (decide (65 ≤ c.toNat) && decide (c.toNat ≤ 90)) || decide (c.toNat = 95)

def yL : Bool → List UInt8 → Nat
 | _, [] => 0
 | fst, c :: t => if zBZ c || (!fst && (digit c || (c.toNat : Int) == 46)) then yL false t + 1 else 0

theorem nameLen_le : ∀ (b : Bool) (l : List UInt8), yL b l ≤ l.length
 | _, [] => Nat.le_refl _
 | b, c :: t => by
  unfold yL; split
  ·have := nameLen_le false t
   simp; omega
  ·omega

def xI (l : List UInt8) : Bool := !l.isEmpty && decide (l.length ≤ 20) && decide (yL true l = l.length)

def yG (p : Nat) : Option Nat → Int
 | none => -1
 | some n => ((p + n : Nat) : Int)
theorem yR (p k : Nat) (o : Option Nat) : yG p (o.map (· + k)) = yG (p + k) o := by
 cases o with
 | none => rfl
 | some n => simp [yG]; omega

def yV (q : UInt8) : List UInt8 → Option Nat
 | [] => none
 | c :: t =>
  if ((c.toNat : Int) == 92) = true then
   match t with
   | [] => none
   | d :: t' => if ((d.toNat : Int) == 10) = true then none else (yV q t').map (· + 2)
  else if ((c.toNat : Int) == (q.toNat : Int)) = true then some 1
  else if ((c.toNat : Int) == 10) = true then none
  else (yV q t).map (· + 1)

def upto (r e : List UInt8) : Option Nat := if 0 ≤ index r e then some ((index r e).toNat + e.length) else none

theorem index_cons (b : UInt8) (l sub : List UInt8) : index (b :: l) sub = if sub.isPrefixOf (b :: l) = true then 0 else if index l sub = -1 then -1 else index l sub + 1 := by
 simp [index]
theorem upto_nil (d : UInt8) (e : List UInt8) : upto [] (d :: e) = none := by simp [upto, index]
theorem upto_cons (c d : UInt8) (t e : List UInt8) : upto (c :: t) (d :: e) = if hasPrefix (c :: t) (d :: e) = true then some (e.length + 1) else (upto t (d :: e)).map (· + 1) := by
 unfold upto hasPrefix; rw [index_cons]; have := Go.Lib.index_ge t (d :: e); by_cases h : (d :: e).isPrefixOf (c :: t) = true
 ·simp [h]
 ·rw [if_neg h, if_neg h]
  by_cases h2 : index t (d :: e) = -1
  ·simp [h2]
  ·rw [if_neg h2, if_pos (by omega), if_pos (by omega)]
   simp; omega
theorem hasPrefix_one (c d : UInt8) (t : List UInt8) : hasPrefix (c :: t) [d] = ((c.toNat : Int) == (d.toNat : Int)) := by
 rw [Bool.eq_iff_iff]; simp [hasPrefix]; constructor
 ·rintro rfl; rfl
 ·intro h; exact (UInt8.toNat_inj.1 (by omega)).symm
theorem zDC (c d : UInt8) (t : List UInt8) : indexByte (c :: t) d = if ((c.toNat : Int) == (d.toNat : Int)) = true then 0 else if indexByte t d = -1 then -1 else indexByte t d + 1 := by
 have e : (c == d) = ((c.toNat : Int) == (d.toNat : Int)) := by
  rw [Bool.eq_iff_iff]; simp; constructor
  ·rintro rfl; rfl
  ·exact fun h => UInt8.toNat_inj.1 (by omega)
 rw [← e]; simp [indexByte]
theorem indexByte_le (l : List UInt8) (c : UInt8) : indexByte l c < l.length ∨ indexByte l c = -1 := by
 induction l with
 | nil => right; rfl
 | cons b l ih =>
  rw [zDC]; have := Go.Lib.indexByte_ge l c; split
  ·left; simp only [List.length_cons]; omega
  ·split
   ·right; rfl
   ·left; simp only [List.length_cons]; omega
def line (r : List UInt8) : Nat := if 0 ≤ indexByte r 10 then (indexByte r 10).toNat else r.length
theorem line_nil : line [] = 0 := rfl
theorem line_cons (c : UInt8) (t : List UInt8) : line (c :: t) = if ((c.toNat : Int) == 10) = true then 0 else line t + 1 := by
 unfold line; rw [zDC]; have := Go.Lib.indexByte_ge t 10; by_cases h : ((c.toNat : Int) == 10) = true
 ·simp_all
 ·have h' : ¬ ((c.toNat : Int) == ((10 : UInt8).toNat : Int)) = true := h
  rw [if_neg h, if_neg h']; by_cases h2 : indexByte t 10 = -1
  ·simp [h2]
  ·rw [if_neg h2, if_pos (by omega), if_pos (by omega)]
   omega

def kM : List UInt8 → Option Nat
 | [] => some 0
 | c :: t =>
  if ((c.toNat : Int) == 34) = true ∨ ((c.toNat : Int) == 39) = true then (yV c t).map (· + 1)
  else if ((c.toNat : Int) == 96) = true then (upto t [96]).map (· + 1)
  else if hasPrefix (c :: t) [47, 42] = true then (upto (t.drop 1) [42, 47]).map (· + 2)
  else if hasPrefix (c :: t) [47, 47] = true then some (line (c :: t))
  else some 0

theorem yQ (c : UInt8) (t : List UInt8) : kM (c :: t) =
  if ((c.toNat : Int) == 34) = true ∨ ((c.toNat : Int) == 39) = true then (yV c t).map (· + 1)
  else if ((c.toNat : Int) == 96) = true then (upto t [96]).map (· + 1)
  else if hasPrefix (c :: t) [47, 42] = true then (upto (t.drop 1) [42, 47]).map (· + 2)
  else if hasPrefix (c :: t) [47, 47] = true then some (line (c :: t))
  else some 0 := rfl
theorem slash_not_star {l : List UInt8} (h : hasPrefix l [47, 47] = true) : ¬ hasPrefix l [47, 42] = true := by
 revert h
 rcases l with _ | ⟨a, _ | ⟨b, l⟩⟩ <;> simp [hasPrefix]
 intro _ hb _ hc; rw [← hb] at hc; exact absurd hc (by decide)

theorem zCX (q : UInt8) : ∀ (l : List UInt8) (n : Nat), yV q l = some n → n ≤ l.length
 | [], n, h => by simp [yV] at h
 | [c], n, h => by
  unfold yV at h; split at h
  ·simp at h
  ·split at h
   ·simp at h; simp; omega
   ·split at h
    ·simp at h
    ·simp [yV] at h
 | c :: d :: t, n, h => by
  unfold yV at h; have ih1 := zCX q t; have ih2 := zCX q (d :: t); split at h
  ·simp only at h
   split at h
   ·simp at h
   ·obtain ⟨m, hm, rfl⟩ := Option.map_eq_some_iff.1 h
    have := ih1 m hm; simp; omega
  ·split at h
   ·simp at h; simp; omega
   ·split at h
    ·simp at h
    ·obtain ⟨m, hm, rfl⟩ := Option.map_eq_some_iff.1 h
     have := ih2 m hm; simp at *; omega
theorem upto_le (l e : List UInt8) (n : Nat) (h : upto l e = some n) : n ≤ l.length := by
 unfold upto at h; have := Go.Lib.index_room l e; split at h
 ·simp at h; omega
 ·simp at h
theorem line_le (l : List UInt8) : line l ≤ l.length := by
 unfold line; have := indexByte_le l 10; split <;> omega
theorem passLen_le (l : List UInt8) (n : Nat) (h : kM l = some n) : n ≤ l.length := by
 cases l with
 | nil => simp [kM] at h; omega
 | cons c t =>
  rw [yQ] at h; split at h
  ·obtain ⟨m, hm, rfl⟩ := Option.map_eq_some_iff.1 h
   have := zCX c t m hm; simp; omega
  ·split at h
   ·obtain ⟨m, hm, rfl⟩ := Option.map_eq_some_iff.1 h
    have := upto_le t _ m hm; simp; omega
   ·split at h
    ·rename_i hp
     obtain ⟨m, hm, rfl⟩ := Option.map_eq_some_iff.1 h; have := upto_le (t.drop 1) _ m hm
     cases t with
     | nil => simp [hasPrefix] at hp
     | cons => simp at *; omega
    ·split at h
     ·have := line_le (c :: t)
      simp only [Option.some.injEq] at h; omega
     ·simp at h; omega

def vN : Nat → Int → List UInt8 → Option Nat
 | 0, _, _ => none
 | _, _, [] => none
 | f + 1, d, c :: t =>
  match kM (c :: t) with
  | none => none
  | some (n + 1) => (vN f d ((c :: t).drop (n + 1))).map (· + (n + 1))
  | some 0 =>
   if ((if ((c.toNat : Int) == 123) = true then d + 1 else if ((c.toNat : Int) == 125) = true then d - 1 else d) == 0) = true then some 1
   else (vN f (if ((c.toNat : Int) == 123) = true then d + 1 else if ((c.toNat : Int) == 125) = true then d - 1 else d) t).map (· + 1)
def zCF (r : List UInt8) : Option Nat := match r with
 | [] => none
 | c :: _ => if ((c.toNat : Int) == 123) = true then vN (r.length + 1) 0 r else none

def zAG (l : List UInt8) (a : Int) : Int := if 0 ≤ a ∧ a < l.length then yG a.toNat (zCF (l.drop a.toNat)) else -1

end Sp
namespace Sp
open Go.Lib (index indexByte hasPrefix)

structure Piece where
 kind : Int
 text : List UInt8
 n : Int
 tag : List UInt8
 deriving DecidableEq

def nil : Piece := ⟨0, [], 0, []⟩

def zAH : List UInt8 → Nat
 | [] => 0
 | c :: t => if digit c = true then zAH t + 1 else 0
def num (l : List UInt8) : Int := (Go.Lib.atoi l).getD 0

def dollar2 (tag : List UInt8) (off : Nat) (r : List UInt8) : Piece × Nat × Int :=
 if hasPrefix r [36] = true then (⟨2, [], 0, tag⟩, off + 1, 0)
 else if zAH r = 0 then (nil, 0, 0)
 else if 3 < zAH r then (nil, 0, 6)
 else (⟨3, [], num (r.take (zAH r)), tag⟩, off + zAH r, 0)
def dollar (r : List UInt8) : Piece × Nat × Int :=
 if hasPrefix r [60] = true then
  if xI ((r.drop 1).take (yL true (r.drop 1))) = true ∧ hasPrefix (r.drop (1 + yL true (r.drop 1))) [62] = true then
   dollar2 ((r.drop 1).take (yL true (r.drop 1))) (yL true (r.drop 1) + 3) (r.drop (yL true (r.drop 1) + 2))
  else (nil, 0, 0)
 else dollar2 [] 1 r

end Sp
namespace Sp
open Go.Lib (index indexByte hasPrefix)

def flush (t : List UInt8) : List Piece := if t = [] then [] else [⟨1, t, 0, []⟩]
def cutGo : Nat → List UInt8 → List UInt8 → Option (List Piece)
 | 0, _, _ => none
 | _ + 1, pend, [] => some (flush pend)
 | f + 1, pend, c :: t =>
  match kM (c :: t) with
  | none => none
  | some (n + 1) => cutGo f (pend ++ (c :: t).take (n + 1)) ((c :: t).drop (n + 1))
  | some 0 =>
   if ((c.toNat : Int) == 36) = true then
    if ((dollar t).2.2 != 0) = true then none
    else if 0 < (dollar t).2.1 then (cutGo f [] ((c :: t).drop (dollar t).2.1)).map (flush pend ++ (dollar t).1 :: ·)
    else cutGo f (pend ++ [c]) t
   else cutGo f (pend ++ [c]) t
def cutRes : Option (List Piece) → List Piece × Int
 | none => ([], 6)
 | some ps => (ps, 0)
def cut (l : List UInt8) : List Piece × Int :=
 if l = [] ∨ zAG l 0 ≠ l.length then ([], 1)
 else cutRes (cutGo (l.length + 1) [] l)

def Ok (r : List UInt8) : Prop := r = [] ∨ ∃ f d, vN f d r = some r.length
theorem Ok.pass {r : List UInt8} (h : Ok r) (hr : r ≠ []) : kM r ≠ none := by
 rcases h with h | ⟨f, d, h⟩
 ·exact absurd h hr
 ·cases r with
  | nil => exact absurd rfl hr
  | cons c t =>
   cases f with
   | zero => simp [vN] at h
   | succ f =>
    intro hn; simp [vN, hn] at h
theorem Ok.skip {r : List UInt8} {n : Nat} (h : Ok r) (hp : kM r = some (n + 1)) : Ok (r.drop (n + 1)) := by
 rcases h with h | ⟨f, d, h⟩
 ·subst h; left; rfl
 ·cases r with
  | nil => left; rfl
  | cons c t =>
   cases f with
   | zero => simp [vN] at h
   | succ f =>
    unfold vN at h; rw [hp] at h; simp only at h; obtain ⟨m, hm, he⟩ := Option.map_eq_some_iff.1 h; right
    refine ⟨f, d, ?_⟩; rw [hm, List.length_drop]; congr 1
    omega
theorem Ok.step {c : UInt8} {t : List UInt8} (h : Ok (c :: t)) (hp : kM (c :: t) = some 0) : Ok t := by
 rcases h with h | ⟨f, d, h⟩
 ·cases h
 ·cases f with
  | zero => simp [vN] at h
  | succ f =>
   unfold vN at h; rw [hp] at h; simp only at h; generalize (if ((c.toNat : Int) == 123) = true then d + 1 else if ((c.toNat : Int) == 125) = true then d - 1 else d) = d' at h; split at h
   ·left
    simp at h; exact h
   ·obtain ⟨m, hm, he⟩ := Option.map_eq_some_iff.1 h
    right
    refine ⟨f, d', ?_⟩; rw [hm]; simp at he; simp [he]

def vM (c : UInt8) : Bool := !((c.toNat : Int) == 34) && !((c.toNat : Int) == 39) && !((c.toNat : Int) == 96) && !((c.toNat : Int) == 47)
theorem plain_pass {c : UInt8} (t : List UInt8) (h : vM c = true) : kM (c :: t) = some 0 := by
 unfold vM at h; simp only [Bool.and_eq_true, Bool.not_eq_true'] at h; obtain ⟨⟨⟨h1, h2⟩, h3⟩, h4⟩ := h; have h5 : c ≠ 47 := by rintro rfl; simp at h4
 have e1 : ¬ hasPrefix (c :: t) [47, 42] = true := by simp [hasPrefix]; exact fun e => absurd e.symm h5
 have e2 : ¬ hasPrefix (c :: t) [47, 47] = true := by simp [hasPrefix]; exact fun e => absurd e.symm h5
 rw [yQ, if_neg (by rw [h1, h2]; simp), if_neg (by rw [h3]; simp), if_neg e1, if_neg e2]
theorem Ok.plains : ∀ (n : Nat) (r : List UInt8), Ok r → (∀ c ∈ r.take n, vM c = true) → Ok (r.drop n)
 | 0, r, h, _ => by simpa using h
 | _ + 1, [], _, _ => by left; rfl
 | n + 1, c :: t, h, hp => by
  have hc := hp c (by simp); have := Ok.plains n t (h.step (plain_pass t hc)) (fun x hx => hp x (by simp [hx])); simpa using this
theorem digit_plain {c : UInt8} (h : digit c = true) : vM c = true := by
 unfold digit at h; simp at h; unfold vM; simp; omega
theorem letter_plain {c : UInt8} (h : zBZ c = true) : vM c = true := by
 unfold zBZ at h; simp at h; unfold vM; simp; omega
theorem digits_plain : ∀ (l : List UInt8), ∀ c ∈ l.take (zAH l), vM c = true
 | [], c, h => by simp at h
 | b :: t, c, h => by
  unfold zAH at h; by_cases hb : digit b = true
  ·rw [if_pos hb] at h
   simp only [List.take_succ_cons, List.mem_cons] at h; rcases h with rfl | h
   ·exact digit_plain hb
   ·exact digits_plain t c h
  ·rw [if_neg hb] at h; simp at h
theorem name_plain : ∀ (b : Bool) (l : List UInt8), ∀ c ∈ l.take (yL b l), vM c = true
 | _, [], c, h => by simp at h
 | b, x :: t, c, h => by
  unfold yL at h; split at h
  ·rename_i hx
   simp only [List.take_succ_cons, List.mem_cons] at h; rcases h with rfl | h
   ·simp only [Bool.or_eq_true, Bool.and_eq_true] at hx
    rcases hx with hx | ⟨_, hx | hx⟩
    ·exact letter_plain hx
    ·exact digit_plain hx
    ·unfold vM; simp at hx; simp; omega
   ·exact name_plain false t c h
  ·simp at h
theorem zEG (tag : List UInt8) (off : Nat) (r pre : List UInt8) (hpre : ∀ c ∈ pre, vM c = true) (hl : pre.length = off) :
  ∀ c ∈ (pre ++ r).take (dollar2 tag off r).2.1, vM c = true := by
 intro c hc; unfold dollar2 at hc; split at hc
 ·rename_i h
  cases r with
  | nil => simp [hasPrefix] at h
  | cons d t =>
   simp [hasPrefix] at h; subst h; simp only [List.take_append, hl, List.mem_append] at hc; rcases hc with hc | hc
   ·exact hpre c (List.mem_of_mem_take hc)
   ·simp at hc
    subst hc; decide
 ·split at hc
  ·simp at hc
  ·split at hc
   ·simp at hc
   ·simp only [List.take_append, hl, List.mem_append] at hc
    rcases hc with hc | hc
    ·exact hpre c (List.mem_of_mem_take hc)
    ·rw [Nat.add_sub_cancel_left] at hc
     exact digits_plain r c hc
theorem dollar_plain (c : UInt8) (t : List UInt8) (hc : ((c.toNat : Int) == 36) = true) : ∀ x ∈ (c :: t).take (dollar t).2.1, vM x = true := by
 have hcp : vM c = true := by simp at hc; unfold vM; simp; omega
 unfold dollar; split
 ·rename_i h60
  cases t with
  | nil => simp [hasPrefix] at h60
  | cons d t =>
   simp [hasPrefix] at h60; subst h60; simp only [List.drop_succ_cons, List.drop_zero]; split
   ·rename_i hn
    obtain ⟨hn, h62⟩ := hn; have hm := nameLen_le true t; generalize hmm : yL true t = m at *
    rw [Nat.add_comm 1 m] at h62; simp only [List.drop_succ_cons] at h62
    cases hd : t.drop m with
    | nil => rw [hd] at h62; simp [hasPrefix] at h62
    | cons e u =>
     rw [hd] at h62; simp [hasPrefix] at h62; subst h62
     have ht : c :: 60 :: t = (c :: 60 :: (t.take m ++ [62])) ++ u := by
      simp only [List.cons_append, List.append_assoc, List.nil_append]; rw [← hd, List.take_append_drop]
     have hu : t.drop (m + 1) = u := by
      rw [← List.drop_drop, hd]; rfl
     rw [hu, ht]; refine zEG _ (m + 3) u _ ?_ (by simp; omega); intro x hx; simp only [List.mem_cons, List.mem_append, List.not_mem_nil, or_false] at hx; rcases hx with rfl | rfl | hx | rfl
     ·exact hcp
     ·decide
     ·rw [← hmm] at hx; exact name_plain true t x hx
     ·decide
   ·simp
 ·have := zEG [] 1 t [c] (by simpa using hcp) rfl
  simpa using this
theorem Ok.dollar {c : UInt8} {t : List UInt8} (h : Ok (c :: t)) (hc : ((c.toNat : Int) == 36) = true) : Ok ((c :: t).drop (dollar t).2.1) :=
 h.plains _ _ (dollar_plain c t hc)
theorem Ok.start {l : List UInt8} (h : zAG l 0 = l.length) : Ok l := by
 unfold zAG at h; split at h
 ·rename_i h0
  simp only [Int.toNat_zero, List.drop_zero] at h
  cases l with
  | nil => left; rfl
  | cons c t =>
   right
   unfold zCF at h; simp only at h; split at h
   ·rename_i hc
    refine ⟨(c :: t).length + 1, 0, ?_⟩
    ·cases he : vN ((c :: t).length + 1) 0 (c :: t) with
     | none => rw [he] at h; simp [yG] at h; omega
     | some n => rw [he] at h; simp [yG] at h; simp; omega
   ·simp [yG] at h; omega
 ·omega

end Sp
namespace Sp
open Go.Lib (index indexByte hasPrefix decDigits decFrom digitVal)

def inner (c : UInt8) : Bool := vM c && !((c.toNat : Int) == 123) && !((c.toNat : Int) == 125)
def nm (tag : Bool) : List UInt8 := if tag = true then [60, 118, 62] else []
def tg (tag : Bool) : List UInt8 := if tag = true then [118] else []
def parts (tag : Bool) (d : List UInt8) : List UInt8 := 123 :: 36 :: (nm tag ++ (d ++ [32, 125]))
end Sp
namespace Sp
open Go.Lib (index indexByte hasPrefix)

def ahead : Nat → List UInt8
 | 0 => [34] | 1 => [39] | 2 => [96] | 3 => [47, 47] | _ => [47, 42]
def behind : Nat → List UInt8
 | 0 => [34] | 1 => [39] | 2 => [96] | 3 => [10] | _ => [42, 47]

end Sp
namespace Sp
open Go.Lib (index indexByte hasPrefix decDigits decFrom digitVal)

def Lk (r r' : List UInt8) : Prop := ∃ x, (36 : UInt8) ∉ x ∧ ((r = x ∧ r' = x) ∨ ∃ a b, r = x ++ 36 :: a ∧ r' = x ++ 36 :: b)
theorem Lk.head {r r' : List UInt8} (h : Lk r r') : r.head? = r'.head? := by
 obtain ⟨x, _, ⟨rfl, rfl⟩ | ⟨a, b, rfl, rfl⟩⟩ := h
 ·rfl
 ·cases x <;> rfl
theorem Lk.dollar (a b : List UInt8) : Lk (36 :: a) (36 :: b) := ⟨[], by simp, .inr ⟨a, b, rfl, rfl⟩⟩
theorem Lk.cons {r r' : List UInt8} (h : Lk r r') (c : UInt8) : Lk (c :: r) (c :: r') := by
 by_cases hc : c = 36
 ·subst hc; exact Lk.dollar _ _
 ·obtain ⟨x, hx, h⟩ := h
  refine ⟨c :: x, by simp only [List.mem_cons, not_or]; exact ⟨fun e => hc e.symm, hx⟩, ?_⟩; rcases h with ⟨rfl, rfl⟩ | ⟨a, b, rfl, rfl⟩
  ·exact .inl ⟨rfl, rfl⟩
  ·exact .inr ⟨a, b, rfl, rfl⟩
end Sp
end Go.Proofs.YtddnomjfcbplpaaGreatDoor
