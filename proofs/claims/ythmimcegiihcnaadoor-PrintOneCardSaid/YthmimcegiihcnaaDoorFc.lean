/- The frame that the laws of seats without strconv's errors share: the library's variables out of a row's list, a world for the witness. -/
import Derived.Test.YthmimcegiihcnaaDoorFa
namespace Go.Proofs.YthmimcegiihcnaaDoor
open Go.ChangeShapes Go.WideShapes Go.ChangeAt Go.RowKit
open Go.ChangeMaps (open_string shut_string)

/-- The list of the rows of these seats. -/
def laid3 : List (String × DataW Unit) := [("math/bits.deBruijn32tab", Rows.laid_math_bits_deBruijn32tab), ("math/bits.deBruijn64tab", Rows.laid_math_bits_deBruijn64tab), ("internal/strconv.uint64pow10", Rows.laid_internal_strconv_uint64pow10)]
/-- What the walks ask of the library's variables, out of the row's list and the world's shape. -/
theorem gl_of3 {W : World} (hL : laidMetH Tryd.prog laid3 W) (hsh : W.ShapedOpen Tryd.prog) : (∃ m : Int, W.cell? ⟨0, 0, none⟩ = some (.int .i64 m)) ∧ 4 ≤ W.heap.size ∧ Lib.TabIs Tryd.prog W "internal/strconv.uint64pow10" .u64 Lib.pow10Tab := by
  have hL' : laidMet Tryd.prog laid3 W := hL
  have h2 := hL'.tail.tail
  rw [powData] at h2
  have ht := Lib.tabIs_of_head gPow gPowType Tryd.underlying175 Tryd.underlying115 powCell powCells h2
  refine ⟨Go.Proofs.cell_of_shapedOpen_int (zero := #[.int .i64 0]) (t := 3) hsh (of_decide_eq_true (by kernel_rfl)) (by kernel_rfl) rfl (by kernel_rfl) (by kernel_rfl) Tryd.underlying3, ?_, ht⟩
  obtain ⟨zero, t, hz⟩ : ∃ zero t, ((begin Tryd.prog (fun _ _ => 0) default).world.heap[3]?).bind Obj.row? = some (zero, t) := ⟨(List.replicate 64 (Value.int .u8 0)).toArray, 181, by kernel_rfl⟩
  obtain ⟨cs, hc, _⟩ := hsh.1 3 zero t (of_decide_eq_true (by kernel_rfl)) hz
  have := (Array.getElem?_eq_some_iff.1 hc).1
  omega
noncomputable def laidWorld3 (os : Os) : World :=
  let w0 := World.holding Tryd.prog os ⟨#[], #[], []⟩
  let h1 := put w0.heap 1 (Lib.pow10Tab.map fun z => Value.int .u64 z).toArray
  let h2 := put h1 2 (tab32.map fun z => Value.int .u8 z).toArray
  { w0 with heap := put h2 3 (tab64.map fun z => Value.int .u8 z).toArray }
set_option maxRecDepth 1000000 in
theorem laid_met3 (os : Os) (args : Array Value) : laidMet Tryd.prog laid3 ((laidWorld3 os).forCall (fun _ _ => 0) ⟨#[], args, []⟩).memory :=
  laidMet_of_run' 8 (by kernel_rfl) (by kernel_rfl)
end Go.Proofs.YthmimcegiihcnaaDoor
