/- An argument that is a slice of pieces, opened to the cells that the walks read. -/
import Derived.Test.YthmimcegiihcnaaDoorBi
import Derived.Deep.Slices
import Derived.Deep.Fields
import Derived.ChangeSame
namespace Go.Proofs.YthmimcegiihcnaaDoor
open Go.ChangeShapes Go.WideShapes Go.Deep Go.RowKit

theorem piece_one3 : Tryd.prog.cellsOf 3 = 1 := by kernel_rfl
theorem piece_one9 : Tryd.prog.cellsOf 9 = 1 := by kernel_rfl
theorem four {α : Type} (l : List α) (h : l.length = 4) : ∃ a b c d, l = [a, b, c, d] := by
  rcases l with _ | ⟨a, _ | ⟨b, _ | ⟨c, _ | ⟨d, _ | ⟨e, l⟩⟩⟩⟩⟩ <;> simp at h
  exact ⟨a, b, c, d, rfl⟩
theorem lt_at_cell {w : World} {a : Addr} {v : Value} (h : w.cell? a = some v) : a.block < w.heap.size := by
  rcases Nat.lt_or_ge a.block w.heap.size with h' | h'
  · exact h'
  · unfold World.cell? at h
    simp [Array.getElem?_eq_none h'] at h
theorem str_eta (s : ByteArray) : (⟨s.data.toList.toArray⟩ : ByteArray) = s := by cases s; simp

theorem size_list {D : ByteArray} {d : List UInt8} (h : D.data.toList = d) : D.size = d.length := by
  subst h; rw [Lib.size_eq]
end Go.Proofs.YthmimcegiihcnaaDoor
