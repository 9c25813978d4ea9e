/- Slices of structs, as they are read; the walk of EqPieces. -/
import Derived.Test.YthmimcegiihcnaaDoorW0
import Derived.Test.YthmimcegiihcnaaDoorSpZ
import Derived.Laws.StructEq
namespace Go.Proofs.YthmimcegiihcnaaDoor
open Go.RowKit

/-- A slice value whose elements, 'size' cells each, read as the rows xs. -/
def SlAt (w : World) (v : Value) (size : Nat) (xs : List (List Value)) : Prop :=
  (xs = [] ∧ ∃ a cap, v = .slice a 0 cap) ∨
  ∃ b off cap, v = .slice (some ⟨b, off, none⟩) xs.length cap ∧ b < w.heap.size ∧ ∀ i r, xs[i]? = some r → ∀ j u, r[j]? = some u → w.cell? ⟨b, off + i * size + j, none⟩ = some u
theorem SlAt.below {w w' : World} {v : Value} {size : Nat} {xs : List (List Value)} (h : SlAt w v size xs) (hb : Below w.heap.size w w') : SlAt w' v size xs := by
  rcases h with h | ⟨b, off, cap, rfl, hlt, hc⟩
  · exact .inl h
  · refine .inr ⟨b, off, cap, rfl, Nat.lt_of_lt_of_le hlt hb.size, fun i r hr j u hu => ?_⟩
    rw [hb.cell (p := ⟨b, _, none⟩) hlt]
    exact hc i r hr j u hu

def pieceC (p : Sp.Piece) : List Value := [.int .i64 p.kind, .string ⟨p.text.toArray⟩, .int .i64 p.n, .string ⟨p.tag.toArray⟩]

theorem toList_mk (l : List UInt8) : (⟨l.toArray⟩ : ByteArray).toList = l := by rw [Lib.toList_data]
end Go.Proofs.YthmimcegiihcnaaDoor
