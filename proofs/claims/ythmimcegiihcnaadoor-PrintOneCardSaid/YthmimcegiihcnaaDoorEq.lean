/- Layer 8, the reference: May. -/
import Derived.Test.YthmimcegiihcnaaDoorEr
import Derived.Test.YthmimcegiihcnaaDoorEs
namespace Go.Proofs.YthmimcegiihcnaaDoor
open Go.RowKit

theorem idx_row {α : Type} {f : Nat → Value} {row : Value → α → List Value} {l : List α} {k : Nat} {a : α} (h : l[k]? = some a) : (l.mapIdx fun i a => row (f i) a)[k]? = some (row (f k) a) := by
  rw [List.getElem?_mapIdx, h]; rfl
theorem pair_test (l : List UInt8) (k : Nat) (h : k + 2 ≤ l.length) : ∃ c d, l.drop k = c :: d :: l.drop (k + 2) ∧ ((⟨l.toArray⟩ : ByteArray).extract k (k + 2)).data.toList = [c, d] := by
  have h1 : l.drop k = l[k] :: l.drop (k + 1) := List.drop_eq_getElem_cons (by omega)
  have h2 : l.drop (k + 1) = l[k + 1] :: l.drop (k + 2) := List.drop_eq_getElem_cons (by omega)
  refine ⟨l[k], l[k + 1], by rw [h1, h2], ?_⟩
  rw [ext_any]
  show (l.drop k).take (k + 2 - k) = _
  rw [show k + 2 - k = 2 by omega, h1, h2]
  rfl

end Go.Proofs.YthmimcegiihcnaaDoor
