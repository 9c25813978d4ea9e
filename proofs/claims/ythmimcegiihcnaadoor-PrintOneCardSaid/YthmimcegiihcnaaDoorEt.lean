/- Layer 8, the reference: Text. -/
import Derived.Test.YthmimcegiihcnaaDoorEb
import Derived.Test.YthmimcegiihcnaaDoorEq
import Derived.Deep.RegionWith
namespace Go.Proofs.YthmimcegiihcnaaDoor
open Go.RowKit

def txtDecl (d : Sp.Decl) : Prop := 1 ≤ d.kind ∧ d.kind ≤ 6 ∧ d.syms.length ≤ 4000 ∧ ∀ s ∈ d.syms, litOk s ∧ 0 ≤ s.num ∧ s.num ≤ 50000
def txtRule (r : Sp.Rule) : Prop := r.alts.length ≤ 4000 ∧ ∀ a ∈ r.alts, txtAlt a ∧ a.parts.length ≤ 4000
theorem len_le_of {acc x y T : List UInt8} {N : Nat} (h : acc ++ (x ++ y) = T) (hT : T.length ≤ N) : acc.length + x.length ≤ N := by
  rw [← h] at hT; simp only [List.length_append] at hT; omega
theorem refAltsT_drop (k : Nat) (a : Sp.Alt) (l : List Sp.Alt) : Sp.refAltsT k (a :: l) = (if k = 0 then [] else [32, 124]) ++ (Sp.refAltT a ++ Sp.refAltsT (k + 1) l) := by
  rw [Sp.refAltsT, List.append_assoc]

set_option maxRecDepth 100000 in
set_option maxHeartbeats 12800000 in
/-- A declaration's key word behind what was written. -/
theorem key_of (dk : Int) (h1 : 1 ≤ dk) (h2 : dk ≤ 6) : dk = 1 ∨ dk = 2 ∨ dk = 3 ∨ dk = 4 ∨ dk = 5 ∨ dk = 6 := by omega

end Go.Proofs.YthmimcegiihcnaaDoor
