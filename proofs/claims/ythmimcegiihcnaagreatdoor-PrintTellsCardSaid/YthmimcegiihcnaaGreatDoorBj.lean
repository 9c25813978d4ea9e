/- The walk of Cut's closure. -/
import Derived.Test.YthmimcegiihcnaaGreatDoorW1
import Derived.Test.YthmimcegiihcnaaGreatDoorSpZ
import Derived.Test.YthmimcegiihcnaaGreatDoorBi
namespace Go.Proofs.YthmimcegiihcnaaGreatDoor
open Go.RowKit

theorem ownsRow_some {w : World} {base : Nat} {e : TypeId} {size : Nat} {v : Value} {n : Nat} {xs : List Value} (h : w.ownsRow base e size v n xs) : ∃ a cap, v = .slice a n cap := by
  rcases h.2 with ⟨rfl, rfl⟩ | ⟨g, cap, cur, rfl, _⟩
  · exact ⟨_, _, rfl⟩
  · exact ⟨_, _, rfl⟩

end Go.Proofs.YthmimcegiihcnaaGreatDoor
