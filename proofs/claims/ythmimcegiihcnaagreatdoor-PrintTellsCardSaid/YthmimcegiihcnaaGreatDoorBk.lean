/- The walk of Cut. -/
import Derived.Test.YthmimcegiihcnaaGreatDoorBj
import Derived.Test.YthmimcegiihcnaaGreatDoorBZ
import Derived.Test.YthmimcegiihcnaaGreatDoorBh
namespace Go.Proofs.YthmimcegiihcnaaGreatDoor
open Go.RowKit

theorem heap_alloc_of {w : World} {b : Nat} {o : Obj} (h : w.heap[b]? = some o) (x : Obj) : (w.alloc x).heap[b]? = some o := (Below.heap_alloc _ _ _ (lt_at h)).trans h
theorem take_more (l : List UInt8) (a b c : Nat) (h : a ≤ b) : ((l.drop a).take (b - a)) ++ ((l.drop b).take c) = (l.drop a).take (b + c - a) := by
  rw [show b + c - a = (b - a) + c by omega, List.take_add, List.drop_drop, show a + (b - a) = b by omega]
theorem cutGo_cons (f : Nat) (pend : List UInt8) (c : UInt8) (t : List UInt8) : Sp.cutGo (f + 1) pend (c :: t) =
    match Sp.passLen (c :: t) with
    | none => none
    | some (n + 1) => Sp.cutGo f (pend ++ (c :: t).take (n + 1)) ((c :: t).drop (n + 1))
    | some 0 =>
      if ((c.toNat : Int) == 36) = true then
        if ((Sp.dollar t).2.2 != 0) = true then none
        else if 0 < (Sp.dollar t).2.1 then (Sp.cutGo f [] ((c :: t).drop (Sp.dollar t).2.1)).map (Sp.flush pend ++ (Sp.dollar t).1 :: ·)
        else Sp.cutGo f (pend ++ [c]) t
      else Sp.cutGo f (pend ++ [c]) t := rfl

end Go.Proofs.YthmimcegiihcnaaGreatDoor
