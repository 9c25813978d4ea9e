/- The walks of char.plain, char.Take and of the small functions of layer 6. -/
import Derived.Test.YthmimcegiihcnaaDoorW0
import Derived.Test.YthmimcegiihcnaaDoorSpZ
import Derived.Test.YthmimcegiihcnaaDoorFb
namespace Go.Proofs.YthmimcegiihcnaaDoor
open Go.RowKit

set_option maxHeartbeats 400000 in
theorem char_plain (c : UInt8) (w : World) :
    Calls Tryd.prog 104 #[.int .u8 (c.toNat : Int)] w fun e w' => e = .returned (.bool (Sp.plainq c)) ∧ w = w' := by
  go_enter Tryd.func104, Tryd.ntmps104
  go_wp2
  all_goals go_ret
  all_goals exact ⟨ret_bool (by unfold Sp.plainq; first | (simp_all; done) | (simp_all; omega) | (rw [Bool.eq_iff_iff]; simp_all; omega)), rfl⟩

theorem span_cons (p : UInt8 → Bool) (c : UInt8) (t : List UInt8) : Sp.span p (c :: t) = if p c = true then Sp.span p t + 1 else 0 := rfl
theorem ret3 {a a' b b' : Int} {k : IntKind} {x x' : Bool} (h1 : a = a') (h2 : b = b') (h3 : x = x') : Ending.returned (.tuple #[.int k a, .int .i64 b, .bool x]) = .returned (.tuple #[.int k a', .int .i64 b', .bool x']) := by rw [h1, h2, h3]

end Go.Proofs.YthmimcegiihcnaaDoor
