/- The walks of the small functions of layer 5. -/
import Derived.Test.YticdgfljaphhgaaDoorW0
import Derived.Test.YticdgfljaphhgaaDoorSpA
namespace Go.Proofs.YticdgfljaphhgaaDoor
open Go.RowKit

set_option maxHeartbeats 400000 in
theorem body_digit (c : UInt8) (w : World) :
    Calls Tryd.prog 70 #[.int .u8 (c.toNat : Int)] w fun e w' => e = .returned (.bool (Sp.digit c)) ∧ w = w' := by
  go_enter Tryd.func70, Tryd.ntmps70
  go_wp2
  all_goals go_ret
  all_goals exact ⟨ret_bool (Bool.eq_iff_iff.2 (by simp [Sp.digit]; omega)), rfl⟩

set_option maxHeartbeats 400000 in
theorem body_letter (c : UInt8) (w : World) :
    Calls Tryd.prog 103 #[.int .u8 (c.toNat : Int)] w fun e w' => e = .returned (.bool (Sp.letter c)) ∧ w = w' := by
  go_enter Tryd.func103, Tryd.ntmps103
  go_wp2
  all_goals go_ret
  all_goals exact ⟨ret_bool (Bool.eq_iff_iff.2 (by simp [Sp.letter]; omega)), rfl⟩

set_option maxHeartbeats 400000 in
theorem body_Run (s : ByteArray) (w : World) (hs : s.size < 4294967281) :
    Calls Tryd.prog 67 #[.string s] w fun e w' => e = .returned (.int .i64 (Sp.nameLen true s.data.toList : Nat)) ∧ w = w' := by

  generalize hN : Sp.nameLen true s.data.toList = N
  have HN := Lib.hid hN; clear hN
  go_enter Tryd.func67, Tryd.ntmps67
  go_wp2
  go_loop [3] (fun i => ∃ k : Nat, k ≤ s.size ∧ i = .int .i64 k ∧ k + Sp.nameLen (k == 0) (s.data.toList.drop k) = N) (fun i => s.size - (intOf i).toNat)
  case atStart => exact ⟨0, Nat.zero_le _, rfl, by simp [HN.out]⟩
  case round =>
    obtain ⟨k, hk, rfl, hi⟩ := hrel
    have HI := Lib.hid hi; clear hi
    by_cases hlt : k < s.size
    · have HD := Lib.hid (drop_at s k hlt)
      go_wp2_with (first
        | (go_at_call 103; refine (body_letter _ _).mono ?_; rintro e w' ⟨rfl, rfl⟩)
        | (go_at_call 70; refine (body_digit _ _).mono ?_; rintro e w' ⟨rfl, rfl⟩))
      all_goals (have hi := HI.out; rw [HD.out] at hi; clear HI HD HN; unfold Sp.nameLen at hi)
      all_goals first
        | (go_round
           case rel => go_light; exact ⟨k + 1, by omega, by go_num, by first | (simp_all; done) | (simp_all; omega) | (simp_all; split at hi <;> omega)⟩
           case measure => go_light; simp [intOf]; omega)
        | (go_ret; go_light; exact ⟨ret_int (by first | (simp_all; done) | (simp_all; omega) | (simp_all; split at hi <;> omega)), rfl⟩)
    · have HD := Lib.hid (drop_end s k hlt)
      go_wp2
      have hi := HI.out; rw [HD.out] at hi; clear HI HD HN; unfold Sp.nameLen at hi
      go_ret
      go_light
      exact ⟨ret_int (by first | (simp_all; done) | (simp_all; omega) | (simp_all; split at hi <;> omega)), rfl⟩
end Go.Proofs.YticdgfljaphhgaaDoor
