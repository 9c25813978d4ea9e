/- The walks of Name, NameAt, begins, and of the small functions of the reference. -/
import Derived.Test.YticdgfljaphhgaaDoorW0
import Derived.Test.YticdgfljaphhgaaDoorSpA
import Derived.Test.YticdgfljaphhgaaDoorBa
namespace Go.Proofs.YticdgfljaphhgaaDoor
open Go.RowKit

set_option maxHeartbeats 400000 in
theorem ref_digit (c : UInt8) (w : World) :
    Calls Tryd.prog 91 #[.int .u8 (c.toNat : Int)] w fun e w' => e = .returned (.bool (Sp.digit c)) ∧ w = w' := by
  go_enter Tryd.func91, Tryd.ntmps91
  go_wp2
  all_goals go_ret
  all_goals exact ⟨ret_bool (Bool.eq_iff_iff.2 (by simp [Sp.digit]; omega)), rfl⟩

set_option maxHeartbeats 400000 in
theorem ref_letter (c : UInt8) (w : World) :
    Calls Tryd.prog 90 #[.int .u8 (c.toNat : Int)] w fun e w' => e = .returned (.bool (Sp.letter c)) ∧ w = w' := by
  go_enter Tryd.func90, Tryd.ntmps90
  go_wp2
  all_goals go_ret
  all_goals exact ⟨ret_bool (Bool.eq_iff_iff.2 (by simp [Sp.letter]; omega)), rfl⟩

set_option maxHeartbeats 800000 in
theorem ref_NameAt (s : ByteArray) (at_ : Nat) (w : World) (hs : s.size < 4294967281) (hat : at_ ≤ s.size) :
    Calls Tryd.prog 51 #[.string s, .int .i64 at_] w fun e w' => e = .returned (.int .i64 (Sp.nameLen true (s.data.toList.drop at_) : Nat)) ∧ w = w' := by

  generalize hN : Sp.nameLen true (s.data.toList.drop at_) = N
  have HN := Lib.hid hN; clear hN
  go_enter Tryd.func51, Tryd.ntmps51
  go_wp2
  go_loop [5] (fun i => ∃ k : Nat, at_ + k ≤ s.size ∧ i = .int .i64 k ∧ k + Sp.nameLen (k == 0) (s.data.toList.drop (at_ + k)) = N) (fun i => s.size - (intOf i).toNat)
  case atStart => exact ⟨0, by omega, rfl, by simp [HN.out]⟩
  case round =>
    obtain ⟨k, hk, rfl, hi⟩ := hrel
    have HI := Lib.hid hi; clear hi
    by_cases hlt : at_ + k < s.size
    · have HD := Lib.hid (drop_at s (at_ + k) hlt)
      go_wp2_with (first
        | (go_at_call 90; refine (ref_letter _ _).mono ?_; rintro e w' ⟨rfl, rfl⟩)
        | (go_at_call 91; refine (ref_digit _ _).mono ?_; rintro e w' ⟨rfl, rfl⟩))
      all_goals (have hi := HI.out; rw [HD.out] at hi; clear HI HD HN; unfold Sp.nameLen at hi)
      all_goals first
        | (go_round
           case rel => go_light; exact ⟨k + 1, by omega, by go_num, by first | (simp_all [Nat.add_assoc]; done) | (simp_all [Nat.add_assoc]; omega) | (simp_all [Nat.add_assoc]; split at hi <;> omega)⟩
           case measure => go_light; simp [intOf]; omega)
        | (go_ret; go_light; exact ⟨ret_int (by first | (simp_all; done) | (simp_all; omega) | (simp_all; split at hi <;> omega)), rfl⟩)
    · have HD := Lib.hid (drop_end s (at_ + k) hlt)
      go_wp2
      have hi := HI.out; rw [HD.out] at hi; clear HI HD HN; unfold Sp.nameLen at hi
      go_ret
      go_light
      exact ⟨ret_int (by first | (simp_all; done) | (simp_all; omega)), rfl⟩

set_option maxHeartbeats 400000 in
theorem body_Name (s : ByteArray) (w : World) (hs : s.size < 4294967281) :
    Calls Tryd.prog 38 #[.string s] w fun e w' => e = .returned (.bool (Sp.isName s.data.toList)) ∧ w = w' := by
  have hl : s.data.toList.length = s.size := by simp
  generalize hN : Sp.isName s.data.toList = N
  unfold Sp.isName at hN
  rw [hl] at hN
  have HN := Lib.hid hN; clear hN hl
  have HR := Lib.hid (body_Run s w hs)
  generalize Sp.nameLen true s.data.toList = r at *
  go_enter Tryd.func38, Tryd.ntmps38
  go_wp2_with (go_at_call 67; refine (HR.out).mono ?_; rintro e w' ⟨rfl, rfl⟩)
  all_goals (go_ret; have hN := HN.out; clear HN HR)
  all_goals exact ⟨ret_bool (by rw [← hN, ← Lib.toList_data, Bool.eq_iff_iff]; simp_all; try omega), rfl⟩

set_option maxHeartbeats 400000 in
theorem ref_begins (s p : ByteArray) (at_ : Nat) (w : World) (hs : s.size < 4294967281) (hp : p.size < 4294967281) (hat : at_ ≤ s.size) :
    Calls Tryd.prog 66 #[.string s, .int .i64 at_, .string p] w fun e w' => e = .returned (.bool (Lib.hasPrefix (s.data.toList.drop at_) p.data.toList)) ∧ w = w' := by

  go_enter Tryd.func66, Tryd.ntmps66
  go_wp2
  all_goals go_ret
  · exact ⟨ret_bool (by
      rw [Lib.extract_toList, Lib.toList_data, ← Lib.hasPrefix_of_take, Nat.add_sub_cancel_left, ← Lib.size_eq p]
      rw [show decide (p.size ≤ (s.data.toList.drop at_).length) = true by simp; omega]
      rfl), rfl⟩
  · exact ⟨ret_bool (by
      rw [← Lib.hasPrefix_of_take, ← Lib.size_eq p]
      rw [show decide (p.size ≤ (s.data.toList.drop at_).length) = false by simp; omega]
      rfl), rfl⟩
end Go.Proofs.YticdgfljaphhgaaDoor
