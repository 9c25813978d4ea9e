/- The walk of the reference's Join. -/
import Derived.Test.YthmimcegiihcnaaGreatDoorBm
namespace Go.Proofs.YthmimcegiihcnaaGreatDoor
open Go.RowKit

theorem str_eq {s t : ByteArray} (h : s.data.toList = t.data.toList) : Value.string s = Value.string t := by
  have : s = t := by
    apply ByteArray.ext
    apply Array.ext'
    exact h
  rw [this]
set_option maxHeartbeats 400000 in
theorem ref_Name (s : ByteArray) (w : World) (hs : s.size < 4294967281) :
    Calls Tryz.prog 31 #[.string s] w fun e w' => e = .returned (.bool (Sp.isName s.data.toList)) ∧ w = w' := by
  have hl : s.data.toList.length = s.size := by simp
  generalize hN : Sp.isName s.data.toList = N
  unfold Sp.isName at hN
  have he : s.data.toList.isEmpty = decide (s.size = 0) := by
    rw [Bool.eq_iff_iff, List.isEmpty_iff, decide_eq_true_eq, ← hl]
    exact ⟨fun h => by rw [h]; rfl, List.eq_nil_of_length_eq_zero⟩
  rw [hl, he] at hN
  have HN := Lib.hid hN; clear hN hl he
  have HR := Lib.hid (ref_NameAt s 0 w hs (Nat.zero_le _))
  simp only [List.drop_zero] at HR
  generalize Sp.nameLen true s.data.toList = r at *
  go_enter Tryz.func31, Tryz.ntmps31
  go_wp2_with (go_at_call 83; refine (HR.out).mono ?_; rintro e w' ⟨rfl, rfl⟩)
  all_goals (go_ret; have hN := HN.out; clear HN HR)
  all_goals exact ⟨ret_bool (by rw [← hN, Bool.eq_iff_iff]; simp only [Bool.and_eq_true, Bool.not_eq_true', decide_eq_true_eq, decide_eq_false_iff_not, beq_iff_eq, Bool.false_eq_true]; first | omega | (rw [false_iff]; omega)), rfl⟩

end Go.Proofs.YthmimcegiihcnaaGreatDoor
