/- The walk of Has (yuccaref0). -/
import Derived.Test.YthmimcegiihcnaaDoorGs
namespace Go.Proofs.YthmimcegiihcnaaDoor
open Go.RowKit

set_option maxHeartbeats 1600000 in
theorem ref_Has (v : Value) (l : List Int) (x : Int) (w : World) (h : IntsAt w v l) (hl : l.length < 4294967281) :
    Calls Tryd.prog 25 #[v, .int .i64 x] w fun e w' => e = .returned (.bool (decide (x ∈ l))) ∧ w = w' := by
  obtain ⟨la, lcap, rfl⟩ := SlAt.form h
  rw [List.length_map] at h ⊢
  have HL := Lib.hid h
  clear h
  go_enter Tryd.func25, Tryd.ntmps25
  go_wp2_with fail
  go_loopg [5] l.length (fun q iv wr => ∃ k : Nat, k ≤ l.length ∧ q = l.length - k ∧ iv = .int .i64 k ∧ x ∉ l.take k ∧ w = wr)
  case atStart => exact ⟨0, by omega, rfl, rfl, by simp, rfl⟩
  case round =>
    obtain ⟨k, hk, rfl, rfl, hx, rfl⟩ := hrel
    have HX := Lib.hid hx
    clear hx
    by_cases hkn : k < l.length
    · obtain ⟨n, hn⟩ : ∃ n, l[k]? = some n := ⟨_, List.getElem?_eq_getElem hkn⟩
      obtain ⟨lb, lo, rfl, hlb, hlc⟩ := SlAt.at HL.out (k := k) (row := [.int .i64 n]) (by rw [List.getElem?_map, hn]; rfl)
      have hcl := hlc w (Below.refl _ _) 0 _ rfl
      simp only [Nat.add_zero, Nat.mul_one] at hcl
      have HN := Lib.hid hn
      clear hlc hn
      by_cases hx : n = x
      · subst hx
        go_wp2_with fail
        go_ret
        refine ⟨ret_bool ?_, rfl⟩
        symm
        rw [decide_eq_true_eq]
        exact List.mem_of_getElem? HN.out
      · have hx1 : (n == x) = false := by simpa using hx
        go_wp2_with fail
        go_roundg (l.length - (k + 1))
        case measure => omega
        case rel =>
          refine ⟨k + 1, by omega, rfl, by go_num, ?_, rfl⟩
          rw [List.take_add_one, HN.out, List.mem_append]
          rintro (h | h)
          · exact HX.out h
          · simp at h
            exact hx h.symm
    · obtain rfl : k = l.length := by omega
      go_wp2_with fail
      go_ret
      refine ⟨ret_bool ?_, rfl⟩
      symm
      rw [decide_eq_false_iff_not]
      have := HX.out
      rwa [List.take_of_length_le (Nat.le_refl _)] at this
end Go.Proofs.YthmimcegiihcnaaDoor
