/- The walk of body.quoted. -/
import Derived.Test.YticdgfljaphhgaaDoorW0
import Derived.Test.YticdgfljaphhgaaDoorSpA
namespace Go.Proofs.YticdgfljaphhgaaDoor
open Go.RowKit

set_option maxHeartbeats 800000 in
theorem body_quoted (s : ByteArray) (at_ : Nat) (w : World) (hs : s.size < 4294967281) (hat : at_ < s.size) :
    Calls Tryd.prog 62 #[.string s, .int .i64 at_] w fun e w' => e = .returned (.int .i64 (Sp.place (at_ + 1) (Sp.quoteEnd s[at_] (s.data.toList.drop (at_ + 1))))) ∧ ∃ n, w' = w.drewN n := by

  generalize hN : Sp.place (at_ + 1) (Sp.quoteEnd s[at_] (s.data.toList.drop (at_ + 1))) = N
  have HN := Lib.hid hN; clear hN
  go_enter Tryd.func62, Tryd.ntmps62
  go_wp2
  go_loopw [5] (fun i wr => ∃ k : Nat, at_ + 1 ≤ k ∧ k ≤ s.size ∧ i = .int .i64 k ∧ Sp.place k (Sp.quoteEnd s[at_] (s.data.toList.drop k)) = N ∧ ∃ n, wr = w.drewN n) (fun i _ => s.size - (intOf i).toNat)
  case atStart => exact ⟨at_ + 1, by omega, by omega, by go_num, HN.out, 0, rfl⟩
  case round =>
    obtain ⟨k, hk0, hk, rfl, hi, n, rfl⟩ := hrel
    have HI := Lib.hid hi; clear hi
    by_cases hlt : k < s.size
    · by_cases hlt2 : k + 1 < s.size
      · have hd2 := drop_at s (k + 1) hlt2
        have hi := HI.out
        rw [drop_at s k hlt, hd2] at hi
        unfold Sp.quoteEnd at hi
        have HD := Lib.hid hd2; clear hd2
        clear HI
        have HI := Lib.hid hi; clear hi
        go_wp2
        all_goals try (go_quiet (fail); go_wp2)
        all_goals (have hi := HI.out; clear HI HN; have hd2 := HD.out; clear HD)
        all_goals first
          | (go_round
             case rel => go_light; exact ⟨k + 1, by omega, by omega, by go_num, by simp_all [Sp.place_map], _, rfl⟩
             case measure => go_light; simp [intOf]; omega)
          | (go_round
             case rel => go_light; exact ⟨k + 2, by omega, by omega, by go_num, by simp_all [Sp.place_map], _, rfl⟩
             case measure => go_light; simp [intOf]; omega)
          | (go_ret; go_light; exact ⟨ret_int (by first | (simp_all [Sp.place]; done) | (simp_all [Sp.place]; omega)), _, rfl⟩)
      · have hd2 := drop_end s (k + 1) hlt2
        have hi := HI.out
        rw [drop_at s k hlt, hd2] at hi
        unfold Sp.quoteEnd at hi
        have HD := Lib.hid hd2; clear hd2
        clear HI
        have HI := Lib.hid hi; clear hi
        go_wp2
        all_goals try (go_quiet (fail); go_wp2)
        all_goals (have hi := HI.out; clear HI HN; have hd2 := HD.out; clear HD)
        all_goals first
          | (go_round
             case rel => go_light; exact ⟨k + 1, by omega, by omega, by go_num, by rw [hd2]; clear hd2; simp_all [Sp.place_map], _, rfl⟩
             case measure => go_light; simp [intOf]; omega)
          | (go_ret; go_light; exact ⟨ret_int (by first | (simp_all [Sp.place]; done) | (simp_all [Sp.place]; omega)), _, rfl⟩)
    · have hi := HI.out
      rw [drop_end s k hlt] at hi
      unfold Sp.quoteEnd at hi
      clear HI
      have HI := Lib.hid hi; clear hi
      go_wp2
      have hi := HI.out
      go_ret; go_light; exact ⟨ret_int (by simpa [Sp.place] using hi), _, rfl⟩
end Go.Proofs.YticdgfljaphhgaaDoor
