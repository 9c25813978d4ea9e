/- The walk of the reference's Over: what is passed over. -/
import Derived.Test.YticdgfljaphhgaaDoorW0
import Derived.Test.YticdgfljaphhgaaDoorSpA
import Derived.Test.YticdgfljaphhgaaDoorBc
namespace Go.Proofs.YticdgfljaphhgaaDoor
open Go.RowKit

set_option maxRecDepth 100000 in
set_option maxHeartbeats 1600000 in
theorem ref_Over_quote (s : ByteArray) (at_ : Nat) (w : World) (hs : s.size < 4294967281) (hat : at_ < s.size)
    (hq : ((s[at_].toNat : Int) == 34) = true ∨ (((s[at_].toNat : Int) == 34) = false ∧ ((s[at_].toNat : Int) == 39) = true)) :
    Calls Tryd.prog 37 #[.string s, .int .i64 at_] w fun e w' => e = .returned (.int .i64 (Sp.place (at_ + 1) (Sp.quoteEnd s[at_] (s.data.toList.drop (at_ + 1))))) ∧ ∃ n, w' = w.drewN n := by
  have hq92 : ((s[at_].toNat : Int) == 92) = false := by
    rcases hq with h | ⟨_, h⟩ <;> (rw [beq_iff_eq] at h; rw [beq_eq_false_iff_ne]; omega)
  have hq10 : ((s[at_].toNat : Int) == 10) = false := by
    rcases hq with h | ⟨_, h⟩ <;> (rw [beq_iff_eq] at h; rw [beq_eq_false_iff_ne]; omega)
  obtain ⟨q, hqd⟩ : ∃ q, s[at_] = q := ⟨_, rfl⟩
  generalize hN : Sp.place (at_ + 1) (Sp.quoteEnd s[at_] (s.data.toList.drop (at_ + 1))) = N
  rw [hqd] at hN hq hq92 hq10
  have HN := Lib.hid hN; clear hN
  rcases hq with h34 | ⟨h34, h39⟩
  all_goals
    go_enter Tryd.func37, Tryd.ntmps37
    go_wp2
    go_loopw [5] (fun i wr => ∃ k : Nat, at_ + 1 ≤ k ∧ k ≤ s.size + 1 ∧ i = .int .i64 k ∧ Sp.place k (Sp.quoteEnd q (s.data.toList.drop k)) = N ∧ ∃ n, wr = w.drewN n) (fun i _ => s.size - (intOf i).toNat)
    case atStart => exact ⟨at_ + 1, by omega, by omega, by go_num, HN.out, 0, rfl⟩
    case round =>
      obtain ⟨k, hk0, hk, rfl, hi, n, rfl⟩ := hrel
      have HI := Lib.hid hi; clear hi
      by_cases hlt : k < s.size
      · by_cases hlt2 : k + 1 < s.size
        · have hd2 := drop_at s (k + 1) hlt2
          have hi := HI.out
          rw [drop_at s k hlt, hd2] at hi
          unfold Sp.quoteEnd at hi
          have HD := Lib.hid hd2; clear hd2
          clear HI
          have HI := Lib.hid hi; clear hi
          go_wp2
          all_goals try (go_quiet (fail); go_wp2)
          all_goals (have hi := HI.out; clear HI HN; have hd2 := HD.out; clear HD)
          all_goals first
            | (go_round
               case rel => go_light; exact ⟨k + 1, by omega, by omega, by go_num, by simp_all [Sp.place_map], _, rfl⟩
               case measure => go_light; simp [intOf]; omega)
            | (go_round
               case rel => go_light; exact ⟨k + 2, by omega, by omega, by go_num, by simp_all [Sp.place_map], _, rfl⟩
               case measure => go_light; simp [intOf]; omega)
            | (go_ret; go_light; exact ⟨ret_int (by first | (simp_all [Sp.place]; done) | (simp_all [Sp.place]; omega)), _, rfl⟩)
        · have hd2 := drop_end s (k + 1) hlt2
          have hi := HI.out
          rw [drop_at s k hlt, hd2] at hi
          unfold Sp.quoteEnd at hi
          have HD := Lib.hid hd2; clear hd2
          clear HI
          have HI := Lib.hid hi; clear hi
          go_wp2
          all_goals try (go_quiet (fail); go_wp2)
          all_goals (have hi := HI.out; clear HI HN; have hd2 := HD.out; clear HD)
          all_goals first
            | (go_round
               case rel => go_light; exact ⟨k + 1, by omega, by omega, by go_num, by rw [hd2]; clear hd2; simp_all [Sp.place_map], _, rfl⟩
               case measure => go_light; simp [intOf]; omega)
            | (go_ret; go_light; exact ⟨ret_int (by first | (simp_all [Sp.place]; done) | (simp_all [Sp.place]; omega)), _, rfl⟩)
            | (go_round
               case rel => go_light; exact ⟨k + 2, by omega, by omega, by go_num, by rw [drop_end s (k + 2) (by omega)]; clear hd2; simp_all [Sp.place, Sp.quoteEnd], _, rfl⟩
               case measure => go_light; simp [intOf]; omega)
      · have hi := HI.out
        rw [drop_end s k hlt] at hi
        unfold Sp.quoteEnd at hi
        clear HI
        have HI := Lib.hid hi; clear hi
        go_wp2
        have hi := HI.out
        go_ret; go_light; exact ⟨ret_int (by simpa [Sp.place] using hi), _, rfl⟩

set_option maxRecDepth 100000 in
set_option maxHeartbeats 1600000 in
theorem ref_Over_tick (s : ByteArray) (at_ : Nat) (w : World) (hs : s.size < 4294967281) (hat : at_ < s.size)
    (h34 : ((s[at_].toNat : Int) == 34) = false) (h39 : ((s[at_].toNat : Int) == 39) = false) (h96 : ((s[at_].toNat : Int) == 96) = true) :
    Calls Tryd.prog 37 #[.string s, .int .i64 at_] w fun e w' => e = .returned (.int .i64 (Sp.place (at_ + 1) (Sp.upto (s.data.toList.drop (at_ + 1)) [96]))) ∧ w = w' := by
  generalize hN : Sp.place (at_ + 1) (Sp.upto (s.data.toList.drop (at_ + 1)) [96]) = N
  have HN := Lib.hid hN; clear hN
  go_enter Tryd.func37, Tryd.ntmps37
  go_wp2
  go_loop [6] (fun i => ∃ k : Nat, at_ + 1 ≤ k ∧ k ≤ s.size ∧ i = .int .i64 k ∧ Sp.place k (Sp.upto (s.data.toList.drop k) [96]) = N) (fun i => s.size - (intOf i).toNat)
  case atStart => exact ⟨at_ + 1, by omega, by omega, by go_num, HN.out⟩
  case round =>
    obtain ⟨k, hk0, hk, rfl, hi⟩ := hrel
    have HI := Lib.hid hi; clear hi
    by_cases hlt : k < s.size
    · have hi := HI.out
      rw [drop_at s k hlt, Sp.upto_cons, Sp.hasPrefix_one] at hi
      clear HI
      have HI := Lib.hid hi; clear hi
      go_wp2
      all_goals (have hi := HI.out; clear HI HN)
      all_goals first
        | (go_round
           case rel => go_light; exact ⟨k + 1, by omega, by omega, by go_num, by simp_all [Sp.place_map]⟩
           case measure => go_light; simp [intOf]; omega)
        | (go_ret; go_light; exact ⟨ret_int (by first | (simp_all [Sp.place]; done) | (simp_all [Sp.place]; omega)), rfl⟩)
    · have hi := HI.out
      rw [drop_end s k hlt, Sp.upto_nil] at hi
      clear HI
      have HI := Lib.hid hi; clear hi
      go_wp2
      have hi := HI.out
      go_ret; go_light; exact ⟨ret_int (by simpa [Sp.place] using hi), rfl⟩

set_option maxRecDepth 100000 in
set_option maxHeartbeats 1600000 in
theorem ref_Over_rem (s : ByteArray) (at_ : Nat) (w : World) (hs : s.size < 4294967281) (hat : at_ + 1 < s.size)
    (h34 : ((s[at_].toNat : Int) == 34) = false) (h39 : ((s[at_].toNat : Int) == 39) = false) (h96 : ((s[at_].toNat : Int) == 96) = false)
    (hp1 : Lib.hasPrefix (s.data.toList.drop at_) [47, 47] = false) (hp2 : Lib.hasPrefix (s.data.toList.drop at_) [47, 42] = true) :
    Calls Tryd.prog 37 #[.string s, .int .i64 at_] w fun e w' => e = .returned (.int .i64 (Sp.place (at_ + 2) (Sp.upto (s.data.toList.drop (at_ + 2)) [42, 47]))) ∧ w = w' := by
  generalize hN : Sp.place (at_ + 2) (Sp.upto (s.data.toList.drop (at_ + 2)) [42, 47]) = N
  have HN := Lib.hid hN; clear hN
  go_enter Tryd.func37, Tryd.ntmps37
  go_wp2_with (go_at_call 66; refine (ref_begins _ _ _ _ hs (by decide) (by omega)).mono ?_; rintro e w' ⟨rfl, rfl⟩)
  go_loop [8] (fun i => ∃ k : Nat, at_ + 2 ≤ k ∧ k ≤ s.size ∧ i = .int .i64 k ∧ Sp.place k (Sp.upto (s.data.toList.drop k) [42, 47]) = N) (fun i => s.size - (intOf i).toNat)
  case atStart => exact ⟨at_ + 2, by omega, by omega, by go_num, HN.out⟩
  case round =>
    obtain ⟨k, hk0, hk, rfl, hi⟩ := hrel
    have HI := Lib.hid hi; clear hi
    by_cases hlt : k < s.size
    · have hi := HI.out
      rw [drop_at s k hlt, Sp.upto_cons, ← drop_at s k hlt] at hi
      clear HI
      have HI := Lib.hid hi; clear hi
      go_wp2_with (go_at_call 66; refine (ref_begins _ _ _ _ hs (by decide) (by omega)).mono ?_; rintro e w' ⟨rfl, rfl⟩)
      all_goals (have hi := HI.out; clear HI HN)
      all_goals first
        | (go_round
           case rel => go_light; exact ⟨k + 1, by omega, by omega, by go_num, by simp_all [Sp.place_map]⟩
           case measure => go_light; simp [intOf]; omega)
        | (go_ret; go_light; exact ⟨ret_int (by first | (simp_all [Sp.place]; done) | (simp_all [Sp.place]; omega)), rfl⟩)
    · have hi := HI.out
      rw [drop_end s k hlt, Sp.upto_nil] at hi
      clear HI
      have HI := Lib.hid hi; clear hi
      go_wp2
      have hi := HI.out
      go_ret; go_light; exact ⟨ret_int (by simpa [Sp.place] using hi), rfl⟩

set_option maxRecDepth 100000 in
set_option maxHeartbeats 1600000 in
theorem ref_Over_line (s : ByteArray) (at_ : Nat) (w : World) (hs : s.size < 4294967281) (hat : at_ < s.size)
    (h34 : ((s[at_].toNat : Int) == 34) = false) (h39 : ((s[at_].toNat : Int) == 39) = false) (h96 : ((s[at_].toNat : Int) == 96) = false)
    (hp1 : Lib.hasPrefix (s.data.toList.drop at_) [47, 47] = true) :
    Calls Tryd.prog 37 #[.string s, .int .i64 at_] w fun e w' => e = .returned (.int .i64 ((at_ + Sp.line (s.data.toList.drop at_) : Nat) : Int)) ∧ w = w' := by
  generalize hN : at_ + Sp.line (s.data.toList.drop at_) = N
  have HN := Lib.hid hN; clear hN
  go_enter Tryd.func37, Tryd.ntmps37
  go_wp2_with (go_at_call 66; refine (ref_begins _ _ _ _ hs (by decide) (by omega)).mono ?_; rintro e w' ⟨rfl, rfl⟩)
  go_loop [7] (fun i => ∃ k : Nat, at_ ≤ k ∧ k ≤ s.size ∧ i = .int .i64 k ∧ k + Sp.line (s.data.toList.drop k) = N) (fun i => s.size - (intOf i).toNat)
  case atStart => exact ⟨at_, by omega, by omega, by go_num, HN.out⟩
  case round =>
    obtain ⟨k, hk0, hk, rfl, hi⟩ := hrel
    have HI := Lib.hid hi; clear hi
    by_cases hlt : k < s.size
    · have hi := HI.out
      rw [drop_at s k hlt, Sp.line_cons] at hi
      clear HI
      have HI := Lib.hid hi; clear hi
      go_wp2
      all_goals (have hi := HI.out; clear HI HN)
      all_goals first
        | (go_round
           case rel => go_light; exact ⟨k + 1, by omega, by omega, by go_num, by simp_all; omega⟩
           case measure => go_light; simp [intOf]; omega)
        | (go_ret; go_light; exact ⟨ret_int (by first | (simp_all; done) | (simp_all; omega)), rfl⟩)
    · have hi := HI.out
      rw [drop_end s k hlt, Sp.line_nil] at hi
      clear HI
      have HI := Lib.hid hi; clear hi
      go_wp2
      have hi := HI.out
      go_ret; go_light; exact ⟨ret_int (by omega), rfl⟩

set_option maxRecDepth 100000 in
set_option maxHeartbeats 1600000 in
theorem ref_Over_none (s : ByteArray) (at_ : Nat) (w : World) (hs : s.size < 4294967281) (hat : at_ < s.size)
    (h34 : ((s[at_].toNat : Int) == 34) = false) (h39 : ((s[at_].toNat : Int) == 39) = false) (h96 : ((s[at_].toNat : Int) == 96) = false)
    (hp1 : Lib.hasPrefix (s.data.toList.drop at_) [47, 47] = false) (hp2 : Lib.hasPrefix (s.data.toList.drop at_) [47, 42] = false) :
    Calls Tryd.prog 37 #[.string s, .int .i64 at_] w fun e w' => e = .returned (.int .i64 (at_ : Nat)) ∧ w = w' := by
  go_enter Tryd.func37, Tryd.ntmps37
  go_wp2_with (go_at_call 66; refine (ref_begins _ _ _ _ hs (by decide) (by omega)).mono ?_; rintro e w' ⟨rfl, rfl⟩)
  go_ret
  exact ⟨rfl, rfl⟩

theorem ref_Over (s : ByteArray) (at_ : Nat) (w : World) (hs : s.size < 4294967281) (hat : at_ < s.size) :
    Calls Tryd.prog 37 #[.string s, .int .i64 at_] w fun e w' => e = .returned (.int .i64 (Sp.place at_ (Sp.passLen (s.data.toList.drop at_)))) ∧ ∃ n, w' = w.drewN n := by
  have hd := drop_at s at_ hat
  cases h34 : ((s[at_].toNat : Int) == 34) with
  | true =>
    refine (ref_Over_quote s at_ w hs hat (.inl h34)).mono ?_
    rintro e w' ⟨rfl, h⟩
    exact ⟨ret_int (by rw [hd, Sp.passLen_cons, if_pos (.inl h34), Sp.place_map]), h⟩
  | false =>
  cases h39 : ((s[at_].toNat : Int) == 39) with
  | true =>
    refine (ref_Over_quote s at_ w hs hat (.inr ⟨h34, h39⟩)).mono ?_
    rintro e w' ⟨rfl, h⟩
    exact ⟨ret_int (by rw [hd, Sp.passLen_cons, if_pos (.inr h39), Sp.place_map]), h⟩
  | false =>
  have hn : ¬ (((s[at_].toNat : Int) == 34) = true ∨ ((s[at_].toNat : Int) == 39) = true) := by rw [h34, h39]; simp
  cases h96 : ((s[at_].toNat : Int) == 96) with
  | true =>
    refine (ref_Over_tick s at_ w hs hat h34 h39 h96).mono ?_
    rintro e w' ⟨rfl, rfl⟩
    exact ⟨ret_int (by rw [hd, Sp.passLen_cons, if_neg hn, if_pos h96, Sp.place_map]), 0, rfl⟩
  | false =>
  have h96n : ¬ ((s[at_].toNat : Int) == 96) = true := by simp [h96]
  cases hp1 : Lib.hasPrefix (s.data.toList.drop at_) [47, 47] with
  | true =>
    refine (ref_Over_line s at_ w hs hat h34 h39 h96 hp1).mono ?_
    rintro e w' ⟨rfl, rfl⟩
    refine ⟨ret_int ?_, 0, rfl⟩
    rw [hd] at hp1 ⊢
    rw [Sp.passLen_cons, if_neg hn, if_neg h96n, if_neg (Sp.slash_not_star hp1), if_pos hp1]; rfl
  | false =>
  cases hp2 : Lib.hasPrefix (s.data.toList.drop at_) [47, 42] with
  | true =>
    have hat2 : at_ + 1 < s.size := by
      rcases Nat.lt_or_ge (at_ + 1) s.size with h | h
      · exact h
      · rw [hd, drop_end s (at_ + 1) (by omega)] at hp2
        simp [Lib.hasPrefix] at hp2
    refine (ref_Over_rem s at_ w hs hat2 h34 h39 h96 hp1 hp2).mono ?_
    rintro e w' ⟨rfl, rfl⟩
    refine ⟨ret_int ?_, 0, rfl⟩
    rw [hd] at hp2 ⊢
    rw [Sp.passLen_cons, if_neg hn, if_neg h96n, if_pos hp2, Sp.place_map, List.drop_drop]
  | false =>
    refine (ref_Over_none s at_ w hs hat h34 h39 h96 hp1 hp2).mono ?_
    rintro e w' ⟨rfl, rfl⟩
    refine ⟨ret_int ?_, 0, rfl⟩
    rw [hd] at hp1 hp2 ⊢
    rw [Sp.passLen_cons, if_neg hn, if_neg h96n, if_neg (by simp [hp2]), if_neg (by simp [hp1])]; rfl
end Go.Proofs.YticdgfljaphhgaaDoor
