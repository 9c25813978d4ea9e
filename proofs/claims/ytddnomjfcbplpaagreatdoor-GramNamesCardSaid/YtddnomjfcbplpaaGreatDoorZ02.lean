import Derived.Test.YtddnomjfcbplpaaGreatDoorZ01
import Derived.Lib.IndexMore
namespace Go.Proofs.YtddnomjfcbplpaaGreatDoor
open Go.RowKit

set_option maxRecDepth 100000 in
set_option maxHeartbeats 1600000 in
theorem zCU (s : ByteArray) (at_ : Nat) (w : World) (hs : s.size < 4294967281) (hat : at_ < s.size)
  (hq : ((s[at_].toNat : Int) == 34) = true ∨ (((s[at_].toNat : Int) == 34) = false ∧ ((s[at_].toNat : Int) == 39) = true)) :
  Calls Tryz.prog 90 #[.string s, .int .i64 at_] w fun e w' => e = .returned (.int .i64 (Sp.yG (at_ + 1) (Sp.yV s[at_] (s.data.toList.drop (at_ + 1))))) ∧ ∃ n, w' = w.drewN n := by
 have hq92 : ((s[at_].toNat : Int) == 92) = false := by
  rcases hq with h | ⟨_, h⟩ <;> (rw [beq_iff_eq] at h; rw [beq_eq_false_iff_ne]; omega)
 have hq10 : ((s[at_].toNat : Int) == 10) = false := by
  rcases hq with h | ⟨_, h⟩ <;> (rw [beq_iff_eq] at h; rw [beq_eq_false_iff_ne]; omega)
 obtain ⟨q, hqd⟩ : ∃ q, s[at_] = q := ⟨_, rfl⟩
 generalize hN : Sp.yG (at_ + 1) (Sp.yV s[at_] (s.data.toList.drop (at_ + 1))) = N; rw [hqd] at hN hq hq92 hq10; have HN := zh hN; clear hN; rcases hq with h34 | ⟨h34, h39⟩
 all_goals
  go_enter Tryz.func90, Tryz.ntmps90
  go_wp2
  go_loopw [5] (fun i wr => ∃ k : Nat, at_ + 1 ≤ k ∧ k ≤ s.size + 1 ∧ i = .int .i64 k ∧ Sp.yG k (Sp.yV q (s.data.toList.drop k)) = N ∧ ∃ n, wr = w.drewN n) (fun i _ => s.size - (intOf i).toNat)
  case atStart => exact ⟨at_ + 1, by omega, by omega, by go_num, HN.out, 0, rfl⟩
  case round =>
   obtain ⟨k, hk0, hk, rfl, hi, n, rfl⟩ := hrel; have HI := zh hi; clear hi; by_cases hlt : k < s.size
   ·by_cases hlt2 : k + 1 < s.size
    ·have hd2 := xM s (k + 1) hlt2
     have hi := HI.out; rw [xM s k hlt, hd2] at hi; unfold Sp.yV at hi; have HD := zh hd2; clear hd2; clear HI; have HI := zh hi; clear hi; go_wp2
     all_goals try (go_quiet (fail); go_wp2)
     all_goals (have hi := HI.out; clear HI HN; have hd2 := HD.out; clear HD)
     all_goals first
      | (go_round
         case rel => go_light; exact ⟨k + 1, by omega, by omega, by go_num, by simp_all [Sp.yR], _, rfl⟩
         case measure => go_light; simp [intOf]; omega)
      | (go_round
         case rel => go_light; exact ⟨k + 2, by omega, by omega, by go_num, by simp_all [Sp.yR], _, rfl⟩
         case measure => go_light; simp [intOf]; omega)
      | (go_ret; go_light; exact ⟨zW (by first | (simp_all [Sp.yG]; done) | (simp_all [Sp.yG]; omega)), _, rfl⟩)
    ·have hd2 := qV s (k + 1) hlt2
     have hi := HI.out; rw [xM s k hlt, hd2] at hi; unfold Sp.yV at hi; have HD := zh hd2; clear hd2; clear HI; have HI := zh hi; clear hi; go_wp2
     all_goals try (go_quiet (fail); go_wp2)
     all_goals (have hi := HI.out; clear HI HN; have hd2 := HD.out; clear HD)
     all_goals first
      | (go_round
         case rel => go_light; exact ⟨k + 1, by omega, by omega, by go_num, by rw [hd2]; clear hd2; simp_all [Sp.yR], _, rfl⟩
         case measure => go_light; simp [intOf]; omega)
      | (go_ret; go_light; exact ⟨zW (by first | (simp_all [Sp.yG]; done) | (simp_all [Sp.yG]; omega)), _, rfl⟩)
      | (go_round
         case rel => go_light; exact ⟨k + 2, by omega, by omega, by go_num, by rw [qV s (k + 2) (by omega)]; clear hd2; simp_all [Sp.yG, Sp.yV], _, rfl⟩
         case measure => go_light; simp [intOf]; omega)
   ·have hi := HI.out
    rw [qV s k hlt] at hi; unfold Sp.yV at hi; clear HI; have HI := zh hi; clear hi; go_wp2
    have hi := HI.out; go_ret; go_light; exact ⟨zW (by simpa [Sp.yG] using hi), _, rfl⟩

set_option maxRecDepth 100000 in
set_option maxHeartbeats 1600000 in
theorem ref_Over_tick (s : ByteArray) (at_ : Nat) (w : World) (hs : s.size < 4294967281) (hat : at_ < s.size)
  (h34 : ((s[at_].toNat : Int) == 34) = false) (h39 : ((s[at_].toNat : Int) == 39) = false) (h96 : ((s[at_].toNat : Int) == 96) = true) :
  Calls Tryz.prog 90 #[.string s, .int .i64 at_] w fun e w' => e = .returned (.int .i64 (Sp.yG (at_ + 1) (Sp.upto (s.data.toList.drop (at_ + 1)) [96]))) ∧ w = w' := by
 generalize hN : Sp.yG (at_ + 1) (Sp.upto (s.data.toList.drop (at_ + 1)) [96]) = N; have HN := zh hN; clear hN; go_enter Tryz.func90, Tryz.ntmps90
 go_wp2
 go_loop [6] (fun i => ∃ k : Nat, at_ + 1 ≤ k ∧ k ≤ s.size ∧ i = .int .i64 k ∧ Sp.yG k (Sp.upto (s.data.toList.drop k) [96]) = N) (fun i => s.size - (intOf i).toNat)
 case atStart => exact ⟨at_ + 1, by omega, by omega, by go_num, HN.out⟩
 case round =>
  obtain ⟨k, hk0, hk, rfl, hi⟩ := hrel; have HI := zh hi; clear hi; by_cases hlt : k < s.size
  ·have hi := HI.out
   rw [xM s k hlt, Sp.upto_cons, Sp.hasPrefix_one] at hi; clear HI; have HI := zh hi; clear hi; go_wp2
   all_goals (have hi := HI.out; clear HI HN)
   all_goals first
    | (go_round
       case rel => go_light; exact ⟨k + 1, by omega, by omega, by go_num, by simp_all [Sp.yR]⟩
       case measure => go_light; simp [intOf]; omega)
    | (go_ret; go_light; exact ⟨zW (by first | (simp_all [Sp.yG]; done) | (simp_all [Sp.yG]; omega)), rfl⟩)
  ·have hi := HI.out
   rw [qV s k hlt, Sp.upto_nil] at hi; clear HI; have HI := zh hi; clear hi; go_wp2
   have hi := HI.out; go_ret; go_light; exact ⟨zW (by simpa [Sp.yG] using hi), rfl⟩

set_option maxRecDepth 100000 in
set_option maxHeartbeats 1600000 in
theorem ref_Over_rem (s : ByteArray) (at_ : Nat) (w : World) (hs : s.size < 4294967281) (hat : at_ + 1 < s.size)
  (h34 : ((s[at_].toNat : Int) == 34) = false) (h39 : ((s[at_].toNat : Int) == 39) = false) (h96 : ((s[at_].toNat : Int) == 96) = false)
  (hp1 : Lib.hasPrefix (s.data.toList.drop at_) [47, 47] = false) (hp2 : Lib.hasPrefix (s.data.toList.drop at_) [47, 42] = true) :
  Calls Tryz.prog 90 #[.string s, .int .i64 at_] w fun e w' => e = .returned (.int .i64 (Sp.yG (at_ + 2) (Sp.upto (s.data.toList.drop (at_ + 2)) [42, 47]))) ∧ w = w' := by
 generalize hN : Sp.yG (at_ + 2) (Sp.upto (s.data.toList.drop (at_ + 2)) [42, 47]) = N; have HN := zh hN; clear hN; go_enter Tryz.func90, Tryz.ntmps90
 go_wp2_with (go_at_call 101; refine (zBS _ _ _ _ hs (by decide) (by omega)).mono ?_; rintro e w' ⟨rfl, rfl⟩)
 go_loop [8] (fun i => ∃ k : Nat, at_ + 2 ≤ k ∧ k ≤ s.size ∧ i = .int .i64 k ∧ Sp.yG k (Sp.upto (s.data.toList.drop k) [42, 47]) = N) (fun i => s.size - (intOf i).toNat)
 case atStart => exact ⟨at_ + 2, by omega, by omega, by go_num, HN.out⟩
 case round =>
  obtain ⟨k, hk0, hk, rfl, hi⟩ := hrel; have HI := zh hi; clear hi; by_cases hlt : k < s.size
  ·have hi := HI.out
   rw [xM s k hlt, Sp.upto_cons, ← xM s k hlt] at hi; clear HI; have HI := zh hi; clear hi; go_wp2_with (go_at_call 101; refine (zBS _ _ _ _ hs (by decide) (by omega)).mono ?_; rintro e w' ⟨rfl, rfl⟩)
   all_goals (have hi := HI.out; clear HI HN)
   all_goals first
    | (go_round
       case rel => go_light; exact ⟨k + 1, by omega, by omega, by go_num, by simp_all [Sp.yR]⟩
       case measure => go_light; simp [intOf]; omega)
    | (go_ret; go_light; exact ⟨zW (by first | (simp_all [Sp.yG]; done) | (simp_all [Sp.yG]; omega)), rfl⟩)
  ·have hi := HI.out
   rw [qV s k hlt, Sp.upto_nil] at hi; clear HI; have HI := zh hi; clear hi; go_wp2
   have hi := HI.out; go_ret; go_light; exact ⟨zW (by simpa [Sp.yG] using hi), rfl⟩

set_option maxRecDepth 100000 in
set_option maxHeartbeats 1600000 in
theorem ref_Over_line (s : ByteArray) (at_ : Nat) (w : World) (hs : s.size < 4294967281) (hat : at_ < s.size)
  (h34 : ((s[at_].toNat : Int) == 34) = false) (h39 : ((s[at_].toNat : Int) == 39) = false) (h96 : ((s[at_].toNat : Int) == 96) = false)
  (hp1 : Lib.hasPrefix (s.data.toList.drop at_) [47, 47] = true) :
  Calls Tryz.prog 90 #[.string s, .int .i64 at_] w fun e w' => e = .returned (.int .i64 ((at_ + Sp.line (s.data.toList.drop at_) : Nat) : Int)) ∧ w = w' := by
 generalize hN : at_ + Sp.line (s.data.toList.drop at_) = N; have HN := zh hN; clear hN; go_enter Tryz.func90, Tryz.ntmps90
 go_wp2_with (go_at_call 101; refine (zBS _ _ _ _ hs (by decide) (by omega)).mono ?_; rintro e w' ⟨rfl, rfl⟩)
 go_loop [7] (fun i => ∃ k : Nat, at_ ≤ k ∧ k ≤ s.size ∧ i = .int .i64 k ∧ k + Sp.line (s.data.toList.drop k) = N) (fun i => s.size - (intOf i).toNat)
 case atStart => exact ⟨at_, by omega, by omega, by go_num, HN.out⟩
 case round =>
  obtain ⟨k, hk0, hk, rfl, hi⟩ := hrel; have HI := zh hi; clear hi; by_cases hlt : k < s.size
  ·have hi := HI.out
   rw [xM s k hlt, Sp.line_cons] at hi; clear HI; have HI := zh hi; clear hi; go_wp2
   all_goals (have hi := HI.out; clear HI HN)
   all_goals first
    | (go_round
       case rel => go_light; exact ⟨k + 1, by omega, by omega, by go_num, by simp_all; omega⟩
       case measure => go_light; simp [intOf]; omega)
    | (go_ret; go_light; exact ⟨zW (by first | (simp_all; done) | (simp_all; omega)), rfl⟩)
  ·have hi := HI.out
   rw [qV s k hlt, Sp.line_nil] at hi; clear HI; have HI := zh hi; clear hi; go_wp2
   have hi := HI.out; go_ret; go_light; exact ⟨zW (by omega), rfl⟩

set_option maxRecDepth 100000 in
set_option maxHeartbeats 1600000 in
theorem ref_Over_none (s : ByteArray) (at_ : Nat) (w : World) (hs : s.size < 4294967281) (hat : at_ < s.size)
  (h34 : ((s[at_].toNat : Int) == 34) = false) (h39 : ((s[at_].toNat : Int) == 39) = false) (h96 : ((s[at_].toNat : Int) == 96) = false)
  (hp1 : Lib.hasPrefix (s.data.toList.drop at_) [47, 47] = false) (hp2 : Lib.hasPrefix (s.data.toList.drop at_) [47, 42] = false) :
  Calls Tryz.prog 90 #[.string s, .int .i64 at_] w fun e w' => e = .returned (.int .i64 (at_ : Nat)) ∧ w = w' := by
 go_enter Tryz.func90, Tryz.ntmps90
 go_wp2_with (go_at_call 101; refine (zBS _ _ _ _ hs (by decide) (by omega)).mono ?_; rintro e w' ⟨rfl, rfl⟩)
 go_ret; exact ⟨rfl, rfl⟩

theorem ref_Over (s : ByteArray) (at_ : Nat) (w : World) (hs : s.size < 4294967281) (hat : at_ < s.size) :
  Calls Tryz.prog 90 #[.string s, .int .i64 at_] w fun e w' => e = .returned (.int .i64 (Sp.yG at_ (Sp.kM (s.data.toList.drop at_)))) ∧ ∃ n, w' = w.drewN n := by
 have hd := xM s at_ hat
 cases h34 : ((s[at_].toNat : Int) == 34) with
 | true =>
  refine (zCU s at_ w hs hat (.inl h34)).mono ?_; rintro e w' ⟨rfl, h⟩; exact ⟨zW (by rw [hd, Sp.yQ, if_pos (.inl h34), Sp.yR]), h⟩
 | false =>
 cases h39 : ((s[at_].toNat : Int) == 39) with
 | true =>
  refine (zCU s at_ w hs hat (.inr ⟨h34, h39⟩)).mono ?_; rintro e w' ⟨rfl, h⟩; exact ⟨zW (by rw [hd, Sp.yQ, if_pos (.inr h39), Sp.yR]), h⟩
 | false =>
 have hn : ¬ (((s[at_].toNat : Int) == 34) = true ∨ ((s[at_].toNat : Int) == 39) = true) := by rw [h34, h39]; simp
 cases h96 : ((s[at_].toNat : Int) == 96) with
 | true =>
  refine (ref_Over_tick s at_ w hs hat h34 h39 h96).mono ?_; rintro e w' ⟨rfl, rfl⟩; exact ⟨zW (by rw [hd, Sp.yQ, if_neg hn, if_pos h96, Sp.yR]), 0, rfl⟩
 | false =>
 have h96n : ¬ ((s[at_].toNat : Int) == 96) = true := by simp [h96]
 cases hp1 : Lib.hasPrefix (s.data.toList.drop at_) [47, 47] with
 | true =>
  refine (ref_Over_line s at_ w hs hat h34 h39 h96 hp1).mono ?_; rintro e w' ⟨rfl, rfl⟩; refine ⟨zW ?_, 0, rfl⟩; rw [hd] at hp1 ⊢; rw [Sp.yQ, if_neg hn, if_neg h96n, if_neg (Sp.slash_not_star hp1), if_pos hp1]; rfl
 | false =>
 cases hp2 : Lib.hasPrefix (s.data.toList.drop at_) [47, 42] with
 | true =>
  have hat2 : at_ + 1 < s.size := by
   rcases Nat.lt_or_ge (at_ + 1) s.size with h | h
   ·exact h
   ·rw [hd, qV s (at_ + 1) (by omega)] at hp2
    simp [Lib.hasPrefix] at hp2
  refine (ref_Over_rem s at_ w hs hat2 h34 h39 h96 hp1 hp2).mono ?_; rintro e w' ⟨rfl, rfl⟩; refine ⟨zW ?_, 0, rfl⟩; rw [hd] at hp2 ⊢; rw [Sp.yQ, if_neg hn, if_neg h96n, if_pos hp2, Sp.yR, List.drop_drop]
 | false =>
  refine (ref_Over_none s at_ w hs hat h34 h39 h96 hp1 hp2).mono ?_; rintro e w' ⟨rfl, rfl⟩; refine ⟨zW ?_, 0, rfl⟩; rw [hd] at hp1 hp2 ⊢; rw [Sp.yQ, if_neg hn, if_neg h96n, if_neg (by simp [hp2]), if_neg (by simp [hp1])]; rfl

set_option maxHeartbeats 400000 in
theorem body_upto (s : ByteArray) (from_ : Nat) (p : ByteArray) (w : World) (hs : s.size < 4294967281) (hp : p.size < 4294967281) (hat : from_ ≤ s.size) (hg : Gl w) :
  Calls Tryz.prog 117 #[.string s, .int .i64 from_, .string p] w fun e w' => e = .returned (.int .i64 (Sp.yG from_ (Sp.upto (s.data.toList.drop from_) p.data.toList))) ∧ w = w' := by
 generalize hN : Sp.yG from_ (Sp.upto (s.data.toList.drop from_) p.data.toList) = N; unfold Sp.upto at hN; have hlt := Lib.index_room (s.data.toList.drop from_) p.data.toList; have hge := Lib.index_ge (s.data.toList.drop from_) p.data.toList; have hlen : (s.data.toList.drop from_).length = s.size - from_ := by simp
 have hlen2 : p.data.toList.length = p.size := by simp
 rw [hlen, hlen2] at hlt; rw [hlen2] at hN; clear hlen hlen2; rw [← ext_end] at hN hlt hge; generalize hi : Lib.index (s.extract from_ s.size).data.toList p.data.toList = i at *
 have HI := zh hi; clear hi; have HN := zh hN; clear hN; go_enter Tryz.func117, Tryz.ntmps117
 go_wp2_with (go_at_call 74; refine (strings_Index_gl _ _ _ (by simp; omega) hg).mono ?_; rintro e w' ⟨rfl, rfl⟩; rw [HI.out])
 all_goals (go_ret; have hN := HN.out; clear HN HI)
 all_goals exact ⟨zW (by rw [← hN]; first | (rw [if_pos (by omega)]; simp [Sp.yG]; omega) | (rw [if_neg (by omega)]; rfl)), rfl⟩

set_option maxHeartbeats 1600000 in
theorem body_pass (s : ByteArray) (at_ : Nat) (w : World) (hs : s.size < 4294967281) (hat : at_ < s.size) (hg : Gl w) :
  Calls Tryz.prog 111 #[.string s, .int .i64 at_] w fun e w' => e = .returned (.int .i64 (Sp.yG at_ (Sp.kM (s.data.toList.drop at_)))) ∧ ∃ n, w' = w.drewN n := by
 have hd := zh (xM s at_ hat)
 cases h34 : ((s[at_].toNat : Int) == 34) with
 | true =>
  go_enter Tryz.func111, Tryz.ntmps111
  go_wp2_with (go_at_call 116; refine (body_quoted s at_ _ hs hat).mono ?_; rintro e w' ⟨rfl, n, rfl⟩)
  go_ret; exact ⟨zW (by rw [hd.out, Sp.yQ, if_pos (.inl h34), Sp.yR]), _, rfl⟩
 | false =>
 cases h39 : ((s[at_].toNat : Int) == 39) with
 | true =>
  go_enter Tryz.func111, Tryz.ntmps111
  go_wp2_with (go_at_call 116; refine (body_quoted s at_ _ hs hat).mono ?_; rintro e w' ⟨rfl, n, rfl⟩)
  go_ret; exact ⟨zW (by rw [hd.out, Sp.yQ, if_pos (.inr h39), Sp.yR]), _, rfl⟩
 | false =>
 have hn := zh (show ¬ (((s[at_].toNat : Int) == 34) = true ∨ ((s[at_].toNat : Int) == 39) = true) by rw [h34, h39]; simp)
 cases h96 : ((s[at_].toNat : Int) == 96) with
 | true =>
  go_enter Tryz.func111, Tryz.ntmps111
  go_wp2_with (go_at_call 117; refine (body_upto s (at_ + 1) _ _ hs (by decide) (by omega) hg).mono ?_; rintro e w' ⟨rfl, rfl⟩)
  go_ret; exact ⟨zW (by rw [hd.out, Sp.yQ, if_neg hn.out, if_pos h96, Sp.yR]), 0, rfl⟩
 | false =>
 have h96n := zh (show ¬ ((s[at_].toNat : Int) == 96) = true by simp [h96])
 cases hp2 : Lib.hasPrefix (s.data.toList.drop at_) [47, 42] with
 | true =>
  have hat2 : at_ + 1 < s.size := by
   rcases Nat.lt_or_ge (at_ + 1) s.size with h | h
   ·exact h
   ·rw [hd.out, qV s (at_ + 1) (by omega)] at hp2
    simp [Lib.hasPrefix] at hp2
  have HP := zh hp2; go_enter Tryz.func111, Tryz.ntmps111
  go_wp2_with (first
   | (go_at_call 118; refine (jG _ _ _).mono ?_; rintro e w' ⟨rfl, rfl⟩; rw [ext_end])
   | (go_at_call 117; refine (body_upto s (at_ + 2) _ _ hs (by decide) (by omega) hg).mono ?_; rintro e w' ⟨rfl, rfl⟩))
  go_ret; have hp := HP.out; refine ⟨zW ?_, 0, rfl⟩; rw [hd.out] at hp ⊢; rw [Sp.yQ, if_neg hn.out, if_neg h96n.out, if_pos hp, Sp.yR, List.drop_drop]
 | false =>
 cases hp1 : Lib.hasPrefix (s.data.toList.drop at_) [47, 47] with
 | true =>
  have HP2 := zh hp2; have HP1 := zh hp1; have hge := Lib.indexByte_ge (s.data.toList.drop at_) 10; have hle := Sp.indexByte_le (s.data.toList.drop at_) 10; have hlen : (s.data.toList.drop at_).length = s.size - at_ := by simp
  rw [hlen] at hle; rw [← ext_end] at hle hge; have HL := zh hlen; clear hlen; generalize hi : Lib.indexByte (s.extract at_ s.size).data.toList 10 = i at *
  have HI := zh hi; clear hi; go_enter Tryz.func111, Tryz.ntmps111
  go_wp2_with (first
   | (go_at_call 118; refine (jG _ _ _).mono ?_; rintro e w' ⟨rfl, rfl⟩; rw [ext_end])
   | (go_at_call 55; refine (yS _ _ _).mono ?_; rintro e w' ⟨rfl, rfl⟩; rw [show ((10 : Int).toNat.toUInt8) = 10 from rfl, HI.out]))
  all_goals go_ret
  all_goals
   refine ⟨zW ?_, 0, rfl⟩; have hp2 := HP2.out; have hp1 := HP1.out; have hi := HI.out; have hl := HL.out; clear HI HL; rw [ext_end] at hi; rw [hd.out] at hp2 hp1 hi hl ⊢; rw [Sp.yQ, if_neg hn.out, if_neg h96n.out, if_neg (by simp [hp2]), if_pos hp1]; simp only [Sp.yG, Sp.line, hi, hl]; first | (rw [if_pos (by omega)]; omega) | (rw [if_neg (by omega)]; omega)
 | false =>
  have HP2 := zh hp2; have HP1 := zh hp1; go_enter Tryz.func111, Tryz.ntmps111
  go_wp2_with (go_at_call 118; refine (jG _ _ _).mono ?_; rintro e w' ⟨rfl, rfl⟩; rw [ext_end])
  go_ret; have hp2 := HP2.out; have hp1 := HP1.out; refine ⟨zW ?_, 0, rfl⟩; rw [hd.out] at hp1 hp2 ⊢; rw [Sp.yQ, if_neg hn.out, if_neg h96n.out, if_neg (by simp [hp2]), if_neg (by simp [hp1])]; rfl

theorem endGo_cons {f : Nat} {d : Int} {c : UInt8} {t : List UInt8} : Sp.vN (f + 1) d (c :: t) =
  match Sp.kM (c :: t) with
  | none => none
  | some (n + 1) => (Sp.vN f d ((c :: t).drop (n + 1))).map (· + (n + 1))
  | some 0 =>
   if ((if ((c.toNat : Int) == 123) = true then d + 1 else if ((c.toNat : Int) == 125) = true then d - 1 else d) == 0) = true then some 1
   else (Sp.vN f (if ((c.toNat : Int) == 123) = true then d + 1 else if ((c.toNat : Int) == 125) = true then d - 1 else d) t).map (· + 1) := rfl

set_option maxRecDepth 100000 in
set_option maxHeartbeats 1600000 in
theorem body_End_in (s : ByteArray) (at_ : Nat) (w : World) (hs : s.size < 4294967281) (hat : at_ < s.size) (hg : Gl w) :
  Calls Tryz.prog 108 #[.string s, .int .i64 at_] w fun e w' => e = .returned (.int .i64 (Sp.yG at_ (Sp.zCF (s.data.toList.drop at_)))) ∧ ∃ n, w' = w.drewN n := by
 generalize hN : Sp.yG at_ (Sp.zCF (s.data.toList.drop at_)) = N; have hN' := hN; rw [xM s at_ hat] at hN'; unfold Sp.zCF at hN'; simp only [List.length_cons] at hN'; rw [← xM s at_ hat] at hN'
 cases hb : ((s[at_].toNat : Int) == 123) with
 | false =>
  rw [hb, if_neg (by simp)] at hN'; have hbn : ((s[at_].toNat : Int) != 123) = true := by simp [bne, hb]
  have HN := zh hN'; clear hN' hN; go_enter Tryz.func108, Tryz.ntmps108
  go_wp2
  go_ret; exact ⟨zW HN.out, 0, rfl⟩
 | true =>
  rw [hb, if_pos rfl] at hN'; have hbn : ((s[at_].toNat : Int) != 123) = false := by simp [bne, hb]
  have hl : (s.data.toList.drop (at_ + 1)).length = s.size - (at_ + 1) := by simp
  have HN := zh hN'; clear hN' hN; have HB := zh hb; clear hb; have HL := zh hl; clear hl; go_enter Tryz.func108, Tryz.ntmps108
  go_wp2
  go_loopw [5, 6] (fun dv iv wr => ∃ (p f : Nat) (d : Int), at_ ≤ p ∧ p ≤ s.size ∧ iv = .int .i64 p ∧ dv = .int .i64 d ∧ -(p : Int) ≤ d ∧ d ≤ p ∧ s.size - p < f ∧ Sp.yG p (Sp.vN f d (s.data.toList.drop p)) = N ∧ ∃ n, wr = w.drewN n) (fun _ iv _ => s.size - (intOf iv).toNat)
  case atStart => exact ⟨at_, (s.data.toList.drop (at_ + 1)).length + 1 + 1, 0, by omega, by omega, rfl, rfl, by omega, by omega, by rw [HL.out]; omega, HN.out, 0, rfl⟩
  case round =>
   obtain ⟨p, f, d, hp0, hp, rfl, rfl, hd0, hd1, hf, hi, n, rfl⟩ := hrel; clear HB HL hbn; by_cases hlt : p < s.size
   ·obtain ⟨f, rfl⟩ : ∃ g, f = g + 1 := ⟨f - 1, by omega⟩
    rw [xM s p hlt, endGo_cons, ← xM s p hlt] at hi; have hpl := Sp.passLen_le (s.data.toList.drop p); have hlen : (s.data.toList.drop p).length = s.size - p := by simp
    rw [hlen] at hpl; clear hlen
    cases hps : Sp.kM (s.data.toList.drop p) with
    | none =>
     rw [hps] at hi; have HI := zh hi; clear hi; have HP := zh hps; clear hps hpl HN; go_wp2_with (go_at_call 111; refine (body_pass s p _ hs hlt (hg.drewN n)).mono ?_; rintro e w' ⟨rfl, n2, rfl⟩; rw [HP.out]; simp only [Sp.yG])
     go_ret; exact ⟨zW (by have := HI.out; simpa [Sp.yG] using this), _, rfl⟩
    | some m =>
     have hm := hpl m hps; clear hpl
     cases m with
     | zero =>
      rw [hps] at hi; simp only at hi; have HI := zh hi; clear hi; have HP := zh hps; clear hps HN; go_wp2_with (go_at_call 111; refine (body_pass s p _ hs hlt (hg.drewN n)).mono ?_; rintro e w' ⟨rfl, n2, rfl⟩; rw [HP.out]; simp only [Sp.yG, Nat.add_zero])
      all_goals (have hi := HI.out; clear HI)
      all_goals first
       | (go_round
          case rel => go_light; exact ⟨p + 1, f, _, by omega, by omega, by go_num, rfl, by omega, by omega, by omega, by simp_all [Sp.yR], _, rfl⟩
          case measure => go_light; simp [intOf]; omega)
       | (go_ret; go_light; exact ⟨zW (by simp_all [Sp.yG]), _, rfl⟩)
     | succ m =>
      rw [hps] at hi; simp only [Sp.yR, List.drop_drop] at hi; have HI := zh hi; clear hi; have HP := zh hps; clear hps HN; go_wp2_with (go_at_call 111; refine (body_pass s p _ hs hlt (hg.drewN n)).mono ?_; rintro e w' ⟨rfl, n2, rfl⟩; rw [HP.out]; simp only [Sp.yG])
      have hi := HI.out; clear HI; go_round
      case rel => go_light; exact ⟨p + (m + 1), f, _, by omega, by omega, by go_num, rfl, by omega, by omega, by omega, hi, _, rfl⟩
      case measure => go_light; simp [intOf]; omega
   ·have hi' : N = -1 := by
     rw [qV s p hlt] at hi
     cases f with
     | zero => omega
     | succ f => simpa [Sp.vN, Sp.yG] using hi.symm
    clear hi HN; have HI := zh hi'; clear hi'; go_wp2
    go_ret; go_light; exact ⟨zW HI.out.symm, _, rfl⟩
set_option maxRecDepth 100000 in
set_option maxHeartbeats 1600000 in
theorem ref_End_in (s : ByteArray) (at_ : Nat) (w : World) (hs : s.size < 4294967281) (hat : at_ < s.size) :
  Calls Tryz.prog 72 #[.string s, .int .i64 at_] w fun e w' => e = .returned (.int .i64 (Sp.yG at_ (Sp.zCF (s.data.toList.drop at_)))) ∧ ∃ n, w' = w.drewN n := by
 generalize hN : Sp.yG at_ (Sp.zCF (s.data.toList.drop at_)) = N; have hN' := hN; rw [xM s at_ hat] at hN'; unfold Sp.zCF at hN'; simp only [List.length_cons] at hN'; rw [← xM s at_ hat] at hN'
 cases hb : ((s[at_].toNat : Int) == 123) with
 | false =>
  rw [hb, if_neg (by simp)] at hN'; have hbn : ((s[at_].toNat : Int) != 123) = true := by simp [bne, hb]
  have HN := zh hN'; clear hN' hN; go_enter Tryz.func72, Tryz.ntmps72
  go_wp2
  go_ret; exact ⟨zW HN.out, 0, rfl⟩
 | true =>
  rw [hb, if_pos rfl] at hN'; have hbn : ((s[at_].toNat : Int) != 123) = false := by simp [bne, hb]
  have hl : (s.data.toList.drop (at_ + 1)).length = s.size - (at_ + 1) := by simp
  have HN := zh hN'; clear hN' hN; have HB := zh hb; clear hb; have HL := zh hl; clear hl; go_enter Tryz.func72, Tryz.ntmps72
  go_wp2
  go_loopw [5, 6] (fun dv iv wr => ∃ (p f : Nat) (d : Int), at_ ≤ p ∧ p ≤ s.size ∧ iv = .int .i64 p ∧ dv = .int .i64 d ∧ -(p : Int) ≤ d ∧ d ≤ p ∧ s.size - p < f ∧ Sp.yG p (Sp.vN f d (s.data.toList.drop p)) = N ∧ ∃ n, wr = w.drewN n) (fun _ iv _ => s.size - (intOf iv).toNat)
  case atStart => exact ⟨at_, (s.data.toList.drop (at_ + 1)).length + 1 + 1, 0, by omega, by omega, rfl, rfl, by omega, by omega, by rw [HL.out]; omega, HN.out, 0, rfl⟩
  case round =>
   obtain ⟨p, f, d, hp0, hp, rfl, rfl, hd0, hd1, hf, hi, n, rfl⟩ := hrel; clear HB HL hbn; by_cases hlt : p < s.size
   ·obtain ⟨f, rfl⟩ : ∃ g, f = g + 1 := ⟨f - 1, by omega⟩
    rw [xM s p hlt, endGo_cons, ← xM s p hlt] at hi; have hpl := Sp.passLen_le (s.data.toList.drop p); have hlen : (s.data.toList.drop p).length = s.size - p := by simp
    rw [hlen] at hpl; clear hlen
    cases hps : Sp.kM (s.data.toList.drop p) with
    | none =>
     rw [hps] at hi; have HI := zh hi; clear hi; have HP := zh hps; clear hps hpl HN; go_wp2_with (go_at_call 90; refine (ref_Over s p _ hs hlt).mono ?_; rintro e w' ⟨rfl, n2, rfl⟩; rw [HP.out]; simp only [Sp.yG])
     go_ret; exact ⟨zW (by have := HI.out; simpa [Sp.yG] using this), _, rfl⟩
    | some m =>
     have hm := hpl m hps; clear hpl
     cases m with
     | zero =>
      rw [hps] at hi; simp only at hi; have HI := zh hi; clear hi; have HP := zh hps; clear hps HN; go_wp2_with (go_at_call 90; refine (ref_Over s p _ hs hlt).mono ?_; rintro e w' ⟨rfl, n2, rfl⟩; rw [HP.out]; simp only [Sp.yG, Nat.add_zero])
      all_goals (have hi := HI.out; clear HI)
      all_goals first
       | (go_round
          case rel => go_light; exact ⟨p + 1, f, _, by omega, by omega, by go_num, rfl, by omega, by omega, by omega, by simp_all [Sp.yR], _, rfl⟩
          case measure => go_light; simp [intOf]; omega)
       | (go_ret; go_light; exact ⟨zW (by simp_all [Sp.yG]), _, rfl⟩)
     | succ m =>
      rw [hps] at hi; simp only [Sp.yR, List.drop_drop] at hi; have HI := zh hi; clear hi; have HP := zh hps; clear hps HN; go_wp2_with (go_at_call 90; refine (ref_Over s p _ hs hlt).mono ?_; rintro e w' ⟨rfl, n2, rfl⟩; rw [HP.out]; simp only [Sp.yG])
      have hi := HI.out; clear HI; go_round
      case rel => go_light; exact ⟨p + (m + 1), f, _, by omega, by omega, by go_num, rfl, by omega, by omega, by omega, hi, _, rfl⟩
      case measure => go_light; simp [intOf]; omega
   ·have hi' : N = -1 := by
     rw [qV s p hlt] at hi
     cases f with
     | zero => omega
     | succ f => simpa [Sp.vN, Sp.yG] using hi.symm
    clear hi HN; have HI := zh hi'; clear hi'; go_wp2
    go_ret; go_light; exact ⟨zW HI.out.symm, _, rfl⟩

set_option maxHeartbeats 800000 in
theorem body_End (s : ByteArray) (a : Int) (w : World) (hs : s.size < 4294967281) (hg : Gl w) :
  Calls Tryz.prog 108 #[.string s, .int .i64 a] w fun e w' => e = .returned (.int .i64 (Sp.zAG s.data.toList a)) ∧ ∃ n, w' = w.drewN n := by
 have hl : s.data.toList.length = s.size := by simp
 unfold Sp.zAG; rw [hl]; by_cases h0 : 0 ≤ a
 ·by_cases h1 : a < s.size
  ·obtain ⟨k, rfl⟩ := Int.eq_ofNat_of_zero_le h0
   rw [if_pos ⟨h0, h1⟩]; exact body_End_in s k w hs (by omega) hg
  ·rw [if_neg (by omega)]
   clear hl; go_enter Tryz.func108, Tryz.ntmps108
   go_wp2
   go_ret; exact ⟨rfl, 0, rfl⟩
 ·rw [if_neg (by omega)]
  clear hl; go_enter Tryz.func108, Tryz.ntmps108
  go_wp2
  go_ret; exact ⟨rfl, 0, rfl⟩

set_option maxHeartbeats 800000 in
theorem ref_End (s : ByteArray) (a : Int) (w : World) (hs : s.size < 4294967281) :
  Calls Tryz.prog 72 #[.string s, .int .i64 a] w fun e w' => e = .returned (.int .i64 (Sp.zAG s.data.toList a)) ∧ ∃ n, w' = w.drewN n := by
 have hl : s.data.toList.length = s.size := by simp
 unfold Sp.zAG; rw [hl]; by_cases h0 : 0 ≤ a
 ·by_cases h1 : a < s.size
  ·obtain ⟨k, rfl⟩ := Int.eq_ofNat_of_zero_le h0
   rw [if_pos ⟨h0, h1⟩]; exact ref_End_in s k w hs (by omega)
  ·rw [if_neg (by omega)]
   clear hl; go_enter Tryz.func72, Tryz.ntmps72
   go_wp2
   go_ret; exact ⟨rfl, 0, rfl⟩
 ·rw [if_neg (by omega)]
  clear hl; go_enter Tryz.func72, Tryz.ntmps72
  go_wp2
  go_ret; exact ⟨rfl, 0, rfl⟩

namespace Sp
open Go.Lib (index indexByte hasPrefix)

structure Sym where
 name : List UInt8
 lit : Bool
 num : Int
 at_ : Int
structure Decl where
 kind : Int
 tag : List UInt8
 syms : List Sym
 at_ : Int
structure Part where
 sym : Sym
 code : List UInt8
 at_ : Int
structure Alt where
 parts : List Part
 prec : Sym
 at_ : Int
structure Rule where
 left : List UInt8
 alts : List Alt
 at_ : Int
structure zM where
 pro : List UInt8
 decls : List Decl
 rules : List Rule
 tail : List UInt8

def kD (l : List UInt8) : Bool := match l with
 | [c] => !(yC c).isEmpty
 | _ => false
def kE (s : Sym) : Bool := if s.lit = true then kD s.name else xI s.name
def kW (s : Sym) : Bool := kE s && (s.num == 0)
def isNone (s : Sym) : Bool := s.name.isEmpty && !s.lit && (s.num == 0)
def yH (k : Int) (s : Sym) : Bool :=
 if kE s = false ∨ s.lit = true ∧ 5 ≤ k then false
 else if s.num ≠ 0 ∧ (k ≠ 1 ∨ s.lit = true ∨ s.num < 1 ∨ 50000 < s.num) then false else true
def yF (d : Decl) : Bool :=
 if d.kind < 1 ∨ 6 < d.kind ∨ d.syms.length = 0 then false
 else if d.kind = 6 ∧ (d.tag ≠ [] ∨ d.syms.length ≠ 1) then false
 else if (d.kind ≠ 6 ∧ (d.tag ≠ [] ∨ d.kind = 5)) ∧ xI d.tag = false then false
 else d.syms.all (yH d.kind)
def xH (p : Part) : Bool := if p.code = [] then kW p.sym else isNone p.sym && decide (zAG p.code 0 = (p.code.length : Int))
def qZ (a : Alt) : Bool := (isNone a.prec || kW a.prec) && a.parts.all xH
def qL (r : Rule) : Bool := xI r.left && decide (0 < r.alts.length) && r.alts.all qZ
def may (x : zM) : Bool := !decide (0 ≤ index x.pro [37, 125]) && decide (0 < x.rules.length) && x.decls.all yF && x.rules.all qL

def symWords (s : Sym) : List (List UInt8) :=
 if s.lit = true then [yC (s.name.headD 0)] else if s.num = 0 then [s.name] else [s.name, Go.Lib.itoa s.num]
def declWords (d : Decl) : List (List UInt8) :=
 (keys.getD (d.kind - 1).toNat [] :: (if d.tag = [] then [] else [60 :: (d.tag ++ [62])])) ++ d.syms.flatMap symWords
def partWords (p : Part) : List (List UInt8) := if p.code = [] then symWords p.sym else [p.code]
def altWords (a : Alt) : List (List UInt8) := a.parts.flatMap partWords ++ (if isNone a.prec = true then [] else [37, 112, 114, 101, 99] :: symWords a.prec)
def altsWords : Nat → List Alt → List (List UInt8)
 | _, [] => []
 | k, a :: l => ((if k = 0 then [58] else [124]) :: altWords a) ++ altsWords (k + 1) l
def ruleWords (r : Rule) : List (List UInt8) := r.left :: (altsWords 0 r.alts ++ [[59]])
def joinSp : List (List UInt8) → List UInt8
 | [] => []
 | [w] => w
 | w :: v :: l => w ++ 32 :: joinSp (v :: l)
def text (x : zM) : List UInt8 :=
 if may x = false then [] else
 (if x.pro = [] then [] else 37 :: 123 :: (x.pro ++ [37, 125, 10])) ++ x.decls.flatMap (fun d => joinSp (declWords d) ++ [10]) ++ [37, 37, 10] ++
  x.rules.flatMap (fun r => joinSp (ruleWords r) ++ [10]) ++ (if x.tail = [] then [] else 37 :: 37 :: x.tail)

def all2 {α : Type} (f : α → α → Bool) : List α → List α → Bool
 | [], [] => true
 | a :: l, b :: m => f a b && all2 f l m
 | _, _ => false
def sameSym (a b : Sym) : Bool := (a.name == b.name) && (a.lit == b.lit) && (a.num == b.num)
def samePart (a b : Part) : Bool := sameSym a.sym b.sym && (a.code == b.code)
def sameAlt (a b : Alt) : Bool := sameSym a.prec b.prec && all2 samePart a.parts b.parts
def sameDecl (a b : Decl) : Bool := (a.kind == b.kind) && (a.tag == b.tag) && all2 sameSym a.syms b.syms
def sameRule (a b : Rule) : Bool := (a.left == b.left) && all2 sameAlt a.alts b.alts
def same (a b : zM) : Bool := (a.pro == b.pro) && (a.tail == b.tail) && all2 sameDecl a.decls b.decls && all2 sameRule a.rules b.rules
end Sp
open Go.RowKit

theorem quote_cases (c : UInt8) : Sp.jI c = true ∨ c = 10 ∨ c = 9 ∨ c = 13 ∨ c = 92 ∨ c = 39 ∨ (Sp.jI c = false ∧ Lib.indexByte [10, 9, 13, 92, 39] c = -1 ∧ Sp.yC c = []) := by
 by_cases h1 : Sp.jI c = true
 ·exact .inl h1
 by_cases h2 : c = 10
 ·exact .inr (.inl h2)
 by_cases h3 : c = 9
 ·exact .inr (.inr (.inl h3))
 by_cases h4 : c = 13
 ·exact .inr (.inr (.inr (.inl h4)))
 by_cases h5 : c = 92
 ·exact .inr (.inr (.inr (.inr (.inl h5))))
 by_cases h6 : c = 39
 ·exact .inr (.inr (.inr (.inr (.inr (.inl h6)))))
 refine .inr (.inr (.inr (.inr (.inr (.inr ⟨by simpa using h1, ?_, ?_⟩)))))
 ·have k : ∀ x : UInt8, ¬ c = x → (x == c) = false := fun x h => by rw [beq_eq_false_iff_ne]; exact fun e => h e.symm
  simp [Lib.indexByte, k 10 h2, k 9 h3, k 13 h4, k 92 h5, k 39 h6]
 ·unfold Sp.yC
  rw [if_neg h2, if_neg h3, if_neg h4, if_neg h5, if_neg h6, if_neg h1]

set_option maxHeartbeats 800000 in
theorem char_Text (c : UInt8) (w : World) :
  Calls Tryz.prog 34 #[.int .u8 (c.toNat : Int)] w fun e w' => e = .returned (.string ⟨(Sp.yC c).toArray⟩) ∧ Below w.heap.size w w' := by
 have HP := zh (fun W => char_plain c W); have HI := zh (fun W => yS ⟨#[10, 9, 13, 92, 39]⟩ (c.toNat : Int) W); rcases quote_cases c with h | rfl | rfl | rfl | rfl | rfl | ⟨h1, h2, h3⟩
 ·rw [h] at HP
  rw [Sp.zCQ h]; have hcv := qH w c; clear h; go_enter Tryz.func34, Tryz.ntmps34
  go_wp2_with (go_at_call 54; refine (HP.out _).mono ?_; rintro e w' ⟨rfl, rfl⟩)
  go_ret; exact ⟨by simp; rfl, (Below.refl _ _).alloc (Nat.le_refl _) _⟩
 ·rw [show Sp.jI 10 = false by decide] at HP
  have HI' : Hid (∀ W, Calls Tryz.prog 55 #[.string ⟨#[10, 9, 13, 92, 39]⟩, .int .u8 10] W fun e w' => e = .returned (.int .i64 0) ∧ W = w') := zh (fun W => yS ⟨#[10, 9, 13, 92, 39]⟩ 10 W); clear HI; go_enter Tryz.func34, Tryz.ntmps34
  go_wp2_with (first
   | (go_at_call 54; refine (HP.out _).mono ?_; rintro e w' ⟨rfl, rfl⟩)
   | (go_at_call 55; refine (HI'.out _).mono ?_; rintro e w' ⟨rfl, rfl⟩))
  go_ret; exact ⟨rfl, Below.refl _ _⟩
 ·rw [show Sp.jI 9 = false by decide] at HP
  have HI' : Hid (∀ W, Calls Tryz.prog 55 #[.string ⟨#[10, 9, 13, 92, 39]⟩, .int .u8 9] W fun e w' => e = .returned (.int .i64 1) ∧ W = w') := zh (fun W => yS ⟨#[10, 9, 13, 92, 39]⟩ 9 W); clear HI; go_enter Tryz.func34, Tryz.ntmps34
  go_wp2_with (first
   | (go_at_call 54; refine (HP.out _).mono ?_; rintro e w' ⟨rfl, rfl⟩)
   | (go_at_call 55; refine (HI'.out _).mono ?_; rintro e w' ⟨rfl, rfl⟩))
  go_ret; exact ⟨rfl, Below.refl _ _⟩
 ·rw [show Sp.jI 13 = false by decide] at HP
  have HI' : Hid (∀ W, Calls Tryz.prog 55 #[.string ⟨#[10, 9, 13, 92, 39]⟩, .int .u8 13] W fun e w' => e = .returned (.int .i64 2) ∧ W = w') := zh (fun W => yS ⟨#[10, 9, 13, 92, 39]⟩ 13 W); clear HI; go_enter Tryz.func34, Tryz.ntmps34
  go_wp2_with (first
   | (go_at_call 54; refine (HP.out _).mono ?_; rintro e w' ⟨rfl, rfl⟩)
   | (go_at_call 55; refine (HI'.out _).mono ?_; rintro e w' ⟨rfl, rfl⟩))
  go_ret; exact ⟨rfl, Below.refl _ _⟩
 ·rw [show Sp.jI 92 = false by decide] at HP
  have HI' : Hid (∀ W, Calls Tryz.prog 55 #[.string ⟨#[10, 9, 13, 92, 39]⟩, .int .u8 92] W fun e w' => e = .returned (.int .i64 3) ∧ W = w') := zh (fun W => yS ⟨#[10, 9, 13, 92, 39]⟩ 92 W); clear HI; go_enter Tryz.func34, Tryz.ntmps34
  go_wp2_with (first
   | (go_at_call 54; refine (HP.out _).mono ?_; rintro e w' ⟨rfl, rfl⟩)
   | (go_at_call 55; refine (HI'.out _).mono ?_; rintro e w' ⟨rfl, rfl⟩))
  go_ret; exact ⟨rfl, Below.refl _ _⟩
 ·rw [show Sp.jI 39 = false by decide] at HP
  have HI' : Hid (∀ W, Calls Tryz.prog 55 #[.string ⟨#[10, 9, 13, 92, 39]⟩, .int .u8 39] W fun e w' => e = .returned (.int .i64 4) ∧ W = w') := zh (fun W => yS ⟨#[10, 9, 13, 92, 39]⟩ 39 W); clear HI; go_enter Tryz.func34, Tryz.ntmps34
  go_wp2_with (first
   | (go_at_call 54; refine (HP.out _).mono ?_; rintro e w' ⟨rfl, rfl⟩)
   | (go_at_call 55; refine (HI'.out _).mono ?_; rintro e w' ⟨rfl, rfl⟩))
  go_ret; exact ⟨rfl, Below.refl _ _⟩
 ·rw [h1] at HP
  have hc : ((c.toNat : Int).toNat).toUInt8 = c := by simp
  have HI' : Hid (∀ W, Calls Tryz.prog 55 #[.string ⟨#[10, 9, 13, 92, 39]⟩, .int .u8 (c.toNat : Int)] W fun e w' => e = .returned (.int .i64 (-1)) ∧ W = w') := zh (fun W => by
   have h := HI.out W; rw [hc] at h; rw [show Lib.indexByte (⟨#[10, 9, 13, 92, 39]⟩ : ByteArray).data.toList c = -1 from h2] at h
   exact h)
  rw [h3]; clear HI h1 h2 h3 hc; go_enter Tryz.func34, Tryz.ntmps34
  go_wp2_with (first
   | (go_at_call 54; refine (HP.out _).mono ?_; rintro e w' ⟨rfl, rfl⟩)
   | (go_at_call 55; refine (HI'.out _).mono ?_; rintro e w' ⟨rfl, rfl⟩))
  go_ret; exact ⟨rfl, Below.refl _ _⟩

def symC (s : Sp.Sym) : List Value := [.string ⟨s.name.toArray⟩, .bool s.lit, .int .i64 s.num, .int .i64 s.at_]
def symV (s : Sp.Sym) : Value := .agg (symC s).toArray
theorem stood_sym : Tryz.prog.stoodInHeld 45 = false := by kernel_rfl
theorem fields_sym : Tryz.prog.underlying 45 = some (.struct (Tryz.prog.fieldsOf 45)) := by kernel_rfl
theorem eql_sym (a0 b0 : ByteArray) (a1 b1 : Bool) (a2 b2 a3 b3 : Int) (w : World) :
  (binOp .eql 45 (.agg #[.string a0, .bool a1, .int .i64 a2, .int .i64 a3]) (.agg #[.string b0, .bool b1, .int .i64 b2, .int .i64 b3])).run Tryz.prog w =
   .ok (.bool ((a0.toList == b0.toList) && (a1 == b1) && (a2 == b2) && (a3 == b3))) w := by
 rw [run_eql_struct, run_equalIn_agg w 9999 45 _ _ fields_sym stood_sym]; simp only [Program.fieldsOf, Tryz.underlying45, Op.eqFields]
 cases h0 : a0.toList == b0.toList <;> cases h1 : a1 == b1 <;> cases h2 : a2 == b2 <;> cases h3 : a3 == b3 <;>
  simp [go_sem, Tryz.underlying3, Tryz.underlying9, Tryz.underlying4, h0, h1, h2, h3]

set_option maxHeartbeats 800000 in
theorem jQ (s : Sp.Sym) (W : World) (hs : s.name.length ≤ 4000) :
  Calls Tryz.prog 77 #[symV s] W fun e w' => e = .returned (.bool (Sp.kE s)) ∧ Below W.heap.size W w' := by
 obtain ⟨nm, lt, nu, pa⟩ := s; have HB := zh (fun o : Obj => (Below.refl _ W).alloc (Nat.le_refl _) o); show Calls _ _ #[.agg #[.string ⟨nm.toArray⟩, .bool lt, .int .i64 nu, .int .i64 pa]] _ _
 cases lt with
 | false =>
  have hN := body_Name ⟨nm.toArray⟩; have HN := zh (fun w => hN w (by rw [Lib.size_eq]; simp only [List.toList_toArray] at *; omega)); have e : Sp.kE ⟨nm, false, nu, pa⟩ = Sp.xI nm := rfl; rw [e]; clear e hN hs; go_enter Tryz.func77, Tryz.ntmps77
  go_wp2_with (go_at_call 76; refine (HN.out _).mono ?_; rintro e w' ⟨rfl, rfl⟩)
  go_ret; exact ⟨rfl, HB.out _⟩
 | true =>
  rcases nm with _ | ⟨c, _ | ⟨d, u⟩⟩
  ·go_enter Tryz.func77, Tryz.ntmps77
   go_wp2_with fail; go_ret; exact ⟨rfl, HB.out _⟩
  ·have HC := zh (fun w => char_Text c w)
   have e : Sp.kE ⟨[c], true, nu, pa⟩ = !(Sp.yC c).isEmpty := rfl; rw [e]; generalize Sp.yC c = Q at HC; clear e hs; go_enter Tryz.func77, Tryz.ntmps77
   go_wp2_with fail; refine (HC.out _).mono ?_; rintro e w' ⟨rfl, hb⟩; have HB' := zh ((HB.out _).trans (hb.mono (by simp))); clear hb
   cases Q with
   | nil =>
    go_wp2_with fail; go_ret; exact ⟨rfl, HB'.out⟩
   | cons q Q =>
    have hne : (q :: Q).isEmpty = false := rfl; go_wp2_with fail; go_ret; exact ⟨rfl, HB'.out⟩
  ·have hsz : (((⟨(c :: d :: u).toArray⟩ : ByteArray).size : Int) == 1) = false := by rw [beq_eq_false_iff_ne, Lib.size_eq]; simp; omega
   go_enter Tryz.func77, Tryz.ntmps77
   go_wp2_with fail; go_ret; exact ⟨rfl, HB.out _⟩

set_option maxHeartbeats 800000 in
theorem print_bare (s : Sp.Sym) (W : World) (hs : s.name.length ≤ 4000) :
  Calls Tryz.prog 96 #[symV s] W fun e w' => e = .returned (.bool (Sp.kW s)) ∧ Below W.heap.size W w' := by
 have HS := zh (fun w => jQ s w hs); have hq : Sp.kW s = (Sp.kE s && (s.num == 0)) := rfl; generalize Sp.kE s = q at hq HS; obtain ⟨nm, lt, nu, pa⟩ := s; have HB := zh (fun o : Obj => (Below.refl _ W).alloc (Nat.le_refl _) o); rw [hq]; clear hq hs; show Calls _ _ #[.agg #[.string ⟨nm.toArray⟩, .bool lt, .int .i64 nu, .int .i64 pa]] _ _
 go_enter Tryz.func96, Tryz.ntmps96
 go_wp2_with fail; refine (HS.out _).mono ?_; rintro e w' ⟨rfl, hb⟩; have hF := (hb.block W.heap.size (by simp)).trans (zE W _); have c2 := zc 2 hF; have HB' := zh ((HB.out _).trans (hb.mono (by simp))); clear hb hF
 cases q with
 | false =>
  go_wp2_with fail; go_ret; exact ⟨rfl, HB'.out⟩
 | true =>
  go_wp2_with fail; go_ret; exact ⟨by simp, HB'.out⟩

set_option maxHeartbeats 800000 in
theorem print_empty (s : Sp.Sym) (W : World) :
  Calls Tryz.prog 95 #[symV s] W fun e w' => e = .returned (.bool (Sp.isNone s)) ∧ Below W.heap.size W w' := by
 obtain ⟨nm, lt, nu, pa⟩ := s; have HB := zh (fun o : Obj => (Below.refl _ W).alloc (Nat.le_refl _) o); have heq := eql_sym; show Calls _ _ #[.agg #[.string ⟨nm.toArray⟩, .bool lt, .int .i64 nu, .int .i64 pa]] _ _
 go_enter Tryz.func95, Tryz.ntmps95
 go_wp2_with fail; go_ret; exact ⟨rfl, HB.out _⟩
end Go.Proofs.YtddnomjfcbplpaaGreatDoor
