/- The walks of upto, pass, End of layer 5, and of the reference's End. -/
import Derived.Test.YticdgfljaphhgaaDoorW0
import Derived.Test.YticdgfljaphhgaaDoorSpA
import Derived.Test.YticdgfljaphhgaaDoorBb
import Derived.Test.YticdgfljaphhgaaDoorBd
import Derived.Lib.IndexMore
namespace Go.Proofs.YticdgfljaphhgaaDoor
open Go.RowKit

set_option maxHeartbeats 400000 in
theorem body_upto (s : ByteArray) (from_ : Nat) (p : ByteArray) (w : World) (hs : s.size < 4294967281) (hp : p.size < 4294967281) (hat : from_ ≤ s.size) (hg : Gl w) :
    Calls Tryd.prog 63 #[.string s, .int .i64 from_, .string p] w fun e w' => e = .returned (.int .i64 (Sp.place from_ (Sp.upto (s.data.toList.drop from_) p.data.toList))) ∧ w = w' := by
  generalize hN : Sp.place from_ (Sp.upto (s.data.toList.drop from_) p.data.toList) = N
  unfold Sp.upto at hN
  have hlt := Lib.index_room (s.data.toList.drop from_) p.data.toList
  have hge := Lib.index_ge (s.data.toList.drop from_) p.data.toList
  have hlen : (s.data.toList.drop from_).length = s.size - from_ := by simp
  have hlen2 : p.data.toList.length = p.size := by simp
  rw [hlen, hlen2] at hlt
  rw [hlen2] at hN
  clear hlen hlen2
  rw [← ext_end] at hN hlt hge
  generalize hi : Lib.index (s.extract from_ s.size).data.toList p.data.toList = i at *
  have HI := Lib.hid hi; clear hi
  have HN := Lib.hid hN; clear hN
  go_enter Tryd.func63, Tryd.ntmps63
  go_wp2_with (go_at_call 76; refine (strings_Index_gl _ _ _ (by simp; omega) hg).mono ?_; rintro e w' ⟨rfl, rfl⟩; rw [HI.out])
  all_goals (go_ret; have hN := HN.out; clear HN HI)
  all_goals exact ⟨ret_int (by rw [← hN]; first | (rw [if_pos (by omega)]; simp [Sp.place]; omega) | (rw [if_neg (by omega)]; rfl)), rfl⟩

set_option maxHeartbeats 1600000 in
theorem body_pass (s : ByteArray) (at_ : Nat) (w : World) (hs : s.size < 4294967281) (hat : at_ < s.size) (hg : Gl w) :
    Calls Tryd.prog 36 #[.string s, .int .i64 at_] w fun e w' => e = .returned (.int .i64 (Sp.place at_ (Sp.passLen (s.data.toList.drop at_)))) ∧ ∃ n, w' = w.drewN n := by
  have hd := Lib.hid (drop_at s at_ hat)
  cases h34 : ((s[at_].toNat : Int) == 34) with
  | true =>
    go_enter Tryd.func36, Tryd.ntmps36
    go_wp2_with (go_at_call 62; refine (body_quoted s at_ _ hs hat).mono ?_; rintro e w' ⟨rfl, n, rfl⟩)
    go_ret
    exact ⟨ret_int (by rw [hd.out, Sp.passLen_cons, if_pos (.inl h34), Sp.place_map]), _, rfl⟩
  | false =>
  cases h39 : ((s[at_].toNat : Int) == 39) with
  | true =>
    go_enter Tryd.func36, Tryd.ntmps36
    go_wp2_with (go_at_call 62; refine (body_quoted s at_ _ hs hat).mono ?_; rintro e w' ⟨rfl, n, rfl⟩)
    go_ret
    exact ⟨ret_int (by rw [hd.out, Sp.passLen_cons, if_pos (.inr h39), Sp.place_map]), _, rfl⟩
  | false =>
  have hn := Lib.hid (show ¬ (((s[at_].toNat : Int) == 34) = true ∨ ((s[at_].toNat : Int) == 39) = true) by rw [h34, h39]; simp)
  cases h96 : ((s[at_].toNat : Int) == 96) with
  | true =>
    go_enter Tryd.func36, Tryd.ntmps36
    go_wp2_with (go_at_call 63; refine (body_upto s (at_ + 1) _ _ hs (by decide) (by omega) hg).mono ?_; rintro e w' ⟨rfl, rfl⟩)
    go_ret
    exact ⟨ret_int (by rw [hd.out, Sp.passLen_cons, if_neg hn.out, if_pos h96, Sp.place_map]), 0, rfl⟩
  | false =>
  have h96n := Lib.hid (show ¬ ((s[at_].toNat : Int) == 96) = true by simp [h96])
  cases hp2 : Lib.hasPrefix (s.data.toList.drop at_) [47, 42] with
  | true =>
    have hat2 : at_ + 1 < s.size := by
      rcases Nat.lt_or_ge (at_ + 1) s.size with h | h
      · exact h
      · rw [hd.out, drop_end s (at_ + 1) (by omega)] at hp2
        simp [Lib.hasPrefix] at hp2
    have HP := Lib.hid hp2
    go_enter Tryd.func36, Tryd.ntmps36
    go_wp2_with (first
      | (go_at_call 64; refine (strings_HasPrefix_gl _ _ _).mono ?_; rintro e w' ⟨rfl, rfl⟩; rw [ext_end])
      | (go_at_call 63; refine (body_upto s (at_ + 2) _ _ hs (by decide) (by omega) hg).mono ?_; rintro e w' ⟨rfl, rfl⟩))
    go_ret
    have hp := HP.out
    refine ⟨ret_int ?_, 0, rfl⟩
    rw [hd.out] at hp ⊢
    rw [Sp.passLen_cons, if_neg hn.out, if_neg h96n.out, if_pos hp, Sp.place_map, List.drop_drop]
  | false =>
  cases hp1 : Lib.hasPrefix (s.data.toList.drop at_) [47, 47] with
  | true =>
    have HP2 := Lib.hid hp2; have HP1 := Lib.hid hp1
    have hge := Lib.indexByte_ge (s.data.toList.drop at_) 10
    have hle := Sp.indexByte_le (s.data.toList.drop at_) 10
    have hlen : (s.data.toList.drop at_).length = s.size - at_ := by simp
    rw [hlen] at hle
    rw [← ext_end] at hle hge
    have HL := Lib.hid hlen; clear hlen
    generalize hi : Lib.indexByte (s.extract at_ s.size).data.toList 10 = i at *
    have HI := Lib.hid hi; clear hi
    go_enter Tryd.func36, Tryd.ntmps36
    go_wp2_with (first
      | (go_at_call 64; refine (strings_HasPrefix_gl _ _ _).mono ?_; rintro e w' ⟨rfl, rfl⟩; rw [ext_end])
      | (go_at_call 65; refine (strings_IndexByte_gl _ _ _).mono ?_; rintro e w' ⟨rfl, rfl⟩; rw [show ((10 : Int).toNat.toUInt8) = 10 from rfl, HI.out]))
    all_goals go_ret
    all_goals
      refine ⟨ret_int ?_, 0, rfl⟩
      have hp2 := HP2.out; have hp1 := HP1.out
      have hi := HI.out; have hl := HL.out; clear HI HL
      rw [ext_end] at hi
      rw [hd.out] at hp2 hp1 hi hl ⊢
      rw [Sp.passLen_cons, if_neg hn.out, if_neg h96n.out, if_neg (by simp [hp2]), if_pos hp1]
      simp only [Sp.place, Sp.line, hi, hl]
      first | (rw [if_pos (by omega)]; omega) | (rw [if_neg (by omega)]; omega)
  | false =>
    have HP2 := Lib.hid hp2; have HP1 := Lib.hid hp1
    go_enter Tryd.func36, Tryd.ntmps36
    go_wp2_with (go_at_call 64; refine (strings_HasPrefix_gl _ _ _).mono ?_; rintro e w' ⟨rfl, rfl⟩; rw [ext_end])
    go_ret
    have hp2 := HP2.out; have hp1 := HP1.out
    refine ⟨ret_int ?_, 0, rfl⟩
    rw [hd.out] at hp1 hp2 ⊢
    rw [Sp.passLen_cons, if_neg hn.out, if_neg h96n.out, if_neg (by simp [hp2]), if_neg (by simp [hp1])]; rfl
end Go.Proofs.YticdgfljaphhgaaDoor
