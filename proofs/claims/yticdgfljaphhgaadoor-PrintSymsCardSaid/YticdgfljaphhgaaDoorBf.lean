/- The walks of End, of layer 5 and of the reference. -/
import Derived.Test.YticdgfljaphhgaaDoorW0
import Derived.Test.YticdgfljaphhgaaDoorSpA
import Derived.Test.YticdgfljaphhgaaDoorBe
namespace Go.Proofs.YticdgfljaphhgaaDoor
open Go.RowKit

theorem endGo_cons {f : Nat} {d : Int} {c : UInt8} {t : List UInt8} : Sp.endGo (f + 1) d (c :: t) =
    match Sp.passLen (c :: t) with
    | none => none
    | some (n + 1) => (Sp.endGo f d ((c :: t).drop (n + 1))).map (· + (n + 1))
    | some 0 =>
      if ((if ((c.toNat : Int) == 123) = true then d + 1 else if ((c.toNat : Int) == 125) = true then d - 1 else d) == 0) = true then some 1
      else (Sp.endGo f (if ((c.toNat : Int) == 123) = true then d + 1 else if ((c.toNat : Int) == 125) = true then d - 1 else d) t).map (· + 1) := rfl

set_option maxRecDepth 100000 in
set_option maxHeartbeats 1600000 in
theorem body_End_in (s : ByteArray) (at_ : Nat) (w : World) (hs : s.size < 4294967281) (hat : at_ < s.size) (hg : Gl w) :
    Calls Tryd.prog 17 #[.string s, .int .i64 at_] w fun e w' => e = .returned (.int .i64 (Sp.place at_ (Sp.endLen (s.data.toList.drop at_)))) ∧ ∃ n, w' = w.drewN n := by
  generalize hN : Sp.place at_ (Sp.endLen (s.data.toList.drop at_)) = N
  have hN' := hN
  rw [drop_at s at_ hat] at hN'
  unfold Sp.endLen at hN'
  simp only [List.length_cons] at hN'
  rw [← drop_at s at_ hat] at hN'
  cases hb : ((s[at_].toNat : Int) == 123) with
  | false =>
    rw [hb, if_neg (by simp)] at hN'
    have hbn : ((s[at_].toNat : Int) != 123) = true := by simp [bne, hb]
    have HN := Lib.hid hN'; clear hN' hN
    go_enter Tryd.func17, Tryd.ntmps17
    go_wp2
    go_ret
    exact ⟨ret_int HN.out, 0, rfl⟩
  | true =>
    rw [hb, if_pos rfl] at hN'
    have hbn : ((s[at_].toNat : Int) != 123) = false := by simp [bne, hb]
    have hl : (s.data.toList.drop (at_ + 1)).length = s.size - (at_ + 1) := by simp
    have HN := Lib.hid hN'; clear hN' hN
    have HB := Lib.hid hb; clear hb
    have HL := Lib.hid hl; clear hl
    go_enter Tryd.func17, Tryd.ntmps17
    go_wp2
    go_loopw [5, 6] (fun dv iv wr => ∃ (p f : Nat) (d : Int), at_ ≤ p ∧ p ≤ s.size ∧ iv = .int .i64 p ∧ dv = .int .i64 d ∧ -(p : Int) ≤ d ∧ d ≤ p ∧ s.size - p < f ∧ Sp.place p (Sp.endGo f d (s.data.toList.drop p)) = N ∧ ∃ n, wr = w.drewN n) (fun _ iv _ => s.size - (intOf iv).toNat)
    case atStart => exact ⟨at_, (s.data.toList.drop (at_ + 1)).length + 1 + 1, 0, by omega, by omega, rfl, rfl, by omega, by omega, by rw [HL.out]; omega, HN.out, 0, rfl⟩
    case round =>
      obtain ⟨p, f, d, hp0, hp, rfl, rfl, hd0, hd1, hf, hi, n, rfl⟩ := hrel
      clear HB HL hbn
      by_cases hlt : p < s.size
      · obtain ⟨f, rfl⟩ : ∃ g, f = g + 1 := ⟨f - 1, by omega⟩
        rw [drop_at s p hlt, endGo_cons, ← drop_at s p hlt] at hi
        have hpl := Sp.passLen_le (s.data.toList.drop p)
        have hlen : (s.data.toList.drop p).length = s.size - p := by simp
        rw [hlen] at hpl
        clear hlen
        cases hps : Sp.passLen (s.data.toList.drop p) with
        | none =>
          rw [hps] at hi
          have HI := Lib.hid hi; clear hi
          have HP := Lib.hid hps; clear hps hpl HN
          go_wp2_with (go_at_call 36; refine (body_pass s p _ hs hlt (hg.drewN n)).mono ?_; rintro e w' ⟨rfl, n2, rfl⟩; rw [HP.out]; simp only [Sp.place])
          go_ret
          exact ⟨ret_int (by have := HI.out; simpa [Sp.place] using this), _, rfl⟩
        | some m =>
          have hm := hpl m hps
          clear hpl
          cases m with
          | zero =>
            rw [hps] at hi
            simp only at hi
            have HI := Lib.hid hi; clear hi
            have HP := Lib.hid hps; clear hps HN
            go_wp2_with (go_at_call 36; refine (body_pass s p _ hs hlt (hg.drewN n)).mono ?_; rintro e w' ⟨rfl, n2, rfl⟩; rw [HP.out]; simp only [Sp.place, Nat.add_zero])
            all_goals (have hi := HI.out; clear HI)
            all_goals first
              | (go_round
                 case rel => go_light; exact ⟨p + 1, f, _, by omega, by omega, by go_num, rfl, by omega, by omega, by omega, by simp_all [Sp.place_map], _, rfl⟩
                 case measure => go_light; simp [intOf]; omega)
              | (go_ret; go_light; exact ⟨ret_int (by simp_all [Sp.place]), _, rfl⟩)
          | succ m =>
            rw [hps] at hi
            simp only [Sp.place_map, List.drop_drop] at hi
            have HI := Lib.hid hi; clear hi
            have HP := Lib.hid hps; clear hps HN
            go_wp2_with (go_at_call 36; refine (body_pass s p _ hs hlt (hg.drewN n)).mono ?_; rintro e w' ⟨rfl, n2, rfl⟩; rw [HP.out]; simp only [Sp.place])
            have hi := HI.out; clear HI
            go_round
            case rel => go_light; exact ⟨p + (m + 1), f, _, by omega, by omega, by go_num, rfl, by omega, by omega, by omega, hi, _, rfl⟩
            case measure => go_light; simp [intOf]; omega
      · have hi' : N = -1 := by
          rw [drop_end s p hlt] at hi
          cases f with
          | zero => omega
          | succ f => simpa [Sp.endGo, Sp.place] using hi.symm
        clear hi HN
        have HI := Lib.hid hi'; clear hi'
        go_wp2
        go_ret; go_light; exact ⟨ret_int HI.out.symm, _, rfl⟩
set_option maxRecDepth 100000 in
set_option maxHeartbeats 1600000 in
theorem ref_End_in (s : ByteArray) (at_ : Nat) (w : World) (hs : s.size < 4294967281) (hat : at_ < s.size) :
    Calls Tryd.prog 18 #[.string s, .int .i64 at_] w fun e w' => e = .returned (.int .i64 (Sp.place at_ (Sp.endLen (s.data.toList.drop at_)))) ∧ ∃ n, w' = w.drewN n := by
  generalize hN : Sp.place at_ (Sp.endLen (s.data.toList.drop at_)) = N
  have hN' := hN
  rw [drop_at s at_ hat] at hN'
  unfold Sp.endLen at hN'
  simp only [List.length_cons] at hN'
  rw [← drop_at s at_ hat] at hN'
  cases hb : ((s[at_].toNat : Int) == 123) with
  | false =>
    rw [hb, if_neg (by simp)] at hN'
    have hbn : ((s[at_].toNat : Int) != 123) = true := by simp [bne, hb]
    have HN := Lib.hid hN'; clear hN' hN
    go_enter Tryd.func18, Tryd.ntmps18
    go_wp2
    go_ret
    exact ⟨ret_int HN.out, 0, rfl⟩
  | true =>
    rw [hb, if_pos rfl] at hN'
    have hbn : ((s[at_].toNat : Int) != 123) = false := by simp [bne, hb]
    have hl : (s.data.toList.drop (at_ + 1)).length = s.size - (at_ + 1) := by simp
    have HN := Lib.hid hN'; clear hN' hN
    have HB := Lib.hid hb; clear hb
    have HL := Lib.hid hl; clear hl
    go_enter Tryd.func18, Tryd.ntmps18
    go_wp2
    go_loopw [5, 6] (fun dv iv wr => ∃ (p f : Nat) (d : Int), at_ ≤ p ∧ p ≤ s.size ∧ iv = .int .i64 p ∧ dv = .int .i64 d ∧ -(p : Int) ≤ d ∧ d ≤ p ∧ s.size - p < f ∧ Sp.place p (Sp.endGo f d (s.data.toList.drop p)) = N ∧ ∃ n, wr = w.drewN n) (fun _ iv _ => s.size - (intOf iv).toNat)
    case atStart => exact ⟨at_, (s.data.toList.drop (at_ + 1)).length + 1 + 1, 0, by omega, by omega, rfl, rfl, by omega, by omega, by rw [HL.out]; omega, HN.out, 0, rfl⟩
    case round =>
      obtain ⟨p, f, d, hp0, hp, rfl, rfl, hd0, hd1, hf, hi, n, rfl⟩ := hrel
      clear HB HL hbn
      by_cases hlt : p < s.size
      · obtain ⟨f, rfl⟩ : ∃ g, f = g + 1 := ⟨f - 1, by omega⟩
        rw [drop_at s p hlt, endGo_cons, ← drop_at s p hlt] at hi
        have hpl := Sp.passLen_le (s.data.toList.drop p)
        have hlen : (s.data.toList.drop p).length = s.size - p := by simp
        rw [hlen] at hpl
        clear hlen
        cases hps : Sp.passLen (s.data.toList.drop p) with
        | none =>
          rw [hps] at hi
          have HI := Lib.hid hi; clear hi
          have HP := Lib.hid hps; clear hps hpl HN
          go_wp2_with (go_at_call 37; refine (ref_Over s p _ hs hlt).mono ?_; rintro e w' ⟨rfl, n2, rfl⟩; rw [HP.out]; simp only [Sp.place])
          go_ret
          exact ⟨ret_int (by have := HI.out; simpa [Sp.place] using this), _, rfl⟩
        | some m =>
          have hm := hpl m hps
          clear hpl
          cases m with
          | zero =>
            rw [hps] at hi
            simp only at hi
            have HI := Lib.hid hi; clear hi
            have HP := Lib.hid hps; clear hps HN
            go_wp2_with (go_at_call 37; refine (ref_Over s p _ hs hlt).mono ?_; rintro e w' ⟨rfl, n2, rfl⟩; rw [HP.out]; simp only [Sp.place, Nat.add_zero])
            all_goals (have hi := HI.out; clear HI)
            all_goals first
              | (go_round
                 case rel => go_light; exact ⟨p + 1, f, _, by omega, by omega, by go_num, rfl, by omega, by omega, by omega, by simp_all [Sp.place_map], _, rfl⟩
                 case measure => go_light; simp [intOf]; omega)
              | (go_ret; go_light; exact ⟨ret_int (by simp_all [Sp.place]), _, rfl⟩)
          | succ m =>
            rw [hps] at hi
            simp only [Sp.place_map, List.drop_drop] at hi
            have HI := Lib.hid hi; clear hi
            have HP := Lib.hid hps; clear hps HN
            go_wp2_with (go_at_call 37; refine (ref_Over s p _ hs hlt).mono ?_; rintro e w' ⟨rfl, n2, rfl⟩; rw [HP.out]; simp only [Sp.place])
            have hi := HI.out; clear HI
            go_round
            case rel => go_light; exact ⟨p + (m + 1), f, _, by omega, by omega, by go_num, rfl, by omega, by omega, by omega, hi, _, rfl⟩
            case measure => go_light; simp [intOf]; omega
      · have hi' : N = -1 := by
          rw [drop_end s p hlt] at hi
          cases f with
          | zero => omega
          | succ f => simpa [Sp.endGo, Sp.place] using hi.symm
        clear hi HN
        have HI := Lib.hid hi'; clear hi'
        go_wp2
        go_ret; go_light; exact ⟨ret_int HI.out.symm, _, rfl⟩

set_option maxHeartbeats 800000 in
theorem body_End (s : ByteArray) (a : Int) (w : World) (hs : s.size < 4294967281) (hg : Gl w) :
    Calls Tryd.prog 17 #[.string s, .int .i64 a] w fun e w' => e = .returned (.int .i64 (Sp.endAt s.data.toList a)) ∧ ∃ n, w' = w.drewN n := by
  have hl : s.data.toList.length = s.size := by simp
  unfold Sp.endAt
  rw [hl]
  by_cases h0 : 0 ≤ a
  · by_cases h1 : a < s.size
    · obtain ⟨k, rfl⟩ := Int.eq_ofNat_of_zero_le h0
      rw [if_pos ⟨h0, h1⟩]
      exact body_End_in s k w hs (by omega) hg
    · rw [if_neg (by omega)]
      clear hl
      go_enter Tryd.func17, Tryd.ntmps17
      go_wp2
      go_ret
      exact ⟨rfl, 0, rfl⟩
  · rw [if_neg (by omega)]
    clear hl
    go_enter Tryd.func17, Tryd.ntmps17
    go_wp2
    go_ret
    exact ⟨rfl, 0, rfl⟩

set_option maxHeartbeats 800000 in
theorem ref_End (s : ByteArray) (a : Int) (w : World) (hs : s.size < 4294967281) :
    Calls Tryd.prog 18 #[.string s, .int .i64 a] w fun e w' => e = .returned (.int .i64 (Sp.endAt s.data.toList a)) ∧ ∃ n, w' = w.drewN n := by
  have hl : s.data.toList.length = s.size := by simp
  unfold Sp.endAt
  rw [hl]
  by_cases h0 : 0 ≤ a
  · by_cases h1 : a < s.size
    · obtain ⟨k, rfl⟩ := Int.eq_ofNat_of_zero_le h0
      rw [if_pos ⟨h0, h1⟩]
      exact ref_End_in s k w hs (by omega)
    · rw [if_neg (by omega)]
      clear hl
      go_enter Tryd.func18, Tryd.ntmps18
      go_wp2
      go_ret
      exact ⟨rfl, 0, rfl⟩
  · rw [if_neg (by omega)]
    clear hl
    go_enter Tryd.func18, Tryd.ntmps18
    go_wp2
    go_ret
    exact ⟨rfl, 0, rfl⟩
end Go.Proofs.YticdgfljaphhgaaDoor
