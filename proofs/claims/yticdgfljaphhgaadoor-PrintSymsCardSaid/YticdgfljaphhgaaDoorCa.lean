/- The walks of char.plain, char.Take and of the small functions of layer 6. -/
import Derived.Test.YticdgfljaphhgaaDoorW0
import Derived.Test.YticdgfljaphhgaaDoorSpN
import Derived.Test.YticdgfljaphhgaaDoorFb
namespace Go.Proofs.YticdgfljaphhgaaDoor
open Go.RowKit

set_option maxHeartbeats 400000 in
theorem char_plain (c : UInt8) (w : World) :
    Calls Tryd.prog 110 #[.int .u8 (c.toNat : Int)] w fun e w' => e = .returned (.bool (Sp.plainq c)) ∧ w = w' := by
  go_enter Tryd.func110, Tryd.ntmps110
  go_wp2
  all_goals go_ret
  all_goals exact ⟨ret_bool (by unfold Sp.plainq; first | (simp_all; done) | (simp_all; omega) | (rw [Bool.eq_iff_iff]; simp_all; omega)), rfl⟩

set_option maxHeartbeats 400000 in
theorem lex_digit (c : UInt8) (w : World) :
    Calls Tryd.prog 78 #[.int .u8 (c.toNat : Int)] w fun e w' => e = .returned (.bool (Sp.digit c)) ∧ w = w' := by
  go_enter Tryd.func78, Tryd.ntmps78
  go_wp2
  all_goals go_ret
  all_goals exact ⟨ret_bool (Bool.eq_iff_iff.2 (by simp [Sp.digit]; omega)), rfl⟩

set_option maxHeartbeats 400000 in
theorem lex_letter (c : UInt8) (w : World) :
    Calls Tryd.prog 77 #[.int .u8 (c.toNat : Int)] w fun e w' => e = .returned (.bool (Sp.alpha c)) ∧ w = w' := by
  go_enter Tryd.func77, Tryd.ntmps77
  go_wp2
  all_goals go_ret
  all_goals exact ⟨ret_bool (Bool.eq_iff_iff.2 (by simp [Sp.alpha]; omega)), rfl⟩

set_option maxHeartbeats 400000 in
theorem lex_noline (c : UInt8) (w : World) :
    Calls Tryd.prog 75 #[.int .u8 (c.toNat : Int)] w fun e w' => e = .returned (.bool ((c.toNat : Int) != 10)) ∧ w = w' := by
  go_enter Tryd.func75, Tryd.ntmps75
  go_wp2
  go_ret
  exact ⟨rfl, rfl⟩

theorem span_cons (p : UInt8 → Bool) (c : UInt8) (t : List UInt8) : Sp.span p (c :: t) = if p c = true then Sp.span p t + 1 else 0 := rfl
set_option maxRecDepth 100000 in
set_option maxHeartbeats 800000 in
theorem lex_span_digit (s : ByteArray) (w : World) (hs : s.size < 4294967281) :
    Calls Tryd.prog 74 #[.string s, .func (.func 78) #[] #[]] w fun e w' => e = .returned (.int .i64 (Sp.span Sp.digit s.data.toList : Nat)) ∧ w = w' := by
  generalize hN : Sp.span Sp.digit s.data.toList = N
  have HN := Lib.hid hN; clear hN
  obtain ⟨p, hp⟩ : ∃ p : UInt8 → Bool, p = Sp.digit := ⟨_, rfl⟩
  have HF := Lib.hid (fun (c : UInt8) W => lex_digit c W)
  rw [← hp] at HN
  have hpp : Hid (∀ c, p c = Sp.digit c) := Lib.hid (fun c => by rw [hp])
  clear hp
  go_enter Tryd.func74, Tryd.ntmps74
  go_wp2
  go_loop [5] (fun i => ∃ k : Nat, k ≤ s.size ∧ i = .int .i64 k ∧ k + Sp.span p (s.data.toList.drop k) = N) (fun i => s.size - (intOf i).toNat)
  case atStart => exact ⟨0, Nat.zero_le _, rfl, by simp [HN.out]⟩
  case round =>
    obtain ⟨k, hk, rfl, hi⟩ := hrel
    have HI := Lib.hid hi; clear hi
    by_cases hlt : k < s.size
    · have HD := Lib.hid (drop_at s k hlt)
      go_wp2_with fail
      refine (HF.out _ _).mono ?_
      rintro e w' ⟨rfl, rfl⟩
      generalize hp : Sp.digit s[k] = b
      have hpk := hpp.out s[k]
      rw [hp] at hpk
      clear hp
      have hp := hpk
      clear hpk
      have HP := Lib.hid hp; clear hp
      cases b with
      | true =>
        go_wp2
        have hi := HI.out
        rw [HD.out, span_cons, if_pos HP.out] at hi
        clear HN HD HI
        go_round
        case rel => go_light; exact ⟨k + 1, by omega, by go_num, by omega⟩
        case measure => go_light; simp [intOf]; omega
      | false =>
        go_wp2
        have hi := HI.out
        rw [HD.out, span_cons, if_neg (by rw [HP.out]; decide)] at hi
        clear HN HD HI
        go_ret
        exact ⟨ret_int (by omega), rfl⟩
    · have hi := HI.out
      rw [drop_end s k hlt] at hi
      clear HN HI
      have HI := Lib.hid hi; clear hi
      go_wp2
      go_ret
      have hi := HI.out
      exact ⟨ret_int (by simp [Sp.span] at hi; omega), rfl⟩

set_option maxRecDepth 100000 in
set_option maxHeartbeats 800000 in
theorem lex_span_alpha (s : ByteArray) (w : World) (hs : s.size < 4294967281) :
    Calls Tryd.prog 74 #[.string s, .func (.func 77) #[] #[]] w fun e w' => e = .returned (.int .i64 (Sp.span Sp.alpha s.data.toList : Nat)) ∧ w = w' := by
  generalize hN : Sp.span Sp.alpha s.data.toList = N
  have HN := Lib.hid hN; clear hN
  obtain ⟨p, hp⟩ : ∃ p : UInt8 → Bool, p = Sp.alpha := ⟨_, rfl⟩
  have HF := Lib.hid (fun (c : UInt8) W => lex_letter c W)
  rw [← hp] at HN
  have hpp : Hid (∀ c, p c = Sp.alpha c) := Lib.hid (fun c => by rw [hp])
  clear hp
  go_enter Tryd.func74, Tryd.ntmps74
  go_wp2
  go_loop [5] (fun i => ∃ k : Nat, k ≤ s.size ∧ i = .int .i64 k ∧ k + Sp.span p (s.data.toList.drop k) = N) (fun i => s.size - (intOf i).toNat)
  case atStart => exact ⟨0, Nat.zero_le _, rfl, by simp [HN.out]⟩
  case round =>
    obtain ⟨k, hk, rfl, hi⟩ := hrel
    have HI := Lib.hid hi; clear hi
    by_cases hlt : k < s.size
    · have HD := Lib.hid (drop_at s k hlt)
      go_wp2_with fail
      refine (HF.out _ _).mono ?_
      rintro e w' ⟨rfl, rfl⟩
      generalize hp : Sp.alpha s[k] = b
      have hpk := hpp.out s[k]
      rw [hp] at hpk
      clear hp
      have hp := hpk
      clear hpk
      have HP := Lib.hid hp; clear hp
      cases b with
      | true =>
        go_wp2
        have hi := HI.out
        rw [HD.out, span_cons, if_pos HP.out] at hi
        clear HN HD HI
        go_round
        case rel => go_light; exact ⟨k + 1, by omega, by go_num, by omega⟩
        case measure => go_light; simp [intOf]; omega
      | false =>
        go_wp2
        have hi := HI.out
        rw [HD.out, span_cons, if_neg (by rw [HP.out]; decide)] at hi
        clear HN HD HI
        go_ret
        exact ⟨ret_int (by omega), rfl⟩
    · have hi := HI.out
      rw [drop_end s k hlt] at hi
      clear HN HI
      have HI := Lib.hid hi; clear hi
      go_wp2
      go_ret
      have hi := HI.out
      exact ⟨ret_int (by simp [Sp.span] at hi; omega), rfl⟩

set_option maxRecDepth 100000 in
set_option maxHeartbeats 800000 in
theorem lex_span_noline (s : ByteArray) (w : World) (hs : s.size < 4294967281) :
    Calls Tryd.prog 74 #[.string s, .func (.func 75) #[] #[]] w fun e w' => e = .returned (.int .i64 (Sp.span (fun c => (c.toNat : Int) != 10) s.data.toList : Nat)) ∧ w = w' := by
  generalize hN : Sp.span (fun c => (c.toNat : Int) != 10) s.data.toList = N
  have HN := Lib.hid hN; clear hN
  obtain ⟨p, hp⟩ : ∃ p : UInt8 → Bool, p = (fun c => (c.toNat : Int) != 10) := ⟨_, rfl⟩
  have HF := Lib.hid (fun (c : UInt8) W => lex_noline c W)
  rw [← hp] at HN
  have hpp : Hid (∀ c, p c = (fun c => (c.toNat : Int) != 10) c) := Lib.hid (fun c => by rw [hp])
  clear hp
  go_enter Tryd.func74, Tryd.ntmps74
  go_wp2
  go_loop [5] (fun i => ∃ k : Nat, k ≤ s.size ∧ i = .int .i64 k ∧ k + Sp.span p (s.data.toList.drop k) = N) (fun i => s.size - (intOf i).toNat)
  case atStart => exact ⟨0, Nat.zero_le _, rfl, by simp [HN.out]⟩
  case round =>
    obtain ⟨k, hk, rfl, hi⟩ := hrel
    have HI := Lib.hid hi; clear hi
    by_cases hlt : k < s.size
    · have HD := Lib.hid (drop_at s k hlt)
      go_wp2_with fail
      refine (HF.out _ _).mono ?_
      rintro e w' ⟨rfl, rfl⟩
      generalize hp : ((s[k].toNat : Int) != 10) = b
      have hpk := hpp.out s[k]
      rw [hp] at hpk
      clear hp
      have hp := hpk
      clear hpk
      have HP := Lib.hid hp; clear hp
      cases b with
      | true =>
        go_wp2
        have hi := HI.out
        rw [HD.out, span_cons, if_pos HP.out] at hi
        clear HN HD HI
        go_round
        case rel => go_light; exact ⟨k + 1, by omega, by go_num, by omega⟩
        case measure => go_light; simp [intOf]; omega
      | false =>
        go_wp2
        have hi := HI.out
        rw [HD.out, span_cons, if_neg (by rw [HP.out]; decide)] at hi
        clear HN HD HI
        go_ret
        exact ⟨ret_int (by omega), rfl⟩
    · have hi := HI.out
      rw [drop_end s k hlt] at hi
      clear HN HI
      have HI := Lib.hid hi; clear hi
      go_wp2
      go_ret
      have hi := HI.out
      exact ⟨ret_int (by simp [Sp.span] at hi; omega), rfl⟩

theorem ret3 {a a' b b' : Int} {k : IntKind} {x x' : Bool} (h1 : a = a') (h2 : b = b') (h3 : x = x') : Ending.returned (.tuple #[.int k a, .int .i64 b, .bool x]) = .returned (.tuple #[.int k a', .int .i64 b', .bool x']) := by rw [h1, h2, h3]

set_option maxHeartbeats 1600000 in
theorem char_Take (s : ByteArray) (at_ : Nat) (w : World) (hs : s.size < 4294967281) (hat : at_ < s.size) (hq : ((s[at_].toNat : Int) == 39) = true) :
    Calls Tryd.prog 80 #[.string s, .int .i64 at_] w fun e w' => e = .returned (.tuple #[.int .u8 (Sp.takeRes at_ (Sp.charTake (s.data.toList.drop at_))).1, .int .i64 (Sp.takeRes at_ (Sp.charTake (s.data.toList.drop at_))).2.1, .bool (Sp.takeRes at_ (Sp.charTake (s.data.toList.drop at_))).2.2]) ∧ w = w' := by
  have hq39 : s[at_] = 39 := by
    have : (s[at_].toNat : Int) = 39 := by simpa using hq
    exact UInt8.toNat_inj.1 (by show s[at_].toNat = 39; omega)
  have hd0 := drop_at s at_ hat
  rw [hq39] at hd0
  by_cases h3 : at_ + 2 < s.size
  · have hd1 := drop_at s (at_ + 1) (by omega)
    have hd2 := drop_at s (at_ + 2) h3
    rw [hd1, hd2] at hd0
    rw [hd0, Sp.charTake_b]
    have hqn : ((s[at_].toNat : Int) != 39) = false := by rw [bne, hq]; rfl
    clear hd0 hd1 hd2 hq39 hq
    have hd0 : (0 : Int) ≤ (at_ : Int) := Int.natCast_nonneg _
    have HPl := Lib.hid (fun W => char_plain s[at_ + 1] W)
    have H92 : Sp.plainq s[at_ + 1] = true → ((s[at_ + 1].toNat : Int) != 92) = true := by
      intro h; unfold Sp.plainq at h; simp at h; simp; omega
    have hlet := Sp.letters_at s[at_ + 2]
    have hh3 : ∀ h : at_ + 3 < s.size, (s.data.toList.drop (at_ + 2 + 1)).head? = some s[at_ + 3] := fun h => by rw [drop_at s (at_ + 3) h]; rfl
    have hh3' : ¬ at_ + 3 < s.size → (s.data.toList.drop (at_ + 2 + 1)).head? = none := fun h => by rw [drop_end s (at_ + 3) h]; rfl
    generalize Sp.plainq s[at_ + 1] = pv at HPl H92 ⊢
    generalize (s.data.toList.drop (at_ + 2 + 1)).head? = hd at hh3 hh3' ⊢
    obtain ⟨N, hN⟩ : ∃ N, N = Sp.takeRes at_ (if pv = true ∧ ((s[at_ + 2].toNat : Int) == 39) = true then some (s[at_ + 1], 3) else if ((s[at_ + 1].toNat : Int) != 92) = false ∧ hd = some 39 then (Sp.standOf s[at_ + 2]).map (·, 4) else none) := ⟨_, rfl⟩
    rw [← hN]
    cases pv with
    | true =>
      have h92 := H92 rfl
      cases h39 : ((s[at_ + 2].toNat : Int) == 39) with
      | true =>
        rw [if_pos ⟨rfl, h39⟩] at hN
        have HN := Lib.hid hN
        clear hN H92 hlet hh3 hh3'
        go_enter Tryd.func80, Tryd.ntmps80
        go_wp2_with (go_at_call 110; refine (HPl.out _).mono ?_; rintro e w' ⟨rfl, rfl⟩)
        go_ret3
        refine ⟨?_, rfl⟩
        rw [HN.out]; simp [Sp.takeRes]
      | false =>
        rw [if_neg (by rw [h39]; simp), if_neg (by rw [h92]; simp)] at hN
        have HN := Lib.hid hN
        clear hN H92 hlet hh3 hh3'
        go_enter Tryd.func80, Tryd.ntmps80
        go_wp2_with (go_at_call 110; refine (HPl.out _).mono ?_; rintro e w' ⟨rfl, rfl⟩)
        go_ret3
        refine ⟨?_, rfl⟩
        rw [HN.out]; rfl
    | false =>
      rw [if_neg (by simp)] at hN
      clear H92
      cases h92 : ((s[at_ + 1].toNat : Int) != 92) with
      | true =>
        rw [if_neg (by rw [h92]; simp)] at hN
        have HN := Lib.hid hN
        clear hN hlet hh3 hh3'
        go_enter Tryd.func80, Tryd.ntmps80
        go_wp2_with (go_at_call 110; refine (HPl.out _).mono ?_; rintro e w' ⟨rfl, rfl⟩)
        go_ret3
        refine ⟨?_, rfl⟩
        rw [HN.out]; rfl
      | false =>
        by_cases h4 : at_ + 3 < s.size
        · have hh := hh3 h4
          clear hh3 hh3'
          subst hh
          cases h39 : ((s[at_ + 3].toNat : Int) != 39) with
          | true =>
            rw [if_neg (by intro h; have := Option.some.inj h.2; rw [this] at h39; exact absurd h39 (by decide))] at hN
            have HN := Lib.hid hN
            clear hN hlet
            go_enter Tryd.func80, Tryd.ntmps80
            go_wp2_with (go_at_call 110; refine (HPl.out _).mono ?_; rintro e w' ⟨rfl, rfl⟩)
            go_ret3
            refine ⟨?_, rfl⟩
            rw [HN.out]; rfl
          | false =>
            have h39' : s[at_ + 3] = 39 := by
              have : (s[at_ + 3].toNat : Int) = 39 := by simpa using h39
              exact UInt8.toNat_inj.1 (by show s[at_ + 3].toNat = 39; omega)
            rw [if_pos ⟨h92, by rw [h39']⟩] at hN
            clear h39'
            have hI : ∀ W, Calls Tryd.prog 65 #[.string ⟨#[110, 116, 114, 92, 39]⟩, .int .u8 (s[at_ + 2].toNat : Int)] W fun e w' => e = .returned (.int .i64 (Lib.indexByte Sp.letters s[at_ + 2])) ∧ W = w' := by
              intro W
              have := strings_IndexByte_gl ⟨#[110, 116, 114, 92, 39]⟩ (s[at_ + 2].toNat : Int) W
              have e : ((s[at_ + 2].toNat : Int)).toNat.toUInt8 = s[at_ + 2] := by simp
              rw [e] at this
              exact this
            have HI := Lib.hid hI
            clear hI
            rcases hlet with ⟨hs1, hs2⟩ | ⟨k, hk, hs2, hs1⟩
            · rw [hs1] at hN
              rw [hs2] at HI
              have HN := Lib.hid hN
              clear hN hs1 hs2
              go_enter Tryd.func80, Tryd.ntmps80
              go_wp2_with (first
                | (go_at_call 110; refine (HPl.out _).mono ?_; rintro e w' ⟨rfl, rfl⟩)
                | (go_at_call 65; refine (HI.out _).mono ?_; rintro e w' ⟨rfl, rfl⟩))
              go_ret3
              refine ⟨?_, rfl⟩
              rw [HN.out]; rfl
            · rw [hs1] at hN
              rw [hs2] at HI
              have HN := Lib.hid hN
              clear hN hs1 hs2
              obtain rfl | rfl | rfl | rfl | rfl : k = 0 ∨ k = 1 ∨ k = 2 ∨ k = 3 ∨ k = 4 := by omega
              all_goals
                clear hk
                go_enter Tryd.func80, Tryd.ntmps80
                go_wp2_with (first
                  | (go_at_call 110; refine (HPl.out _).mono ?_; rintro e w' ⟨rfl, rfl⟩)
                  | (go_at_call 65; refine (HI.out _).mono ?_; rintro e w' ⟨rfl, rfl⟩))
                go_ret3
                refine ⟨?_, rfl⟩
                rw [HN.out]
                simp [Sp.stands, Sp.takeRes]
                rfl
        · have hh := hh3' h4
          clear hh3 hh3'
          subst hh
          rw [if_neg (by simp)] at hN
          have HN := Lib.hid hN
          clear hN hlet
          go_enter Tryd.func80, Tryd.ntmps80
          go_wp2_with (go_at_call 110; refine (HPl.out _).mono ?_; rintro e w' ⟨rfl, rfl⟩)
          go_ret3
          refine ⟨?_, rfl⟩
          rw [HN.out]; rfl
  · have hn : Sp.charTake (s.data.toList.drop at_) = none := Sp.charTake_short _ (by simp; omega)
    rw [hn]
    clear hn hd0 hq39
    go_enter Tryd.func80, Tryd.ntmps80
    go_wp2
    go_ret3
    exact ⟨rfl, rfl⟩
end Go.Proofs.YticdgfljaphhgaaDoor
