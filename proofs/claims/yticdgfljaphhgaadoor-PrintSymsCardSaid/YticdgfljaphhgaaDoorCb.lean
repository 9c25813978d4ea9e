/- The walks of lex.between, lex.number. -/
import Derived.Test.YticdgfljaphhgaaDoorCa
import Derived.Test.YticdgfljaphhgaaDoorBf
namespace Go.Proofs.YticdgfljaphhgaaDoor
open Go.RowKit

theorem ext_ext (s : ByteArray) (k j : Nat) : ((s.extract k s.size).extract j (s.size - k)).data.toList = s.data.toList.drop (k + j) := by
  rw [ext_any, ext_end, List.drop_drop, List.take_of_length_le (by simp; omega)]
theorem blank_at (c : UInt8) : (Sp.blank c = true ∧ 0 ≤ Lib.indexByte [32, 9, 10, 13] c) ∨ (Sp.blank c = false ∧ Lib.indexByte [32, 9, 10, 13] c < 0) := by
  by_cases h1 : c = 32
  · subst h1; left; decide
  by_cases h2 : c = 9
  · subst h2; left; decide
  by_cases h3 : c = 10
  · subst h3; left; decide
  by_cases h4 : c = 13
  · subst h4; left; decide
  right
  have key : ∀ x : UInt8, ¬ c = x → ((c.toNat : Int) == (x.toNat : Int)) = false := by
    intro x hx
    rw [← Bool.not_eq_true]
    exact fun h => hx ((Sp.byte_eq c x).2 h)
  have key2 : ∀ x : UInt8, ¬ c = x → ¬ ((x.toNat : Int) == (c.toNat : Int)) = true := fun x hx h => hx ((Sp.byte_eq x c).2 h).symm
  constructor
  · have e1 : ((c.toNat : Int) == 32) = false := key 32 h1
    have e2 : ((c.toNat : Int) == 9) = false := key 9 h2
    have e3 : ((c.toNat : Int) == 10) = false := key 10 h3
    have e4 : ((c.toNat : Int) == 13) = false := key 13 h4
    unfold Sp.blank
    rw [e1, e2, e3, e4]; rfl
  · rw [Sp.indexByte_cons, if_neg (key2 _ h1), Sp.indexByte_cons, if_neg (key2 _ h2), Sp.indexByte_cons, if_neg (key2 _ h3), Sp.indexByte_cons, if_neg (key2 _ h4)]
    simp [Lib.indexByte]
theorem gap_cons (c : UInt8) (t : List UInt8) : Sp.gap (c :: t) = if Sp.blank c = true then some 1 else if ((c.toNat : Int) == 47) = true then Sp.passLen (c :: t) else some 0 := rfl
theorem gap_line {r : List UInt8} (h : Lib.hasPrefix r [47, 47] = true) : Sp.gap r = some (Sp.line r) ∧ 2 ≤ Sp.line r := by
  rcases r with _ | ⟨a, _ | ⟨b, t⟩⟩
  · simp [Lib.hasPrefix, List.isPrefixOf] at h
  · simp [Lib.hasPrefix, List.isPrefixOf] at h
  · simp [Lib.hasPrefix, List.isPrefixOf] at h
    obtain ⟨rfl, rfl⟩ := h
    have h1 : Lib.hasPrefix (47 :: 47 :: t) [47, 47] = true := by simp [Lib.hasPrefix, List.isPrefixOf]
    rw [gap_cons, if_neg (by decide), if_pos (by decide), Sp.passLen_cons, if_neg (by decide), if_neg (by decide), if_neg (Sp.slash_not_star h1), if_pos h1]
    refine ⟨rfl, ?_⟩
    rw [Sp.line_slash, Sp.line_slash]
    omega
theorem gap_rem {r : List UInt8} (h : Lib.hasPrefix r [47, 42] = true) : Sp.gap r = (Sp.upto (r.drop 2) [42, 47]).map (· + 2) ∧ 2 ≤ r.length := by
  rcases r with _ | ⟨a, _ | ⟨b, t⟩⟩
  · simp [Lib.hasPrefix, List.isPrefixOf] at h
  · simp [Lib.hasPrefix, List.isPrefixOf] at h
  · simp [Lib.hasPrefix, List.isPrefixOf] at h
    obtain ⟨rfl, rfl⟩ := h
    rw [gap_cons, if_neg (by decide), if_pos (by decide), Sp.passLen_cons, if_neg (by decide), if_neg (by decide), if_pos (by simp [Lib.hasPrefix, List.isPrefixOf])]
    exact ⟨rfl, by simp⟩
theorem gap_none {c : UInt8} {t : List UInt8} (hb : Sp.blank c = false) (h1 : Lib.hasPrefix (c :: t) [47, 47] = false) (h2 : Lib.hasPrefix (c :: t) [47, 42] = false) : Sp.gap (c :: t) = some 0 := by
  rw [gap_cons, if_neg (by rw [hb]; decide)]
  split
  · rename_i hc
    have hc : c = 47 := (Sp.byte_eq c 47).2 hc
    subst hc
    rw [Sp.passLen_cons, if_neg (by decide), if_neg (by decide), if_neg (by rw [h2]; decide), if_neg (by rw [h1]; decide)]
  · rfl
theorem blank_not_slash {c : UInt8} {t : List UInt8} (hb : Sp.blank c = true) : Sp.gap (c :: t) = some 1 := by rw [gap_cons, if_pos hb]
theorem ret_ib {a a' : Int} {b b' : Bool} (h1 : a = a') (h2 : b = b') : Ending.returned (.tuple #[.int .i64 a, .bool b]) = .returned (.tuple #[.int .i64 a', .bool b']) := by rw [h1, h2]
theorem strings_IndexByte_b (l : List UInt8) (c : UInt8) (w : World) :
    Calls Tryd.prog 65 #[.string ⟨l.toArray⟩, .int .u8 (c.toNat : Int)] w fun e w' => e = .returned (.int .i64 (Lib.indexByte l c)) ∧ w = w' := by
  have := strings_IndexByte_gl ⟨l.toArray⟩ (c.toNat : Int) w
  have e : ((c.toNat : Int)).toNat.toUInt8 = c := by simp
  rw [e] at this
  have e2 : (⟨l.toArray⟩ : ByteArray).data.toList = l := by simp
  rwa [e2] at this

set_option maxRecDepth 100000 in
set_option maxHeartbeats 1600000 in
theorem lex_between (s : ByteArray) (at_ : Nat) (w : World) (hs : s.size < 4294967281) (hat : at_ ≤ s.size) (hg : Gl w) :
    Calls Tryd.prog 47 #[.string s, .int .i64 at_] w fun e w' => e = .returned (.tuple #[.int .i64 ((at_ + (Sp.skip (s.data.toList.drop at_)).1 : Nat) : Int), .bool (Sp.skip (s.data.toList.drop at_)).2]) ∧ w = w' := by
  generalize hN : at_ + (Sp.skip (s.data.toList.drop at_)).1 = N
  generalize hM : (Sp.skip (s.data.toList.drop at_)).2 = M
  have HN := Lib.hid hN; have HM := Lib.hid hM
  clear hN hM
  go_enter Tryd.func47, Tryd.ntmps47
  go_wp2
  go_loop [1] (fun i => ∃ k : Nat, k ≤ s.size ∧ i = .int .i64 k ∧ Hid (k + (Sp.skip (s.data.toList.drop k)).1 = N ∧ (Sp.skip (s.data.toList.drop k)).2 = M)) (fun i => s.size - (intOf i).toNat)
  case atStart => exact ⟨at_, hat, rfl, Lib.hid ⟨HN.out, HM.out⟩⟩
  case round =>
    obtain ⟨k, hk, rfl, HI⟩ := hrel
    clear HN HM hat
    by_cases hlt : k < s.size
    · have hd := drop_at s k hlt
      have HB := Lib.hid (fun W => strings_IndexByte_b [32, 9, 10, 13] s[k] W)
      have hbl := blank_at s[k]
      generalize Lib.indexByte [32, 9, 10, 13] s[k] = B at HB hbl
      rcases hbl with ⟨hb, hB⟩ | ⟨hb, hB⟩
      · have hgap : Sp.gap (s.data.toList.drop k) = some (0 + 1) := by rw [hd]; exact blank_not_slash hb
        have hsk := Sp.skip_succ hgap
        rw [List.drop_drop] at hsk
        have hi := HI.out
        rw [hsk] at hi
        have HI2 := Lib.hid hi
        clear hi hsk hgap hd HI hb
        go_wp2_with (go_at_call 65; refine (HB.out _).mono ?_; rintro e w' ⟨rfl, rfl⟩)
        go_round
        case rel => go_light; simp only [Nat.zero_add] at HI2; exact ⟨k + 1, by omega, by go_num, Lib.hid ⟨by have h := HI2.out.1; first | omega | (simp only at h; omega) | (simp only [Nat.zero_add] at h; omega), HI2.out.2⟩⟩
        case measure => go_light; simp [intOf]; omega
      · cases hp1 : Lib.hasPrefix (s.data.toList.drop k) [47, 47] with
        | true =>
          obtain ⟨hgap, h2⟩ := gap_line hp1
          have hle := Sp.line_le (s.data.toList.drop k)
          have hll : (s.data.toList.drop k).length = s.size - k := by simp
          have HSp := Lib.hid (fun W => lex_span_noline (s.extract k s.size) W (by simp; omega))
          rw [ext_end, ← Sp.line_span] at HSp
          generalize Sp.line (s.data.toList.drop k) = L at hgap h2 hle HSp
          obtain ⟨m, rfl⟩ : ∃ m, L = m + 1 := ⟨L - 1, by omega⟩
          have hsk := Sp.skip_succ hgap
          rw [List.drop_drop] at hsk
          have hi := HI.out
          rw [hsk] at hi
          have HI2 := Lib.hid hi
          have HP := Lib.hid hp1
          have hkl : k + (m + 1) ≤ s.size := by omega
          clear hi hsk hgap hd HI hb hll hle
          go_wp2_with (first
            | (go_at_call 65; refine (HB.out _).mono ?_; rintro e w' ⟨rfl, rfl⟩)
            | (go_at_call 64; refine (strings_HasPrefix_gl _ _ _).mono ?_; rintro e w' ⟨rfl, rfl⟩; rw [ext_end])
            | (go_at_call 74; refine (HSp.out _).mono ?_; rintro e w' ⟨rfl, rfl⟩))
          go_round
          case rel => go_light; exact ⟨k + (m + 1), hkl, by go_num, Lib.hid ⟨by have h := HI2.out.1; first | omega | (simp only at h; omega) | (simp only [Nat.zero_add] at h; omega), HI2.out.2⟩⟩
          case measure => go_light; simp [intOf]; omega
        | false =>
          cases hp2 : Lib.hasPrefix (s.data.toList.drop k) [47, 42] with
          | true =>
            obtain ⟨hgap, h2⟩ := gap_rem hp2
            have hll : (s.data.toList.drop k).length = s.size - k := by simp
            rw [List.drop_drop] at hgap
            have hk2 : k + 2 ≤ s.size := by omega
            have hroom := Lib.index_room (s.data.toList.drop (k + 2)) [42, 47]
            have hge := Lib.index_ge (s.data.toList.drop (k + 2)) [42, 47]
            have hll2 : (s.data.toList.drop (k + 2)).length = s.size - (k + 2) := by simp
            rw [hll2] at hroom
            simp only [List.length_cons, List.length_nil] at hroom
            unfold Sp.upto at hgap
            have HIx := Lib.hid (fun W (hW : Gl W) => strings_Index_gl ((s.extract k s.size).extract 2 (s.size - k)) ⟨#[42, 47]⟩ W (by simp; omega) hW)
            rw [ext_ext] at HIx
            have e47 : (⟨#[42, 47]⟩ : ByteArray).data.toList = [42, 47] := rfl
            rw [e47] at HIx
            generalize Lib.index (s.data.toList.drop (k + 2)) [42, 47] = I at hgap hroom hge HIx
            by_cases hI : 0 ≤ I
            · rw [if_pos hI] at hgap
              have hg' : Sp.gap (s.data.toList.drop k) = some ((I.toNat + 3) + 1) := by rw [hgap]; rfl
              have hsk := Sp.skip_succ hg'
              rw [List.drop_drop] at hsk
              have hi := HI.out
              rw [hsk] at hi
              have HI2 := Lib.hid hi
              clear hi hsk hgap hg' hd HI hb hll hll2 e47
              obtain ⟨i, rfl⟩ := Int.eq_ofNat_of_zero_le hI
              simp only [Int.toNat_natCast] at HI2
              have hi2 : k + 2 + i + 2 ≤ s.size := by omega
              go_wp2_with (first
                | (go_at_call 65; refine (HB.out _).mono ?_; rintro e w' ⟨rfl, rfl⟩)
                | (go_at_call 64; refine (strings_HasPrefix_gl _ _ _).mono ?_; rintro e w' ⟨rfl, rfl⟩; rw [ext_end])
                | (go_at_call 76; refine (HIx.out _ hg).mono ?_; rintro e w' ⟨rfl, rfl⟩))
              go_round
              case rel => go_light; exact ⟨k + (i + 3 + 1), by omega, by go_num, Lib.hid ⟨by have h := HI2.out.1; first | omega | (simp only at h; omega) | (simp only [Nat.zero_add] at h; omega), HI2.out.2⟩⟩
              case measure => go_light; simp [intOf]; omega
            · rw [if_neg hI] at hgap
              have hsk := Sp.skip_none hgap
              have hi := HI.out
              rw [hsk] at hi
              have HI2 := Lib.hid hi
              clear hi hsk hgap hd HI hb hll hll2 e47
              go_wp2_with (first
                | (go_at_call 65; refine (HB.out _).mono ?_; rintro e w' ⟨rfl, rfl⟩)
                | (go_at_call 64; refine (strings_HasPrefix_gl _ _ _).mono ?_; rintro e w' ⟨rfl, rfl⟩; rw [ext_end])
                | (go_at_call 76; refine (HIx.out _ hg).mono ?_; rintro e w' ⟨rfl, rfl⟩))
              go_ret2
              exact ⟨ret_ib (by have h := HI2.out.1; first | omega | (simp only at h; omega) | (simp only [Nat.zero_add] at h; omega)) HI2.out.2, rfl⟩
          | false =>
            have hgap : Sp.gap (s.data.toList.drop k) = some 0 := by
              have h1 := hp1; have h2 := hp2
              rw [hd] at h1 h2 ⊢
              exact gap_none hb h1 h2
            have hsk := Sp.skip_zero hgap
            have hi := HI.out
            rw [hsk] at hi
            have HI2 := Lib.hid hi
            clear hi hsk hgap hd HI hb
            go_wp2_with (first
              | (go_at_call 65; refine (HB.out _).mono ?_; rintro e w' ⟨rfl, rfl⟩)
              | (go_at_call 64; refine (strings_HasPrefix_gl _ _ _).mono ?_; rintro e w' ⟨rfl, rfl⟩; rw [ext_end]))
            go_ret2
            exact ⟨ret_ib (by have h := HI2.out.1; first | omega | (simp only at h; omega) | (simp only [Nat.zero_add] at h; omega)) HI2.out.2, rfl⟩
    · have hi := HI.out
      rw [drop_end s k hlt, Sp.skip_nil] at hi
      have HI2 := Lib.hid hi
      clear hi HI
      go_wp2
      go_ret2
      exact ⟨ret_ib (by have h := HI2.out.1; first | omega | (simp only at h; omega) | (simp only [Nat.zero_add] at h; omega)) HI2.out.2, rfl⟩
end Go.Proofs.YticdgfljaphhgaaDoor
