/- The walks of lex.between, lex.number. The walks of lex.number, lex.percent. -/
import Derived.Test.YtphdfbmmjkccgaaDoorZ02
import Derived.Lib.SlicesS
namespace Go.Proofs.YtphdfbmmjkccgaaDoor
open Go.RowKit

theorem ext_ext (s : ByteArray) (k j : Nat) : ((s.extract k s.size).extract j (s.size - k)).data.toList = s.data.toList.drop (k + j) := by
  rw [ext_any, ext_end, List.drop_drop, List.take_of_length_le (by simp; omega)]
theorem blank_at (c : UInt8) : (Sp.blank c = true ∧ 0 ≤ Lib.indexByte [32, 9, 10, 13] c) ∨ (Sp.blank c = false ∧ Lib.indexByte [32, 9, 10, 13] c < 0) := by
  by_cases h1 : c = 32
  · subst h1; left; decide
  by_cases h2 : c = 9
  · subst h2; left; decide
  by_cases h3 : c = 10
  · subst h3; left; decide
  by_cases h4 : c = 13
  · subst h4; left; decide
  right
  have key : ∀ x : UInt8, ¬ c = x → ((c.toNat : Int) == (x.toNat : Int)) = false := by
    intro x hx
    rw [← Bool.not_eq_true]
    exact fun h => hx ((Sp.byte_eq c x).2 h)
  have key2 : ∀ x : UInt8, ¬ c = x → ¬ ((x.toNat : Int) == (c.toNat : Int)) = true := fun x hx h => hx ((Sp.byte_eq x c).2 h).symm
  constructor
  · have e1 : ((c.toNat : Int) == 32) = false := key 32 h1
    have e2 : ((c.toNat : Int) == 9) = false := key 9 h2
    have e3 : ((c.toNat : Int) == 10) = false := key 10 h3
    have e4 : ((c.toNat : Int) == 13) = false := key 13 h4
    unfold Sp.blank
    rw [e1, e2, e3, e4]; rfl
  · rw [Sp.indexByte_cons, if_neg (key2 _ h1), Sp.indexByte_cons, if_neg (key2 _ h2), Sp.indexByte_cons, if_neg (key2 _ h3), Sp.indexByte_cons, if_neg (key2 _ h4)]
    simp [Lib.indexByte]
theorem gap_cons (c : UInt8) (t : List UInt8) : Sp.gap (c :: t) = if Sp.blank c = true then some 1 else if ((c.toNat : Int) == 47) = true then Sp.passLen (c :: t) else some 0 := rfl
theorem gap_line {r : List UInt8} (h : Lib.hasPrefix r [47, 47] = true) : Sp.gap r = some (Sp.line r) ∧ 2 ≤ Sp.line r := by
  rcases r with _ | ⟨a, _ | ⟨b, t⟩⟩
  · simp [Lib.hasPrefix, List.isPrefixOf] at h
  · simp [Lib.hasPrefix, List.isPrefixOf] at h
  · simp [Lib.hasPrefix, List.isPrefixOf] at h
    obtain ⟨rfl, rfl⟩ := h
    have h1 : Lib.hasPrefix (47 :: 47 :: t) [47, 47] = true := by simp [Lib.hasPrefix, List.isPrefixOf]
    rw [gap_cons, if_neg (by decide), if_pos (by decide), Sp.passLen_cons, if_neg (by decide), if_neg (by decide), if_neg (Sp.slash_not_star h1), if_pos h1]
    refine ⟨rfl, ?_⟩
    rw [Sp.line_slash, Sp.line_slash]
    omega
theorem gap_rem {r : List UInt8} (h : Lib.hasPrefix r [47, 42] = true) : Sp.gap r = (Sp.upto (r.drop 2) [42, 47]).map (· + 2) ∧ 2 ≤ r.length := by
  rcases r with _ | ⟨a, _ | ⟨b, t⟩⟩
  · simp [Lib.hasPrefix, List.isPrefixOf] at h
  · simp [Lib.hasPrefix, List.isPrefixOf] at h
  · simp [Lib.hasPrefix, List.isPrefixOf] at h
    obtain ⟨rfl, rfl⟩ := h
    rw [gap_cons, if_neg (by decide), if_pos (by decide), Sp.passLen_cons, if_neg (by decide), if_neg (by decide), if_pos (by simp [Lib.hasPrefix, List.isPrefixOf])]
    exact ⟨rfl, by simp⟩
theorem gap_none {c : UInt8} {t : List UInt8} (hb : Sp.blank c = false) (h1 : Lib.hasPrefix (c :: t) [47, 47] = false) (h2 : Lib.hasPrefix (c :: t) [47, 42] = false) : Sp.gap (c :: t) = some 0 := by
  rw [gap_cons, if_neg (by rw [hb]; decide)]
  split
  · rename_i hc
    have hc : c = 47 := (Sp.byte_eq c 47).2 hc
    subst hc
    rw [Sp.passLen_cons, if_neg (by decide), if_neg (by decide), if_neg (by rw [h2]; decide), if_neg (by rw [h1]; decide)]
  · rfl
theorem blank_not_slash {c : UInt8} {t : List UInt8} (hb : Sp.blank c = true) : Sp.gap (c :: t) = some 1 := by rw [gap_cons, if_pos hb]
theorem ret_ib {a a' : Int} {b b' : Bool} (h1 : a = a') (h2 : b = b') : Ending.returned (.tuple #[.int .i64 a, .bool b]) = .returned (.tuple #[.int .i64 a', .bool b']) := by rw [h1, h2]
theorem strings_IndexByte_b (l : List UInt8) (c : UInt8) (w : World) :
    Calls Tryd.prog 50 #[.string ⟨l.toArray⟩, .int .u8 (c.toNat : Int)] w fun e w' => e = .returned (.int .i64 (Lib.indexByte l c)) ∧ w = w' := by
  have := strings_IndexByte_gl ⟨l.toArray⟩ (c.toNat : Int) w
  have e : ((c.toNat : Int)).toNat.toUInt8 = c := by simp
  rw [e] at this
  have e2 : (⟨l.toArray⟩ : ByteArray).data.toList = l := by simp
  rwa [e2] at this

set_option maxRecDepth 100000 in
set_option maxHeartbeats 1600000 in
theorem lex_between (s : ByteArray) (at_ : Nat) (w : World) (hs : s.size < 4294967281) (hat : at_ ≤ s.size) (hg : Gl w) :
    Calls Tryd.prog 31 #[.string s, .int .i64 at_] w fun e w' => e = .returned (.tuple #[.int .i64 ((at_ + (Sp.skip (s.data.toList.drop at_)).1 : Nat) : Int), .bool (Sp.skip (s.data.toList.drop at_)).2]) ∧ w = w' := by
  generalize hN : at_ + (Sp.skip (s.data.toList.drop at_)).1 = N
  generalize hM : (Sp.skip (s.data.toList.drop at_)).2 = M
  have HN := Lib.hid hN; have HM := Lib.hid hM
  clear hN hM
  go_enter Tryd.func31, Tryd.ntmps31
  go_wp2
  go_loop [1] (fun i => ∃ k : Nat, k ≤ s.size ∧ i = .int .i64 k ∧ Hid (k + (Sp.skip (s.data.toList.drop k)).1 = N ∧ (Sp.skip (s.data.toList.drop k)).2 = M)) (fun i => s.size - (intOf i).toNat)
  case atStart => exact ⟨at_, hat, rfl, Lib.hid ⟨HN.out, HM.out⟩⟩
  case round =>
    obtain ⟨k, hk, rfl, HI⟩ := hrel
    clear HN HM hat
    by_cases hlt : k < s.size
    · have hd := drop_at s k hlt
      have HB := Lib.hid (fun W => strings_IndexByte_b [32, 9, 10, 13] s[k] W)
      have hbl := blank_at s[k]
      generalize Lib.indexByte [32, 9, 10, 13] s[k] = B at HB hbl
      rcases hbl with ⟨hb, hB⟩ | ⟨hb, hB⟩
      · have hgap : Sp.gap (s.data.toList.drop k) = some (0 + 1) := by rw [hd]; exact blank_not_slash hb
        have hsk := Sp.skip_succ hgap
        rw [List.drop_drop] at hsk
        have hi := HI.out
        rw [hsk] at hi
        have HI2 := Lib.hid hi
        clear hi hsk hgap hd HI hb
        go_wp2_with (go_at_call 50; refine (HB.out _).mono ?_; rintro e w' ⟨rfl, rfl⟩)
        go_round
        case rel => go_light; simp only [Nat.zero_add] at HI2; exact ⟨k + 1, by omega, by go_num, Lib.hid ⟨by have h := HI2.out.1; first | omega | (simp only at h; omega) | (simp only [Nat.zero_add] at h; omega), HI2.out.2⟩⟩
        case measure => go_light; simp [intOf]; omega
      · cases hp1 : Lib.hasPrefix (s.data.toList.drop k) [47, 47] with
        | true =>
          obtain ⟨hgap, h2⟩ := gap_line hp1
          have hle := Sp.line_le (s.data.toList.drop k)
          have hll : (s.data.toList.drop k).length = s.size - k := by simp
          have HSp := Lib.hid (fun W => lex_span_noline (s.extract k s.size) W (by simp; omega))
          rw [ext_end, ← Sp.line_span] at HSp
          generalize Sp.line (s.data.toList.drop k) = L at hgap h2 hle HSp
          obtain ⟨m, rfl⟩ : ∃ m, L = m + 1 := ⟨L - 1, by omega⟩
          have hsk := Sp.skip_succ hgap
          rw [List.drop_drop] at hsk
          have hi := HI.out
          rw [hsk] at hi
          have HI2 := Lib.hid hi
          have HP := Lib.hid hp1
          have hkl : k + (m + 1) ≤ s.size := by omega
          clear hi hsk hgap hd HI hb hll hle
          go_wp2_with (first
            | (go_at_call 50; refine (HB.out _).mono ?_; rintro e w' ⟨rfl, rfl⟩)
            | (go_at_call 51; refine (strings_HasPrefix_gl _ _ _).mono ?_; rintro e w' ⟨rfl, rfl⟩; rw [ext_end])
            | (go_at_call 52; refine (HSp.out _).mono ?_; rintro e w' ⟨rfl, rfl⟩))
          go_round
          case rel => go_light; exact ⟨k + (m + 1), hkl, by go_num, Lib.hid ⟨by have h := HI2.out.1; first | omega | (simp only at h; omega) | (simp only [Nat.zero_add] at h; omega), HI2.out.2⟩⟩
          case measure => go_light; simp [intOf]; omega
        | false =>
          cases hp2 : Lib.hasPrefix (s.data.toList.drop k) [47, 42] with
          | true =>
            obtain ⟨hgap, h2⟩ := gap_rem hp2
            have hll : (s.data.toList.drop k).length = s.size - k := by simp
            rw [List.drop_drop] at hgap
            have hk2 : k + 2 ≤ s.size := by omega
            have hroom := Lib.index_room (s.data.toList.drop (k + 2)) [42, 47]
            have hge := Lib.index_ge (s.data.toList.drop (k + 2)) [42, 47]
            have hll2 : (s.data.toList.drop (k + 2)).length = s.size - (k + 2) := by simp
            rw [hll2] at hroom
            simp only [List.length_cons, List.length_nil] at hroom
            unfold Sp.upto at hgap
            have HIx := Lib.hid (fun W (hW : Gl W) => strings_Index_gl ((s.extract k s.size).extract 2 (s.size - k)) ⟨#[42, 47]⟩ W (by simp; omega) hW)
            rw [ext_ext] at HIx
            have e47 : (⟨#[42, 47]⟩ : ByteArray).data.toList = [42, 47] := rfl
            rw [e47] at HIx
            generalize Lib.index (s.data.toList.drop (k + 2)) [42, 47] = I at hgap hroom hge HIx
            by_cases hI : 0 ≤ I
            · rw [if_pos hI] at hgap
              have hg' : Sp.gap (s.data.toList.drop k) = some ((I.toNat + 3) + 1) := by rw [hgap]; rfl
              have hsk := Sp.skip_succ hg'
              rw [List.drop_drop] at hsk
              have hi := HI.out
              rw [hsk] at hi
              have HI2 := Lib.hid hi
              clear hi hsk hgap hg' hd HI hb hll hll2 e47
              obtain ⟨i, rfl⟩ := Int.eq_ofNat_of_zero_le hI
              simp only [Int.toNat_natCast] at HI2
              have hi2 : k + 2 + i + 2 ≤ s.size := by omega
              go_wp2_with (first
                | (go_at_call 50; refine (HB.out _).mono ?_; rintro e w' ⟨rfl, rfl⟩)
                | (go_at_call 51; refine (strings_HasPrefix_gl _ _ _).mono ?_; rintro e w' ⟨rfl, rfl⟩; rw [ext_end])
                | (go_at_call 54; refine (HIx.out _ hg).mono ?_; rintro e w' ⟨rfl, rfl⟩))
              go_round
              case rel => go_light; exact ⟨k + (i + 3 + 1), by omega, by go_num, Lib.hid ⟨by have h := HI2.out.1; first | omega | (simp only at h; omega) | (simp only [Nat.zero_add] at h; omega), HI2.out.2⟩⟩
              case measure => go_light; simp [intOf]; omega
            · rw [if_neg hI] at hgap
              have hsk := Sp.skip_none hgap
              have hi := HI.out
              rw [hsk] at hi
              have HI2 := Lib.hid hi
              clear hi hsk hgap hd HI hb hll hll2 e47
              go_wp2_with (first
                | (go_at_call 50; refine (HB.out _).mono ?_; rintro e w' ⟨rfl, rfl⟩)
                | (go_at_call 51; refine (strings_HasPrefix_gl _ _ _).mono ?_; rintro e w' ⟨rfl, rfl⟩; rw [ext_end])
                | (go_at_call 54; refine (HIx.out _ hg).mono ?_; rintro e w' ⟨rfl, rfl⟩))
              go_ret2
              exact ⟨ret_ib (by have h := HI2.out.1; first | omega | (simp only at h; omega) | (simp only [Nat.zero_add] at h; omega)) HI2.out.2, rfl⟩
          | false =>
            have hgap : Sp.gap (s.data.toList.drop k) = some 0 := by
              have h1 := hp1; have h2 := hp2
              rw [hd] at h1 h2 ⊢
              exact gap_none hb h1 h2
            have hsk := Sp.skip_zero hgap
            have hi := HI.out
            rw [hsk] at hi
            have HI2 := Lib.hid hi
            clear hi hsk hgap hd HI hb
            go_wp2_with (first
              | (go_at_call 50; refine (HB.out _).mono ?_; rintro e w' ⟨rfl, rfl⟩)
              | (go_at_call 51; refine (strings_HasPrefix_gl _ _ _).mono ?_; rintro e w' ⟨rfl, rfl⟩; rw [ext_end]))
            go_ret2
            exact ⟨ret_ib (by have h := HI2.out.1; first | omega | (simp only at h; omega) | (simp only [Nat.zero_add] at h; omega)) HI2.out.2, rfl⟩
    · have hi := HI.out
      rw [drop_end s k hlt, Sp.skip_nil] at hi
      have HI2 := Lib.hid hi
      clear hi HI
      go_wp2
      go_ret2
      exact ⟨ret_ib (by have h := HI2.out.1; first | omega | (simp only at h; omega) | (simp only [Nat.zero_add] at h; omega)) HI2.out.2, rfl⟩
end Go.Proofs.YtphdfbmmjkccgaaDoor

namespace Go.Proofs.YtphdfbmmjkccgaaDoor
open Go.RowKit

theorem digits_span_eq (l : List UInt8) : Sp.span Sp.digit l = Sp.digits l := (Sp.digits_span l).symm
theorem alphas_span_eq (l : List UInt8) : Sp.span Sp.alpha l = Sp.alphas l := (Sp.alphas_span l).symm

set_option maxRecDepth 100000 in
set_option maxHeartbeats 1600000 in
theorem lex_number (s : ByteArray) (w : World) (hs : s.size < 4294967281) (h0 : 0 < s.size) (hdg : Sp.digit s[0] = true) :
    Calls Tryd.prog 58 #[.string s] w fun e w' => e = .returned (.int .i64 (Sp.number s.data.toList : Nat)) ∧ Below w.heap.size w w' := by
  generalize hN : Sp.number s.data.toList = N
  unfold Sp.number at hN
  have HSp := Lib.hid (fun W => lex_span_digit s W hs)
  rw [digits_span_eq] at HSp
  have hd0 := drop_at s 0 h0
  rw [List.drop_zero] at hd0
  have hD1 : 1 ≤ Sp.digits s.data.toList := by
    rw [hd0]
    show 1 ≤ (if Sp.digit s[0] = true then _ + 1 else 0)
    rw [if_pos hdg]; omega
  have hDle := Sp.digits_le s.data.toList
  have hll : s.data.toList.length = s.size := by simp
  rw [hll] at hDle
  have hnum := Sp.atoi_digits s.data.toList (by omega)
  have hhead : s.data.toList.head? = some s[0] := by rw [hd0]; rfl
  rw [hhead] at hN
  generalize hD : Sp.digits s.data.toList = D at *
  have h48 : (some s[0] = some (48 : UInt8)) ↔ ((s[0].toNat : Int) == 48) = true := by
    constructor
    · intro h; rw [Option.some.inj h]; rfl
    · intro h; rw [(Sp.byte_eq s[0] 48).2 h]
  clear hdg hd0 hll hhead hD
  by_cases h5 : 5 < D
  · rw [if_pos (.inl h5)] at hN
    subst hN
    clear hnum h48
    go_enter Tryd.func58, Tryd.ntmps58
    go_wp2_with (go_at_call 52; refine (HSp.out _).mono ?_; rintro e w' ⟨rfl, rfl⟩)
    go_ret
    exact ⟨rfl, Below.refl _ _⟩
  · cases hb48 : ((s[0].toNat : Int) == 48) with
    | true =>
      rw [if_pos (.inr (.inl (h48.2 hb48)))] at hN
      subst hN
      clear hnum h48
      go_enter Tryd.func58, Tryd.ntmps58
      go_wp2_with (go_at_call 52; refine (HSp.out _).mono ?_; rintro e w' ⟨rfl, rfl⟩)
      go_ret
      exact ⟨rfl, Below.refl _ _⟩
    | false =>
      have hn48 : ¬ some s[0] = some (48 : UInt8) := fun h => by rw [h48.1 h] at hb48; simp at hb48
      clear h48
      have hext : (s.extract 0 D).data.toList = s.data.toList.take D := by rw [ext_any]; simp
      generalize Sp.num (s.data.toList.take D) = v at hN hnum
      have hnum' := hnum
      rw [← hext] at hnum'
      have hsz : (s.extract 0 D).size = D := by simp; omega
      have HA := Lib.hid (fun W => strconv_Atoi_gl (s.extract 0 D) _ (by omega) hnum' W)
      clear hnum hnum' hext hsz
      have main : ∀ b : Bool, Sp.stuck (s.data.toList.drop D) = b → (b = true → N = 0) ∧ (b = false → N = if 50000 < v then 0 else D) := by
        intro b hb
        rw [hb] at hN
        constructor
        · rintro rfl; rw [if_pos (.inr (.inr rfl))] at hN; exact hN.symm
        · rintro rfl
          rw [if_neg] at hN
          · exact hN.symm
          · rintro (h | h | h)
            · exact h5 h
            · exact hn48 h
            · simp at h
      clear hN hn48
      by_cases hlt : D < s.size
      · have hd := drop_at s D hlt
        rw [hd] at main
        have e : Sp.stuck (s[D] :: s.data.toList.drop (D + 1)) = (Sp.alpha s[D] || ((s[D].toNat : Int) == 95)) := Sp.letter_alpha s[D]
        rw [e] at main
        have HL := Lib.hid (fun W => lex_letter s[D] W)
        generalize Sp.alpha s[D] = al at main HL
        cases al with
        | true =>
          obtain ⟨m1, _⟩ := main true (by simp)
          have := m1 rfl
          subst this
          clear main m1
          go_enter Tryd.func58, Tryd.ntmps58
          go_wp2_with (first
            | (go_at_call 52; refine (HSp.out _).mono ?_; rintro e w' ⟨rfl, rfl⟩)
            | (go_at_call 55; refine (HL.out _).mono ?_; rintro e w' ⟨rfl, rfl⟩))
          go_ret
          exact ⟨rfl, Below.refl _ _⟩
        | false =>
          cases h95 : ((s[D].toNat : Int) == 95) with
          | true =>
            obtain ⟨m1, _⟩ := main true (by rw [h95]; rfl)
            have := m1 rfl
            subst this
            clear main m1
            go_enter Tryd.func58, Tryd.ntmps58
            go_wp2_with (first
              | (go_at_call 52; refine (HSp.out _).mono ?_; rintro e w' ⟨rfl, rfl⟩)
              | (go_at_call 55; refine (HL.out _).mono ?_; rintro e w' ⟨rfl, rfl⟩))
            go_ret
            exact ⟨rfl, Below.refl _ _⟩
          | false =>
            obtain ⟨_, m1⟩ := main false (by rw [h95]; rfl)
            have HM := Lib.hid (m1 rfl)
            clear main m1
            go_enter Tryd.func58, Tryd.ntmps58
            go_wp2_with (first
              | (go_at_call 52; refine (HSp.out _).mono ?_; rintro e w' ⟨rfl, rfl⟩)
              | (go_at_call 55; refine (HL.out _).mono ?_; rintro e w' ⟨rfl, rfl⟩)
              | (go_at_call 64; refine (HA.out _).mono ?_; rintro e w1 ⟨rfl, hb⟩))
            all_goals
              go_ret
              exact ⟨ret_int (by rw [HM.out]; first | (rw [if_pos (by assumption)]; rfl) | (rw [if_neg (by omega)])), hb⟩
      · have hd := drop_end s D hlt
        rw [hd] at main
        obtain ⟨_, m1⟩ := main false rfl
        have HM := Lib.hid (m1 rfl)
        clear main m1 hd
        go_enter Tryd.func58, Tryd.ntmps58
        go_wp2_with (first
          | (go_at_call 52; refine (HSp.out _).mono ?_; rintro e w' ⟨rfl, rfl⟩)
          | (go_at_call 64; refine (HA.out _).mono ?_; rintro e w1 ⟨rfl, hb⟩))
        all_goals
          go_ret
          exact ⟨ret_int (by rw [HM.out]; first | (rw [if_pos (by assumption)]; rfl) | (rw [if_neg (by omega)])), hb⟩

/-- A word as a value, its place not yet laid. -/
def wordV (p : Int × List UInt8 × Nat) : Value := .agg #[.int .i64 p.1, .string ⟨p.2.1.toArray⟩, .int .i64 0]
theorem keys_contains (x : ByteArray) : Lib.containsS [⟨#[37, 116, 111, 107, 101, 110]⟩, ⟨#[37, 108, 101, 102, 116]⟩, ⟨#[37, 114, 105, 103, 104, 116]⟩, ⟨#[37, 110, 111, 110, 97, 115, 115, 111, 99]⟩, ⟨#[37, 116, 121, 112, 101]⟩, ⟨#[37, 115, 116, 97, 114, 116]⟩, ⟨#[37, 112, 114, 101, 99]⟩] x = Sp.keys.contains x.data.toList := by
  rw [Bool.eq_iff_iff, Lib.containsS_iff, List.contains_iff_mem]
  have e : ∀ l : List UInt8, x = ⟨l.toArray⟩ ↔ x.data.toList = l := by
    intro l
    constructor
    · rintro rfl; rfl
    · intro h; rw [← h]
  unfold Sp.keys
  simp only [List.mem_cons, List.not_mem_nil, or_false]
  rw [show (⟨#[37, 116, 111, 107, 101, 110]⟩ : ByteArray) = ⟨([37, 116, 111, 107, 101, 110] : List UInt8).toArray⟩ from rfl, show (⟨#[37, 108, 101, 102, 116]⟩ : ByteArray) = ⟨([37, 108, 101, 102, 116] : List UInt8).toArray⟩ from rfl,
    show (⟨#[37, 114, 105, 103, 104, 116]⟩ : ByteArray) = ⟨([37, 114, 105, 103, 104, 116] : List UInt8).toArray⟩ from rfl, show (⟨#[37, 110, 111, 110, 97, 115, 115, 111, 99]⟩ : ByteArray) = ⟨([37, 110, 111, 110, 97, 115, 115, 111, 99] : List UInt8).toArray⟩ from rfl,
    show (⟨#[37, 116, 121, 112, 101]⟩ : ByteArray) = ⟨([37, 116, 121, 112, 101] : List UInt8).toArray⟩ from rfl, show (⟨#[37, 115, 116, 97, 114, 116]⟩ : ByteArray) = ⟨([37, 115, 116, 97, 114, 116] : List UInt8).toArray⟩ from rfl, show (⟨#[37, 112, 114, 101, 99]⟩ : ByteArray) = ⟨([37, 112, 114, 101, 99] : List UInt8).toArray⟩ from rfl]
  rw [e, e, e, e, e, e, e]

theorem heap_alloc_of2 {w : World} {b : Nat} {o : Obj} (h : w.heap[b]? = some o) (x : Obj) : (w.alloc x).heap[b]? = some o := (Below.heap_alloc _ _ _ (lt_at h)).trans h
def keysB : List ByteArray := [⟨#[37, 116, 111, 107, 101, 110]⟩, ⟨#[37, 108, 101, 102, 116]⟩, ⟨#[37, 114, 105, 103, 104, 116]⟩, ⟨#[37, 110, 111, 110, 97, 115, 115, 111, 99]⟩, ⟨#[37, 116, 121, 112, 101]⟩, ⟨#[37, 115, 116, 97, 114, 116]⟩, ⟨#[37, 112, 114, 101, 99]⟩]
theorem keys_cells (w : World) (n : Nat) (hn : n = w.heap.size) : ∀ j, j < keysB.length → (w.alloc (.cells #[.string ⟨#[37, 116, 111, 107, 101, 110]⟩, .string ⟨#[37, 108, 101, 102, 116]⟩, .string ⟨#[37, 114, 105, 103, 104, 116]⟩, .string ⟨#[37, 110, 111, 110, 97, 115, 115, 111, 99]⟩, .string ⟨#[37, 116, 121, 112, 101]⟩, .string ⟨#[37, 115, 116, 97, 114, 116]⟩, .string ⟨#[37, 112, 114, 101, 99]⟩] 9)).cell? ⟨n, 0 + j, none⟩ = some (.string (keysB.getD j ByteArray.empty)) := by
  subst hn
  intro j hj
  have hj' : j < 7 := hj
  rw [cell_at (heap_last w _)]
  rcases j with _ | _ | _ | _ | _ | _ | _ | j
  · rfl
  · rfl
  · rfl
  · rfl
  · rfl
  · rfl
  · rfl
  · omega
theorem percent_eq (r : List UInt8) : Sp.percent r =
  if Lib.hasPrefix r [37, 37] = true then (7, [37, 37], 2)
  else if Lib.hasPrefix r [37, 123] = true then (if 0 ≤ Lib.index (r.drop 2) [37, 125] then (9, (r.drop 2).take (Lib.index (r.drop 2) [37, 125]).toNat, (Lib.index (r.drop 2) [37, 125]).toNat + 4) else Sp.noWord)
  else if Sp.keys.contains (r.take (1 + Sp.alphas (r.drop 1))) = true then (5, r.take (1 + Sp.alphas (r.drop 1)), 1 + Sp.alphas (r.drop 1))
  else Sp.noWord := by
  unfold Sp.percent
  split
  · rfl
  · split
    · unfold Sp.upto
      by_cases h : 0 ≤ Lib.index (r.drop 2) [37, 125]
      · rw [if_pos h, if_pos h]; simp
      · rw [if_neg h, if_neg h]
    · rfl

set_option maxRecDepth 100000 in
set_option maxHeartbeats 3200000 in
theorem lex_percent (s : ByteArray) (w : World) (hs : s.size < 4294967281) (h0 : 0 < s.size) (hg : Gl w) :
    Calls Tryd.prog 61 #[.string s] w fun e w' => e = .returned (.tuple #[wordV (Sp.percent s.data.toList), .int .i64 (Sp.percent s.data.toList).2.2]) ∧ Below w.heap.size w w' := by
  generalize hN : Sp.percent s.data.toList = N
  rw [percent_eq] at hN
  cases hp1 : Lib.hasPrefix s.data.toList [37, 37] with
  | true =>
    rw [if_pos hp1] at hN
    subst hN
    go_enter Tryd.func61, Tryd.ntmps61
    go_wp2_with (go_at_call 51; refine (strings_HasPrefix_gl _ _ _).mono ?_; rintro e w' ⟨rfl, rfl⟩)
    refine ret_cell_tmp (g := w.heap.size) rfl rfl (heap_last _ _) rfl Tryd.underlying77 (by kernel_rfl) rfl ⟨by simp [wordV], (Below.refl _ _).alloc (Nat.le_refl _) _⟩
  | false =>
    rw [if_neg (by rw [hp1]; decide)] at hN
    cases hp2 : Lib.hasPrefix s.data.toList [37, 123] with
    | true =>
      rw [if_pos hp2] at hN
      have h2 : 2 ≤ s.size := by
        have := List.IsPrefix.length_le (List.isPrefixOf_iff_prefix.1 hp2)
        simpa using this
      have hroom := Lib.index_room (s.data.toList.drop 2) [37, 125]
      have hge := Lib.index_ge (s.data.toList.drop 2) [37, 125]
      have hll2 : (s.data.toList.drop 2).length = s.size - 2 := by simp
      rw [hll2] at hroom
      simp only [List.length_cons, List.length_nil] at hroom
      have HIx := Lib.hid (fun W (hW : Gl W) => strings_Index_gl (s.extract 2 s.size) ⟨#[37, 125]⟩ W (by simp; omega) hW)
      rw [ext_end] at HIx
      have e47 : (⟨#[37, 125]⟩ : ByteArray).data.toList = [37, 125] := rfl
      rw [e47] at HIx
      generalize Lib.index (s.data.toList.drop 2) [37, 125] = I at hN hroom hge HIx
      have hga := fun (o : Obj) => hg.alloc o
      have HGA := Lib.hid hga
      clear hga hll2 e47
      by_cases hI : 0 ≤ I
      · rw [if_pos hI] at hN
        obtain ⟨i, rfl⟩ := Int.eq_ofNat_of_zero_le hI
        simp only [Int.toNat_natCast] at hN
        have hi2 : 2 + i + 2 ≤ s.size := by omega
        have HN := Lib.hid hN
        clear hN hI hge hroom
        go_enter Tryd.func61, Tryd.ntmps61
        go_wp2_with (first
          | (go_at_call 51; refine (strings_HasPrefix_gl _ _ _).mono ?_; rintro e w' ⟨rfl, rfl⟩)
          | (go_at_call 54; refine (HIx.out _ (HGA.out _)).mono ?_; rintro e w' ⟨rfl, rfl⟩))
        have hN := HN.out
        subst hN
        refine ret_cell_tmp (g := w.heap.size) rfl rfl (heap_last _ _) rfl Tryd.underlying77 (by kernel_rfl) rfl ⟨?_, (Below.refl _ _).alloc (Nat.le_refl _) _⟩
        simp [wordV, Lib.extract_eq]
      · rw [if_neg hI] at hN
        have HN := Lib.hid hN
        clear hN hge hroom
        go_enter Tryd.func61, Tryd.ntmps61
        go_wp2_with (first
          | (go_at_call 51; refine (strings_HasPrefix_gl _ _ _).mono ?_; rintro e w' ⟨rfl, rfl⟩)
          | (go_at_call 54; refine (HIx.out _ (HGA.out _)).mono ?_; rintro e w' ⟨rfl, rfl⟩))
        have hN := HN.out
        subst hN
        refine ret_cell_tmp (g := w.heap.size) rfl rfl (heap_last _ _) rfl Tryd.underlying77 (by kernel_rfl) rfl ⟨by simp [wordV, Sp.noWord], (Below.refl _ _).alloc (Nat.le_refl _) _⟩
    | false =>
      rw [if_neg (by rw [hp2]; decide)] at hN
      have HSp := Lib.hid (fun W => lex_span_alpha (s.extract 1 s.size) W (by simp; omega))
      rw [ext_end, alphas_span_eq] at HSp
      have hale := Sp.alphas_le (s.data.toList.drop 1)
      have hll : (s.data.toList.drop 1).length = s.size - 1 := by simp
      rw [hll] at hale
      have h0' : (1 : Int) ≤ (s.size : Int) := by omega
      generalize Sp.alphas (s.data.toList.drop 1) = L at hN HSp hale
      have hext : (s.extract 0 (1 + L)).data.toList = s.data.toList.take (1 + L) := by rw [ext_any]; simp
      have hka := keys_contains (s.extract 0 (1 + L))
      rw [hext] at hka
      have HX := Lib.hid (show (⟨(s.data.toList.take (1 + L)).toArray⟩ : ByteArray) = s.extract 0 (1 + L) by rw [← hext])
      generalize Sp.keys.contains (s.data.toList.take (1 + L)) = B at hN hka
      have HK := Lib.hid hka
      have HN := Lib.hid hN
      clear hka hN hll hext
      go_enter Tryd.func61, Tryd.ntmps61
      go_wp2_with (first
        | (go_at_call 51; refine (strings_HasPrefix_gl _ _ _).mono ?_; rintro e w' ⟨rfl, rfl⟩)
        | (go_at_call 52; refine (HSp.out _).mono ?_; rintro e w' ⟨rfl, rfl⟩))
      refine (Tryd.slices_Contains_string _ 0 7 7 keysB _ _ (by decide) (by decide) (keys_cells _ _ (by simp))).mono ?_
      rintro e w' ⟨rfl, rfl⟩
      rw [show keysB.take 7 = keysB from rfl, show Lib.containsS keysB (s.extract 0 (1 + L)) = B from HK.out]
      cases B with
      | true =>
        go_wp2
        have hN := HN.out
        first | rw [if_pos rfl] at hN | rw [if_pos trivial] at hN
        subst hN
        refine ret_cell_tmp (g := w.heap.size) rfl rfl (heap_alloc_of2 (heap_last _ _) _) rfl Tryd.underlying77 (by kernel_rfl) rfl ⟨?_, ?_⟩
        · simp [wordV, HX.out]
        · exact ((Below.refl _ _).alloc (Nat.le_refl _) _).alloc (by simp) _
      | false =>
        go_wp2
        have hN := HN.out
        first | rw [if_neg (by decide)] at hN | rw [if_neg not_false] at hN
        subst hN
        refine ret_cell_tmp (g := w.heap.size) rfl rfl (heap_alloc_of2 (heap_last _ _) _) rfl Tryd.underlying77 (by kernel_rfl) rfl ⟨?_, ?_⟩
        · simp [wordV, Sp.noWord]
        · exact ((Below.refl _ _).alloc (Nat.le_refl _) _).alloc (by simp) _
end Go.Proofs.YtphdfbmmjkccgaaDoor
