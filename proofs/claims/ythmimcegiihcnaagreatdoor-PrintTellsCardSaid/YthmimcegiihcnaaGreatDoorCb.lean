/- The walks of lex.between, lex.number. -/
import Derived.Test.YthmimcegiihcnaaGreatDoorCa
import Derived.Test.YthmimcegiihcnaaGreatDoorBZ
namespace Go.Proofs.YthmimcegiihcnaaGreatDoor
open Go.RowKit

theorem ext_ext (s : ByteArray) (k j : Nat) : ((s.extract k s.size).extract j (s.size - k)).data.toList = s.data.toList.drop (k + j) := by
  rw [ext_any, ext_end, List.drop_drop, List.take_of_length_le (by simp; omega)]
theorem blank_at (c : UInt8) : (Sp.blank c = true ∧ 0 ≤ Lib.indexByte [32, 9, 10, 13] c) ∨ (Sp.blank c = false ∧ Lib.indexByte [32, 9, 10, 13] c < 0) := by
  by_cases h1 : c = 32
  · subst h1; left; decide
  by_cases h2 : c = 9
  · subst h2; left; decide
  by_cases h3 : c = 10
  · subst h3; left; decide
  by_cases h4 : c = 13
  · subst h4; left; decide
  right
  have key : ∀ x : UInt8, ¬ c = x → ((c.toNat : Int) == (x.toNat : Int)) = false := by
    intro x hx
    rw [← Bool.not_eq_true]
    exact fun h => hx ((Sp.byte_eq c x).2 h)
  have key2 : ∀ x : UInt8, ¬ c = x → ¬ ((x.toNat : Int) == (c.toNat : Int)) = true := fun x hx h => hx ((Sp.byte_eq x c).2 h).symm
  constructor
  · have e1 : ((c.toNat : Int) == 32) = false := key 32 h1
    have e2 : ((c.toNat : Int) == 9) = false := key 9 h2
    have e3 : ((c.toNat : Int) == 10) = false := key 10 h3
    have e4 : ((c.toNat : Int) == 13) = false := key 13 h4
    unfold Sp.blank
    rw [e1, e2, e3, e4]; rfl
  · rw [Sp.indexByte_cons, if_neg (key2 _ h1), Sp.indexByte_cons, if_neg (key2 _ h2), Sp.indexByte_cons, if_neg (key2 _ h3), Sp.indexByte_cons, if_neg (key2 _ h4)]
    simp [Lib.indexByte]
theorem gap_cons (c : UInt8) (t : List UInt8) : Sp.gap (c :: t) = if Sp.blank c = true then some 1 else if ((c.toNat : Int) == 47) = true then Sp.passLen (c :: t) else some 0 := rfl
theorem gap_line {r : List UInt8} (h : Lib.hasPrefix r [47, 47] = true) : Sp.gap r = some (Sp.line r) ∧ 2 ≤ Sp.line r := by
  rcases r with _ | ⟨a, _ | ⟨b, t⟩⟩
  · simp [Lib.hasPrefix, List.isPrefixOf] at h
  · simp [Lib.hasPrefix, List.isPrefixOf] at h
  · simp [Lib.hasPrefix, List.isPrefixOf] at h
    obtain ⟨rfl, rfl⟩ := h
    have h1 : Lib.hasPrefix (47 :: 47 :: t) [47, 47] = true := by simp [Lib.hasPrefix, List.isPrefixOf]
    rw [gap_cons, if_neg (by decide), if_pos (by decide), Sp.passLen_cons, if_neg (by decide), if_neg (by decide), if_neg (Sp.slash_not_star h1), if_pos h1]
    refine ⟨rfl, ?_⟩
    rw [Sp.line_slash, Sp.line_slash]
    omega
theorem gap_rem {r : List UInt8} (h : Lib.hasPrefix r [47, 42] = true) : Sp.gap r = (Sp.upto (r.drop 2) [42, 47]).map (· + 2) ∧ 2 ≤ r.length := by
  rcases r with _ | ⟨a, _ | ⟨b, t⟩⟩
  · simp [Lib.hasPrefix, List.isPrefixOf] at h
  · simp [Lib.hasPrefix, List.isPrefixOf] at h
  · simp [Lib.hasPrefix, List.isPrefixOf] at h
    obtain ⟨rfl, rfl⟩ := h
    rw [gap_cons, if_neg (by decide), if_pos (by decide), Sp.passLen_cons, if_neg (by decide), if_neg (by decide), if_pos (by simp [Lib.hasPrefix, List.isPrefixOf])]
    exact ⟨rfl, by simp⟩
theorem gap_none {c : UInt8} {t : List UInt8} (hb : Sp.blank c = false) (h1 : Lib.hasPrefix (c :: t) [47, 47] = false) (h2 : Lib.hasPrefix (c :: t) [47, 42] = false) : Sp.gap (c :: t) = some 0 := by
  rw [gap_cons, if_neg (by rw [hb]; decide)]
  split
  · rename_i hc
    have hc : c = 47 := (Sp.byte_eq c 47).2 hc
    subst hc
    rw [Sp.passLen_cons, if_neg (by decide), if_neg (by decide), if_neg (by rw [h2]; decide), if_neg (by rw [h1]; decide)]
  · rfl
theorem blank_not_slash {c : UInt8} {t : List UInt8} (hb : Sp.blank c = true) : Sp.gap (c :: t) = some 1 := by rw [gap_cons, if_pos hb]
theorem ret_ib {a a' : Int} {b b' : Bool} (h1 : a = a') (h2 : b = b') : Ending.returned (.tuple #[.int .i64 a, .bool b]) = .returned (.tuple #[.int .i64 a', .bool b']) := by rw [h1, h2]
theorem strings_IndexByte_b (l : List UInt8) (c : UInt8) (w : World) :
    Calls Tryz.prog 106 #[.string ⟨l.toArray⟩, .int .u8 (c.toNat : Int)] w fun e w' => e = .returned (.int .i64 (Lib.indexByte l c)) ∧ w = w' := by
  have := strings_IndexByte_gl ⟨l.toArray⟩ (c.toNat : Int) w
  have e : ((c.toNat : Int)).toNat.toUInt8 = c := by simp
  rw [e] at this
  have e2 : (⟨l.toArray⟩ : ByteArray).data.toList = l := by simp
  rwa [e2] at this

end Go.Proofs.YthmimcegiihcnaaGreatDoor
