/- Plain laws: a word is no longer than the text. No program in sight. -/
import Derived.Test.YticdgfljaphhgaaDoorSpN
namespace Go.Proofs.YticdgfljaphhgaaDoor
namespace Sp
open Go.Lib (index indexByte hasPrefix)

/-- A word is no longer than the text. -/
theorem word_le (r : List UInt8) : (word r).2.2 ≤ r.length := by
  cases r with
  | nil => exact Nat.le_refl _
  | cons c t =>
    have h0 : (noWord : Int × List UInt8 × Nat).2.2 ≤ (c :: t).length := Nat.zero_le _
    rw [word_cons]
    split
    · split
      · exact nameLen_le true (c :: t)
      · exact h0
    split
    · split
      · have h1 := digits_le (c :: t)
        show number (c :: t) ≤ _
        unfold number
        split
        · omega
        · split <;> omega
      · exact h0
    split
    · cases hc : charTake (c :: t) with
      | none => exact h0
      | some p =>
        obtain ⟨b, n⟩ := p
        exact (charTake_le _ _ _ hc).1
    split
    · split
      · rename_i h
        obtain ⟨_, h⟩ := h
        have h1 := nameLen_le true t
        have h2 : (t.drop (nameLen true t)).length ≠ 0 := by
          intro e
          rw [List.eq_nil_of_length_eq_zero e] at h
          simp [hasPrefix, List.isPrefixOf] at h
        simp at h2 ⊢
        omega
      · exact h0
    split
    · unfold percent
      split
      · rename_i h
        have := List.IsPrefix.length_le (List.isPrefixOf_iff_prefix.1 h)
        exact this
      · split
        · rename_i h
          have h2 := List.IsPrefix.length_le (List.isPrefixOf_iff_prefix.1 h)
          simp only [List.length_cons, List.length_nil] at h2
          cases hu : upto ((c :: t).drop 2) [37, 125] with
          | none => exact h0
          | some k =>
            have := upto_le _ _ _ hu
            simp at this ⊢
            omega
        · split
          · have := alphas_le ((c :: t).drop 1)
            simp at this ⊢
            omega
          · exact h0
    split
    · simp
    split
    · cases he : endLen (c :: t) with
      | none => exact h0
      | some n =>
        show n ≤ _
        have e : endLen (c :: t) = if ((c.toNat : Int) == 123) = true then endGo ((c :: t).length + 1) 0 (c :: t) else none := rfl
        rw [e] at he
        by_cases h : ((c.toNat : Int) == 123) = true
        · rw [if_pos h] at he
          exact endGo_le _ _ _ _ he
        · rw [if_neg h] at he
          cases he
    · exact h0
end Sp
end Go.Proofs.YticdgfljaphhgaaDoor
