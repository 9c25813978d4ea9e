/- Plain laws: words of joined texts. No program in sight. -/
import Derived.Test.YticdgfljaphhgaaDoorSpO
namespace Go.Proofs.YticdgfljaphhgaaDoor
namespace Sp
open Go.Lib (index indexByte hasPrefix)

/-! ### What stands between words, with a newline behind -/
theorem line_nl (Z : List UInt8) : ∀ X : List UInt8, line X = X.length → line (X ++ 10 :: Z) = X.length
  | [], _ => by
    show line (10 :: Z) = 0
    rw [line_cons, if_pos (by decide)]
  | c :: t, h => by
    show line (c :: (t ++ 10 :: Z)) = t.length + 1
    rw [line_cons] at h ⊢
    split at h
    · simp at h
    · rename_i hc
      rw [if_neg hc, line_nl Z t (by simpa using h)]
theorem passLen_nl (Z : List UInt8) (r : List UInt8) (n : Nat) (hr : r ≠ []) (h : passLen r = some n) : passLen (r ++ 10 :: Z) = some n := by
  cases r with
  | nil => exact absurd rfl hr
  | cons c t =>
    cases n with
    | zero =>
      cases t with
      | nil =>
        show passLen (c :: 10 :: Z) = some 0
        rw [passLen_cons] at h ⊢
        split at h
        · obtain ⟨m, hm, he⟩ := Option.map_eq_some_iff.1 h
          omega
        · rename_i h1
          rw [if_neg h1]
          split at h
          · obtain ⟨m, hm, he⟩ := Option.map_eq_some_iff.1 h
            omega
          · rename_i h2
            rw [if_neg h2, hasPrefix_two, hasPrefix_two]
            rw [if_neg (by simp), if_neg (by simp)]
      | cons b u => exact passLen_zero c (b :: u) ((b :: u) ++ 10 :: Z) rfl h
    | succ m =>
      have hle := passLen_le _ _ h
      obtain ⟨X, R, hXR, hX⟩ : ∃ X R, c :: t = X ++ R ∧ X.length = m + 1 := ⟨(c :: t).take (m + 1), (c :: t).drop (m + 1), (List.take_append_drop _ _).symm, by rw [List.length_take]; omega⟩
      have hX0 : X ≠ [] := by rintro rfl; simp at hX
      rw [hXR] at h ⊢
      rw [← hX] at h ⊢
      rw [List.append_assoc]
      cases R with
      | nil => exact passLen_stableL [] (10 :: Z) X (fun hl => by rw [List.append_nil] at hl; exact line_nl Z X hl) hX0 h
      | cons y u => exact passLen_stable (y :: u) ((y :: u) ++ 10 :: Z) X rfl hX0 h
theorem gap_nl (Z : List UInt8) (r : List UInt8) (n : Nat) (hr : r ≠ []) (h : gap r = some n) : gap (r ++ 10 :: Z) = some n := by
  cases r with
  | nil => exact absurd rfl hr
  | cons c t =>
    have e : ∀ u, gap (c :: u) = if blank c = true then some 1 else if ((c.toNat : Int) == 47) = true then passLen (c :: u) else some 0 := fun _ => rfl
    show gap (c :: (t ++ 10 :: Z)) = some n
    rw [e] at h ⊢
    split at h
    · rename_i h1; rw [if_pos h1]; exact h
    · rename_i h1
      rw [if_neg h1]
      split at h
      · rename_i h2
        rw [if_pos h2]
        exact passLen_nl Z (c :: t) n (by simp) h
      · rename_i h2; rw [if_neg h2]; exact h
theorem skip_nl (Z : List UInt8) : ∀ (f : Nat) (r : List UInt8), r.length < f → (skip r).2 = true → ((skip r).1 < r.length → skip (r ++ 10 :: Z) = skip r) ∧ ((skip r).1 = r.length → skip (r ++ 10 :: Z) = (r.length + (skip (10 :: Z)).1, (skip (10 :: Z)).2))
  | 0, _, h, _ => by omega
  | f + 1, [], h, hb => by
    refine ⟨fun h => by simp at h, fun _ => ?_⟩
    show skip (10 :: Z) = _
    simp
  | f + 1, c :: t, h, hb => by
    cases hp : gap (c :: t) with
    | none => rw [skip_none hp] at hb; cases hb
    | some n =>
      have hp' := gap_nl Z (c :: t) n (by simp) hp
      cases n with
      | zero =>
        rw [skip_zero hp, skip_zero hp']
        exact ⟨fun _ => rfl, fun h => by simp at h⟩
      | succ n =>
        have hl := gap_le _ _ hp
        have ih := skip_nl Z f ((c :: t).drop (n + 1)) (by simp at h ⊢; omega) (by rw [skip_succ hp] at hb; exact hb)
        have hd : ((c :: t) ++ 10 :: Z).drop (n + 1) = (c :: t).drop (n + 1) ++ 10 :: Z := List.drop_append_of_le_length hl
        rw [skip_succ hp, skip_succ hp', hd]
        have hll : ((c :: t).drop (n + 1)).length = (c :: t).length - (n + 1) := List.length_drop
        constructor
        · intro h1
          rw [ih.1 (by simp only at h1; omega)]
        · intro h1
          rw [ih.2 (by simp only at h1; omega)]
          simp only [Prod.mk.injEq, and_true]
          omega
end Sp
end Go.Proofs.YticdgfljaphhgaaDoor
