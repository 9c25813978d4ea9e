/- Plain functions: pieces of an action's text. -/
import Derived.Test.YticdgfljaphhgaaDoorSpA
import Derived.Lib.Atoi
import Derived.Lib.ItoaNum
namespace Go.Proofs.YticdgfljaphhgaaDoor
namespace Sp
open Go.Lib (index indexByte hasPrefix)

structure Piece where
  kind : Int
  text : List UInt8
  n : Int
  tag : List UInt8
  deriving DecidableEq

def nil : Piece := ⟨0, [], 0, []⟩

/-- How many digits a text begins with. -/
def digits : List UInt8 → Nat
  | [] => 0
  | c :: t => if digit c = true then digits t + 1 else 0
theorem digits_le : ∀ l : List UInt8, digits l ≤ l.length
  | [] => Nat.le_refl _
  | c :: t => by
    unfold digits
    have := digits_le t
    split <;> simp <;> omega
/-- The number that digits spell. -/
def num (l : List UInt8) : Int := (Go.Lib.atoi l).getD 0

theorem decFrom_digits : ∀ (l : List UInt8) (acc : Nat), ∃ v, Go.Lib.decFrom acc (l.take (digits l)) = some v
  | [], acc => ⟨acc, rfl⟩
  | c :: t, acc => by
    unfold digits
    by_cases h : digit c = true
    · rw [if_pos h]
      simp only [List.take_succ_cons, Go.Lib.decFrom]
      have hd : Go.Lib.digitVal c = some (c.toNat - 48) := by
        unfold digit at h
        simp at h
        simp [Go.Lib.digitVal, h]
      rw [hd]
      exact decFrom_digits t _
    · rw [if_neg h]
      exact ⟨acc, by simp [Go.Lib.decFrom]⟩
/-- Digits, one at least, are a numeral. -/
theorem atoi_digits (l : List UInt8) (h : digits l ≠ 0) : Go.Lib.atoi (l.take (digits l)) = some (num (l.take (digits l))) := by
  have key : ∃ v, Go.Lib.atoi (l.take (digits l)) = some v := by
    cases l with
    | nil => simp [digits] at h
    | cons c t =>
      obtain ⟨v, hv⟩ := decFrom_digits (c :: t) 0
      unfold digits at h hv ⊢
      by_cases hc : digit c = true
      · rw [if_pos hc] at hv ⊢
        simp only [List.take_succ_cons] at hv ⊢
        unfold digit at hc
        simp at hc
        have h1 : (c == 45) = false := by
          rw [beq_eq_false_iff_ne]; rintro rfl; simp at hc
        have h2 : (c == 43) = false := by
          rw [beq_eq_false_iff_ne]; rintro rfl; simp at hc
        simp [Go.Lib.atoi, h1, h2, Go.Lib.decNat, hv]
      · rw [if_neg hc] at h; exact absurd rfl h
  obtain ⟨v, hv⟩ := key
  simp [num, hv]

/-- What stands behind a dollar and its tag: the piece, how many bytes from the dollar on (0: none), the error. -/
def dollar2 (tag : List UInt8) (off : Nat) (r : List UInt8) : Piece × Nat × Int :=
  if hasPrefix r [36] = true then (⟨2, [], 0, tag⟩, off + 1, 0)
  else if digits r = 0 then (nil, 0, 0)
  else if 3 < digits r then (nil, 0, 6)
  else (⟨3, [], num (r.take (digits r)), tag⟩, off + digits r, 0)
def dollar (r : List UInt8) : Piece × Nat × Int :=
  if hasPrefix r [60] = true then
    if isName ((r.drop 1).take (nameLen true (r.drop 1))) = true ∧ hasPrefix (r.drop (1 + nameLen true (r.drop 1))) [62] = true then
      dollar2 ((r.drop 1).take (nameLen true (r.drop 1))) (nameLen true (r.drop 1) + 3) (r.drop (nameLen true (r.drop 1) + 2))
    else (nil, 0, 0)
  else dollar2 [] 1 r

end Sp
end Go.Proofs.YticdgfljaphhgaaDoor
