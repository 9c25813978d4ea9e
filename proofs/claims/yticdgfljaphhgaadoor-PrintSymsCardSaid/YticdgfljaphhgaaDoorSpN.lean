/- Plain laws: runs of bytes; the byte in quotes by its table. No program in sight. -/
import Derived.Test.YticdgfljaphhgaaDoorSpM
namespace Go.Proofs.YticdgfljaphhgaaDoor
namespace Sp
open Go.Lib (index indexByte hasPrefix)

/-- How many bytes are so, from the beginning on. -/
def span (p : UInt8 → Bool) : List UInt8 → Nat
  | [] => 0
  | c :: t => if p c = true then span p t + 1 else 0
theorem span_le (p : UInt8 → Bool) : ∀ l : List UInt8, span p l ≤ l.length
  | [] => Nat.le_refl _
  | c :: t => by
    unfold span
    have := span_le p t
    split <;> simp <;> omega
theorem digits_span : ∀ l : List UInt8, digits l = span digit l
  | [] => rfl
  | c :: t => by unfold digits span; rw [digits_span t]
theorem alphas_span : ∀ l : List UInt8, alphas l = span alpha l
  | [] => rfl
  | c :: t => by unfold alphas span; rw [alphas_span t]
theorem line_span : ∀ l : List UInt8, line l = span (fun c => (c.toNat : Int) != 10) l
  | [] => rfl
  | c :: t => by
    have e : span (fun c => (c.toNat : Int) != 10) (c :: t) = if ((c.toNat : Int) != 10) = true then span (fun c => (c.toNat : Int) != 10) t + 1 else 0 := rfl
    rw [e, line_cons, line_span t]
    unfold bne
    cases ((c.toNat : Int) == 10) <;> simp

/-! ### The letters behind a backslash -/
def letters : List UInt8 := [110, 116, 114, 92, 39]
def stands : List UInt8 := [10, 9, 13, 92, 39]
theorem letters_at (d : UInt8) : (standOf d = none ∧ indexByte letters d = -1) ∨ ∃ k : Nat, k < 5 ∧ indexByte letters d = k ∧ standOf d = stands[k]? := by
  unfold standOf
  split
  · rename_i h; subst h; exact .inr ⟨0, by decide, by decide, by decide⟩
  split
  · rename_i h; subst h; exact .inr ⟨1, by decide, by decide, by decide⟩
  split
  · rename_i h; subst h; exact .inr ⟨2, by decide, by decide, by decide⟩
  split
  · rename_i h; subst h; exact .inr ⟨3, by decide, by decide, by decide⟩
  split
  · rename_i h; subst h; exact .inr ⟨4, by decide, by decide, by decide⟩
  · rename_i h1 h2 h3 h4 h5
    left
    refine ⟨rfl, ?_⟩
    have key : ∀ x : UInt8, ¬ d = x → ¬ ((x.toNat : Int) == (d.toNat : Int)) = true := by
      intro x hx h
      apply hx
      have : (x.toNat : Int) = d.toNat := by simpa using h
      exact (UInt8.toNat_inj.1 (by omega)).symm
    unfold letters
    rw [indexByte_cons, if_neg (key _ h1), indexByte_cons, if_neg (key _ h2), indexByte_cons, if_neg (key _ h3), indexByte_cons, if_neg (key _ h4), indexByte_cons, if_neg (key _ h5)]
    simp [indexByte]
/-- The byte, the place behind, whether there is one. -/
def takeRes (p : Nat) : Option (UInt8 × Nat) → Int × Int × Bool
  | none => (0, 0, false)
  | some (c, n) => ((c.toNat : Int), ((p + n : Nat) : Int), true)
theorem charTake_short (r : List UInt8) (h : r.length < 3) : charTake r = none := by
  rcases r with _ | ⟨a, _ | ⟨b, _ | ⟨c, t⟩⟩⟩
  · rfl
  · rfl
  · rfl
  · simp at h
    omega
theorem charTake_q (c d : UInt8) (t : List UInt8) : charTake (39 :: c :: d :: t) =
    if plainq c = true ∧ d = 39 then some (c, 3)
    else if c = 92 ∧ t.head? = some 39 then (standOf d).map (·, 4)
    else none := by rw [charTake_three, if_neg (by simp)]
theorem byte_eq (d x : UInt8) : d = x ↔ ((d.toNat : Int) == (x.toNat : Int)) = true := by
  constructor
  · rintro rfl; simp
  · intro h
    have : (d.toNat : Int) = x.toNat := by simpa using h
    exact UInt8.toNat_inj.1 (by omega)
theorem charTake_b (c d : UInt8) (t : List UInt8) : charTake (39 :: c :: d :: t) =
    if plainq c = true ∧ ((d.toNat : Int) == 39) = true then some (c, 3)
    else if ((c.toNat : Int) != 92) = false ∧ t.head? = some 39 then (standOf d).map (·, 4)
    else none := by
  have e1 : d = 39 ↔ ((d.toNat : Int) == 39) = true := byte_eq d 39
  have e2 : c = 92 ↔ ((c.toNat : Int) != 92) = false := by
    rw [bne, Bool.not_eq_false']
    exact byte_eq c 92
  rw [charTake_q]
  simp only [e1, e2]
end Sp
end Go.Proofs.YticdgfljaphhgaaDoor
