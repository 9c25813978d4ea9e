/- Plain functions on lists of bytes: what the functions of layers 4 and 6 (bytes in quotes, words of a source) compute. No program in sight. -/
import Derived.Test.YticdgfljaphhgaaDoorSpI
namespace Go.Proofs.YticdgfljaphhgaaDoor
namespace Sp
open Go.Lib (index indexByte hasPrefix)

structure Word where
  kind : Int
  text : List UInt8
  at_ : Int
  deriving DecidableEq

/-- A letter that is no underscore. -/
def alpha (c : UInt8) : Bool := (decide (97 ≤ c.toNat) && decide (c.toNat ≤ 122)) || (decide (65 ≤ c.toNat) && decide (c.toNat ≤ 90))
theorem letter_alpha (c : UInt8) : letter c = (alpha c || ((c.toNat : Int) == 95)) := by
  unfold letter alpha
  rw [Bool.eq_iff_iff]; simp; omega
def alphas : List UInt8 → Nat
  | [] => 0
  | c :: t => if alpha c = true then alphas t + 1 else 0
theorem alphas_le : ∀ l : List UInt8, alphas l ≤ l.length
  | [] => Nat.le_refl _
  | c :: t => by
    unfold alphas
    have := alphas_le t
    split <;> simp <;> omega
def blank (c : UInt8) : Bool := ((c.toNat : Int) == 32) || ((c.toNat : Int) == 9) || ((c.toNat : Int) == 10) || ((c.toNat : Int) == 13)

/-- One step of what may stand between words; none: a remark that does not end. -/
def gap : List UInt8 → Option Nat
  | [] => some 0
  | c :: t => if blank c = true then some 1 else if ((c.toNat : Int) == 47) = true then passLen (c :: t) else some 0
theorem gap_le (l : List UInt8) (n : Nat) (h : gap l = some n) : n ≤ l.length := by
  cases l with
  | nil => simp [gap] at h; omega
  | cons c t =>
    have e : gap (c :: t) = if blank c = true then some 1 else if ((c.toNat : Int) == 47) = true then passLen (c :: t) else some 0 := rfl
    rw [e] at h
    by_cases h1 : blank c = true
    · rw [if_pos h1] at h; simp at h; simp; omega
    · rw [if_neg h1] at h
      by_cases h2 : ((c.toNat : Int) == 47) = true
      · rw [if_pos h2] at h; exact passLen_le _ _ h
      · rw [if_neg h2] at h; simp at h; omega
/-- What stands between words: how many bytes; false: a remark that does not end follows. -/
def skipGo : Nat → List UInt8 → Nat × Bool
  | 0, _ => (0, true)
  | f + 1, r => match gap r with
    | none => (0, false)
    | some 0 => (0, true)
    | some (n + 1) => ((n + 1) + (skipGo f (r.drop (n + 1))).1, (skipGo f (r.drop (n + 1))).2)
def skip (r : List UInt8) : Nat × Bool := skipGo (r.length + 1) r
theorem skipGo_fuel : ∀ (f g : Nat) (r : List UInt8), r.length < f → r.length < g → skipGo f r = skipGo g r
  | 0, _, _, h, _ => by omega
  | _ + 1, 0, _, _, h => by omega
  | f + 1, g + 1, r, hf, hg => by
    unfold skipGo
    cases hp : gap r with
    | none => rfl
    | some n =>
      cases n with
      | zero => rfl
      | succ n =>
        have := gap_le _ _ hp
        simp only
        rw [skipGo_fuel f g (r.drop (n + 1)) (by simp; omega) (by simp; omega)]
theorem skip_none {r : List UInt8} (h : gap r = none) : skip r = (0, false) := by unfold skip skipGo; rw [h]
theorem skip_zero {r : List UInt8} (h : gap r = some 0) : skip r = (0, true) := by unfold skip skipGo; rw [h]
theorem skip_succ {r : List UInt8} {n : Nat} (h : gap r = some (n + 1)) : skip r = ((n + 1) + (skip (r.drop (n + 1))).1, (skip (r.drop (n + 1))).2) := by
  have := gap_le _ _ h
  unfold skip
  rw [skipGo_fuel ((r.drop (n + 1)).length + 1) r.length _ (by omega) (by simp; omega)]
  conv => lhs; unfold skipGo
  rw [h]
theorem skip_nil : skip [] = (0, true) := rfl
theorem skip_le : ∀ (f : Nat) (r : List UInt8), r.length < f → (skip r).1 ≤ r.length
  | 0, _, h => by omega
  | f + 1, r, h => by
    cases hp : gap r with
    | none => rw [skip_none hp]; omega
    | some n =>
      cases n with
      | zero => rw [skip_zero hp]; omega
      | succ n =>
        have hl := gap_le _ _ hp
        have := skip_le f (r.drop (n + 1)) (by simp; omega)
        rw [skip_succ hp]
        simp at *; omega
theorem skip_len (r : List UInt8) : (skip r).1 ≤ r.length := skip_le _ r (Nat.lt_succ_self _)

/-! ### Bytes in quotes -/
def plainq (c : UInt8) : Bool := decide (32 ≤ c.toNat) && decide (c.toNat ≤ 126) && !((c.toNat : Int) == 39) && !((c.toNat : Int) == 92)
/-- The byte that a letter behind a backslash stands for. -/
def standOf (d : UInt8) : Option UInt8 := if d = 110 then some 10 else if d = 116 then some 9 else if d = 114 then some 13 else if d = 92 then some 92 else if d = 39 then some 39 else none
/-- The byte in quotes that a text begins with, and how many bytes it takes. -/
def charTake : List UInt8 → Option (UInt8 × Nat)
  | q :: c :: d :: t =>
    if q ≠ 39 then none
    else if plainq c = true ∧ d = 39 then some (c, 3)
    else if c = 92 ∧ t.head? = some 39 then (standOf d).map (·, 4)
    else none
  | _ => none
def quoteText (c : UInt8) : List UInt8 :=
  if c = 10 then [39, 92, 110, 39] else if c = 9 then [39, 92, 116, 39] else if c = 13 then [39, 92, 114, 39] else if c = 92 then [39, 92, 92, 39] else if c = 39 then [39, 92, 39, 39]
  else if plainq c = true then [39, c, 39] else []
theorem quoteText_cases (c : UInt8) : (∃ d, standOf d = some c ∧ quoteText c = [39, 92, d, 39]) ∨ (plainq c = true ∧ quoteText c = [39, c, 39]) ∨ quoteText c = [] := by
  unfold quoteText
  split
  · rename_i h; subst h; exact .inl ⟨110, by decide, rfl⟩
  split
  · rename_i h; subst h; exact .inl ⟨116, by decide, rfl⟩
  split
  · rename_i h; subst h; exact .inl ⟨114, by decide, rfl⟩
  split
  · rename_i h; subst h; exact .inl ⟨92, by decide, rfl⟩
  split
  · rename_i h; subst h; exact .inl ⟨39, by decide, rfl⟩
  split
  · rename_i h; exact .inr (.inl ⟨h, rfl⟩)
  · exact .inr (.inr rfl)
theorem quoteText_stand {c d : UInt8} (h : standOf d = some c) : quoteText c = [39, 92, d, 39] := by
  unfold standOf at h
  split at h
  · rename_i hd; subst hd; cases h; rfl
  split at h
  · rename_i hd; subst hd; cases h; rfl
  split at h
  · rename_i hd; subst hd; cases h; rfl
  split at h
  · rename_i hd; subst hd; cases h; rfl
  split at h
  · rename_i hd; subst hd; cases h; rfl
  · cases h
theorem quoteText_plain {c : UInt8} (h : plainq c = true) : quoteText c = [39, c, 39] := by
  unfold quoteText
  have h' := h
  unfold plainq at h
  simp at h
  rw [if_neg (by rintro rfl; simp at h), if_neg (by rintro rfl; simp at h), if_neg (by rintro rfl; simp at h), if_neg (by rintro rfl; simp at h), if_neg (by rintro rfl; simp at h), if_pos h']
theorem quoteText_len (c : UInt8) : (quoteText c).length ≤ 4 := by
  rcases quoteText_cases c with ⟨d, _, h⟩ | ⟨_, h⟩ | h <;> rw [h] <;> simp
theorem quoteText_range (c : UInt8) (h : quoteText c ≠ []) : 9 ≤ c.toNat ∧ c.toNat ≤ 126 := by
  unfold quoteText at h
  split at h
  · rename_i hc; subst hc; decide
  split at h
  · rename_i hc; subst hc; decide
  split at h
  · rename_i hc; subst hc; decide
  split at h
  · rename_i hc; subst hc; decide
  split at h
  · rename_i hc; subst hc; decide
  split at h
  · rename_i hc; unfold plainq at hc; simp at hc; omega
  · exact absurd rfl h
theorem charTake_three (q c d : UInt8) (t : List UInt8) : charTake (q :: c :: d :: t) = if q ≠ 39 then none
    else if plainq c = true ∧ d = 39 then some (c, 3)
    else if c = 92 ∧ t.head? = some 39 then (standOf d).map (·, 4)
    else none := rfl
theorem plainq_not92 : plainq 92 = false := by decide
theorem charTake_of (r : List UInt8) (c : UInt8) (h0 : quoteText c ≠ []) (h : hasPrefix r (quoteText c) = true) : charTake r = some (c, (quoteText c).length) := by
  rcases quoteText_cases c with ⟨d, hd, e⟩ | ⟨hp, e⟩ | e
  · rw [e] at h ⊢
    rcases r with _ | ⟨a, _ | ⟨b, _ | ⟨x, _ | ⟨y, t⟩⟩⟩⟩ <;> simp [hasPrefix, List.isPrefixOf] at h
    obtain ⟨rfl, rfl, rfl, rfl⟩ := h
    rw [charTake_three, if_neg (by simp), if_neg (by rw [plainq_not92]; simp), if_pos ⟨rfl, rfl⟩, hd]
    rfl
  · rw [e] at h ⊢
    rcases r with _ | ⟨a, _ | ⟨b, _ | ⟨x, t⟩⟩⟩ <;> simp [hasPrefix, List.isPrefixOf] at h
    obtain ⟨rfl, rfl, rfl⟩ := h
    rw [charTake_three, if_neg (by simp), if_pos ⟨hp, rfl⟩]
    rfl
  · exact absurd e h0
theorem charTake_some (r : List UInt8) (c : UInt8) (n : Nat) (h : charTake r = some (c, n)) : quoteText c ≠ [] ∧ hasPrefix r (quoteText c) = true ∧ n = (quoteText c).length := by
  unfold charTake at h
  split at h
  · rename_i q b d t
    split at h
    · cases h
    · rename_i hq
      have hq : q = 39 := Classical.not_not.1 hq
      subst hq
      split at h
      · rename_i hp
        obtain ⟨hp, rfl⟩ := hp
        cases h
        rw [quoteText_plain hp]
        exact ⟨by simp, by simp [hasPrefix, List.isPrefixOf], rfl⟩
      · split at h
        · rename_i hb
          obtain ⟨rfl, ht⟩ := hb
          obtain ⟨x, hx, hxe⟩ := Option.map_eq_some_iff.1 h
          cases hxe
          rw [quoteText_stand hx]
          cases t with
          | nil => simp at ht
          | cons y t =>
            simp at ht
            subst ht
            exact ⟨by simp, by simp [hasPrefix, List.isPrefixOf], rfl⟩
        · cases h
  · cases h
theorem charTake_le (r : List UInt8) (c : UInt8) (n : Nat) (h : charTake r = some (c, n)) : n ≤ r.length ∧ 0 < n := by
  obtain ⟨h0, h1, rfl⟩ := charTake_some r c n h
  refine ⟨?_, ?_⟩
  · have := List.IsPrefix.length_le (List.isPrefixOf_iff_prefix.1 h1)
    exact this
  · cases hq : quoteText c with
    | nil => exact absurd hq h0
    | cons => simp

/-! ### Words -/
def keys : List (List UInt8) := [[37, 116, 111, 107, 101, 110], [37, 108, 101, 102, 116], [37, 114, 105, 103, 104, 116], [37, 110, 111, 110, 97, 115, 115, 111, 99], [37, 116, 121, 112, 101], [37, 115, 116, 97, 114, 116], [37, 112, 114, 101, 99]]
/-- A word: its kind, its text, how many bytes; 0 bytes: there is none. -/
def noWord : Int × List UInt8 × Nat := (0, [], 0)
def percent (r : List UInt8) : Int × List UInt8 × Nat :=
  if hasPrefix r [37, 37] = true then (7, [37, 37], 2)
  else if hasPrefix r [37, 123] = true then match upto (r.drop 2) [37, 125] with
    | none => noWord
    | some k => (9, (r.drop 2).take (k - 2), k + 2)
  else if keys.contains (r.take (1 + alphas (r.drop 1))) = true then (5, r.take (1 + alphas (r.drop 1)), 1 + alphas (r.drop 1))
  else noWord
/-- May a number not end ahead of a text? -/
def stuck : List UInt8 → Bool
  | [] => false
  | c :: _ => letter c
def number (r : List UInt8) : Nat :=
  if 5 < digits r ∨ r.head? = some 48 ∨ stuck (r.drop (digits r)) = true then 0
  else if 50000 < num (r.take (digits r)) then 0 else digits r
def word : List UInt8 → Int × List UInt8 × Nat
  | [] => noWord
  | c :: t =>
    if letter c = true then if nameLen true (c :: t) ≤ 20 then (1, (c :: t).take (nameLen true (c :: t)), nameLen true (c :: t)) else noWord
    else if digit c = true then if 0 < number (c :: t) then (3, (c :: t).take (number (c :: t)), number (c :: t)) else noWord
    else if ((c.toNat : Int) == 39) = true then match charTake (c :: t) with
      | none => noWord
      | some (b, n) => (2, [b], n)
    else if ((c.toNat : Int) == 60) = true then
      if isName (t.take (nameLen true t)) = true ∧ hasPrefix (t.drop (nameLen true t)) [62] = true then (4, t.take (nameLen true t), nameLen true t + 2) else noWord
    else if ((c.toNat : Int) == 37) = true then percent (c :: t)
    else if ((c.toNat : Int) == 58) = true ∨ ((c.toNat : Int) == 59) = true ∨ ((c.toNat : Int) == 124) = true then (6, [c], 1)
    else if ((c.toNat : Int) == 123) = true then match endLen (c :: t) with
      | none => noWord
      | some n => (8, (c :: t).take n, n)
    else noWord

/-- Fuel, how many marks there were, where it stands, what is left: the words, or where none stands. -/
def wordsGo : Nat → Nat → Nat → List UInt8 → Except Nat (List Word)
  | 0, _, _, _ => .error 0
  | f + 1, marks, pos, r =>
    if (skip r).2 = true ∧ r.length = (skip r).1 then .ok [⟨10, [], (pos + (skip r).1 : Nat)⟩]
    else if (skip r).2 = false ∨ (word (r.drop (skip r).1)).2.2 = 0 then .error (pos + (skip r).1)
    else if (if (word (r.drop (skip r).1)).1 = 7 then marks + 1 else marks) = 2 then
      .ok [⟨10, (r.drop (skip r).1).drop (word (r.drop (skip r).1)).2.2, (pos + (skip r).1 + (word (r.drop (skip r).1)).2.2 : Nat)⟩]
    else (wordsGo f (if (word (r.drop (skip r).1)).1 = 7 then marks + 1 else marks) (pos + (skip r).1 + (word (r.drop (skip r).1)).2.2) ((r.drop (skip r).1).drop (word (r.drop (skip r).1)).2.2)).map
      (⟨(word (r.drop (skip r).1)).1, (word (r.drop (skip r).1)).2.1, (pos + (skip r).1 : Nat)⟩ :: ·)
/-- The words, the error, its place. -/
def wordsRes : Except Nat (List Word) → List Word × Int × Nat
  | .error p => ([], 2, p)
  | .ok ws => (ws, 0, 0)
def words (l : List UInt8) : List Word × Int × Nat := if 4000 < l.length then ([], 4, 0) else wordsRes (wordsGo (l.length + 1) 0 0 l)

end Sp
end Go.Proofs.YticdgfljaphhgaaDoor
