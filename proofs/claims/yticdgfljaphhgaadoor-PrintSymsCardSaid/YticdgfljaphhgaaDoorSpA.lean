/- Plain functions on lists of bytes: what the functions of layer 5 (texts of actions) compute. No program in sight. -/
import Derived.Lib.Index
import Derived.Lib.IndexMore
import Derived.Lib.Bytealg
import Derived.Lib.Strings
namespace Go.Proofs.YticdgfljaphhgaaDoor
namespace Sp
open Go.Lib (index indexByte hasPrefix)

def digit (c : UInt8) : Bool := decide (48 ≤ c.toNat) && decide (c.toNat ≤ 57)
def letter (c : UInt8) : Bool := (decide (97 ≤ c.toNat) && decide (c.toNat ≤ 122)) || (decide (65 ≤ c.toNat) && decide (c.toNat ≤ 90)) || decide (c.toNat = 95)

/-- How many bytes a name takes; the Bool: at its first byte. -/
def nameLen : Bool → List UInt8 → Nat
  | _, [] => 0
  | fst, c :: t => if letter c || (!fst && (digit c || (c.toNat : Int) == 46)) then nameLen false t + 1 else 0

theorem nameLen_le : ∀ (b : Bool) (l : List UInt8), nameLen b l ≤ l.length
  | _, [] => Nat.le_refl _
  | b, c :: t => by
    unfold nameLen
    split
    · have := nameLen_le false t
      simp; omega
    · omega

def isName (l : List UInt8) : Bool := !l.isEmpty && decide (l.length ≤ 20) && decide (nameLen true l = l.length)

/-- Where p bytes ahead and n behind come to; -1 for none. -/
def place (p : Nat) : Option Nat → Int
  | none => -1
  | some n => ((p + n : Nat) : Int)
theorem place_map (p k : Nat) (o : Option Nat) : place p (o.map (· + k)) = place (p + k) o := by
  cases o with
  | none => rfl
  | some n => simp [place]; omega

/-- What stands in quotes, behind the quote q: how many bytes up to the closing one and with it. -/
def quoteEnd (q : UInt8) : List UInt8 → Option Nat
  | [] => none
  | c :: t =>
    if ((c.toNat : Int) == 92) = true then
      match t with
      | [] => none
      | d :: t' => if ((d.toNat : Int) == 10) = true then none else (quoteEnd q t').map (· + 2)
    else if ((c.toNat : Int) == (q.toNat : Int)) = true then some 1
    else if ((c.toNat : Int) == 10) = true then none
    else (quoteEnd q t).map (· + 1)

/-- How many bytes up to a text and with it. -/
def upto (r e : List UInt8) : Option Nat := if 0 ≤ index r e then some ((index r e).toNat + e.length) else none

theorem index_cons (b : UInt8) (l sub : List UInt8) : index (b :: l) sub = if sub.isPrefixOf (b :: l) = true then 0 else if index l sub = -1 then -1 else index l sub + 1 := by
  simp [index]
theorem upto_nil (d : UInt8) (e : List UInt8) : upto [] (d :: e) = none := by simp [upto, index]
theorem upto_cons (c d : UInt8) (t e : List UInt8) : upto (c :: t) (d :: e) = if hasPrefix (c :: t) (d :: e) = true then some (e.length + 1) else (upto t (d :: e)).map (· + 1) := by
  unfold upto hasPrefix
  rw [index_cons]
  have := Go.Lib.index_ge t (d :: e)
  by_cases h : (d :: e).isPrefixOf (c :: t) = true
  · simp [h]
  · rw [if_neg h, if_neg h]
    by_cases h2 : index t (d :: e) = -1
    · simp [h2]
    · rw [if_neg h2, if_pos (by omega), if_pos (by omega)]
      simp; omega
theorem hasPrefix_one (c d : UInt8) (t : List UInt8) : hasPrefix (c :: t) [d] = ((c.toNat : Int) == (d.toNat : Int)) := by
  rw [Bool.eq_iff_iff]; simp [hasPrefix]
  constructor
  · rintro rfl; rfl
  · intro h; exact (UInt8.toNat_inj.1 (by omega)).symm
theorem indexByte_cons (c d : UInt8) (t : List UInt8) : indexByte (c :: t) d = if ((c.toNat : Int) == (d.toNat : Int)) = true then 0 else if indexByte t d = -1 then -1 else indexByte t d + 1 := by
  have e : (c == d) = ((c.toNat : Int) == (d.toNat : Int)) := by
    rw [Bool.eq_iff_iff]; simp; constructor
    · rintro rfl; rfl
    · exact fun h => UInt8.toNat_inj.1 (by omega)
  rw [← e]; simp [indexByte]
theorem indexByte_le (l : List UInt8) (c : UInt8) : indexByte l c < l.length ∨ indexByte l c = -1 := by
  induction l with
  | nil => right; rfl
  | cons b l ih =>
    rw [indexByte_cons]
    have := Go.Lib.indexByte_ge l c
    split
    · left; simp only [List.length_cons]; omega
    · split
      · right; rfl
      · left; simp only [List.length_cons]; omega
/-- How many bytes up to a line's end, or all. -/
def line (r : List UInt8) : Nat := if 0 ≤ indexByte r 10 then (indexByte r 10).toNat else r.length
theorem line_nil : line [] = 0 := rfl
theorem line_cons (c : UInt8) (t : List UInt8) : line (c :: t) = if ((c.toNat : Int) == 10) = true then 0 else line t + 1 := by
  unfold line
  rw [indexByte_cons]
  have := Go.Lib.indexByte_ge t 10
  by_cases h : ((c.toNat : Int) == 10) = true
  · simp_all
  · have h' : ¬ ((c.toNat : Int) == ((10 : UInt8).toNat : Int)) = true := h
    rw [if_neg h, if_neg h']
    by_cases h2 : indexByte t 10 = -1
    · simp [h2]
    · rw [if_neg h2, if_pos (by omega), if_pos (by omega)]
      omega

/-- What is passed over as a whole. -/
def passLen : List UInt8 → Option Nat
  | [] => some 0
  | c :: t =>
    if ((c.toNat : Int) == 34) = true ∨ ((c.toNat : Int) == 39) = true then (quoteEnd c t).map (· + 1)
    else if ((c.toNat : Int) == 96) = true then (upto t [96]).map (· + 1)
    else if hasPrefix (c :: t) [47, 42] = true then (upto (t.drop 1) [42, 47]).map (· + 2)
    else if hasPrefix (c :: t) [47, 47] = true then some (line (c :: t))
    else some 0

theorem passLen_cons (c : UInt8) (t : List UInt8) : passLen (c :: t) =
    if ((c.toNat : Int) == 34) = true ∨ ((c.toNat : Int) == 39) = true then (quoteEnd c t).map (· + 1)
    else if ((c.toNat : Int) == 96) = true then (upto t [96]).map (· + 1)
    else if hasPrefix (c :: t) [47, 42] = true then (upto (t.drop 1) [42, 47]).map (· + 2)
    else if hasPrefix (c :: t) [47, 47] = true then some (line (c :: t))
    else some 0 := rfl
theorem slash_not_star {l : List UInt8} (h : hasPrefix l [47, 47] = true) : ¬ hasPrefix l [47, 42] = true := by
  revert h
  rcases l with _ | ⟨a, _ | ⟨b, l⟩⟩ <;> simp [hasPrefix]
  intro _ hb _ hc
  rw [← hb] at hc
  exact absurd hc (by decide)

theorem quoteEnd_le (q : UInt8) : ∀ (l : List UInt8) (n : Nat), quoteEnd q l = some n → n ≤ l.length
  | [], n, h => by simp [quoteEnd] at h
  | [c], n, h => by
    unfold quoteEnd at h
    split at h
    · simp at h
    · split at h
      · simp at h; simp; omega
      · split at h
        · simp at h
        · simp [quoteEnd] at h
  | c :: d :: t, n, h => by
    unfold quoteEnd at h
    have ih1 := quoteEnd_le q t
    have ih2 := quoteEnd_le q (d :: t)
    split at h
    · simp only at h
      split at h
      · simp at h
      · obtain ⟨m, hm, rfl⟩ := Option.map_eq_some_iff.1 h
        have := ih1 m hm
        simp; omega
    · split at h
      · simp at h; simp; omega
      · split at h
        · simp at h
        · obtain ⟨m, hm, rfl⟩ := Option.map_eq_some_iff.1 h
          have := ih2 m hm
          simp at *; omega
theorem upto_le (l e : List UInt8) (n : Nat) (h : upto l e = some n) : n ≤ l.length := by
  unfold upto at h
  have := Go.Lib.index_room l e
  split at h
  · simp at h; omega
  · simp at h
theorem line_le (l : List UInt8) : line l ≤ l.length := by
  unfold line
  have := indexByte_le l 10
  split <;> omega
theorem passLen_le (l : List UInt8) (n : Nat) (h : passLen l = some n) : n ≤ l.length := by
  cases l with
  | nil => simp [passLen] at h; omega
  | cons c t =>
    rw [passLen_cons] at h
    split at h
    · obtain ⟨m, hm, rfl⟩ := Option.map_eq_some_iff.1 h
      have := quoteEnd_le c t m hm
      simp; omega
    · split at h
      · obtain ⟨m, hm, rfl⟩ := Option.map_eq_some_iff.1 h
        have := upto_le t _ m hm
        simp; omega
      · split at h
        · rename_i hp
          obtain ⟨m, hm, rfl⟩ := Option.map_eq_some_iff.1 h
          have := upto_le (t.drop 1) _ m hm
          cases t with
          | nil => simp [hasPrefix] at hp
          | cons => simp at *; omega
        · split at h
          · have := line_le (c :: t)
            simp only [Option.some.injEq] at h; omega
          · simp at h; omega

/-- Where an action's text ends: fuel, how deep, what is left. -/
def endGo : Nat → Int → List UInt8 → Option Nat
  | 0, _, _ => none
  | _, _, [] => none
  | f + 1, d, c :: t =>
    match passLen (c :: t) with
    | none => none
    | some (n + 1) => (endGo f d ((c :: t).drop (n + 1))).map (· + (n + 1))
    | some 0 =>
      if ((if ((c.toNat : Int) == 123) = true then d + 1 else if ((c.toNat : Int) == 125) = true then d - 1 else d) == 0) = true then some 1
      else (endGo f (if ((c.toNat : Int) == 123) = true then d + 1 else if ((c.toNat : Int) == 125) = true then d - 1 else d) t).map (· + 1)
def endLen (r : List UInt8) : Option Nat := match r with
  | [] => none
  | c :: _ => if ((c.toNat : Int) == 123) = true then endGo (r.length + 1) 0 r else none

/-- Where an action's text ends that begins at a place; -1: it does not. -/
def endAt (l : List UInt8) (a : Int) : Int := if 0 ≤ a ∧ a < l.length then place a.toNat (endLen (l.drop a.toNat)) else -1

end Sp
end Go.Proofs.YticdgfljaphhgaaDoor
