/- Plain laws: within quotes and remarks nothing is looked at. No program in sight. Plain laws: what is passed over does not hang on what follows. No program in sight. Plain laws: the form of a dollar's piece, and its text. No program in sight. Plain laws: the form of a dollar's piece, and where it is the same. No program in sight. Plain functions on lists of bytes: what the functions of layers 4 and 6 (bytes in quotes, words of a source) compute. No program in sight. Plain laws: words stand whatever follows them, if it does not go on with them. No program in sight. Plain laws: runs of bytes; the byte in quotes by its table. No program in sight. Slices of structs, as they are read; the walk of EqPieces. An argument that is a slice of pieces, opened to the cells that the walks read. -/
import Derived.Test.YtphdfbmmjkccgaaDoorZ00
import Derived.Laws.StructEq
import Derived.Deep.Slices
import Derived.Deep.Fields
import Derived.ChangeSame
namespace Go.Proofs.YtphdfbmmjkccgaaDoor
namespace Sp
open Go.Lib (index indexByte hasPrefix)

def ahead : Nat → List UInt8
  | 0 => [34] | 1 => [39] | 2 => [96] | 3 => [47, 47] | _ => [47, 42]
def behind : Nat → List UInt8
  | 0 => [34] | 1 => [39] | 2 => [96] | 3 => [10] | _ => [42, 47]

theorem endGo_pass {f n : Nat} {d : Int} {P R : List UInt8} (hP : P.length = n + 1) (hp : passLen (P ++ R) = some (n + 1)) : endGo (f + 1) d (P ++ R) = (endGo f d R).map (· + (n + 1)) := by
  cases P with
  | nil => simp at hP
  | cons c t =>
    show endGo (f + 1) d (c :: (t ++ R)) = _
    conv => lhs; unfold endGo
    rw [show c :: (t ++ R) = (c :: t) ++ R from rfl, hp]
    simp only
    rw [List.drop_left' hP]
end Sp
end Go.Proofs.YtphdfbmmjkccgaaDoor

namespace Go.Proofs.YtphdfbmmjkccgaaDoor
namespace Sp
open Go.Lib (index indexByte hasPrefix)

theorem quoteEnd_pos (q : UInt8) (l : List UInt8) : quoteEnd q l ≠ some 0 := by
  cases l with
  | nil => simp [quoteEnd]
  | cons c t =>
    unfold quoteEnd
    split
    · cases t with
      | nil => simp
      | cons d t' => simp only; split <;> simp
    · split
      · simp
      · split <;> simp
theorem quoteEnd_stable (q : UInt8) (R R' : List UInt8) : ∀ (n : Nat) (X : List UInt8), X.length ≤ n → quoteEnd q (X ++ R) = some X.length → quoteEnd q (X ++ R') = some X.length
  | _, [], _, h => absurd h (quoteEnd_pos q R)
  | 0, _ :: _, hn, _ => by simp at hn
  | n + 1, c :: t, hn, h => by
    simp only [List.cons_append, List.length_cons] at h hn ⊢
    unfold quoteEnd at h ⊢
    by_cases h92 : ((c.toNat : Int) == 92) = true
    · rw [if_pos h92] at h ⊢
      cases t with
      | nil =>
        exfalso
        cases R with
        | nil => simp at h
        | cons d u =>
          simp only [List.nil_append] at h
          split at h
          · simp at h
          · obtain ⟨m, _, hm⟩ := Option.map_eq_some_iff.1 h
            simp at hm
      | cons d u =>
        simp only [List.cons_append] at h ⊢
        split at h
        · simp at h
        · rename_i h10
          rw [if_neg h10]
          obtain ⟨m, hm, he⟩ := Option.map_eq_some_iff.1 h
          simp only [List.length_cons] at he hn ⊢
          obtain rfl : m = u.length := by omega
          rw [quoteEnd_stable q R R' n u (by omega) hm]
          rfl
    · rw [if_neg h92] at h ⊢
      by_cases hq : ((c.toNat : Int) == (q.toNat : Int)) = true
      · rw [if_pos hq] at h ⊢
        exact h
      · rw [if_neg hq] at h ⊢
        split at h
        · simp at h
        · rename_i h10
          rw [if_neg h10]
          obtain ⟨m, hm, he⟩ := Option.map_eq_some_iff.1 h
          obtain rfl : m = t.length := by omega
          rw [quoteEnd_stable q R R' n t (by omega) hm]
          rfl
theorem upto_ge (l e : List UInt8) (n : Nat) (h : upto l e = some n) : e.length ≤ n := by
  unfold upto at h
  split at h
  · simp at h; omega
  · simp at h
theorem upto_stable1 (d : UInt8) (R R' : List UInt8) : ∀ X : List UInt8, upto (X ++ R) [d] = some X.length → upto (X ++ R') [d] = some X.length
  | [], h => by have := upto_ge _ _ _ h; simp at this
  | c :: t, h => by
    simp only [List.cons_append, List.length_cons] at h ⊢
    rw [upto_cons, hasPrefix_one] at h ⊢
    split at h
    · rename_i hc
      rw [if_pos hc]; exact h
    · rename_i hc
      rw [if_neg hc]
      obtain ⟨m, hm, he⟩ := Option.map_eq_some_iff.1 h
      obtain rfl : m = t.length := by omega
      rw [upto_stable1 d R R' t hm]
      rfl
theorem hasPrefix_two (a b c d : UInt8) (t : List UInt8) : hasPrefix (a :: b :: t) [c, d] = (c == a && d == b) := by simp [hasPrefix, List.isPrefixOf]
theorem upto_stable2 (d e : UInt8) (R R' : List UInt8) : ∀ X : List UInt8, upto (X ++ R) [d, e] = some X.length → upto (X ++ R') [d, e] = some X.length
  | [], h => by have := upto_ge _ _ _ h; simp at this
  | [c], h => by have := upto_ge _ _ _ h; simp at this
  | c :: b :: t, h => by
    simp only [List.cons_append, List.length_cons] at h ⊢
    rw [upto_cons, hasPrefix_two] at h ⊢
    split at h
    · rename_i hc
      rw [if_pos hc]; exact h
    · rename_i hc
      rw [if_neg hc]
      obtain ⟨m, hm, he⟩ := Option.map_eq_some_iff.1 h
      obtain rfl : m = (b :: t).length := by simp only [List.length_cons]; omega
      have := upto_stable2 d e R R' (b :: t) hm
      simp only [List.cons_append] at this
      rw [this]
      rfl
theorem line_stable (R R' : List UInt8) (hh : R.head? = R'.head?) : ∀ X : List UInt8, line (X ++ R) = X.length → line (X ++ R') = X.length := by
  have key : ∀ l : List UInt8, (line l = 0 ↔ l = [] ∨ l.head? = some 10) ∧ ∀ c t, l = c :: t → c ≠ 10 → line l = line t + 1 := by
    intro l
    cases l with
    | nil => exact ⟨by simp [line, indexByte], fun _ _ h => by cases h⟩
    | cons c t =>
      have hi := Go.Lib.indexByte_ge t 10
      have hcc : ((c.toNat : Int) == ((10 : UInt8).toNat : Int)) = true ↔ c = 10 := by
        constructor
        · intro h
          have : (c.toNat : Int) = 10 := by simpa using h
          exact UInt8.toNat_inj.1 (by show c.toNat = 10; omega)
        · rintro rfl; decide
      have step : c ≠ 10 → line (c :: t) = line t + 1 := by
        intro hc
        unfold line
        rw [indexByte_cons, if_neg (fun h => hc (hcc.1 h))]
        by_cases h1 : indexByte t 10 = -1
        · rw [if_pos h1, if_neg (by omega), if_neg (by omega)]; simp
        · rw [if_neg h1, if_pos (by omega), if_pos (by omega)]; omega
      refine ⟨?_, fun c' t' h hc => by cases h; exact step hc⟩
      by_cases hc : c = 10
      · subst hc
        simp only [List.head?_cons, or_true, iff_true]
        have h0 : indexByte (10 :: t) 10 = 0 := by rw [indexByte_cons, if_pos (by decide)]
        unfold line
        rw [h0]
        rfl
      · rw [step hc]
        simp [hc]
  intro X
  induction X with
  | nil =>
    intro h
    simp only [List.nil_append, List.length_nil] at h ⊢
    rw [(key R).1] at h
    rw [(key R').1]
    rcases h with h | h
    · subst h
      left
      cases R' with
      | nil => rfl
      | cons => simp at hh
    · right; rw [← hh]; exact h
  | cons c t ih =>
    intro h
    simp only [List.cons_append, List.length_cons] at h ⊢
    by_cases hc : c = 10
    · have := (key (c :: (t ++ R))).1.2 (.inr (by rw [hc]; rfl))
      omega
    · rw [(key _).2 c _ rfl hc] at h ⊢
      rw [ih (by omega)]

theorem line_slash (t : List UInt8) : line (47 :: t) = line t + 1 := by
  have hi : indexByte (47 :: t) 10 = if indexByte t 10 = -1 then -1 else indexByte t 10 + 1 := by rw [indexByte_cons, if_neg (by decide)]
  have := Go.Lib.indexByte_ge t 10
  unfold line
  rw [hi]
  by_cases h1 : indexByte t 10 = -1
  · rw [if_pos h1, if_neg (by omega), if_neg (by omega)]; simp
  · rw [if_neg h1, if_pos (by omega), if_pos (by omega)]; omega
/-- What is passed over is passed over whatever follows, but for a newline. -/
theorem passLen_stableL (R R' X : List UInt8) (hl : line (X ++ R) = X.length → line (X ++ R') = X.length) (hX : X ≠ []) (h : passLen (X ++ R) = some X.length) : passLen (X ++ R') = some X.length := by
  cases X with
  | nil => exact absurd rfl hX
  | cons c t =>
    simp only [List.cons_append, List.length_cons] at h ⊢
    rw [passLen_cons] at h ⊢
    split at h
    · rename_i hc
      rw [if_pos hc]
      obtain ⟨m, hm, he⟩ := Option.map_eq_some_iff.1 h
      obtain rfl : m = t.length := by omega
      rw [quoteEnd_stable c R R' t.length t (Nat.le_refl _) hm]
      rfl
    · rename_i hc
      rw [if_neg hc]
      split at h
      · rename_i hc2
        rw [if_pos hc2]
        obtain ⟨m, hm, he⟩ := Option.map_eq_some_iff.1 h
        obtain rfl : m = t.length := by omega
        rw [upto_stable1 96 R R' t hm]
        rfl
      · rename_i hc2
        rw [if_neg hc2]
        cases t with
        | nil =>
          exfalso
          simp only [List.nil_append, List.length_nil] at h
          split at h
          · obtain ⟨m, hm, he⟩ := Option.map_eq_some_iff.1 h
            omega
          · split at h
            · rename_i hs
              cases R with
              | nil => simp [hasPrefix, List.isPrefixOf] at hs
              | cons b u =>
                rw [hasPrefix_two] at hs
                simp at hs
                obtain ⟨rfl, rfl⟩ := hs
                have h1 := line_slash (47 :: u)
                have h2 := line_slash u
                simp only [Option.some.injEq] at h
                omega
            · simp at h
        | cons b u =>
          simp only [List.cons_append, List.length_cons] at h ⊢
          rw [hasPrefix_two] at h ⊢
          rw [hasPrefix_two] at h ⊢
          split at h
          · rename_i hp
            rw [if_pos hp]
            simp only [List.drop_succ_cons, List.drop_zero] at h ⊢
            obtain ⟨m, hm, he⟩ := Option.map_eq_some_iff.1 h
            obtain rfl : m = u.length := by omega
            rw [upto_stable2 42 47 R R' u hm]
            rfl
          · rename_i hp
            rw [if_neg hp]
            split at h
            · rename_i hp2
              rw [if_pos hp2]
              simp only [Option.some.injEq] at h ⊢
              exact hl h
            · simp at h
theorem passLen_stable (R R' X : List UInt8) (hh : R.head? = R'.head?) (hX : X ≠ []) (h : passLen (X ++ R) = some X.length) : passLen (X ++ R') = some X.length :=
  passLen_stableL R R' X (line_stable R R' hh X) hX h
/-- Where nothing is passed over hangs on two bytes. -/
theorem passLen_zero (c : UInt8) (t t' : List UInt8) (hh : t.head? = t'.head?) (h : passLen (c :: t) = some 0) : passLen (c :: t') = some 0 := by
  rw [passLen_cons] at h ⊢
  split at h
  · obtain ⟨m, hm, he⟩ := Option.map_eq_some_iff.1 h
    omega
  · rename_i hc
    rw [if_neg hc]
    split at h
    · obtain ⟨m, hm, he⟩ := Option.map_eq_some_iff.1 h
      omega
    · rename_i hc2
      rw [if_neg hc2]
      have e : ∀ d, hasPrefix (c :: t) [47, d] = hasPrefix (c :: t') [47, d] := by
        intro d
        cases t with
        | nil =>
          cases t' with
          | nil => rfl
          | cons => simp at hh
        | cons b u =>
          cases t' with
          | nil => simp at hh
          | cons b' u' =>
            simp only [List.head?_cons, Option.some.injEq] at hh
            subst hh
            rw [hasPrefix_two, hasPrefix_two]
      rw [e, e] at h
      split at h
      · obtain ⟨m, hm, he⟩ := Option.map_eq_some_iff.1 h
        omega
      · rename_i h1
        rw [if_neg h1]
        split at h
        · rename_i h2
          exfalso
          rw [← e] at h2
          have hc47 : c = 47 := by
            cases t with
            | nil => simp [hasPrefix, List.isPrefixOf] at h2
            | cons b u => rw [hasPrefix_two] at h2; simp at h2; exact h2.1.symm
          subst hc47
          simp only [Option.some.injEq] at h
          have h1 := line_slash t
          omega
        · rename_i h2
          rw [if_neg h2]
end Sp
end Go.Proofs.YtphdfbmmjkccgaaDoor

namespace Go.Proofs.YtphdfbmmjkccgaaDoor
namespace Sp
open Go.Lib (index indexByte hasPrefix decDigits decFrom digitVal)

/-! ### Fuel -/
theorem endGo_zero {f : Nat} {d : Int} {c : UInt8} {t : List UInt8} (hp : passLen (c :: t) = some 0) : endGo (f + 1) d (c :: t) =
    if ((if ((c.toNat : Int) == 123) = true then d + 1 else if ((c.toNat : Int) == 125) = true then d - 1 else d) == 0) = true then some 1
      else (endGo f (if ((c.toNat : Int) == 123) = true then d + 1 else if ((c.toNat : Int) == 125) = true then d - 1 else d) t).map (· + 1) := by
  conv => lhs; unfold endGo
  rw [hp]
/-! ### Numerals -/
end Sp
end Go.Proofs.YtphdfbmmjkccgaaDoor

namespace Go.Proofs.YtphdfbmmjkccgaaDoor
namespace Sp
open Go.Lib (index indexByte hasPrefix decDigits decFrom digitVal)

/-! ### Alike up to the first dollar -/
def Lk (r r' : List UInt8) : Prop := ∃ x, (36 : UInt8) ∉ x ∧ ((r = x ∧ r' = x) ∨ ∃ a b, r = x ++ 36 :: a ∧ r' = x ++ 36 :: b)
theorem Lk.head {r r' : List UInt8} (h : Lk r r') : r.head? = r'.head? := by
  obtain ⟨x, _, ⟨rfl, rfl⟩ | ⟨a, b, rfl, rfl⟩⟩ := h
  · rfl
  · cases x <;> rfl
theorem Lk.dollar (a b : List UInt8) : Lk (36 :: a) (36 :: b) := ⟨[], by simp, .inr ⟨a, b, rfl, rfl⟩⟩
theorem Lk.cons {r r' : List UInt8} (h : Lk r r') (c : UInt8) : Lk (c :: r) (c :: r') := by
  by_cases hc : c = 36
  · subst hc; exact Lk.dollar _ _
  · obtain ⟨x, hx, h⟩ := h
    refine ⟨c :: x, by simp only [List.mem_cons, not_or]; exact ⟨fun e => hc e.symm, hx⟩, ?_⟩
    rcases h with ⟨rfl, rfl⟩ | ⟨a, b, rfl, rfl⟩
    · exact .inl ⟨rfl, rfl⟩
    · exact .inr ⟨a, b, rfl, rfl⟩
end Sp
end Go.Proofs.YtphdfbmmjkccgaaDoor

namespace Go.Proofs.YtphdfbmmjkccgaaDoor
namespace Sp
open Go.Lib (index indexByte hasPrefix)

structure Word where
  kind : Int
  text : List UInt8
  at_ : Int
  deriving DecidableEq

/-- A letter that is no underscore. -/
def alpha (c : UInt8) : Bool := (decide (97 ≤ c.toNat) && decide (c.toNat ≤ 122)) || (decide (65 ≤ c.toNat) && decide (c.toNat ≤ 90))
theorem letter_alpha (c : UInt8) : letter c = (alpha c || ((c.toNat : Int) == 95)) := by
  unfold letter alpha
  rw [Bool.eq_iff_iff]; simp; omega
def alphas : List UInt8 → Nat
  | [] => 0
  | c :: t => if alpha c = true then alphas t + 1 else 0
theorem alphas_le : ∀ l : List UInt8, alphas l ≤ l.length
  | [] => Nat.le_refl _
  | c :: t => by
    unfold alphas
    have := alphas_le t
    split <;> simp <;> omega
def blank (c : UInt8) : Bool := ((c.toNat : Int) == 32) || ((c.toNat : Int) == 9) || ((c.toNat : Int) == 10) || ((c.toNat : Int) == 13)

/-- One step of what may stand between words; none: a remark that does not end. -/
def gap : List UInt8 → Option Nat
  | [] => some 0
  | c :: t => if blank c = true then some 1 else if ((c.toNat : Int) == 47) = true then passLen (c :: t) else some 0
theorem gap_le (l : List UInt8) (n : Nat) (h : gap l = some n) : n ≤ l.length := by
  cases l with
  | nil => simp [gap] at h; omega
  | cons c t =>
    have e : gap (c :: t) = if blank c = true then some 1 else if ((c.toNat : Int) == 47) = true then passLen (c :: t) else some 0 := rfl
    rw [e] at h
    by_cases h1 : blank c = true
    · rw [if_pos h1] at h; simp at h; simp; omega
    · rw [if_neg h1] at h
      by_cases h2 : ((c.toNat : Int) == 47) = true
      · rw [if_pos h2] at h; exact passLen_le _ _ h
      · rw [if_neg h2] at h; simp at h; omega
/-- What stands between words: how many bytes; false: a remark that does not end follows. -/
def skipGo : Nat → List UInt8 → Nat × Bool
  | 0, _ => (0, true)
  | f + 1, r => match gap r with
    | none => (0, false)
    | some 0 => (0, true)
    | some (n + 1) => ((n + 1) + (skipGo f (r.drop (n + 1))).1, (skipGo f (r.drop (n + 1))).2)
def skip (r : List UInt8) : Nat × Bool := skipGo (r.length + 1) r
theorem skipGo_fuel : ∀ (f g : Nat) (r : List UInt8), r.length < f → r.length < g → skipGo f r = skipGo g r
  | 0, _, _, h, _ => by omega
  | _ + 1, 0, _, _, h => by omega
  | f + 1, g + 1, r, hf, hg => by
    unfold skipGo
    cases hp : gap r with
    | none => rfl
    | some n =>
      cases n with
      | zero => rfl
      | succ n =>
        have := gap_le _ _ hp
        simp only
        rw [skipGo_fuel f g (r.drop (n + 1)) (by simp; omega) (by simp; omega)]
theorem skip_none {r : List UInt8} (h : gap r = none) : skip r = (0, false) := by unfold skip skipGo; rw [h]
theorem skip_zero {r : List UInt8} (h : gap r = some 0) : skip r = (0, true) := by unfold skip skipGo; rw [h]
theorem skip_succ {r : List UInt8} {n : Nat} (h : gap r = some (n + 1)) : skip r = ((n + 1) + (skip (r.drop (n + 1))).1, (skip (r.drop (n + 1))).2) := by
  have := gap_le _ _ h
  unfold skip
  rw [skipGo_fuel ((r.drop (n + 1)).length + 1) r.length _ (by omega) (by simp; omega)]
  conv => lhs; unfold skipGo
  rw [h]
theorem skip_nil : skip [] = (0, true) := rfl
theorem skip_le : ∀ (f : Nat) (r : List UInt8), r.length < f → (skip r).1 ≤ r.length
  | 0, _, h => by omega
  | f + 1, r, h => by
    cases hp : gap r with
    | none => rw [skip_none hp]; omega
    | some n =>
      cases n with
      | zero => rw [skip_zero hp]; omega
      | succ n =>
        have hl := gap_le _ _ hp
        have := skip_le f (r.drop (n + 1)) (by simp; omega)
        rw [skip_succ hp]
        simp at *; omega
theorem skip_len (r : List UInt8) : (skip r).1 ≤ r.length := skip_le _ r (Nat.lt_succ_self _)

/-! ### Bytes in quotes -/
def plainq (c : UInt8) : Bool := decide (32 ≤ c.toNat) && decide (c.toNat ≤ 126) && !((c.toNat : Int) == 39) && !((c.toNat : Int) == 92)
/-- The byte that a letter behind a backslash stands for. -/
def standOf (d : UInt8) : Option UInt8 := if d = 110 then some 10 else if d = 116 then some 9 else if d = 114 then some 13 else if d = 92 then some 92 else if d = 39 then some 39 else none
/-- The byte in quotes that a text begins with, and how many bytes it takes. -/
def charTake : List UInt8 → Option (UInt8 × Nat)
  | q :: c :: d :: t =>
    if q ≠ 39 then none
    else if plainq c = true ∧ d = 39 then some (c, 3)
    else if c = 92 ∧ t.head? = some 39 then (standOf d).map (·, 4)
    else none
  | _ => none
def quoteText (c : UInt8) : List UInt8 :=
  if c = 10 then [39, 92, 110, 39] else if c = 9 then [39, 92, 116, 39] else if c = 13 then [39, 92, 114, 39] else if c = 92 then [39, 92, 92, 39] else if c = 39 then [39, 92, 39, 39]
  else if plainq c = true then [39, c, 39] else []
theorem quoteText_stand {c d : UInt8} (h : standOf d = some c) : quoteText c = [39, 92, d, 39] := by
  unfold standOf at h
  split at h
  · rename_i hd; subst hd; cases h; rfl
  split at h
  · rename_i hd; subst hd; cases h; rfl
  split at h
  · rename_i hd; subst hd; cases h; rfl
  split at h
  · rename_i hd; subst hd; cases h; rfl
  split at h
  · rename_i hd; subst hd; cases h; rfl
  · cases h
theorem quoteText_plain {c : UInt8} (h : plainq c = true) : quoteText c = [39, c, 39] := by
  unfold quoteText
  have h' := h
  unfold plainq at h
  simp at h
  rw [if_neg (by rintro rfl; simp at h), if_neg (by rintro rfl; simp at h), if_neg (by rintro rfl; simp at h), if_neg (by rintro rfl; simp at h), if_neg (by rintro rfl; simp at h), if_pos h']
theorem quoteText_range (c : UInt8) (h : quoteText c ≠ []) : 9 ≤ c.toNat ∧ c.toNat ≤ 126 := by
  unfold quoteText at h
  split at h
  · rename_i hc; subst hc; decide
  split at h
  · rename_i hc; subst hc; decide
  split at h
  · rename_i hc; subst hc; decide
  split at h
  · rename_i hc; subst hc; decide
  split at h
  · rename_i hc; subst hc; decide
  split at h
  · rename_i hc; unfold plainq at hc; simp at hc; omega
  · exact absurd rfl h
theorem charTake_three (q c d : UInt8) (t : List UInt8) : charTake (q :: c :: d :: t) = if q ≠ 39 then none
    else if plainq c = true ∧ d = 39 then some (c, 3)
    else if c = 92 ∧ t.head? = some 39 then (standOf d).map (·, 4)
    else none := rfl
theorem charTake_some (r : List UInt8) (c : UInt8) (n : Nat) (h : charTake r = some (c, n)) : quoteText c ≠ [] ∧ hasPrefix r (quoteText c) = true ∧ n = (quoteText c).length := by
  unfold charTake at h
  split at h
  · rename_i q b d t
    split at h
    · cases h
    · rename_i hq
      have hq : q = 39 := Classical.not_not.1 hq
      subst hq
      split at h
      · rename_i hp
        obtain ⟨hp, rfl⟩ := hp
        cases h
        rw [quoteText_plain hp]
        exact ⟨by simp, by simp [hasPrefix, List.isPrefixOf], rfl⟩
      · split at h
        · rename_i hb
          obtain ⟨rfl, ht⟩ := hb
          obtain ⟨x, hx, hxe⟩ := Option.map_eq_some_iff.1 h
          cases hxe
          rw [quoteText_stand hx]
          cases t with
          | nil => simp at ht
          | cons y t =>
            simp at ht
            subst ht
            exact ⟨by simp, by simp [hasPrefix, List.isPrefixOf], rfl⟩
        · cases h
  · cases h
theorem charTake_le (r : List UInt8) (c : UInt8) (n : Nat) (h : charTake r = some (c, n)) : n ≤ r.length ∧ 0 < n := by
  obtain ⟨h0, h1, rfl⟩ := charTake_some r c n h
  refine ⟨?_, ?_⟩
  · have := List.IsPrefix.length_le (List.isPrefixOf_iff_prefix.1 h1)
    exact this
  · cases hq : quoteText c with
    | nil => exact absurd hq h0
    | cons => simp

/-! ### Words -/
def keys : List (List UInt8) := [[37, 116, 111, 107, 101, 110], [37, 108, 101, 102, 116], [37, 114, 105, 103, 104, 116], [37, 110, 111, 110, 97, 115, 115, 111, 99], [37, 116, 121, 112, 101], [37, 115, 116, 97, 114, 116], [37, 112, 114, 101, 99]]
/-- A word: its kind, its text, how many bytes; 0 bytes: there is none. -/
def noWord : Int × List UInt8 × Nat := (0, [], 0)
def percent (r : List UInt8) : Int × List UInt8 × Nat :=
  if hasPrefix r [37, 37] = true then (7, [37, 37], 2)
  else if hasPrefix r [37, 123] = true then match upto (r.drop 2) [37, 125] with
    | none => noWord
    | some k => (9, (r.drop 2).take (k - 2), k + 2)
  else if keys.contains (r.take (1 + alphas (r.drop 1))) = true then (5, r.take (1 + alphas (r.drop 1)), 1 + alphas (r.drop 1))
  else noWord
/-- May a number not end ahead of a text? -/
def stuck : List UInt8 → Bool
  | [] => false
  | c :: _ => letter c
def number (r : List UInt8) : Nat :=
  if 5 < digits r ∨ r.head? = some 48 ∨ stuck (r.drop (digits r)) = true then 0
  else if 50000 < num (r.take (digits r)) then 0 else digits r
def word : List UInt8 → Int × List UInt8 × Nat
  | [] => noWord
  | c :: t =>
    if letter c = true then if nameLen true (c :: t) ≤ 20 then (1, (c :: t).take (nameLen true (c :: t)), nameLen true (c :: t)) else noWord
    else if digit c = true then if 0 < number (c :: t) then (3, (c :: t).take (number (c :: t)), number (c :: t)) else noWord
    else if ((c.toNat : Int) == 39) = true then match charTake (c :: t) with
      | none => noWord
      | some (b, n) => (2, [b], n)
    else if ((c.toNat : Int) == 60) = true then
      if isName (t.take (nameLen true t)) = true ∧ hasPrefix (t.drop (nameLen true t)) [62] = true then (4, t.take (nameLen true t), nameLen true t + 2) else noWord
    else if ((c.toNat : Int) == 37) = true then percent (c :: t)
    else if ((c.toNat : Int) == 58) = true ∨ ((c.toNat : Int) == 59) = true ∨ ((c.toNat : Int) == 124) = true then (6, [c], 1)
    else if ((c.toNat : Int) == 123) = true then match endLen (c :: t) with
      | none => noWord
      | some n => (8, (c :: t).take n, n)
    else noWord

/-- Fuel, how many marks there were, where it stands, what is left: the words, or where none stands. -/
def wordsGo : Nat → Nat → Nat → List UInt8 → Except Nat (List Word)
  | 0, _, _, _ => .error 0
  | f + 1, marks, pos, r =>
    if (skip r).2 = true ∧ r.length = (skip r).1 then .ok [⟨10, [], (pos + (skip r).1 : Nat)⟩]
    else if (skip r).2 = false ∨ (word (r.drop (skip r).1)).2.2 = 0 then .error (pos + (skip r).1)
    else if (if (word (r.drop (skip r).1)).1 = 7 then marks + 1 else marks) = 2 then
      .ok [⟨10, (r.drop (skip r).1).drop (word (r.drop (skip r).1)).2.2, (pos + (skip r).1 + (word (r.drop (skip r).1)).2.2 : Nat)⟩]
    else (wordsGo f (if (word (r.drop (skip r).1)).1 = 7 then marks + 1 else marks) (pos + (skip r).1 + (word (r.drop (skip r).1)).2.2) ((r.drop (skip r).1).drop (word (r.drop (skip r).1)).2.2)).map
      (⟨(word (r.drop (skip r).1)).1, (word (r.drop (skip r).1)).2.1, (pos + (skip r).1 : Nat)⟩ :: ·)
/-- The words, the error, its place. -/
def wordsRes : Except Nat (List Word) → List Word × Int × Nat
  | .error p => ([], 2, p)
  | .ok ws => (ws, 0, 0)
def words (l : List UInt8) : List Word × Int × Nat := if 4000 < l.length then ([], 4, 0) else wordsRes (wordsGo (l.length + 1) 0 0 l)

end Sp
end Go.Proofs.YtphdfbmmjkccgaaDoor

namespace Go.Proofs.YtphdfbmmjkccgaaDoor
namespace Sp
open Go.Lib (index indexByte hasPrefix)

theorem endGo_pos : ∀ (f : Nat) (d : Int) (r : List UInt8) (m : Nat), endGo f d r = some m → 1 ≤ m
  | 0, _, _, _, h => by simp [endGo] at h
  | f + 1, d, [], m, h => by simp [endGo] at h
  | f + 1, d, c :: t, m, h => by
    unfold endGo at h
    cases hp : passLen (c :: t) with
    | none => rw [hp] at h; simp at h
    | some n =>
      rw [hp] at h
      cases n with
      | zero =>
        simp only at h
        generalize (if ((c.toNat : Int) == 123) = true then d + 1 else if ((c.toNat : Int) == 125) = true then d - 1 else d) = d' at h
        split at h
        · simp at h; omega
        · obtain ⟨k, _, hk⟩ := Option.map_eq_some_iff.1 h; omega
      | succ n =>
        simp only at h
        obtain ⟨k, _, hk⟩ := Option.map_eq_some_iff.1 h; omega

theorem endGo_le : ∀ (f : Nat) (d : Int) (r : List UInt8) (m : Nat), endGo f d r = some m → m ≤ r.length
  | 0, _, _, _, h => by simp [endGo] at h
  | f + 1, d, [], m, h => by simp [endGo] at h
  | f + 1, d, c :: t, m, h => by
    unfold endGo at h
    cases hp : passLen (c :: t) with
    | none => rw [hp] at h; simp at h
    | some n =>
      rw [hp] at h
      cases n with
      | zero =>
        simp only at h
        generalize (if ((c.toNat : Int) == 123) = true then d + 1 else if ((c.toNat : Int) == 125) = true then d - 1 else d) = d' at h
        split at h
        · simp at h; simp; omega
        · obtain ⟨k, hk, hk2⟩ := Option.map_eq_some_iff.1 h
          have := endGo_le f _ _ _ hk
          simp; omega
      | succ n =>
        simp only at h
        obtain ⟨k, hk, hk2⟩ := Option.map_eq_some_iff.1 h
        have h1 := endGo_le f _ _ _ hk
        have h2 := passLen_le _ _ hp
        simp at h1 h2 ⊢; omega
theorem head_app {X R R' : List UInt8} (h : X ≠ []) : (X ++ R).head? = (X ++ R').head? := by
  cases X with
  | nil => exact absurd rfl h
  | cons => rfl

/-- An action's text within braces ends where it ends, whatever follows. -/
theorem endGo_stable (R R' : List UInt8) : ∀ (f : Nat) (d : Int) (X : List UInt8), 1 ≤ d → endGo f d (X ++ R) = some X.length → ∀ f', X.length < f' → endGo f' d (X ++ R') = some X.length
  | 0, _, _, _, h, _, _ => by simp [endGo] at h
  | f + 1, d, [], _, h, _, _ => by have := endGo_pos _ _ _ _ h; simp at this
  | f + 1, d, c :: t, hd, h, 0, hf => by omega
  | f + 1, d, c :: t, hd, h, g + 1, hf => by
    have hpos := endGo_pos f
    simp only [List.cons_append] at h ⊢
    cases hp : passLen (c :: (t ++ R)) with
    | none =>
      unfold endGo at h
      rw [hp] at h; simp at h
    | some n =>
      cases n with
      | zero =>
        rw [endGo_zero hp] at h
        have hd' : (if ((c.toNat : Int) == 123) = true then d + 1 else if ((c.toNat : Int) == 125) = true then d - 1 else d) = 0 → c = 125 := by
          intro h0
          split at h0
          · omega
          · split at h0
            · rename_i h125
              have : (c.toNat : Int) = 125 := by simpa using h125
              exact UInt8.toNat_inj.1 (by show c.toNat = 125; omega)
            · omega
        have hd'' : (if ((c.toNat : Int) == 123) = true then d + 1 else if ((c.toNat : Int) == 125) = true then d - 1 else d) ≠ 0 → 1 ≤ (if ((c.toNat : Int) == 123) = true then d + 1 else if ((c.toNat : Int) == 125) = true then d - 1 else d) := by
          intro h0
          split at h0
          · rename_i hc; rw [if_pos hc]; omega
          · rename_i hc
            rw [if_neg hc]
            split at h0
            · rename_i hc2; rw [if_pos hc2]; omega
            · rename_i hc2; rw [if_neg hc2]; omega
        have hz : ∀ (hp' : passLen (c :: (t ++ R')) = some 0), endGo (g + 1) d (c :: (t ++ R')) = some (c :: t).length := by
          intro hp'
          rw [endGo_zero hp']
          generalize (if ((c.toNat : Int) == 123) = true then d + 1 else if ((c.toNat : Int) == 125) = true then d - 1 else d) = d' at h hd' hd'' ⊢
          split at h
          · rename_i h0
            rw [if_pos h0]; exact h
          · rename_i h0
            rw [if_neg h0]
            obtain ⟨m, hm, he⟩ := Option.map_eq_some_iff.1 h
            obtain rfl : m = t.length := by simp at he; omega
            rw [endGo_stable R R' f d' t (hd'' (by simpa using h0)) hm g (by simp at hf; omega)]
            rfl
        cases t with
        | nil =>
          have h0 : c = 125 := by
            generalize (if ((c.toNat : Int) == 123) = true then d + 1 else if ((c.toNat : Int) == 125) = true then d - 1 else d) = d' at h hd'
            split at h
            · rename_i h0; exact hd' (by simpa using h0)
            · obtain ⟨m, hm, he⟩ := Option.map_eq_some_iff.1 h
              have := hpos _ _ _ hm
              simp at he; omega
          exact hz (by rw [h0]; exact plain_pass _ (by decide))
        | cons b u => exact hz (passLen_zero c ((b :: u) ++ R) ((b :: u) ++ R') rfl hp)
      | succ n =>
        have hle := passLen_le _ _ hp
        obtain ⟨Y, W, hYW, hY⟩ : ∃ Y W, c :: (t ++ R) = Y ++ W ∧ Y.length = n + 1 := ⟨(c :: (t ++ R)).take (n + 1), (c :: (t ++ R)).drop (n + 1), (List.take_append_drop _ _).symm, by rw [List.length_take]; omega⟩
        have h' := h
        rw [hYW] at h' hp
        rw [endGo_pass hY hp] at h'
        obtain ⟨m, hm, he⟩ := Option.map_eq_some_iff.1 h'
        have hm1 := hpos _ _ _ hm
        have he' : m + (n + 1) = (c :: t).length := he
        clear he
        obtain ⟨X2, hX⟩ : ∃ X2, c :: t = Y ++ X2 := by
          refine ⟨(c :: t).drop (n + 1), ?_⟩
          have e : Y = (c :: t).take (n + 1) := by
            have h1 := congrArg (List.take (n + 1)) hYW
            rw [List.take_left' hY] at h1
            have h2 : (c :: (t ++ R)).take (n + 1) = (c :: t).take (n + 1) := List.take_append_of_le_length (l₁ := c :: t) (by simp at he' ⊢; omega)
            rw [← h1, h2]
          rw [e, List.take_append_drop]
        have hW : W = X2 ++ R := by
          have : Y ++ W = Y ++ (X2 ++ R) := by rw [← hYW, ← List.append_assoc, ← hX]; rfl
          exact List.append_cancel_left this
        have hl := congrArg List.length hX
        simp only [List.length_append] at hl
        have hX2l : X2.length ≠ 0 := by rw [hY] at hl; omega
        have hX2 : X2 ≠ [] := fun e => hX2l (by rw [e]; rfl)
        have e2 : c :: (t ++ R') = Y ++ (X2 ++ R') := by rw [← List.append_assoc, ← hX]; rfl
        rw [e2, hX]
        subst hW
        have hp' : passLen (Y ++ (X2 ++ R')) = some (n + 1) := by
          rw [← hY] at hp ⊢
          exact passLen_stable (X2 ++ R) (X2 ++ R') Y (head_app hX2) (by rintro rfl; simp at hY) hp
        rw [endGo_pass hY hp']
        obtain rfl : m = X2.length := by omega
        rw [endGo_stable R R' f d X2 hd hm g (by omega)]
        simp; omega
theorem endLen_stable (R R' X : List UInt8) (hX : X ≠ []) (h : endLen (X ++ R) = some X.length) : endLen (X ++ R') = some X.length := by
  cases X with
  | nil => exact absurd rfl hX
  | cons c t =>
    simp only [List.cons_append] at h ⊢
    unfold endLen at h ⊢
    simp only at h ⊢
    split at h
    · rename_i hc
      have hc' : c = 123 := by
        have : (c.toNat : Int) = 123 := by simpa using hc
        exact UInt8.toNat_inj.1 (by show c.toNat = 123; omega)
      subst hc'
      rw [if_pos hc]
      rw [endGo_zero (plain_pass _ (by decide)), if_neg (by decide)] at h
      rw [endGo_zero (plain_pass _ (by decide)), if_neg (by decide)]
      obtain ⟨m, hm, he⟩ := Option.map_eq_some_iff.1 h
      obtain rfl : m = t.length := by simp at he; omega
      rw [endGo_stable R R' _ _ t (by decide) hm _ (by simp; omega)]
      rfl
    · simp at h

theorem nameLen_app : ∀ (b : Bool) (X R : List UInt8), nameLen b (X ++ R) = X.length → nameLen b X = X.length ∧ ∀ c, R.head? = some c → X ≠ [] → nameLen false [c] = 0
  | b, [], R, _ => ⟨rfl, fun c _ h => absurd rfl h⟩
  | b, c :: t, R, h => by
    simp only [List.cons_append, List.length_cons] at h ⊢
    unfold nameLen at h ⊢
    split at h
    · rename_i hc
      obtain ⟨h1, h2⟩ := nameLen_app false t R (by omega)
      rw [if_pos hc, h1]
      refine ⟨rfl, fun x hx _ => ?_⟩
      cases t with
      | nil =>
        have h0 : nameLen false R = 0 := by simpa using h
        cases R with
        | nil => simp at hx
        | cons y R =>
          simp only [List.head?_cons, Option.some.injEq] at hx
          subst hx
          unfold nameLen at h0 ⊢
          split at h0
          · omega
          · rename_i hy; rw [if_neg hy]
      | cons => exact h2 x hx (by simp)
    · omega
theorem digits_app2 : ∀ (X R : List UInt8), digits (X ++ R) = X.length → (∀ c ∈ X, digit c = true) ∧ digits R = 0
  | [], R, h => ⟨by simp, by simpa using h⟩
  | c :: t, R, h => by
    simp only [List.cons_append, List.length_cons] at h
    unfold digits at h
    split at h
    · rename_i hc
      obtain ⟨h1, h2⟩ := digits_app2 t R (by omega)
      refine ⟨?_, h2⟩
      intro x hx
      simp only [List.mem_cons] at hx
      rcases hx with rfl | hx
      · exact hc
      · exact h1 x hx
    · omega
theorem word_cons (c : UInt8) (t : List UInt8) : word (c :: t) =
    if letter c = true then if nameLen true (c :: t) ≤ 20 then (1, (c :: t).take (nameLen true (c :: t)), nameLen true (c :: t)) else noWord
    else if digit c = true then if 0 < number (c :: t) then (3, (c :: t).take (number (c :: t)), number (c :: t)) else noWord
    else if ((c.toNat : Int) == 39) = true then match charTake (c :: t) with
      | none => noWord
      | some (b, n) => (2, [b], n)
    else if ((c.toNat : Int) == 60) = true then
      if isName (t.take (nameLen true t)) = true ∧ hasPrefix (t.drop (nameLen true t)) [62] = true then (4, t.take (nameLen true t), nameLen true t + 2) else noWord
    else if ((c.toNat : Int) == 37) = true then percent (c :: t)
    else if ((c.toNat : Int) == 58) = true ∨ ((c.toNat : Int) == 59) = true ∨ ((c.toNat : Int) == 124) = true then (6, [c], 1)
    else if ((c.toNat : Int) == 123) = true then match endLen (c :: t) with
      | none => noWord
      | some n => (8, (c :: t).take n, n)
    else noWord := rfl
end Sp
end Go.Proofs.YtphdfbmmjkccgaaDoor

namespace Go.Proofs.YtphdfbmmjkccgaaDoor
namespace Sp
open Go.Lib (index indexByte hasPrefix)

/-- How many bytes are so, from the beginning on. -/
def span (p : UInt8 → Bool) : List UInt8 → Nat
  | [] => 0
  | c :: t => if p c = true then span p t + 1 else 0
theorem digits_span : ∀ l : List UInt8, digits l = span digit l
  | [] => rfl
  | c :: t => by unfold digits span; rw [digits_span t]
theorem alphas_span : ∀ l : List UInt8, alphas l = span alpha l
  | [] => rfl
  | c :: t => by unfold alphas span; rw [alphas_span t]
theorem line_span : ∀ l : List UInt8, line l = span (fun c => (c.toNat : Int) != 10) l
  | [] => rfl
  | c :: t => by
    have e : span (fun c => (c.toNat : Int) != 10) (c :: t) = if ((c.toNat : Int) != 10) = true then span (fun c => (c.toNat : Int) != 10) t + 1 else 0 := rfl
    rw [e, line_cons, line_span t]
    unfold bne
    cases ((c.toNat : Int) == 10) <;> simp

/-! ### The letters behind a backslash -/
def letters : List UInt8 := [110, 116, 114, 92, 39]
def stands : List UInt8 := [10, 9, 13, 92, 39]
theorem letters_at (d : UInt8) : (standOf d = none ∧ indexByte letters d = -1) ∨ ∃ k : Nat, k < 5 ∧ indexByte letters d = k ∧ standOf d = stands[k]? := by
  unfold standOf
  split
  · rename_i h; subst h; exact .inr ⟨0, by decide, by decide, by decide⟩
  split
  · rename_i h; subst h; exact .inr ⟨1, by decide, by decide, by decide⟩
  split
  · rename_i h; subst h; exact .inr ⟨2, by decide, by decide, by decide⟩
  split
  · rename_i h; subst h; exact .inr ⟨3, by decide, by decide, by decide⟩
  split
  · rename_i h; subst h; exact .inr ⟨4, by decide, by decide, by decide⟩
  · rename_i h1 h2 h3 h4 h5
    left
    refine ⟨rfl, ?_⟩
    have key : ∀ x : UInt8, ¬ d = x → ¬ ((x.toNat : Int) == (d.toNat : Int)) = true := by
      intro x hx h
      apply hx
      have : (x.toNat : Int) = d.toNat := by simpa using h
      exact (UInt8.toNat_inj.1 (by omega)).symm
    unfold letters
    rw [indexByte_cons, if_neg (key _ h1), indexByte_cons, if_neg (key _ h2), indexByte_cons, if_neg (key _ h3), indexByte_cons, if_neg (key _ h4), indexByte_cons, if_neg (key _ h5)]
    simp [indexByte]
/-- The byte, the place behind, whether there is one. -/
def takeRes (p : Nat) : Option (UInt8 × Nat) → Int × Int × Bool
  | none => (0, 0, false)
  | some (c, n) => ((c.toNat : Int), ((p + n : Nat) : Int), true)
theorem charTake_short (r : List UInt8) (h : r.length < 3) : charTake r = none := by
  rcases r with _ | ⟨a, _ | ⟨b, _ | ⟨c, t⟩⟩⟩
  · rfl
  · rfl
  · rfl
  · simp at h
    omega
theorem charTake_q (c d : UInt8) (t : List UInt8) : charTake (39 :: c :: d :: t) =
    if plainq c = true ∧ d = 39 then some (c, 3)
    else if c = 92 ∧ t.head? = some 39 then (standOf d).map (·, 4)
    else none := by rw [charTake_three, if_neg (by simp)]
theorem byte_eq (d x : UInt8) : d = x ↔ ((d.toNat : Int) == (x.toNat : Int)) = true := by
  constructor
  · rintro rfl; simp
  · intro h
    have : (d.toNat : Int) = x.toNat := by simpa using h
    exact UInt8.toNat_inj.1 (by omega)
theorem charTake_b (c d : UInt8) (t : List UInt8) : charTake (39 :: c :: d :: t) =
    if plainq c = true ∧ ((d.toNat : Int) == 39) = true then some (c, 3)
    else if ((c.toNat : Int) != 92) = false ∧ t.head? = some 39 then (standOf d).map (·, 4)
    else none := by
  have e1 : d = 39 ↔ ((d.toNat : Int) == 39) = true := byte_eq d 39
  have e2 : c = 92 ↔ ((c.toNat : Int) != 92) = false := by
    rw [bne, Bool.not_eq_false']
    exact byte_eq c 92
  rw [charTake_q]
  simp only [e1, e2]
end Sp
end Go.Proofs.YtphdfbmmjkccgaaDoor

namespace Go.Proofs.YtphdfbmmjkccgaaDoor
open Go.RowKit

/-- A slice value whose elements, 'size' cells each, read as the rows xs. -/
def SlAt (w : World) (v : Value) (size : Nat) (xs : List (List Value)) : Prop :=
  (xs = [] ∧ ∃ a cap, v = .slice a 0 cap) ∨
  ∃ b off cap, v = .slice (some ⟨b, off, none⟩) xs.length cap ∧ b < w.heap.size ∧ ∀ i r, xs[i]? = some r → ∀ j u, r[j]? = some u → w.cell? ⟨b, off + i * size + j, none⟩ = some u
theorem SlAt.below {w w' : World} {v : Value} {size : Nat} {xs : List (List Value)} (h : SlAt w v size xs) (hb : Below w.heap.size w w') : SlAt w' v size xs := by
  rcases h with h | ⟨b, off, cap, rfl, hlt, hc⟩
  · exact .inl h
  · refine .inr ⟨b, off, cap, rfl, Nat.lt_of_lt_of_le hlt hb.size, fun i r hr j u hu => ?_⟩
    rw [hb.cell (p := ⟨b, _, none⟩) hlt]
    exact hc i r hr j u hu

end Go.Proofs.YtphdfbmmjkccgaaDoor

namespace Go.Proofs.YtphdfbmmjkccgaaDoor
open Go.ChangeShapes Go.WideShapes Go.Deep Go.RowKit

theorem lt_at_cell {w : World} {a : Addr} {v : Value} (h : w.cell? a = some v) : a.block < w.heap.size := by
  rcases Nat.lt_or_ge a.block w.heap.size with h' | h'
  · exact h'
  · unfold World.cell? at h
    simp [Array.getElem?_eq_none h'] at h
end Go.Proofs.YtphdfbmmjkccgaaDoor
