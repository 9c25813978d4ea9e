/- Plain laws: what is passed over does not hang on what follows. No program in sight. -/
import Derived.Test.YticdgfljaphhgaaDoorSpF
import Derived.Test.YticdgfljaphhgaaDoorSpD
namespace Go.Proofs.YticdgfljaphhgaaDoor
namespace Sp
open Go.Lib (index indexByte hasPrefix)

theorem quoteEnd_pos (q : UInt8) (l : List UInt8) : quoteEnd q l ≠ some 0 := by
  cases l with
  | nil => simp [quoteEnd]
  | cons c t =>
    unfold quoteEnd
    split
    · cases t with
      | nil => simp
      | cons d t' => simp only; split <;> simp
    · split
      · simp
      · split <;> simp
theorem quoteEnd_stable (q : UInt8) (R R' : List UInt8) : ∀ (n : Nat) (X : List UInt8), X.length ≤ n → quoteEnd q (X ++ R) = some X.length → quoteEnd q (X ++ R') = some X.length
  | _, [], _, h => absurd h (quoteEnd_pos q R)
  | 0, _ :: _, hn, _ => by simp at hn
  | n + 1, c :: t, hn, h => by
    simp only [List.cons_append, List.length_cons] at h hn ⊢
    unfold quoteEnd at h ⊢
    by_cases h92 : ((c.toNat : Int) == 92) = true
    · rw [if_pos h92] at h ⊢
      cases t with
      | nil =>
        exfalso
        cases R with
        | nil => simp at h
        | cons d u =>
          simp only [List.nil_append] at h
          split at h
          · simp at h
          · obtain ⟨m, _, hm⟩ := Option.map_eq_some_iff.1 h
            simp at hm
      | cons d u =>
        simp only [List.cons_append] at h ⊢
        split at h
        · simp at h
        · rename_i h10
          rw [if_neg h10]
          obtain ⟨m, hm, he⟩ := Option.map_eq_some_iff.1 h
          simp only [List.length_cons] at he hn ⊢
          obtain rfl : m = u.length := by omega
          rw [quoteEnd_stable q R R' n u (by omega) hm]
          rfl
    · rw [if_neg h92] at h ⊢
      by_cases hq : ((c.toNat : Int) == (q.toNat : Int)) = true
      · rw [if_pos hq] at h ⊢
        exact h
      · rw [if_neg hq] at h ⊢
        split at h
        · simp at h
        · rename_i h10
          rw [if_neg h10]
          obtain ⟨m, hm, he⟩ := Option.map_eq_some_iff.1 h
          obtain rfl : m = t.length := by omega
          rw [quoteEnd_stable q R R' n t (by omega) hm]
          rfl
theorem upto_ge (l e : List UInt8) (n : Nat) (h : upto l e = some n) : e.length ≤ n := by
  unfold upto at h
  split at h
  · simp at h; omega
  · simp at h
theorem upto_stable1 (d : UInt8) (R R' : List UInt8) : ∀ X : List UInt8, upto (X ++ R) [d] = some X.length → upto (X ++ R') [d] = some X.length
  | [], h => by have := upto_ge _ _ _ h; simp at this
  | c :: t, h => by
    simp only [List.cons_append, List.length_cons] at h ⊢
    rw [upto_cons, hasPrefix_one] at h ⊢
    split at h
    · rename_i hc
      rw [if_pos hc]; exact h
    · rename_i hc
      rw [if_neg hc]
      obtain ⟨m, hm, he⟩ := Option.map_eq_some_iff.1 h
      obtain rfl : m = t.length := by omega
      rw [upto_stable1 d R R' t hm]
      rfl
theorem hasPrefix_two (a b c d : UInt8) (t : List UInt8) : hasPrefix (a :: b :: t) [c, d] = (c == a && d == b) := by simp [hasPrefix, List.isPrefixOf]
theorem upto_stable2 (d e : UInt8) (R R' : List UInt8) : ∀ X : List UInt8, upto (X ++ R) [d, e] = some X.length → upto (X ++ R') [d, e] = some X.length
  | [], h => by have := upto_ge _ _ _ h; simp at this
  | [c], h => by have := upto_ge _ _ _ h; simp at this
  | c :: b :: t, h => by
    simp only [List.cons_append, List.length_cons] at h ⊢
    rw [upto_cons, hasPrefix_two] at h ⊢
    split at h
    · rename_i hc
      rw [if_pos hc]; exact h
    · rename_i hc
      rw [if_neg hc]
      obtain ⟨m, hm, he⟩ := Option.map_eq_some_iff.1 h
      obtain rfl : m = (b :: t).length := by simp only [List.length_cons]; omega
      have := upto_stable2 d e R R' (b :: t) hm
      simp only [List.cons_append] at this
      rw [this]
      rfl
theorem line_stable (R R' : List UInt8) (hh : R.head? = R'.head?) : ∀ X : List UInt8, line (X ++ R) = X.length → line (X ++ R') = X.length := by
  have key : ∀ l : List UInt8, (line l = 0 ↔ l = [] ∨ l.head? = some 10) ∧ ∀ c t, l = c :: t → c ≠ 10 → line l = line t + 1 := by
    intro l
    cases l with
    | nil => exact ⟨by simp [line, indexByte], fun _ _ h => by cases h⟩
    | cons c t =>
      have hi := Go.Lib.indexByte_ge t 10
      have hcc : ((c.toNat : Int) == ((10 : UInt8).toNat : Int)) = true ↔ c = 10 := by
        constructor
        · intro h
          have : (c.toNat : Int) = 10 := by simpa using h
          exact UInt8.toNat_inj.1 (by show c.toNat = 10; omega)
        · rintro rfl; decide
      have step : c ≠ 10 → line (c :: t) = line t + 1 := by
        intro hc
        unfold line
        rw [indexByte_cons, if_neg (fun h => hc (hcc.1 h))]
        by_cases h1 : indexByte t 10 = -1
        · rw [if_pos h1, if_neg (by omega), if_neg (by omega)]; simp
        · rw [if_neg h1, if_pos (by omega), if_pos (by omega)]; omega
      refine ⟨?_, fun c' t' h hc => by cases h; exact step hc⟩
      by_cases hc : c = 10
      · subst hc
        simp only [List.head?_cons, or_true, iff_true]
        have h0 : indexByte (10 :: t) 10 = 0 := by rw [indexByte_cons, if_pos (by decide)]
        unfold line
        rw [h0]
        rfl
      · rw [step hc]
        simp [hc]
  intro X
  induction X with
  | nil =>
    intro h
    simp only [List.nil_append, List.length_nil] at h ⊢
    rw [(key R).1] at h
    rw [(key R').1]
    rcases h with h | h
    · subst h
      left
      cases R' with
      | nil => rfl
      | cons => simp at hh
    · right; rw [← hh]; exact h
  | cons c t ih =>
    intro h
    simp only [List.cons_append, List.length_cons] at h ⊢
    by_cases hc : c = 10
    · have := (key (c :: (t ++ R))).1.2 (.inr (by rw [hc]; rfl))
      omega
    · rw [(key _).2 c _ rfl hc] at h ⊢
      rw [ih (by omega)]

theorem line_slash (t : List UInt8) : line (47 :: t) = line t + 1 := by
  have hi : indexByte (47 :: t) 10 = if indexByte t 10 = -1 then -1 else indexByte t 10 + 1 := by rw [indexByte_cons, if_neg (by decide)]
  have := Go.Lib.indexByte_ge t 10
  unfold line
  rw [hi]
  by_cases h1 : indexByte t 10 = -1
  · rw [if_pos h1, if_neg (by omega), if_neg (by omega)]; simp
  · rw [if_neg h1, if_pos (by omega), if_pos (by omega)]; omega
/-- What is passed over is passed over whatever follows, but for a newline. -/
theorem passLen_stableL (R R' X : List UInt8) (hl : line (X ++ R) = X.length → line (X ++ R') = X.length) (hX : X ≠ []) (h : passLen (X ++ R) = some X.length) : passLen (X ++ R') = some X.length := by
  cases X with
  | nil => exact absurd rfl hX
  | cons c t =>
    simp only [List.cons_append, List.length_cons] at h ⊢
    rw [passLen_cons] at h ⊢
    split at h
    · rename_i hc
      rw [if_pos hc]
      obtain ⟨m, hm, he⟩ := Option.map_eq_some_iff.1 h
      obtain rfl : m = t.length := by omega
      rw [quoteEnd_stable c R R' t.length t (Nat.le_refl _) hm]
      rfl
    · rename_i hc
      rw [if_neg hc]
      split at h
      · rename_i hc2
        rw [if_pos hc2]
        obtain ⟨m, hm, he⟩ := Option.map_eq_some_iff.1 h
        obtain rfl : m = t.length := by omega
        rw [upto_stable1 96 R R' t hm]
        rfl
      · rename_i hc2
        rw [if_neg hc2]
        cases t with
        | nil =>
          exfalso
          simp only [List.nil_append, List.length_nil] at h
          split at h
          · obtain ⟨m, hm, he⟩ := Option.map_eq_some_iff.1 h
            omega
          · split at h
            · rename_i hs
              cases R with
              | nil => simp [hasPrefix, List.isPrefixOf] at hs
              | cons b u =>
                rw [hasPrefix_two] at hs
                simp at hs
                obtain ⟨rfl, rfl⟩ := hs
                have h1 := line_slash (47 :: u)
                have h2 := line_slash u
                simp only [Option.some.injEq] at h
                omega
            · simp at h
        | cons b u =>
          simp only [List.cons_append, List.length_cons] at h ⊢
          rw [hasPrefix_two] at h ⊢
          rw [hasPrefix_two] at h ⊢
          split at h
          · rename_i hp
            rw [if_pos hp]
            simp only [List.drop_succ_cons, List.drop_zero] at h ⊢
            obtain ⟨m, hm, he⟩ := Option.map_eq_some_iff.1 h
            obtain rfl : m = u.length := by omega
            rw [upto_stable2 42 47 R R' u hm]
            rfl
          · rename_i hp
            rw [if_neg hp]
            split at h
            · rename_i hp2
              rw [if_pos hp2]
              simp only [Option.some.injEq] at h ⊢
              exact hl h
            · simp at h
theorem passLen_stable (R R' X : List UInt8) (hh : R.head? = R'.head?) (hX : X ≠ []) (h : passLen (X ++ R) = some X.length) : passLen (X ++ R') = some X.length :=
  passLen_stableL R R' X (line_stable R R' hh X) hX h
/-- Where nothing is passed over hangs on two bytes. -/
theorem passLen_zero (c : UInt8) (t t' : List UInt8) (hh : t.head? = t'.head?) (h : passLen (c :: t) = some 0) : passLen (c :: t') = some 0 := by
  rw [passLen_cons] at h ⊢
  split at h
  · obtain ⟨m, hm, he⟩ := Option.map_eq_some_iff.1 h
    omega
  · rename_i hc
    rw [if_neg hc]
    split at h
    · obtain ⟨m, hm, he⟩ := Option.map_eq_some_iff.1 h
      omega
    · rename_i hc2
      rw [if_neg hc2]
      have e : ∀ d, hasPrefix (c :: t) [47, d] = hasPrefix (c :: t') [47, d] := by
        intro d
        cases t with
        | nil =>
          cases t' with
          | nil => rfl
          | cons => simp at hh
        | cons b u =>
          cases t' with
          | nil => simp at hh
          | cons b' u' =>
            simp only [List.head?_cons, Option.some.injEq] at hh
            subst hh
            rw [hasPrefix_two, hasPrefix_two]
      rw [e, e] at h
      split at h
      · obtain ⟨m, hm, he⟩ := Option.map_eq_some_iff.1 h
        omega
      · rename_i h1
        rw [if_neg h1]
        split at h
        · rename_i h2
          exfalso
          rw [← e] at h2
          have hc47 : c = 47 := by
            cases t with
            | nil => simp [hasPrefix, List.isPrefixOf] at h2
            | cons b u => rw [hasPrefix_two] at h2; simp at h2; exact h2.1.symm
          subst hc47
          simp only [Option.some.injEq] at h
          have h1 := line_slash t
          omega
        · rename_i h2
          rw [if_neg h2]
end Sp
end Go.Proofs.YticdgfljaphhgaaDoor
