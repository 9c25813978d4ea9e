/- Plain laws: the form of a dollar's piece, and its text. No program in sight. -/
import Derived.Test.YticdgfljaphhgaaDoorSpG
namespace Go.Proofs.YticdgfljaphhgaaDoor
namespace Sp
open Go.Lib (index indexByte hasPrefix decDigits decFrom digitVal)

/-! ### Fuel -/
theorem endGo_fuel : ∀ (f : Nat) (d : Int) (r : List UInt8) (m : Nat), endGo f d r = some m → ∀ f', r.length < f' → endGo f' d r = some m
  | 0, _, _, _, h, _, _ => by simp [endGo] at h
  | f + 1, d, [], m, h, _, _ => by simp [endGo] at h
  | f + 1, d, c :: t, m, h, 0, hl => by omega
  | f + 1, d, c :: t, m, h, g + 1, hl => by
    unfold endGo at h ⊢
    cases hp : passLen (c :: t) with
    | none => rw [hp] at h; simp at h
    | some n =>
      rw [hp] at h
      cases n with
      | zero =>
        simp only at h ⊢
        generalize (if ((c.toNat : Int) == 123) = true then d + 1 else if ((c.toNat : Int) == 125) = true then d - 1 else d) = d' at h ⊢
        split at h
        · rename_i h0
          rw [if_pos h0]; exact h
        · rename_i h0
          rw [if_neg h0]
          obtain ⟨m', hm, he⟩ := Option.map_eq_some_iff.1 h
          rw [endGo_fuel f _ t m' hm g (by simp at hl; omega)]
          simp [he]
      | succ n =>
        simp only at h ⊢
        obtain ⟨m', hm, he⟩ := Option.map_eq_some_iff.1 h
        rw [endGo_fuel f _ _ m' hm g (by simp at hl ⊢; omega)]
        simp [he]
theorem endGo_zero {f : Nat} {d : Int} {c : UInt8} {t : List UInt8} (hp : passLen (c :: t) = some 0) : endGo (f + 1) d (c :: t) =
    if ((if ((c.toNat : Int) == 123) = true then d + 1 else if ((c.toNat : Int) == 125) = true then d - 1 else d) == 0) = true then some 1
      else (endGo f (if ((c.toNat : Int) == 123) = true then d + 1 else if ((c.toNat : Int) == 125) = true then d - 1 else d) t).map (· + 1) := by
  conv => lhs; unfold endGo
  rw [hp]
theorem cutGo_zero {f : Nat} {pend : List UInt8} {c : UInt8} {t : List UInt8} (hp : passLen (c :: t) = some 0) : cutGo (f + 1) pend (c :: t) =
    if ((c.toNat : Int) == 36) = true then
        if ((dollar t).2.2 != 0) = true then none
        else if 0 < (dollar t).2.1 then (cutGo f [] ((c :: t).drop (dollar t).2.1)).map (flush pend ++ (dollar t).1 :: ·)
        else cutGo f (pend ++ [c]) t
      else cutGo f (pend ++ [c]) t := by
  conv => lhs; unfold cutGo
  rw [hp]
theorem inner_step {f : Nat} {d : Int} {c : UInt8} {t : List UInt8} (hc : inner c = true) : endGo (f + 1) d (c :: t) = if (d == 0) = true then some 1 else (endGo f d t).map (· + 1) := by
  rw [endGo_zero (plain_pass t (inner_plain hc))]
  unfold inner at hc
  simp only [Bool.and_eq_true, Bool.not_eq_true'] at hc
  simp only [hc.1.2, hc.2, Bool.false_eq_true, if_false]
/-- Over bytes that open and close nothing. -/
theorem endGo_chunk : ∀ (Y : List UInt8) (f : Nat) (d : Int) (R : List UInt8), (∀ c ∈ Y, inner c = true) → d ≠ 0 → endGo (f + Y.length) d (Y ++ R) = (endGo f d R).map (· + Y.length)
  | [], f, d, R, _, _ => by simp
  | c :: t, f, d, R, h, hd => by
    show endGo (f + t.length + 1) d (c :: (t ++ R)) = _
    rw [inner_step (h c (by simp)), if_neg (by simpa using hd), endGo_chunk t f d R (fun x hx => h x (by simp [hx])) hd]
    cases endGo f d R with
    | none => rfl
    | some m => simp; omega
/-- The end behind such a chunk, whatever the fuel. -/
theorem endGo_swap (Y Y' R R' : List UInt8) (hY : ∀ c ∈ Y, inner c = true) (hY' : ∀ c ∈ Y', inner c = true) (h2 : 2 ≤ Y.length)
    (ih : ∀ f d, endGo f d R = some R.length → ∀ f', R'.length < f' → endGo f' d R' = some R'.length) (f : Nat) (d : Int) (h : endGo f d (Y ++ R) = some (Y ++ R).length) (f' : Nat) (hf : (Y' ++ R').length < f') : endGo f' d (Y' ++ R') = some (Y' ++ R').length := by
  have hd : d ≠ 0 := by
    rintro rfl
    cases Y with
    | nil => simp at h2
    | cons c t =>
      cases f with
      | zero => simp [endGo] at h
      | succ f =>
        have e : endGo (f + 1) 0 (c :: (t ++ R)) = some (c :: t ++ R).length := h
        rw [inner_step (hY c (by simp)), if_pos (by decide)] at e
        simp only [Option.some.injEq, List.length_append, List.length_cons] at e
        simp only [List.length_cons] at h2
        omega
  have h1 := endGo_fuel _ _ _ _ h ((R.length + 1) + Y.length) (by simp; omega)
  rw [endGo_chunk Y _ d R hY hd] at h1
  obtain ⟨m, hm, he⟩ := Option.map_eq_some_iff.1 h1
  obtain rfl : m = R.length := by simp at he; omega
  have h3 := ih _ _ hm (R'.length + 1) (by omega)
  refine endGo_fuel ((R'.length + 1) + Y'.length) _ _ _ ?_ f' hf
  rw [endGo_chunk Y' _ d R' hY' hd, h3]
  simp; omega

/-! ### Numerals -/
theorem decFrom_digit (c : UInt8) (h : digit c = true) : ∃ v, v < 10 ∧ digitVal c = some v ∧ c = UInt8.ofNat (48 + v) := by
  unfold digit at h
  simp at h
  refine ⟨c.toNat - 48, by omega, by simp [digitVal, h], ?_⟩
  apply UInt8.toNat_inj.1
  have : 48 + (c.toNat - 48) = c.toNat := by omega
  rw [this]; simp
theorem decDigits_snoc (a v : Nat) (ha : 1 ≤ a) (hv : v < 10) : decDigits (a * 10 + v) = decDigits a ++ [UInt8.ofNat (48 + v)] := by
  rw [decDigits, dif_neg (by omega), show (a * 10 + v) / 10 = a by omega, show (a * 10 + v) % 10 = v by omega]
theorem decDigits_from : ∀ (l : List UInt8) (a : Nat), 1 ≤ a → (∀ c ∈ l, digit c = true) → ∃ m, decFrom a l = some m ∧ decDigits m = decDigits a ++ l
  | [], a, _, _ => ⟨a, rfl, by simp⟩
  | c :: t, a, ha, h => by
    obtain ⟨v, hv, hd, hc⟩ := decFrom_digit c (h c (by simp))
    obtain ⟨m, h1, h2⟩ := decDigits_from t (a * 10 + v) (by omega) (fun x hx => h x (by simp [hx]))
    refine ⟨m, by simp only [decFrom, hd]; exact h1, ?_⟩
    rw [h2, decDigits_snoc a v ha hv, ← hc]
    simp
/-- Digits are noughts and a numeral. -/
theorem digits_form : ∀ (D : List UInt8), D ≠ [] → (∀ c ∈ D, digit c = true) → ∃ m z, decFrom 0 D = some m ∧ D = List.replicate z 48 ++ decDigits m
  | [], h, _ => absurd rfl h
  | [c], _, h => by
    obtain ⟨v, hv, hd, hc⟩ := decFrom_digit c (h c (by simp))
    refine ⟨v, 0, by simp [decFrom, hd], ?_⟩
    rw [decDigits, dif_pos hv, ← hc]; rfl
  | c :: b :: t, _, h => by
    obtain ⟨v, hv, hd, hc⟩ := decFrom_digit c (h c (by simp))
    by_cases h0 : v = 0
    · subst h0
      obtain ⟨m, z, h1, h2⟩ := digits_form (b :: t) (by simp) (fun x hx => h x (by simp only [List.mem_cons] at hx ⊢; exact .inr hx))
      refine ⟨m, z + 1, by rw [decFrom, hd]; exact h1, ?_⟩
      rw [List.replicate_succ, List.cons_append, ← h2, hc]; rfl
    · obtain ⟨m, h1, h2⟩ := decDigits_from (b :: t) v (by omega) (fun x hx => h x (by simp only [List.mem_cons] at hx ⊢; exact .inr hx))
      refine ⟨m, 0, by rw [decFrom, hd]; simpa using h1, ?_⟩
      rw [h2, decDigits, dif_pos hv, ← hc]; rfl
theorem num_of_dec (D : List UInt8) (m : Nat) (h0 : D ≠ []) (hd : ∀ c ∈ D, digit c = true) (h : decFrom 0 D = some m) : num D = m := by
  cases D with
  | nil => exact absurd rfl h0
  | cons c t =>
    have hc := hd c (by simp)
    unfold digit at hc
    simp at hc
    have h1 : (c == 45) = false := by
      rw [beq_eq_false_iff_ne]; rintro rfl; simp at hc
    have h2 : (c == 43) = false := by
      rw [beq_eq_false_iff_ne]; rintro rfl; simp at hc
    simp [num, Go.Lib.atoi, h1, h2, Go.Lib.decNat, h]
end Sp
end Go.Proofs.YticdgfljaphhgaaDoor
