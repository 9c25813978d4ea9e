/- Plain laws: a dollar with digits between braces is cut into three pieces, or refused. No program in sight. -/
import Derived.Test.YticdgfljaphhgaaDoorSpC
namespace Go.Proofs.YticdgfljaphhgaaDoor
namespace Sp
open Go.Lib (index indexByte hasPrefix decDigits decFrom digitVal)

/-- A byte that neither opens nor closes anything. -/
def inner (c : UInt8) : Bool := plain c && !((c.toNat : Int) == 123) && !((c.toNat : Int) == 125)
theorem inner_plain {c : UInt8} (h : inner c = true) : plain c = true := by unfold inner at h; simp at h; exact h.1.1
theorem digit_inner {c : UInt8} (h : digit c = true) : inner c = true := by
  unfold inner; rw [digit_plain h]; unfold digit at h; simp at h; simp; omega

theorem endGo_inner : ∀ (x : List UInt8) (f : Nat), (∀ c ∈ x, inner c = true) → x.length < f → endGo f 1 (x ++ [125]) = some (x.length + 1)
  | [], 0, _, h => by simp at h
  | [], f + 1, _, _ => by
    show endGo (f + 1) 1 [125] = _
    unfold endGo
    rw [plain_pass [] (c := 125) (by decide)]
    rfl
  | c :: t, 0, _, h => by simp at h
  | c :: t, f + 1, hx, h => by
    have hc := hx c (by simp)
    show endGo (f + 1) 1 (c :: (t ++ [125])) = _
    unfold endGo
    rw [plain_pass _ (inner_plain hc)]
    unfold inner at hc
    simp only [Bool.and_eq_true, Bool.not_eq_true'] at hc
    simp only [hc.1.2, hc.2, Bool.false_eq_true, if_false]
    rw [endGo_inner t f (fun y hy => hx y (by simp [hy])) (by simpa using h)]
    rfl
theorem endAt_inner (x : List UInt8) (hx : ∀ c ∈ x, inner c = true) : endAt (123 :: (x ++ [125])) 0 = ((123 :: (x ++ [125])).length : Nat) := by
  unfold endAt
  rw [if_pos (by simp; omega)]
  show place 0 (endLen (123 :: (x ++ [125]))) = _
  unfold endLen
  simp only
  rw [if_pos (by decide)]
  unfold endGo
  rw [plain_pass _ (c := 123) (by decide)]
  simp only
  rw [if_neg (by decide)]
  rw [show (if ((((123 : UInt8).toNat : Int)) == 123) = true then (0 : Int) + 1 else if ((((123 : UInt8).toNat : Int)) == 125) = true then 0 - 1 else 0) = 1 by decide]
  rw [endGo_inner x _ hx (by simp; omega)]
  simp [place]

theorem cutGo_skip {f : Nat} {pend t : List UInt8} {c : UInt8} (h : plain c = true) (hc : ((c.toNat : Int) == 36) = false) : cutGo (f + 1) pend (c :: t) = cutGo f (pend ++ [c]) t := by
  show (match passLen (c :: t) with
    | none => none
    | some (n + 1) => cutGo f (pend ++ (c :: t).take (n + 1)) ((c :: t).drop (n + 1))
    | some 0 =>
      if ((c.toNat : Int) == 36) = true then
        if ((dollar t).2.2 != 0) = true then none
        else if 0 < (dollar t).2.1 then (cutGo f [] ((c :: t).drop (dollar t).2.1)).map (flush pend ++ (dollar t).1 :: ·)
        else cutGo f (pend ++ [c]) t
      else cutGo f (pend ++ [c]) t) = _
  rw [plain_pass t h]
  simp only [hc, Bool.false_eq_true, if_false]
theorem cutGo_dollar {f : Nat} {pend t : List UInt8} : cutGo (f + 1) pend (36 :: t) =
    if ((dollar t).2.2 != 0) = true then none
    else if 0 < (dollar t).2.1 then (cutGo f [] ((36 :: t).drop (dollar t).2.1)).map (flush pend ++ (dollar t).1 :: ·)
    else cutGo f (pend ++ [36]) t := by
  show (match passLen (36 :: t) with
    | none => none
    | some (n + 1) => cutGo f (pend ++ (36 :: t).take (n + 1)) ((36 :: t).drop (n + 1))
    | some 0 =>
      if ((((36 : UInt8).toNat : Int)) == 36) = true then
        if ((dollar t).2.2 != 0) = true then none
        else if 0 < (dollar t).2.1 then (cutGo f [] ((36 :: t).drop (dollar t).2.1)).map (flush pend ++ (dollar t).1 :: ·)
        else cutGo f (pend ++ [36]) t
      else cutGo f (pend ++ [36]) t) = _
  rw [plain_pass t (c := 36) (by decide)]
  rfl

theorem digits_app : ∀ (d : List UInt8), (∀ c ∈ d, digit c = true) → digits (d ++ [32, 125]) = d.length
  | [], _ => by decide
  | c :: t, h => by
    show digits (c :: (t ++ [32, 125])) = _
    unfold digits
    rw [if_pos (h c (by simp)), digits_app t (fun y hy => h y (by simp [hy]))]
    rfl

def nm (tag : Bool) : List UInt8 := if tag = true then [60, 118, 62] else []
def tg (tag : Bool) : List UInt8 := if tag = true then [118] else []
/-- What stands behind the dollar. -/
theorem dollar2_parts (t : List UInt8) (off : Nat) (d : List UInt8) (hd : ∀ c ∈ d, digit c = true) (h0 : d ≠ []) :
    dollar2 t off (d ++ [32, 125]) = if 3 < d.length then (nil, 0, 6) else (⟨3, [], num d, t⟩, off + d.length, 0) := by
  unfold dollar2
  rw [digits_app d hd]
  have h36 : ¬ hasPrefix (d ++ [32, 125]) [36] = true := by
    cases d with
    | nil => exact absurd rfl h0
    | cons c r =>
      have hc := hd c (by simp)
      unfold digit at hc
      simp at hc
      show ¬ hasPrefix (c :: (r ++ [32, 125])) [36] = true
      rw [hasPrefix_one]
      simp
      omega
  have hl : d.length ≠ 0 := fun h => h0 (List.eq_nil_of_length_eq_zero h)
  rw [if_neg h36, if_neg hl, List.take_left']
  rfl
theorem dollar_parts (tag : Bool) (d : List UInt8) (hd : ∀ c ∈ d, digit c = true) (h0 : d ≠ []) :
    dollar (nm tag ++ (d ++ [32, 125])) = if 3 < d.length then (nil, 0, 6) else (⟨3, [], num d, tg tag⟩, (nm tag).length + 1 + d.length, 0) := by
  cases tag
  · show dollar (d ++ [32, 125]) = _
    unfold dollar
    have h60 : ¬ hasPrefix (d ++ [32, 125]) [60] = true := by
      cases d with
      | nil => exact absurd rfl h0
      | cons c r =>
        have hc := hd c (by simp)
        unfold digit at hc
        simp at hc
        show ¬ hasPrefix (c :: (r ++ [32, 125])) [60] = true
        rw [hasPrefix_one]
        simp
        omega
    rw [if_neg h60, dollar2_parts [] 1 d hd h0]
    rfl
  · show dollar (60 :: 118 :: 62 :: (d ++ [32, 125])) = _
    unfold dollar
    rw [if_pos (by rw [hasPrefix_one]; decide)]
    simp only [List.drop_succ_cons, List.drop_zero]
    have hn : nameLen true (118 :: 62 :: (d ++ [32, 125])) = 1 := by
      unfold nameLen
      rw [if_pos (by decide)]
      unfold nameLen
      rw [if_neg (by decide)]
    rw [hn]
    simp only [List.take_succ_cons, List.take_zero, Nat.reduceAdd, List.drop_succ_cons, List.drop_zero]
    rw [if_pos ⟨by decide, by rw [hasPrefix_one]; decide⟩, dollar2_parts [118] 4 d hd h0]
    rfl

def parts (tag : Bool) (d : List UInt8) : List UInt8 := 123 :: 36 :: (nm tag ++ (d ++ [32, 125]))
theorem nm_inner (tag : Bool) : ∀ c ∈ nm tag, inner c = true := by cases tag <;> decide
theorem cutGo_end (f : Nat) : cutGo (f + 3) [] [32, 125] = some [⟨1, [32, 125], 0, []⟩] := by
  rw [cutGo_skip (by decide) (by decide), cutGo_skip (by decide) (by decide)]
  rfl
/-- THE LAW: three pieces, or refused. -/
theorem cut_parts (tag : Bool) (d : List UInt8) (hd : ∀ c ∈ d, digit c = true) (h0 : d ≠ []) :
    cut (parts tag d) = if 3 < d.length then ([], 6) else ([⟨1, [123], 0, []⟩, ⟨3, [], num d, tg tag⟩, ⟨1, [32, 125], 0, []⟩], 0) := by
  have he : endAt (parts tag d) 0 = ((parts tag d).length : Nat) := by
    have h := endAt_inner (36 :: (nm tag ++ (d ++ [32]))) (by
      intro c hc
      simp only [List.mem_cons, List.mem_append, List.mem_nil_iff, or_false] at hc
      rcases hc with rfl | hc | hc | rfl
      · decide
      · exact nm_inner tag c hc
      · exact digit_inner (hd c hc)
      · decide)
    have e : (123 : UInt8) :: (36 :: (nm tag ++ (d ++ [32])) ++ [125]) = parts tag d := by unfold parts; simp
    rw [e] at h
    exact h
  have hl : (parts tag d).length = d.length + (nm tag).length + 4 := by unfold parts; simp; omega
  unfold cut
  rw [if_neg (by rw [he]; unfold parts; simp), hl]
  unfold parts
  rw [cutGo_skip (by decide) (by decide), show d.length + (nm tag).length + 4 = (d.length + (nm tag).length + 3) + 1 from rfl, cutGo_dollar, dollar_parts tag d hd h0]
  by_cases h : 3 < d.length
  · rw [if_pos h, if_pos h, if_pos (by decide)]
    rfl
  · rw [if_neg h, if_neg h]
    simp only
    rw [if_neg (by decide), if_pos (by omega)]
    have e : ((36 : UInt8) :: (nm tag ++ (d ++ [32, 125]))).drop ((nm tag).length + 1 + d.length) = [32, 125] := by
      rw [show (nm tag).length + 1 + d.length = ((nm tag).length + d.length) + 1 by omega, List.drop_succ_cons, ← List.append_assoc, List.drop_left' (by simp)]
    rw [e, cutGo_end]
    rfl

/-! ### Numerals -/
theorem digitVal_at (x : Nat) (h : x < 10) : digitVal (UInt8.ofNat (48 + x)) = some x := by
  have e : (UInt8.ofNat (48 + x)).toNat = 48 + x := by simp; omega
  unfold digitVal
  rw [e, if_pos (by omega)]
  congr 1; omega
theorem digit_at (x : Nat) (h : x < 10) : digit (UInt8.ofNat (48 + x)) = true := by
  have e : (UInt8.ofNat (48 + x)).toNat = 48 + x := by simp; omega
  unfold digit
  rw [e]; simp; omega
theorem decFrom_app : ∀ (a b : List UInt8) (acc : Nat), decFrom acc (a ++ b) = (decFrom acc a).bind fun v => decFrom v b
  | [], b, acc => rfl
  | c :: t, b, acc => by
    simp only [List.cons_append, decFrom]
    cases digitVal c with
    | none => rfl
    | some x => exact decFrom_app t b _
theorem decFrom_dec (m : Nat) : decFrom 0 (decDigits m) = some m := by
  induction m using Nat.strongRecOn with
  | _ m ih =>
    by_cases h : m < 10
    · rw [decDigits, dif_pos h]
      simp only [decFrom, digitVal_at m h]
      congr 1; omega
    · rw [decDigits, dif_neg h, decFrom_app, ih (m / 10) (by omega)]
      simp only [Option.bind_some, decFrom, digitVal_at (m % 10) (by omega)]
      congr 1; omega
theorem decDigits_digit (m : Nat) : ∀ c ∈ decDigits m, digit c = true := by
  induction m using Nat.strongRecOn with
  | _ m ih =>
    intro c hc
    by_cases h : m < 10
    · rw [decDigits, dif_pos h] at hc
      simp only [List.mem_singleton] at hc
      subst hc; exact digit_at m h
    · rw [decDigits, dif_neg h] at hc
      simp only [List.mem_append, List.mem_singleton] at hc
      rcases hc with hc | rfl
      · exact ih (m / 10) (by omega) c hc
      · exact digit_at (m % 10) (by omega)
theorem decDigits_ne (m : Nat) : decDigits m ≠ [] := by
  rw [decDigits]; split <;> simp
theorem decFrom_noughts : ∀ (k : Nat) (l : List UInt8), decFrom 0 (List.replicate k 48 ++ l) = decFrom 0 l
  | 0, _ => rfl
  | k + 1, l => by
    rw [List.replicate_succ, List.cons_append]
    simp only [decFrom]
    rw [show digitVal 48 = some 0 by decide]
    exact decFrom_noughts k l
/-- Noughts ahead change nothing. -/
theorem num_noughts (k m : Nat) : num (List.replicate k 48 ++ decDigits m) = m := by
  have hd : ∀ c ∈ List.replicate k 48 ++ decDigits m, digit c = true := by
    intro c hc
    simp only [List.mem_append, List.mem_replicate] at hc
    rcases hc with ⟨_, rfl⟩ | hc
    · decide
    · exact decDigits_digit m c hc
  have hv : decFrom 0 (List.replicate k 48 ++ decDigits m) = some m := by rw [decFrom_noughts, decFrom_dec]
  have hne : List.replicate k 48 ++ decDigits m ≠ [] := by simp [decDigits_ne]
  generalize List.replicate k 48 ++ decDigits m = l at *
  cases l with
  | nil => exact absurd rfl hne
  | cons c t =>
    have hc := hd c (by simp)
    unfold digit at hc
    simp at hc
    have h1 : (c == 45) = false := by
      rw [beq_eq_false_iff_ne]; rintro rfl; simp at hc
    have h2 : (c == 43) = false := by
      rw [beq_eq_false_iff_ne]; rintro rfl; simp at hc
    simp [num, Go.Lib.atoi, h1, h2, Go.Lib.decNat, hv]
end Sp
end Go.Proofs.YticdgfljaphhgaaDoor
