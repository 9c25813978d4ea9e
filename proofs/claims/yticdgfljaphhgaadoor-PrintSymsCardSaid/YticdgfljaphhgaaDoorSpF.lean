/- Plain laws: within quotes and remarks nothing is looked at. No program in sight. -/
import Derived.Test.YticdgfljaphhgaaDoorSpE
namespace Go.Proofs.YticdgfljaphhgaaDoor
namespace Sp
open Go.Lib (index indexByte hasPrefix)

/-- A byte that ends neither quotes nor a remark. -/
def tame (c : UInt8) : Bool := !((c.toNat : Int) == 34) && !((c.toNat : Int) == 39) && !((c.toNat : Int) == 96) && !((c.toNat : Int) == 92) && !((c.toNat : Int) == 10) && !((c.toNat : Int) == 42) && !((c.toNat : Int) == 47)

theorem quoteEnd_tame (q : UInt8) (hq : q = 34 ∨ q = 39) (r : List UInt8) : ∀ y : List UInt8, (∀ c ∈ y, tame c = true) → quoteEnd q (y ++ q :: r) = some (y.length + 1)
  | [], _ => by
    show quoteEnd q (q :: r) = _
    rcases hq with rfl | rfl
    all_goals
      unfold quoteEnd
      rw [if_neg (by decide), if_pos (by decide)]
      try rfl
  | c :: t, h => by
    have hc := h c (by simp)
    have ih := quoteEnd_tame q hq r t (fun x hx => h x (by simp [hx]))
    unfold tame at hc
    simp only [Bool.and_eq_true, Bool.not_eq_true'] at hc
    show quoteEnd q (c :: (t ++ q :: r)) = _
    unfold quoteEnd
    rw [if_neg (by rw [hc.1.1.1.2]; decide), if_neg (by rcases hq with rfl | rfl; (show ¬ ((c.toNat : Int) == 34) = true; rw [hc.1.1.1.1.1.1]; decide); (show ¬ ((c.toNat : Int) == 39) = true; rw [hc.1.1.1.1.1.2]; decide)), if_neg (by rw [hc.1.1.2]; decide), ih]
    rfl
theorem upto_tame1 (r : List UInt8) : ∀ y : List UInt8, (∀ c ∈ y, tame c = true) → upto (y ++ 96 :: r) [96] = some (y.length + 1)
  | [], _ => by
    show upto (96 :: r) [96] = _
    rw [upto_cons, if_pos (by rw [hasPrefix_one]; decide)]
  | c :: t, h => by
    have hc := h c (by simp)
    have ih := upto_tame1 r t (fun x hx => h x (by simp [hx]))
    unfold tame at hc
    simp only [Bool.and_eq_true, Bool.not_eq_true'] at hc
    show upto (c :: (t ++ 96 :: r)) [96] = _
    rw [upto_cons, if_neg (by rw [hasPrefix_one]; show ¬ ((c.toNat : Int) == 96) = true; rw [hc.1.1.1.1.2]; decide), ih]
    rfl
theorem upto_tame2 (r : List UInt8) : ∀ y : List UInt8, (∀ c ∈ y, tame c = true) → upto (y ++ 42 :: 47 :: r) [42, 47] = some (y.length + 2)
  | [], _ => by
    show upto (42 :: 47 :: r) [42, 47] = _
    rw [upto_cons, if_pos (by simp [hasPrefix])]
    rfl
  | c :: t, h => by
    have hc := h c (by simp)
    have ih := upto_tame2 r t (fun x hx => h x (by simp [hx]))
    unfold tame at hc
    simp only [Bool.and_eq_true, Bool.not_eq_true'] at hc
    show upto (c :: (t ++ 42 :: 47 :: r)) [42, 47] = _
    have hne : c ≠ 42 := by rintro rfl; exact absurd hc.1.2 (by decide)
    rw [upto_cons, if_neg (by simp [hasPrefix]; exact fun e => absurd e.symm hne), ih]
    rfl
theorem indexByte_tame (r : List UInt8) : ∀ y : List UInt8, (∀ c ∈ y, tame c = true) → indexByte (y ++ 10 :: r) 10 = (y.length : Nat)
  | [], _ => by
    show indexByte (10 :: r) 10 = _
    rw [indexByte_cons, if_pos (by decide)]
    rfl
  | c :: t, h => by
    have hc := h c (by simp)
    have ih := indexByte_tame r t (fun x hx => h x (by simp [hx]))
    unfold tame at hc
    simp only [Bool.and_eq_true, Bool.not_eq_true'] at hc
    show indexByte (c :: (t ++ 10 :: r)) 10 = _
    rw [indexByte_cons, if_neg (by show ¬ ((c.toNat : Int) == 10) = true; rw [hc.1.1.2]; decide), ih, if_neg (by omega)]
    simp

def ahead : Nat → List UInt8
  | 0 => [34] | 1 => [39] | 2 => [96] | 3 => [47, 47] | _ => [47, 42]
def behind : Nat → List UInt8
  | 0 => [34] | 1 => [39] | 2 => [96] | 3 => [10] | _ => [42, 47]

/-- What is passed over, and what is left of the closing mark. -/
theorem passLen_tame (j : Nat) (y r : List UInt8) (h : ∀ c ∈ y, tame c = true) :
    ∃ P R, ahead j ++ (y ++ (behind j ++ r)) = P ++ R ∧ (R = r ∨ R = 10 :: r) ∧ P ≠ [] ∧ passLen (P ++ R) = some P.length := by
  match j with
  | 0 =>
    refine ⟨34 :: (y ++ [34]), r, by simp [ahead, behind], .inl rfl, by simp, ?_⟩
    show passLen (34 :: ((y ++ [34]) ++ r)) = _
    rw [List.append_assoc]
    show passLen (34 :: (y ++ 34 :: r)) = _
    rw [passLen_cons, if_pos (by decide), quoteEnd_tame 34 (.inl rfl) r y h]
    simp
  | 1 =>
    refine ⟨39 :: (y ++ [39]), r, by simp [ahead, behind], .inl rfl, by simp, ?_⟩
    show passLen (39 :: ((y ++ [39]) ++ r)) = _
    rw [List.append_assoc]
    show passLen (39 :: (y ++ 39 :: r)) = _
    rw [passLen_cons, if_pos (by decide), quoteEnd_tame 39 (.inr rfl) r y h]
    simp
  | 2 =>
    refine ⟨96 :: (y ++ [96]), r, by simp [ahead, behind], .inl rfl, by simp, ?_⟩
    show passLen (96 :: ((y ++ [96]) ++ r)) = _
    rw [List.append_assoc]
    show passLen (96 :: (y ++ 96 :: r)) = _
    rw [passLen_cons, if_neg (by decide), if_pos (by decide), upto_tame1 r y h]
    simp
  | 3 =>
    refine ⟨47 :: 47 :: y, 10 :: r, by simp [ahead, behind], .inr rfl, by simp, ?_⟩
    show passLen (47 :: (47 :: (y ++ 10 :: r))) = _
    rw [passLen_cons, if_neg (by decide), if_neg (by decide), if_neg (by simp [hasPrefix]), if_pos (by simp [hasPrefix])]
    have h1 : indexByte (47 :: (y ++ 10 :: r)) 10 = ((y.length : Nat) : Int) + 1 := by
      rw [indexByte_cons, if_neg (by decide), indexByte_tame r y h, if_neg (by omega)]
    have h2 : indexByte (47 :: 47 :: (y ++ 10 :: r)) 10 = ((y.length : Nat) : Int) + 1 + 1 := by
      rw [indexByte_cons, if_neg (by decide), h1, if_neg (by omega)]
    unfold line
    rw [h2, if_pos (by omega)]
    simp
    omega
  | k + 4 =>
    refine ⟨47 :: 42 :: (y ++ [42, 47]), r, by simp [ahead, behind], .inl rfl, by simp, ?_⟩
    show passLen (47 :: (42 :: ((y ++ [42, 47]) ++ r))) = _
    rw [List.append_assoc]
    show passLen (47 :: (42 :: (y ++ 42 :: 47 :: r))) = _
    rw [passLen_cons, if_neg (by decide), if_neg (by decide), if_pos (by simp [hasPrefix]), List.drop_succ_cons, List.drop_zero, upto_tame2 r y h]
    simp

theorem endGo_pass {f n : Nat} {d : Int} {P R : List UInt8} (hP : P.length = n + 1) (hp : passLen (P ++ R) = some (n + 1)) : endGo (f + 1) d (P ++ R) = (endGo f d R).map (· + (n + 1)) := by
  cases P with
  | nil => simp at hP
  | cons c t =>
    show endGo (f + 1) d (c :: (t ++ R)) = _
    conv => lhs; unfold endGo
    rw [show c :: (t ++ R) = (c :: t) ++ R from rfl, hp]
    simp only
    rw [List.drop_left' hP]
theorem cutGo_pass {f n : Nat} {pend P R : List UInt8} (hP : P.length = n + 1) (hp : passLen (P ++ R) = some (n + 1)) : cutGo (f + 1) pend (P ++ R) = cutGo f (pend ++ P) R := by
  cases P with
  | nil => simp at hP
  | cons c t =>
    show cutGo (f + 1) pend (c :: (t ++ R)) = _
    conv => lhs; unfold cutGo
    rw [show c :: (t ++ R) = (c :: t) ++ R from rfl, hp]
    simp only
    rw [List.drop_left' hP, List.take_left' hP]

theorem cutGo_last (f : Nat) (pend : List UInt8) (h : pend ≠ []) : cutGo (f + 3) pend [36, 50, 125] = some [⟨1, pend, 0, []⟩, ⟨3, [], 2, []⟩, ⟨1, [125], 0, []⟩] := by
  rw [cutGo_dollar]
  have hd : dollar [50, 125] = (⟨3, [], 2, []⟩, 2, 0) := by decide
  rw [hd, if_neg (by decide), if_pos (by decide)]
  simp only [List.drop_succ_cons, List.drop_zero]
  rw [cutGo_skip (by decide) (by decide)]
  unfold flush
  rw [if_neg h]
  rfl
/-- THE LAW. -/
theorem cut_skip (P R : List UInt8) (hP : P ≠ []) (hp : passLen (P ++ R) = some P.length) (hR : R = [36, 50, 125] ∨ R = [10, 36, 50, 125]) :
    endAt (123 :: (P ++ R)) 0 = ((123 :: (P ++ R)).length : Nat) ∧ ∃ X, cut (123 :: (P ++ R)) = ([⟨1, X, 0, []⟩, ⟨3, [], 2, []⟩, ⟨1, [125], 0, []⟩], 0) := by
  obtain ⟨n, hn⟩ : ∃ n, P.length = n + 1 := ⟨P.length - 1, by have : P.length ≠ 0 := fun h => hP (List.eq_nil_of_length_eq_zero h); omega⟩
  have hp' := hp
  rw [hn] at hp'
  have he : endAt (123 :: (P ++ R)) 0 = ((123 :: (P ++ R)).length : Nat) := by
    unfold endAt
    rw [if_pos (by simp; omega)]
    show place 0 (endLen (123 :: (P ++ R))) = _
    unfold endLen
    simp only
    rw [if_pos (by decide)]
    unfold endGo
    rw [plain_pass _ (c := 123) (by decide)]
    simp only
    rw [if_neg (by decide)]
    rw [show (if ((((123 : UInt8).toNat : Int)) == 123) = true then (0 : Int) + 1 else if ((((123 : UInt8).toNat : Int)) == 125) = true then 0 - 1 else 0) = 1 by decide]
    have hl : (123 :: (P ++ R)).length = P.length + R.length + 1 := by simp
    rw [hl, endGo_pass hn hp']
    have hr : endGo (P.length + R.length) 1 R = some R.length := by
      rcases hR with rfl | rfl
      · exact endGo_inner [36, 50] _ (by decide) (by simp)
      · exact endGo_inner [10, 36, 50] _ (by decide) (by simp)
    rw [hr]
    simp [place]
    omega
  refine ⟨he, ?_⟩
  unfold cut
  rw [if_neg (by rw [he]; simp)]
  have hl : (123 :: (P ++ R)).length + 1 = (P.length + R.length - 3 + 3 + 1) + 1 := by
    rcases hR with rfl | rfl <;> simp
  rw [hl, cutGo_skip (by decide) (by decide), cutGo_pass hn hp']
  rcases hR with rfl | rfl
  · refine ⟨[] ++ [123] ++ P, ?_⟩
    rw [cutGo_last _ _ (by simp)]
    rfl
  · refine ⟨[] ++ [123] ++ P ++ [10], ?_⟩
    obtain ⟨g, hg⟩ : ∃ g, P.length + ([10, 36, 50, 125] : List UInt8).length - 3 + 3 = (g + 3) + 1 := ⟨P.length - 0, by simp⟩
    rw [hg, cutGo_skip (by decide) (by decide), cutGo_last _ _ (by simp)]
    rfl
end Sp
end Go.Proofs.YticdgfljaphhgaaDoor
