/- Plain laws: words, step by step. No program in sight. -/
import Derived.Test.YticdgfljaphhgaaDoorSpP
namespace Go.Proofs.YticdgfljaphhgaaDoor
namespace Sp
open Go.Lib (index indexByte hasPrefix)

theorem wordsGo_gap (f m p n : Nat) (r : List UInt8) (h : gap r = some (n + 1)) : wordsGo (f + 1) m p r = wordsGo (f + 1) m (p + (n + 1)) (r.drop (n + 1)) := by
  have hl := gap_le _ _ h
  unfold wordsGo
  rw [skip_succ h]
  have hd : ∀ a, r.drop (n + 1 + a) = (r.drop (n + 1)).drop a := fun a => by rw [List.drop_drop]
  have hll : (r.drop (n + 1)).length = r.length - (n + 1) := List.length_drop
  generalize skip (r.drop (n + 1)) = q at *
  obtain ⟨a, b⟩ := q
  simp only
  rw [hd a, hll, ← Nat.add_assoc p (n + 1) a]
  have e : (r.length = n + 1 + a) ↔ (r.length - (n + 1) = a) := by omega
  simp only [e]
theorem wordsGo_bad (f m p : Nat) (r : List UInt8) (h : gap r = none) : wordsGo (f + 1) m p r = .error p := by
  unfold wordsGo
  rw [skip_none h, if_neg (by simp), if_pos (.inl rfl)]
  rfl
theorem wordsGo_nil (f m p : Nat) : wordsGo (f + 1) m p [] = .ok [⟨10, [], p⟩] := by
  unfold wordsGo
  rw [skip_nil, if_pos ⟨rfl, rfl⟩]
  rfl
theorem wordsGo_word (f m p : Nat) (r : List UInt8) (h : gap r = some 0) (hr : r ≠ []) : wordsGo (f + 1) m p r =
    if (word r).2.2 = 0 then .error p
    else if (if (word r).1 = 7 then m + 1 else m) = 2 then .ok [⟨10, r.drop (word r).2.2, (p + (word r).2.2 : Nat)⟩]
    else (wordsGo f (if (word r).1 = 7 then m + 1 else m) (p + (word r).2.2) (r.drop (word r).2.2)).map (⟨(word r).1, (word r).2.1, (p : Nat)⟩ :: ·) := by
  have hl : r.length ≠ 0 := fun e => hr (List.eq_nil_of_length_eq_zero e)
  conv => lhs; unfold wordsGo
  rw [skip_zero h, if_neg (by simp; exact hr)]
  simp only [Nat.add_zero, List.drop_zero, Bool.true_eq_false, false_or]
end Sp
end Go.Proofs.YticdgfljaphhgaaDoor
