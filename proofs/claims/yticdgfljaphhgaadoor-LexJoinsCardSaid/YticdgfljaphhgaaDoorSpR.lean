/- Plain laws: how many words there are. No program in sight. -/
import Derived.Test.YticdgfljaphhgaaDoorSpQ
namespace Go.Proofs.YticdgfljaphhgaaDoor
namespace Sp
open Go.Lib (index indexByte hasPrefix)

theorem wordsGo_len : ∀ (f m p : Nat) (r : List UInt8) (ws : List Word), wordsGo f m p r = .ok ws → ws.length ≤ r.length + 1
  | 0, _, _, _, _, h => by simp [wordsGo] at h
  | f + 1, m, p, r, ws, h => by
    unfold wordsGo at h
    have hs := skip_len r
    split at h
    · cases h; simp
    · split at h
      · cases h
      · rename_i hn
        have h0 : (word (r.drop (skip r).1)).2.2 ≠ 0 := fun e => hn (.inr e)
        have hl := word_le (r.drop (skip r).1)
        generalize (if (word (r.drop (skip r).1)).1 = 7 then m + 1 else m) = m' at h
        split at h
        · cases h; simp
        · cases hw : wordsGo f m' (p + (skip r).1 + (word (r.drop (skip r).1)).2.2) ((r.drop (skip r).1).drop (word (r.drop (skip r).1)).2.2) with
          | error e => rw [hw] at h; cases h
          | ok vs =>
            rw [hw] at h
            cases h
            have := wordsGo_len f _ _ _ _ hw
            simp at this hl ⊢
            omega
theorem words_len (l : List UInt8) : (words l).1.length ≤ l.length + 1 := by
  unfold words
  split
  · simp
  · cases hw : wordsGo (l.length + 1) 0 0 l with
    | error e => simp [wordsRes]
    | ok ws => exact wordsGo_len _ _ _ _ _ hw
end Sp
end Go.Proofs.YticdgfljaphhgaaDoor
