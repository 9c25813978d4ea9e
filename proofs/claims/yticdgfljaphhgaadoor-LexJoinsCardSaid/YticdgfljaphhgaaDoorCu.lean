/- LexJoins: the plain law (words of a text stand again in their texts, with blanks or remarks between; no program in sight), then the walk. -/
import Derived.Test.YticdgfljaphhgaaDoorCp
import Derived.Deep.RegionHeld3
import Derived.IntWalk
import Derived.Test.YticdgfljaphhgaaDoorSpR
namespace Go.Proofs.YticdgfljaphhgaaDoor
namespace Sp
open Go.Lib (index indexByte hasPrefix)

theorem jwordsGo_end (f m p : Nat) (r : List UInt8) (h : skip r = (r.length, true)) : wordsGo (f + 1) m p r = .ok [⟨10, [], (p + r.length : Nat)⟩] := by
  unfold wordsGo
  rw [h, if_pos ⟨rfl, rfl⟩]
theorem jwordsGo_at (f m p n : Nat) (r : List UInt8) (h : skip r = (n, true)) (hn : r.length ≠ n) : wordsGo (f + 1) m p r =
    if (word (r.drop n)).2.2 = 0 then .error (p + n)
    else if (if (word (r.drop n)).1 = 7 then m + 1 else m) = 2 then .ok [⟨10, (r.drop n).drop (word (r.drop n)).2.2, (p + n + (word (r.drop n)).2.2 : Nat)⟩]
    else (wordsGo f (if (word (r.drop n)).1 = 7 then m + 1 else m) (p + n + (word (r.drop n)).2.2) ((r.drop n).drop (word (r.drop n)).2.2)).map (⟨(word (r.drop n)).1, (word (r.drop n)).2.1, (p + n : Nat)⟩ :: ·) := by
  conv => lhs; unfold wordsGo
  rw [h, if_neg (by simp; exact hn)]
  simp only [Bool.true_eq_false, false_or]
theorem jwordsGo_skip (f m p : Nat) (r : List UInt8) (ws : List Word) (h : wordsGo (f + 1) m p r = .ok ws) : skip r = ((skip r).1, true) := by
  cases hb : (skip r).2 with
  | false =>
    exfalso
    unfold wordsGo at h
    rw [hb] at h
    rw [if_neg (by simp), if_pos (.inl rfl)] at h
    cases h
  | true => rw [← hb]

/-- The text in which a word stands again. -/
def wordText (w : Word) : List UInt8 :=
  if w.kind = 2 then (match w.text with
    | [c] => quoteText c
    | _ => [])
  else if w.kind = 4 then 60 :: (w.text ++ [62]) else if w.kind = 9 then 37 :: 123 :: (w.text ++ [37, 125]) else w.text
def betweens : List (List UInt8) := [[32], [10], [47, 42, 32, 37, 37, 32, 42, 47], [47, 47, 32, 120, 10], [9, 13]]
/-- What may stand between words, whatever follows. -/
def Gap (c : List UInt8) : Prop := ∀ R, skip (c ++ R) = (c.length + (skip R).1, (skip R).2)
theorem Gap.nil : Gap [] := fun R => by simp
theorem Gap.app {a b : List UInt8} (ha : Gap a) (hb : Gap b) : Gap (a ++ b) := by
  intro R
  rw [List.append_assoc, ha, hb, List.length_append, Nat.add_assoc]
theorem gap_blank {c : UInt8} (hc : blank c = true) : Gap [c] := by
  intro R
  have e : gap (c :: R) = some (0 + 1) := by
    show (if blank c = true then some 1 else _) = _
    rw [if_pos hc]
  show skip (c :: R) = _
  rw [skip_succ e]
  rfl
theorem gap_remark : Gap [47, 42, 32, 37, 37, 32, 42, 47] := by
  intro R
  have e : gap (47 :: 42 :: 32 :: 37 :: 37 :: 32 :: 42 :: 47 :: R) = some (7 + 1) := by
    have e1 : gap (47 :: 42 :: 32 :: 37 :: 37 :: 32 :: 42 :: 47 :: R) = passLen (47 :: 42 :: 32 :: 37 :: 37 :: 32 :: 42 :: 47 :: R) := rfl
    rw [e1, passLen_cons, if_neg (by decide), if_neg (by decide), if_pos (by rw [hasPrefix_two]; decide)]
    show (upto (32 :: 37 :: 37 :: 32 :: 42 :: 47 :: R) [42, 47]).map (· + 2) = _
    rw [upto_cons, if_neg (by rw [hasPrefix_two]; decide), upto_cons, if_neg (by rw [hasPrefix_two]; decide), upto_cons, if_neg (by rw [hasPrefix_two]; decide), upto_cons, if_neg (by rw [hasPrefix_two]; decide), upto_cons, if_pos (by rw [hasPrefix_two]; decide)]
    rfl
  show skip (47 :: 42 :: 32 :: 37 :: 37 :: 32 :: 42 :: 47 :: R) = _
  rw [skip_succ e]
  rfl
theorem gap_line : Gap [47, 47, 32, 120, 10] := by
  intro R
  have e : gap (47 :: 47 :: 32 :: 120 :: 10 :: R) = some (3 + 1) := by
    have e1 : gap (47 :: 47 :: 32 :: 120 :: 10 :: R) = passLen (47 :: 47 :: 32 :: 120 :: 10 :: R) := rfl
    rw [e1, passLen_cons, if_neg (by decide), if_neg (by decide), if_neg (by rw [hasPrefix_two]; decide), if_pos (by rw [hasPrefix_two]; decide)]
    rw [line_cons, if_neg (by decide), line_cons, if_neg (by decide), line_cons, if_neg (by decide), line_cons, if_neg (by decide), line_cons, if_pos (by decide)]
  show skip (47 :: 47 :: 32 :: 120 :: 10 :: R) = _
  rw [skip_succ e]
  have h := gap_blank (c := 10) (by decide) R
  show ((3 + 1) + (skip (10 :: R)).1, (skip (10 :: R)).2) = _
  rw [show skip (10 :: R) = _ from h]
  simp only [List.length_cons, List.length_nil, Prod.mk.injEq, and_true]
  omega
theorem betweens_gap (c : List UInt8) (h : c ∈ betweens) : Gap c ∧ ∃ x u, c = x :: u ∧ (x = 32 ∨ x = 10 ∨ x = 47 ∨ x = 9) := by
  unfold betweens at h
  simp only [List.mem_cons, List.not_mem_nil, or_false] at h
  rcases h with rfl | rfl | rfl | rfl | rfl
  · exact ⟨gap_blank (by decide), _, _, rfl, .inl rfl⟩
  · exact ⟨gap_blank (by decide), _, _, rfl, .inr (.inl rfl)⟩
  · exact ⟨gap_remark, _, _, rfl, .inr (.inr (.inl rfl))⟩
  · exact ⟨gap_line, _, _, rfl, .inr (.inr (.inl rfl))⟩
  · exact ⟨Gap.app (a := [9]) (b := [13]) (gap_blank (by decide)) (gap_blank (by decide)), _, _, rfl, .inr (.inr (.inr rfl))⟩

theorem word_none (c : UInt8) (t : List UInt8) (h : c = 32 ∨ c = 9 ∨ c = 10 ∨ c = 13 ∨ c = 47) : word (c :: t) = noWord := by
  rw [word_cons]
  rcases h with rfl | rfl | rfl | rfl | rfl <;>
  rw [if_neg (by decide), if_neg (by decide), if_neg (by decide), if_neg (by decide), if_neg (by decide), if_neg (by decide), if_neg (by decide)]
/-- Ahead of a word's first byte there is nothing to skip. -/
theorem word_head (c : UInt8) (t u : List UInt8) (h : (word (c :: t)).2.2 ≠ 0) : gap (c :: u) = some 0 := by
  show (if blank c = true then some 1 else if ((c.toNat : Int) == 47) = true then passLen (c :: u) else some 0) = some 0
  rw [if_neg, if_neg]
  · intro h1
    have : c = 47 := UInt8.toNat_inj.1 (by simp at h1; show c.toNat = 47; omega)
    exact h (by rw [word_none c t (by simp [this])]; rfl)
  · intro h1
    unfold blank at h1
    simp only [Bool.or_eq_true, beq_iff_eq] at h1
    have hc : c = 32 ∨ c = 9 ∨ c = 10 ∨ c = 13 := by
      rcases h1 with ((h1 | h1) | h1) | h1
      · exact .inl (UInt8.toNat_inj.1 (by show c.toNat = 32; omega))
      · exact .inr (.inl (UInt8.toNat_inj.1 (by show c.toNat = 9; omega)))
      · exact .inr (.inr (.inl (UInt8.toNat_inj.1 (by show c.toNat = 10; omega))))
      · exact .inr (.inr (.inr (UInt8.toNat_inj.1 (by show c.toNat = 13; omega))))
    exact h (by rw [word_none c t (by rcases hc with rfl | rfl | rfl | rfl <;> simp)]; rfl)
theorem upto_two (d e : UInt8) : ∀ (l : List UInt8) (k : Nat), upto l [d, e] = some k → 2 ≤ k ∧ l.take k = l.take (k - 2) ++ [d, e]
  | [], k, h => by rw [upto_nil] at h; cases h
  | c :: t, k, h => by
    rw [upto_cons] at h
    split at h
    · rename_i hp
      cases h
      refine ⟨Nat.le_refl _, ?_⟩
      cases t with
      | nil => simp [hasPrefix, List.isPrefixOf] at hp
      | cons b u =>
        rw [hasPrefix_two] at hp
        simp only [Bool.and_eq_true, beq_iff_eq] at hp
        obtain ⟨rfl, rfl⟩ := hp
        rfl
    · obtain ⟨m, hm, rfl⟩ := Option.map_eq_some_iff.1 h
      obtain ⟨h1, h2⟩ := upto_two d e t m hm
      refine ⟨by omega, ?_⟩
      rw [List.take_succ_cons, h2, show m + 1 - 2 = (m - 2) + 1 by omega, List.take_succ_cons]
      rfl
theorem hasPrefix_take {r p : List UInt8} (h : hasPrefix r p = true) : r.take p.length = p := by
  have := List.isPrefixOf_iff_prefix.1 h
  exact (List.prefix_iff_eq_take.1 this).symm
/-- A word's text is what it took. -/
theorem word_text (r : List UInt8) (k : Int) (tx : List UInt8) (len : Nat) (p : Int) (h : word r = (k, tx, len)) (h0 : len ≠ 0) : wordText ⟨k, tx, p⟩ = r.take len ∧ k ≠ 10 := by
  have hno : (noWord : Int × List UInt8 × Nat) ≠ (k, tx, len) := by
    intro e
    have := congrArg (fun p : Int × List UInt8 × Nat => p.2.2) e
    exact h0 (by simpa [noWord] using this.symm)
  cases r with
  | nil => exact absurd h hno
  | cons c t =>
    rw [word_cons] at h
    split at h
    · split at h
      · cases h; exact ⟨rfl, by decide⟩
      · exact absurd h hno
    split at h
    · split at h
      · cases h; exact ⟨rfl, by decide⟩
      · exact absurd h hno
    split at h
    · cases hc : charTake (c :: t) with
      | none => rw [hc] at h; exact absurd h hno
      | some bn =>
        obtain ⟨b, n⟩ := bn
        rw [hc] at h
        cases h
        obtain ⟨_, h1, h2⟩ := charTake_some _ _ _ hc
        refine ⟨?_, by decide⟩
        show quoteText b = _
        rw [h2, hasPrefix_take h1]
    split at h
    · rename_i hc
      split at h
      · rename_i hp
        cases h
        refine ⟨?_, by decide⟩
        have hc' : c = 60 := UInt8.toNat_inj.1 (by simp at hc; show c.toNat = 60; omega)
        subst hc'
        show (60 : UInt8) :: (t.take (nameLen true t) ++ [62]) = (60 :: t).take (nameLen true t + 1 + 1)
        rw [List.take_succ_cons]
        have := hasPrefix_take hp.2
        rw [List.take_add]
        rw [show (t.drop (nameLen true t)).take 1 = [62] from this]
      · exact absurd h hno
    split at h
    · unfold percent at h
      split at h
      · rename_i hp
        cases h
        exact ⟨(hasPrefix_take hp).symm, by decide⟩
      split at h
      · rename_i hp
        cases hu : upto ((c :: t).drop 2) [37, 125] with
        | none => rw [hu] at h; exact absurd h hno
        | some m =>
          rw [hu] at h
          cases h
          obtain ⟨h1, h2⟩ := upto_two _ _ _ _ hu
          refine ⟨?_, by decide⟩
          have h3 := hasPrefix_take hp
          show (37 : UInt8) :: 123 :: (((c :: t).drop 2).take (m - 2) ++ [37, 125]) = (c :: t).take (m + 2)
          rw [Nat.add_comm m 2, List.take_add, ← h2]
          rw [show (c :: t).take 2 = [37, 123] from h3]
          rfl
      split at h
      · cases h; exact ⟨rfl, by decide⟩
      · exact absurd h hno
    split at h
    · cases h; exact ⟨rfl, by decide⟩
    split at h
    · cases he : endLen (c :: t) with
      | none => rw [he] at h; exact absurd h hno
      | some n => rw [he] at h; cases h; exact ⟨rfl, by decide⟩
    · exact absurd h hno

/-- Where words stand. -/
theorem wordsGo_pos : ∀ (f m p : Nat) (r : List UInt8) (ws : List Word), wordsGo f m p r = .ok ws → 0 < ws.length ∧
    (∀ i x, ws[i]? = some x → (p : Int) ≤ x.at_ ∧ x.at_ ≤ ((p + r.length : Nat) : Int) ∧ (x.kind = 10 ↔ i + 1 = ws.length)) ∧
    (∀ i x y, ws[i]? = some x → ws[i + 1]? = some y → x.at_ ≤ y.at_) ∧ (∀ x ∈ ws, x.kind ≠ 10 → (wordText x).length ≤ r.length)
  | 0, _, _, _, _, h => by simp [wordsGo] at h
  | f + 1, m, p, r, ws, h => by
    have hs := jwordsGo_skip _ _ _ _ _ h
    have hnl := skip_len r
    generalize (skip r).1 = n at hs hnl
    have one : ∀ t : List UInt8, ∀ q : Nat, q ≤ p + r.length → p ≤ q → ws = [⟨10, t, (q : Nat)⟩] → 0 < ws.length ∧
        (∀ i x, ws[i]? = some x → (p : Int) ≤ x.at_ ∧ x.at_ ≤ ((p + r.length : Nat) : Int) ∧ (x.kind = 10 ↔ i + 1 = ws.length)) ∧
        (∀ i x y, ws[i]? = some x → ws[i + 1]? = some y → x.at_ ≤ y.at_) ∧ (∀ x ∈ ws, x.kind ≠ 10 → (wordText x).length ≤ r.length) := by
      rintro t q hq hpq rfl
      refine ⟨Nat.one_pos, ?_, ?_, ?_⟩
      · intro i x hx
        cases i with
        | zero => cases hx; exact ⟨by show (p : Int) ≤ (q : Int); omega, by show (q : Int) ≤ _; omega, by simp⟩
        | succ i => simp at hx
      · intro i x y hx hy
        simp at hy
      · intro x hx hk
        simp only [List.mem_singleton] at hx
        subst hx
        exact absurd rfl hk
    by_cases he : r.length = n
    · rw [← he] at hs
      rw [jwordsGo_end f m p r hs] at h
      cases h
      exact one [] (p + r.length) (Nat.le_refl _) (by omega) rfl
    · rw [jwordsGo_at f m p n r hs he] at h
      have hwl := word_le (r.drop n)
      obtain ⟨k, tx, len, hw⟩ : ∃ k tx len, word (r.drop n) = (k, tx, len) := ⟨_, _, _, rfl⟩
      rw [hw] at h hwl
      simp only at h hwl
      rw [List.length_drop] at hwl
      by_cases h0 : len = 0
      · rw [if_pos h0] at h; cases h
      · rw [if_neg h0] at h
        generalize hmm : (if k = 7 then m + 1 else m) = m' at h
        split at h
        · cases h
          exact one _ (p + n + len) (by omega) (by omega) rfl
        · cases hg : wordsGo f m' (p + n + len) ((r.drop n).drop len) with
          | error e => rw [hg] at h; cases h
          | ok vs =>
            rw [hg] at h
            cases h
            obtain ⟨i0, i1, i2, i3⟩ := wordsGo_pos f _ _ _ vs hg
            obtain ⟨t1, t2⟩ := word_text (r.drop n) k tx len (p + n : Nat) hw h0
            have hll : ((r.drop n).drop len).length = r.length - n - len := by rw [List.length_drop, List.length_drop]
            refine ⟨Nat.succ_pos _, ?_, ?_, ?_⟩
            · intro i x hx
              cases i with
              | zero =>
                cases hx
                refine ⟨by show (p : Int) ≤ ((p + n : Nat) : Int); omega, by show ((p + n : Nat) : Int) ≤ _; omega, ?_⟩
                simp only [List.length_cons]
                exact ⟨fun e => absurd e t2, fun e => by omega⟩
              | succ i =>
                obtain ⟨j1, j2, j3⟩ := i1 i x hx
                rw [hll] at j2
                refine ⟨by omega, by omega, ?_⟩
                rw [j3]
                simp only [List.length_cons]
                omega
            · intro i x y hx hy
              cases i with
              | zero =>
                cases hx
                obtain ⟨j1, _, _⟩ := i1 0 y hy
                show ((p + n : Nat) : Int) ≤ _
                omega
              | succ i => exact i2 i x y hx hy
            · intro x hx hk
              simp only [List.mem_cons] at hx
              rcases hx with rfl | hx
              · rw [t1, List.length_take]; rw [List.length_drop]; omega
              · have := i3 x hx hk
                rw [hll] at this
                omega

/-- Words in their texts, a ahead of each, b behind each. -/
def joined (a b : List UInt8) (l : List Word) : List UInt8 := l.flatMap fun w => a ++ wordText w ++ b
theorem joined_cons (a b : List UInt8) (w : Word) (l : List Word) : joined a b (w :: l) = a ++ wordText w ++ b ++ joined a b l := rfl
theorem joined_snoc (a b : List UInt8) (w : Word) (l : List Word) : joined a b (l ++ [w]) = joined a b l ++ (a ++ wordText w ++ b) := by simp [joined]
theorem joined_len (a b : List UInt8) (ha : a ≠ []) : ∀ l : List Word, l.length ≤ (joined a b l).length
  | [] => Nat.zero_le _
  | w :: l => by
    rw [joined_cons]
    have := joined_len a b ha l
    have h1 : 0 < a.length := List.length_pos_iff.2 ha
    simp only [List.length_append, List.length_cons]
    omega
theorem joined_le (a b : List UInt8) (n : Nat) (ha : a.length ≤ 8) (hb : b.length ≤ 8) : ∀ l : List Word, (∀ x ∈ l, (wordText x).length ≤ n) → (joined a b l).length ≤ l.length * (n + 16)
  | [], _ => Nat.zero_le _
  | w :: l, h => by
    rw [joined_cons]
    have h1 := joined_le a b n ha hb l (fun x hx => h x (by simp [hx]))
    have h2 := h w (by simp)
    simp only [List.length_append, List.length_cons, Nat.succ_mul]
    omega
/-- THE LAW. -/
theorem joins (a b : List UInt8) (ha : a ∈ betweens) (hb : b ∈ betweens) : ∀ (f m p : Nat) (r : List UInt8) (ws : List Word), wordsGo f m p r = .ok ws → ∀ G, Gap G → ∀ f' p', ws.length ≤ f' →
    ∃ vs, wordsGo f' m p' (G ++ joined a b (ws.take (ws.length - 1))) = .ok vs ∧ vs.length = ws.length ∧ ∀ i x, i + 1 < ws.length → ws[i]? = some x → ∃ q, vs[i]? = some ⟨x.kind, x.text, q⟩
  | 0, _, _, _, _, h, _, _, _, _, _ => by simp [wordsGo] at h
  | f + 1, m, p, r, ws, h, G, hG, f', p', hf => by
    have hpos := (wordsGo_pos _ _ _ _ _ h).1
    obtain ⟨g, rfl⟩ : ∃ g, f' = g + 1 := ⟨f' - 1, by omega⟩
    have hs := jwordsGo_skip _ _ _ _ _ h
    have hnl := skip_len r
    generalize (skip r).1 = n at hs hnl
    have one : ∀ x, ws = [x] → ∃ vs, wordsGo (g + 1) m p' (G ++ joined a b (ws.take (ws.length - 1))) = .ok vs ∧ vs.length = ws.length ∧ ∀ i x, i + 1 < ws.length → ws[i]? = some x → ∃ q, vs[i]? = some ⟨x.kind, x.text, q⟩ := by
      rintro x rfl
      have hsg := hG []
      rw [skip_nil] at hsg
      refine ⟨_, jwordsGo_end g m p' (G ++ []) (by rw [hsg]; simp), rfl, ?_⟩
      intro i x hi
      simp at hi
    by_cases he : r.length = n
    · rw [← he] at hs
      rw [jwordsGo_end f m p r hs] at h
      cases h
      exact one _ rfl
    · rw [jwordsGo_at f m p n r hs he] at h
      have hwl := word_le (r.drop n)
      obtain ⟨k, tx, len, hw⟩ : ∃ k tx len, word (r.drop n) = (k, tx, len) := ⟨_, _, _, rfl⟩
      rw [hw] at h hwl
      simp only at h hwl
      by_cases h0 : len = 0
      · rw [if_pos h0] at h; cases h
      · rw [if_neg h0] at h
        generalize hmm : (if k = 7 then m + 1 else m) = m' at h
        split at h
        · cases h
          exact one _ rfl
        · rename_i hm2
          cases hg : wordsGo f m' (p + n + len) ((r.drop n).drop len) with
          | error e => rw [hg] at h; cases h
          | ok us =>
            rw [hg] at h
            cases h
            have hup := (wordsGo_pos _ _ _ _ _ hg).1
            obtain ⟨t1, t2⟩ := word_text (r.drop n) k tx len (p + n : Nat) hw h0
            obtain ⟨gb, xb, ub, hbe, hbx⟩ := betweens_gap b hb
            obtain ⟨vs, hv1, hv2, hv3⟩ := joins a b ha hb f _ _ _ us hg b gb g (p' + (G ++ a).length + len) (by simp at hf; omega)
            have hX0 : (r.drop n).take len ≠ [] := by
              intro e
              have := congrArg List.length e
              rw [List.length_take, List.length_nil] at this
              omega
            have hXl : ((r.drop n).take len).length = len := by rw [List.length_take]; omega
            have hXR : (r.drop n).take len ++ (r.drop n).drop len = r.drop n := List.take_append_drop _ _
            have hst := word_stable ((r.drop n).drop len) (b ++ joined a b (us.take (us.length - 1))) ((r.drop n).take len) tx k hX0 (by
              right
              intro c hc
              rw [hbe] at hc
              cases hc
              rcases hbx with h | h | h | h
              · exact .inl h
              · exact .inr (.inl h)
              · exact .inr (.inr (.inl h))
              · exact .inr (.inr (.inr h))) (by rw [hXR, hXl, hw])
            have hjt : joined a b ((⟨k, tx, (p + n : Nat)⟩ :: us : List Word).take ((⟨k, tx, (p + n : Nat)⟩ :: us : List Word).length - 1)) = a ++ ((r.drop n).take len ++ (b ++ joined a b (us.take (us.length - 1)))) := by
              rw [show (⟨k, tx, (p + n : Nat)⟩ :: us : List Word).length - 1 = (us.length - 1) + 1 by simp only [List.length_cons]; omega, List.take_succ_cons, joined_cons, t1]
              simp only [List.append_assoc]
            rw [hjt]
            generalize (r.drop n).take len = X at *
            generalize b ++ joined a b (us.take (us.length - 1)) = J at *
            have hsk : skip (X ++ J) = (0, true) := by
              cases X with
              | nil => exact absurd rfl hX0
              | cons c X' =>
                refine skip_zero (word_head c (X' ++ J) (X' ++ J) ?_)
                rw [show word (c :: (X' ++ J)) = _ from hst]
                simp
            have hga : skip (G ++ (a ++ (X ++ J))) = ((G ++ a).length, true) := by
              rw [← List.append_assoc, hG.app (betweens_gap a ha).1, hsk]
              simp
            have hdr : (G ++ (a ++ (X ++ J))).drop (G ++ a).length = X ++ J := by
              rw [← List.append_assoc, List.drop_left' rfl]
            rw [jwordsGo_at g m p' _ _ hga (by
              have : 0 < X.length := List.length_pos_iff.2 hX0
              simp only [List.length_append]; omega), hdr, hst]
            simp only
            rw [hXl, if_neg h0, hmm, if_neg hm2]
            rw [List.drop_left' hXl, hv1]
            refine ⟨_, rfl, by simp [hv2], ?_⟩
            intro i x hi hx
            cases i with
            | zero => cases hx; exact ⟨_, rfl⟩
            | succ i => exact hv3 i x (by simp at hi; omega) hx

theorem words_pos (S : List UInt8) (ws : List Word) (h : words S = (ws, 0, 0)) : 0 < ws.length ∧
    (∀ i x, ws[i]? = some x → 0 ≤ x.at_ ∧ x.at_ ≤ (S.length : Int) ∧ (x.kind = 10 ↔ i + 1 = ws.length)) ∧
    (∀ i x y, ws[i]? = some x → ws[i + 1]? = some y → x.at_ ≤ y.at_) ∧ (∀ x ∈ ws, x.kind ≠ 10 → (wordText x).length ≤ S.length) := by
  unfold words at h
  split at h
  · cases h
  · cases hw : wordsGo (S.length + 1) 0 0 S with
    | error e => rw [hw] at h; simp [wordsRes] at h
    | ok us =>
      rw [hw] at h
      simp [wordsRes] at h
      subst h
      obtain ⟨i0, i1, i2, i3⟩ := wordsGo_pos _ _ _ _ _ hw
      refine ⟨i0, fun i x hx => ?_, i2, i3⟩
      have := i1 i x hx
      simpa using this
theorem words_joined (S a b : List UInt8) (ws : List Word) (h : words S = (ws, 0, 0)) (ha : a ∈ betweens) (hb : b ∈ betweens) (hl : ¬ 4000 < (joined a b (ws.take (ws.length - 1))).length) :
    ∃ vs, words (joined a b (ws.take (ws.length - 1))) = (vs, 0, 0) ∧ vs.length = ws.length ∧ ∀ i x, i + 1 < ws.length → ws[i]? = some x → ∃ q, vs[i]? = some ⟨x.kind, x.text, q⟩ := by
  unfold words at h
  split at h
  · cases h
  · cases hw : wordsGo (S.length + 1) 0 0 S with
    | error e => rw [hw] at h; simp [wordsRes] at h
    | ok us =>
      rw [hw] at h
      simp [wordsRes] at h
      subst h
      have hup := (wordsGo_pos _ _ _ _ _ hw).1
      have hane : a ≠ [] := by
        obtain ⟨_, x, u, h, _⟩ := betweens_gap a ha
        rw [h]; simp
      have h1 := joined_len a b hane (us.take (us.length - 1))
      rw [List.length_take] at h1
      obtain ⟨vs, h1, h2, h3⟩ := joins a b ha hb _ 0 0 S us hw [] Gap.nil ((joined a b (us.take (us.length - 1))).length + 1) 0 (by omega)
      refine ⟨vs, ?_, h2, h3⟩
      unfold words
      rw [if_neg hl]
      rw [show wordsGo _ 0 0 (joined a b (us.take (us.length - 1))) = _ from h1]
      rfl
end Sp
open Go.RowKit

set_option maxHeartbeats 400000 in
theorem ref_WithinJ (i : Int) (n : Nat) (w : World) (hn : 0 < n) (hb : n ≤ 60000) (hi : (Lit.int .i64 i).wf = true) :
    Calls Tryd.prog 24 #[.int .i64 i, .int .i64 n] w fun e w' => e = .returned (.int .i64 (i % (n : Int))) ∧ w = w' := by
  have h1 := Int.tmod_lt_of_pos i (b := (n : Int)) (by omega)
  have h2 : -(n : Int) < i.tmod n := by
    by_cases hi : 0 ≤ i
    · have := Int.tmod_nonneg (n : Int) hi; omega
    · have := Int.tmod_lt_of_pos (-i) (b := (n : Int)) (by omega)
      rw [Int.neg_tmod] at this; omega
  have h3 : i % (n : Int) = if i.tmod n < 0 then i.tmod n + n else i.tmod n := by
    have e1 := Int.mul_tdiv_add_tmod i n
    split
    · refine Int.emod_eq_of_lt (a := i.tmod n + n) (b := (n : Int)) (by omega) (by omega) ▸ ?_
      conv => lhs; rw [← e1]
      rw [Int.mul_add_emod_self_left, Int.add_emod_right]
    · refine Int.emod_eq_of_lt (a := i.tmod n) (b := (n : Int)) (by omega) (by omega) ▸ ?_
      conv => lhs; rw [← e1]
      rw [Int.mul_add_emod_self_left]
  generalize i % (n : Int) = N at *
  have HN := Lib.hid h3
  clear h3
  go_enter Tryd.func24, Tryd.ntmps24
  go_wp2
  all_goals (go_ret; have h3 := HN.out; refine ⟨ret_int ?_, rfl⟩)
  · rw [if_pos (by omega)] at h3
    rw [h3]
  · rw [if_neg (by omega)] at h3
    rw [h3]

theorem jmk_of {a : ByteArray} {l : List UInt8} (h : a.data.toList = l) : a = ⟨l.toArray⟩ := by
  subst h
  exact (Lib.mk_data a).symm

set_option maxRecDepth 100000 in
set_option maxHeartbeats 1600000 in
theorem law_text (k : Int) (T : ByteArray) (p : Int) (W : World) (hT : (Sp.wordText ⟨k, T.data.toList, p⟩).length ≤ 4000) :
    Calls Tryd.prog 29 #[.agg #[.int .i64 k, .string T, .int .i64 p]] W fun e w' => e = .returned (.string ⟨(Sp.wordText ⟨k, T.data.toList, p⟩).toArray⟩) ∧ Below W.heap.size W w' := by
  have hb : ∀ o, Below W.heap.size W (W.alloc o) := fun o => (Below.refl _ W).alloc (Nat.le_refl _) o
  have HB := Lib.hid hb
  clear hb
  cases h2 : (k == 2) with
  | true =>
    obtain rfl : k = 2 := by simpa using h2
    clear h2 hT
    by_cases h1 : T.size = 1
    · have hl : T.data.toList = [T[0]] := by
        have e : T.data.toList.length = 1 := by simpa using h1
        apply List.ext_getElem
        · simpa using h1
        · intro i h2 h3
          simp at h3
          subst h3
          rfl
      have HQ := Lib.hid (fun W' => ref_Quote T[0] W')
      have HL := Lib.hid hl
      clear hl
      have h0 : 0 < T.size := by omega
      go_enter Tryd.func29, Tryd.ntmps29
      go_wp2_with fail
      refine (HQ.out _).mono ?_
      rintro e w' ⟨rfl, hb⟩
      go_wp2_with fail
      go_ret
      refine ⟨?_, (HB.out _).trans (hb.mono (by simp))⟩
      rw [HL.out]
      rfl
    · have HN : Hid ((⟨(Sp.wordText ⟨2, T.data.toList, p⟩).toArray⟩ : ByteArray) = ⟨#[]⟩) := Lib.hid (by
        have e := Lib.size_eq T
        rcases hd : T.data.toList with _ | ⟨c, _ | ⟨d, u⟩⟩
        · rfl
        · rw [hd] at e; simp at e; omega
        · rfl)
      have h1' : ((T.size : Int) == 1) = false := by rw [beq_eq_false_iff_ne]; omega
      go_enter Tryd.func29, Tryd.ntmps29
      go_wp2_with fail
      go_ret
      rw [HN.out]
      exact ⟨rfl, HB.out _⟩
  | false =>
    have hk2 : ¬ k = 2 := by simpa using h2
    cases h4 : (k == 4) with
    | true =>
      obtain rfl : k = 4 := by simpa using h4
      have hTs : T.size ≤ 4000 := by have e : T.data.toList.length = T.size := by simp
                                     simp [Sp.wordText] at hT; omega
      clear hT
      have HN : Hid ((⟨(Sp.wordText ⟨4, T.data.toList, p⟩).toArray⟩ : ByteArray) = ⟨#[60]⟩ ++ T ++ ⟨#[62]⟩) := Lib.hid (jmk_of (by simp [Sp.wordText])).symm
      clear h2 h4 hk2
      go_enter Tryd.func29, Tryd.ntmps29
      go_wp2_with fail
      go_ret
      rw [HN.out]
      exact ⟨rfl, HB.out _⟩
    | false =>
      have hk4 : ¬ k = 4 := by simpa using h4
      cases h9 : (k == 9) with
      | true =>
        obtain rfl : k = 9 := by simpa using h9
        have hTs : T.size ≤ 4000 := by have e : T.data.toList.length = T.size := by simp
                                       simp [Sp.wordText] at hT; omega
        clear hT
        have HN : Hid ((⟨(Sp.wordText ⟨9, T.data.toList, p⟩).toArray⟩ : ByteArray) = ⟨#[37, 123]⟩ ++ T ++ ⟨#[37, 125]⟩) := Lib.hid (jmk_of (by simp [Sp.wordText])).symm
        clear h2 h4 h9 hk2 hk4
        go_enter Tryd.func29, Tryd.ntmps29
        go_wp2_with fail
        go_ret
        rw [HN.out]
        exact ⟨rfl, HB.out _⟩
      | false =>
        have hk9 : ¬ k = 9 := by simpa using h9
        clear hT
        have HN : Hid ((⟨(Sp.wordText ⟨k, T.data.toList, p⟩).toArray⟩ : ByteArray) = T) := Lib.hid (by
          unfold Sp.wordText
          rw [if_neg hk2, if_neg hk4, if_neg hk9])
        clear hk2 hk4 hk9
        go_enter Tryd.func29, Tryd.ntmps29
        go_wp2_with fail
        go_ret
        rw [HN.out]
        exact ⟨rfl, HB.out _⟩

/-- A text is read, or it is not. -/
theorem jwords_err (l : List UInt8) (hl : l.length ≤ 4000) : (∃ ws, Sp.words l = (ws, 0, 0)) ∨ ∃ p, Sp.words l = ([], 2, p) := by
  unfold Sp.words
  rw [if_neg (by omega)]
  cases Sp.wordsGo (l.length + 1) 0 0 l with
  | error e => exact .inr ⟨e, rfl⟩
  | ok ws => exact .inl ⟨ws, rfl⟩
def betweenB : List ByteArray := [⟨#[32]⟩, ⟨#[10]⟩, ⟨#[47, 42, 32, 37, 37, 32, 42, 47]⟩, ⟨#[47, 47, 32, 120, 10]⟩, ⟨#[9, 13]⟩]
theorem betweenB_in : ∀ (j : Nat) (A : ByteArray), betweenB[j]? = some A → A.data.toList ∈ Sp.betweens ∧ A.size ≤ 8 ∧ (betweenB.map Value.string).toArray[j]? = some (.string A) := by
  intro j A h
  have hj : j < 5 := (List.getElem?_eq_some_iff.1 h).1
  rcases j with _ | _ | _ | _ | _ | j
  · cases h; exact ⟨by decide, by decide, rfl⟩
  · cases h; exact ⟨by decide, by decide, rfl⟩
  · cases h; exact ⟨by decide, by decide, rfl⟩
  · cases h; exact ⟨by decide, by decide, rfl⟩
  · cases h; exact ⟨by decide, by decide, rfl⟩
  · omega
theorem betweenB_get (n : Int) (hn : 0 ≤ n) (h5 : n < 5) : ∃ A, betweenB[n.toNat]? = some A := ⟨_, List.getElem?_eq_getElem (show n.toNat < betweenB.length by show n.toNat < 5; omega)⟩
theorem wf_tdiv5 (n : Int) (h : (Lit.int .i64 n).wf = true) : (Lit.int .i64 (n.tdiv 5)).wf = true := by
  have hb : -9223372036854775808 ≤ n ∧ n ≤ 9223372036854775807 := by
    simpa [Lit.wf, IntKind.min, IntKind.max, IntKind.signed, IntKind.bits] using h
  apply WalkArith.wf_i64
  by_cases h0 : 0 ≤ n
  · rw [Int.tdiv_eq_ediv_of_nonneg h0]; omega
  · have e : n.tdiv 5 = -((-n) / 5) := by rw [← Int.tdiv_eq_ediv_of_nonneg (show 0 ≤ -n by omega), Int.neg_tdiv, Int.neg_neg]
    rw [e]; omega

set_option maxRecDepth 100000 in
set_option maxHeartbeats 6400000 in
theorem law_LexJoins (s : ByteArray) (n : Int) (w : World) (_h0 : s.size ≤ maxLen) (h1 : (Lit.int .i64 n).wf = true) (hg : Gl w) :
    Calls Tryd.prog 10 #[.string s, .int .i64 n] w fun e w' => e = .returned (.bool true) ∧ Below w.heap.size w w' := by
  have hS := cutTo_size s 300
  generalize hSS : cutTo s 300 = S at hS
  have HT := Lib.hid hSS
  clear hSS
  have HW1 := Lib.hid (fun W hW => lex_Words S W (by omega) hW)
  have hSl : S.data.toList.length = S.size := by simp
  rcases jwords_err S.data.toList (by omega) with ⟨ws, hws⟩ | ⟨p, hws⟩
  · rw [hws] at HW1
    obtain ⟨q0, q1, q2, q3⟩ := Sp.words_pos _ ws hws
    rw [hSl] at q1 q3
    have hwl := Sp.words_len S.data.toList
    rw [hws, hSl] at hwl
    simp only at hwl
    have HE := Lib.hid hws; have HQ1 := Lib.hid q1; have HQ2 := Lib.hid q2; have HQ3 := Lib.hid q3
    have HWa := Lib.hid (fun W => ref_WithinJ n 5 W (by decide) (by decide) h1)
    have HWb := Lib.hid (fun W => ref_WithinJ (n.tdiv 5) 5 W (by decide) (by decide) (wf_tdiv5 n h1))
    have hwr : IntKind.i64.wrap (n.tdiv 5) = n.tdiv 5 := IntWalk.i64_in _ (by simpa [Lit.wf, IntKind.min, IntKind.max, IntKind.signed, IntKind.bits] using wf_tdiv5 n h1)
    obtain ⟨ja, hja, hja2⟩ : ∃ j : Nat, n % ((5 : Nat) : Int) = (j : Int) ∧ j < 5 := ⟨(n % ((5 : Nat) : Int)).toNat, by omega, by omega⟩
    obtain ⟨jb, hjb, hjb2⟩ : ∃ j : Nat, n.tdiv 5 % ((5 : Nat) : Int) = (j : Int) ∧ j < 5 := ⟨(n.tdiv 5 % ((5 : Nat) : Int)).toNat, by omega, by omega⟩
    rw [hja] at HWa
    rw [hjb] at HWb
    obtain ⟨A, hA⟩ := betweenB_get ja (by omega) (by omega)
    obtain ⟨B, hB⟩ := betweenB_get jb (by omega) (by omega)
    rw [Int.toNat_natCast] at hA hB
    obtain ⟨A1, A2, A3⟩ := betweenB_in ja A hA
    obtain ⟨B1, B2, B3⟩ := betweenB_in jb B hB
    have HA3 := Lib.hid A3; have HB3 := Lib.hid B3; have HA1 := Lib.hid A1; have HB1 := Lib.hid B1
    clear hws q1 q2 q3 hja hjb hA hB A1 A3 B1 B3 h1 hSl
    go_enter Tryd.func10, Tryd.ntmps10
    go_wp2_with fail
    refine (wakes6 w hg).mono ?_
    rintro e w1 ⟨rfl, hb1⟩
    have hg1 := hg.below hb1
    go_wp2_with fail
    refine (law_Text s 300 w1).mono ?_
    rintro e w' ⟨rfl, rfl⟩
    rw [HT.out]
    go_wp2_with fail
    refine (HW1.out _ hg1).mono ?_
    rintro e w2 ⟨v2, rfl, ho2, hb2⟩
    have hs2 := words_slAt ws ho2
    obtain ⟨a2, cap2, rfl⟩ := ownsRow_some ho2
    have hg2 := hg1.below hb2
    have hb02 := hb1.trans (hb2.mono hb1.size)
    have HS := Lib.hid hs2
    have HB2 := Lib.hid hb02
    have hsz2 := hb02.size
    have hl0 : ((ws.length : Int) == 0) = false := by rw [beq_eq_false_iff_ne]; omega
    clear ho2 hs2 hb2 hb1 hb02
    go_wp2_with fail
    go_loopw [8, 9] (fun tv iv wr => ∃ (k : Nat) (T : ByteArray), k + 1 ≤ ws.length ∧ iv = .int .i64 k ∧ tv = .string T ∧ T.size ≤ k * 316 ∧ Hid (T.data.toList = Sp.joined A.data.toList B.data.toList (ws.take k)) ∧ Hid (wr.heap[w2.heap.size + 1]? = some (.cells (betweenB.map Value.string).toArray 9 (0, 0))) ∧ Hid (Below w2.heap.size w2 wr)) (fun _ iv _ => ws.length - (intOf iv).toNat)
    case atStart =>
      refine ⟨0, ⟨#[]⟩, by omega, rfl, rfl, Nat.zero_le _, Lib.hid rfl, Lib.hid ?_, Lib.hid (((Below.refl _ w2).alloc (Nat.le_refl _) _).alloc (by simp) _)⟩
      have h := heap_last (w2.alloc (.cells #[.int .i64 0, .int .i64 0, .string ⟨#[]⟩] 49)) (.cells (betweenB.map Value.string).toArray 9 (0, 0))
      simp only [World.size_alloc] at h
      exact h
    case round =>
      obtain ⟨k, T, hk, rfl, rfl, hTs, HTD, HBT, HBel⟩ := hrel
      have hsz := HBel.out.size
      have hltB := lt_at HBT.out
      have hk0 : (0 : Int) ≤ (k : Int) := Int.natCast_nonneg _
      by_cases hkn : k + 1 < ws.length
      · have hkl : k < ws.length := by omega
        have hpx : ws[k]? = some ws[k] := List.getElem?_eq_getElem hkl
        have hpy : ws[k + 1]? = some ws[k + 1] := List.getElem?_eq_getElem hkn
        generalize ws[k] = x at hpx
        generalize ws[k + 1] = y at hpy
        obtain ⟨x1, x2, x3⟩ := HQ1.out k x hpx
        obtain ⟨y1, y2, y3⟩ := HQ1.out (k + 1) y hpy
        have xy := HQ2.out k x y hpx hpy
        obtain ⟨b, off, cap', hv, hb, hc⟩ := HS.out.some (by intro h; have := congrArg List.length h; simp at this; rw [this] at hkn; simp at hkn)
        obtain ⟨rfl, rfl⟩ : a2 = some ⟨b, off, none⟩ ∧ cap2 = cap' := by simpa using hv
        have hc' : ∀ i r, (ws.map wordC)[i]? = some r → ∀ j u, r[j]? = some u → wr.cell? ⟨b, off + i * 3 + j, none⟩ = some u := fun i r hr j u hu => by
          rw [HBel.out.cell (p := ⟨b, _, none⟩) hb]
          exact hc i r hr j u hu
        have a0 := hc' k (wordC x) (by simp [hpx]) 0 _ rfl
        have a1 := hc' k (wordC x) (by simp [hpx]) 1 _ rfl
        have a2 := hc' k (wordC x) (by simp [hpx]) 2 _ rfl
        have b0 := hc' (k + 1) (wordC y) (by simp [hpy]) 0 _ rfl
        have b1 := hc' (k + 1) (wordC y) (by simp [hpy]) 1 _ rfl
        have b2 := hc' (k + 1) (wordC y) (by simp [hpy]) 2 _ rfl
        simp only [Nat.add_zero] at a0 b0
        have HPX := Lib.hid hpx
        have hxk : x.kind ≠ 10 := fun h => by have := x3.1 h; omega
        have hwt := HQ3.out x (List.mem_of_getElem? hpx) hxk
        obtain ⟨xk, xt, xa⟩ := x
        obtain ⟨yk, yt, ya⟩ := y
        simp only at x1 x2 x3 y1 y2 y3 xy hxk
        clear hv hc hc' hpx hpy x3
        have hk1 : (k : Int) + 1 < (ws.length : Int) := by omega
        by_cases hy : yk = 10
        · subst hy
          have hkk : k + 2 = ws.length := y3.1 rfl
          clear y3
          by_cases hyt : yt = []
          · subst hyt
            by_cases hya : ya = (S.size : Int)
            · subst hya
              have hA3 : wr.cell? ⟨w2.heap.size + 1, ja, none⟩ = some (.string A) := by rw [cell_at HBT.out]; exact HA3.out
              have hB3 : wr.cell? ⟨w2.heap.size + 1, jb, none⟩ = some (.string B) := by rw [cell_at HBT.out]; exact HB3.out
              have HTX : Hid (∀ W', Below wr.heap.size wr W' → Calls Tryd.prog 29 #[.agg #[.int .i64 xk, .string ⟨xt.toArray⟩, .int .i64 xa]] W' fun e w'' => e = .returned (.string ⟨(Sp.wordText ⟨xk, xt, xa⟩).toArray⟩) ∧
                  w''.cell? ⟨w2.heap.size + 1, ja, none⟩ = some (.string A) ∧ w''.cell? ⟨w2.heap.size + 1, jb, none⟩ = some (.string B) ∧ w''.cell? ⟨b, off + k * 3, none⟩ = some (.int .i64 xk) ∧ w''.cell? ⟨b, off + k * 3 + 1, none⟩ = some (.string ⟨xt.toArray⟩) ∧ w''.cell? ⟨b, off + k * 3 + 2, none⟩ = some (.int .i64 xa) ∧ Below wr.heap.size wr w'') := Lib.hid (fun W' hW' => by
                have h := law_text xk ⟨xt.toArray⟩ xa W' (by simp only [List.toList_toArray]; omega)
                refine h.mono ?_
                rintro e w'' ⟨rfl, hb''⟩
                have hb3 := hW'.trans (hb''.mono hW'.size)
                exact ⟨rfl, (hb3.cell (p := ⟨_, _, none⟩) hltB).trans hA3, (hb3.cell (p := ⟨_, _, none⟩) hltB).trans hB3, (hb3.cell (p := ⟨b, _, none⟩) (by show b < _; omega)).trans a0, (hb3.cell (p := ⟨b, _, none⟩) (by show b < _; omega)).trans a1, (hb3.cell (p := ⟨b, _, none⟩) (by show b < _; omega)).trans a2, hb3⟩)
              generalize hX : Sp.wordText ⟨xk, xt, xa⟩ = X at HTX hwt
              have HX := Lib.hid hX
              clear hX
              have hXs : (⟨X.toArray⟩ : ByteArray).size ≤ 300 := by rw [Lib.size_eq]; simp; omega
              obtain ⟨XB, hXB⟩ : ∃ XB : ByteArray, XB = ⟨X.toArray⟩ := ⟨_, rfl⟩
              rw [← hXB] at HTX hXs
              have HXB := Lib.hid hXB
              clear hXB
              have hq1 : ¬ 9223372036854775807 < T.size + A.size := by omega
              have hq2 : ¬ 9223372036854775807 < T.size + A.size + XB.size := by omega
              have hq3 : ¬ 9223372036854775807 < T.size + A.size + XB.size + B.size := by omega
              have hja0 : (0 : Int) ≤ (ja : Int) := Int.natCast_nonneg _
              have hja5 : (ja : Int) < 5 := by omega
              have hjb0 : (0 : Int) ≤ (jb : Int) := Int.natCast_nonneg _
              have hjb5 : (jb : Int) < 5 := by omega
              go_wp2_with fail
              go_region_held3 (fun w' => w'.cell? ⟨w2.heap.size + 1, ja, none⟩ = some (.string A) ∧ w'.cell? ⟨w2.heap.size + 1, jb, none⟩ = some (.string B) ∧ w'.cell? ⟨b, off + k * 3, none⟩ = some (.int .i64 xk) ∧ w'.cell? ⟨b, off + k * 3 + 1, none⟩ = some (.string ⟨xt.toArray⟩) ∧ w'.cell? ⟨b, off + k * 3 + 2, none⟩ = some (.int .i64 xa) ∧ Below wr.heap.size wr w')
                (first
                  | exact ⟨hA3, hB3, a0, a1, a2, Below.refl _ _⟩
                  | exact ⟨hA3, hB3, a0, a1, a2, below_drewN (Below.refl _ _) 1⟩
                  | exact ⟨d1, d2, d3, d4, d5, d6⟩
                  | go_keep)
                ((first
                  | (go_at_call 29; refine (HTX.out _ ?_).mono ?_; (first | assumption | exact below_drewN (Below.refl _ _) 1 | exact Below.refl _ _); rintro e w' ⟨rfl, d1, d2, d3, d4, d5, d6⟩)
                  | (go_at_call_of 24 (Value.int .i64 n); refine (HWa.out _).mono ?_; rintro e w' ⟨rfl, rfl⟩)
                  | (go_at_call_of 24 (Value.int .i64 (n.tdiv 5)); refine (HWb.out _).mono ?_; rintro e w' ⟨rfl, rfl⟩)))
              all_goals
                have D6 := Lib.hid d6
                clear d1 d2 d3 d4 d5 d6
                go_wp2
                go_roundw
                case rel =>
                  go_light
                  refine ⟨k + 1, T ++ A ++ XB ++ B, by omega, by go_num, rfl, ?_, Lib.hid ?_, Lib.hid ?_, Lib.hid (HBel.out.trans (D6.out.mono hsz))⟩
                  · rw [ByteArray.size_append, ByteArray.size_append, ByteArray.size_append]; omega
                  · rw [List.take_add_one, HPX.out]
                    show _ = Sp.joined _ _ (_ ++ [_])
                    rw [Sp.joined_snoc, ← HTD.out, HX.out, HXB.out]
                    simp
                  · exact (D6.out.block _ hltB).trans HBT.out
                case measure => go_light; simp [intOf]; omega
            · have hya' : ya < (S.size : Int) := by omega
              go_wp2_with fail
              go_ret
              exact ⟨rfl, HB2.out.trans (HBel.out.mono hsz2)⟩
          · obtain ⟨c, u, rfl⟩ : ∃ c u, yt = c :: u := by cases yt with | nil => exact absurd rfl hyt | cons c u => exact ⟨c, u, rfl⟩
            have hne : (c :: u).isEmpty = false := rfl
            go_wp2_with fail
            go_ret
            exact ⟨rfl, HB2.out.trans (HBel.out.mono hsz2)⟩
        · have hyb : (yk == 10) = false := by simpa using hy
          clear y3
          have hA3 : wr.cell? ⟨w2.heap.size + 1, ja, none⟩ = some (.string A) := by rw [cell_at HBT.out]; exact HA3.out
          have hB3 : wr.cell? ⟨w2.heap.size + 1, jb, none⟩ = some (.string B) := by rw [cell_at HBT.out]; exact HB3.out
          have HTX : Hid (∀ W', Below wr.heap.size wr W' → Calls Tryd.prog 29 #[.agg #[.int .i64 xk, .string ⟨xt.toArray⟩, .int .i64 xa]] W' fun e w'' => e = .returned (.string ⟨(Sp.wordText ⟨xk, xt, xa⟩).toArray⟩) ∧
              w''.cell? ⟨w2.heap.size + 1, ja, none⟩ = some (.string A) ∧ w''.cell? ⟨w2.heap.size + 1, jb, none⟩ = some (.string B) ∧ w''.cell? ⟨b, off + k * 3, none⟩ = some (.int .i64 xk) ∧ w''.cell? ⟨b, off + k * 3 + 1, none⟩ = some (.string ⟨xt.toArray⟩) ∧ w''.cell? ⟨b, off + k * 3 + 2, none⟩ = some (.int .i64 xa) ∧ Below wr.heap.size wr w'') := Lib.hid (fun W' hW' => by
            have h := law_text xk ⟨xt.toArray⟩ xa W' (by simp only [List.toList_toArray]; omega)
            refine h.mono ?_
            rintro e w'' ⟨rfl, hb''⟩
            have hb3 := hW'.trans (hb''.mono hW'.size)
            exact ⟨rfl, (hb3.cell (p := ⟨_, _, none⟩) hltB).trans hA3, (hb3.cell (p := ⟨_, _, none⟩) hltB).trans hB3, (hb3.cell (p := ⟨b, _, none⟩) (by show b < _; omega)).trans a0, (hb3.cell (p := ⟨b, _, none⟩) (by show b < _; omega)).trans a1, (hb3.cell (p := ⟨b, _, none⟩) (by show b < _; omega)).trans a2, hb3⟩)
          generalize hX : Sp.wordText ⟨xk, xt, xa⟩ = X at HTX hwt
          have HX := Lib.hid hX
          clear hX
          have hXs : (⟨X.toArray⟩ : ByteArray).size ≤ 300 := by rw [Lib.size_eq]; simp; omega
          obtain ⟨XB, hXB⟩ : ∃ XB : ByteArray, XB = ⟨X.toArray⟩ := ⟨_, rfl⟩
          rw [← hXB] at HTX hXs
          have HXB := Lib.hid hXB
          clear hXB
          have hq1 : ¬ 9223372036854775807 < T.size + A.size := by omega
          have hq2 : ¬ 9223372036854775807 < T.size + A.size + XB.size := by omega
          have hq3 : ¬ 9223372036854775807 < T.size + A.size + XB.size + B.size := by omega
          have hja0 : (0 : Int) ≤ (ja : Int) := Int.natCast_nonneg _
          have hja5 : (ja : Int) < 5 := by omega
          have hjb0 : (0 : Int) ≤ (jb : Int) := Int.natCast_nonneg _
          have hjb5 : (jb : Int) < 5 := by omega
          go_wp2_with fail
          go_region_held3 (fun w' => w'.cell? ⟨w2.heap.size + 1, ja, none⟩ = some (.string A) ∧ w'.cell? ⟨w2.heap.size + 1, jb, none⟩ = some (.string B) ∧ w'.cell? ⟨b, off + k * 3, none⟩ = some (.int .i64 xk) ∧ w'.cell? ⟨b, off + k * 3 + 1, none⟩ = some (.string ⟨xt.toArray⟩) ∧ w'.cell? ⟨b, off + k * 3 + 2, none⟩ = some (.int .i64 xa) ∧ Below wr.heap.size wr w')
            (first
              | exact ⟨hA3, hB3, a0, a1, a2, Below.refl _ _⟩
              | exact ⟨hA3, hB3, a0, a1, a2, below_drewN (Below.refl _ _) 1⟩
              | exact ⟨d1, d2, d3, d4, d5, d6⟩
              | go_keep)
            ((first
              | (go_at_call 29; refine (HTX.out _ ?_).mono ?_; (first | assumption | exact below_drewN (Below.refl _ _) 1 | exact Below.refl _ _); rintro e w' ⟨rfl, d1, d2, d3, d4, d5, d6⟩)
              | (go_at_call_of 24 (Value.int .i64 n); refine (HWa.out _).mono ?_; rintro e w' ⟨rfl, rfl⟩)
              | (go_at_call_of 24 (Value.int .i64 (n.tdiv 5)); refine (HWb.out _).mono ?_; rintro e w' ⟨rfl, rfl⟩)))
          all_goals
            have D6 := Lib.hid d6
            clear d1 d2 d3 d4 d5 d6
            go_wp2
            go_roundw
            case rel =>
              go_light
              refine ⟨k + 1, T ++ A ++ XB ++ B, by omega, by go_num, rfl, ?_, Lib.hid ?_, Lib.hid ?_, Lib.hid (HBel.out.trans (D6.out.mono hsz))⟩
              · rw [ByteArray.size_append, ByteArray.size_append, ByteArray.size_append]; omega
              · rw [List.take_add_one, HPX.out]
                show _ = Sp.joined _ _ (_ ++ [_])
                rw [Sp.joined_snoc, ← HTD.out, HX.out, HXB.out]
                simp
              · exact (D6.out.block _ hltB).trans HBT.out
            case measure => go_light; simp [intOf]; omega
      · obtain hkk : k = ws.length - 1 := by omega
        subst hkk
        have hk1 : ¬ ((ws.length - 1 : Nat) : Int) + 1 < (ws.length : Int) := by omega
        have hTD := HTD.out
        have hTl : T.data.toList.length = T.size := by simp
        have hT4 : T.size < 4294967200 := by
          have h2 : ws.length - 1 ≤ 300 := by omega
          have h3 : (ws.length - 1) * 316 ≤ 300 * 316 := Nat.mul_le_mul_right _ h2
          omega
        have HWT := Lib.hid (fun W hW => lex_Words T W (by omega) hW)
        have hg3 := Lib.hid (hg2.below HBel.out)
        have HBel0 := Lib.hid (HB2.out.trans (HBel.out.mono hsz2))
        have hb0w : w.heap.size ≤ wr.heap.size := HBel0.out.size
        by_cases h4 : 4000 < T.size
        · have hwx : Sp.words T.data.toList = ([], 4, 0) := by unfold Sp.words; rw [if_pos (by omega)]
          rw [hwx] at HWT
          clear hwx hTD hTl
          go_wp2_with fail
          refine (HWT.out _ hg3.out).mono ?_
          rintro e w4 ⟨v4, rfl, ho4, hb4⟩
          obtain ⟨a4, cap4, rfl⟩ := ownsRow_some ho4
          have HB4 := Lib.hid (HBel0.out.trans (hb4.mono hb0w))
          have h4' : (4000 : Int) < (T.size : Int) := by omega
          clear ho4 hb4
          go_wp2_with fail
          go_ret
          exact ⟨rfl, HB4.out.alloc HB4.out.size _⟩
        · obtain ⟨vs, hv1, hv2, hv3⟩ := Sp.words_joined S.data.toList A.data.toList B.data.toList ws HE.out HA1.out HB1.out (by rw [← hTD]; omega)
          rw [← hTD] at hv1
          rw [hv1] at HWT
          have HV3 := Lib.hid hv3
          clear hv1 hv3 hTD hTl
          go_wp2_with fail
          refine (HWT.out _ hg3.out).mono ?_
          rintro e w4 ⟨v4, rfl, ho4, hb4⟩
          have hs4 := words_slAt vs ho4
          obtain ⟨a4, cap4, rfl⟩ := ownsRow_some ho4
          have HB4 := Lib.hid (HBel0.out.trans (hb4.mono hb0w))
          have HB24 := Lib.hid (HBel.out.trans (hb4.mono hsz))
          have HS4 := Lib.hid hs4
          have h4' : ¬ (4000 : Int) < (T.size : Int) := by omega
          have hnl : ((vs.length : Int) != (ws.length : Int)) = false := by rw [hv2]; simp
          clear ho4 hb4 hs4
          go_wp2_with fail
          go_loopw [13] (fun iv wr' => ∃ i : Nat, i + 1 ≤ ws.length ∧ iv = .int .i64 i ∧ ∃ q, wr' = (w4.alloc (.cells #[.int .i64 0, .int .i64 0, .string ⟨#[]⟩] 49)).drewN q) (fun iv _ => ws.length - (intOf iv).toNat)
          case atStart => exact ⟨0, by omega, rfl, 0, rfl⟩
          case round =>
            obtain ⟨i, hi, rfl, q, rfl⟩ := hrel
            have hi0 : (0 : Int) ≤ (i : Int) := Int.natCast_nonneg _
            by_cases hin : i + 1 < ws.length
            · have hil : i < ws.length := by omega
              have hpx : ws[i]? = some ws[i] := List.getElem?_eq_getElem hil
              generalize ws[i] = x at hpx
              obtain ⟨q', hpv⟩ := HV3.out i x hin hpx
              obtain ⟨b, off, cap', hv, hb, hc⟩ := HS.out.some (by intro h; have := congrArg List.length h; simp at this; rw [this] at hil; simp at hil)
              obtain ⟨rfl, rfl⟩ : a2 = some ⟨b, off, none⟩ ∧ cap2 = cap' := by simpa using hv
              obtain ⟨b4, off4, cap4', hv4, hb4, hc4⟩ := HS4.out.some (by intro h; have := congrArg List.length h; simp at this; rw [this] at hpv; simp at hpv)
              obtain ⟨rfl, rfl⟩ : a4 = some ⟨b4, off4, none⟩ ∧ cap4 = cap4' := by simpa using hv4
              have hlb : b < w4.heap.size := by have := HB24.out.size; omega
              have a0 := (HB24.out.cell (p := ⟨b, _, none⟩) hb).trans (hc i (wordC x) (by simp [hpx]) 0 _ rfl)
              have a1 := (HB24.out.cell (p := ⟨b, _, none⟩) hb).trans (hc i (wordC x) (by simp [hpx]) 1 _ rfl)
              have c0 := hc4 i (wordC ⟨x.kind, x.text, q'⟩) (by simp [hpv]) 0 _ rfl
              have c1 := hc4 i (wordC ⟨x.kind, x.text, q'⟩) (by simp [hpv]) 1 _ rfl
              simp only [Nat.add_zero] at a0 c0
              obtain ⟨xk, xt, xa⟩ := x
              simp only at a0 a1 c0 c1
              generalize (⟨xt.toArray⟩ : ByteArray) = XT at a1 c1
              have hqq : (XT.toList == XT.toList) = true := by simp
              have hi1 : (i : Int) + 1 < (ws.length : Int) := by omega
              have hi2 : (i : Int) < (ws.length : Int) := by omega
              clear hv hc hv4 hc4 hpx hpv
              go_wp2_with fail
              go_quiet (fail)
              go_wp2_with fail
              exact ⟨⟨i + 1, by omega, by go_num, _, rfl⟩, by simp [intOf]; omega⟩
            · have hi1 : ¬ (i : Int) + 1 < (ws.length : Int) := by omega
              go_wp2_with fail
              go_ret
              exact ⟨rfl, below_drewN (HB4.out.alloc HB4.out.size _) _⟩
  · obtain ⟨r, hr⟩ : ∃ r, r = r := ⟨(), rfl⟩
    clear hSl h1
    go_enter Tryd.func10, Tryd.ntmps10
    rw [hws] at HW1
    clear hws
    go_wp2_with fail
    refine (wakes6 w hg).mono ?_
    rintro e w1 ⟨rfl, hb1⟩
    have hg1 := hg.below hb1
    go_wp2_with fail
    refine (law_Text s 300 w1).mono ?_
    rintro e w' ⟨rfl, rfl⟩
    rw [HT.out]
    go_wp2_with fail
    refine (HW1.out _ hg1).mono ?_
    rintro e w2 ⟨v2, rfl, ho2, hb2⟩
    obtain ⟨a2, cap2, rfl⟩ := ownsRow_some ho2
    have hb02 := hb1.trans (hb2.mono hb1.size)
    have HB2 := Lib.hid hb02
    clear ho2 hb2 hb1 hb02
    go_wp2_with fail
    go_ret
    exact ⟨rfl, HB2.out.alloc HB2.out.size _⟩
end Go.Proofs.YticdgfljaphhgaaDoor
