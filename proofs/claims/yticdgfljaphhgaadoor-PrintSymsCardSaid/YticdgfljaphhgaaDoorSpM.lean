/- Plain laws: words stand whatever follows them, if it does not go on with them. No program in sight. -/
import Derived.Test.YticdgfljaphhgaaDoorSpL
namespace Go.Proofs.YticdgfljaphhgaaDoor
namespace Sp
open Go.Lib (index indexByte hasPrefix)

theorem endGo_pos : ∀ (f : Nat) (d : Int) (r : List UInt8) (m : Nat), endGo f d r = some m → 1 ≤ m
  | 0, _, _, _, h => by simp [endGo] at h
  | f + 1, d, [], m, h => by simp [endGo] at h
  | f + 1, d, c :: t, m, h => by
    unfold endGo at h
    cases hp : passLen (c :: t) with
    | none => rw [hp] at h; simp at h
    | some n =>
      rw [hp] at h
      cases n with
      | zero =>
        simp only at h
        generalize (if ((c.toNat : Int) == 123) = true then d + 1 else if ((c.toNat : Int) == 125) = true then d - 1 else d) = d' at h
        split at h
        · simp at h; omega
        · obtain ⟨k, _, hk⟩ := Option.map_eq_some_iff.1 h; omega
      | succ n =>
        simp only at h
        obtain ⟨k, _, hk⟩ := Option.map_eq_some_iff.1 h; omega

theorem endGo_le : ∀ (f : Nat) (d : Int) (r : List UInt8) (m : Nat), endGo f d r = some m → m ≤ r.length
  | 0, _, _, _, h => by simp [endGo] at h
  | f + 1, d, [], m, h => by simp [endGo] at h
  | f + 1, d, c :: t, m, h => by
    unfold endGo at h
    cases hp : passLen (c :: t) with
    | none => rw [hp] at h; simp at h
    | some n =>
      rw [hp] at h
      cases n with
      | zero =>
        simp only at h
        generalize (if ((c.toNat : Int) == 123) = true then d + 1 else if ((c.toNat : Int) == 125) = true then d - 1 else d) = d' at h
        split at h
        · simp at h; simp; omega
        · obtain ⟨k, hk, hk2⟩ := Option.map_eq_some_iff.1 h
          have := endGo_le f _ _ _ hk
          simp; omega
      | succ n =>
        simp only at h
        obtain ⟨k, hk, hk2⟩ := Option.map_eq_some_iff.1 h
        have h1 := endGo_le f _ _ _ hk
        have h2 := passLen_le _ _ hp
        simp at h1 h2 ⊢; omega
theorem head_app {X R R' : List UInt8} (h : X ≠ []) : (X ++ R).head? = (X ++ R').head? := by
  cases X with
  | nil => exact absurd rfl h
  | cons => rfl

/-- An action's text within braces ends where it ends, whatever follows. -/
theorem endGo_stable (R R' : List UInt8) : ∀ (f : Nat) (d : Int) (X : List UInt8), 1 ≤ d → endGo f d (X ++ R) = some X.length → ∀ f', X.length < f' → endGo f' d (X ++ R') = some X.length
  | 0, _, _, _, h, _, _ => by simp [endGo] at h
  | f + 1, d, [], _, h, _, _ => by have := endGo_pos _ _ _ _ h; simp at this
  | f + 1, d, c :: t, hd, h, 0, hf => by omega
  | f + 1, d, c :: t, hd, h, g + 1, hf => by
    have hpos := endGo_pos f
    simp only [List.cons_append] at h ⊢
    cases hp : passLen (c :: (t ++ R)) with
    | none =>
      unfold endGo at h
      rw [hp] at h; simp at h
    | some n =>
      cases n with
      | zero =>
        rw [endGo_zero hp] at h
        have hd' : (if ((c.toNat : Int) == 123) = true then d + 1 else if ((c.toNat : Int) == 125) = true then d - 1 else d) = 0 → c = 125 := by
          intro h0
          split at h0
          · omega
          · split at h0
            · rename_i h125
              have : (c.toNat : Int) = 125 := by simpa using h125
              exact UInt8.toNat_inj.1 (by show c.toNat = 125; omega)
            · omega
        have hd'' : (if ((c.toNat : Int) == 123) = true then d + 1 else if ((c.toNat : Int) == 125) = true then d - 1 else d) ≠ 0 → 1 ≤ (if ((c.toNat : Int) == 123) = true then d + 1 else if ((c.toNat : Int) == 125) = true then d - 1 else d) := by
          intro h0
          split at h0
          · rename_i hc; rw [if_pos hc]; omega
          · rename_i hc
            rw [if_neg hc]
            split at h0
            · rename_i hc2; rw [if_pos hc2]; omega
            · rename_i hc2; rw [if_neg hc2]; omega
        have hz : ∀ (hp' : passLen (c :: (t ++ R')) = some 0), endGo (g + 1) d (c :: (t ++ R')) = some (c :: t).length := by
          intro hp'
          rw [endGo_zero hp']
          generalize (if ((c.toNat : Int) == 123) = true then d + 1 else if ((c.toNat : Int) == 125) = true then d - 1 else d) = d' at h hd' hd'' ⊢
          split at h
          · rename_i h0
            rw [if_pos h0]; exact h
          · rename_i h0
            rw [if_neg h0]
            obtain ⟨m, hm, he⟩ := Option.map_eq_some_iff.1 h
            obtain rfl : m = t.length := by simp at he; omega
            rw [endGo_stable R R' f d' t (hd'' (by simpa using h0)) hm g (by simp at hf; omega)]
            rfl
        cases t with
        | nil =>
          have h0 : c = 125 := by
            generalize (if ((c.toNat : Int) == 123) = true then d + 1 else if ((c.toNat : Int) == 125) = true then d - 1 else d) = d' at h hd'
            split at h
            · rename_i h0; exact hd' (by simpa using h0)
            · obtain ⟨m, hm, he⟩ := Option.map_eq_some_iff.1 h
              have := hpos _ _ _ hm
              simp at he; omega
          exact hz (by rw [h0]; exact plain_pass _ (by decide))
        | cons b u => exact hz (passLen_zero c ((b :: u) ++ R) ((b :: u) ++ R') rfl hp)
      | succ n =>
        have hle := passLen_le _ _ hp
        obtain ⟨Y, W, hYW, hY⟩ : ∃ Y W, c :: (t ++ R) = Y ++ W ∧ Y.length = n + 1 := ⟨(c :: (t ++ R)).take (n + 1), (c :: (t ++ R)).drop (n + 1), (List.take_append_drop _ _).symm, by rw [List.length_take]; omega⟩
        have h' := h
        rw [hYW] at h' hp
        rw [endGo_pass hY hp] at h'
        obtain ⟨m, hm, he⟩ := Option.map_eq_some_iff.1 h'
        have hm1 := hpos _ _ _ hm
        have he' : m + (n + 1) = (c :: t).length := he
        clear he
        obtain ⟨X2, hX⟩ : ∃ X2, c :: t = Y ++ X2 := by
          refine ⟨(c :: t).drop (n + 1), ?_⟩
          have e : Y = (c :: t).take (n + 1) := by
            have h1 := congrArg (List.take (n + 1)) hYW
            rw [List.take_left' hY] at h1
            have h2 : (c :: (t ++ R)).take (n + 1) = (c :: t).take (n + 1) := List.take_append_of_le_length (l₁ := c :: t) (by simp at he' ⊢; omega)
            rw [← h1, h2]
          rw [e, List.take_append_drop]
        have hW : W = X2 ++ R := by
          have : Y ++ W = Y ++ (X2 ++ R) := by rw [← hYW, ← List.append_assoc, ← hX]; rfl
          exact List.append_cancel_left this
        have hl := congrArg List.length hX
        simp only [List.length_append] at hl
        have hX2l : X2.length ≠ 0 := by rw [hY] at hl; omega
        have hX2 : X2 ≠ [] := fun e => hX2l (by rw [e]; rfl)
        have e2 : c :: (t ++ R') = Y ++ (X2 ++ R') := by rw [← List.append_assoc, ← hX]; rfl
        rw [e2, hX]
        subst hW
        have hp' : passLen (Y ++ (X2 ++ R')) = some (n + 1) := by
          rw [← hY] at hp ⊢
          exact passLen_stable (X2 ++ R) (X2 ++ R') Y (head_app hX2) (by rintro rfl; simp at hY) hp
        rw [endGo_pass hY hp']
        obtain rfl : m = X2.length := by omega
        rw [endGo_stable R R' f d X2 hd hm g (by omega)]
        simp; omega
theorem endLen_stable (R R' X : List UInt8) (hX : X ≠ []) (h : endLen (X ++ R) = some X.length) : endLen (X ++ R') = some X.length := by
  cases X with
  | nil => exact absurd rfl hX
  | cons c t =>
    simp only [List.cons_append] at h ⊢
    unfold endLen at h ⊢
    simp only at h ⊢
    split at h
    · rename_i hc
      have hc' : c = 123 := by
        have : (c.toNat : Int) = 123 := by simpa using hc
        exact UInt8.toNat_inj.1 (by show c.toNat = 123; omega)
      subst hc'
      rw [if_pos hc]
      rw [endGo_zero (plain_pass _ (by decide)), if_neg (by decide)] at h
      rw [endGo_zero (plain_pass _ (by decide)), if_neg (by decide)]
      obtain ⟨m, hm, he⟩ := Option.map_eq_some_iff.1 h
      obtain rfl : m = t.length := by simp at he; omega
      rw [endGo_stable R R' _ _ t (by decide) hm _ (by simp; omega)]
      rfl
    · simp at h

/-- What may stand behind a word so that it does not go on. -/
def Sep (R R' : List UInt8) : Prop := R'.head? = R.head? ∨ ∀ c, R'.head? = some c → c = 32 ∨ c = 10 ∨ c = 47 ∨ c = 9
theorem Sep.keep {R R' : List UInt8} (h : Sep R R') (p : UInt8 → Bool) (hp : ∀ c, c = 32 ∨ c = 10 ∨ c = 47 ∨ c = 9 → p c = false) (hR : ∀ c, R.head? = some c → p c = false) : ∀ c, R'.head? = some c → p c = false := by
  intro c hc
  rcases h with h | h
  · exact hR c (by rw [← h]; exact hc)
  · exact hp c (h c hc)

theorem nameLen_app : ∀ (b : Bool) (X R : List UInt8), nameLen b (X ++ R) = X.length → nameLen b X = X.length ∧ ∀ c, R.head? = some c → X ≠ [] → nameLen false [c] = 0
  | b, [], R, _ => ⟨rfl, fun c _ h => absurd rfl h⟩
  | b, c :: t, R, h => by
    simp only [List.cons_append, List.length_cons] at h ⊢
    unfold nameLen at h ⊢
    split at h
    · rename_i hc
      obtain ⟨h1, h2⟩ := nameLen_app false t R (by omega)
      rw [if_pos hc, h1]
      refine ⟨rfl, fun x hx _ => ?_⟩
      cases t with
      | nil =>
        have h0 : nameLen false R = 0 := by simpa using h
        cases R with
        | nil => simp at hx
        | cons y R =>
          simp only [List.head?_cons, Option.some.injEq] at hx
          subst hx
          unfold nameLen at h0 ⊢
          split at h0
          · omega
          · rename_i hy; rw [if_neg hy]
      | cons => exact h2 x hx (by simp)
    · omega
theorem nameLen_back : ∀ (b : Bool) (X R : List UInt8), nameLen b X = X.length → X ≠ [] → (∀ c, R.head? = some c → nameLen false [c] = 0) → nameLen b (X ++ R) = X.length
  | b, [], R, _, h, _ => absurd rfl h
  | b, c :: t, R, h, _, hR => by
    simp only [List.cons_append, List.length_cons] at h ⊢
    unfold nameLen at h ⊢
    split at h
    · rename_i hc
      rw [if_pos hc]
      cases t with
      | nil =>
        have : nameLen false R = 0 := by
          cases R with
          | nil => rfl
          | cons y R =>
            have h0 := hR y rfl
            unfold nameLen at h0 ⊢
            split at h0
            · omega
            · rename_i hy; rw [if_neg hy]
        simp [this]
      | cons d u => rw [nameLen_back false (d :: u) R (by simpa using h) (by simp) hR]
    · omega
theorem name_sep : ∀ c : UInt8, c = 32 ∨ c = 10 ∨ c = 47 ∨ c = 9 → (nameLen false [c] != 0) = false := by
  rintro c (rfl | rfl | rfl | rfl) <;> decide
theorem nameLen_stable {R R' X : List UInt8} {b : Bool} (hs : Sep R R') (hX : X ≠ []) (h : nameLen b (X ++ R) = X.length) : nameLen b (X ++ R') = X.length := by
  obtain ⟨h1, h2⟩ := nameLen_app b X R h
  refine nameLen_back b X R' h1 hX (fun c hc => ?_)
  have := hs.keep (fun c => nameLen false [c] != 0) name_sep (fun c hc => by simpa using h2 c hc hX) c hc
  simpa using this
theorem digits_app2 : ∀ (X R : List UInt8), digits (X ++ R) = X.length → (∀ c ∈ X, digit c = true) ∧ digits R = 0
  | [], R, h => ⟨by simp, by simpa using h⟩
  | c :: t, R, h => by
    simp only [List.cons_append, List.length_cons] at h
    unfold digits at h
    split at h
    · rename_i hc
      obtain ⟨h1, h2⟩ := digits_app2 t R (by omega)
      refine ⟨?_, h2⟩
      intro x hx
      simp only [List.mem_cons] at hx
      rcases hx with rfl | hx
      · exact hc
      · exact h1 x hx
    · omega
theorem digits_sep {R R' : List UInt8} (hs : Sep R R') (h : digits R = 0) : digits R' = 0 := by
  have key : ∀ l : List UInt8, digits l = 0 ↔ ∀ c, l.head? = some c → digit c = false := by
    intro l
    cases l with
    | nil => simp [digits]
    | cons c t =>
      unfold digits
      cases hc : digit c <;> simp [hc]
  rw [key] at h ⊢
  exact hs.keep digit (by rintro c (rfl | rfl | rfl | rfl) <;> decide) h
theorem stuck_sep {R R' : List UInt8} (hs : Sep R R') (h : stuck R = false) : stuck R' = false := by
  have key : ∀ l : List UInt8, stuck l = false ↔ ∀ c, l.head? = some c → letter c = false := by
    intro l
    cases l with
    | nil => simp [stuck]
    | cons c t => simp [stuck]
  rw [key] at h ⊢
  exact hs.keep letter (by rintro c (rfl | rfl | rfl | rfl) <;> decide) h
theorem alphas_app : ∀ (X R : List UInt8), alphas (X ++ R) = X.length → (∀ c ∈ X, alpha c = true) ∧ alphas R = 0
  | [], R, h => ⟨by simp, by simpa using h⟩
  | c :: t, R, h => by
    simp only [List.cons_append, List.length_cons] at h
    unfold alphas at h
    split at h
    · rename_i hc
      obtain ⟨h1, h2⟩ := alphas_app t R (by omega)
      refine ⟨?_, h2⟩
      intro x hx
      simp only [List.mem_cons] at hx
      rcases hx with rfl | hx
      · exact hc
      · exact h1 x hx
    · omega
theorem alphas_of : ∀ (X R : List UInt8), (∀ c ∈ X, alpha c = true) → alphas R = 0 → alphas (X ++ R) = X.length
  | [], R, _, h => h
  | c :: t, R, h, hR => by
    show alphas (c :: (t ++ R)) = _
    rw [alphas, if_pos (h c (by simp)), alphas_of t R (fun y hy => h y (by simp [hy])) hR]
    rfl
theorem alphas_sep {R R' : List UInt8} (hs : Sep R R') (h : alphas R = 0) : alphas R' = 0 := by
  have key : ∀ l : List UInt8, alphas l = 0 ↔ ∀ c, l.head? = some c → alpha c = false := by
    intro l
    cases l with
    | nil => simp [alphas]
    | cons c t =>
      unfold alphas
      cases hc : alpha c <;> simp [hc]
  rw [key] at h ⊢
  exact hs.keep alpha (by rintro c (rfl | rfl | rfl | rfl) <;> decide) h

theorem word_cons (c : UInt8) (t : List UInt8) : word (c :: t) =
    if letter c = true then if nameLen true (c :: t) ≤ 20 then (1, (c :: t).take (nameLen true (c :: t)), nameLen true (c :: t)) else noWord
    else if digit c = true then if 0 < number (c :: t) then (3, (c :: t).take (number (c :: t)), number (c :: t)) else noWord
    else if ((c.toNat : Int) == 39) = true then match charTake (c :: t) with
      | none => noWord
      | some (b, n) => (2, [b], n)
    else if ((c.toNat : Int) == 60) = true then
      if isName (t.take (nameLen true t)) = true ∧ hasPrefix (t.drop (nameLen true t)) [62] = true then (4, t.take (nameLen true t), nameLen true t + 2) else noWord
    else if ((c.toNat : Int) == 37) = true then percent (c :: t)
    else if ((c.toNat : Int) == 58) = true ∨ ((c.toNat : Int) == 59) = true ∨ ((c.toNat : Int) == 124) = true then (6, [c], 1)
    else if ((c.toNat : Int) == 123) = true then match endLen (c :: t) with
      | none => noWord
      | some n => (8, (c :: t).take n, n)
    else noWord := rfl
/-- The word that a text begins with takes just the bytes X, and stands so ahead of all that does not go on with it. -/
theorem word_stable (R R' X tx : List UInt8) (k : Int) (hX : X ≠ []) (hs : Sep R R') (h : word (X ++ R) = (k, tx, X.length)) : word (X ++ R') = (k, tx, X.length) := by
  cases X with
  | nil => exact absurd rfl hX
  | cons c t =>
    have hno : (noWord : Int × List UInt8 × Nat) ≠ (k, tx, (c :: t).length) := by
      intro e
      have := congrArg (fun p : Int × List UInt8 × Nat => p.2.2) e
      simp [noWord] at this
    simp only [List.cons_append] at h ⊢
    rw [word_cons] at h ⊢
    split at h
    · rename_i hc
      rw [if_pos hc]
      split at h
      · rename_i h20
        have h3 := congrArg (fun p : Int × List UInt8 × Nat => p.2.2) h
        simp only at h3
        have hn := nameLen_stable (b := true) hs hX h3
        have hn' : nameLen true (c :: (t ++ R')) = (c :: t).length := hn
        rw [hn', if_pos (by omega)]
        rw [h3] at h
        rw [← h]
        have e1 : (c :: (t ++ R')).take (c :: t).length = c :: t := List.take_left' (l₁ := c :: t) rfl
        have e2 : (c :: (t ++ R)).take (c :: t).length = c :: t := List.take_left' (l₁ := c :: t) rfl
        rw [e1, e2]
      · exact absurd h hno
    · rename_i hc
      rw [if_neg hc]
      split at h
      · rename_i hdg
        rw [if_pos hdg]
        split at h
        · rename_i h0
          have h3 := congrArg (fun p : Int × List UInt8 × Nat => p.2.2) h
          simp only at h3
          have hnum : number (c :: (t ++ R')) = (c :: t).length := by
            unfold number at h0 h3 ⊢
            split at h0
            · omega
            · rename_i hn
              rw [if_neg hn] at h3
              split at h0
              · omega
              · rename_i hv
                rw [if_neg hv] at h3
                obtain ⟨ha, hb⟩ := digits_app2 (c :: t) R h3
                have hd' : digits (c :: (t ++ R')) = (c :: t).length := digits_of (c :: t) R' ha (digits_sep hs hb)
                have e1 : (c :: (t ++ R')).take (c :: t).length = c :: t := List.take_left' (l₁ := c :: t) rfl
                have e2 : (c :: (t ++ R)).take (c :: t).length = c :: t := List.take_left' (l₁ := c :: t) rfl
                have e3 : (c :: (t ++ R')).drop (c :: t).length = R' := List.drop_left' (l₁ := c :: t) rfl
                have e4 : (c :: (t ++ R)).drop (c :: t).length = R := List.drop_left' (l₁ := c :: t) rfl
                rw [h3, e4] at hn
                rw [h3, e2] at hv
                rw [hd', e1, e3]
                rw [if_neg, if_neg hv]
                intro hh
                apply hn
                rcases hh with hh | hh | hh
                · exact .inl hh
                · exact .inr (.inl hh)
                · right; right
                  cases hst : stuck R with
                  | true => rfl
                  | false => rw [stuck_sep hs hst] at hh; simp at hh
          rw [hnum, if_pos (by simp)]
          rw [h3] at h
          rw [← h]
          have e1 : (c :: (t ++ R')).take (c :: t).length = c :: t := List.take_left' (l₁ := c :: t) rfl
          have e2 : (c :: (t ++ R)).take (c :: t).length = c :: t := List.take_left' (l₁ := c :: t) rfl
          rw [e1, e2]
        · exact absurd h hno
      · rename_i hdg
        rw [if_neg hdg]
        split at h
        · rename_i h39
          rw [if_pos h39]
          cases hct : charTake (c :: (t ++ R)) with
          | none => rw [hct] at h; exact absurd h hno
          | some p =>
            obtain ⟨b, n⟩ := p
            rw [hct] at h
            simp only at h
            obtain ⟨g0, g1, rfl⟩ := charTake_some _ _ _ hct
            have h3 := congrArg (fun p : Int × List UInt8 × Nat => p.2.2) h
            simp only at h3
            have hq : quoteText b = c :: t := by
              have hp := List.isPrefixOf_iff_prefix.1 g1
              obtain ⟨u, hu⟩ := hp
              have : quoteText b ++ u = (c :: t) ++ R := hu
              exact (List.append_inj this h3).1
            have : charTake (c :: (t ++ R')) = some (b, (quoteText b).length) := by
              refine charTake_of _ _ g0 ?_
              rw [hq]
              exact List.isPrefixOf_iff_prefix.2 ⟨R', rfl⟩
            rw [this]
            exact h
        · rename_i h39
          rw [if_neg h39]
          split at h
          · rename_i h60
            rw [if_pos h60]
            split at h
            · rename_i hn
              obtain ⟨hn, h62⟩ := hn
              have h3 := congrArg (fun p : Int × List UInt8 × Nat => p.2.2) h
              simp only [List.length_cons] at h3
              have htl : t.length = nameLen true (t ++ R) + 1 := by omega
              generalize hm : nameLen true (t ++ R) = m at *
              have hne : t.take m ≠ [] := by
                intro e
                rw [List.take_append_of_le_length (by omega), e] at hn
                simp [isName] at hn
              have h62' : t.drop m = [62] := by
                rw [List.drop_append_of_le_length (by omega)] at h62
                have hl : (t.drop m).length = 1 := by simp; omega
                rcases hd : t.drop m with _ | ⟨x, _ | ⟨y, u⟩⟩
                · rw [hd] at hl; simp at hl
                · rw [hd] at h62; simp [hasPrefix, List.isPrefixOf] at h62; rw [h62]
                · rw [hd] at hl; simp at hl
              have ht : t = t.take m ++ [62] := by rw [← h62', List.take_append_drop]
              have key : ∀ U, nameLen true (t ++ U) = m := by
                intro U
                rw [ht, List.append_assoc]
                have e0 : nameLen true (t.take m ++ ([62] ++ R)) = (t.take m).length := by
                  rw [← List.append_assoc, ← ht, hm]; simp; omega
                have hlm : (t.take m).length = m := by simp; omega
                have := nameLen_stable (R := [62] ++ R) (R' := [62] ++ U) (b := true) (.inl rfl) hne e0
                rw [this, hlm]
              rw [key R', List.take_append_of_le_length (by omega), List.drop_append_of_le_length (by omega)]
              rw [List.take_append_of_le_length (by omega)] at hn h
              rw [if_pos ⟨hn, by rw [h62']; simp [hasPrefix, List.isPrefixOf]⟩]
              exact h
            · exact absurd h hno
          · rename_i h60
            rw [if_neg h60]
            split at h
            · rename_i h37
              rw [if_pos h37]
              have h37' : c = 37 := by
                have : (c.toNat : Int) = 37 := by simpa using h37
                exact UInt8.toNat_inj.1 (by show c.toNat = 37; omega)
              subst h37'
              unfold percent at h ⊢
              split at h
              · rename_i hpp
                have h3 := congrArg (fun p : Int × List UInt8 × Nat => p.2.2) h
                simp only [List.length_cons] at h3
                rcases t with _ | ⟨b, _ | ⟨b2, u⟩⟩
                · simp at h3
                · simp [hasPrefix, List.isPrefixOf] at hpp
                  subst hpp
                  rw [if_pos (by simp [hasPrefix, List.isPrefixOf])]
                  exact h
                · simp at h3
              · rename_i hpp
                split at h
                · rename_i hpb
                  cases hu : upto ((37 :: (t ++ R)).drop 2) [37, 125] with
                  | none => rw [hu] at h; exact absurd h hno
                  | some m =>
                    rw [hu] at h
                    simp only at h
                    have h3 := congrArg (fun p : Int × List UInt8 × Nat => p.2.2) h
                    simp only [List.length_cons] at h3
                    have hge := upto_ge _ _ _ hu
                    simp only [List.length_cons, List.length_nil] at hge
                    rcases t with _ | ⟨b, u⟩
                    · simp at h3
                    · simp only [List.cons_append, List.length_cons] at *
                      have hb : b = 123 := by simp [hasPrefix, List.isPrefixOf] at hpb; exact hpb.symm
                      subst hb
                      have eR : (37 :: 123 :: (u ++ R)).drop 2 = u ++ R := rfl
                      have eR' : (37 :: 123 :: (u ++ R')).drop 2 = u ++ R' := rfl
                      rw [eR] at hu h
                      rw [eR']
                      obtain rfl : m = u.length := by omega
                      rw [if_neg (by simp [hasPrefix, List.isPrefixOf]), if_pos (by simp [hasPrefix, List.isPrefixOf]), upto_stable2 37 125 R R' u hu]
                      simp only
                      rw [List.take_append_of_le_length (by omega)] at h ⊢
                      exact h
                · rename_i hpb
                  split at h
                  · rename_i hk
                    have h3 := congrArg (fun p : Int × List UInt8 × Nat => p.2.2) h
                    simp only [List.length_cons] at h3
                    have e0 : ∀ U, (37 :: (t ++ U)).drop 1 = t ++ U := fun U => rfl
                    rw [e0] at hk h h3
                    rw [e0]
                    have ha : alphas (t ++ R) = t.length := by omega
                    obtain ⟨h1, h2⟩ := alphas_app t R ha
                    have ha' := alphas_of t R' h1 (alphas_sep hs h2)
                    have e1 : ∀ U, (37 :: (t ++ U)).take (1 + t.length) = 37 :: t := fun U => by rw [Nat.add_comm]; exact List.take_left' (l₁ := 37 :: t) rfl
                    rw [ha, e1] at hk h
                    rw [ha', e1]
                    have ht : t ≠ [] := by rintro rfl; revert hk; decide
                    have hhead : ∀ x y U, t.head? = some x → hasPrefix (37 :: (t ++ U)) [37, y] = (y == x) := by
                      intro x y U hx
                      cases t with
                      | nil => simp at hx
                      | cons z u =>
                        simp only [List.head?_cons, Option.some.injEq] at hx
                        subst hx
                        simp [hasPrefix, List.isPrefixOf]
                    obtain ⟨x, hx⟩ : ∃ x, t.head? = some x := by
                      cases t with
                      | nil => exact absurd rfl ht
                      | cons x u => exact ⟨x, rfl⟩
                    rw [hhead x 37 R hx] at hpp
                    rw [hhead x 123 R hx] at hpb
                    rw [hhead x 37 R' hx, hhead x 123 R' hx, if_neg hpp, if_neg hpb, if_pos hk]
                    exact h
                  · exact absurd h hno
            · rename_i h37
              rw [if_neg h37]
              split at h
              · rename_i hsg
                rw [if_pos hsg]
                exact h
              · rename_i hsg
                rw [if_neg hsg]
                split at h
                · rename_i h123
                  rw [if_pos h123]
                  cases he : endLen (c :: (t ++ R)) with
                  | none => rw [he] at h; exact absurd h hno
                  | some n =>
                    rw [he] at h
                    simp only at h
                    have h3 := congrArg (fun p : Int × List UInt8 × Nat => p.2.2) h
                    simp only at h3
                    subst h3
                    have := endLen_stable R R' (c :: t) hX he
                    have this' : endLen (c :: (t ++ R')) = some (c :: t).length := this
                    rw [this']
                    simp only
                    have e1 : (c :: (t ++ R')).take (c :: t).length = c :: t := List.take_left' (l₁ := c :: t) rfl
                    have e2 : (c :: (t ++ R)).take (c :: t).length = c :: t := List.take_left' (l₁ := c :: t) rfl
                    rw [e1, ← h, e2]
                · exact absurd h hno
end Sp
end Go.Proofs.YticdgfljaphhgaaDoor
