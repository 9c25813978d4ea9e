/- Plain laws: the pieces of a text are joined to it, but for noughts; cut once more they are the same. No program in sight. -/
import Derived.Test.YticdgfljaphhgaaDoorSpI
namespace Go.Proofs.YticdgfljaphhgaaDoor
namespace Sp
open Go.Lib (index indexByte hasPrefix decDigits decFrom digitVal)

/-! ### A dollar's piece does not hang on what stands behind the next dollar -/
theorem nameLen_app36 : ∀ (b : Bool) (x a : List UInt8), nameLen b (x ++ 36 :: a) = nameLen b x
  | b, [], a => by
    show nameLen b (36 :: a) = 0
    unfold nameLen
    rw [if_neg (by cases b <;> decide)]
  | b, c :: t, a => by
    show nameLen b (c :: (t ++ 36 :: a)) = nameLen b (c :: t)
    have ih := nameLen_app36 false t a
    unfold nameLen
    rw [ih]
theorem digits_app36 : ∀ (x a : List UInt8), digits (x ++ 36 :: a) = digits x
  | [], a => by
    show digits (36 :: a) = 0
    unfold digits
    rw [if_neg (by decide)]
  | c :: t, a => by
    show digits (c :: (t ++ 36 :: a)) = digits (c :: t)
    have ih := digits_app36 t a
    unfold digits
    rw [ih]
theorem prefix_app36 (d : UInt8) : ∀ (x a : List UInt8), hasPrefix (x ++ 36 :: a) [d] = hasPrefix (x ++ [36]) [d]
  | [], a => by simp [hasPrefix, List.isPrefixOf]
  | c :: t, a => by simp [hasPrefix, List.isPrefixOf]
theorem take_app36 (x a : List UInt8) (m : Nat) (h : m ≤ x.length) : (x ++ 36 :: a).take m = x.take m := by
  rw [List.take_append, show m - x.length = 0 by omega]; simp
theorem drop_app36 (x a : List UInt8) (m : Nat) (h : m ≤ x.length) : (x ++ 36 :: a).drop m = x.drop m ++ 36 :: a := by
  rw [List.drop_append, show m - x.length = 0 by omega]; simp
theorem dollar2_app36 (tag : List UInt8) (off : Nat) (x a : List UInt8) : dollar2 tag off (x ++ 36 :: a) = dollar2 tag off (x ++ [36]) := by
  have h1 := digits_app36 x a
  have h2 := digits_app36 x []
  have h3 := prefix_app36 36 x a
  have h4 := take_app36 x a _ (digits_le x)
  have h5 := take_app36 x [] _ (digits_le x)
  unfold dollar2
  rw [h1, h2, h3, h4, h5]
theorem dollar_app36 (x a : List UInt8) : dollar (x ++ 36 :: a) = dollar (x ++ [36]) := by
  have h3 := prefix_app36 60 x a
  cases x with
  | nil =>
    have h0 : ∀ u : List UInt8, dollar (36 :: u) = (⟨2, [], 0, []⟩, 2, 0) := by
      intro u
      unfold dollar
      rw [if_neg (by simp [hasPrefix, List.isPrefixOf]), dollar2_whole]
    show dollar (36 :: a) = dollar (36 :: [])
    rw [h0, h0]
  | cons c t =>
    have hd := dollar2_app36 [] 1 (c :: t) a
    have e1 : ∀ u, nameLen true ((c :: t ++ 36 :: u).drop 1) = nameLen true t := fun u => nameLen_app36 true t u
    have hm := nameLen_le true t
    unfold dollar
    rw [h3, e1 a, e1 [], hd]
    generalize nameLen true t = m at *
    have e2 : ∀ u, ((c :: t ++ 36 :: u).drop 1).take m = t.take m := fun u => take_app36 t u m hm
    have e3 : ∀ u, (c :: t ++ 36 :: u).drop (1 + m) = t.drop m ++ 36 :: u := by
      intro u
      rw [Nat.add_comm]
      exact drop_app36 t u m hm
    rw [e2 a, e2 [], e3 a, e3 [], prefix_app36 62 (t.drop m) a]
    by_cases hml : m < t.length
    · have e4 : ∀ u, (c :: t ++ 36 :: u).drop (m + 2) = t.drop (m + 1) ++ 36 :: u := by
        intro u
        exact drop_app36 t u (m + 1) (by omega)
      rw [e4 a, e4 [], dollar2_app36]
    · have : t.drop m = [] := List.drop_of_length_le (by omega)
      rw [this]
      have hn : ¬ (isName (t.take m) = true ∧ hasPrefix ([] ++ [36]) [62] = true) := by simp [hasPrefix, List.isPrefixOf]
      rw [if_neg hn, if_neg hn]
theorem dollar_lk {r r' : List UInt8} (h : Lk r r') : dollar r = dollar r' := by
  obtain ⟨x, _, ⟨rfl, rfl⟩ | ⟨a, b, rfl, rfl⟩⟩ := h
  · rfl
  · rw [dollar_app36 x a, dollar_app36 x b]

/-! ### Joining -/
theorem join_app : ∀ (p q : List Piece) (a b : List UInt8), join p = some a → join q = some b → join (p ++ q) = some (a ++ b)
  | [], q, a, b, ha, hb => by
    simp only [join, Option.some.injEq] at ha
    subst ha; exact hb
  | p :: ps, q, a, b, ha, hb => by
    simp only [join] at ha
    cases hp : pieceText p with
    | none => rw [hp] at ha; simp at ha
    | some t =>
      rw [hp] at ha
      obtain ⟨m, hm, rfl⟩ := Option.map_eq_some_iff.1 ha
      have ih := join_app ps q m b hm hb
      show (match pieceText p with
        | none => none
        | some t => (join (ps ++ q)).map (t ++ ·)) = _
      rw [hp, ih]
      simp
theorem join_flush (t : List UInt8) : join (flush t) = some t := by
  unfold flush
  split
  · rename_i h; rw [h]; rfl
  · have h : pieceText ⟨1, t, 0, []⟩ = some t := by simp [pieceText, wrong]
    simp [join, h]
theorem join_cons (p : Piece) (ps : List Piece) (t m : List UInt8) (hp : pieceText p = some t) (hm : join ps = some m) : join (p :: ps) = some (t ++ m) := by
  show (match pieceText p with
    | none => none
    | some t => (join ps).map (t ++ ·)) = _
  rw [hp, hm]
  rfl
theorem wrong_not {k n : Int} {t tag : List UInt8} (h0 : 0 ≤ n) (h1 : n ≤ 999) (ht : TagOk tag) : wrong ⟨k, t, n, tag⟩ = false := by
  unfold wrong
  rcases ht with rfl | ht
  · simp; omega
  · rw [ht]; simp; omega
theorem piece_whole (tag : List UInt8) (ht : TagOk tag) : pieceText ⟨2, [], 0, tag⟩ = some (36 :: (tagText tag ++ [36])) := by
  unfold pieceText
  rw [if_neg (by rw [wrong_not (by decide) (by decide) ht]; decide), if_neg (show ¬ (2 : Int) = 1 by decide), if_pos rfl]
theorem itoa_nn (u : Nat) : Go.Lib.itoa (u : Int) = decDigits u := by unfold Go.Lib.itoa; rw [if_neg (by omega)]; simp
theorem piece_part (tag : List UInt8) (m : Nat) (hm : m ≤ 999) (ht : TagOk tag) : pieceText ⟨3, [], m, tag⟩ = some (36 :: (tagText tag ++ decDigits m)) := by
  unfold pieceText
  rw [if_neg (by rw [wrong_not (k := 3) (n := (m : Int)) (t := []) (by omega) (by omega) ht]; decide), if_neg (show ¬ (3 : Int) = 1 by decide), if_neg (show ¬ (3 : Int) = 2 by decide), if_pos rfl]
  show some (36 :: (tagText tag ++ Go.Lib.itoa (m : Int))) = _
  rw [itoa_nn]

/-! ### Numbers of at most three digits -/
theorem dec_len_le (m : Nat) (h : (decDigits m).length ≤ 3) : m ≤ 999 := by
  rcases Nat.lt_or_ge m 1000 with h' | h'
  · omega
  · exfalso
    have s1 : ∀ n, (decDigits n).length ≠ 0 := fun n e => decDigits_ne n (List.eq_nil_of_length_eq_zero e)
    have s2 : ∀ n, 10 ≤ n → (decDigits n).length = (decDigits (n / 10)).length + 1 := by
      intro n hn
      rw [decDigits, dif_neg (by omega)]; simp
    have a1 := s2 m (by omega)
    have a2 := s2 (m / 10) (by omega)
    have a3 := s2 (m / 10 / 10) (by omega)
    have a4 := s1 (m / 10 / 10 / 10)
    omega

/-- No nought stands behind a dollar or the end of a tag. -/
def noNought (r : List UInt8) : Prop := ∀ a c b, r = a ++ c :: 48 :: b → c ≠ 36 ∧ c ≠ 62
theorem noNought.tail {X R : List UInt8} (h : noNought (X ++ R)) : noNought R := by
  intro a c b e
  exact h (X ++ a) c b (by rw [e]; simp)

theorem tagText_inner (tag : List UInt8) (h : TagOk tag) : ∀ c ∈ tagText tag, inner c = true := by
  intro c hc
  rcases h with rfl | h
  · simp [tagText] at hc
  · rw [tagText_name h] at hc
    have hn : nameLen true tag = tag.length := by
      unfold isName at h
      simp only [Bool.and_eq_true, decide_eq_true_eq] at h
      exact h.2
    have key : ∀ (b : Bool) (l : List UInt8), nameLen b l = l.length → ∀ x ∈ l, inner x = true := by
      intro b l
      induction l generalizing b with
      | nil => intro _ x hx; simp at hx
      | cons y t ih =>
        intro hy x hx
        unfold nameLen at hy
        split at hy
        · rename_i hl
          simp only [List.mem_cons] at hx
          rcases hx with rfl | hx
          · have hp : plain x = true := by
              simp only [Bool.or_eq_true, Bool.and_eq_true] at hl
              rcases hl with hl | ⟨_, hl | hl⟩
              · exact letter_plain hl
              · exact digit_plain hl
              · unfold plain; simp at hl; simp; omega
            unfold inner
            rw [hp]
            simp only [Bool.or_eq_true, Bool.and_eq_true] at hl
            rcases hl with hl | ⟨_, hl | hl⟩
            · unfold letter at hl; simp at hl; simp; omega
            · unfold digit at hl; simp at hl; simp; omega
            · simp at hl; simp; omega
          · exact ih false (by simpa using hy) x hx
        · simp at hy
    simp only [List.mem_cons, List.mem_append, List.not_mem_nil, or_false] at hc
    rcases hc with rfl | hc | rfl
    · decide
    · exact key true tag hn c hc
    · decide
theorem tagText_last (tag : List UInt8) : ∃ a c, 36 :: tagText tag = a ++ [c] ∧ (c = 36 ∨ c = 62) := by
  unfold tagText
  split
  · exact ⟨[], 36, rfl, .inl rfl⟩
  · exact ⟨36 :: 60 :: tag, 62, by simp, .inr rfl⟩
theorem digit_head60 (D R : List UInt8) (h0 : D ≠ []) (hd : ∀ c ∈ D, digit c = true) : hasPrefix (D ++ R) [60] = false := by
  cases D with
  | nil => exact absurd rfl h0
  | cons c t =>
    have hc := hd c (by simp)
    unfold digit at hc
    simp at hc
    show hasPrefix (c :: (t ++ R)) [60] = false
    rw [hasPrefix_one]
    simp
    omega

/-- THE INDUCTION. -/
theorem back : ∀ (f : Nat) (pend r : List UInt8) (ps : List Piece), cutGo f pend r = some ps → ∃ r', join ps = some (pend ++ r') ∧
    (∀ f', r'.length < f' → cutGo f' pend r' = some ps) ∧ r'.length ≤ r.length ∧ Lk r r' ∧
    (∀ f d, endGo f d r = some r.length → ∀ f', r'.length < f' → endGo f' d r' = some r'.length) ∧ (noNought r → r' = r)
  | 0, pend, r, ps, h => by simp [cutGo] at h
  | f + 1, pend, [], ps, h => by
    simp only [cutGo, Option.some.injEq] at h
    subst h
    refine ⟨[], by rw [join_flush, List.append_nil], ?_, Nat.le_refl _, ⟨[], by simp, .inl ⟨rfl, rfl⟩⟩, ?_, fun _ => rfl⟩
    · intro f' hf
      obtain ⟨g, rfl⟩ : ∃ g, f' = g + 1 := ⟨f' - 1, by simp at hf; omega⟩
      rfl
    · intro f d h
      cases f <;> simp [endGo] at h
  | f + 1, pend, c :: t, ps, h => by
    cases hp : passLen (c :: t) with
    | none =>
      unfold cutGo at h
      rw [hp] at h
      simp at h
    | some n =>
      cases n with
      | succ n =>
        have hle := passLen_le _ _ hp
        obtain ⟨X, R, hXR, hX⟩ : ∃ X R, c :: t = X ++ R ∧ X.length = n + 1 := ⟨(c :: t).take (n + 1), (c :: t).drop (n + 1), (List.take_append_drop _ _).symm, by rw [List.length_take]; omega⟩
        rw [hXR] at h hp ⊢
        rw [cutGo_pass hX hp] at h
        obtain ⟨r', h1, h2, h3, h4, h5, h6⟩ := back f _ _ _ h
        have hp' : passLen (X ++ r') = some (n + 1) := by
          rw [← hX] at hp ⊢
          exact passLen_stable R r' X h4.head (by rintro rfl; simp at hX) hp
        refine ⟨X ++ r', by rw [h1, List.append_assoc], ?_, by simp; omega, h4.app X, ?_, fun hn => by rw [h6 hn.tail]⟩
        · intro f' hf
          obtain ⟨g, rfl⟩ : ∃ g, f' = g + 1 := ⟨f' - 1, by omega⟩
          rw [cutGo_pass hX hp']
          exact h2 g (by simp at hf; omega)
        · intro f0 d he f' hf
          cases f0 with
          | zero => simp [endGo] at he
          | succ f0 =>
            obtain ⟨g, rfl⟩ : ∃ g, f' = g + 1 := ⟨f' - 1, by omega⟩
            rw [endGo_pass hX hp] at he
            obtain ⟨m, hm, hm2⟩ := Option.map_eq_some_iff.1 he
            obtain rfl : m = R.length := by simp at hm2; omega
            rw [endGo_pass hX hp', h5 f0 d hm g (by simp at hf; omega)]
            simp; omega
      | zero =>
        rw [cutGo_zero hp] at h
        have single : (cutGo f (pend ++ [c]) t = some ps) → ((∀ t', Lk t t' → ((c.toNat : Int) == 36) = true → ¬ ((dollar t').2.2 != 0) = true ∧ ¬ 0 < (dollar t').2.1)) → ∃ r', join ps = some (pend ++ r') ∧
            (∀ f', r'.length < f' → cutGo f' pend r' = some ps) ∧ r'.length ≤ (c :: t).length ∧ Lk (c :: t) r' ∧
            (∀ f d, endGo f d (c :: t) = some (c :: t).length → ∀ f', r'.length < f' → endGo f' d r' = some r'.length) ∧ (noNought (c :: t) → r' = c :: t) := by
          intro h hd
          obtain ⟨r', h1, h2, h3, h4, h5, h6⟩ := back f _ _ _ h
          have hp' := passLen_zero c t r' h4.head hp
          refine ⟨c :: r', by rw [h1, List.append_assoc]; rfl, ?_, by simp; omega, h4.cons c, ?_, fun hn => by rw [h6 (noNought.tail (X := [c]) hn)]⟩
          · intro f' hf
            obtain ⟨g, rfl⟩ : ∃ g, f' = g + 1 := ⟨f' - 1, by omega⟩
            have hg := h2 g (by simp at hf; omega)
            rw [cutGo_zero hp']
            split
            · rename_i h36
              obtain ⟨e1, e2⟩ := hd r' h4 h36
              rw [if_neg e1, if_neg e2]
              exact hg
            · exact hg
          · intro f0 d he f' hf
            cases f0 with
            | zero => simp [endGo] at he
            | succ f0 =>
              obtain ⟨g, rfl⟩ : ∃ g, f' = g + 1 := ⟨f' - 1, by omega⟩
              rw [endGo_zero hp] at he
              rw [endGo_zero hp']
              generalize (if ((c.toNat : Int) == 123) = true then d + 1 else if ((c.toNat : Int) == 125) = true then d - 1 else d) = d' at he ⊢
              split at he
              · rename_i h0
                rw [if_pos h0]
                simp only [List.length_cons, Option.some.injEq] at he ⊢
                omega
              · rename_i h0
                rw [if_neg h0]
                obtain ⟨m, hm, hm2⟩ := Option.map_eq_some_iff.1 he
                obtain rfl : m = t.length := by simp at hm2; omega
                rw [h5 f0 d' hm g (by simp at hf; omega)]
                rfl
        by_cases h36 : ((c.toNat : Int) == 36) = true
        · obtain rfl : c = 36 := by
            have : (c.toNat : Int) = 36 := by simpa using h36
            exact UInt8.toNat_inj.1 (by show c.toNat = 36; omega)
          rw [if_pos h36] at h
          split at h
          · simp at h
          · rename_i he0
            split at h
            · rename_i hk
              clear single
              obtain ⟨tag, htag, ⟨R, ht, hdol⟩ | ⟨D, R, ht, hD0, hD, hD3, hR, hdol⟩⟩ := dollar_form t hk
              · rw [hdol] at h
                simp only at h
                have hdrop : (36 :: t).drop ((tagText tag).length + 2) = R := by
                  rw [show (tagText tag).length + 2 = ((tagText tag).length + 1) + 1 by omega, List.drop_succ_cons, ht, ← List.drop_drop, List.drop_left' rfl]
                  rfl
                rw [hdrop] at h
                obtain ⟨qs, hq, rfl⟩ := Option.map_eq_some_iff.1 h
                obtain ⟨r', h1, h2, h3, h4, h5, h6⟩ := back f _ _ _ hq
                rw [List.nil_append] at h1
                have hin : ∀ c ∈ (36 :: (tagText tag ++ [36]) : List UInt8), inner c = true := by
                  intro c hc
                  simp only [List.mem_cons, List.mem_append, List.not_mem_nil, or_false] at hc
                  rcases hc with rfl | hc | rfl
                  · decide
                  · exact tagText_inner tag htag c hc
                  · decide
                have hr0 : (36 :: t) = (36 :: (tagText tag ++ [36])) ++ R := by rw [ht]; simp
                rw [hr0]
                refine ⟨(36 :: (tagText tag ++ [36])) ++ r', ?_, ?_, by simp; omega, ?_, ?_, ?_⟩
                · exact join_app _ _ _ _ (join_flush pend) (join_cons _ _ _ _ (piece_whole tag htag) h1)
                · intro f' hf
                  obtain ⟨g, rfl⟩ : ∃ g, f' = g + 1 := ⟨f' - 1, by omega⟩
                  have hd2 : dollar (tagText tag ++ 36 :: r') = (⟨2, [], 0, tag⟩, (tagText tag).length + 2, 0) := by
                    rw [dollar_tag tag _ htag (by simp [hasPrefix, List.isPrefixOf]), dollar2_whole]
                  have e : (36 :: (tagText tag ++ [36])) ++ r' = 36 :: (tagText tag ++ 36 :: r') := by simp
                  rw [e, cutGo_dollar, hd2, if_neg (show ¬ ((0 : Int) != 0) = true by decide), if_pos (by simp)]
                  simp only
                  have hdrop2 : (36 :: (tagText tag ++ 36 :: r')).drop ((tagText tag).length + 2) = r' := by
                    rw [show (tagText tag).length + 2 = ((tagText tag).length + 1) + 1 by omega, List.drop_succ_cons, ← List.drop_drop, List.drop_left' rfl]
                    rfl
                  rw [hdrop2, h2 g (by simp at hf; omega)]
                  rfl
                · exact Lk.dollar _ _
                · exact fun f0 d he f' hf => endGo_swap _ _ R r' hin hin (by simp) h5 f0 d he f' hf
                · exact fun hn => by rw [h6 hn.tail]
              · rw [hdol] at h
                simp only at h
                have hdrop : (36 :: t).drop ((tagText tag).length + 1 + D.length) = R := by
                  rw [show (tagText tag).length + 1 + D.length = ((tagText tag).length + D.length) + 1 by omega, List.drop_succ_cons, ht, ← List.drop_drop, List.drop_left' rfl, List.drop_left' rfl]
                rw [hdrop] at h
                obtain ⟨qs, hq, rfl⟩ := Option.map_eq_some_iff.1 h
                obtain ⟨r', h1, h2, h3, h4, h5, h6⟩ := back f _ _ _ hq
                rw [List.nil_append] at h1
                obtain ⟨m, z, hdf, hDz⟩ := digits_form D hD0 hD
                have hnum := num_of_dec D m hD0 hD hdf
                have hlen : D.length = z + (decDigits m).length := by
                  conv => lhs; rw [hDz]
                  simp
                have hm9 := dec_len_le m (by omega)
                have hdd := decDigits_digit m
                have hdn := decDigits_ne m
                have hR' := digits_head h4.head hR
                have hnn : num (decDigits m) = m := by have := num_noughts 0 m; simpa using this
                have hdl0 : (decDigits m).length ≠ 0 := fun e => hdn (List.eq_nil_of_length_eq_zero e)
                have hin : ∀ x : List UInt8, (∀ c ∈ x, digit c = true) → ∀ c ∈ (36 :: (tagText tag ++ x) : List UInt8), inner c = true := by
                  intro x hx c hc
                  simp only [List.mem_cons, List.mem_append] at hc
                  rcases hc with rfl | hc | hc
                  · decide
                  · exact tagText_inner tag htag c hc
                  · exact digit_inner (hx c hc)
                have hr0 : (36 :: t) = (36 :: (tagText tag ++ D)) ++ R := by rw [ht]; simp
                rw [hr0]
                refine ⟨(36 :: (tagText tag ++ decDigits m)) ++ r', ?_, ?_, by simp; omega, ?_, ?_, ?_⟩
                · refine join_app _ _ _ _ (join_flush pend) (join_cons _ _ _ _ ?_ h1)
                  rw [hnum]
                  exact piece_part tag m hm9 htag
                · intro f' hf
                  obtain ⟨g, rfl⟩ : ∃ g, f' = g + 1 := ⟨f' - 1, by omega⟩
                  have hd2 : dollar (tagText tag ++ (decDigits m ++ r')) = (⟨3, [], num D, tag⟩, (tagText tag).length + 1 + (decDigits m).length, 0) := by
                    rw [dollar_tag tag _ htag (digit_head60 _ _ hdn hdd), dollar2_part _ _ _ _ hdn hdd (by omega) hR', hnn, hnum]
                  have e : (36 :: (tagText tag ++ decDigits m)) ++ r' = 36 :: (tagText tag ++ (decDigits m ++ r')) := by simp
                  rw [e, cutGo_dollar, hd2, if_neg (show ¬ ((0 : Int) != 0) = true by decide), if_pos (show 0 < (tagText tag).length + 1 + (decDigits m).length by omega)]
                  simp only
                  have hdrop2 : (36 :: (tagText tag ++ (decDigits m ++ r'))).drop ((tagText tag).length + 1 + (decDigits m).length) = r' := by
                    rw [show (tagText tag).length + 1 + (decDigits m).length = ((tagText tag).length + (decDigits m).length) + 1 by omega, List.drop_succ_cons, ← List.drop_drop, List.drop_left' rfl, List.drop_left' rfl]
                  rw [hdrop2, h2 g (by simp at hf; omega)]
                  rfl
                · exact Lk.dollar _ _
                · exact fun f0 d he f' hf => endGo_swap _ _ R r' (hin D hD) (hin _ hdd) (by simp; omega) h5 f0 d he f' hf
                · intro hn
                  rw [h6 hn.tail]
                  have hz : z = 0 := by
                    cases z with
                    | zero => rfl
                    | succ z =>
                      exfalso
                      obtain ⟨a, c, ha, hc⟩ := tagText_last tag
                      have hh := hn a c (List.replicate z 48 ++ decDigits m ++ R) (by
                        rw [hDz, List.replicate_succ]
                        show (36 :: tagText tag) ++ (48 :: List.replicate z 48 ++ decDigits m) ++ R = _
                        rw [ha]; simp)
                      rcases hc with rfl | rfl
                      · exact hh.1 rfl
                      · exact hh.2 rfl
                  rw [hz] at hDz
                  rw [show D = decDigits m by simpa using hDz]
            · rename_i hk
              exact single h (fun t' hl _ => by rw [← dollar_lk hl]; exact ⟨he0, hk⟩)
        · rw [if_neg h36] at h
          exact single h (fun _ _ hc => absurd hc h36)

/-- THE LAW. -/
theorem cut_back (s : List UInt8) (l : List Piece) (h : cut s = (l, 0)) : ∃ t, join l = some t ∧ cut t = (l, 0) ∧ t.length ≤ s.length ∧ (noNought s → t = s) := by
  unfold cut at h
  split at h
  · simp at h
  · rename_i hn
    have hs0 : s ≠ [] := fun e => hn (.inl e)
    have hend : endAt s 0 = s.length := Classical.not_not.1 fun e => hn (.inr e)
    have hc : cutGo (s.length + 1) [] s = some l := by
      cases hc : cutGo (s.length + 1) [] s with
      | none => rw [hc] at h; simp [cutRes] at h
      | some ps => rw [hc] at h; simp [cutRes] at h; rw [h]
    obtain ⟨t, h1, h2, h3, h4, h5, h6⟩ := back _ _ _ _ hc
    rw [List.nil_append] at h1
    refine ⟨t, h1, ?_, h3, h6⟩
    cases s with
    | nil => exact absurd rfl hs0
    | cons c u =>
      have hcl : ((c.toNat : Int) == 123) = true ∧ endGo ((c :: u).length + 1) 0 (c :: u) = some (c :: u).length := by
        unfold endAt at hend
        rw [if_pos (by simp)] at hend
        simp only [Int.toNat_zero, List.drop_zero] at hend
        unfold endLen at hend
        simp only at hend
        split at hend
        · rename_i h123
          refine ⟨h123, ?_⟩
          cases he : endGo ((c :: u).length + 1) 0 (c :: u) with
          | none => rw [he] at hend; simp [place] at hend; omega
          | some m => rw [he] at hend; simp [place] at hend; simp; omega
        · simp [place] at hend; omega
      have hh := h4.head
      cases t with
      | nil => simp at hh
      | cons c' u' =>
        simp only [List.head?_cons, Option.some.injEq] at hh
        subst hh
        have he := h5 _ _ hcl.2 ((c :: u').length + 1) (by omega)
        have hend' : endAt (c :: u') 0 = (c :: u').length := by
          unfold endAt
          rw [if_pos (by simp)]
          simp only [Int.toNat_zero, List.drop_zero]
          unfold endLen
          simp only
          rw [if_pos hcl.1, he]
          simp [place]
        unfold cut
        rw [if_neg (by rw [hend']; simp), h2 _ (Nat.lt_succ_self _)]
        rfl
/-! ### How much there is -/
theorem flush_bounds (t : List UInt8) : (flush t).length ≤ 1 ∧ ∀ p ∈ flush t, p.text.length ≤ t.length ∧ p.tag.length = 0 := by
  unfold flush
  split
  · simp
  · simp
theorem tag_le (tag : List UInt8) : tag.length ≤ (tagText tag).length := by
  unfold tagText
  split
  · rename_i h; rw [h]; simp
  · simp; omega
theorem dollar_bounds (t : List UInt8) (hk : 0 < (dollar t).2.1) : (dollar t).1.text = [] ∧ (dollar t).1.tag.length ≤ t.length ∧ 2 ≤ (dollar t).2.1 := by
  obtain ⟨tag, _, ⟨R, ht, hd⟩ | ⟨D, R, ht, hD0, _, _, _, hd⟩⟩ := dollar_form t hk
  · have := tag_le tag
    have h2 := congrArg List.length ht
    simp at h2
    rw [hd]
    exact ⟨rfl, by simp only; omega, by simp only; omega⟩
  · have := tag_le tag
    have h2 := congrArg List.length ht
    simp at h2
    have h3 : D.length ≠ 0 := fun e => hD0 (List.eq_nil_of_length_eq_zero e)
    rw [hd]
    exact ⟨rfl, by simp only; omega, by simp only; omega⟩
theorem cutGo_bounds : ∀ (f : Nat) (pend r : List UInt8) (ps : List Piece), cutGo f pend r = some ps → ps.length ≤ 2 * r.length + 1 ∧ ∀ p ∈ ps, p.text.length ≤ pend.length + r.length ∧ p.tag.length ≤ r.length
  | 0, pend, r, ps, h => by simp [cutGo] at h
  | f + 1, pend, [], ps, h => by
    simp only [cutGo, Option.some.injEq] at h
    subst h
    have hb := flush_bounds pend
    exact ⟨by simpa using hb.1, fun p hp => ⟨by simpa using (hb.2 p hp).1, by simpa using (hb.2 p hp).2⟩⟩
  | f + 1, pend, c :: t, ps, h => by
    cases hp : passLen (c :: t) with
    | none =>
      unfold cutGo at h
      rw [hp] at h
      simp at h
    | some n =>
      cases n with
      | succ n =>
        have hle := passLen_le _ _ hp
        obtain ⟨X, R, hXR, hX⟩ : ∃ X R, c :: t = X ++ R ∧ X.length = n + 1 := ⟨(c :: t).take (n + 1), (c :: t).drop (n + 1), (List.take_append_drop _ _).symm, by rw [List.length_take]; omega⟩
        rw [hXR] at h hp ⊢
        rw [cutGo_pass hX hp] at h
        obtain ⟨h1, h2⟩ := cutGo_bounds f _ _ _ h
        refine ⟨by simp; omega, fun p hp => ?_⟩
        have := h2 p hp
        simp at this ⊢
        omega
      | zero =>
        rw [cutGo_zero hp] at h
        have single : cutGo f (pend ++ [c]) t = some ps → ps.length ≤ 2 * (c :: t).length + 1 ∧ ∀ p ∈ ps, p.text.length ≤ pend.length + (c :: t).length ∧ p.tag.length ≤ (c :: t).length := by
          intro h
          obtain ⟨h1, h2⟩ := cutGo_bounds f _ _ _ h
          refine ⟨by simp; omega, fun p hp => ?_⟩
          have := h2 p hp
          simp at this ⊢
          omega
        split at h
        · split at h
          · simp at h
          · split at h
            · rename_i hk
              obtain ⟨qs, hq, rfl⟩ := Option.map_eq_some_iff.1 h
              obtain ⟨h1, h2⟩ := cutGo_bounds f _ _ _ hq
              obtain ⟨b1, b2, b3⟩ := dollar_bounds t hk
              have hb := flush_bounds pend
              simp only [List.length_drop, List.length_cons] at h1 h2 ⊢
              have hdl := dollar_le t
              refine ⟨by simp; omega, fun p hp => ?_⟩
              simp only [List.mem_append, List.mem_cons] at hp
              rcases hp with hp | rfl | hp
              · have := hb.2 p hp; omega
              · rw [b1]; simp; omega
              · have := h2 p hp
                simp at this
                omega
            · exact single h
        · exact single h
theorem cut_bounds (s : List UInt8) (l : List Piece) (h : cut s = (l, 0)) : l.length ≤ 2 * s.length + 1 ∧ ∀ p ∈ l, p.text.length ≤ s.length ∧ p.tag.length ≤ s.length := by
  unfold cut at h
  split at h
  · simp at h
  · cases hc : cutGo (s.length + 1) [] s with
    | none => rw [hc] at h; simp [cutRes] at h
    | some ps =>
      rw [hc] at h
      simp [cutRes] at h
      subst h
      have := cutGo_bounds _ _ _ _ hc
      simpa using this
theorem cut_err (s : List UInt8) (l : List Piece) (e : Int) (h : cut s = (l, e)) (he : e ≠ 0) : l = [] := by
  unfold cut at h
  split at h
  · simp at h; exact h.1
  · cases hc : cutGo (s.length + 1) [] s with
    | none => rw [hc] at h; simp [cutRes] at h; exact h.1
    | some ps => rw [hc] at h; simp [cutRes] at h; exact absurd h.2.symm he
end Sp
end Go.Proofs.YticdgfljaphhgaaDoor
