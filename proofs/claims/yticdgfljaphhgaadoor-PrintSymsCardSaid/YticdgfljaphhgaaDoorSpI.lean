/- Plain laws: the form of a dollar's piece, and where it is the same. No program in sight. -/
import Derived.Test.YticdgfljaphhgaaDoorSpH
namespace Go.Proofs.YticdgfljaphhgaaDoor
namespace Sp
open Go.Lib (index indexByte hasPrefix decDigits decFrom digitVal)

theorem digits_take : ∀ (r : List UInt8), ∀ c ∈ r.take (digits r), digit c = true
  | [], c, h => by simp at h
  | b :: t, c, h => by
    unfold digits at h
    by_cases hb : digit b = true
    · rw [if_pos hb] at h
      simp only [List.take_succ_cons, List.mem_cons] at h
      rcases h with rfl | h
      · exact hb
      · exact digits_take t c h
    · rw [if_neg hb] at h; simp at h
theorem digits_drop : ∀ (r : List UInt8), digits (r.drop (digits r)) = 0
  | [] => by simp [digits]
  | b :: t => by
    by_cases hb : digit b = true
    · have e : digits (b :: t) = digits t + 1 := by rw [digits, if_pos hb]
      rw [e, List.drop_succ_cons]
      exact digits_drop t
    · have e : digits (b :: t) = 0 := by rw [digits, if_neg hb]
      rw [e]; simpa using e
theorem digits_of : ∀ (D R : List UInt8), (∀ c ∈ D, digit c = true) → digits R = 0 → digits (D ++ R) = D.length
  | [], _, _, h => h
  | c :: t, R, h, hR => by
    show digits (c :: (t ++ R)) = _
    rw [digits, if_pos (h c (by simp)), digits_of t R (fun y hy => h y (by simp [hy])) hR]
    rfl
theorem digits_head {R R' : List UInt8} (h : R.head? = R'.head?) (h0 : digits R = 0) : digits R' = 0 := by
  cases R' with
  | nil => rfl
  | cons c t =>
    cases R with
    | nil => simp at h
    | cons b u =>
      simp only [List.head?_cons, Option.some.injEq] at h
      subst h
      unfold digits at h0 ⊢
      by_cases hb : digit b = true
      · rw [if_pos hb] at h0; omega
      · rw [if_neg hb]

theorem dollar2_form (tag : List UInt8) (off : Nat) (r : List UInt8) (hk : 0 < (dollar2 tag off r).2.1) :
    (∃ R, r = 36 :: R ∧ dollar2 tag off r = (⟨2, [], 0, tag⟩, off + 1, 0)) ∨
    ∃ D R, r = D ++ R ∧ D ≠ [] ∧ (∀ c ∈ D, digit c = true) ∧ D.length ≤ 3 ∧ digits R = 0 ∧ dollar2 tag off r = (⟨3, [], num D, tag⟩, off + D.length, 0) := by
  unfold dollar2 at hk ⊢
  split at hk
  · rename_i h
    left
    rw [if_pos h]
    cases r with
    | nil => simp [hasPrefix, List.isPrefixOf] at h
    | cons d t =>
      have : d = 36 := by simp [hasPrefix, List.isPrefixOf] at h; exact h.symm
      subst this
      exact ⟨t, rfl, rfl⟩
  · rename_i h
    rw [if_neg h]
    split at hk
    · simp at hk
    · rename_i h0
      rw [if_neg h0]
      split at hk
      · simp at hk
      · rename_i h3
        rw [if_neg h3]
        right
        have hl : (r.take (digits r)).length = digits r := by rw [List.length_take]; exact Nat.min_eq_left (digits_le r)
        exact ⟨r.take (digits r), r.drop (digits r), (List.take_append_drop _ _).symm, fun e => h0 (by rw [← hl, e]; rfl), digits_take r, by omega, digits_drop r, by rw [hl]⟩
theorem dollar2_whole (tag : List UInt8) (off : Nat) (R : List UInt8) : dollar2 tag off (36 :: R) = (⟨2, [], 0, tag⟩, off + 1, 0) := by
  unfold dollar2
  rw [if_pos (by simp [hasPrefix, List.isPrefixOf])]
theorem dollar2_part (tag : List UInt8) (off : Nat) (D R : List UInt8) (h0 : D ≠ []) (hd : ∀ c ∈ D, digit c = true) (h3 : D.length ≤ 3) (hR : digits R = 0) :
    dollar2 tag off (D ++ R) = (⟨3, [], num D, tag⟩, off + D.length, 0) := by
  unfold dollar2
  have h36 : ¬ hasPrefix (D ++ R) [36] = true := by
    cases D with
    | nil => exact absurd rfl h0
    | cons c r =>
      have hc := hd c (by simp)
      unfold digit at hc
      simp at hc
      show ¬ hasPrefix (c :: (r ++ R)) [36] = true
      rw [hasPrefix_one]
      simp
      omega
  have hl : D.length ≠ 0 := fun h => h0 (List.eq_nil_of_length_eq_zero h)
  rw [if_neg h36, digits_of D R hd hR, if_neg hl, if_neg (by omega), List.take_left']
  rfl

theorem nameLen_stop : ∀ (b : Bool) (tag x : List UInt8), nameLen b tag = tag.length → nameLen b (tag ++ 62 :: x) = tag.length
  | b, [], x, _ => by
    show nameLen b (62 :: x) = 0
    unfold nameLen
    rw [if_neg (by cases b <;> decide)]
  | b, c :: t, x, h => by
    show nameLen b (c :: (t ++ 62 :: x)) = _
    unfold nameLen at h ⊢
    split at h
    · rename_i hc
      rw [if_pos hc, nameLen_stop false t x (by simpa using h)]
      rfl
    · simp at h
def TagOk (tag : List UInt8) : Prop := tag = [] ∨ isName tag = true
theorem tagText_name {tag : List UInt8} (h : isName tag = true) : tagText tag = 60 :: (tag ++ [62]) := by
  unfold tagText
  rw [if_neg]
  rintro rfl
  simp [isName] at h
/-- Behind a tag as it is written. -/
theorem dollar_tag (tag r : List UInt8) (h : TagOk tag) (hr : hasPrefix r [60] = false) : dollar (tagText tag ++ r) = dollar2 tag ((tagText tag).length + 1) r := by
  rcases h with rfl | h
  · show dollar r = dollar2 [] 1 r
    unfold dollar
    rw [if_neg (by rw [hr]; decide)]
  · rw [tagText_name h]
    have hn : nameLen true tag = tag.length := by
      unfold isName at h
      simp only [Bool.and_eq_true, decide_eq_true_eq] at h
      exact h.2
    show dollar (60 :: ((tag ++ [62]) ++ r)) = _
    rw [List.append_assoc]
    show dollar (60 :: (tag ++ 62 :: r)) = _
    unfold dollar
    rw [if_pos (by rw [hasPrefix_one]; decide)]
    simp only [List.drop_succ_cons, List.drop_zero]
    rw [nameLen_stop true tag r hn, List.take_left' rfl, Nat.add_comm 1 tag.length, List.drop_succ_cons, List.drop_left' rfl]
    rw [if_pos ⟨h, by rw [hasPrefix_one]; decide⟩]
    have e : (tag ++ 62 :: r).drop (tag.length + 1) = r := by
      rw [← List.drop_drop, List.drop_left' rfl]; rfl
    rw [e]
    simp [Nat.add_assoc]
theorem dollar_form (t : List UInt8) (hk : 0 < (dollar t).2.1) : ∃ tag, TagOk tag ∧ ((∃ R, t = tagText tag ++ 36 :: R ∧ dollar t = (⟨2, [], 0, tag⟩, (tagText tag).length + 2, 0)) ∨
    ∃ D R, t = tagText tag ++ (D ++ R) ∧ D ≠ [] ∧ (∀ c ∈ D, digit c = true) ∧ D.length ≤ 3 ∧ digits R = 0 ∧ dollar t = (⟨3, [], num D, tag⟩, (tagText tag).length + 1 + D.length, 0)) := by
  by_cases h60 : hasPrefix t [60] = true
  · cases t with
    | nil => simp [hasPrefix, List.isPrefixOf] at h60
    | cons c t =>
      have : c = 60 := by simp [hasPrefix, List.isPrefixOf] at h60; exact h60.symm
      subst this
      have hd : dollar (60 :: t) = if isName (t.take (nameLen true t)) = true ∧ hasPrefix ((60 :: t).drop (1 + nameLen true t)) [62] = true then
          dollar2 (t.take (nameLen true t)) (nameLen true t + 3) ((60 :: t).drop (nameLen true t + 2)) else (nil, 0, 0) := by
        conv => lhs; unfold dollar
        rw [if_pos h60]
        simp only [List.drop_succ_cons, List.drop_zero]
      rw [hd] at hk ⊢
      split at hk
      · rename_i hn
        rw [if_pos hn]
        obtain ⟨hn, h62⟩ := hn
        have hm := nameLen_le true t
        generalize nameLen true t = m at *
        rw [Nat.add_comm 1 m, List.drop_succ_cons] at h62
        rw [List.drop_succ_cons] at hk ⊢
        cases hdm : t.drop m with
        | nil => rw [hdm] at h62; simp [hasPrefix, List.isPrefixOf] at h62
        | cons e u =>
          rw [hdm] at h62
          have : e = 62 := by simp [hasPrefix, List.isPrefixOf] at h62; exact h62.symm
          subst this
          have hu : t.drop (m + 1) = u := by rw [← List.drop_drop, hdm]; rfl
          rw [hu] at hk ⊢
          have hlt : (t.take m).length = m := by rw [List.length_take]; omega
          have ht : 60 :: t = tagText (t.take m) ++ u := by
            rw [tagText_name hn]
            simp only [List.cons_append, List.append_assoc, List.nil_append]
            rw [← hdm, List.take_append_drop]
          have hl : (tagText (t.take m)).length = m + 2 := by rw [tagText_name hn]; simp; omega
          refine ⟨t.take m, .inr hn, ?_⟩
          rcases dollar2_form _ _ _ hk with ⟨R, h1, h2⟩ | ⟨D, R, h1, h2, h3, h4, h5, h6⟩
          · exact .inl ⟨R, by rw [ht, h1], by rw [h2, hl]⟩
          · exact .inr ⟨D, R, by rw [ht, h1], h2, h3, h4, h5, by rw [h6, hl]⟩
      · simp at hk
  · have hd : dollar t = dollar2 [] 1 t := by
      unfold dollar
      rw [if_neg h60]
    rw [hd] at hk ⊢
    refine ⟨[], .inl rfl, ?_⟩
    rcases dollar2_form _ _ _ hk with ⟨R, h1, h2⟩ | ⟨D, R, h1, h2, h3, h4, h5, h6⟩
    · exact .inl ⟨R, h1, h2⟩
    · exact .inr ⟨D, R, h1, h2, h3, h4, h5, h6⟩

/-! ### Alike up to the first dollar -/
def Lk (r r' : List UInt8) : Prop := ∃ x, (36 : UInt8) ∉ x ∧ ((r = x ∧ r' = x) ∨ ∃ a b, r = x ++ 36 :: a ∧ r' = x ++ 36 :: b)
theorem Lk.head {r r' : List UInt8} (h : Lk r r') : r.head? = r'.head? := by
  obtain ⟨x, _, ⟨rfl, rfl⟩ | ⟨a, b, rfl, rfl⟩⟩ := h
  · rfl
  · cases x <;> rfl
theorem Lk.dollar (a b : List UInt8) : Lk (36 :: a) (36 :: b) := ⟨[], by simp, .inr ⟨a, b, rfl, rfl⟩⟩
theorem Lk.cons {r r' : List UInt8} (h : Lk r r') (c : UInt8) : Lk (c :: r) (c :: r') := by
  by_cases hc : c = 36
  · subst hc; exact Lk.dollar _ _
  · obtain ⟨x, hx, h⟩ := h
    refine ⟨c :: x, by simp only [List.mem_cons, not_or]; exact ⟨fun e => hc e.symm, hx⟩, ?_⟩
    rcases h with ⟨rfl, rfl⟩ | ⟨a, b, rfl, rfl⟩
    · exact .inl ⟨rfl, rfl⟩
    · exact .inr ⟨a, b, rfl, rfl⟩
theorem Lk.app {r r' : List UInt8} (h : Lk r r') : ∀ X : List UInt8, Lk (X ++ r) (X ++ r')
  | [] => h
  | c :: t => (Lk.app h t).cons c
end Sp
end Go.Proofs.YticdgfljaphhgaaDoor
