/- Plain functions: an action's text cut into pieces. -/
import Derived.Test.YticdgfljaphhgaaDoorSpB
namespace Go.Proofs.YticdgfljaphhgaaDoor
namespace Sp
open Go.Lib (index indexByte hasPrefix)

def flush (t : List UInt8) : List Piece := if t = [] then [] else [⟨1, t, 0, []⟩]
/-- Fuel, the text that stands since the last piece, what is left; none: a number that is too long. -/
def cutGo : Nat → List UInt8 → List UInt8 → Option (List Piece)
  | 0, _, _ => none
  | _ + 1, pend, [] => some (flush pend)
  | f + 1, pend, c :: t =>
    match passLen (c :: t) with
    | none => none
    | some (n + 1) => cutGo f (pend ++ (c :: t).take (n + 1)) ((c :: t).drop (n + 1))
    | some 0 =>
      if ((c.toNat : Int) == 36) = true then
        if ((dollar t).2.2 != 0) = true then none
        else if 0 < (dollar t).2.1 then (cutGo f [] ((c :: t).drop (dollar t).2.1)).map (flush pend ++ (dollar t).1 :: ·)
        else cutGo f (pend ++ [c]) t
      else cutGo f (pend ++ [c]) t
def cutRes : Option (List Piece) → List Piece × Int
  | none => ([], 6)
  | some ps => (ps, 0)
def cut (l : List UInt8) : List Piece × Int :=
  if l = [] ∨ endAt l 0 ≠ l.length then ([], 1)
  else cutRes (cutGo (l.length + 1) [] l)

/-- A text that ends where it ends. -/
def Ok (r : List UInt8) : Prop := r = [] ∨ ∃ f d, endGo f d r = some r.length
theorem Ok.pass {r : List UInt8} (h : Ok r) (hr : r ≠ []) : passLen r ≠ none := by
  rcases h with h | ⟨f, d, h⟩
  · exact absurd h hr
  · cases r with
    | nil => exact absurd rfl hr
    | cons c t =>
      cases f with
      | zero => simp [endGo] at h
      | succ f =>
        intro hn
        simp [endGo, hn] at h
theorem Ok.skip {r : List UInt8} {n : Nat} (h : Ok r) (hp : passLen r = some (n + 1)) : Ok (r.drop (n + 1)) := by
  rcases h with h | ⟨f, d, h⟩
  · subst h; left; rfl
  · cases r with
    | nil => left; rfl
    | cons c t =>
      cases f with
      | zero => simp [endGo] at h
      | succ f =>
        unfold endGo at h
        rw [hp] at h
        simp only at h
        obtain ⟨m, hm, he⟩ := Option.map_eq_some_iff.1 h
        right
        refine ⟨f, d, ?_⟩
        rw [hm, List.length_drop]
        congr 1
        omega
theorem Ok.step {c : UInt8} {t : List UInt8} (h : Ok (c :: t)) (hp : passLen (c :: t) = some 0) : Ok t := by
  rcases h with h | ⟨f, d, h⟩
  · cases h
  · cases f with
    | zero => simp [endGo] at h
    | succ f =>
      unfold endGo at h
      rw [hp] at h
      simp only at h
      generalize (if ((c.toNat : Int) == 123) = true then d + 1 else if ((c.toNat : Int) == 125) = true then d - 1 else d) = d' at h
      split at h
      · left
        simp at h
        exact h
      · obtain ⟨m, hm, he⟩ := Option.map_eq_some_iff.1 h
        right
        refine ⟨f, d', ?_⟩
        rw [hm]
        simp at he
        simp [he]

/-- A byte at which nothing is passed over. -/
def plain (c : UInt8) : Bool := !((c.toNat : Int) == 34) && !((c.toNat : Int) == 39) && !((c.toNat : Int) == 96) && !((c.toNat : Int) == 47)
theorem plain_pass {c : UInt8} (t : List UInt8) (h : plain c = true) : passLen (c :: t) = some 0 := by
  unfold plain at h
  simp only [Bool.and_eq_true, Bool.not_eq_true'] at h
  obtain ⟨⟨⟨h1, h2⟩, h3⟩, h4⟩ := h
  have h5 : c ≠ 47 := by rintro rfl; simp at h4
  have e1 : ¬ hasPrefix (c :: t) [47, 42] = true := by simp [hasPrefix]; exact fun e => absurd e.symm h5
  have e2 : ¬ hasPrefix (c :: t) [47, 47] = true := by simp [hasPrefix]; exact fun e => absurd e.symm h5
  rw [passLen_cons, if_neg (by rw [h1, h2]; simp), if_neg (by rw [h3]; simp), if_neg e1, if_neg e2]
theorem Ok.plains : ∀ (n : Nat) (r : List UInt8), Ok r → (∀ c ∈ r.take n, plain c = true) → Ok (r.drop n)
  | 0, r, h, _ => by simpa using h
  | _ + 1, [], _, _ => by left; rfl
  | n + 1, c :: t, h, hp => by
    have hc := hp c (by simp)
    have := Ok.plains n t (h.step (plain_pass t hc)) (fun x hx => hp x (by simp [hx]))
    simpa using this
theorem digit_plain {c : UInt8} (h : digit c = true) : plain c = true := by
  unfold digit at h; simp at h
  unfold plain; simp; omega
theorem letter_plain {c : UInt8} (h : letter c = true) : plain c = true := by
  unfold letter at h; simp at h
  unfold plain; simp; omega
theorem digits_plain : ∀ (l : List UInt8), ∀ c ∈ l.take (digits l), plain c = true
  | [], c, h => by simp at h
  | b :: t, c, h => by
    unfold digits at h
    by_cases hb : digit b = true
    · rw [if_pos hb] at h
      simp only [List.take_succ_cons, List.mem_cons] at h
      rcases h with rfl | h
      · exact digit_plain hb
      · exact digits_plain t c h
    · rw [if_neg hb] at h; simp at h
theorem name_plain : ∀ (b : Bool) (l : List UInt8), ∀ c ∈ l.take (nameLen b l), plain c = true
  | _, [], c, h => by simp at h
  | b, x :: t, c, h => by
    unfold nameLen at h
    split at h
    · rename_i hx
      simp only [List.take_succ_cons, List.mem_cons] at h
      rcases h with rfl | h
      · simp only [Bool.or_eq_true, Bool.and_eq_true] at hx
        rcases hx with hx | ⟨_, hx | hx⟩
        · exact letter_plain hx
        · exact digit_plain hx
        · unfold plain; simp at hx; simp; omega
      · exact name_plain false t c h
    · simp at h
theorem dollar2_plain (tag : List UInt8) (off : Nat) (r pre : List UInt8) (hpre : ∀ c ∈ pre, plain c = true) (hl : pre.length = off) :
    ∀ c ∈ (pre ++ r).take (dollar2 tag off r).2.1, plain c = true := by
  intro c hc
  unfold dollar2 at hc
  split at hc
  · rename_i h
    cases r with
    | nil => simp [hasPrefix] at h
    | cons d t =>
      simp [hasPrefix] at h
      subst h
      simp only [List.take_append, hl, List.mem_append] at hc
      rcases hc with hc | hc
      · exact hpre c (List.mem_of_mem_take hc)
      · simp at hc
        subst hc; decide
  · split at hc
    · simp at hc
    · split at hc
      · simp at hc
      · simp only [List.take_append, hl, List.mem_append] at hc
        rcases hc with hc | hc
        · exact hpre c (List.mem_of_mem_take hc)
        · rw [Nat.add_sub_cancel_left] at hc
          exact digits_plain r c hc
theorem dollar_plain (c : UInt8) (t : List UInt8) (hc : ((c.toNat : Int) == 36) = true) : ∀ x ∈ (c :: t).take (dollar t).2.1, plain x = true := by
  have hcp : plain c = true := by simp at hc; unfold plain; simp; omega
  unfold dollar
  split
  · rename_i h60
    cases t with
    | nil => simp [hasPrefix] at h60
    | cons d t =>
      simp [hasPrefix] at h60
      subst h60
      simp only [List.drop_succ_cons, List.drop_zero]
      split
      · rename_i hn
        obtain ⟨hn, h62⟩ := hn
        have hm := nameLen_le true t
        generalize hmm : nameLen true t = m at *
        rw [Nat.add_comm 1 m] at h62
        simp only [List.drop_succ_cons] at h62
        cases hd : t.drop m with
        | nil => rw [hd] at h62; simp [hasPrefix] at h62
        | cons e u =>
          rw [hd] at h62
          simp [hasPrefix] at h62
          subst h62
          have ht : c :: 60 :: t = (c :: 60 :: (t.take m ++ [62])) ++ u := by
            simp only [List.cons_append, List.append_assoc, List.nil_append]
            rw [← hd, List.take_append_drop]
          have hu : t.drop (m + 1) = u := by
            rw [← List.drop_drop, hd]; rfl
          rw [hu, ht]
          refine dollar2_plain _ (m + 3) u _ ?_ (by simp; omega)
          intro x hx
          simp only [List.mem_cons, List.mem_append, List.not_mem_nil, or_false] at hx
          rcases hx with rfl | rfl | hx | rfl
          · exact hcp
          · decide
          · rw [← hmm] at hx; exact name_plain true t x hx
          · decide
      · simp
  · have := dollar2_plain [] 1 t [c] (by simpa using hcp) rfl
    simpa using this
theorem dollar_le (t : List UInt8) : (dollar t).2.1 ≤ t.length + 1 := by
  have key : ∀ tag off r, off + r.length ≤ t.length + 1 → (dollar2 tag off r).2.1 ≤ t.length + 1 := by
    intro tag off r h
    unfold dollar2
    have := digits_le r
    split
    · rename_i hp
      cases r with
      | nil => simp [hasPrefix] at hp
      | cons => simp at *; omega
    · split
      · simp
      · split
        · simp
        · simp; omega
  unfold dollar
  split
  · split
    · rename_i h60 hn
      refine key _ _ _ ?_
      simp
      obtain ⟨_, h62⟩ := hn
      have : (t.drop (1 + nameLen true (t.drop 1))).length ≠ 0 := by
        intro h0
        rw [List.eq_nil_of_length_eq_zero h0] at h62
        simp [hasPrefix] at h62
      simp at this
      omega
    · simp
  · exact key _ _ _ (by omega)
theorem Ok.dollar {c : UInt8} {t : List UInt8} (h : Ok (c :: t)) (hc : ((c.toNat : Int) == 36) = true) : Ok ((c :: t).drop (dollar t).2.1) :=
  h.plains _ _ (dollar_plain c t hc)
theorem dollar_err (t : List UInt8) : ((dollar t).2.2 != 0) = true → (dollar t).2.2 = 6 := by
  have key : ∀ tag off r, ((dollar2 tag off r).2.2 != 0) = true → (dollar2 tag off r).2.2 = 6 := by
    intro tag off r
    unfold dollar2
    split
    · simp
    · split
      · simp
      · split <;> simp
  unfold dollar
  split
  · split
    · exact key _ _ _
    · simp
  · exact key _ _ _
theorem Ok.start {l : List UInt8} (h : endAt l 0 = l.length) : Ok l := by
  unfold endAt at h
  split at h
  · rename_i h0
    simp only [Int.toNat_zero, List.drop_zero] at h
    cases l with
    | nil => left; rfl
    | cons c t =>
      right
      unfold endLen at h
      simp only at h
      split at h
      · rename_i hc
        refine ⟨(c :: t).length + 1, 0, ?_⟩
        · cases he : endGo ((c :: t).length + 1) 0 (c :: t) with
          | none => rw [he] at h; simp [place] at h; omega
          | some n => rw [he] at h; simp [place] at h; simp; omega
      · simp [place] at h; omega
  · omega

end Sp
end Go.Proofs.YticdgfljaphhgaaDoor
