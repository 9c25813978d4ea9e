/- Plain functions on lists of bytes: what the functions of layer 5 (texts of actions) compute. No program in sight. Plain functions: pieces of an action's text. Plain functions: an action's text cut into pieces. Plain laws: a dollar with digits between braces is cut into three pieces, or refused. No program in sight. Plain laws: within quotes and remarks nothing is looked at. No program in sight. Plain functions: the text of pieces. Plain laws: what is passed over does not hang on what follows. No program in sight. Plain laws: the form of a dollar's piece, and its text. No program in sight. Plain laws: the form of a dollar's piece, and where it is the same. No program in sight. Plain functions on lists of bytes: what the functions of layers 4 and 6 (bytes in quotes, words of a source) compute. No program in sight. Plain laws: words stand whatever follows them, if it does not go on with them. No program in sight. Plain laws: runs of bytes; the byte in quotes by its table. No program in sight. Plain laws: a word is no longer than the text. No program in sight. -/
import Derived.Lib.Index
import Derived.Lib.IndexMore
import Derived.Lib.Bytealg
import Derived.Lib.Strings
import Derived.Lib.Atoi
import Derived.Lib.ItoaNum
namespace Go.Proofs.YthmimcegiihcnaaDoor
namespace Sp
open Go.Lib (index indexByte hasPrefix)

def digit (c : UInt8) : Bool := decide (48 ≤ c.toNat) && decide (c.toNat ≤ 57)
def letter (c : UInt8) : Bool := (decide (97 ≤ c.toNat) && decide (c.toNat ≤ 122)) || (decide (65 ≤ c.toNat) && decide (c.toNat ≤ 90)) || decide (c.toNat = 95)

/-- How many bytes a name takes; the Bool: at its first byte. -/
def nameLen : Bool → List UInt8 → Nat
  | _, [] => 0
  | fst, c :: t => if letter c || (!fst && (digit c || (c.toNat : Int) == 46)) then nameLen false t + 1 else 0

theorem nameLen_le : ∀ (b : Bool) (l : List UInt8), nameLen b l ≤ l.length
  | _, [] => Nat.le_refl _
  | b, c :: t => by
    unfold nameLen
    split
    · have := nameLen_le false t
      simp; omega
    · omega

def isName (l : List UInt8) : Bool := !l.isEmpty && decide (l.length ≤ 20) && decide (nameLen true l = l.length)

/-- Where p bytes ahead and n behind come to; -1 for none. -/
def place (p : Nat) : Option Nat → Int
  | none => -1
  | some n => ((p + n : Nat) : Int)
theorem place_map (p k : Nat) (o : Option Nat) : place p (o.map (· + k)) = place (p + k) o := by
  cases o with
  | none => rfl
  | some n => simp [place]; omega

/-- What stands in quotes, behind the quote q: how many bytes up to the closing one and with it. -/
def quoteEnd (q : UInt8) : List UInt8 → Option Nat
  | [] => none
  | c :: t =>
    if ((c.toNat : Int) == 92) = true then
      match t with
      | [] => none
      | d :: t' => if ((d.toNat : Int) == 10) = true then none else (quoteEnd q t').map (· + 2)
    else if ((c.toNat : Int) == (q.toNat : Int)) = true then some 1
    else if ((c.toNat : Int) == 10) = true then none
    else (quoteEnd q t).map (· + 1)

/-- How many bytes up to a text and with it. -/
def upto (r e : List UInt8) : Option Nat := if 0 ≤ index r e then some ((index r e).toNat + e.length) else none

theorem index_cons (b : UInt8) (l sub : List UInt8) : index (b :: l) sub = if sub.isPrefixOf (b :: l) = true then 0 else if index l sub = -1 then -1 else index l sub + 1 := by
  simp [index]
theorem upto_nil (d : UInt8) (e : List UInt8) : upto [] (d :: e) = none := by simp [upto, index]
theorem upto_cons (c d : UInt8) (t e : List UInt8) : upto (c :: t) (d :: e) = if hasPrefix (c :: t) (d :: e) = true then some (e.length + 1) else (upto t (d :: e)).map (· + 1) := by
  unfold upto hasPrefix
  rw [index_cons]
  have := Go.Lib.index_ge t (d :: e)
  by_cases h : (d :: e).isPrefixOf (c :: t) = true
  · simp [h]
  · rw [if_neg h, if_neg h]
    by_cases h2 : index t (d :: e) = -1
    · simp [h2]
    · rw [if_neg h2, if_pos (by omega), if_pos (by omega)]
      simp; omega
theorem hasPrefix_one (c d : UInt8) (t : List UInt8) : hasPrefix (c :: t) [d] = ((c.toNat : Int) == (d.toNat : Int)) := by
  rw [Bool.eq_iff_iff]; simp [hasPrefix]
  constructor
  · rintro rfl; rfl
  · intro h; exact (UInt8.toNat_inj.1 (by omega)).symm
theorem indexByte_cons (c d : UInt8) (t : List UInt8) : indexByte (c :: t) d = if ((c.toNat : Int) == (d.toNat : Int)) = true then 0 else if indexByte t d = -1 then -1 else indexByte t d + 1 := by
  have e : (c == d) = ((c.toNat : Int) == (d.toNat : Int)) := by
    rw [Bool.eq_iff_iff]; simp; constructor
    · rintro rfl; rfl
    · exact fun h => UInt8.toNat_inj.1 (by omega)
  rw [← e]; simp [indexByte]
theorem indexByte_le (l : List UInt8) (c : UInt8) : indexByte l c < l.length ∨ indexByte l c = -1 := by
  induction l with
  | nil => right; rfl
  | cons b l ih =>
    rw [indexByte_cons]
    have := Go.Lib.indexByte_ge l c
    split
    · left; simp only [List.length_cons]; omega
    · split
      · right; rfl
      · left; simp only [List.length_cons]; omega
/-- How many bytes up to a line's end, or all. -/
def line (r : List UInt8) : Nat := if 0 ≤ indexByte r 10 then (indexByte r 10).toNat else r.length
theorem line_nil : line [] = 0 := rfl
theorem line_cons (c : UInt8) (t : List UInt8) : line (c :: t) = if ((c.toNat : Int) == 10) = true then 0 else line t + 1 := by
  unfold line
  rw [indexByte_cons]
  have := Go.Lib.indexByte_ge t 10
  by_cases h : ((c.toNat : Int) == 10) = true
  · simp_all
  · have h' : ¬ ((c.toNat : Int) == ((10 : UInt8).toNat : Int)) = true := h
    rw [if_neg h, if_neg h']
    by_cases h2 : indexByte t 10 = -1
    · simp [h2]
    · rw [if_neg h2, if_pos (by omega), if_pos (by omega)]
      omega

/-- What is passed over as a whole. -/
def passLen : List UInt8 → Option Nat
  | [] => some 0
  | c :: t =>
    if ((c.toNat : Int) == 34) = true ∨ ((c.toNat : Int) == 39) = true then (quoteEnd c t).map (· + 1)
    else if ((c.toNat : Int) == 96) = true then (upto t [96]).map (· + 1)
    else if hasPrefix (c :: t) [47, 42] = true then (upto (t.drop 1) [42, 47]).map (· + 2)
    else if hasPrefix (c :: t) [47, 47] = true then some (line (c :: t))
    else some 0

theorem passLen_cons (c : UInt8) (t : List UInt8) : passLen (c :: t) =
    if ((c.toNat : Int) == 34) = true ∨ ((c.toNat : Int) == 39) = true then (quoteEnd c t).map (· + 1)
    else if ((c.toNat : Int) == 96) = true then (upto t [96]).map (· + 1)
    else if hasPrefix (c :: t) [47, 42] = true then (upto (t.drop 1) [42, 47]).map (· + 2)
    else if hasPrefix (c :: t) [47, 47] = true then some (line (c :: t))
    else some 0 := rfl
theorem slash_not_star {l : List UInt8} (h : hasPrefix l [47, 47] = true) : ¬ hasPrefix l [47, 42] = true := by
  revert h
  rcases l with _ | ⟨a, _ | ⟨b, l⟩⟩ <;> simp [hasPrefix]
  intro _ hb _ hc
  rw [← hb] at hc
  exact absurd hc (by decide)

theorem quoteEnd_le (q : UInt8) : ∀ (l : List UInt8) (n : Nat), quoteEnd q l = some n → n ≤ l.length
  | [], n, h => by simp [quoteEnd] at h
  | [c], n, h => by
    unfold quoteEnd at h
    split at h
    · simp at h
    · split at h
      · simp at h; simp; omega
      · split at h
        · simp at h
        · simp [quoteEnd] at h
  | c :: d :: t, n, h => by
    unfold quoteEnd at h
    have ih1 := quoteEnd_le q t
    have ih2 := quoteEnd_le q (d :: t)
    split at h
    · simp only at h
      split at h
      · simp at h
      · obtain ⟨m, hm, rfl⟩ := Option.map_eq_some_iff.1 h
        have := ih1 m hm
        simp; omega
    · split at h
      · simp at h; simp; omega
      · split at h
        · simp at h
        · obtain ⟨m, hm, rfl⟩ := Option.map_eq_some_iff.1 h
          have := ih2 m hm
          simp at *; omega
theorem upto_le (l e : List UInt8) (n : Nat) (h : upto l e = some n) : n ≤ l.length := by
  unfold upto at h
  have := Go.Lib.index_room l e
  split at h
  · simp at h; omega
  · simp at h
theorem line_le (l : List UInt8) : line l ≤ l.length := by
  unfold line
  have := indexByte_le l 10
  split <;> omega
theorem passLen_le (l : List UInt8) (n : Nat) (h : passLen l = some n) : n ≤ l.length := by
  cases l with
  | nil => simp [passLen] at h; omega
  | cons c t =>
    rw [passLen_cons] at h
    split at h
    · obtain ⟨m, hm, rfl⟩ := Option.map_eq_some_iff.1 h
      have := quoteEnd_le c t m hm
      simp; omega
    · split at h
      · obtain ⟨m, hm, rfl⟩ := Option.map_eq_some_iff.1 h
        have := upto_le t _ m hm
        simp; omega
      · split at h
        · rename_i hp
          obtain ⟨m, hm, rfl⟩ := Option.map_eq_some_iff.1 h
          have := upto_le (t.drop 1) _ m hm
          cases t with
          | nil => simp [hasPrefix] at hp
          | cons => simp at *; omega
        · split at h
          · have := line_le (c :: t)
            simp only [Option.some.injEq] at h; omega
          · simp at h; omega

/-- Where an action's text ends: fuel, how deep, what is left. -/
def endGo : Nat → Int → List UInt8 → Option Nat
  | 0, _, _ => none
  | _, _, [] => none
  | f + 1, d, c :: t =>
    match passLen (c :: t) with
    | none => none
    | some (n + 1) => (endGo f d ((c :: t).drop (n + 1))).map (· + (n + 1))
    | some 0 =>
      if ((if ((c.toNat : Int) == 123) = true then d + 1 else if ((c.toNat : Int) == 125) = true then d - 1 else d) == 0) = true then some 1
      else (endGo f (if ((c.toNat : Int) == 123) = true then d + 1 else if ((c.toNat : Int) == 125) = true then d - 1 else d) t).map (· + 1)
def endLen (r : List UInt8) : Option Nat := match r with
  | [] => none
  | c :: _ => if ((c.toNat : Int) == 123) = true then endGo (r.length + 1) 0 r else none

/-- Where an action's text ends that begins at a place; -1: it does not. -/
def endAt (l : List UInt8) (a : Int) : Int := if 0 ≤ a ∧ a < l.length then place a.toNat (endLen (l.drop a.toNat)) else -1

end Sp
end Go.Proofs.YthmimcegiihcnaaDoor

namespace Go.Proofs.YthmimcegiihcnaaDoor
namespace Sp
open Go.Lib (index indexByte hasPrefix)

structure Piece where
  kind : Int
  text : List UInt8
  n : Int
  tag : List UInt8
  deriving DecidableEq

def nil : Piece := ⟨0, [], 0, []⟩

/-- How many digits a text begins with. -/
def digits : List UInt8 → Nat
  | [] => 0
  | c :: t => if digit c = true then digits t + 1 else 0
theorem digits_le : ∀ l : List UInt8, digits l ≤ l.length
  | [] => Nat.le_refl _
  | c :: t => by
    unfold digits
    have := digits_le t
    split <;> simp <;> omega
/-- The number that digits spell. -/
def num (l : List UInt8) : Int := (Go.Lib.atoi l).getD 0

theorem decFrom_digits : ∀ (l : List UInt8) (acc : Nat), ∃ v, Go.Lib.decFrom acc (l.take (digits l)) = some v
  | [], acc => ⟨acc, rfl⟩
  | c :: t, acc => by
    unfold digits
    by_cases h : digit c = true
    · rw [if_pos h]
      simp only [List.take_succ_cons, Go.Lib.decFrom]
      have hd : Go.Lib.digitVal c = some (c.toNat - 48) := by
        unfold digit at h
        simp at h
        simp [Go.Lib.digitVal, h]
      rw [hd]
      exact decFrom_digits t _
    · rw [if_neg h]
      exact ⟨acc, by simp [Go.Lib.decFrom]⟩
/-- Digits, one at least, are a numeral. -/
theorem atoi_digits (l : List UInt8) (h : digits l ≠ 0) : Go.Lib.atoi (l.take (digits l)) = some (num (l.take (digits l))) := by
  have key : ∃ v, Go.Lib.atoi (l.take (digits l)) = some v := by
    cases l with
    | nil => simp [digits] at h
    | cons c t =>
      obtain ⟨v, hv⟩ := decFrom_digits (c :: t) 0
      unfold digits at h hv ⊢
      by_cases hc : digit c = true
      · rw [if_pos hc] at hv ⊢
        simp only [List.take_succ_cons] at hv ⊢
        unfold digit at hc
        simp at hc
        have h1 : (c == 45) = false := by
          rw [beq_eq_false_iff_ne]; rintro rfl; simp at hc
        have h2 : (c == 43) = false := by
          rw [beq_eq_false_iff_ne]; rintro rfl; simp at hc
        simp [Go.Lib.atoi, h1, h2, Go.Lib.decNat, hv]
      · rw [if_neg hc] at h; exact absurd rfl h
  obtain ⟨v, hv⟩ := key
  simp [num, hv]

/-- What stands behind a dollar and its tag: the piece, how many bytes from the dollar on (0: none), the error. -/
def dollar2 (tag : List UInt8) (off : Nat) (r : List UInt8) : Piece × Nat × Int :=
  if hasPrefix r [36] = true then (⟨2, [], 0, tag⟩, off + 1, 0)
  else if digits r = 0 then (nil, 0, 0)
  else if 3 < digits r then (nil, 0, 6)
  else (⟨3, [], num (r.take (digits r)), tag⟩, off + digits r, 0)
def dollar (r : List UInt8) : Piece × Nat × Int :=
  if hasPrefix r [60] = true then
    if isName ((r.drop 1).take (nameLen true (r.drop 1))) = true ∧ hasPrefix (r.drop (1 + nameLen true (r.drop 1))) [62] = true then
      dollar2 ((r.drop 1).take (nameLen true (r.drop 1))) (nameLen true (r.drop 1) + 3) (r.drop (nameLen true (r.drop 1) + 2))
    else (nil, 0, 0)
  else dollar2 [] 1 r

end Sp
end Go.Proofs.YthmimcegiihcnaaDoor

namespace Go.Proofs.YthmimcegiihcnaaDoor
namespace Sp
open Go.Lib (index indexByte hasPrefix)

def flush (t : List UInt8) : List Piece := if t = [] then [] else [⟨1, t, 0, []⟩]
/-- Fuel, the text that stands since the last piece, what is left; none: a number that is too long. -/
def cutGo : Nat → List UInt8 → List UInt8 → Option (List Piece)
  | 0, _, _ => none
  | _ + 1, pend, [] => some (flush pend)
  | f + 1, pend, c :: t =>
    match passLen (c :: t) with
    | none => none
    | some (n + 1) => cutGo f (pend ++ (c :: t).take (n + 1)) ((c :: t).drop (n + 1))
    | some 0 =>
      if ((c.toNat : Int) == 36) = true then
        if ((dollar t).2.2 != 0) = true then none
        else if 0 < (dollar t).2.1 then (cutGo f [] ((c :: t).drop (dollar t).2.1)).map (flush pend ++ (dollar t).1 :: ·)
        else cutGo f (pend ++ [c]) t
      else cutGo f (pend ++ [c]) t
def cutRes : Option (List Piece) → List Piece × Int
  | none => ([], 6)
  | some ps => (ps, 0)
def cut (l : List UInt8) : List Piece × Int :=
  if l = [] ∨ endAt l 0 ≠ l.length then ([], 1)
  else cutRes (cutGo (l.length + 1) [] l)

/-- A text that ends where it ends. -/
def Ok (r : List UInt8) : Prop := r = [] ∨ ∃ f d, endGo f d r = some r.length
theorem Ok.pass {r : List UInt8} (h : Ok r) (hr : r ≠ []) : passLen r ≠ none := by
  rcases h with h | ⟨f, d, h⟩
  · exact absurd h hr
  · cases r with
    | nil => exact absurd rfl hr
    | cons c t =>
      cases f with
      | zero => simp [endGo] at h
      | succ f =>
        intro hn
        simp [endGo, hn] at h
theorem Ok.skip {r : List UInt8} {n : Nat} (h : Ok r) (hp : passLen r = some (n + 1)) : Ok (r.drop (n + 1)) := by
  rcases h with h | ⟨f, d, h⟩
  · subst h; left; rfl
  · cases r with
    | nil => left; rfl
    | cons c t =>
      cases f with
      | zero => simp [endGo] at h
      | succ f =>
        unfold endGo at h
        rw [hp] at h
        simp only at h
        obtain ⟨m, hm, he⟩ := Option.map_eq_some_iff.1 h
        right
        refine ⟨f, d, ?_⟩
        rw [hm, List.length_drop]
        congr 1
        omega
theorem Ok.step {c : UInt8} {t : List UInt8} (h : Ok (c :: t)) (hp : passLen (c :: t) = some 0) : Ok t := by
  rcases h with h | ⟨f, d, h⟩
  · cases h
  · cases f with
    | zero => simp [endGo] at h
    | succ f =>
      unfold endGo at h
      rw [hp] at h
      simp only at h
      generalize (if ((c.toNat : Int) == 123) = true then d + 1 else if ((c.toNat : Int) == 125) = true then d - 1 else d) = d' at h
      split at h
      · left
        simp at h
        exact h
      · obtain ⟨m, hm, he⟩ := Option.map_eq_some_iff.1 h
        right
        refine ⟨f, d', ?_⟩
        rw [hm]
        simp at he
        simp [he]

/-- A byte at which nothing is passed over. -/
def plain (c : UInt8) : Bool := !((c.toNat : Int) == 34) && !((c.toNat : Int) == 39) && !((c.toNat : Int) == 96) && !((c.toNat : Int) == 47)
theorem plain_pass {c : UInt8} (t : List UInt8) (h : plain c = true) : passLen (c :: t) = some 0 := by
  unfold plain at h
  simp only [Bool.and_eq_true, Bool.not_eq_true'] at h
  obtain ⟨⟨⟨h1, h2⟩, h3⟩, h4⟩ := h
  have h5 : c ≠ 47 := by rintro rfl; simp at h4
  have e1 : ¬ hasPrefix (c :: t) [47, 42] = true := by simp [hasPrefix]; exact fun e => absurd e.symm h5
  have e2 : ¬ hasPrefix (c :: t) [47, 47] = true := by simp [hasPrefix]; exact fun e => absurd e.symm h5
  rw [passLen_cons, if_neg (by rw [h1, h2]; simp), if_neg (by rw [h3]; simp), if_neg e1, if_neg e2]
theorem Ok.plains : ∀ (n : Nat) (r : List UInt8), Ok r → (∀ c ∈ r.take n, plain c = true) → Ok (r.drop n)
  | 0, r, h, _ => by simpa using h
  | _ + 1, [], _, _ => by left; rfl
  | n + 1, c :: t, h, hp => by
    have hc := hp c (by simp)
    have := Ok.plains n t (h.step (plain_pass t hc)) (fun x hx => hp x (by simp [hx]))
    simpa using this
theorem digit_plain {c : UInt8} (h : digit c = true) : plain c = true := by
  unfold digit at h; simp at h
  unfold plain; simp; omega
theorem letter_plain {c : UInt8} (h : letter c = true) : plain c = true := by
  unfold letter at h; simp at h
  unfold plain; simp; omega
theorem digits_plain : ∀ (l : List UInt8), ∀ c ∈ l.take (digits l), plain c = true
  | [], c, h => by simp at h
  | b :: t, c, h => by
    unfold digits at h
    by_cases hb : digit b = true
    · rw [if_pos hb] at h
      simp only [List.take_succ_cons, List.mem_cons] at h
      rcases h with rfl | h
      · exact digit_plain hb
      · exact digits_plain t c h
    · rw [if_neg hb] at h; simp at h
theorem name_plain : ∀ (b : Bool) (l : List UInt8), ∀ c ∈ l.take (nameLen b l), plain c = true
  | _, [], c, h => by simp at h
  | b, x :: t, c, h => by
    unfold nameLen at h
    split at h
    · rename_i hx
      simp only [List.take_succ_cons, List.mem_cons] at h
      rcases h with rfl | h
      · simp only [Bool.or_eq_true, Bool.and_eq_true] at hx
        rcases hx with hx | ⟨_, hx | hx⟩
        · exact letter_plain hx
        · exact digit_plain hx
        · unfold plain; simp at hx; simp; omega
      · exact name_plain false t c h
    · simp at h
theorem dollar2_plain (tag : List UInt8) (off : Nat) (r pre : List UInt8) (hpre : ∀ c ∈ pre, plain c = true) (hl : pre.length = off) :
    ∀ c ∈ (pre ++ r).take (dollar2 tag off r).2.1, plain c = true := by
  intro c hc
  unfold dollar2 at hc
  split at hc
  · rename_i h
    cases r with
    | nil => simp [hasPrefix] at h
    | cons d t =>
      simp [hasPrefix] at h
      subst h
      simp only [List.take_append, hl, List.mem_append] at hc
      rcases hc with hc | hc
      · exact hpre c (List.mem_of_mem_take hc)
      · simp at hc
        subst hc; decide
  · split at hc
    · simp at hc
    · split at hc
      · simp at hc
      · simp only [List.take_append, hl, List.mem_append] at hc
        rcases hc with hc | hc
        · exact hpre c (List.mem_of_mem_take hc)
        · rw [Nat.add_sub_cancel_left] at hc
          exact digits_plain r c hc
theorem dollar_plain (c : UInt8) (t : List UInt8) (hc : ((c.toNat : Int) == 36) = true) : ∀ x ∈ (c :: t).take (dollar t).2.1, plain x = true := by
  have hcp : plain c = true := by simp at hc; unfold plain; simp; omega
  unfold dollar
  split
  · rename_i h60
    cases t with
    | nil => simp [hasPrefix] at h60
    | cons d t =>
      simp [hasPrefix] at h60
      subst h60
      simp only [List.drop_succ_cons, List.drop_zero]
      split
      · rename_i hn
        obtain ⟨hn, h62⟩ := hn
        have hm := nameLen_le true t
        generalize hmm : nameLen true t = m at *
        rw [Nat.add_comm 1 m] at h62
        simp only [List.drop_succ_cons] at h62
        cases hd : t.drop m with
        | nil => rw [hd] at h62; simp [hasPrefix] at h62
        | cons e u =>
          rw [hd] at h62
          simp [hasPrefix] at h62
          subst h62
          have ht : c :: 60 :: t = (c :: 60 :: (t.take m ++ [62])) ++ u := by
            simp only [List.cons_append, List.append_assoc, List.nil_append]
            rw [← hd, List.take_append_drop]
          have hu : t.drop (m + 1) = u := by
            rw [← List.drop_drop, hd]; rfl
          rw [hu, ht]
          refine dollar2_plain _ (m + 3) u _ ?_ (by simp; omega)
          intro x hx
          simp only [List.mem_cons, List.mem_append, List.not_mem_nil, or_false] at hx
          rcases hx with rfl | rfl | hx | rfl
          · exact hcp
          · decide
          · rw [← hmm] at hx; exact name_plain true t x hx
          · decide
      · simp
  · have := dollar2_plain [] 1 t [c] (by simpa using hcp) rfl
    simpa using this
theorem dollar_le (t : List UInt8) : (dollar t).2.1 ≤ t.length + 1 := by
  have key : ∀ tag off r, off + r.length ≤ t.length + 1 → (dollar2 tag off r).2.1 ≤ t.length + 1 := by
    intro tag off r h
    unfold dollar2
    have := digits_le r
    split
    · rename_i hp
      cases r with
      | nil => simp [hasPrefix] at hp
      | cons => simp at *; omega
    · split
      · simp
      · split
        · simp
        · simp; omega
  unfold dollar
  split
  · split
    · rename_i h60 hn
      refine key _ _ _ ?_
      simp
      obtain ⟨_, h62⟩ := hn
      have : (t.drop (1 + nameLen true (t.drop 1))).length ≠ 0 := by
        intro h0
        rw [List.eq_nil_of_length_eq_zero h0] at h62
        simp [hasPrefix] at h62
      simp at this
      omega
    · simp
  · exact key _ _ _ (by omega)
theorem Ok.dollar {c : UInt8} {t : List UInt8} (h : Ok (c :: t)) (hc : ((c.toNat : Int) == 36) = true) : Ok ((c :: t).drop (dollar t).2.1) :=
  h.plains _ _ (dollar_plain c t hc)
theorem dollar_err (t : List UInt8) : ((dollar t).2.2 != 0) = true → (dollar t).2.2 = 6 := by
  have key : ∀ tag off r, ((dollar2 tag off r).2.2 != 0) = true → (dollar2 tag off r).2.2 = 6 := by
    intro tag off r
    unfold dollar2
    split
    · simp
    · split
      · simp
      · split <;> simp
  unfold dollar
  split
  · split
    · exact key _ _ _
    · simp
  · exact key _ _ _
theorem Ok.start {l : List UInt8} (h : endAt l 0 = l.length) : Ok l := by
  unfold endAt at h
  split at h
  · rename_i h0
    simp only [Int.toNat_zero, List.drop_zero] at h
    cases l with
    | nil => left; rfl
    | cons c t =>
      right
      unfold endLen at h
      simp only at h
      split at h
      · rename_i hc
        refine ⟨(c :: t).length + 1, 0, ?_⟩
        · cases he : endGo ((c :: t).length + 1) 0 (c :: t) with
          | none => rw [he] at h; simp [place] at h; omega
          | some n => rw [he] at h; simp [place] at h; simp; omega
      · simp [place] at h; omega
  · omega

end Sp
end Go.Proofs.YthmimcegiihcnaaDoor

namespace Go.Proofs.YthmimcegiihcnaaDoor
namespace Sp
open Go.Lib (index indexByte hasPrefix decDigits decFrom digitVal)

/-- A byte that neither opens nor closes anything. -/
def inner (c : UInt8) : Bool := plain c && !((c.toNat : Int) == 123) && !((c.toNat : Int) == 125)
theorem inner_plain {c : UInt8} (h : inner c = true) : plain c = true := by unfold inner at h; simp at h; exact h.1.1
theorem digit_inner {c : UInt8} (h : digit c = true) : inner c = true := by
  unfold inner; rw [digit_plain h]; unfold digit at h; simp at h; simp; omega

theorem endGo_inner : ∀ (x : List UInt8) (f : Nat), (∀ c ∈ x, inner c = true) → x.length < f → endGo f 1 (x ++ [125]) = some (x.length + 1)
  | [], 0, _, h => by simp at h
  | [], f + 1, _, _ => by
    show endGo (f + 1) 1 [125] = _
    unfold endGo
    rw [plain_pass [] (c := 125) (by decide)]
    rfl
  | c :: t, 0, _, h => by simp at h
  | c :: t, f + 1, hx, h => by
    have hc := hx c (by simp)
    show endGo (f + 1) 1 (c :: (t ++ [125])) = _
    unfold endGo
    rw [plain_pass _ (inner_plain hc)]
    unfold inner at hc
    simp only [Bool.and_eq_true, Bool.not_eq_true'] at hc
    simp only [hc.1.2, hc.2, Bool.false_eq_true, if_false]
    rw [endGo_inner t f (fun y hy => hx y (by simp [hy])) (by simpa using h)]
    rfl
theorem endAt_inner (x : List UInt8) (hx : ∀ c ∈ x, inner c = true) : endAt (123 :: (x ++ [125])) 0 = ((123 :: (x ++ [125])).length : Nat) := by
  unfold endAt
  rw [if_pos (by simp; omega)]
  show place 0 (endLen (123 :: (x ++ [125]))) = _
  unfold endLen
  simp only
  rw [if_pos (by decide)]
  unfold endGo
  rw [plain_pass _ (c := 123) (by decide)]
  simp only
  rw [if_neg (by decide)]
  rw [show (if ((((123 : UInt8).toNat : Int)) == 123) = true then (0 : Int) + 1 else if ((((123 : UInt8).toNat : Int)) == 125) = true then 0 - 1 else 0) = 1 by decide]
  rw [endGo_inner x _ hx (by simp; omega)]
  simp [place]

theorem cutGo_skip {f : Nat} {pend t : List UInt8} {c : UInt8} (h : plain c = true) (hc : ((c.toNat : Int) == 36) = false) : cutGo (f + 1) pend (c :: t) = cutGo f (pend ++ [c]) t := by
  show (match passLen (c :: t) with
    | none => none
    | some (n + 1) => cutGo f (pend ++ (c :: t).take (n + 1)) ((c :: t).drop (n + 1))
    | some 0 =>
      if ((c.toNat : Int) == 36) = true then
        if ((dollar t).2.2 != 0) = true then none
        else if 0 < (dollar t).2.1 then (cutGo f [] ((c :: t).drop (dollar t).2.1)).map (flush pend ++ (dollar t).1 :: ·)
        else cutGo f (pend ++ [c]) t
      else cutGo f (pend ++ [c]) t) = _
  rw [plain_pass t h]
  simp only [hc, Bool.false_eq_true, if_false]
theorem cutGo_dollar {f : Nat} {pend t : List UInt8} : cutGo (f + 1) pend (36 :: t) =
    if ((dollar t).2.2 != 0) = true then none
    else if 0 < (dollar t).2.1 then (cutGo f [] ((36 :: t).drop (dollar t).2.1)).map (flush pend ++ (dollar t).1 :: ·)
    else cutGo f (pend ++ [36]) t := by
  show (match passLen (36 :: t) with
    | none => none
    | some (n + 1) => cutGo f (pend ++ (36 :: t).take (n + 1)) ((36 :: t).drop (n + 1))
    | some 0 =>
      if ((((36 : UInt8).toNat : Int)) == 36) = true then
        if ((dollar t).2.2 != 0) = true then none
        else if 0 < (dollar t).2.1 then (cutGo f [] ((36 :: t).drop (dollar t).2.1)).map (flush pend ++ (dollar t).1 :: ·)
        else cutGo f (pend ++ [36]) t
      else cutGo f (pend ++ [36]) t) = _
  rw [plain_pass t (c := 36) (by decide)]
  rfl

theorem digits_app : ∀ (d : List UInt8), (∀ c ∈ d, digit c = true) → digits (d ++ [32, 125]) = d.length
  | [], _ => by decide
  | c :: t, h => by
    show digits (c :: (t ++ [32, 125])) = _
    unfold digits
    rw [if_pos (h c (by simp)), digits_app t (fun y hy => h y (by simp [hy]))]
    rfl

def nm (tag : Bool) : List UInt8 := if tag = true then [60, 118, 62] else []
def tg (tag : Bool) : List UInt8 := if tag = true then [118] else []
/-- What stands behind the dollar. -/
theorem dollar2_parts (t : List UInt8) (off : Nat) (d : List UInt8) (hd : ∀ c ∈ d, digit c = true) (h0 : d ≠ []) :
    dollar2 t off (d ++ [32, 125]) = if 3 < d.length then (nil, 0, 6) else (⟨3, [], num d, t⟩, off + d.length, 0) := by
  unfold dollar2
  rw [digits_app d hd]
  have h36 : ¬ hasPrefix (d ++ [32, 125]) [36] = true := by
    cases d with
    | nil => exact absurd rfl h0
    | cons c r =>
      have hc := hd c (by simp)
      unfold digit at hc
      simp at hc
      show ¬ hasPrefix (c :: (r ++ [32, 125])) [36] = true
      rw [hasPrefix_one]
      simp
      omega
  have hl : d.length ≠ 0 := fun h => h0 (List.eq_nil_of_length_eq_zero h)
  rw [if_neg h36, if_neg hl, List.take_left']
  rfl
theorem dollar_parts (tag : Bool) (d : List UInt8) (hd : ∀ c ∈ d, digit c = true) (h0 : d ≠ []) :
    dollar (nm tag ++ (d ++ [32, 125])) = if 3 < d.length then (nil, 0, 6) else (⟨3, [], num d, tg tag⟩, (nm tag).length + 1 + d.length, 0) := by
  cases tag
  · show dollar (d ++ [32, 125]) = _
    unfold dollar
    have h60 : ¬ hasPrefix (d ++ [32, 125]) [60] = true := by
      cases d with
      | nil => exact absurd rfl h0
      | cons c r =>
        have hc := hd c (by simp)
        unfold digit at hc
        simp at hc
        show ¬ hasPrefix (c :: (r ++ [32, 125])) [60] = true
        rw [hasPrefix_one]
        simp
        omega
    rw [if_neg h60, dollar2_parts [] 1 d hd h0]
    rfl
  · show dollar (60 :: 118 :: 62 :: (d ++ [32, 125])) = _
    unfold dollar
    rw [if_pos (by rw [hasPrefix_one]; decide)]
    simp only [List.drop_succ_cons, List.drop_zero]
    have hn : nameLen true (118 :: 62 :: (d ++ [32, 125])) = 1 := by
      unfold nameLen
      rw [if_pos (by decide)]
      unfold nameLen
      rw [if_neg (by decide)]
    rw [hn]
    simp only [List.take_succ_cons, List.take_zero, Nat.reduceAdd, List.drop_succ_cons, List.drop_zero]
    rw [if_pos ⟨by decide, by rw [hasPrefix_one]; decide⟩, dollar2_parts [118] 4 d hd h0]
    rfl

def parts (tag : Bool) (d : List UInt8) : List UInt8 := 123 :: 36 :: (nm tag ++ (d ++ [32, 125]))
theorem nm_inner (tag : Bool) : ∀ c ∈ nm tag, inner c = true := by cases tag <;> decide
theorem cutGo_end (f : Nat) : cutGo (f + 3) [] [32, 125] = some [⟨1, [32, 125], 0, []⟩] := by
  rw [cutGo_skip (by decide) (by decide), cutGo_skip (by decide) (by decide)]
  rfl
/-- THE LAW: three pieces, or refused. -/
theorem cut_parts (tag : Bool) (d : List UInt8) (hd : ∀ c ∈ d, digit c = true) (h0 : d ≠ []) :
    cut (parts tag d) = if 3 < d.length then ([], 6) else ([⟨1, [123], 0, []⟩, ⟨3, [], num d, tg tag⟩, ⟨1, [32, 125], 0, []⟩], 0) := by
  have he : endAt (parts tag d) 0 = ((parts tag d).length : Nat) := by
    have h := endAt_inner (36 :: (nm tag ++ (d ++ [32]))) (by
      intro c hc
      simp only [List.mem_cons, List.mem_append, List.mem_nil_iff, or_false] at hc
      rcases hc with rfl | hc | hc | rfl
      · decide
      · exact nm_inner tag c hc
      · exact digit_inner (hd c hc)
      · decide)
    have e : (123 : UInt8) :: (36 :: (nm tag ++ (d ++ [32])) ++ [125]) = parts tag d := by unfold parts; simp
    rw [e] at h
    exact h
  have hl : (parts tag d).length = d.length + (nm tag).length + 4 := by unfold parts; simp; omega
  unfold cut
  rw [if_neg (by rw [he]; unfold parts; simp), hl]
  unfold parts
  rw [cutGo_skip (by decide) (by decide), show d.length + (nm tag).length + 4 = (d.length + (nm tag).length + 3) + 1 from rfl, cutGo_dollar, dollar_parts tag d hd h0]
  by_cases h : 3 < d.length
  · rw [if_pos h, if_pos h, if_pos (by decide)]
    rfl
  · rw [if_neg h, if_neg h]
    simp only
    rw [if_neg (by decide), if_pos (by omega)]
    have e : ((36 : UInt8) :: (nm tag ++ (d ++ [32, 125]))).drop ((nm tag).length + 1 + d.length) = [32, 125] := by
      rw [show (nm tag).length + 1 + d.length = ((nm tag).length + d.length) + 1 by omega, List.drop_succ_cons, ← List.append_assoc, List.drop_left' (by simp)]
    rw [e, cutGo_end]
    rfl

/-! ### Numerals -/
theorem digitVal_at (x : Nat) (h : x < 10) : digitVal (UInt8.ofNat (48 + x)) = some x := by
  have e : (UInt8.ofNat (48 + x)).toNat = 48 + x := by simp; omega
  unfold digitVal
  rw [e, if_pos (by omega)]
  congr 1; omega
theorem digit_at (x : Nat) (h : x < 10) : digit (UInt8.ofNat (48 + x)) = true := by
  have e : (UInt8.ofNat (48 + x)).toNat = 48 + x := by simp; omega
  unfold digit
  rw [e]; simp; omega
theorem decFrom_app : ∀ (a b : List UInt8) (acc : Nat), decFrom acc (a ++ b) = (decFrom acc a).bind fun v => decFrom v b
  | [], b, acc => rfl
  | c :: t, b, acc => by
    simp only [List.cons_append, decFrom]
    cases digitVal c with
    | none => rfl
    | some x => exact decFrom_app t b _
theorem decFrom_dec (m : Nat) : decFrom 0 (decDigits m) = some m := by
  induction m using Nat.strongRecOn with
  | _ m ih =>
    by_cases h : m < 10
    · rw [decDigits, dif_pos h]
      simp only [decFrom, digitVal_at m h]
      congr 1; omega
    · rw [decDigits, dif_neg h, decFrom_app, ih (m / 10) (by omega)]
      simp only [Option.bind_some, decFrom, digitVal_at (m % 10) (by omega)]
      congr 1; omega
theorem decDigits_digit (m : Nat) : ∀ c ∈ decDigits m, digit c = true := by
  induction m using Nat.strongRecOn with
  | _ m ih =>
    intro c hc
    by_cases h : m < 10
    · rw [decDigits, dif_pos h] at hc
      simp only [List.mem_singleton] at hc
      subst hc; exact digit_at m h
    · rw [decDigits, dif_neg h] at hc
      simp only [List.mem_append, List.mem_singleton] at hc
      rcases hc with hc | rfl
      · exact ih (m / 10) (by omega) c hc
      · exact digit_at (m % 10) (by omega)
theorem decDigits_ne (m : Nat) : decDigits m ≠ [] := by
  rw [decDigits]; split <;> simp
theorem decFrom_noughts : ∀ (k : Nat) (l : List UInt8), decFrom 0 (List.replicate k 48 ++ l) = decFrom 0 l
  | 0, _ => rfl
  | k + 1, l => by
    rw [List.replicate_succ, List.cons_append]
    simp only [decFrom]
    rw [show digitVal 48 = some 0 by decide]
    exact decFrom_noughts k l
/-- Noughts ahead change nothing. -/
theorem num_noughts (k m : Nat) : num (List.replicate k 48 ++ decDigits m) = m := by
  have hd : ∀ c ∈ List.replicate k 48 ++ decDigits m, digit c = true := by
    intro c hc
    simp only [List.mem_append, List.mem_replicate] at hc
    rcases hc with ⟨_, rfl⟩ | hc
    · decide
    · exact decDigits_digit m c hc
  have hv : decFrom 0 (List.replicate k 48 ++ decDigits m) = some m := by rw [decFrom_noughts, decFrom_dec]
  have hne : List.replicate k 48 ++ decDigits m ≠ [] := by simp [decDigits_ne]
  generalize List.replicate k 48 ++ decDigits m = l at *
  cases l with
  | nil => exact absurd rfl hne
  | cons c t =>
    have hc := hd c (by simp)
    unfold digit at hc
    simp at hc
    have h1 : (c == 45) = false := by
      rw [beq_eq_false_iff_ne]; rintro rfl; simp at hc
    have h2 : (c == 43) = false := by
      rw [beq_eq_false_iff_ne]; rintro rfl; simp at hc
    simp [num, Go.Lib.atoi, h1, h2, Go.Lib.decNat, hv]
end Sp
end Go.Proofs.YthmimcegiihcnaaDoor

namespace Go.Proofs.YthmimcegiihcnaaDoor
namespace Sp
open Go.Lib (index indexByte hasPrefix)

/-- A byte that ends neither quotes nor a remark. -/
def tame (c : UInt8) : Bool := !((c.toNat : Int) == 34) && !((c.toNat : Int) == 39) && !((c.toNat : Int) == 96) && !((c.toNat : Int) == 92) && !((c.toNat : Int) == 10) && !((c.toNat : Int) == 42) && !((c.toNat : Int) == 47)

theorem quoteEnd_tame (q : UInt8) (hq : q = 34 ∨ q = 39) (r : List UInt8) : ∀ y : List UInt8, (∀ c ∈ y, tame c = true) → quoteEnd q (y ++ q :: r) = some (y.length + 1)
  | [], _ => by
    show quoteEnd q (q :: r) = _
    rcases hq with rfl | rfl
    all_goals
      unfold quoteEnd
      rw [if_neg (by decide), if_pos (by decide)]
      try rfl
  | c :: t, h => by
    have hc := h c (by simp)
    have ih := quoteEnd_tame q hq r t (fun x hx => h x (by simp [hx]))
    unfold tame at hc
    simp only [Bool.and_eq_true, Bool.not_eq_true'] at hc
    show quoteEnd q (c :: (t ++ q :: r)) = _
    unfold quoteEnd
    rw [if_neg (by rw [hc.1.1.1.2]; decide), if_neg (by rcases hq with rfl | rfl; (show ¬ ((c.toNat : Int) == 34) = true; rw [hc.1.1.1.1.1.1]; decide); (show ¬ ((c.toNat : Int) == 39) = true; rw [hc.1.1.1.1.1.2]; decide)), if_neg (by rw [hc.1.1.2]; decide), ih]
    rfl
theorem upto_tame1 (r : List UInt8) : ∀ y : List UInt8, (∀ c ∈ y, tame c = true) → upto (y ++ 96 :: r) [96] = some (y.length + 1)
  | [], _ => by
    show upto (96 :: r) [96] = _
    rw [upto_cons, if_pos (by rw [hasPrefix_one]; decide)]
  | c :: t, h => by
    have hc := h c (by simp)
    have ih := upto_tame1 r t (fun x hx => h x (by simp [hx]))
    unfold tame at hc
    simp only [Bool.and_eq_true, Bool.not_eq_true'] at hc
    show upto (c :: (t ++ 96 :: r)) [96] = _
    rw [upto_cons, if_neg (by rw [hasPrefix_one]; show ¬ ((c.toNat : Int) == 96) = true; rw [hc.1.1.1.1.2]; decide), ih]
    rfl
theorem upto_tame2 (r : List UInt8) : ∀ y : List UInt8, (∀ c ∈ y, tame c = true) → upto (y ++ 42 :: 47 :: r) [42, 47] = some (y.length + 2)
  | [], _ => by
    show upto (42 :: 47 :: r) [42, 47] = _
    rw [upto_cons, if_pos (by simp [hasPrefix])]
    rfl
  | c :: t, h => by
    have hc := h c (by simp)
    have ih := upto_tame2 r t (fun x hx => h x (by simp [hx]))
    unfold tame at hc
    simp only [Bool.and_eq_true, Bool.not_eq_true'] at hc
    show upto (c :: (t ++ 42 :: 47 :: r)) [42, 47] = _
    have hne : c ≠ 42 := by rintro rfl; exact absurd hc.1.2 (by decide)
    rw [upto_cons, if_neg (by simp [hasPrefix]; exact fun e => absurd e.symm hne), ih]
    rfl
theorem indexByte_tame (r : List UInt8) : ∀ y : List UInt8, (∀ c ∈ y, tame c = true) → indexByte (y ++ 10 :: r) 10 = (y.length : Nat)
  | [], _ => by
    show indexByte (10 :: r) 10 = _
    rw [indexByte_cons, if_pos (by decide)]
    rfl
  | c :: t, h => by
    have hc := h c (by simp)
    have ih := indexByte_tame r t (fun x hx => h x (by simp [hx]))
    unfold tame at hc
    simp only [Bool.and_eq_true, Bool.not_eq_true'] at hc
    show indexByte (c :: (t ++ 10 :: r)) 10 = _
    rw [indexByte_cons, if_neg (by show ¬ ((c.toNat : Int) == 10) = true; rw [hc.1.1.2]; decide), ih, if_neg (by omega)]
    simp

def ahead : Nat → List UInt8
  | 0 => [34] | 1 => [39] | 2 => [96] | 3 => [47, 47] | _ => [47, 42]
def behind : Nat → List UInt8
  | 0 => [34] | 1 => [39] | 2 => [96] | 3 => [10] | _ => [42, 47]

/-- What is passed over, and what is left of the closing mark. -/
theorem passLen_tame (j : Nat) (y r : List UInt8) (h : ∀ c ∈ y, tame c = true) :
    ∃ P R, ahead j ++ (y ++ (behind j ++ r)) = P ++ R ∧ (R = r ∨ R = 10 :: r) ∧ P ≠ [] ∧ passLen (P ++ R) = some P.length := by
  match j with
  | 0 =>
    refine ⟨34 :: (y ++ [34]), r, by simp [ahead, behind], .inl rfl, by simp, ?_⟩
    show passLen (34 :: ((y ++ [34]) ++ r)) = _
    rw [List.append_assoc]
    show passLen (34 :: (y ++ 34 :: r)) = _
    rw [passLen_cons, if_pos (by decide), quoteEnd_tame 34 (.inl rfl) r y h]
    simp
  | 1 =>
    refine ⟨39 :: (y ++ [39]), r, by simp [ahead, behind], .inl rfl, by simp, ?_⟩
    show passLen (39 :: ((y ++ [39]) ++ r)) = _
    rw [List.append_assoc]
    show passLen (39 :: (y ++ 39 :: r)) = _
    rw [passLen_cons, if_pos (by decide), quoteEnd_tame 39 (.inr rfl) r y h]
    simp
  | 2 =>
    refine ⟨96 :: (y ++ [96]), r, by simp [ahead, behind], .inl rfl, by simp, ?_⟩
    show passLen (96 :: ((y ++ [96]) ++ r)) = _
    rw [List.append_assoc]
    show passLen (96 :: (y ++ 96 :: r)) = _
    rw [passLen_cons, if_neg (by decide), if_pos (by decide), upto_tame1 r y h]
    simp
  | 3 =>
    refine ⟨47 :: 47 :: y, 10 :: r, by simp [ahead, behind], .inr rfl, by simp, ?_⟩
    show passLen (47 :: (47 :: (y ++ 10 :: r))) = _
    rw [passLen_cons, if_neg (by decide), if_neg (by decide), if_neg (by simp [hasPrefix]), if_pos (by simp [hasPrefix])]
    have h1 : indexByte (47 :: (y ++ 10 :: r)) 10 = ((y.length : Nat) : Int) + 1 := by
      rw [indexByte_cons, if_neg (by decide), indexByte_tame r y h, if_neg (by omega)]
    have h2 : indexByte (47 :: 47 :: (y ++ 10 :: r)) 10 = ((y.length : Nat) : Int) + 1 + 1 := by
      rw [indexByte_cons, if_neg (by decide), h1, if_neg (by omega)]
    unfold line
    rw [h2, if_pos (by omega)]
    simp
    omega
  | k + 4 =>
    refine ⟨47 :: 42 :: (y ++ [42, 47]), r, by simp [ahead, behind], .inl rfl, by simp, ?_⟩
    show passLen (47 :: (42 :: ((y ++ [42, 47]) ++ r))) = _
    rw [List.append_assoc]
    show passLen (47 :: (42 :: (y ++ 42 :: 47 :: r))) = _
    rw [passLen_cons, if_neg (by decide), if_neg (by decide), if_pos (by simp [hasPrefix]), List.drop_succ_cons, List.drop_zero, upto_tame2 r y h]
    simp

theorem endGo_pass {f n : Nat} {d : Int} {P R : List UInt8} (hP : P.length = n + 1) (hp : passLen (P ++ R) = some (n + 1)) : endGo (f + 1) d (P ++ R) = (endGo f d R).map (· + (n + 1)) := by
  cases P with
  | nil => simp at hP
  | cons c t =>
    show endGo (f + 1) d (c :: (t ++ R)) = _
    conv => lhs; unfold endGo
    rw [show c :: (t ++ R) = (c :: t) ++ R from rfl, hp]
    simp only
    rw [List.drop_left' hP]
theorem cutGo_pass {f n : Nat} {pend P R : List UInt8} (hP : P.length = n + 1) (hp : passLen (P ++ R) = some (n + 1)) : cutGo (f + 1) pend (P ++ R) = cutGo f (pend ++ P) R := by
  cases P with
  | nil => simp at hP
  | cons c t =>
    show cutGo (f + 1) pend (c :: (t ++ R)) = _
    conv => lhs; unfold cutGo
    rw [show c :: (t ++ R) = (c :: t) ++ R from rfl, hp]
    simp only
    rw [List.drop_left' hP, List.take_left' hP]

theorem cutGo_last (f : Nat) (pend : List UInt8) (h : pend ≠ []) : cutGo (f + 3) pend [36, 50, 125] = some [⟨1, pend, 0, []⟩, ⟨3, [], 2, []⟩, ⟨1, [125], 0, []⟩] := by
  rw [cutGo_dollar]
  have hd : dollar [50, 125] = (⟨3, [], 2, []⟩, 2, 0) := by decide
  rw [hd, if_neg (by decide), if_pos (by decide)]
  simp only [List.drop_succ_cons, List.drop_zero]
  rw [cutGo_skip (by decide) (by decide)]
  unfold flush
  rw [if_neg h]
  rfl
/-- THE LAW. -/
theorem cut_skip (P R : List UInt8) (hP : P ≠ []) (hp : passLen (P ++ R) = some P.length) (hR : R = [36, 50, 125] ∨ R = [10, 36, 50, 125]) :
    endAt (123 :: (P ++ R)) 0 = ((123 :: (P ++ R)).length : Nat) ∧ ∃ X, cut (123 :: (P ++ R)) = ([⟨1, X, 0, []⟩, ⟨3, [], 2, []⟩, ⟨1, [125], 0, []⟩], 0) := by
  obtain ⟨n, hn⟩ : ∃ n, P.length = n + 1 := ⟨P.length - 1, by have : P.length ≠ 0 := fun h => hP (List.eq_nil_of_length_eq_zero h); omega⟩
  have hp' := hp
  rw [hn] at hp'
  have he : endAt (123 :: (P ++ R)) 0 = ((123 :: (P ++ R)).length : Nat) := by
    unfold endAt
    rw [if_pos (by simp; omega)]
    show place 0 (endLen (123 :: (P ++ R))) = _
    unfold endLen
    simp only
    rw [if_pos (by decide)]
    unfold endGo
    rw [plain_pass _ (c := 123) (by decide)]
    simp only
    rw [if_neg (by decide)]
    rw [show (if ((((123 : UInt8).toNat : Int)) == 123) = true then (0 : Int) + 1 else if ((((123 : UInt8).toNat : Int)) == 125) = true then 0 - 1 else 0) = 1 by decide]
    have hl : (123 :: (P ++ R)).length = P.length + R.length + 1 := by simp
    rw [hl, endGo_pass hn hp']
    have hr : endGo (P.length + R.length) 1 R = some R.length := by
      rcases hR with rfl | rfl
      · exact endGo_inner [36, 50] _ (by decide) (by simp)
      · exact endGo_inner [10, 36, 50] _ (by decide) (by simp)
    rw [hr]
    simp [place]
    omega
  refine ⟨he, ?_⟩
  unfold cut
  rw [if_neg (by rw [he]; simp)]
  have hl : (123 :: (P ++ R)).length + 1 = (P.length + R.length - 3 + 3 + 1) + 1 := by
    rcases hR with rfl | rfl <;> simp
  rw [hl, cutGo_skip (by decide) (by decide), cutGo_pass hn hp']
  rcases hR with rfl | rfl
  · refine ⟨[] ++ [123] ++ P, ?_⟩
    rw [cutGo_last _ _ (by simp)]
    rfl
  · refine ⟨[] ++ [123] ++ P ++ [10], ?_⟩
    obtain ⟨g, hg⟩ : ∃ g, P.length + ([10, 36, 50, 125] : List UInt8).length - 3 + 3 = (g + 3) + 1 := ⟨P.length - 0, by simp⟩
    rw [hg, cutGo_skip (by decide) (by decide), cutGo_last _ _ (by simp)]
    rfl
end Sp
end Go.Proofs.YthmimcegiihcnaaDoor

namespace Go.Proofs.YthmimcegiihcnaaDoor
namespace Sp

/-- A piece's tag, as it is written. -/
def tagText (t : List UInt8) : List UInt8 := if t = [] then [] else 60 :: (t ++ [62])
def wrong (p : Piece) : Bool := decide (p.n < 0) || decide (999 < p.n) || (decide (p.tag ≠ []) && !isName p.tag)
/-- The text of a piece; none: there is none. -/
def pieceText (p : Piece) : Option (List UInt8) :=
  if wrong p = true then none
  else if p.kind = 1 then some p.text
  else if p.kind = 2 then some (36 :: (tagText p.tag ++ [36]))
  else if p.kind = 3 then some (36 :: (tagText p.tag ++ Go.Lib.itoa p.n))
  else none
def join : List Piece → Option (List UInt8)
  | [] => some []
  | p :: ps => match pieceText p with
    | none => none
    | some t => (join ps).map (t ++ ·)
def joinRes : Option (List UInt8) → List UInt8 × Int
  | none => ([], 1)
  | some t => (t, 0)

end Sp
end Go.Proofs.YthmimcegiihcnaaDoor

namespace Go.Proofs.YthmimcegiihcnaaDoor
namespace Sp
open Go.Lib (index indexByte hasPrefix)

theorem quoteEnd_pos (q : UInt8) (l : List UInt8) : quoteEnd q l ≠ some 0 := by
  cases l with
  | nil => simp [quoteEnd]
  | cons c t =>
    unfold quoteEnd
    split
    · cases t with
      | nil => simp
      | cons d t' => simp only; split <;> simp
    · split
      · simp
      · split <;> simp
theorem quoteEnd_stable (q : UInt8) (R R' : List UInt8) : ∀ (n : Nat) (X : List UInt8), X.length ≤ n → quoteEnd q (X ++ R) = some X.length → quoteEnd q (X ++ R') = some X.length
  | _, [], _, h => absurd h (quoteEnd_pos q R)
  | 0, _ :: _, hn, _ => by simp at hn
  | n + 1, c :: t, hn, h => by
    simp only [List.cons_append, List.length_cons] at h hn ⊢
    unfold quoteEnd at h ⊢
    by_cases h92 : ((c.toNat : Int) == 92) = true
    · rw [if_pos h92] at h ⊢
      cases t with
      | nil =>
        exfalso
        cases R with
        | nil => simp at h
        | cons d u =>
          simp only [List.nil_append] at h
          split at h
          · simp at h
          · obtain ⟨m, _, hm⟩ := Option.map_eq_some_iff.1 h
            simp at hm
      | cons d u =>
        simp only [List.cons_append] at h ⊢
        split at h
        · simp at h
        · rename_i h10
          rw [if_neg h10]
          obtain ⟨m, hm, he⟩ := Option.map_eq_some_iff.1 h
          simp only [List.length_cons] at he hn ⊢
          obtain rfl : m = u.length := by omega
          rw [quoteEnd_stable q R R' n u (by omega) hm]
          rfl
    · rw [if_neg h92] at h ⊢
      by_cases hq : ((c.toNat : Int) == (q.toNat : Int)) = true
      · rw [if_pos hq] at h ⊢
        exact h
      · rw [if_neg hq] at h ⊢
        split at h
        · simp at h
        · rename_i h10
          rw [if_neg h10]
          obtain ⟨m, hm, he⟩ := Option.map_eq_some_iff.1 h
          obtain rfl : m = t.length := by omega
          rw [quoteEnd_stable q R R' n t (by omega) hm]
          rfl
theorem upto_ge (l e : List UInt8) (n : Nat) (h : upto l e = some n) : e.length ≤ n := by
  unfold upto at h
  split at h
  · simp at h; omega
  · simp at h
theorem upto_stable1 (d : UInt8) (R R' : List UInt8) : ∀ X : List UInt8, upto (X ++ R) [d] = some X.length → upto (X ++ R') [d] = some X.length
  | [], h => by have := upto_ge _ _ _ h; simp at this
  | c :: t, h => by
    simp only [List.cons_append, List.length_cons] at h ⊢
    rw [upto_cons, hasPrefix_one] at h ⊢
    split at h
    · rename_i hc
      rw [if_pos hc]; exact h
    · rename_i hc
      rw [if_neg hc]
      obtain ⟨m, hm, he⟩ := Option.map_eq_some_iff.1 h
      obtain rfl : m = t.length := by omega
      rw [upto_stable1 d R R' t hm]
      rfl
theorem hasPrefix_two (a b c d : UInt8) (t : List UInt8) : hasPrefix (a :: b :: t) [c, d] = (c == a && d == b) := by simp [hasPrefix, List.isPrefixOf]
theorem upto_stable2 (d e : UInt8) (R R' : List UInt8) : ∀ X : List UInt8, upto (X ++ R) [d, e] = some X.length → upto (X ++ R') [d, e] = some X.length
  | [], h => by have := upto_ge _ _ _ h; simp at this
  | [c], h => by have := upto_ge _ _ _ h; simp at this
  | c :: b :: t, h => by
    simp only [List.cons_append, List.length_cons] at h ⊢
    rw [upto_cons, hasPrefix_two] at h ⊢
    split at h
    · rename_i hc
      rw [if_pos hc]; exact h
    · rename_i hc
      rw [if_neg hc]
      obtain ⟨m, hm, he⟩ := Option.map_eq_some_iff.1 h
      obtain rfl : m = (b :: t).length := by simp only [List.length_cons]; omega
      have := upto_stable2 d e R R' (b :: t) hm
      simp only [List.cons_append] at this
      rw [this]
      rfl
theorem line_stable (R R' : List UInt8) (hh : R.head? = R'.head?) : ∀ X : List UInt8, line (X ++ R) = X.length → line (X ++ R') = X.length := by
  have key : ∀ l : List UInt8, (line l = 0 ↔ l = [] ∨ l.head? = some 10) ∧ ∀ c t, l = c :: t → c ≠ 10 → line l = line t + 1 := by
    intro l
    cases l with
    | nil => exact ⟨by simp [line, indexByte], fun _ _ h => by cases h⟩
    | cons c t =>
      have hi := Go.Lib.indexByte_ge t 10
      have hcc : ((c.toNat : Int) == ((10 : UInt8).toNat : Int)) = true ↔ c = 10 := by
        constructor
        · intro h
          have : (c.toNat : Int) = 10 := by simpa using h
          exact UInt8.toNat_inj.1 (by show c.toNat = 10; omega)
        · rintro rfl; decide
      have step : c ≠ 10 → line (c :: t) = line t + 1 := by
        intro hc
        unfold line
        rw [indexByte_cons, if_neg (fun h => hc (hcc.1 h))]
        by_cases h1 : indexByte t 10 = -1
        · rw [if_pos h1, if_neg (by omega), if_neg (by omega)]; simp
        · rw [if_neg h1, if_pos (by omega), if_pos (by omega)]; omega
      refine ⟨?_, fun c' t' h hc => by cases h; exact step hc⟩
      by_cases hc : c = 10
      · subst hc
        simp only [List.head?_cons, or_true, iff_true]
        have h0 : indexByte (10 :: t) 10 = 0 := by rw [indexByte_cons, if_pos (by decide)]
        unfold line
        rw [h0]
        rfl
      · rw [step hc]
        simp [hc]
  intro X
  induction X with
  | nil =>
    intro h
    simp only [List.nil_append, List.length_nil] at h ⊢
    rw [(key R).1] at h
    rw [(key R').1]
    rcases h with h | h
    · subst h
      left
      cases R' with
      | nil => rfl
      | cons => simp at hh
    · right; rw [← hh]; exact h
  | cons c t ih =>
    intro h
    simp only [List.cons_append, List.length_cons] at h ⊢
    by_cases hc : c = 10
    · have := (key (c :: (t ++ R))).1.2 (.inr (by rw [hc]; rfl))
      omega
    · rw [(key _).2 c _ rfl hc] at h ⊢
      rw [ih (by omega)]

theorem line_slash (t : List UInt8) : line (47 :: t) = line t + 1 := by
  have hi : indexByte (47 :: t) 10 = if indexByte t 10 = -1 then -1 else indexByte t 10 + 1 := by rw [indexByte_cons, if_neg (by decide)]
  have := Go.Lib.indexByte_ge t 10
  unfold line
  rw [hi]
  by_cases h1 : indexByte t 10 = -1
  · rw [if_pos h1, if_neg (by omega), if_neg (by omega)]; simp
  · rw [if_neg h1, if_pos (by omega), if_pos (by omega)]; omega
/-- What is passed over is passed over whatever follows, but for a newline. -/
theorem passLen_stableL (R R' X : List UInt8) (hl : line (X ++ R) = X.length → line (X ++ R') = X.length) (hX : X ≠ []) (h : passLen (X ++ R) = some X.length) : passLen (X ++ R') = some X.length := by
  cases X with
  | nil => exact absurd rfl hX
  | cons c t =>
    simp only [List.cons_append, List.length_cons] at h ⊢
    rw [passLen_cons] at h ⊢
    split at h
    · rename_i hc
      rw [if_pos hc]
      obtain ⟨m, hm, he⟩ := Option.map_eq_some_iff.1 h
      obtain rfl : m = t.length := by omega
      rw [quoteEnd_stable c R R' t.length t (Nat.le_refl _) hm]
      rfl
    · rename_i hc
      rw [if_neg hc]
      split at h
      · rename_i hc2
        rw [if_pos hc2]
        obtain ⟨m, hm, he⟩ := Option.map_eq_some_iff.1 h
        obtain rfl : m = t.length := by omega
        rw [upto_stable1 96 R R' t hm]
        rfl
      · rename_i hc2
        rw [if_neg hc2]
        cases t with
        | nil =>
          exfalso
          simp only [List.nil_append, List.length_nil] at h
          split at h
          · obtain ⟨m, hm, he⟩ := Option.map_eq_some_iff.1 h
            omega
          · split at h
            · rename_i hs
              cases R with
              | nil => simp [hasPrefix, List.isPrefixOf] at hs
              | cons b u =>
                rw [hasPrefix_two] at hs
                simp at hs
                obtain ⟨rfl, rfl⟩ := hs
                have h1 := line_slash (47 :: u)
                have h2 := line_slash u
                simp only [Option.some.injEq] at h
                omega
            · simp at h
        | cons b u =>
          simp only [List.cons_append, List.length_cons] at h ⊢
          rw [hasPrefix_two] at h ⊢
          rw [hasPrefix_two] at h ⊢
          split at h
          · rename_i hp
            rw [if_pos hp]
            simp only [List.drop_succ_cons, List.drop_zero] at h ⊢
            obtain ⟨m, hm, he⟩ := Option.map_eq_some_iff.1 h
            obtain rfl : m = u.length := by omega
            rw [upto_stable2 42 47 R R' u hm]
            rfl
          · rename_i hp
            rw [if_neg hp]
            split at h
            · rename_i hp2
              rw [if_pos hp2]
              simp only [Option.some.injEq] at h ⊢
              exact hl h
            · simp at h
theorem passLen_stable (R R' X : List UInt8) (hh : R.head? = R'.head?) (hX : X ≠ []) (h : passLen (X ++ R) = some X.length) : passLen (X ++ R') = some X.length :=
  passLen_stableL R R' X (line_stable R R' hh X) hX h
/-- Where nothing is passed over hangs on two bytes. -/
theorem passLen_zero (c : UInt8) (t t' : List UInt8) (hh : t.head? = t'.head?) (h : passLen (c :: t) = some 0) : passLen (c :: t') = some 0 := by
  rw [passLen_cons] at h ⊢
  split at h
  · obtain ⟨m, hm, he⟩ := Option.map_eq_some_iff.1 h
    omega
  · rename_i hc
    rw [if_neg hc]
    split at h
    · obtain ⟨m, hm, he⟩ := Option.map_eq_some_iff.1 h
      omega
    · rename_i hc2
      rw [if_neg hc2]
      have e : ∀ d, hasPrefix (c :: t) [47, d] = hasPrefix (c :: t') [47, d] := by
        intro d
        cases t with
        | nil =>
          cases t' with
          | nil => rfl
          | cons => simp at hh
        | cons b u =>
          cases t' with
          | nil => simp at hh
          | cons b' u' =>
            simp only [List.head?_cons, Option.some.injEq] at hh
            subst hh
            rw [hasPrefix_two, hasPrefix_two]
      rw [e, e] at h
      split at h
      · obtain ⟨m, hm, he⟩ := Option.map_eq_some_iff.1 h
        omega
      · rename_i h1
        rw [if_neg h1]
        split at h
        · rename_i h2
          exfalso
          rw [← e] at h2
          have hc47 : c = 47 := by
            cases t with
            | nil => simp [hasPrefix, List.isPrefixOf] at h2
            | cons b u => rw [hasPrefix_two] at h2; simp at h2; exact h2.1.symm
          subst hc47
          simp only [Option.some.injEq] at h
          have h1 := line_slash t
          omega
        · rename_i h2
          rw [if_neg h2]
end Sp
end Go.Proofs.YthmimcegiihcnaaDoor

namespace Go.Proofs.YthmimcegiihcnaaDoor
namespace Sp
open Go.Lib (index indexByte hasPrefix decDigits decFrom digitVal)

/-! ### Fuel -/
theorem endGo_fuel : ∀ (f : Nat) (d : Int) (r : List UInt8) (m : Nat), endGo f d r = some m → ∀ f', r.length < f' → endGo f' d r = some m
  | 0, _, _, _, h, _, _ => by simp [endGo] at h
  | f + 1, d, [], m, h, _, _ => by simp [endGo] at h
  | f + 1, d, c :: t, m, h, 0, hl => by omega
  | f + 1, d, c :: t, m, h, g + 1, hl => by
    unfold endGo at h ⊢
    cases hp : passLen (c :: t) with
    | none => rw [hp] at h; simp at h
    | some n =>
      rw [hp] at h
      cases n with
      | zero =>
        simp only at h ⊢
        generalize (if ((c.toNat : Int) == 123) = true then d + 1 else if ((c.toNat : Int) == 125) = true then d - 1 else d) = d' at h ⊢
        split at h
        · rename_i h0
          rw [if_pos h0]; exact h
        · rename_i h0
          rw [if_neg h0]
          obtain ⟨m', hm, he⟩ := Option.map_eq_some_iff.1 h
          rw [endGo_fuel f _ t m' hm g (by simp at hl; omega)]
          simp [he]
      | succ n =>
        simp only at h ⊢
        obtain ⟨m', hm, he⟩ := Option.map_eq_some_iff.1 h
        rw [endGo_fuel f _ _ m' hm g (by simp at hl ⊢; omega)]
        simp [he]
theorem endGo_zero {f : Nat} {d : Int} {c : UInt8} {t : List UInt8} (hp : passLen (c :: t) = some 0) : endGo (f + 1) d (c :: t) =
    if ((if ((c.toNat : Int) == 123) = true then d + 1 else if ((c.toNat : Int) == 125) = true then d - 1 else d) == 0) = true then some 1
      else (endGo f (if ((c.toNat : Int) == 123) = true then d + 1 else if ((c.toNat : Int) == 125) = true then d - 1 else d) t).map (· + 1) := by
  conv => lhs; unfold endGo
  rw [hp]
theorem cutGo_zero {f : Nat} {pend : List UInt8} {c : UInt8} {t : List UInt8} (hp : passLen (c :: t) = some 0) : cutGo (f + 1) pend (c :: t) =
    if ((c.toNat : Int) == 36) = true then
        if ((dollar t).2.2 != 0) = true then none
        else if 0 < (dollar t).2.1 then (cutGo f [] ((c :: t).drop (dollar t).2.1)).map (flush pend ++ (dollar t).1 :: ·)
        else cutGo f (pend ++ [c]) t
      else cutGo f (pend ++ [c]) t := by
  conv => lhs; unfold cutGo
  rw [hp]
theorem inner_step {f : Nat} {d : Int} {c : UInt8} {t : List UInt8} (hc : inner c = true) : endGo (f + 1) d (c :: t) = if (d == 0) = true then some 1 else (endGo f d t).map (· + 1) := by
  rw [endGo_zero (plain_pass t (inner_plain hc))]
  unfold inner at hc
  simp only [Bool.and_eq_true, Bool.not_eq_true'] at hc
  simp only [hc.1.2, hc.2, Bool.false_eq_true, if_false]
/-- Over bytes that open and close nothing. -/
theorem endGo_chunk : ∀ (Y : List UInt8) (f : Nat) (d : Int) (R : List UInt8), (∀ c ∈ Y, inner c = true) → d ≠ 0 → endGo (f + Y.length) d (Y ++ R) = (endGo f d R).map (· + Y.length)
  | [], f, d, R, _, _ => by simp
  | c :: t, f, d, R, h, hd => by
    show endGo (f + t.length + 1) d (c :: (t ++ R)) = _
    rw [inner_step (h c (by simp)), if_neg (by simpa using hd), endGo_chunk t f d R (fun x hx => h x (by simp [hx])) hd]
    cases endGo f d R with
    | none => rfl
    | some m => simp; omega
/-- The end behind such a chunk, whatever the fuel. -/
theorem endGo_swap (Y Y' R R' : List UInt8) (hY : ∀ c ∈ Y, inner c = true) (hY' : ∀ c ∈ Y', inner c = true) (h2 : 2 ≤ Y.length)
    (ih : ∀ f d, endGo f d R = some R.length → ∀ f', R'.length < f' → endGo f' d R' = some R'.length) (f : Nat) (d : Int) (h : endGo f d (Y ++ R) = some (Y ++ R).length) (f' : Nat) (hf : (Y' ++ R').length < f') : endGo f' d (Y' ++ R') = some (Y' ++ R').length := by
  have hd : d ≠ 0 := by
    rintro rfl
    cases Y with
    | nil => simp at h2
    | cons c t =>
      cases f with
      | zero => simp [endGo] at h
      | succ f =>
        have e : endGo (f + 1) 0 (c :: (t ++ R)) = some (c :: t ++ R).length := h
        rw [inner_step (hY c (by simp)), if_pos (by decide)] at e
        simp only [Option.some.injEq, List.length_append, List.length_cons] at e
        simp only [List.length_cons] at h2
        omega
  have h1 := endGo_fuel _ _ _ _ h ((R.length + 1) + Y.length) (by simp; omega)
  rw [endGo_chunk Y _ d R hY hd] at h1
  obtain ⟨m, hm, he⟩ := Option.map_eq_some_iff.1 h1
  obtain rfl : m = R.length := by simp at he; omega
  have h3 := ih _ _ hm (R'.length + 1) (by omega)
  refine endGo_fuel ((R'.length + 1) + Y'.length) _ _ _ ?_ f' hf
  rw [endGo_chunk Y' _ d R' hY' hd, h3]
  simp; omega

/-! ### Numerals -/
theorem decFrom_digit (c : UInt8) (h : digit c = true) : ∃ v, v < 10 ∧ digitVal c = some v ∧ c = UInt8.ofNat (48 + v) := by
  unfold digit at h
  simp at h
  refine ⟨c.toNat - 48, by omega, by simp [digitVal, h], ?_⟩
  apply UInt8.toNat_inj.1
  have : 48 + (c.toNat - 48) = c.toNat := by omega
  rw [this]; simp
theorem decDigits_snoc (a v : Nat) (ha : 1 ≤ a) (hv : v < 10) : decDigits (a * 10 + v) = decDigits a ++ [UInt8.ofNat (48 + v)] := by
  rw [decDigits, dif_neg (by omega), show (a * 10 + v) / 10 = a by omega, show (a * 10 + v) % 10 = v by omega]
theorem decDigits_from : ∀ (l : List UInt8) (a : Nat), 1 ≤ a → (∀ c ∈ l, digit c = true) → ∃ m, decFrom a l = some m ∧ decDigits m = decDigits a ++ l
  | [], a, _, _ => ⟨a, rfl, by simp⟩
  | c :: t, a, ha, h => by
    obtain ⟨v, hv, hd, hc⟩ := decFrom_digit c (h c (by simp))
    obtain ⟨m, h1, h2⟩ := decDigits_from t (a * 10 + v) (by omega) (fun x hx => h x (by simp [hx]))
    refine ⟨m, by simp only [decFrom, hd]; exact h1, ?_⟩
    rw [h2, decDigits_snoc a v ha hv, ← hc]
    simp
/-- Digits are noughts and a numeral. -/
theorem digits_form : ∀ (D : List UInt8), D ≠ [] → (∀ c ∈ D, digit c = true) → ∃ m z, decFrom 0 D = some m ∧ D = List.replicate z 48 ++ decDigits m
  | [], h, _ => absurd rfl h
  | [c], _, h => by
    obtain ⟨v, hv, hd, hc⟩ := decFrom_digit c (h c (by simp))
    refine ⟨v, 0, by simp [decFrom, hd], ?_⟩
    rw [decDigits, dif_pos hv, ← hc]; rfl
  | c :: b :: t, _, h => by
    obtain ⟨v, hv, hd, hc⟩ := decFrom_digit c (h c (by simp))
    by_cases h0 : v = 0
    · subst h0
      obtain ⟨m, z, h1, h2⟩ := digits_form (b :: t) (by simp) (fun x hx => h x (by simp only [List.mem_cons] at hx ⊢; exact .inr hx))
      refine ⟨m, z + 1, by rw [decFrom, hd]; exact h1, ?_⟩
      rw [List.replicate_succ, List.cons_append, ← h2, hc]; rfl
    · obtain ⟨m, h1, h2⟩ := decDigits_from (b :: t) v (by omega) (fun x hx => h x (by simp only [List.mem_cons] at hx ⊢; exact .inr hx))
      refine ⟨m, 0, by rw [decFrom, hd]; simpa using h1, ?_⟩
      rw [h2, decDigits, dif_pos hv, ← hc]; rfl
theorem num_of_dec (D : List UInt8) (m : Nat) (h0 : D ≠ []) (hd : ∀ c ∈ D, digit c = true) (h : decFrom 0 D = some m) : num D = m := by
  cases D with
  | nil => exact absurd rfl h0
  | cons c t =>
    have hc := hd c (by simp)
    unfold digit at hc
    simp at hc
    have h1 : (c == 45) = false := by
      rw [beq_eq_false_iff_ne]; rintro rfl; simp at hc
    have h2 : (c == 43) = false := by
      rw [beq_eq_false_iff_ne]; rintro rfl; simp at hc
    simp [num, Go.Lib.atoi, h1, h2, Go.Lib.decNat, h]
end Sp
end Go.Proofs.YthmimcegiihcnaaDoor

namespace Go.Proofs.YthmimcegiihcnaaDoor
namespace Sp
open Go.Lib (index indexByte hasPrefix decDigits decFrom digitVal)

theorem digits_take : ∀ (r : List UInt8), ∀ c ∈ r.take (digits r), digit c = true
  | [], c, h => by simp at h
  | b :: t, c, h => by
    unfold digits at h
    by_cases hb : digit b = true
    · rw [if_pos hb] at h
      simp only [List.take_succ_cons, List.mem_cons] at h
      rcases h with rfl | h
      · exact hb
      · exact digits_take t c h
    · rw [if_neg hb] at h; simp at h
theorem digits_drop : ∀ (r : List UInt8), digits (r.drop (digits r)) = 0
  | [] => by simp [digits]
  | b :: t => by
    by_cases hb : digit b = true
    · have e : digits (b :: t) = digits t + 1 := by rw [digits, if_pos hb]
      rw [e, List.drop_succ_cons]
      exact digits_drop t
    · have e : digits (b :: t) = 0 := by rw [digits, if_neg hb]
      rw [e]; simpa using e
theorem digits_of : ∀ (D R : List UInt8), (∀ c ∈ D, digit c = true) → digits R = 0 → digits (D ++ R) = D.length
  | [], _, _, h => h
  | c :: t, R, h, hR => by
    show digits (c :: (t ++ R)) = _
    rw [digits, if_pos (h c (by simp)), digits_of t R (fun y hy => h y (by simp [hy])) hR]
    rfl
theorem digits_head {R R' : List UInt8} (h : R.head? = R'.head?) (h0 : digits R = 0) : digits R' = 0 := by
  cases R' with
  | nil => rfl
  | cons c t =>
    cases R with
    | nil => simp at h
    | cons b u =>
      simp only [List.head?_cons, Option.some.injEq] at h
      subst h
      unfold digits at h0 ⊢
      by_cases hb : digit b = true
      · rw [if_pos hb] at h0; omega
      · rw [if_neg hb]

theorem dollar2_form (tag : List UInt8) (off : Nat) (r : List UInt8) (hk : 0 < (dollar2 tag off r).2.1) :
    (∃ R, r = 36 :: R ∧ dollar2 tag off r = (⟨2, [], 0, tag⟩, off + 1, 0)) ∨
    ∃ D R, r = D ++ R ∧ D ≠ [] ∧ (∀ c ∈ D, digit c = true) ∧ D.length ≤ 3 ∧ digits R = 0 ∧ dollar2 tag off r = (⟨3, [], num D, tag⟩, off + D.length, 0) := by
  unfold dollar2 at hk ⊢
  split at hk
  · rename_i h
    left
    rw [if_pos h]
    cases r with
    | nil => simp [hasPrefix, List.isPrefixOf] at h
    | cons d t =>
      have : d = 36 := by simp [hasPrefix, List.isPrefixOf] at h; exact h.symm
      subst this
      exact ⟨t, rfl, rfl⟩
  · rename_i h
    rw [if_neg h]
    split at hk
    · simp at hk
    · rename_i h0
      rw [if_neg h0]
      split at hk
      · simp at hk
      · rename_i h3
        rw [if_neg h3]
        right
        have hl : (r.take (digits r)).length = digits r := by rw [List.length_take]; exact Nat.min_eq_left (digits_le r)
        exact ⟨r.take (digits r), r.drop (digits r), (List.take_append_drop _ _).symm, fun e => h0 (by rw [← hl, e]; rfl), digits_take r, by omega, digits_drop r, by rw [hl]⟩
theorem dollar2_whole (tag : List UInt8) (off : Nat) (R : List UInt8) : dollar2 tag off (36 :: R) = (⟨2, [], 0, tag⟩, off + 1, 0) := by
  unfold dollar2
  rw [if_pos (by simp [hasPrefix, List.isPrefixOf])]
theorem dollar2_part (tag : List UInt8) (off : Nat) (D R : List UInt8) (h0 : D ≠ []) (hd : ∀ c ∈ D, digit c = true) (h3 : D.length ≤ 3) (hR : digits R = 0) :
    dollar2 tag off (D ++ R) = (⟨3, [], num D, tag⟩, off + D.length, 0) := by
  unfold dollar2
  have h36 : ¬ hasPrefix (D ++ R) [36] = true := by
    cases D with
    | nil => exact absurd rfl h0
    | cons c r =>
      have hc := hd c (by simp)
      unfold digit at hc
      simp at hc
      show ¬ hasPrefix (c :: (r ++ R)) [36] = true
      rw [hasPrefix_one]
      simp
      omega
  have hl : D.length ≠ 0 := fun h => h0 (List.eq_nil_of_length_eq_zero h)
  rw [if_neg h36, digits_of D R hd hR, if_neg hl, if_neg (by omega), List.take_left']
  rfl

theorem nameLen_stop : ∀ (b : Bool) (tag x : List UInt8), nameLen b tag = tag.length → nameLen b (tag ++ 62 :: x) = tag.length
  | b, [], x, _ => by
    show nameLen b (62 :: x) = 0
    unfold nameLen
    rw [if_neg (by cases b <;> decide)]
  | b, c :: t, x, h => by
    show nameLen b (c :: (t ++ 62 :: x)) = _
    unfold nameLen at h ⊢
    split at h
    · rename_i hc
      rw [if_pos hc, nameLen_stop false t x (by simpa using h)]
      rfl
    · simp at h
def TagOk (tag : List UInt8) : Prop := tag = [] ∨ isName tag = true
theorem tagText_name {tag : List UInt8} (h : isName tag = true) : tagText tag = 60 :: (tag ++ [62]) := by
  unfold tagText
  rw [if_neg]
  rintro rfl
  simp [isName] at h
/-- Behind a tag as it is written. -/
theorem dollar_tag (tag r : List UInt8) (h : TagOk tag) (hr : hasPrefix r [60] = false) : dollar (tagText tag ++ r) = dollar2 tag ((tagText tag).length + 1) r := by
  rcases h with rfl | h
  · show dollar r = dollar2 [] 1 r
    unfold dollar
    rw [if_neg (by rw [hr]; decide)]
  · rw [tagText_name h]
    have hn : nameLen true tag = tag.length := by
      unfold isName at h
      simp only [Bool.and_eq_true, decide_eq_true_eq] at h
      exact h.2
    show dollar (60 :: ((tag ++ [62]) ++ r)) = _
    rw [List.append_assoc]
    show dollar (60 :: (tag ++ 62 :: r)) = _
    unfold dollar
    rw [if_pos (by rw [hasPrefix_one]; decide)]
    simp only [List.drop_succ_cons, List.drop_zero]
    rw [nameLen_stop true tag r hn, List.take_left' rfl, Nat.add_comm 1 tag.length, List.drop_succ_cons, List.drop_left' rfl]
    rw [if_pos ⟨h, by rw [hasPrefix_one]; decide⟩]
    have e : (tag ++ 62 :: r).drop (tag.length + 1) = r := by
      rw [← List.drop_drop, List.drop_left' rfl]; rfl
    rw [e]
    simp [Nat.add_assoc]
theorem dollar_form (t : List UInt8) (hk : 0 < (dollar t).2.1) : ∃ tag, TagOk tag ∧ ((∃ R, t = tagText tag ++ 36 :: R ∧ dollar t = (⟨2, [], 0, tag⟩, (tagText tag).length + 2, 0)) ∨
    ∃ D R, t = tagText tag ++ (D ++ R) ∧ D ≠ [] ∧ (∀ c ∈ D, digit c = true) ∧ D.length ≤ 3 ∧ digits R = 0 ∧ dollar t = (⟨3, [], num D, tag⟩, (tagText tag).length + 1 + D.length, 0)) := by
  by_cases h60 : hasPrefix t [60] = true
  · cases t with
    | nil => simp [hasPrefix, List.isPrefixOf] at h60
    | cons c t =>
      have : c = 60 := by simp [hasPrefix, List.isPrefixOf] at h60; exact h60.symm
      subst this
      have hd : dollar (60 :: t) = if isName (t.take (nameLen true t)) = true ∧ hasPrefix ((60 :: t).drop (1 + nameLen true t)) [62] = true then
          dollar2 (t.take (nameLen true t)) (nameLen true t + 3) ((60 :: t).drop (nameLen true t + 2)) else (nil, 0, 0) := by
        conv => lhs; unfold dollar
        rw [if_pos h60]
        simp only [List.drop_succ_cons, List.drop_zero]
      rw [hd] at hk ⊢
      split at hk
      · rename_i hn
        rw [if_pos hn]
        obtain ⟨hn, h62⟩ := hn
        have hm := nameLen_le true t
        generalize nameLen true t = m at *
        rw [Nat.add_comm 1 m, List.drop_succ_cons] at h62
        rw [List.drop_succ_cons] at hk ⊢
        cases hdm : t.drop m with
        | nil => rw [hdm] at h62; simp [hasPrefix, List.isPrefixOf] at h62
        | cons e u =>
          rw [hdm] at h62
          have : e = 62 := by simp [hasPrefix, List.isPrefixOf] at h62; exact h62.symm
          subst this
          have hu : t.drop (m + 1) = u := by rw [← List.drop_drop, hdm]; rfl
          rw [hu] at hk ⊢
          have hlt : (t.take m).length = m := by rw [List.length_take]; omega
          have ht : 60 :: t = tagText (t.take m) ++ u := by
            rw [tagText_name hn]
            simp only [List.cons_append, List.append_assoc, List.nil_append]
            rw [← hdm, List.take_append_drop]
          have hl : (tagText (t.take m)).length = m + 2 := by rw [tagText_name hn]; simp; omega
          refine ⟨t.take m, .inr hn, ?_⟩
          rcases dollar2_form _ _ _ hk with ⟨R, h1, h2⟩ | ⟨D, R, h1, h2, h3, h4, h5, h6⟩
          · exact .inl ⟨R, by rw [ht, h1], by rw [h2, hl]⟩
          · exact .inr ⟨D, R, by rw [ht, h1], h2, h3, h4, h5, by rw [h6, hl]⟩
      · simp at hk
  · have hd : dollar t = dollar2 [] 1 t := by
      unfold dollar
      rw [if_neg h60]
    rw [hd] at hk ⊢
    refine ⟨[], .inl rfl, ?_⟩
    rcases dollar2_form _ _ _ hk with ⟨R, h1, h2⟩ | ⟨D, R, h1, h2, h3, h4, h5, h6⟩
    · exact .inl ⟨R, h1, h2⟩
    · exact .inr ⟨D, R, h1, h2, h3, h4, h5, h6⟩

/-! ### Alike up to the first dollar -/
def Lk (r r' : List UInt8) : Prop := ∃ x, (36 : UInt8) ∉ x ∧ ((r = x ∧ r' = x) ∨ ∃ a b, r = x ++ 36 :: a ∧ r' = x ++ 36 :: b)
theorem Lk.head {r r' : List UInt8} (h : Lk r r') : r.head? = r'.head? := by
  obtain ⟨x, _, ⟨rfl, rfl⟩ | ⟨a, b, rfl, rfl⟩⟩ := h
  · rfl
  · cases x <;> rfl
theorem Lk.dollar (a b : List UInt8) : Lk (36 :: a) (36 :: b) := ⟨[], by simp, .inr ⟨a, b, rfl, rfl⟩⟩
theorem Lk.cons {r r' : List UInt8} (h : Lk r r') (c : UInt8) : Lk (c :: r) (c :: r') := by
  by_cases hc : c = 36
  · subst hc; exact Lk.dollar _ _
  · obtain ⟨x, hx, h⟩ := h
    refine ⟨c :: x, by simp only [List.mem_cons, not_or]; exact ⟨fun e => hc e.symm, hx⟩, ?_⟩
    rcases h with ⟨rfl, rfl⟩ | ⟨a, b, rfl, rfl⟩
    · exact .inl ⟨rfl, rfl⟩
    · exact .inr ⟨a, b, rfl, rfl⟩
theorem Lk.app {r r' : List UInt8} (h : Lk r r') : ∀ X : List UInt8, Lk (X ++ r) (X ++ r')
  | [] => h
  | c :: t => (Lk.app h t).cons c
end Sp
end Go.Proofs.YthmimcegiihcnaaDoor

namespace Go.Proofs.YthmimcegiihcnaaDoor
namespace Sp
open Go.Lib (index indexByte hasPrefix)

structure Word where
  kind : Int
  text : List UInt8
  at_ : Int
  deriving DecidableEq

/-- A letter that is no underscore. -/
def alpha (c : UInt8) : Bool := (decide (97 ≤ c.toNat) && decide (c.toNat ≤ 122)) || (decide (65 ≤ c.toNat) && decide (c.toNat ≤ 90))
theorem letter_alpha (c : UInt8) : letter c = (alpha c || ((c.toNat : Int) == 95)) := by
  unfold letter alpha
  rw [Bool.eq_iff_iff]; simp; omega
def alphas : List UInt8 → Nat
  | [] => 0
  | c :: t => if alpha c = true then alphas t + 1 else 0
theorem alphas_le : ∀ l : List UInt8, alphas l ≤ l.length
  | [] => Nat.le_refl _
  | c :: t => by
    unfold alphas
    have := alphas_le t
    split <;> simp <;> omega
def blank (c : UInt8) : Bool := ((c.toNat : Int) == 32) || ((c.toNat : Int) == 9) || ((c.toNat : Int) == 10) || ((c.toNat : Int) == 13)

/-- One step of what may stand between words; none: a remark that does not end. -/
def gap : List UInt8 → Option Nat
  | [] => some 0
  | c :: t => if blank c = true then some 1 else if ((c.toNat : Int) == 47) = true then passLen (c :: t) else some 0
theorem gap_le (l : List UInt8) (n : Nat) (h : gap l = some n) : n ≤ l.length := by
  cases l with
  | nil => simp [gap] at h; omega
  | cons c t =>
    have e : gap (c :: t) = if blank c = true then some 1 else if ((c.toNat : Int) == 47) = true then passLen (c :: t) else some 0 := rfl
    rw [e] at h
    by_cases h1 : blank c = true
    · rw [if_pos h1] at h; simp at h; simp; omega
    · rw [if_neg h1] at h
      by_cases h2 : ((c.toNat : Int) == 47) = true
      · rw [if_pos h2] at h; exact passLen_le _ _ h
      · rw [if_neg h2] at h; simp at h; omega
/-- What stands between words: how many bytes; false: a remark that does not end follows. -/
def skipGo : Nat → List UInt8 → Nat × Bool
  | 0, _ => (0, true)
  | f + 1, r => match gap r with
    | none => (0, false)
    | some 0 => (0, true)
    | some (n + 1) => ((n + 1) + (skipGo f (r.drop (n + 1))).1, (skipGo f (r.drop (n + 1))).2)
def skip (r : List UInt8) : Nat × Bool := skipGo (r.length + 1) r
theorem skipGo_fuel : ∀ (f g : Nat) (r : List UInt8), r.length < f → r.length < g → skipGo f r = skipGo g r
  | 0, _, _, h, _ => by omega
  | _ + 1, 0, _, _, h => by omega
  | f + 1, g + 1, r, hf, hg => by
    unfold skipGo
    cases hp : gap r with
    | none => rfl
    | some n =>
      cases n with
      | zero => rfl
      | succ n =>
        have := gap_le _ _ hp
        simp only
        rw [skipGo_fuel f g (r.drop (n + 1)) (by simp; omega) (by simp; omega)]
theorem skip_none {r : List UInt8} (h : gap r = none) : skip r = (0, false) := by unfold skip skipGo; rw [h]
theorem skip_zero {r : List UInt8} (h : gap r = some 0) : skip r = (0, true) := by unfold skip skipGo; rw [h]
theorem skip_succ {r : List UInt8} {n : Nat} (h : gap r = some (n + 1)) : skip r = ((n + 1) + (skip (r.drop (n + 1))).1, (skip (r.drop (n + 1))).2) := by
  have := gap_le _ _ h
  unfold skip
  rw [skipGo_fuel ((r.drop (n + 1)).length + 1) r.length _ (by omega) (by simp; omega)]
  conv => lhs; unfold skipGo
  rw [h]
theorem skip_nil : skip [] = (0, true) := rfl
theorem skip_le : ∀ (f : Nat) (r : List UInt8), r.length < f → (skip r).1 ≤ r.length
  | 0, _, h => by omega
  | f + 1, r, h => by
    cases hp : gap r with
    | none => rw [skip_none hp]; omega
    | some n =>
      cases n with
      | zero => rw [skip_zero hp]; omega
      | succ n =>
        have hl := gap_le _ _ hp
        have := skip_le f (r.drop (n + 1)) (by simp; omega)
        rw [skip_succ hp]
        simp at *; omega
theorem skip_len (r : List UInt8) : (skip r).1 ≤ r.length := skip_le _ r (Nat.lt_succ_self _)

/-! ### Bytes in quotes -/
def plainq (c : UInt8) : Bool := decide (32 ≤ c.toNat) && decide (c.toNat ≤ 126) && !((c.toNat : Int) == 39) && !((c.toNat : Int) == 92)
/-- The byte that a letter behind a backslash stands for. -/
def standOf (d : UInt8) : Option UInt8 := if d = 110 then some 10 else if d = 116 then some 9 else if d = 114 then some 13 else if d = 92 then some 92 else if d = 39 then some 39 else none
/-- The byte in quotes that a text begins with, and how many bytes it takes. -/
def charTake : List UInt8 → Option (UInt8 × Nat)
  | q :: c :: d :: t =>
    if q ≠ 39 then none
    else if plainq c = true ∧ d = 39 then some (c, 3)
    else if c = 92 ∧ t.head? = some 39 then (standOf d).map (·, 4)
    else none
  | _ => none
def quoteText (c : UInt8) : List UInt8 :=
  if c = 10 then [39, 92, 110, 39] else if c = 9 then [39, 92, 116, 39] else if c = 13 then [39, 92, 114, 39] else if c = 92 then [39, 92, 92, 39] else if c = 39 then [39, 92, 39, 39]
  else if plainq c = true then [39, c, 39] else []
theorem quoteText_cases (c : UInt8) : (∃ d, standOf d = some c ∧ quoteText c = [39, 92, d, 39]) ∨ (plainq c = true ∧ quoteText c = [39, c, 39]) ∨ quoteText c = [] := by
  unfold quoteText
  split
  · rename_i h; subst h; exact .inl ⟨110, by decide, rfl⟩
  split
  · rename_i h; subst h; exact .inl ⟨116, by decide, rfl⟩
  split
  · rename_i h; subst h; exact .inl ⟨114, by decide, rfl⟩
  split
  · rename_i h; subst h; exact .inl ⟨92, by decide, rfl⟩
  split
  · rename_i h; subst h; exact .inl ⟨39, by decide, rfl⟩
  split
  · rename_i h; exact .inr (.inl ⟨h, rfl⟩)
  · exact .inr (.inr rfl)
theorem quoteText_stand {c d : UInt8} (h : standOf d = some c) : quoteText c = [39, 92, d, 39] := by
  unfold standOf at h
  split at h
  · rename_i hd; subst hd; cases h; rfl
  split at h
  · rename_i hd; subst hd; cases h; rfl
  split at h
  · rename_i hd; subst hd; cases h; rfl
  split at h
  · rename_i hd; subst hd; cases h; rfl
  split at h
  · rename_i hd; subst hd; cases h; rfl
  · cases h
theorem quoteText_plain {c : UInt8} (h : plainq c = true) : quoteText c = [39, c, 39] := by
  unfold quoteText
  have h' := h
  unfold plainq at h
  simp at h
  rw [if_neg (by rintro rfl; simp at h), if_neg (by rintro rfl; simp at h), if_neg (by rintro rfl; simp at h), if_neg (by rintro rfl; simp at h), if_neg (by rintro rfl; simp at h), if_pos h']
theorem quoteText_len (c : UInt8) : (quoteText c).length ≤ 4 := by
  rcases quoteText_cases c with ⟨d, _, h⟩ | ⟨_, h⟩ | h <;> rw [h] <;> simp
theorem quoteText_range (c : UInt8) (h : quoteText c ≠ []) : 9 ≤ c.toNat ∧ c.toNat ≤ 126 := by
  unfold quoteText at h
  split at h
  · rename_i hc; subst hc; decide
  split at h
  · rename_i hc; subst hc; decide
  split at h
  · rename_i hc; subst hc; decide
  split at h
  · rename_i hc; subst hc; decide
  split at h
  · rename_i hc; subst hc; decide
  split at h
  · rename_i hc; unfold plainq at hc; simp at hc; omega
  · exact absurd rfl h
theorem charTake_three (q c d : UInt8) (t : List UInt8) : charTake (q :: c :: d :: t) = if q ≠ 39 then none
    else if plainq c = true ∧ d = 39 then some (c, 3)
    else if c = 92 ∧ t.head? = some 39 then (standOf d).map (·, 4)
    else none := rfl
theorem plainq_not92 : plainq 92 = false := by decide
theorem charTake_of (r : List UInt8) (c : UInt8) (h0 : quoteText c ≠ []) (h : hasPrefix r (quoteText c) = true) : charTake r = some (c, (quoteText c).length) := by
  rcases quoteText_cases c with ⟨d, hd, e⟩ | ⟨hp, e⟩ | e
  · rw [e] at h ⊢
    rcases r with _ | ⟨a, _ | ⟨b, _ | ⟨x, _ | ⟨y, t⟩⟩⟩⟩ <;> simp [hasPrefix, List.isPrefixOf] at h
    obtain ⟨rfl, rfl, rfl, rfl⟩ := h
    rw [charTake_three, if_neg (by simp), if_neg (by rw [plainq_not92]; simp), if_pos ⟨rfl, rfl⟩, hd]
    rfl
  · rw [e] at h ⊢
    rcases r with _ | ⟨a, _ | ⟨b, _ | ⟨x, t⟩⟩⟩ <;> simp [hasPrefix, List.isPrefixOf] at h
    obtain ⟨rfl, rfl, rfl⟩ := h
    rw [charTake_three, if_neg (by simp), if_pos ⟨hp, rfl⟩]
    rfl
  · exact absurd e h0
theorem charTake_some (r : List UInt8) (c : UInt8) (n : Nat) (h : charTake r = some (c, n)) : quoteText c ≠ [] ∧ hasPrefix r (quoteText c) = true ∧ n = (quoteText c).length := by
  unfold charTake at h
  split at h
  · rename_i q b d t
    split at h
    · cases h
    · rename_i hq
      have hq : q = 39 := Classical.not_not.1 hq
      subst hq
      split at h
      · rename_i hp
        obtain ⟨hp, rfl⟩ := hp
        cases h
        rw [quoteText_plain hp]
        exact ⟨by simp, by simp [hasPrefix, List.isPrefixOf], rfl⟩
      · split at h
        · rename_i hb
          obtain ⟨rfl, ht⟩ := hb
          obtain ⟨x, hx, hxe⟩ := Option.map_eq_some_iff.1 h
          cases hxe
          rw [quoteText_stand hx]
          cases t with
          | nil => simp at ht
          | cons y t =>
            simp at ht
            subst ht
            exact ⟨by simp, by simp [hasPrefix, List.isPrefixOf], rfl⟩
        · cases h
  · cases h
theorem charTake_le (r : List UInt8) (c : UInt8) (n : Nat) (h : charTake r = some (c, n)) : n ≤ r.length ∧ 0 < n := by
  obtain ⟨h0, h1, rfl⟩ := charTake_some r c n h
  refine ⟨?_, ?_⟩
  · have := List.IsPrefix.length_le (List.isPrefixOf_iff_prefix.1 h1)
    exact this
  · cases hq : quoteText c with
    | nil => exact absurd hq h0
    | cons => simp

/-! ### Words -/
def keys : List (List UInt8) := [[37, 116, 111, 107, 101, 110], [37, 108, 101, 102, 116], [37, 114, 105, 103, 104, 116], [37, 110, 111, 110, 97, 115, 115, 111, 99], [37, 116, 121, 112, 101], [37, 115, 116, 97, 114, 116], [37, 112, 114, 101, 99]]
/-- A word: its kind, its text, how many bytes; 0 bytes: there is none. -/
def noWord : Int × List UInt8 × Nat := (0, [], 0)
def percent (r : List UInt8) : Int × List UInt8 × Nat :=
  if hasPrefix r [37, 37] = true then (7, [37, 37], 2)
  else if hasPrefix r [37, 123] = true then match upto (r.drop 2) [37, 125] with
    | none => noWord
    | some k => (9, (r.drop 2).take (k - 2), k + 2)
  else if keys.contains (r.take (1 + alphas (r.drop 1))) = true then (5, r.take (1 + alphas (r.drop 1)), 1 + alphas (r.drop 1))
  else noWord
/-- May a number not end ahead of a text? -/
def stuck : List UInt8 → Bool
  | [] => false
  | c :: _ => letter c
def number (r : List UInt8) : Nat :=
  if 5 < digits r ∨ r.head? = some 48 ∨ stuck (r.drop (digits r)) = true then 0
  else if 50000 < num (r.take (digits r)) then 0 else digits r
def word : List UInt8 → Int × List UInt8 × Nat
  | [] => noWord
  | c :: t =>
    if letter c = true then if nameLen true (c :: t) ≤ 20 then (1, (c :: t).take (nameLen true (c :: t)), nameLen true (c :: t)) else noWord
    else if digit c = true then if 0 < number (c :: t) then (3, (c :: t).take (number (c :: t)), number (c :: t)) else noWord
    else if ((c.toNat : Int) == 39) = true then match charTake (c :: t) with
      | none => noWord
      | some (b, n) => (2, [b], n)
    else if ((c.toNat : Int) == 60) = true then
      if isName (t.take (nameLen true t)) = true ∧ hasPrefix (t.drop (nameLen true t)) [62] = true then (4, t.take (nameLen true t), nameLen true t + 2) else noWord
    else if ((c.toNat : Int) == 37) = true then percent (c :: t)
    else if ((c.toNat : Int) == 58) = true ∨ ((c.toNat : Int) == 59) = true ∨ ((c.toNat : Int) == 124) = true then (6, [c], 1)
    else if ((c.toNat : Int) == 123) = true then match endLen (c :: t) with
      | none => noWord
      | some n => (8, (c :: t).take n, n)
    else noWord

/-- Fuel, how many marks there were, where it stands, what is left: the words, or where none stands. -/
def wordsGo : Nat → Nat → Nat → List UInt8 → Except Nat (List Word)
  | 0, _, _, _ => .error 0
  | f + 1, marks, pos, r =>
    if (skip r).2 = true ∧ r.length = (skip r).1 then .ok [⟨10, [], (pos + (skip r).1 : Nat)⟩]
    else if (skip r).2 = false ∨ (word (r.drop (skip r).1)).2.2 = 0 then .error (pos + (skip r).1)
    else if (if (word (r.drop (skip r).1)).1 = 7 then marks + 1 else marks) = 2 then
      .ok [⟨10, (r.drop (skip r).1).drop (word (r.drop (skip r).1)).2.2, (pos + (skip r).1 + (word (r.drop (skip r).1)).2.2 : Nat)⟩]
    else (wordsGo f (if (word (r.drop (skip r).1)).1 = 7 then marks + 1 else marks) (pos + (skip r).1 + (word (r.drop (skip r).1)).2.2) ((r.drop (skip r).1).drop (word (r.drop (skip r).1)).2.2)).map
      (⟨(word (r.drop (skip r).1)).1, (word (r.drop (skip r).1)).2.1, (pos + (skip r).1 : Nat)⟩ :: ·)
/-- The words, the error, its place. -/
def wordsRes : Except Nat (List Word) → List Word × Int × Nat
  | .error p => ([], 2, p)
  | .ok ws => (ws, 0, 0)
def words (l : List UInt8) : List Word × Int × Nat := if 4000 < l.length then ([], 4, 0) else wordsRes (wordsGo (l.length + 1) 0 0 l)

end Sp
end Go.Proofs.YthmimcegiihcnaaDoor

namespace Go.Proofs.YthmimcegiihcnaaDoor
namespace Sp
open Go.Lib (index indexByte hasPrefix)

theorem endGo_pos : ∀ (f : Nat) (d : Int) (r : List UInt8) (m : Nat), endGo f d r = some m → 1 ≤ m
  | 0, _, _, _, h => by simp [endGo] at h
  | f + 1, d, [], m, h => by simp [endGo] at h
  | f + 1, d, c :: t, m, h => by
    unfold endGo at h
    cases hp : passLen (c :: t) with
    | none => rw [hp] at h; simp at h
    | some n =>
      rw [hp] at h
      cases n with
      | zero =>
        simp only at h
        generalize (if ((c.toNat : Int) == 123) = true then d + 1 else if ((c.toNat : Int) == 125) = true then d - 1 else d) = d' at h
        split at h
        · simp at h; omega
        · obtain ⟨k, _, hk⟩ := Option.map_eq_some_iff.1 h; omega
      | succ n =>
        simp only at h
        obtain ⟨k, _, hk⟩ := Option.map_eq_some_iff.1 h; omega

theorem endGo_le : ∀ (f : Nat) (d : Int) (r : List UInt8) (m : Nat), endGo f d r = some m → m ≤ r.length
  | 0, _, _, _, h => by simp [endGo] at h
  | f + 1, d, [], m, h => by simp [endGo] at h
  | f + 1, d, c :: t, m, h => by
    unfold endGo at h
    cases hp : passLen (c :: t) with
    | none => rw [hp] at h; simp at h
    | some n =>
      rw [hp] at h
      cases n with
      | zero =>
        simp only at h
        generalize (if ((c.toNat : Int) == 123) = true then d + 1 else if ((c.toNat : Int) == 125) = true then d - 1 else d) = d' at h
        split at h
        · simp at h; simp; omega
        · obtain ⟨k, hk, hk2⟩ := Option.map_eq_some_iff.1 h
          have := endGo_le f _ _ _ hk
          simp; omega
      | succ n =>
        simp only at h
        obtain ⟨k, hk, hk2⟩ := Option.map_eq_some_iff.1 h
        have h1 := endGo_le f _ _ _ hk
        have h2 := passLen_le _ _ hp
        simp at h1 h2 ⊢; omega
theorem head_app {X R R' : List UInt8} (h : X ≠ []) : (X ++ R).head? = (X ++ R').head? := by
  cases X with
  | nil => exact absurd rfl h
  | cons => rfl

/-- An action's text within braces ends where it ends, whatever follows. -/
theorem endGo_stable (R R' : List UInt8) : ∀ (f : Nat) (d : Int) (X : List UInt8), 1 ≤ d → endGo f d (X ++ R) = some X.length → ∀ f', X.length < f' → endGo f' d (X ++ R') = some X.length
  | 0, _, _, _, h, _, _ => by simp [endGo] at h
  | f + 1, d, [], _, h, _, _ => by have := endGo_pos _ _ _ _ h; simp at this
  | f + 1, d, c :: t, hd, h, 0, hf => by omega
  | f + 1, d, c :: t, hd, h, g + 1, hf => by
    have hpos := endGo_pos f
    simp only [List.cons_append] at h ⊢
    cases hp : passLen (c :: (t ++ R)) with
    | none =>
      unfold endGo at h
      rw [hp] at h; simp at h
    | some n =>
      cases n with
      | zero =>
        rw [endGo_zero hp] at h
        have hd' : (if ((c.toNat : Int) == 123) = true then d + 1 else if ((c.toNat : Int) == 125) = true then d - 1 else d) = 0 → c = 125 := by
          intro h0
          split at h0
          · omega
          · split at h0
            · rename_i h125
              have : (c.toNat : Int) = 125 := by simpa using h125
              exact UInt8.toNat_inj.1 (by show c.toNat = 125; omega)
            · omega
        have hd'' : (if ((c.toNat : Int) == 123) = true then d + 1 else if ((c.toNat : Int) == 125) = true then d - 1 else d) ≠ 0 → 1 ≤ (if ((c.toNat : Int) == 123) = true then d + 1 else if ((c.toNat : Int) == 125) = true then d - 1 else d) := by
          intro h0
          split at h0
          · rename_i hc; rw [if_pos hc]; omega
          · rename_i hc
            rw [if_neg hc]
            split at h0
            · rename_i hc2; rw [if_pos hc2]; omega
            · rename_i hc2; rw [if_neg hc2]; omega
        have hz : ∀ (hp' : passLen (c :: (t ++ R')) = some 0), endGo (g + 1) d (c :: (t ++ R')) = some (c :: t).length := by
          intro hp'
          rw [endGo_zero hp']
          generalize (if ((c.toNat : Int) == 123) = true then d + 1 else if ((c.toNat : Int) == 125) = true then d - 1 else d) = d' at h hd' hd'' ⊢
          split at h
          · rename_i h0
            rw [if_pos h0]; exact h
          · rename_i h0
            rw [if_neg h0]
            obtain ⟨m, hm, he⟩ := Option.map_eq_some_iff.1 h
            obtain rfl : m = t.length := by simp at he; omega
            rw [endGo_stable R R' f d' t (hd'' (by simpa using h0)) hm g (by simp at hf; omega)]
            rfl
        cases t with
        | nil =>
          have h0 : c = 125 := by
            generalize (if ((c.toNat : Int) == 123) = true then d + 1 else if ((c.toNat : Int) == 125) = true then d - 1 else d) = d' at h hd'
            split at h
            · rename_i h0; exact hd' (by simpa using h0)
            · obtain ⟨m, hm, he⟩ := Option.map_eq_some_iff.1 h
              have := hpos _ _ _ hm
              simp at he; omega
          exact hz (by rw [h0]; exact plain_pass _ (by decide))
        | cons b u => exact hz (passLen_zero c ((b :: u) ++ R) ((b :: u) ++ R') rfl hp)
      | succ n =>
        have hle := passLen_le _ _ hp
        obtain ⟨Y, W, hYW, hY⟩ : ∃ Y W, c :: (t ++ R) = Y ++ W ∧ Y.length = n + 1 := ⟨(c :: (t ++ R)).take (n + 1), (c :: (t ++ R)).drop (n + 1), (List.take_append_drop _ _).symm, by rw [List.length_take]; omega⟩
        have h' := h
        rw [hYW] at h' hp
        rw [endGo_pass hY hp] at h'
        obtain ⟨m, hm, he⟩ := Option.map_eq_some_iff.1 h'
        have hm1 := hpos _ _ _ hm
        have he' : m + (n + 1) = (c :: t).length := he
        clear he
        obtain ⟨X2, hX⟩ : ∃ X2, c :: t = Y ++ X2 := by
          refine ⟨(c :: t).drop (n + 1), ?_⟩
          have e : Y = (c :: t).take (n + 1) := by
            have h1 := congrArg (List.take (n + 1)) hYW
            rw [List.take_left' hY] at h1
            have h2 : (c :: (t ++ R)).take (n + 1) = (c :: t).take (n + 1) := List.take_append_of_le_length (l₁ := c :: t) (by simp at he' ⊢; omega)
            rw [← h1, h2]
          rw [e, List.take_append_drop]
        have hW : W = X2 ++ R := by
          have : Y ++ W = Y ++ (X2 ++ R) := by rw [← hYW, ← List.append_assoc, ← hX]; rfl
          exact List.append_cancel_left this
        have hl := congrArg List.length hX
        simp only [List.length_append] at hl
        have hX2l : X2.length ≠ 0 := by rw [hY] at hl; omega
        have hX2 : X2 ≠ [] := fun e => hX2l (by rw [e]; rfl)
        have e2 : c :: (t ++ R') = Y ++ (X2 ++ R') := by rw [← List.append_assoc, ← hX]; rfl
        rw [e2, hX]
        subst hW
        have hp' : passLen (Y ++ (X2 ++ R')) = some (n + 1) := by
          rw [← hY] at hp ⊢
          exact passLen_stable (X2 ++ R) (X2 ++ R') Y (head_app hX2) (by rintro rfl; simp at hY) hp
        rw [endGo_pass hY hp']
        obtain rfl : m = X2.length := by omega
        rw [endGo_stable R R' f d X2 hd hm g (by omega)]
        simp; omega
theorem endLen_stable (R R' X : List UInt8) (hX : X ≠ []) (h : endLen (X ++ R) = some X.length) : endLen (X ++ R') = some X.length := by
  cases X with
  | nil => exact absurd rfl hX
  | cons c t =>
    simp only [List.cons_append] at h ⊢
    unfold endLen at h ⊢
    simp only at h ⊢
    split at h
    · rename_i hc
      have hc' : c = 123 := by
        have : (c.toNat : Int) = 123 := by simpa using hc
        exact UInt8.toNat_inj.1 (by show c.toNat = 123; omega)
      subst hc'
      rw [if_pos hc]
      rw [endGo_zero (plain_pass _ (by decide)), if_neg (by decide)] at h
      rw [endGo_zero (plain_pass _ (by decide)), if_neg (by decide)]
      obtain ⟨m, hm, he⟩ := Option.map_eq_some_iff.1 h
      obtain rfl : m = t.length := by simp at he; omega
      rw [endGo_stable R R' _ _ t (by decide) hm _ (by simp; omega)]
      rfl
    · simp at h

/-- What may stand behind a word so that it does not go on. -/
def Sep (R R' : List UInt8) : Prop := R'.head? = R.head? ∨ ∀ c, R'.head? = some c → c = 32 ∨ c = 10 ∨ c = 47 ∨ c = 9
theorem Sep.keep {R R' : List UInt8} (h : Sep R R') (p : UInt8 → Bool) (hp : ∀ c, c = 32 ∨ c = 10 ∨ c = 47 ∨ c = 9 → p c = false) (hR : ∀ c, R.head? = some c → p c = false) : ∀ c, R'.head? = some c → p c = false := by
  intro c hc
  rcases h with h | h
  · exact hR c (by rw [← h]; exact hc)
  · exact hp c (h c hc)

theorem nameLen_app : ∀ (b : Bool) (X R : List UInt8), nameLen b (X ++ R) = X.length → nameLen b X = X.length ∧ ∀ c, R.head? = some c → X ≠ [] → nameLen false [c] = 0
  | b, [], R, _ => ⟨rfl, fun c _ h => absurd rfl h⟩
  | b, c :: t, R, h => by
    simp only [List.cons_append, List.length_cons] at h ⊢
    unfold nameLen at h ⊢
    split at h
    · rename_i hc
      obtain ⟨h1, h2⟩ := nameLen_app false t R (by omega)
      rw [if_pos hc, h1]
      refine ⟨rfl, fun x hx _ => ?_⟩
      cases t with
      | nil =>
        have h0 : nameLen false R = 0 := by simpa using h
        cases R with
        | nil => simp at hx
        | cons y R =>
          simp only [List.head?_cons, Option.some.injEq] at hx
          subst hx
          unfold nameLen at h0 ⊢
          split at h0
          · omega
          · rename_i hy; rw [if_neg hy]
      | cons => exact h2 x hx (by simp)
    · omega
theorem nameLen_back : ∀ (b : Bool) (X R : List UInt8), nameLen b X = X.length → X ≠ [] → (∀ c, R.head? = some c → nameLen false [c] = 0) → nameLen b (X ++ R) = X.length
  | b, [], R, _, h, _ => absurd rfl h
  | b, c :: t, R, h, _, hR => by
    simp only [List.cons_append, List.length_cons] at h ⊢
    unfold nameLen at h ⊢
    split at h
    · rename_i hc
      rw [if_pos hc]
      cases t with
      | nil =>
        have : nameLen false R = 0 := by
          cases R with
          | nil => rfl
          | cons y R =>
            have h0 := hR y rfl
            unfold nameLen at h0 ⊢
            split at h0
            · omega
            · rename_i hy; rw [if_neg hy]
        simp [this]
      | cons d u => rw [nameLen_back false (d :: u) R (by simpa using h) (by simp) hR]
    · omega
theorem name_sep : ∀ c : UInt8, c = 32 ∨ c = 10 ∨ c = 47 ∨ c = 9 → (nameLen false [c] != 0) = false := by
  rintro c (rfl | rfl | rfl | rfl) <;> decide
theorem nameLen_stable {R R' X : List UInt8} {b : Bool} (hs : Sep R R') (hX : X ≠ []) (h : nameLen b (X ++ R) = X.length) : nameLen b (X ++ R') = X.length := by
  obtain ⟨h1, h2⟩ := nameLen_app b X R h
  refine nameLen_back b X R' h1 hX (fun c hc => ?_)
  have := hs.keep (fun c => nameLen false [c] != 0) name_sep (fun c hc => by simpa using h2 c hc hX) c hc
  simpa using this
theorem digits_app2 : ∀ (X R : List UInt8), digits (X ++ R) = X.length → (∀ c ∈ X, digit c = true) ∧ digits R = 0
  | [], R, h => ⟨by simp, by simpa using h⟩
  | c :: t, R, h => by
    simp only [List.cons_append, List.length_cons] at h
    unfold digits at h
    split at h
    · rename_i hc
      obtain ⟨h1, h2⟩ := digits_app2 t R (by omega)
      refine ⟨?_, h2⟩
      intro x hx
      simp only [List.mem_cons] at hx
      rcases hx with rfl | hx
      · exact hc
      · exact h1 x hx
    · omega
theorem digits_sep {R R' : List UInt8} (hs : Sep R R') (h : digits R = 0) : digits R' = 0 := by
  have key : ∀ l : List UInt8, digits l = 0 ↔ ∀ c, l.head? = some c → digit c = false := by
    intro l
    cases l with
    | nil => simp [digits]
    | cons c t =>
      unfold digits
      cases hc : digit c <;> simp [hc]
  rw [key] at h ⊢
  exact hs.keep digit (by rintro c (rfl | rfl | rfl | rfl) <;> decide) h
theorem stuck_sep {R R' : List UInt8} (hs : Sep R R') (h : stuck R = false) : stuck R' = false := by
  have key : ∀ l : List UInt8, stuck l = false ↔ ∀ c, l.head? = some c → letter c = false := by
    intro l
    cases l with
    | nil => simp [stuck]
    | cons c t => simp [stuck]
  rw [key] at h ⊢
  exact hs.keep letter (by rintro c (rfl | rfl | rfl | rfl) <;> decide) h
theorem alphas_app : ∀ (X R : List UInt8), alphas (X ++ R) = X.length → (∀ c ∈ X, alpha c = true) ∧ alphas R = 0
  | [], R, h => ⟨by simp, by simpa using h⟩
  | c :: t, R, h => by
    simp only [List.cons_append, List.length_cons] at h
    unfold alphas at h
    split at h
    · rename_i hc
      obtain ⟨h1, h2⟩ := alphas_app t R (by omega)
      refine ⟨?_, h2⟩
      intro x hx
      simp only [List.mem_cons] at hx
      rcases hx with rfl | hx
      · exact hc
      · exact h1 x hx
    · omega
theorem alphas_of : ∀ (X R : List UInt8), (∀ c ∈ X, alpha c = true) → alphas R = 0 → alphas (X ++ R) = X.length
  | [], R, _, h => h
  | c :: t, R, h, hR => by
    show alphas (c :: (t ++ R)) = _
    rw [alphas, if_pos (h c (by simp)), alphas_of t R (fun y hy => h y (by simp [hy])) hR]
    rfl
theorem alphas_sep {R R' : List UInt8} (hs : Sep R R') (h : alphas R = 0) : alphas R' = 0 := by
  have key : ∀ l : List UInt8, alphas l = 0 ↔ ∀ c, l.head? = some c → alpha c = false := by
    intro l
    cases l with
    | nil => simp [alphas]
    | cons c t =>
      unfold alphas
      cases hc : alpha c <;> simp [hc]
  rw [key] at h ⊢
  exact hs.keep alpha (by rintro c (rfl | rfl | rfl | rfl) <;> decide) h

theorem word_cons (c : UInt8) (t : List UInt8) : word (c :: t) =
    if letter c = true then if nameLen true (c :: t) ≤ 20 then (1, (c :: t).take (nameLen true (c :: t)), nameLen true (c :: t)) else noWord
    else if digit c = true then if 0 < number (c :: t) then (3, (c :: t).take (number (c :: t)), number (c :: t)) else noWord
    else if ((c.toNat : Int) == 39) = true then match charTake (c :: t) with
      | none => noWord
      | some (b, n) => (2, [b], n)
    else if ((c.toNat : Int) == 60) = true then
      if isName (t.take (nameLen true t)) = true ∧ hasPrefix (t.drop (nameLen true t)) [62] = true then (4, t.take (nameLen true t), nameLen true t + 2) else noWord
    else if ((c.toNat : Int) == 37) = true then percent (c :: t)
    else if ((c.toNat : Int) == 58) = true ∨ ((c.toNat : Int) == 59) = true ∨ ((c.toNat : Int) == 124) = true then (6, [c], 1)
    else if ((c.toNat : Int) == 123) = true then match endLen (c :: t) with
      | none => noWord
      | some n => (8, (c :: t).take n, n)
    else noWord := rfl
/-- The word that a text begins with takes just the bytes X, and stands so ahead of all that does not go on with it. -/
theorem word_stable (R R' X tx : List UInt8) (k : Int) (hX : X ≠ []) (hs : Sep R R') (h : word (X ++ R) = (k, tx, X.length)) : word (X ++ R') = (k, tx, X.length) := by
  cases X with
  | nil => exact absurd rfl hX
  | cons c t =>
    have hno : (noWord : Int × List UInt8 × Nat) ≠ (k, tx, (c :: t).length) := by
      intro e
      have := congrArg (fun p : Int × List UInt8 × Nat => p.2.2) e
      simp [noWord] at this
    simp only [List.cons_append] at h ⊢
    rw [word_cons] at h ⊢
    split at h
    · rename_i hc
      rw [if_pos hc]
      split at h
      · rename_i h20
        have h3 := congrArg (fun p : Int × List UInt8 × Nat => p.2.2) h
        simp only at h3
        have hn := nameLen_stable (b := true) hs hX h3
        have hn' : nameLen true (c :: (t ++ R')) = (c :: t).length := hn
        rw [hn', if_pos (by omega)]
        rw [h3] at h
        rw [← h]
        have e1 : (c :: (t ++ R')).take (c :: t).length = c :: t := List.take_left' (l₁ := c :: t) rfl
        have e2 : (c :: (t ++ R)).take (c :: t).length = c :: t := List.take_left' (l₁ := c :: t) rfl
        rw [e1, e2]
      · exact absurd h hno
    · rename_i hc
      rw [if_neg hc]
      split at h
      · rename_i hdg
        rw [if_pos hdg]
        split at h
        · rename_i h0
          have h3 := congrArg (fun p : Int × List UInt8 × Nat => p.2.2) h
          simp only at h3
          have hnum : number (c :: (t ++ R')) = (c :: t).length := by
            unfold number at h0 h3 ⊢
            split at h0
            · omega
            · rename_i hn
              rw [if_neg hn] at h3
              split at h0
              · omega
              · rename_i hv
                rw [if_neg hv] at h3
                obtain ⟨ha, hb⟩ := digits_app2 (c :: t) R h3
                have hd' : digits (c :: (t ++ R')) = (c :: t).length := digits_of (c :: t) R' ha (digits_sep hs hb)
                have e1 : (c :: (t ++ R')).take (c :: t).length = c :: t := List.take_left' (l₁ := c :: t) rfl
                have e2 : (c :: (t ++ R)).take (c :: t).length = c :: t := List.take_left' (l₁ := c :: t) rfl
                have e3 : (c :: (t ++ R')).drop (c :: t).length = R' := List.drop_left' (l₁ := c :: t) rfl
                have e4 : (c :: (t ++ R)).drop (c :: t).length = R := List.drop_left' (l₁ := c :: t) rfl
                rw [h3, e4] at hn
                rw [h3, e2] at hv
                rw [hd', e1, e3]
                rw [if_neg, if_neg hv]
                intro hh
                apply hn
                rcases hh with hh | hh | hh
                · exact .inl hh
                · exact .inr (.inl hh)
                · right; right
                  cases hst : stuck R with
                  | true => rfl
                  | false => rw [stuck_sep hs hst] at hh; simp at hh
          rw [hnum, if_pos (by simp)]
          rw [h3] at h
          rw [← h]
          have e1 : (c :: (t ++ R')).take (c :: t).length = c :: t := List.take_left' (l₁ := c :: t) rfl
          have e2 : (c :: (t ++ R)).take (c :: t).length = c :: t := List.take_left' (l₁ := c :: t) rfl
          rw [e1, e2]
        · exact absurd h hno
      · rename_i hdg
        rw [if_neg hdg]
        split at h
        · rename_i h39
          rw [if_pos h39]
          cases hct : charTake (c :: (t ++ R)) with
          | none => rw [hct] at h; exact absurd h hno
          | some p =>
            obtain ⟨b, n⟩ := p
            rw [hct] at h
            simp only at h
            obtain ⟨g0, g1, rfl⟩ := charTake_some _ _ _ hct
            have h3 := congrArg (fun p : Int × List UInt8 × Nat => p.2.2) h
            simp only at h3
            have hq : quoteText b = c :: t := by
              have hp := List.isPrefixOf_iff_prefix.1 g1
              obtain ⟨u, hu⟩ := hp
              have : quoteText b ++ u = (c :: t) ++ R := hu
              exact (List.append_inj this h3).1
            have : charTake (c :: (t ++ R')) = some (b, (quoteText b).length) := by
              refine charTake_of _ _ g0 ?_
              rw [hq]
              exact List.isPrefixOf_iff_prefix.2 ⟨R', rfl⟩
            rw [this]
            exact h
        · rename_i h39
          rw [if_neg h39]
          split at h
          · rename_i h60
            rw [if_pos h60]
            split at h
            · rename_i hn
              obtain ⟨hn, h62⟩ := hn
              have h3 := congrArg (fun p : Int × List UInt8 × Nat => p.2.2) h
              simp only [List.length_cons] at h3
              have htl : t.length = nameLen true (t ++ R) + 1 := by omega
              generalize hm : nameLen true (t ++ R) = m at *
              have hne : t.take m ≠ [] := by
                intro e
                rw [List.take_append_of_le_length (by omega), e] at hn
                simp [isName] at hn
              have h62' : t.drop m = [62] := by
                rw [List.drop_append_of_le_length (by omega)] at h62
                have hl : (t.drop m).length = 1 := by simp; omega
                rcases hd : t.drop m with _ | ⟨x, _ | ⟨y, u⟩⟩
                · rw [hd] at hl; simp at hl
                · rw [hd] at h62; simp [hasPrefix, List.isPrefixOf] at h62; rw [h62]
                · rw [hd] at hl; simp at hl
              have ht : t = t.take m ++ [62] := by rw [← h62', List.take_append_drop]
              have key : ∀ U, nameLen true (t ++ U) = m := by
                intro U
                rw [ht, List.append_assoc]
                have e0 : nameLen true (t.take m ++ ([62] ++ R)) = (t.take m).length := by
                  rw [← List.append_assoc, ← ht, hm]; simp; omega
                have hlm : (t.take m).length = m := by simp; omega
                have := nameLen_stable (R := [62] ++ R) (R' := [62] ++ U) (b := true) (.inl rfl) hne e0
                rw [this, hlm]
              rw [key R', List.take_append_of_le_length (by omega), List.drop_append_of_le_length (by omega)]
              rw [List.take_append_of_le_length (by omega)] at hn h
              rw [if_pos ⟨hn, by rw [h62']; simp [hasPrefix, List.isPrefixOf]⟩]
              exact h
            · exact absurd h hno
          · rename_i h60
            rw [if_neg h60]
            split at h
            · rename_i h37
              rw [if_pos h37]
              have h37' : c = 37 := by
                have : (c.toNat : Int) = 37 := by simpa using h37
                exact UInt8.toNat_inj.1 (by show c.toNat = 37; omega)
              subst h37'
              unfold percent at h ⊢
              split at h
              · rename_i hpp
                have h3 := congrArg (fun p : Int × List UInt8 × Nat => p.2.2) h
                simp only [List.length_cons] at h3
                rcases t with _ | ⟨b, _ | ⟨b2, u⟩⟩
                · simp at h3
                · simp [hasPrefix, List.isPrefixOf] at hpp
                  subst hpp
                  rw [if_pos (by simp [hasPrefix, List.isPrefixOf])]
                  exact h
                · simp at h3
              · rename_i hpp
                split at h
                · rename_i hpb
                  cases hu : upto ((37 :: (t ++ R)).drop 2) [37, 125] with
                  | none => rw [hu] at h; exact absurd h hno
                  | some m =>
                    rw [hu] at h
                    simp only at h
                    have h3 := congrArg (fun p : Int × List UInt8 × Nat => p.2.2) h
                    simp only [List.length_cons] at h3
                    have hge := upto_ge _ _ _ hu
                    simp only [List.length_cons, List.length_nil] at hge
                    rcases t with _ | ⟨b, u⟩
                    · simp at h3
                    · simp only [List.cons_append, List.length_cons] at *
                      have hb : b = 123 := by simp [hasPrefix, List.isPrefixOf] at hpb; exact hpb.symm
                      subst hb
                      have eR : (37 :: 123 :: (u ++ R)).drop 2 = u ++ R := rfl
                      have eR' : (37 :: 123 :: (u ++ R')).drop 2 = u ++ R' := rfl
                      rw [eR] at hu h
                      rw [eR']
                      obtain rfl : m = u.length := by omega
                      rw [if_neg (by simp [hasPrefix, List.isPrefixOf]), if_pos (by simp [hasPrefix, List.isPrefixOf]), upto_stable2 37 125 R R' u hu]
                      simp only
                      rw [List.take_append_of_le_length (by omega)] at h ⊢
                      exact h
                · rename_i hpb
                  split at h
                  · rename_i hk
                    have h3 := congrArg (fun p : Int × List UInt8 × Nat => p.2.2) h
                    simp only [List.length_cons] at h3
                    have e0 : ∀ U, (37 :: (t ++ U)).drop 1 = t ++ U := fun U => rfl
                    rw [e0] at hk h h3
                    rw [e0]
                    have ha : alphas (t ++ R) = t.length := by omega
                    obtain ⟨h1, h2⟩ := alphas_app t R ha
                    have ha' := alphas_of t R' h1 (alphas_sep hs h2)
                    have e1 : ∀ U, (37 :: (t ++ U)).take (1 + t.length) = 37 :: t := fun U => by rw [Nat.add_comm]; exact List.take_left' (l₁ := 37 :: t) rfl
                    rw [ha, e1] at hk h
                    rw [ha', e1]
                    have ht : t ≠ [] := by rintro rfl; revert hk; decide
                    have hhead : ∀ x y U, t.head? = some x → hasPrefix (37 :: (t ++ U)) [37, y] = (y == x) := by
                      intro x y U hx
                      cases t with
                      | nil => simp at hx
                      | cons z u =>
                        simp only [List.head?_cons, Option.some.injEq] at hx
                        subst hx
                        simp [hasPrefix, List.isPrefixOf]
                    obtain ⟨x, hx⟩ : ∃ x, t.head? = some x := by
                      cases t with
                      | nil => exact absurd rfl ht
                      | cons x u => exact ⟨x, rfl⟩
                    rw [hhead x 37 R hx] at hpp
                    rw [hhead x 123 R hx] at hpb
                    rw [hhead x 37 R' hx, hhead x 123 R' hx, if_neg hpp, if_neg hpb, if_pos hk]
                    exact h
                  · exact absurd h hno
            · rename_i h37
              rw [if_neg h37]
              split at h
              · rename_i hsg
                rw [if_pos hsg]
                exact h
              · rename_i hsg
                rw [if_neg hsg]
                split at h
                · rename_i h123
                  rw [if_pos h123]
                  cases he : endLen (c :: (t ++ R)) with
                  | none => rw [he] at h; exact absurd h hno
                  | some n =>
                    rw [he] at h
                    simp only at h
                    have h3 := congrArg (fun p : Int × List UInt8 × Nat => p.2.2) h
                    simp only at h3
                    subst h3
                    have := endLen_stable R R' (c :: t) hX he
                    have this' : endLen (c :: (t ++ R')) = some (c :: t).length := this
                    rw [this']
                    simp only
                    have e1 : (c :: (t ++ R')).take (c :: t).length = c :: t := List.take_left' (l₁ := c :: t) rfl
                    have e2 : (c :: (t ++ R)).take (c :: t).length = c :: t := List.take_left' (l₁ := c :: t) rfl
                    rw [e1, ← h, e2]
                · exact absurd h hno
end Sp
end Go.Proofs.YthmimcegiihcnaaDoor

namespace Go.Proofs.YthmimcegiihcnaaDoor
namespace Sp
open Go.Lib (index indexByte hasPrefix)

/-- How many bytes are so, from the beginning on. -/
def span (p : UInt8 → Bool) : List UInt8 → Nat
  | [] => 0
  | c :: t => if p c = true then span p t + 1 else 0
theorem span_le (p : UInt8 → Bool) : ∀ l : List UInt8, span p l ≤ l.length
  | [] => Nat.le_refl _
  | c :: t => by
    unfold span
    have := span_le p t
    split <;> simp <;> omega
theorem digits_span : ∀ l : List UInt8, digits l = span digit l
  | [] => rfl
  | c :: t => by unfold digits span; rw [digits_span t]
theorem alphas_span : ∀ l : List UInt8, alphas l = span alpha l
  | [] => rfl
  | c :: t => by unfold alphas span; rw [alphas_span t]
theorem line_span : ∀ l : List UInt8, line l = span (fun c => (c.toNat : Int) != 10) l
  | [] => rfl
  | c :: t => by
    have e : span (fun c => (c.toNat : Int) != 10) (c :: t) = if ((c.toNat : Int) != 10) = true then span (fun c => (c.toNat : Int) != 10) t + 1 else 0 := rfl
    rw [e, line_cons, line_span t]
    unfold bne
    cases ((c.toNat : Int) == 10) <;> simp

/-! ### The letters behind a backslash -/
def letters : List UInt8 := [110, 116, 114, 92, 39]
def stands : List UInt8 := [10, 9, 13, 92, 39]
theorem letters_at (d : UInt8) : (standOf d = none ∧ indexByte letters d = -1) ∨ ∃ k : Nat, k < 5 ∧ indexByte letters d = k ∧ standOf d = stands[k]? := by
  unfold standOf
  split
  · rename_i h; subst h; exact .inr ⟨0, by decide, by decide, by decide⟩
  split
  · rename_i h; subst h; exact .inr ⟨1, by decide, by decide, by decide⟩
  split
  · rename_i h; subst h; exact .inr ⟨2, by decide, by decide, by decide⟩
  split
  · rename_i h; subst h; exact .inr ⟨3, by decide, by decide, by decide⟩
  split
  · rename_i h; subst h; exact .inr ⟨4, by decide, by decide, by decide⟩
  · rename_i h1 h2 h3 h4 h5
    left
    refine ⟨rfl, ?_⟩
    have key : ∀ x : UInt8, ¬ d = x → ¬ ((x.toNat : Int) == (d.toNat : Int)) = true := by
      intro x hx h
      apply hx
      have : (x.toNat : Int) = d.toNat := by simpa using h
      exact (UInt8.toNat_inj.1 (by omega)).symm
    unfold letters
    rw [indexByte_cons, if_neg (key _ h1), indexByte_cons, if_neg (key _ h2), indexByte_cons, if_neg (key _ h3), indexByte_cons, if_neg (key _ h4), indexByte_cons, if_neg (key _ h5)]
    simp [indexByte]
/-- The byte, the place behind, whether there is one. -/
def takeRes (p : Nat) : Option (UInt8 × Nat) → Int × Int × Bool
  | none => (0, 0, false)
  | some (c, n) => ((c.toNat : Int), ((p + n : Nat) : Int), true)
theorem charTake_short (r : List UInt8) (h : r.length < 3) : charTake r = none := by
  rcases r with _ | ⟨a, _ | ⟨b, _ | ⟨c, t⟩⟩⟩
  · rfl
  · rfl
  · rfl
  · simp at h
    omega
theorem charTake_q (c d : UInt8) (t : List UInt8) : charTake (39 :: c :: d :: t) =
    if plainq c = true ∧ d = 39 then some (c, 3)
    else if c = 92 ∧ t.head? = some 39 then (standOf d).map (·, 4)
    else none := by rw [charTake_three, if_neg (by simp)]
theorem byte_eq (d x : UInt8) : d = x ↔ ((d.toNat : Int) == (x.toNat : Int)) = true := by
  constructor
  · rintro rfl; simp
  · intro h
    have : (d.toNat : Int) = x.toNat := by simpa using h
    exact UInt8.toNat_inj.1 (by omega)
theorem charTake_b (c d : UInt8) (t : List UInt8) : charTake (39 :: c :: d :: t) =
    if plainq c = true ∧ ((d.toNat : Int) == 39) = true then some (c, 3)
    else if ((c.toNat : Int) != 92) = false ∧ t.head? = some 39 then (standOf d).map (·, 4)
    else none := by
  have e1 : d = 39 ↔ ((d.toNat : Int) == 39) = true := byte_eq d 39
  have e2 : c = 92 ↔ ((c.toNat : Int) != 92) = false := by
    rw [bne, Bool.not_eq_false']
    exact byte_eq c 92
  rw [charTake_q]
  simp only [e1, e2]
end Sp
end Go.Proofs.YthmimcegiihcnaaDoor

namespace Go.Proofs.YthmimcegiihcnaaDoor
namespace Sp
open Go.Lib (index indexByte hasPrefix)

/-- A word is no longer than the text. -/
theorem word_le (r : List UInt8) : (word r).2.2 ≤ r.length := by
  cases r with
  | nil => exact Nat.le_refl _
  | cons c t =>
    have h0 : (noWord : Int × List UInt8 × Nat).2.2 ≤ (c :: t).length := Nat.zero_le _
    rw [word_cons]
    split
    · split
      · exact nameLen_le true (c :: t)
      · exact h0
    split
    · split
      · have h1 := digits_le (c :: t)
        show number (c :: t) ≤ _
        unfold number
        split
        · omega
        · split <;> omega
      · exact h0
    split
    · cases hc : charTake (c :: t) with
      | none => exact h0
      | some p =>
        obtain ⟨b, n⟩ := p
        exact (charTake_le _ _ _ hc).1
    split
    · split
      · rename_i h
        obtain ⟨_, h⟩ := h
        have h1 := nameLen_le true t
        have h2 : (t.drop (nameLen true t)).length ≠ 0 := by
          intro e
          rw [List.eq_nil_of_length_eq_zero e] at h
          simp [hasPrefix, List.isPrefixOf] at h
        simp at h2 ⊢
        omega
      · exact h0
    split
    · unfold percent
      split
      · rename_i h
        have := List.IsPrefix.length_le (List.isPrefixOf_iff_prefix.1 h)
        exact this
      · split
        · rename_i h
          have h2 := List.IsPrefix.length_le (List.isPrefixOf_iff_prefix.1 h)
          simp only [List.length_cons, List.length_nil] at h2
          cases hu : upto ((c :: t).drop 2) [37, 125] with
          | none => exact h0
          | some k =>
            have := upto_le _ _ _ hu
            simp at this ⊢
            omega
        · split
          · have := alphas_le ((c :: t).drop 1)
            simp at this ⊢
            omega
          · exact h0
    split
    · simp
    split
    · cases he : endLen (c :: t) with
      | none => exact h0
      | some n =>
        show n ≤ _
        have e : endLen (c :: t) = if ((c.toNat : Int) == 123) = true then endGo ((c :: t).length + 1) 0 (c :: t) else none := rfl
        rw [e] at he
        by_cases h : ((c.toNat : Int) == 123) = true
        · rw [if_pos h] at he
          exact endGo_le _ _ _ _ he
        · rw [if_neg h] at he
          cases he
    · exact h0
end Sp
end Go.Proofs.YthmimcegiihcnaaDoor
