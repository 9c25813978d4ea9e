/- Plain functions: an action's text cut into pieces. Plain laws: a dollar with digits between braces is cut into three pieces, or refused. No program in sight. Plain laws: within quotes and remarks nothing is looked at. No program in sight. Plain functions: the text of pieces. Plain laws: the form of a dollar's piece, and its text. No program in sight. Plain laws: the form of a dollar's piece, and where it is the same. No program in sight. Plain functions on lists of bytes: what the functions of layers 4 and 6 (bytes in quotes, words of a source) compute. No program in sight. Plain laws: runs of bytes; the byte in quotes by its table. No program in sight. Slices of structs, as they are read; the walk of EqPieces. An argument that is a slice of pieces, opened to the cells that the walks read. Appending to slices that the call itself made; worlds that keep all but some blocks. The walks of the small functions of layer 5. -/
import Derived.Test.YtphdfbmmjkccgaaDoorZ00
import Derived.Laws.StructEq
import Derived.Deep.Slices
import Derived.Deep.Fields
import Derived.ChangeSame
import Derived.Deep.RegionLaw
import Derived.OwnWalk
namespace Go.Proofs.YtphdfbmmjkccgaaDoor
namespace Sp
open Go.Lib (index indexByte hasPrefix)

def flush (t : List UInt8) : List Piece := if t = [] then [] else [⟨1, t, 0, []⟩]
/-- Fuel, the text that stands since the last piece, what is left; none: a number that is too long. -/
def cutGo : Nat → List UInt8 → List UInt8 → Option (List Piece)
  | 0, _, _ => none
  | _ + 1, pend, [] => some (flush pend)
  | f + 1, pend, c :: t =>
    match passLen (c :: t) with
    | none => none
    | some (n + 1) => cutGo f (pend ++ (c :: t).take (n + 1)) ((c :: t).drop (n + 1))
    | some 0 =>
      if ((c.toNat : Int) == 36) = true then
        if ((dollar t).2.2 != 0) = true then none
        else if 0 < (dollar t).2.1 then (cutGo f [] ((c :: t).drop (dollar t).2.1)).map (flush pend ++ (dollar t).1 :: ·)
        else cutGo f (pend ++ [c]) t
      else cutGo f (pend ++ [c]) t
def cutRes : Option (List Piece) → List Piece × Int
  | none => ([], 6)
  | some ps => (ps, 0)
def cut (l : List UInt8) : List Piece × Int :=
  if l = [] ∨ endAt l 0 ≠ l.length then ([], 1)
  else cutRes (cutGo (l.length + 1) [] l)

/-- A text that ends where it ends. -/
def Ok (r : List UInt8) : Prop := r = [] ∨ ∃ f d, endGo f d r = some r.length
theorem Ok.pass {r : List UInt8} (h : Ok r) (hr : r ≠ []) : passLen r ≠ none := by
  rcases h with h | ⟨f, d, h⟩
  · exact absurd h hr
  · cases r with
    | nil => exact absurd rfl hr
    | cons c t =>
      cases f with
      | zero => simp [endGo] at h
      | succ f =>
        intro hn
        simp [endGo, hn] at h
theorem Ok.skip {r : List UInt8} {n : Nat} (h : Ok r) (hp : passLen r = some (n + 1)) : Ok (r.drop (n + 1)) := by
  rcases h with h | ⟨f, d, h⟩
  · subst h; left; rfl
  · cases r with
    | nil => left; rfl
    | cons c t =>
      cases f with
      | zero => simp [endGo] at h
      | succ f =>
        unfold endGo at h
        rw [hp] at h
        simp only at h
        obtain ⟨m, hm, he⟩ := Option.map_eq_some_iff.1 h
        right
        refine ⟨f, d, ?_⟩
        rw [hm, List.length_drop]
        congr 1
        omega
theorem Ok.step {c : UInt8} {t : List UInt8} (h : Ok (c :: t)) (hp : passLen (c :: t) = some 0) : Ok t := by
  rcases h with h | ⟨f, d, h⟩
  · cases h
  · cases f with
    | zero => simp [endGo] at h
    | succ f =>
      unfold endGo at h
      rw [hp] at h
      simp only at h
      generalize (if ((c.toNat : Int) == 123) = true then d + 1 else if ((c.toNat : Int) == 125) = true then d - 1 else d) = d' at h
      split at h
      · left
        simp at h
        exact h
      · obtain ⟨m, hm, he⟩ := Option.map_eq_some_iff.1 h
        right
        refine ⟨f, d', ?_⟩
        rw [hm]
        simp at he
        simp [he]

/-- A byte at which nothing is passed over. -/
def plain (c : UInt8) : Bool := !((c.toNat : Int) == 34) && !((c.toNat : Int) == 39) && !((c.toNat : Int) == 96) && !((c.toNat : Int) == 47)
theorem plain_pass {c : UInt8} (t : List UInt8) (h : plain c = true) : passLen (c :: t) = some 0 := by
  unfold plain at h
  simp only [Bool.and_eq_true, Bool.not_eq_true'] at h
  obtain ⟨⟨⟨h1, h2⟩, h3⟩, h4⟩ := h
  have h5 : c ≠ 47 := by rintro rfl; simp at h4
  have e1 : ¬ hasPrefix (c :: t) [47, 42] = true := by simp [hasPrefix]; exact fun e => absurd e.symm h5
  have e2 : ¬ hasPrefix (c :: t) [47, 47] = true := by simp [hasPrefix]; exact fun e => absurd e.symm h5
  rw [passLen_cons, if_neg (by rw [h1, h2]; simp), if_neg (by rw [h3]; simp), if_neg e1, if_neg e2]
theorem Ok.plains : ∀ (n : Nat) (r : List UInt8), Ok r → (∀ c ∈ r.take n, plain c = true) → Ok (r.drop n)
  | 0, r, h, _ => by simpa using h
  | _ + 1, [], _, _ => by left; rfl
  | n + 1, c :: t, h, hp => by
    have hc := hp c (by simp)
    have := Ok.plains n t (h.step (plain_pass t hc)) (fun x hx => hp x (by simp [hx]))
    simpa using this
theorem digit_plain {c : UInt8} (h : digit c = true) : plain c = true := by
  unfold digit at h; simp at h
  unfold plain; simp; omega
theorem letter_plain {c : UInt8} (h : letter c = true) : plain c = true := by
  unfold letter at h; simp at h
  unfold plain; simp; omega
theorem digits_plain : ∀ (l : List UInt8), ∀ c ∈ l.take (digits l), plain c = true
  | [], c, h => by simp at h
  | b :: t, c, h => by
    unfold digits at h
    by_cases hb : digit b = true
    · rw [if_pos hb] at h
      simp only [List.take_succ_cons, List.mem_cons] at h
      rcases h with rfl | h
      · exact digit_plain hb
      · exact digits_plain t c h
    · rw [if_neg hb] at h; simp at h
theorem name_plain : ∀ (b : Bool) (l : List UInt8), ∀ c ∈ l.take (nameLen b l), plain c = true
  | _, [], c, h => by simp at h
  | b, x :: t, c, h => by
    unfold nameLen at h
    split at h
    · rename_i hx
      simp only [List.take_succ_cons, List.mem_cons] at h
      rcases h with rfl | h
      · simp only [Bool.or_eq_true, Bool.and_eq_true] at hx
        rcases hx with hx | ⟨_, hx | hx⟩
        · exact letter_plain hx
        · exact digit_plain hx
        · unfold plain; simp at hx; simp; omega
      · exact name_plain false t c h
    · simp at h
theorem dollar2_plain (tag : List UInt8) (off : Nat) (r pre : List UInt8) (hpre : ∀ c ∈ pre, plain c = true) (hl : pre.length = off) :
    ∀ c ∈ (pre ++ r).take (dollar2 tag off r).2.1, plain c = true := by
  intro c hc
  unfold dollar2 at hc
  split at hc
  · rename_i h
    cases r with
    | nil => simp [hasPrefix] at h
    | cons d t =>
      simp [hasPrefix] at h
      subst h
      simp only [List.take_append, hl, List.mem_append] at hc
      rcases hc with hc | hc
      · exact hpre c (List.mem_of_mem_take hc)
      · simp at hc
        subst hc; decide
  · split at hc
    · simp at hc
    · split at hc
      · simp at hc
      · simp only [List.take_append, hl, List.mem_append] at hc
        rcases hc with hc | hc
        · exact hpre c (List.mem_of_mem_take hc)
        · rw [Nat.add_sub_cancel_left] at hc
          exact digits_plain r c hc
theorem dollar_plain (c : UInt8) (t : List UInt8) (hc : ((c.toNat : Int) == 36) = true) : ∀ x ∈ (c :: t).take (dollar t).2.1, plain x = true := by
  have hcp : plain c = true := by simp at hc; unfold plain; simp; omega
  unfold dollar
  split
  · rename_i h60
    cases t with
    | nil => simp [hasPrefix] at h60
    | cons d t =>
      simp [hasPrefix] at h60
      subst h60
      simp only [List.drop_succ_cons, List.drop_zero]
      split
      · rename_i hn
        obtain ⟨hn, h62⟩ := hn
        have hm := nameLen_le true t
        generalize hmm : nameLen true t = m at *
        rw [Nat.add_comm 1 m] at h62
        simp only [List.drop_succ_cons] at h62
        cases hd : t.drop m with
        | nil => rw [hd] at h62; simp [hasPrefix] at h62
        | cons e u =>
          rw [hd] at h62
          simp [hasPrefix] at h62
          subst h62
          have ht : c :: 60 :: t = (c :: 60 :: (t.take m ++ [62])) ++ u := by
            simp only [List.cons_append, List.append_assoc, List.nil_append]
            rw [← hd, List.take_append_drop]
          have hu : t.drop (m + 1) = u := by
            rw [← List.drop_drop, hd]; rfl
          rw [hu, ht]
          refine dollar2_plain _ (m + 3) u _ ?_ (by simp; omega)
          intro x hx
          simp only [List.mem_cons, List.mem_append, List.not_mem_nil, or_false] at hx
          rcases hx with rfl | rfl | hx | rfl
          · exact hcp
          · decide
          · rw [← hmm] at hx; exact name_plain true t x hx
          · decide
      · simp
  · have := dollar2_plain [] 1 t [c] (by simpa using hcp) rfl
    simpa using this
theorem dollar_le (t : List UInt8) : (dollar t).2.1 ≤ t.length + 1 := by
  have key : ∀ tag off r, off + r.length ≤ t.length + 1 → (dollar2 tag off r).2.1 ≤ t.length + 1 := by
    intro tag off r h
    unfold dollar2
    have := digits_le r
    split
    · rename_i hp
      cases r with
      | nil => simp [hasPrefix] at hp
      | cons => simp at *; omega
    · split
      · simp
      · split
        · simp
        · simp; omega
  unfold dollar
  split
  · split
    · rename_i h60 hn
      refine key _ _ _ ?_
      simp
      obtain ⟨_, h62⟩ := hn
      have : (t.drop (1 + nameLen true (t.drop 1))).length ≠ 0 := by
        intro h0
        rw [List.eq_nil_of_length_eq_zero h0] at h62
        simp [hasPrefix] at h62
      simp at this
      omega
    · simp
  · exact key _ _ _ (by omega)
theorem Ok.dollar {c : UInt8} {t : List UInt8} (h : Ok (c :: t)) (hc : ((c.toNat : Int) == 36) = true) : Ok ((c :: t).drop (dollar t).2.1) :=
  h.plains _ _ (dollar_plain c t hc)
theorem dollar_err (t : List UInt8) : ((dollar t).2.2 != 0) = true → (dollar t).2.2 = 6 := by
  have key : ∀ tag off r, ((dollar2 tag off r).2.2 != 0) = true → (dollar2 tag off r).2.2 = 6 := by
    intro tag off r
    unfold dollar2
    split
    · simp
    · split
      · simp
      · split <;> simp
  unfold dollar
  split
  · split
    · exact key _ _ _
    · simp
  · exact key _ _ _
theorem Ok.start {l : List UInt8} (h : endAt l 0 = l.length) : Ok l := by
  unfold endAt at h
  split at h
  · rename_i h0
    simp only [Int.toNat_zero, List.drop_zero] at h
    cases l with
    | nil => left; rfl
    | cons c t =>
      right
      unfold endLen at h
      simp only at h
      split at h
      · rename_i hc
        refine ⟨(c :: t).length + 1, 0, ?_⟩
        · cases he : endGo ((c :: t).length + 1) 0 (c :: t) with
          | none => rw [he] at h; simp [place] at h; omega
          | some n => rw [he] at h; simp [place] at h; simp; omega
      · simp [place] at h; omega
  · omega

end Sp
end Go.Proofs.YtphdfbmmjkccgaaDoor

namespace Go.Proofs.YtphdfbmmjkccgaaDoor
namespace Sp
open Go.Lib (index indexByte hasPrefix decDigits decFrom digitVal)

/-- A byte that neither opens nor closes anything. -/
def inner (c : UInt8) : Bool := plain c && !((c.toNat : Int) == 123) && !((c.toNat : Int) == 125)
def nm (tag : Bool) : List UInt8 := if tag = true then [60, 118, 62] else []
def tg (tag : Bool) : List UInt8 := if tag = true then [118] else []
def parts (tag : Bool) (d : List UInt8) : List UInt8 := 123 :: 36 :: (nm tag ++ (d ++ [32, 125]))
/-! ### Numerals -/
theorem decDigits_ne (m : Nat) : decDigits m ≠ [] := by
  rw [decDigits]; split <;> simp
end Sp
end Go.Proofs.YtphdfbmmjkccgaaDoor

namespace Go.Proofs.YtphdfbmmjkccgaaDoor
namespace Sp
open Go.Lib (index indexByte hasPrefix)

def ahead : Nat → List UInt8
  | 0 => [34] | 1 => [39] | 2 => [96] | 3 => [47, 47] | _ => [47, 42]
def behind : Nat → List UInt8
  | 0 => [34] | 1 => [39] | 2 => [96] | 3 => [10] | _ => [42, 47]

theorem cutGo_pass {f n : Nat} {pend P R : List UInt8} (hP : P.length = n + 1) (hp : passLen (P ++ R) = some (n + 1)) : cutGo (f + 1) pend (P ++ R) = cutGo f (pend ++ P) R := by
  cases P with
  | nil => simp at hP
  | cons c t =>
    show cutGo (f + 1) pend (c :: (t ++ R)) = _
    conv => lhs; unfold cutGo
    rw [show c :: (t ++ R) = (c :: t) ++ R from rfl, hp]
    simp only
    rw [List.drop_left' hP, List.take_left' hP]

end Sp
end Go.Proofs.YtphdfbmmjkccgaaDoor

namespace Go.Proofs.YtphdfbmmjkccgaaDoor
namespace Sp

/-- A piece's tag, as it is written. -/
def tagText (t : List UInt8) : List UInt8 := if t = [] then [] else 60 :: (t ++ [62])
end Sp
end Go.Proofs.YtphdfbmmjkccgaaDoor

namespace Go.Proofs.YtphdfbmmjkccgaaDoor
namespace Sp
open Go.Lib (index indexByte hasPrefix decDigits decFrom digitVal)

/-! ### Fuel -/
theorem cutGo_zero {f : Nat} {pend : List UInt8} {c : UInt8} {t : List UInt8} (hp : passLen (c :: t) = some 0) : cutGo (f + 1) pend (c :: t) =
    if ((c.toNat : Int) == 36) = true then
        if ((dollar t).2.2 != 0) = true then none
        else if 0 < (dollar t).2.1 then (cutGo f [] ((c :: t).drop (dollar t).2.1)).map (flush pend ++ (dollar t).1 :: ·)
        else cutGo f (pend ++ [c]) t
      else cutGo f (pend ++ [c]) t := by
  conv => lhs; unfold cutGo
  rw [hp]
/-! ### Numerals -/
theorem decFrom_digit (c : UInt8) (h : digit c = true) : ∃ v, v < 10 ∧ digitVal c = some v ∧ c = UInt8.ofNat (48 + v) := by
  unfold digit at h
  simp at h
  refine ⟨c.toNat - 48, by omega, by simp [digitVal, h], ?_⟩
  apply UInt8.toNat_inj.1
  have : 48 + (c.toNat - 48) = c.toNat := by omega
  rw [this]; simp
theorem decDigits_snoc (a v : Nat) (ha : 1 ≤ a) (hv : v < 10) : decDigits (a * 10 + v) = decDigits a ++ [UInt8.ofNat (48 + v)] := by
  rw [decDigits, dif_neg (by omega), show (a * 10 + v) / 10 = a by omega, show (a * 10 + v) % 10 = v by omega]
theorem decDigits_from : ∀ (l : List UInt8) (a : Nat), 1 ≤ a → (∀ c ∈ l, digit c = true) → ∃ m, decFrom a l = some m ∧ decDigits m = decDigits a ++ l
  | [], a, _, _ => ⟨a, rfl, by simp⟩
  | c :: t, a, ha, h => by
    obtain ⟨v, hv, hd, hc⟩ := decFrom_digit c (h c (by simp))
    obtain ⟨m, h1, h2⟩ := decDigits_from t (a * 10 + v) (by omega) (fun x hx => h x (by simp [hx]))
    refine ⟨m, by simp only [decFrom, hd]; exact h1, ?_⟩
    rw [h2, decDigits_snoc a v ha hv, ← hc]
    simp
/-- Digits are noughts and a numeral. -/
theorem digits_form : ∀ (D : List UInt8), D ≠ [] → (∀ c ∈ D, digit c = true) → ∃ m z, decFrom 0 D = some m ∧ D = List.replicate z 48 ++ decDigits m
  | [], h, _ => absurd rfl h
  | [c], _, h => by
    obtain ⟨v, hv, hd, hc⟩ := decFrom_digit c (h c (by simp))
    refine ⟨v, 0, by simp [decFrom, hd], ?_⟩
    rw [decDigits, dif_pos hv, ← hc]; rfl
  | c :: b :: t, _, h => by
    obtain ⟨v, hv, hd, hc⟩ := decFrom_digit c (h c (by simp))
    by_cases h0 : v = 0
    · subst h0
      obtain ⟨m, z, h1, h2⟩ := digits_form (b :: t) (by simp) (fun x hx => h x (by simp only [List.mem_cons] at hx ⊢; exact .inr hx))
      refine ⟨m, z + 1, by rw [decFrom, hd]; exact h1, ?_⟩
      rw [List.replicate_succ, List.cons_append, ← h2, hc]; rfl
    · obtain ⟨m, h1, h2⟩ := decDigits_from (b :: t) v (by omega) (fun x hx => h x (by simp only [List.mem_cons] at hx ⊢; exact .inr hx))
      refine ⟨m, 0, by rw [decFrom, hd]; simpa using h1, ?_⟩
      rw [h2, decDigits, dif_pos hv, ← hc]; rfl
theorem num_of_dec (D : List UInt8) (m : Nat) (h0 : D ≠ []) (hd : ∀ c ∈ D, digit c = true) (h : decFrom 0 D = some m) : num D = m := by
  cases D with
  | nil => exact absurd rfl h0
  | cons c t =>
    have hc := hd c (by simp)
    unfold digit at hc
    simp at hc
    have h1 : (c == 45) = false := by
      rw [beq_eq_false_iff_ne]; rintro rfl; simp at hc
    have h2 : (c == 43) = false := by
      rw [beq_eq_false_iff_ne]; rintro rfl; simp at hc
    simp [num, Go.Lib.atoi, h1, h2, Go.Lib.decNat, h]
end Sp
end Go.Proofs.YtphdfbmmjkccgaaDoor

namespace Go.Proofs.YtphdfbmmjkccgaaDoor
namespace Sp
open Go.Lib (index indexByte hasPrefix decDigits decFrom digitVal)

theorem digits_take : ∀ (r : List UInt8), ∀ c ∈ r.take (digits r), digit c = true
  | [], c, h => by simp at h
  | b :: t, c, h => by
    unfold digits at h
    by_cases hb : digit b = true
    · rw [if_pos hb] at h
      simp only [List.take_succ_cons, List.mem_cons] at h
      rcases h with rfl | h
      · exact hb
      · exact digits_take t c h
    · rw [if_neg hb] at h; simp at h
theorem digits_drop : ∀ (r : List UInt8), digits (r.drop (digits r)) = 0
  | [] => by simp [digits]
  | b :: t => by
    by_cases hb : digit b = true
    · have e : digits (b :: t) = digits t + 1 := by rw [digits, if_pos hb]
      rw [e, List.drop_succ_cons]
      exact digits_drop t
    · have e : digits (b :: t) = 0 := by rw [digits, if_neg hb]
      rw [e]; simpa using e
theorem dollar2_form (tag : List UInt8) (off : Nat) (r : List UInt8) (hk : 0 < (dollar2 tag off r).2.1) :
    (∃ R, r = 36 :: R ∧ dollar2 tag off r = (⟨2, [], 0, tag⟩, off + 1, 0)) ∨
    ∃ D R, r = D ++ R ∧ D ≠ [] ∧ (∀ c ∈ D, digit c = true) ∧ D.length ≤ 3 ∧ digits R = 0 ∧ dollar2 tag off r = (⟨3, [], num D, tag⟩, off + D.length, 0) := by
  unfold dollar2 at hk ⊢
  split at hk
  · rename_i h
    left
    rw [if_pos h]
    cases r with
    | nil => simp [hasPrefix, List.isPrefixOf] at h
    | cons d t =>
      have : d = 36 := by simp [hasPrefix, List.isPrefixOf] at h; exact h.symm
      subst this
      exact ⟨t, rfl, rfl⟩
  · rename_i h
    rw [if_neg h]
    split at hk
    · simp at hk
    · rename_i h0
      rw [if_neg h0]
      split at hk
      · simp at hk
      · rename_i h3
        rw [if_neg h3]
        right
        have hl : (r.take (digits r)).length = digits r := by rw [List.length_take]; exact Nat.min_eq_left (digits_le r)
        exact ⟨r.take (digits r), r.drop (digits r), (List.take_append_drop _ _).symm, fun e => h0 (by rw [← hl, e]; rfl), digits_take r, by omega, digits_drop r, by rw [hl]⟩
def TagOk (tag : List UInt8) : Prop := tag = [] ∨ isName tag = true
theorem tagText_name {tag : List UInt8} (h : isName tag = true) : tagText tag = 60 :: (tag ++ [62]) := by
  unfold tagText
  rw [if_neg]
  rintro rfl
  simp [isName] at h
theorem dollar_form (t : List UInt8) (hk : 0 < (dollar t).2.1) : ∃ tag, TagOk tag ∧ ((∃ R, t = tagText tag ++ 36 :: R ∧ dollar t = (⟨2, [], 0, tag⟩, (tagText tag).length + 2, 0)) ∨
    ∃ D R, t = tagText tag ++ (D ++ R) ∧ D ≠ [] ∧ (∀ c ∈ D, digit c = true) ∧ D.length ≤ 3 ∧ digits R = 0 ∧ dollar t = (⟨3, [], num D, tag⟩, (tagText tag).length + 1 + D.length, 0)) := by
  by_cases h60 : hasPrefix t [60] = true
  · cases t with
    | nil => simp [hasPrefix, List.isPrefixOf] at h60
    | cons c t =>
      have : c = 60 := by simp [hasPrefix, List.isPrefixOf] at h60; exact h60.symm
      subst this
      have hd : dollar (60 :: t) = if isName (t.take (nameLen true t)) = true ∧ hasPrefix ((60 :: t).drop (1 + nameLen true t)) [62] = true then
          dollar2 (t.take (nameLen true t)) (nameLen true t + 3) ((60 :: t).drop (nameLen true t + 2)) else (nil, 0, 0) := by
        conv => lhs; unfold dollar
        rw [if_pos h60]
        simp only [List.drop_succ_cons, List.drop_zero]
      rw [hd] at hk ⊢
      split at hk
      · rename_i hn
        rw [if_pos hn]
        obtain ⟨hn, h62⟩ := hn
        have hm := nameLen_le true t
        generalize nameLen true t = m at *
        rw [Nat.add_comm 1 m, List.drop_succ_cons] at h62
        rw [List.drop_succ_cons] at hk ⊢
        cases hdm : t.drop m with
        | nil => rw [hdm] at h62; simp [hasPrefix, List.isPrefixOf] at h62
        | cons e u =>
          rw [hdm] at h62
          have : e = 62 := by simp [hasPrefix, List.isPrefixOf] at h62; exact h62.symm
          subst this
          have hu : t.drop (m + 1) = u := by rw [← List.drop_drop, hdm]; rfl
          rw [hu] at hk ⊢
          have hlt : (t.take m).length = m := by rw [List.length_take]; omega
          have ht : 60 :: t = tagText (t.take m) ++ u := by
            rw [tagText_name hn]
            simp only [List.cons_append, List.append_assoc, List.nil_append]
            rw [← hdm, List.take_append_drop]
          have hl : (tagText (t.take m)).length = m + 2 := by rw [tagText_name hn]; simp; omega
          refine ⟨t.take m, .inr hn, ?_⟩
          rcases dollar2_form _ _ _ hk with ⟨R, h1, h2⟩ | ⟨D, R, h1, h2, h3, h4, h5, h6⟩
          · exact .inl ⟨R, by rw [ht, h1], by rw [h2, hl]⟩
          · exact .inr ⟨D, R, by rw [ht, h1], h2, h3, h4, h5, by rw [h6, hl]⟩
      · simp at hk
  · have hd : dollar t = dollar2 [] 1 t := by
      unfold dollar
      rw [if_neg h60]
    rw [hd] at hk ⊢
    refine ⟨[], .inl rfl, ?_⟩
    rcases dollar2_form _ _ _ hk with ⟨R, h1, h2⟩ | ⟨D, R, h1, h2, h3, h4, h5, h6⟩
    · exact .inl ⟨R, h1, h2⟩
    · exact .inr ⟨D, R, h1, h2, h3, h4, h5, h6⟩

/-! ### Alike up to the first dollar -/
def Lk (r r' : List UInt8) : Prop := ∃ x, (36 : UInt8) ∉ x ∧ ((r = x ∧ r' = x) ∨ ∃ a b, r = x ++ 36 :: a ∧ r' = x ++ 36 :: b)
theorem Lk.head {r r' : List UInt8} (h : Lk r r') : r.head? = r'.head? := by
  obtain ⟨x, _, ⟨rfl, rfl⟩ | ⟨a, b, rfl, rfl⟩⟩ := h
  · rfl
  · cases x <;> rfl
theorem Lk.dollar (a b : List UInt8) : Lk (36 :: a) (36 :: b) := ⟨[], by simp, .inr ⟨a, b, rfl, rfl⟩⟩
theorem Lk.cons {r r' : List UInt8} (h : Lk r r') (c : UInt8) : Lk (c :: r) (c :: r') := by
  by_cases hc : c = 36
  · subst hc; exact Lk.dollar _ _
  · obtain ⟨x, hx, h⟩ := h
    refine ⟨c :: x, by simp only [List.mem_cons, not_or]; exact ⟨fun e => hc e.symm, hx⟩, ?_⟩
    rcases h with ⟨rfl, rfl⟩ | ⟨a, b, rfl, rfl⟩
    · exact .inl ⟨rfl, rfl⟩
    · exact .inr ⟨a, b, rfl, rfl⟩
end Sp
end Go.Proofs.YtphdfbmmjkccgaaDoor

namespace Go.Proofs.YtphdfbmmjkccgaaDoor
namespace Sp
open Go.Lib (index indexByte hasPrefix)

structure Word where
  kind : Int
  text : List UInt8
  at_ : Int
  deriving DecidableEq

/-- A letter that is no underscore. -/
def alpha (c : UInt8) : Bool := (decide (97 ≤ c.toNat) && decide (c.toNat ≤ 122)) || (decide (65 ≤ c.toNat) && decide (c.toNat ≤ 90))
def alphas : List UInt8 → Nat
  | [] => 0
  | c :: t => if alpha c = true then alphas t + 1 else 0
def blank (c : UInt8) : Bool := ((c.toNat : Int) == 32) || ((c.toNat : Int) == 9) || ((c.toNat : Int) == 10) || ((c.toNat : Int) == 13)

/-- One step of what may stand between words; none: a remark that does not end. -/
def gap : List UInt8 → Option Nat
  | [] => some 0
  | c :: t => if blank c = true then some 1 else if ((c.toNat : Int) == 47) = true then passLen (c :: t) else some 0
/-- What stands between words: how many bytes; false: a remark that does not end follows. -/
def skipGo : Nat → List UInt8 → Nat × Bool
  | 0, _ => (0, true)
  | f + 1, r => match gap r with
    | none => (0, false)
    | some 0 => (0, true)
    | some (n + 1) => ((n + 1) + (skipGo f (r.drop (n + 1))).1, (skipGo f (r.drop (n + 1))).2)
def skip (r : List UInt8) : Nat × Bool := skipGo (r.length + 1) r
/-! ### Bytes in quotes -/
def plainq (c : UInt8) : Bool := decide (32 ≤ c.toNat) && decide (c.toNat ≤ 126) && !((c.toNat : Int) == 39) && !((c.toNat : Int) == 92)
/-- The byte that a letter behind a backslash stands for. -/
def standOf (d : UInt8) : Option UInt8 := if d = 110 then some 10 else if d = 116 then some 9 else if d = 114 then some 13 else if d = 92 then some 92 else if d = 39 then some 39 else none
/-- The byte in quotes that a text begins with, and how many bytes it takes. -/
def charTake : List UInt8 → Option (UInt8 × Nat)
  | q :: c :: d :: t =>
    if q ≠ 39 then none
    else if plainq c = true ∧ d = 39 then some (c, 3)
    else if c = 92 ∧ t.head? = some 39 then (standOf d).map (·, 4)
    else none
  | _ => none
def quoteText (c : UInt8) : List UInt8 :=
  if c = 10 then [39, 92, 110, 39] else if c = 9 then [39, 92, 116, 39] else if c = 13 then [39, 92, 114, 39] else if c = 92 then [39, 92, 92, 39] else if c = 39 then [39, 92, 39, 39]
  else if plainq c = true then [39, c, 39] else []
theorem quoteText_stand {c d : UInt8} (h : standOf d = some c) : quoteText c = [39, 92, d, 39] := by
  unfold standOf at h
  split at h
  · rename_i hd; subst hd; cases h; rfl
  split at h
  · rename_i hd; subst hd; cases h; rfl
  split at h
  · rename_i hd; subst hd; cases h; rfl
  split at h
  · rename_i hd; subst hd; cases h; rfl
  split at h
  · rename_i hd; subst hd; cases h; rfl
  · cases h
theorem quoteText_plain {c : UInt8} (h : plainq c = true) : quoteText c = [39, c, 39] := by
  unfold quoteText
  have h' := h
  unfold plainq at h
  simp at h
  rw [if_neg (by rintro rfl; simp at h), if_neg (by rintro rfl; simp at h), if_neg (by rintro rfl; simp at h), if_neg (by rintro rfl; simp at h), if_neg (by rintro rfl; simp at h), if_pos h']
theorem quoteText_range (c : UInt8) (h : quoteText c ≠ []) : 9 ≤ c.toNat ∧ c.toNat ≤ 126 := by
  unfold quoteText at h
  split at h
  · rename_i hc; subst hc; decide
  split at h
  · rename_i hc; subst hc; decide
  split at h
  · rename_i hc; subst hc; decide
  split at h
  · rename_i hc; subst hc; decide
  split at h
  · rename_i hc; subst hc; decide
  split at h
  · rename_i hc; unfold plainq at hc; simp at hc; omega
  · exact absurd rfl h
theorem charTake_some (r : List UInt8) (c : UInt8) (n : Nat) (h : charTake r = some (c, n)) : quoteText c ≠ [] ∧ hasPrefix r (quoteText c) = true ∧ n = (quoteText c).length := by
  unfold charTake at h
  split at h
  · rename_i q b d t
    split at h
    · cases h
    · rename_i hq
      have hq : q = 39 := Classical.not_not.1 hq
      subst hq
      split at h
      · rename_i hp
        obtain ⟨hp, rfl⟩ := hp
        cases h
        rw [quoteText_plain hp]
        exact ⟨by simp, by simp [hasPrefix, List.isPrefixOf], rfl⟩
      · split at h
        · rename_i hb
          obtain ⟨rfl, ht⟩ := hb
          obtain ⟨x, hx, hxe⟩ := Option.map_eq_some_iff.1 h
          cases hxe
          rw [quoteText_stand hx]
          cases t with
          | nil => simp at ht
          | cons y t =>
            simp at ht
            subst ht
            exact ⟨by simp, by simp [hasPrefix, List.isPrefixOf], rfl⟩
        · cases h
  · cases h
/-! ### Words -/
def keys : List (List UInt8) := [[37, 116, 111, 107, 101, 110], [37, 108, 101, 102, 116], [37, 114, 105, 103, 104, 116], [37, 110, 111, 110, 97, 115, 115, 111, 99], [37, 116, 121, 112, 101], [37, 115, 116, 97, 114, 116], [37, 112, 114, 101, 99]]
/-- A word: its kind, its text, how many bytes; 0 bytes: there is none. -/
def noWord : Int × List UInt8 × Nat := (0, [], 0)
def percent (r : List UInt8) : Int × List UInt8 × Nat :=
  if hasPrefix r [37, 37] = true then (7, [37, 37], 2)
  else if hasPrefix r [37, 123] = true then match upto (r.drop 2) [37, 125] with
    | none => noWord
    | some k => (9, (r.drop 2).take (k - 2), k + 2)
  else if keys.contains (r.take (1 + alphas (r.drop 1))) = true then (5, r.take (1 + alphas (r.drop 1)), 1 + alphas (r.drop 1))
  else noWord
/-- May a number not end ahead of a text? -/
def stuck : List UInt8 → Bool
  | [] => false
  | c :: _ => letter c
def number (r : List UInt8) : Nat :=
  if 5 < digits r ∨ r.head? = some 48 ∨ stuck (r.drop (digits r)) = true then 0
  else if 50000 < num (r.take (digits r)) then 0 else digits r
def word : List UInt8 → Int × List UInt8 × Nat
  | [] => noWord
  | c :: t =>
    if letter c = true then if nameLen true (c :: t) ≤ 20 then (1, (c :: t).take (nameLen true (c :: t)), nameLen true (c :: t)) else noWord
    else if digit c = true then if 0 < number (c :: t) then (3, (c :: t).take (number (c :: t)), number (c :: t)) else noWord
    else if ((c.toNat : Int) == 39) = true then match charTake (c :: t) with
      | none => noWord
      | some (b, n) => (2, [b], n)
    else if ((c.toNat : Int) == 60) = true then
      if isName (t.take (nameLen true t)) = true ∧ hasPrefix (t.drop (nameLen true t)) [62] = true then (4, t.take (nameLen true t), nameLen true t + 2) else noWord
    else if ((c.toNat : Int) == 37) = true then percent (c :: t)
    else if ((c.toNat : Int) == 58) = true ∨ ((c.toNat : Int) == 59) = true ∨ ((c.toNat : Int) == 124) = true then (6, [c], 1)
    else if ((c.toNat : Int) == 123) = true then match endLen (c :: t) with
      | none => noWord
      | some n => (8, (c :: t).take n, n)
    else noWord

/-- Fuel, how many marks there were, where it stands, what is left: the words, or where none stands. -/
def wordsGo : Nat → Nat → Nat → List UInt8 → Except Nat (List Word)
  | 0, _, _, _ => .error 0
  | f + 1, marks, pos, r =>
    if (skip r).2 = true ∧ r.length = (skip r).1 then .ok [⟨10, [], (pos + (skip r).1 : Nat)⟩]
    else if (skip r).2 = false ∨ (word (r.drop (skip r).1)).2.2 = 0 then .error (pos + (skip r).1)
    else if (if (word (r.drop (skip r).1)).1 = 7 then marks + 1 else marks) = 2 then
      .ok [⟨10, (r.drop (skip r).1).drop (word (r.drop (skip r).1)).2.2, (pos + (skip r).1 + (word (r.drop (skip r).1)).2.2 : Nat)⟩]
    else (wordsGo f (if (word (r.drop (skip r).1)).1 = 7 then marks + 1 else marks) (pos + (skip r).1 + (word (r.drop (skip r).1)).2.2) ((r.drop (skip r).1).drop (word (r.drop (skip r).1)).2.2)).map
      (⟨(word (r.drop (skip r).1)).1, (word (r.drop (skip r).1)).2.1, (pos + (skip r).1 : Nat)⟩ :: ·)
/-- The words, the error, its place. -/
def wordsRes : Except Nat (List Word) → List Word × Int × Nat
  | .error p => ([], 2, p)
  | .ok ws => (ws, 0, 0)
def words (l : List UInt8) : List Word × Int × Nat := if 4000 < l.length then ([], 4, 0) else wordsRes (wordsGo (l.length + 1) 0 0 l)

end Sp
end Go.Proofs.YtphdfbmmjkccgaaDoor

namespace Go.Proofs.YtphdfbmmjkccgaaDoor
namespace Sp
open Go.Lib (index indexByte hasPrefix)

/-! ### The letters behind a backslash -/
def stands : List UInt8 := [10, 9, 13, 92, 39]
theorem byte_eq (d x : UInt8) : d = x ↔ ((d.toNat : Int) == (x.toNat : Int)) = true := by
  constructor
  · rintro rfl; simp
  · intro h
    have : (d.toNat : Int) = x.toNat := by simpa using h
    exact UInt8.toNat_inj.1 (by omega)
end Sp
end Go.Proofs.YtphdfbmmjkccgaaDoor

namespace Go.Proofs.YtphdfbmmjkccgaaDoor
open Go.RowKit

/-- A slice value whose elements, 'size' cells each, read as the rows xs. -/
def SlAt (w : World) (v : Value) (size : Nat) (xs : List (List Value)) : Prop :=
  (xs = [] ∧ ∃ a cap, v = .slice a 0 cap) ∨
  ∃ b off cap, v = .slice (some ⟨b, off, none⟩) xs.length cap ∧ b < w.heap.size ∧ ∀ i r, xs[i]? = some r → ∀ j u, r[j]? = some u → w.cell? ⟨b, off + i * size + j, none⟩ = some u
theorem SlAt.below {w w' : World} {v : Value} {size : Nat} {xs : List (List Value)} (h : SlAt w v size xs) (hb : Below w.heap.size w w') : SlAt w' v size xs := by
  rcases h with h | ⟨b, off, cap, rfl, hlt, hc⟩
  · exact .inl h
  · refine .inr ⟨b, off, cap, rfl, Nat.lt_of_lt_of_le hlt hb.size, fun i r hr j u hu => ?_⟩
    rw [hb.cell (p := ⟨b, _, none⟩) hlt]
    exact hc i r hr j u hu

def pieceC (p : Sp.Piece) : List Value := [.int .i64 p.kind, .string ⟨p.text.toArray⟩, .int .i64 p.n, .string ⟨p.tag.toArray⟩]

end Go.Proofs.YtphdfbmmjkccgaaDoor

namespace Go.Proofs.YtphdfbmmjkccgaaDoor
open Go.ChangeShapes Go.WideShapes Go.Deep Go.RowKit

theorem four {α : Type} (l : List α) (h : l.length = 4) : ∃ a b c d, l = [a, b, c, d] := by
  rcases l with _ | ⟨a, _ | ⟨b, _ | ⟨c, _ | ⟨d, _ | ⟨e, l⟩⟩⟩⟩⟩ <;> simp at h
  exact ⟨a, b, c, d, rfl⟩
end Go.Proofs.YtphdfbmmjkccgaaDoor

namespace Go.Proofs.YtphdfbmmjkccgaaDoor
open Go.RowKit

/-- append to a slice of the call's own, as one step of a region that draws its order. -/
theorem step_append_own {P : Program} {ops : Array Oper} {o : Oper} {a : Act} {w : World} {K : Act → World → Prop} {Q : Exit → Act → World → Prop} {E : Prop}
    (hg : o.guard = none) (s x : Operand) (t : TypeId) (hop : o.op = Op.call { callee := Callee.builtin Builtin.append, args := #[s, x], argTypes := #[t, t] })
    (base : Nat) (e : TypeId) (i : TypeInfo) (z : Value) (size bytes : Nat) (h1 : P.underlying t = some (.slice e)) (h2 : P.info? e = some i) (h3 : i.zero = some z) (h4 : i.size = size) (h5 : i.bytes = bytes) (h6 : z.cells.size = size) (h7 : 0 < size)
    (v : Value) (n : Nat) (xs : List Value) (hs : a.eval s = v) (hown : w.ownsRow base e size v n xs)
    (ad : Addr) (m c : Nat) (news : List Value) (hx : a.eval x = .slice (some ad) m c) (hn : news.length = m * size) (hc : ∀ j u, news[j]? = some u → w.cell? (ad.add j) = some u) (h1c : ∀ u ∈ news, u.oneCell' = true)
    (b1 : n + m ≤ maxLen) (b2 : (n + m) * bytes ≤ 140737488355328) (hbase : base ≤ w.heap.size)
    (hK : ∀ v' w', w'.ownsRow base e size v' (n + m) (xs ++ news) → w.grownBy w' v.ownBlock → K (a.put o.dst v') w') :
    if Region.wanted o (yielded ops a.tmps) = true then Oper.wp P o a w K Q else E := by
  have hw : Region.wanted o (yielded ops a.tmps) = true := by simp [Region.wanted, hg]
  rw [if_pos hw]
  exact wp_append_own w s x t hop base e i z size bytes h1 h2 h3 h4 h5 h6 h7 v n xs hs hown ad m c news hx hn hc h1c b1 b2 hbase fun v' w' ha hb _ => hK v' w' ha hb

/-- All blocks of the old world that S names read as before. -/
structure Kp (S : Nat → Prop) (w w' : World) : Prop where
  os : w'.os = w.os
  tape : w'.tape = w.tape
  output : w'.output = w.output
  size : w.heap.size ≤ w'.heap.size
  block : ∀ k, k < w.heap.size → S k → w'.heap[k]? = w.heap[k]?
theorem Kp.refl (S : Nat → Prop) (w : World) : Kp S w w := ⟨rfl, rfl, rfl, Nat.le_refl _, fun _ _ _ => rfl⟩
theorem Kp.trans {S : Nat → Prop} {a b c : World} (h : Kp S a b) (k : Kp S b c) : Kp S a c :=
  ⟨k.os.trans h.os, k.tape.trans h.tape, k.output.trans h.output, Nat.le_trans h.size k.size, fun i hi hs => (k.block i (Nat.lt_of_lt_of_le hi h.size) hs).trans (h.block i hi hs)⟩
theorem Kp.mono {S T : Nat → Prop} {w w' : World} (h : Kp S w w') (hs : ∀ k, k < w.heap.size → T k → S k) : Kp T w w' := ⟨h.os, h.tape, h.output, h.size, fun k hk ht => h.block k hk (hs k hk ht)⟩
theorem Kp.of_below {S : Nat → Prop} {B : Nat} {w w' : World} (h : Below B w w') (hs : ∀ k, k < w.heap.size → S k → k < B) : Kp S w w' := ⟨h.os, h.tape, h.output, h.size, fun k hk ht => h.block k (hs k hk ht)⟩
theorem Kp.alloc {S : Nat → Prop} {a w : World} (h : Kp S a w) (o : Obj) : Kp S a (w.alloc o) :=
  h.trans ⟨rfl, rfl, rfl, by simp, fun k hk _ => Below.heap_alloc _ _ _ hk⟩
theorem Kp.drew {S : Nat → Prop} {a w : World} (h : Kp S a w) : Kp S a w.drew := ⟨h.os, h.tape, h.output, h.size, h.block⟩
theorem Kp.drewN {S : Nat → Prop} {a w : World} (h : Kp S a w) (n : Nat) : Kp S a (w.drewN n) := ⟨h.os, h.tape, h.output, h.size, h.block⟩
theorem Kp.setCell {S : Nat → Prop} {a w : World} (h : Kp S a w) {p : Addr} (hp : ¬ S p.block) (u : Value) : Kp S a (w.setCell p u) :=
  h.trans ⟨rfl, rfl, rfl, by simp [World.setCell], fun k _ hs => Below.heap_setCell _ _ _ _ (fun e => hp (e ▸ hs))⟩
theorem Kp.grown {S : Nat → Prop} {a w w' : World} {row : Option Nat} (h : Kp S a w) (hg : w.grownBy w' row) (hr : ∀ k, row = some k → ¬ S k) : Kp S a w' :=
  h.trans ⟨hg.os, hg.tape, hg.output, hg.size, fun k hk hs => hg.block k hk (fun e => hr k e.symm hs)⟩
theorem Kp.below {S : Nat → Prop} {B : Nat} {w w' : World} (h : Kp S w w') (hB : B ≤ w.heap.size) (hs : ∀ k, k < B → S k) : Below B w w' := ⟨h.os, h.tape, h.output, h.size, fun k hk => h.block k (by omega) (hs k hk)⟩
theorem Kp.at {S : Nat → Prop} {w w' : World} (h : Kp S w w') {b : Nat} {o : Obj} (hb : w.heap[b]? = some o) (hs : S b) : w'.heap[b]? = some o := (h.block b (lt_at hb) hs).trans hb

theorem ownsRow_kp {S : Nat → Prop} {w w' : World} {base : Nat} {e : TypeId} {size : Nat} {v : Value} {n : Nat} {xs : List Value} (h : w.ownsRow base e size v n xs) (k : Kp S w w') (hs : ∀ b, v.ownBlock = some b → S b) : w'.ownsRow base e size v n xs := by
  refine ⟨h.1, ?_⟩
  rcases h.2 with hn | ⟨g, cap, cur, rfl, hb, hgg, rest⟩
  · exact .inl hn
  · exact .inr ⟨g, cap, cur, rfl, hb, k.at hgg (hs g rfl), rest⟩
theorem ownsRow_below {w w' : World} {base : Nat} {e : TypeId} {size : Nat} {v : Value} {n : Nat} {xs : List Value} (h : w.ownsRow base e size v n xs) (k : Below w.heap.size w w') : w'.ownsRow base e size v n xs :=
  ownsRow_kp (S := fun _ => True) h (Kp.of_below k fun _ h _ => h) (fun _ _ => trivial)
theorem ownsRow_mono {w : World} {base base' : Nat} {e : TypeId} {size : Nat} {v : Value} {n : Nat} {xs : List Value} (h : w.ownsRow base e size v n xs) (hb : base' ≤ base) : w.ownsRow base' e size v n xs := by
  refine ⟨h.1, ?_⟩
  rcases h.2 with hn | ⟨g, cap, cur, rfl, hbg, rest⟩
  · exact .inl hn
  · exact .inr ⟨g, cap, cur, rfl, by omega, rest⟩
/-- The row's own block is none of another element type. -/
theorem ownsRow_ne {w : World} {base : Nat} {e : TypeId} {size : Nat} {v : Value} {n : Nat} {xs : List Value} (h : w.ownsRow base e size v n xs) {b : Nat} {c : Array Value} {t : TypeId} {fr : Nat × Nat} (hb : w.heap[b]? = some (.cells c t fr)) (ht : t ≠ e) : ∀ k, v.ownBlock = some k → k ≠ b := by
  rintro k hk rfl
  rcases h.2 with ⟨rfl, _⟩ | ⟨g, cap, cur, rfl, _, hgg, _⟩
  · simp [Value.ownBlock] at hk
  · simp [Value.ownBlock] at hk
    subst hk
    rw [hgg] at hb
    simp at hb
    exact ht hb.2.1.symm
theorem new_cells (w : World) (cs : List Value) (t : TypeId) : ∀ j u, cs[j]? = some u → (w.alloc (.cells cs.toArray t)).cell? ((⟨w.heap.size, 0, none⟩ : Addr).add j) = some u := by
  intro j u h
  have : (⟨w.heap.size, 0, none⟩ : Addr).add j = ⟨w.heap.size, j, none⟩ := by unfold Addr.add; split <;> simp_all
  rw [this, cell_at (heap_last w _)]
  simpa using h
theorem own_form {w : World} {base size n : Nat} {e : TypeId} {v : Value} {xs : List Value} (h : w.ownsRow base e size v n xs) (hn : 0 < n) : ∃ g cap, v = .slice (some ⟨g, 0, none⟩) n cap := by
  rcases h.2 with ⟨_, h0⟩ | ⟨g, cap, _, hv, _⟩
  · omega
  · exact ⟨g, cap, hv⟩
/-- A store into a block of another element type leaves an owned row. -/
theorem ownsRow_setCell_ne {w : World} {base : Nat} {e : TypeId} {size : Nat} {v : Value} {n : Nat} {xs : List Value} (h : w.ownsRow base e size v n xs) {b i : Nat} {c : Array Value} {t : TypeId} {fr : Nat × Nat} (hb : w.heap[b]? = some (.cells c t fr)) (ht : t ≠ e) (u : Value) : (w.setCell ⟨b, i, none⟩ u).ownsRow base e size v n xs :=
  ownsRow_kp (S := fun k => k ≠ b) h ((Kp.refl _ _).setCell (by simp) _) (ownsRow_ne h hb ht)

end Go.Proofs.YtphdfbmmjkccgaaDoor

namespace Go.Proofs.YtphdfbmmjkccgaaDoor
open Go.RowKit

set_option maxHeartbeats 400000 in
theorem body_digit (c : UInt8) (w : World) :
    Calls Tryd.prog 76 #[.int .u8 (c.toNat : Int)] w fun e w' => e = .returned (.bool (Sp.digit c)) ∧ w = w' := by
  go_enter Tryd.func76, Tryd.ntmps76
  go_wp2
  all_goals go_ret
  all_goals exact ⟨ret_bool (Bool.eq_iff_iff.2 (by simp [Sp.digit]; omega)), rfl⟩

set_option maxHeartbeats 400000 in
theorem body_letter (c : UInt8) (w : World) :
    Calls Tryd.prog 82 #[.int .u8 (c.toNat : Int)] w fun e w' => e = .returned (.bool (Sp.letter c)) ∧ w = w' := by
  go_enter Tryd.func82, Tryd.ntmps82
  go_wp2
  all_goals go_ret
  all_goals exact ⟨ret_bool (Bool.eq_iff_iff.2 (by simp [Sp.letter]; omega)), rfl⟩

set_option maxHeartbeats 400000 in
theorem body_Run (s : ByteArray) (w : World) (hs : s.size < 4294967281) :
    Calls Tryd.prog 56 #[.string s] w fun e w' => e = .returned (.int .i64 (Sp.nameLen true s.data.toList : Nat)) ∧ w = w' := by

  generalize hN : Sp.nameLen true s.data.toList = N
  have HN := Lib.hid hN; clear hN
  go_enter Tryd.func56, Tryd.ntmps56
  go_wp2
  go_loop [3] (fun i => ∃ k : Nat, k ≤ s.size ∧ i = .int .i64 k ∧ k + Sp.nameLen (k == 0) (s.data.toList.drop k) = N) (fun i => s.size - (intOf i).toNat)
  case atStart => exact ⟨0, Nat.zero_le _, rfl, by simp [HN.out]⟩
  case round =>
    obtain ⟨k, hk, rfl, hi⟩ := hrel
    have HI := Lib.hid hi; clear hi
    by_cases hlt : k < s.size
    · have HD := Lib.hid (drop_at s k hlt)
      go_wp2_with (first
        | (go_at_call 82; refine (body_letter _ _).mono ?_; rintro e w' ⟨rfl, rfl⟩)
        | (go_at_call 76; refine (body_digit _ _).mono ?_; rintro e w' ⟨rfl, rfl⟩))
      all_goals (have hi := HI.out; rw [HD.out] at hi; clear HI HD HN; unfold Sp.nameLen at hi)
      all_goals first
        | (go_round
           case rel => go_light; exact ⟨k + 1, by omega, by go_num, by first | (simp_all; done) | (simp_all; omega) | (simp_all; split at hi <;> omega)⟩
           case measure => go_light; simp [intOf]; omega)
        | (go_ret; go_light; exact ⟨ret_int (by first | (simp_all; done) | (simp_all; omega) | (simp_all; split at hi <;> omega)), rfl⟩)
    · have HD := Lib.hid (drop_end s k hlt)
      go_wp2
      have hi := HI.out; rw [HD.out] at hi; clear HI HD HN; unfold Sp.nameLen at hi
      go_ret
      go_light
      exact ⟨ret_int (by first | (simp_all; done) | (simp_all; omega) | (simp_all; split at hi <;> omega)), rfl⟩
end Go.Proofs.YtphdfbmmjkccgaaDoor
