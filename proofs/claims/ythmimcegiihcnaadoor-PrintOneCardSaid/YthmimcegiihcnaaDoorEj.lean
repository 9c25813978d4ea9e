/- Plain law: two sources that may be have one text just if they are the same. No program in sight. -/
import Derived.Test.YthmimcegiihcnaaDoorDa
import Derived.Test.YthmimcegiihcnaaDoorSpZ
namespace Go.Proofs.YthmimcegiihcnaaDoor
namespace Sp
open Go.Lib (index indexByte hasPrefix)

/-! ### Words of a printed text -/
/-- A byte in quotes, an action, or what holds no blank. -/
def pw (w : List UInt8) : Prop := w ≠ [] ∧ ((∃ c, quoteText c = w) ∨ (w.head? = some 123 ∧ endLen w = some w.length) ∨ (w.head? ≠ some 39 ∧ w.head? ≠ some 123 ∧ ∀ c ∈ w, c ≠ 32 ∧ c ≠ 10))
def sepB (c : UInt8) : Prop := c = 32 ∨ c = 10
theorem plain_cancel : ∀ (w v : List UInt8) (c d : UInt8) (r s : List UInt8), (∀ x ∈ w, x ≠ 32 ∧ x ≠ 10) → (∀ x ∈ v, x ≠ 32 ∧ x ≠ 10) → sepB c → sepB d → w ++ c :: r = v ++ d :: s → w = v
  | [], [], _, _, _, _, _, _, _, _, _ => rfl
  | [], x :: v, c, d, r, s, _, hv, hc, _, h => by
    simp only [List.nil_append, List.cons_append, List.cons.injEq] at h
    have := hv x (by simp)
    rcases hc with hc | hc <;> (rw [← h.1, hc] at this; simp at this)
  | x :: w, [], c, d, r, s, hw, _, _, hd, h => by
    simp only [List.nil_append, List.cons_append, List.cons.injEq] at h
    have := hw x (by simp)
    rcases hd with hd | hd <;> (rw [h.1, hd] at this; simp at this)
  | x :: w, y :: v, c, d, r, s, hw, hv, hc, hd, h => by
    simp only [List.cons_append, List.cons.injEq] at h
    rw [h.1, plain_cancel w v c d r s (fun z hz => hw z (by simp [hz])) (fun z hz => hv z (by simp [hz])) hc hd h.2]
theorem head_of {w : List UInt8} (h : w ≠ []) (r : List UInt8) : (w ++ r).head? = w.head? := by
  cases w with
  | nil => exact absurd rfl h
  | cons => rfl
theorem quote_head {c : UInt8} (h : quoteText c ≠ []) : (quoteText c).head? = some 39 := by
  rcases quoteText_cases c with ⟨d, _, e⟩ | ⟨_, e⟩ | e
  · rw [e]; rfl
  · rw [e]; rfl
  · exact absurd e h
theorem quote_inj {a b : UInt8} (ha : quoteText a ≠ []) {r s : List UInt8} (hb : quoteText b ≠ []) (h : quoteText a ++ r = quoteText b ++ s) : a = b := by
  rcases quoteText_cases a with ⟨d, hd, e⟩ | ⟨hp, e⟩ | e
  · rcases quoteText_cases b with ⟨d', hd', e'⟩ | ⟨hp', e'⟩ | e'
    · rw [e, e'] at h
      simp only [List.cons_append, List.nil_append, List.cons.injEq] at h
      rw [h.2.2.1, hd'] at hd
      exact (Option.some.inj hd).symm
    · rw [e, e'] at h
      simp only [List.cons_append, List.nil_append, List.cons.injEq] at h
      rw [← h.2.1] at hp'
      exact absurd hp' (by decide)
    · exact absurd e' hb
  · rcases quoteText_cases b with ⟨d', hd', e'⟩ | ⟨hp', e'⟩ | e'
    · rw [e, e'] at h
      simp only [List.cons_append, List.nil_append, List.cons.injEq] at h
      rw [h.2.1] at hp
      exact absurd hp (by decide)
    · rw [e, e'] at h
      simp only [List.cons_append, List.nil_append, List.cons.injEq] at h
      exact h.2.1
    · exact absurd e' hb
  · exact absurd e ha
theorem pw_cancel {w v : List UInt8} {c d : UInt8} {r s : List UInt8} (hw : pw w) (hv : pw v) (hc : sepB c) (hd : sepB d) (h : w ++ c :: r = v ++ d :: s) : w = v := by
  obtain ⟨hw0, hw⟩ := hw
  obtain ⟨hv0, hv⟩ := hv
  have hh : w.head? = v.head? := by rw [← head_of hw0 (c :: r), h, head_of hv0]
  rcases hw with ⟨a, rfl⟩ | ⟨h1, h2⟩ | ⟨h1, h2, h3⟩
  · rcases hv with ⟨b, rfl⟩ | ⟨k1, k2⟩ | ⟨k1, k2, k3⟩
    · rw [quote_inj hw0 hv0 h]
    · rw [quote_head hw0, k1] at hh; simp at hh
    · rw [quote_head hw0] at hh; exact absurd hh.symm k1
  · rcases hv with ⟨b, rfl⟩ | ⟨k1, k2⟩ | ⟨k1, k2, k3⟩
    · rw [quote_head hv0, h1] at hh; simp at hh
    · have e1 := endLen_stable [] (c :: r) w hw0 (by rw [List.append_nil]; exact h2)
      have e2 := endLen_stable [] (d :: s) v hv0 (by rw [List.append_nil]; exact k2)
      rw [h, e2] at e1
      have hl : w.length = v.length := (Option.some.inj e1).symm
      exact (List.append_inj h hl).1
    · rw [h1] at hh; exact absurd hh.symm k2
  · rcases hv with ⟨b, rfl⟩ | ⟨k1, k2⟩ | ⟨k1, k2, k3⟩
    · rw [quote_head hv0] at hh; exact absurd hh h1
    · rw [k1] at hh; exact absurd hh h2
    · exact plain_cancel w v c d r s h3 k3 hc hd h
/-- A line: words with blanks between, then a line's end. -/
def lineT (ws : List (List UInt8)) : List UInt8 := joinSp ws ++ [10]
theorem line_cancel : ∀ (ws vs : List (List UInt8)) (r s : List UInt8), ws ≠ [] → vs ≠ [] → (∀ w ∈ ws, pw w) → (∀ v ∈ vs, pw v) → joinSp ws ++ 10 :: r = joinSp vs ++ 10 :: s → ws = vs ∧ r = s
  | [], _, _, _, h, _, _, _, _ => absurd rfl h
  | _ :: _, [], _, _, _, h, _, _, _ => absurd rfl h
  | [w], [v], r, s, _, _, hw, hv, h => by
    have e := pw_cancel (hw w (by simp)) (hv v (by simp)) (.inr rfl) (.inr rfl) h
    subst e
    have := List.append_cancel_left h
    simp at this
    exact ⟨rfl, this⟩
  | [w], v :: u :: l, r, s, _, _, hw, hv, h => by
    have h' : w ++ 10 :: r = v ++ 32 :: (joinSp (u :: l) ++ 10 :: s) := by
      have e1 : joinSp [w] ++ 10 :: r = w ++ 10 :: r := rfl
      rw [← e1, h]; simp [joinSp]
    have e := pw_cancel (hw w (by simp)) (hv v (by simp)) (.inr rfl) (.inl rfl) h'
    subst e
    have := List.append_cancel_left h'
    simp at this
  | w :: u :: l, [v], r, s, _, _, hw, hv, h => by
    have h' : w ++ 32 :: (joinSp (u :: l) ++ 10 :: r) = v ++ 10 :: s := by
      have e2 : joinSp [v] ++ 10 :: s = v ++ 10 :: s := rfl
      rw [← e2, ← h]; simp [joinSp]
    have e := pw_cancel (hw w (by simp)) (hv v (by simp)) (.inl rfl) (.inr rfl) h'
    subst e
    have := List.append_cancel_left h'
    simp at this
  | w :: u :: l, v :: x :: m, r, s, _, _, hw, hv, h => by
    have h' : w ++ 32 :: (joinSp (u :: l) ++ 10 :: r) = v ++ 32 :: (joinSp (x :: m) ++ 10 :: s) := by
      have e1 : joinSp (w :: u :: l) ++ 10 :: r = w ++ 32 :: (joinSp (u :: l) ++ 10 :: r) := by simp [joinSp]
      have e2 : joinSp (v :: x :: m) ++ 10 :: s = v ++ 32 :: (joinSp (x :: m) ++ 10 :: s) := by simp [joinSp]
      rw [← e1, ← e2, h]
    have e := pw_cancel (hw w (by simp)) (hv v (by simp)) (.inl rfl) (.inl rfl) h'
    subst e
    have h2 := List.append_cancel_left h'
    simp only [List.cons.injEq, true_and] at h2
    obtain ⟨h3, h4⟩ := line_cancel (u :: l) (x :: m) r s (by simp) (by simp) (fun z hz => hw z (by simp [hz])) (fun z hz => hv z (by simp [hz])) h2
    exact ⟨by rw [h3], h4⟩

/-! ### The words of symbols -/
theorem name_head {l : List UInt8} (h : isName l = true) : ∃ c t, l = c :: t ∧ letter c = true := by
  unfold isName at h
  simp only [Bool.and_eq_true, decide_eq_true_eq] at h
  cases l with
  | nil => simp at h
  | cons c t =>
    refine ⟨c, t, rfl, ?_⟩
    have h2 := h.2
    unfold nameLen at h2
    by_cases hc : letter c = true
    · exact hc
    · simp [hc] at h2
theorem nameLen_all : ∀ (b : Bool) (l : List UInt8), nameLen b l = l.length → ∀ c ∈ l, letter c = true ∨ digit c = true ∨ (c.toNat : Int) = 46
  | _, [], _, c, hc => by simp at hc
  | b, x :: t, h, c, hc => by
    unfold nameLen at h
    split at h
    · rename_i hx
      rcases List.mem_cons.1 hc with rfl | hc
      · simp only [Bool.or_eq_true, Bool.and_eq_true, beq_iff_eq] at hx
        rcases hx with hx | hx
        · exact .inl hx
        · exact .inr hx.2
      · exact nameLen_all false t (by simpa using h) c hc
    · simp at h
theorem letter_range {c : UInt8} (h : letter c = true) : 65 ≤ c.toNat ∧ c.toNat ≤ 122 := by
  unfold letter at h
  simp only [Bool.or_eq_true, Bool.and_eq_true, decide_eq_true_eq] at h
  omega
theorem digit_range {c : UInt8} (h : digit c = true) : 48 ≤ c.toNat ∧ c.toNat ≤ 57 := by
  unfold digit at h
  simp only [Bool.and_eq_true, decide_eq_true_eq] at h
  omega
theorem ne_of_nat {c : UInt8} {d : UInt8} (h : c.toNat ≠ d.toNat) : c ≠ d := fun e => h (by rw [e])
theorem isName_plain {l : List UInt8} (h : isName l = true) : ∀ c ∈ l, c ≠ 32 ∧ c ≠ 10 := by
  unfold isName at h
  simp only [Bool.and_eq_true, decide_eq_true_eq] at h
  intro c hc
  rcases nameLen_all true l h.2 c hc with k | k | k
  · have := letter_range k; exact ⟨ne_of_nat (by show c.toNat ≠ 32; omega), ne_of_nat (by show c.toNat ≠ 10; omega)⟩
  · have := digit_range k; exact ⟨ne_of_nat (by show c.toNat ≠ 32; omega), ne_of_nat (by show c.toNat ≠ 10; omega)⟩
  · exact ⟨ne_of_nat (by show c.toNat ≠ 32; omega), ne_of_nat (by show c.toNat ≠ 10; omega)⟩
theorem name_pw {l : List UInt8} (h : isName l = true) : pw l := by
  obtain ⟨c, t, rfl, hc⟩ := name_head h
  have hr := letter_range hc
  refine ⟨by simp, .inr (.inr ⟨?_, ?_, isName_plain h⟩)⟩
  · simp only [List.head?_cons, ne_eq, Option.some.injEq]; exact ne_of_nat (by show c.toNat ≠ 39; omega)
  · simp only [List.head?_cons, ne_eq, Option.some.injEq]; exact ne_of_nat (by show c.toNat ≠ 123; omega)
theorem quotable_form {l : List UInt8} (h : quotable l = true) : ∃ c, l = [c] ∧ quoteText c ≠ [] := by
  rcases l with _ | ⟨c, _ | ⟨d, l⟩⟩ <;> simp [quotable] at h ⊢
  exact h
theorem itoa_pos {n : Int} (h : 0 ≤ n) : Go.Lib.itoa n = Go.Lib.decDigits n.toNat := by unfold Go.Lib.itoa; rw [if_neg (by omega)]
theorem itoa_inj {n m : Int} (hn : 0 ≤ n) (hm : 0 ≤ m) (h : Go.Lib.itoa n = Go.Lib.itoa m) : n = m := by
  rw [itoa_pos hn, itoa_pos hm] at h
  have h1 := decFrom_dec n.toNat
  rw [h, decFrom_dec] at h1
  have := Option.some.inj h1
  omega
theorem itoa_head {n : Int} (h : 0 ≤ n) : ∃ c t, Go.Lib.itoa n = c :: t ∧ digit c = true := by
  rw [itoa_pos h]
  have h1 := decDigits_ne n.toNat
  have h2 := decDigits_digit n.toNat
  cases hd : Go.Lib.decDigits n.toNat with
  | nil => exact absurd hd h1
  | cons c t => exact ⟨c, t, rfl, h2 c (by rw [hd]; simp)⟩
theorem itoa_pw {n : Int} (h : 0 ≤ n) : pw (Go.Lib.itoa n) := by
  have h2 := decDigits_digit n.toNat
  rw [← itoa_pos h] at h2
  obtain ⟨c, t, e, hc⟩ := itoa_head h
  have hr := digit_range hc
  refine ⟨by rw [e]; simp, .inr (.inr ⟨?_, ?_, fun x hx => ?_⟩)⟩
  · rw [e]; simp only [List.head?_cons, ne_eq, Option.some.injEq]; exact ne_of_nat (by show c.toNat ≠ 39; omega)
  · rw [e]; simp only [List.head?_cons, ne_eq, Option.some.injEq]; exact ne_of_nat (by show c.toNat ≠ 123; omega)
  · have := digit_range (h2 x hx); exact ⟨ne_of_nat (by show x.toNat ≠ 32; omega), ne_of_nat (by show x.toNat ≠ 10; omega)⟩
/-- A symbol that may be, its number none or one. -/
def symOk (s : Sym) : Prop := isSym s = true ∧ (s.lit = true → s.num = 0) ∧ 0 ≤ s.num
/-- The first word of a symbol. -/
def word1 (s : Sym) : List UInt8 := if s.lit = true then quoteText (s.name.headD 0) else s.name
def numW (s : Sym) : List (List UInt8) := if s.num = 0 then [] else [Go.Lib.itoa s.num]
theorem symWords_eq {s : Sym} (h : symOk s) : symWords s = word1 s :: numW s := by
  unfold symWords word1 numW
  by_cases hl : s.lit = true
  · simp [hl, h.2.1 hl]
  · rw [if_neg hl, if_neg hl]
    split <;> rfl
theorem word1_pw {s : Sym} (h : isSym s = true) : pw (word1 s) ∧ (∃ c t, word1 s = c :: t ∧ (letter c = true ∨ c = 39)) := by
  unfold isSym at h
  unfold word1
  by_cases hl : s.lit = true
  · rw [if_pos hl] at h ⊢
    obtain ⟨c, e, hc⟩ := quotable_form h
    rw [e]
    show pw (quoteText c) ∧ _
    refine ⟨⟨hc, .inl ⟨c, rfl⟩⟩, ?_⟩
    have := quote_head hc
    show ∃ d t, quoteText c = d :: t ∧ _
    cases hq : quoteText c with
    | nil => exact absurd hq hc
    | cons d t => rw [hq] at this; exact ⟨d, t, rfl, .inr (by simpa using this)⟩
  · rw [if_neg hl] at h ⊢
    obtain ⟨c, t, e, hc⟩ := name_head h
    exact ⟨name_pw h, c, t, e, .inl hc⟩
theorem word1_inj {s t : Sym} (hs : isSym s = true) (ht : isSym t = true) (h : word1 s = word1 t) : s.name = t.name ∧ s.lit = t.lit := by
  unfold isSym at hs ht
  unfold word1 at h
  cases hl : s.lit <;> cases hk : t.lit <;> simp only [hl, hk, if_true, Bool.false_eq_true, if_false] at hs ht h
  · exact ⟨h, rfl⟩
  · obtain ⟨c, e, hc⟩ := quotable_form ht
    obtain ⟨d, u, e2, hd⟩ := name_head hs
    rw [e, e2] at h
    have h2 : (quoteText c).head? = some d := by rw [← show [c].headD 0 = c from rfl, ← h]; rfl
    rw [quote_head hc] at h2
    have := letter_range hd
    rw [← Option.some.inj h2] at this
    exact absurd this (by decide)
  · obtain ⟨c, e, hc⟩ := quotable_form hs
    obtain ⟨d, u, e2, hd⟩ := name_head ht
    rw [e, e2] at h
    have h2 : (quoteText c).head? = some d := by rw [← show [c].headD 0 = c from rfl, h]; rfl
    rw [quote_head hc] at h2
    have := letter_range hd
    rw [← Option.some.inj h2] at this
    exact absurd this (by decide)
  · obtain ⟨c, e, hc⟩ := quotable_form hs
    obtain ⟨d, e2, hd⟩ := quotable_form ht
    rw [e, e2] at h ⊢
    have h' : quoteText c ++ [] = quoteText d ++ [] := by rw [List.append_nil, List.append_nil]; exact h
    rw [quote_inj hc hd h']
    exact ⟨rfl, rfl⟩
/-- A word with which a symbol begins. -/
def symHead (w : List UInt8) : Prop := ∃ c t, w = c :: t ∧ (letter c = true ∨ c = 39)
theorem digit_not_sym {c : UInt8} (h : digit c = true) : ¬ (letter c = true ∨ c = 39) := by
  rintro (k | rfl)
  · have := letter_range k; have := digit_range h; omega
  · exact absurd h (by decide)
theorem sameSym_iff (a b : Sym) : sameSym a b = true ↔ a.name = b.name ∧ a.lit = b.lit ∧ a.num = b.num := by
  unfold sameSym
  simp only [Bool.and_eq_true, beq_iff_eq, and_assoc]
/-- Lists of symbols by their words. -/
theorem syms_inj : ∀ (l m : List Sym), (∀ s ∈ l, symOk s) → (∀ s ∈ m, symOk s) → l.flatMap symWords = m.flatMap symWords → all2 sameSym l m = true
  | [], [], _, _, _ => rfl
  | [], b :: m, _, hm, h => by
    rw [List.flatMap_nil, List.flatMap_cons, symWords_eq (hm b (by simp))] at h
    simp at h
  | a :: l, [], hl, _, h => by
    rw [List.flatMap_nil, List.flatMap_cons, symWords_eq (hl a (by simp))] at h
    simp at h
  | a :: l, b :: m, hl, hm, h => by
    have ha := hl a (by simp)
    have hb := hm b (by simp)
    rw [List.flatMap_cons, List.flatMap_cons, symWords_eq ha, symWords_eq hb] at h
    simp only [List.cons_append, List.cons.injEq] at h
    obtain ⟨h1, h2⟩ := h
    obtain ⟨e1, e2⟩ := word1_inj ha.1 hb.1 h1
    have key : ∀ (n : List Sym) (k : Int) (X : List (List UInt8)), (∀ s ∈ n, symOk s) → 0 ≤ k → n.flatMap symWords = [Go.Lib.itoa k] ++ X → False := by
      intro n k X hn hk hx
      obtain ⟨c, t, ec, hc⟩ := itoa_head hk
      cases n with
      | nil => simp at hx
      | cons s n =>
        rw [List.flatMap_cons, symWords_eq (hn s (by simp))] at hx
        simp only [List.cons_append, List.cons.injEq] at hx
        obtain ⟨_, c', t', ec', hc'⟩ := word1_pw (hn s (by simp)).1
        rw [ec, ec'] at hx
        simp only [List.cons.injEq] at hx
        rw [hx.1.1] at hc'
        exact digit_not_sym hc hc'
    have e3 : a.num = b.num ∧ l.flatMap symWords = m.flatMap symWords := by
      unfold numW at h2
      by_cases h3 : a.num = 0
      · by_cases h4 : b.num = 0
        · rw [if_pos h3, if_pos h4] at h2
          exact ⟨by rw [h3, h4], by simpa using h2⟩
        · rw [if_pos h3, if_neg h4] at h2
          exact (key l b.num _ (fun s hs => hl s (by simp [hs])) hb.2.2 (by simpa using h2)).elim
      · by_cases h4 : b.num = 0
        · rw [if_neg h3, if_pos h4] at h2
          exact (key m a.num _ (fun s hs => hm s (by simp [hs])) ha.2.2 (by simpa using h2.symm)).elim
        · rw [if_neg h3, if_neg h4] at h2
          simp only [List.cons_append, List.nil_append, List.cons.injEq] at h2
          exact ⟨itoa_inj ha.2.2 hb.2.2 h2.1, h2.2⟩
    show (sameSym a b && all2 sameSym l m) = true
    rw [Bool.and_eq_true, sameSym_iff]
    exact ⟨⟨e1, e2, e3.1⟩, syms_inj l m (fun s hs => hl s (by simp [hs])) (fun s hs => hm s (by simp [hs])) e3.2⟩

/-! ### Declarations -/
theorem maySym_ok {k : Int} {s : Sym} (h : maySym k s = true) : symOk s := by
  unfold maySym at h
  split at h
  · simp at h
  · rename_i h1
    split at h
    · simp at h
    · rename_i h2
      refine ⟨?_, fun hl => ?_, ?_⟩
      · by_cases hs : isSym s = true
        · exact hs
        · exact absurd (.inl (by simpa using hs)) h1
      · by_cases hn : s.num = 0
        · exact hn
        · exact absurd ⟨hn, .inr (.inl hl)⟩ h2
      · by_cases hn : s.num = 0
        · omega
        · by_cases h0 : s.num < 1
          · exact absurd ⟨hn, .inr (.inr (.inl h0))⟩ h2
          · omega
theorem mayDecl_ok {d : Decl} (h : mayDecl d = true) : 1 ≤ d.kind ∧ d.kind ≤ 6 ∧ d.syms ≠ [] ∧ (d.tag ≠ [] → isName d.tag = true) ∧ ∀ s ∈ d.syms, symOk s := by
  unfold mayDecl at h
  split at h
  · simp at h
  · rename_i h1
    split at h
    · simp at h
    · rename_i h2
      split at h
      · simp at h
      · rename_i h3
        refine ⟨by omega, by omega, ?_, ?_, ?_⟩
        · intro e; exact h1 (.inr (.inr (by rw [e]; rfl)))
        · intro ht
          by_cases h6 : d.kind = 6
          · exact absurd ⟨h6, .inl ht⟩ h2
          · by_cases hn : isName d.tag = true
            · exact hn
            · exact absurd ⟨⟨h6, .inl ht⟩, by simpa using hn⟩ h3
        · intro s hs
          exact maySym_ok (List.all_eq_true.1 h s hs)
theorem keys_inj : ∀ i j : Fin 6, keys.getD i.val [] = keys.getD j.val [] → i = j := by decide
theorem keys_ok : ∀ i : Fin 6, ∃ c t, keys.getD i.val [] = 37 :: c :: t ∧ c ≠ 37 ∧ c ≠ 123 ∧ (∀ x ∈ keys.getD i.val [], x ≠ 32 ∧ x ≠ 10) := by
  intro i
  match i with
  | 0 => exact ⟨116, [111, 107, 101, 110], rfl, by decide, by decide, by decide⟩
  | 1 => exact ⟨108, [101, 102, 116], rfl, by decide, by decide, by decide⟩
  | 2 => exact ⟨114, [105, 103, 104, 116], rfl, by decide, by decide, by decide⟩
  | 3 => exact ⟨110, [111, 110, 97, 115, 115, 111, 99], rfl, by decide, by decide, by decide⟩
  | 4 => exact ⟨116, [121, 112, 101], rfl, by decide, by decide, by decide⟩
  | 5 => exact ⟨115, [116, 97, 114, 116], rfl, by decide, by decide, by decide⟩
def tagW (d : Decl) : List (List UInt8) := if d.tag = [] then [] else [60 :: (d.tag ++ [62])]
theorem declWords_eq (d : Decl) : declWords d = keys.getD (d.kind - 1).toNat [] :: (tagW d ++ d.syms.flatMap symWords) := by
  unfold declWords tagW; simp
theorem symWords_pw {s : Sym} (h : symOk s) : ∀ w ∈ symWords s, pw w := by
  rw [symWords_eq h]
  intro w hw
  rcases List.mem_cons.1 hw with rfl | hw
  · exact (word1_pw h.1).1
  · unfold numW at hw
    split at hw
    · simp at hw
    · rw [List.mem_singleton] at hw
      rw [hw]; exact itoa_pw h.2.2
theorem declWords_pw {d : Decl} (h : mayDecl d = true) : ∀ w ∈ declWords d, pw w := by
  obtain ⟨h1, h2, _, h4, h5⟩ := mayDecl_ok h
  rw [declWords_eq]
  intro w hw
  rcases List.mem_cons.1 hw with rfl | hw
  · obtain ⟨c, t, e, h6, h7, h8⟩ := keys_ok ⟨(d.kind - 1).toNat, by omega⟩
    simp only at e h8
    refine ⟨by rw [e]; simp, .inr (.inr ⟨by rw [e]; simp, by rw [e]; simp, h8⟩)⟩
  · rcases List.mem_append.1 hw with hw | hw
    · unfold tagW at hw
      split at hw
      · simp at hw
      · rename_i ht
        rw [List.mem_singleton] at hw
        rw [hw]
        refine ⟨by simp, .inr (.inr ⟨by simp, by simp, ?_⟩)⟩
        intro x hx
        rcases List.mem_cons.1 hx with rfl | hx
        · decide
        · rcases List.mem_append.1 hx with hx | hx
          · exact isName_plain (h4 ht) x hx
          · rw [List.mem_singleton] at hx; rw [hx]; decide
    · obtain ⟨s, hs, hw⟩ := List.mem_flatMap.1 hw
      exact symWords_pw (h5 s hs) w hw
theorem decl_inj {a b : Decl} (ha : mayDecl a = true) (hb : mayDecl b = true) (h : declWords a = declWords b) : sameDecl a b = true := by
  obtain ⟨a1, a2, a3, a4, a5⟩ := mayDecl_ok ha
  obtain ⟨b1, b2, b3, b4, b5⟩ := mayDecl_ok hb
  rw [declWords_eq, declWords_eq] at h
  simp only [List.cons.injEq] at h
  obtain ⟨h1, h2⟩ := h
  have hk : a.kind = b.kind := by
    have := keys_inj ⟨(a.kind - 1).toNat, by omega⟩ ⟨(b.kind - 1).toNat, by omega⟩ h1
    simp only [Fin.mk.injEq] at this
    omega
  have no60 : ∀ (l : List Sym) (X : List UInt8) (Y : List (List UInt8)), (∀ s ∈ l, symOk s) → l.flatMap symWords = (60 :: X) :: Y → False := by
    intro l X Y hl hx
    cases l with
    | nil => simp at hx
    | cons s l =>
      rw [List.flatMap_cons, symWords_eq (hl s (by simp))] at hx
      simp only [List.cons_append, List.cons.injEq] at hx
      obtain ⟨_, c, t, ec, hc⟩ := word1_pw (hl s (by simp)).1
      rw [ec] at hx
      simp only [List.cons.injEq] at hx
      rw [hx.1.1] at hc
      rcases hc with hc | hc
      · exact absurd hc (by decide)
      · exact absurd hc (by decide)
  have ht : a.tag = b.tag ∧ a.syms.flatMap symWords = b.syms.flatMap symWords := by
    unfold tagW at h2
    by_cases t1 : a.tag = []
    · by_cases t2 : b.tag = []
      · rw [if_pos t1, if_pos t2] at h2
        exact ⟨by rw [t1, t2], by simpa using h2⟩
      · rw [if_pos t1, if_neg t2] at h2
        exact (no60 a.syms _ _ a5 (by simpa using h2)).elim
    · by_cases t2 : b.tag = []
      · rw [if_neg t1, if_pos t2] at h2
        exact (no60 b.syms _ _ b5 (by simpa using h2.symm)).elim
      · rw [if_neg t1, if_neg t2] at h2
        simp only [List.cons_append, List.nil_append, List.cons.injEq, true_and] at h2
        exact ⟨List.append_cancel_right h2.1, h2.2⟩
  unfold sameDecl
  simp only [Bool.and_eq_true, beq_iff_eq]
  exact ⟨⟨hk, ht.1⟩, syms_inj _ _ a5 b5 ht.2⟩

/-! ### Rules -/
def partW (p : Part) : List UInt8 := if p.code = [] then word1 p.sym else p.code
theorem bare_ok {s : Sym} (h : isBare s = true) : symOk s ∧ s.num = 0 := by
  unfold isBare at h
  simp only [Bool.and_eq_true, beq_iff_eq] at h
  exact ⟨⟨h.1, fun _ => h.2, by omega⟩, h.2⟩
theorem partWords_eq {p : Part} (h : mayPart p = true) : partWords p = [partW p] := by
  unfold mayPart at h
  unfold partWords partW
  split
  · rename_i hc
    rw [if_pos hc] at h
    obtain ⟨h1, h2⟩ := bare_ok h
    rw [symWords_eq h1]; unfold numW; rw [if_pos h2]
  · rfl
theorem code_ok {l : List UInt8} (hl : l ≠ []) (h : endAt l 0 = (l.length : Int)) : l.head? = some 123 ∧ endLen l = some l.length := by
  unfold endAt at h
  have h0 : (0 : Int) ≤ 0 ∧ (0 : Int) < (l.length : Int) := by
    have := List.length_pos_iff.2 hl; omega
  rw [if_pos h0] at h
  simp only [Int.toNat_zero, List.drop_zero] at h
  have he : endLen l = some l.length := by
    cases hk : endLen l with
    | none => rw [hk] at h; simp [place] at h
    | some n =>
      rw [hk] at h
      simp only [place, Nat.zero_add] at h
      have : n = l.length := by omega
      rw [this]
  refine ⟨?_, he⟩
  cases l with
  | nil => exact absurd rfl hl
  | cons c t =>
    unfold endLen at he
    simp only at he
    split at he
    · rename_i hc
      have : c = 123 := UInt8.toNat_inj.1 (by have : (c.toNat : Int) = 123 := by simpa using hc
                                              show c.toNat = 123; omega)
      rw [this]; rfl
    · simp at he
theorem part_code {p : Part} (h : mayPart p = true) (hc : p.code ≠ []) : isNone p.sym = true ∧ p.code.head? = some 123 ∧ endLen p.code = some p.code.length := by
  unfold mayPart at h
  rw [if_neg hc] at h
  simp only [Bool.and_eq_true, decide_eq_true_eq] at h
  exact ⟨h.1, code_ok hc h.2⟩
theorem part_sym {p : Part} (h : mayPart p = true) (hc : p.code = []) : symOk p.sym ∧ p.sym.num = 0 := by
  unfold mayPart at h
  rw [if_pos hc] at h
  exact bare_ok h
/-- A word that a part has: it begins as a symbol does, or an action. -/
theorem partW_pw {p : Part} (h : mayPart p = true) : pw (partW p) ∧ ∃ c t, partW p = c :: t ∧ (letter c = true ∨ c = 39 ∨ c = 123) := by
  unfold partW
  by_cases hc : p.code = []
  · rw [if_pos hc]
    obtain ⟨h1, c, t, e, h2⟩ := word1_pw (part_sym h hc).1.1
    exact ⟨h1, c, t, e, h2.elim .inl (fun k => .inr (.inl k))⟩
  · rw [if_neg hc]
    obtain ⟨_, h2, h3⟩ := part_code h hc
    refine ⟨⟨hc, .inr (.inl ⟨h2, h3⟩)⟩, ?_⟩
    cases hk : p.code with
    | nil => exact absurd hk hc
    | cons c t => rw [hk] at h2; exact ⟨c, t, rfl, .inr (.inr (by simpa using h2))⟩
theorem none_iff {s : Sym} : isNone s = true ↔ s.name = [] ∧ s.lit = false ∧ s.num = 0 := by
  unfold isNone
  simp only [Bool.and_eq_true, beq_iff_eq, List.isEmpty_iff, Bool.not_eq_true']
  exact and_assoc
theorem none_same {a b : Sym} (ha : isNone a = true) (hb : isNone b = true) : sameSym a b = true := by
  rw [none_iff] at ha hb
  rw [sameSym_iff]
  exact ⟨by rw [ha.1, hb.1], by rw [ha.2.1, hb.2.1], by rw [ha.2.2, hb.2.2]⟩
theorem letter_not {c : UInt8} (h : letter c = true ∨ c = 39) : c ≠ 123 ∧ c ≠ 37 ∧ c ≠ 58 ∧ c ≠ 59 ∧ c ≠ 124 := by
  rcases h with h | rfl
  · have h1 : letter 123 = false := by decide
    have h2 : letter 37 = false := by decide
    have h3 : letter 58 = false := by decide
    have h4 : letter 59 = false := by decide
    have h5 : letter 124 = false := by decide
    refine ⟨?_, ?_, ?_, ?_, ?_⟩ <;> (rintro rfl; simp_all)
  · decide
theorem part_inj {p q : Part} (hp : mayPart p = true) (hq : mayPart q = true) (h : partW p = partW q) : samePart p q = true := by
  unfold samePart
  rw [Bool.and_eq_true, beq_iff_eq]
  unfold partW at h
  by_cases c1 : p.code = []
  · by_cases c2 : q.code = []
    · rw [if_pos c1, if_pos c2] at h
      obtain ⟨p1, p2⟩ := part_sym hp c1
      obtain ⟨q1, q2⟩ := part_sym hq c2
      obtain ⟨e1, e2⟩ := word1_inj p1.1 q1.1 h
      exact ⟨(sameSym_iff _ _).2 ⟨e1, e2, by rw [p2, q2]⟩, by rw [c1, c2]⟩
    · rw [if_pos c1, if_neg c2] at h
      obtain ⟨_, c, t, e, h2⟩ := word1_pw (part_sym hp c1).1.1
      have h3 := (part_code hq c2).2.1
      rw [← h, e] at h3
      exact absurd (by simpa using h3) (letter_not h2).1
  · by_cases c2 : q.code = []
    · rw [if_neg c1, if_pos c2] at h
      obtain ⟨_, c, t, e, h2⟩ := word1_pw (part_sym hq c2).1.1
      have h3 := (part_code hp c1).2.1
      rw [h, e] at h3
      exact absurd (by simpa using h3) (letter_not h2).1
    · rw [if_neg c1, if_neg c2] at h
      exact ⟨none_same (part_code hp c1).1 (part_code hq c2).1, h⟩
/-- What stands behind an alternative's parts: it begins with a %, a | or a ;. -/
def stopW (x : List (List UInt8)) : Prop := ∃ c t y, x = (c :: t) :: y ∧ (c = 37 ∨ c = 124 ∨ c = 59)
theorem stop_not {c : UInt8} (h : c = 37 ∨ c = 124 ∨ c = 59) (k : letter c = true ∨ c = 39 ∨ c = 123) : False := by
  have h2 : letter 37 = false := by decide
  have h4 : letter 59 = false := by decide
  have h5 : letter 124 = false := by decide
  rcases h with rfl | rfl | rfl <;> rcases k with k | k | k <;> simp_all
theorem parts_inj : ∀ (l m : List Part) (x y : List (List UInt8)), (∀ p ∈ l, mayPart p = true) → (∀ p ∈ m, mayPart p = true) → stopW x → stopW y → l.flatMap partWords ++ x = m.flatMap partWords ++ y → all2 samePart l m = true ∧ x = y
  | [], [], x, y, _, _, _, _, h => ⟨rfl, by simpa using h⟩
  | [], q :: m, x, y, _, hm, ⟨c, t, z, ex, hc⟩, _, h => by
    rw [List.flatMap_nil, List.flatMap_cons, partWords_eq (hm q (by simp)), ex] at h
    obtain ⟨_, c', t', e, hc'⟩ := partW_pw (hm q (by simp))
    rw [e] at h
    simp only [List.nil_append, List.cons_append, List.cons.injEq] at h
    rw [← h.1.1] at hc'
    exact (stop_not hc hc').elim
  | p :: l, [], x, y, hl, _, _, ⟨c, t, z, ey, hc⟩, h => by
    rw [List.flatMap_nil, List.flatMap_cons, partWords_eq (hl p (by simp)), ey] at h
    obtain ⟨_, c', t', e, hc'⟩ := partW_pw (hl p (by simp))
    rw [e] at h
    simp only [List.nil_append, List.cons_append, List.cons.injEq] at h
    rw [h.1.1] at hc'
    exact (stop_not hc hc').elim
  | p :: l, q :: m, x, y, hl, hm, hx, hy, h => by
    have hp := hl p (by simp)
    have hq := hm q (by simp)
    rw [List.flatMap_cons, List.flatMap_cons, partWords_eq hp, partWords_eq hq] at h
    simp only [List.cons_append, List.nil_append, List.cons.injEq] at h
    obtain ⟨h1, h2⟩ := parts_inj l m x y (fun s hs => hl s (by simp [hs])) (fun s hs => hm s (by simp [hs])) hx hy h.2
    refine ⟨?_, h2⟩
    show (samePart p q && all2 samePart l m) = true
    rw [Bool.and_eq_true]
    exact ⟨part_inj hp hq h.1, h1⟩
theorem mayAlt_ok {a : Alt} (h : mayAlt a = true) : (isNone a.prec = true ∨ isBare a.prec = true) ∧ ∀ p ∈ a.parts, mayPart p = true := by
  unfold mayAlt at h
  simp only [Bool.and_eq_true, Bool.or_eq_true] at h
  exact ⟨h.1, fun p hp => List.all_eq_true.1 h.2 p hp⟩
def precW (a : Alt) : List (List UInt8) := if isNone a.prec = true then [] else [37, 112, 114, 101, 99] :: symWords a.prec
theorem altWords_eq (a : Alt) : altWords a = a.parts.flatMap partWords ++ precW a := rfl
/-- A list of words that begins with | or ;. -/
def endW (x : List (List UInt8)) : Prop := ∃ c t y, x = (c :: t) :: y ∧ (c = 124 ∨ c = 59)
theorem prec_stop (a : Alt) {x : List (List UInt8)} (h : endW x) : stopW (precW a ++ x) := by
  unfold precW
  obtain ⟨c, t, y, rfl, hc⟩ := h
  split
  · exact ⟨c, t, y, rfl, .inr hc⟩
  · exact ⟨37, _, _, rfl, .inl rfl⟩
theorem alt_inj {a b : Alt} {x y : List (List UInt8)} (ha : mayAlt a = true) (hb : mayAlt b = true) (hx : endW x) (hy : endW y) (h : altWords a ++ x = altWords b ++ y) : sameAlt a b = true ∧ x = y := by
  obtain ⟨a1, a2⟩ := mayAlt_ok ha
  obtain ⟨b1, b2⟩ := mayAlt_ok hb
  rw [altWords_eq, altWords_eq, List.append_assoc, List.append_assoc] at h
  obtain ⟨h1, h2⟩ := parts_inj _ _ _ _ a2 b2 (prec_stop a hx) (prec_stop b hy) h
  unfold sameAlt
  rw [Bool.and_eq_true]
  unfold precW at h2
  obtain ⟨c, t, x', ex, hc⟩ := hx
  obtain ⟨d, u, y', ey, hd⟩ := hy
  by_cases n1 : isNone a.prec = true
  · by_cases n2 : isNone b.prec = true
    · rw [if_pos n1, if_pos n2] at h2
      exact ⟨⟨none_same n1 n2, h1⟩, by simpa using h2⟩
    · rw [if_pos n1, if_neg n2, ex] at h2
      simp only [List.nil_append, List.cons_append, List.cons.injEq] at h2
      rcases hc with rfl | rfl <;> exact absurd h2.1.1 (by decide)
  · by_cases n2 : isNone b.prec = true
    · rw [if_neg n1, if_pos n2, ey] at h2
      simp only [List.nil_append, List.cons_append, List.cons.injEq] at h2
      rcases hd with rfl | rfl <;> exact absurd h2.1.1 (by decide)
    · rw [if_neg n1, if_neg n2] at h2
      obtain ⟨p1, p2⟩ := bare_ok (a1.resolve_left n1)
      obtain ⟨q1, q2⟩ := bare_ok (b1.resolve_left n2)
      rw [symWords_eq p1, symWords_eq q1] at h2
      unfold numW at h2
      rw [if_pos p2, if_pos q2] at h2
      simp only [List.cons_append, List.nil_append, List.cons.injEq, true_and] at h2
      obtain ⟨e1, e2⟩ := word1_inj p1.1 q1.1 h2.1
      exact ⟨⟨(sameSym_iff _ _).2 ⟨e1, e2, by rw [p2, q2]⟩, h1⟩, h2.2⟩
theorem alts_end : ∀ (k : Nat) (l : List Alt), 0 < k → endW (altsWords k l ++ [[59]])
  | k, [], _ => ⟨59, [], [], rfl, .inr rfl⟩
  | k, a :: l, hk => by
    unfold altsWords
    rw [if_neg (by omega)]
    exact ⟨124, [], _, rfl, .inl rfl⟩
theorem alts_inj : ∀ (k : Nat) (l m : List Alt), (∀ a ∈ l, mayAlt a = true) → (∀ a ∈ m, mayAlt a = true) → altsWords k l ++ [[59]] = altsWords k m ++ [[59]] → all2 sameAlt l m = true
  | _, [], [], _, _, _ => rfl
  | k, [], b :: m, _, hm, h => by
    unfold altsWords at h
    split at h <;> simp at h
  | k, a :: l, [], hl, _, h => by
    unfold altsWords at h
    split at h <;> simp at h
  | k, a :: l, b :: m, hl, hm, h => by
    unfold altsWords at h
    simp only [List.cons_append, List.cons.injEq, true_and, List.append_assoc] at h
    obtain ⟨h1, h2⟩ := alt_inj (hl a (by simp)) (hm b (by simp)) (alts_end (k + 1) l (by omega)) (alts_end (k + 1) m (by omega)) h
    show (sameAlt a b && all2 sameAlt l m) = true
    rw [Bool.and_eq_true]
    exact ⟨h1, alts_inj (k + 1) l m (fun s hs => hl s (by simp [hs])) (fun s hs => hm s (by simp [hs])) h2⟩
theorem mayRule_ok {r : Rule} (h : mayRule r = true) : isName r.left = true ∧ ∀ a ∈ r.alts, mayAlt a = true := by
  unfold mayRule at h
  simp only [Bool.and_eq_true] at h
  exact ⟨h.1.1, fun a ha => List.all_eq_true.1 h.2 a ha⟩
theorem mark_pw (c : UInt8) (h : c = 58 ∨ c = 59 ∨ c = 124) : pw [c] := by
  refine ⟨by simp, .inr (.inr ?_)⟩
  rcases h with rfl | rfl | rfl <;> decide
theorem altWords_pw {a : Alt} (h : mayAlt a = true) : ∀ w ∈ altWords a, pw w := by
  obtain ⟨h1, h2⟩ := mayAlt_ok h
  rw [altWords_eq]
  intro w hw
  rcases List.mem_append.1 hw with hw | hw
  · obtain ⟨p, hp, hw⟩ := List.mem_flatMap.1 hw
    rw [partWords_eq (h2 p hp), List.mem_singleton] at hw
    rw [hw]; exact (partW_pw (h2 p hp)).1
  · unfold precW at hw
    split at hw
    · simp at hw
    · rename_i hn
      rcases List.mem_cons.1 hw with rfl | hw
      · exact ⟨by simp, .inr (.inr (by decide))⟩
      · exact symWords_pw (bare_ok (h1.resolve_left hn)).1 w hw
theorem altsWords_pw : ∀ (k : Nat) (l : List Alt), (∀ a ∈ l, mayAlt a = true) → ∀ w ∈ altsWords k l, pw w
  | _, [], _, w, hw => by simp [altsWords] at hw
  | k, a :: l, h, w, hw => by
    unfold altsWords at hw
    rcases List.mem_append.1 hw with hw | hw
    · rcases List.mem_cons.1 hw with rfl | hw
      · split
        · exact mark_pw 58 (.inl rfl)
        · exact mark_pw 124 (.inr (.inr rfl))
      · exact altWords_pw (h a (by simp)) w hw
    · exact altsWords_pw (k + 1) l (fun s hs => h s (by simp [hs])) w hw
theorem ruleWords_pw {r : Rule} (h : mayRule r = true) : ∀ w ∈ ruleWords r, pw w := by
  obtain ⟨h1, h2⟩ := mayRule_ok h
  unfold ruleWords
  intro w hw
  rcases List.mem_cons.1 hw with rfl | hw
  · exact name_pw h1
  · rcases List.mem_append.1 hw with hw | hw
    · exact altsWords_pw 0 _ h2 w hw
    · rw [List.mem_singleton] at hw; rw [hw]; exact mark_pw 59 (.inr (.inl rfl))
theorem rule_inj {a b : Rule} (ha : mayRule a = true) (hb : mayRule b = true) (h : ruleWords a = ruleWords b) : sameRule a b = true := by
  obtain ⟨a1, a2⟩ := mayRule_ok ha
  obtain ⟨b1, b2⟩ := mayRule_ok hb
  unfold ruleWords at h
  simp only [List.cons.injEq] at h
  unfold sameRule
  simp only [Bool.and_eq_true, beq_iff_eq]
  exact ⟨h.1, alts_inj 0 _ _ a2 b2 h.2⟩

/-! ### Whole texts -/
theorem words_ne_d (d : Decl) : declWords d ≠ [] := by rw [declWords_eq]; simp
theorem words_ne_r (r : Rule) : ruleWords r ≠ [] := by unfold ruleWords; simp
theorem mark_line (r : List UInt8) : [37, 37, 10] ++ r = joinSp [[37, 37]] ++ 10 :: r := rfl
theorem mark2_pw : ∀ w ∈ [[(37 : UInt8), 37]], pw w := by
  intro w hw
  rw [List.mem_singleton] at hw
  rw [hw]
  exact ⟨by simp, .inr (.inr (by decide))⟩
theorem decl_not_mark {d : Decl} (h : mayDecl d = true) : [[(37 : UInt8), 37]] ≠ declWords d := by
  obtain ⟨h1, h2, _⟩ := mayDecl_ok h
  obtain ⟨c, t, e, hc, _⟩ := keys_ok ⟨(d.kind - 1).toNat, by omega⟩
  simp only at e
  rw [declWords_eq, e]
  intro h
  simp only [List.cons.injEq, true_and] at h
  exact hc h.1.1.symm
theorem decls_inj : ∀ (l m : List Decl) (r s : List UInt8), (∀ d ∈ l, mayDecl d = true) → (∀ d ∈ m, mayDecl d = true) →
    l.flatMap (fun d => joinSp (declWords d) ++ [10]) ++ ([37, 37, 10] ++ r) = m.flatMap (fun d => joinSp (declWords d) ++ [10]) ++ ([37, 37, 10] ++ s) → all2 sameDecl l m = true ∧ r = s
  | [], [], r, s, _, _, h => ⟨rfl, by simpa using h⟩
  | [], b :: m, r, s, _, hm, h => by
    rw [mark_line, List.flatMap_nil, List.nil_append, List.flatMap_cons, List.append_assoc, List.append_assoc] at h
    have := line_cancel _ _ _ _ (by simp) (words_ne_d b) mark2_pw (declWords_pw (hm b (by simp))) h
    exact absurd this.1 (decl_not_mark (hm b (by simp)))
  | a :: l, [], r, s, hl, _, h => by
    rw [mark_line s, List.flatMap_nil, List.nil_append, List.flatMap_cons, List.append_assoc, List.append_assoc] at h
    have := line_cancel _ _ _ _ (by simp) (words_ne_d a) mark2_pw (declWords_pw (hl a (by simp))) h.symm
    exact absurd this.1 (decl_not_mark (hl a (by simp)))
  | a :: l, b :: m, r, s, hl, hm, h => by
    rw [List.flatMap_cons, List.flatMap_cons, List.append_assoc, List.append_assoc, List.append_assoc, List.append_assoc] at h
    obtain ⟨h1, h2⟩ := line_cancel _ _ _ _ (words_ne_d a) (words_ne_d b) (declWords_pw (hl a (by simp))) (declWords_pw (hm b (by simp))) h
    obtain ⟨h3, h4⟩ := decls_inj l m r s (fun s hs => hl s (by simp [hs])) (fun s hs => hm s (by simp [hs])) h2
    refine ⟨?_, h4⟩
    show (sameDecl a b && all2 sameDecl l m) = true
    rw [Bool.and_eq_true]
    exact ⟨decl_inj (hl a (by simp)) (hm b (by simp)) h1, h3⟩
/-- What stands behind the rules. -/
def tailT (l : List UInt8) : List UInt8 := if l = [] then [] else 37 :: 37 :: l
theorem rule_line (r : Rule) (h : mayRule r = true) (x : List UInt8) : ∃ c t, joinSp (ruleWords r) ++ x = c :: t ∧ c ≠ 37 := by
  obtain ⟨h1, _⟩ := mayRule_ok h
  obtain ⟨c, t, e, hc⟩ := name_head h1
  have hj : ∀ (w : List UInt8) (ws : List (List UInt8)), w = c :: t → ∃ u, joinSp (w :: ws) = c :: u := by
    intro w ws hw
    cases ws with
    | nil => exact ⟨t, by rw [hw]; rfl⟩
    | cons v l => exact ⟨_, by rw [hw]; rfl⟩
  obtain ⟨u, hu⟩ := hj r.left _ e
  exact ⟨c, u ++ x, by unfold ruleWords; rw [hu]; rfl, (letter_not (.inl hc)).2.1⟩
theorem rules_inj : ∀ (l m : List Rule) (r s : List UInt8), (∀ d ∈ l, mayRule d = true) → (∀ d ∈ m, mayRule d = true) →
    l.flatMap (fun d => joinSp (ruleWords d) ++ [10]) ++ tailT r = m.flatMap (fun d => joinSp (ruleWords d) ++ [10]) ++ tailT s → all2 sameRule l m = true ∧ r = s
  | [], [], r, s, _, _, h => by
    simp only [List.flatMap_nil, List.nil_append] at h
    unfold tailT at h
    refine ⟨rfl, ?_⟩
    split at h <;> split at h
    · rename_i h1 h2; rw [h1, h2]
    · simp at h
    · simp at h
    · simpa using h
  | [], b :: m, r, s, _, hm, h => by
    rw [List.flatMap_nil, List.nil_append, List.flatMap_cons, List.append_assoc, List.append_assoc] at h
    obtain ⟨c, t, e, hc⟩ := rule_line b (hm b (by simp)) ([10] ++ (m.flatMap (fun d => joinSp (ruleWords d) ++ [10]) ++ tailT s))
    rw [e] at h
    unfold tailT at h
    split at h
    · simp at h
    · simp only [List.cons.injEq] at h; exact absurd h.1.symm hc
  | a :: l, [], r, s, hl, _, h => by
    rw [List.flatMap_nil, List.nil_append, List.flatMap_cons, List.append_assoc, List.append_assoc] at h
    obtain ⟨c, t, e, hc⟩ := rule_line a (hl a (by simp)) ([10] ++ (l.flatMap (fun d => joinSp (ruleWords d) ++ [10]) ++ tailT r))
    rw [e] at h
    unfold tailT at h
    split at h
    · simp at h
    · simp only [List.cons.injEq] at h; exact absurd h.1 hc
  | a :: l, b :: m, r, s, hl, hm, h => by
    rw [List.flatMap_cons, List.flatMap_cons, List.append_assoc, List.append_assoc, List.append_assoc, List.append_assoc] at h
    obtain ⟨h1, h2⟩ := line_cancel _ _ _ _ (words_ne_r a) (words_ne_r b) (ruleWords_pw (hl a (by simp))) (ruleWords_pw (hm b (by simp))) h
    obtain ⟨h3, h4⟩ := rules_inj l m r s (fun s hs => hl s (by simp [hs])) (fun s hs => hm s (by simp [hs])) h2
    refine ⟨?_, h4⟩
    show (sameRule a b && all2 sameRule l m) = true
    rw [Bool.and_eq_true]
    exact ⟨rule_inj (hl a (by simp)) (hm b (by simp)) h1, h3⟩
theorem pro_inj : ∀ (p q : List UInt8) (r s : List UInt8), index p [37, 125] = -1 → index q [37, 125] = -1 → p ++ 37 :: 125 :: r = q ++ 37 :: 125 :: s → p = q ∧ r = s
  | [], [], r, s, _, _, h => ⟨rfl, by simpa using h⟩
  | [], b :: q, r, s, _, hq, h => by
    simp only [List.nil_append, List.cons_append, List.cons.injEq] at h
    cases q with
    | nil => simp at h
    | cons c q =>
      simp only [List.cons_append, List.cons.injEq] at h
      rw [← h.1, ← h.2.1] at hq
      simp [index] at hq
  | a :: p, [], r, s, hp, _, h => by
    simp only [List.nil_append, List.cons_append, List.cons.injEq] at h
    cases p with
    | nil => simp at h
    | cons c p =>
      simp only [List.cons_append, List.cons.injEq] at h
      rw [h.1, h.2.1] at hp
      simp [index] at hp
  | a :: p, b :: q, r, s, hp, hq, h => by
    have tl : ∀ (x : UInt8) (l : List UInt8), index (x :: l) [37, 125] = -1 → index l [37, 125] = -1 := by
      intro x l hx
      rw [index_cons] at hx
      split at hx
      · simp at hx
      · split at hx
        · rename_i h; exact h
        · have := Go.Lib.index_ge l [37, 125]; omega
    simp only [List.cons_append, List.cons.injEq] at h
    obtain ⟨h1, h2⟩ := pro_inj p q r s (tl _ _ hp) (tl _ _ hq) h.2
    exact ⟨by rw [h.1, h1], h2⟩
theorem may_ok {x : Source} (h : may x = true) : index x.pro [37, 125] = -1 ∧ (∀ d ∈ x.decls, mayDecl d = true) ∧ ∀ r ∈ x.rules, mayRule r = true := by
  unfold may at h
  simp only [Bool.and_eq_true, Bool.not_eq_true', decide_eq_false_iff_not] at h
  have := Go.Lib.index_ge x.pro [37, 125]
  exact ⟨by omega, fun d hd => List.all_eq_true.1 h.1.2 d hd, fun r hr => List.all_eq_true.1 h.2 r hr⟩
def proT (l : List UInt8) : List UInt8 := if l = [] then [] else 37 :: 123 :: (l ++ [37, 125, 10])
theorem text_form {x : Source} (h : may x = true) : text x = proT x.pro ++ (x.decls.flatMap (fun d => joinSp (declWords d) ++ [10]) ++ ([37, 37, 10] ++ (x.rules.flatMap (fun r => joinSp (ruleWords r) ++ [10]) ++ tailT x.tail))) := by
  unfold text proT tailT
  rw [if_neg (by simp [h])]
  simp only [List.append_assoc]
/-- What stands behind a prologue begins with a % and not with a %{. -/
theorem decls_head (l : List Decl) (r : List UInt8) (h : ∀ d ∈ l, mayDecl d = true) : ∃ c t, l.flatMap (fun d => joinSp (declWords d) ++ [10]) ++ ([37, 37, 10] ++ r) = 37 :: c :: t ∧ c ≠ 123 := by
  cases l with
  | nil => exact ⟨37, 10 :: r, rfl, by decide⟩
  | cons d l =>
    obtain ⟨h1, h2, _⟩ := mayDecl_ok (h d (by simp))
    obtain ⟨c, t, e, _, hc, _⟩ := keys_ok ⟨(d.kind - 1).toNat, by omega⟩
    simp only at e
    rw [List.flatMap_cons, declWords_eq, e]
    have hj : ∀ (ws : List (List UInt8)), ∃ u, joinSp ((37 :: c :: t) :: ws) = 37 :: c :: u := by
      intro ws
      cases ws with
      | nil => exact ⟨t, rfl⟩
      | cons v l => exact ⟨_, rfl⟩
    obtain ⟨u, hu⟩ := hj (tagW d ++ d.syms.flatMap symWords)
    rw [hu]
    exact ⟨c, _, rfl, hc⟩
theorem text_same {a b : Source} (ha : may a = true) (hb : may b = true) (h : text a = text b) : same a b = true := by
  obtain ⟨a1, a2, a3⟩ := may_ok ha
  obtain ⟨b1, b2, b3⟩ := may_ok hb
  rw [text_form ha, text_form hb] at h
  have hp : a.pro = b.pro ∧ a.decls.flatMap (fun d => joinSp (declWords d) ++ [10]) ++ ([37, 37, 10] ++ (a.rules.flatMap (fun r => joinSp (ruleWords r) ++ [10]) ++ tailT a.tail)) = b.decls.flatMap (fun d => joinSp (declWords d) ++ [10]) ++ ([37, 37, 10] ++ (b.rules.flatMap (fun r => joinSp (ruleWords r) ++ [10]) ++ tailT b.tail)) := by
    unfold proT at h
    by_cases p1 : a.pro = []
    · by_cases p2 : b.pro = []
      · rw [if_pos p1, if_pos p2] at h
        exact ⟨by rw [p1, p2], h⟩
      · rw [if_pos p1, if_neg p2, List.nil_append] at h
        obtain ⟨c, t, e, hc⟩ := decls_head a.decls (a.rules.flatMap (fun r => joinSp (ruleWords r) ++ [10]) ++ tailT a.tail) a2
        rw [e] at h
        simp only [List.cons_append, List.cons.injEq, true_and] at h
        exact absurd h.1 hc
    · by_cases p2 : b.pro = []
      · rw [if_neg p1, if_pos p2, List.nil_append] at h
        obtain ⟨c, t, e, hc⟩ := decls_head b.decls (b.rules.flatMap (fun r => joinSp (ruleWords r) ++ [10]) ++ tailT b.tail) b2
        rw [e] at h
        simp only [List.cons_append, List.cons.injEq, true_and] at h
        exact absurd h.1.symm hc
      · rw [if_neg p1, if_neg p2] at h
        simp only [List.cons_append, List.cons.injEq, true_and, List.append_assoc, List.nil_append] at h
        obtain ⟨h1, h2⟩ := pro_inj _ _ _ _ a1 b1 h
        refine ⟨h1, ?_⟩
        simp only [List.cons.injEq, true_and] at h2
        exact h2
  obtain ⟨h1, h2⟩ := decls_inj _ _ _ _ a2 b2 hp.2
  obtain ⟨h3, h4⟩ := rules_inj _ _ _ _ a3 b3 h2
  unfold same
  simp only [Bool.and_eq_true, beq_iff_eq]
  exact ⟨⟨⟨hp.1, h4⟩, h1⟩, h3⟩

/-! ### The same: one text -/
theorem all2_flat {α β : Type} {f : α → α → Bool} {g : α → List β} : ∀ (l m : List α), (∀ a ∈ l, ∀ b ∈ m, f a b = true → g a = g b) → all2 f l m = true → l.flatMap g = m.flatMap g
  | [], [], _, _ => rfl
  | [], _ :: _, _, h => by simp [all2] at h
  | _ :: _, [], _, h => by simp [all2] at h
  | a :: l, b :: m, hg, h => by
    simp only [all2, Bool.and_eq_true] at h
    rw [List.flatMap_cons, List.flatMap_cons, hg a (by simp) b (by simp) h.1, all2_flat l m (fun x hx y hy => hg x (by simp [hx]) y (by simp [hy])) h.2]
theorem same_symWords {a b : Sym} (h : sameSym a b = true) : symWords a = symWords b := by
  rw [sameSym_iff] at h
  unfold symWords
  rw [h.1, h.2.1, h.2.2]
theorem same_none {a b : Sym} (h : sameSym a b = true) : isNone a = isNone b := by
  rw [sameSym_iff] at h
  unfold isNone
  rw [h.1, h.2.1, h.2.2]
theorem same_declWords {a b : Decl} (h : sameDecl a b = true) : declWords a = declWords b := by
  unfold sameDecl at h
  simp only [Bool.and_eq_true, beq_iff_eq] at h
  unfold declWords
  rw [h.1.1, h.1.2, all2_flat a.syms b.syms (fun _ _ _ _ hs => same_symWords hs) h.2]
theorem same_altWords {a b : Alt} (h : sameAlt a b = true) : altWords a = altWords b := by
  unfold sameAlt at h
  simp only [Bool.and_eq_true] at h
  unfold altWords
  rw [same_none h.1, same_symWords h.1, all2_flat a.parts b.parts (fun p _ q _ hs => ?_) h.2]
  unfold samePart at hs
  simp only [Bool.and_eq_true, beq_iff_eq] at hs
  unfold partWords
  rw [hs.2, same_symWords hs.1]
theorem same_altsWords : ∀ (k : Nat) (l m : List Alt), all2 sameAlt l m = true → altsWords k l = altsWords k m
  | _, [], [], _ => rfl
  | _, [], _ :: _, h => by simp [all2] at h
  | _, _ :: _, [], h => by simp [all2] at h
  | k, a :: l, b :: m, h => by
    simp only [all2, Bool.and_eq_true] at h
    unfold altsWords
    rw [same_altWords h.1, same_altsWords (k + 1) l m h.2]
theorem same_text {a b : Source} (ha : may a = true) (hb : may b = true) (h : same a b = true) : text a = text b := by
  unfold same at h
  simp only [Bool.and_eq_true, beq_iff_eq] at h
  obtain ⟨⟨⟨h1, h2⟩, h3⟩, h4⟩ := h
  rw [text_form ha, text_form hb, h1, h2]
  rw [all2_flat a.decls b.decls (fun x _ y _ hs => by rw [same_declWords hs]) h3]
  rw [all2_flat a.rules b.rules (fun x _ y _ hs => ?_) h4]
  unfold sameRule at hs
  simp only [Bool.and_eq_true, beq_iff_eq] at hs
  unfold ruleWords
  rw [hs.1, same_altsWords 0 _ _ hs.2]
/-- Two sources that may be have one text just if they are the same. -/
theorem text_one {a b : Source} (ha : may a = true) (hb : may b = true) : (text a == text b) = same a b := by
  rw [Bool.eq_iff_iff, beq_iff_eq]
  exact ⟨text_same ha hb, same_text ha hb⟩
end Sp
end Go.Proofs.YthmimcegiihcnaaDoor
