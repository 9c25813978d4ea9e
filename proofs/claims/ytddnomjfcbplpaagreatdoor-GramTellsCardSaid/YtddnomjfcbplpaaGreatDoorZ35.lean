import Derived.Test.YtddnomjfcbplpaaGreatDoorZ06
namespace Go.Proofs.YtddnomjfcbplpaaGreatDoor
namespace Sp

structure Inv (s : Mk) : Prop where
 three : 3 ≤ s.toks.length
 same : s.given.length = s.toks.length
 one : ∃ t, s.toks[1]? = some t ∧ t.name = errName ∧ t.lit = false
 noerr : ∀ (i : Nat) (t : Tok), 3 ≤ i → s.toks[i]? = some t → ¬ (t.name = errName ∧ t.lit = false)
 zero : ∀ (i : Nat) (t : Tok), 3 ≤ i → s.toks[i]? = some t → s.given[i]? = some false → t.num = 0
theorem rtokGo_findIx (nm : List UInt8) (lt : Bool) : ∀ (l : List Tok) (i : Nat), 3 ≤ i → rtokGo nm lt l i = findIx (fun t => t.name == nm && t.lit == lt) l i
 | [], _, _ => rfl
 | t :: l, i, h => by
  unfold rtokGo findIx
  rw [rtokGo_findIx nm lt l (i + 1) (by omega)]
  grind
theorem rtok_ix {s : Mk} (h : Inv s) (nm : List UInt8) (lt : Bool) : rtok s.toks nm lt = tokIx s.toks nm lt := by
 obtain ⟨t, h1, h2, h3⟩ := h.one
 have h4 := h.three
 unfold rtok tokIx
 rcases hs : s.toks with _ | ⟨a, _ | ⟨b, _ | ⟨c, l⟩⟩⟩
 ·rw [hs] at h4; simp at h4
 ·rw [hs] at h4; simp at h4
 ·rw [hs] at h4; simp at h4
 ·rw [hs] at h1
  simp only [List.getElem?_cons_succ, List.getElem?_cons_zero, Option.some.injEq] at h1
  subst h1
  simp only [List.drop_succ_cons, List.drop_zero]
  rw [rtokGo, rtokGo, rtokGo_findIx nm lt l _ (by omega), h2, h3]
  by_cases he : nm = errName ∧ lt = false
  ·obtain ⟨rfl, rfl⟩ := he
   simp
  ·rw [if_neg he, if_neg (by rintro ⟨⟨a, b⟩, _⟩; exact he ⟨a.symm, b.symm⟩), if_neg (by simp)]
theorem takenGo_iff (num but : Int) : ∀ (ts : List Tok) (gs : List Bool) (i : Nat), takenGo num but i ts gs = true ↔ ∃ (j : Nat) (t : Tok), ts[j]? = some t ∧ gs[j]? = some true ∧ ((i + j : Nat) : Int) ≠ but ∧ t.num = num
 | [], gs, i => by simp [takenGo]
 | t :: ts, [], i => by simp [takenGo]
 | t :: ts, g :: gs, i => by
  unfold takenGo
  rw [Bool.or_eq_true, takenGo_iff num but ts gs (i + 1)]
  constructor
  ·rintro (h | ⟨j, u, h1, h2, h3, h4⟩)
   ·exact ⟨0, t, by simp, by simp at h ⊢; exact h.1.2, by simp at h ⊢; exact h.1.1, by simp at h; exact h.2⟩
   ·exact ⟨j + 1, u, h1, h2, by rw [show i + (j + 1) = i + 1 + j by omega]; exact h3, h4⟩
  ·rintro ⟨j, u, h1, h2, h3, h4⟩
   cases j with
   | zero =>
    left
    simp at h1 h2 h3 ⊢
    exact ⟨⟨h3, h2⟩, by rw [h1]; exact h4⟩
   | succ j =>
    right
    exact ⟨j, u, h1, h2, by rw [show i + 1 + j = i + (j + 1) by omega]; exact h3, h4⟩
theorem taken_iff {s : Mk} {num but : Int} : taken s num but = true ↔ ∃ (j : Nat) (t : Tok), 3 ≤ j ∧ s.toks[j]? = some t ∧ s.given[j]? = some true ∧ (j : Int) ≠ but ∧ t.num = num := by
 unfold taken
 rw [takenGo_iff]
 constructor
 ·rintro ⟨j, t, h1, h2, h3, h4⟩
  rw [List.getElem?_drop] at h1 h2
  exact ⟨3 + j, t, by omega, h1, h2, h3, h4⟩
 ·rintro ⟨j, t, h0, h1, h2, h3, h4⟩
  refine ⟨j - 3, t, ?_, ?_, ?_, h4⟩
  ·rw [List.getElem?_drop, show 3 + (j - 3) = j by omega]; exact h1
  ·rw [List.getElem?_drop, show 3 + (j - 3) = j by omega]; exact h2
  ·rw [show 3 + (j - 3) = j by omega]; exact h3
theorem rowner_iff {toks : List Tok} {n : Int} : (rowner toks n).isSome = true ↔ ∃ (j : Nat) (t : Tok), 3 ≤ j ∧ toks[j]? = some t ∧ t.num = n := by
 unfold rowner
 constructor
 ·intro h
  obtain ⟨k, hk⟩ := Option.isSome_iff_exists.1 h
  obtain ⟨h1, x, h2, h3⟩ := findIx_some hk
  rw [List.getElem?_drop] at h2
  exact ⟨3 + (k - 3), x, by omega, h2, by simpa using h3⟩
 ·rintro ⟨j, t, h0, h1, h2⟩
  cases hf : findIx (fun t => t.num == n) (toks.drop 3) 3 with
  | some k => rfl
  | none =>
   have h := findIx_none.1 hf t (List.mem_iff_getElem?.2 ⟨j - 3, by rw [List.getElem?_drop, show 3 + (j - 3) = j by omega]; exact h1⟩)
   simp at h
   exact absurd h2 h
theorem owner_taken {s : Mk} (h : Inv s) {n but : Int} (hn : n ≠ 0) (hb : ∀ (i : Nat) (t : Tok), 3 ≤ i → s.toks[i]? = some t → (i : Int) = but → t.num ≠ n) : (rowner s.toks n).isSome = taken s n but := by
 rw [Bool.eq_iff_iff, rowner_iff, taken_iff]
 constructor
 ·rintro ⟨j, t, h0, h1, h2⟩
  refine ⟨j, t, h0, h1, ?_, fun e => hb j t h0 h1 e h2, h2⟩
  have hl : j < s.given.length := by rw [h.same]; exact (List.getElem?_eq_some_iff.1 h1).1
  cases hg : s.given[j] with
  | true => rw [List.getElem?_eq_getElem hl, hg]
  | false =>
   have := h.zero j t h0 h1 (by rw [List.getElem?_eq_getElem hl, hg])
   omega
 ·rintro ⟨j, t, h0, h1, _, _, h4⟩
  exact ⟨j, t, h0, h1, h4⟩

structure Sim (s : Mk) (r : Rk) : Prop where
 toks : r.toks = s.toks
 given : r.given = s.given
 lefts : r.lefts = s.lefts
 types : ∀ nm, typeOf r.types nm = typeOf s.types nm
 ok : r.fault = okFault
def Step (o : Option Mk) (nm : List UInt8) (at_ : Int) (r : Rk) : Prop :=
 match o with
 | none => r.fault = ⟨3, at_, nm⟩
 | some s => Sim s r ∧ Inv s
theorem failF_ok (at_ : Int) (nm : List UInt8) : failF okFault at_ nm = ⟨3, at_, nm⟩ := rfl
def finalTok (d : Decl) (x : Sym) (level : Int) (t : Tok) : Tok := ⟨t.name, t.lit, if 0 < x.num then x.num else t.num, if d.kind ≠ 1 then level else t.level, if d.kind ≠ 1 then d.kind - 1 else t.assoc, if d.tag ≠ [] then d.tag else t.tag⟩
def finalMk (d : Decl) (x : Sym) (level : Int) (p : Mk × Nat) : Mk := { p.1 with toks := p.1.toks.set p.2 (finalTok d x level (p.1.toks.getD p.2 noTok)), given := if 0 < x.num then p.1.given.set p.2 true else p.1.given }
theorem getD_set {l : List Tok} {k : Nat} {a d : Tok} (h : k < l.length) : (l.set k a).getD k d = a := by grind
theorem tokStep_some {s : Mk} {d : Decl} {x : Sym} {level : Int} (h : tokBad s d x = false) (hk : (addTok s x).2 < (addTok s x).1.toks.length) : tokStep s d x level = some (finalMk d x level (addTok s x)) := by
 unfold tokStep finalMk finalTok modTok
 rw [if_neg (by rw [h]; simp)]
 generalize addTok s x = p at *
 obtain ⟨s1, k⟩ := p
 obtain ⟨toks, given, lefts, nons, prods, types, start⟩ := s1
 simp only at hk ⊢
 have e : d.kind - 2 + 1 = d.kind - 1 := by omega
 rw [e]
 by_cases h1 : 0 < x.num <;> by_cases h2 : d.tag = [] <;> by_cases h3 : d.kind = 1 <;> simp [h1, h2, h3, List.set_set, hk]
 exact (List.set_getElem_self hk).symm

def GoodSym (x : Sym) : Prop := (x.lit = true → byte0 x.name ≠ 0) ∧ (x.num ≠ 0 → x.lit = false)
theorem addTok_inv {s : Mk} (x : Sym) (h : Inv s) (_hx : GoodSym x) : Inv (addTok s x).1 ∧ (addTok s x).2 < (addTok s x).1.toks.length ∧ ((addTok s x).2 = 1 ∨ 3 ≤ (addTok s x).2) := by
 unfold addTok
 cases ho : tokIx s.toks x.name x.lit with
 | some t => exact ⟨h, tokIx_lt h.three ho⟩
 | none =>
  simp only
  have h3 := h.three
  have hs := h.same
  have ne : ¬ (x.name = errName ∧ x.lit = false) := fun e => by
   unfold tokIx at ho
   rw [if_pos e] at ho
   cases ho
  refine ⟨⟨?_, ?_, ?_, ?_, ?_⟩, ?_, .inr h3⟩
  ·simp; omega
  ·simp [hs]
  ·obtain ⟨t, h1, h2⟩ := h.one
   exact ⟨t, by rw [List.getElem?_append_left (by omega)]; exact h1, h2⟩
  ·intro i t hi ht
   by_cases hl : i < s.toks.length
   ·rw [List.getElem?_append_left hl] at ht
    exact h.noerr i t hi ht
   ·rw [List.getElem?_append_right (by omega)] at ht
    have := List.mem_of_getElem? ht
    simp at this
    subst this
    exact ne
  ·intro i t hi ht hg
   by_cases hl : i < s.toks.length
   ·rw [List.getElem?_append_left hl] at ht
    rw [List.getElem?_append_left (by omega)] at hg
    exact h.zero i t hi ht hg
   ·rw [List.getElem?_append_right (by omega)] at ht
    rw [List.getElem?_append_right (by omega)] at hg
    have h1 := List.mem_of_getElem? ht
    have h2 := List.mem_of_getElem? hg
    simp at h1 h2
    subst h1
    simp [h2]
  ·simp
theorem clash_owner {s : Mk} (x : Sym) (h : Inv s) (hx : GoodSym x) (ho : tokIx s.toks x.name x.lit = none) : clash s x = (x.lit && (rowner s.toks (byte0 x.name)).isSome) := by
 unfold clash
 rw [ho]
 cases hl : x.lit with
 | false => rfl
 | true =>
  simp only [Option.isNone_none, Bool.and_true, Bool.true_and]
  rw [owner_taken h (hx.1 hl) (but := -1) (fun i t hi _ e => by omega)]
theorem rput_sim {s : Mk} {r : Rk} (x : Sym) (hS : Sim s r) (h : Inv s) (hx : GoodSym x) :
  (rput r x).2 = (addTok s x).2 ∧ (rput r x).1 = { r with toks := (addTok s x).1.toks, given := (addTok s x).1.given, fault := if clash s x = true then ⟨3, x.at_, x.name⟩ else okFault } := by
 have hS1 := hS.toks; have hS2 := hS.given; have hS5 := hS.ok
 unfold rput addTok
 rw [hS1, rtok_ix h]
 cases ho : tokIx s.toks x.name x.lit with
 | some t =>
  have hc : clash s x = false := by unfold clash; rw [ho]; simp
  rw [hc]
  simp only [Bool.false_eq_true, if_false]
  refine ⟨trivial, ?_⟩
  rw [← hS1, ← hS2, ← hS5]
 | none =>
  simp only
  rw [clash_owner x h hx ho, hS2, hS5]
  refine ⟨trivial, ?_⟩
  cases hl : x.lit with
  | false => simp
  | true => simp [failF_ok]
theorem rowner_set {toks : List Tok} {k : Nat} {t : Tok} (n : Int) (h : t.num = (toks.getD k noTok).num) : (rowner (toks.set k t) n).isSome = (rowner toks n).isSome := by
 rw [Bool.eq_iff_iff, rowner_iff, rowner_iff]
 grind
theorem rowner_snoc {toks : List Tok} {t : Tok} {n : Int} (h : t.num ≠ n) : (rowner (toks ++ [t]) n).isSome = (rowner toks n).isSome := by
 rw [Bool.eq_iff_iff, rowner_iff, rowner_iff]
 grind

def fif (b : Bool) (at_ : Int) (nm : List UInt8) (f : Fault) : Fault := if b = true then failF f at_ nm else f
def bad1 (d : Decl) (t : Tok) : Bool := decide (d.kind ≠ 1) && decide (0 < t.level)
def bad2 (x : Sym) (k : Nat) (given : List Bool) (toks : List Tok) : Bool := decide (0 < x.num) && ((decide (k = 1) || given.getD k false) || (rowner toks x.num).isSome)
def bad3 (d : Decl) (t : Tok) : Bool := (decide (d.tag ≠ []) && decide (t.tag ≠ [])) && decide (t.tag ≠ d.tag)
theorem stages {r : Rk} {k : Nat} {d : Decl} {x : Sym} (hk : k < r.toks.length) :
  rtag (rnum (rlevel r k d x) k x) k d x = { r with toks := r.toks.set k (finalTok d x r.level (r.toks.getD k noTok)), given := if 0 < x.num then r.given.set k true else r.given, fault := fif (bad3 d (r.toks.getD k noTok)) x.at_ x.name (fif (bad2 x k r.given r.toks) x.at_ x.name (fif (bad1 d (r.toks.getD k noTok)) x.at_ x.name r.fault)) } := by
 obtain ⟨toks, given, types, lefts, prods, fault, level, inner⟩ := r
 simp only at hk ⊢
 generalize ht : toks.getD k noTok = t
 have ht' : toks[k] = t := by rw [← ht]; simp [hk]
 have hown : ∀ (u : Tok), u.num = t.num → (rowner (toks.set k u) x.num).isSome = (rowner toks x.num).isSome := fun u hu => rowner_set x.num (by rw [hu, ht])
 unfold rtag rnum rlevel rmod finalTok fif bad1 bad2 bad3
 simp only
 rw [ht]
 by_cases h1 : d.kind = 1 <;> by_cases h2 : 0 < x.num <;> by_cases h3 : d.tag = []
 all_goals
  simp only [h1, h2, h3, ne_eq, not_true_eq_false, not_false_eq_true, if_true, if_false, decide_true, decide_false, Bool.true_and, Bool.false_and, Bool.false_eq_true, getD_set hk, List.set_set, ht]
 all_goals
  simp [hown]
 all_goals
  (show toks = toks.set k t; rw [← ht']; exact (List.set_getElem_self hk).symm)

theorem tokBad_eq {s : Mk} {d : Decl} {x : Sym} (h : Inv s) (hx : GoodSym x) :
  tokBad s d x = (((bad1 d ((addTok s x).1.toks.getD (addTok s x).2 noTok) || bad2 x (addTok s x).2 (addTok s x).1.given (addTok s x).1.toks) || clash s x) || bad3 d ((addTok s x).1.toks.getD (addTok s x).2 noTok)) := by
 unfold tokBad addTok
 cases ho : tokIx s.toks x.name x.lit with
 | some k =>
  obtain ⟨hk, hk1⟩ := tokIx_lt h.three ho
  simp only
  have e : (decide (0 < x.num) && ((decide ((k : Int) = 1) || s.given.getD k false) || taken s x.num k)) = bad2 x k s.given s.toks := by
   unfold bad2
   by_cases hn : 0 < x.num
   ·by_cases h1 : k = 1
    ·subst h1; simp
    ·have h1' : ¬ ((k : Int) = 1) := by omega
     cases hg : s.given.getD k false with
     | true => simp
     | false =>
      rw [owner_taken h (by omega) (but := (k : Int)) (fun i t hi ht e => by
       have hik : i = k := by omega
       subst hik
       have h2 := h.zero i t hi ht (by
        have hl : i < s.given.length := by rw [h.same]; exact hk
        rw [List.getElem?_eq_getElem hl]
        simp [hl] at hg
        rw [hg])
       omega)]
      simp [h1, h1']
   ·simp [hn]
  rw [e]
  unfold bad1 bad3
  rfl
 | none =>
  simp only
  have h3 := h.three
  have hs := h.same
  have e1 : (s.toks ++ [(⟨x.name, x.lit, if x.lit = true then byte0 x.name else 0, 0, 0, []⟩ : Tok)]).getD s.toks.length noTok = ⟨x.name, x.lit, if x.lit = true then byte0 x.name else 0, 0, 0, []⟩ := by simp
  have e2 : (s.given ++ [x.lit]).getD s.toks.length false = x.lit := by rw [← hs]; simp
  rw [e1]
  have e3 : bad2 x s.toks.length (s.given ++ [x.lit]) (s.toks ++ [(⟨x.name, x.lit, if x.lit = true then byte0 x.name else 0, 0, 0, []⟩ : Tok)]) = (decide (0 < x.num) && ((decide ((-1 : Int) = 1) || false) || taken s x.num (-1))) := by
   unfold bad2
   rw [e2]
   by_cases hn : 0 < x.num
   ·have hl := hx.2 (by omega)
    rw [rowner_snoc (by rw [hl]; simp; omega), owner_taken h (by omega) (but := -1) (fun i t hi _ e => by omega), hl]
    have : ¬ s.toks.length = 1 := by omega
    simp [this]
   ·simp [hn]
  rw [e3]
  unfold bad1 bad3 noTok
  simp
theorem final_inv {d : Decl} {x : Sym} {level : Int} {p : Mk × Nat} (h : Inv p.1) (hk : p.2 < p.1.toks.length) : Inv (finalMk d x level p) := by
 obtain ⟨s, k⟩ := p
 simp only at h hk
 obtain ⟨h1, h2, ⟨t1, h3, h4, h5⟩, h6, h7⟩ := h
 generalize ht : s.toks.getD k noTok = t
 have ht' : s.toks[k]? = some t := by grind
 unfold finalMk
 simp only
 rw [ht]
 refine ⟨by simp; exact h1, by simp only; split <;> simp [h2], ?_, ?_, ?_⟩
 ·simp only
  by_cases hk1 : k = 1
  ·subst hk1
   rw [h3] at ht'
   cases ht'
   exact ⟨_, List.getElem?_set_self hk, h4, h5⟩
  ·exact ⟨t1, by rw [List.getElem?_set_ne hk1]; exact h3, h4, h5⟩
 ·simp only
  intro i u hi hu
  by_cases hik : k = i
  ·subst hik
   rw [List.getElem?_set_self hk] at hu
   cases hu
   exact h6 k t hi ht'
  ·rw [List.getElem?_set_ne hik] at hu
   exact h6 i u hi hu
 ·simp only
  intro i u hi hu hg
  by_cases hik : k = i
  ·subst hik
   rw [List.getElem?_set_self hk] at hu
   cases hu
   by_cases hn : 0 < x.num
   ·rw [if_pos hn, List.getElem?_set_self (by omega)] at hg
    cases hg
   ·rw [if_neg hn] at hg
    have := h7 k t hi ht' hg
    unfold finalTok
    rw [if_neg hn]
    exact this
  ·rw [List.getElem?_set_ne hik] at hu
   have hg' : s.given[i]? = some false := by
    split at hg
    ·rw [List.getElem?_set_ne hik] at hg; exact hg
    ·exact hg
   exact h7 i u hi hu hg'
theorem fif3 (b1 b2 b3 c : Bool) (at_ : Int) (nm : List UInt8) : fif b3 at_ nm (fif b2 at_ nm (fif b1 at_ nm (if c = true then ⟨3, at_, nm⟩ else okFault))) = if (((b1 || b2) || c) || b3) = true then ⟨3, at_, nm⟩ else okFault := by cases b1 <;> cases b2 <;> cases b3 <;> cases c <;> rfl
theorem rdeclare_step {s : Mk} {r : Rk} {d : Decl} {x : Sym} {level : Int} (hS : Sim s r) (h : Inv s) (hl : r.level = level) (hk : d.kind ≠ 5) (hx : GoodSym x) :
  Step (tokStep s d x level) x.name x.at_ (rdeclare r d x) ∧ (rdeclare r d x).level = level ∧ (rdeclare r d x).inner = r.inner ∧ (rdeclare r d x).prods = r.prods := by
 obtain ⟨e1, e2⟩ := rput_sim x hS h hx
 obtain ⟨i1, i2, i3⟩ := addTok_inv x h hx
 have e3 : rdeclare r d x = rtag (rnum (rlevel (rput r x).1 (rput r x).2 d x) (rput r x).2 x) (rput r x).2 d x := by
  unfold rdeclare
  rw [if_neg hk]
 rw [e1, e2] at e3
 rw [stages (by simp only; exact i2)] at e3
 simp only at e3
 rw [e3]
 refine ⟨?_, hl, rfl, rfl⟩
 have hb := tokBad_eq (d := d) h hx
 generalize hb1 : bad1 d ((addTok s x).1.toks.getD (addTok s x).2 noTok) = b1 at *
 generalize hb2 : bad2 x (addTok s x).2 (addTok s x).1.given (addTok s x).1.toks = b2 at *
 generalize hb3 : bad3 d ((addTok s x).1.toks.getD (addTok s x).2 noTok) = b3 at *
 generalize hc : clash s x = c at *
 cases hbad : tokBad s d x with
 | true =>
  have : tokStep s d x level = none := by unfold tokStep; rw [if_pos hbad]
  rw [this]
  show fif _ _ _ _ = _
  rw [fif3, ← hb, hbad, if_pos rfl]
 | false =>
  rw [tokStep_some hbad i2]
  refine ⟨⟨?_, rfl, ?_, ?_, ?_⟩, final_inv i1 i2⟩
  ·show _ = (finalMk d x level (addTok s x)).toks
   unfold finalMk
   rw [hl]
  ·show r.lefts = (addTok s x).1.lefts
   rw [hS.lefts]
   unfold addTok
   split <;> rfl
  ·intro nm
   show typeOf r.types nm = typeOf (addTok s x).1.types nm
   rw [hS.types]
   unfold addTok
   split <;> rfl
  ·show fif _ _ _ _ = _
   rw [fif3, ← hb, hbad]
   rfl

theorem failF_keep {f : Fault} (h : f.err = 3) (at_ : Int) (nm : List UInt8) : failF f at_ nm = f := by unfold failF; rw [if_neg (by omega)]
theorem rdeclare_keep {r : Rk} (d : Decl) (x : Sym) (h : r.fault.err = 3) : (rdeclare r d x).fault = r.fault := by
 unfold rdeclare
 split
 ·split
  ·rfl
  ·split
   ·exact failF_keep h _ _
   ·rfl
 ·simp only
  have e1 : (rput r x).1.fault = r.fault := by
   unfold rput
   split
   ·rfl
   ·simp only [failF_keep h]
    simp
  have e2 : (rlevel (rput r x).1 (rput r x).2 d x).fault = r.fault := by
   unfold rlevel
   simp only [e1, failF_keep h]
   split
   ·simp
   ·exact e1
  have e3 : (rnum (rlevel (rput r x).1 (rput r x).2 d x) (rput r x).2 x).fault = r.fault := by
   unfold rnum
   simp only [e2, failF_keep h]
   split
   ·simp
   ·exact e2
  unfold rtag
  simp only [e3, failF_keep h]
  split
  ·simp
  ·exact e3
theorem rsym_keep {r : Rk × List UInt8} (d : Decl) (x : Sym) (h : r.1.fault.err = 3) : (rsym r d x).1.fault = r.1.fault := by
 unfold rsym
 split
 ·exact rdeclare_keep d x h
 ·split
  ·exact failF_keep h _ _
  ·rfl
theorem rsyms_keep (d : Decl) : ∀ (l : List Sym) {r : Rk × List UInt8}, r.1.fault.err = 3 → (rsyms d l r).1.fault = r.1.fault
 | [], _, _ => rfl
 | x :: l, r, h => by
  have h1 := rsym_keep d x h
  unfold rsyms
  rw [rsyms_keep d l (by rw [h1]; exact h), h1]
theorem rdecls_keep : ∀ (l : List Decl) {r : Rk × List UInt8}, r.1.fault.err = 3 → (rdecls l r).1.fault = r.1.fault
 | [], _, _ => rfl
 | d :: l, r, h => by
  unfold rdecls
  have h0 : ∀ (b : Prop) [Decidable b], (if b then { r.1 with level := r.1.level + 1 } else r.1).fault = r.1.fault := by intro b _; split <;> rfl
  have h1 := rsyms_keep d d.syms (r := (if 2 ≤ d.kind ∧ d.kind ≤ 4 then { r.1 with level := r.1.level + 1 } else r.1, r.2)) (by simp only [h0]; exact h)
  simp only [h0] at h1
  rw [rdecls_keep l (by rw [h1]; exact h), h1]
def Go1 (o : Option Mk) (nm : List UInt8) (at_ : Int) (level : Int) (r : Rk × List UInt8) : Prop :=
 match o with
 | none => r.1.fault = ⟨3, at_, nm⟩
 | some s => Sim s r.1 ∧ Inv s ∧ r.2 = s.start ∧ r.1.level = level ∧ r.1.inner = 0 ∧ r.1.prods = []
theorem typeOf_snoc (nm tg : List UInt8) (k : List UInt8) : ∀ (l : List (List UInt8 × List UInt8)), typeOf l nm = none → typeOf (l ++ [(nm, tg)]) k = if nm = k then some tg else typeOf l k
 | [], _ => rfl
 | (a, b) :: l, h => by
  unfold typeOf at h
  split at h
  ·cases h
  ·rename_i hne
   have ih := typeOf_snoc nm tg k l h
   show typeOf ((a, b) :: (l ++ [(nm, tg)])) k = _
   unfold typeOf
   rw [ih]
   by_cases h1 : a = k
   ·rw [if_pos h1, if_pos h1, if_neg (fun e => hne (h1.trans e.symm))]
   ·rw [if_neg h1, if_neg h1]
theorem rsym_step {s : Mk} {r : Rk} {d : Decl} {x : Sym} {level : Int} (hS : Sim s r) (h : Inv s) (hl : r.level = level) (hi : r.inner = 0) (hp : r.prods = []) (hk : 1 ≤ d.kind ∧ d.kind ≤ 6) (hx : GoodSym x) :
  Go1 (if 5 ≤ d.kind then namedStep s d x else tokStep s d x level) x.name x.at_ level (rsym (r, s.start) d x) := by
 by_cases h6 : d.kind = 6
 ·rw [if_pos (by omega)]
  have e1 : rsym (r, s.start) d x = (if s.start ≠ [] then rfail r x.at_ x.name else r, x.name) := by unfold rsym; rw [if_neg (by simp [h6])]
  rw [e1]
  unfold namedStep
  by_cases hst : s.start = []
  ·rw [if_neg (by rintro (⟨h, _⟩ | ⟨_, h⟩); omega; exact h hst), if_neg (by omega), if_neg (by simp [hst])]
   exact ⟨⟨hS.toks, hS.given, hS.lefts, hS.types, hS.ok⟩, ⟨h.three, h.same, h.one, h.noerr, h.zero⟩, rfl, hl, hi, hp⟩
  ·rw [if_pos (.inr ⟨h6, hst⟩), if_pos hst]
   show (rfail r x.at_ x.name).fault = _
   unfold rfail
   rw [hS.ok, failF_ok]
 ·by_cases h5 : d.kind = 5
  ·rw [if_pos (by omega)]
   have e1 : rsym (r, s.start) d x = (match typeOf s.types x.name with
     | none => { r with types := r.types ++ [(x.name, d.tag)] }
     | some t => if t ≠ d.tag then rfail r x.at_ x.name else r, s.start) := by
    unfold rsym
    rw [if_pos h6]
    unfold rdeclare
    rw [if_pos h5, hS.types]
    cases typeOf s.types x.name <;> rfl
   rw [e1]
   unfold namedStep
   cases ht : typeOf s.types x.name with
   | none =>
    rw [if_neg (by rintro (⟨_, t, h1, _⟩ | ⟨h1, _⟩); cases h1; omega), if_pos h5]
    refine ⟨⟨hS.toks, hS.given, hS.lefts, fun nm => ?_, hS.ok⟩, ⟨h.three, h.same, h.one, h.noerr, h.zero⟩, rfl, hl, hi, hp⟩
    have ht' : typeOf r.types x.name = none := by rw [hS.types]; exact ht
    show typeOf (r.types ++ _) nm = typeOf ((x.name, d.tag) :: s.types) nm
    rw [typeOf_snoc _ _ _ _ ht', hS.types]
    conv => rhs; unfold typeOf
   | some t =>
    by_cases htd : t = d.tag
    ·subst htd
     rw [if_neg (by rintro (⟨_, t, h1, h2⟩ | ⟨h1, _⟩); exact h2 (Option.some.inj h1).symm; omega), if_pos h5]
     simp only [ne_eq, not_true_eq_false, if_false]
     refine ⟨⟨hS.toks, hS.given, hS.lefts, fun nm => ?_, hS.ok⟩, ⟨h.three, h.same, h.one, h.noerr, h.zero⟩, rfl, hl, hi, hp⟩
     show typeOf r.types nm = typeOf ((x.name, d.tag) :: s.types) nm
     rw [hS.types]
     conv => rhs; unfold typeOf
     split
     ·rename_i e
      rw [← e, ht]
     ·rfl
    ·rw [if_pos (.inl ⟨h5, t, rfl, htd⟩)]
     simp only [ne_eq, htd, not_false_eq_true, if_true]
     show (rfail r x.at_ x.name).fault = _
     unfold rfail
     rw [hS.ok, failF_ok]
  ·rw [if_neg (by omega)]
   unfold rsym
   rw [if_pos h6]
   obtain ⟨h1, h2, h3, h4⟩ := rdeclare_step hS h hl h5 hx
   cases ho : tokStep s d x level with
   | none => rw [ho] at h1; exact h1
   | some s' =>
    rw [ho] at h1
    refine ⟨h1.1, h1.2, ?_, h2, by rw [h3]; exact hi, by rw [h4]; exact hp⟩
    show s.start = s'.start
    unfold tokStep at ho
    split at ho
    ·cases ho
    ·cases ho
     simp only [modTok]
     have e : (addTok s x).1.start = s.start := by unfold addTok; split <;> rfl
     (repeat' split) <;> exact e.symm

def GoN (o : Except Stop Mk) (level : Int) (r : Rk × List UInt8) : Prop :=
 match o with
 | .error e => r.1.fault = ⟨3, e.2, e.1⟩
 | .ok s => Sim s r.1 ∧ Inv s ∧ r.2 = s.start ∧ r.1.level = level ∧ r.1.inner = 0 ∧ r.1.prods = []
theorem rsyms_step {d : Decl} {level : Int} (hk : 1 ≤ d.kind ∧ d.kind ≤ 6) : ∀ (l : List Sym) {s : Mk} {r : Rk}, Sim s r → Inv s → r.level = level → r.inner = 0 → r.prods = [] → (∀ x ∈ l, GoodSym x) → GoN (symsGo d level l s) level (rsyms d l (r, s.start))
 | [], s, r, hS, h, hl, hi, hp, _ => ⟨hS, h, rfl, hl, hi, hp⟩
 | x :: l, s, r, hS, h, hl, hi, hp, hx => by
  have h1 := rsym_step hS h hl hi hp hk (hx x (by simp))
  unfold symsGo rsyms
  generalize (if 5 ≤ d.kind then namedStep s d x else tokStep s d x level) = o at *
  generalize rsym (r, s.start) d x = r' at *
  cases o with
  | none =>
   have h2 : r'.1.fault = ⟨3, x.at_, x.name⟩ := h1
   show (rsyms d l r').1.fault = _
   rw [rsyms_keep d l (by rw [h2]), h2]
  | some s' =>
   obtain ⟨k1, k2, k3, k4, k5, k6⟩ := h1
   obtain ⟨r1, r2⟩ := r'
   simp only at k1 k3 k4 k5 k6
   subst k3
   exact rsyms_step hk l k1 k2 k4 k5 k6 (fun y hy => hx y (by simp [hy]))
def GoodDecl (d : Decl) : Prop := (1 ≤ d.kind ∧ d.kind ≤ 6) ∧ ∀ x ∈ d.syms, GoodSym x
theorem rdecls_step : ∀ (l : List Decl) {level : Int} {s : Mk} {r : Rk}, Sim s r → Inv s → r.level = level → r.inner = 0 → r.prods = [] → (∀ d ∈ l, GoodDecl d) → ∃ level', GoN (declsMk level l s) level' (rdecls l (r, s.start))
 | [], level, s, r, hS, h, hl, hi, hp, _ => ⟨level, hS, h, rfl, hl, hi, hp⟩
 | d :: l, level, s, r, hS, h, hl, hi, hp, hx => by
  unfold declsMk rdecls
  simp only
  obtain ⟨hk, hy⟩ := hx d (by simp)
  have e : (if 2 ≤ d.kind ∧ d.kind ≤ 4 then { r with level := r.level + 1 } else r) = { r with level := if 2 ≤ d.kind ∧ d.kind ≤ 4 then level + 1 else level } := by
   subst hl
   split <;> rfl
  rw [e]
  generalize (if 2 ≤ d.kind ∧ d.kind ≤ 4 then level + 1 else level) = lv
  have h1 := rsyms_step (level := lv) hk d.syms (s := s) (r := { r with level := lv }) ⟨hS.toks, hS.given, hS.lefts, hS.types, hS.ok⟩ h rfl hi hp hy
  generalize rsyms d d.syms ({ r with level := lv }, s.start) = r' at *
  cases ho : symsGo d lv d.syms s with
  | error e =>
   rw [ho] at h1
   have h2 : r'.1.fault = ⟨3, e.2, e.1⟩ := h1
   refine ⟨0, ?_⟩
   show (rdecls l r').1.fault = _
   rw [rdecls_keep l (by rw [h2]), h2]
  | ok s' =>
   rw [ho] at h1
   obtain ⟨k1, k2, k3, k4, k5, k6⟩ := h1
   obtain ⟨r1, r2⟩ := r'
   simp only at k1 k3 k4 k5 k6
   subst k3
   exact rdecls_step l k1 k2 k4 k5 k6 (fun y hy => hx y (by simp [hy]))
def SameL (s s' : Mk) : Prop := s'.lefts = s.lefts ∧ s'.nons = s.nons ∧ s'.prods = s.prods
theorem addTok_same (s : Mk) (x : Sym) : SameL s (addTok s x).1 ∧ (addTok s x).1.types = s.types ∧ (addTok s x).1.start = s.start := by unfold addTok SameL; split <;> exact ⟨⟨rfl, rfl, rfl⟩, rfl, rfl⟩
theorem tokStep_same {s s' : Mk} {d : Decl} {x : Sym} {level : Int} (h : tokStep s d x level = some s') : SameL s s' := by
 obtain ⟨⟨e1, e2, e3⟩, _⟩ := addTok_same s x
 unfold tokStep at h
 split at h
 ·cases h
 ·cases h
  simp only [modTok, SameL]
  (repeat' split) <;> exact ⟨e1, e2, e3⟩
theorem namedStep_same {s s' : Mk} {d : Decl} {x : Sym} (h : namedStep s d x = some s') : SameL s s' := by
 unfold namedStep at h
 (repeat' split at h) <;> (first | cases h) <;> exact ⟨rfl, rfl, rfl⟩
theorem SameL.trans {a b c : Mk} (h : SameL a b) (k : SameL b c) : SameL a c := ⟨k.1.trans h.1, k.2.1.trans h.2.1, k.2.2.trans h.2.2⟩
theorem symsGo_same {d : Decl} {level : Int} : ∀ (l : List Sym) {s s' : Mk}, symsGo d level l s = .ok s' → SameL s s'
 | [], s, s', h => by cases h; exact ⟨rfl, rfl, rfl⟩
 | x :: l, s, s', h => by
  unfold symsGo at h
  split at h
  ·cases h
  ·rename_i s1 ho
   have h1 : SameL s s1 := by
    split at ho
    ·exact namedStep_same ho
    ·exact tokStep_same ho
   exact h1.trans (symsGo_same l h)
theorem declsMk_same : ∀ (l : List Decl) {level : Int} {s s' : Mk}, declsMk level l s = .ok s' → SameL s s'
 | [], _, s, s', h => by cases h; exact ⟨rfl, rfl, rfl⟩
 | d :: l, level, s, s', h => by
  unfold declsMk at h
  simp only at h
  split at h
  ·cases h
  ·rename_i s1 ho
   exact (symsGo_same _ ho).trans (declsMk_same l h)
theorem findIx_shift {α : Type} {p : α → Bool} : ∀ (l : List α) (i : Nat), findIx p l (i + 1) = (findIx p l i).map (· + 1)
 | [], _ => rfl
 | x :: l, i => by
  unfold findIx
  split
  ·rfl
  ·exact findIx_shift l (i + 1)
theorem nonIx_left (lefts : List (List UInt8)) (nm : List UInt8) : nonIx lefts nm = (rleft lefts nm).map (· + 1) := findIx_shift lefts 0
theorem nonIx_isSome (lefts : List (List UInt8)) (nm : List UInt8) : (nonIx lefts nm).isSome = (rleft lefts nm).isSome := by rw [nonIx_left]; cases rleft lefts nm <;> rfl
structure LInv (s : Mk) : Prop where
 apart : ∀ nm k, rleft s.lefts nm = some k → tokIx s.toks nm false = none
 nons : s.nons = ⟨[36, 97, 99, 99, 101, 112, 116], []⟩ :: s.lefts.map fun l => ⟨l, (typeOf s.types l).getD []⟩
theorem rrule_keep {r : Rk} (x : Rule) (h : r.fault.err = 3) : (rrule r x).fault = r.fault := by
 unfold rrule rfail
 simp only [failF_keep h]
 (repeat' split) <;> rfl
theorem rrules_keep : ∀ (l : List Rule) {r : Rk}, r.fault.err = 3 → (rrules l r).fault = r.fault
 | [], _, _ => rfl
 | x :: l, r, h => by
  have h1 := rrule_keep x h
  unfold rrules
  rw [rrules_keep l (by rw [h1]; exact h), h1]
theorem rleft_snoc {lefts : List (List UInt8)} {l nm : List UInt8} (hn : rleft lefts l = none) : rleft (lefts ++ [l]) nm = if nm = l then some lefts.length else rleft lefts nm := by
 unfold rleft at hn ⊢
 rw [findIx_snoc]
 by_cases h : nm = l
 ·subst h
  rw [hn, if_pos rfl]
  simp
 ·rw [if_neg h]
  have : (l == nm) = false := by rw [beq_eq_false_iff_ne]; exact fun e => h e.symm
  cases findIx (fun x => x == nm) lefts 0 with
  | some k => rfl
  | none => simp [this]
def GoL (o : Except Stop Mk) (s0 : Mk) (r0 r : Rk) : Prop :=
 match o with
 | .error e => r.fault = ⟨3, e.2, e.1⟩
 | .ok s => Sim s r ∧ Inv s ∧ LInv s ∧ s.toks = s0.toks ∧ s.start = s0.start ∧ s.types = s0.types ∧ s.prods = s0.prods ∧ r.level = r0.level ∧ r.inner = r0.inner ∧ r.prods = r0.prods
theorem rrules_step : ∀ (l : List Rule) {s : Mk} {r : Rk}, Sim s r → Inv s → LInv s → GoL (leftsGo l s) s r (rrules l r)
 | [], s, r, hS, h, hL => ⟨hS, h, hL, rfl, rfl, rfl, rfl, rfl, rfl, rfl⟩
 | x :: l, s, r, hS, h, hL => by
  have ht := rtok_ix h x.left false
  unfold leftsGo rrules
  have e0 : rrule r x = (let r1 := if (tokIx s.toks x.left false).isSome = true then rfail r x.at_ x.left else r
    if (rleft r1.lefts x.left).isNone = true then { r1 with lefts := r1.lefts ++ [x.left] } else r1) := by
   unfold rrule
   rw [hS.toks, ht]
  by_cases hb : (tokIx s.toks x.left false).isSome = true
  ·rw [if_pos hb]
   rw [if_pos hb] at e0
   have h2 : (rrule r x).fault = ⟨3, x.at_, x.left⟩ := by
    rw [e0]
    simp only
    split <;> (show (rfail r x.at_ x.left).fault = _; unfold rfail; rw [hS.ok, failF_ok])
   show (rrules l (rrule r x)).fault = _
   rw [rrules_keep l (by rw [h2]), h2]
  ·rw [if_neg hb]
   rw [if_neg hb] at e0
   simp only at e0
   rw [nonIx_isSome]
   rw [hS.lefts] at e0
   cases hx : rleft s.lefts x.left with
   | some k =>
    rw [hx] at e0
    simp only [Option.isNone_some, Bool.false_eq_true, if_false] at e0
    rw [e0]
    simp only [Option.isSome_some, if_true]
    exact rrules_step l hS h hL
   | none =>
    rw [hx] at e0
    simp only [Option.isNone_none, if_true] at e0
    rw [e0]
    simp only [Option.isSome_none, Bool.false_eq_true, if_false]
    have h1 := rrules_step l (s := { s with lefts := s.lefts ++ [x.left], nons := s.nons ++ [⟨x.left, (typeOf s.types x.left).getD []⟩] }) (r := { r with lefts := s.lefts ++ [x.left] }) ⟨hS.toks, hS.given, rfl, hS.types, hS.ok⟩ ⟨h.three, h.same, h.one, h.noerr, h.zero⟩ ⟨?_, ?_⟩
    ·exact h1
    ·intro nm k hk
     rw [rleft_snoc hx] at hk
     split at hk
     ·rename_i e
      rw [e]
      simpa using hb
     ·exact hL.apart nm k hk
    ·simp only
     rw [hL.nons]
     simp
theorem rnamesSyms_keep (kind : Int) : ∀ (l : List Sym) {r : Rk}, r.fault.err = 3 → (rnamesSyms kind l r).fault = r.fault
 | [], _, _ => rfl
 | x :: l, r, h => by
  unfold rnamesSyms
  have h1 : (rnameSym kind r x).fault = r.fault := by unfold rnameSym; split; exact failF_keep h _ _; rfl
  rw [rnamesSyms_keep kind l (by rw [h1]; exact h), h1]
theorem rnames_keep : ∀ (l : List Decl) {r : Rk}, r.fault.err = 3 → (rnames l r).fault = r.fault
 | [], _, _ => rfl
 | d :: l, r, h => by
  unfold rnames
  have h1 := rnamesSyms_keep d.kind d.syms h
  rw [rnames_keep l (by rw [h1]; exact h), h1]
def GoM (o : Option Stop) (r0 r : Rk) : Prop :=
 match o with
 | some e => r.fault = ⟨3, e.2, e.1⟩
 | none => r = r0
theorem rnamesSyms_step (kind : Int) {s : Mk} : ∀ (l : List Sym) {r : Rk}, Sim s r → GoM (namesOk s kind l) r (rnamesSyms kind l r)
 | [], _, _ => rfl
 | x :: l, r, hS => by
  have e : (nonIx s.lefts x.name).isNone = (rleft r.lefts x.name).isNone := by rw [hS.lefts, nonIx_left]; cases rleft s.lefts x.name <;> rfl
  unfold namesOk rnamesSyms
  rw [e]
  by_cases hb : 5 ≤ kind ∧ (rleft r.lefts x.name).isNone = true
  ·rw [if_pos hb]
   have h2 : (rnameSym kind r x).fault = ⟨3, x.at_, x.name⟩ := by unfold rnameSym; rw [if_pos hb]; show (rfail r x.at_ x.name).fault = _; unfold rfail; rw [hS.ok, failF_ok]
   show (rnamesSyms kind l _).fault = _
   rw [rnamesSyms_keep kind l (by rw [h2]), h2]
  ·rw [if_neg hb]
   have h2 : rnameSym kind r x = r := by unfold rnameSym; rw [if_neg hb]
   rw [h2]
   exact rnamesSyms_step kind l hS
theorem rnames_step {s : Mk} : ∀ (l : List Decl) {r : Rk}, Sim s r → GoM (declsNames s l) r (rnames l r)
 | [], _, _ => rfl
 | d :: l, r, hS => by
  have h1 := rnamesSyms_step d.kind d.syms hS
  unfold declsNames rnames
  cases ho : namesOk s d.kind d.syms with
  | some e =>
   rw [ho] at h1
   have h2 : (rnamesSyms d.kind d.syms r).fault = ⟨3, e.2, e.1⟩ := h1
   show (rnames l _).fault = _
   rw [rnames_keep l (by rw [h2]), h2]
  | none =>
   rw [ho] at h1
   have h2 : rnamesSyms d.kind d.syms r = r := h1
   rw [h2]
   exact rnames_step l hS
def Ext (s F : Mk) : Prop := F.lefts = s.lefts ∧ (∀ nm lt k, tokIx s.toks nm lt = some k → tokIx F.toks nm lt = some k) ∧ ∀ nm k, rleft s.lefts nm = some k → tokIx F.toks nm false = none
theorem Ext.refl {s : Mk} (h : LInv s) : Ext s s := ⟨rfl, fun _ _ _ h => h, fun nm k hk => h.apart nm k hk⟩
theorem Ext.trans {a b c : Mk} (h : Ext a b) (k : Ext b c) : Ext a c := ⟨k.1.trans h.1, fun nm lt i hi => k.2.1 nm lt i (h.2.1 nm lt i hi), fun nm i hi => k.2.2 nm i (by rw [h.1]; exact hi)⟩
structure Kept (s s' : Mk) (r r' : Rk) : Prop where
 sim : Sim s' r'
 inv : Inv s'
 linv : LInv s'
 ext : Ext s s'
 start : s'.start = s.start
 types : s'.types = s.types
 prods : s'.prods = s.prods
theorem addTok_ext {s : Mk} (x : Sym) (h : Inv s) (hL : LInv s) (hx : GoodSym x) (hl : x.lit = true) : Inv (addTok s x).1 ∧ LInv (addTok s x).1 ∧ Ext s (addTok s x).1 ∧ ∀ F, Ext (addTok s x).1 F → symNo F x = ((addTok s x).2 : Int) := by
 have hi := (addTok_inv x h hx).1
 refine ⟨hi, ?_⟩
 unfold addTok
 cases ho : tokIx s.toks x.name x.lit with
 | some t =>
  refine ⟨hL, Ext.refl hL, fun F hF => ?_⟩
  unfold symNo
  rw [hF.2.1 _ _ _ ho]
 | none =>
  simp only
  have hs := @tokIx_snoc s.toks ⟨x.name, x.lit, if x.lit = true then byte0 x.name else 0, 0, 0, []⟩
  have hap : ∀ nm k, rleft s.lefts nm = some k → tokIx (s.toks ++ [⟨x.name, x.lit, if x.lit = true then byte0 x.name else 0, 0, 0, []⟩]) nm false = none := fun nm k hk => by
   rw [hs h.three ho, if_neg (by rintro ⟨_, e⟩; rw [hl] at e; cases e)]
   exact hL.apart nm k hk
  refine ⟨⟨hap, hL.nons⟩, ⟨rfl, fun nm lt k hk => ?_, hap⟩, fun F hF => ?_⟩
  ·rw [hs h.three ho]
   by_cases e : nm = x.name ∧ lt = x.lit
   ·obtain ⟨rfl, rfl⟩ := e
    rw [ho] at hk
    cases hk
   ·rw [if_neg e]; exact hk
  ·unfold symNo
   rw [hF.2.1 x.name x.lit s.toks.length (by rw [hs h.three ho]; simp)]
theorem rput_keep {r : Rk} (x : Sym) (h : r.fault.err = 3) : (rput r x).1.fault = r.fault := by
 unfold rput
 split
 ·rfl
 ·simp only [failF_keep h]
  simp
theorem rsymbol_keep {r : Rk} (x : Sym) (h : r.fault.err = 3) : (rsymbol r x).1.fault = r.fault := by
 unfold rsymbol
 split
 ·exact rput_keep x h
 ·split
  ·rfl
  ·split
   ·exact failF_keep h _ _
   ·rfl
def GoS (o : Except Stop Mk) (s : Mk) (r : Rk) (q : Rk × Int) (N : Mk → Int) : Prop :=
 match o with
 | .error e => q.1.fault = ⟨3, e.2, e.1⟩
 | .ok s' => Kept s s' r q.1 ∧ q.1.inner = r.inner ∧ q.1.prods = r.prods ∧ ∀ F, Ext s' F → q.2 = N F
theorem rfail_fault {s : Mk} {r : Rk} (hS : Sim s r) (at_ : Int) (nm : List UInt8) : (rfail r at_ nm).fault = ⟨3, at_, nm⟩ := by unfold rfail; rw [hS.ok, failF_ok]
theorem rsymbol_lit {s : Mk} {r : Rk} (x : Sym) (prec : Bool) (hS : Sim s r) (h : Inv s) (hL : LInv s) (hx : GoodSym x) (hl : x.lit = true) : GoS (used s x prec) s r (rsymbol r x) (fun F => symNo F x) := by
 unfold used rsymbol
 rw [if_pos hl, if_pos hl]
 obtain ⟨e1, e2⟩ := rput_sim x hS h hx
 obtain ⟨i1, i2, i3, i4⟩ := addTok_ext x h hL hx hl
 rw [e1, e2]
 obtain ⟨⟨j1, j2, j3⟩, j4, j5⟩ := addTok_same s x
 cases hc : clash s x with
 | true =>
  rw [if_pos rfl]
  rfl
 | false =>
  rw [if_neg (by simp)]
  refine ⟨⟨⟨rfl, rfl, ?_, fun nm => ?_, rfl⟩, i1, i2, i3, j5, j4, j3⟩, rfl, rfl, fun F hF => (i4 F hF).symm⟩
  ·rw [j1]; exact hS.lefts
  ·rw [j4]; exact hS.types nm
theorem rsymbol_step {s : Mk} {r : Rk} (x : Sym) (hS : Sim s r) (h : Inv s) (hL : LInv s) (hx : GoodSym x) : GoS (used s x false) s r (rsymbol r x) (fun F => symNo F x) := by
 cases hl : x.lit with
 | true => exact rsymbol_lit x false hS h hL hx hl
 | false =>
  have e1 : used s x false = if (tokIx s.toks x.name false).isNone = true ∧ (false = true ∨ (nonIx s.lefts x.name).isNone = true) then .error (x.name, x.at_) else .ok s := by
   unfold used
   rw [hl, if_neg (by simp)]
  have e2 : rsymbol r x = (match rleft s.lefts x.name with
    | some k => (r, 1000 + 1 + (k : Int))
    | none =>
     match tokIx s.toks x.name false with
     | none => (rfail r x.at_ x.name, 0)
     | some t => (r, (t : Int))) := by
   unfold rsymbol
   rw [hl, if_neg (by simp), hS.lefts, hS.toks, rtok_ix h]
   cases rleft s.lefts x.name with
   | some k => rfl
   | none => cases tokIx s.toks x.name false <;> rfl
  rw [e1, e2]
  have en : (nonIx s.lefts x.name).isNone = (rleft s.lefts x.name).isNone := by rw [nonIx_left]; cases rleft s.lefts x.name <;> rfl
  rw [en]
  cases hr : rleft s.lefts x.name with
  | some k =>
   have ht := hL.apart _ _ hr
   rw [ht]
   simp only [Option.isNone_some, Bool.false_eq_true, or_self, and_false, if_false]
   refine ⟨⟨hS, h, hL, Ext.refl hL, rfl, rfl, rfl⟩, rfl, rfl, fun F hF => ?_⟩
   simp only
   unfold symNo
   rw [hl, hF.2.2 _ _ hr, hF.1, nonIx_left, hr]
   simp
   omega
  | none =>
   cases ht : tokIx s.toks x.name false with
   | none =>
    simp only [Option.isNone_none, or_true, and_self, if_true]
    exact rfail_fault hS _ _
   | some t =>
    simp only [Option.isNone_some, Bool.false_eq_true, false_and, if_false]
    refine ⟨⟨hS, h, hL, Ext.refl hL, rfl, rfl, rfl⟩, rfl, rfl, fun F hF => ?_⟩
    simp only
    unfold symNo
    rw [hl, hF.2.1 _ _ _ ht]
theorem raltPrec_step {s : Mk} {r : Rk} (a : Alt) (c : Int) (hS : Sim s r) (h : Inv s) (hL : LInv s) (hx : GoodSym a.prec) :
  GoS (if a.prec.name = [] then .ok s else used s a.prec true) s r (raltPrec r a c) (fun F => if a.prec.name = [] then c else symNo F a.prec) := by
 unfold raltPrec
 by_cases hn : a.prec.name = []
 ·rw [if_pos hn, if_pos hn]
  exact ⟨⟨hS, h, hL, Ext.refl hL, rfl, rfl, rfl⟩, rfl, rfl, fun F _ => by simp only [if_pos hn]⟩
 ·rw [if_neg hn, if_neg hn]
  simp only [if_neg hn]
  cases hl : a.prec.lit with
  | true =>
   rw [if_pos (.inl rfl)]
   exact rsymbol_lit a.prec true hS h hL hx hl
  | false =>
   have en : (nonIx s.lefts a.prec.name).isNone = (rleft s.lefts a.prec.name).isNone := by rw [nonIx_left]; cases rleft s.lefts a.prec.name <;> rfl
   rw [hS.lefts]
   cases hr : rleft s.lefts a.prec.name with
   | some k =>
    rw [if_neg (by simp)]
    have ht := hL.apart _ _ hr
    unfold used
    rw [hl, ht, if_neg (by simp), if_pos (by simp)]
    exact rfail_fault hS _ _
   | none =>
    rw [if_pos (.inr rfl)]
    have h1 := rsymbol_step a.prec hS h hL hx
    have e : used s a.prec true = used s a.prec false := by
     unfold used
     rw [hl, en, hr]
     simp
    rw [e]
    exact h1
theorem raltPrec_keep {r : Rk} (a : Alt) (c : Int) (h : r.fault.err = 3) : (raltPrec r a c).1.fault = r.fault := by
 unfold raltPrec
 split
 ·rfl
 ·split
  ·exact rsymbol_keep _ h
  ·exact failF_keep h _ _
theorem raltGo_keep (n : Nat) : ∀ (l : List Part) (i : Nat) {r : Rk} {p : Prod}, r.fault.err = 3 → (raltGo n i l (r, p)).1.fault = r.fault
 | [], _, _, _, _ => rfl
 | w :: l, i, r, p, h => by
  unfold raltGo
  split
  ·have h1 := rsymbol_keep w.sym h
   simp only
   rw [raltGo_keep n l (i + 1) (by rw [h1]; exact h), h1]
  ·split
   ·exact raltGo_keep n l (i + 1) h
   ·simp only
    exact raltGo_keep n l (i + 1) (r := { r with inner := r.inner + 1, prods := _ }) h
theorem rprecGo_snoc (x : Int) : ∀ (l : List Int) (c : Int), rprecGo (l ++ [x]) c = if x < 1000 then x else rprecGo l c
 | [], _ => rfl
 | y :: l, c => by
  show rprecGo (l ++ [x]) _ = _
  rw [rprecGo_snoc x l]
  rfl
structure PP (a b : Prod) : Prop where
 left : a.left = b.left
 right : a.right = b.right
 code : a.code = b.code
 at_ : a.at_ = b.at_
 prec : a.prec = rprecGo b.right (-1)
 none : b.prec = -1
structure GG (F G : Mk) (L : List Non) (r : Rk) : Prop where
 toks : G.toks = F.toks
 lefts : G.lefts = F.lefts
 given : G.given = F.given
 types : G.types = F.types
 prods : G.prods = r.prods
 nons : G.nons = L ++ innerNons r.inner
 len : L.length = 1 + F.lefts.length
def GoA (o : Except Stop Mk) (s : Mk) (r r' : Rk) (N : Mk → Prop) : Prop :=
 match o with
 | .error e => r'.fault = ⟨3, e.2, e.1⟩
 | .ok s' => Kept s s' r r' ∧ ∀ F, Ext s' F → N F
theorem innerNons_length : ∀ n, (innerNons n).length = n
 | 0 => rfl
 | n + 1 => by unfold innerNons; simp [innerNons_length n]
theorem Kept.trans {s s1 s2 : Mk} {r r1 r2 : Rk} (h : Kept s s1 r r1) (k : Kept s1 s2 r1 r2) : Kept s s2 r r2 := ⟨k.sim, k.inv, k.linv, h.ext.trans k.ext, k.start.trans h.start, k.types.trans h.types, k.prods.trans h.prods⟩
theorem symNo_congr {F G : Mk} (h1 : G.toks = F.toks) (h2 : G.lefts = F.lefts) (x : Sym) : symNo G x = symNo F x := by unfold symNo; rw [h1, h2]
theorem raltGo_step (n : Nat) : ∀ (l : List Part) (i : Nat) {s : Mk} {r : Rk} {p : Prod}, Sim s r → Inv s → LInv s → (∀ w ∈ l, w.code = [] → GoodSym w.sym) →
  GoA (partsGo2 l s) s r (raltGo n i l (r, p)).1 (fun F => ∀ (G : Mk) (L : List Non) (pp : Prod), GG F G L r → PP pp p →
   PP (altGo n i l (pp, r.inner, G)).1 (raltGo n i l (r, p)).2 ∧ (altGo n i l (pp, r.inner, G)).2.1 = (raltGo n i l (r, p)).1.inner ∧ GG F (altGo n i l (pp, r.inner, G)).2.2 L (raltGo n i l (r, p)).1)
 | [], i, s, r, p, hS, h, hL, _ => ⟨⟨hS, h, hL, Ext.refl hL, rfl, rfl, rfl⟩, fun F _ G L pp hG hp => ⟨hp, rfl, hG⟩⟩
 | w :: l, i, s, r, p, hS, h, hL, hx => by
  unfold partsGo2 raltGo
  by_cases hc : w.code = []
  ·rw [if_pos hc, if_pos hc]
   have h1 := rsymbol_step w.sym hS h hL (hx w (by simp) hc)
   generalize hq : rsymbol r w.sym = q at *
   obtain ⟨r1, c⟩ := q
   simp only at h1 ⊢
   cases hu : used s w.sym false with
   | error e =>
    rw [hu] at h1
    have h2 : r1.fault = ⟨3, e.2, e.1⟩ := h1
    show (raltGo n (i + 1) l _).1.fault = _
    rw [raltGo_keep n l (i + 1) (by rw [h2]), h2]
   | ok s1 =>
    rw [hu] at h1
    obtain ⟨k1, k2, k3, k4⟩ := h1
    simp only at k1 k2 k3 k4
    have h2 := raltGo_step n l (i + 1) (p := { p with right := p.right ++ [c] }) k1.sim k1.inv k1.linv (fun w hw => hx w (by simp [hw]))
    simp only
    cases hp2 : partsGo2 l s1 with
    | error e => rw [hp2] at h2; exact h2
    | ok s2 =>
     rw [hp2] at h2
     obtain ⟨m1, m2⟩ := h2
     refine ⟨k1.trans m1, fun F hF G L pp hG hpp => ?_⟩
     have hcF := k4 F (m1.ext.trans hF)
     have h3 := m2 F hF G L { pp with right := pp.right ++ [c], prec := if c < 1000 then c else pp.prec } ⟨hG.toks, hG.lefts, hG.given, hG.types, by rw [k3]; exact hG.prods, by rw [k2]; exact hG.nons, hG.len⟩
      ⟨hpp.left, by simp only; rw [hpp.right], hpp.code, hpp.at_, by simp only; rw [rprecGo_snoc, hpp.prec], hpp.none⟩
     have e : altGo n i (w :: l) (pp, r.inner, G) = altGo n (i + 1) l ({ pp with right := pp.right ++ [c], prec := if c < 1000 then c else pp.prec }, r1.inner, G) := by
      conv => lhs; unfold altGo
      rw [if_pos hc]
      simp only
      rw [symNo_congr hG.toks hG.lefts, ← hcF, k2]
     rw [e]
     exact h3
  ·rw [if_neg hc, if_neg hc]
   by_cases hn : i + 1 = n
   ·rw [if_pos hn]
    have h2 := raltGo_step n l (i + 1) (p := { p with code := w.code, at_ := w.at_ }) hS h hL (fun w hw => hx w (by simp [hw]))
    cases hp2 : partsGo2 l s with
    | error e => rw [hp2] at h2; exact h2
    | ok s2 =>
     rw [hp2] at h2
     obtain ⟨m1, m2⟩ := h2
     refine ⟨m1, fun F hF G L pp hG hpp => ?_⟩
     have h3 := m2 F hF G L { pp with code := w.code, at_ := w.at_ } hG ⟨hpp.left, hpp.right, rfl, rfl, hpp.prec, hpp.none⟩
     have e : altGo n i (w :: l) (pp, r.inner, G) = altGo n (i + 1) l ({ pp with code := w.code, at_ := w.at_ }, r.inner, G) := by
      conv => lhs; unfold altGo
      rw [if_neg hc, if_pos hn]
     rw [e]
     exact h3
   ·rw [if_neg hn]
    simp only
    generalize hr2 : ({ r with inner := r.inner + 1, prods := r.prods ++ [⟨(r.lefts.length : Int) + ((r.inner + 1 : Nat) : Int), [], -1, w.code, p.right, w.at_⟩] } : Rk) = r2
    have hS2 : Sim s r2 := by rw [← hr2]; exact ⟨hS.toks, hS.given, hS.lefts, hS.types, hS.ok⟩
    have hi2 : r2.inner = r.inner + 1 := by rw [← hr2]
    have h2 := raltGo_step n l (i + 1) (p := { p with right := p.right ++ [1000 + ((r.lefts.length : Int) + ((r.inner + 1 : Nat) : Int))] }) hS2 h hL (fun w hw => hx w (by simp [hw]))
    cases hp2 : partsGo2 l s with
    | error e => rw [hp2] at h2; exact h2
    | ok s2 =>
     rw [hp2] at h2
     obtain ⟨m1, m2⟩ := h2
     refine ⟨⟨m1.sim, m1.inv, m1.linv, m1.ext, m1.start, m1.types, m1.prods⟩, fun F hF G L pp hG hpp => ?_⟩
     have hlf : r.lefts.length = F.lefts.length := by rw [(m1.ext.trans hF).1, hS.lefts]
     have hlen : (G.nons ++ [(⟨64 :: Lib.itoa ((r.inner + 1 : Nat) : Int), []⟩ : Non)]).length = 1 + r.lefts.length + (r.inner + 1) := by
      rw [List.length_append, hG.nons, List.length_append, innerNons_length, hG.len, hlf]
      simp
      omega
     have e : altGo n i (w :: l) (pp, r.inner, G) = altGo n (i + 1) l ({ pp with right := pp.right ++ [1000 + ((r.lefts.length : Int) + ((r.inner + 1 : Nat) : Int))] }, r2.inner, { G with nons := G.nons ++ [⟨64 :: Lib.itoa ((r.inner + 1 : Nat) : Int), []⟩], prods := r2.prods }) := by
      conv => lhs; unfold altGo
      rw [if_neg hc, if_neg hn]
      simp only
      rw [hlen, hi2, ← hr2]
      simp only
      rw [hG.prods, hpp.right]
      have e1 : ((1 + r.lefts.length + (r.inner + 1) : Nat) : Int) - 1 = (r.lefts.length : Int) + ((r.inner + 1 : Nat) : Int) := by omega
      have e2 : 1000 + ((1 + r.lefts.length + (r.inner + 1) : Nat) : Int) - 1 = 1000 + ((r.lefts.length : Int) + ((r.inner + 1 : Nat) : Int)) := by omega
      rw [e1, e2]
     rw [e]
     refine m2 F hF _ L _ ⟨hG.toks, hG.lefts, hG.given, hG.types, rfl, ?_, hG.len⟩ ⟨hpp.left, by simp only; rw [hpp.right], hpp.code, hpp.at_, ?_, hpp.none⟩
     ·simp only
      rw [hi2, hG.nons, List.append_assoc]
      rfl
     ·simp only
      rw [rprecGo_snoc, if_neg (by omega), hpp.prec]
theorem ralt_keep {r : Rk} (left : List UInt8) (a : Alt) (h : r.fault.err = 3) : (ralt r left a).fault = r.fault := by
 unfold ralt
 simp only
 have h1 := raltGo_keep a.parts.length a.parts 0 (p := ⟨1 + leftNo r.lefts left, [], -1, [], [], a.at_⟩) h
 rw [raltPrec_keep a _ (by rw [h1]; exact h), h1]
theorem ralts_keep (left : List UInt8) : ∀ (l : List Alt) {r : Rk}, r.fault.err = 3 → (ralts left l r).fault = r.fault
 | [], _, _ => rfl
 | a :: l, r, h => by
  have h1 := ralt_keep left a h
  unfold ralts
  rw [ralts_keep left l (by rw [h1]; exact h), h1]
theorem rrulesAlts_keep : ∀ (l : List Rule) {r : Rk}, r.fault.err = 3 → (rrulesAlts l r).fault = r.fault
 | [], _, _ => rfl
 | x :: l, r, h => by
  have h1 := ralts_keep x.left x.alts h
  unfold rrulesAlts
  rw [rrulesAlts_keep l (by rw [h1]; exact h), h1]
def GoodAlt (a : Alt) : Prop := (∀ w ∈ a.parts, w.code = [] → GoodSym w.sym) ∧ GoodSym a.prec
def NG (F : Mk) (L : List Non) (g : Nat × Mk) (r : Rk) : Prop := g.1 = r.inner ∧ GG F g.2 L r
theorem leftNo_ix (lefts : List (List UInt8)) (nm : List UInt8) : 1 + leftNo lefts nm = (((nonIx lefts nm).getD 0 : Nat) : Int) := by
 rw [nonIx_left]
 unfold leftNo
 cases rleft lefts nm with
 | none => rfl
 | some k => simp; omega
theorem alt_parts (l : List Alt) (a : Alt) (s : Mk) : altsGo2 (a :: l) s = (match partsGo2 a.parts s with
  | .error e => .error e
  | .ok s1 => match (if a.prec.name = [] then Except.ok s1 else used s1 a.prec true) with
   | .error e => .error e
   | .ok s2 => altsGo2 l s2) := by
 conv => lhs; unfold altsGo2
 cases partsGo2 a.parts s with
 | error e => rfl
 | ok s1 =>
  simp only
  split <;> rfl
theorem ralt_step {left : List UInt8} {a : Alt} {s : Mk} {r : Rk} (hS : Sim s r) (h : Inv s) (hL : LInv s) (hx : GoodAlt a) :
  GoA (match partsGo2 a.parts s with
   | .error e => .error e
   | .ok s1 => if a.prec.name = [] then Except.ok s1 else used s1 a.prec true) s r (ralt r left a) (fun F => ∀ (G : Mk) (L : List Non), GG F G L r → NG F L (altMk (((nonIx F.lefts left).getD 0 : Nat) : Int) a r.inner G) (ralt r left a)) := by
 have h1 := raltGo_step a.parts.length a.parts 0 (p := ⟨1 + leftNo r.lefts left, [], -1, [], [], a.at_⟩) hS h hL hx.1
 unfold ralt
 simp only
 generalize hq : raltGo a.parts.length 0 a.parts (r, ⟨1 + leftNo r.lefts left, [], -1, [], [], a.at_⟩) = q at *
 obtain ⟨r1, p⟩ := q
 simp only at h1 ⊢
 cases hp : partsGo2 a.parts s with
 | error e =>
  rw [hp] at h1
  have h2 : r1.fault = ⟨3, e.2, e.1⟩ := h1
  show (raltPrec r1 a _).1.fault = _
  rw [raltPrec_keep a _ (by rw [h2]), h2]
 | ok s1 =>
  rw [hp] at h1
  obtain ⟨k1, k2⟩ := h1
  simp only
  have h3 := raltPrec_step a (rprecGo p.right p.prec) k1.sim k1.inv k1.linv hx.2
  generalize hc : raltPrec r1 a (rprecGo p.right p.prec) = c at *
  obtain ⟨r2, cc⟩ := c
  cases hu : (if a.prec.name = [] then Except.ok s1 else used s1 a.prec true) with
  | error e =>
   rw [hu] at h3
   exact h3
  | ok s2 =>
   rw [hu] at h3
   obtain ⟨m1, m2, m3, m4⟩ := h3
   simp only at m1 m2 m3 m4
   have hk := k1.trans m1
   refine ⟨⟨⟨hk.sim.toks, hk.sim.given, hk.sim.lefts, hk.sim.types, hk.sim.ok⟩, hk.inv, hk.linv, hk.ext, hk.start, hk.types, hk.prods⟩, fun F hF G L hG => ?_⟩
   have hF1 := m1.ext.trans hF
   have hlf : r.lefts = F.lefts := by rw [(hk.ext.trans hF).1, hS.lefts]
   obtain ⟨n1, n2, n3⟩ := k2 F hF1 G L ⟨(((nonIx F.lefts left).getD 0 : Nat) : Int), [], -1, [], [], a.at_⟩ hG ⟨by simp only; rw [hlf, leftNo_ix], rfl, rfl, rfl, rfl, rfl⟩
   unfold altMk
   simp only
   generalize altGo a.parts.length 0 a.parts (⟨(((nonIx F.lefts left).getD 0 : Nat) : Int), [], -1, [], [], a.at_⟩, r.inner, G) = g at *
   obtain ⟨gp, gi, gs⟩ := g
   simp only at n1 n2 n3 ⊢
   have hcc := m4 F hF
   refine ⟨by simp only; rw [n2, m2], ⟨n3.toks, n3.lefts, n3.given, n3.types, ?_, by simp only; rw [m2]; exact n3.nons, n3.len⟩⟩
   simp only
   rw [n3.prods, m3]
   congr 2
   obtain ⟨gl, gr, gpr, gc, ga, gat⟩ := gp
   obtain ⟨pl, pr, ppr, pc, pa, pat⟩ := p
   obtain ⟨e1, e2, e3, e4, e5, e6⟩ := n1
   simp only at e1 e2 e3 e4 e5 e6 hcc
   subst e1 e2 e3 e4 e6
   by_cases hn : a.prec.name = []
   ·rw [if_pos hn] at hcc ⊢
    simp only
    rw [e5, hcc]
   ·rw [if_neg hn] at hcc ⊢
    simp only
    rw [hcc, symNo_congr n3.toks n3.lefts]
theorem ralts_step (left : List UInt8) : ∀ (l : List Alt) {s : Mk} {r : Rk}, Sim s r → Inv s → LInv s → (∀ a ∈ l, GoodAlt a) →
  GoA (altsGo2 l s) s r (ralts left l r) (fun F => ∀ (G : Mk) (L : List Non), GG F G L r → NG F L (altsMk (((nonIx F.lefts left).getD 0 : Nat) : Int) l (r.inner, G)) (ralts left l r))
 | [], s, r, hS, h, hL, _ => ⟨⟨hS, h, hL, Ext.refl hL, rfl, rfl, rfl⟩, fun F _ G L hG => ⟨rfl, hG⟩⟩
 | a :: l, s, r, hS, h, hL, hx => by
  have h1 := ralt_step (left := left) hS h hL (hx a (by simp))
  rw [alt_parts]
  unfold ralts
  generalize hr : ralt r left a = r1 at *
  cases hp : partsGo2 a.parts s with
  | error e =>
   rw [hp] at h1
   have h2 : r1.fault = ⟨3, e.2, e.1⟩ := h1
   show (ralts left l r1).fault = _
   rw [ralts_keep left l (by rw [h2]), h2]
  | ok s1 =>
   rw [hp] at h1
   simp only at h1 ⊢
   cases hu : (if a.prec.name = [] then Except.ok s1 else used s1 a.prec true) with
   | error e =>
    rw [hu] at h1
    have h2 : r1.fault = ⟨3, e.2, e.1⟩ := h1
    show (ralts left l r1).fault = _
    rw [ralts_keep left l (by rw [h2]), h2]
   | ok s2 =>
    rw [hu] at h1
    obtain ⟨k1, k2⟩ := h1
    have h2 := ralts_step left l k1.sim k1.inv k1.linv (fun a ha => hx a (by simp [ha]))
    simp only
    cases hp2 : altsGo2 l s2 with
    | error e => rw [hp2] at h2; exact h2
    | ok s3 =>
     rw [hp2] at h2
     obtain ⟨m1, m2⟩ := h2
     refine ⟨k1.trans m1, fun F hF G L hG => ?_⟩
     obtain ⟨n1, n2⟩ := k2 F (m1.ext.trans hF) G L hG
     have e : altsMk (((nonIx F.lefts left).getD 0 : Nat) : Int) (a :: l) (r.inner, G) = altsMk (((nonIx F.lefts left).getD 0 : Nat) : Int) l (r1.inner, (altMk (((nonIx F.lefts left).getD 0 : Nat) : Int) a r.inner G).2) := by
      rw [← n1]
      rfl
     rw [e]
     exact m2 F hF _ L n2
theorem rrulesAlts_step : ∀ (l : List Rule) {s : Mk} {r : Rk}, Sim s r → Inv s → LInv s → (∀ x ∈ l, ∀ a ∈ x.alts, GoodAlt a) →
  GoA (partsMk l s) s r (rrulesAlts l r) (fun F => ∀ (G : Mk) (L : List Non), GG F G L r → NG F L (rulesMk l (r.inner, G)) (rrulesAlts l r))
 | [], s, r, hS, h, hL, _ => ⟨⟨hS, h, hL, Ext.refl hL, rfl, rfl, rfl⟩, fun F _ G L hG => ⟨rfl, hG⟩⟩
 | x :: l, s, r, hS, h, hL, hx => by
  have h1 := ralts_step x.left x.alts hS h hL (hx x (by simp))
  unfold partsMk rrulesAlts
  generalize hr : ralts x.left x.alts r = r1 at *
  cases hp : altsGo2 x.alts s with
  | error e =>
   rw [hp] at h1
   have h2 : r1.fault = ⟨3, e.2, e.1⟩ := h1
   show (rrulesAlts l r1).fault = _
   rw [rrulesAlts_keep l (by rw [h2]), h2]
  | ok s1 =>
   rw [hp] at h1
   obtain ⟨k1, k2⟩ := h1
   have h2 := rrulesAlts_step l k1.sim k1.inv k1.linv (fun y hy => hx y (by simp [hy]))
   simp only
   cases hp2 : partsMk l s1 with
   | error e => rw [hp2] at h2; exact h2
   | ok s2 =>
    rw [hp2] at h2
    obtain ⟨m1, m2⟩ := h2
    refine ⟨k1.trans m1, fun F hF G L hG => ?_⟩
    obtain ⟨n1, n2⟩ := k2 F (m1.ext.trans hF) G L hG
    have e : rulesMk (x :: l) (r.inner, G) = rulesMk l (r1.inner, (altsMk (((nonIx F.lefts x.left).getD 0 : Nat) : Int) x.alts (r.inner, G)).2) := by
     rw [← n1]
     show rulesMk l (altsMk (((nonIx G.lefts x.left).getD 0 : Nat) : Int) x.alts (r.inner, G)) = _
     rw [hG.lefts]
    rw [e]
    exact m2 F hF _ L n2
theorem numGo_length : ∀ (ts : List Tok) (gs : List Bool) (n : Int), (numGo n ts gs).length = ts.length
 | [], _, _ => by simp [numGo]
 | t :: ts, [], _ => by simp [numGo]
 | t :: ts, g :: gs, n => by
  unfold numGo
  split <;> simp [numGo_length ts gs]
theorem quotable_byte0 {l : List UInt8} (h : quotable l = true) : byte0 l ≠ 0 := by
 unfold quotable at h
 split at h
 ·rename_i c
  intro e
  have hc : c = 0 := by
   unfold byte0 at e
   simp at e
   apply UInt8.toNat_inj.1
   simpa using e
  subst hc
  revert h
  decide
 ·cases h
theorem good_of_sym {x : Sym} (h : isSym x = true) (hn : x.num ≠ 0 → x.lit = false) : GoodSym x := by
 refine ⟨fun hl => ?_, hn⟩
 unfold isSym at h
 rw [if_pos hl] at h
 exact quotable_byte0 h
theorem may_good {x : Source} (h : may x = true) : (∀ d ∈ x.decls, GoodDecl d) ∧ (∀ u ∈ x.rules, ∀ a ∈ u.alts, GoodAlt a) ∧ x.rules ≠ [] := by
 unfold may at h
 simp only [Bool.and_eq_true, decide_eq_true_eq, List.all_eq_true] at h
 obtain ⟨⟨⟨_, h1⟩, h2⟩, h3⟩ := h
 refine ⟨fun d hd => ?_, fun u hu a ha => ?_, fun e => by rw [e] at h1; simp at h1⟩
 ·have h := h2 d hd
  unfold mayDecl at h
  split at h
  ·cases h
  ·rename_i hk
   split at h
   ·cases h
   ·split at h
    ·cases h
    ·refine ⟨by omega, fun y hy => ?_⟩
     have hm := List.all_eq_true.1 h y hy
     unfold maySym at hm
     split at hm
     ·cases hm
     ·rename_i h5
      split at hm
      ·cases hm
      ·rename_i h6
       refine good_of_sym (by cases hs : isSym y; exact absurd (.inl hs) h5; rfl) (fun hn => ?_)
       cases hl : y.lit with
       | false => rfl
       | true => exact absurd ⟨hn, .inr (.inl hl)⟩ h6
 ·have h := h3 u hu
  unfold mayRule at h
  simp only [Bool.and_eq_true, List.all_eq_true] at h
  have h4 := h.2 a ha
  unfold mayAlt at h4
  simp only [Bool.and_eq_true, List.all_eq_true] at h4
  refine ⟨fun w hw hc => ?_, ?_⟩
  ·have h5 := h4.2 w hw
   unfold mayPart at h5
   rw [if_pos hc] at h5
   unfold isBare at h5
   simp only [Bool.and_eq_true, beq_iff_eq] at h5
   exact good_of_sym h5.1 (fun hn => absurd h5.2 hn)
  ·have h5 := h4.1
   simp only [Bool.or_eq_true] at h5
   rcases h5 with h5 | h5
   ·unfold isNone at h5
    simp only [Bool.and_eq_true, beq_iff_eq, Bool.not_eq_true'] at h5
    exact ⟨fun hl => (by rw [h5.1.2] at hl; cases hl), fun hn => absurd h5.2 hn⟩
   ·unfold isBare at h5
    simp only [Bool.and_eq_true, beq_iff_eq] at h5
    exact good_of_sym h5.1 (fun hn => absurd h5.2 hn)
theorem mk0_inv : Inv mk0 := by
 refine ⟨by decide, by decide, ⟨_, rfl, rfl, rfl⟩, fun i t hi ht => ?_, fun i t hi ht => ?_⟩
 ·have := (List.getElem?_eq_some_iff.1 ht).1
  simp [mk0] at this
  omega
 ·have := (List.getElem?_eq_some_iff.1 ht).1
  simp [mk0] at this
  omega
theorem refGram_eq (x : Source) : refGram x = gramOf x := by
 unfold refGram gramOf
 cases hm : may x with
 | false => rfl
 | true =>
  obtain ⟨g1, g2, g3⟩ := may_good hm
  simp only [Bool.true_eq_false, if_false]
  obtain ⟨lv, h1⟩ := rdecls_step x.decls (level := 0) (s := mk0) (r := rk0) ⟨rfl, rfl, rfl, fun _ => rfl, rfl⟩ mk0_inv rfl rfl rfl g1
  have hsame := @declsMk_same x.decls 0 mk0
  unfold rmade
  simp only
  have e0 : rdecls x.decls (rk0, []) = rdecls x.decls (rk0, mk0.start) := rfl
  rw [e0]
  generalize rdecls x.decls (rk0, mk0.start) = q at *
  obtain ⟨r1, st⟩ := q
  simp only at h1 ⊢
  have hfin : ∀ (e : Stop) (R : Rk), R.fault = ⟨3, e.2, e.1⟩ → (if R.fault.err ≠ 0 then (noGram, R.fault) else if rgreat R = true then (noGram, ⟨4, 0, []⟩) else (⟨rnumbers R, rnons R, R.prods, x.pro, x.tail⟩, okFault)) = (noGram, (⟨3, e.2, e.1⟩ : Fault)) := by
   intro e R hR
   rw [hR]
   rfl
  cases hd : declsMk 0 x.decls mk0 with
  | error e =>
   rw [hd] at h1
   have h2 : r1.fault = ⟨3, e.2, e.1⟩ := h1
   have h3 : (rnames x.decls (rrules x.rules r1)).fault = ⟨3, e.2, e.1⟩ := by
    rw [rnames_keep _ (by rw [rrules_keep _ (by rw [h2]), h2]), rrules_keep _ (by rw [h2]), h2]
   refine hfin e _ ?_
   rw [rrulesAlts_keep _ (by simp only; rw [h3])]
   exact h3
  | ok s1 =>
   rw [hd] at h1
   obtain ⟨k1, k2, k3, k4, k5, k6⟩ := h1
   simp only at k1 k3 k4 k5 k6
   obtain ⟨sm1, sm2, sm3⟩ := hsame hd
   have hL : LInv s1 := ⟨fun nm k hk => (by rw [sm1] at hk; cases hk), by rw [sm2, sm1]; rfl⟩
   have h2 := rrules_step x.rules k1 k2 hL
   simp only
   unfold leftsMk
   generalize rrules x.rules r1 = r2 at *
   cases hl : leftsGo x.rules s1 with
   | error e =>
    rw [hl] at h2
    have h3 : r2.fault = ⟨3, e.2, e.1⟩ := h2
    have h4 : (rnames x.decls r2).fault = ⟨3, e.2, e.1⟩ := by rw [rnames_keep _ (by rw [h3]), h3]
    refine hfin e _ ?_
    rw [rrulesAlts_keep _ (by simp only; rw [h4])]
    exact h4
   | ok s2 =>
    rw [hl] at h2
    obtain ⟨m1, m2, m3, m4, m5, m6, m7, m8, m9, m10⟩ := h2
    have h3 := rnames_step x.decls m1
    simp only
    cases hnm : declsNames s2 x.decls with
    | some e =>
     rw [hnm] at h3
     have h4 : (rnames x.decls r2).fault = ⟨3, e.2, e.1⟩ := h3
     refine hfin e _ ?_
     rw [rrulesAlts_keep _ (by simp only; rw [h4])]
     exact h4
    | none =>
     rw [hnm] at h3
     have h4 : rnames x.decls r2 = r2 := h3
     rw [h4]
     simp only
     generalize hst : (if st = [] then (match x.rules with
      | [] => []
      | u :: _ => u.left) else st) = start
     generalize hr3 : ({ r2 with prods := [⟨0, [1000 + 1 + leftNo r2.lefts start], -1, [], [], 0⟩] } : Rk) = r3
     have hS3 : Sim s2 r3 := by rw [← hr3]; exact ⟨m1.toks, m1.given, m1.lefts, m1.types, m1.ok⟩
     have h5 := rrulesAlts_step x.rules hS3 m2 m3 g2
     generalize hr4 : rrulesAlts x.rules r3 = r4 at *
     cases hp : partsMk x.rules s2 with
     | error e =>
      rw [hp] at h5
      exact hfin e _ h5
     | ok s3 =>
      rw [hp] at h5
      obtain ⟨n1, n2⟩ := h5
      have hi3 : r3.inner = 0 := by rw [← hr3]; simp only; rw [m9, k5]
      have hp3 : r3.prods = [⟨0, [1000 + 1 + leftNo r2.lefts start], -1, [], [], 0⟩] := by rw [← hr3]
      have hG : GG s3 { s3 with prods := s3.prods ++ [⟨0, [(1000 : Int) + (((nonIx s3.lefts start).getD 0 : Nat) : Int)], -1, [], [], 0⟩] } s3.nons r3 := by
       refine ⟨rfl, rfl, rfl, rfl, ?_, ?_, ?_⟩
       ·simp only
        rw [n1.prods, m7, sm3, hp3]
        have e1 := leftNo_ix r2.lefts start
        rw [m1.lefts, ← n1.ext.1] at e1
        rw [← e1, m1.lefts, ← n1.ext.1]
        show [] ++ _ = _
        simp
        omega
       ·simp only
        rw [hi3]
        unfold innerNons
        simp
       ·rw [n1.linv.nons]
        simp
        omega
      have h6 := n2 s3 (Ext.refl n1.linv) _ _ hG
      rw [hi3] at h6
      have hpm : prodsMk x s3 = (rulesMk x.rules (0, { s3 with prods := s3.prods ++ [⟨0, [(1000 : Int) + (((nonIx s3.lefts start).getD 0 : Nat) : Int)], -1, [], [], 0⟩] })).2 := by
       have hfirst : (if s3.start = [] then (match x.rules with
         | [] => []
         | u :: _ => u.left) else s3.start) = start := by
        rw [← hst, n1.start, m5, k3]
       have e : prodsMk x s3 = (rulesMk x.rules (0, { s3 with prods := s3.prods ++ [⟨0, [(1000 : Int) + (((nonIx s3.lefts (if s3.start = [] then (match x.rules with
         | [] => []
         | u :: _ => u.left) else s3.start)).getD 0 : Nat) : Int)], -1, [], [], 0⟩] })).2 := rfl
       rw [e, hfirst]
      simp only
      rw [hpm]
      generalize rulesMk x.rules (0, { s3 with prods := s3.prods ++ [⟨0, [(1000 : Int) + (((nonIx s3.lefts start).getD 0 : Nat) : Int)], -1, [], [], 0⟩] }) = g at *
      obtain ⟨gi, gs⟩ := g
      obtain ⟨o1, o2⟩ := h6
      simp only at o1 o2 ⊢
      have hgr : great (numbersMk gs) = rgreat r4 := by
       unfold great rgreat numbersMk
       simp only
       have hlen : (gs.toks.take 3 ++ numGo 57346 (gs.toks.drop 3) (gs.given.drop 3)).length = r4.toks.length := by
        rw [List.length_append, numGo_length, ← List.length_append, List.take_append_drop, o2.toks, n1.sim.toks]
       have hnl : gs.nons.length = r4.lefts.length + 1 + r4.inner := by
        rw [o2.nons, List.length_append, innerNons_length, n1.linv.nons, n1.sim.lefts]
        simp
       rw [hlen, hnl, o2.prods]
       generalize (r4.prods.any fun p => decide (8 < p.right.length)) = b
       cases b <;> simp
      rw [hgr, n1.sim.ok]
      have e1 : rnumbers r4 = (numbersMk gs).toks := by
       unfold rnumbers numbersMk
       simp only
       rw [o2.toks, o2.given, n1.sim.toks, n1.sim.given]
      have e2 : rnons r4 = (numbersMk gs).nons := by
       unfold rnons numbersMk
       simp only
       rw [o2.nons, n1.linv.nons, n1.sim.lefts]
       have e3 : (fun l => (⟨l, (typeOf r4.types l).getD []⟩ : Non)) = fun l => ⟨l, (typeOf s3.types l).getD []⟩ := by
        funext l
        rw [n1.sim.types]
       rw [e3]
      have e3 : r4.prods = (numbersMk gs).prods := o2.prods.symm
      rw [e1, e2, e3]
      rfl
end Sp
end Go.Proofs.YtddnomjfcbplpaaGreatDoor
