/- Plain law of gram.Of at the sources that GramNums makes (num_law). -/
import Derived.Test.YthmimcegiihcnaaDoorHZ
namespace Go.Proofs.YthmimcegiihcnaaDoor
namespace Sp
/-! ### Numbers -/
def nName (i : Nat) : List UInt8 := 110 :: Lib.itoa (i : Int)
theorem nName_inj_all : ((List.range 13).all fun i => (List.range 13).all fun j => decide (nName i = nName j → i = j)) = true := by decide +kernel
theorem nName_inj {i j : Nat} (hi : i ≤ 12) (hj : j ≤ 12) (h : nName i = nName j) : i = j := by
  have h1 := List.all_eq_true.1 nName_inj_all i (List.mem_range.2 (by omega))
  have h2 := List.all_eq_true.1 h1 j (List.mem_range.2 (by omega))
  exact of_decide_eq_true h2 h
def numSyms : Nat → List Int → List Sym
  | _, [] => []
  | i, n :: l => ⟨nName i, false, n, 10 * (i : Int)⟩ :: numSyms (i + 1) l
def numToks : Nat → List Int → List Tok
  | _, [] => []
  | i, n :: l => ⟨nName i, false, n, 0, 0, []⟩ :: numToks (i + 1) l
def numGiven (l : List Int) : List Bool := l.map fun n => decide (0 < n)
/-- The first that has a number that is there already. -/
def numBad : Nat → List Int → List Int → Option Nat
  | _, _, [] => none
  | i, pre, n :: l => if 0 < n ∧ n ∈ pre then some i else numBad (i + 1) (pre ++ [n]) l
def numMk (pre : List Int) : Mk := { mk0 with toks := mk0.toks ++ numToks 0 pre, given := mk0.given ++ numGiven pre }
theorem numToks_snoc (n : Int) : ∀ (l : List Int) (i : Nat), numToks i (l ++ [n]) = numToks i l ++ [⟨nName (i + l.length), false, n, 0, 0, []⟩]
  | [], i => rfl
  | m :: l, i => by
    show ⟨nName i, false, m, 0, 0, []⟩ :: numToks (i + 1) (l ++ [n]) = _
    rw [numToks_snoc n l (i + 1)]
    show _ = ⟨nName i, false, m, 0, 0, []⟩ :: (numToks (i + 1) l ++ _)
    rw [List.length_cons, show i + 1 + l.length = i + (l.length + 1) by omega]
theorem numToks_length : ∀ (l : List Int) (i : Nat), (numToks i l).length = l.length
  | [], _ => rfl
  | n :: l, i => by show (numToks (i + 1) l).length + 1 = _; rw [numToks_length l]; rfl
theorem numToks_mem : ∀ (l : List Int) (i : Nat) (t : Tok), t ∈ numToks i l → ∃ j, i ≤ j ∧ j < i + l.length ∧ t.name = nName j
  | [], _, t, h => by cases h
  | n :: l, i, t, h => by
    rcases List.mem_cons.1 h with h | h
    · subst h; exact ⟨i, by omega, by simp, rfl⟩
    · obtain ⟨j, h1, h2, h3⟩ := numToks_mem l (i + 1) t h
      exact ⟨j, by omega, by simp only [List.length_cons]; omega, h3⟩
theorem num_fresh (pre : List Int) (h : pre.length ≤ 11) : tokIx (numMk pre).toks (nName pre.length) false = none := by
  unfold tokIx
  rw [if_neg (by rintro ⟨h, _⟩; have : (110 : UInt8) = 101 := (List.cons.inj h).1; revert this; decide)]
  rw [findIx_none]
  intro t ht
  have ht' : t ∈ numToks 0 pre := ht
  obtain ⟨j, _, h2, h3⟩ := numToks_mem pre 0 t ht'
  rw [Bool.and_eq_false_iff]
  left
  rw [beq_eq_false_iff_ne, h3]
  intro e
  have := nName_inj (by omega) (by omega) e
  omega
theorem num_takenGo (n : Int) (hn : 0 < n) : ∀ (l : List Int) (i j : Nat), takenGo n (-1) j (numToks i l) (numGiven l) = decide (n ∈ l)
  | [], _, _ => by simp [numToks, numGiven, takenGo]
  | m :: l, i, j => by
    show takenGo n (-1) j (⟨nName i, false, m, 0, 0, []⟩ :: numToks (i + 1) l) (decide (0 < m) :: numGiven l) = _
    unfold takenGo
    rw [num_takenGo n hn l (i + 1) (j + 1)]
    have h1 : decide ((j : Int) ≠ -1) = true := decide_eq_true (by omega)
    rw [h1]
    by_cases hm : m = n
    · subst hm; simp [hn]
    · have : ¬ n = m := fun e => hm e.symm
      simp [hm, this]
theorem num_step (pre : List Int) (n : Int) (h : pre.length ≤ 11) (hn : 0 ≤ n) (d : Decl) (hk : d.kind = 1) (ht : d.tag = []) :
    tokStep (numMk pre) d ⟨nName pre.length, false, n, 10 * (pre.length : Int)⟩ 0 = if 0 < n ∧ n ∈ pre then none else some (numMk (pre ++ [n])) := by
  have hf := num_fresh pre h
  have hbad : tokBad (numMk pre) d ⟨nName pre.length, false, n, 10 * (pre.length : Int)⟩ = (decide (0 < n) && decide (n ∈ pre)) := by
    unfold tokBad
    simp only
    rw [hf]
    simp only [hk, ht]
    unfold clash
    by_cases h0 : 0 < n
    · have e : taken (numMk pre) n (-1) = decide (n ∈ pre) := num_takenGo n h0 pre 0 3
      rw [e]
      simp [h0, noTok]
    · simp [h0, noTok]
  unfold tokStep
  rw [hbad]
  by_cases hb : 0 < n ∧ n ∈ pre
  · rw [if_pos (by simp [hb.1, hb.2]), if_pos hb]
  · rw [if_neg (by simpa using fun h1 => fun h2 => hb ⟨h1, h2⟩), if_neg hb]
    have ha : addTok (numMk pre) ⟨nName pre.length, false, n, 10 * (pre.length : Int)⟩ = ({ numMk pre with toks := (numMk pre).toks ++ [⟨nName pre.length, false, 0, 0, 0, []⟩], given := (numMk pre).given ++ [false] }, (numMk pre).toks.length) := by
      unfold addTok
      simp only [hf]
      simp
    rw [ha]
    have hgl : (numMk pre).given.length = (numMk pre).toks.length := by
      show (mk0.given ++ numGiven pre).length = (mk0.toks ++ numToks 0 pre).length
      rw [List.length_append, List.length_append, numToks_length]
      unfold numGiven
      rw [List.length_map]
      rfl
    simp only [hk, ht]
    unfold modTok numMk
    by_cases h0 : 0 < n
    · simp only [h0]
      have hnz : numGiven (pre ++ [n]) = numGiven pre ++ [true] := by unfold numGiven; simp [h0]
      rw [numToks_snoc, hnz, Nat.zero_add]
      unfold numMk at hgl
      simp only at hgl
      simp [← List.append_assoc, List.set_append, hgl]
    · have hz : n = 0 := by omega
      subst hz
      have hnz : numGiven (pre ++ [0]) = numGiven pre ++ [false] := by unfold numGiven; simp
      rw [numToks_snoc, hnz, Nat.zero_add]
      simp [← List.append_assoc]
theorem num_syms (d : Decl) (hk : d.kind = 1) (ht : d.tag = []) : ∀ (l pre : List Int), pre.length + l.length ≤ 12 → (∀ n ∈ l, 0 ≤ n) →
    symsGo d 0 (numSyms pre.length l) (numMk pre) = match numBad pre.length pre l with
      | some i => .error (nName i, 10 * (i : Int))
      | none => .ok (numMk (pre ++ l))
  | [], pre, _, _ => by
    rw [List.append_nil]
    rfl
  | n :: l, pre, h, hl => by
    simp only [List.length_cons] at h
    have hs := num_step pre n (by omega) (hl n (by simp)) d hk ht
    show symsGo d 0 (⟨nName pre.length, false, n, 10 * (pre.length : Int)⟩ :: numSyms (pre.length + 1) l) (numMk pre) = _
    unfold symsGo
    rw [if_neg (by omega), hs]
    unfold numBad
    by_cases hb : 0 < n ∧ n ∈ pre
    · rw [if_pos hb, if_pos hb]
    · rw [if_neg hb, if_neg hb]
      have hlen : (pre ++ [n]).length = pre.length + 1 := by simp
      have ih := num_syms d hk ht l (pre ++ [n]) (by rw [hlen]; omega) (fun m hm => hl m (by simp [hm]))
      rw [hlen] at ih
      simp only
      rw [ih, List.append_assoc]
      rfl
def numSrc (l : List Int) : Source := ⟨[], if l = [] then [] else [⟨1, [], numSyms 0 l, 0⟩], [⟨[97], [⟨[⟨⟨[120], true, 0, 777⟩, [], 777⟩], ⟨[], false, 0, 0⟩, 0⟩], 0⟩], []⟩
theorem nName_isName_all : ((List.range 13).all fun i => isName (nName i)) = true := by decide +kernel
theorem num_decls (l : List Int) (h : l.length ≤ 12) (hl : ∀ n ∈ l, 0 ≤ n) : declsMk 0 (numSrc l).decls mk0 = match numBad 0 [] l with
    | some i => .error (nName i, 10 * (i : Int))
    | none => .ok (numMk l) := by
  have h1 := num_syms ⟨1, [], numSyms 0 l, 0⟩ rfl rfl l [] (by simpa using h) hl
  cases l with
  | nil => rfl
  | cons n l =>
    have e : declsMk 0 (numSrc (n :: l)).decls mk0 = match symsGo ⟨1, [], numSyms 0 (n :: l), 0⟩ 0 (numSyms 0 (n :: l)) (numMk []) with
      | .error e => .error e
      | .ok s => .ok s := rfl
    rw [e]
    simp only [List.length_nil, List.nil_append] at h1
    rw [h1]
    cases numBad 0 [] (n :: l) <;> rfl
theorem mem_numSyms : ∀ (l : List Int) (i : Nat) (s : Sym), s ∈ numSyms i l → ∃ j n, i ≤ j ∧ j < i + l.length ∧ n ∈ l ∧ s = ⟨nName j, false, n, 10 * (j : Int)⟩
  | [], _, s, h => by cases h
  | n :: l, i, s, h => by
    rcases List.mem_cons.1 h with h | h
    · exact ⟨i, n, by omega, by simp, by simp, h⟩
    · obtain ⟨j, m, h1, h2, h3, h4⟩ := mem_numSyms l (i + 1) s h
      exact ⟨j, m, by omega, by simp only [List.length_cons]; omega, by simp [h3], h4⟩
theorem may_num (l : List Int) (h : l.length ≤ 12) (hl : ∀ n ∈ l, 0 ≤ n ∧ n ≤ 50000) : may (numSrc l) = true := by
  have h1 : (numSrc l).decls.all mayDecl = true := by
    cases l with
    | nil => rfl
    | cons n l =>
      show (mayDecl ⟨1, [], numSyms 0 (n :: l), 0⟩ && true) = true
      rw [Bool.and_true]
      unfold mayDecl
      have hlen : ¬ (numSyms 0 (n :: l)).length = 0 := by show ¬ (numSyms 1 l).length + 1 = 0; omega
      simp only
      rw [if_neg (by rintro (h | h | h); omega; omega; exact hlen h), if_neg (by rintro ⟨h, _⟩; omega), if_neg (by rintro ⟨⟨_, h | h⟩, _⟩; exact h rfl; omega)]
      rw [List.all_eq_true]
      intro s hs
      obtain ⟨j, m, _, h2, h3, rfl⟩ := mem_numSyms _ _ _ hs
      have hn := hl m h3
      have hnm : isName (nName j) = true := List.all_eq_true.1 nName_isName_all j (List.mem_range.2 (by simp only [List.length_cons] at h h2; omega))
      unfold maySym isSym
      simp only [Bool.false_eq_true, if_false, hnm]
      rw [if_neg (by simp)]
      rw [if_neg]
      rintro ⟨h0, h | h | h | h⟩
      · exact h rfl
      · cases h
      · omega
      · omega
  unfold may
  rw [h1]
  rfl
theorem num_noname (l : List Int) (nm : List UInt8) (lt : Bool) (h0 : nm.head? ≠ some 110 ∨ lt = true) (h1 : ¬ (nm = errName ∧ lt = false)) : tokIx (numMk l).toks nm lt = none := by
  unfold tokIx
  rw [if_neg h1, findIx_none]
  intro t ht
  have ht' : t ∈ numToks 0 l := ht
  have hlt : ∀ (l : List Int) (i : Nat) (t : Tok), t ∈ numToks i l → t.lit = false := by
    intro l
    induction l with
    | nil => intro i t h; cases h
    | cons n l ih =>
      intro i t h
      rcases List.mem_cons.1 h with h | h
      · subst h; rfl
      · exact ih _ _ h
  obtain ⟨j, _, _, h3⟩ := numToks_mem l 0 t ht'
  rw [Bool.and_eq_false_iff]
  rcases h0 with h0 | h0
  · left
    rw [beq_eq_false_iff_ne, h3]
    intro e
    rw [← e] at h0
    exact h0 rfl
  · right
    rw [hlt l 0 t ht', h0]
    rfl
theorem numGo_snoc (t : Tok) : ∀ (ts : List Tok) (gs : List Bool) (n : Int), ts.length = gs.length → numGo n (ts ++ [t]) (gs ++ [true]) = numGo n ts gs ++ [t]
  | [], [], _, _ => rfl
  | [], _ :: _, _, h => by simp at h
  | _ :: _, [], _, h => by simp at h
  | u :: ts, g :: gs, n, h => by
    simp only [List.length_cons, Nat.add_right_cancel_iff] at h
    simp only [List.cons_append]
    unfold numGo
    rw [numGo_snoc t ts gs n h, numGo_snoc t ts gs (n + 1) h]
    split <;> rfl
def xTok : Tok := ⟨[120], true, 120, 0, 0, []⟩
def numGram (l : List Int) : Gram := ⟨mk0.toks ++ (numGo 57346 (numToks 0 l) (numGiven l) ++ [xTok]), [⟨[36, 97, 99, 99, 101, 112, 116], []⟩, ⟨[97], []⟩], [⟨0, [1001], -1, [], [], 0⟩, ⟨1, [3 + (l.length : Int)], 3 + (l.length : Int), [], [3 + (l.length : Int)], 0⟩], [], []⟩
theorem num_law (l : List Int) (h : l.length ≤ 12) (hl : ∀ n ∈ l, 0 ≤ n ∧ n ≤ 50000) : gramOf (numSrc l) = match numBad 0 [] l with
    | some i => (noGram, ⟨3, 10 * (i : Int), nName i⟩)
    | none => if 120 ∈ l then (noGram, ⟨3, 777, [120]⟩) else (numGram l, ⟨0, 0, []⟩) := by
  have hd := num_decls l h (fun n hn => (hl n hn).1)
  unfold gramOf
  rw [may_num l h hl]
  simp only [Bool.true_eq_false, if_false]
  rw [hd]
  cases hb : numBad 0 [] l with
  | some i => rfl
  | none =>
    simp only
    have hta := num_noname l [97] false (.inl (by decide)) (by rintro ⟨h, _⟩; revert h; decide)
    have htx := num_noname l [120] true (.inr rfl) (by rintro ⟨_, h⟩; cases h)
    have hlg : leftsGo (numSrc l).rules (numMk l) = .ok { numMk l with lefts := [[97]], nons := mk0.nons ++ [⟨[97], []⟩] } := by
      show leftsGo [⟨[97], _, 0⟩] (numMk l) = _
      unfold leftsGo
      simp only
      rw [hta]
      rfl
    have hdn : ∀ s, declsNames s (numSrc l).decls = none := by
      intro s
      have hno : ∀ ys, namesOk s 1 ys = none := by
        intro ys
        induction ys with
        | nil => rfl
        | cons y ys ih =>
          unfold namesOk
          rw [if_neg (by rintro ⟨h, _⟩; omega)]
          exact ih
      cases l with
      | nil => rfl
      | cons n l =>
        show (match namesOk s 1 (numSyms 0 (n :: l)) with
          | some e => some e
          | none => declsNames s []) = none
        rw [hno]
        rfl
    have hlm : leftsMk (numSrc l) (numMk l) = .ok { numMk l with lefts := [[97]], nons := mk0.nons ++ [⟨[97], []⟩] } := by
      unfold leftsMk
      rw [hlg]
      simp only
      rw [hdn]
    rw [hlm]
    simp only
    generalize hs1 : ({ numMk l with lefts := [[97]], nons := mk0.nons ++ [⟨[97], []⟩] } : Mk) = s1
    have ht1 : s1.toks = (numMk l).toks := by rw [← hs1]
    have hg1 : s1.given = (numMk l).given := by rw [← hs1]
    have hcl : clash s1 ⟨[120], true, 0, 777⟩ = decide (120 ∈ l) := by
      unfold clash
      simp only
      rw [ht1, htx]
      have e : taken s1 120 (-1) = decide ((120 : Int) ∈ l) := by
        have e1 : taken s1 120 (-1) = taken (numMk l) 120 (-1) := by unfold taken; rw [ht1, hg1]
        rw [e1]
        exact num_takenGo 120 (by decide) l 0 3
      exact e
    have hpm : partsMk (numSrc l).rules s1 = if 120 ∈ l then .error ([120], 777) else .ok (addTok s1 ⟨[120], true, 0, 777⟩).1 := by
      have e1 : used s1 ⟨[120], true, 0, 777⟩ false = if 120 ∈ l then .error ([120], 777) else .ok (addTok s1 ⟨[120], true, 0, 777⟩).1 := by
        unfold used
        rw [if_pos rfl, hcl]
        by_cases hx : (120 : Int) ∈ l <;> simp [hx]
      show (match altsGo2 [⟨[⟨⟨[120], true, 0, 777⟩, [], 777⟩], ⟨[], false, 0, 0⟩, 0⟩] s1 with
        | .error e => Except.error e
        | .ok s => partsMk [] s) = _
      have e2 : altsGo2 [⟨[⟨⟨[120], true, 0, 777⟩, [], 777⟩], ⟨[], false, 0, 0⟩, 0⟩] s1 = used s1 ⟨[120], true, 0, 777⟩ false := by
        unfold altsGo2 partsGo2
        simp only [if_true]
        cases used s1 ⟨[120], true, 0, 777⟩ false <;> rfl
      rw [e2, e1]
      by_cases hx : (120 : Int) ∈ l
      · rw [if_pos hx]
      · rw [if_neg hx]; rfl
    rw [hpm]
    by_cases hx : (120 : Int) ∈ l
    · rw [if_pos hx, if_pos hx]
    · rw [if_neg hx, if_neg hx]
      simp only
      have hn1 : tokIx s1.toks [120] true = none := by rw [ht1]; exact htx
      have hlen : s1.toks.length = 3 + l.length := by
        rw [ht1]
        show (mk0.toks ++ numToks 0 l).length = _
        rw [List.length_append, numToks_length]
        rfl
      have ha : (addTok s1 ⟨[120], true, 0, 777⟩).1 = { s1 with toks := s1.toks ++ [xTok], given := s1.given ++ [true] } := by
        unfold addTok
        simp only [hn1]
        rfl
      rw [ha]
      generalize hs2 : ({ s1 with toks := s1.toks ++ [xTok], given := s1.given ++ [true] } : Mk) = s2
      have hsn : ∀ (g : List Bool) (lf : List (List UInt8)) (nn : List Non) (P : List Prod) (ty : List (List UInt8 × List UInt8)) (st : List UInt8), symNo ⟨s2.toks, g, lf, nn, P, ty, st⟩ ⟨[120], true, 0, 777⟩ = 3 + (l.length : Int) := by
        intro g lf nn P ty st
        unfold symNo
        have e : tokIx s2.toks [120] true = some (3 + l.length) := by
          rw [← hs2]
          show tokIx (s1.toks ++ [xTok]) [120] true = _
          have h3 : 3 ≤ s1.toks.length := by omega
          rw [tokIx_snoc (t := xTok) h3 hn1, if_pos ⟨rfl, rfl⟩, hlen]
        simp only [e]
        omega
      have hst : s2.start = [] := by rw [← hs2, ← hs1]; rfl
      have hpr : s2.prods = [] := by rw [← hs2, ← hs1]; rfl
      have hle : s2.lefts = [[97]] := by rw [← hs2, ← hs1]
      have hno : s2.nons = mk0.nons ++ [⟨[97], []⟩] := by rw [← hs2, ← hs1]
      have hl1000 : 3 + (l.length : Int) < 1000 := by omega
      have hp : prodsMk (numSrc l) s2 = { s2 with prods := [⟨0, [1001], -1, [], [], 0⟩, ⟨1, [3 + (l.length : Int)], 3 + (l.length : Int), [], [3 + (l.length : Int)], 0⟩] } := by
        have hru : (numSrc l).rules = [⟨[97], [⟨[⟨⟨[120], true, 0, 777⟩, [], 777⟩], ⟨[], false, 0, 0⟩, 0⟩], 0⟩] := rfl
        unfold prodsMk
        rw [hru, hst, hpr]
        simp only [if_true, hle]
        have hni : nonIx [[97]] [97] = some 1 := rfl
        simp only [rulesMk, altsMk, altMk, altGo, hni, if_true, hsn, hl1000, List.nil_append, Option.getD_some, List.cons_append]
        have hs2e : s2 = ⟨s2.toks, s2.given, [[97]], s2.nons, [], s2.types, []⟩ := by
          obtain ⟨tk, gv, lf, nn, pr, ty, st⟩ := s2
          simp only at hle hst hpr
          subst hle hst hpr
          rfl
        conv => rhs; rw [hs2e]
        rfl
      rw [hp]
      have hnum : numbersMk { s2 with prods := [⟨0, [1001], -1, [], [], 0⟩, ⟨1, [3 + (l.length : Int)], 3 + (l.length : Int), [], [3 + (l.length : Int)], 0⟩] } = { s2 with toks := mk0.toks ++ (numGo 57346 (numToks 0 l) (numGiven l) ++ [xTok]), prods := [⟨0, [1001], -1, [], [], 0⟩, ⟨1, [3 + (l.length : Int)], 3 + (l.length : Int), [], [3 + (l.length : Int)], 0⟩] } := by
        unfold numbersMk
        have e1 : s2.toks = mk0.toks ++ (numToks 0 l ++ [xTok]) := by
          rw [← hs2]
          show s1.toks ++ [xTok] = _
          rw [ht1]
          show (mk0.toks ++ numToks 0 l) ++ [xTok] = _
          rw [List.append_assoc]
        have e2 : s2.given = mk0.given ++ (numGiven l ++ [true]) := by
          rw [← hs2]
          show s1.given ++ [true] = _
          rw [hg1]
          show (mk0.given ++ numGiven l) ++ [true] = _
          rw [List.append_assoc]
        simp only
        rw [e1, e2]
        have e3 : (mk0.toks ++ (numToks 0 l ++ [xTok])).take 3 = mk0.toks := rfl
        have e4 : (mk0.toks ++ (numToks 0 l ++ [xTok])).drop 3 = numToks 0 l ++ [xTok] := rfl
        have e5 : (mk0.given ++ (numGiven l ++ [true])).drop 3 = numGiven l ++ [true] := rfl
        rw [e3, e4, e5, numGo_snoc _ _ _ _ (by rw [numToks_length]; unfold numGiven; rw [List.length_map])]
      rw [hnum]
      have hgr : great { s2 with toks := mk0.toks ++ (numGo 57346 (numToks 0 l) (numGiven l) ++ [xTok]), prods := [⟨0, [1001], -1, [], [], 0⟩, ⟨1, [3 + (l.length : Int)], 3 + (l.length : Int), [], [3 + (l.length : Int)], 0⟩] } = false := by
        have hgl : ∀ (ts : List Tok) (gs : List Bool) (n : Int), (numGo n ts gs).length = ts.length := by
          intro ts
          induction ts with
          | nil => intro gs n; simp [numGo]
          | cons t ts ih =>
            intro gs n
            cases gs with
            | nil => simp [numGo]
            | cons g gs =>
              unfold numGo
              split <;> simp [ih]
        unfold great
        simp only [hno]
        have e1 : (mk0.toks ++ (numGo 57346 (numToks 0 l) (numGiven l) ++ [xTok])).length = 3 + l.length + 1 := by
          rw [List.length_append, List.length_append, hgl, numToks_length]
          show 3 + (l.length + 1) = _
          omega
        rw [e1]
        have e2 : decide (40 < 3 + l.length + 1) = false := decide_eq_false (by omega)
        rw [e2]
        rfl
      rw [hgr]
      simp only [Bool.false_eq_true, if_false, hno]
      rfl
end Sp
end Go.Proofs.YthmimcegiihcnaaDoor
