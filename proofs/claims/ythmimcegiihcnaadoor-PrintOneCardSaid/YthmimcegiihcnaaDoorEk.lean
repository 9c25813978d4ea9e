/- Plain functions: a grammar by numbers, and the source that is made of it (yuccalaw0.Source); it may be. No program in sight. -/
import Derived.Test.YthmimcegiihcnaaDoorEf
namespace Go.Proofs.YthmimcegiihcnaaDoor
namespace Sp
open Go.Lib (index indexByte hasPrefix)

structure Gr where
  nons : Int
  rules : List (List Int)
  levels : List Int
  inner : List Int
  bare : Bool
def within (i n : Int) : Int := i % n
theorem within_range (i n : Int) (h : 0 < n) : 0 ≤ within i n ∧ within i n < n := by
  unfold within
  exact ⟨Int.emod_nonneg _ (by omega), Int.emod_lt_of_pos _ h⟩
def nonN (k : Int) : List UInt8 := [UInt8.ofNat (97 + k).toNat]
def litS (k : Int) : Sym := ⟨[([112, 113, 114, 115] : List UInt8).getD (k % 4).toNat 0], true, 0, 0⟩
def noSym : Sym := ⟨[], false, 0, 0⟩
def symOf (x nons : Int) : Sym :=
  if within x 14 < 5 then ⟨nonN (within x 14 % nons), false, 0, 0⟩ else if within x 14 = 13 then ⟨[101, 114, 114, 111, 114], false, 0, 0⟩ else litS (within x 14 - 5)
/-- The last declaration has one symbol more. -/
def addLast (s : Sym) : List Decl → List Decl
  | [] => []
  | [d] => [⟨d.kind, d.tag, d.syms ++ [s], d.at_⟩]
  | d :: e :: l => d :: addLast s (e :: l)
def declStep (i : Nat) (x : Int) (out : List Decl) : List Decl :=
  if (within x 8) % 4 = 0 then out else if 4 < within x 8 ∧ out ≠ [] then addLast (litS i) out else out ++ [⟨1 + (within x 8) % 4, [], [litS i], 0⟩]
def declsGo : Nat → List Int → List Decl → List Decl
  | _, [], out => out
  | i, x :: l, out => declsGo (i + 1) l (declStep i x out)
def declsOf (l : List Int) : List Decl := declsGo 0 (l.take 4) []
/-- "{$$ = $1}", "{f($$)}". -/
def codeIn : List UInt8 := [123, 36, 36, 32, 61, 32, 36, 49, 125]
def codeEnd : List UInt8 := [123, 102, 40, 36, 36, 41, 125]
def partsGo (nons : Int) (e : Bool) : Nat → List Int → List Part
  | _, [] => []
  | j, x :: l => ⟨symOf x nons, [], 0⟩ :: ((if j = 1 ∧ e = true then [⟨noSym, codeIn, 0⟩] else []) ++ partsGo nons e (j + 1) l)
def plainSym (s : Sym) : Bool := s.lit || (s.name == [101, 114, 114, 111, 114])
def plainRow (nons : Int) (row : List Int) : Bool := ((row.drop 1).take 4).all fun x => plainSym (symOf x nons)
def innEnd (o : Option Int) : Bool := match o with
  | none => false
  | some v => v.tmod 2 != 0
def innMid (o : Option Int) : Bool := match o with
  | none => false
  | some v => v.tmod 3 == 1
def altOf (nons : Int) (o : Option Int) (row : List Int) : Alt :=
  ⟨partsGo nons (innMid o) 1 ((row.drop 1).take 4) ++ (if innEnd o = true then [⟨noSym, codeEnd, 0⟩] else []), noSym, 0⟩
def addAlt (a : Alt) : Nat → List Rule → List Rule
  | _, [] => []
  | 0, r :: l => ⟨r.left, r.alts ++ [a], r.at_⟩ :: l
  | k + 1, r :: l => r :: addAlt a k l
def rulesGo (nons : Int) (inner : List Int) : Nat → List (List Int) → List Rule × List Bool → List Rule × List Bool
  | _, [], s => s
  | i, [] :: l, s => rulesGo nons inner (i + 1) l s
  | i, (x :: t) :: l, s => rulesGo nons inner (i + 1) l (addAlt (altOf nons inner[i]? (x :: t)) (within x nons).toNat s.1, s.2.set (within x nons).toNat (s.2.getD (within x nons).toNat false || plainRow nons (x :: t)))
def fillGo (bare : Bool) : Nat → List Rule → List Bool → List Rule
  | _, [], _ => []
  | i, r :: l, has => (if r.alts.length = 0 ∨ has.headD false = false ∧ bare = false then ⟨r.left, r.alts ++ [⟨[⟨litS i, [], 0⟩], noSym, 0⟩], r.at_⟩ else r) :: fillGo bare (i + 1) l has.tail
def nonsOf (x : Gr) : Nat := (1 + within x.nons 4).toNat
def startRules (n : Nat) : List Rule := (List.range n).map fun (i : Nat) => ⟨nonN (i : Int), [], 0⟩
def grSource (x : Gr) : Source :=
  let s := rulesGo (nonsOf x) x.inner 0 (x.rules.take 9) (startRules (nonsOf x), List.replicate (nonsOf x) false)
  ⟨[], declsOf x.levels, fillGo x.bare 0 s.1 s.2, []⟩

/-! ### It may be -/
theorem nons_range (x : Gr) : 1 ≤ nonsOf x ∧ nonsOf x ≤ 4 := by
  have := within_range x.nons 4 (by decide)
  unfold nonsOf; omega
theorem nonN_cases (k : Int) (h0 : 0 ≤ k) (h : k < 5) : nonN k ∈ [[97], [98], [99], [100], [(101 : UInt8)]] := by
  unfold nonN
  have : k = 0 ∨ k = 1 ∨ k = 2 ∨ k = 3 ∨ k = 4 := by omega
  rcases this with rfl | rfl | rfl | rfl | rfl <;> decide
theorem nonN_name (k : Int) (h0 : 0 ≤ k) (h : k < 5) : isName (nonN k) = true := by
  have := nonN_cases k h0 h
  simp only [List.mem_cons, List.not_mem_nil, or_false] at this
  rcases this with e | e | e | e | e <;> (rw [e]; decide)
theorem lit_ok (k : Int) (h0 : 0 ≤ k) : isSym (litS k) = true ∧ (litS k).name.length = 1 := by
  have h1 := Int.emod_lt_of_pos k (show (0 : Int) < 4 by decide)
  have h2 : 0 ≤ k % 4 := Int.emod_nonneg _ (by decide)
  have : k % 4 = 0 ∨ k % 4 = 1 ∨ k % 4 = 2 ∨ k % 4 = 3 := by omega
  unfold litS
  rcases this with e | e | e | e <;> (rw [e]; decide)
theorem symOf_ok (x nons : Int) (h1 : 1 ≤ nons) (h4 : nons ≤ 4) : isBare (symOf x nons) = true ∧ (symOf x nons).name.length ≤ 5 := by
  obtain ⟨a, b⟩ := within_range x 14 (by decide)
  unfold symOf
  split
  · have c1 := Int.emod_lt_of_pos (within x 14) (show (0 : Int) < nons by omega)
    have c2 : 0 ≤ (within x 14) % nons := Int.emod_nonneg _ (by omega)
    have h := nonN_name (within x 14 % nons) c2 (by omega)
    refine ⟨?_, ?_⟩
    · unfold isBare isSym
      rw [if_neg (by simp), h]; rfl
    · show (nonN _).length ≤ 5
      unfold nonN; simp
  · split
    · decide
    · obtain ⟨h, hl⟩ := lit_ok (within x 14 - 5) (by omega)
      unfold isBare
      rw [h]
      exact ⟨rfl, by omega⟩
def okD (d : Decl) : Prop := 2 ≤ d.kind ∧ d.kind ≤ 4 ∧ d.tag = [] ∧ d.syms ≠ [] ∧ ∀ s ∈ d.syms, isSym s = true ∧ s.num = 0 ∧ s.name.length ≤ 5
theorem okD_may {d : Decl} (h : okD d) : mayDecl d = true := by
  obtain ⟨h1, h2, h3, h4, h5⟩ := h
  unfold mayDecl
  rw [if_neg (by
      rintro (h | h | h)
      · omega
      · omega
      · exact h4 (List.eq_nil_of_length_eq_zero h)), if_neg (by omega), if_neg (by
      rintro ⟨⟨_, h | h⟩, _⟩
      · exact h h3
      · omega), List.all_eq_true]
  intro s hs
  obtain ⟨a, b, _⟩ := h5 s hs
  unfold maySym
  rw [if_neg (by
    rintro (h | h)
    · rw [a] at h; simp at h
    · omega), if_neg (by rintro ⟨h, _⟩; exact h b)]
theorem addLast_ok {s : Sym} (hs : isSym s = true ∧ s.num = 0 ∧ s.name.length ≤ 5) : ∀ l : List Decl, (∀ d ∈ l, okD d) → ∀ d ∈ addLast s l, okD d
  | [], _, d, hd => by simp [addLast] at hd
  | [e], h, d, hd => by
    simp only [addLast, List.mem_singleton] at hd
    obtain ⟨h1, h2, h3, h4, h5⟩ := h e (by simp)
    subst hd
    refine ⟨h1, h2, h3, by simp, fun t ht => ?_⟩
    rcases List.mem_append.1 ht with ht | ht
    · exact h5 t ht
    · rw [List.mem_singleton] at ht; rw [ht]; exact hs
  | e :: f :: l, h, d, hd => by
    unfold addLast at hd
    rcases List.mem_cons.1 hd with rfl | hd
    · exact h d (by simp)
    · exact addLast_ok hs (f :: l) (fun x hx => h x (by simp [hx])) d hd
theorem declsGo_ok : ∀ (i : Nat) (l : List Int) (out : List Decl), (∀ d ∈ out, okD d) → ∀ d ∈ declsGo i l out, okD d
  | _, [], out, h => h
  | i, x :: l, out, h => by
    unfold declsGo
    refine declsGo_ok (i + 1) l _ ?_
    have hli := lit_ok (i : Int) (by omega)
    have hl : isSym (litS i) = true ∧ (litS (i : Int)).num = 0 ∧ (litS i).name.length ≤ 5 := ⟨hli.1, rfl, by have := hli.2; omega⟩
    unfold declStep
    obtain ⟨a, b⟩ := within_range x 8 (by decide)
    have c1 := Int.emod_lt_of_pos (within x 8) (show (0 : Int) < 4 by decide)
    have c2 : 0 ≤ (within x 8) % 4 := Int.emod_nonneg _ (by decide)
    split
    · exact h
    · split
      · exact addLast_ok hl out h
      · intro d hd
        rcases List.mem_append.1 hd with hd | hd
        · exact h d hd
        · rw [List.mem_singleton] at hd
          rw [hd]
          refine ⟨by show 2 ≤ 1 + (within x 8) % 4; omega, by show 1 + (within x 8) % 4 ≤ 4; omega, rfl, by simp, fun s hs => ?_⟩
          rw [List.mem_singleton] at hs
          rw [hs]; exact hl
def okP (p : Part) : Prop := mayPart p = true ∧ p.sym.name.length ≤ 5 ∧ p.sym.num = 0 ∧ p.code.length ≤ 9
theorem codeIn_ok : okP ⟨noSym, codeIn, 0⟩ := ⟨by decide +kernel, by decide, rfl, by decide⟩
theorem codeEnd_ok : okP ⟨noSym, codeEnd, 0⟩ := ⟨by decide +kernel, by decide, rfl, by decide⟩
theorem symPart_ok (x nons : Int) (h1 : 1 ≤ nons) (h4 : nons ≤ 4) : okP ⟨symOf x nons, [], 0⟩ := by
  obtain ⟨a, b⟩ := symOf_ok x nons h1 h4
  refine ⟨?_, b, ?_, by simp⟩
  · unfold mayPart; rw [if_pos rfl]; exact a
  · unfold isBare at a; simp only [Bool.and_eq_true, beq_iff_eq] at a; exact a.2
theorem partsGo_ok (nons : Int) (e : Bool) (h1 : 1 ≤ nons) (h4 : nons ≤ 4) : ∀ (j : Nat) (l : List Int), ∀ p ∈ partsGo nons e j l, okP p
  | _, [], p, hp => by simp [partsGo] at hp
  | j, x :: l, p, hp => by
    unfold partsGo at hp
    rcases List.mem_cons.1 hp with rfl | hp
    · exact symPart_ok x nons h1 h4
    · rcases List.mem_append.1 hp with hp | hp
      · split at hp
        · rw [List.mem_singleton] at hp; rw [hp]; exact codeIn_ok
        · simp at hp
      · exact partsGo_ok nons e h1 h4 (j + 1) l p hp
theorem partsGo_len (nons : Int) (e : Bool) : ∀ (j : Nat) (l : List Int), (partsGo nons e j l).length ≤ l.length + (if j ≤ 1 then 1 else 0)
  | _, [] => by simp [partsGo]
  | j, x :: l => by
    have ih := partsGo_len nons e (j + 1) l
    unfold partsGo
    rw [List.length_cons, List.length_append, List.length_cons]
    by_cases hj : j = 1
    · subst hj
      split <;> simp at ih ⊢ <;> omega
    · rw [if_neg (by simp [hj])]
      split at ih <;> split <;> simp at ih ⊢ <;> omega
def okA (a : Alt) : Prop := a.prec = noSym ∧ a.parts.length ≤ 6 ∧ ∀ p ∈ a.parts, okP p
theorem altOf_ok (nons : Int) (o : Option Int) (row : List Int) (h1 : 1 ≤ nons) (h4 : nons ≤ 4) : okA (altOf nons o row) := by
  refine ⟨rfl, ?_, fun p hp => ?_⟩
  · show (partsGo nons (innMid o) 1 ((row.drop 1).take 4) ++ _).length ≤ 6
    have h := partsGo_len nons (innMid o) 1 ((row.drop 1).take 4)
    have h2 : ((row.drop 1).take 4).length ≤ 4 := by simp; omega
    rw [if_pos (Nat.le_refl 1)] at h
    rw [List.length_append]
    split <;> simp only [List.length_cons, List.length_nil] <;> omega
  · rcases List.mem_append.1 hp with hp | hp
    · exact partsGo_ok nons _ h1 h4 _ _ p hp
    · split at hp
      · rw [List.mem_singleton] at hp; rw [hp]; exact codeEnd_ok
      · simp at hp
def okR (m : Nat) (r : Rule) : Prop := (r.left.length = 1 ∧ isName r.left = true) ∧ r.alts.length ≤ m ∧ ∀ a ∈ r.alts, okA a
theorem okR_mono {m n : Nat} {r : Rule} (h : okR m r) (hmn : m ≤ n) : okR n r := ⟨h.1, by have := h.2.1; omega, h.2.2⟩
theorem addAlt_ok {a : Alt} (ha : okA a) {m : Nat} : ∀ (k : Nat) (l : List Rule), (∀ r ∈ l, okR m r) → ∀ r ∈ addAlt a k l, okR (m + 1) r
  | _, [], _, r, hr => by simp [addAlt] at hr
  | 0, e :: l, h, r, hr => by
    simp only [addAlt] at hr
    rcases List.mem_cons.1 hr with rfl | hr
    · obtain ⟨h1, h2, h3⟩ := h e (by simp)
      refine ⟨h1, by show (e.alts ++ [a]).length ≤ m + 1; simp; omega, fun b hb => ?_⟩
      rcases List.mem_append.1 hb with hb | hb
      · exact h3 b hb
      · rw [List.mem_singleton] at hb; rw [hb]; exact ha
    · exact okR_mono (h r (by simp [hr])) (Nat.le_succ m)
  | k + 1, e :: l, h, r, hr => by
    simp only [addAlt] at hr
    rcases List.mem_cons.1 hr with rfl | hr
    · exact okR_mono (h r (by simp)) (Nat.le_succ m)
    · exact addAlt_ok ha k l (fun x hx => h x (by simp [hx])) r hr
theorem addAlt_len (a : Alt) : ∀ (k : Nat) (l : List Rule), (addAlt a k l).length = l.length
  | k, [] => by cases k <;> rfl
  | 0, _ :: _ => rfl
  | k + 1, e :: l => by simp [addAlt, addAlt_len a k l]
theorem rulesGo_ok (nons : Int) (inner : List Int) (h1 : 1 ≤ nons) (h4 : nons ≤ 4) : ∀ (l : List (List Int)) (i : Nat) (s : List Rule × List Bool) (m : Nat), (∀ r ∈ s.1, okR m r) → (∀ r ∈ (rulesGo nons inner i l s).1, okR (m + l.length) r) ∧ (rulesGo nons inner i l s).1.length = s.1.length
  | [], i, s, m, h => ⟨h, rfl⟩
  | [] :: l, i, s, m, h => by
    have ih := rulesGo_ok nons inner h1 h4 l (i + 1) s m h
    unfold rulesGo
    exact ⟨fun r hr => okR_mono (ih.1 r hr) (by simp), ih.2⟩
  | (x :: t) :: l, i, s, m, h => by
    have ih := rulesGo_ok nons inner h1 h4 l (i + 1) (addAlt (altOf nons inner[i]? (x :: t)) (within x nons).toNat s.1, s.2.set (within x nons).toNat (s.2.getD (within x nons).toNat false || plainRow nons (x :: t))) (m + 1) (addAlt_ok (altOf_ok nons _ _ h1 h4) _ _ h)
    unfold rulesGo
    refine ⟨fun r hr => okR_mono (ih.1 r hr) (by simp; omega), ?_⟩
    rw [ih.2]
    exact addAlt_len _ _ _
theorem fillGo_ok (bare : Bool) {m : Nat} : ∀ (l : List Rule) (i : Nat) (has : List Bool), (∀ r ∈ l, okR m r) → ∀ r ∈ fillGo bare i l has, okR (m + 1) r ∧ r.alts ≠ []
  | [], i, has, _, r, hr => by simp [fillGo] at hr
  | e :: l, i, has, h, r, hr => by
    unfold fillGo at hr
    rcases List.mem_cons.1 hr with rfl | hr
    · obtain ⟨h1, h2, h3⟩ := h e (by simp)
      split
      · refine ⟨⟨h1, by show (e.alts ++ [_]).length ≤ m + 1; simp; omega, fun b hb => ?_⟩, by simp⟩
        rcases List.mem_append.1 hb with hb | hb
        · exact h3 b hb
        · rw [List.mem_singleton] at hb
          rw [hb]
          have hl := lit_ok (i : Int) (by omega)
          refine ⟨rfl, by simp, fun p hp => ?_⟩
          rw [List.mem_singleton] at hp
          rw [hp]
          refine ⟨?_, by have := hl.2; show (litS i).name.length ≤ 5; omega, rfl, by simp⟩
          unfold mayPart isBare
          rw [if_pos rfl, hl.1]; rfl
      · rename_i hn
        refine ⟨⟨h1, by omega, h3⟩, fun e0 => hn (.inl (by rw [e0]; rfl))⟩
    · exact fillGo_ok bare l (i + 1) has.tail (fun x hx => h x (by simp [hx])) r hr
theorem fillGo_len (bare : Bool) : ∀ (l : List Rule) (i : Nat) (has : List Bool), (fillGo bare i l has).length = l.length
  | [], _, _ => rfl
  | e :: l, i, has => by simp [fillGo, fillGo_len bare l (i + 1) has.tail]
theorem startRules_ok (n : Nat) (h : n ≤ 4) : ∀ r ∈ startRules n, okR 0 r := by
  intro r hr
  unfold startRules at hr
  simp only [List.mem_map, List.mem_range] at hr
  obtain ⟨i, hi, rfl⟩ := hr
  exact ⟨⟨rfl, nonN_name _ (by omega) (by omega)⟩, by simp, by simp⟩
theorem grRules_ok (x : Gr) : (∀ r ∈ (grSource x).rules, okR 10 r ∧ r.alts ≠ []) ∧ (grSource x).rules.length = nonsOf x := by
  obtain ⟨n1, n4⟩ := nons_range x
  have h := rulesGo_ok (nonsOf x) x.inner (by omega) (by omega) (x.rules.take 9) 0 (startRules (nonsOf x), List.replicate (nonsOf x) false) 0 (startRules_ok _ n4)
  have hl : (x.rules.take 9).length ≤ 9 := by simp; omega
  refine ⟨fun r hr => ?_, ?_⟩
  · have k := fillGo_ok x.bare (m := 9) _ 0 _ (fun r hr => okR_mono (h.1 r hr) (by omega)) r hr
    exact k
  · show (fillGo x.bare 0 _ _).length = _
    rw [fillGo_len, h.2]
    unfold startRules; simp
theorem okA_may {a : Alt} (h : okA a) : mayAlt a = true := by
  obtain ⟨h1, _, h3⟩ := h
  unfold mayAlt
  rw [h1, Bool.and_eq_true, List.all_eq_true]
  exact ⟨rfl, fun p hp => (h3 p hp).1⟩
theorem grSource_may (x : Gr) : may (grSource x) = true := by
  obtain ⟨h1, h2⟩ := grRules_ok x
  have hn := nons_range x
  unfold may
  simp only [Bool.and_eq_true, List.all_eq_true, Bool.not_eq_true', decide_eq_false_iff_not, decide_eq_true_eq]
  refine ⟨⟨⟨by show ¬ (0 ≤ index [] [37, 125]); decide, by omega⟩, fun d hd => okD_may (declsGo_ok 0 _ [] (by simp) d hd)⟩, fun r hr => ?_⟩
  obtain ⟨⟨⟨_, a⟩, _, c⟩, d⟩ := h1 r hr
  unfold mayRule
  simp only [Bool.and_eq_true, List.all_eq_true, decide_eq_true_eq]
  exact ⟨⟨a, by cases hq : r.alts with | nil => exact absurd hq d | cons => simp⟩, fun a ha => okA_may (c a ha)⟩
end Sp
open Sp
theorem declsGo_small : ∀ (i : Nat) (l : List Int) (out : List Sp.Decl) (m k : Nat), out.length ≤ m → (∀ d ∈ out, d.syms.length ≤ k) → (Sp.declsGo i l out).length ≤ m + l.length ∧ ∀ d ∈ Sp.declsGo i l out, d.syms.length ≤ k + l.length + 1
  | _, [], out, m, k, h1, h2 => ⟨h1, fun d hd => by have := h2 d hd; simp [Sp.declsGo] at *; omega⟩
  | i, x :: l, out, m, k, h1, h2 => by
    have add : ∀ l : List Sp.Decl, (∀ d ∈ l, d.syms.length ≤ k) → (Sp.addLast (Sp.litS i) l).length = l.length ∧ ∀ d ∈ Sp.addLast (Sp.litS i) l, d.syms.length ≤ k + 1 := by
      intro l
      induction l with
      | nil => intro _; exact ⟨rfl, by simp [Sp.addLast]⟩
      | cons d l ih =>
        intro h
        cases l with
        | nil =>
          refine ⟨rfl, fun e he => ?_⟩
          simp only [Sp.addLast, List.mem_singleton] at he
          subst he
          have := h d (by simp)
          simp; omega
        | cons e l =>
          obtain ⟨a, b⟩ := ih (fun x hx => h x (by simp [hx]))
          unfold Sp.addLast
          refine ⟨by rw [List.length_cons, a]; rfl, fun f hf => ?_⟩
          rcases List.mem_cons.1 hf with rfl | hf
          · have := h f (by simp); omega
          · exact b f hf
    have step : (Sp.declStep i x out).length ≤ m + 1 ∧ ∀ d ∈ Sp.declStep i x out, d.syms.length ≤ k + 1 := by
      unfold Sp.declStep
      split
      · exact ⟨by omega, fun d hd => by have := h2 d hd; omega⟩
      · split
        · obtain ⟨a, b⟩ := add out h2
          exact ⟨by omega, b⟩
        · refine ⟨by simp; omega, fun d hd => ?_⟩
          rcases List.mem_append.1 hd with hd | hd
          · have := h2 d hd; omega
          · rw [List.mem_singleton] at hd; rw [hd]; simp
    obtain ⟨a, b⟩ := declsGo_small (i + 1) l (Sp.declStep i x out) (m + 1) (k + 1) step.1 step.2
    unfold Sp.declsGo
    exact ⟨by simp; omega, fun d hd => by have := b d hd; simp; omega⟩
theorem i64ok_zero : i64ok 0 := by unfold i64ok; omega
theorem grSource_tiny (x : Sp.Gr) : tinySrc (Sp.grSource x) := by
  obtain ⟨h1, h2⟩ := Sp.grRules_ok x
  have hn := Sp.nons_range x
  have hd := declsGo_small 0 (x.levels.take 4) [] 0 0 (by simp) (by simp)
  have hl : (x.levels.take 4).length ≤ 4 := by simp; omega
  refine ⟨by simp [Sp.grSource], by simp [Sp.grSource], by show (Sp.declsOf x.levels).length ≤ 20; unfold Sp.declsOf; omega, by omega, fun d hd' => ?_, fun r hr => ?_⟩
  · have hk := Sp.declsGo_ok 0 (x.levels.take 4) [] (by simp) d hd'
    obtain ⟨_, _, t, _, s⟩ := hk
    refine ⟨by rw [t]; simp, by have := hd.2 d hd'; omega, fun s' hs' => ?_⟩
    obtain ⟨_, a, b⟩ := s s' hs'
    exact ⟨by omega, by rw [a]; exact i64ok_zero⟩
  · obtain ⟨⟨⟨a, _⟩, b, c⟩, _⟩ := h1 r hr
    refine ⟨by omega, by omega, fun al hal => ?_⟩
    obtain ⟨p1, p2, p3⟩ := c al hal
    refine ⟨by omega, fun p hp => ?_, ?_⟩
    · obtain ⟨_, q2, q3, q4⟩ := p3 p hp
      exact ⟨⟨by omega, by rw [q3]; exact i64ok_zero⟩, by omega⟩
    · rw [p1]; exact ⟨by decide, i64ok_zero⟩
end Go.Proofs.YthmimcegiihcnaaDoor
