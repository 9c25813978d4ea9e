/- Plain functions: a grammar out of a source (gram.Of), as a machine that stops at the first fault; no program in sight. Plain laws for gram.Of: how many there are of each after the passes; what may be. Plain laws of gram.Of at the sources that the statements of layer 9 make: passes, limits, inner actions; by the kernel's run of the plain machine. -/
import Derived.Test.YthmimcegiihcnaaDoorDa
namespace Go.Proofs.YthmimcegiihcnaaDoor
namespace Sp

structure Tok where
  name : List UInt8
  lit : Bool
  num : Int
  level : Int
  assoc : Int
  tag : List UInt8
deriving DecidableEq
structure Non where
  name : List UInt8
  tag : List UInt8
deriving DecidableEq
structure Prod where
  left : Int
  right : List Int
  prec : Int
  code : List UInt8
  args : List Int
  at_ : Int
deriving DecidableEq
structure Gram where
  toks : List Tok
  nons : List Non
  prods : List Prod
  pro : List UInt8
  tail : List UInt8
deriving DecidableEq
/-- The number of the first that is so, counted from i on. -/
def findIx {α : Type} (p : α → Bool) : List α → Nat → Option Nat
  | [], _ => none
  | x :: l, i => if p x = true then some i else findIx p l (i + 1)
def errName : List UInt8 := [101, 114, 114, 111, 114]
/-- A token's number: that of "error" is 1, others from 3 on. -/
def tokIx (toks : List Tok) (nm : List UInt8) (lt : Bool) : Option Nat :=
  if nm = errName ∧ lt = false then some 1 else findIx (fun t => t.name == nm && t.lit == lt) (toks.drop 3) 3
/-- A Left's number: from 1 on. -/
def nonIx (lefts : List (List UInt8)) (nm : List UInt8) : Option Nat := findIx (fun l => l == nm) lefts 1
structure Mk where
  toks : List Tok
  given : List Bool
  lefts : List (List UInt8)
  nons : List Non
  prods : List Prod
  types : List (List UInt8 × List UInt8)
  start : List UInt8
def noTok : Tok := ⟨[], false, 0, 0, 0, []⟩
def mk0 : Mk := ⟨[⟨[36, 101, 110, 100], false, 0, 0, 0, []⟩, ⟨errName, false, -1, 0, 0, []⟩, ⟨[36, 117, 110, 107], false, -1, 0, 0, []⟩], [false, false, false], [], [⟨[36, 97, 99, 99, 101, 112, 116], []⟩], [], [], []⟩
def takenGo (num but : Int) : Nat → List Tok → List Bool → Bool
  | i, t :: ts, g :: gs => ((decide ((i : Int) ≠ but) && g) && (t.num == num)) || takenGo num but (i + 1) ts gs
  | _, _, _ => false
/-- Has another token the number by declaration? -/
def taken (s : Mk) (num but : Int) : Bool := takenGo num but 3 (s.toks.drop 3) (s.given.drop 3)
def byte0 (l : List UInt8) : Int := ((l.headD 0).toNat : Int)
def addTok (s : Mk) (x : Sym) : Mk × Nat :=
  match tokIx s.toks x.name x.lit with
  | some t => (s, t)
  | none => ({ s with toks := s.toks ++ [⟨x.name, x.lit, if x.lit = true then byte0 x.name else 0, 0, 0, []⟩], given := s.given ++ [x.lit] }, s.toks.length)
def clash (s : Mk) (x : Sym) : Bool := (x.lit && (tokIx s.toks x.name x.lit).isNone) && taken s (byte0 x.name) (-1)
def tokBad (s : Mk) (d : Decl) (x : Sym) : Bool :=
  let o := tokIx s.toks x.name x.lit
  let k : Int := match o with
    | some t => (t : Int)
    | none => -1
  let t := match o with
    | some t => s.toks.getD t noTok
    | none => noTok
  let g := match o with
    | some t => s.given.getD t false
    | none => false
  (decide (d.kind ≠ 1) && decide (0 < t.level)) || (decide (0 < x.num) && ((decide (k = 1) || g) || taken s x.num k)) || clash s x || ((decide (d.tag ≠ []) && decide (t.tag ≠ [])) && decide (t.tag ≠ d.tag))
/-- The k-th token, changed. -/
def modTok (s : Mk) (k : Nat) (f : Tok → Tok) : Mk := { s with toks := s.toks.set k (f (s.toks.getD k noTok)) }
def tokStep (s : Mk) (d : Decl) (x : Sym) (level : Int) : Option Mk :=
  if tokBad s d x = true then none else
    let r := addTok s x
    let s1 := if 0 < x.num then { modTok r.1 r.2 (fun t => { t with num := x.num }) with given := r.1.given.set r.2 true } else r.1
    let s2 := if d.tag ≠ [] then modTok s1 r.2 (fun t => { t with tag := d.tag }) else s1
    some (if d.kind ≠ 1 then modTok s2 r.2 (fun t => { t with level := level, assoc := d.kind - 2 + 1 }) else s2)
/-- The tag that %type gave a name. -/
def typeOf : List (List UInt8 × List UInt8) → List UInt8 → Option (List UInt8)
  | [], _ => none
  | (n, t) :: l, nm => if n = nm then some t else typeOf l nm
def namedStep (s : Mk) (d : Decl) (x : Sym) : Option Mk :=
  if d.kind = 5 ∧ (∃ t, typeOf s.types x.name = some t ∧ t ≠ d.tag) ∨ d.kind = 6 ∧ s.start ≠ [] then none
  else if d.kind = 5 then some { s with types := (x.name, d.tag) :: s.types } else some { s with start := x.name }
/-- What stops: the symbol's name and place. -/
abbrev Stop := List UInt8 × Int
def symsGo (d : Decl) (level : Int) : List Sym → Mk → Except Stop Mk
  | [], s => .ok s
  | x :: l, s =>
    match (if 5 ≤ d.kind then namedStep s d x else tokStep s d x level) with
    | none => .error (x.name, x.at_)
    | some s => symsGo d level l s
def declsMk : Int → List Decl → Mk → Except Stop Mk
  | _, [], s => .ok s
  | level, d :: l, s =>
    let level := if 2 ≤ d.kind ∧ d.kind ≤ 4 then level + 1 else level
    match symsGo d level d.syms s with
    | .error e => .error e
    | .ok s => declsMk level l s
def leftsGo : List Rule → Mk → Except Stop Mk
  | [], s => .ok s
  | r :: l, s =>
    if (tokIx s.toks r.left false).isSome = true then .error (r.left, r.at_)
    else if (nonIx s.lefts r.left).isSome = true then leftsGo l s
    else leftsGo l { s with lefts := s.lefts ++ [r.left], nons := s.nons ++ [⟨r.left, (typeOf s.types r.left).getD []⟩] }
def namesOk (s : Mk) (kind : Int) : List Sym → Option Stop
  | [] => none
  | x :: l => if 5 ≤ kind ∧ (nonIx s.lefts x.name).isNone = true then some (x.name, x.at_) else namesOk s kind l
def declsNames (s : Mk) : List Decl → Option Stop
  | [] => none
  | d :: l =>
    match namesOk s d.kind d.syms with
    | some e => some e
    | none => declsNames s l
def leftsMk (x : Source) (s : Mk) : Except Stop Mk :=
  match leftsGo x.rules s with
  | .error e => .error e
  | .ok s =>
    match declsNames s x.decls with
    | some e => .error e
    | none => .ok s
def used (s : Mk) (x : Sym) (prec : Bool) : Except Stop Mk :=
  if x.lit = true then (if clash s x = true then .error (x.name, x.at_) else .ok (addTok s x).1)
  else if (tokIx s.toks x.name x.lit).isNone = true ∧ (prec = true ∨ (nonIx s.lefts x.name).isNone = true) then .error (x.name, x.at_) else .ok s
def partsGo2 : List Part → Mk → Except Stop Mk
  | [], s => .ok s
  | p :: l, s =>
    if p.code = [] then
      match used s p.sym false with
      | .error e => .error e
      | .ok s => partsGo2 l s
    else partsGo2 l s
def altsGo2 : List Alt → Mk → Except Stop Mk
  | [], s => .ok s
  | a :: l, s =>
    match partsGo2 a.parts s with
    | .error e => .error e
    | .ok s =>
      if a.prec.name = [] then altsGo2 l s else
        match used s a.prec true with
        | .error e => .error e
        | .ok s => altsGo2 l s
def partsMk : List Rule → Mk → Except Stop Mk
  | [], s => .ok s
  | r :: l, s =>
    match altsGo2 r.alts s with
    | .error e => .error e
    | .ok s => partsMk l s
/-- A symbol's number. -/
def symNo (s : Mk) (x : Sym) : Int :=
  match tokIx s.toks x.name x.lit with
  | some t => (t : Int)
  | none => 1000 + (((nonIx s.lefts x.name).getD 0 : Nat) : Int)
/-- Within an alternative: the production so far, the inner ones counted, what was made of them. -/
def altGo (n : Nat) : Nat → List Part → Prod × Nat × Mk → Prod × Nat × Mk
  | _, [], r => r
  | k, x :: l, (p, inner, s) =>
    if x.code = [] then
      let c := symNo s x.sym
      altGo n (k + 1) l ({ p with right := p.right ++ [c], prec := if c < 1000 then c else p.prec }, inner, s)
    else if k + 1 = n then altGo n (k + 1) l ({ p with code := x.code, at_ := x.at_ }, inner, s)
    else
      let s1 : Mk := { s with nons := s.nons ++ [⟨64 :: Lib.itoa ((inner + 1 : Nat) : Int), []⟩] }
      let s2 : Mk := { s1 with prods := s1.prods ++ [⟨(s1.nons.length : Int) - 1, [], -1, x.code, p.right, x.at_⟩] }
      altGo n (k + 1) l ({ p with right := p.right ++ [1000 + (s2.nons.length : Int) - 1] }, inner + 1, s2)
def altMk (left : Int) (a : Alt) (inner : Nat) (s : Mk) : Nat × Mk :=
  let r := altGo a.parts.length 0 a.parts (⟨left, [], -1, [], [], a.at_⟩, inner, s)
  let p := if a.prec.name = [] then r.1 else { r.1 with prec := symNo r.2.2 a.prec }
  (r.2.1, { r.2.2 with prods := r.2.2.prods ++ [{ p with args := p.right }] })
def altsMk (left : Int) : List Alt → Nat × Mk → Nat × Mk
  | [], r => r
  | a :: l, r => altsMk left l (altMk left a r.1 r.2)
def rulesMk : List Rule → Nat × Mk → Nat × Mk
  | [], r => r
  | x :: l, r => rulesMk l (altsMk (((nonIx r.2.lefts x.left).getD 0 : Nat) : Int) x.alts r)
def prodsMk (x : Source) (s : Mk) : Mk :=
  let first := if s.start = [] then (match x.rules with
    | [] => []
    | r :: _ => r.left) else s.start
  (rulesMk x.rules (0, { s with prods := s.prods ++ [⟨0, [1000 + (((nonIx s.lefts first).getD 0 : Nat) : Int)], -1, [], [], 0⟩] })).2
def numGo : Int → List Tok → List Bool → List Tok
  | next, t :: ts, g :: gs => if g = true then t :: numGo next ts gs else { t with num := next } :: numGo (next + 1) ts gs
  | _, ts, _ => ts
def numbersMk (s : Mk) : Mk := { s with toks := s.toks.take 3 ++ numGo 57346 (s.toks.drop 3) (s.given.drop 3) }
def great (s : Mk) : Bool := (s.prods.any fun p => decide (8 < p.right.length)) || decide (40 < s.toks.length) || decide (24 < s.nons.length) || decide (60 < s.prods.length)
/-- A fault: what kind, where, of which name. -/
structure Fault where
  err : Int
  at_ : Int
  name : List UInt8
deriving DecidableEq
def noGram : Gram := ⟨[], [], [], [], []⟩
def gramOf (x : Source) : Gram × Fault :=
  if may x = false then (noGram, ⟨1, 0, []⟩) else
    match declsMk 0 x.decls mk0 with
    | .error e => (noGram, ⟨3, e.2, e.1⟩)
    | .ok s =>
      match leftsMk x s with
      | .error e => (noGram, ⟨3, e.2, e.1⟩)
      | .ok s =>
        match partsMk x.rules s with
        | .error e => (noGram, ⟨3, e.2, e.1⟩)
        | .ok s =>
          let s := numbersMk (prodsMk x s)
          if great s = true then (noGram, ⟨4, 0, []⟩) else (⟨s.toks, s.nons, s.prods, x.pro, x.tail⟩, ⟨0, 0, []⟩)

/-! ### Laws -/
theorem findIx_none {α : Type} {p : α → Bool} : ∀ {l : List α} {i : Nat}, findIx p l i = none ↔ ∀ x ∈ l, p x = false
  | [], i => by simp [findIx]
  | x :: l, i => by
    unfold findIx
    by_cases h : p x = true
    · simp [h]
    · simp [h, findIx_none (l := l) (i := i + 1)]
theorem findIx_snoc {α : Type} {p : α → Bool} {x : α} : ∀ {l : List α} {i : Nat}, findIx p (l ++ [x]) i = match findIx p l i with
    | some k => some k
    | none => if p x = true then some (i + l.length) else none
  | [], i => by simp [findIx]
  | y :: l, i => by
    unfold findIx
    by_cases h : p y = true
    · simp [h]
    · have ih := findIx_snoc (p := p) (x := x) (l := l) (i := i + 1)
      simp only [List.cons_append, findIx, h, if_false, Bool.false_eq_true]
      rw [ih]
      cases findIx p l (i + 1) with
      | some k => rfl
      | none => simp only [List.length_cons]; split <;> simp_all; omega
theorem findIx_some {α : Type} {p : α → Bool} : ∀ {l : List α} {i k : Nat}, findIx p l i = some k → i ≤ k ∧ ∃ x, l[k - i]? = some x ∧ p x = true
  | [], i, k, h => by simp [findIx] at h
  | x :: l, i, k, h => by
    unfold findIx at h
    by_cases hp : p x = true
    · rw [if_pos hp] at h
      cases h
      exact ⟨Nat.le_refl _, x, by simp, hp⟩
    · rw [if_neg hp] at h
      obtain ⟨h1, y, h2, h3⟩ := findIx_some h
      refine ⟨by omega, y, ?_, h3⟩
      obtain ⟨m, hm⟩ : ∃ m, k - i = m + 1 := ⟨k - i - 1, by omega⟩
      rw [hm, List.getElem?_cons_succ]
      have : k - (i + 1) = m := by omega
      rw [this] at h2
      exact h2
/-- A token more: its key has its number, all others stay. -/
theorem tokIx_snoc {toks : List Tok} {t : Tok} {nm : List UInt8} {lt : Bool} (h3 : 3 ≤ toks.length) (hn : tokIx toks t.name t.lit = none) :
    tokIx (toks ++ [t]) nm lt = if nm = t.name ∧ lt = t.lit then some toks.length else tokIx toks nm lt := by
  unfold tokIx at hn ⊢
  by_cases he : nm = errName ∧ lt = false
  · rw [if_pos he, if_pos he, if_neg]
    rintro ⟨h1, h2⟩
    rw [if_pos ⟨h1 ▸ he.1, h2 ▸ he.2⟩] at hn
    cases hn
  · rw [if_neg he, if_neg he, List.drop_append_of_le_length h3, findIx_snoc]
    by_cases hk : nm = t.name ∧ lt = t.lit
    · obtain ⟨rfl, rfl⟩ := hk
      rw [if_neg he] at hn
      rw [hn]
      simp
      omega
    · rw [if_neg hk]
      have hp : (t.name == nm && t.lit == lt) = false := by
        rw [Bool.and_eq_false_iff, beq_eq_false_iff_ne, beq_eq_false_iff_ne]
        by_cases h : t.name = nm
        · right; intro e; exact hk ⟨h.symm, e.symm⟩
        · left; exact h
      cases hf : findIx (fun t => t.name == nm && t.lit == lt) (toks.drop 3) 3 with
      | some k => rfl
      | none => simp [hp]
theorem tokIx_lt {toks : List Tok} {nm : List UInt8} {lt : Bool} {k : Nat} (h3 : 3 ≤ toks.length) (h : tokIx toks nm lt = some k) : k < toks.length ∧ (k = 1 ∨ 3 ≤ k) := by
  unfold tokIx at h
  split at h
  · cases h; omega
  · obtain ⟨h1, x, h2, _⟩ := findIx_some h
    have := (List.getElem?_eq_some_iff.1 h2).1
    rw [List.length_drop] at this
    omega
theorem nonIx_snoc {lefts : List (List UInt8)} {l nm : List UInt8} (hn : nonIx lefts l = none) : nonIx (lefts ++ [l]) nm = if nm = l then some (lefts.length + 1) else nonIx lefts nm := by
  unfold nonIx at hn ⊢
  rw [findIx_snoc]
  by_cases h : nm = l
  · subst h
    rw [hn, if_pos rfl]
    simp
    omega
  · rw [if_neg h]
    have : (l == nm) = false := by rw [beq_eq_false_iff_ne]; exact fun e => h e.symm
    cases findIx (fun x => x == nm) lefts 1 with
    | some k => rfl
    | none => simp [this]
end Sp
end Go.Proofs.YthmimcegiihcnaaDoor

namespace Go.Proofs.YthmimcegiihcnaaDoor
namespace Sp

/-- How many symbols of rules may become tokens. -/
theorem addTok_keeps (s : Mk) (y : Sym) : (addTok s y).1.toks.length ≤ s.toks.length + 1 ∧ (addTok s y).1.lefts = s.lefts ∧ (addTok s y).1.nons = s.nons ∧ (addTok s y).1.prods = s.prods ∧ (addTok s y).1.types = s.types ∧ (addTok s y).1.start = s.start := by
  unfold addTok
  split <;> simp
theorem tokStep_keeps {s s' : Mk} {d : Decl} {y : Sym} {level : Int} (h : tokStep s d y level = some s') : s'.toks.length ≤ s.toks.length + 1 ∧ s'.lefts = s.lefts ∧ s'.nons = s.nons ∧ s'.prods = s.prods ∧ s'.types = s.types ∧ s'.start = s.start := by
  have h1 := addTok_keeps s y
  unfold tokStep at h
  split at h
  · cases h
  · cases h
    simp only [modTok]
    (repeat' split) <;> (first | exact h1 | (simp only [List.length_set]; exact h1))
theorem namedStep_keeps {s s' : Mk} {d : Decl} {y : Sym} (h : namedStep s d y = some s') : s'.toks = s.toks ∧ s'.lefts = s.lefts ∧ s'.nons = s.nons ∧ s'.prods = s.prods ∧ (s'.start = s.start ∨ s'.start = y.name) := by
  unfold namedStep at h
  (repeat' split at h) <;> (first | cases h) <;> simp
/-- After the declarations. -/
structure DeclK (s s' : Mk) (n : Nat) : Prop where
  toks : s'.toks.length ≤ s.toks.length + n
  lefts : s'.lefts = s.lefts
  nons : s'.nons = s.nons
  prods : s'.prods = s.prods
  start : s.start.length ≤ 4000 → s'.start.length ≤ 4000
theorem DeclK.refl (s : Mk) : DeclK s s 0 := ⟨Nat.le_refl _, rfl, rfl, rfl, id⟩
theorem DeclK.trans {s s1 s2 : Mk} {n m : Nat} (h : DeclK s s1 n) (k : DeclK s1 s2 m) : DeclK s s2 (n + m) :=
  ⟨by have := h.toks; have := k.toks; omega, k.lefts.trans h.lefts, k.nons.trans h.nons, k.prods.trans h.prods, fun h0 => k.start (h.start h0)⟩
theorem symsGo_keeps (d : Decl) (level : Int) : ∀ (l : List Sym) (s s' : Mk), (∀ y ∈ l, y.name.length ≤ 4000) → symsGo d level l s = .ok s' → DeclK s s' l.length
  | [], s, s', _, h => by
    cases h
    exact DeclK.refl s
  | y :: l, s, s', hy, h => by
    unfold symsGo at h
    have hn := hy y (by simp)
    have key : ∀ s1, (if 5 ≤ d.kind then namedStep s d y else tokStep s d y level) = some s1 → DeclK s s1 1 := by
      intro s1 h1
      split at h1
      · obtain ⟨a, b, c, e, f⟩ := namedStep_keeps h1
        refine ⟨by rw [a]; omega, b, c, e, fun h0 => ?_⟩
        rcases f with f | f <;> rw [f] <;> assumption
      · obtain ⟨a, b, c, e, _, f⟩ := tokStep_keeps h1
        exact ⟨a, b, c, e, fun h0 => by rw [f]; exact h0⟩
    split at h
    · cases h
    · rename_i s1 h1
      have h2 := (key s1 h1).trans (symsGo_keeps d level l s1 s' (fun z hz => hy z (by simp [hz])) h)
      rw [List.length_cons, Nat.add_comm]
      exact h2
theorem declsMk_keeps : ∀ (ds : List Decl) (level : Int) (s s' : Mk), (∀ d ∈ ds, d.syms.length ≤ 4000 ∧ ∀ y ∈ d.syms, y.name.length ≤ 4000) → declsMk level ds s = .ok s' → DeclK s s' (ds.length * 4000)
  | [], level, s, s', _, h => by
    cases h
    exact DeclK.refl s
  | d :: ds, level, s, s', hs, h => by
    unfold declsMk at h
    simp only at h
    split at h
    · cases h
    · rename_i s1 h1
      have hd := hs d (by simp)
      have k1 := symsGo_keeps d _ d.syms s s1 hd.2 h1
      have k2 := declsMk_keeps ds _ s1 s' (fun e he => hs e (by simp [he])) h
      have k := k1.trans k2
      refine ⟨Nat.le_trans k.toks ?_, k.lefts, k.nons, k.prods, k.start⟩
      rw [List.length_cons, Nat.succ_mul]
      have := hd.1
      omega
/-- After the Lefts. -/
theorem leftsGo_keeps : ∀ (rs : List Rule) (s s' : Mk), leftsGo rs s = .ok s' → s'.toks = s.toks ∧ s'.prods = s.prods ∧ s'.start = s.start ∧ s'.lefts.length ≤ s.lefts.length + rs.length ∧ s'.nons.length + s.lefts.length = s.nons.length + s'.lefts.length
  | [], s, s', h => by
    cases h
    exact ⟨rfl, rfl, rfl, by simp, rfl⟩
  | r :: rs, s, s', h => by
    unfold leftsGo at h
    split at h
    · cases h
    · split at h
      · obtain ⟨a, b, c, d, e⟩ := leftsGo_keeps rs s s' h
        exact ⟨a, b, c, by rw [List.length_cons]; omega, e⟩
      · obtain ⟨a, b, c, d, e⟩ := leftsGo_keeps rs _ s' h
        refine ⟨a, b, c, ?_, ?_⟩
        · simp only [List.length_append, List.length_cons, List.length_nil] at d ⊢; omega
        · simp only [List.length_append, List.length_cons, List.length_nil] at e ⊢; omega
theorem leftsMk_keeps {x : Source} {s s' : Mk} (h : leftsMk x s = .ok s') : s'.toks = s.toks ∧ s'.prods = s.prods ∧ s'.start = s.start ∧ s'.lefts.length ≤ s.lefts.length + x.rules.length ∧ s'.nons.length + s.lefts.length = s.nons.length + s'.lefts.length := by
  unfold leftsMk at h
  split at h
  · cases h
  · rename_i s1 h1
    split at h
    · cases h
    · cases h
      exact leftsGo_keeps _ _ _ h1
/-- After the rules' symbols. -/
structure PartK (s s' : Mk) (n : Nat) : Prop where
  toks : s'.toks.length ≤ s.toks.length + n
  lefts : s'.lefts = s.lefts
  nons : s'.nons = s.nons
  prods : s'.prods = s.prods
  start : s'.start = s.start
theorem PartK.refl (s : Mk) : PartK s s 0 := ⟨Nat.le_refl _, rfl, rfl, rfl, rfl⟩
theorem PartK.trans {s s1 s2 : Mk} {n m : Nat} (h : PartK s s1 n) (k : PartK s1 s2 m) : PartK s s2 (n + m) :=
  ⟨by have := h.toks; have := k.toks; omega, k.lefts.trans h.lefts, k.nons.trans h.nons, k.prods.trans h.prods, k.start.trans h.start⟩
theorem PartK.mono {s s1 : Mk} {n m : Nat} (h : PartK s s1 n) (hn : n ≤ m) : PartK s s1 m := ⟨Nat.le_trans h.toks (by omega), h.lefts, h.nons, h.prods, h.start⟩
theorem used_keeps {s s' : Mk} {y : Sym} {b : Bool} (h : used s y b = .ok s') : PartK s s' 1 := by
  obtain ⟨a, b1, c, d, _, e⟩ := addTok_keeps s y
  unfold used at h
  split at h
  · split at h
    · cases h
    · cases h
      exact ⟨a, b1, c, d, e⟩
  · split at h
    · cases h
    · cases h
      exact (PartK.refl s).mono (by omega)
theorem partsGo2_keeps : ∀ (l : List Part) (s s' : Mk), partsGo2 l s = .ok s' → PartK s s' l.length
  | [], s, s', h => by
    cases h
    exact PartK.refl s
  | p :: l, s, s', h => by
    unfold partsGo2 at h
    split at h
    · split at h
      · cases h
      · rename_i s1 h1
        have k := (used_keeps h1).trans (partsGo2_keeps l s1 s' h)
        rw [List.length_cons, Nat.add_comm]
        exact k
    · exact (partsGo2_keeps l s s' h).mono (by simp)
theorem altsGo2_keeps : ∀ (l : List Alt) (s s' : Mk), (∀ a ∈ l, a.parts.length ≤ 4000) → altsGo2 l s = .ok s' → PartK s s' (l.length * 4001)
  | [], s, s', _, h => by
    cases h
    exact PartK.refl s
  | a :: l, s, s', hl, h => by
    have ha := hl a (by simp)
    have hr : ∀ b ∈ l, b.parts.length ≤ 4000 := fun b hb => hl b (by simp [hb])
    have e : (a :: l).length * 4001 = 4001 + l.length * 4001 := by rw [List.length_cons, Nat.succ_mul, Nat.add_comm]
    rw [e]
    unfold altsGo2 at h
    split at h
    · cases h
    · rename_i s1 h1
      have k1 := partsGo2_keeps _ _ _ h1
      split at h
      · exact (k1.trans (altsGo2_keeps l s1 s' hr h)).mono (by omega)
      · split at h
        · cases h
        · rename_i s2 h2
          exact ((k1.trans (used_keeps h2)).trans (altsGo2_keeps l s2 s' hr h)).mono (by omega)
set_option maxRecDepth 100000 in
theorem partsMk_keeps : ∀ (l : List Rule) (s s' : Mk), (∀ r ∈ l, r.alts.length ≤ 4000 ∧ ∀ a ∈ r.alts, a.parts.length ≤ 4000) → partsMk l s = .ok s' → PartK s s' (l.length * 16004000)
  | [], s, s', _, h => by
    cases h
    exact PartK.refl s
  | r :: l, s, s', hl, h => by
    have ha := hl r (by simp)
    have hr : ∀ b ∈ l, b.alts.length ≤ 4000 ∧ ∀ a ∈ b.alts, a.parts.length ≤ 4000 := fun b hb => hl b (by simp [hb])
    have e : (r :: l).length * 16004000 = 16004000 + l.length * 16004000 := by rw [List.length_cons, Nat.succ_mul, Nat.add_comm]
    rw [e]
    unfold partsMk at h
    split at h
    · cases h
    · rename_i s1 h1
      have k1 := altsGo2_keeps _ _ _ ha.2 h1
      have h4 : r.alts.length * 4001 ≤ 4000 * 4001 := Nat.mul_le_mul_right 4001 ha.1
      exact ((k1.mono h4).trans (partsMk_keeps l s1 s' hr h)).mono (by omega)
/-- After the productions: how many there are, how long their right sides. -/
structure ProdK (s s' : Mk) (n : Nat) : Prop where
  toks : s'.toks = s.toks
  given : s'.given = s.given
  lefts : s'.lefts = s.lefts
  nons : s'.nons.length ≤ s.nons.length + n
  prods : s'.prods.length ≤ s.prods.length + n
  rights : (∀ p ∈ s.prods, p.right.length ≤ 4000) → ∀ p ∈ s'.prods, p.right.length ≤ 4000
theorem ProdK.refl (s : Mk) : ProdK s s 0 := ⟨rfl, rfl, rfl, Nat.le_refl _, Nat.le_refl _, id⟩
theorem ProdK.trans {s s1 s2 : Mk} {n m : Nat} (h : ProdK s s1 n) (k : ProdK s1 s2 m) : ProdK s s2 (n + m) :=
  ⟨k.toks.trans h.toks, k.given.trans h.given, k.lefts.trans h.lefts, by have := h.nons; have := k.nons; omega, by have := h.prods; have := k.prods; omega, fun h0 => k.rights (h.rights h0)⟩
theorem ProdK.mono {s s1 : Mk} {n m : Nat} (h : ProdK s s1 n) (hn : n ≤ m) : ProdK s s1 m := ⟨h.toks, h.given, h.lefts, Nat.le_trans h.nons (by omega), Nat.le_trans h.prods (by omega), h.rights⟩
theorem altGo_keeps (n : Nat) : ∀ (l : List Part) (k : Nat) (p : Prod) (inner : Nat) (s : Mk), ProdK s (altGo n k l (p, inner, s)).2.2 l.length ∧ (altGo n k l (p, inner, s)).1.right.length ≤ p.right.length + l.length
  | [], k, p, inner, s => ⟨ProdK.refl s, Nat.le_refl _⟩
  | x :: l, k, p, inner, s => by
    have e : (x :: l).length = 1 + l.length := by rw [List.length_cons, Nat.add_comm]
    rw [e]
    unfold altGo
    split
    · obtain ⟨a, b⟩ := altGo_keeps n l (k + 1) { p with right := p.right ++ [symNo s x.sym], prec := if symNo s x.sym < 1000 then symNo s x.sym else p.prec } inner s
      refine ⟨a.mono (by omega), ?_⟩
      simp only [List.length_append, List.length_cons, List.length_nil] at b
      refine Nat.le_trans b ?_
      omega
    · split
      · obtain ⟨a, b⟩ := altGo_keeps n l (k + 1) { p with code := x.code, at_ := x.at_ } inner s
        refine ⟨a.mono (by omega), ?_⟩
        simp only at b
        exact Nat.le_trans b (by omega)
      · simp only
        obtain ⟨L, hL⟩ : ∃ L : List Non, L = s.nons ++ [⟨64 :: Lib.itoa ((inner + 1 : Nat) : Int), []⟩] := ⟨_, rfl⟩
        have hLl : L.length = s.nons.length + 1 := by rw [hL]; simp
        rw [← hL]
        have k1 := altGo_keeps n l (k + 1) { p with right := p.right ++ [1000 + (L.length : Int) - 1] } (inner + 1) { s with nons := L, prods := s.prods ++ [⟨(L.length : Int) - 1, [], -1, x.code, p.right, x.at_⟩] }
        obtain ⟨a, b⟩ := k1
        refine ⟨ProdK.trans (n := 1) (s1 := { s with nons := L, prods := s.prods ++ [⟨(L.length : Int) - 1, [], -1, x.code, p.right, x.at_⟩] }) ⟨rfl, rfl, rfl, by simp only; omega, by simp, fun h0 q hq => ?_⟩ a, ?_⟩
        · simp only [List.mem_append, List.mem_singleton] at hq
          rcases hq with hq | rfl
          · exact h0 q hq
          · simp
        · simp only [List.length_append, List.length_cons, List.length_nil] at b ⊢
          refine Nat.le_trans b ?_
          omega
theorem altMk_keeps (left : Int) (a : Alt) (inner : Nat) (s : Mk) (h : a.parts.length ≤ 4000) : ProdK s (altMk left a inner s).2 4001 := by
  obtain ⟨k1, k2⟩ := altGo_keeps a.parts.length a.parts 0 ⟨left, [], -1, [], [], a.at_⟩ inner s
  unfold altMk
  simp only
  refine ProdK.mono (k1.trans (m := 1) ⟨rfl, rfl, rfl, by simp, by simp, fun h0 q hq => ?_⟩) (by omega)
  simp only [List.mem_append, List.mem_singleton] at hq
  rcases hq with hq | rfl
  · exact h0 q hq
  · simp only [List.length_nil, Nat.zero_add] at k2
    split <;> (simp only; omega)
theorem altsMk_keeps (left : Int) : ∀ (l : List Alt) (r : Nat × Mk), (∀ a ∈ l, a.parts.length ≤ 4000) → ProdK r.2 (altsMk left l r).2 (l.length * 4001)
  | [], r, _ => ProdK.refl r.2
  | a :: l, r, h => by
    have e : (a :: l).length * 4001 = 4001 + l.length * 4001 := by rw [List.length_cons, Nat.succ_mul, Nat.add_comm]
    rw [e]
    unfold altsMk
    exact (altMk_keeps left a r.1 r.2 (h a (by simp))).trans (altsMk_keeps left l _ (fun b hb => h b (by simp [hb])))
set_option maxRecDepth 100000 in
theorem rulesMk_keeps : ∀ (l : List Rule) (r : Nat × Mk), (∀ x ∈ l, x.alts.length ≤ 4000 ∧ ∀ a ∈ x.alts, a.parts.length ≤ 4000) → ProdK r.2 (rulesMk l r).2 (l.length * 16004000)
  | [], r, _ => ProdK.refl r.2
  | x :: l, r, h => by
    have e : (x :: l).length * 16004000 = 16004000 + l.length * 16004000 := by rw [List.length_cons, Nat.succ_mul, Nat.add_comm]
    rw [e]
    unfold rulesMk
    have h4 : x.alts.length * 4001 ≤ 4000 * 4001 := Nat.mul_le_mul_right 4001 (h x (by simp)).1
    exact ((altsMk_keeps _ x.alts r (h x (by simp)).2).mono h4).trans (rulesMk_keeps l _ (fun b hb => h b (by simp [hb])))
theorem prodsMk_keeps {x : Source} {s : Mk} (h : ∀ r ∈ x.rules, r.alts.length ≤ 4000 ∧ ∀ a ∈ r.alts, a.parts.length ≤ 4000) : ProdK s (prodsMk x s) (1 + x.rules.length * 16004000) := by
  unfold prodsMk
  simp only
  refine ProdK.trans (n := 1) ?_ (rulesMk_keeps x.rules (_, _) h)
  refine ⟨rfl, rfl, rfl, by simp, by simp, fun h0 q hq => ?_⟩
  simp only [List.mem_append, List.mem_singleton] at hq
  rcases hq with hq | rfl
  · exact h0 q hq
  · simp
theorem numGo_len : ∀ (ts : List Tok) (gs : List Bool) (n : Int), (numGo n ts gs).length = ts.length
  | [], gs, n => by cases gs <;> rfl
  | t :: ts, [], n => rfl
  | t :: ts, g :: gs, n => by
    unfold numGo
    split <;> simp [numGo_len ts gs]
theorem numbersMk_len (s : Mk) : (numbersMk s).toks.length = s.toks.length := by
  unfold numbersMk
  simp only [List.length_append, numGo_len, List.length_take, List.length_drop]
  omega
/-! ### What may be -/
theorem quotable_one {l : List UInt8} (h : quotable l = true) : ∃ c, l = [c] := by
  unfold quotable at h
  split at h
  · exact ⟨_, rfl⟩
  · cases h
theorem isSym_lit {y : Sym} (h : isSym y = true) (hl : y.lit = true) : ∃ c, y.name = [c] := by
  unfold isSym at h
  rw [if_pos hl] at h
  exact quotable_one h
theorem mayDecl_ok {d : Decl} (h : mayDecl d = true) : (1 ≤ d.kind ∧ d.kind ≤ 6) ∧ ∀ y ∈ d.syms, y.lit = true → ∃ c, y.name = [c] := by
  unfold mayDecl at h
  split at h
  · cases h
  · rename_i hk
    split at h
    · cases h
    · split at h
      · cases h
      · refine ⟨by omega, fun y hy hl => ?_⟩
        have h1 := List.all_eq_true.1 h y hy
        unfold maySym at h1
        split at h1
        · cases h1
        · rename_i hs
          refine isSym_lit ?_ hl
          cases he : isSym y
          · exact absurd (Or.inl he) hs
          · rfl
theorem mayAlt_ok {a : Alt} (h : mayAlt a = true) : (∀ p ∈ a.parts, p.code = [] → p.sym.lit = true → ∃ c, p.sym.name = [c]) ∧ (a.prec.name ≠ [] → a.prec.lit = true → ∃ c, a.prec.name = [c]) := by
  unfold mayAlt at h
  rw [Bool.and_eq_true, Bool.or_eq_true] at h
  obtain ⟨h1, h2⟩ := h
  refine ⟨fun p hp hc hl => ?_, fun hn hl => ?_⟩
  · have h3 := List.all_eq_true.1 h2 p hp
    unfold mayPart at h3
    rw [if_pos hc] at h3
    unfold isBare at h3
    exact isSym_lit (Bool.and_eq_true_iff.1 h3).1 hl
  · rcases h1 with h1 | h1
    · unfold isNone at h1
      simp only [Bool.and_eq_true, List.isEmpty_iff] at h1
      exact absurd h1.1.1 hn
    · unfold isBare at h1
      exact isSym_lit (Bool.and_eq_true_iff.1 h1).1 hl
theorem may_ok {x : Source} (h : may x = true) : 0 < x.rules.length ∧ (∀ d ∈ x.decls, mayDecl d = true) ∧ ∀ r ∈ x.rules, ∀ a ∈ r.alts, mayAlt a = true := by
  unfold may at h
  simp only [Bool.and_eq_true, List.all_eq_true, decide_eq_true_eq] at h
  refine ⟨h.1.1.2, h.1.2, fun r hr a ha => ?_⟩
  have h1 := h.2 r hr
  unfold mayRule at h1
  simp only [Bool.and_eq_true, List.all_eq_true] at h1
  exact h1.2 a ha
/-! ### The passes of gramOf, one by one -/
/-- What comes behind the four passes. -/
def ofTail (x : Source) (s : Mk) : Gram × Fault :=
  if great (numbersMk (prodsMk x s)) = true then (noGram, ⟨4, 0, []⟩) else (⟨(numbersMk (prodsMk x s)).toks, (numbersMk (prodsMk x s)).nons, (numbersMk (prodsMk x s)).prods, x.pro, x.tail⟩, ⟨0, 0, []⟩)
theorem gram_none {x : Source} (h : may x = false) : gramOf x = (noGram, ⟨1, 0, []⟩) := by
  unfold gramOf
  rw [h]
  rfl
theorem gram_err1 {x : Source} {e : Stop} (h : may x = true) (h1 : declsMk 0 x.decls mk0 = .error e) : gramOf x = (noGram, ⟨3, e.2, e.1⟩) := by
  unfold gramOf
  rw [h, h1]
  rfl
theorem gram_err2 {x : Source} {e : Stop} {s1 : Mk} (h : may x = true) (h1 : declsMk 0 x.decls mk0 = .ok s1) (h2 : leftsMk x s1 = .error e) : gramOf x = (noGram, ⟨3, e.2, e.1⟩) := by
  unfold gramOf
  rw [h, h1]
  simp only [Bool.true_eq_false, if_false]
  rw [h2]
theorem gram_err3 {x : Source} {e : Stop} {s1 s2 : Mk} (h : may x = true) (h1 : declsMk 0 x.decls mk0 = .ok s1) (h2 : leftsMk x s1 = .ok s2) (h3 : partsMk x.rules s2 = .error e) : gramOf x = (noGram, ⟨3, e.2, e.1⟩) := by
  unfold gramOf
  rw [h, h1]
  simp only [Bool.true_eq_false, if_false]
  rw [h2]
  simp only
  rw [h3]
theorem gram_tail {x : Source} {s1 s2 s3 : Mk} (h : may x = true) (h1 : declsMk 0 x.decls mk0 = .ok s1) (h2 : leftsMk x s1 = .ok s2) (h3 : partsMk x.rules s2 = .ok s3) : gramOf x = ofTail x s3 := by
  unfold gramOf
  rw [h, h1]
  simp only [Bool.true_eq_false, if_false]
  rw [h2]
  simp only
  rw [h3]
  rfl
end Sp
end Go.Proofs.YthmimcegiihcnaaDoor

namespace Go.Proofs.YthmimcegiihcnaaDoor
namespace Sp
def passSrc (a b c d : Bool) (low : Int) : Source :=
  ⟨[], (if c then [⟨5, [116], [⟨[122, 122], false, 0, low + 1⟩], 0⟩] else []) ++ (if a then [⟨4, [], [⟨[112], true, 0, 0⟩, ⟨[112], true, 0, low + 3⟩], 0⟩] else []),
   [⟨[97], [⟨[⟨⟨[120], true, 0, 0⟩, [], 0⟩] ++ (if d then [⟨⟨[110, 111, 98, 111, 100, 121], false, 0, low⟩, [], low⟩] else []), ⟨[], false, 0, 0⟩, 0⟩], 0⟩] ++ (if b then [⟨errName, [⟨[], ⟨[], false, 0, 0⟩, 0⟩], low + 2⟩] else []), []⟩
def passFault (a b c d : Bool) (low : Int) : Fault :=
  if a then ⟨3, low + 3, [112]⟩ else if b then ⟨3, low + 2, errName⟩ else if c then ⟨3, low + 1, [122, 122]⟩ else if d then ⟨3, low, [110, 111, 98, 111, 100, 121]⟩ else ⟨0, 0, []⟩
theorem pass_law (a b c d : Bool) (low : Int) : (gramOf (passSrc a b c d low)).2 = passFault a b c d low := by
  cases a <;> cases b <;> cases c <;> cases d <;> rfl
def emptyAlt : Alt := ⟨[], ⟨[], false, 0, 0⟩, 0⟩
def limSrc (which n : Nat) : Source := match which with
  | 0 => ⟨[], [⟨1, [], (List.range n).map fun (i : Nat) => ⟨116 :: Lib.itoa (i : Int), false, 0, 0⟩, 0⟩], [⟨[97], [emptyAlt], 0⟩], []⟩
  | 1 => ⟨[], [], ⟨[97], [emptyAlt], 0⟩ :: (List.range (n - 1)).map fun (i : Nat) => ⟨97 :: Lib.itoa ((i + 1 : Nat) : Int), [emptyAlt], 0⟩, []⟩
  | 2 => ⟨[], [], [⟨[97], List.replicate n emptyAlt, 0⟩], []⟩
  | _ => ⟨[], [], [⟨[97], [emptyAlt, ⟨List.replicate n ⟨⟨[97], false, 0, 0⟩, [], 0⟩, ⟨[], false, 0, 0⟩, 0⟩], 0⟩], []⟩
def limOk (which n : Nat) : Bool := match which with
  | 0 => decide (n ≤ 37)
  | 1 => decide (n ≤ 23)
  | 2 => decide (n ≤ 59)
  | _ => decide (n ≤ 8)
def limCheck (which n : Nat) : Bool :=
  let r := gramOf (limSrc which n)
  if limOk which n then decide (r.2.err = 0) && decide (2 ≤ r.1.prods.length) else decide (r = (noGram, ⟨4, 0, []⟩))
theorem lim0 : ((List.range 64).all fun n => limCheck 0 (n + 1)) = true := by decide +kernel
theorem lim1 : ((List.range 64).all fun n => limCheck 1 (n + 1)) = true := by decide +kernel
theorem lim2 : ((List.range 64).all fun n => limCheck 2 (n + 1)) = true := by decide +kernel
theorem lim3 : ((List.range 64).all fun n => limCheck 3 (n + 1)) = true := by decide +kernel
def codeOf (i : Nat) : List UInt8 := 123 :: (Lib.itoa (i : Int) ++ [125])
def innerParts (n : Nat) : Nat → List Bool → List Part
  | _, [] => []
  | i, b :: l => ⟨⟨[120], true, 0, (i : Int)⟩, [], (i : Int)⟩ :: ((if b = true then [⟨⟨[], false, 0, 0⟩, codeOf i, 50 + (i : Int)⟩] else []) ++ innerParts n (i + 1) l)
def innerSrc (l : List Bool) : Source := ⟨[], [], [⟨[97], [⟨innerParts l.length 0 l, ⟨[], false, 0, 0⟩, 40⟩], 0⟩], []⟩
structure InnSt where
  right : List Int
  prods : List Prod
  nons : List Non
  last : List UInt8
  at_ : Int
def innGo (n : Nat) : Nat → List Bool → InnSt → InnSt
  | _, [], s => s
  | i, b :: l, s =>
    let right := s.right ++ [3]
    if b = false then innGo n (i + 1) l { s with right := right }
    else if i + 1 = n then innGo n (i + 1) l { s with right := right, last := codeOf i, at_ := 50 + (i : Int) }
    else
      let k := s.prods.length
      innGo n (i + 1) l { s with right := right ++ [1001 + ((k + 1 : Nat) : Int)], prods := s.prods ++ [⟨((k + 2 : Nat) : Int), [], -1, codeOf i, right, 50 + (i : Int)⟩], nons := s.nons ++ [⟨64 :: Lib.itoa ((k + 1 : Nat) : Int), []⟩] }
def innExp (l : List Bool) : Gram × Fault :=
  let s := innGo l.length 0 l ⟨[], [], [], [], 40⟩
  if 8 < s.right.length then (noGram, ⟨4, 0, []⟩)
  else (⟨mk0.toks ++ (if l = [] then [] else [⟨[120], true, 120, 0, 0, []⟩]), mk0.nons ++ [⟨[97], []⟩] ++ s.nons, ⟨0, [1001], -1, [], [], 0⟩ :: s.prods ++ [⟨1, s.right, if l = [] then -1 else 3, s.last, s.right, s.at_⟩], [], []⟩, ⟨0, 0, []⟩)
def boolsOf : Nat → List (List Bool)
  | 0 => [[]]
  | n + 1 => (boolsOf n).flatMap fun l => [true :: l, false :: l]
theorem inn_all : ((List.range 8).all fun n => (boolsOf n).all fun l => decide (gramOf (innerSrc l) = innExp l)) = true := by decide +kernel
theorem boolsOf_mem : ∀ (l : List Bool), l ∈ boolsOf l.length
  | [] => by simp [boolsOf]
  | b :: l => by
    have h := boolsOf_mem l
    show b :: l ∈ (boolsOf l.length).flatMap _
    rw [List.mem_flatMap]
    exact ⟨l, h, by cases b <;> simp⟩
theorem inn_law (l : List Bool) (h : l.length ≤ 7) : gramOf (innerSrc l) = innExp l := by
  have h1 := List.all_eq_true.1 inn_all l.length (List.mem_range.2 (by omega))
  have h2 := List.all_eq_true.1 h1 l (boolsOf_mem l)
  exact of_decide_eq_true h2
theorem lim_law (which n : Nat) (hw : which < 4) (h : 1 ≤ n ∧ n ≤ 64) : limCheck which n = true := by
  have e : n = (n - 1) + 1 := by omega
  have hm : n - 1 ∈ List.range 64 := List.mem_range.2 (by omega)
  rw [e]
  rcases which with _ | _ | _ | _ | k
  · exact List.all_eq_true.1 lim0 _ hm
  · exact List.all_eq_true.1 lim1 _ hm
  · exact List.all_eq_true.1 lim2 _ hm
  · exact List.all_eq_true.1 lim3 _ hm
  · omega
/-! ### What the document fixes -/
def wakeGram : Source := ⟨[], [⟨2, [], [⟨[43], true, 0, 0⟩], 0⟩], [⟨[101], [⟨[⟨⟨[101], false, 0, 0⟩, [], 0⟩, ⟨⟨[43], true, 0, 0⟩, [], 0⟩, ⟨⟨[101], false, 0, 0⟩, [], 0⟩], ⟨[], false, 0, 0⟩, 0⟩, ⟨[⟨⟨[120], true, 0, 0⟩, [], 0⟩], ⟨[], false, 0, 0⟩, 0⟩], 0⟩], []⟩
theorem wake_gram : gramOf wakeGram = (⟨[⟨[36, 101, 110, 100], false, 0, 0, 0, []⟩, ⟨errName, false, -1, 0, 0, []⟩, ⟨[36, 117, 110, 107], false, -1, 0, 0, []⟩, ⟨[43], true, 43, 1, 1, []⟩, ⟨[120], true, 120, 0, 0, []⟩], [⟨[36, 97, 99, 99, 101, 112, 116], []⟩, ⟨[101], []⟩], [⟨0, [1001], -1, [], [], 0⟩, ⟨1, [1001, 3, 1001], 3, [], [1001, 3, 1001], 0⟩, ⟨1, [4], 4, [], [4], 0⟩], [], []⟩, ⟨0, 0, []⟩) := by decide +kernel
theorem wake_none : gramOf ⟨[], [], [], []⟩ = (noGram, ⟨1, 0, []⟩) := by decide +kernel
end Sp
end Go.Proofs.YthmimcegiihcnaaDoor
