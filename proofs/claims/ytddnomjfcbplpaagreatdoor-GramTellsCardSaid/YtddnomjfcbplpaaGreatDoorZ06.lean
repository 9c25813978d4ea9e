import Derived.Test.YtddnomjfcbplpaaGreatDoorZ02
import Derived.Maps.Own
import Derived.Maps.Views
import Derived.DeepKeys4
import Derived.Test.YtddnomjfcbplpaaGreatDoorZ01
import Derived.Test.YtddnomjfcbplpaaGreatDoorZ00
import Derived.Test.YtddnomjfcbplpaaGreatDoorZ03
namespace Go.Proofs.YtddnomjfcbplpaaGreatDoor
namespace Sp

structure Tok where
 name : List UInt8
 lit : Bool
 num : Int
 level : Int
 assoc : Int
 tag : List UInt8
deriving DecidableEq
structure Non where
 name : List UInt8
 tag : List UInt8
deriving DecidableEq
structure Prod where
 left : Int
 right : List Int
 prec : Int
 code : List UInt8
 args : List Int
 at_ : Int
deriving DecidableEq
structure Gram where
 toks : List Tok
 nons : List Non
 prods : List Prod
 pro : List UInt8
 tail : List UInt8
deriving DecidableEq
def findIx {α : Type} (p : α → Bool) : List α → Nat → Option Nat
 | [], _ => none
 | x :: l, i => if p x = true then some i else findIx p l (i + 1)
def errName : List UInt8 := [101, 114, 114, 111, 114]
def tokIx (toks : List Tok) (nm : List UInt8) (lt : Bool) : Option Nat :=
 if nm = errName ∧ lt = false then some 1 else findIx (fun t => t.name == nm && t.lit == lt) (toks.drop 3) 3
def nonIx (lefts : List (List UInt8)) (nm : List UInt8) : Option Nat := findIx (fun l => l == nm) lefts 1
structure Mk where
 toks : List Tok
 given : List Bool
 lefts : List (List UInt8)
 nons : List Non
 prods : List Prod
 types : List (List UInt8 × List UInt8)
 start : List UInt8
def noTok : Tok := ⟨[], false, 0, 0, 0, []⟩
def mk0 : Mk := ⟨[⟨[36, 101, 110, 100], false, 0, 0, 0, []⟩, ⟨errName, false, -1, 0, 0, []⟩, ⟨[36, 117, 110, 107], false, -1, 0, 0, []⟩], [false, false, false], [], [⟨[36, 97, 99, 99, 101, 112, 116], []⟩], [], [], []⟩
def takenGo (num but : Int) : Nat → List Tok → List Bool → Bool
 | i, t :: ts, g :: gs => ((decide ((i : Int) ≠ but) && g) && (t.num == num)) || takenGo num but (i + 1) ts gs
 | _, _, _ => false
def taken (s : Mk) (num but : Int) : Bool := takenGo num but 3 (s.toks.drop 3) (s.given.drop 3)
def byte0 (l : List UInt8) : Int := ((l.headD 0).toNat : Int)
def addTok (s : Mk) (x : Sym) : Mk × Nat :=
 match tokIx s.toks x.name x.lit with
 | some t => (s, t)
 | none => ({ s with toks := s.toks ++ [⟨x.name, x.lit, if x.lit = true then byte0 x.name else 0, 0, 0, []⟩], given := s.given ++ [x.lit] }, s.toks.length)
def clash (s : Mk) (x : Sym) : Bool := (x.lit && (tokIx s.toks x.name x.lit).isNone) && taken s (byte0 x.name) (-1)
def tokBad (s : Mk) (d : Decl) (x : Sym) : Bool :=
 let o := tokIx s.toks x.name x.lit
 let k : Int := match o with
  | some t => (t : Int)
  | none => -1
 let t := match o with
  | some t => s.toks.getD t noTok
  | none => noTok
 let g := match o with
  | some t => s.given.getD t false
  | none => false
 (decide (d.kind ≠ 1) && decide (0 < t.level)) || (decide (0 < x.num) && ((decide (k = 1) || g) || taken s x.num k)) || clash s x || ((decide (d.tag ≠ []) && decide (t.tag ≠ [])) && decide (t.tag ≠ d.tag))
def modTok (s : Mk) (k : Nat) (f : Tok → Tok) : Mk := { s with toks := s.toks.set k (f (s.toks.getD k noTok)) }
def tokStep (s : Mk) (d : Decl) (x : Sym) (level : Int) : Option Mk :=
 if tokBad s d x = true then none else
  let r := addTok s x
  let s1 := if 0 < x.num then { modTok r.1 r.2 (fun t => { t with num := x.num }) with given := r.1.given.set r.2 true } else r.1
  let s2 := if d.tag ≠ [] then modTok s1 r.2 (fun t => { t with tag := d.tag }) else s1
  some (if d.kind ≠ 1 then modTok s2 r.2 (fun t => { t with level := level, assoc := d.kind - 2 + 1 }) else s2)
def typeOf : List (List UInt8 × List UInt8) → List UInt8 → Option (List UInt8)
 | [], _ => none
 | (n, t) :: l, nm => if n = nm then some t else typeOf l nm
def namedStep (s : Mk) (d : Decl) (x : Sym) : Option Mk :=
 if d.kind = 5 ∧ (∃ t, typeOf s.types x.name = some t ∧ t ≠ d.tag) ∨ d.kind = 6 ∧ s.start ≠ [] then none
 else if d.kind = 5 then some { s with types := (x.name, d.tag) :: s.types } else some { s with start := x.name }
abbrev Stop := List UInt8 × Int
def symsGo (d : Decl) (level : Int) : List Sym → Mk → Except Stop Mk
 | [], s => .ok s
 | x :: l, s =>
  match (if 5 ≤ d.kind then namedStep s d x else tokStep s d x level) with
  | none => .error (x.name, x.at_)
  | some s => symsGo d level l s
def declsMk : Int → List Decl → Mk → Except Stop Mk
 | _, [], s => .ok s
 | level, d :: l, s =>
  let level := if 2 ≤ d.kind ∧ d.kind ≤ 4 then level + 1 else level
  match symsGo d level d.syms s with
  | .error e => .error e
  | .ok s => declsMk level l s
def leftsGo : List Rule → Mk → Except Stop Mk
 | [], s => .ok s
 | r :: l, s =>
  if (tokIx s.toks r.left false).isSome = true then .error (r.left, r.at_)
  else if (nonIx s.lefts r.left).isSome = true then leftsGo l s
  else leftsGo l { s with lefts := s.lefts ++ [r.left], nons := s.nons ++ [⟨r.left, (typeOf s.types r.left).getD []⟩] }
def namesOk (s : Mk) (kind : Int) : List Sym → Option Stop
 | [] => none
 | x :: l => if 5 ≤ kind ∧ (nonIx s.lefts x.name).isNone = true then some (x.name, x.at_) else namesOk s kind l
def declsNames (s : Mk) : List Decl → Option Stop
 | [] => none
 | d :: l =>
  match namesOk s d.kind d.syms with
  | some e => some e
  | none => declsNames s l
def leftsMk (x : Source) (s : Mk) : Except Stop Mk :=
 match leftsGo x.rules s with
 | .error e => .error e
 | .ok s =>
  match declsNames s x.decls with
  | some e => .error e
  | none => .ok s
def used (s : Mk) (x : Sym) (prec : Bool) : Except Stop Mk :=
 if x.lit = true then (if clash s x = true then .error (x.name, x.at_) else .ok (addTok s x).1)
 else if (tokIx s.toks x.name x.lit).isNone = true ∧ (prec = true ∨ (nonIx s.lefts x.name).isNone = true) then .error (x.name, x.at_) else .ok s
def partsGo2 : List Part → Mk → Except Stop Mk
 | [], s => .ok s
 | p :: l, s =>
  if p.code = [] then
   match used s p.sym false with
   | .error e => .error e
   | .ok s => partsGo2 l s
  else partsGo2 l s
def altsGo2 : List Alt → Mk → Except Stop Mk
 | [], s => .ok s
 | a :: l, s =>
  match partsGo2 a.parts s with
  | .error e => .error e
  | .ok s =>
   if a.prec.name = [] then altsGo2 l s else
    match used s a.prec true with
    | .error e => .error e
    | .ok s => altsGo2 l s
def partsMk : List Rule → Mk → Except Stop Mk
 | [], s => .ok s
 | r :: l, s =>
  match altsGo2 r.alts s with
  | .error e => .error e
  | .ok s => partsMk l s
def symNo (s : Mk) (x : Sym) : Int :=
 match tokIx s.toks x.name x.lit with
 | some t => (t : Int)
 | none => 1000 + (((nonIx s.lefts x.name).getD 0 : Nat) : Int)
def altGo (n : Nat) : Nat → List Part → Prod × Nat × Mk → Prod × Nat × Mk
 | _, [], r => r
 | k, x :: l, (p, inner, s) =>
  if x.code = [] then
   let c := symNo s x.sym
   altGo n (k + 1) l ({ p with right := p.right ++ [c], prec := if c < 1000 then c else p.prec }, inner, s)
  else if k + 1 = n then altGo n (k + 1) l ({ p with code := x.code, at_ := x.at_ }, inner, s)
  else
   let s1 : Mk := { s with nons := s.nons ++ [⟨64 :: Lib.itoa ((inner + 1 : Nat) : Int), []⟩] }
   let s2 : Mk := { s1 with prods := s1.prods ++ [⟨(s1.nons.length : Int) - 1, [], -1, x.code, p.right, x.at_⟩] }
   altGo n (k + 1) l ({ p with right := p.right ++ [1000 + (s2.nons.length : Int) - 1] }, inner + 1, s2)
def altMk (left : Int) (a : Alt) (inner : Nat) (s : Mk) : Nat × Mk :=
 let r := altGo a.parts.length 0 a.parts (⟨left, [], -1, [], [], a.at_⟩, inner, s)
 let p := if a.prec.name = [] then r.1 else { r.1 with prec := symNo r.2.2 a.prec }
 (r.2.1, { r.2.2 with prods := r.2.2.prods ++ [{ p with args := p.right }] })
def altsMk (left : Int) : List Alt → Nat × Mk → Nat × Mk
 | [], r => r
 | a :: l, r => altsMk left l (altMk left a r.1 r.2)
def rulesMk : List Rule → Nat × Mk → Nat × Mk
 | [], r => r
 | x :: l, r => rulesMk l (altsMk (((nonIx r.2.lefts x.left).getD 0 : Nat) : Int) x.alts r)
def prodsMk (x : Source) (s : Mk) : Mk :=
 let first := if s.start = [] then (match x.rules with
  | [] => []
  | r :: _ => r.left) else s.start
 (rulesMk x.rules (0, { s with prods := s.prods ++ [⟨0, [1000 + (((nonIx s.lefts first).getD 0 : Nat) : Int)], -1, [], [], 0⟩] })).2
def numGo : Int → List Tok → List Bool → List Tok
 | next, t :: ts, g :: gs => if g = true then t :: numGo next ts gs else { t with num := next } :: numGo (next + 1) ts gs
 | _, ts, _ => ts
def numbersMk (s : Mk) : Mk := { s with toks := s.toks.take 3 ++ numGo 57346 (s.toks.drop 3) (s.given.drop 3) }
def great (s : Mk) : Bool := (s.prods.any fun p => decide (8 < p.right.length)) || decide (40 < s.toks.length) || decide (24 < s.nons.length) || decide (60 < s.prods.length)
structure Fault where
 err : Int
 at_ : Int
 name : List UInt8
deriving DecidableEq
def noGram : Gram := ⟨[], [], [], [], []⟩
def gramOf (x : Source) : Gram × Fault :=
 if may x = false then (noGram, ⟨1, 0, []⟩) else
  match declsMk 0 x.decls mk0 with
  | .error e => (noGram, ⟨3, e.2, e.1⟩)
  | .ok s =>
   match leftsMk x s with
   | .error e => (noGram, ⟨3, e.2, e.1⟩)
   | .ok s =>
    match partsMk x.rules s with
    | .error e => (noGram, ⟨3, e.2, e.1⟩)
    | .ok s =>
     let s := numbersMk (prodsMk x s)
     if great s = true then (noGram, ⟨4, 0, []⟩) else (⟨s.toks, s.nons, s.prods, x.pro, x.tail⟩, ⟨0, 0, []⟩)

theorem findIx_none {α : Type} {p : α → Bool} : ∀ {l : List α} {i : Nat}, findIx p l i = none ↔ ∀ x ∈ l, p x = false
 | [], i => by simp [findIx]
 | x :: l, i => by
  unfold findIx
  by_cases h : p x = true
  ·simp [h]
  ·simp [h, findIx_none (l := l) (i := i + 1)]
theorem findIx_snoc {α : Type} {p : α → Bool} {x : α} : ∀ {l : List α} {i : Nat}, findIx p (l ++ [x]) i = match findIx p l i with
  | some k => some k
  | none => if p x = true then some (i + l.length) else none
 | [], i => by simp [findIx]
 | y :: l, i => by
  unfold findIx
  by_cases h : p y = true
  ·simp [h]
  ·have ih := findIx_snoc (p := p) (x := x) (l := l) (i := i + 1)
   simp only [List.cons_append, findIx, h, if_false, Bool.false_eq_true]
   rw [ih]
   cases findIx p l (i + 1) with
   | some k => rfl
   | none => simp only [List.length_cons]; split <;> simp_all; omega
theorem findIx_some {α : Type} {p : α → Bool} : ∀ {l : List α} {i k : Nat}, findIx p l i = some k → i ≤ k ∧ ∃ x, l[k - i]? = some x ∧ p x = true
 | [], i, k, h => by simp [findIx] at h
 | x :: l, i, k, h => by
  unfold findIx at h
  by_cases hp : p x = true
  ·rw [if_pos hp] at h
   cases h
   exact ⟨Nat.le_refl _, x, by simp, hp⟩
  ·rw [if_neg hp] at h
   obtain ⟨h1, y, h2, h3⟩ := findIx_some h
   refine ⟨by omega, y, ?_, h3⟩
   obtain ⟨m, hm⟩ : ∃ m, k - i = m + 1 := ⟨k - i - 1, by omega⟩
   rw [hm, List.getElem?_cons_succ]
   have : k - (i + 1) = m := by omega
   rw [this] at h2
   exact h2
theorem tokIx_snoc {toks : List Tok} {t : Tok} {nm : List UInt8} {lt : Bool} (h3 : 3 ≤ toks.length) (hn : tokIx toks t.name t.lit = none) :
  tokIx (toks ++ [t]) nm lt = if nm = t.name ∧ lt = t.lit then some toks.length else tokIx toks nm lt := by
 unfold tokIx at hn ⊢
 by_cases he : nm = errName ∧ lt = false
 ·rw [if_pos he, if_pos he, if_neg]
  rintro ⟨h1, h2⟩
  rw [if_pos ⟨h1 ▸ he.1, h2 ▸ he.2⟩] at hn
  cases hn
 ·rw [if_neg he, if_neg he, List.drop_append_of_le_length h3, findIx_snoc]
  by_cases hk : nm = t.name ∧ lt = t.lit
  ·obtain ⟨rfl, rfl⟩ := hk
   rw [if_neg he] at hn
   rw [hn]
   simp
   omega
  ·rw [if_neg hk]
   have hp : (t.name == nm && t.lit == lt) = false := by
    rw [Bool.and_eq_false_iff, beq_eq_false_iff_ne, beq_eq_false_iff_ne]
    by_cases h : t.name = nm
    ·right; intro e; exact hk ⟨h.symm, e.symm⟩
    ·left; exact h
   cases hf : findIx (fun t => t.name == nm && t.lit == lt) (toks.drop 3) 3 with
   | some k => rfl
   | none => simp [hp]
theorem tokIx_lt {toks : List Tok} {nm : List UInt8} {lt : Bool} {k : Nat} (h3 : 3 ≤ toks.length) (h : tokIx toks nm lt = some k) : k < toks.length ∧ (k = 1 ∨ 3 ≤ k) := by
 unfold tokIx at h
 split at h
 ·cases h; omega
 ·obtain ⟨h1, x, h2, _⟩ := findIx_some h
  have := (List.getElem?_eq_some_iff.1 h2).1
  rw [List.length_drop] at this
  omega
theorem nonIx_snoc {lefts : List (List UInt8)} {l nm : List UInt8} (hn : nonIx lefts l = none) : nonIx (lefts ++ [l]) nm = if nm = l then some (lefts.length + 1) else nonIx lefts nm := by
 unfold nonIx at hn ⊢
 rw [findIx_snoc]
 by_cases h : nm = l
 ·subst h
  rw [hn, if_pos rfl]
  simp
  omega
 ·rw [if_neg h]
  have : (l == nm) = false := by rw [beq_eq_false_iff_ne]; exact fun e => h e.symm
  cases findIx (fun x => x == nm) lefts 1 with
  | some k => rfl
  | none => simp [this]
end Sp
namespace Sp

structure Rk where
 toks : List Tok
 given : List Bool
 types : List (List UInt8 × List UInt8)
 lefts : List (List UInt8)
 prods : List Prod
 fault : Fault
 level : Int
 inner : Nat
def okFault : Fault := ⟨0, 0, []⟩
def failF (f : Fault) (at_ : Int) (nm : List UInt8) : Fault := if f.err = 0 then ⟨3, at_, nm⟩ else f
def rfail (r : Rk) (at_ : Int) (nm : List UInt8) : Rk := { r with fault := failF r.fault at_ nm }
def rtokGo (nm : List UInt8) (lt : Bool) : List Tok → Nat → Option Nat
 | [], _ => none
 | t :: ts, i => if (t.name = nm ∧ t.lit = lt) ∧ i ≠ 2 then some i else rtokGo nm lt ts (i + 1)
def rtok (toks : List Tok) (nm : List UInt8) (lt : Bool) : Option Nat := rtokGo nm lt (toks.drop 1) 1
def rowner (toks : List Tok) (n : Int) : Option Nat := findIx (fun t => t.num == n) (toks.drop 3) 3
def rput (r : Rk) (x : Sym) : Rk × Nat :=
 match rtok r.toks x.name x.lit with
 | some t => (r, t)
 | none =>
  let num : Int := if x.lit = true then byte0 x.name else 0
  let f := if x.lit = true ∧ (rowner r.toks num).isSome = true then failF r.fault x.at_ x.name else r.fault
  ({ r with toks := r.toks ++ [⟨x.name, x.lit, num, 0, 0, []⟩], given := r.given ++ [x.lit], fault := f }, r.toks.length)
def rmod (r : Rk) (k : Nat) (f : Tok → Tok) : Rk := { r with toks := r.toks.set k (f (r.toks.getD k noTok)) }
def rlevel (r : Rk) (t : Nat) (d : Decl) (x : Sym) : Rk :=
 if d.kind ≠ 1 then
  let f := if 0 < (r.toks.getD t noTok).level then failF r.fault x.at_ x.name else r.fault
  { rmod r t (fun k => { k with level := r.level, assoc := d.kind - 1 }) with fault := f }
 else r
def rnum (r : Rk) (t : Nat) (x : Sym) : Rk :=
 if 0 < x.num then
  let f := if (t = 1 ∨ r.given.getD t false = true) ∨ (rowner r.toks x.num).isSome = true then failF r.fault x.at_ x.name else r.fault
  { rmod r t (fun k => { k with num := x.num }) with fault := f, given := r.given.set t true }
 else r
def rtag (r : Rk) (t : Nat) (d : Decl) (x : Sym) : Rk :=
 if d.tag ≠ [] then
  let f := if (r.toks.getD t noTok).tag ≠ [] ∧ (r.toks.getD t noTok).tag ≠ d.tag then failF r.fault x.at_ x.name else r.fault
  { rmod r t (fun k => { k with tag := d.tag }) with fault := f }
 else r
def rdeclare (r : Rk) (d : Decl) (x : Sym) : Rk :=
 if d.kind = 5 then
  match typeOf r.types x.name with
  | none => { r with types := r.types ++ [(x.name, d.tag)] }
  | some t => if t ≠ d.tag then rfail r x.at_ x.name else r
 else
  let p := rput r x
  rtag (rnum (rlevel p.1 p.2 d x) p.2 x) p.2 d x
def rsym (r : Rk × List UInt8) (d : Decl) (x : Sym) : Rk × List UInt8 :=
 if d.kind ≠ 6 then (rdeclare r.1 d x, r.2)
 else (if r.2 ≠ [] then rfail r.1 x.at_ x.name else r.1, x.name)
def rsyms (d : Decl) : List Sym → Rk × List UInt8 → Rk × List UInt8
 | [], r => r
 | x :: l, r => rsyms d l (rsym r d x)
def rdecls : List Decl → Rk × List UInt8 → Rk × List UInt8
 | [], r => r
 | d :: l, r => rdecls l (rsyms d d.syms (if 2 ≤ d.kind ∧ d.kind ≤ 4 then { r.1 with level := r.1.level + 1 } else r.1, r.2))
def rleft (lefts : List (List UInt8)) (nm : List UInt8) : Option Nat := findIx (fun l => l == nm) lefts 0
def rrule (r : Rk) (x : Rule) : Rk :=
 let r1 := if (rtok r.toks x.left false).isSome = true then rfail r x.at_ x.left else r
 if (rleft r1.lefts x.left).isNone = true then { r1 with lefts := r1.lefts ++ [x.left] } else r1
def rrules : List Rule → Rk → Rk
 | [], r => r
 | x :: l, r => rrules l (rrule r x)
def rnameSym (kind : Int) (r : Rk) (x : Sym) : Rk := if 5 ≤ kind ∧ (rleft r.lefts x.name).isNone = true then rfail r x.at_ x.name else r
def rnamesSyms (kind : Int) : List Sym → Rk → Rk
 | [], r => r
 | x :: l, r => rnamesSyms kind l (rnameSym kind r x)
def rnames : List Decl → Rk → Rk
 | [], r => r
 | d :: l, r => rnames l (rnamesSyms d.kind d.syms r)
def rsymbol (r : Rk) (x : Sym) : Rk × Int :=
 if x.lit = true then ((rput r x).1, ((rput r x).2 : Int))
 else match rleft r.lefts x.name with
  | some k => (r, 1000 + 1 + (k : Int))
  | none =>
   match rtok r.toks x.name x.lit with
   | none => (rfail r x.at_ x.name, 0)
   | some t => (r, (t : Int))
def raltGo (n : Nat) : Nat → List Part → Rk × Prod → Rk × Prod
 | _, [], r => r
 | i, w :: l, (r, p) =>
  if w.code = [] then
   let q := rsymbol r w.sym
   raltGo n (i + 1) l (q.1, { p with right := p.right ++ [q.2] })
  else if i + 1 = n then raltGo n (i + 1) l (r, { p with code := w.code, at_ := w.at_ })
  else
   let m : Int := (r.lefts.length : Int) + ((r.inner + 1 : Nat) : Int)
   raltGo n (i + 1) l ({ r with inner := r.inner + 1, prods := r.prods ++ [⟨m, [], -1, w.code, p.right, w.at_⟩] }, { p with right := p.right ++ [1000 + m] })
def rprecGo : List Int → Int → Int
 | [], c => c
 | x :: l, c => rprecGo l (if x < 1000 then x else c)
def leftNo (lefts : List (List UInt8)) (nm : List UInt8) : Int := match rleft lefts nm with
 | some k => (k : Int)
 | none => -1
def raltPrec (r : Rk) (a : Alt) (c : Int) : Rk × Int :=
 if a.prec.name = [] then (r, c)
 else if a.prec.lit = true ∨ (rleft r.lefts a.prec.name).isNone = true then rsymbol r a.prec
 else (rfail r a.prec.at_ a.prec.name, -1)
def ralt (r : Rk) (left : List UInt8) (a : Alt) : Rk :=
 let q := raltGo a.parts.length 0 a.parts (r, ⟨1 + leftNo r.lefts left, [], -1, [], [], a.at_⟩)
 let c := raltPrec q.1 a (rprecGo q.2.right q.2.prec)
 { c.1 with prods := c.1.prods ++ [{ q.2 with prec := c.2, args := q.2.right }] }
def ralts (left : List UInt8) : List Alt → Rk → Rk
 | [], r => r
 | a :: l, r => ralts left l (ralt r left a)
def rrulesAlts : List Rule → Rk → Rk
 | [], r => r
 | x :: l, r => rrulesAlts l (ralts x.left x.alts r)
def innerNons : Nat → List Non
 | 0 => []
 | n + 1 => innerNons n ++ [⟨64 :: Lib.itoa ((n + 1 : Nat) : Int), []⟩]
def rnons (r : Rk) : List Non := ⟨[36, 97, 99, 99, 101, 112, 116], []⟩ :: (r.lefts.map fun l => ⟨l, (typeOf r.types l).getD []⟩) ++ innerNons r.inner
def rnumbers (r : Rk) : List Tok := r.toks.take 3 ++ numGo 57346 (r.toks.drop 3) (r.given.drop 3)
def rgreat (r : Rk) : Bool := (decide (40 < r.toks.length) || decide (24 < r.lefts.length + 1 + r.inner) || decide (60 < r.prods.length)) || r.prods.any fun p => decide (8 < p.right.length)
def rk0 : Rk := ⟨mk0.toks, mk0.given, [], [], [], okFault, 0, 0⟩
def rmade (x : Source) : Rk :=
 let q := rdecls x.decls (rk0, [])
 let r := rnames x.decls (rrules x.rules q.1)
 let start := if q.2 = [] then (match x.rules with
  | [] => []
  | u :: _ => u.left) else q.2
 rrulesAlts x.rules { r with prods := [⟨0, [1000 + 1 + leftNo r.lefts start], -1, [], [], 0⟩] }
def refGram (x : Source) : Gram × Fault :=
 if may x = false then (noGram, ⟨1, 0, []⟩) else
  let r := rmade x
  if r.fault.err ≠ 0 then (noGram, r.fault)
  else if rgreat r = true then (noGram, ⟨4, 0, []⟩)
  else (⟨rnumbers r, rnons r, r.prods, x.pro, x.tail⟩, okFault)
end Sp
namespace Sp

def RB (n : Nat) (r : Rk) : Prop := (r.given.length = r.toks.length ∧ 3 ≤ r.toks.length) ∧ r.toks.length ≤ n ∧ r.types.length ≤ n ∧ r.lefts.length ≤ n ∧ r.prods.length ≤ n ∧ r.inner ≤ n ∧ 0 ≤ r.level ∧ r.level ≤ (n : Int)
theorem RB.mono {n k : Nat} {r : Rk} (h : RB n r) (hk : n ≤ k) : RB k r := by
 obtain ⟨h0, h1, h2, h3, h4, h5, h6, h7⟩ := h
 exact ⟨h0, by omega, by omega, by omega, by omega, by omega, by omega, by omega⟩
theorem RB.three {n : Nat} {r : Rk} (h : RB n r) : 3 ≤ r.toks.length := h.1.2
theorem RB.same {n : Nat} {r : Rk} (h : RB n r) : r.given.length = r.toks.length := h.1.1
theorem RB.toks {n : Nat} {r : Rk} (h : RB n r) : r.toks.length ≤ n := h.2.1
theorem RB.types {n : Nat} {r : Rk} (h : RB n r) : r.types.length ≤ n := h.2.2.1
theorem RB.lefts {n : Nat} {r : Rk} (h : RB n r) : r.lefts.length ≤ n := h.2.2.2.1
theorem RB.prods {n : Nat} {r : Rk} (h : RB n r) : r.prods.length ≤ n := h.2.2.2.2.1
theorem RB.inner {n : Nat} {r : Rk} (h : RB n r) : r.inner ≤ n := h.2.2.2.2.2.1
theorem RB.level {n : Nat} {r : Rk} (h : RB n r) : 0 ≤ r.level ∧ r.level ≤ (n : Int) := h.2.2.2.2.2.2
theorem RB.congr {n : Nat} {r r' : Rk} (h : RB n r) (e1 : r'.toks.length = r.toks.length) (e7 : r'.given.length = r.given.length) (e2 : r'.types = r.types) (e3 : r'.lefts = r.lefts) (e4 : r'.prods = r.prods) (e5 : r'.inner = r.inner) (e6 : r'.level = r.level) : RB n r' := by
 unfold RB at *
 rw [e7, e1, e2, e3, e4, e5, e6]
 exact h
theorem rfail_RB {n : Nat} {r : Rk} (at_ : Int) (nm : List UInt8) (h : RB n r) : RB n (rfail r at_ nm) := h.congr rfl rfl rfl rfl rfl rfl rfl
theorem rput_RB {n : Nat} {r : Rk} (x : Sym) (h : RB n r) : RB (n + 1) (rput r x).1 := by
 unfold rput
 obtain ⟨h0, h1, h2, h3, h4, h5, h6, h7⟩ := h
 split
 ·exact ⟨h0, by simp only; omega, by simp only; omega, by simp only; omega, by simp only; omega, by simp only; omega, h6, by simp only; omega⟩
 ·exact ⟨by simp only [List.length_append, List.length_singleton]; omega, by simp only [List.length_append, List.length_singleton]; omega, by simp only; omega, by simp only; omega, by simp only; omega, by simp only; omega, h6, by simp only; omega⟩
theorem rmod_RB {n : Nat} {r : Rk} (k : Nat) (f : Tok → Tok) (h : RB n r) : RB n (rmod r k f) := h.congr (by unfold rmod; simp only [List.length_set]) rfl rfl rfl rfl rfl rfl
theorem rlevel_RB {n : Nat} {r : Rk} (t : Nat) (d : Decl) (x : Sym) (h : RB n r) : RB n (rlevel r t d x) := by
 unfold rlevel
 split
 ·have h2 := rmod_RB t (fun k => k) h
  obtain ⟨h0, h1, h3⟩ := h2
  exact ⟨by simpa [rmod] using h0, by simpa [rmod] using h1, by simpa [rmod] using h3⟩
 ·exact h
theorem rnum_RB {n : Nat} {r : Rk} (t : Nat) (x : Sym) (h : RB n r) : RB n (rnum r t x) := by
 unfold rnum
 split
 ·have h2 := rmod_RB t (fun k => k) h
  obtain ⟨h0, h1, h3⟩ := h2
  exact ⟨by simpa [rmod] using h0, by simpa [rmod] using h1, by simpa [rmod] using h3⟩
 ·exact h
theorem rtag_RB {n : Nat} {r : Rk} (t : Nat) (d : Decl) (x : Sym) (h : RB n r) : RB n (rtag r t d x) := by
 unfold rtag
 split
 ·have h2 := rmod_RB t (fun k => k) h
  obtain ⟨h0, h1, h3⟩ := h2
  exact ⟨by simpa [rmod] using h0, by simpa [rmod] using h1, by simpa [rmod] using h3⟩
 ·exact h
theorem rdeclare_RB {n : Nat} {r : Rk} (d : Decl) (x : Sym) (h : RB n r) : RB (n + 1) (rdeclare r d x) := by
 unfold rdeclare
 split
 ·split
  ·obtain ⟨h0, h1, h2, h3, h4, h5, h6, h7⟩ := h
   exact ⟨h0, by simp only; omega, by simp only [List.length_append, List.length_singleton]; omega, by simp only; omega, by simp only; omega, by simp only; omega, h6, by simp only; omega⟩
  ·split
   ·exact (rfail_RB _ _ h).mono (by omega)
   ·exact h.mono (by omega)
 ·exact rtag_RB _ _ _ (rnum_RB _ _ (rlevel_RB _ _ _ (rput_RB x h)))
theorem rsymbol_RB {n : Nat} {r : Rk} (x : Sym) (h : RB n r) : RB (n + 1) (rsymbol r x).1 := by
 unfold rsymbol
 split
 ·exact rput_RB x h
 ·split
  ·exact h.mono (by omega)
  ·split
   ·exact (rfail_RB _ _ h).mono (by omega)
   ·exact h.mono (by omega)
theorem rrule_RB {n : Nat} {r : Rk} (x : Rule) (h : RB n r) : RB (n + 1) (rrule r x) := by
 have h1 : RB n (if (rtok r.toks x.left false).isSome = true then rfail r x.at_ x.left else r) := by
  split
  ·exact rfail_RB _ _ h
  ·exact h
 unfold rrule
 simp only
 generalize (if (rtok r.toks x.left false).isSome = true then rfail r x.at_ x.left else r) = r1 at *
 split
 ·obtain ⟨h0, h1, h2, h3, h4, h5, h6, h7⟩ := h1
  exact ⟨h0, by simp only; omega, by simp only; omega, by simp only [List.length_append, List.length_singleton]; omega, by simp only; omega, by simp only; omega, h6, by simp only; omega⟩
 ·exact h1.mono (by omega)
theorem raltPrec_RB {n : Nat} {r : Rk} (a : Alt) (c : Int) (h : RB n r) : RB (n + 1) (raltPrec r a c).1 := by
 unfold raltPrec
 split
 ·exact h.mono (by omega)
 ·split
  ·exact rsymbol_RB _ h
  ·exact (rfail_RB _ _ h).mono (by omega)
theorem rtokGo_lt (nm : List UInt8) (lt : Bool) : ∀ (l : List Tok) (i k : Nat), rtokGo nm lt l i = some k → i ≤ k ∧ k < i + l.length
 | [], _, _, h => by cases h
 | t :: ts, i, k, h => by
  unfold rtokGo at h
  rw [List.length_cons]
  split at h
  ·cases h
   omega
  ·have := rtokGo_lt nm lt ts (i + 1) k h
   omega
theorem rtok_lt {toks : List Tok} {nm : List UInt8} {lt : Bool} {k : Nat} (h : rtok toks nm lt = some k) : 1 ≤ k ∧ k < toks.length := by
 have := rtokGo_lt nm lt _ _ _ h
 rw [List.length_drop] at this
 omega
theorem rput_lt {r : Rk} (x : Sym) : (rput r x).2 < (rput r x).1.toks.length ∧ r.toks.length ≤ (rput r x).1.toks.length := by
 unfold rput
 split
 ·rename_i t h
  exact ⟨(rtok_lt h).2, Nat.le_refl _⟩
 ·simp
theorem findIx_ltR {α : Type} {p : α → Bool} : ∀ (l : List α) (i k : Nat), findIx p l i = some k → i ≤ k ∧ k < i + l.length
 | [], _, _, h => by cases h
 | x :: l, i, k, h => by
  unfold findIx at h
  rw [List.length_cons]
  split at h
  ·cases h
   omega
  ·have := findIx_ltR l (i + 1) k h
   omega
theorem rleft_lt {lefts : List (List UInt8)} {nm : List UInt8} {k : Nat} (h : rleft lefts nm = some k) : k < lefts.length := by
 have := findIx_ltR _ _ _ h
 omega
def typeIx (types : List (List UInt8 × List UInt8)) (nm : List UInt8) : Option Nat := findIx (fun p => p.1 == nm) types 0
theorem typeIx_go (nm : List UInt8) : ∀ (l : List (List UInt8 × List UInt8)) (i : Nat), typeOf l nm = (findIx (fun p => p.1 == nm) l i).bind fun k => (l[k - i]?).map (·.2)
 | [], _ => rfl
 | (n, t) :: l, i => by
  unfold typeOf findIx
  by_cases h : n = nm
  ·subst h
   simp
  ·rw [if_neg h, if_neg (by simpa using h), typeIx_go nm l (i + 1)]
   cases hf : findIx (fun p => p.1 == nm) l (i + 1) with
   | none => rfl
   | some k =>
    have := (findIx_ltR _ _ _ hf).1
    simp only [Option.bind_some]
    rw [show k - i = (k - (i + 1)) + 1 by omega, List.getElem?_cons_succ]
theorem typeIx_of (types : List (List UInt8 × List UInt8)) (nm : List UInt8) : typeOf types nm = (typeIx types nm).bind fun k => (types[k]?).map (·.2) := typeIx_go nm types 0
theorem typeIx_lt {types : List (List UInt8 × List UInt8)} {nm : List UInt8} {k : Nat} (h : typeIx types nm = some k) : k < types.length := by
 have := findIx_ltR _ _ _ h
 omega
theorem refGram_none {x : Source} (h : may x = false) : refGram x = (noGram, ⟨1, 0, []⟩) := if_pos h
theorem refGram_fault {x : Source} (h : may x = true) (hf : (rmade x).fault.err ≠ 0) : refGram x = (noGram, (rmade x).fault) :=
 (if_neg (by rw [h]; decide)).trans (if_pos hf)
theorem refGram_great {x : Source} (h : may x = true) (hf : (rmade x).fault.err = 0) (hg : rgreat (rmade x) = true) : refGram x = (noGram, ⟨4, 0, []⟩) :=
 (if_neg (by rw [h]; decide)).trans ((if_neg (fun h => h hf)).trans (if_pos hg))
theorem refGram_fine {x : Source} (h : may x = true) (hf : (rmade x).fault.err = 0) (hg : rgreat (rmade x) = false) : refGram x = (⟨rnumbers (rmade x), rnons (rmade x), (rmade x).prods, x.pro, x.tail⟩, okFault) :=
 (if_neg (by rw [h]; decide)).trans ((if_neg (fun h => h hf)).trans (if_neg (by rw [hg]; decide)))
end Sp
end Go.Proofs.YtddnomjfcbplpaaGreatDoor

namespace Go.Proofs.YtddnomjfcbplpaaGreatDoor
open Go.RowKit Go.Maps

def heldR (v : Value) : Option (DataW Value × List MemPlace) := some (.held v, [])
def MapIs (P : Program) (k : TypeId) (w : World) (b n : Nat) (L : Value → Option Value) : Prop :=
 ∃ D : DataW Value, w.ownsMap P k heldR b n D ∧ ∀ key kl, keyOf P k key = some kl → ∀ z, D.atKey kl z = (match L key with | some v => .held v | none => z)
section
variable {P : Program} {k : TypeId} {w w' : World} {b n : Nat} {L : Value → Option Value}
theorem MapIs.kept {row : Option Nat} (h : MapIs P k w b n L) (hg : w.grownBy w' row) (hne : some b ≠ row) : MapIs P k w' b n L := by
 obtain ⟨D, h1, h2⟩ := h
 exact ⟨D, h1.kept hg hne, h2⟩
theorem MapIs.block (h : MapIs P k w b n L) (hb : w'.heap[b]? = w.heap[b]?) : MapIs P k w' b n L := by
 obtain ⟨D, ⟨es, c, h1, h2⟩, h3⟩ := h
 exact ⟨D, ⟨es, c, hb.trans h1, h2⟩, h3⟩
theorem MapIs.lt (h : MapIs P k w b n L) : b < w.heap.size := by
 obtain ⟨D, h1, _⟩ := h
 exact h1.lt
theorem MapIs.isMap (h : MapIs P k w b n L) : ∃ es c, w.heap[b]? = some (.map es c) := by
 obtain ⟨D, ⟨es, c, h1, _⟩, _⟩ := h
 exact ⟨es, c, h1⟩
theorem MapIs.mono (h : MapIs P k w b n L) {m : Nat} (hn : n ≤ m) : MapIs P k w b m L := by
 obtain ⟨D, h1, h2⟩ := h
 exact ⟨D, h1.mono hn, h2⟩
theorem MapIs.made (P : Program) (k : TypeId) (w : World) : MapIs P k (w.alloc (.map #[] 0)) w.heap.size 0 (fun _ => none) :=
 ⟨.map [], World.ownsMap_made w P k heldR, fun _ _ _ _ => rfl⟩
theorem MapIs.look {t e : TypeId} (c : Bool) (h : MapIs P k w b n L) (K : Keyed P k) (ht : P.underlying t = some (.map k e)) {z : Value} (hz : (zeroValue e).run P w = .ok z w) {key : Value} {kl : Lit} (hkey : keyOf P k key = some kl) :
  (Instr.lookup t (.map (some b)) key c).run P w = .ok (match L key with
   | some v => if c then .tuple #[v, .bool true] else v
   | none => if c then .tuple #[z, .bool false] else z) w := by
 obtain ⟨D, ⟨es, clock, hb, F, _, rfl⟩, hL⟩ := h
 have hk := hL key kl hkey
 rcases Maps.fit_look c K ht hz hb F hkey with ⟨hrun, _, hat⟩ | ⟨e0, y, _, _, hrun, hRv, hat, _⟩
 ·rw [hrun]
  cases hl : L key with
  | none => rfl
  | some v =>
   have h1 := hk .nil
   rw [hat, hl] at h1
   simp at h1
 ·rw [hrun]
  unfold heldR at hRv
  simp only [Option.some.injEq] at hRv
  subst hRv
  cases hl : L key with
  | none =>
   have h1 := hk .nil
   rw [hat, hl] at h1
   simp at h1
  | some v =>
   have h1 := hk .nil
   rw [hat, hl] at h1
   simp only [DataW.held.injEq] at h1
   rw [h1]
theorem MapIs.update {t e : TypeId} (h : MapIs P k w b n L) (K : Keyed P k) (ht : P.underlying t = some (.map k e)) (hn : n < maxLen) {key val : Value} {kl : Lit} (hkey : keyOf P k key = some kl)
  (L' : Value → Option Value) (h1 : L' key = some val) (h2 : ∀ key', key' ≠ key → L' key' = L key') :
  ∃ w', (Instr.mapUpdate t (.map (some b)) key val).run P w = .ok () w' ∧ MapIs P k w' b (n + 1) L' ∧ w.grownBy w' (some b) := by
 obtain ⟨D, hD, hL⟩ := h
 obtain ⟨w', hr, ho, hg⟩ := hD.update K ht hn hkey (show heldR val = some (.held val, []) from rfl)
 refine ⟨w', hr, ⟨_, ho, fun key' kl' hk' z => ?_⟩, hg⟩
 have hm : IsMap D := by
  obtain ⟨es, c, _, _, _, e⟩ := hD
  exact ⟨_, e⟩
 by_cases hkk : key' = key
 ·subst hkk
  rw [hkey] at hk'
  cases hk'
  rw [h1, atKey_put_same hm (K.key hkey)]
 ·have hll : kl' ≠ kl := fun e0 => hkk (K.inj (e0 ▸ hk') hkey)
  rw [atKey_put_other hll, hL key' kl' hk' z, h2 key' hkk]
end
end Go.Proofs.YtddnomjfcbplpaaGreatDoor

namespace Go.Proofs.YtddnomjfcbplpaaGreatDoor
open Go.RowKit

def cutTo (s : ByteArray) (k : Nat) : ByteArray := if k < s.size then s.extract 0 k else s
set_option maxHeartbeats 400000 in
theorem law_Text (s : ByteArray) (k : Nat) (w : World) :
  Calls Tryz.prog 19 #[.string s, .int .i64 k] w fun e w' => e = .returned (.string (cutTo s k)) ∧ w = w' := by
 generalize hN : cutTo s k = N
 unfold cutTo at hN
 by_cases h : k < s.size
 ·rw [if_pos h] at hN
  have HN := zh hN; clear hN
  go_enter Tryz.func19, Tryz.ntmps19
  go_wp2
  go_ret
  exact ⟨by rw [← HN.out]; rfl, rfl⟩
 ·rw [if_neg h] at hN
  have HN := zh hN; clear hN
  go_enter Tryz.func19, Tryz.ntmps19
  go_wp2
  go_ret
  exact ⟨by rw [← HN.out]; rfl, rfl⟩

theorem flatten_at {α : Type} (size : Nat) : ∀ (xs : List (List α)), (∀ x ∈ xs, x.length = size) → ∀ i r, xs[i]? = some r → ∀ j u, r[j]? = some u → xs.flatten[i * size + j]? = some u
 | [], _, i, r, h, _, _, _ => by simp at h
 | x :: xs, hx, 0, r, h, j, u, hu => by
  simp at h; subst h
  rw [List.flatten_cons, Nat.zero_mul, Nat.zero_add, List.getElem?_append_left (List.getElem?_eq_some_iff.1 hu).1]
  exact hu
 | x :: xs, hx, i + 1, r, h, j, u, hu => by
  have hl := hx x (by simp)
  rw [List.flatten_cons, List.getElem?_append_right (by rw [hl, Nat.succ_mul]; omega), hl, show (i + 1) * size + j - size = i * size + j by rw [Nat.succ_mul]; omega]
  exact flatten_at size xs (fun y hy => hx y (by simp [hy])) i r (by simpa using h) j u hu
theorem slAt_of_owns {w : World} {base : Nat} {e : TypeId} {v : Value} {size n : Nat} (xs : List (List Value)) (hx : ∀ x ∈ xs, x.length = size) (hn : n = xs.length) (h : w.ownsRow base e size v n xs.flatten) : SlAt w v size xs := by
 subst hn
 rcases h.2 with ⟨rfl, h0⟩ | ⟨g, cap, cur, rfl, hb, hg, _⟩
 ·left
  obtain rfl := List.eq_nil_of_length_eq_zero h0
  exact ⟨rfl, none, 0, rfl⟩
 ·right
  refine ⟨g, 0, cap, rfl, lt_at hg, fun i r hr j u hu => ?_⟩
  have := h.cells (g := g) rfl _ u (flatten_at size xs hx i r hr j u hu)
  rw [show (⟨g, 0 + i * size + j, none⟩ : Addr) = (⟨g, 0, none⟩ : Addr).add (i * size + j) by unfold Addr.add; split <;> simp_all]
  exact this

theorem SlAt.at {w : World} {a : Option Addr} {n cap size : Nat} {rows : List (List Value)} (h : SlAt w (.slice a n cap) size rows) {k : Nat} {row : List Value} (hr : rows[k]? = Option.some row) :
  ∃ b off, a = Option.some ⟨b, off, none⟩ ∧ b < w.heap.size ∧ ∀ w', Below w.heap.size w w' → ∀ j u, row[j]? = Option.some u → w'.cell? ⟨b, off + k * size + j, none⟩ = Option.some u := by
 rcases h with ⟨hx, _⟩ | ⟨b, off, cap', hv, hlt, hc⟩
 ·subst hx; simp at hr
 ·simp only [Value.slice.injEq] at hv
  exact ⟨b, off, hv.1, hlt, fun w' hb j u hu => (hb.cell (p := ⟨b, _, none⟩) hlt).trans (hc k row hr j u hu)⟩
theorem below_box {W w' : World} {o : Obj} (h : Below (W.heap.size + 1) (W.alloc o) w') : Below W.heap.size W w' := ((Below.refl _ W).alloc (Nat.le_refl _) o).trans (h.mono (by omega))
theorem below_undrew {B : Nat} {w w' : World} (h : Below B w.drew w') : Below B w w' := ⟨h.os, h.tape, h.output, h.size, h.block⟩

def KpT (T : TypeId → Prop) (w w' : World) : Prop := ∀ (b : Nat) (cs : Array Value) (t : TypeId) (fr : Nat × Nat), w.heap[b]? = some (.cells cs t fr) → T t → w'.heap[b]? = some (.cells cs t fr)
theorem KpT.trans {T : TypeId → Prop} {a b c : World} (h : KpT T a b) (k : KpT T b c) : KpT T a c := fun i cs t fr hb ht => k i cs t fr (h i cs t fr hb ht) ht
theorem KpT.mono {S T : TypeId → Prop} {a b : World} (h : KpT S a b) (hs : ∀ t, T t → S t) : KpT T a b := fun i cs t fr hb ht => h i cs t fr hb (hs t ht)
theorem KpT.below {T : TypeId → Prop} {w w' : World} (h : Below w.heap.size w w') : KpT T w w' := fun b _ _ _ hb _ => (h.block b (lt_at hb)).trans hb
theorem KpT.alloc {T : TypeId → Prop} {a w : World} (h : KpT T a w) (o : Obj) : KpT T a (w.alloc o) := h.trans (KpT.below ((Below.refl _ w).alloc (Nat.le_refl _) o))
theorem KpT.setCell {T : TypeId → Prop} {a w : World} (h : KpT T a w) {b i : Nat} {cs : Array Value} {t : TypeId} {fr : Nat × Nat} (hb : w.heap[b]? = some (.cells cs t fr)) (ht : ¬ T t) (u : Value) : KpT T a (w.setCell ⟨b, i, none⟩ u) := by
 refine h.trans fun c cs' t' fr' hc ht' => ?_
 rw [Below.heap_setCell _ _ _ _ (fun e => ?_)]
 ·exact hc
 ·have e' : c = b := by simpa using e
  subst e'
  rw [hb] at hc
  simp only [Option.some.injEq, Obj.cells.injEq] at hc
  exact ht (hc.2.1 ▸ ht')
theorem KpT.grown {w w' : World} {base : Nat} {e : TypeId} {size : Nat} {v : Value} {n : Nat} {xs : List Value} (h : w.ownsRow base e size v n xs) (hg : w.grownBy w' v.ownBlock) : KpT (· ≠ e) w w' := by
 intro b cs t fr hb ht
 rw [hg.block b (lt_at hb) (fun hk => ?_)]
 ·exact hb
 ·exact ownsRow_ne h hb ht b hk.symm rfl
theorem ownsRow_kpT {T : TypeId → Prop} {w w' : World} {base : Nat} {e : TypeId} {size : Nat} {v : Value} {n : Nat} {xs : List Value} (h : w.ownsRow base e size v n xs) (k : KpT T w w') (ht : T e) : w'.ownsRow base e size v n xs := by
 refine ⟨h.1, ?_⟩
 rcases h.2 with hn | ⟨g, cap, cur, rfl, hb, hgg, rest⟩
 ·exact .inl hn
 ·exact .inr ⟨g, cap, cur, rfl, hb, k g _ _ _ hgg ht, rest⟩

def OwnR {α : Type} (row : Value → α → List Value) (e : TypeId) (size : Nat) (child : World → Value → α → Prop) (B : Nat) (w : World) (v : Value) (l : List α) : Prop :=
 ∃ f : Nat → Value, w.ownsRow B e size v l.length (l.mapIdx fun i a => row (f i) a).flatten ∧ ∀ (i : Nat) (a : α), l[i]? = some a → child w (f i) a
section
variable {α : Type} {row : Value → α → List Value} {e : TypeId} {size : Nat} {child : World → Value → α → Prop} {B : Nat} {w w' : World} {v : Value} {l : List α}
theorem OwnR.nil (row : Value → α → List Value) (e : TypeId) (size : Nat) (child : World → Value → α → Prop) (B : Nat) (w : World) : OwnR row e size child B w (.slice none 0 0) [] :=
 ⟨fun _ => .bool false, World.ownsRow_nil _ _ _ _, by simp⟩
theorem OwnR.kp {T : TypeId → Prop} (h : OwnR row e size child B w v l) (k : KpT T w w') (ht : T e) (hc : ∀ u a, child w u a → child w' u a) : OwnR row e size child B w' v l := by
 obtain ⟨f, h1, h2⟩ := h
 exact ⟨f, ownsRow_kpT h1 k ht, fun i a ha => hc _ _ (h2 i a ha)⟩
theorem mapIdx_snoc {β : Type} (g : Nat → α → β) (l : List α) (a : α) : (l ++ [a]).mapIdx g = l.mapIdx g ++ [g l.length a] := by
 rw [List.mapIdx_append]; simp
theorem OwnR.snoc {u v' : Value} {a : α} {f : Nat → Value} (h2 : ∀ (i : Nat) (a : α), l[i]? = some a → child w (f i) a)
  (hn : w'.ownsRow B e size v' (l.length + 1) ((l.mapIdx fun i a => row (f i) a).flatten ++ row u a)) (hc : ∀ u a, child w u a → child w' u a) (hu : child w' u a) : OwnR row e size child B w' v' (l ++ [a]) := by
 refine ⟨fun i => if i < l.length then f i else u, ?_, fun i b hb => ?_⟩
 ·have e1 : ((l ++ [a]).mapIdx fun i a => row (if i < l.length then f i else u) a).flatten = (l.mapIdx fun i a => row (f i) a).flatten ++ row u a := by
   rw [mapIdx_snoc, List.flatten_append]
   have e2 : (l.mapIdx fun i a => row (if i < l.length then f i else u) a) = l.mapIdx fun i a => row (f i) a := by
    apply List.ext_getElem?
    intro i
    rw [List.getElem?_mapIdx, List.getElem?_mapIdx]
    cases hi : l[i]? with
    | none => rfl
    | some b =>
     have := (List.getElem?_eq_some_iff.1 hi).1
     simp [this]
   rw [e2]
   simp
  rw [e1, List.length_append]
  exact hn
 ·rw [List.getElem?_append] at hb
  by_cases hi : i < l.length
  ·rw [if_pos hi] at hb
   simp only [if_pos hi]
   exact hc _ _ (h2 i b hb)
  ·rw [if_neg hi] at hb
   simp only [if_neg hi]
   have : i - l.length = 0 := by
    have := (List.getElem?_eq_some_iff.1 hb).1
    simp at this; omega
   rw [this] at hb
   cases hb
   exact hu
theorem OwnR.slAt (h : OwnR row e size child B w v l) (hr : ∀ u a, (row u a).length = size) : ∃ f : Nat → Value, SlAt w v size (l.mapIdx fun i a => row (f i) a) ∧ ∀ (i : Nat) (a : α), l[i]? = some a → child w (f i) a := by
 obtain ⟨f, h1, h2⟩ := h
 refine ⟨f, slAt_of_owns _ (fun r hrr => ?_) (by rw [List.length_mapIdx]) h1, h2⟩
 obtain ⟨i, hi⟩ := List.mem_iff_getElem?.1 hrr
 rw [List.getElem?_mapIdx] at hi
 obtain ⟨b, _, rfl⟩ := Option.map_eq_some_iff.1 hi
 exact hr _ _
end
end Go.Proofs.YtddnomjfcbplpaaGreatDoor
