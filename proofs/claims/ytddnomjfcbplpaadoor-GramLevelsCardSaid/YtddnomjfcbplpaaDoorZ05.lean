/- Maps of the call's own: what a block of entries answers, for elements of any type. Plain functions: a grammar out of a source (gram.Of), as a machine that stops at the first fault; no program in sight. The walks of the reference's between, Quoted, Quote, Take. Layer 8, the reference: are two sources the same. The maker of a grammar (gram.maker), as it lies; its small functions. gram's maker: taken, clash. A region that draws its order, whose LAST operation may break the condition that its loads stand on: Derived/OrdersHeld.lean's law with one operation excepted. -/
import Derived.Maps.Own
import Derived.Maps.Views
import Derived.DeepKeys4
import Derived.Test.YtddnomjfcbplpaaDoorZ01
import Derived.Test.YtddnomjfcbplpaaDoorZ02
import Derived.Lib.SlicesS
import Derived.Test.YtddnomjfcbplpaaDoorZ00
import Derived.BigQuiet
import Derived.Deep.QuietTactic
import Derived.Deep.RegionHeld3
import Derived.Deep.DeepCutAuto
import Derived.Deep.LoopGhost
import Derived.Test.YtddnomjfcbplpaaDoorZ04
import Derived.Laws.OwnMore
import Derived.OrdersHeld
import Derived.StillTail
namespace Go.Proofs.YtddnomjfcbplpaaDoor
open Go.RowKit Go.Maps

/-- An element stands for itself. -/
def heldR (v : Value) : Option (DataW Value × List MemPlace) := some (.held v, [])
/-- Block b is a map of at most n entries that answers L. -/
def MapIs (P : Program) (k : TypeId) (w : World) (b n : Nat) (L : Value → Option Value) : Prop :=
  ∃ D : DataW Value, w.ownsMap P k heldR b n D ∧ ∀ key kl, keyOf P k key = some kl → ∀ z, D.atKey kl z = (match L key with | some v => .held v | none => z)
section
variable {P : Program} {k : TypeId} {w w' : World} {b n : Nat} {L : Value → Option Value}
theorem MapIs.kept {row : Option Nat} (h : MapIs P k w b n L) (hg : w.grownBy w' row) (hne : some b ≠ row) : MapIs P k w' b n L := by
  obtain ⟨D, h1, h2⟩ := h
  exact ⟨D, h1.kept hg hne, h2⟩
theorem MapIs.block (h : MapIs P k w b n L) (hb : w'.heap[b]? = w.heap[b]?) : MapIs P k w' b n L := by
  obtain ⟨D, ⟨es, c, h1, h2⟩, h3⟩ := h
  exact ⟨D, ⟨es, c, hb.trans h1, h2⟩, h3⟩
theorem MapIs.lt (h : MapIs P k w b n L) : b < w.heap.size := by
  obtain ⟨D, h1, _⟩ := h
  exact h1.lt
theorem MapIs.isMap (h : MapIs P k w b n L) : ∃ es c, w.heap[b]? = some (.map es c) := by
  obtain ⟨D, ⟨es, c, h1, _⟩, _⟩ := h
  exact ⟨es, c, h1⟩
theorem MapIs.mono (h : MapIs P k w b n L) {m : Nat} (hn : n ≤ m) : MapIs P k w b m L := by
  obtain ⟨D, h1, h2⟩ := h
  exact ⟨D, h1.mono hn, h2⟩
theorem MapIs.made (P : Program) (k : TypeId) (w : World) : MapIs P k (w.alloc (.map #[] 0)) w.heap.size 0 (fun _ => none) :=
  ⟨.map [], World.ownsMap_made w P k heldR, fun _ _ _ _ => rfl⟩
/-- A look-up, with 'ok' or without. -/
theorem MapIs.look {t e : TypeId} (c : Bool) (h : MapIs P k w b n L) (K : Keyed P k) (ht : P.underlying t = some (.map k e)) {z : Value} (hz : (zeroValue e).run P w = .ok z w) {key : Value} {kl : Lit} (hkey : keyOf P k key = some kl) :
    (Instr.lookup t (.map (some b)) key c).run P w = .ok (match L key with
      | some v => if c then .tuple #[v, .bool true] else v
      | none => if c then .tuple #[z, .bool false] else z) w := by
  obtain ⟨D, ⟨es, clock, hb, F, _, rfl⟩, hL⟩ := h
  have hk := hL key kl hkey
  rcases Maps.fit_look c K ht hz hb F hkey with ⟨hrun, _, hat⟩ | ⟨e0, y, _, _, hrun, hRv, hat, _⟩
  · rw [hrun]
    cases hl : L key with
    | none => rfl
    | some v =>
      have h1 := hk .nil
      rw [hat, hl] at h1
      simp at h1
  · rw [hrun]
    unfold heldR at hRv
    simp only [Option.some.injEq] at hRv
    subst hRv
    cases hl : L key with
    | none =>
      have h1 := hk .nil
      rw [hat, hl] at h1
      simp at h1
    | some v =>
      have h1 := hk .nil
      rw [hat, hl] at h1
      simp only [DataW.held.injEq] at h1
      rw [h1]
/-- A store. -/
theorem MapIs.update {t e : TypeId} (h : MapIs P k w b n L) (K : Keyed P k) (ht : P.underlying t = some (.map k e)) (hn : n < maxLen) {key val : Value} {kl : Lit} (hkey : keyOf P k key = some kl)
    (L' : Value → Option Value) (h1 : L' key = some val) (h2 : ∀ key', key' ≠ key → L' key' = L key') :
    ∃ w', (Instr.mapUpdate t (.map (some b)) key val).run P w = .ok () w' ∧ MapIs P k w' b (n + 1) L' ∧ w.grownBy w' (some b) := by
  obtain ⟨D, hD, hL⟩ := h
  obtain ⟨w', hr, ho, hg⟩ := hD.update K ht hn hkey (show heldR val = some (.held val, []) from rfl)
  refine ⟨w', hr, ⟨_, ho, fun key' kl' hk' z => ?_⟩, hg⟩
  have hm : IsMap D := by
    obtain ⟨es, c, _, _, _, e⟩ := hD
    exact ⟨_, e⟩
  by_cases hkk : key' = key
  · subst hkk
    rw [hkey] at hk'
    cases hk'
    rw [h1, atKey_put_same hm (K.key hkey)]
  · have hll : kl' ≠ kl := fun e0 => hkk (K.inj (e0 ▸ hk') hkey)
    rw [atKey_put_other hll, hL key' kl' hk' z, h2 key' hkk]
end
end Go.Proofs.YtddnomjfcbplpaaDoor

namespace Go.Proofs.YtddnomjfcbplpaaDoor
namespace Sp

structure Tok where
  name : List UInt8
  lit : Bool
  num : Int
  level : Int
  assoc : Int
  tag : List UInt8
deriving DecidableEq
structure Non where
  name : List UInt8
  tag : List UInt8
deriving DecidableEq
structure Prod where
  left : Int
  right : List Int
  prec : Int
  code : List UInt8
  args : List Int
  at_ : Int
deriving DecidableEq
structure Gram where
  toks : List Tok
  nons : List Non
  prods : List Prod
  pro : List UInt8
  tail : List UInt8
deriving DecidableEq
/-- The number of the first that is so, counted from i on. -/
def findIx {α : Type} (p : α → Bool) : List α → Nat → Option Nat
  | [], _ => none
  | x :: l, i => if p x = true then some i else findIx p l (i + 1)
def errName : List UInt8 := [101, 114, 114, 111, 114]
/-- A token's number: that of "error" is 1, others from 3 on. -/
def tokIx (toks : List Tok) (nm : List UInt8) (lt : Bool) : Option Nat :=
  if nm = errName ∧ lt = false then some 1 else findIx (fun t => t.name == nm && t.lit == lt) (toks.drop 3) 3
/-- A Left's number: from 1 on. -/
def nonIx (lefts : List (List UInt8)) (nm : List UInt8) : Option Nat := findIx (fun l => l == nm) lefts 1
structure Mk where
  toks : List Tok
  given : List Bool
  lefts : List (List UInt8)
  nons : List Non
  prods : List Prod
  types : List (List UInt8 × List UInt8)
  start : List UInt8
def noTok : Tok := ⟨[], false, 0, 0, 0, []⟩
def mk0 : Mk := ⟨[⟨[36, 101, 110, 100], false, 0, 0, 0, []⟩, ⟨errName, false, -1, 0, 0, []⟩, ⟨[36, 117, 110, 107], false, -1, 0, 0, []⟩], [false, false, false], [], [⟨[36, 97, 99, 99, 101, 112, 116], []⟩], [], [], []⟩
def takenGo (num but : Int) : Nat → List Tok → List Bool → Bool
  | i, t :: ts, g :: gs => ((decide ((i : Int) ≠ but) && g) && (t.num == num)) || takenGo num but (i + 1) ts gs
  | _, _, _ => false
/-- Has another token the number by declaration? -/
def taken (s : Mk) (num but : Int) : Bool := takenGo num but 3 (s.toks.drop 3) (s.given.drop 3)
def byte0 (l : List UInt8) : Int := ((l.headD 0).toNat : Int)
def addTok (s : Mk) (x : Sym) : Mk × Nat :=
  match tokIx s.toks x.name x.lit with
  | some t => (s, t)
  | none => ({ s with toks := s.toks ++ [⟨x.name, x.lit, if x.lit = true then byte0 x.name else 0, 0, 0, []⟩], given := s.given ++ [x.lit] }, s.toks.length)
def clash (s : Mk) (x : Sym) : Bool := (x.lit && (tokIx s.toks x.name x.lit).isNone) && taken s (byte0 x.name) (-1)
def tokBad (s : Mk) (d : Decl) (x : Sym) : Bool :=
  let o := tokIx s.toks x.name x.lit
  let k : Int := match o with
    | some t => (t : Int)
    | none => -1
  let t := match o with
    | some t => s.toks.getD t noTok
    | none => noTok
  let g := match o with
    | some t => s.given.getD t false
    | none => false
  (decide (d.kind ≠ 1) && decide (0 < t.level)) || (decide (0 < x.num) && ((decide (k = 1) || g) || taken s x.num k)) || clash s x || ((decide (d.tag ≠ []) && decide (t.tag ≠ [])) && decide (t.tag ≠ d.tag))
/-- The k-th token, changed. -/
def modTok (s : Mk) (k : Nat) (f : Tok → Tok) : Mk := { s with toks := s.toks.set k (f (s.toks.getD k noTok)) }
def tokStep (s : Mk) (d : Decl) (x : Sym) (level : Int) : Option Mk :=
  if tokBad s d x = true then none else
    let r := addTok s x
    let s1 := if 0 < x.num then { modTok r.1 r.2 (fun t => { t with num := x.num }) with given := r.1.given.set r.2 true } else r.1
    let s2 := if d.tag ≠ [] then modTok s1 r.2 (fun t => { t with tag := d.tag }) else s1
    some (if d.kind ≠ 1 then modTok s2 r.2 (fun t => { t with level := level, assoc := d.kind - 2 + 1 }) else s2)
/-- The tag that %type gave a name. -/
def typeOf : List (List UInt8 × List UInt8) → List UInt8 → Option (List UInt8)
  | [], _ => none
  | (n, t) :: l, nm => if n = nm then some t else typeOf l nm
def namedStep (s : Mk) (d : Decl) (x : Sym) : Option Mk :=
  if d.kind = 5 ∧ (∃ t, typeOf s.types x.name = some t ∧ t ≠ d.tag) ∨ d.kind = 6 ∧ s.start ≠ [] then none
  else if d.kind = 5 then some { s with types := (x.name, d.tag) :: s.types } else some { s with start := x.name }
/-- What stops: the symbol's name and place. -/
abbrev Stop := List UInt8 × Int
def symsGo (d : Decl) (level : Int) : List Sym → Mk → Except Stop Mk
  | [], s => .ok s
  | x :: l, s =>
    match (if 5 ≤ d.kind then namedStep s d x else tokStep s d x level) with
    | none => .error (x.name, x.at_)
    | some s => symsGo d level l s
def declsMk : Int → List Decl → Mk → Except Stop Mk
  | _, [], s => .ok s
  | level, d :: l, s =>
    let level := if 2 ≤ d.kind ∧ d.kind ≤ 4 then level + 1 else level
    match symsGo d level d.syms s with
    | .error e => .error e
    | .ok s => declsMk level l s
def leftsGo : List Rule → Mk → Except Stop Mk
  | [], s => .ok s
  | r :: l, s =>
    if (tokIx s.toks r.left false).isSome = true then .error (r.left, r.at_)
    else if (nonIx s.lefts r.left).isSome = true then leftsGo l s
    else leftsGo l { s with lefts := s.lefts ++ [r.left], nons := s.nons ++ [⟨r.left, (typeOf s.types r.left).getD []⟩] }
def namesOk (s : Mk) (kind : Int) : List Sym → Option Stop
  | [] => none
  | x :: l => if 5 ≤ kind ∧ (nonIx s.lefts x.name).isNone = true then some (x.name, x.at_) else namesOk s kind l
def declsNames (s : Mk) : List Decl → Option Stop
  | [] => none
  | d :: l =>
    match namesOk s d.kind d.syms with
    | some e => some e
    | none => declsNames s l
def leftsMk (x : Source) (s : Mk) : Except Stop Mk :=
  match leftsGo x.rules s with
  | .error e => .error e
  | .ok s =>
    match declsNames s x.decls with
    | some e => .error e
    | none => .ok s
def used (s : Mk) (x : Sym) (prec : Bool) : Except Stop Mk :=
  if x.lit = true then (if clash s x = true then .error (x.name, x.at_) else .ok (addTok s x).1)
  else if (tokIx s.toks x.name x.lit).isNone = true ∧ (prec = true ∨ (nonIx s.lefts x.name).isNone = true) then .error (x.name, x.at_) else .ok s
def partsGo2 : List Part → Mk → Except Stop Mk
  | [], s => .ok s
  | p :: l, s =>
    if p.code = [] then
      match used s p.sym false with
      | .error e => .error e
      | .ok s => partsGo2 l s
    else partsGo2 l s
def altsGo2 : List Alt → Mk → Except Stop Mk
  | [], s => .ok s
  | a :: l, s =>
    match partsGo2 a.parts s with
    | .error e => .error e
    | .ok s =>
      if a.prec.name = [] then altsGo2 l s else
        match used s a.prec true with
        | .error e => .error e
        | .ok s => altsGo2 l s
def partsMk : List Rule → Mk → Except Stop Mk
  | [], s => .ok s
  | r :: l, s =>
    match altsGo2 r.alts s with
    | .error e => .error e
    | .ok s => partsMk l s
/-- A symbol's number. -/
def symNo (s : Mk) (x : Sym) : Int :=
  match tokIx s.toks x.name x.lit with
  | some t => (t : Int)
  | none => 1000 + (((nonIx s.lefts x.name).getD 0 : Nat) : Int)
/-- Within an alternative: the production so far, the inner ones counted, what was made of them. -/
def altGo (n : Nat) : Nat → List Part → Prod × Nat × Mk → Prod × Nat × Mk
  | _, [], r => r
  | k, x :: l, (p, inner, s) =>
    if x.code = [] then
      let c := symNo s x.sym
      altGo n (k + 1) l ({ p with right := p.right ++ [c], prec := if c < 1000 then c else p.prec }, inner, s)
    else if k + 1 = n then altGo n (k + 1) l ({ p with code := x.code, at_ := x.at_ }, inner, s)
    else
      let s1 : Mk := { s with nons := s.nons ++ [⟨64 :: Lib.itoa ((inner + 1 : Nat) : Int), []⟩] }
      let s2 : Mk := { s1 with prods := s1.prods ++ [⟨(s1.nons.length : Int) - 1, [], -1, x.code, p.right, x.at_⟩] }
      altGo n (k + 1) l ({ p with right := p.right ++ [1000 + (s2.nons.length : Int) - 1] }, inner + 1, s2)
def altMk (left : Int) (a : Alt) (inner : Nat) (s : Mk) : Nat × Mk :=
  let r := altGo a.parts.length 0 a.parts (⟨left, [], -1, [], [], a.at_⟩, inner, s)
  let p := if a.prec.name = [] then r.1 else { r.1 with prec := symNo r.2.2 a.prec }
  (r.2.1, { r.2.2 with prods := r.2.2.prods ++ [{ p with args := p.right }] })
def altsMk (left : Int) : List Alt → Nat × Mk → Nat × Mk
  | [], r => r
  | a :: l, r => altsMk left l (altMk left a r.1 r.2)
def rulesMk : List Rule → Nat × Mk → Nat × Mk
  | [], r => r
  | x :: l, r => rulesMk l (altsMk (((nonIx r.2.lefts x.left).getD 0 : Nat) : Int) x.alts r)
def prodsMk (x : Source) (s : Mk) : Mk :=
  let first := if s.start = [] then (match x.rules with
    | [] => []
    | r :: _ => r.left) else s.start
  (rulesMk x.rules (0, { s with prods := s.prods ++ [⟨0, [1000 + (((nonIx s.lefts first).getD 0 : Nat) : Int)], -1, [], [], 0⟩] })).2
def numGo : Int → List Tok → List Bool → List Tok
  | next, t :: ts, g :: gs => if g = true then t :: numGo next ts gs else { t with num := next } :: numGo (next + 1) ts gs
  | _, ts, _ => ts
def numbersMk (s : Mk) : Mk := { s with toks := s.toks.take 3 ++ numGo 57346 (s.toks.drop 3) (s.given.drop 3) }
def great (s : Mk) : Bool := (s.prods.any fun p => decide (8 < p.right.length)) || decide (40 < s.toks.length) || decide (24 < s.nons.length) || decide (60 < s.prods.length)
/-- A fault: what kind, where, of which name. -/
structure Fault where
  err : Int
  at_ : Int
  name : List UInt8
deriving DecidableEq
def noGram : Gram := ⟨[], [], [], [], []⟩
def gramOf (x : Source) : Gram × Fault :=
  if may x = false then (noGram, ⟨1, 0, []⟩) else
    match declsMk 0 x.decls mk0 with
    | .error e => (noGram, ⟨3, e.2, e.1⟩)
    | .ok s =>
      match leftsMk x s with
      | .error e => (noGram, ⟨3, e.2, e.1⟩)
      | .ok s =>
        match partsMk x.rules s with
        | .error e => (noGram, ⟨3, e.2, e.1⟩)
        | .ok s =>
          let s := numbersMk (prodsMk x s)
          if great s = true then (noGram, ⟨4, 0, []⟩) else (⟨s.toks, s.nons, s.prods, x.pro, x.tail⟩, ⟨0, 0, []⟩)

/-! ### Laws -/
theorem findIx_none {α : Type} {p : α → Bool} : ∀ {l : List α} {i : Nat}, findIx p l i = none ↔ ∀ x ∈ l, p x = false
  | [], i => by simp [findIx]
  | x :: l, i => by
    unfold findIx
    by_cases h : p x = true
    · simp [h]
    · simp [h, findIx_none (l := l) (i := i + 1)]
theorem findIx_snoc {α : Type} {p : α → Bool} {x : α} : ∀ {l : List α} {i : Nat}, findIx p (l ++ [x]) i = match findIx p l i with
    | some k => some k
    | none => if p x = true then some (i + l.length) else none
  | [], i => by simp [findIx]
  | y :: l, i => by
    unfold findIx
    by_cases h : p y = true
    · simp [h]
    · have ih := findIx_snoc (p := p) (x := x) (l := l) (i := i + 1)
      simp only [List.cons_append, findIx, h, if_false, Bool.false_eq_true]
      rw [ih]
      cases findIx p l (i + 1) with
      | some k => rfl
      | none => simp only [List.length_cons]; split <;> simp_all; omega
theorem findIx_some {α : Type} {p : α → Bool} : ∀ {l : List α} {i k : Nat}, findIx p l i = some k → i ≤ k ∧ ∃ x, l[k - i]? = some x ∧ p x = true
  | [], i, k, h => by simp [findIx] at h
  | x :: l, i, k, h => by
    unfold findIx at h
    by_cases hp : p x = true
    · rw [if_pos hp] at h
      cases h
      exact ⟨Nat.le_refl _, x, by simp, hp⟩
    · rw [if_neg hp] at h
      obtain ⟨h1, y, h2, h3⟩ := findIx_some h
      refine ⟨by omega, y, ?_, h3⟩
      obtain ⟨m, hm⟩ : ∃ m, k - i = m + 1 := ⟨k - i - 1, by omega⟩
      rw [hm, List.getElem?_cons_succ]
      have : k - (i + 1) = m := by omega
      rw [this] at h2
      exact h2
/-- A token more: its key has its number, all others stay. -/
theorem tokIx_snoc {toks : List Tok} {t : Tok} {nm : List UInt8} {lt : Bool} (h3 : 3 ≤ toks.length) (hn : tokIx toks t.name t.lit = none) :
    tokIx (toks ++ [t]) nm lt = if nm = t.name ∧ lt = t.lit then some toks.length else tokIx toks nm lt := by
  unfold tokIx at hn ⊢
  by_cases he : nm = errName ∧ lt = false
  · rw [if_pos he, if_pos he, if_neg]
    rintro ⟨h1, h2⟩
    rw [if_pos ⟨h1 ▸ he.1, h2 ▸ he.2⟩] at hn
    cases hn
  · rw [if_neg he, if_neg he, List.drop_append_of_le_length h3, findIx_snoc]
    by_cases hk : nm = t.name ∧ lt = t.lit
    · obtain ⟨rfl, rfl⟩ := hk
      rw [if_neg he] at hn
      rw [hn]
      simp
      omega
    · rw [if_neg hk]
      have hp : (t.name == nm && t.lit == lt) = false := by
        rw [Bool.and_eq_false_iff, beq_eq_false_iff_ne, beq_eq_false_iff_ne]
        by_cases h : t.name = nm
        · right; intro e; exact hk ⟨h.symm, e.symm⟩
        · left; exact h
      cases hf : findIx (fun t => t.name == nm && t.lit == lt) (toks.drop 3) 3 with
      | some k => rfl
      | none => simp [hp]
theorem tokIx_lt {toks : List Tok} {nm : List UInt8} {lt : Bool} {k : Nat} (h3 : 3 ≤ toks.length) (h : tokIx toks nm lt = some k) : k < toks.length ∧ (k = 1 ∨ 3 ≤ k) := by
  unfold tokIx at h
  split at h
  · cases h; omega
  · obtain ⟨h1, x, h2, _⟩ := findIx_some h
    have := (List.getElem?_eq_some_iff.1 h2).1
    rw [List.length_drop] at this
    omega
theorem nonIx_snoc {lefts : List (List UInt8)} {l nm : List UInt8} (hn : nonIx lefts l = none) : nonIx (lefts ++ [l]) nm = if nm = l then some (lefts.length + 1) else nonIx lefts nm := by
  unfold nonIx at hn ⊢
  rw [findIx_snoc]
  by_cases h : nm = l
  · subst h
    rw [hn, if_pos rfl]
    simp
    omega
  · rw [if_neg h]
    have : (l == nm) = false := by rw [beq_eq_false_iff_ne]; exact fun e => h e.symm
    cases findIx (fun x => x == nm) lefts 1 with
    | some k => rfl
    | none => simp [this]
end Sp
end Go.Proofs.YtddnomjfcbplpaaDoor

namespace Go.Proofs.YtddnomjfcbplpaaDoor
open Go.RowKit

/-- No byte in quotes below a number stands there. -/
def noneBelow (r : List UInt8) (k : Nat) : Prop := ∀ c : UInt8, c.toNat < k → ¬ (Sp.quoteText c ≠ [] ∧ Lib.hasPrefix r (Sp.quoteText c) = true)
theorem noneBelow.start (r : List UInt8) : noneBelow r 9 := by
  intro c hc h
  have := Sp.quoteText_range c h.1
  omega
theorem noneBelow.step {r : List UInt8} {k : Nat} (h : noneBelow r k) (hk : k < 256) (h' : ¬ (Sp.quoteText (UInt8.ofNat k) ≠ [] ∧ Lib.hasPrefix r (Sp.quoteText (UInt8.ofNat k)) = true)) : noneBelow r (k + 1) := by
  intro c hc
  rcases Nat.lt_or_ge c.toNat k with h1 | h1
  · exact h c h1
  · have : c = UInt8.ofNat k := by
      apply UInt8.toNat_inj.1
      rw [UInt8.toNat_ofNat_of_lt' (by have : UInt8.size = 256 := rfl; omega)]
      omega
    rw [this]; exact h'
theorem noneBelow.out {r : List UInt8} {k : Nat} (h : noneBelow r k) (hk : 127 ≤ k) : Sp.charTake r = none := by
  cases hc : Sp.charTake r with
  | none => rfl
  | some p =>
    obtain ⟨c, n⟩ := p
    obtain ⟨h1, h2, _⟩ := Sp.charTake_some r c n hc
    have := Sp.quoteText_range c h1
    exact absurd ⟨h1, h2⟩ (h c (by omega))
end Go.Proofs.YtddnomjfcbplpaaDoor

namespace Go.Proofs.YtddnomjfcbplpaaDoor
namespace Sp
end Sp
open Go.RowKit

theorem heap_sec (w : World) (o1 o2 : Obj) : ((w.alloc o1).alloc o2).heap[w.heap.size + 1]? = some o2 := by
  have h := heap_last (w.alloc o1) o2
  rw [World.size_alloc] at h
  exact h
end Go.Proofs.YtddnomjfcbplpaaDoor

namespace Go.Proofs.YtddnomjfcbplpaaDoor
open Go.RowKit Go.Maps

theorem key_law : Keyed Tryd.prog 79 :=
  Keyed.of_law (deep_law_laid laidOut (m := 2) (by omega) (of_decide_eq_true (by kernel_rfl)) (by kernel_rfl) (by kernel_rfl))
theorem str_law : Keyed Tryd.prog 9 := string_keyed Tryd.underlying9
theorem str_key {s : List UInt8} (h : s.length ≤ maxLen) : ∃ l, keyOf Tryd.prog 9 (.string ⟨s.toArray⟩) = some l := by
  refine ⟨.string s, ?_⟩
  have hs : (⟨s.toArray⟩ : ByteArray).size ≤ maxLen := by rw [Lib.size_eq]; exact h
  simp [keyOf, mapKey, Tryd.underlying9, hs]
theorem cells_key : Tryd.prog.cellsOf 79 = 2 := by kernel_rfl
theorem one_str2 : Tryd.prog.cellsOf 9 = 1 := by kernel_rfl
theorem one_bool2 : Tryd.prog.cellsOf 4 = 1 := by kernel_rfl
theorem keyLits_key (d : Nat) {s : List UInt8} {b : Bool} (h : s.length ≤ maxLen) : Tryd.prog.keyLits (d + 2) 79 [.string ⟨s.toArray⟩, .bool b] = some [.string s, .bool b] := by
  have hs : (⟨s.toArray⟩ : ByteArray).size ≤ maxLen := by rw [Lib.size_eq]; exact h
  have h1 : Tryd.prog.keyLits (d + 1) 9 [.string ⟨s.toArray⟩] = some [.string s] := by
    unfold Program.keyLits
    simp [Tryd.underlying9, hs]
  have h2 : Tryd.prog.keyLits (d + 1) 4 [.bool b] = some [.bool b] := by
    unfold Program.keyLits
    simp [Tryd.underlying4]
  unfold Program.keyLits
  rw [Tryd.underlying79]
  simp [cells_key, one_str2, one_bool2, h1, h2]
theorem sym_key {s : List UInt8} {b : Bool} (h : s.length ≤ maxLen) : ∃ l, keyOf Tryd.prog 79 (.agg #[.string ⟨s.toArray⟩, .bool b]) = some l := by
  refine ⟨.string (keyBytes [.string s, .bool b]), ?_⟩
  unfold keyOf
  rw [Tryd.underlying79]
  have hk : Tryd.prog.keyType 79 = true := by kernel_rfl
  have hf : Value.formed Tryd.prog 79 (.agg #[.string ⟨s.toArray⟩, .bool b]) = true := by
    simp [Value.formed, Tryd.underlying79, cells_key]
  have hl : Tryd.prog.keyLits (Tryd.prog.types.size + 1) 79 (Value.agg #[.string ⟨s.toArray⟩, .bool b]).cells.toList = some [.string s, .bool b] := by
    have e : Tryd.prog.types.size + 1 = (Tryd.prog.types.size - 1) + 2 := by
      have : 1 ≤ Tryd.prog.types.size := of_decide_eq_true (by kernel_rfl)
      omega
    rw [e]
    exact keyLits_key _ h
  simp only [hk, hf, hl, Bool.and_self, if_true, Option.map_some]

/-! ### How it lies -/
def tokC (t : Sp.Tok) : List Value := [.string ⟨t.name.toArray⟩, .bool t.lit, .int .i64 t.num, .int .i64 t.level, .int .i64 t.assoc, .string ⟨t.tag.toArray⟩]
def nonC (n : Sp.Non) : List Value := [.string ⟨n.name.toArray⟩, .string ⟨n.tag.toArray⟩]
def prodC (r a : Value) (p : Sp.Prod) : List Value := [.int .i64 p.left, r, .int .i64 p.prec, .string ⟨p.code.toArray⟩, a, .int .i64 p.at_]
/-- What the maps answer. -/
def keyL (F : List UInt8 → Bool → Option Nat) : Value → Option Value
  | .agg #[.string nm, .bool lt] => (F nm.data.toList lt).map fun (k : Nat) => .int .i64 (k : Int)
  | _ => none
def tokL (toks : List Sp.Tok) : Value → Option Value := keyL (Sp.tokIx toks)
def nonL (lefts : List (List UInt8)) : Value → Option Value
  | .string nm => (Sp.nonIx lefts nm.data.toList).map fun (k : Nat) => .int .i64 (k : Int)
  | _ => none
def typL (types : List (List UInt8 × List UInt8)) : Value → Option Value
  | .string nm => (Sp.typeOf types nm.data.toList).map fun t => .agg #[.string nm, .string ⟨t.toArray⟩]
  | _ => none
def intsC (l : List Int) : List Value := l.map (Value.int .i64)
/-- Productions, each with rows of its own. -/
def ProdsOwn (B : Nat) (w : World) (v : Value) (l : List Sp.Prod) : Prop :=
  ∃ f g : Nat → Value, w.ownsRow B 72 6 v l.length (l.mapIdx fun i p => prodC (f i) (g i) p).flatten ∧
    ∀ (i : Nat) (p : Sp.Prod), l[i]? = some p → (∃ b, w.ownsRow b 3 1 (f i) p.right.length (intsC p.right)) ∧ ∃ b, w.ownsRow b 3 1 (g i) p.args.length (intsC p.args)
/-- The fields that point. -/
structure MkV where
  dv : Value
  rv : Value
  tv : Value
  nv : Value
  pv : Value
  gv : Value
  bt : Nat
  bn : Nat
  by_ : Nat
def mkCells (x : Sp.Source) (s : Sp.Mk) (v : MkV) (e at_ : Int) (nm : List UInt8) : List Value :=
  [.string ⟨x.pro.toArray⟩, v.dv, v.rv, .string ⟨x.tail.toArray⟩, v.tv, v.nv, v.pv, .string ⟨x.pro.toArray⟩, .string ⟨x.tail.toArray⟩, .map (some v.bt), v.gv, .map (some v.bn), .map (some v.by_), .string ⟨s.start.toArray⟩, .int .i64 e, .int .i64 at_, .string ⟨nm.toArray⟩]
/-- The maker at block m: its rows and maps lie behind B. -/
structure MakerAt (B : Nat) (w : World) (m : Nat) (x : Sp.Source) (s : Sp.Mk) (v : MkV) (e at_ : Int) (nm : List UInt8) : Prop where
  block : w.heap[m]? = some (.cells (mkCells x s v e at_ nm).toArray 85 (0, 0))
  toks : w.ownsRow B 53 6 v.tv s.toks.length (s.toks.map tokC).flatten
  given : w.ownsRow B 4 1 v.gv s.given.length (s.given.map Value.bool)
  nons : w.ownsRow B 87 2 v.nv s.nons.length (s.nons.map nonC).flatten
  prods : ProdsOwn B w v.pv s.prods
  tmap : MapIs Tryd.prog 79 w v.bt s.toks.length (tokL s.toks)
  nmap : MapIs Tryd.prog 9 w v.bn s.lefts.length (nonL s.lefts)
  ymap : MapIs Tryd.prog 9 w v.by_ s.types.length (typL s.types)
  behind : B ≤ m ∧ B ≤ v.bt ∧ B ≤ v.bn ∧ B ≤ v.by_
  apart : v.bt ≠ v.bn ∧ v.bt ≠ v.by_ ∧ v.bn ≠ v.by_
  same : s.given.length = s.toks.length
  three : 3 ≤ s.toks.length

set_option maxHeartbeats 800000 in
theorem gram_keyOf (s : Sp.Sym) (W : World) :
    Calls Tryd.prog 72 #[symV s] W fun e w' => e = .returned (.agg #[.string ⟨s.name.toArray⟩, .bool s.lit]) ∧ Below W.heap.size W w' := by
  obtain ⟨nm, lt, nu, pa⟩ := s
  show Calls _ _ #[.agg #[.string ⟨nm.toArray⟩, .bool lt, .int .i64 nu, .int .i64 pa]] _ _
  go_enter Tryd.func72, Tryd.ntmps72
  go_wp2_with fail
  refine ret_cell (g := W.heap.size + 1) (cs := #[.string ⟨nm.toArray⟩, .bool lt]) (t := 79) (fr := (0, 0)) rfl rfl (heap_sec W _ _) rfl Tryd.underlying79 (by kernel_rfl) rfl ⟨rfl, ?hb⟩
  exact ((Below.refl _ W).alloc (Nat.le_refl _) _).alloc (by simp) _
theorem maker_same {B : Nat} {w w' : World} {m : Nat} {x : Sp.Source} {s : Sp.Mk} {v : MkV} {e at_ : Int} {nm : List UInt8} (h : MakerAt B w m x s v e at_ nm) (hb : Below w.heap.size w w') : MakerAt B w' m x s v e at_ nm := by
  obtain ⟨h1, h2, h3, h4, ⟨f, g, p1, p2⟩, h6, h7, h8, h9⟩ := h
  refine ⟨(hb.block m (lt_at h1)).trans h1, ownsRow_below h2 hb, ownsRow_below h3 hb, ownsRow_below h4 hb, ⟨f, g, ownsRow_below p1 hb, fun i p hp => ?_⟩, h6.block (hb.block _ h6.lt), h7.block (hb.block _ h7.lt), h8.block (hb.block _ h8.lt), h9, ‹_›, ‹_›, ‹_›⟩
  obtain ⟨⟨b, k1⟩, c, k2⟩ := p2 i p hp
  exact ⟨⟨b, ownsRow_below k1 hb⟩, c, ownsRow_below k2 hb⟩
set_option maxHeartbeats 800000 in
/-- The first fault is kept. -/
theorem maker_wrong {B : Nat} {W : World} {m : Nat} {x : Sp.Source} {s : Sp.Mk} {v : MkV} (nm : List UInt8) (at_ : Int) (h : MakerAt B W m x s v 0 0 []) :
    Calls Tryd.prog 46 #[.pointer (some ⟨m, 0, none⟩), .string ⟨nm.toArray⟩, .int .i64 at_] W fun e w' => e = .returned (.bool true) ∧ w'.heap[m]? = some (.cells (mkCells x s v 3 at_ nm).toArray 85 (0, 0)) ∧ Kp (fun b => b ≠ m) W w' := by
  have hb := h.block
  unfold mkCells at hb
  have c14 := cell_at (i := 14) hb; have c15 := cell_at (i := 15) hb; have c16 := cell_at (i := 16) hb
  have f14 := frozen_at (i := 14) hb; have f15 := frozen_at (i := 15) hb; have f16 := frozen_at (i := 16) hb
  have hl := lt_at hb
  have HB := Lib.hid hb
  clear h hb
  go_enter Tryd.func46, Tryd.ntmps46
  go_wp2_with fail
  go_ret
  exact ⟨rfl, heap_setCell_at (heap_setCell_at (heap_setCell_at HB.out)), (((Kp.refl _ W).setCell (p := ⟨m, 14, none⟩) (by simp) _).setCell (p := ⟨m, 15, none⟩) (by simp) _).setCell (p := ⟨m, 16, none⟩) (by simp) _⟩
end Go.Proofs.YtddnomjfcbplpaaDoor

namespace Go.Proofs.YtddnomjfcbplpaaDoor
open Go.RowKit Go.Maps

theorem row_cell {w : World} {B e size g n cap : Nat} {α : Type} {row : α → List Value} {l : List α} (ho : w.ownsRow B e size (.slice (some ⟨g, 0, none⟩) n cap) n (l.map row).flatten) (hr : ∀ a, (row a).length = size) {k : Nat} {a : α} (hk : l[k]? = some a) (hkn : k < n) {j : Nat} {u : Value} (hj : (row a)[j]? = some u) :
    w.cell? ⟨g, k * size + j, none⟩ = some u := by
  have hjs : j < size := by rw [← hr a]; exact (List.getElem?_eq_some_iff.1 hj).1
  rw [ho.cellAt (k * size + j) (by
    have := Nat.mul_le_mul_right size (show k + 1 ≤ n from hkn)
    rw [Nat.succ_mul] at this; omega)]
  refine flatten_at size _ (fun r hr' => ?_) k (row a) (by rw [List.getElem?_map, hk]; rfl) j u hj
  obtain ⟨b, _, rfl⟩ := List.mem_map.1 hr'
  exact hr b
theorem row_cell1 {w : World} {B e g n cap : Nat} {α : Type} {row : α → Value} {l : List α} (ho : w.ownsRow B e 1 (.slice (some ⟨g, 0, none⟩) n cap) n (l.map row)) {k : Nat} {a : α} (hk : l[k]? = some a) (hkn : k < n) :
    w.cell? ⟨g, k, none⟩ = some (row a) := by
  rw [ho.cellAt k (by omega), List.getElem?_map, hk]; rfl
set_option maxRecDepth 100000 in
set_option maxHeartbeats 3200000 in
theorem maker_taken {B : Nat} {W : World} {m : Nat} {x : Sp.Source} {s : Sp.Mk} {v : MkV} {e0 at0 : Int} {nm0 : List UInt8} (num but : Int) (h : MakerAt B W m x s v e0 at0 nm0) (hn63 : s.toks.length ≤ 2 ^ 62) :
    Calls Tryd.prog 73 #[.pointer (some ⟨m, 0, none⟩), .int .i64 num, .int .i64 but] W fun e w' => e = .returned (.bool (Sp.taken s num but)) ∧ W = w' := by
  have hb := h.block
  have ht := h.toks; have hg := h.given; have hsm := h.same; have h3 := h.three
  obtain ⟨gt, ct, htv⟩ := own_form ht (by omega)
  obtain ⟨gg, cg, hgv⟩ := own_form hg (by omega)
  unfold mkCells at hb
  rw [htv] at hb ht
  rw [hgv] at hb hg
  generalize hR : Sp.taken s num but = R
  unfold Sp.taken at hR
  obtain ⟨toks, given, lefts, nons, prods, types, start⟩ := s
  simp only at *
  rw [hsm] at hb hg
  have c4 := cell_at (i := 4) hb; have c10 := cell_at (i := 10) hb
  have hl := lt_at hb
  have hlt : gt < W.heap.size := (ht.lt gt rfl).2
  have hlg : gg < W.heap.size := (hg.lt gg rfl).2
  generalize hn : toks.length = n at *
  have HT := Lib.hid ht; have HG := Lib.hid hg; have HR := Lib.hid hR; have HN := Lib.hid hn; have HSM := Lib.hid hsm
  clear h hb ht hg hR hn hsm htv hgv
  go_enter Tryd.func73, Tryd.ntmps73
  go_wp2_with fail
  go_loopg [7] (n - 3) (fun g iv wr => ∃ k : Nat, 3 ≤ k ∧ k ≤ n ∧ g = n - k ∧ iv = .int .i64 k ∧ W = wr ∧ Sp.takenGo num but k (toks.drop k) (given.drop k) = R)
  case atStart => exact ⟨3, Nat.le_refl _, h3, rfl, rfl, rfl, HR.out⟩
  case round =>
    obtain ⟨k, hk3, hk, rfl, rfl, rfl, hR⟩ := hrel
    have HRR := Lib.hid hR
    clear hR
    have hk0 : (0 : Int) ≤ (k : Int) := Int.natCast_nonneg _
    by_cases hkn : k < n
    · have hk1 : (k : Int) < (n : Int) := by omega
      have hkt : k < toks.length := by have := HN.out; omega
      have hkg : k < given.length := by have := HSM.out; omega
      have e1 := List.getElem?_eq_getElem hkt
      have e2 := List.getElem?_eq_getElem hkg
      have d1 : toks.drop k = toks[k] :: toks.drop (k + 1) := List.drop_eq_getElem_cons hkt
      have d2 : given.drop k = given[k] :: given.drop (k + 1) := List.drop_eq_getElem_cons hkg
      have hR := HRR.out
      rw [d1, d2] at hR
      unfold Sp.takenGo at hR
      generalize toks[k] = t at *
      generalize given[k] = gk at *
      have ct := row_cell HT.out (fun _ => rfl) e1 hkn (j := 2) (u := .int .i64 t.num) rfl
      have cg := row_cell1 HG.out e2 hkn
      generalize t.num = tn at *
      clear d1 d2 e1 e2 hkt hkg
      by_cases hkb : (k : Int) = but
      · subst hkb
        have HR2 : Hid (Sp.takenGo num (k : Int) (k + 1) (toks.drop (k + 1)) (given.drop (k + 1)) = R) := Lib.hid (by simpa using hR)
        clear hR HRR
        go_wp2_with fail
        go_roundg (n - (k + 1))
        case measure => omega
        case rel => exact ⟨k + 1, by omega, by omega, by omega, by go_num, rfl, HR2.out⟩
      · have hkd : decide ((k : Int) = but) = false := decide_eq_false hkb
        have hkd2 : ((k : Int) == but) = false := by rw [beq_eq_false_iff_ne]; exact hkb
        cases gk with
        | false =>
          have HR2 : Hid (Sp.takenGo num but (k + 1) (toks.drop (k + 1)) (given.drop (k + 1)) = R) := Lib.hid (by simpa using hR)
          clear hR HRR
          go_wp2_with fail
          go_roundg (n - (k + 1))
          case measure => omega
          case rel => exact ⟨k + 1, by omega, by omega, by omega, by go_num, rfl, HR2.out⟩
        | true =>
          by_cases hnu : tn = num
          · subst hnu
            have HR2 : Hid (true = R) := Lib.hid (by rw [← hR]; simp [hkb])
            clear hR HRR
            go_wp2_with fail
            go_ret
            exact ⟨ret_bool HR2.out, rfl⟩
          · have hnd : (tn == num) = false := by rw [beq_eq_false_iff_ne]; exact hnu
            have HR2 : Hid (Sp.takenGo num but (k + 1) (toks.drop (k + 1)) (given.drop (k + 1)) = R) := Lib.hid (by simpa [hnd] using hR)
            clear hR HRR
            go_wp2_with fail
            go_roundg (n - (k + 1))
            case measure => omega
            case rel => exact ⟨k + 1, by omega, by omega, by omega, by go_num, rfl, HR2.out⟩
    · obtain rfl : k = n := by omega
      have HR2 : Hid (false = R) := Lib.hid (by
        have h := HRR.out
        rw [List.drop_eq_nil_of_le (by rw [HN.out]; exact Nat.le_refl _)] at h
        unfold Sp.takenGo at h
        exact h)
      clear HRR
      go_wp2_with fail
      go_ret
      exact ⟨ret_bool HR2.out, rfl⟩
end Go.Proofs.YtddnomjfcbplpaaDoor

namespace Go.Proofs.YtddnomjfcbplpaaDoor
open Go.RowKit

section
variable {P : Program} {ops : Array Oper} {Q : Exit → Act → World → Prop} {md : Region.Mode} {S : World → Prop} {last : Nat}

/-- Does j wait for i, by way of others too? -/
def reachB (md : Region.Mode) (ops : Array Oper) : Nat → Nat → Nat → Bool
  | 0, _, _ => false
  | f + 1, j, i => match ops[j]? with
    | some oj => oj.after.any fun e => Region.binds md e && (e.on == i || reachB md ops f e.on i)
    | none => false
/-- What is listed has all listed that it waits for. -/
def Closed (md : Region.Mode) (ops : Array Oper) (listed : Array Bool) : Prop :=
  ∀ j oj, ops[j]? = some oj → listed.getD j false = true → ∀ e ∈ oj.after, Region.binds md e = true → listed.getD e.on false = true
theorem Closed.start (n : Nat) : Closed md ops (Array.replicate n false) := fun j oj _ hl => by rw [getD_replicate_false] at hl; cases hl
theorem Closed.set {listed : Array Bool} (h : Closed md ops listed) {i : Nat} (hi : i ∈ Region.ready md ops listed) : Closed md ops (listed.setIfInBounds i true) := by
  obtain ⟨_, oi, hoi, hall⟩ := mem_ready.1 hi
  intro j oj hj hl e he hb
  by_cases hij : i = j
  · subst hij
    have : oj = oi := Option.some.inj (hj.symm.trans hoi)
    subst this
    exact getD_set_true (hall e he hb)
  · rw [getD_set_ne false hij] at hl
    exact getD_set_true (h j oj hj hl e he hb)
theorem reach_listed {listed : Array Bool} (h : Closed md ops listed) {i : Nat} : ∀ (f j : Nat), reachB md ops f j i = true → listed.getD j false = true → listed.getD i false = true
  | 0, _, hr, _ => by cases hr
  | f + 1, j, hr, hl => by
    unfold reachB at hr
    split at hr
    · rename_i oj hoj
      obtain ⟨e, he, hb⟩ := Array.any_eq_true'.1 hr
      simp only [Bool.and_eq_true, Bool.or_eq_true, beq_iff_eq] at hb
      have h1 := h j oj hoj hl e he hb.1
      rcases hb.2 with h2 | h2
      · rw [h2] at h1; exact h1
      · exact reach_listed h f e.on h2 h1
    · cases hr
theorem reach_ready {listed : Array Bool} (h : Closed md ops listed) {f i j : Nat} (hr : reachB md ops f j i = true) (hun : listed.getD i true = false) : j ∉ Region.ready md ops listed := by
  intro hj
  obtain ⟨_, oj, hoj, hall⟩ := mem_ready.1 hj
  cases f with
  | zero => cases hr
  | succ f =>
    unfold reachB at hr
    rw [hoj] at hr
    obtain ⟨e, he, hb⟩ := Array.any_eq_true'.1 hr
    simp only [Bool.and_eq_true, Bool.or_eq_true, beq_iff_eq] at hb
    have h1 := hall e he hb.1
    have h3 : listed.getD i false = true := by
      rcases hb.2 with h2 | h2
      · rw [← h2]; exact h1
      · exact reach_listed h f e.on h2 h1
    rw [getD_both hun] at h3
    cases h3

end
end Go.Proofs.YtddnomjfcbplpaaDoor
