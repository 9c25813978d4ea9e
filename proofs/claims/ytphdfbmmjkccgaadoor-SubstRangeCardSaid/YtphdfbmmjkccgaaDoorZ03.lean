/- Layer 8: the walks of char.Text, and of what print asks of a symbol. Plain functions: a grammar out of a source (gram.Of), as a machine that stops at the first fault; no program in sight. Plain laws: the pieces of a text are joined to it, but for noughts; cut once more they are the same. No program in sight. Plain functions: what the texts of actions with names come to (layer 27); no program in sight. The walk of Cut's closure. The walk of dollar. -/
import Derived.Test.YtphdfbmmjkccgaaDoorZ00
import Derived.Test.YtphdfbmmjkccgaaDoorZ01
import Derived.Test.YtphdfbmmjkccgaaDoorZ02
namespace Go.Proofs.YtphdfbmmjkccgaaDoor
namespace Sp
open Go.Lib (index indexByte hasPrefix)

structure Sym where
  name : List UInt8
  lit : Bool
  num : Int
  at_ : Int
structure Decl where
  kind : Int
  tag : List UInt8
  syms : List Sym
  at_ : Int
structure Part where
  sym : Sym
  code : List UInt8
  at_ : Int
structure Alt where
  parts : List Part
  prec : Sym
  at_ : Int
structure Rule where
  left : List UInt8
  alts : List Alt
  at_ : Int
structure Source where
  pro : List UInt8
  decls : List Decl
  rules : List Rule
  tail : List UInt8

/-! ### What may be -/
def quotable (l : List UInt8) : Bool := match l with
  | [c] => !(quoteText c).isEmpty
  | _ => false
def isSym (s : Sym) : Bool := if s.lit = true then quotable s.name else isName s.name
def isBare (s : Sym) : Bool := isSym s && (s.num == 0)
def isNone (s : Sym) : Bool := s.name.isEmpty && !s.lit && (s.num == 0)
def maySym (k : Int) (s : Sym) : Bool :=
  if isSym s = false ∨ s.lit = true ∧ 5 ≤ k then false
  else if s.num ≠ 0 ∧ (k ≠ 1 ∨ s.lit = true ∨ s.num < 1 ∨ 50000 < s.num) then false else true
def mayDecl (d : Decl) : Bool :=
  if d.kind < 1 ∨ 6 < d.kind ∨ d.syms.length = 0 then false
  else if d.kind = 6 ∧ (d.tag ≠ [] ∨ d.syms.length ≠ 1) then false
  else if (d.kind ≠ 6 ∧ (d.tag ≠ [] ∨ d.kind = 5)) ∧ isName d.tag = false then false
  else d.syms.all (maySym d.kind)
def mayPart (p : Part) : Bool := if p.code = [] then isBare p.sym else isNone p.sym && decide (endAt p.code 0 = (p.code.length : Int))
def mayAlt (a : Alt) : Bool := (isNone a.prec || isBare a.prec) && a.parts.all mayPart
def mayRule (r : Rule) : Bool := isName r.left && decide (0 < r.alts.length) && r.alts.all mayAlt
def may (x : Source) : Bool := !decide (0 ≤ index x.pro [37, 125]) && decide (0 < x.rules.length) && x.decls.all mayDecl && x.rules.all mayRule

/-! ### Texts -/
def symWords (s : Sym) : List (List UInt8) :=
  if s.lit = true then [quoteText (s.name.headD 0)] else if s.num = 0 then [s.name] else [s.name, Go.Lib.itoa s.num]
def declWords (d : Decl) : List (List UInt8) :=
  (keys.getD (d.kind - 1).toNat [] :: (if d.tag = [] then [] else [60 :: (d.tag ++ [62])])) ++ d.syms.flatMap symWords
def partWords (p : Part) : List (List UInt8) := if p.code = [] then symWords p.sym else [p.code]
def altWords (a : Alt) : List (List UInt8) := a.parts.flatMap partWords ++ (if isNone a.prec = true then [] else [37, 112, 114, 101, 99] :: symWords a.prec)
def altsWords : Nat → List Alt → List (List UInt8)
  | _, [] => []
  | k, a :: l => ((if k = 0 then [58] else [124]) :: altWords a) ++ altsWords (k + 1) l
def ruleWords (r : Rule) : List (List UInt8) := r.left :: (altsWords 0 r.alts ++ [[59]])
/-- Words with a byte between them. -/
def joinSp : List (List UInt8) → List UInt8
  | [] => []
  | [w] => w
  | w :: v :: l => w ++ 32 :: joinSp (v :: l)
def text (x : Source) : List UInt8 :=
  if may x = false then [] else
  (if x.pro = [] then [] else 37 :: 123 :: (x.pro ++ [37, 125, 10])) ++ x.decls.flatMap (fun d => joinSp (declWords d) ++ [10]) ++ [37, 37, 10] ++
    x.rules.flatMap (fun r => joinSp (ruleWords r) ++ [10]) ++ (if x.tail = [] then [] else 37 :: 37 :: x.tail)

/-! ### The same but for places -/
def all2 {α : Type} (f : α → α → Bool) : List α → List α → Bool
  | [], [] => true
  | a :: l, b :: m => f a b && all2 f l m
  | _, _ => false
def sameSym (a b : Sym) : Bool := (a.name == b.name) && (a.lit == b.lit) && (a.num == b.num)
def samePart (a b : Part) : Bool := sameSym a.sym b.sym && (a.code == b.code)
def sameAlt (a b : Alt) : Bool := sameSym a.prec b.prec && all2 samePart a.parts b.parts
def sameDecl (a b : Decl) : Bool := (a.kind == b.kind) && (a.tag == b.tag) && all2 sameSym a.syms b.syms
def sameRule (a b : Rule) : Bool := (a.left == b.left) && all2 sameAlt a.alts b.alts
def same (a b : Source) : Bool := (a.pro == b.pro) && (a.tail == b.tail) && all2 sameDecl a.decls b.decls && all2 sameRule a.rules b.rules
end Sp
open Go.RowKit

/-! ### Symbols -/
def symC (s : Sp.Sym) : List Value := [.string ⟨s.name.toArray⟩, .bool s.lit, .int .i64 s.num, .int .i64 s.at_]
def symV (s : Sp.Sym) : Value := .agg (symC s).toArray
end Go.Proofs.YtphdfbmmjkccgaaDoor

namespace Go.Proofs.YtphdfbmmjkccgaaDoor
namespace Sp

structure Tok where
  name : List UInt8
  lit : Bool
  num : Int
  level : Int
  assoc : Int
  tag : List UInt8
deriving DecidableEq
structure Non where
  name : List UInt8
  tag : List UInt8
deriving DecidableEq
structure Prod where
  left : Int
  right : List Int
  prec : Int
  code : List UInt8
  args : List Int
  at_ : Int
deriving DecidableEq
structure Gram where
  toks : List Tok
  nons : List Non
  prods : List Prod
  pro : List UInt8
  tail : List UInt8
deriving DecidableEq
/-- The number of the first that is so, counted from i on. -/
def findIx {α : Type} (p : α → Bool) : List α → Nat → Option Nat
  | [], _ => none
  | x :: l, i => if p x = true then some i else findIx p l (i + 1)
def errName : List UInt8 := [101, 114, 114, 111, 114]
/-- A token's number: that of "error" is 1, others from 3 on. -/
def tokIx (toks : List Tok) (nm : List UInt8) (lt : Bool) : Option Nat :=
  if nm = errName ∧ lt = false then some 1 else findIx (fun t => t.name == nm && t.lit == lt) (toks.drop 3) 3
structure Mk where
  toks : List Tok
  given : List Bool
  lefts : List (List UInt8)
  nons : List Non
  prods : List Prod
  types : List (List UInt8 × List UInt8)
  start : List UInt8
def noTok : Tok := ⟨[], false, 0, 0, 0, []⟩
def mk0 : Mk := ⟨[⟨[36, 101, 110, 100], false, 0, 0, 0, []⟩, ⟨errName, false, -1, 0, 0, []⟩, ⟨[36, 117, 110, 107], false, -1, 0, 0, []⟩], [false, false, false], [], [⟨[36, 97, 99, 99, 101, 112, 116], []⟩], [], [], []⟩
def takenGo (num but : Int) : Nat → List Tok → List Bool → Bool
  | i, t :: ts, g :: gs => ((decide ((i : Int) ≠ but) && g) && (t.num == num)) || takenGo num but (i + 1) ts gs
  | _, _, _ => false
/-- Has another token the number by declaration? -/
def taken (s : Mk) (num but : Int) : Bool := takenGo num but 3 (s.toks.drop 3) (s.given.drop 3)
def byte0 (l : List UInt8) : Int := ((l.headD 0).toNat : Int)
def addTok (s : Mk) (x : Sym) : Mk × Nat :=
  match tokIx s.toks x.name x.lit with
  | some t => (s, t)
  | none => ({ s with toks := s.toks ++ [⟨x.name, x.lit, if x.lit = true then byte0 x.name else 0, 0, 0, []⟩], given := s.given ++ [x.lit] }, s.toks.length)
/-- The tag that %type gave a name. -/
def typeOf : List (List UInt8 × List UInt8) → List UInt8 → Option (List UInt8)
  | [], _ => none
  | (n, t) :: l, nm => if n = nm then some t else typeOf l nm
/-- What stops: the symbol's name and place. -/
abbrev Stop := List UInt8 × Int
def numGo : Int → List Tok → List Bool → List Tok
  | next, t :: ts, g :: gs => if g = true then t :: numGo next ts gs else { t with num := next } :: numGo (next + 1) ts gs
  | _, ts, _ => ts
def great (s : Mk) : Bool := (s.prods.any fun p => decide (8 < p.right.length)) || decide (40 < s.toks.length) || decide (24 < s.nons.length) || decide (60 < s.prods.length)
/-- A fault: what kind, where, of which name. -/
structure Fault where
  err : Int
  at_ : Int
  name : List UInt8
deriving DecidableEq
def noGram : Gram := ⟨[], [], [], [], []⟩
/-! ### Laws -/
end Sp
end Go.Proofs.YtphdfbmmjkccgaaDoor

namespace Go.Proofs.YtphdfbmmjkccgaaDoor
namespace Sp
open Go.Lib (index indexByte hasPrefix decDigits decFrom digitVal)

/-! ### A dollar's piece does not hang on what stands behind the next dollar -/
/-! ### Joining -/
/-! ### Numbers of at most three digits -/
theorem dec_len_le (m : Nat) (h : (decDigits m).length ≤ 3) : m ≤ 999 := by
  rcases Nat.lt_or_ge m 1000 with h' | h'
  · omega
  · exfalso
    have s1 : ∀ n, (decDigits n).length ≠ 0 := fun n e => decDigits_ne n (List.eq_nil_of_length_eq_zero e)
    have s2 : ∀ n, 10 ≤ n → (decDigits n).length = (decDigits (n / 10)).length + 1 := by
      intro n hn
      rw [decDigits, dif_neg (by omega)]; simp
    have a1 := s2 m (by omega)
    have a2 := s2 (m / 10) (by omega)
    have a3 := s2 (m / 10 / 10) (by omega)
    have a4 := s1 (m / 10 / 10 / 10)
    omega

/-- No nought stands behind a dollar or the end of a tag. -/
def noNought (r : List UInt8) : Prop := ∀ a c b, r = a ++ c :: 48 :: b → c ≠ 36 ∧ c ≠ 62
theorem noNought.tail {X R : List UInt8} (h : noNought (X ++ R)) : noNought R := by
  intro a c b e
  exact h (X ++ a) c b (by rw [e]; simp)

/-! ### How much there is -/
theorem flush_bounds (t : List UInt8) : (flush t).length ≤ 1 ∧ ∀ p ∈ flush t, p.text.length ≤ t.length ∧ p.tag.length = 0 := by
  unfold flush
  split
  · simp
  · simp
theorem tag_le (tag : List UInt8) : tag.length ≤ (tagText tag).length := by
  unfold tagText
  split
  · rename_i h; rw [h]; simp
  · simp; omega
theorem dollar_bounds (t : List UInt8) (hk : 0 < (dollar t).2.1) : (dollar t).1.text = [] ∧ (dollar t).1.tag.length ≤ t.length ∧ 2 ≤ (dollar t).2.1 := by
  obtain ⟨tag, _, ⟨R, ht, hd⟩ | ⟨D, R, ht, hD0, _, _, _, hd⟩⟩ := dollar_form t hk
  · have := tag_le tag
    have h2 := congrArg List.length ht
    simp at h2
    rw [hd]
    exact ⟨rfl, by simp only; omega, by simp only; omega⟩
  · have := tag_le tag
    have h2 := congrArg List.length ht
    simp at h2
    have h3 : D.length ≠ 0 := fun e => hD0 (List.eq_nil_of_length_eq_zero e)
    rw [hd]
    exact ⟨rfl, by simp only; omega, by simp only; omega⟩
theorem cutGo_bounds : ∀ (f : Nat) (pend r : List UInt8) (ps : List Piece), cutGo f pend r = some ps → ps.length ≤ 2 * r.length + 1 ∧ ∀ p ∈ ps, p.text.length ≤ pend.length + r.length ∧ p.tag.length ≤ r.length
  | 0, pend, r, ps, h => by simp [cutGo] at h
  | f + 1, pend, [], ps, h => by
    simp only [cutGo, Option.some.injEq] at h
    subst h
    have hb := flush_bounds pend
    exact ⟨by simpa using hb.1, fun p hp => ⟨by simpa using (hb.2 p hp).1, by simpa using (hb.2 p hp).2⟩⟩
  | f + 1, pend, c :: t, ps, h => by
    cases hp : passLen (c :: t) with
    | none =>
      unfold cutGo at h
      rw [hp] at h
      simp at h
    | some n =>
      cases n with
      | succ n =>
        have hle := passLen_le _ _ hp
        obtain ⟨X, R, hXR, hX⟩ : ∃ X R, c :: t = X ++ R ∧ X.length = n + 1 := ⟨(c :: t).take (n + 1), (c :: t).drop (n + 1), (List.take_append_drop _ _).symm, by rw [List.length_take]; omega⟩
        rw [hXR] at h hp ⊢
        rw [cutGo_pass hX hp] at h
        obtain ⟨h1, h2⟩ := cutGo_bounds f _ _ _ h
        refine ⟨by simp; omega, fun p hp => ?_⟩
        have := h2 p hp
        simp at this ⊢
        omega
      | zero =>
        rw [cutGo_zero hp] at h
        have single : cutGo f (pend ++ [c]) t = some ps → ps.length ≤ 2 * (c :: t).length + 1 ∧ ∀ p ∈ ps, p.text.length ≤ pend.length + (c :: t).length ∧ p.tag.length ≤ (c :: t).length := by
          intro h
          obtain ⟨h1, h2⟩ := cutGo_bounds f _ _ _ h
          refine ⟨by simp; omega, fun p hp => ?_⟩
          have := h2 p hp
          simp at this ⊢
          omega
        split at h
        · split at h
          · simp at h
          · split at h
            · rename_i hk
              obtain ⟨qs, hq, rfl⟩ := Option.map_eq_some_iff.1 h
              obtain ⟨h1, h2⟩ := cutGo_bounds f _ _ _ hq
              obtain ⟨b1, b2, b3⟩ := dollar_bounds t hk
              have hb := flush_bounds pend
              simp only [List.length_drop, List.length_cons] at h1 h2 ⊢
              have hdl := dollar_le t
              refine ⟨by simp; omega, fun p hp => ?_⟩
              simp only [List.mem_append, List.mem_cons] at hp
              rcases hp with hp | rfl | hp
              · have := hb.2 p hp; omega
              · rw [b1]; simp; omega
              · have := h2 p hp
                simp at this
                omega
            · exact single h
        · exact single h
theorem cut_bounds (s : List UInt8) (l : List Piece) (h : cut s = (l, 0)) : l.length ≤ 2 * s.length + 1 ∧ ∀ p ∈ l, p.text.length ≤ s.length ∧ p.tag.length ≤ s.length := by
  unfold cut at h
  split at h
  · simp at h
  · cases hc : cutGo (s.length + 1) [] s with
    | none => rw [hc] at h; simp [cutRes] at h
    | some ps =>
      rw [hc] at h
      simp [cutRes] at h
      subst h
      have := cutGo_bounds _ _ _ _ hc
      simpa using this
end Sp
end Go.Proofs.YtphdfbmmjkccgaaDoor

namespace Go.Proofs.YtphdfbmmjkccgaaDoor
namespace Sp

/-- What stands behind a value: of two tags the first one that is not empty. -/
def dotted (own other : List UInt8) : List UInt8 := if own ≠ [] then 46 :: own else if other ≠ [] then 46 :: other else []
def nonTag (g : Gram) (k : Int) : List UInt8 := ((g.nons[k.toNat]?).map (·.tag)).getD []
/-- A symbol's tag. -/
def symTag (g : Gram) (s : Int) : List UInt8 := if 1000 ≤ s then nonTag g (s - 1000) else ((g.toks[s.toNat]?).map (·.tag)).getD []
def yyVal : List UInt8 := [121, 121, 86, 65, 76]
def yyDol : List UInt8 := [121, 121, 68, 111, 108, 108, 97, 114, 91]
/-- The pieces with their names; the number of a part that is none. -/
def subGo (g : Gram) (x : Prod) : List Piece → List UInt8 → Except Int (List UInt8)
  | [], acc => .ok acc
  | c :: l, acc =>
    if c.kind = 1 then subGo g x l (acc ++ c.text)
    else if c.kind = 2 then subGo g x l (acc ++ (yyVal ++ dotted c.tag (nonTag g x.left)))
    else if c.kind = 3 then
      if c.n < 1 ∨ (x.args.length : Int) < c.n then .error c.n
      else subGo g x l (acc ++ (yyDol ++ Go.Lib.itoa c.n ++ [93] ++ dotted c.tag (symTag g (x.args.getD (c.n - 1).toNat 0))))
    else subGo g x l acc
def subRes (at_ : Int) : Except Int (List UInt8) → List UInt8 × Fault
  | .ok t => (t, ⟨0, 0, []⟩)
  | .error n => ([], ⟨6, at_, 36 :: Go.Lib.itoa n⟩)
/-- The text of a production's action. -/
def subProd (g : Gram) (x : Prod) : List UInt8 × Fault :=
  if x.code = [] then ([], ⟨0, 0, []⟩)
  else if (cut x.code).2 ≠ 0 then ([], ⟨(cut x.code).2, x.at_, []⟩)
  else subRes x.at_ (subGo g x (cut x.code).1 [])
def subBody (g : Gram) (p : Int) : List UInt8 × Fault :=
  if p < 0 ∨ (g.prods.length : Int) ≤ p then ([], ⟨0, 0, []⟩) else match g.prods[p.toNat]? with
    | some x => subProd g x
    | none => ([], ⟨0, 0, []⟩)
/-- The texts of all actions. -/
def subAllGo (g : Gram) : List Prod → List (List UInt8) → List (List UInt8) × Fault
  | [], acc => (acc, ⟨0, 0, []⟩)
  | x :: l, acc => if (subProd g x).2.err ≠ 0 then ([], (subProd g x).2) else subAllGo g l (acc ++ [(subProd g x).1])
def subAll (g : Gram) : List (List UInt8) × Fault := subAllGo g g.prods []

/-- A production whose symbols are the grammar's. -/
def GoodPr (g : Gram) (x : Prod) : Prop := (0 ≤ x.left ∧ x.left < (g.nons.length : Int)) ∧ (∀ a ∈ x.args, 0 ≤ a ∧ (1000 ≤ a → a - 1000 < (g.nons.length : Int)) ∧ (a < 1000 → a < (g.toks.length : Int))) ∧ x.code.length ≤ 4000 ∧ x.args.length ≤ 4000
/-- Tags are not great. -/
def GoodTg (g : Gram) : Prop := (∀ t ∈ g.toks, t.tag.length ≤ 4000) ∧ ∀ n ∈ g.nons, n.tag.length ≤ 4000
theorem nonTag_le {g : Gram} (h : GoodTg g) (k : Int) : (nonTag g k).length ≤ 4000 := by
  unfold nonTag
  cases hk : g.nons[k.toNat]? with
  | none => simp
  | some n => exact h.2 n (List.mem_of_getElem? hk)
theorem symTag_le {g : Gram} (h : GoodTg g) (k : Int) : (symTag g k).length ≤ 4000 := by
  unfold symTag
  split
  · exact nonTag_le h _
  · cases hk : g.toks[k.toNat]? with
    | none => simp
    | some n => exact h.1 n (List.mem_of_getElem? hk)
theorem dotted_le {a b : List UInt8} {n : Nat} (ha : a.length ≤ n) (hb : b.length ≤ n) : (dotted a b).length ≤ n + 1 := by
  unfold dotted
  split
  · simp; omega
  · split
    · simp; omega
    · simp
/-- A piece is a text, the whole or a part. -/
def GoodPc (p : Piece) : Prop := (p.kind = 1 ∨ p.kind = 2 ∨ p.kind = 3) ∧ 0 ≤ p.n ∧ p.n ≤ 999
theorem num_digits {D : List UInt8} (h0 : D ≠ []) (hd : ∀ c ∈ D, digit c = true) (h3 : D.length ≤ 3) : 0 ≤ num D ∧ num D ≤ 999 := by
  obtain ⟨m, z, h1, h2⟩ := digits_form D h0 hd
  have h4 := num_of_dec D m h0 hd h1
  rw [h4]
  have h5 : (Go.Lib.decDigits m).length ≤ 3 := by
    have := congrArg List.length h2
    simp at this
    omega
  have := dec_len_le m h5
  omega
theorem dollar2_good (tag : List UInt8) (off : Nat) (r : List UInt8) (hk : 0 < (dollar2 tag off r).2.1) : GoodPc (dollar2 tag off r).1 := by
  unfold dollar2 at hk ⊢
  split
  · exact ⟨.inr (.inl rfl), by simp, by simp⟩
  · rename_i h1
    rw [if_neg h1] at hk
    split
    · rename_i h2
      rw [if_pos h2] at hk
      exact absurd hk (by simp)
    · rename_i h2
      rw [if_neg h2] at hk
      split
      · rename_i h3
        rw [if_pos h3] at hk
        exact absurd hk (by simp)
      · have hl := digits_le r
        have e : (r.take (digits r)).length = digits r := by rw [List.length_take]; omega
        have := num_digits (D := r.take (digits r)) (fun e2 => by rw [e2] at e; simp at e; omega) (digits_take r) (by omega)
        exact ⟨.inr (.inr rfl), this.1, this.2⟩
theorem dollar_good (t : List UInt8) (hk : 0 < (dollar t).2.1) : GoodPc (dollar t).1 := by
  unfold dollar at hk ⊢
  split
  · rename_i h1
    rw [if_pos h1] at hk
    split
    · rename_i h2
      rw [if_pos h2] at hk
      exact dollar2_good _ _ _ hk
    · rename_i h2
      rw [if_neg h2] at hk
      exact absurd hk (by simp)
  · rename_i h1
    rw [if_neg h1] at hk
    exact dollar2_good _ _ _ hk
theorem flush_good (t : List UInt8) : ∀ p ∈ flush t, GoodPc p := by
  intro p hp
  unfold flush at hp
  split at hp
  · cases hp
  · rw [List.mem_singleton] at hp
    subst hp
    exact ⟨.inl rfl, by simp, by simp⟩
theorem cutGo_good : ∀ (f : Nat) (pend r : List UInt8) (ps : List Piece), cutGo f pend r = some ps → ∀ p ∈ ps, GoodPc p
  | 0, _, _, _, h => by simp [cutGo] at h
  | f + 1, pend, [], ps, h => by
    simp only [cutGo, Option.some.injEq] at h
    subst h
    exact flush_good pend
  | f + 1, pend, c :: t, ps, h => by
    unfold cutGo at h
    split at h
    · cases h
    · exact cutGo_good f _ _ ps h
    · split at h
      · split at h
        · cases h
        · split at h
          · rename_i hk
            obtain ⟨qs, hq, rfl⟩ := Option.map_eq_some_iff.1 h
            intro p hp
            rcases List.mem_append.1 hp with hp | hp
            · exact flush_good pend p hp
            · rcases List.mem_cons.1 hp with rfl | hp
              · exact dollar_good t hk
              · exact cutGo_good f _ _ qs hq p hp
          · exact cutGo_good f _ _ ps h
      · exact cutGo_good f _ _ ps h
theorem cut_good (s : List UInt8) : ∀ p ∈ (cut s).1, GoodPc p := by
  unfold cut
  split
  · intro p hp; cases hp
  · cases hc : cutGo (s.length + 1) [] s with
    | none => intro p hp; cases hp
    | some ps => exact cutGo_good _ _ _ ps hc
theorem subGo_text (g : Gram) (x : Prod) (c : Piece) (l : List Piece) (acc : List UInt8) (h : c.kind = 1) : subGo g x (c :: l) acc = subGo g x l (acc ++ c.text) := by
  rw [subGo, if_pos h]
theorem subGo_whole (g : Gram) (x : Prod) (c : Piece) (l : List Piece) (acc : List UInt8) (h : c.kind = 2) : subGo g x (c :: l) acc = subGo g x l (acc ++ (yyVal ++ dotted c.tag (nonTag g x.left))) := by
  rw [subGo, if_neg (by omega), if_pos h]
theorem subGo_part (g : Gram) (x : Prod) (c : Piece) (l : List Piece) (acc : List UInt8) (h : c.kind = 3) (h1 : ¬ c.n < 1) (h2 : ¬ (x.args.length : Int) < c.n) : subGo g x (c :: l) acc = subGo g x l (acc ++ (yyDol ++ Go.Lib.itoa c.n ++ [93] ++ dotted c.tag (symTag g (x.args.getD (c.n - 1).toNat 0)))) := by
  rw [subGo, if_neg (by omega), if_neg (by omega), if_pos h, if_neg (by omega)]
theorem subGo_far (g : Gram) (x : Prod) (c : Piece) (l : List Piece) (acc : List UInt8) (h : c.kind = 3) (h1 : c.n < 1 ∨ (x.args.length : Int) < c.n) : subGo g x (c :: l) acc = .error c.n := by
  rw [subGo, if_neg (by omega), if_neg (by omega), if_pos h, if_pos h1]
end Sp
end Go.Proofs.YtphdfbmmjkccgaaDoor

namespace Go.Proofs.YtphdfbmmjkccgaaDoor
open Go.RowKit

theorem info_piece : (Tryd.prog.info? 92).map (fun i => (i.zero, i.size, i.bytes)) = some (some (.agg #[.int .i64 0, .string ⟨#[]⟩, .int .i64 0, .string ⟨#[]⟩]), 4, 48) := by kernel_rfl
theorem ownsRow_some {w : World} {base : Nat} {e : TypeId} {size : Nat} {v : Value} {n : Nat} {xs : List Value} (h : w.ownsRow base e size v n xs) : ∃ a cap, v = .slice a n cap := by
  rcases h.2 with ⟨rfl, rfl⟩ | ⟨g, cap, cur, rfl, _⟩
  · exact ⟨_, _, rfl⟩
  · exact ⟨_, _, rfl⟩

/-- What Cut's closure leaves: the list with what stood since the last piece. -/
def TextPost (bl B n : Nat) (v : Value) (xs : List Value) (ps : List Sp.Piece) (w : World) (e : Ending) (w' : World) : Prop :=
  e = .returned (.tuple #[]) ∧ ∃ v', w'.heap[bl]? = some (.cells #[v'] 85 (0, 0)) ∧ w'.ownsRow B 92 4 v' (n + ps.length) (xs ++ ps.flatMap pieceC) ∧ Kp (fun k => k ≠ bl ∧ ∀ g, v.ownBlock = some g → k ≠ g) w w'

set_option maxRecDepth 100000 in
set_option maxHeartbeats 1600000 in
theorem cut_text (s : ByteArray) (from_ to : Nat) (bf bl bc B n : Nat) (v : Value) (xs : List Value) (w : World) (hto : to ≤ s.size)
    (hf : w.heap[bf]? = some (.cells #[.int .i64 from_] 3 (0, 0))) (hl : w.heap[bl]? = some (.cells #[v] 85 (0, 0))) (hc : w.heap[bc]? = some (.cells #[.string s] 9 (0, 0)))
    (hown : w.ownsRow B 92 4 v n xs) (hn : n < 17179869184) (hB : B ≤ w.heap.size) :
    Calls Tryd.prog 45 #[.int .i64 to, .pointer (some ⟨bf, 0, none⟩), .pointer (some ⟨bl, 0, none⟩), .pointer (some ⟨bc, 0, none⟩)] w
      (TextPost bl B n v xs (Sp.flush ((s.data.toList.drop from_).take (to - from_))) w) := by
  have c0 := cell_at (i := 0) hf; have c1 := cell_at (i := 0) hl; have c2 := cell_at (i := 0) hc
  have f1 := frozen_at (i := 0) hl
  have l0 := lt_at hf; have l1 := lt_at hl; have l2 := lt_at hc
  have HL := Lib.hid hl
  clear hf hl hc
  by_cases hft : from_ < to
  · have HF : Hid (Sp.flush ((s.data.toList.drop from_).take (to - from_)) = [⟨1, (s.data.toList.drop from_).take (to - from_), 0, []⟩]) := by
      show _ = _
      unfold Sp.flush
      rw [if_neg]
      intro h
      have := congrArg List.length h
      simp at this
      omega
    obtain ⟨i0, hi, hz0, hz1, hz2⟩ := info_parts info_piece
    obtain ⟨a, cap, rfl⟩ := ownsRow_some hown
    have HO := Lib.hid hown; clear hown
    have hft2 : from_ ≤ to := by omega
    go_enter Tryd.func45, Tryd.ntmps45
    go_wp2
    have hne := ownsRow_ne HO.out HL.out (by decide)
    have HNE := Lib.hid hne; clear hne
    go_region_law ((refine step_append_own rfl (.tmp 8) (.tmp 14) 85 rfl B 92 i0 _ 4 48 Tryd.underlying85 hi hz0 hz1 hz2 rfl (by decide) _ _ _ rfl (HO.out.alloc _) ⟨w.heap.size, 0, none⟩ 1 1 [.int .i64 1, .string (s.extract from_ to), .int .i64 0, .string ⟨#[]⟩] rfl rfl (new_cells _ _ _) (by simp [Value.oneCell']) (by unfold maxLen; omega) (by omega) (by simp; omega) ?_); intro v' w1 ho hgr; obtain ⟨g, cp, rfl⟩ := own_form ho (by omega); have hB1 := (hgr.block bl (by simp; omega) (fun h => HNE.out bl h.symm rfl)).trans ((Below.heap_alloc _ _ _ l1).trans HL.out); have cB := cell_at (i := 0) hB1; have fB := frozen_at (i := 0) hB1; have HO1 := Lib.hid ho; have HG1 := Lib.hid hgr; have HB1 := Lib.hid hB1; clear ho hgr hB1)
    all_goals (go_end0; have hF := HF.out)
    all_goals refine ⟨rfl, _, heap_setCell_at HB1.out, ?_, ?_⟩
    all_goals first
      | exact ((((Kp.refl _ _).alloc _).drew).grown HG1.out (fun k hk hS => hS.2 k hk rfl)).setCell (fun h => h.1 rfl) _
      | (rw [hF, show ([⟨1, (s.data.toList.drop from_).take (to - from_), 0, []⟩] : List Sp.Piece).flatMap pieceC = [.int .i64 1, .string (s.extract from_ to), .int .i64 0, .string ⟨#[]⟩] by rw [Lib.extract_eq]; rfl]; exact ownsRow_setCell_ne (i := 0) HO1.out HB1.out (by decide) (.slice (some ⟨g, 0, none⟩) (n + 1) cp))
  · have HF : Hid (Sp.flush ((s.data.toList.drop from_).take (to - from_)) = []) := by
      show _ = _
      rw [show to - from_ = 0 by omega]; rfl
    go_enter Tryd.func45, Tryd.ntmps45
    go_wp2
    go_end0
    refine ⟨rfl, v, HL.out, ?_, Kp.refl _ _⟩
    rw [HF.out]
    simpa using hown
end Go.Proofs.YtphdfbmmjkccgaaDoor

namespace Go.Proofs.YtphdfbmmjkccgaaDoor
open Go.RowKit

def pieceV (p : Sp.Piece) : Value := .agg #[.int .i64 p.kind, .string ⟨p.text.toArray⟩, .int .i64 p.n, .string ⟨p.tag.toArray⟩]
theorem digits_cons (c : UInt8) (t : List UInt8) : Sp.digits (c :: t) = if Sp.digit c = true then Sp.digits t + 1 else 0 := rfl

set_option maxRecDepth 100000 in
set_option maxHeartbeats 1600000 in
theorem body_dollar_plain (s : ByteArray) (at_ : Nat) (w : World) (hs : s.size < 4294967281) (hat : at_ < s.size)
    (hp : Lib.hasPrefix (s.data.toList.drop (at_ + 1)) [60] = false) :
    Calls Tryd.prog 47 #[.string s, .int .i64 at_] w fun e w' =>
      e = .returned (.tuple #[pieceV (Sp.dollar2 [] (1) (s.data.toList.drop (at_ + 1))).1, .int .i64 (at_ + (Sp.dollar2 [] (1) (s.data.toList.drop (at_ + 1))).2.1 : Nat), .int .i64 (Sp.dollar2 [] (1) (s.data.toList.drop (at_ + 1))).2.2]) ∧ Below w.heap.size w w' := by
  generalize hN : (Sp.dollar2 [] (1) (s.data.toList.drop (at_ + 1))) = N
  unfold Sp.dollar2 at hN
  have HN := Lib.hid hN; clear hN
  cases h36 : Lib.hasPrefix (s.data.toList.drop (at_ + 1)) [36] with
  | true =>
    go_enter Tryd.func47, Tryd.ntmps47
    go_wp2_with (first | (go_at_call 51; refine (strings_HasPrefix_gl _ _ _).mono ?_; rintro e w' ⟨rfl, rfl⟩; rw [ext_end]))
    have hN := HN.out
    rw [if_pos h36] at hN
    subst hN
    refine ret_cell_tmp_tmp (g := w.heap.size) rfl rfl (heap_last _ _) rfl Tryd.underlying92 (by kernel_rfl) rfl ⟨by simp [pieceV]; try omega, ?_⟩
    exact (Below.refl _ _).alloc (Nat.le_refl _) _
  | false =>
    generalize hD : Sp.digits (s.data.toList.drop (at_ + 1)) = D at HN
    have HD := Lib.hid hD; clear hD
    have hDle : (at_ + 1) + D ≤ s.size := by
      have := Sp.digits_le (s.data.toList.drop (at_ + 1))
      have hl : (s.data.toList.drop (at_ + 1)).length = s.size - (at_ + 1) := by simp
      have := HD.out; omega
    go_enter Tryd.func47, Tryd.ntmps47
    go_wp2_with (first | (go_at_call 51; refine (strings_HasPrefix_gl _ _ _).mono ?_; rintro e w' ⟨rfl, rfl⟩; rw [ext_end]))
    go_loop [9] (fun n => ∃ j : Nat, j ≤ D ∧ n = .int .i64 j ∧ j + Sp.digits (s.data.toList.drop ((at_ + 1) + j)) = D) (fun n => D - (intOf n).toNat)
    case atStart => exact ⟨0, by omega, rfl, by simp [HD.out]⟩
    case round =>
      obtain ⟨j, hj, rfl, hi⟩ := hrel
      have HI := Lib.hid hi; clear hi
      by_cases hjd : j < D
      · have hlt : (at_ + 1) + j < s.size := by omega
        have hd : Sp.digit s[(at_ + 1) + j] = true := by
          have := HI.out
          rw [drop_at s _ hlt, digits_cons] at this
          split at this
          · assumption
          · omega
        go_wp2_with (go_at_call 76; refine (body_digit _ _).mono ?_; rintro e w' ⟨rfl, rfl⟩)
        have hi := HI.out
        clear HN HD HI
        go_round
        case rel => go_light; exact ⟨j + 1, by omega, by go_num, by rw [drop_at s _ hlt, digits_cons, if_pos hd] at hi; rw [← Nat.add_assoc]; omega⟩
        case measure => go_light; simp [intOf]; omega
      · obtain rfl : j = D := by omega
        have hcase : ((at_ + 1) + j < s.size ∧ ∃ b, b = false ∧ (∀ h : (at_ + 1) + j < s.size, Sp.digit s[(at_ + 1) + j] = b)) ∨ ¬ (at_ + 1) + j < s.size := by
          by_cases h : (at_ + 1) + j < s.size
          · left
            refine ⟨h, false, rfl, fun h => ?_⟩
            have := HI.out
            rw [drop_at s _ h, digits_cons] at this
            split at this
            · omega
            · rename_i hx; simpa using hx
          · exact .inr h
        clear HI hDle
        have hK : (at_ + 1) + j ≤ s.size := by
          have := Sp.digits_le (s.data.toList.drop (at_ + 1))
          have hl : (s.data.toList.drop (at_ + 1)).length = s.size - (at_ + 1) := by simp
          have := HD.out; omega
        have hnum : j ≠ 0 → Lib.atoi (s.extract (at_ + 1) ((at_ + 1) + j)).data.toList = some (Sp.num ((s.data.toList.drop (at_ + 1)).take j)) := by
          intro h0
          rw [ext_any, Nat.add_sub_cancel_left]
          have := Sp.atoi_digits (s.data.toList.drop (at_ + 1)) (by rw [HD.out]; exact h0)
          rwa [HD.out] at this
        have hN := HN.out; clear HN HD
        rw [if_neg (by rw [h36]; simp)] at hN
        have hsz : (s.extract (at_ + 1) ((at_ + 1) + j)).size = j := by simp; omega
        by_cases hj0 : j = 0
        · subst hj0
          rw [if_pos rfl] at hN; subst hN
          clear hnum hsz
          rcases hcase with ⟨hlt, b, rfl, hd⟩ | hlt
          · have hd := hd hlt
            go_wp2_with (go_at_call 76; refine (body_digit _ _).mono ?_; rintro e w' ⟨rfl, rfl⟩)
            refine ret_cell_tmp_tmp (g := w.heap.size) rfl rfl (heap_last _ _) rfl Tryd.underlying92 (by kernel_rfl) rfl ⟨by simp [pieceV, Sp.nil], ?_⟩
            exact (Below.refl _ _).alloc (Nat.le_refl _) _
          · go_wp2
            refine ret_cell_tmp_tmp (g := w.heap.size) rfl rfl (heap_last _ _) rfl Tryd.underlying92 (by kernel_rfl) rfl ⟨by simp [pieceV, Sp.nil], ?_⟩
            exact (Below.refl _ _).alloc (Nat.le_refl _) _
        · rw [if_neg hj0] at hN
          have hjb : ((j : Int) == 0) = false := by simpa using hj0
          by_cases hj3 : 3 < j
          · rw [if_pos hj3] at hN; subst hN
            clear hnum hsz
            rcases hcase with ⟨hlt, b, rfl, hd⟩ | hlt
            · have hd := hd hlt
              go_wp2_with (go_at_call 76; refine (body_digit _ _).mono ?_; rintro e w' ⟨rfl, rfl⟩)
              refine ret_cell_tmp_tmp (g := w.heap.size) rfl rfl (heap_last _ _) rfl Tryd.underlying92 (by kernel_rfl) rfl ⟨by simp [pieceV, Sp.nil], ?_⟩
              exact (Below.refl _ _).alloc (Nat.le_refl _) _
            · go_wp2
              refine ret_cell_tmp_tmp (g := w.heap.size) rfl rfl (heap_last _ _) rfl Tryd.underlying92 (by kernel_rfl) rfl ⟨by simp [pieceV, Sp.nil], ?_⟩
              exact (Below.refl _ _).alloc (Nat.le_refl _) _
          · rw [if_neg hj3] at hN
            have hnum := hnum hj0
            generalize Sp.num ((s.data.toList.drop (at_ + 1)).take j) = v at hN hnum
            subst hN
            have hnum := Lib.hid hnum
            have hsz := Lib.hid hsz
            rcases hcase with ⟨hlt, b, rfl, hd⟩ | hlt
            · have hd := hd hlt
              go_wp2_with (first
                | (go_at_call 76; refine (body_digit _ _).mono ?_; rintro e w' ⟨rfl, rfl⟩)
                | (go_at_call 64; refine (strconv_Atoi_gl _ v (by rw [hsz.out]; omega) hnum.out _).mono ?_; rintro e w1 ⟨rfl, hb⟩; have hB := (hb.block w.heap.size (by simp)).trans (heap_last _ _); have c0 := cell_at (i := 0) hB; have c1 := cell_at (i := 1) hB; have c2 := cell_at (i := 2) hB; have c3 := cell_at (i := 3) hB; have f0 := frozen_at (i := 0) hB; have f1 := frozen_at (i := 1) hB; have f2 := frozen_at (i := 2) hB; have f3 := frozen_at (i := 3) hB; have hz := lt_at hB))
              refine ret_cell_tmp_tmp (g := w.heap.size) rfl rfl (by exact heap_setCell_at (heap_setCell_at (heap_setCell_at (heap_setCell_at (heap_setCell_at hB))))) rfl Tryd.underlying92 (by kernel_rfl) rfl ⟨by simp [pieceV]; try omega, ?_⟩
              exact (((((((Below.refl _ _).alloc (Nat.le_refl _) _).trans (hb.mono (by simp))).setCell (by simp) _).setCell (by simp) _).setCell (by simp) _).setCell (by simp) _).setCell (by simp) _
            · go_wp2_with (go_at_call 64; refine (strconv_Atoi_gl _ v (by rw [hsz.out]; omega) hnum.out _).mono ?_; rintro e w1 ⟨rfl, hb⟩; have hB := (hb.block w.heap.size (by simp)).trans (heap_last _ _); have c0 := cell_at (i := 0) hB; have c1 := cell_at (i := 1) hB; have c2 := cell_at (i := 2) hB; have c3 := cell_at (i := 3) hB; have f0 := frozen_at (i := 0) hB; have f1 := frozen_at (i := 1) hB; have f2 := frozen_at (i := 2) hB; have f3 := frozen_at (i := 3) hB; have hz := lt_at hB)
              refine ret_cell_tmp_tmp (g := w.heap.size) rfl rfl (by exact heap_setCell_at (heap_setCell_at (heap_setCell_at (heap_setCell_at (heap_setCell_at hB))))) rfl Tryd.underlying92 (by kernel_rfl) rfl ⟨by simp [pieceV]; try omega, ?_⟩
              exact (((((((Below.refl _ _).alloc (Nat.le_refl _) _).trans (hb.mono (by simp))).setCell (by simp) _).setCell (by simp) _).setCell (by simp) _).setCell (by simp) _).setCell (by simp) _
end Go.Proofs.YtphdfbmmjkccgaaDoor
