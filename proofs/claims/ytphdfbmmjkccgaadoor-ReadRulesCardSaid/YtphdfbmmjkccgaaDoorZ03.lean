/- Layer 8: the walks of char.Text, and of what print asks of a symbol. Plain functions: what the reading of a source's words comes to (layer 7); no program in sight. Plain laws: a word is no longer than the text. No program in sight. Plain laws: how many words there are. No program in sight. Plain laws: what the words of a text are like. No program in sight. Plain steps of the reading of words (layer 7), as the code takes them; no program in sight. -/
import Derived.Test.YtphdfbmmjkccgaaDoorZ02
import Derived.Test.YtphdfbmmjkccgaaDoorZ01
namespace Go.Proofs.YtphdfbmmjkccgaaDoor
namespace Sp
open Go.Lib (index indexByte hasPrefix)

structure Sym where
  name : List UInt8
  lit : Bool
  num : Int
  at_ : Int
structure Decl where
  kind : Int
  tag : List UInt8
  syms : List Sym
  at_ : Int
structure Part where
  sym : Sym
  code : List UInt8
  at_ : Int
structure Alt where
  parts : List Part
  prec : Sym
  at_ : Int
structure Rule where
  left : List UInt8
  alts : List Alt
  at_ : Int
structure Source where
  pro : List UInt8
  decls : List Decl
  rules : List Rule
  tail : List UInt8

/-! ### What may be -/
def quotable (l : List UInt8) : Bool := match l with
  | [c] => !(quoteText c).isEmpty
  | _ => false
def isSym (s : Sym) : Bool := if s.lit = true then quotable s.name else isName s.name
def isBare (s : Sym) : Bool := isSym s && (s.num == 0)
def isNone (s : Sym) : Bool := s.name.isEmpty && !s.lit && (s.num == 0)
def maySym (k : Int) (s : Sym) : Bool :=
  if isSym s = false ∨ s.lit = true ∧ 5 ≤ k then false
  else if s.num ≠ 0 ∧ (k ≠ 1 ∨ s.lit = true ∨ s.num < 1 ∨ 50000 < s.num) then false else true
def mayDecl (d : Decl) : Bool :=
  if d.kind < 1 ∨ 6 < d.kind ∨ d.syms.length = 0 then false
  else if d.kind = 6 ∧ (d.tag ≠ [] ∨ d.syms.length ≠ 1) then false
  else if (d.kind ≠ 6 ∧ (d.tag ≠ [] ∨ d.kind = 5)) ∧ isName d.tag = false then false
  else d.syms.all (maySym d.kind)
def mayPart (p : Part) : Bool := if p.code = [] then isBare p.sym else isNone p.sym && decide (endAt p.code 0 = (p.code.length : Int))
def mayAlt (a : Alt) : Bool := (isNone a.prec || isBare a.prec) && a.parts.all mayPart
def mayRule (r : Rule) : Bool := isName r.left && decide (0 < r.alts.length) && r.alts.all mayAlt
def may (x : Source) : Bool := !decide (0 ≤ index x.pro [37, 125]) && decide (0 < x.rules.length) && x.decls.all mayDecl && x.rules.all mayRule

/-! ### Texts -/
def symWords (s : Sym) : List (List UInt8) :=
  if s.lit = true then [quoteText (s.name.headD 0)] else if s.num = 0 then [s.name] else [s.name, Go.Lib.itoa s.num]
def declWords (d : Decl) : List (List UInt8) :=
  (keys.getD (d.kind - 1).toNat [] :: (if d.tag = [] then [] else [60 :: (d.tag ++ [62])])) ++ d.syms.flatMap symWords
def partWords (p : Part) : List (List UInt8) := if p.code = [] then symWords p.sym else [p.code]
def altWords (a : Alt) : List (List UInt8) := a.parts.flatMap partWords ++ (if isNone a.prec = true then [] else [37, 112, 114, 101, 99] :: symWords a.prec)
def altsWords : Nat → List Alt → List (List UInt8)
  | _, [] => []
  | k, a :: l => ((if k = 0 then [58] else [124]) :: altWords a) ++ altsWords (k + 1) l
def ruleWords (r : Rule) : List (List UInt8) := r.left :: (altsWords 0 r.alts ++ [[59]])
/-- Words with a byte between them. -/
def joinSp : List (List UInt8) → List UInt8
  | [] => []
  | [w] => w
  | w :: v :: l => w ++ 32 :: joinSp (v :: l)
def text (x : Source) : List UInt8 :=
  if may x = false then [] else
  (if x.pro = [] then [] else 37 :: 123 :: (x.pro ++ [37, 125, 10])) ++ x.decls.flatMap (fun d => joinSp (declWords d) ++ [10]) ++ [37, 37, 10] ++
    x.rules.flatMap (fun r => joinSp (ruleWords r) ++ [10]) ++ (if x.tail = [] then [] else 37 :: 37 :: x.tail)

/-! ### The same but for places -/
def all2 {α : Type} (f : α → α → Bool) : List α → List α → Bool
  | [], [] => true
  | a :: l, b :: m => f a b && all2 f l m
  | _, _ => false
def sameSym (a b : Sym) : Bool := (a.name == b.name) && (a.lit == b.lit) && (a.num == b.num)
def samePart (a b : Part) : Bool := sameSym a.sym b.sym && (a.code == b.code)
def sameAlt (a b : Alt) : Bool := sameSym a.prec b.prec && all2 samePart a.parts b.parts
def sameDecl (a b : Decl) : Bool := (a.kind == b.kind) && (a.tag == b.tag) && all2 sameSym a.syms b.syms
def sameRule (a b : Rule) : Bool := (a.left == b.left) && all2 sameAlt a.alts b.alts
def same (a b : Source) : Bool := (a.pro == b.pro) && (a.tail == b.tail) && all2 sameDecl a.decls b.decls && all2 sameRule a.rules b.rules
end Sp
open Go.RowKit

/-! ### Symbols -/
def symC (s : Sp.Sym) : List Value := [.string ⟨s.name.toArray⟩, .bool s.lit, .int .i64 s.num, .int .i64 s.at_]
def symV (s : Sp.Sym) : Value := .agg (symC s).toArray
end Go.Proofs.YtphdfbmmjkccgaaDoor

namespace Go.Proofs.YtphdfbmmjkccgaaDoor
namespace Sp

/-- What a part of the reader comes to: what it made and the words that are left; or the words from the one on that cannot stand there. -/
inductive Rd (α : Type) where
  | ok (a : α) (rest : List Word)
  | bad (rest : List Word)
/-- Is the next word of a kind (and of a text, if one is told)? -/
def isW (k : Int) (t : List UInt8) : List Word → Bool
  | [] => false
  | w :: _ => (w.kind == k) && (t.isEmpty || (w.text == t))
def isSymW (l : List Word) : Bool := isW 1 [] l || isW 2 [] l
/-- Is the next word a name right ahead of a colon? -/
def namedW : List Word → Bool
  | w :: l => (w.kind == 1) && isW 6 [58] l
  | [] => false
def kindGo (key : List UInt8) : List (List UInt8) → Nat → Int
  | [], _ => 0
  | k :: l, i => if k = key then ((i + 1 : Nat) : Int) else kindGo key l (i + 1)
/-- The kind of a declaration by its key word; 0: none. -/
def rdKind (key : List UInt8) : Int := kindGo key (keys.take 6) 0
def rdNone : Sym := ⟨[], false, 0, 0⟩
def rdSym (w : Word) : Sym := ⟨w.text, w.kind == 2, 0, w.at_⟩
/-- The symbols of a declaration. -/
def rdSyms (k : Int) : List Word → List Sym × List Word
  | [] => ([], [])
  | [w] => if w.kind = 1 ∨ w.kind = 2 ∧ k ≠ 5 then ([rdSym w], []) else ([], [w])
  | w :: n :: l =>
    if w.kind = 1 ∨ w.kind = 2 ∧ k ≠ 5 then
      if (k = 1 ∧ w.kind ≠ 2) ∧ n.kind = 3 then ({ rdSym w with num := num n.text } :: (rdSyms k l).1, (rdSyms k l).2)
      else (rdSym w :: (rdSyms k (n :: l)).1, (rdSyms k (n :: l)).2)
    else ([], w :: n :: l)
/-- A tag, if there is one. -/
def tagGo : List Word → List UInt8 × List Word
  | w :: l => if w.kind = 4 then (w.text, l) else ([], w :: l)
  | [] => ([], [])
/-- A declaration, behind its key word. -/
def readDecl (k : Int) (at_ : Int) (ws : List Word) : Rd Decl :=
  if k = 6 then (match ws with
    | w :: l => if w.kind = 1 then .ok ⟨6, [], [rdSym w], at_⟩ l else .bad (w :: l)
    | [] => .bad [])
  else if k = 5 ∧ (tagGo ws).1 = [] then .bad (tagGo ws).2
  else if (rdSyms k (tagGo ws).2).1 = [] then .bad (tagGo ws).2
  else .ok ⟨k, (tagGo ws).1, (rdSyms k (tagGo ws).2).1, at_⟩ (rdSyms k (tagGo ws).2).2
/-- The declarations, and the mark behind them: the prologue, if there was one, and the declarations. -/
def readDecls : Nat → List Word → Option (List UInt8) → List Decl → Rd (Option (List UInt8) × List Decl)
  | 0, ws, _, _ => .bad ws
  | _ + 1, [], _, _ => .bad []
  | f + 1, w :: l, pro, ds =>
    if w.kind = 7 then .ok (pro, ds) l
    else if w.kind = 9 ∧ pro = none then readDecls f l (some w.text) ds
    else if w.kind = 5 ∧ rdKind w.text ≠ 0 then (match readDecl (rdKind w.text) w.at_ l with
      | .ok d r => readDecls f r pro (ds ++ [d])
      | .bad r => .bad r)
    else .bad (w :: l)
/-- The parts of an alternative. -/
def rdParts : List Word → List Part × List Word
  | [] => ([], [])
  | w :: l =>
    if w.kind = 8 then (⟨rdNone, w.text, w.at_⟩ :: (rdParts l).1, (rdParts l).2)
    else if (w.kind = 1 ∨ w.kind = 2) ∧ namedW (w :: l) = false then (⟨rdSym w, [], w.at_⟩ :: (rdParts l).1, (rdParts l).2)
    else ([], w :: l)
def precKey : List UInt8 := [37, 112, 114, 101, 99]
/-- Behind %prec and its symbol: an action, if there is one. -/
def codeGo : List Word → List Part × List Word
  | w :: l => if w.kind = 8 then ([⟨rdNone, w.text, w.at_⟩], l) else ([], w :: l)
  | [] => ([], [])
def headAt : List Word → Int
  | w :: _ => w.at_
  | [] => 0
/-- An alternative. -/
def readAlt (ws : List Word) : Rd Alt :=
  if isW 5 precKey (rdParts ws).2 = true then (match (rdParts ws).2.drop 1 with
    | s :: l => if s.kind = 1 ∨ s.kind = 2 then .ok ⟨(rdParts ws).1 ++ (codeGo l).1, rdSym s, headAt ws⟩ (codeGo l).2 else .bad (s :: l)
    | [] => .bad [])
  else .ok ⟨(rdParts ws).1, rdNone, headAt ws⟩ (rdParts ws).2
/-- The alternatives of a rule. -/
def readAlts : Nat → List Word → List Alt → Rd (List Alt)
  | 0, ws, _ => .bad ws
  | f + 1, ws, zs => match readAlt ws with
    | .bad r => .bad r
    | .ok a r => if isW 6 [124] r = true then readAlts f (r.drop 1) (zs ++ [a]) else .ok (zs ++ [a]) r
/-- A rule; the ; behind it, if there is one. -/
def readRule (f : Nat) : List Word → Rd Rule
  | w :: l =>
    if w.kind ≠ 1 then .bad (w :: l)
    else if isW 6 [58] l = true then (match readAlts f (l.drop 1) [] with
      | .bad r => .bad r
      | .ok zs r => .ok ⟨w.text, zs, w.at_⟩ (if isW 6 [59] r = true then r.drop 1 else r))
    else .bad l
  | [] => .bad []
/-- The rules. -/
def readRules : Nat → List Word → List Rule → Rd (List Rule)
  | 0, ws, _ => .bad ws
  | f + 1, ws, rs =>
    if rs ≠ [] ∧ isW 10 [] ws = true then .ok rs ws
    else match readRule (f + 1) ws with
      | .bad r => .bad r
      | .ok u r => readRules f r (rs ++ [u])
def noSource : Source := ⟨[], [], [], []⟩
/-- A source of words; the error, its place. -/
def readWs (ws : List Word) : Source × Int × Int :=
  match readDecls (ws.length + 1) ws none [] with
  | .bad r => (noSource, 2, headAt r)
  | .ok (p, ds) r => match readRules (ws.length + 1) r [] with
    | .bad r => (noSource, 2, headAt r)
    | .ok rs r => (⟨p.getD [], ds, rs, (r.head?.map (·.text)).getD []⟩, 0, 0)
/-- A source of a text. -/
def readTx (s : List UInt8) : Source × Int × Int :=
  if (words s).2.1 ≠ 0 then (noSource, (words s).2.1, ((words s).2.2 : Int)) else readWs (words s).1

/-! ### How much is left -/
theorem symsGo_le (k : Int) : ∀ (n : Nat) (l : List Word), l.length ≤ n → (rdSyms k l).2.length ≤ l.length ∧ (rdSyms k l).1.length + (rdSyms k l).2.length ≤ l.length
  | _, [], _ => by simp [rdSyms]
  | _, [w], _ => by
    unfold rdSyms
    split <;> simp
  | 0, w :: n :: l, h => by simp at h
  | f + 1, w :: n :: l, h => by
    unfold rdSyms
    split
    · split
      · have := symsGo_le k f l (by simp at h ⊢; omega)
        simp only [List.length_cons]
        omega
      · have := symsGo_le k f (n :: l) (by simp at h ⊢; omega)
        simp only [List.length_cons] at this ⊢
        omega
    · simp
theorem tagGo_le (l : List Word) : (tagGo l).2.length ≤ l.length := by
  unfold tagGo
  split
  · split <;> simp
  · simp
theorem readDecl_le {k at_ : Int} {ws : List Word} {d : Decl} {r : List Word} (h : readDecl k at_ ws = .ok d r) : r.length ≤ ws.length ∧ d.syms.length ≤ ws.length ∧ d.kind = k ∧ d.at_ = at_ := by
  unfold readDecl at h
  split at h
  · rename_i hk
    subst hk
    split at h
    · split at h
      · cases h
        exact ⟨by simp, by simp, rfl, rfl⟩
      · cases h
    · cases h
  · split at h
    · cases h
    · split at h
      · cases h
      · cases h
        have h1 := symsGo_le k _ (tagGo ws).2 (Nat.le_refl _)
        have h2 := tagGo_le ws
        exact ⟨by omega, by simp only; omega, rfl, rfl⟩
theorem partsGo_le : ∀ (l : List Word), (rdParts l).1.length + (rdParts l).2.length ≤ l.length
  | [] => by simp [rdParts]
  | w :: l => by
    have := partsGo_le l
    unfold rdParts
    split
    · simp only [List.length_cons]; omega
    · split
      · simp only [List.length_cons]; omega
      · simp
theorem codeGo_le (l : List Word) : (codeGo l).1.length + (codeGo l).2.length ≤ l.length := by
  unfold codeGo
  split
  · split
    · simp only [List.length_cons, List.length_nil]; omega
    · simp
  · simp
theorem readAlt_le {ws : List Word} {a : Alt} {r : List Word} (h : readAlt ws = .ok a r) : r.length + a.parts.length ≤ ws.length := by
  have h1 := partsGo_le ws
  unfold readAlt at h
  split at h
  · split at h
    · rename_i s l he
      have h2 : ((rdParts ws).2.drop 1).length = (s :: l).length := by rw [he]
      have h3 := codeGo_le l
      rw [List.length_drop, List.length_cons] at h2
      split at h
      · cases h
        simp only [List.length_append]
        omega
      · cases h
    · cases h
  · cases h
    simp only
    omega
theorem readAlts_le : ∀ (f : Nat) (ws : List Word) (zs : List Alt) {bs : List Alt} {r : List Word}, readAlts f ws zs = .ok bs r → r.length ≤ ws.length
  | 0, _, _, _, _, h => by cases h
  | f + 1, ws, zs, bs, r, h => by
    unfold readAlts at h
    split at h
    · cases h
    · rename_i a q he
      have h1 := readAlt_le he
      split at h
      · have h2 := readAlts_le f _ _ h
        rw [List.length_drop] at h2
        omega
      · cases h
        omega
theorem isW_ne {k : Int} {t : List UInt8} {l : List Word} (h : isW k t l = true) : 1 ≤ l.length := by
  cases l with
  | nil => cases h
  | cons w l => simp
end Sp
end Go.Proofs.YtphdfbmmjkccgaaDoor

namespace Go.Proofs.YtphdfbmmjkccgaaDoor
namespace Sp
open Go.Lib (index indexByte hasPrefix)

/-- A word is no longer than the text. -/
theorem word_le (r : List UInt8) : (word r).2.2 ≤ r.length := by
  cases r with
  | nil => exact Nat.le_refl _
  | cons c t =>
    have h0 : (noWord : Int × List UInt8 × Nat).2.2 ≤ (c :: t).length := Nat.zero_le _
    rw [word_cons]
    split
    · split
      · exact nameLen_le true (c :: t)
      · exact h0
    split
    · split
      · have h1 := digits_le (c :: t)
        show number (c :: t) ≤ _
        unfold number
        split
        · omega
        · split <;> omega
      · exact h0
    split
    · cases hc : charTake (c :: t) with
      | none => exact h0
      | some p =>
        obtain ⟨b, n⟩ := p
        exact (charTake_le _ _ _ hc).1
    split
    · split
      · rename_i h
        obtain ⟨_, h⟩ := h
        have h1 := nameLen_le true t
        have h2 : (t.drop (nameLen true t)).length ≠ 0 := by
          intro e
          rw [List.eq_nil_of_length_eq_zero e] at h
          simp [hasPrefix, List.isPrefixOf] at h
        simp at h2 ⊢
        omega
      · exact h0
    split
    · unfold percent
      split
      · rename_i h
        have := List.IsPrefix.length_le (List.isPrefixOf_iff_prefix.1 h)
        exact this
      · split
        · rename_i h
          have h2 := List.IsPrefix.length_le (List.isPrefixOf_iff_prefix.1 h)
          simp only [List.length_cons, List.length_nil] at h2
          cases hu : upto ((c :: t).drop 2) [37, 125] with
          | none => exact h0
          | some k =>
            have := upto_le _ _ _ hu
            simp at this ⊢
            omega
        · split
          · have := alphas_le ((c :: t).drop 1)
            simp at this ⊢
            omega
          · exact h0
    split
    · simp
    split
    · cases he : endLen (c :: t) with
      | none => exact h0
      | some n =>
        show n ≤ _
        have e : endLen (c :: t) = if ((c.toNat : Int) == 123) = true then endGo ((c :: t).length + 1) 0 (c :: t) else none := rfl
        rw [e] at he
        by_cases h : ((c.toNat : Int) == 123) = true
        · rw [if_pos h] at he
          exact endGo_le _ _ _ _ he
        · rw [if_neg h] at he
          cases he
    · exact h0
end Sp
end Go.Proofs.YtphdfbmmjkccgaaDoor

namespace Go.Proofs.YtphdfbmmjkccgaaDoor
namespace Sp
open Go.Lib (index indexByte hasPrefix)

theorem wordsGo_len : ∀ (f m p : Nat) (r : List UInt8) (ws : List Word), wordsGo f m p r = .ok ws → ws.length ≤ r.length + 1
  | 0, _, _, _, _, h => by simp [wordsGo] at h
  | f + 1, m, p, r, ws, h => by
    unfold wordsGo at h
    have hs := skip_len r
    split at h
    · cases h; simp
    · split at h
      · cases h
      · rename_i hn
        have h0 : (word (r.drop (skip r).1)).2.2 ≠ 0 := fun e => hn (.inr e)
        have hl := word_le (r.drop (skip r).1)
        generalize (if (word (r.drop (skip r).1)).1 = 7 then m + 1 else m) = m' at h
        split at h
        · cases h; simp
        · cases hw : wordsGo f m' (p + (skip r).1 + (word (r.drop (skip r).1)).2.2) ((r.drop (skip r).1).drop (word (r.drop (skip r).1)).2.2) with
          | error e => rw [hw] at h; cases h
          | ok vs =>
            rw [hw] at h
            cases h
            have := wordsGo_len f _ _ _ _ hw
            simp at this hl ⊢
            omega
theorem words_len (l : List UInt8) : (words l).1.length ≤ l.length + 1 := by
  unfold words
  split
  · simp
  · cases hw : wordsGo (l.length + 1) 0 0 l with
    | error e => simp [wordsRes]
    | ok ws => exact wordsGo_len _ _ _ _ _ hw
end Sp
end Go.Proofs.YtphdfbmmjkccgaaDoor

namespace Go.Proofs.YtphdfbmmjkccgaaDoor
namespace Sp
open Go.Lib (index indexByte hasPrefix)

/-- What a word's text is like. -/
def GoodW (w : Word) : Prop :=
  (w.kind = 1 → isName w.text = true) ∧ (w.kind = 2 → quotable w.text = true) ∧
  (w.kind = 3 → (∀ c ∈ w.text, digit c = true) ∧ w.text.length ≤ 5 ∧ w.text ≠ [] ∧ num w.text ≤ 50000 ∧ w.text.head? ≠ some 48) ∧
  (w.kind = 4 → isName w.text = true) ∧ (w.kind = 8 → w.text ≠ [] ∧ endAt w.text 0 = (w.text.length : Int))
theorem isName_take {l : List UInt8} (h0 : nameLen true l ≠ 0) (h : nameLen true l ≤ 20) : isName (l.take (nameLen true l)) = true := by
  have hl := nameLen_le true l
  have e : (l.take (nameLen true l)).length = nameLen true l := by rw [List.length_take]; omega
  have h1 := nameLen_app true (l.take (nameLen true l)) (l.drop (nameLen true l)) (by rw [List.take_append_drop, e])
  unfold isName
  rw [e] at h1
  rw [e, h1.1]
  have hn : (l.take (nameLen true l)).isEmpty = false := by
    cases hh : l.take (nameLen true l) with
    | nil => rw [hh] at e; simp at e; omega
    | cons => rfl
  simp [hn, h]
theorem endLen_head {c : UInt8} {t : List UInt8} {n : Nat} (h : endLen (c :: t) = some n) : 1 ≤ n ∧ n ≤ (c :: t).length := by
  have e : endLen (c :: t) = if ((c.toNat : Int) == 123) = true then endGo ((c :: t).length + 1) 0 (c :: t) else none := rfl
  rw [e] at h
  split at h
  · exact ⟨endGo_pos _ _ _ _ h, endGo_le _ _ _ _ h⟩
  · cases h
theorem endAt_take {c : UInt8} {t : List UInt8} {n : Nat} (h : endLen (c :: t) = some n) : (c :: t).take n ≠ [] ∧ endAt ((c :: t).take n) 0 = (((c :: t).take n).length : Int) := by
  obtain ⟨h1, h2⟩ := endLen_head h
  have e : ((c :: t).take n).length = n := by rw [List.length_take]; omega
  have hne : (c :: t).take n ≠ [] := fun e2 => by rw [e2] at e; simp at e; omega
  have h3 := endLen_stable ((c :: t).drop n) [] ((c :: t).take n) hne (by rw [List.take_append_drop, e]; exact h)
  rw [List.append_nil, e] at h3
  refine ⟨hne, ?_⟩
  unfold endAt
  rw [e, if_pos (by omega)]
  simp only [Int.toNat_zero, List.drop_zero, h3, place]
  omega
/-- A word's kind and text. -/
theorem word_good (r : List UInt8) (h : (word r).2.2 ≠ 0) : 1 ≤ (word r).1 ∧ (word r).1 ≤ 9 ∧ (word r).2.1.length ≤ (word r).2.2 ∧ ∀ a, GoodW ⟨(word r).1, (word r).2.1, a⟩ := by
  cases r with
  | nil => exact absurd rfl h
  | cons c t =>
    have h0 : ¬ (noWord : Int × List UInt8 × Nat).2.2 ≠ 0 := fun e => e rfl
    rw [word_cons] at h ⊢
    split at h
    · rename_i hl
      rw [if_pos hl]
      split at h
      · rename_i hn
        rw [if_pos hn]
        refine ⟨(show (_:Int) ≤ _ from by simp only; omega), (show (_:Int) ≤ _ from by simp only; omega), by simp only [List.length_take]; omega, fun a => ⟨fun _ => isName_take h hn, by simp, by simp, by simp, by simp⟩⟩
      · exact absurd h h0
    rename_i hl
    rw [if_neg hl]
    split at h
    · rename_i hd
      rw [if_pos hd]
      split at h
      · rename_i hn
        rw [if_pos hn]
        have hnum : number (c :: t) ≤ 5 ∧ number (c :: t) = digits (c :: t) ∧ num ((c :: t).take (digits (c :: t))) ≤ 50000 ∧ (c :: t).head? ≠ some 48 := by
          unfold number at hn ⊢
          split at hn
          · omega
          · rename_i h5
            rw [if_neg h5]
            split at hn
            · omega
            · rename_i h6
              rw [if_neg h6]
              exact ⟨by omega, rfl, by omega, fun e => h5 (.inr (.inl e))⟩
        obtain ⟨n1, n2, n3, n4⟩ := hnum
        have hle := digits_le (c :: t)
        rw [n2] at n1 hn ⊢
        have e : ((c :: t).take (digits (c :: t))).length = digits (c :: t) := by rw [List.length_take]; omega
        refine ⟨(show (_:Int) ≤ _ from by simp only; omega), (show (_:Int) ≤ _ from by simp only; omega), by simp only [e]; omega, fun a => ⟨by simp, by simp, fun _ => ⟨(digits_app2 _ ((c :: t).drop (digits (c :: t))) (by rw [List.take_append_drop, e])).1, by simp only [e]; omega, fun e2 => by simp only at e2; rw [e2] at e; simp at e; omega, n3, ?_⟩, by simp, by simp⟩⟩
        simp only [List.head?_take]
        rw [if_neg (by omega)]
        exact n4
      · exact absurd h h0
    rename_i hd
    rw [if_neg hd]
    split at h
    · rename_i hq
      rw [if_pos hq]
      cases hc : charTake (c :: t) with
      | none => rw [hc] at h; exact absurd h h0
      | some p =>
        obtain ⟨b, n⟩ := p
        obtain ⟨q1, q2, q3⟩ := charTake_some _ _ _ hc
        have := (charTake_le _ _ _ hc).2
        refine ⟨(show (_:Int) ≤ _ from by simp only; omega), (show (_:Int) ≤ _ from by simp only; omega), by simp only [List.length_singleton]; omega, fun a => ⟨by simp, fun _ => ?_, by simp, by simp, by simp⟩⟩
        show (!(quoteText b).isEmpty) = true
        cases hh : quoteText b with
        | nil => exact absurd hh q1
        | cons => rfl
    rename_i hq
    rw [if_neg hq]
    split at h
    · rename_i ht
      rw [if_pos ht]
      split at h
      · rename_i hn
        rw [if_pos hn]
        refine ⟨(show (_:Int) ≤ _ from by simp only; omega), (show (_:Int) ≤ _ from by simp only; omega), by simp only [List.length_take]; omega, fun a => ⟨by simp, by simp, by simp, fun _ => hn.1, by simp⟩⟩
      · exact absurd h h0
    rename_i ht
    rw [if_neg ht]
    split at h
    · rename_i hp
      rw [if_pos hp]
      unfold percent at h ⊢
      split at h
      · rename_i h1
        rw [if_pos h1]
        exact ⟨(show (_:Int) ≤ _ from by simp only; omega), (show (_:Int) ≤ _ from by simp only; omega), by simp, fun a => ⟨by simp, by simp, by simp, by simp, by simp⟩⟩
      · rename_i h1
        rw [if_neg h1]
        split at h
        · rename_i h2
          rw [if_pos h2]
          cases hu : upto ((c :: t).drop 2) [37, 125] with
          | none => rw [hu] at h; exact absurd h h0
          | some k => exact ⟨(show (_:Int) ≤ _ from by simp only; omega), (show (_:Int) ≤ _ from by simp only; omega), by simp only [List.length_take]; omega, fun a => ⟨by simp, by simp, by simp, by simp, by simp⟩⟩
        · rename_i h2
          rw [if_neg h2]
          split at h
          · rename_i h3
            rw [if_pos h3]
            exact ⟨(show (_:Int) ≤ _ from by simp only; omega), (show (_:Int) ≤ _ from by simp only; omega), by simp only [List.length_take]; omega, fun a => ⟨by simp, by simp, by simp, by simp, by simp⟩⟩
          · exact absurd h h0
    rename_i hp
    rw [if_neg hp]
    split at h
    · rename_i hs
      rw [if_pos hs]
      exact ⟨(show (_:Int) ≤ _ from by simp only; omega), (show (_:Int) ≤ _ from by simp only; omega), by simp, fun a => ⟨by simp, by simp, by simp, by simp, by simp⟩⟩
    rename_i hs
    rw [if_neg hs]
    split at h
    · rename_i hb
      rw [if_pos hb]
      cases he : endLen (c :: t) with
      | none => rw [he] at h; exact absurd h h0
      | some n =>
        exact ⟨(show (_:Int) ≤ _ from by simp only; omega), (show (_:Int) ≤ _ from by simp only; omega), by simp only [List.length_take]; omega, fun a => ⟨by simp, by simp, by simp, by simp, fun _ => endAt_take he⟩⟩
    · exact absurd h h0
/-- The words of a text: the last one alone is the end. -/
def GoodWs (n : Nat) (ws : List Word) : Prop := ∃ l e, ws = l ++ [e] ∧ e.kind = 10 ∧ (∀ w ∈ l, (1 ≤ w.kind ∧ w.kind ≤ 9) ∧ GoodW w) ∧ ∀ w ∈ ws, w.text.length ≤ n ∧ 0 ≤ w.at_ ∧ w.at_ ≤ (n : Int)
theorem wordsGo_good : ∀ (f m p : Nat) (r : List UInt8) (ws : List Word), wordsGo f m p r = .ok ws → GoodWs (p + r.length) ws
  | 0, _, _, _, _, h => by simp [wordsGo] at h
  | f + 1, m, p, r, ws, h => by
    unfold wordsGo at h
    have hs := skip_len r
    split at h
    · cases h
      refine ⟨[], _, rfl, rfl, by simp, fun w hw => ?_⟩
      rw [List.mem_singleton] at hw
      subst hw
      exact ⟨by simp, by simp only; omega, by simp only; omega⟩
    · split at h
      · cases h
      · rename_i hn
        have h0 : (word (r.drop (skip r).1)).2.2 ≠ 0 := fun e => hn (.inr e)
        have hl := word_le (r.drop (skip r).1)
        obtain ⟨g1, g2, g3, g4⟩ := word_good _ h0
        rw [List.length_drop] at hl
        generalize (if (word (r.drop (skip r).1)).1 = 7 then m + 1 else m) = m' at h
        split at h
        · cases h
          refine ⟨[], _, rfl, rfl, by simp, fun w hw => ?_⟩
          rw [List.mem_singleton] at hw
          subst hw
          exact ⟨by simp only [List.length_drop]; omega, by simp only; omega, by simp only; omega⟩
        · cases hw : wordsGo f m' (p + (skip r).1 + (word (r.drop (skip r).1)).2.2) ((r.drop (skip r).1).drop (word (r.drop (skip r).1)).2.2) with
          | error e => rw [hw] at h; cases h
          | ok vs =>
            rw [hw] at h
            cases h
            obtain ⟨l, e, rfl, he, hg, hb⟩ := wordsGo_good f _ _ _ _ hw
            refine ⟨_ :: l, e, rfl, he, fun w hm => ?_, fun w hm => ?_⟩
            · rcases List.mem_cons.1 hm with rfl | hm
              · exact ⟨⟨g1, g2⟩, g4 _⟩
              · exact hg w hm
            · rcases List.mem_cons.1 hm with rfl | hm
              · exact ⟨by simp only; omega, by simp only; omega, by simp only; omega⟩
              · have := hb w hm
                simp only [List.length_drop] at this
                omega
theorem words_good {l : List UInt8} (h : (words l).2.1 = 0) : GoodWs 4000 (words l).1 := by
  unfold words at h ⊢
  split at h
  · cases h
  · rename_i hl
    rw [if_neg hl]
    cases hw : wordsGo (l.length + 1) 0 0 l with
    | error e => rw [hw] at h; cases h
    | ok ws =>
      obtain ⟨a, e, h1, h2, h3, h4⟩ := wordsGo_good _ _ _ _ _ hw
      exact ⟨a, e, h1, h2, h3, fun w hm => by have := h4 w hm; omega⟩
end Sp
end Go.Proofs.YtphdfbmmjkccgaaDoor

namespace Go.Proofs.YtphdfbmmjkccgaaDoor
namespace Sp

/-- The last word alone is the end. -/
def WEnd (l : List Word) : Prop := ∃ a e, l = a ++ [e] ∧ e.kind = 10 ∧ ∀ w ∈ a, w.kind ≠ 10
theorem WEnd.ne {l : List Word} (h : WEnd l) : l ≠ [] := by
  obtain ⟨a, e, rfl, _⟩ := h
  simp
theorem WEnd.cons {l : List Word} (h : WEnd l) : ∃ w t, l = w :: t := by
  cases l with
  | nil => exact absurd rfl h.ne
  | cons w t => exact ⟨w, t, rfl⟩
theorem WEnd.next {w : Word} {l : List Word} (h : WEnd (w :: l)) (hk : w.kind ≠ 10) : WEnd l := by
  obtain ⟨a, e, h1, h2, h3⟩ := h
  cases a with
  | nil => rw [List.nil_append, List.cons.injEq] at h1; rw [h1.1] at hk; exact absurd h2 hk
  | cons b a =>
    rw [List.cons_append, List.cons.injEq] at h1
    exact ⟨a, e, h1.2, h2, fun x hx => h3 x (by simp [hx])⟩
theorem GoodWs.ends {n : Nat} {l : List Word} (h : GoodWs n l) : WEnd l := by
  obtain ⟨a, e, h1, h2, h3, _⟩ := h
  exact ⟨a, e, h1, h2, fun w hw => by have := (h3 w hw).1; omega⟩
/-- How a reader stands: the place, the words that are left, what it has made. -/
structure RdS where
  i : Nat
  ws : List Word
  bad : Bool
  pro : List UInt8
  decls : List Decl
  rules : List Rule
  set : Bool
/-- Behind the next word. -/
def RdS.next (s : RdS) : RdS := { s with i := s.i + 1, ws := s.ws.drop 1 }
def Rd.rest {α : Type} : Rd α → List Word
  | .ok _ r => r
  | .bad r => r
def Rd.bd {α : Type} : Rd α → Bool
  | .ok _ _ => false
  | .bad _ => true
/-- It is a, if it is anything. -/
def Rd.is {α : Type} (R : Rd α) (a : α) : Prop := match R with
  | .ok b _ => a = b
  | .bad _ => True
/-! ### Parts -/
def partHere (l : List Word) : Bool := isW 8 [] l || (isSymW l && !namedW l)
def partOf (w : Word) : Part := if w.kind = 8 then ⟨rdNone, w.text, w.at_⟩ else ⟨rdSym w, [], w.at_⟩
theorem isW_any (k : Int) (w : Word) (l : List Word) : isW k [] (w :: l) = (w.kind == k) := by simp [isW]
theorem parts_step (w : Word) (l : List Word) (h : partHere (w :: l) = true) : rdParts (w :: l) = (partOf w :: (rdParts l).1, (rdParts l).2) := by
  unfold partHere isSymW at h
  rw [isW_any, isW_any, isW_any] at h
  conv => lhs; unfold rdParts
  unfold partOf
  by_cases h8 : w.kind = 8
  · rw [if_pos h8, if_pos h8]
  · have e8 : (w.kind == 8) = false := by rw [beq_eq_false_iff_ne]; exact h8
    rw [e8, Bool.false_or, Bool.and_eq_true, Bool.or_eq_true, beq_iff_eq, beq_iff_eq, Bool.not_eq_true'] at h
    rw [if_neg h8, if_neg h8, if_pos ⟨h.1, h.2⟩]
theorem parts_stop (l : List Word) (h : partHere l = false) : rdParts l = ([], l) := by
  cases l with
  | nil => rfl
  | cons w l =>
    unfold partHere isSymW at h
    rw [isW_any, isW_any, isW_any, Bool.or_eq_false_iff, beq_eq_false_iff_ne] at h
    unfold rdParts
    rw [if_neg h.1, if_neg]
    rintro ⟨h1, h2⟩
    have := h.2
    rw [h2] at this
    rcases h1 with h1 | h1 <;> simp [h1] at this
theorem partHere_ne {w : Word} {l : List Word} (h : partHere (w :: l) = true) : w.kind ≠ 10 := by
  intro e
  unfold partHere isSymW at h
  rw [isW_any, isW_any, isW_any, e] at h
  simp at h
theorem isW_ten {k : Int} {t : List UInt8} {w : Word} {l : List Word} (h : isW k t (w :: l) = true) (hk : k ≠ 10) : w.kind ≠ 10 := by
  intro e
  have h : ((w.kind == k) && (t.isEmpty || (w.text == t))) = true := h
  rw [e, Bool.and_eq_true, beq_iff_eq] at h
  exact hk h.1.symm
theorem isW_kind {k : Int} {t : List UInt8} {w : Word} {l : List Word} (h : isW k t (w :: l) = true) : w.kind = k := by
  have h : ((w.kind == k) && (t.isEmpty || (w.text == t))) = true := h
  rw [Bool.and_eq_true, beq_iff_eq] at h
  exact h.1
theorem readAlts_step (f : Nat) (ws : List Word) (zs : List Alt) : readAlts (f + 1) ws zs = match readAlt ws with
    | .bad r => .bad r
    | .ok a r => if isW 6 [124] r = true then readAlts f (r.drop 1) (zs ++ [a]) else .ok (zs ++ [a]) r := rfl
/-! ### A rule as the code takes it -/
/-- A rule; the ; behind it, or a name, or the end. -/
def readRuleC (f : Nat) : List Word → Rd Rule
  | w :: l =>
    if w.kind ≠ 1 then .bad (w :: l)
    else if isW 6 [58] l = true then (match readAlts f (l.drop 1) [] with
      | .bad r => .bad r
      | .ok zs r => if isW 6 [59] r = true then .ok ⟨w.text, zs, w.at_⟩ (r.drop 1) else if (isW 1 [] r || isW 10 [] r) = true then .ok ⟨w.text, zs, w.at_⟩ r else .bad r)
    else .bad l
  | [] => .bad []
def readRulesC : Nat → List Word → List Rule → Rd (List Rule)
  | 0, ws, _ => .bad ws
  | f + 1, ws, rs =>
    if rs ≠ [] ∧ isW 10 [] ws = true then .ok rs ws
    else match readRuleC (f + 1) ws with
      | .bad r => .bad r
      | .ok u r => readRulesC f r (rs ++ [u])
theorem rdRule_cons (f : Nat) (w : Word) (l : List Word) : readRule f (w :: l) = if w.kind ≠ 1 then .bad (w :: l)
    else if isW 6 [58] l = true then (match readAlts f (l.drop 1) [] with
      | .bad r => .bad r
      | .ok zs r => .ok ⟨w.text, zs, w.at_⟩ (if isW 6 [59] r = true then r.drop 1 else r))
    else .bad l := rfl
theorem readRuleC_cons (f : Nat) (w : Word) (l : List Word) : readRuleC f (w :: l) = if w.kind ≠ 1 then .bad (w :: l)
    else if isW 6 [58] l = true then (match readAlts f (l.drop 1) [] with
      | .bad r => .bad r
      | .ok zs r => if isW 6 [59] r = true then .ok ⟨w.text, zs, w.at_⟩ (r.drop 1) else if (isW 1 [] r || isW 10 [] r) = true then .ok ⟨w.text, zs, w.at_⟩ r else .bad r)
    else .bad l := rfl
theorem rules_stop (f : Nat) (r : List Word) (rs : List Rule) (h : (isW 1 [] r || isW 10 [] r) = false) : readRules f r rs = .bad r := by
  rw [Bool.or_eq_false_iff] at h
  cases f with
  | zero => rfl
  | succ f =>
    unfold readRules
    rw [if_neg (by rw [h.2]; simp)]
    cases r with
    | nil => simp [readRule]
    | cons w l =>
      have := h.1
      rw [isW_any, beq_eq_false_iff_ne] at this
      have e : readRule (f + 1) (w :: l) = .bad (w :: l) := by rw [rdRule_cons]; rw [if_pos this]
      rw [e]
theorem readRulesC_eq : ∀ (f : Nat) (ws : List Word) (rs : List Rule), readRulesC f ws rs = readRules f ws rs
  | 0, _, _ => rfl
  | f + 1, ws, rs => by
    unfold readRulesC readRules
    split
    · rfl
    · cases ws with
      | nil => rfl
      | cons w l =>
        by_cases h1 : w.kind = 1
        · by_cases h2 : isW 6 [58] l = true
          · have e1 : readRuleC (f + 1) (w :: l) = (match readAlts (f + 1) (l.drop 1) [] with
              | .bad r => .bad r
              | .ok zs r => if isW 6 [59] r = true then .ok ⟨w.text, zs, w.at_⟩ (r.drop 1) else if (isW 1 [] r || isW 10 [] r) = true then .ok ⟨w.text, zs, w.at_⟩ r else .bad r) := by
              rw [readRuleC_cons]; rw [if_neg (by simpa using h1), if_pos h2]
            have e2 : readRule (f + 1) (w :: l) = (match readAlts (f + 1) (l.drop 1) [] with
              | .bad r => .bad r
              | .ok zs r => .ok ⟨w.text, zs, w.at_⟩ (if isW 6 [59] r = true then r.drop 1 else r)) := by
              rw [rdRule_cons]; rw [if_neg (by simpa using h1), if_pos h2]
            rw [e1, e2]
            cases readAlts (f + 1) (l.drop 1) [] with
            | bad r => rfl
            | ok zs r =>
              dsimp only
              by_cases h3 : isW 6 [59] r = true
              · rw [if_pos h3, if_pos h3]
                exact readRulesC_eq f _ _
              · rw [if_neg h3, if_neg h3]
                by_cases h4 : (isW 1 [] r || isW 10 [] r) = true
                · rw [if_pos h4]
                  exact readRulesC_eq f _ _
                · rw [if_neg h4]
                  exact (rules_stop _ _ _ (by simpa using h4)).symm
          · have e1 : readRuleC (f + 1) (w :: l) = .bad l := by rw [readRuleC_cons]; rw [if_neg (by simpa using h1), if_neg h2]
            have e2 : readRule (f + 1) (w :: l) = .bad l := by rw [rdRule_cons]; rw [if_neg (by simpa using h1), if_neg h2]
            rw [e1, e2]
        · have e1 : readRuleC (f + 1) (w :: l) = .bad (w :: l) := by rw [readRuleC_cons]; rw [if_pos h1]
          have e2 : readRule (f + 1) (w :: l) = .bad (w :: l) := by rw [rdRule_cons]; rw [if_pos h1]
          rw [e1, e2]
theorem codeGo_cons (w : Word) (l : List Word) : codeGo (w :: l) = if w.kind = 8 then ([⟨rdNone, w.text, w.at_⟩], l) else ([], w :: l) := rfl
theorem readRuleC_lt {f : Nat} {ws : List Word} {u : Rule} {r : List Word} (h : readRuleC f ws = .ok u r) : r.length + 1 ≤ ws.length := by
  cases ws with
  | nil => cases h
  | cons w l =>
    rw [readRuleC_cons] at h
    split at h
    · cases h
    · split at h
      · rename_i hc
        have h0 := isW_ne hc
        cases he : readAlts f (l.drop 1) [] with
        | bad q => rw [he] at h; cases h
        | ok zs q =>
          rw [he] at h
          have h1 := readAlts_le _ _ _ he
          rw [List.length_drop] at h1
          rw [List.length_cons]
          simp only at h
          split at h
          · cases h
            rw [List.length_drop]
            omega
          · split at h
            · cases h
              omega
            · cases h
      · cases h
/-! ### The symbols of a declaration -/
def symHere (k : Int) (l : List Word) : Bool := isW 1 [] l || (isW 2 [] l && (k != 5))
theorem syms_stop (k : Int) (l : List Word) (h : symHere k l = false) : rdSyms k l = ([], l) := by
  unfold symHere at h
  have hn : ∀ w t, l = w :: t → ¬ (w.kind = 1 ∨ w.kind = 2 ∧ k ≠ 5) := by
    rintro w t rfl
    rw [isW_any, isW_any, Bool.or_eq_false_iff, beq_eq_false_iff_ne, Bool.and_eq_false_iff, beq_eq_false_iff_ne] at h
    rintro (h1 | ⟨h1, h2⟩)
    · exact h.1 h1
    · rcases h.2 with h3 | h3
      · exact h3 h1
      · simp [h2] at h3
  unfold rdSyms
  split
  · rfl
  · rw [if_neg (hn _ _ rfl)]
  · rw [if_neg (hn _ _ rfl)]
theorem syms_num (k : Int) (w n : Word) (l : List Word) (h : symHere k (w :: n :: l) = true) (hk : k = 1 ∧ w.kind ≠ 2 ∧ n.kind = 3) :
    rdSyms k (w :: n :: l) = ({ rdSym w with num := num n.text } :: (rdSyms k l).1, (rdSyms k l).2) := by
  unfold symHere at h
  rw [isW_any, isW_any, Bool.or_eq_true, Bool.and_eq_true, beq_iff_eq, beq_iff_eq, bne_iff_ne] at h
  conv => lhs; unfold rdSyms
  rw [if_pos h, if_pos ⟨⟨hk.1, hk.2.1⟩, hk.2.2⟩]
theorem syms_plain (k : Int) (w n : Word) (l : List Word) (h : symHere k (w :: n :: l) = true) (hk : ¬ (k = 1 ∧ w.kind ≠ 2 ∧ n.kind = 3)) :
    rdSyms k (w :: n :: l) = (rdSym w :: (rdSyms k (n :: l)).1, (rdSyms k (n :: l)).2) := by
  unfold symHere at h
  rw [isW_any, isW_any, Bool.or_eq_true, Bool.and_eq_true, beq_iff_eq, beq_iff_eq, bne_iff_ne] at h
  conv => lhs; unfold rdSyms
  rw [if_pos h, if_neg (fun h2 => hk ⟨h2.1.1, h2.1.2, h2.2⟩)]
theorem syms_ne (k : Int) (l : List Word) (h : symHere k l = true) : (rdSyms k l).1 ≠ [] := by
  cases l with
  | nil => simp [symHere, isW] at h
  | cons w t =>
    have hc : w.kind = 1 ∨ w.kind = 2 ∧ k ≠ 5 := by
      unfold symHere at h
      rw [isW_any, isW_any, Bool.or_eq_true, Bool.and_eq_true, beq_iff_eq, beq_iff_eq, bne_iff_ne] at h
      exact h
    cases t with
    | nil => unfold rdSyms; rw [if_pos hc]; simp
    | cons n t =>
      unfold rdSyms
      rw [if_pos hc]
      split <;> simp
theorem tagGo_cons (w : Word) (l : List Word) : tagGo (w :: l) = if w.kind = 4 then (w.text, l) else ([], w :: l) := rfl
theorem symHere_ne {k : Int} {w : Word} {l : List Word} (h : symHere k (w :: l) = true) : w.kind ≠ 10 := by
  intro e
  unfold symHere at h
  rw [isW_any, isW_any, e] at h
  simp at h
end Sp
end Go.Proofs.YtphdfbmmjkccgaaDoor
