/- Plain functions: the document's grammar of a source (yuccaref9.Of), as a machine that goes on behind a fault; no program in sight. Plain: how great the document's maker grows. A drawn region walked by what stands, for any slots: wp_region_vals. The small functions of yuccalaw9. The wakes of yuccalaw9. Sources that the statements of layer 9 make: their box, their rows, as they grow. The document's maker (yuccaref9.maker) as it lies; its look-ups and its first fault. -/
import Derived.Test.YtphdfbmmjkccgaaDoorZ03
import Derived.Test.YtphdfbmmjkccgaaDoorZ06
namespace Go.Proofs.YtphdfbmmjkccgaaDoor
namespace Sp

/-- The state of the document's maker. -/
structure Rk where
  toks : List Tok
  given : List Bool
  types : List (List UInt8 × List UInt8)
  lefts : List (List UInt8)
  prods : List Prod
  fault : Fault
  level : Int
  inner : Nat
def okFault : Fault := ⟨0, 0, []⟩
def failF (f : Fault) (at_ : Int) (nm : List UInt8) : Fault := if f.err = 0 then ⟨3, at_, nm⟩ else f
def rfail (r : Rk) (at_ : Int) (nm : List UInt8) : Rk := { r with fault := failF r.fault at_ nm }
def rtokGo (nm : List UInt8) (lt : Bool) : List Tok → Nat → Option Nat
  | [], _ => none
  | t :: ts, i => if (t.name = nm ∧ t.lit = lt) ∧ i ≠ 2 then some i else rtokGo nm lt ts (i + 1)
/-- The place of a token. -/
def rtok (toks : List Tok) (nm : List UInt8) (lt : Bool) : Option Nat := rtokGo nm lt (toks.drop 1) 1
/-- The token that has a number. -/
def rowner (toks : List Tok) (n : Int) : Option Nat := findIx (fun t => t.num == n) (toks.drop 3) 3
def rput (r : Rk) (x : Sym) : Rk × Nat :=
  match rtok r.toks x.name x.lit with
  | some t => (r, t)
  | none =>
    let num : Int := if x.lit = true then byte0 x.name else 0
    let f := if x.lit = true ∧ (rowner r.toks num).isSome = true then failF r.fault x.at_ x.name else r.fault
    ({ r with toks := r.toks ++ [⟨x.name, x.lit, num, 0, 0, []⟩], given := r.given ++ [x.lit], fault := f }, r.toks.length)
def rmod (r : Rk) (k : Nat) (f : Tok → Tok) : Rk := { r with toks := r.toks.set k (f (r.toks.getD k noTok)) }
/-- A level is given. -/
def rlevel (r : Rk) (t : Nat) (d : Decl) (x : Sym) : Rk :=
  if d.kind ≠ 1 then
    let f := if 0 < (r.toks.getD t noTok).level then failF r.fault x.at_ x.name else r.fault
    { rmod r t (fun k => { k with level := r.level, assoc := d.kind - 1 }) with fault := f }
  else r
/-- A number is given. -/
def rnum (r : Rk) (t : Nat) (x : Sym) : Rk :=
  if 0 < x.num then
    let f := if (t = 1 ∨ r.given.getD t false = true) ∨ (rowner r.toks x.num).isSome = true then failF r.fault x.at_ x.name else r.fault
    { rmod r t (fun k => { k with num := x.num }) with fault := f, given := r.given.set t true }
  else r
/-- A tag is given. -/
def rtag (r : Rk) (t : Nat) (d : Decl) (x : Sym) : Rk :=
  if d.tag ≠ [] then
    let f := if (r.toks.getD t noTok).tag ≠ [] ∧ (r.toks.getD t noTok).tag ≠ d.tag then failF r.fault x.at_ x.name else r.fault
    { rmod r t (fun k => { k with tag := d.tag }) with fault := f }
  else r
def rdeclare (r : Rk) (d : Decl) (x : Sym) : Rk :=
  if d.kind = 5 then
    match typeOf r.types x.name with
    | none => { r with types := r.types ++ [(x.name, d.tag)] }
    | some t => if t ≠ d.tag then rfail r x.at_ x.name else r
  else
    let p := rput r x
    rtag (rnum (rlevel p.1 p.2 d x) p.2 x) p.2 d x
/-- A symbol of a declaration; the second: the start. -/
def rsym (r : Rk × List UInt8) (d : Decl) (x : Sym) : Rk × List UInt8 :=
  if d.kind ≠ 6 then (rdeclare r.1 d x, r.2)
  else (if r.2 ≠ [] then rfail r.1 x.at_ x.name else r.1, x.name)
def rsyms (d : Decl) : List Sym → Rk × List UInt8 → Rk × List UInt8
  | [], r => r
  | x :: l, r => rsyms d l (rsym r d x)
def rdecls : List Decl → Rk × List UInt8 → Rk × List UInt8
  | [], r => r
  | d :: l, r => rdecls l (rsyms d d.syms (if 2 ≤ d.kind ∧ d.kind ≤ 4 then { r.1 with level := r.1.level + 1 } else r.1, r.2))
/-- The place of a Left, from 0 on. -/
def rleft (lefts : List (List UInt8)) (nm : List UInt8) : Option Nat := findIx (fun l => l == nm) lefts 0
def rrule (r : Rk) (x : Rule) : Rk :=
  let r1 := if (rtok r.toks x.left false).isSome = true then rfail r x.at_ x.left else r
  if (rleft r1.lefts x.left).isNone = true then { r1 with lefts := r1.lefts ++ [x.left] } else r1
def rrules : List Rule → Rk → Rk
  | [], r => r
  | x :: l, r => rrules l (rrule r x)
def rnameSym (kind : Int) (r : Rk) (x : Sym) : Rk := if 5 ≤ kind ∧ (rleft r.lefts x.name).isNone = true then rfail r x.at_ x.name else r
def rnamesSyms (kind : Int) : List Sym → Rk → Rk
  | [], r => r
  | x :: l, r => rnamesSyms kind l (rnameSym kind r x)
def rnames : List Decl → Rk → Rk
  | [], r => r
  | d :: l, r => rnames l (rnamesSyms d.kind d.syms r)
def rsymbol (r : Rk) (x : Sym) : Rk × Int :=
  if x.lit = true then ((rput r x).1, ((rput r x).2 : Int))
  else match rleft r.lefts x.name with
    | some k => (r, 1000 + 1 + (k : Int))
    | none =>
      match rtok r.toks x.name x.lit with
      | none => (rfail r x.at_ x.name, 0)
      | some t => (r, (t : Int))
/-- Within an alternative: the production so far. -/
def raltGo (n : Nat) : Nat → List Part → Rk × Prod → Rk × Prod
  | _, [], r => r
  | i, w :: l, (r, p) =>
    if w.code = [] then
      let q := rsymbol r w.sym
      raltGo n (i + 1) l (q.1, { p with right := p.right ++ [q.2] })
    else if i + 1 = n then raltGo n (i + 1) l (r, { p with code := w.code, at_ := w.at_ })
    else
      let m : Int := (r.lefts.length : Int) + ((r.inner + 1 : Nat) : Int)
      raltGo n (i + 1) l ({ r with inner := r.inner + 1, prods := r.prods ++ [⟨m, [], -1, w.code, p.right, w.at_⟩] }, { p with right := p.right ++ [1000 + m] })
def rprecGo : List Int → Int → Int
  | [], c => c
  | x :: l, c => rprecGo l (if x < 1000 then x else c)
def leftNo (lefts : List (List UInt8)) (nm : List UInt8) : Int := match rleft lefts nm with
  | some k => (k : Int)
  | none => -1
def raltPrec (r : Rk) (a : Alt) (c : Int) : Rk × Int :=
  if a.prec.name = [] then (r, c)
  else if a.prec.lit = true ∨ (rleft r.lefts a.prec.name).isNone = true then rsymbol r a.prec
  else (rfail r a.prec.at_ a.prec.name, -1)
def ralt (r : Rk) (left : List UInt8) (a : Alt) : Rk :=
  let q := raltGo a.parts.length 0 a.parts (r, ⟨1 + leftNo r.lefts left, [], -1, [], [], a.at_⟩)
  let c := raltPrec q.1 a (rprecGo q.2.right q.2.prec)
  { c.1 with prods := c.1.prods ++ [{ q.2 with prec := c.2, args := q.2.right }] }
def ralts (left : List UInt8) : List Alt → Rk → Rk
  | [], r => r
  | a :: l, r => ralts left l (ralt r left a)
def rrulesAlts : List Rule → Rk → Rk
  | [], r => r
  | x :: l, r => rrulesAlts l (ralts x.left x.alts r)
def innerNons : Nat → List Non
  | 0 => []
  | n + 1 => innerNons n ++ [⟨64 :: Lib.itoa ((n + 1 : Nat) : Int), []⟩]
def rnons (r : Rk) : List Non := ⟨[36, 97, 99, 99, 101, 112, 116], []⟩ :: (r.lefts.map fun l => ⟨l, (typeOf r.types l).getD []⟩) ++ innerNons r.inner
def rnumbers (r : Rk) : List Tok := r.toks.take 3 ++ numGo 57346 (r.toks.drop 3) (r.given.drop 3)
def rgreat (r : Rk) : Bool := (decide (40 < r.toks.length) || decide (24 < r.lefts.length + 1 + r.inner) || decide (60 < r.prods.length)) || r.prods.any fun p => decide (8 < p.right.length)
def rk0 : Rk := ⟨mk0.toks, mk0.given, [], [], [], okFault, 0, 0⟩
/-- The state behind all rules. -/
def rmade (x : Source) : Rk :=
  let q := rdecls x.decls (rk0, [])
  let r := rnames x.decls (rrules x.rules q.1)
  let start := if q.2 = [] then (match x.rules with
    | [] => []
    | u :: _ => u.left) else q.2
  rrulesAlts x.rules { r with prods := [⟨0, [1000 + 1 + leftNo r.lefts start], -1, [], [], 0⟩] }
def refGram (x : Source) : Gram × Fault :=
  if may x = false then (noGram, ⟨1, 0, []⟩) else
    let r := rmade x
    if r.fault.err ≠ 0 then (noGram, r.fault)
    else if rgreat r = true then (noGram, ⟨4, 0, []⟩)
    else (⟨rnumbers r, rnons r, r.prods, x.pro, x.tail⟩, okFault)
end Sp
end Go.Proofs.YtphdfbmmjkccgaaDoor

namespace Go.Proofs.YtphdfbmmjkccgaaDoor
namespace Sp

/-- No list of the maker is longer than n. -/
def RB (n : Nat) (r : Rk) : Prop := (r.given.length = r.toks.length ∧ 3 ≤ r.toks.length) ∧ r.toks.length ≤ n ∧ r.types.length ≤ n ∧ r.lefts.length ≤ n ∧ r.prods.length ≤ n ∧ r.inner ≤ n ∧ 0 ≤ r.level ∧ r.level ≤ (n : Int)
theorem RB.mono {n k : Nat} {r : Rk} (h : RB n r) (hk : n ≤ k) : RB k r := by
  obtain ⟨h0, h1, h2, h3, h4, h5, h6, h7⟩ := h
  exact ⟨h0, by omega, by omega, by omega, by omega, by omega, by omega, by omega⟩
theorem RB.three {n : Nat} {r : Rk} (h : RB n r) : 3 ≤ r.toks.length := h.1.2
theorem RB.same {n : Nat} {r : Rk} (h : RB n r) : r.given.length = r.toks.length := h.1.1
theorem RB.toks {n : Nat} {r : Rk} (h : RB n r) : r.toks.length ≤ n := h.2.1
theorem RB.types {n : Nat} {r : Rk} (h : RB n r) : r.types.length ≤ n := h.2.2.1
theorem RB.lefts {n : Nat} {r : Rk} (h : RB n r) : r.lefts.length ≤ n := h.2.2.2.1
theorem RB.prods {n : Nat} {r : Rk} (h : RB n r) : r.prods.length ≤ n := h.2.2.2.2.1
theorem RB.inner {n : Nat} {r : Rk} (h : RB n r) : r.inner ≤ n := h.2.2.2.2.2.1
theorem RB.level {n : Nat} {r : Rk} (h : RB n r) : 0 ≤ r.level ∧ r.level ≤ (n : Int) := h.2.2.2.2.2.2
theorem RB.congr {n : Nat} {r r' : Rk} (h : RB n r) (e1 : r'.toks.length = r.toks.length) (e7 : r'.given.length = r.given.length) (e2 : r'.types = r.types) (e3 : r'.lefts = r.lefts) (e4 : r'.prods = r.prods) (e5 : r'.inner = r.inner) (e6 : r'.level = r.level) : RB n r' := by
  unfold RB at *
  rw [e7, e1, e2, e3, e4, e5, e6]
  exact h
theorem rfail_RB {n : Nat} {r : Rk} (at_ : Int) (nm : List UInt8) (h : RB n r) : RB n (rfail r at_ nm) := h.congr rfl rfl rfl rfl rfl rfl rfl
theorem rput_RB {n : Nat} {r : Rk} (x : Sym) (h : RB n r) : RB (n + 1) (rput r x).1 := by
  unfold rput
  obtain ⟨h0, h1, h2, h3, h4, h5, h6, h7⟩ := h
  split
  · exact ⟨h0, by simp only; omega, by simp only; omega, by simp only; omega, by simp only; omega, by simp only; omega, h6, by simp only; omega⟩
  · exact ⟨by simp only [List.length_append, List.length_singleton]; omega, by simp only [List.length_append, List.length_singleton]; omega, by simp only; omega, by simp only; omega, by simp only; omega, by simp only; omega, h6, by simp only; omega⟩
theorem rmod_RB {n : Nat} {r : Rk} (k : Nat) (f : Tok → Tok) (h : RB n r) : RB n (rmod r k f) := h.congr (by unfold rmod; simp only [List.length_set]) rfl rfl rfl rfl rfl rfl
theorem rlevel_RB {n : Nat} {r : Rk} (t : Nat) (d : Decl) (x : Sym) (h : RB n r) : RB n (rlevel r t d x) := by
  unfold rlevel
  split
  · have h2 := rmod_RB t (fun k => k) h
    obtain ⟨h0, h1, h3⟩ := h2
    exact ⟨by simpa [rmod] using h0, by simpa [rmod] using h1, by simpa [rmod] using h3⟩
  · exact h
theorem rnum_RB {n : Nat} {r : Rk} (t : Nat) (x : Sym) (h : RB n r) : RB n (rnum r t x) := by
  unfold rnum
  split
  · have h2 := rmod_RB t (fun k => k) h
    obtain ⟨h0, h1, h3⟩ := h2
    exact ⟨by simpa [rmod] using h0, by simpa [rmod] using h1, by simpa [rmod] using h3⟩
  · exact h
theorem rtag_RB {n : Nat} {r : Rk} (t : Nat) (d : Decl) (x : Sym) (h : RB n r) : RB n (rtag r t d x) := by
  unfold rtag
  split
  · have h2 := rmod_RB t (fun k => k) h
    obtain ⟨h0, h1, h3⟩ := h2
    exact ⟨by simpa [rmod] using h0, by simpa [rmod] using h1, by simpa [rmod] using h3⟩
  · exact h
theorem rdeclare_RB {n : Nat} {r : Rk} (d : Decl) (x : Sym) (h : RB n r) : RB (n + 1) (rdeclare r d x) := by
  unfold rdeclare
  split
  · split
    · obtain ⟨h0, h1, h2, h3, h4, h5, h6, h7⟩ := h
      exact ⟨h0, by simp only; omega, by simp only [List.length_append, List.length_singleton]; omega, by simp only; omega, by simp only; omega, by simp only; omega, h6, by simp only; omega⟩
    · split
      · exact (rfail_RB _ _ h).mono (by omega)
      · exact h.mono (by omega)
  · exact rtag_RB _ _ _ (rnum_RB _ _ (rlevel_RB _ _ _ (rput_RB x h)))
theorem rsymbol_RB {n : Nat} {r : Rk} (x : Sym) (h : RB n r) : RB (n + 1) (rsymbol r x).1 := by
  unfold rsymbol
  split
  · exact rput_RB x h
  · split
    · exact h.mono (by omega)
    · split
      · exact (rfail_RB _ _ h).mono (by omega)
      · exact h.mono (by omega)
theorem rrule_RB {n : Nat} {r : Rk} (x : Rule) (h : RB n r) : RB (n + 1) (rrule r x) := by
  have h1 : RB n (if (rtok r.toks x.left false).isSome = true then rfail r x.at_ x.left else r) := by
    split
    · exact rfail_RB _ _ h
    · exact h
  unfold rrule
  simp only
  generalize (if (rtok r.toks x.left false).isSome = true then rfail r x.at_ x.left else r) = r1 at *
  split
  · obtain ⟨h0, h1, h2, h3, h4, h5, h6, h7⟩ := h1
    exact ⟨h0, by simp only; omega, by simp only; omega, by simp only [List.length_append, List.length_singleton]; omega, by simp only; omega, by simp only; omega, h6, by simp only; omega⟩
  · exact h1.mono (by omega)
theorem raltPrec_RB {n : Nat} {r : Rk} (a : Alt) (c : Int) (h : RB n r) : RB (n + 1) (raltPrec r a c).1 := by
  unfold raltPrec
  split
  · exact h.mono (by omega)
  · split
    · exact rsymbol_RB _ h
    · exact (rfail_RB _ _ h).mono (by omega)
/-- Where the look-ups end. -/
theorem rtokGo_lt (nm : List UInt8) (lt : Bool) : ∀ (l : List Tok) (i k : Nat), rtokGo nm lt l i = some k → i ≤ k ∧ k < i + l.length
  | [], _, _, h => by cases h
  | t :: ts, i, k, h => by
    unfold rtokGo at h
    rw [List.length_cons]
    split at h
    · cases h
      omega
    · have := rtokGo_lt nm lt ts (i + 1) k h
      omega
theorem rtok_lt {toks : List Tok} {nm : List UInt8} {lt : Bool} {k : Nat} (h : rtok toks nm lt = some k) : 1 ≤ k ∧ k < toks.length := by
  have := rtokGo_lt nm lt _ _ _ h
  rw [List.length_drop] at this
  omega
theorem rput_lt {r : Rk} (x : Sym) : (rput r x).2 < (rput r x).1.toks.length ∧ r.toks.length ≤ (rput r x).1.toks.length := by
  unfold rput
  split
  · rename_i t h
    exact ⟨(rtok_lt h).2, Nat.le_refl _⟩
  · simp
theorem findIx_ltR {α : Type} {p : α → Bool} : ∀ (l : List α) (i k : Nat), findIx p l i = some k → i ≤ k ∧ k < i + l.length
  | [], _, _, h => by cases h
  | x :: l, i, k, h => by
    unfold findIx at h
    rw [List.length_cons]
    split at h
    · cases h
      omega
    · have := findIx_ltR l (i + 1) k h
      omega
theorem rleft_lt {lefts : List (List UInt8)} {nm : List UInt8} {k : Nat} (h : rleft lefts nm = some k) : k < lefts.length := by
  have := findIx_ltR _ _ _ h
  omega
/-- The place of a name that has a tag. -/
def typeIx (types : List (List UInt8 × List UInt8)) (nm : List UInt8) : Option Nat := findIx (fun p => p.1 == nm) types 0
theorem typeIx_go (nm : List UInt8) : ∀ (l : List (List UInt8 × List UInt8)) (i : Nat), typeOf l nm = (findIx (fun p => p.1 == nm) l i).bind fun k => (l[k - i]?).map (·.2)
  | [], _ => rfl
  | (n, t) :: l, i => by
    unfold typeOf findIx
    by_cases h : n = nm
    · subst h
      simp
    · rw [if_neg h, if_neg (by simpa using h), typeIx_go nm l (i + 1)]
      cases hf : findIx (fun p => p.1 == nm) l (i + 1) with
      | none => rfl
      | some k =>
        have := (findIx_ltR _ _ _ hf).1
        simp only [Option.bind_some]
        rw [show k - i = (k - (i + 1)) + 1 by omega, List.getElem?_cons_succ]
theorem typeIx_of (types : List (List UInt8 × List UInt8)) (nm : List UInt8) : typeOf types nm = (typeIx types nm).bind fun k => (types[k]?).map (·.2) := typeIx_go nm types 0
theorem typeIx_lt {types : List (List UInt8 × List UInt8)} {nm : List UInt8} {k : Nat} (h : typeIx types nm = some k) : k < types.length := by
  have := findIx_ltR _ _ _ h
  omega
theorem refGram_fault {x : Source} (h : may x = true) (hf : (rmade x).fault.err ≠ 0) : refGram x = (noGram, (rmade x).fault) :=
  (if_neg (by rw [h]; decide)).trans (if_pos hf)
theorem refGram_great {x : Source} (h : may x = true) (hf : (rmade x).fault.err = 0) (hg : rgreat (rmade x) = true) : refGram x = (noGram, ⟨4, 0, []⟩) :=
  (if_neg (by rw [h]; decide)).trans ((if_neg (fun h => h hf)).trans (if_pos hg))
theorem refGram_fine {x : Source} (h : may x = true) (hf : (rmade x).fault.err = 0) (hg : rgreat (rmade x) = false) : refGram x = (⟨rnumbers (rmade x), rnons (rmade x), (rmade x).prods, x.pro, x.tail⟩, okFault) :=
  (if_neg (by rw [h]; decide)).trans ((if_neg (fun h => h hf)).trans (if_neg (by rw [hg]; decide)))
end Sp
end Go.Proofs.YtphdfbmmjkccgaaDoor

namespace Go.Proofs.YtphdfbmmjkccgaaDoor
open Go.RowKit

/-! ### The library's variables, as the rows' lists give them -/
def Gl4 (w : World) : Prop := (∃ m : Int, w.cell? ⟨0, 0, none⟩ = some (.int .i64 m)) ∧ 4 ≤ w.heap.size ∧ Lib.TabIs Tryd.prog w "internal/strconv.uint64pow10" .u64 Lib.pow10Tab
theorem Gl4.up {w w' : World} (h : Gl4 w) (hb : Below w.heap.size w w') (h6 : 6 ≤ w'.heap.size) : Gl w' := by
  obtain ⟨⟨m, hm⟩, hz, ht⟩ := h
  exact ⟨⟨m, (hb.cell (p := ⟨0, 0, none⟩) (by show 0 < _; omega)).trans hm⟩, h6, var?_below hb (by kernel_rfl : Tryd.prog.globalNamed "internal/strconv.uint64pow10" = some 1) (by omega) ht⟩
/-! ### The small functions of the statements -/
end Go.Proofs.YtphdfbmmjkccgaaDoor

namespace Go.Proofs.YtphdfbmmjkccgaaDoor
open Go.RowKit Go.Maps

theorem one_at {α : Type} {x y : α} {i : Nat} (h : [x][i]? = some y) : i = 0 ∧ x = y := by
  cases i with
  | zero => exact ⟨rfl, by simpa using h⟩
  | succ i => simp at h
end Go.Proofs.YtphdfbmmjkccgaaDoor

namespace Go.Proofs.YtphdfbmmjkccgaaDoor
open Go.RowKit Go.Maps

theorem owns_block {w : World} {b B size n : Nat} {e : TypeId} {cs : Array Value} (h : w.heap[b]? = some (.cells cs e (0, 0))) (hb : B ≤ b) (hl : cs.size = n * size) (hm : n ≤ maxLen) : w.ownsRow B e size (.slice (some ⟨b, 0, none⟩) n n) n cs.toList :=
  ⟨by simpa using hl, .inr ⟨b, n, cs, rfl, hb, h, Nat.le_refl _, hm, hl, List.take_of_length_le (by rw [Array.length_toList, hl]; exact Nat.le_refl _)⟩⟩
/-- The source as it is made: its box, its one rule, its one alternative, the parts. -/
structure PassSt (B : Nat) (w : World) (bs br ba : Nat) (dv pv : Value) (ds : List Sp.Decl) (ps : List Sp.Part) : Prop where
  src : w.heap[bs]? = some (.cells #[.string ⟨#[]⟩, dv, .slice (some ⟨br, 0, none⟩) 1 1, .string ⟨#[]⟩] 29 (0, 0))
  rule : w.heap[br]? = some (.cells #[.string ⟨#[97]⟩, .slice (some ⟨ba, 0, none⟩) 1 1, .int .i64 0] 37 (0, 0))
  alt : w.heap[ba]? = some (.cells #[pv, .string ⟨#[]⟩, .bool false, .int .i64 0, .int .i64 0, .int .i64 0] 42 (0, 0))
  parts : w.ownsRow B 44 6 pv ps.length (ps.map partC).flatten
  decls : DeclsOwn B w dv ds
  ge : B ≤ bs ∧ B ≤ br ∧ B ≤ ba
theorem PassSt.rules {B : Nat} {w : World} {bs br ba : Nat} {dv pv : Value} {ds : List Sp.Decl} {ps : List Sp.Part} (h : PassSt B w bs br ba dv pv ds ps) :
    RulesOwn B w (.slice (some ⟨br, 0, none⟩) 1 1) [⟨[97], [⟨ps, ⟨[], false, 0, 0⟩, 0⟩], 0⟩] := by
  refine ⟨fun _ => .slice (some ⟨ba, 0, none⟩) 1 1, owns_block h.rule h.ge.2.1 rfl (by decide), fun i r hr => ?_⟩
  obtain ⟨rfl, rfl⟩ := one_at hr
  refine ⟨B, fun _ => pv, owns_block h.alt h.ge.2.2 rfl (by decide), fun i a ha => ?_⟩
  obtain ⟨rfl, rfl⟩ := one_at ha
  exact ⟨B, h.parts⟩
theorem KpT.of_kp {T : TypeId → Prop} {S : Nat → Prop} {w w' : World} (k : Kp S w w') (h : ∀ b cs t fr, w.heap[b]? = some (.cells cs t fr) → T t → S b) : KpT T w w' := fun b cs t fr hb ht => (k.block b (lt_at hb) (h b cs t fr hb ht)).trans hb
/-- The source, its rows. -/
structure PassS2 (B : Nat) (w : World) (bs : Nat) (dv rv : Value) (ds : List Sp.Decl) (rs : List Sp.Rule) : Prop where
  src : w.heap[bs]? = some (.cells #[.string ⟨#[]⟩, dv, rv, .string ⟨#[]⟩] 29 (0, 0))
  decls : DeclsOwn B w dv ds
  rules : RulesOwn B w rv rs
  ge : B ≤ bs
theorem PassSt.two {B : Nat} {w : World} {bs br ba : Nat} {dv pv : Value} {ds : List Sp.Decl} {ps : List Sp.Part} (h : PassSt B w bs br ba dv pv ds ps) : PassS2 B w bs dv (.slice (some ⟨br, 0, none⟩) 1 1) ds [⟨[97], [⟨ps, ⟨[], false, 0, 0⟩, 0⟩], 0⟩] := ⟨h.src, h.decls, h.rules, h.ge.1⟩
end Go.Proofs.YtphdfbmmjkccgaaDoor

namespace Go.Proofs.YtphdfbmmjkccgaaDoor
open Go.RowKit Go.Maps

/-- The fields that point. -/
structure RkV where
  tv : Value
  nv : Value
  pv : Value
  gv : Value
  yv : Value
  lv : Value
def typC (p : List UInt8 × List UInt8) : List Value := [.string ⟨p.1.toArray⟩, .string ⟨p.2.toArray⟩]
def strV (l : List UInt8) : Value := .string ⟨l.toArray⟩
def rkCells (r : Sp.Rk) (v : RkV) : List Value := [v.tv, v.nv, v.pv, .string ⟨#[]⟩, .string ⟨#[]⟩, v.gv, v.yv, v.lv, .int .i64 r.fault.err, .int .i64 r.fault.at_, .string ⟨r.fault.name.toArray⟩, .int .i64 r.level, .int .i64 (r.inner : Int)]
/-- The maker at block m: its rows lie behind B, those that productions point to in S. -/
structure RefAt (S : Nat → Prop) (B : Nat) (w : World) (m : Nat) (r : Sp.Rk) (v : RkV) : Prop where
  block : w.heap[m]? = some (.cells (rkCells r v).toArray 112 (0, 0))
  toks : w.ownsRow B 114 6 v.tv r.toks.length (r.toks.map tokC).flatten
  given : w.ownsRow B 4 1 v.gv r.given.length (r.given.map Value.bool)
  types : w.ownsRow B 99 2 v.yv r.types.length (r.types.map typC).flatten
  lefts : w.ownsRow B 9 1 v.lv r.lefts.length (r.lefts.map strV)
  prods : ProdsOff B w v.pv r.prods S
  behind : B ≤ m
/-- What a call may change: the maker's own rows and box alone. -/
def RT (t : TypeId) : Prop := t ≠ 114 ∧ t ≠ 4 ∧ t ≠ 99 ∧ t ≠ 112
def RFr (B : Nat) (W w' : World) : Prop := Below B W w' ∧ KpT RT W w'
theorem RFr.below {B : Nat} {W w' : World} (h : Below W.heap.size W w') (hB : B ≤ W.heap.size) : RFr B W w' := ⟨h.mono hB, KpT.below h⟩
theorem RFr.trans {B : Nat} {a b c : World} (h : RFr B a b) (k : RFr B b c) : RFr B a c := ⟨h.1.trans k.1, h.2.trans k.2⟩
theorem RFr.size {B : Nat} {a b : World} (h : RFr B a b) : a.heap.size ≤ b.heap.size := h.1.size
theorem RFr.at {B : Nat} {a b : World} (h : RFr B a b) {i : Nat} {cs : Array Value} {t : TypeId} {fr : Nat × Nat} (hb : a.heap[i]? = some (.cells cs t fr)) (ht : RT t) : b.heap[i]? = some (.cells cs t fr) := h.2 i cs t fr hb ht
theorem ProdsOff.kpT {B : Nat} {w w' : World} {v : Value} {l : List Sp.Prod} {S : Nat → Prop} {T : TypeId → Prop} (h : ProdsOff B w v l S) (k : KpT T w w') (h1 : T 84) (h2 : T 3) : ProdsOff B w' v l S := by
  obtain ⟨f, g, p1, p2⟩ := h
  refine ⟨f, g, ownsRow_kpT p1 k h1, fun i p hp => ?_⟩
  obtain ⟨⟨⟨b, k1⟩, c, k2⟩, h3, h4⟩ := p2 i p hp
  exact ⟨⟨⟨b, ownsRow_kpT k1 k h2⟩, c, ownsRow_kpT k2 k h2⟩, h3, h4⟩
section
variable {S : Nat → Prop} {B : Nat} {W w' wa : World} {m : Nat} {r r' : Sp.Rk} {v : RkV}
theorem RefAt.below (h : RefAt S B W m r v) (hb : Below W.heap.size W w') : RefAt S B w' m r v :=
  ⟨(hb.block m (lt_at h.block)).trans h.block, ownsRow_below h.toks hb, ownsRow_below h.given hb, ownsRow_below h.types hb, ownsRow_below h.lefts hb, h.prods.below hb, h.behind⟩
/-- The box alone is written. -/
theorem RefAt.box (h : RefAt S B W m r v) (k : KpT (fun t => t ≠ 112) W w') (hb : w'.heap[m]? = some (.cells (rkCells r' v).toArray 112 (0, 0))) (e1 : r'.toks = r.toks) (e2 : r'.given = r.given) (e3 : r'.types = r.types) (e4 : r'.lefts = r.lefts) (e5 : r'.prods = r.prods) : RefAt S B w' m r' v := by
  refine ⟨hb, ?_, ?_, ?_, ?_, ?_, h.behind⟩
  · rw [e1]; exact ownsRow_kpT h.toks k (by decide)
  · rw [e2]; exact ownsRow_kpT h.given k (by decide)
  · rw [e3]; exact ownsRow_kpT h.types k (by decide)
  · rw [e4]; exact ownsRow_kpT h.lefts k (by decide)
  · rw [e5]; exact h.prods.kpT k (by decide) (by decide)
theorem RefAt.size (h : RefAt S B W m r v) : B ≤ W.heap.size := by have := h.behind; have := lt_at h.block; omega
/-- One cell of the box is written. -/
theorem RefAt.box1 {cs : Array Value} (hm : W.heap[m]? = some (.cells cs 112 (0, 0))) (hB : B ≤ m) (i : Nat) (u : Value) : KpT (fun t => t ≠ 112) W (W.setCell ⟨m, i, none⟩ u) ∧ RFr B W (W.setCell ⟨m, i, none⟩ u) := by
  have k : KpT (fun t => t ≠ 112) W (W.setCell ⟨m, i, none⟩ u) := KpT.setCell (fun _ _ _ _ h _ => h) hm (by simp) _
  have := lt_at hm
  exact ⟨k, Kp.below (S := fun b => b < B) ((Kp.refl _ W).setCell (by simp only; omega) _) (by omega) (fun b hb => hb), k.mono (fun t ht => ht.2.2.2)⟩
/-- A token more: behind the append into the row, the store into the box. -/
theorem RefAt.addTok {t : Sp.Tok} {u : Value} (h : RefAt S B W m r v) (hown : wa.ownsRow B 114 6 u (r.toks.length + 1) ((r.toks.map tokC).flatten ++ tokC t)) (k : KpT (fun t => t ≠ 114) W wa) (hb : Below B W wa) :
    RefAt S B (wa.setCell ⟨m, 0, none⟩ u) m { r with toks := r.toks ++ [t] } { v with tv := u } ∧ RFr B W (wa.setCell ⟨m, 0, none⟩ u) := by
  have hm := k m _ _ _ h.block (by decide)
  obtain ⟨k1, k2⟩ := RefAt.box1 hm h.behind 0 u
  refine ⟨⟨heap_setCell_at hm, ?_, ownsRow_kpT (ownsRow_kpT h.given k (by decide)) k1 (by decide), ownsRow_kpT (ownsRow_kpT h.types k (by decide)) k1 (by decide), ownsRow_kpT (ownsRow_kpT h.lefts k (by decide)) k1 (by decide), (h.prods.kpT k (by decide) (by decide)).kpT k1 (by decide) (by decide), h.behind⟩, RFr.trans ⟨hb, k.mono (fun t ht => ht.1)⟩ k2⟩
  simp only [List.length_append, List.length_singleton, List.map_append, List.map_cons, List.map_nil, List.flatten_append, List.flatten_cons, List.flatten_nil, List.append_nil]
  exact ownsRow_kpT hown k1 (by decide)
theorem RefAt.addGiven {b : Bool} {u : Value} (h : RefAt S B W m r v) (hown : wa.ownsRow B 4 1 u (r.given.length + 1) (r.given.map Value.bool ++ [.bool b])) (k : KpT (fun t => t ≠ 4) W wa) (hb : Below B W wa) :
    RefAt S B (wa.setCell ⟨m, 5, none⟩ u) m { r with given := r.given ++ [b] } { v with gv := u } ∧ RFr B W (wa.setCell ⟨m, 5, none⟩ u) := by
  have hm := k m _ _ _ h.block (by decide)
  obtain ⟨k1, k2⟩ := RefAt.box1 hm h.behind 5 u
  refine ⟨⟨heap_setCell_at hm, ownsRow_kpT (ownsRow_kpT h.toks k (by decide)) k1 (by decide), ?_, ownsRow_kpT (ownsRow_kpT h.types k (by decide)) k1 (by decide), ownsRow_kpT (ownsRow_kpT h.lefts k (by decide)) k1 (by decide), (h.prods.kpT k (by decide) (by decide)).kpT k1 (by decide) (by decide), h.behind⟩, RFr.trans ⟨hb, k.mono (fun t ht => ht.2.1)⟩ k2⟩
  simp only [List.length_append, List.length_singleton, List.map_append, List.map_cons, List.map_nil]
  exact ownsRow_kpT hown k1 (by decide)
theorem RefAt.addType {p : List UInt8 × List UInt8} {u : Value} (h : RefAt S B W m r v) (hown : wa.ownsRow B 99 2 u (r.types.length + 1) ((r.types.map typC).flatten ++ typC p)) (k : KpT (fun t => t ≠ 99) W wa) (hb : Below B W wa) :
    RefAt S B (wa.setCell ⟨m, 6, none⟩ u) m { r with types := r.types ++ [p] } { v with yv := u } ∧ RFr B W (wa.setCell ⟨m, 6, none⟩ u) := by
  have hm := k m _ _ _ h.block (by decide)
  obtain ⟨k1, k2⟩ := RefAt.box1 hm h.behind 6 u
  refine ⟨⟨heap_setCell_at hm, ownsRow_kpT (ownsRow_kpT h.toks k (by decide)) k1 (by decide), ownsRow_kpT (ownsRow_kpT h.given k (by decide)) k1 (by decide), ?_, ownsRow_kpT (ownsRow_kpT h.lefts k (by decide)) k1 (by decide), (h.prods.kpT k (by decide) (by decide)).kpT k1 (by decide) (by decide), h.behind⟩, RFr.trans ⟨hb, k.mono (fun t ht => ht.2.2.1)⟩ k2⟩
  simp only [List.length_append, List.length_singleton, List.map_append, List.map_cons, List.map_nil, List.flatten_append, List.flatten_cons, List.flatten_nil, List.append_nil]
  exact ownsRow_kpT hown k1 (by decide)
/-- A Left more. -/
theorem RefAt.addLeft {p : List UInt8} {u : Value} (h : RefAt S B W m r v) (hown : wa.ownsRow B 9 1 u (r.lefts.length + 1) (r.lefts.map strV ++ [strV p])) (k : KpT (fun t => t ≠ 9) W wa) (hb : Below B W wa) :
    RefAt S B (wa.setCell ⟨m, 7, none⟩ u) m { r with lefts := r.lefts ++ [p] } { v with lv := u } ∧ Below B W (wa.setCell ⟨m, 7, none⟩ u) := by
  have hm := k m _ _ _ h.block (by decide)
  obtain ⟨k1, k2⟩ := RefAt.box1 hm h.behind 7 u
  refine ⟨⟨heap_setCell_at hm, ownsRow_kpT (ownsRow_kpT h.toks k (by decide)) k1 (by decide), ownsRow_kpT (ownsRow_kpT h.given k (by decide)) k1 (by decide), ownsRow_kpT (ownsRow_kpT h.types k (by decide)) k1 (by decide), ?_, (h.prods.kpT k (by decide) (by decide)).kpT k1 (by decide) (by decide), h.behind⟩, hb.trans k2.1⟩
  simp only [List.length_append, List.length_singleton, List.map_append, List.map_cons, List.map_nil]
  exact ownsRow_kpT hown k1 (by decide)
/-- A token's field is written in its row. -/
theorem RefAt.tokset {gt n ct k off : Nat} {t t' : Sp.Tok} {u : Value} (h : RefAt S B W m r v) (hv : v.tv = .slice (some ⟨gt, 0, none⟩) n ct) (hk : r.toks[k]? = some t) (hoff : off < 6) (hrow : tokC t' = (tokC t).set off u) :
    RefAt S B (W.setCell ⟨gt, k * 6 + off, none⟩ u) m { r with toks := r.toks.set k t' } v ∧ RFr B W (W.setCell ⟨gt, k * 6 + off, none⟩ u) := by
  have hto := h.toks
  rw [hv] at hto
  have hn : n = r.toks.length := by
    rcases hto.2 with ⟨e0, _⟩ | ⟨_, _, _, e0, _⟩
    · simp at e0
    · simp only [Value.slice.injEq] at e0; exact e0.2.1.symm ▸ rfl
  subst hn
  obtain ⟨cu, hgb⟩ := row_block2 hto
  have hst := (hto.stored (k * 6 + off) u).1
  have hge := (hto.lt gt rfl).1
  have kt : KpT (fun t => t ≠ 114) W (W.setCell ⟨gt, k * 6 + off, none⟩ u) := KpT.setCell (fun _ _ _ _ h _ => h) hgb (by simp) _
  have hset : (r.toks.map tokC).flatten.set (k * 6 + off) u = ((r.toks.set k t').map tokC).flatten := by
    rw [flatten_set2 6 k off u hoff _ (tokC t) (fun r hr => by obtain ⟨a, _, rfl⟩ := List.mem_map.1 hr; rfl) (by rw [List.getElem?_map, hk]; rfl), List.map_set, hrow]
  refine ⟨⟨kt m _ _ _ h.block (by decide), ?_, ownsRow_kpT h.given kt (by decide), ownsRow_kpT h.types kt (by decide), ownsRow_kpT h.lefts kt (by decide), h.prods.kpT kt (by decide) (by decide), h.behind⟩, ?_, kt.mono (fun t ht => ht.1)⟩
  · show World.ownsRow _ _ _ _ _ _ _
    rw [List.length_set, ← hset, hv]
    exact hst
  · exact Kp.below (S := fun b => b < B) ((Kp.refl _ W).setCell (by simp only; omega) _) h.size (fun b hb => hb)
/-- A mark that a number is given is written in its row. -/
theorem RefAt.givenset {gg n cg k : Nat} (b : Bool) (h : RefAt S B W m r v) (hv : v.gv = .slice (some ⟨gg, 0, none⟩) n cg) :
    RefAt S B (W.setCell ⟨gg, k, none⟩ (.bool b)) m { r with given := r.given.set k b } v ∧ RFr B W (W.setCell ⟨gg, k, none⟩ (.bool b)) := by
  have hgo := h.given
  rw [hv] at hgo
  have hn : n = r.given.length := by
    rcases hgo.2 with ⟨e0, _⟩ | ⟨_, _, _, e0, _⟩
    · simp at e0
    · simp only [Value.slice.injEq] at e0; exact e0.2.1.symm ▸ rfl
  subst hn
  obtain ⟨cu, hgb⟩ := row_block2 hgo
  have hst := (hgo.stored k (.bool b)).1
  have hge := (hgo.lt gg rfl).1
  have kt : KpT (fun t => t ≠ 4) W (W.setCell ⟨gg, k, none⟩ (.bool b)) := KpT.setCell (fun _ _ _ _ h _ => h) hgb (by simp) _
  have hset : (r.given.map Value.bool).set k (.bool b) = (r.given.set k b).map Value.bool := by rw [List.map_set]
  refine ⟨⟨kt m _ _ _ h.block (by decide), ownsRow_kpT h.toks kt (by decide), ?_, ownsRow_kpT h.types kt (by decide), ownsRow_kpT h.lefts kt (by decide), h.prods.kpT kt (by decide) (by decide), h.behind⟩, ?_, kt.mono (fun t ht => ht.2.1)⟩
  · show World.ownsRow _ _ _ _ _ _ _
    rw [List.length_set, ← hset, hv]
    exact hst
  · exact Kp.below (S := fun b => b < B) ((Kp.refl _ W).setCell (by simp only; omega) _) h.size (fun b hb => hb)
end
/-- An index or -1. -/
def ixI : Option Nat → Int
  | some k => (k : Int)
  | none => -1
set_option maxHeartbeats 1600000 in
/-- The first fault is kept. -/
theorem ref_fail {S : Nat → Prop} {B : Nat} {W : World} {m : Nat} {r : Sp.Rk} {v : RkV} (at_ : Int) (nm : List UInt8) (h : RefAt S B W m r v) :
    Calls Tryd.prog 39 #[.pointer (some ⟨m, 0, none⟩), .int .i64 at_, .string ⟨nm.toArray⟩] W fun e w' => e = .returned (.tuple #[]) ∧ RefAt S B w' m (Sp.rfail r at_ nm) v ∧ RFr B W w' ∧ KpT (fun t => t ≠ 112) W w' := by
  have hb := h.block
  unfold rkCells at hb
  have c8 := cell_at (i := 8) hb; have c9 := cell_at (i := 9) hb; have c10 := cell_at (i := 10) hb
  have f8 := frozen_at (i := 8) hb; have f9 := frozen_at (i := 9) hb; have f10 := frozen_at (i := 10) hb
  have hl := lt_at hb
  have HH := Lib.hid h; have HB := Lib.hid hb
  obtain ⟨fe, hfe⟩ : ∃ fe, fe = r.fault.err := ⟨_, rfl⟩
  rw [← hfe] at c8
  have HFE := Lib.hid hfe
  clear h hb hfe
  by_cases h0 : fe = 0
  · subst h0
    go_enter Tryd.func39, Tryd.ntmps39
    go_wp2_with fail
    refine bodyPost_end (results_none rfl _ _ _) rfl ?_
    have e : Sp.rfail r at_ nm = { r with fault := ⟨3, at_, nm⟩ } := by unfold Sp.rfail Sp.failF; rw [if_pos HFE.out.symm]
    rw [e]
    have hb' : (((W.setCell ⟨m, 8, none⟩ (.int .i64 3)).setCell ⟨m, 9, none⟩ (.int .i64 at_)).setCell ⟨m, 10, none⟩ (.string ⟨nm.toArray⟩)).heap[m]? = _ := heap_setCell_at (heap_setCell_at (heap_setCell_at HB.out))
    have k : KpT (fun t => t ≠ 112) W (((W.setCell ⟨m, 8, none⟩ (.int .i64 3)).setCell ⟨m, 9, none⟩ (.int .i64 at_)).setCell ⟨m, 10, none⟩ (.string ⟨nm.toArray⟩)) := KpT.setCell (KpT.setCell (KpT.setCell (fun _ _ _ _ h _ => h) HB.out (by simp) _) (heap_setCell_at HB.out) (by simp) _) (heap_setCell_at (heap_setCell_at HB.out)) (by simp) _
    refine ⟨rfl, HH.out.box k hb' rfl rfl rfl rfl rfl, ⟨?_, k.mono (fun t ht => ht.2.2.2)⟩, k⟩
    have hB := HH.out.behind
    exact Kp.below (S := fun b => b < B) ((((Kp.refl _ W).setCell (p := ⟨m, 8, none⟩) (by simp only; omega) _).setCell (p := ⟨m, 9, none⟩) (by simp only; omega) _).setCell (p := ⟨m, 10, none⟩) (by simp only; omega) _) HH.out.size (fun b hb => hb)
  · have h0b : (fe == 0) = false := by rw [beq_eq_false_iff_ne]; exact h0
    have h0d : decide (fe = 0) = false := decide_eq_false h0
    go_enter Tryd.func39, Tryd.ntmps39
    go_wp2_with fail
    refine bodyPost_end (results_none rfl _ _ _) rfl ?_
    have e : Sp.rfail r at_ nm = r := by unfold Sp.rfail Sp.failF; rw [if_neg (by rw [← HFE.out]; exact h0)]
    rw [e]
    exact ⟨rfl, HH.out, RFr.below (Below.refl _ _) HH.out.size, fun _ _ _ _ h _ => h⟩
end Go.Proofs.YtphdfbmmjkccgaaDoor
