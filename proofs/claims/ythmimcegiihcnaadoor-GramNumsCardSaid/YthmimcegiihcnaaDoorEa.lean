/- Layer 8, the reference: what may be. -/
import Derived.Test.YthmimcegiihcnaaDoorDe
import Derived.Test.YthmimcegiihcnaaDoorCZ
import Derived.Test.YthmimcegiihcnaaDoorBY
import Derived.Test.YthmimcegiihcnaaDoorEp
import Derived.Deep.RegionHeld3
import Derived.Deep.DeepCutAuto
import Derived.Deep.LoopGhost
namespace Go.Proofs.YthmimcegiihcnaaDoor
namespace Sp
open Go.Lib (index indexByte hasPrefix)

/-- What the reference asks of a symbol: may a number stand behind it, may it be a byte in quotes. -/
def refSym (x : Sym) (num lit : Bool) : Bool :=
  if x.lit = true then lit && decide (x.name.length = 1) && (x.num == 0) && quotable x.name
  else isName x.name && ((x.num == 0) || (num && decide (1 ≤ x.num) && decide (x.num ≤ 50000)))
theorem quotable_len {l : List UInt8} (h : quotable l = true) : l.length = 1 := by
  rcases l with _ | ⟨c, _ | ⟨d, l⟩⟩ <;> simp [quotable] at h ⊢
theorem refSym_bare (s : Sym) : refSym s false true = isBare s := by
  unfold refSym isBare isSym
  cases hl : s.lit
  · simp
  · cases hq : quotable s.name
    · simp
    · have := quotable_len hq
      simp [this]
theorem refSym_may (k : Int) (s : Sym) : refSym s (k == 1) (decide (k < 5)) = maySym k s := by
  unfold refSym maySym isSym
  cases hl : s.lit
  · simp only [Bool.false_eq_true, if_false, false_and, or_false, false_or]
    cases hn : isName s.name
    · simp
    · by_cases h0 : s.num = 0
      · simp [h0]
      · by_cases h1 : k = 1
        · subst h1
          by_cases h2 : s.num < 1
          · have : ¬ 1 ≤ s.num := by omega
            simp [h0, h2, this]
          · by_cases h3 : 50000 < s.num
            · have : ¬ s.num ≤ 50000 := by omega
              simp [h0, h2, h3, this]
            · have a1 : 1 ≤ s.num := by omega
              have a2 : s.num ≤ 50000 := by omega
              simp [h0, h2, h3, a1, a2]
        · simp [h0, h1]
  · simp only [if_true, true_and]
    cases hq : quotable s.name
    · simp
    · have := quotable_len hq
      by_cases h5 : k < 5
      · have : ¬ 5 ≤ k := by omega
        by_cases h0 : s.num = 0 <;> simp_all
      · have : 5 ≤ k := by omega
        simp_all
        intro h
        omega
/-- What the reference asks of a declaration ahead of its symbols. -/
def badHead (d : Decl) : Bool :=
  decide (d.kind < 1) || decide (6 < d.kind) || decide (d.syms.length = 0) || (decide (d.kind = 6) && (decide (d.syms.length ≠ 1) || decide (d.tag ≠ []))) || (decide (d.kind = 5) && decide (d.tag = [])) || (decide (d.tag ≠ []) && !isName d.tag)
theorem mayDecl_ref (d : Decl) : mayDecl d = (!badHead d && d.syms.all fun s => refSym s (d.kind == 1) (decide (d.kind < 5))) := by
  have e : (d.syms.all fun s => refSym s (d.kind == 1) (decide (d.kind < 5))) = d.syms.all (maySym d.kind) := by
    congr 1; funext s; exact refSym_may d.kind s
  rw [e]
  unfold mayDecl badHead
  generalize d.syms.all (maySym d.kind) = A
  have hnil : isName [] = false := by decide
  by_cases h1 : d.kind < 1
  · simp [h1]
  by_cases h2 : 6 < d.kind
  · simp [h2]
  by_cases h3 : d.syms.length = 0
  · simp [h3]
  by_cases h6 : d.kind = 6
  · by_cases h7 : d.tag = []
    · by_cases h8 : d.syms.length = 1
      · simp [h6, h7, h8]
      · simp [h3, h6, h7, h8]
    · simp [h3, h6, h7]
  · by_cases h5 : d.kind = 5
    · by_cases h7 : d.tag = []
      · simp [h3, h5, h7, hnil]
      · cases hn : isName d.tag <;> simp [h3, h5, h7]
    · by_cases h7 : d.tag = []
      · simp [h1, h2, h3, h5, h6, h7]
      · cases hn : isName d.tag <;> simp [h1, h2, h3, h5, h6, h7]
/-- The reference's way through a part. -/
theorem mayPart_ref (p : Part) : mayPart p = !((decide (p.code = []) && !refSym p.sym false true) || (decide (p.code ≠ []) && (!isNone p.sym || decide (endAt p.code 0 ≠ (p.code.length : Int))))) := by
  unfold mayPart
  rw [refSym_bare]
  by_cases h : p.code = []
  · simp [h]
  · simp [h]
theorem mayAlt_ref (a : Alt) : mayAlt a = (a.parts.all mayPart && (isNone a.prec || refSym a.prec false true)) := by
  unfold mayAlt
  rw [refSym_bare, Bool.and_comm]
theorem index_two (c d : UInt8) (l : List UInt8) (x y : UInt8) : decide (0 ≤ index (c :: d :: l) [x, y]) = ((c == x && d == y) || decide (0 ≤ index (d :: l) [x, y])) := by
  rw [index_cons]
  have := Go.Lib.index_ge (d :: l) [x, y]
  have hp : ([x, y].isPrefixOf (c :: d :: l)) = (x == c && y == d) := by simp [List.isPrefixOf]
  rw [hp]
  have e1 : (x == c) = (c == x) := by rw [Bool.eq_iff_iff]; simp; exact eq_comm
  have e2 : (y == d) = (d == y) := by rw [Bool.eq_iff_iff]; simp; exact eq_comm
  rw [e1, e2]
  cases h : (c == x && d == y)
  · simp only [Bool.false_eq_true, if_false, Bool.false_or]
    by_cases h2 : index (d :: l) [x, y] = -1
    · simp [h2]
    · rw [if_neg h2]
      have a1 : 0 ≤ index (d :: l) [x, y] := by omega
      have a2 : 0 ≤ index (d :: l) [x, y] + 1 := by omega
      simp [a1, a2]
  · simp
theorem index_short (l : List UInt8) (x y : UInt8) (h : l.length ≤ 1) : decide (0 ≤ index l [x, y]) = false := by
  rcases l with _ | ⟨c, _ | ⟨d, l⟩⟩
  · simp [index]
  · rw [index_cons]
    simp [index, List.isPrefixOf]
  · simp at h
end Sp
open Go.RowKit

end Go.Proofs.YthmimcegiihcnaaDoor
