/- Plain functions: the text of pieces. -/
import Derived.Test.YticdgfljaphhgaaDoorSpB
namespace Go.Proofs.YticdgfljaphhgaaDoor
namespace Sp

/-- A piece's tag, as it is written. -/
def tagText (t : List UInt8) : List UInt8 := if t = [] then [] else 60 :: (t ++ [62])
def wrong (p : Piece) : Bool := decide (p.n < 0) || decide (999 < p.n) || (decide (p.tag ≠ []) && !isName p.tag)
/-- The text of a piece; none: there is none. -/
def pieceText (p : Piece) : Option (List UInt8) :=
  if wrong p = true then none
  else if p.kind = 1 then some p.text
  else if p.kind = 2 then some (36 :: (tagText p.tag ++ [36]))
  else if p.kind = 3 then some (36 :: (tagText p.tag ++ Go.Lib.itoa p.n))
  else none
def join : List Piece → Option (List UInt8)
  | [] => some []
  | p :: ps => match pieceText p with
    | none => none
    | some t => (join ps).map (t ++ ·)
def joinRes : Option (List UInt8) → List UInt8 × Int
  | none => ([], 1)
  | some t => (t, 0)

end Sp
end Go.Proofs.YticdgfljaphhgaaDoor
