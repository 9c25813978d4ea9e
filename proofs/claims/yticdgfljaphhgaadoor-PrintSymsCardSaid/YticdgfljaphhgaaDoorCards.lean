/-
  DERIVED. GIVEN WITH THE SEED: THE CARDS: each row of YticdgfljaphhgaaDoorRows.lean that lists a variable, with what it lists TIED to the program's text (the seventh form; the later family's looks); each row that meets fmt, with fmt's text TOLD by the authors' own Lean function (tested against real Go, not proved from fmt's source: count such statements apart). THE CARD IS WHAT COUNTS. Prove the row's statement (the work); the ties are given (YticdgfljaphhgaaDoorTie.lean); close each card by the builder's one call (the guide's Derived/Test/ToyasCard.lean, 'card_holds'). Laid BY PROGRAM, IN A SANDBOX (cutbox-door.mjs). By AI agents, Wed Nov 11 2026. No macro, syntax, notation, axiom, sorry.
-/
import Derived.Test.YticdgfljaphhgaaDoorRows
import GoSem.ClaimSeven
namespace Go.Proofs.YticdgfljaphhgaaDoor
namespace Rows

/-- THE TIED CARD OF 'yuccalaw5.BodyEnds'. -/
def bodyEndsCard : Claim7 := { stood := { row := bodyEndsRow, standIns := [], harness := (true, "87a9f01fa342291b9641a89d237f86aa983790b8c21f8ecb81e1a8ddee77373d"), looks := true }, kinds := [], alts := [], laidByText := true, laidKinds := [.data, .data, .data, .sentinel, .sentinel], laidTests := true, laidLooks := .later }
def BodyEndsCardSaid : Prop := Claim7.holds Tryd.pinned (.plain (OpenSpec.ofChange bodyEndsSpec)) bodyEndsCard

/-- THE TIED CARD OF 'yuccalaw5.BodyJoins'. -/
def bodyJoinsCard : Claim7 := { stood := { row := bodyJoinsRow, standIns := [], harness := (true, "87a9f01fa342291b9641a89d237f86aa983790b8c21f8ecb81e1a8ddee77373d"), looks := true }, kinds := [], alts := [], laidByText := true, laidKinds := [.data, .data, .data, .sentinel, .sentinel], laidTests := true, laidLooks := .later }
def BodyJoinsCardSaid : Prop := Claim7.holds Tryd.pinned (.plain (OpenSpec.ofChange bodyJoinsSpec)) bodyJoinsCard

/-- THE TIED CARD OF 'yuccalaw5.BodyBack'. -/
def bodyBackCard : Claim7 := { stood := { row := bodyBackRow, standIns := [], harness := (true, "87a9f01fa342291b9641a89d237f86aa983790b8c21f8ecb81e1a8ddee77373d"), looks := true }, kinds := [], alts := [], laidByText := true, laidKinds := [.data, .data, .data, .sentinel, .sentinel], laidTests := true, laidLooks := .later }
def BodyBackCardSaid : Prop := Claim7.holds Tryd.pinned (.plain (OpenSpec.ofChange bodyBackSpec)) bodyBackCard

/-- THE TIED CARD OF 'yuccalaw5.BodySkips'. -/
def bodySkipsCard : Claim7 := { stood := { row := bodySkipsRow, standIns := [], harness := (true, "87a9f01fa342291b9641a89d237f86aa983790b8c21f8ecb81e1a8ddee77373d"), looks := true }, kinds := [], alts := [], laidByText := true, laidKinds := [.data, .data, .data, .sentinel, .sentinel], laidTests := true, laidLooks := .later }
def BodySkipsCardSaid : Prop := Claim7.holds Tryd.pinned (.plain (OpenSpec.ofChange bodySkipsSpec)) bodySkipsCard

/-- THE TIED CARD OF 'yuccalaw5.BodyParts'. -/
def bodyPartsCard : Claim7 := { stood := { row := bodyPartsRow, standIns := [], harness := (true, "87a9f01fa342291b9641a89d237f86aa983790b8c21f8ecb81e1a8ddee77373d"), looks := true }, kinds := [], alts := [], laidByText := true, laidKinds := [.data, .data, .data, .sentinel, .sentinel], laidTests := true, laidLooks := .later }
def BodyPartsCardSaid : Prop := Claim7.holds Tryd.pinned (.plain (OpenSpec.ofChange bodyPartsSpec)) bodyPartsCard

/-- THE TIED CARD OF 'yuccalaw6.LexWords'. -/
def lexWordsCard : Claim7 := { stood := { row := lexWordsRow, standIns := [], harness := (true, "87a9f01fa342291b9641a89d237f86aa983790b8c21f8ecb81e1a8ddee77373d"), looks := true }, kinds := [], alts := [], laidByText := true, laidKinds := [.data, .data, .data, .sentinel, .sentinel], laidTests := true, laidLooks := .later }
def LexWordsCardSaid : Prop := Claim7.holds Tryd.pinned (.plain (OpenSpec.ofChange lexWordsSpec)) lexWordsCard

/-- THE TIED CARD OF 'yuccalaw6.LexBytes'. -/
def lexBytesCard : Claim7 := { stood := { row := lexBytesRow, standIns := [], harness := (true, "87a9f01fa342291b9641a89d237f86aa983790b8c21f8ecb81e1a8ddee77373d"), looks := true }, kinds := [], alts := [], laidByText := true, laidKinds := [.data, .data, .data, .sentinel, .sentinel], laidTests := true, laidLooks := .later }
def LexBytesCardSaid : Prop := Claim7.holds Tryd.pinned (.plain (OpenSpec.ofChange lexBytesSpec)) lexBytesCard

/-- THE TIED CARD OF 'yuccalaw6.LexJoins'. -/
def lexJoinsCard : Claim7 := { stood := { row := lexJoinsRow, standIns := [], harness := (true, "87a9f01fa342291b9641a89d237f86aa983790b8c21f8ecb81e1a8ddee77373d"), looks := true }, kinds := [], alts := [], laidByText := true, laidKinds := [.data, .data, .data, .sentinel, .sentinel], laidTests := true, laidLooks := .later }
def LexJoinsCardSaid : Prop := Claim7.holds Tryd.pinned (.plain (OpenSpec.ofChange lexJoinsSpec)) lexJoinsCard

/-- THE TIED CARD OF 'yuccalaw6.LexEnds'. -/
def lexEndsCard : Claim7 := { stood := { row := lexEndsRow, standIns := [], harness := (true, "87a9f01fa342291b9641a89d237f86aa983790b8c21f8ecb81e1a8ddee77373d"), looks := true }, kinds := [], alts := [], laidByText := true, laidKinds := [.data, .data, .data, .sentinel, .sentinel], laidTests := true, laidLooks := .later }
def LexEndsCardSaid : Prop := Claim7.holds Tryd.pinned (.plain (OpenSpec.ofChange lexEndsSpec)) lexEndsCard

/-- THE TIED CARD OF 'yuccalaw6.LexLong'. -/
def lexLongCard : Claim7 := { stood := { row := lexLongRow, standIns := [], harness := (true, "87a9f01fa342291b9641a89d237f86aa983790b8c21f8ecb81e1a8ddee77373d"), looks := true }, kinds := [], alts := [], laidByText := true, laidKinds := [.data, .data, .data, .sentinel, .sentinel], laidTests := true, laidLooks := .later }
def LexLongCardSaid : Prop := Claim7.holds Tryd.pinned (.plain (OpenSpec.ofChange lexLongSpec)) lexLongCard

/-- THE TIED CARD OF 'yuccalaw6.LexKeys'. -/
def lexKeysCard : Claim7 := { stood := { row := lexKeysRow, standIns := [], harness := (true, "87a9f01fa342291b9641a89d237f86aa983790b8c21f8ecb81e1a8ddee77373d"), looks := true }, kinds := [], alts := [], laidByText := true, laidKinds := [.data, .data, .data, .sentinel, .sentinel], laidTests := true, laidLooks := .later }
def LexKeysCardSaid : Prop := Claim7.holds Tryd.pinned (.plain (OpenSpec.ofChange lexKeysSpec)) lexKeysCard

/-- THE TIED CARD OF 'yuccalaw8.PrintSyms'. -/
def printSymsCard : Claim7 := { stood := { row := printSymsRow, standIns := [], harness := (true, "87a9f01fa342291b9641a89d237f86aa983790b8c21f8ecb81e1a8ddee77373d"), looks := true }, kinds := [], alts := [], laidByText := true, laidKinds := [.data, .data, .data], laidTests := true, laidLooks := .later }
def PrintSymsCardSaid : Prop := Claim7.holds Tryd.pinned (.plain (OpenSpec.ofChange printSymsSpec)) printSymsCard

/-- THE SECOND FORM's CARD OF 'yuccalaw5.BodyEnds'. -/
def bodyEndsUptoCard : Claim7 := { stood := { row := bodyEndsUptoRow, standIns := [], harness := (true, "87a9f01fa342291b9641a89d237f86aa983790b8c21f8ecb81e1a8ddee77373d"), looks := true }, kinds := [], alts := [], laidByText := true, laidKinds := [.data, .data, .data, .sentinel, .sentinel], laidTests := true, laidLooks := .later }
def BodyEndsUptoCardSaid : Prop := Claim7.holds Tryd.pinned (.plain (OpenSpec.upto bodyEndsSpec)) bodyEndsUptoCard

/-- THE SECOND FORM's CARD OF 'yuccalaw5.BodyJoins'. -/
def bodyJoinsUptoCard : Claim7 := { stood := { row := bodyJoinsUptoRow, standIns := [], harness := (true, "87a9f01fa342291b9641a89d237f86aa983790b8c21f8ecb81e1a8ddee77373d"), looks := true }, kinds := [], alts := [], laidByText := true, laidKinds := [.data, .data, .data, .sentinel, .sentinel], laidTests := true, laidLooks := .later }
def BodyJoinsUptoCardSaid : Prop := Claim7.holds Tryd.pinned (.plain (OpenSpec.upto bodyJoinsSpec)) bodyJoinsUptoCard

/-- THE SECOND FORM's CARD OF 'yuccalaw5.BodyBack'. -/
def bodyBackUptoCard : Claim7 := { stood := { row := bodyBackUptoRow, standIns := [], harness := (true, "87a9f01fa342291b9641a89d237f86aa983790b8c21f8ecb81e1a8ddee77373d"), looks := true }, kinds := [], alts := [], laidByText := true, laidKinds := [.data, .data, .data, .sentinel, .sentinel], laidTests := true, laidLooks := .later }
def BodyBackUptoCardSaid : Prop := Claim7.holds Tryd.pinned (.plain (OpenSpec.upto bodyBackSpec)) bodyBackUptoCard

/-- THE SECOND FORM's CARD OF 'yuccalaw5.BodySkips'. -/
def bodySkipsUptoCard : Claim7 := { stood := { row := bodySkipsUptoRow, standIns := [], harness := (true, "87a9f01fa342291b9641a89d237f86aa983790b8c21f8ecb81e1a8ddee77373d"), looks := true }, kinds := [], alts := [], laidByText := true, laidKinds := [.data, .data, .data, .sentinel, .sentinel], laidTests := true, laidLooks := .later }
def BodySkipsUptoCardSaid : Prop := Claim7.holds Tryd.pinned (.plain (OpenSpec.upto bodySkipsSpec)) bodySkipsUptoCard

/-- THE SECOND FORM's CARD OF 'yuccalaw5.BodyParts'. -/
def bodyPartsUptoCard : Claim7 := { stood := { row := bodyPartsUptoRow, standIns := [], harness := (true, "87a9f01fa342291b9641a89d237f86aa983790b8c21f8ecb81e1a8ddee77373d"), looks := true }, kinds := [], alts := [], laidByText := true, laidKinds := [.data, .data, .data, .sentinel, .sentinel], laidTests := true, laidLooks := .later }
def BodyPartsUptoCardSaid : Prop := Claim7.holds Tryd.pinned (.plain (OpenSpec.upto bodyPartsSpec)) bodyPartsUptoCard

/-- THE SECOND FORM's CARD OF 'yuccalaw6.LexWords'. -/
def lexWordsUptoCard : Claim7 := { stood := { row := lexWordsUptoRow, standIns := [], harness := (true, "87a9f01fa342291b9641a89d237f86aa983790b8c21f8ecb81e1a8ddee77373d"), looks := true }, kinds := [], alts := [], laidByText := true, laidKinds := [.data, .data, .data, .sentinel, .sentinel], laidTests := true, laidLooks := .later }
def LexWordsUptoCardSaid : Prop := Claim7.holds Tryd.pinned (.plain (OpenSpec.upto lexWordsSpec)) lexWordsUptoCard

/-- THE SECOND FORM's CARD OF 'yuccalaw6.LexBytes'. -/
def lexBytesUptoCard : Claim7 := { stood := { row := lexBytesUptoRow, standIns := [], harness := (true, "87a9f01fa342291b9641a89d237f86aa983790b8c21f8ecb81e1a8ddee77373d"), looks := true }, kinds := [], alts := [], laidByText := true, laidKinds := [.data, .data, .data, .sentinel, .sentinel], laidTests := true, laidLooks := .later }
def LexBytesUptoCardSaid : Prop := Claim7.holds Tryd.pinned (.plain (OpenSpec.upto lexBytesSpec)) lexBytesUptoCard

/-- THE SECOND FORM's CARD OF 'yuccalaw6.LexJoins'. -/
def lexJoinsUptoCard : Claim7 := { stood := { row := lexJoinsUptoRow, standIns := [], harness := (true, "87a9f01fa342291b9641a89d237f86aa983790b8c21f8ecb81e1a8ddee77373d"), looks := true }, kinds := [], alts := [], laidByText := true, laidKinds := [.data, .data, .data, .sentinel, .sentinel], laidTests := true, laidLooks := .later }
def LexJoinsUptoCardSaid : Prop := Claim7.holds Tryd.pinned (.plain (OpenSpec.upto lexJoinsSpec)) lexJoinsUptoCard

/-- THE SECOND FORM's CARD OF 'yuccalaw6.LexEnds'. -/
def lexEndsUptoCard : Claim7 := { stood := { row := lexEndsUptoRow, standIns := [], harness := (true, "87a9f01fa342291b9641a89d237f86aa983790b8c21f8ecb81e1a8ddee77373d"), looks := true }, kinds := [], alts := [], laidByText := true, laidKinds := [.data, .data, .data, .sentinel, .sentinel], laidTests := true, laidLooks := .later }
def LexEndsUptoCardSaid : Prop := Claim7.holds Tryd.pinned (.plain (OpenSpec.upto lexEndsSpec)) lexEndsUptoCard

/-- THE SECOND FORM's CARD OF 'yuccalaw6.LexLong'. -/
def lexLongUptoCard : Claim7 := { stood := { row := lexLongUptoRow, standIns := [], harness := (true, "87a9f01fa342291b9641a89d237f86aa983790b8c21f8ecb81e1a8ddee77373d"), looks := true }, kinds := [], alts := [], laidByText := true, laidKinds := [.data, .data, .data, .sentinel, .sentinel], laidTests := true, laidLooks := .later }
def LexLongUptoCardSaid : Prop := Claim7.holds Tryd.pinned (.plain (OpenSpec.upto lexLongSpec)) lexLongUptoCard

/-- THE SECOND FORM's CARD OF 'yuccalaw6.LexKeys'. -/
def lexKeysUptoCard : Claim7 := { stood := { row := lexKeysUptoRow, standIns := [], harness := (true, "87a9f01fa342291b9641a89d237f86aa983790b8c21f8ecb81e1a8ddee77373d"), looks := true }, kinds := [], alts := [], laidByText := true, laidKinds := [.data, .data, .data, .sentinel, .sentinel], laidTests := true, laidLooks := .later }
def LexKeysUptoCardSaid : Prop := Claim7.holds Tryd.pinned (.plain (OpenSpec.upto lexKeysSpec)) lexKeysUptoCard

/-- THE SECOND FORM's CARD OF 'yuccalaw8.PrintSyms'. -/
def printSymsUptoCard : Claim7 := { stood := { row := printSymsUptoRow, standIns := [], harness := (true, "87a9f01fa342291b9641a89d237f86aa983790b8c21f8ecb81e1a8ddee77373d"), looks := true }, kinds := [], alts := [], laidByText := true, laidKinds := [.data, .data, .data], laidTests := true, laidLooks := .later }
def PrintSymsUptoCardSaid : Prop := Claim7.holds Tryd.pinned (.plain (OpenSpec.upto printSymsSpec)) printSymsUptoCard
end Rows
end Go.Proofs.YticdgfljaphhgaaDoor
