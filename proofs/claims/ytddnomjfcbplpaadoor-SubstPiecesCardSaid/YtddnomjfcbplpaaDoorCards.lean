/-
  DERIVED. GIVEN WITH THE SEED: THE CARDS: each row of YtddnomjfcbplpaaDoorRows.lean that lists a variable, with what it lists TIED to the program's text (the seventh form; the later family's looks); each row that meets fmt, with fmt's text TOLD by the authors' own Lean function (tested against real Go, not proved from fmt's source: count such statements apart). THE CARD IS WHAT COUNTS. Prove the row's statement (the work); the ties are given (YtddnomjfcbplpaaDoorTie.lean); close each card by the builder's one call (the guide's Derived/Test/ToyasCard.lean, 'card_holds'). Laid BY PROGRAM, IN A SANDBOX (cutbox-door.mjs). By AI agents, Wed Nov 11 2026. No macro, syntax, notation, axiom, sorry.
-/
import Derived.Test.YtddnomjfcbplpaaDoorRows
import GoSem.ClaimSeven
namespace Go.Proofs.YtddnomjfcbplpaaDoor
namespace Rows

/-- THE TIED CARD OF 'yuccalaw9.GramLevels'. -/
def gramLevelsCard : Claim7 := { stood := { row := gramLevelsRow, standIns := [], harness := (true, "bcabd47cef83eb900320c66c065967266491c3f5e0f825cdbce7f9f3b47ca5a1"), looks := true }, kinds := [], alts := [], laidByText := true, laidKinds := [.data, .data, .data], laidTests := true, laidLooks := .later }
def GramLevelsCardSaid : Prop := Claim7.holds Tryd.pinned (.plain (OpenSpec.ofChange gramLevelsSpec)) gramLevelsCard

/-- THE TIED CARD OF 'yuccalaw27.SubstPieces'. -/
def substPiecesCard : Claim7 := { stood := { row := substPiecesRow, standIns := [], harness := (true, "bcabd47cef83eb900320c66c065967266491c3f5e0f825cdbce7f9f3b47ca5a1"), looks := true }, kinds := [], alts := [], laidByText := true, laidKinds := [.data, .data, .data, .sentinel, .sentinel], laidTests := true, laidLooks := .later }
def SubstPiecesCardSaid : Prop := Claim7.holds Tryd.pinned (.plain (OpenSpec.ofChange substPiecesSpec)) substPiecesCard

/-- THE TIED CARD OF 'yuccalaw27.SubstRange'. -/
def substRangeCard : Claim7 := { stood := { row := substRangeRow, standIns := [], harness := (true, "bcabd47cef83eb900320c66c065967266491c3f5e0f825cdbce7f9f3b47ca5a1"), looks := true }, kinds := [], alts := [], laidByText := true, laidKinds := [.data, .data, .data, .sentinel, .sentinel], laidTests := true, laidLooks := .later }
def SubstRangeCardSaid : Prop := Claim7.holds Tryd.pinned (.plain (OpenSpec.ofChange substRangeSpec)) substRangeCard

/-- THE TIED CARD OF 'yuccalaw27.SubstFar'. -/
def substFarCard : Claim7 := { stood := { row := substFarRow, standIns := [], harness := (true, "bcabd47cef83eb900320c66c065967266491c3f5e0f825cdbce7f9f3b47ca5a1"), looks := true }, kinds := [], alts := [], laidByText := true, laidKinds := [.data, .data, .data, .sentinel, .sentinel], laidTests := true, laidLooks := .later }
def SubstFarCardSaid : Prop := Claim7.holds Tryd.pinned (.plain (OpenSpec.ofChange substFarSpec)) substFarCard

/-- THE SECOND FORM's CARD OF 'yuccalaw9.GramLevels'. -/
def gramLevelsUptoCard : Claim7 := { stood := { row := gramLevelsUptoRow, standIns := [], harness := (true, "bcabd47cef83eb900320c66c065967266491c3f5e0f825cdbce7f9f3b47ca5a1"), looks := true }, kinds := [], alts := [], laidByText := true, laidKinds := [.data, .data, .data], laidTests := true, laidLooks := .later }
def GramLevelsUptoCardSaid : Prop := Claim7.holds Tryd.pinned (.plain (OpenSpec.upto gramLevelsSpec)) gramLevelsUptoCard

/-- THE SECOND FORM's CARD OF 'yuccalaw27.SubstPieces'. -/
def substPiecesUptoCard : Claim7 := { stood := { row := substPiecesUptoRow, standIns := [], harness := (true, "bcabd47cef83eb900320c66c065967266491c3f5e0f825cdbce7f9f3b47ca5a1"), looks := true }, kinds := [], alts := [], laidByText := true, laidKinds := [.data, .data, .data, .sentinel, .sentinel], laidTests := true, laidLooks := .later }
def SubstPiecesUptoCardSaid : Prop := Claim7.holds Tryd.pinned (.plain (OpenSpec.upto substPiecesSpec)) substPiecesUptoCard

/-- THE SECOND FORM's CARD OF 'yuccalaw27.SubstRange'. -/
def substRangeUptoCard : Claim7 := { stood := { row := substRangeUptoRow, standIns := [], harness := (true, "bcabd47cef83eb900320c66c065967266491c3f5e0f825cdbce7f9f3b47ca5a1"), looks := true }, kinds := [], alts := [], laidByText := true, laidKinds := [.data, .data, .data, .sentinel, .sentinel], laidTests := true, laidLooks := .later }
def SubstRangeUptoCardSaid : Prop := Claim7.holds Tryd.pinned (.plain (OpenSpec.upto substRangeSpec)) substRangeUptoCard

/-- THE SECOND FORM's CARD OF 'yuccalaw27.SubstFar'. -/
def substFarUptoCard : Claim7 := { stood := { row := substFarUptoRow, standIns := [], harness := (true, "bcabd47cef83eb900320c66c065967266491c3f5e0f825cdbce7f9f3b47ca5a1"), looks := true }, kinds := [], alts := [], laidByText := true, laidKinds := [.data, .data, .data, .sentinel, .sentinel], laidTests := true, laidLooks := .later }
def SubstFarUptoCardSaid : Prop := Claim7.holds Tryd.pinned (.plain (OpenSpec.upto substFarSpec)) substFarUptoCard
end Rows
end Go.Proofs.YtddnomjfcbplpaaDoor
