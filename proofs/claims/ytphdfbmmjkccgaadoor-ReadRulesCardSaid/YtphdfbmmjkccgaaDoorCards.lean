/-
  DERIVED. GIVEN WITH THE SEED: THE CARDS: each row of YtphdfbmmjkccgaaDoorRows.lean that lists a variable, with what it lists TIED to the program's text (the seventh form; the later family's looks); each row that meets fmt, with fmt's text TOLD by the authors' own Lean function (tested against real Go, not proved from fmt's source: count such statements apart). THE CARD IS WHAT COUNTS. Prove the row's statement (the work); the ties are given (YtphdfbmmjkccgaaDoorTie.lean); close each card by the builder's one call (the guide's Derived/Test/ToyasCard.lean, 'card_holds'). Laid BY PROGRAM, IN A SANDBOX (cutbox-door.mjs). By AI agents, Wed Nov 11 2026. No macro, syntax, notation, axiom, sorry.
-/
import Derived.Test.YtphdfbmmjkccgaaDoorRows
import GoSem.ClaimSeven
namespace Go.Proofs.YtphdfbmmjkccgaaDoor
namespace Rows

/-- THE TIED CARD OF 'yuccalaw7.ReadRules'. -/
def readRulesCard : Claim7 := { stood := { row := readRulesRow, standIns := [], harness := (true, "712e5a3ba2de6839ba3fe5f042d61be0d508f45ec4a15f5f58a4839a0c155843"), looks := true }, kinds := [], alts := [], laidByText := true, laidKinds := [.data, .data, .data, .sentinel, .sentinel], laidTests := true, laidLooks := .later }
def ReadRulesCardSaid : Prop := Claim7.holds Tryd.pinned (.plain (OpenSpec.ofChange readRulesSpec)) readRulesCard

/-- THE TIED CARD OF 'yuccalaw7.ReadDecls'. -/
def readDeclsCard : Claim7 := { stood := { row := readDeclsRow, standIns := [], harness := (true, "712e5a3ba2de6839ba3fe5f042d61be0d508f45ec4a15f5f58a4839a0c155843"), looks := true }, kinds := [], alts := [], laidByText := true, laidKinds := [.data, .data, .data, .sentinel, .sentinel], laidTests := true, laidLooks := .later }
def ReadDeclsCardSaid : Prop := Claim7.holds Tryd.pinned (.plain (OpenSpec.ofChange readDeclsSpec)) readDeclsCard

/-- THE TIED CARD OF 'yuccalaw27.SubstRange'. -/
def substRangeCard : Claim7 := { stood := { row := substRangeRow, standIns := [], harness := (true, "712e5a3ba2de6839ba3fe5f042d61be0d508f45ec4a15f5f58a4839a0c155843"), looks := true }, kinds := [], alts := [], laidByText := true, laidKinds := [.data, .data, .data, .sentinel, .sentinel], laidTests := true, laidLooks := .later }
def SubstRangeCardSaid : Prop := Claim7.holds Tryd.pinned (.plain (OpenSpec.ofChange substRangeSpec)) substRangeCard

/-- THE SECOND FORM's CARD OF 'yuccalaw7.ReadRules'. -/
def readRulesUptoCard : Claim7 := { stood := { row := readRulesUptoRow, standIns := [], harness := (true, "712e5a3ba2de6839ba3fe5f042d61be0d508f45ec4a15f5f58a4839a0c155843"), looks := true }, kinds := [], alts := [], laidByText := true, laidKinds := [.data, .data, .data, .sentinel, .sentinel], laidTests := true, laidLooks := .later }
def ReadRulesUptoCardSaid : Prop := Claim7.holds Tryd.pinned (.plain (OpenSpec.upto readRulesSpec)) readRulesUptoCard

/-- THE SECOND FORM's CARD OF 'yuccalaw7.ReadDecls'. -/
def readDeclsUptoCard : Claim7 := { stood := { row := readDeclsUptoRow, standIns := [], harness := (true, "712e5a3ba2de6839ba3fe5f042d61be0d508f45ec4a15f5f58a4839a0c155843"), looks := true }, kinds := [], alts := [], laidByText := true, laidKinds := [.data, .data, .data, .sentinel, .sentinel], laidTests := true, laidLooks := .later }
def ReadDeclsUptoCardSaid : Prop := Claim7.holds Tryd.pinned (.plain (OpenSpec.upto readDeclsSpec)) readDeclsUptoCard

/-- THE SECOND FORM's CARD OF 'yuccalaw27.SubstRange'. -/
def substRangeUptoCard : Claim7 := { stood := { row := substRangeUptoRow, standIns := [], harness := (true, "712e5a3ba2de6839ba3fe5f042d61be0d508f45ec4a15f5f58a4839a0c155843"), looks := true }, kinds := [], alts := [], laidByText := true, laidKinds := [.data, .data, .data, .sentinel, .sentinel], laidTests := true, laidLooks := .later }
def SubstRangeUptoCardSaid : Prop := Claim7.holds Tryd.pinned (.plain (OpenSpec.upto substRangeSpec)) substRangeUptoCard
end Rows
end Go.Proofs.YtphdfbmmjkccgaaDoor
