/-
  DERIVED. GIVEN WITH THE SEED: THE CARDS: each row of YthmimcegiihcnaaDoorRows.lean that lists a variable, with what it lists TIED to the program's text (the seventh form; the later family's looks); each row that meets fmt, with fmt's text TOLD by the authors' own Lean function (tested against real Go, not proved from fmt's source: count such statements apart). THE CARD IS WHAT COUNTS. Prove the row's statement (the work); the ties are given (YthmimcegiihcnaaDoorTie.lean); close each card by the builder's one call (the guide's Derived/Test/ToyasCard.lean, 'card_holds'). Laid BY PROGRAM, IN A SANDBOX (cutbox-door.mjs). By AI agents, Wed Nov 11 2026. No macro, syntax, notation, axiom, sorry.
-/
import Derived.Test.YthmimcegiihcnaaDoorRows
import GoSem.ClaimSeven
namespace Go.Proofs.YthmimcegiihcnaaDoor
namespace Rows

/-- THE TIED CARD OF 'yuccalaw8.PrintOne'. -/
def printOneCard : Claim7 := { stood := { row := printOneRow, standIns := [], harness := (true, "61645edaa0fc987148de1fb0f27eb82f0e775e8f00de5af8cea76a46791a2296"), looks := false }, kinds := [], alts := [], laidByText := true, laidKinds := [.data, .data, .data], laidTests := true, laidLooks := .later }
def PrintOneCardSaid : Prop := Claim7.holds Tryd.pinned (.plain (OpenSpec.ofChange printOneSpec)) printOneCard

/-- THE TIED CARD OF 'yuccalaw8.PrintSyms'. -/
def printSymsCard : Claim7 := { stood := { row := printSymsRow, standIns := [], harness := (true, "61645edaa0fc987148de1fb0f27eb82f0e775e8f00de5af8cea76a46791a2296"), looks := false }, kinds := [], alts := [], laidByText := true, laidKinds := [.data, .data, .data], laidTests := true, laidLooks := .later }
def PrintSymsCardSaid : Prop := Claim7.holds Tryd.pinned (.plain (OpenSpec.ofChange printSymsSpec)) printSymsCard

/-- THE TIED CARD OF 'yuccalaw9.GramNums'. -/
def gramNumsCard : Claim7 := { stood := { row := gramNumsRow, standIns := [], harness := (true, "61645edaa0fc987148de1fb0f27eb82f0e775e8f00de5af8cea76a46791a2296"), looks := false }, kinds := [], alts := [], laidByText := true, laidKinds := [.data, .data, .data], laidTests := true, laidLooks := .later }
def GramNumsCardSaid : Prop := Claim7.holds Tryd.pinned (.plain (OpenSpec.ofChange gramNumsSpec)) gramNumsCard

/-- THE TIED CARD OF 'yuccalaw9.GramLevels'. -/
def gramLevelsCard : Claim7 := { stood := { row := gramLevelsRow, standIns := [], harness := (true, "61645edaa0fc987148de1fb0f27eb82f0e775e8f00de5af8cea76a46791a2296"), looks := false }, kinds := [], alts := [], laidByText := true, laidKinds := [.data, .data, .data], laidTests := true, laidLooks := .later }
def GramLevelsCardSaid : Prop := Claim7.holds Tryd.pinned (.plain (OpenSpec.ofChange gramLevelsSpec)) gramLevelsCard

/-- THE TIED CARD OF 'yuccalaw9.GramInner'. -/
def gramInnerCard : Claim7 := { stood := { row := gramInnerRow, standIns := [], harness := (true, "61645edaa0fc987148de1fb0f27eb82f0e775e8f00de5af8cea76a46791a2296"), looks := false }, kinds := [], alts := [], laidByText := true, laidKinds := [.data, .data, .data], laidTests := true, laidLooks := .later }
def GramInnerCardSaid : Prop := Claim7.holds Tryd.pinned (.plain (OpenSpec.ofChange gramInnerSpec)) gramInnerCard

/-- THE TIED CARD OF 'yuccalaw9.GramLimits'. -/
def gramLimitsCard : Claim7 := { stood := { row := gramLimitsRow, standIns := [], harness := (true, "61645edaa0fc987148de1fb0f27eb82f0e775e8f00de5af8cea76a46791a2296"), looks := false }, kinds := [], alts := [], laidByText := true, laidKinds := [.data, .data, .data], laidTests := true, laidLooks := .later }
def GramLimitsCardSaid : Prop := Claim7.holds Tryd.pinned (.plain (OpenSpec.ofChange gramLimitsSpec)) gramLimitsCard

/-- THE TIED CARD OF 'yuccalaw9.GramPasses'. -/
def gramPassesCard : Claim7 := { stood := { row := gramPassesRow, standIns := [], harness := (true, "61645edaa0fc987148de1fb0f27eb82f0e775e8f00de5af8cea76a46791a2296"), looks := false }, kinds := [], alts := [], laidByText := true, laidKinds := [.data, .data, .data], laidTests := true, laidLooks := .later }
def GramPassesCardSaid : Prop := Claim7.holds Tryd.pinned (.plain (OpenSpec.ofChange gramPassesSpec)) gramPassesCard

/-- THE TIED CARD OF 'yuccalaw9.GramStart'. -/
def gramStartCard : Claim7 := { stood := { row := gramStartRow, standIns := [], harness := (true, "61645edaa0fc987148de1fb0f27eb82f0e775e8f00de5af8cea76a46791a2296"), looks := false }, kinds := [], alts := [], laidByText := true, laidKinds := [.data, .data, .data], laidTests := true, laidLooks := .later }
def GramStartCardSaid : Prop := Claim7.holds Tryd.pinned (.plain (OpenSpec.ofChange gramStartSpec)) gramStartCard

/-- THE TIED CARD OF 'yuccalaw9.GramTags'. -/
def gramTagsCard : Claim7 := { stood := { row := gramTagsRow, standIns := [], harness := (true, "61645edaa0fc987148de1fb0f27eb82f0e775e8f00de5af8cea76a46791a2296"), looks := false }, kinds := [], alts := [], laidByText := true, laidKinds := [.data, .data, .data], laidTests := true, laidLooks := .later }
def GramTagsCardSaid : Prop := Claim7.holds Tryd.pinned (.plain (OpenSpec.ofChange gramTagsSpec)) gramTagsCard

/-- THE SECOND FORM's CARD OF 'yuccalaw8.PrintOne'. -/
def printOneUptoCard : Claim7 := { stood := { row := printOneUptoRow, standIns := [], harness := (true, "61645edaa0fc987148de1fb0f27eb82f0e775e8f00de5af8cea76a46791a2296"), looks := false }, kinds := [], alts := [], laidByText := true, laidKinds := [.data, .data, .data], laidTests := true, laidLooks := .later }
def PrintOneUptoCardSaid : Prop := Claim7.holds Tryd.pinned (.plain (OpenSpec.upto printOneSpec)) printOneUptoCard

/-- THE SECOND FORM's CARD OF 'yuccalaw8.PrintSyms'. -/
def printSymsUptoCard : Claim7 := { stood := { row := printSymsUptoRow, standIns := [], harness := (true, "61645edaa0fc987148de1fb0f27eb82f0e775e8f00de5af8cea76a46791a2296"), looks := false }, kinds := [], alts := [], laidByText := true, laidKinds := [.data, .data, .data], laidTests := true, laidLooks := .later }
def PrintSymsUptoCardSaid : Prop := Claim7.holds Tryd.pinned (.plain (OpenSpec.upto printSymsSpec)) printSymsUptoCard

/-- THE SECOND FORM's CARD OF 'yuccalaw9.GramNums'. -/
def gramNumsUptoCard : Claim7 := { stood := { row := gramNumsUptoRow, standIns := [], harness := (true, "61645edaa0fc987148de1fb0f27eb82f0e775e8f00de5af8cea76a46791a2296"), looks := false }, kinds := [], alts := [], laidByText := true, laidKinds := [.data, .data, .data], laidTests := true, laidLooks := .later }
def GramNumsUptoCardSaid : Prop := Claim7.holds Tryd.pinned (.plain (OpenSpec.upto gramNumsSpec)) gramNumsUptoCard

/-- THE SECOND FORM's CARD OF 'yuccalaw9.GramLevels'. -/
def gramLevelsUptoCard : Claim7 := { stood := { row := gramLevelsUptoRow, standIns := [], harness := (true, "61645edaa0fc987148de1fb0f27eb82f0e775e8f00de5af8cea76a46791a2296"), looks := false }, kinds := [], alts := [], laidByText := true, laidKinds := [.data, .data, .data], laidTests := true, laidLooks := .later }
def GramLevelsUptoCardSaid : Prop := Claim7.holds Tryd.pinned (.plain (OpenSpec.upto gramLevelsSpec)) gramLevelsUptoCard

/-- THE SECOND FORM's CARD OF 'yuccalaw9.GramInner'. -/
def gramInnerUptoCard : Claim7 := { stood := { row := gramInnerUptoRow, standIns := [], harness := (true, "61645edaa0fc987148de1fb0f27eb82f0e775e8f00de5af8cea76a46791a2296"), looks := false }, kinds := [], alts := [], laidByText := true, laidKinds := [.data, .data, .data], laidTests := true, laidLooks := .later }
def GramInnerUptoCardSaid : Prop := Claim7.holds Tryd.pinned (.plain (OpenSpec.upto gramInnerSpec)) gramInnerUptoCard

/-- THE SECOND FORM's CARD OF 'yuccalaw9.GramLimits'. -/
def gramLimitsUptoCard : Claim7 := { stood := { row := gramLimitsUptoRow, standIns := [], harness := (true, "61645edaa0fc987148de1fb0f27eb82f0e775e8f00de5af8cea76a46791a2296"), looks := false }, kinds := [], alts := [], laidByText := true, laidKinds := [.data, .data, .data], laidTests := true, laidLooks := .later }
def GramLimitsUptoCardSaid : Prop := Claim7.holds Tryd.pinned (.plain (OpenSpec.upto gramLimitsSpec)) gramLimitsUptoCard

/-- THE SECOND FORM's CARD OF 'yuccalaw9.GramPasses'. -/
def gramPassesUptoCard : Claim7 := { stood := { row := gramPassesUptoRow, standIns := [], harness := (true, "61645edaa0fc987148de1fb0f27eb82f0e775e8f00de5af8cea76a46791a2296"), looks := false }, kinds := [], alts := [], laidByText := true, laidKinds := [.data, .data, .data], laidTests := true, laidLooks := .later }
def GramPassesUptoCardSaid : Prop := Claim7.holds Tryd.pinned (.plain (OpenSpec.upto gramPassesSpec)) gramPassesUptoCard

/-- THE SECOND FORM's CARD OF 'yuccalaw9.GramStart'. -/
def gramStartUptoCard : Claim7 := { stood := { row := gramStartUptoRow, standIns := [], harness := (true, "61645edaa0fc987148de1fb0f27eb82f0e775e8f00de5af8cea76a46791a2296"), looks := false }, kinds := [], alts := [], laidByText := true, laidKinds := [.data, .data, .data], laidTests := true, laidLooks := .later }
def GramStartUptoCardSaid : Prop := Claim7.holds Tryd.pinned (.plain (OpenSpec.upto gramStartSpec)) gramStartUptoCard

/-- THE SECOND FORM's CARD OF 'yuccalaw9.GramTags'. -/
def gramTagsUptoCard : Claim7 := { stood := { row := gramTagsUptoRow, standIns := [], harness := (true, "61645edaa0fc987148de1fb0f27eb82f0e775e8f00de5af8cea76a46791a2296"), looks := false }, kinds := [], alts := [], laidByText := true, laidKinds := [.data, .data, .data], laidTests := true, laidLooks := .later }
def GramTagsUptoCardSaid : Prop := Claim7.holds Tryd.pinned (.plain (OpenSpec.upto gramTagsSpec)) gramTagsUptoCard
end Rows
end Go.Proofs.YthmimcegiihcnaaDoor
