/-
  DERIVED. GIVEN WITH THE SEED: THE CARDS: each row of YthmimcegiihcnaaGreatDoorRows.lean that lists a variable, with what it lists TIED to the program's text (the seventh form; the later family's looks); each row that meets fmt, with fmt's text TOLD by the authors' own Lean function (tested against real Go, not proved from fmt's source: count such statements apart). THE CARD IS WHAT COUNTS. Prove the row's statement (the work); the ties are given (YthmimcegiihcnaaGreatDoorTie.lean); close each card by the builder's one call (the guide's Derived/Test/ToyasCard.lean, 'card_holds'). Laid BY PROGRAM, IN A SANDBOX (cutbox-door.mjs). By AI agents, Wed Nov 11 2026. No macro, syntax, notation, axiom, sorry.
-/
import Derived.Test.YthmimcegiihcnaaGreatDoorRows
import GoSem.ClaimSeven
namespace Go.Proofs.YthmimcegiihcnaaGreatDoor
namespace Rows

/-- THE TIED CARD OF 'yuccalaw8.PrintTells'. -/
def printTellsCard : Claim7 := { stood := { row := printTellsRow, standIns := [], harness := (true, "3b868a13a8374e8fe966f39a9c70ca6c719a903b491663da53a898719bdcabbd"), looks := false }, kinds := [], alts := [], laidByText := true, laidKinds := [.data, .data, .data], laidTests := true, laidLooks := .later }
def PrintTellsCardSaid : Prop := Claim7.holds Tryz.pinned (.plain (OpenSpec.ofChange printTellsSpec)) printTellsCard

/-- THE TIED CARD OF 'yuccalaw9.GramTells'. -/
def gramTellsCard : Claim7 := { stood := { row := gramTellsRow, standIns := [], harness := (true, "3b868a13a8374e8fe966f39a9c70ca6c719a903b491663da53a898719bdcabbd"), looks := false }, kinds := [], alts := [], laidByText := true, laidKinds := [.data, .data, .data], laidTests := true, laidLooks := .later }
def GramTellsCardSaid : Prop := Claim7.holds Tryz.pinned (.plain (OpenSpec.ofChange gramTellsSpec)) gramTellsCard

/-- THE TIED CARD OF 'yuccalaw9.GramNames'. -/
def gramNamesCard : Claim7 := { stood := { row := gramNamesRow, standIns := [], harness := (true, "3b868a13a8374e8fe966f39a9c70ca6c719a903b491663da53a898719bdcabbd"), looks := false }, kinds := [], alts := [], laidByText := true, laidKinds := [.data, .data, .data], laidTests := true, laidLooks := .later }
def GramNamesCardSaid : Prop := Claim7.holds Tryz.pinned (.plain (OpenSpec.ofChange gramNamesSpec)) gramNamesCard

/-- THE SECOND FORM's CARD OF 'yuccalaw8.PrintTells'. -/
def printTellsUptoCard : Claim7 := { stood := { row := printTellsUptoRow, standIns := [], harness := (true, "3b868a13a8374e8fe966f39a9c70ca6c719a903b491663da53a898719bdcabbd"), looks := false }, kinds := [], alts := [], laidByText := true, laidKinds := [.data, .data, .data], laidTests := true, laidLooks := .later }
def PrintTellsUptoCardSaid : Prop := Claim7.holds Tryz.pinned (.plain (OpenSpec.upto printTellsSpec)) printTellsUptoCard

/-- THE SECOND FORM's CARD OF 'yuccalaw9.GramTells'. -/
def gramTellsUptoCard : Claim7 := { stood := { row := gramTellsUptoRow, standIns := [], harness := (true, "3b868a13a8374e8fe966f39a9c70ca6c719a903b491663da53a898719bdcabbd"), looks := false }, kinds := [], alts := [], laidByText := true, laidKinds := [.data, .data, .data], laidTests := true, laidLooks := .later }
def GramTellsUptoCardSaid : Prop := Claim7.holds Tryz.pinned (.plain (OpenSpec.upto gramTellsSpec)) gramTellsUptoCard

/-- THE SECOND FORM's CARD OF 'yuccalaw9.GramNames'. -/
def gramNamesUptoCard : Claim7 := { stood := { row := gramNamesUptoRow, standIns := [], harness := (true, "3b868a13a8374e8fe966f39a9c70ca6c719a903b491663da53a898719bdcabbd"), looks := false }, kinds := [], alts := [], laidByText := true, laidKinds := [.data, .data, .data], laidTests := true, laidLooks := .later }
def GramNamesUptoCardSaid : Prop := Claim7.holds Tryz.pinned (.plain (OpenSpec.upto gramNamesSpec)) gramNamesUptoCard
end Rows
end Go.Proofs.YthmimcegiihcnaaGreatDoor
