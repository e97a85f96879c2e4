/-
  DERIVED. GIVEN WITH THE SEED: THE CARDS: each row of YtojkcmefnmcpiaaGreatDoorRows.lean that lists a variable, with what it lists TIED to the program's text (the seventh form; the later family's looks); each row that meets fmt, with fmt's text TOLD by the authors' own Lean function (tested against real Go, not proved from fmt's source: count such statements apart). THE CARD IS WHAT COUNTS. Prove the row's statement (the work); the ties are given (YtojkcmefnmcpiaaGreatDoorTie.lean); close each card by the builder's one call (the guide's Derived/Test/ToyasCard.lean, 'card_holds'). Laid BY PROGRAM, IN A SANDBOX (cutbox-door.mjs). By AI agents, Wed Nov 11 2026. No macro, syntax, notation, axiom, sorry.
-/
import Derived.Test.YtojkcmefnmcpiaaGreatDoorRows
import GoSem.ClaimSeven
namespace Go.Proofs.YtojkcmefnmcpiaaGreatDoor
namespace Rows

/-- THE TIED CARD OF 'laws.FnExactValidMachine'. -/
def fnExactValidMachineCard : Claim7 := { stood := { row := fnExactValidMachineRow, standIns := [], harness := (true, "e9751a6b24172bbcd0cb2d9e3797b05f908942286303c9b1ddd82136d52060c0"), looks := false }, kinds := [], alts := [], laidByText := true, laidKinds := [.listed, .data, .data, .data], laidTests := true, laidLooks := .later }
def FnExactValidMachineCardSaid : Prop := Claim7.holds Tryz.pinned (.plain (OpenSpec.ofChange fnExactValidMachineSpec)) fnExactValidMachineCard

/-- THE SECOND FORM's CARD OF 'laws.FnExactValidMachine'. -/
def fnExactValidMachineUptoCard : Claim7 := { stood := { row := fnExactValidMachineUptoRow, standIns := [], harness := (true, "e9751a6b24172bbcd0cb2d9e3797b05f908942286303c9b1ddd82136d52060c0"), looks := false }, kinds := [], alts := [], laidByText := true, laidKinds := [.listed, .data, .data, .data], laidTests := true, laidLooks := .later }
def FnExactValidMachineUptoCardSaid : Prop := Claim7.holds Tryz.pinned (.plain (OpenSpec.upto fnExactValidMachineSpec)) fnExactValidMachineUptoCard
end Rows
end Go.Proofs.YtojkcmefnmcpiaaGreatDoor
