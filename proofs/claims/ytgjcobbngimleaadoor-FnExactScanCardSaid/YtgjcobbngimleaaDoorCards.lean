/-
  DERIVED. GIVEN WITH THE SEED: THE CARDS: each row of YtgjcobbngimleaaDoorRows.lean that lists a variable, with what it lists TIED to the program's text (the seventh form; the later family's looks); each row that meets fmt, with fmt's text TOLD by the authors' own Lean function (tested against real Go, not proved from fmt's source: count such statements apart). THE CARD IS WHAT COUNTS. Prove the row's statement (the work); the ties are given (YtgjcobbngimleaaDoorTie.lean); close each card by the builder's one call (the guide's Derived/Test/ToyasCard.lean, 'card_holds'). Laid BY PROGRAM, IN A SANDBOX (cutbox-door.mjs). By AI agents, Wed Nov 11 2026. No macro, syntax, notation, axiom, sorry.
-/
import Derived.Test.YtgjcobbngimleaaDoorRows
import GoSem.ClaimSeven
namespace Go.Proofs.YtgjcobbngimleaaDoor
namespace Rows

/-- THE TIED CARD OF 'laws.FnExactBuilt'. -/
def fnExactBuiltCard : Claim7 := { stood := { row := fnExactBuiltRow, standIns := [], harness := (true, "a14200f8ef4faa0c46ea9de76dfb8fd54282b038290aa4fc92f11a43f44a7fce"), looks := true }, kinds := [], alts := [], laidByText := true, laidKinds := [.data, .data, .data, .sentinel, .sentinel, .data], laidTests := true, laidLooks := .later }
def FnExactBuiltCardSaid : Prop := Claim7.holds Tryd.pinned (.plain (OpenSpec.ofChange fnExactBuiltSpec)) fnExactBuiltCard

/-- THE TIED CARD OF 'laws.FnValues'. -/
def fnValuesCard : Claim7 := { stood := { row := fnValuesRow, standIns := [], harness := (true, "a14200f8ef4faa0c46ea9de76dfb8fd54282b038290aa4fc92f11a43f44a7fce"), looks := true }, kinds := [], alts := [], laidByText := true, laidKinds := [.data, .data, .data, .sentinel, .sentinel, .data], laidTests := true, laidLooks := .later }
def FnValuesCardSaid : Prop := Claim7.holds Tryd.pinned (.plain (OpenSpec.ofChange fnValuesSpec)) fnValuesCard

/-- THE TIED CARD OF 'laws.FnExactScan'. -/
def fnExactScanCard : Claim7 := { stood := { row := fnExactScanRow, standIns := [], harness := (true, "a14200f8ef4faa0c46ea9de76dfb8fd54282b038290aa4fc92f11a43f44a7fce"), looks := true }, kinds := [], alts := [], laidByText := true, laidKinds := [.data, .data, .data, .sentinel, .sentinel, .listed, .data, .data, .data], laidTests := true, laidLooks := .later }
def FnExactScanCardSaid : Prop := Claim7.holds Tryd.pinned (.plain (OpenSpec.ofChange fnExactScanSpec)) fnExactScanCard

/-- THE SECOND FORM's CARD OF 'laws.FnExactBuilt'. -/
def fnExactBuiltUptoCard : Claim7 := { stood := { row := fnExactBuiltUptoRow, standIns := [], harness := (true, "a14200f8ef4faa0c46ea9de76dfb8fd54282b038290aa4fc92f11a43f44a7fce"), looks := true }, kinds := [], alts := [], laidByText := true, laidKinds := [.data, .data, .data, .sentinel, .sentinel, .data], laidTests := true, laidLooks := .later }
def FnExactBuiltUptoCardSaid : Prop := Claim7.holds Tryd.pinned (.plain (OpenSpec.upto fnExactBuiltSpec)) fnExactBuiltUptoCard

/-- THE SECOND FORM's CARD OF 'laws.FnValues'. -/
def fnValuesUptoCard : Claim7 := { stood := { row := fnValuesUptoRow, standIns := [], harness := (true, "a14200f8ef4faa0c46ea9de76dfb8fd54282b038290aa4fc92f11a43f44a7fce"), looks := true }, kinds := [], alts := [], laidByText := true, laidKinds := [.data, .data, .data, .sentinel, .sentinel, .data], laidTests := true, laidLooks := .later }
def FnValuesUptoCardSaid : Prop := Claim7.holds Tryd.pinned (.plain (OpenSpec.upto fnValuesSpec)) fnValuesUptoCard

/-- THE SECOND FORM's CARD OF 'laws.FnExactScan'. -/
def fnExactScanUptoCard : Claim7 := { stood := { row := fnExactScanUptoRow, standIns := [], harness := (true, "a14200f8ef4faa0c46ea9de76dfb8fd54282b038290aa4fc92f11a43f44a7fce"), looks := true }, kinds := [], alts := [], laidByText := true, laidKinds := [.data, .data, .data, .sentinel, .sentinel, .listed, .data, .data, .data], laidTests := true, laidLooks := .later }
def FnExactScanUptoCardSaid : Prop := Claim7.holds Tryd.pinned (.plain (OpenSpec.upto fnExactScanSpec)) fnExactScanUptoCard
end Rows
end Go.Proofs.YtgjcobbngimleaaDoor
