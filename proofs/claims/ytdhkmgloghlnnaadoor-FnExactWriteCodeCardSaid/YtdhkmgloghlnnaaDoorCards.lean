/-
  DERIVED. GIVEN WITH THE SEED: THE CARDS: each row of YtdhkmgloghlnnaaDoorRows.lean that lists a variable, with what it lists TIED to the program's text (the seventh form; the later family's looks); each row that meets fmt, with fmt's text TOLD by the authors' own Lean function (tested against real Go, not proved from fmt's source: count such statements apart). THE CARD IS WHAT COUNTS. Prove the row's statement (the work); the ties are given (YtdhkmgloghlnnaaDoorTie.lean); close each card by the builder's one call (the guide's Derived/Test/ToyasCard.lean, 'card_holds'). Laid BY PROGRAM, IN A SANDBOX (cutbox-door.mjs). By AI agents, Wed Nov 11 2026. No macro, syntax, notation, axiom, sorry.
-/
import Derived.Test.YtdhkmgloghlnnaaDoorRows
import GoSem.ClaimSeven
namespace Go.Proofs.YtdhkmgloghlnnaaDoor
namespace Rows

/-- THE TIED CARD OF 'laws.FnExactValidTree'. -/
def fnExactValidTreeCard : Claim7 := { stood := { row := fnExactValidTreeRow, standIns := [], harness := (true, "5cc054d9e6c1ae5a11549a5b1c62d00834758b6b63c5a1159f4b6be2292095d9"), looks := false }, kinds := [], alts := [], laidByText := true, laidKinds := [.listed, .data, .data], laidTests := true, laidLooks := .later }
def FnExactValidTreeCardSaid : Prop := Claim7.holds Tryd.pinned (.plain (OpenSpec.ofChange fnExactValidTreeSpec)) fnExactValidTreeCard

/-- THE TIED CARD OF 'laws.FnExactCheckCode'. -/
def fnExactCheckCodeCard : Claim7 := { stood := { row := fnExactCheckCodeRow, standIns := [], harness := (true, "5cc054d9e6c1ae5a11549a5b1c62d00834758b6b63c5a1159f4b6be2292095d9"), looks := false }, kinds := [], alts := [], laidByText := true, laidKinds := [.listed, .data, .data, .data], laidTests := true, laidLooks := .later }
def FnExactCheckCodeCardSaid : Prop := Claim7.holds Tryd.pinned (.plain (OpenSpec.ofChange fnExactCheckCodeSpec)) fnExactCheckCodeCard

/-- THE TIED CARD OF 'laws.FnExactCheck'. -/
def fnExactCheckCard : Claim7 := { stood := { row := fnExactCheckRow, standIns := [], harness := (true, "5cc054d9e6c1ae5a11549a5b1c62d00834758b6b63c5a1159f4b6be2292095d9"), looks := false }, kinds := [], alts := [], laidByText := true, laidKinds := [.listed, .data, .data, .data], laidTests := true, laidLooks := .later }
def FnExactCheckCardSaid : Prop := Claim7.holds Tryd.pinned (.plain (OpenSpec.ofChange fnExactCheckSpec)) fnExactCheckCard

/-- THE TIED CARD OF 'laws.FnExactWriteCode'. -/
def fnExactWriteCodeCard : Claim7 := { stood := { row := fnExactWriteCodeRow, standIns := [], harness := (true, "5cc054d9e6c1ae5a11549a5b1c62d00834758b6b63c5a1159f4b6be2292095d9"), looks := false }, kinds := [], alts := [], laidByText := true, laidKinds := [.listed, .data, .data, .data], laidTests := true, laidLooks := .later }
def FnExactWriteCodeCardSaid : Prop := Claim7.holds Tryd.pinned (.plain (OpenSpec.ofChange fnExactWriteCodeSpec)) fnExactWriteCodeCard

/-- THE SECOND FORM's CARD OF 'laws.FnExactValidTree'. -/
def fnExactValidTreeUptoCard : Claim7 := { stood := { row := fnExactValidTreeUptoRow, standIns := [], harness := (true, "5cc054d9e6c1ae5a11549a5b1c62d00834758b6b63c5a1159f4b6be2292095d9"), looks := false }, kinds := [], alts := [], laidByText := true, laidKinds := [.listed, .data, .data], laidTests := true, laidLooks := .later }
def FnExactValidTreeUptoCardSaid : Prop := Claim7.holds Tryd.pinned (.plain (OpenSpec.upto fnExactValidTreeSpec)) fnExactValidTreeUptoCard

/-- THE SECOND FORM's CARD OF 'laws.FnExactCheckCode'. -/
def fnExactCheckCodeUptoCard : Claim7 := { stood := { row := fnExactCheckCodeUptoRow, standIns := [], harness := (true, "5cc054d9e6c1ae5a11549a5b1c62d00834758b6b63c5a1159f4b6be2292095d9"), looks := false }, kinds := [], alts := [], laidByText := true, laidKinds := [.listed, .data, .data, .data], laidTests := true, laidLooks := .later }
def FnExactCheckCodeUptoCardSaid : Prop := Claim7.holds Tryd.pinned (.plain (OpenSpec.upto fnExactCheckCodeSpec)) fnExactCheckCodeUptoCard

/-- THE SECOND FORM's CARD OF 'laws.FnExactCheck'. -/
def fnExactCheckUptoCard : Claim7 := { stood := { row := fnExactCheckUptoRow, standIns := [], harness := (true, "5cc054d9e6c1ae5a11549a5b1c62d00834758b6b63c5a1159f4b6be2292095d9"), looks := false }, kinds := [], alts := [], laidByText := true, laidKinds := [.listed, .data, .data, .data], laidTests := true, laidLooks := .later }
def FnExactCheckUptoCardSaid : Prop := Claim7.holds Tryd.pinned (.plain (OpenSpec.upto fnExactCheckSpec)) fnExactCheckUptoCard

/-- THE SECOND FORM's CARD OF 'laws.FnExactWriteCode'. -/
def fnExactWriteCodeUptoCard : Claim7 := { stood := { row := fnExactWriteCodeUptoRow, standIns := [], harness := (true, "5cc054d9e6c1ae5a11549a5b1c62d00834758b6b63c5a1159f4b6be2292095d9"), looks := false }, kinds := [], alts := [], laidByText := true, laidKinds := [.listed, .data, .data, .data], laidTests := true, laidLooks := .later }
def FnExactWriteCodeUptoCardSaid : Prop := Claim7.holds Tryd.pinned (.plain (OpenSpec.upto fnExactWriteCodeSpec)) fnExactWriteCodeUptoCard
end Rows
end Go.Proofs.YtdhkmgloghlnnaaDoor
