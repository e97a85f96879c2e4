/- The card of the law FnExactPrint. Conditions: none. -/
import Derived.Test.YtdhkmgloghlnnaaGreatDoorPg
import Derived.Test.YtdhkmgloghlnnaaGreatDoorCards
import Derived.Test.YtdhkmgloghlnnaaGreatDoorTie
import Derived.SevenTiedAt
namespace Go.Proofs.YtdhkmgloghlnnaaGreatDoor
open Go Go.KM.P1
set_option maxRecDepth 100000
theorem fnExactPrint_holds : Rows.FnExactPrintSaid := over
theorem fnExactPrint_card : Rows.FnExactPrintCardSaid :=
  Claim7.holds_tied_plain_at .later [] [.data, .data, .data, .listed, .data, .data, .data, .data] true (true, "f855a3f97da78521beb63bc5e5d3909a18c65c56a1ef311f4f9b7604e1786576") false
    fnExactPrint_holds (fun _ h => by cases h) (by kernel_rfl) (fun _ h => by cases h) fnExactPrint_row_tie rfl ⟨rfl, rfl⟩ (by kernel_rfl) rfl
    (fun f fn hf hfn => by
      obtain rfl : f = 3 := Option.some.inj ((show Tryz.prog.funcNamed "loop.example/kilnmill/laws.FnExactPrint" = some 3 by kernel_rfl).symm.trans hf) |>.symm
      obtain rfl : fn = Tryz.f3 := (Option.some.inj (Tryz.func3.symm.trans hfn)).symm
      exact ⟨by kernel_rfl, fun j t ht => by
        rw [Tryz.params3] at ht
        have hm : t ∈ [24] := by simpa using Array.mem_of_getElem? ht
        have hall : ([24].all fun u => !Tryz.prog.wantsStandIn u) = true := by kernel_rfl
        exact (show Tryz.prog.wantsStandIn t = false by simpa using List.all_eq_true.1 hall t hm)⟩)
    (by kernel_rfl)
#print axioms fnExactPrint_card
end Go.Proofs.YtdhkmgloghlnnaaGreatDoor
