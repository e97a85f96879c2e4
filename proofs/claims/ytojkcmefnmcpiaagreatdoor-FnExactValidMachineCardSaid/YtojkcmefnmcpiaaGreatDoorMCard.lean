/- The card of the law FnExactValidMachine. Conditions: none. -/
import Derived.Test.YtojkcmefnmcpiaaGreatDoorMRow
import Derived.Test.YtojkcmefnmcpiaaGreatDoorCards
import Derived.Test.YtojkcmefnmcpiaaGreatDoorTie
import Derived.SevenTiedAt
namespace Go.Proofs.YtojkcmefnmcpiaaGreatDoor
open Go Go.KM.M1
set_option maxRecDepth 100000
theorem fnExactValidMachine_holds : Rows.FnExactValidMachineSaid := over
theorem fnExactValidMachine_card : Rows.FnExactValidMachineCardSaid :=
 Claim7.holds_tied_plain_at .later [] [.listed, .data, .data, .data] true (true, "e9751a6b24172bbcd0cb2d9e3797b05f908942286303c9b1ddd82136d52060c0") false
  fnExactValidMachine_holds (fun _ h => by cases h) (by kernel_rfl) (fun _ h => by cases h) fnExactValidMachine_row_tie rfl ⟨rfl, rfl⟩ (by kernel_rfl) rfl
  (fun f fn hf hfn => by
   obtain rfl : f = 3 := Option.some.inj ((show Tryz.prog.funcNamed "loop.example/kilnmill/laws.FnExactValidMachine" = some 3 by kernel_rfl).symm.trans hf) |>.symm
   obtain rfl : fn = Tryz.f3 := (Option.some.inj (Tryz.func3.symm.trans hfn)).symm
   exact ⟨by kernel_rfl, fun j t ht => by
    rw [Tryz.params3] at ht
    have hm : t ∈ [27] := by simpa using Array.mem_of_getElem? ht
    have hall : ([27].all fun u => !Tryz.prog.wantsStandIn u) = true := by kernel_rfl
    exact (show Tryz.prog.wantsStandIn t = false by simpa using List.all_eq_true.1 hall t hm)⟩)
  (by kernel_rfl)
#print axioms fnExactValidMachine_card
end Go.Proofs.YtojkcmefnmcpiaaGreatDoor
