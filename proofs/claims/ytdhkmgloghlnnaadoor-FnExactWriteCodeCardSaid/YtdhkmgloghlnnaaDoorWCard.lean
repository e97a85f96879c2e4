/- The card of the law FnExactWriteCode. Conditions: none. -/
import Derived.Test.YtdhkmgloghlnnaaDoorWRow
import Derived.Test.YtdhkmgloghlnnaaDoorCards
import Derived.Test.YtdhkmgloghlnnaaDoorTie
import Derived.SevenTiedAt
namespace Go.Proofs.YtdhkmgloghlnnaaDoor
open Go Go.KM.W1
set_option maxRecDepth 100000
theorem fnExactWriteCode_holds : Rows.FnExactWriteCodeSaid := over
theorem fnExactWriteCode_card : Rows.FnExactWriteCodeCardSaid :=
  Claim7.holds_tied_plain_at .later [] [.listed, .data, .data, .data] true (true, "5cc054d9e6c1ae5a11549a5b1c62d00834758b6b63c5a1159f4b6be2292095d9") false
    fnExactWriteCode_holds (fun _ h => by cases h) (by kernel_rfl) (fun _ h => by cases h) fnExactWriteCode_row_tie rfl ⟨rfl, rfl⟩ (by kernel_rfl) rfl
    (fun f fn hf hfn => by
      obtain rfl : f = 6 := Option.some.inj ((show Tryd.prog.funcNamed "loop.example/kilnmill/laws.FnExactWriteCode" = some 6 by kernel_rfl).symm.trans hf) |>.symm
      obtain rfl : fn = Tryd.f6 := (Option.some.inj (Tryd.func6.symm.trans hfn)).symm
      exact ⟨by kernel_rfl, fun j t ht => by
        rw [Tryd.params6] at ht
        have hm : t ∈ [35] := by simpa using Array.mem_of_getElem? ht
        have hall : ([35].all fun u => !Tryd.prog.wantsStandIn u) = true := by kernel_rfl
        exact (show Tryd.prog.wantsStandIn t = false by simpa using List.all_eq_true.1 hall t hm)⟩)
    (by kernel_rfl)
#print axioms fnExactWriteCode_card
end Go.Proofs.YtdhkmgloghlnnaaDoor
