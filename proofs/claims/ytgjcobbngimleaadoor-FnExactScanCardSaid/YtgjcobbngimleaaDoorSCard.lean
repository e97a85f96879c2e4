/- The card of the law FnExactScan. Conditions: none. -/
import Derived.Test.YtgjcobbngimleaaDoorSRow
import Derived.Test.YtgjcobbngimleaaDoorCards
import Derived.Test.YtgjcobbngimleaaDoorTie
import Derived.SevenTiedAt
namespace Go.Proofs.YtgjcobbngimleaaDoor
open Go Go.KM.S1
set_option maxRecDepth 100000
theorem fnExactScan_holds : Rows.FnExactScanSaid := over
theorem fnExactScan_card : Rows.FnExactScanCardSaid :=
  Claim7.holds_tied_plain_at .later [] [.data, .data, .data, .sentinel, .sentinel, .listed, .data, .data, .data] true (true, "a14200f8ef4faa0c46ea9de76dfb8fd54282b038290aa4fc92f11a43f44a7fce") true
    fnExactScan_holds (fun _ h => by cases h) (by kernel_rfl) (fun _ h => by cases h) fnExactScan_row_tie rfl ⟨rfl, rfl⟩ (by kernel_rfl) rfl
    (fun f fn hf hfn => by
      obtain rfl : f = 5 := Option.some.inj ((show Tryd.prog.funcNamed "loop.example/kilnmill/laws.FnExactScan" = some 5 by kernel_rfl).symm.trans hf) |>.symm
      obtain rfl : fn = Tryd.f5 := (Option.some.inj (Tryd.func5.symm.trans hfn)).symm
      exact ⟨by kernel_rfl, fun j t ht => by
        rw [Tryd.params5] at ht
        have hm : t ∈ [9] := by simpa using Array.mem_of_getElem? ht
        have hall : ([9].all fun u => !Tryd.prog.wantsStandIn u) = true := by kernel_rfl
        exact (show Tryd.prog.wantsStandIn t = false by simpa using List.all_eq_true.1 hall t hm)⟩)
    (by kernel_rfl)
#print axioms fnExactScan_card
end Go.Proofs.YtgjcobbngimleaaDoor
