/- The card of the law FnExactBuilt. Conditions: none. -/
import Derived.Test.YtgjcobbngimleaaDoorBRow
import Derived.Test.YtgjcobbngimleaaDoorCards
import Derived.Test.YtgjcobbngimleaaDoorTie
import Derived.SevenTiedAt
namespace Go.Proofs.YtgjcobbngimleaaDoor
open Go Go.KM.B1
set_option maxRecDepth 100000
theorem fnExactBuilt_holds : Rows.FnExactBuiltSaid := over
theorem fnExactBuilt_card : Rows.FnExactBuiltCardSaid :=
  Claim7.holds_tied_plain_at .later [] [.data, .data, .data, .sentinel, .sentinel, .data] true (true, "a14200f8ef4faa0c46ea9de76dfb8fd54282b038290aa4fc92f11a43f44a7fce") true
    fnExactBuilt_holds (fun _ h => by cases h) (by kernel_rfl) (fun _ h => by cases h) fnExactBuilt_row_tie rfl ⟨rfl, rfl⟩ (by kernel_rfl) rfl
    (fun f fn hf hfn => by
      obtain rfl : f = 3 := Option.some.inj ((show Tryd.prog.funcNamed "loop.example/kilnmill/laws.FnExactBuilt" = some 3 by kernel_rfl).symm.trans hf) |>.symm
      obtain rfl : fn = Tryd.f3 := (Option.some.inj (Tryd.func3.symm.trans hfn)).symm
      exact ⟨by kernel_rfl, fun j t ht => by
        rw [Tryd.params3] at ht
        have hm : t ∈ [3, 22] := by simpa using Array.mem_of_getElem? ht
        have hall : ([3, 22].all fun u => !Tryd.prog.wantsStandIn u) = true := by kernel_rfl
        exact (show Tryd.prog.wantsStandIn t = false by simpa using List.all_eq_true.1 hall t hm)⟩)
    (by kernel_rfl)
#print axioms fnExactBuilt_card
end Go.Proofs.YtgjcobbngimleaaDoor
