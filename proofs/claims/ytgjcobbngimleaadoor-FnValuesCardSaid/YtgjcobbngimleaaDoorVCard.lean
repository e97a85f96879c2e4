/- The card of the law FnValues. Conditions: none. -/
import Derived.Test.YtgjcobbngimleaaDoorVRow
import Derived.Test.YtgjcobbngimleaaDoorCards
import Derived.Test.YtgjcobbngimleaaDoorTie
import Derived.SevenTiedAt
namespace Go.Proofs.YtgjcobbngimleaaDoor
open Go Go.KM.V1
set_option maxRecDepth 100000
theorem fnValues_holds : Rows.FnValuesSaid := over
theorem fnValues_card : Rows.FnValuesCardSaid :=
  Claim7.holds_tied_plain_at .later [] [.data, .data, .data, .sentinel, .sentinel, .data] true (true, "a14200f8ef4faa0c46ea9de76dfb8fd54282b038290aa4fc92f11a43f44a7fce") true
    fnValues_holds (fun _ h => by cases h) (by kernel_rfl) (fun _ h => by cases h) fnValues_row_tie rfl ⟨rfl, rfl⟩ (by kernel_rfl) rfl
    (fun f fn hf hfn => by
      obtain rfl : f = 4 := Option.some.inj ((show Tryd.prog.funcNamed "loop.example/kilnmill/laws.FnValues" = some 4 by kernel_rfl).symm.trans hf) |>.symm
      obtain rfl : fn = Tryd.f4 := (Option.some.inj (Tryd.func4.symm.trans hfn)).symm
      exact ⟨by kernel_rfl, fun j t ht => by
        rw [Tryd.params4] at ht
        have hm : t ∈ [33] := by simpa using Array.mem_of_getElem? ht
        have hall : ([33].all fun u => !Tryd.prog.wantsStandIn u) = true := by kernel_rfl
        exact (show Tryd.prog.wantsStandIn t = false by simpa using List.all_eq_true.1 hall t hm)⟩)
    (by kernel_rfl)
#print axioms fnValues_card
end Go.Proofs.YtgjcobbngimleaaDoor
