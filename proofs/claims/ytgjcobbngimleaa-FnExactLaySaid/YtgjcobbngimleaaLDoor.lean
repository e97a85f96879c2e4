/- The start that the door leaves. Conditions: none. -/
import Derived.Test.YtgjcobbngimleaaRows
import Derived.LaidMore
import Derived.RowKit
import Derived.ProofKit
import Derived.ChangeOld
import Derived.SizedLaws
import Derived.KernelRfl
import Derived.Test.YtgjcobbngimleaaKmZ
namespace Go.KM.L1
open Go Go.KM Go.RowKit Go.ChangeShapes Go.WideShapes Go.ChangeAt Go.Proofs Go.Proofs.Ytgjcobbngimleaa
open Go.KM.Fam (Dn dflt)
open Go.KM.Enc (cells sz mkE glob gany u8)
set_option autoImplicit false
set_option linter.unusedVariables false
set_option maxRecDepth 100000
theorem own : ownKnob Try.prog.godebug = none := by kernel_rfl
theorem laidOut : laidOutB Try.prog = true := by kernel_rfl
theorem laidPlain : ((Rows.fnExactLayRow.laid).all fun x => x.2.handleName?.isNone) = true := by kernel_rfl
theorem door_met (os : Os) (args : Array Value) : laidMetH Try.prog Rows.fnExactLayRow.laid ((World.doorLaid Try.prog 400 os).forCall (fun _ _ => 0) ⟨#[], args, []⟩).memory :=
  laidMetH_of_parts3 (fuel := 8) (laidMet_of_run' 8 (by kernel_rfl) (by kernel_rfl)) (by kernel_rfl) (by kernel_rfl)
theorem wit (os : Os) (H : Type) (enc : TypeId × Value → H) : ∃ (w : World) (tape : Tape) (i : Input), w.os = os ∧ (w.forCall tape i).Shaped Try.checked.prog ∧ i.vars = [] ∧ Input.okWide Try.checked.prog (w.forCall tape i) .any w.heap.size 3 i ∧
      ((Rows.fnExactLaySpec.pre enc Try.checked.prog Try.f3 [] false (w.forCall tape i).memory i.args ∧ laidMetH Try.prog Rows.fnExactLayRow.laid (w.forCall tape i).memory) ∧ sizedMet enc Try.checked.prog Try.f3 (OpenSpec.ofChange Rows.fnExactLaySpec) false (w.forCall tape i).memory i.args) ∧ ({} : Assume).holds Try.checked.prog (lone (Frame.enter Try.checked.prog 3 i.args .normal) [] (w.forCall tape i)) :=
  (ChangeSpec.witness_shaped (enc := enc) (C := Try.checked) (os := os) (X := fun w _ => laidMetH Try.prog Rows.fnExactLayRow.laid w) false (World.doorLaid Try.prog 400 os) #[.agg #[.slice none 0 0], .slice none 0 0] 8 rfl (World.shaped_of_RefB (by kernel_rfl) (by kernel_rfl)) (by kernel_rfl) (by kernel_rfl) (by kernel_rfl) (door_met os _))
end Go.KM.L1
