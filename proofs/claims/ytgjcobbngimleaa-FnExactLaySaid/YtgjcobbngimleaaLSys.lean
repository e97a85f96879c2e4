/- The system of the law's functions: sound; and what the row lays. Conditions: none. -/
import Derived.Test.YtgjcobbngimleaaLSg
import Derived.Test.YtgjcobbngimleaaKmZb
import Derived.Shelf.Vars
import Derived.Test.YtgjcobbngimleaaRows
namespace Go.KM.L1
open Go Go.KM Go.RowKit Go.Proofs
open Go.KM.Fam (Dn dflt)
open Go.KM.Enc (cells sz mkE glob gany u8)
set_option autoImplicit false
set_option linter.unusedVariables false
set_option maxRecDepth 100000
theorem real {f : FuncId} {fn : Func} (h : Try.prog.funcs[f]? = some fn) (hb : (!(fn.name == "runtime.NumGoroutine") && fn.body.isSome) = true) : Real Try.prog f := by
  simp only [Bool.and_eq_true, Bool.not_eq_true'] at hb
  exact ⟨fn, h, hb.1, by simpa [← Option.not_isSome] using hb.2⟩
theorem fnsL : FnsL Try.prog sgs := .cons Try.func21 (by kernel_rfl) (.cons Try.func6 (by kernel_rfl) (.cons Try.func5 (by kernel_rfl) (.cons Try.func25 (by kernel_rfl) (.cons Try.func9 (by kernel_rfl) (.cons Try.func8 (by kernel_rfl) (.cons Try.func44 (by kernel_rfl) (.cons Try.func23 (by kernel_rfl) (.cons Try.func43 (by kernel_rfl) (.cons Try.func22 (by kernel_rfl) (.cons Try.func24 (by kernel_rfl) (.cons Try.func7 (by kernel_rfl) (.cons Try.func45 (by kernel_rfl) (.cons Try.func26 (by kernel_rfl) (.cons Try.func38 (by kernel_rfl) (.cons Try.func18 (by kernel_rfl) (.cons Try.func47 (by kernel_rfl) (.cons Try.func46 (by kernel_rfl) (.cons Try.func27 (by kernel_rfl) (.cons Try.func10 (by kernel_rfl) (.cons Try.func28 (by kernel_rfl) (.cons Try.func12 (by kernel_rfl) (.cons Try.func11 (by kernel_rfl) (.cons Try.func29 (by kernel_rfl) (.cons Try.func14 (by kernel_rfl) (.cons Try.func13 (by kernel_rfl) (.cons Try.func30 (by kernel_rfl) (.cons Try.func15 (by kernel_rfl) (.cons Try.func3 (by kernel_rfl) (.nil)))))))))))))))))))))))))))))
theorem bs_ok : ∀ f b, lk Y.bs f = some b → ∀ ps v, b ps = some (true, v) → Real Try.prog f ∧ Con Try.prog false f ps [] v [] ∧ v.noLoc = true := by
  intro f b h ps v hv
  have h : lk [] f = some b := h
  simp [lk] at h
theorem sysOk : SysOk Try.prog Y := ⟨tab_ok.1, tab_ok.2, by kernel_rfl, fnsL.ok, bs_ok⟩
theorem globOk {W : World} {l : List (String × DataW Unit)} (hp : (l.all fun x => x.2.handleName?.isNone) = true) (hL : laidMetH Try.prog l W) (hS : W.ShapedOpen Try.prog) : GlobOk (G0 W) := by
  refine ⟨fun n T x h => ?_, fun n k h => ?_⟩
  · have h : globF n = some ⟨T, x⟩ := h
    unfold globF at h
    cases h
  · have h : ganyF n = some k := h
    unfold ganyF at h
    cases h
end Go.KM.L1
