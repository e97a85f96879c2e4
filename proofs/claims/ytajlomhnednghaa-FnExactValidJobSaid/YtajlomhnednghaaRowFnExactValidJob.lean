/- The row of the law FnExactValidJob, out of its pure statement and the walk of its text. Conditions: none. -/
import Derived.Test.YtajlomhnednghaaRows
import Derived.Test.YtajlomhnednghaaRx26
import Derived.Test.YtajlomhnednghaaOpen
import Derived.Test.YtajlomhnednghaaPureFnExactValidJob
import Derived.WalkKit
import Derived.ProofKit
import Derived.OpenShut
import Derived.ShutString
import Derived.ChangeOld
import Derived.Below
import Derived.SizedLaws
import Derived.Carry
namespace Go.Proofs.Ytajlomhnednghaa.fnExactValidJob
open Go.ChangeShapes Go.WideShapes Go.ChangeAt Go.RowKit Go.Proofs.Ytajlomhnednghaa.Open Go.Proofs.Ytajlomhnednghaa.R Go.Proofs.YtajlomhnednghaaW.PrintWords
set_option linter.unusedVariables false
theorem own : ownKnob Try.prog.godebug = none := by kernel_rfl
theorem laidOut : laidOutB Try.prog = true := by kernel_rfl
theorem cells9 : Try.prog.cellsOf 9 = 1 := by kernel_rfl
theorem cells37 : Try.prog.cellsOf 37 = 1 := by kernel_rfl
theorem cells39 : Try.prog.cellsOf 39 = 2 := by kernel_rfl
theorem open_arg0 : Opens Try.prog 39 (Kd.pair Kd.string (Kd.slice 9 Kd.string)) (fun x => x.1.size ≤ maxLen ∧ (x.2.length ≤ maxLen ∧ ∀ y3 ∈ x.2, y3.size ≤ maxLen)) :=
  opens_struct Try.underlying39 cells39 (fields_cons (off := 0) (off' := 1) 9 (d := Kd.string) (by rfl) (by rfl) cells9 rfl (opens_string Try.underlying9) (fields_one (off := 1) 37 (d := (Kd.slice 9 Kd.string)) (by rfl) (by rfl) cells37 (opens_slice (d := Kd.string) 9 Try.underlying37 cells9 (opens_string Try.underlying9))))
set_option maxRecDepth 100000 in
set_option maxHeartbeats 2000000 in
theorem lifted (os : Os) (started : os.Started) (H : Type) (enc : TypeId × Value → H) :
    ReturnsInHanded {} Try.checked os 6 .any (Rows.fnExactValidJobSpec.pre6 enc Try.prog Try.f6 Rows.fnExactValidJobRow.domain false) (Rows.fnExactValidJobSpec.post enc Try.prog Try.f6 false true false false) := by
  refine returnsInHanded_of_change_sized (C := Try.checked) own started (by kernel_rfl) Try.func6
    (ChangeSpec.witness6 (enc := enc) (C := Try.checked) false ⟨#[], #[.agg #[.string ByteArray.empty, .slice none 0 0]], []⟩ 8 (by kernel_rfl) (by kernel_rfl) (by kernel_rfl) (by kernel_rfl)) ?_
  intro W base args ds gs before hval0 hW hcnd hsz0 _
  have hval : ∀ (j : Nat) t v, Try.f6.params[j]? = some t → args[j]? = some v → Value.okWide Try.prog W .any base t v := hval0
  have hW' := hW
  obtain ⟨p, q, hA0, hV, rfl, hfz, hnd⟩ := hW
  have hA : DataW.TrodAll enc Try.prog W 0 (fun _ => true) true Try.f6.params.toList args.toList ds p := hA0
  rw [Try.params6] at hA hval
  obtain ⟨v0, vs0, d0, ds0, p0, q0, hargs, rfl, rfl, h0, r0⟩ := trodAll_cons hA
  obtain ⟨rfl, rfl, rfl⟩ := trodAll_nil r0
  obtain rfl : args = #[v0] := by cases args; simp_all
  obtain ⟨rfl, rfl⟩ := trodVars_none hV
  have k0 := h0
  have lt0 : ∀ x ∈ p0, x.block < W.heap.size := by obtain ⟨m, hm⟩ := k0; exact DataW.trod_lt m _ _ _ hm
  obtain ⟨cs0, rfl, _⟩ := okWide_struct Try.underlying39 (hval 0 39 v0 rfl rfl)
  obtain ⟨⟨x0_0, x0_1⟩, hg0, hK0⟩ := opens_arg open_arg0 h0
  obtain ⟨_, _, e0, rfl, ⟨A0_1, c0_1, rfl, hl0_1, hr0_1⟩⟩ := hK0
  obtain rfl : cs0 = #[.string x0_0, .slice A0_1 x0_1.length c0_1] := by apply Array.toList_inj.1; exact e0
  obtain ⟨k, hk⟩ := Pure.FnExactValidJob x0_0 x0_1 hg0
  refine (laws_FnExactValidJob.calls (k := k) (l0_1 := x0_1) (hr0_1 := hr0_1) (hc0_1 := hl0_1) (r := true) (w := W) (hrt := rfl) (h := hk)).mono fun e W' ⟨he, bel0⟩ => ?_
  have bel : Below W.heap.size W W' := bel0
  subst he
  exact ⟨_, rfl, _, _, _, [], _, [], hW', trodAll_mk1 (shut_bool Try.underlying4 _), (trodAll_cons_mk (Below.trod laidOut (by kernel_rfl) (of_decide_eq_true (by kernel_rfl)) k0 bel lt0) trodAll_mk0), rfl, bel.frame _, fun h => by cases h⟩
theorem over : Rows.fnExactValidJobRow.holds Try.pinned (OpenSpec.ofChange Rows.fnExactValidJobSpec) :=
  OpenClaim.holds_of_wide 6 Try.f6 rfl rfl rfl rfl rfl rfl rfl ⟨rfl, rfl, rfl, rfl, rfl⟩ rfl rfl rfl rfl rfl (by kernel_rfl) Try.func6 (by kernel_rfl)
    (of_decide_eq_true (by kernel_rfl)) (by unfold Func.isWrapper; first | (rw [if_pos (by decide +kernel)]; kernel_rfl) | (rw [if_neg (by decide +kernel)]; exact ⟨rfl, rfl⟩))
    (fun os started H enc _ => lifted os started H enc)
end Go.Proofs.Ytajlomhnednghaa.fnExactValidJob
namespace Go.Proofs.Ytajlomhnednghaa
/-- The law FnExactValidJob: for every input it returns true. -/
theorem fnExactValidJob_holds : Rows.FnExactValidJobSaid := fnExactValidJob.over
#print axioms fnExactValidJob_holds
end Go.Proofs.Ytajlomhnednghaa
