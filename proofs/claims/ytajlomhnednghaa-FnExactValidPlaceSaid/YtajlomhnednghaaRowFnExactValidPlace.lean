/- The row of the law FnExactValidPlace, out of its pure statement and the walk of its text. Conditions: none. -/
import Derived.Test.YtajlomhnednghaaRows
import Derived.Test.YtajlomhnednghaaRx43
import Derived.Test.YtajlomhnednghaaOpen
import Derived.Test.YtajlomhnednghaaPureFnExactValidPlace
import Derived.WalkKit
import Derived.ProofKit
import Derived.OpenShut
import Derived.ShutString
import Derived.ChangeOld
import Derived.Below
import Derived.SizedLaws
import Derived.Carry
namespace Go.Proofs.Ytajlomhnednghaa.fnExactValidPlace
open Go.ChangeShapes Go.WideShapes Go.ChangeAt Go.RowKit Go.Proofs.Ytajlomhnednghaa.Open Go.Proofs.Ytajlomhnednghaa.R Go.Proofs.YtajlomhnednghaaW.PrintWords
set_option linter.unusedVariables false
theorem own : ownKnob Try.prog.godebug = none := by kernel_rfl
theorem laidOut : laidOutB Try.prog = true := by kernel_rfl
theorem cells9 : Try.prog.cellsOf 9 = 1 := by kernel_rfl
theorem cells50 : Try.prog.cellsOf 50 = 1 := by kernel_rfl
theorem cells52 : Try.prog.cellsOf 52 = 1 := by kernel_rfl
theorem cells113 : Try.prog.cellsOf 113 = 2 := by kernel_rfl
theorem open_k113 : Opens Try.prog 113 k113 (fun x => good113 x) :=
  opens_iso (fun a => S113.mk (a.1) (a.2)) (fun _ => rfl) (opens_struct Try.underlying113 cells113 (fields_cons (off := 0) (off' := 1) 9 (d := Kd.string) (by rfl) (by rfl) cells9 rfl (opens_string Try.underlying9) (fields_one (off := 1) 9 (d := Kd.string) (by rfl) (by rfl) cells9 (opens_string Try.underlying9))))
theorem open_arg0 : Opens Try.prog 52 (Kd.slice 113 k113) (fun x => (x.length ≤ maxLen ∧ ∀ y1 ∈ x, good113 y1)) :=
  opens_struct Try.underlying52 cells52 (fields_one (off := 0) 50 (d := (Kd.slice 113 k113)) (by rfl) (by rfl) cells50 (opens_slice (d := k113) 113 Try.underlying50 cells113 open_k113))
set_option maxRecDepth 100000 in
set_option maxHeartbeats 2000000 in
theorem lifted (os : Os) (started : os.Started) (H : Type) (enc : TypeId × Value → H) :
    ReturnsInHanded {} Try.checked os 8 .any (Rows.fnExactValidPlaceSpec.pre6 enc Try.prog Try.f8 Rows.fnExactValidPlaceRow.domain false) (Rows.fnExactValidPlaceSpec.post enc Try.prog Try.f8 false true false false) := by
  refine returnsInHanded_of_change_sized (C := Try.checked) own started (by kernel_rfl) Try.func8
    (ChangeSpec.witness6 (enc := enc) (C := Try.checked) false ⟨#[], #[.agg #[.slice none 0 0]], []⟩ 8 (by kernel_rfl) (by kernel_rfl) (by kernel_rfl) (by kernel_rfl)) ?_
  intro W base args ds gs before hval0 hW hcnd hsz0 _
  have hval : ∀ (j : Nat) t v, Try.f8.params[j]? = some t → args[j]? = some v → Value.okWide Try.prog W .any base t v := hval0
  have hW' := hW
  obtain ⟨p, q, hA0, hV, rfl, hfz, hnd⟩ := hW
  have hA : DataW.TrodAll enc Try.prog W 0 (fun _ => true) true Try.f8.params.toList args.toList ds p := hA0
  rw [Try.params8] at hA hval
  obtain ⟨v0, vs0, d0, ds0, p0, q0, hargs, rfl, rfl, h0, r0⟩ := trodAll_cons hA
  obtain ⟨rfl, rfl, rfl⟩ := trodAll_nil r0
  obtain rfl : args = #[v0] := by cases args; simp_all
  obtain ⟨rfl, rfl⟩ := trodVars_none hV
  have k0 := h0
  have lt0 : ∀ x ∈ p0, x.block < W.heap.size := by obtain ⟨m, hm⟩ := k0; exact DataW.trod_lt m _ _ _ hm
  obtain ⟨cs0, rfl, _⟩ := okWide_struct Try.underlying52 (hval 0 52 v0 rfl rfl)
  obtain ⟨x0_0, hg0, hK0⟩ := opens_arg open_arg0 h0
  obtain ⟨A0_0, c0_0, e0, hl0_0, hr0_0⟩ := hK0
  obtain rfl : cs0 = #[.slice A0_0 x0_0.length c0_0] := by apply Array.toList_inj.1; exact e0
  obtain ⟨k, hk⟩ := Pure.FnExactValidPlace x0_0 hg0
  refine (laws_FnExactValidPlace.calls (k := k) (l0_0 := x0_0) (hr0_0 := hr0_0) (hc0_0 := hl0_0) (r := true) (w := W) (hrt := rfl) (h := hk)).mono fun e W' ⟨he, bel0⟩ => ?_
  have bel : Below W.heap.size W W' := bel0
  subst he
  exact ⟨_, rfl, _, _, _, [], _, [], hW', trodAll_mk1 (shut_bool Try.underlying4 _), (trodAll_cons_mk (Below.trod laidOut (by kernel_rfl) (of_decide_eq_true (by kernel_rfl)) k0 bel lt0) trodAll_mk0), rfl, bel.frame _, fun h => by cases h⟩
theorem over : Rows.fnExactValidPlaceRow.holds Try.pinned (OpenSpec.ofChange Rows.fnExactValidPlaceSpec) :=
  OpenClaim.holds_of_wide 8 Try.f8 rfl rfl rfl rfl rfl rfl rfl ⟨rfl, rfl, rfl, rfl, rfl⟩ rfl rfl rfl rfl rfl (by kernel_rfl) Try.func8 (by kernel_rfl)
    (of_decide_eq_true (by kernel_rfl)) (by unfold Func.isWrapper; first | (rw [if_pos (by decide +kernel)]; kernel_rfl) | (rw [if_neg (by decide +kernel)]; exact ⟨rfl, rfl⟩))
    (fun os started H enc _ => lifted os started H enc)
end Go.Proofs.Ytajlomhnednghaa.fnExactValidPlace
namespace Go.Proofs.Ytajlomhnednghaa
/-- The law FnExactValidPlace: for every input it returns true. -/
theorem fnExactValidPlace_holds : Rows.FnExactValidPlaceSaid := fnExactValidPlace.over
#print axioms fnExactValidPlace_holds
end Go.Proofs.Ytajlomhnednghaa
