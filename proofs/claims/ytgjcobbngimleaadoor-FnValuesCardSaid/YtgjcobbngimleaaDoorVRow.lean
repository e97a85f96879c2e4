/- The row of the law FnValues. Conditions: none. -/
import Derived.Test.YtgjcobbngimleaaDoorVSys
import Derived.Test.YtgjcobbngimleaaDoorVDoor
import Derived.Test.YtgjcobbngimleaaDoorVVals
import Derived.Test.YtgjcobbngimleaaDoorVDraw
import Derived.LaidMore
import Derived.OpenVars
import Derived.WalkKit
import Derived.ProofKit
import Derived.OpenShut
import Derived.ShutString
import Derived.ChangeOld
import Derived.Below
import Derived.SizedLaws
import Derived.Carry
import Derived.Stop.Joined
namespace Go.KM.V1
open Go Go.KM Go.RowKit Go.ChangeShapes Go.WideShapes Go.ChangeAt Go.Proofs Go.Proofs.YtgjcobbngimleaaDoor
open Go.KM.Fam (Dn dflt)
open Go.KM.Enc (cells sz mkE glob gany u8)
set_option autoImplicit false
set_option linter.unusedVariables false
set_option maxRecDepth 100000
theorem cells5 : 1 = Tryd.prog.cellsOf 5 := by kernel_rfl
theorem law {code : List Int} (h1 : code.length ≤ maxLen ∧ ∀ x ∈ code, (Lit.int .u8 x).wf = true) : Con Tryd.prog false 4 [.fl 5 code] [] (.b true) [] := by
  have hb : ∀ x ∈ code, 0 ≤ x ∧ x < 256 := fun x hx => by
    have h := h1.2 x hx
    have e1 : IntKind.u8.min = 0 := by decide
    have e2 : IntKind.u8.max = 255 := by decide
    simp only [Lit.wf, Bool.and_eq_true, decide_eq_true_eq, e1, e2] at h
    exact ⟨h.1, by omega⟩
  obtain ⟨op, a, b, hd, ha, hb'⟩ := draw_two code hb
  have h := fnValues code op a b hd ha hb'
  unfold L.FnValues at h
  exact (H_sound sysOk h).2
theorem lifted (os : Os) (started : os.Started) (H : Type) (enc : TypeId × Value → H) :
    ReturnsInHanded {} Tryd.checked os 4 .any (fun w args => (Rows.fnValuesSpec.pre enc Tryd.prog Tryd.f4 [] false w args ∧ laidMetH Tryd.prog Rows.fnValuesRow.laid w) ∧ sizedMet enc Tryd.prog Tryd.f4 (OpenSpec.ofChange Rows.fnValuesSpec) false w args)
      (Rows.fnValuesSpec.post enc Tryd.prog Tryd.f4 false true false false) := by
  refine row_wrap (C := Tryd.checked) (X := fun w _ => laidMetH Tryd.prog Rows.fnValuesRow.laid w) (fun _ _ _ hh h => h.of_heap hh) own started (by kernel_rfl) Tryd.func4
    (wit os H enc) ?_
  intro W base args ds gs before hval0 hW hX hS
  have hval : ∀ (j : Nat) t v, Tryd.f4.params[j]? = some t → args[j]? = some v → Value.okWide Tryd.prog W .any base t v := hval0
  have hg := globOk laidPlain hX hS (List.mem_iff_getElem?.2 ⟨2, rfl⟩) (List.mem_iff_getElem?.2 ⟨3, rfl⟩) (List.mem_iff_getElem?.2 ⟨4, rfl⟩) (List.mem_iff_getElem?.2 ⟨5, rfl⟩)
  have hW' := hW
  obtain ⟨p, q, hA0, hV, rfl, hfz, hnd⟩ := hW
  obtain ⟨gd, rfl⟩ : ∃ d, gs = [d] := by
    obtain ⟨_, _, _, _, d, _, h, _⟩ := trodVars_one hV
    exact ⟨d, h⟩
  have hA : DataW.TrodAll enc Tryd.prog W 0 (fun _ => true) true Tryd.f4.params.toList args.toList ds p := hA0
  rw [Tryd.params4] at hA hval
  obtain ⟨v0, vs0, d0, ds0, p0, q0, hargs, rfl, rfl, h0, r0⟩ := trodAll_cons hA
  obtain ⟨rfl, rfl, rfl⟩ := trodAll_nil r0
  obtain rfl : args = #[v0] := by cases args; simp_all
  have lt0 : ∀ x ∈ p0, x.block < W.heap.size := by obtain ⟨m, hm⟩ := h0; exact DataW.trod_lt m _ _ _ hm
  obtain ⟨a0, g0, k0⟩ := arg_one (opens_slice encOk (t := 33) (e := 5) 5 Tryd.underlying33 cells5.symm (by decide) (opens_int Tryd.underlying5)) (fun _ => rfl) (not_agg (hval 0 33 v0 rfl rfl) (by rw [Tryd.underlying33]; trivial)) h0
  refine (con_calls (law g0) hg (w := W) (vals := #[v0]) rfl fun i p hi => ?_).mono fun e W' ⟨r, g', he, hr, bel⟩ => ?_
  · match i, hi with
    | 0, hi => simp at hi; subst hi; exact ⟨v0, rfl, k0 _⟩
  · subst he
    have hr : RepF g' (.b true) r := hr
    cases hr
    exact ⟨_, rfl, _, _, _, [], _, _, hW', trodAll_mk1 (shut_bool Tryd.underlying4 _), trodAll_cons_mk (Below.trod laidOut (by kernel_rfl) (of_decide_eq_true (by kernel_rfl)) h0 bel lt0) trodAll_mk0,
      Below.trodVars laidOut bel (by kernel_rfl) hV, bel.frame _, fun h => by cases h⟩
theorem over : Rows.fnValuesRow.holds Tryd.pinned (OpenSpec.ofChange Rows.fnValuesSpec) :=
  OpenClaim.holds_of_wide 4 Tryd.f4 rfl rfl rfl rfl rfl rfl rfl ⟨rfl, rfl, rfl, rfl, rfl⟩ rfl rfl rfl rfl rfl (by kernel_rfl) Tryd.func4 (by kernel_rfl)
    (of_decide_eq_true (by kernel_rfl)) (by unfold Func.isWrapper; first | (rw [if_pos (by decide +kernel)]; kernel_rfl) | (rw [if_neg (by decide +kernel)]; exact ⟨rfl, rfl⟩))
    (fun os started H enc _ => lifted os started H enc)
end Go.KM.V1
