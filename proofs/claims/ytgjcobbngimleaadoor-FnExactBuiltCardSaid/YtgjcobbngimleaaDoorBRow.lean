/- The row of the law FnExactBuilt. Conditions: none. -/
import Derived.Test.YtgjcobbngimleaaDoorBSys
import Derived.Test.YtgjcobbngimleaaDoorBDoor
import Derived.Test.YtgjcobbngimleaaDoorBBuilt
import Derived.LaidMore
import Derived.OpenVars
import Derived.WalkKit
import Derived.ProofKit
import Derived.OpenShut
import Derived.ShutString
import Derived.ChangeOld
import Derived.Below
import Derived.SizedLaws
import Derived.Carry
import Derived.Stop.Joined
namespace Go.KM.B1
open Go Go.KM Go.RowKit Go.ChangeShapes Go.WideShapes Go.ChangeAt Go.Proofs Go.Proofs.YtgjcobbngimleaaDoor
open Go.KM.Fam (Dn dflt)
open Go.KM.Enc (cells sz mkE glob gany u8)
set_option autoImplicit false
set_option linter.unusedVariables false
set_option maxRecDepth 100000
def okV (v : TValue) : Prop := (Lit.int .i64 v.gType).wf = true ∧ (Lit.int .i64 v.gN).wf = true ∧ v.gText.size ≤ maxLen
theorem cells2 : 1 = Tryd.prog.cellsOf 2 := by kernel_rfl
theorem cells3 : 1 = Tryd.prog.cellsOf 3 := by kernel_rfl
theorem cells9 : 1 = Tryd.prog.cellsOf 9 := by kernel_rfl
theorem cells51 : 3 = Tryd.prog.cellsOf 51 := by kernel_rfl
theorem openVal : Opens Tryd.prog 51 TValue (cells 51) okV :=
  opens_iso (fun x : Int × Int × ByteArray × Unit => TValue.mk x.1 x.2.1 x.2.2.1) (by exact fun a => rfl) (by exact fun a h => ⟨h.1, h.2.1, h.2.2.1⟩)
    (opens_struct Tryd.underlying51 (by exact fun _ => cells51)
      (fields_cons (off := 0) (off' := 1) 3 (by rfl) (by rfl) (by exact fun _ => cells3) (by exact congrArg (0 + ·) cells3) (opens_int Tryd.underlying3)
      (fields_cons (off := 1) (off' := 2) 2 (by rfl) (by rfl) (by exact fun _ => cells2) (by exact congrArg (1 + ·) cells2) (opens_int Tryd.underlying2)
      (fields_cons (off := 2) (off' := 3) 9 (by rfl) (by rfl) (by exact fun _ => cells9) (by exact congrArg (2 + ·) cells9) (opens_string Tryd.underlying9) fields_nil))))
theorem wf64 {n : Int} (h : (Lit.int .i64 n).wf = true) : I64 n := by
  have e1 : IntKind.i64.min = -9223372036854775808 := by decide
  have e2 : IntKind.i64.max = 9223372036854775807 := by decide
  simp only [Lit.wf, Bool.and_eq_true, decide_eq_true_eq, e1, e2] at h
  exact ⟨by omega, by omega⟩
theorem law {op : Int} {args : List TValue} (h0 : (Lit.int .i64 op).wf = true) (h1 : args.length ≤ maxLen ∧ ∀ x ∈ args, okV x) : Con Tryd.prog false 3 [.i .i64 op, .fl 51 args] [] (.b true) [] := by
  have h := fnBuilt op args (wf64 h0) (by have := h1.1; unfold maxLen at this; omega) (fun v hv => ⟨wf64 (h1.2 v hv).2.1, by have := (h1.2 v hv).2.2; unfold maxLen at this; omega⟩)
  unfold L.FnExactBuilt at h
  exact (H_sound sysOk h).2
theorem lifted (os : Os) (started : os.Started) (H : Type) (enc : TypeId × Value → H) :
    ReturnsInHanded {} Tryd.checked os 3 .any (fun w args => (Rows.fnExactBuiltSpec.pre enc Tryd.prog Tryd.f3 [] false w args ∧ laidMetH Tryd.prog Rows.fnExactBuiltRow.laid w) ∧ sizedMet enc Tryd.prog Tryd.f3 (OpenSpec.ofChange Rows.fnExactBuiltSpec) false w args)
      (Rows.fnExactBuiltSpec.post enc Tryd.prog Tryd.f3 false true false false) := by
  refine row_wrap (C := Tryd.checked) (X := fun w _ => laidMetH Tryd.prog Rows.fnExactBuiltRow.laid w) (fun _ _ _ hh h => h.of_heap hh) own started (by kernel_rfl) Tryd.func3
    (wit os H enc) ?_
  intro W base args ds gs before hval0 hW hX hS
  have hval : ∀ (j : Nat) t v, Tryd.f3.params[j]? = some t → args[j]? = some v → Value.okWide Tryd.prog W .any base t v := hval0
  have hg := globOk laidPlain hX hS (List.mem_iff_getElem?.2 ⟨2, rfl⟩) (List.mem_iff_getElem?.2 ⟨3, rfl⟩) (List.mem_iff_getElem?.2 ⟨4, rfl⟩) (List.mem_iff_getElem?.2 ⟨5, rfl⟩)
  have hW' := hW
  obtain ⟨p, q, hA0, hV, rfl, hfz, hnd⟩ := hW
  obtain ⟨gd, rfl⟩ : ∃ d, gs = [d] := by
    obtain ⟨_, _, _, _, d, _, h, _⟩ := trodVars_one hV
    exact ⟨d, h⟩
  have hA : DataW.TrodAll enc Tryd.prog W 0 (fun _ => true) true Tryd.f3.params.toList args.toList ds p := hA0
  rw [Tryd.params3] at hA hval
  obtain ⟨v0, vs0, d0, ds0, p0, q0, hargs, rfl, rfl, h0, r0⟩ := trodAll_cons hA
  obtain ⟨v1, vs1, d1, ds1, p1, q1, rfl, rfl, rfl, h1, r1⟩ := trodAll_cons r0
  obtain ⟨rfl, rfl, rfl⟩ := trodAll_nil r1
  obtain rfl : args = #[v0, v1] := by cases args; simp_all
  have lt0 : ∀ x ∈ p0, x.block < W.heap.size := by obtain ⟨m, hm⟩ := h0; exact DataW.trod_lt m _ _ _ hm
  have lt1 : ∀ x ∈ p1, x.block < W.heap.size := by obtain ⟨m, hm⟩ := h1; exact DataW.trod_lt m _ _ _ hm
  obtain ⟨a0, g0, k0⟩ := arg_one (opens_int Tryd.underlying3) (fun _ => rfl) (not_agg (hval 0 3 v0 rfl rfl) (by rw [Tryd.underlying3]; trivial)) h0
  obtain ⟨a1, g1, k1⟩ := arg_one (opens_slice encOk (t := 22) (e := 51) 51 Tryd.underlying22 cells51.symm (by decide) openVal) (fun _ => rfl) (not_agg (hval 1 22 v1 rfl rfl) (by rw [Tryd.underlying22]; trivial)) h1
  refine (con_calls (law g0 g1) hg (w := W) (vals := #[v0, v1]) rfl fun i p hi => ?_).mono fun e W' ⟨r, g', he, hr, bel⟩ => ?_
  · match i, hi with
    | 0, hi => simp at hi; subst hi; exact ⟨v0, rfl, k0 _⟩
    | 1, hi => simp at hi; subst hi; exact ⟨v1, rfl, k1 _⟩
  · subst he
    have hr : RepF g' (.b true) r := hr
    cases hr
    exact ⟨_, rfl, _, _, _, [], _, _, hW', trodAll_mk1 (shut_bool Tryd.underlying4 _), trodAll_cons_mk (Below.trod laidOut (by kernel_rfl) (of_decide_eq_true (by kernel_rfl)) h0 bel lt0) (trodAll_cons_mk (Below.trod laidOut (by kernel_rfl) (of_decide_eq_true (by kernel_rfl)) h1 bel lt1) trodAll_mk0),
      Below.trodVars laidOut bel (by kernel_rfl) hV, bel.frame _, fun h => by cases h⟩
theorem over : Rows.fnExactBuiltRow.holds Tryd.pinned (OpenSpec.ofChange Rows.fnExactBuiltSpec) :=
  OpenClaim.holds_of_wide 3 Tryd.f3 rfl rfl rfl rfl rfl rfl rfl ⟨rfl, rfl, rfl, rfl, rfl⟩ rfl rfl rfl rfl rfl (by kernel_rfl) Tryd.func3 (by kernel_rfl)
    (of_decide_eq_true (by kernel_rfl)) (by unfold Func.isWrapper; first | (rw [if_pos (by decide +kernel)]; kernel_rfl) | (rw [if_neg (by decide +kernel)]; exact ⟨rfl, rfl⟩))
    (fun os started H enc _ => lifted os started H enc)
end Go.KM.B1
