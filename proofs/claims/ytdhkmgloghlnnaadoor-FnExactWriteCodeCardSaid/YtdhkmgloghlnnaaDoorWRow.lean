/- The row of the law FnExactBuilt. Conditions: none. -/
import Derived.Test.YtdhkmgloghlnnaaDoorWSys
import Derived.Test.YtdhkmgloghlnnaaDoorWDoor
import Derived.Test.YtdhkmgloghlnnaaDoorWPd
import Derived.LaidMore
import Derived.OpenVars
import Derived.WalkKit
import Derived.ProofKit
import Derived.OpenShut
import Derived.ShutString
import Derived.ChangeOld
import Derived.Below
import Derived.SizedLaws
import Derived.Carry
import Derived.Stop.Joined
namespace Go.KM.W1
open Go Go.KM Go.RowKit Go.ChangeShapes Go.WideShapes Go.ChangeAt Go.Proofs Go.Proofs.YtdhkmgloghlnnaaDoor
open Go.KM.Fam (Dn dflt)
open Go.KM.Enc (cells sz mkE glob gany u8)
set_option autoImplicit false
set_option linter.unusedVariables false
set_option maxRecDepth 100000
theorem cells2 : 1 = Tryd.prog.cellsOf 2 := by kernel_rfl
theorem cells3 : 1 = Tryd.prog.cellsOf 3 := by kernel_rfl
theorem cells9 : 1 = Tryd.prog.cellsOf 9 := by kernel_rfl
theorem cells33 : 1 = Tryd.prog.cellsOf 33 := by kernel_rfl
theorem cells35 : 1 = Tryd.prog.cellsOf 35 := by kernel_rfl
theorem cells54 : 1 = Tryd.prog.cellsOf 54 := by kernel_rfl
theorem cells104 : 1 = Tryd.prog.cellsOf 104 := by kernel_rfl
theorem cells106 : 5 = Tryd.prog.cellsOf 106 := by kernel_rfl
theorem cells175 : 4 = Tryd.prog.cellsOf 175 := by kernel_rfl
def ok175 (v : TIns) : Prop := (Lit.int .i64 v.gOp).wf = true ∧ (Lit.int .i64 v.gA).wf = true ∧ (Lit.int .i64 v.gN).wf = true ∧ v.gText.size ≤ maxLen
theorem open175 : Opens Tryd.prog 175 TIns (cells 175) ok175 :=
  opens_iso (fun x : Int × Int × Int × ByteArray × Unit => TIns.mk x.1 x.2.1 x.2.2.1 x.2.2.2.1) (by exact fun a => rfl) (by exact fun a h => ⟨h.1, h.2.1, h.2.2.1, h.2.2.2.1⟩)
    (opens_struct Tryd.underlying175 (by exact fun _ => cells175)
      (fields_cons (off := 0) (off' := 1) 3 (by rfl) (by rfl) (by exact fun _ => cells3) (by exact congrArg (0 + ·) cells3) (opens_int Tryd.underlying3)
      (fields_cons (off := 1) (off' := 2) 3 (by rfl) (by rfl) (by exact fun _ => cells3) (by exact congrArg (1 + ·) cells3) (opens_int Tryd.underlying3)
      (fields_cons (off := 2) (off' := 3) 2 (by rfl) (by rfl) (by exact fun _ => cells2) (by exact congrArg (2 + ·) cells2) (opens_int Tryd.underlying2)
      (fields_cons (off := 3) (off' := 4) 9 (by rfl) (by rfl) (by exact fun _ => cells9) (by exact congrArg (3 + ·) cells9) (opens_string Tryd.underlying9)
      fields_nil)))))
def ok106 (v : TFn) : Prop := v.gName.size ≤ maxLen ∧ (v.gParams.length ≤ maxLen ∧ ∀ x ∈ v.gParams, (Lit.int .i64 x).wf = true) ∧ (Lit.int .i64 v.gResult).wf = true ∧ (Lit.int .i64 v.gSlots).wf = true ∧ (v.gIns.length ≤ maxLen ∧ ∀ x ∈ v.gIns, ok175 x)
theorem open106 : Opens Tryd.prog 106 TFn (cells 106) ok106 :=
  opens_iso (fun x : ByteArray × List Int × Int × Int × List TIns × Unit => TFn.mk x.1 x.2.1 x.2.2.1 x.2.2.2.1 x.2.2.2.2.1) (by exact fun a => rfl) (by exact fun a h => ⟨h.1, h.2.1, h.2.2.1, h.2.2.2.1, h.2.2.2.2.1⟩)
    (opens_struct Tryd.underlying106 (by exact fun _ => cells106)
      (fields_cons (off := 0) (off' := 1) 9 (by rfl) (by rfl) (by exact fun _ => cells9) (by exact congrArg (0 + ·) cells9) (opens_string Tryd.underlying9)
      (fields_cons (off := 1) (off' := 2) 54 (by rfl) (by rfl) (by exact fun _ => cells54) (by exact congrArg (1 + ·) cells54) (opens_slice encOk (t := 54) (e := 3) 3 Tryd.underlying54 cells3.symm (by decide) (opens_int Tryd.underlying3))
      (fields_cons (off := 2) (off' := 3) 3 (by rfl) (by rfl) (by exact fun _ => cells3) (by exact congrArg (2 + ·) cells3) (opens_int Tryd.underlying3)
      (fields_cons (off := 3) (off' := 4) 3 (by rfl) (by rfl) (by exact fun _ => cells3) (by exact congrArg (3 + ·) cells3) (opens_int Tryd.underlying3)
      (fields_cons (off := 4) (off' := 5) 104 (by rfl) (by rfl) (by exact fun _ => cells104) (by exact congrArg (4 + ·) cells104) (opens_slice encOk (t := 104) (e := 175) 175 Tryd.underlying104 cells175.symm (by decide) open175)
      fields_nil))))))
def ok35 (v : TCode) : Prop := (v.gFns.length ≤ maxLen ∧ ∀ x ∈ v.gFns, ok106 x)
theorem open35 : Opens Tryd.prog 35 TCode (cells 35) ok35 :=
  opens_iso (fun x : List TFn × Unit => TCode.mk x.1) (by exact fun a => rfl) (by exact fun a h => h.1)
    (opens_struct Tryd.underlying35 (by exact fun _ => cells35)
      (fields_cons (off := 0) (off' := 1) 33 (by rfl) (by rfl) (by exact fun _ => cells33) (by exact congrArg (0 + ·) cells33) (opens_slice encOk (t := 33) (e := 106) 106 Tryd.underlying33 cells106.symm (by decide) open106)
      fields_nil))
theorem law {a0 : TCode} (h0 : ok35 a0) : Con Tryd.prog false 6 [.st (cells 35 a0)] [] (.b true) [] := by
  have h := fnWriteCode a0 (by have := h0.1; unfold maxLen at this; omega) (fun f hf => by have h := h0.2 f hf; exact ⟨by have := h.1; unfold maxLen at this; omega, by have := h.2.1.1; unfold maxLen at this; omega, by have := h.2.2.2.2.1; unfold maxLen at this; omega, fun x hx => by have := (h.2.2.2.2.2 x hx).2.2.2; unfold maxLen at this; omega⟩)
  unfold L.FnExactWriteCode at h
  exact (H_sound sysOk h).2
theorem lifted (os : Os) (started : os.Started) (H : Type) (enc : TypeId × Value → H) :
    ReturnsInHanded {} Tryd.checked os 6 .any (fun w args => (Rows.fnExactWriteCodeSpec.pre enc Tryd.prog Tryd.f6 [] false w args ∧ laidMetH Tryd.prog Rows.fnExactWriteCodeRow.laid w) ∧ sizedMet enc Tryd.prog Tryd.f6 (OpenSpec.ofChange Rows.fnExactWriteCodeSpec) false w args)
      (Rows.fnExactWriteCodeSpec.post enc Tryd.prog Tryd.f6 false true false false) := by
  refine row_wrap (C := Tryd.checked) (X := fun w _ => laidMetH Tryd.prog Rows.fnExactWriteCodeRow.laid w) (fun _ _ _ hh h => h.of_heap hh) own started (by kernel_rfl) Tryd.func6
    (wit os H enc) ?_
  intro W base args ds gs before hval0 hW hX hS
  have hval : ∀ (j : Nat) t v, Tryd.f6.params[j]? = some t → args[j]? = some v → Value.okWide Tryd.prog W .any base t v := hval0
  have hg := globOk laidPlain hX hS (List.mem_iff_getElem?.2 ⟨3, rfl⟩) (List.mem_iff_getElem?.2 ⟨1, rfl⟩) (List.mem_iff_getElem?.2 ⟨2, rfl⟩)
  have hW' := hW
  obtain ⟨p, q, hA0, hV, rfl, hfz, hnd⟩ := hW
  obtain ⟨e0, e1, rfl⟩ : ∃ e0 e1, gs = [e0, e1] := by
    obtain ⟨_, _, _, _, d0, _, _, _, _, _, d1, _, h, _⟩ := trodVars_two hV
    exact ⟨d0, d1, h⟩
  have hA : DataW.TrodAll enc Tryd.prog W 0 (fun _ => true) true Tryd.f6.params.toList args.toList ds p := hA0
  rw [Tryd.params6] at hA hval
  obtain ⟨v0, vs0, d0, ds0, p0, q0, hargs, rfl, rfl, h0, r0⟩ := trodAll_cons hA
  obtain ⟨rfl, rfl, rfl⟩ := trodAll_nil r0
  obtain rfl : args = #[v0] := by cases args; simp_all
  have lt0 : ∀ x ∈ p0, x.block < W.heap.size := by obtain ⟨m, hm⟩ := h0; exact DataW.trod_lt m _ _ _ hm
  obtain ⟨A0, rfl, z0⟩ := okWide_struct Tryd.underlying35 (hval 0 35 v0 rfl rfl)
  obtain ⟨a0, g0, k0⟩ := arg_st open35 h0
  refine (con_calls (law g0) hg (w := W) (vals := #[.agg A0]) rfl fun i p hi => ?_).mono fun e W' ⟨r, g', he, hr, bel⟩ => ?_
  · match i, hi with
    | 0, hi => simp at hi; subst hi; exact ⟨.agg A0, rfl, k0 _⟩
  · subst he
    have hr : RepF g' (.b true) r := hr
    cases hr
    exact ⟨_, rfl, _, _, _, [], _, _, hW', trodAll_mk1 (shut_bool Tryd.underlying4 _), (trodAll_cons_mk (Below.trod laidOut (by kernel_rfl) (of_decide_eq_true (by kernel_rfl)) h0 bel lt0) trodAll_mk0),
      Below.trodVars laidOut bel (by kernel_rfl) hV, bel.frame _, fun h => by cases h⟩
theorem over : Rows.fnExactWriteCodeRow.holds Tryd.pinned (OpenSpec.ofChange Rows.fnExactWriteCodeSpec) :=
  OpenClaim.holds_of_wide 6 Tryd.f6 rfl rfl rfl rfl rfl rfl rfl ⟨rfl, rfl, rfl, rfl, rfl⟩ rfl rfl rfl rfl rfl (by kernel_rfl) Tryd.func6 (by kernel_rfl)
    (of_decide_eq_true (by kernel_rfl)) (by unfold Func.isWrapper; first | (rw [if_pos (by decide +kernel)]; kernel_rfl) | (rw [if_neg (by decide +kernel)]; exact ⟨rfl, rfl⟩))
    (fun os started H enc _ => lifted os started H enc)
end Go.KM.W1
