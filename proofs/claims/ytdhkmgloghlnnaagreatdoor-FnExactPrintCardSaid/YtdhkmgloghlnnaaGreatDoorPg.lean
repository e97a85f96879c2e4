/- The start that the door leaves. Conditions: none. -/
import Derived.Test.YtdhkmgloghlnnaaGreatDoorRows
import Derived.LaidMore
import Derived.RowKit
import Derived.ProofKit
import Derived.ChangeOld
import Derived.SizedLaws
import Derived.KernelRfl
import Derived.Test.YtdhkmgloghlnnaaGreatDoorKmZ
import Derived.Test.YtdhkmgloghlnnaaGreatDoorPSys
import Derived.Test.YtdhkmgloghlnnaaGreatDoorPf
import Derived.OpenVars
import Derived.WalkKit
import Derived.OpenShut
import Derived.ShutString
import Derived.Below
import Derived.Carry
import Derived.Stop.Joined
namespace Go.KM.P1
open Go Go.KM Go.RowKit Go.ChangeShapes Go.WideShapes Go.ChangeAt Go.Proofs Go.Proofs.YtdhkmgloghlnnaaGreatDoor
open Go.KM.Fam (Dn dflt)
open Go.KM.Enc (cells sz mkE glob gany u8)
set_option autoImplicit false
set_option linter.unusedVariables false
set_option maxRecDepth 100000
theorem own : ownKnob Tryz.prog.godebug = none := by kernel_rfl
theorem laidOut : laidOutB Tryz.prog = true := by kernel_rfl
theorem laidPlain : ((Rows.fnExactPrintRow.laid).all fun x => x.2.handleName?.isNone) = true := by kernel_rfl
theorem door_met (os : Os) (args : Array Value) : laidMetH Tryz.prog Rows.fnExactPrintRow.laid ((World.doorLaid Tryz.prog 400 os).forCall (fun _ _ => 0) ⟨#[], args, []⟩).memory :=
  laidMetH_of_parts3 (fuel := 8) (laidMet_of_run' 8 (by kernel_rfl) (by kernel_rfl)) (by kernel_rfl) (by kernel_rfl)
theorem wit (os : Os) (H : Type) (enc : TypeId × Value → H) : ∃ (w : World) (tape : Tape) (i : Input), w.os = os ∧ (w.forCall tape i).Shaped Tryz.checked.prog ∧ i.vars = [] ∧ Input.okWide Tryz.checked.prog (w.forCall tape i) .any w.heap.size 3 i ∧
      ((Rows.fnExactPrintSpec.pre enc Tryz.checked.prog Tryz.f3 [] false (w.forCall tape i).memory i.args ∧ laidMetH Tryz.prog Rows.fnExactPrintRow.laid (w.forCall tape i).memory) ∧ sizedMet enc Tryz.checked.prog Tryz.f3 (OpenSpec.ofChange Rows.fnExactPrintSpec) false (w.forCall tape i).memory i.args) ∧ ({} : Assume).holds Tryz.checked.prog (lone (Frame.enter Tryz.checked.prog 3 i.args .normal) [] (w.forCall tape i)) :=
  (ChangeSpec.witness_shaped (enc := enc) (C := Tryz.checked) (os := os) (X := fun w _ => laidMetH Tryz.prog Rows.fnExactPrintRow.laid w) false (World.doorLaid Tryz.prog 400 os) #[.agg #[.slice none 0 0]] 8 rfl (World.shaped_of_RefB (by kernel_rfl) (by kernel_rfl)) (by kernel_rfl) (by kernel_rfl) (by kernel_rfl) (door_met os _))
end Go.KM.P1
namespace Go.KM.P1
open Go Go.KM Go.RowKit Go.ChangeShapes Go.WideShapes Go.ChangeAt Go.Proofs Go.Proofs.YtdhkmgloghlnnaaGreatDoor
open Go.KM.Fam (Dn dflt)
open Go.KM.Enc (cells sz mkE glob gany u8)
set_option autoImplicit false
set_option linter.unusedVariables false
set_option maxRecDepth 100000
theorem cells2 : 1 = Tryz.prog.cellsOf 2 := by kernel_rfl
theorem cells3 : 1 = Tryz.prog.cellsOf 3 := by kernel_rfl
theorem cells9 : 1 = Tryz.prog.cellsOf 9 := by kernel_rfl
theorem cells22 : 1 = Tryz.prog.cellsOf 22 := by kernel_rfl
theorem cells24 : 1 = Tryz.prog.cellsOf 24 := by kernel_rfl
theorem cells66 : 6 = Tryz.prog.cellsOf 66 := by kernel_rfl
def ok66 (v : TNode) : Prop := (Lit.int .i64 v.gKind).wf = true ∧ (Lit.int .i64 v.gOp).wf = true ∧ (Lit.int .i64 v.gType).wf = true ∧ (Lit.int .i64 v.gN).wf = true ∧ v.gText.size ≤ maxLen ∧ (Lit.int .i64 v.gKids).wf = true
theorem open66 : Opens Tryz.prog 66 TNode (cells 66) ok66 :=
  opens_iso (fun x : Int × Int × Int × Int × ByteArray × Int × Unit => TNode.mk x.1 x.2.1 x.2.2.1 x.2.2.2.1 x.2.2.2.2.1 x.2.2.2.2.2.1) (by exact fun a => rfl) (by exact fun a h => ⟨h.1, h.2.1, h.2.2.1, h.2.2.2.1, h.2.2.2.2.1, h.2.2.2.2.2.1⟩)
    (opens_struct Tryz.underlying66 (by exact fun _ => cells66)
      (fields_cons (off := 0) (off' := 1) 3 (by rfl) (by rfl) (by exact fun _ => cells3) (by exact congrArg (0 + ·) cells3) (opens_int Tryz.underlying3)
      (fields_cons (off := 1) (off' := 2) 3 (by rfl) (by rfl) (by exact fun _ => cells3) (by exact congrArg (1 + ·) cells3) (opens_int Tryz.underlying3)
      (fields_cons (off := 2) (off' := 3) 3 (by rfl) (by rfl) (by exact fun _ => cells3) (by exact congrArg (2 + ·) cells3) (opens_int Tryz.underlying3)
      (fields_cons (off := 3) (off' := 4) 2 (by rfl) (by rfl) (by exact fun _ => cells2) (by exact congrArg (3 + ·) cells2) (opens_int Tryz.underlying2)
      (fields_cons (off := 4) (off' := 5) 9 (by rfl) (by rfl) (by exact fun _ => cells9) (by exact congrArg (4 + ·) cells9) (opens_string Tryz.underlying9)
      (fields_cons (off := 5) (off' := 6) 3 (by rfl) (by rfl) (by exact fun _ => cells3) (by exact congrArg (5 + ·) cells3) (opens_int Tryz.underlying3)
      fields_nil)))))))
def ok24 (v : TTree) : Prop := (v.gNodes.length ≤ maxLen ∧ ∀ x ∈ v.gNodes, ok66 x)
theorem open24 : Opens Tryz.prog 24 TTree (cells 24) ok24 :=
  opens_iso (fun x : List TNode × Unit => TTree.mk x.1) (by exact fun a => rfl) (by exact fun a h => h.1)
    (opens_struct Tryz.underlying24 (by exact fun _ => cells24)
      (fields_cons (off := 0) (off' := 1) 22 (by rfl) (by rfl) (by exact fun _ => cells22) (by exact congrArg (0 + ·) cells22) (opens_slice encOk (t := 22) (e := 66) 66 Tryz.underlying22 cells66.symm (by decide) open66)
      fields_nil))
theorem wf64 {n : Int} (h : (Lit.int .i64 n).wf = true) : I64 n := by
  have e1 : IntKind.i64.min = -9223372036854775808 := by decide
  have e2 : IntKind.i64.max = 9223372036854775807 := by decide
  simp only [Lit.wf, Bool.and_eq_true, decide_eq_true_eq, e1, e2] at h
  exact ⟨by omega, by omega⟩
theorem law {a0 : TTree} (h0 : ok24 a0) : Con Tryz.prog false 3 [.st (cells 24 a0)] [] (.b true) [] := by
  have h := fnPrint a0 (by have := h0.1; unfold maxLen at this; omega) (fun x hx => by have := (h0.2 x hx).2.2.2.2.1; unfold maxLen at this; omega) (fun x hx => wf64 (h0.2 x hx).2.2.2.1)
  unfold L.FnExactPrint at h
  exact (H_sound sysOk h).2
theorem lifted (os : Os) (started : os.Started) (H : Type) (enc : TypeId × Value → H) :
    ReturnsInHanded {} Tryz.checked os 3 .any (fun w args => (Rows.fnExactPrintSpec.pre enc Tryz.prog Tryz.f3 [] false w args ∧ laidMetH Tryz.prog Rows.fnExactPrintRow.laid w) ∧ sizedMet enc Tryz.prog Tryz.f3 (OpenSpec.ofChange Rows.fnExactPrintSpec) false w args)
      (Rows.fnExactPrintSpec.post enc Tryz.prog Tryz.f3 false true false false) := by
  refine row_wrap (C := Tryz.checked) (X := fun w _ => laidMetH Tryz.prog Rows.fnExactPrintRow.laid w) (fun _ _ _ hh h => h.of_heap hh) own started (by kernel_rfl) Tryz.func3
    (wit os H enc) ?_
  intro W base args ds gs before hval0 hW hX hS
  have hval : ∀ (j : Nat) t v, Tryz.f3.params[j]? = some t → args[j]? = some v → Value.okWide Tryz.prog W .any base t v := hval0
  have hg := globOk laidPlain hX hS (List.mem_iff_getElem?.2 ⟨5, rfl⟩) (List.mem_iff_getElem?.2 ⟨6, rfl⟩) (List.mem_iff_getElem?.2 ⟨7, rfl⟩) (List.mem_iff_getElem?.2 ⟨2, rfl⟩) (List.mem_iff_getElem?.2 ⟨4, rfl⟩)
  have hW' := hW
  obtain ⟨p, q, hA0, hV, rfl, hfz, hnd⟩ := hW
  obtain ⟨e0, e1, e2, rfl⟩ : ∃ e0 e1 e2, gs = [e0, e1, e2] := by
    cases gs with
    | nil => exact False.elim hV
    | cons d ds =>
      obtain ⟨_, _, _, _, _, _, _, _, _, _, hs, _⟩ := hV
      obtain ⟨_, _, _, _, d0, _, _, _, _, _, d1, _, h, _⟩ := trodVars_two hs
      exact ⟨d, d0, d1, by rw [h]⟩
  have hA : DataW.TrodAll enc Tryz.prog W 0 (fun _ => true) true Tryz.f3.params.toList args.toList ds p := hA0
  rw [Tryz.params3] at hA hval
  obtain ⟨v0, vs0, d0, ds0, p0, q0, hargs, rfl, rfl, h0, r0⟩ := trodAll_cons hA
  obtain ⟨rfl, rfl, rfl⟩ := trodAll_nil r0
  obtain rfl : args = #[v0] := by cases args; simp_all
  have lt0 : ∀ x ∈ p0, x.block < W.heap.size := by obtain ⟨m, hm⟩ := h0; exact DataW.trod_lt m _ _ _ hm
  obtain ⟨A0, rfl, z0⟩ := okWide_struct Tryz.underlying24 (hval 0 24 v0 rfl rfl)
  obtain ⟨a0, g0, k0⟩ := arg_st open24 h0
  refine (con_calls (law g0) hg (w := W) (vals := #[.agg A0]) rfl fun i p hi => ?_).mono fun e W' ⟨r, g', he, hr, bel⟩ => ?_
  · match i, hi with
    | 0, hi => simp at hi; subst hi; exact ⟨.agg A0, rfl, k0 _⟩
  · subst he
    have hr : RepF g' (.b true) r := hr
    cases hr
    exact ⟨_, rfl, _, _, _, [], _, _, hW', trodAll_mk1 (shut_bool Tryz.underlying4 _), (trodAll_cons_mk (Below.trod laidOut (by kernel_rfl) (of_decide_eq_true (by kernel_rfl)) h0 bel lt0) trodAll_mk0),
      Below.trodVars laidOut bel (by kernel_rfl) hV, bel.frame _, fun h => by cases h⟩
theorem over : Rows.fnExactPrintRow.holds Tryz.pinned (OpenSpec.ofChange Rows.fnExactPrintSpec) :=
  OpenClaim.holds_of_wide 3 Tryz.f3 rfl rfl rfl rfl rfl rfl rfl ⟨rfl, rfl, rfl, rfl, rfl⟩ rfl rfl rfl rfl rfl (by kernel_rfl) Tryz.func3 (by kernel_rfl)
    (of_decide_eq_true (by kernel_rfl)) (by unfold Func.isWrapper; first | (rw [if_pos (by decide +kernel)]; kernel_rfl) | (rw [if_neg (by decide +kernel)]; exact ⟨rfl, rfl⟩))
    (fun os started H enc _ => lifted os started H enc)
end Go.KM.P1
