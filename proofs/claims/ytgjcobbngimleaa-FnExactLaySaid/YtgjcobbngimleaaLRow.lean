/- The row of the law FnExactBuilt. Conditions: none. -/
import Derived.Test.YtgjcobbngimleaaLSys
import Derived.Test.YtgjcobbngimleaaLDoor
import Derived.Test.YtgjcobbngimleaaLLayD
import Derived.LaidMore
import Derived.OpenVars
import Derived.WalkKit
import Derived.ProofKit
import Derived.OpenShut
import Derived.ShutString
import Derived.ChangeOld
import Derived.Below
import Derived.SizedLaws
import Derived.Carry
import Derived.Stop.Joined
namespace Go.KM.L1
open Go Go.KM Go.RowKit Go.ChangeShapes Go.WideShapes Go.ChangeAt Go.Proofs Go.Proofs.Ytgjcobbngimleaa
open Go.KM.Fam (Dn dflt)
open Go.KM.Enc (cells sz mkE glob gany u8)
set_option autoImplicit false
set_option linter.unusedVariables false
set_option maxRecDepth 100000
theorem cells9 : 1 = Try.prog.cellsOf 9 := by kernel_rfl
theorem cells22 : 1 = Try.prog.cellsOf 22 := by kernel_rfl
theorem cells24 : 1 = Try.prog.cellsOf 24 := by kernel_rfl
theorem cells51 : 2 = Try.prog.cellsOf 51 := by kernel_rfl
def ok51 (v : TFile) : Prop := v.gName.size ≤ maxLen ∧ v.gText.size ≤ maxLen
theorem open51 : Opens Try.prog 51 TFile (cells 51) ok51 :=
  opens_iso (fun x : ByteArray × ByteArray × Unit => TFile.mk x.1 x.2.1) (by exact fun a => rfl) (by exact fun a h => ⟨h.1, h.2.1⟩)
    (opens_struct Try.underlying51 (by exact fun _ => cells51)
      (fields_cons (off := 0) (off' := 1) 9 (by rfl) (by rfl) (by exact fun _ => cells9) (by exact congrArg (0 + ·) cells9) (opens_string Try.underlying9)
      (fields_cons (off := 1) (off' := 2) 9 (by rfl) (by rfl) (by exact fun _ => cells9) (by exact congrArg (1 + ·) cells9) (opens_string Try.underlying9)
      fields_nil)))
def ok24 (v : TPlace) : Prop := (v.gFiles.length ≤ maxLen ∧ ∀ x ∈ v.gFiles, ok51 x)
theorem open24 : Opens Try.prog 24 TPlace (cells 24) ok24 :=
  opens_iso (fun x : List TFile × Unit => TPlace.mk x.1) (by exact fun a => rfl) (by exact fun a h => h.1)
    (opens_struct Try.underlying24 (by exact fun _ => cells24)
      (fields_cons (off := 0) (off' := 1) 22 (by rfl) (by rfl) (by exact fun _ => cells22) (by exact congrArg (0 + ·) cells22) (opens_slice encOk (t := 22) (e := 51) 51 Try.underlying22 cells51.symm (by decide) open51)
      fields_nil))
theorem wf64 {n : Int} (h : (Lit.int .i64 n).wf = true) : I64 n := by
  have e1 : IntKind.i64.min = -9223372036854775808 := by decide
  have e2 : IntKind.i64.max = 9223372036854775807 := by decide
  simp only [Lit.wf, Bool.and_eq_true, decide_eq_true_eq, e1, e2] at h
  exact ⟨by omega, by omega⟩
theorem laidNil (w : World) : laidMetH Try.prog Rows.fnExactLayRow.laid w := by
  show laidMet Try.prog [] w
  exact ⟨[], by first | rfl | trivial | constructor, List.nodup_nil, fun b off h => by cases h⟩
theorem law {a0 : TPlace} {a1 : List TFile} (h0 : ok24 a0) (h1 : (a1.length ≤ maxLen ∧ ∀ x ∈ a1, ok51 x)) : Con Try.prog false 3 [.st (cells 24 a0), .fl 51 (a1)] [] (.b true) [] := by
  have h := fnLay a0 a1 (by have := h0.1; unfold maxLen at this; omega) (fun x hx => ⟨by have := (h0.2 x hx).1; unfold maxLen at this; omega, by have := (h0.2 x hx).2; unfold maxLen at this; omega⟩) (by have := h1.1; unfold maxLen at this; omega) (fun x hx => ⟨by have := (h1.2 x hx).1; unfold maxLen at this; omega, by have := (h1.2 x hx).2; unfold maxLen at this; omega⟩)
  unfold L.FnExactLay at h
  exact (H_sound sysOk h).2
theorem lifted (os : Os) (started : os.Started) (H : Type) (enc : TypeId × Value → H) :
    ReturnsInHanded {} Try.checked os 3 .any (fun w args => (Rows.fnExactLaySpec.pre enc Try.prog Try.f3 [] false w args ∧ laidMetH Try.prog Rows.fnExactLayRow.laid w) ∧ sizedMet enc Try.prog Try.f3 (OpenSpec.ofChange Rows.fnExactLaySpec) false w args)
      (Rows.fnExactLaySpec.post enc Try.prog Try.f3 false true false false) := by
  refine row_wrap (C := Try.checked) (X := fun w _ => laidMetH Try.prog Rows.fnExactLayRow.laid w) (fun _ _ _ hh h => h.of_heap hh) own started (by kernel_rfl) Try.func3
    (wit os H enc) ?_
  intro W base args ds gs before hval0 hW hX hS
  have hval : ∀ (j : Nat) t v, Try.f3.params[j]? = some t → args[j]? = some v → Value.okWide Try.prog W .any base t v := hval0
  have hg := globOk laidPlain hX hS
  have hW' := hW
  obtain ⟨p, q, hA0, hV, rfl, hfz, hnd⟩ := hW
  obtain ⟨rfl, rfl⟩ := trodVars_none hV
  have hA : DataW.TrodAll enc Try.prog W 0 (fun _ => true) true Try.f3.params.toList args.toList ds p := hA0
  rw [Try.params3] at hA hval
  obtain ⟨v0, vs0, d0, ds0, p0, q0, hargs, rfl, rfl, h0, r0⟩ := trodAll_cons hA
  obtain ⟨v1, vs1, d1, ds1, p1, q1, rfl, rfl, rfl, h1, r1⟩ := trodAll_cons r0
  obtain ⟨rfl, rfl, rfl⟩ := trodAll_nil r1
  obtain rfl : args = #[v0, v1] := by cases args; simp_all
  have lt0 : ∀ x ∈ p0, x.block < W.heap.size := by obtain ⟨m, hm⟩ := h0; exact DataW.trod_lt m _ _ _ hm
  have lt1 : ∀ x ∈ p1, x.block < W.heap.size := by obtain ⟨m, hm⟩ := h1; exact DataW.trod_lt m _ _ _ hm
  obtain ⟨A0, rfl, z0⟩ := okWide_struct Try.underlying24 (hval 0 24 v0 rfl rfl)
  obtain ⟨a0, g0, k0⟩ := arg_st open24 h0
  obtain ⟨a1, g1, k1⟩ := arg_one (opens_slice encOk (t := 22) (e := 51) 51 Try.underlying22 cells51.symm (by decide) open51) (fun _ => rfl) (not_agg (hval 1 22 v1 rfl rfl) (by rw [Try.underlying22]; trivial)) h1
  refine (con_calls (law g0 g1) hg (w := W) (vals := #[.agg A0, v1]) rfl fun i p hi => ?_).mono fun e W' ⟨r, g', he, hr, bel⟩ => ?_
  · match i, hi with
    | 0, hi => simp at hi; subst hi; exact ⟨.agg A0, rfl, k0 _⟩
    | 1, hi => simp at hi; subst hi; exact ⟨v1, rfl, k1 _⟩
  · subst he
    have hr : RepF g' (.b true) r := hr
    cases hr
    exact ⟨_, rfl, _, _, _, [], _, _, hW', trodAll_mk1 (shut_bool Try.underlying4 _), (trodAll_cons_mk (Below.trod laidOut (by kernel_rfl) (of_decide_eq_true (by kernel_rfl)) h0 bel lt0) (trodAll_cons_mk (Below.trod laidOut (by kernel_rfl) (of_decide_eq_true (by kernel_rfl)) h1 bel lt1) trodAll_mk0)),
      Below.trodVars laidOut bel (by kernel_rfl) hV, bel.frame _, fun h => by cases h⟩
theorem noLaid (A B : World → Array Value → Prop) : (fun w args => (A w args ∧ laidMetH Try.prog Rows.fnExactLayRow.laid w) ∧ B w args) = fun w args => A w args ∧ B w args := by
  funext w args
  exact propext ⟨fun h => ⟨h.1.1, h.2⟩, fun h => ⟨⟨h.1, laidNil w⟩, h.2⟩⟩
theorem over : Rows.fnExactLayRow.holds Try.pinned (OpenSpec.ofChange Rows.fnExactLaySpec) :=
  OpenClaim.holds_of_wide 3 Try.f3 rfl rfl rfl rfl rfl rfl rfl ⟨rfl, rfl, rfl, rfl, rfl⟩ rfl rfl rfl rfl rfl (by kernel_rfl) Try.func3 (by kernel_rfl)
    (of_decide_eq_true (by kernel_rfl)) (by unfold Func.isWrapper; first | (rw [if_pos (by decide +kernel)]; kernel_rfl) | (rw [if_neg (by decide +kernel)]; exact ⟨rfl, rfl⟩))
    (fun os started H enc _ => cast (congrArg (fun p => ReturnsInHanded {} Try.checked os 3 .any p (Rows.fnExactLaySpec.post enc Try.prog Try.f3 false true false false)) (noLaid _ _)) (lifted os started H enc))
end Go.KM.L1
