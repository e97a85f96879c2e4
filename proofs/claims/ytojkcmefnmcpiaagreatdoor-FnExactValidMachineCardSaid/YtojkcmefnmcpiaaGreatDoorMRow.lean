/- The row of the law FnExactBuilt. Conditions: none. -/
import Derived.Test.YtojkcmefnmcpiaaGreatDoorMSys
import Derived.Test.YtojkcmefnmcpiaaGreatDoorMDoor
import Derived.Test.YtojkcmefnmcpiaaGreatDoorMPe
import Derived.LaidMore
import Derived.OpenVars
import Derived.WalkKit
import Derived.ProofKit
import Derived.OpenShut
import Derived.ShutString
import Derived.ChangeOld
import Derived.Below
import Derived.SizedLaws
import Derived.Carry
import Derived.Stop.Joined
namespace Go.KM.M1
open Go Go.KM Go.RowKit Go.ChangeShapes Go.WideShapes Go.ChangeAt Go.Proofs Go.Proofs.YtojkcmefnmcpiaaGreatDoor
open Go.KM.Fam (Dn dflt)
open Go.KM.Enc (cells sz mkE glob gany u8)
set_option autoImplicit false
set_option linter.unusedVariables false
set_option maxRecDepth 100000
theorem cells2 : 1 = Tryz.prog.cellsOf 2 := by kernel_rfl
theorem cells3 : 1 = Tryz.prog.cellsOf 3 := by kernel_rfl
theorem cells4 : 1 = Tryz.prog.cellsOf 4 := by kernel_rfl
theorem cells9 : 1 = Tryz.prog.cellsOf 9 := by kernel_rfl
theorem cells22 : 1 = Tryz.prog.cellsOf 22 := by kernel_rfl
theorem cells23 : 1 = Tryz.prog.cellsOf 23 := by kernel_rfl
theorem cells24 : 1 = Tryz.prog.cellsOf 24 := by kernel_rfl
theorem cells25 : 1 = Tryz.prog.cellsOf 25 := by kernel_rfl
theorem cells27 : 14 = Tryz.prog.cellsOf 27 := by kernel_rfl
theorem cells64 : 1 = Tryz.prog.cellsOf 64 := by kernel_rfl
theorem cells66 : 1 = Tryz.prog.cellsOf 66 := by kernel_rfl
theorem cells68 : 1 = Tryz.prog.cellsOf 68 := by kernel_rfl
theorem cells70 : 5 = Tryz.prog.cellsOf 70 := by kernel_rfl
theorem cells72 : 2 = Tryz.prog.cellsOf 72 := by kernel_rfl
theorem cells86 : 1 = Tryz.prog.cellsOf 86 := by kernel_rfl
theorem cells122 : 1 = Tryz.prog.cellsOf 122 := by kernel_rfl
theorem cells124 : 5 = Tryz.prog.cellsOf 124 := by kernel_rfl
theorem cells126 : 3 = Tryz.prog.cellsOf 126 := by kernel_rfl
theorem cells162 : 4 = Tryz.prog.cellsOf 162 := by kernel_rfl
def ok162 (v : TIns) : Prop := (Lit.int .i64 v.gOp).wf = true ∧ (Lit.int .i64 v.gA).wf = true ∧ (Lit.int .i64 v.gN).wf = true ∧ v.gText.size ≤ maxLen
theorem open162 : Opens Tryz.prog 162 TIns (cells 162) ok162 :=
 opens_iso (fun x : Int × Int × Int × ByteArray × Unit => TIns.mk x.1 x.2.1 x.2.2.1 x.2.2.2.1) (by exact fun a => rfl) (by exact fun a h => ⟨h.1, h.2.1, h.2.2.1, h.2.2.2.1⟩)
  (opens_struct Tryz.underlying162 (by exact fun _ => cells162)
   (fields_cons (off := 0) (off' := 1) 3 (by rfl) (by rfl) (by exact fun _ => cells3) (by exact congrArg (0 + ·) cells3) (opens_int Tryz.underlying3)
   (fields_cons (off := 1) (off' := 2) 3 (by rfl) (by rfl) (by exact fun _ => cells3) (by exact congrArg (1 + ·) cells3) (opens_int Tryz.underlying3)
   (fields_cons (off := 2) (off' := 3) 2 (by rfl) (by rfl) (by exact fun _ => cells2) (by exact congrArg (2 + ·) cells2) (opens_int Tryz.underlying2)
   (fields_cons (off := 3) (off' := 4) 9 (by rfl) (by rfl) (by exact fun _ => cells9) (by exact congrArg (3 + ·) cells9) (opens_string Tryz.underlying9)
   fields_nil)))))
def ok124 (v : TFn) : Prop := v.gName.size ≤ maxLen ∧ (v.gParams.length ≤ maxLen ∧ ∀ x ∈ v.gParams, (Lit.int .i64 x).wf = true) ∧ (Lit.int .i64 v.gResult).wf = true ∧ (Lit.int .i64 v.gSlots).wf = true ∧ (v.gIns.length ≤ maxLen ∧ ∀ x ∈ v.gIns, ok162 x)
theorem open124 : Opens Tryz.prog 124 TFn (cells 124) ok124 :=
 opens_iso (fun x : ByteArray × List Int × Int × Int × List TIns × Unit => TFn.mk x.1 x.2.1 x.2.2.1 x.2.2.2.1 x.2.2.2.2.1) (by exact fun a => rfl) (by exact fun a h => ⟨h.1, h.2.1, h.2.2.1, h.2.2.2.1, h.2.2.2.2.1⟩)
  (opens_struct Tryz.underlying124 (by exact fun _ => cells124)
   (fields_cons (off := 0) (off' := 1) 9 (by rfl) (by rfl) (by exact fun _ => cells9) (by exact congrArg (0 + ·) cells9) (opens_string Tryz.underlying9)
   (fields_cons (off := 1) (off' := 2) 86 (by rfl) (by rfl) (by exact fun _ => cells86) (by exact congrArg (1 + ·) cells86) (opens_slice encOk (t := 86) (e := 3) 3 Tryz.underlying86 cells3.symm (by decide) (opens_int Tryz.underlying3))
   (fields_cons (off := 2) (off' := 3) 3 (by rfl) (by rfl) (by exact fun _ => cells3) (by exact congrArg (2 + ·) cells3) (opens_int Tryz.underlying3)
   (fields_cons (off := 3) (off' := 4) 3 (by rfl) (by rfl) (by exact fun _ => cells3) (by exact congrArg (3 + ·) cells3) (opens_int Tryz.underlying3)
   (fields_cons (off := 4) (off' := 5) 122 (by rfl) (by rfl) (by exact fun _ => cells122) (by exact congrArg (4 + ·) cells122) (opens_slice encOk (t := 122) (e := 162) 162 Tryz.underlying122 cells162.symm (by decide) open162)
   fields_nil))))))
def ok66 (v : TCode) : Prop := (v.gFns.length ≤ maxLen ∧ ∀ x ∈ v.gFns, ok124 x)
theorem open66 : Opens Tryz.prog 66 TCode (cells 66) ok66 :=
 opens_iso (fun x : List TFn × Unit => TCode.mk x.1) (by exact fun a => rfl) (by exact fun a h => h.1)
  (opens_struct Tryz.underlying66 (by exact fun _ => cells66)
   (fields_cons (off := 0) (off' := 1) 64 (by rfl) (by rfl) (by exact fun _ => cells64) (by exact congrArg (0 + ·) cells64) (opens_slice encOk (t := 64) (e := 124) 124 Tryz.underlying64 cells124.symm (by decide) open124)
   fields_nil))
def ok126 (v : TValue) : Prop := (Lit.int .i64 v.gType).wf = true ∧ (Lit.int .i64 v.gN).wf = true ∧ v.gText.size ≤ maxLen
theorem open126 : Opens Tryz.prog 126 TValue (cells 126) ok126 :=
 opens_iso (fun x : Int × Int × ByteArray × Unit => TValue.mk x.1 x.2.1 x.2.2.1) (by exact fun a => rfl) (by exact fun a h => ⟨h.1, h.2.1, h.2.2.1⟩)
  (opens_struct Tryz.underlying126 (by exact fun _ => cells126)
   (fields_cons (off := 0) (off' := 1) 3 (by rfl) (by rfl) (by exact fun _ => cells3) (by exact congrArg (0 + ·) cells3) (opens_int Tryz.underlying3)
   (fields_cons (off := 1) (off' := 2) 2 (by rfl) (by rfl) (by exact fun _ => cells2) (by exact congrArg (1 + ·) cells2) (opens_int Tryz.underlying2)
   (fields_cons (off := 2) (off' := 3) 9 (by rfl) (by rfl) (by exact fun _ => cells9) (by exact congrArg (2 + ·) cells9) (opens_string Tryz.underlying9)
   fields_nil))))
def ok70 (v : TFrame) : Prop := (Lit.int .i64 v.gCode).wf = true ∧ (Lit.int .i64 v.gFn).wf = true ∧ (Lit.int .i64 v.gAt).wf = true ∧ (v.gSlots.length ≤ maxLen ∧ ∀ x ∈ v.gSlots, ok126 x) ∧ (v.gStack.length ≤ maxLen ∧ ∀ x ∈ v.gStack, ok126 x)
theorem open70 : Opens Tryz.prog 70 TFrame (cells 70) ok70 :=
 opens_iso (fun x : Int × Int × Int × List TValue × List TValue × Unit => TFrame.mk x.1 x.2.1 x.2.2.1 x.2.2.2.1 x.2.2.2.2.1) (by exact fun a => rfl) (by exact fun a h => ⟨h.1, h.2.1, h.2.2.1, h.2.2.2.1, h.2.2.2.2.1⟩)
  (opens_struct Tryz.underlying70 (by exact fun _ => cells70)
   (fields_cons (off := 0) (off' := 1) 3 (by rfl) (by rfl) (by exact fun _ => cells3) (by exact congrArg (0 + ·) cells3) (opens_int Tryz.underlying3)
   (fields_cons (off := 1) (off' := 2) 3 (by rfl) (by rfl) (by exact fun _ => cells3) (by exact congrArg (1 + ·) cells3) (opens_int Tryz.underlying3)
   (fields_cons (off := 2) (off' := 3) 3 (by rfl) (by rfl) (by exact fun _ => cells3) (by exact congrArg (2 + ·) cells3) (opens_int Tryz.underlying3)
   (fields_cons (off := 3) (off' := 4) 68 (by rfl) (by rfl) (by exact fun _ => cells68) (by exact congrArg (3 + ·) cells68) (opens_slice encOk (t := 68) (e := 126) 126 Tryz.underlying68 cells126.symm (by decide) open126)
   (fields_cons (off := 4) (off' := 5) 68 (by rfl) (by rfl) (by exact fun _ => cells68) (by exact congrArg (4 + ·) cells68) (opens_slice encOk (t := 68) (e := 126) 126 Tryz.underlying68 cells126.symm (by decide) open126)
   fields_nil))))))
def ok72 (v : TFile) : Prop := v.gName.size ≤ maxLen ∧ v.gText.size ≤ maxLen
theorem open72 : Opens Tryz.prog 72 TFile (cells 72) ok72 :=
 opens_iso (fun x : ByteArray × ByteArray × Unit => TFile.mk x.1 x.2.1) (by exact fun a => rfl) (by exact fun a h => ⟨h.1, h.2.1⟩)
  (opens_struct Tryz.underlying72 (by exact fun _ => cells72)
   (fields_cons (off := 0) (off' := 1) 9 (by rfl) (by rfl) (by exact fun _ => cells9) (by exact congrArg (0 + ·) cells9) (opens_string Tryz.underlying9)
   (fields_cons (off := 1) (off' := 2) 9 (by rfl) (by rfl) (by exact fun _ => cells9) (by exact congrArg (1 + ·) cells9) (opens_string Tryz.underlying9)
   fields_nil)))
def ok27 (v : TMachine) : Prop := (v.gCodes.length ≤ maxLen ∧ ∀ x ∈ v.gCodes, ok66 x) ∧ (v.gArgs.length ≤ maxLen ∧ ∀ x ∈ v.gArgs, x.size ≤ maxLen) ∧ (v.gOuts.length ≤ maxLen ∧ ∀ x ∈ v.gOuts, x.size ≤ maxLen) ∧ (v.gFrames.length ≤ maxLen ∧ ∀ x ∈ v.gFrames, ok70 x) ∧ (Lit.int .i64 v.gSteps).wf = true ∧ (Lit.int .i64 v.gLooks).wf = true ∧ (Lit.int .i64 v.gKind).wf = true ∧ v.gName.size ≤ maxLen ∧ v.gHold.size ≤ maxLen ∧ True ∧ (Lit.int .i64 v.gEnd).wf = true ∧ v.gText.size ≤ maxLen ∧ (v.gFiles.length ≤ maxLen ∧ ∀ x ∈ v.gFiles, ok72 x) ∧ (v.gSaid.length ≤ maxLen ∧ ∀ x ∈ v.gSaid, x.size ≤ maxLen)
theorem open27 : Opens Tryz.prog 27 TMachine (cells 27) ok27 :=
 opens_iso (fun x : List TCode × List ByteArray × List ByteArray × List TFrame × Int × Int × Int × ByteArray × ByteArray × Bool × Int × ByteArray × List TFile × List ByteArray × Unit => TMachine.mk x.1 x.2.1 x.2.2.1 x.2.2.2.1 x.2.2.2.2.1 x.2.2.2.2.2.1 x.2.2.2.2.2.2.1 x.2.2.2.2.2.2.2.1 x.2.2.2.2.2.2.2.2.1 x.2.2.2.2.2.2.2.2.2.1 x.2.2.2.2.2.2.2.2.2.2.1 x.2.2.2.2.2.2.2.2.2.2.2.1 x.2.2.2.2.2.2.2.2.2.2.2.2.1 x.2.2.2.2.2.2.2.2.2.2.2.2.2.1) (by exact fun a => rfl) (by exact fun a h => ⟨h.1, h.2.1, h.2.2.1, h.2.2.2.1, h.2.2.2.2.1, h.2.2.2.2.2.1, h.2.2.2.2.2.2.1, h.2.2.2.2.2.2.2.1, h.2.2.2.2.2.2.2.2.1, h.2.2.2.2.2.2.2.2.2.1, h.2.2.2.2.2.2.2.2.2.2.1, h.2.2.2.2.2.2.2.2.2.2.2.1, h.2.2.2.2.2.2.2.2.2.2.2.2.1, h.2.2.2.2.2.2.2.2.2.2.2.2.2.1⟩)
  (opens_struct Tryz.underlying27 (by exact fun _ => cells27)
   (fields_cons (off := 0) (off' := 1) 22 (by rfl) (by rfl) (by exact fun _ => cells22) (by exact congrArg (0 + ·) cells22) (opens_slice encOk (t := 22) (e := 66) 66 Tryz.underlying22 cells66.symm (by decide) open66)
   (fields_cons (off := 1) (off' := 2) 23 (by rfl) (by rfl) (by exact fun _ => cells23) (by exact congrArg (1 + ·) cells23) (opens_slice encOk (t := 23) (e := 9) 9 Tryz.underlying23 cells9.symm (by decide) (opens_string Tryz.underlying9))
   (fields_cons (off := 2) (off' := 3) 23 (by rfl) (by rfl) (by exact fun _ => cells23) (by exact congrArg (2 + ·) cells23) (opens_slice encOk (t := 23) (e := 9) 9 Tryz.underlying23 cells9.symm (by decide) (opens_string Tryz.underlying9))
   (fields_cons (off := 3) (off' := 4) 24 (by rfl) (by rfl) (by exact fun _ => cells24) (by exact congrArg (3 + ·) cells24) (opens_slice encOk (t := 24) (e := 70) 70 Tryz.underlying24 cells70.symm (by decide) open70)
   (fields_cons (off := 4) (off' := 5) 3 (by rfl) (by rfl) (by exact fun _ => cells3) (by exact congrArg (4 + ·) cells3) (opens_int Tryz.underlying3)
   (fields_cons (off := 5) (off' := 6) 3 (by rfl) (by rfl) (by exact fun _ => cells3) (by exact congrArg (5 + ·) cells3) (opens_int Tryz.underlying3)
   (fields_cons (off := 6) (off' := 7) 3 (by rfl) (by rfl) (by exact fun _ => cells3) (by exact congrArg (6 + ·) cells3) (opens_int Tryz.underlying3)
   (fields_cons (off := 7) (off' := 8) 9 (by rfl) (by rfl) (by exact fun _ => cells9) (by exact congrArg (7 + ·) cells9) (opens_string Tryz.underlying9)
   (fields_cons (off := 8) (off' := 9) 9 (by rfl) (by rfl) (by exact fun _ => cells9) (by exact congrArg (8 + ·) cells9) (opens_string Tryz.underlying9)
   (fields_cons (off := 9) (off' := 10) 4 (by rfl) (by rfl) (by exact fun _ => cells4) (by exact congrArg (9 + ·) cells4) (opens_bool Tryz.underlying4)
   (fields_cons (off := 10) (off' := 11) 3 (by rfl) (by rfl) (by exact fun _ => cells3) (by exact congrArg (10 + ·) cells3) (opens_int Tryz.underlying3)
   (fields_cons (off := 11) (off' := 12) 9 (by rfl) (by rfl) (by exact fun _ => cells9) (by exact congrArg (11 + ·) cells9) (opens_string Tryz.underlying9)
   (fields_cons (off := 12) (off' := 13) 25 (by rfl) (by rfl) (by exact fun _ => cells25) (by exact congrArg (12 + ·) cells25) (opens_slice encOk (t := 25) (e := 72) 72 Tryz.underlying25 cells72.symm (by decide) open72)
   (fields_cons (off := 13) (off' := 14) 23 (by rfl) (by rfl) (by exact fun _ => cells23) (by exact congrArg (13 + ·) cells23) (opens_slice encOk (t := 23) (e := 9) 9 Tryz.underlying23 cells9.symm (by decide) (opens_string Tryz.underlying9))
   fields_nil)))))))))))))))
theorem law {a0 : TMachine} (h0 : ok27 a0) : Con Tryz.prog false 3 [.st (cells 27 a0)] [] (.b true) [] := by
 have h := fnValidMachine a0 (by
  have bl : ∀ {n : Nat}, n ≤ maxLen → n ≤ BIG := fun h => by unfold maxLen at h; exact h
  obtain ⟨h1, h2, h3, h4, _, _, _, h5, h6, _, _, h7, h8, h9⟩ := h0
  exact ⟨⟨bl h1.1, fun c hc => ⟨bl (h1.2 c hc).1, fun f hf => have q := (h1.2 c hc).2 f hf; ⟨bl q.1, bl q.2.1.1, bl q.2.2.2.2.1, fun x hx => bl (q.2.2.2.2.2 x hx).2.2.2⟩⟩⟩, ⟨bl h2.1, fun x hx => bl (h2.2 x hx)⟩, ⟨bl h3.1, fun x hx => bl (h3.2 x hx)⟩,
   ⟨bl h4.1, fun f hf => have q := h4.2 f hf; ⟨⟨bl q.2.2.2.1.1, fun v hv => bl (q.2.2.2.1.2 v hv).2.2⟩, bl q.2.2.2.2.1, fun v hv => bl (q.2.2.2.2.2 v hv).2.2⟩⟩, bl h5, bl h6, bl h7, ⟨bl h8.1, fun x hx => ⟨bl (h8.2 x hx).1, bl (h8.2 x hx).2⟩⟩, ⟨bl h9.1, fun x hx => bl (h9.2 x hx)⟩⟩)
 unfold L.FnExactValidMachine at h
 exact (H_sound sysOk h).2
theorem lifted (os : Os) (started : os.Started) (H : Type) (enc : TypeId × Value → H) :
  ReturnsInHanded {} Tryz.checked os 3 .any (fun w args => (Rows.fnExactValidMachineSpec.pre enc Tryz.prog Tryz.f3 [] false w args ∧ laidMetH Tryz.prog Rows.fnExactValidMachineRow.laid w) ∧ sizedMet enc Tryz.prog Tryz.f3 (OpenSpec.ofChange Rows.fnExactValidMachineSpec) false w args)
   (Rows.fnExactValidMachineSpec.post enc Tryz.prog Tryz.f3 false true false false) := by
 refine row_wrap (C := Tryz.checked) (X := fun w _ => laidMetH Tryz.prog Rows.fnExactValidMachineRow.laid w) (fun _ _ _ hh h => h.of_heap hh) own started (by kernel_rfl) Tryz.func3
  (wit os H enc) ?_
 intro W base args ds gs before hval0 hW hX hS
 have hval : ∀ (j : Nat) t v, Tryz.f3.params[j]? = some t → args[j]? = some v → Value.okWide Tryz.prog W .any base t v := hval0
 have hg := globOk laidPlain hX hS (List.mem_iff_getElem?.2 ⟨3, rfl⟩) (List.mem_iff_getElem?.2 ⟨1, rfl⟩) (List.mem_iff_getElem?.2 ⟨2, rfl⟩)
 have hW' := hW
 obtain ⟨p, q, hA0, hV, rfl, hfz, hnd⟩ := hW
 obtain ⟨e0, e1, rfl⟩ : ∃ e0 e1, gs = [e0, e1] := by
  obtain ⟨_, _, _, _, d0, _, _, _, _, _, d1, _, h, _⟩ := trodVars_two hV
  exact ⟨d0, d1, h⟩
 have hA : DataW.TrodAll enc Tryz.prog W 0 (fun _ => true) true Tryz.f3.params.toList args.toList ds p := hA0
 rw [Tryz.params3] at hA hval
 obtain ⟨v0, vs0, d0, ds0, p0, q0, hargs, rfl, rfl, h0, r0⟩ := trodAll_cons hA
 obtain ⟨rfl, rfl, rfl⟩ := trodAll_nil r0
 obtain rfl : args = #[v0] := by cases args; simp_all
 have lt0 : ∀ x ∈ p0, x.block < W.heap.size := by obtain ⟨m, hm⟩ := h0; exact DataW.trod_lt m _ _ _ hm
 obtain ⟨A0, rfl, z0⟩ := okWide_struct Tryz.underlying27 (hval 0 27 v0 rfl rfl)
 obtain ⟨a0, g0, k0⟩ := arg_st open27 h0
 refine (con_calls (law g0) hg (w := W) (vals := #[.agg A0]) rfl fun i p hi => ?_).mono fun e W' ⟨r, g', he, hr, bel⟩ => ?_
 ·match i, hi with
  | 0, hi => simp at hi; subst hi; exact ⟨.agg A0, rfl, k0 _⟩
 ·subst he
  have hr : RepF g' (.b true) r := hr
  cases hr
  exact ⟨_, rfl, _, _, _, [], _, _, hW', trodAll_mk1 (shut_bool Tryz.underlying4 _), (trodAll_cons_mk (Below.trod laidOut (by kernel_rfl) (of_decide_eq_true (by kernel_rfl)) h0 bel lt0) trodAll_mk0),
   Below.trodVars laidOut bel (by kernel_rfl) hV, bel.frame _, fun h => by cases h⟩
theorem over : Rows.fnExactValidMachineRow.holds Tryz.pinned (OpenSpec.ofChange Rows.fnExactValidMachineSpec) :=
 OpenClaim.holds_of_wide 3 Tryz.f3 rfl rfl rfl rfl rfl rfl rfl ⟨rfl, rfl, rfl, rfl, rfl⟩ rfl rfl rfl rfl rfl (by kernel_rfl) Tryz.func3 (by kernel_rfl)
  (of_decide_eq_true (by kernel_rfl)) (by unfold Func.isWrapper; first | (rw [if_pos (by decide +kernel)]; kernel_rfl) | (rw [if_neg (by decide +kernel)]; exact ⟨rfl, rfl⟩))
  (fun os started H enc _ => lifted os started H enc)
end Go.KM.M1
