/- Plain laws: what the checks of a node say at each kind. Conditions: none. -/
import Derived.Test.YtdhkmgloghlnnaaGreatDoorPTreeN
namespace Go.KM.P1
open Go Go.KM
open Go.KM.Fam (Dn dflt)
open Go.KM.Enc (cells sz mkE glob gany u8)
set_option autoImplicit false
set_option linter.unusedVariables false
set_option linter.unusedSimpArgs false
set_option maxRecDepth 100000
theorem fI_1 (xo xt xn : Int) (xs : ByteArray) (kd : Int) (ks : List (Option TNode_)) (num : Int) : I.node_fieldsOk (some (⟨⟨1, xo, xt, xn, xs, kd⟩, ks, num⟩ : TNode_)) =
 bif xo == 0 then
 bif bEq xs ((⟨#[]⟩ : ByteArray)) then
 ((I.integer (xt))).bind fun (r0 : Bool) =>
 bif r0 then
 ((I.ValidValue (TValue.mk xt xn ((⟨#[]⟩ : ByteArray))))).bind fun (r1 : Bool) =>
 bif r1 then
 bif decide (xn ≥ 0) then
 some true
 else
 some (xt == 6)
 else
 some false
 else
 some false
 else
 some false
 else
 some false := by
 exact (I.node_fieldsOk_eq _).trans (by kernel_rfl)
theorem gI_1 (xo xt xn : Int) (xs : ByteArray) (kd : Int) (ks : List (Option TNode_)) (num : Int) : I.node_kidsOk (some (⟨⟨1, xo, xt, xn, xs, kd⟩, ks, num⟩ : TNode_)) =
 some ((↑ks.length : Int) == 0) := by
 have h0 : I.node_kidsOk (some (⟨⟨1, xo, xt, xn, xs, kd⟩, ks, num⟩ : TNode_)) = I.node_kidsOk.l117 (some (⟨⟨1, xo, xt, xn, xs, kd⟩, ks, num⟩ : TNode_)) (↑ks.length : Int) (1) true := (I.node_kidsOk_eq _).trans (by kernel_rfl)
 rw [h0]
 exact (I.node_kidsOk.l117_eq _ _ _ _).trans (by kernel_rfl)
theorem uR_1  : R.l2Uses 1 =
 some (false, (true, (true, false))) := by
 exact (R.l2Uses_eq _).trans (by kernel_rfl)
theorem nR_1 : R.l2Named 1 = some false := (R.l2Named_eq _).trans (by kernel_rfl)
theorem fR_1 (xo xt xn : Int) (xs : ByteArray) (kd : Int) : R.l2Fields (⟨1, xo, xt, xn, xs, kd⟩) =
 bif xo != 0 then
 some false
 else
 bif !bEq xs ((⟨#[]⟩ : ByteArray)) then
 some false
 else
 ((R.l1Integer xt)).bind fun (r2 : Bool) =>
 bif r2 then
 ((R.l1Max xt)).bind fun (r3 : Int) =>
 some (decide (IntKind.u64.wrap xn ≤ r3))
 else
 some false := by
 rw [R.l2Fields_eq]
 simp only [uR_1, nR_1]
 kernel_rfl
theorem gR_1 (xo xt xn : Int) (xs : ByteArray) (kd : Int) (l : List Int) : R.l2Fits (⟨1, xo, xt, xn, xs, kd⟩) l =
 some ((↑l.length : Int) == 0) := by
 have h0 : R.l2Fits (⟨1, xo, xt, xn, xs, kd⟩) l = R.l2Fits.l117 l (↑l.length : Int) 1 true (⟨1, xo, xt, xn, xs, kd⟩) := (R.l2Fits_eq _ _).trans (by kernel_rfl)
 rw [h0]
 exact (R.l2Fits.l117_eq _ _ _ _ _).trans (by kernel_rfl)
theorem fI_2 (xo xt xn : Int) (xs : ByteArray) (kd : Int) (ks : List (Option TNode_)) (num : Int) : I.node_fieldsOk (some (⟨⟨2, xo, xt, xn, xs, kd⟩, ks, num⟩ : TNode_)) =
 bif xo == 0 then
 bif xt == 0 then
 bif xn == 0 then
 some (decide ((↑xs.size : Int) ≤ 3000))
 else
 some false
 else
 some false
 else
 some false := by
 exact (I.node_fieldsOk_eq _).trans (by kernel_rfl)
theorem gI_2 (xo xt xn : Int) (xs : ByteArray) (kd : Int) (ks : List (Option TNode_)) (num : Int) : I.node_kidsOk (some (⟨⟨2, xo, xt, xn, xs, kd⟩, ks, num⟩ : TNode_)) =
 some ((↑ks.length : Int) == 0) := by
 have h0 : I.node_kidsOk (some (⟨⟨2, xo, xt, xn, xs, kd⟩, ks, num⟩ : TNode_)) = I.node_kidsOk.l117 (some (⟨⟨2, xo, xt, xn, xs, kd⟩, ks, num⟩ : TNode_)) (↑ks.length : Int) (2) true := (I.node_kidsOk_eq _).trans (by kernel_rfl)
 rw [h0]
 exact (I.node_kidsOk.l117_eq _ _ _ _).trans (by kernel_rfl)
theorem uR_2  : R.l2Uses 2 =
 some (false, (false, (false, true))) := by
 have h0 : R.l2Uses 2 = R.l2Uses.l215 2 true := (R.l2Uses_eq _).trans (by kernel_rfl)
 rw [h0]
 exact (R.l2Uses.l215_eq _ _).trans (by kernel_rfl)
theorem nR_2 : R.l2Named 2 = some false := (R.l2Named_eq _).trans (by kernel_rfl)
theorem fR_2 (xo xt xn : Int) (xs : ByteArray) (kd : Int) : R.l2Fields (⟨2, xo, xt, xn, xs, kd⟩) =
 bif xo != 0 then
 some false
 else
 bif xt != 0 then
 some false
 else
 bif xn != 0 then
 some false
 else
 some (decide ((↑xs.size : Int) ≤ 3000)) := by
 rw [R.l2Fields_eq]
 simp only [uR_2, nR_2]
 kernel_rfl
theorem gR_2 (xo xt xn : Int) (xs : ByteArray) (kd : Int) (l : List Int) : R.l2Fits (⟨2, xo, xt, xn, xs, kd⟩) l =
 some ((↑l.length : Int) == 0) := by
 have h0 : R.l2Fits (⟨2, xo, xt, xn, xs, kd⟩) l = R.l2Fits.l117 l (↑l.length : Int) 2 true (⟨2, xo, xt, xn, xs, kd⟩) := (R.l2Fits_eq _ _).trans (by kernel_rfl)
 rw [h0]
 exact (R.l2Fits.l117_eq _ _ _ _ _).trans (by kernel_rfl)
theorem fI_3 (xo xt xn : Int) (xs : ByteArray) (kd : Int) (ks : List (Option TNode_)) (num : Int) : I.node_fieldsOk (some (⟨⟨3, xo, xt, xn, xs, kd⟩, ks, num⟩ : TNode_)) =
 bif xo == 0 then
 bif xt == 0 then
 bif bEq xs ((⟨#[]⟩ : ByteArray)) then
 bif xn == 0 then
 some true
 else
 some (xn == 1)
 else
 some false
 else
 some false
 else
 some false := by
 exact (I.node_fieldsOk_eq _).trans (by kernel_rfl)
theorem gI_3 (xo xt xn : Int) (xs : ByteArray) (kd : Int) (ks : List (Option TNode_)) (num : Int) : I.node_kidsOk (some (⟨⟨3, xo, xt, xn, xs, kd⟩, ks, num⟩ : TNode_)) =
 some ((↑ks.length : Int) == 0) := by
 have h0 : I.node_kidsOk (some (⟨⟨3, xo, xt, xn, xs, kd⟩, ks, num⟩ : TNode_)) = I.node_kidsOk.l117 (some (⟨⟨3, xo, xt, xn, xs, kd⟩, ks, num⟩ : TNode_)) (↑ks.length : Int) (3) true := (I.node_kidsOk_eq _).trans (by kernel_rfl)
 rw [h0]
 exact (I.node_kidsOk.l117_eq _ _ _ _).trans (by kernel_rfl)
theorem uR_3  : R.l2Uses 3 =
 some (false, (false, (true, false))) := by
 have h0 : R.l2Uses 3 = R.l2Uses.l215 3 false := (R.l2Uses_eq _).trans (by kernel_rfl)
 rw [h0]
 exact (R.l2Uses.l215_eq _ _).trans (by kernel_rfl)
theorem nR_3 : R.l2Named 3 = some false := (R.l2Named_eq _).trans (by kernel_rfl)
theorem fR_3 (xo xt xn : Int) (xs : ByteArray) (kd : Int) : R.l2Fields (⟨3, xo, xt, xn, xs, kd⟩) =
 bif xo != 0 then
 some false
 else
 bif xt != 0 then
 some false
 else
 bif !bEq xs ((⟨#[]⟩ : ByteArray)) then
 some false
 else
 bif xn == 0 then
 some true
 else
 some (xn == 1) := by
 rw [R.l2Fields_eq]
 simp only [uR_3, nR_3]
 kernel_rfl
theorem gR_3 (xo xt xn : Int) (xs : ByteArray) (kd : Int) (l : List Int) : R.l2Fits (⟨3, xo, xt, xn, xs, kd⟩) l =
 some ((↑l.length : Int) == 0) := by
 have h0 : R.l2Fits (⟨3, xo, xt, xn, xs, kd⟩) l = R.l2Fits.l117 l (↑l.length : Int) 3 true (⟨3, xo, xt, xn, xs, kd⟩) := (R.l2Fits_eq _ _).trans (by kernel_rfl)
 rw [h0]
 exact (R.l2Fits.l117_eq _ _ _ _ _).trans (by kernel_rfl)
theorem fI_4 (xo xt xn : Int) (xs : ByteArray) (kd : Int) (ks : List (Option TNode_)) (num : Int) : I.node_fieldsOk (some (⟨⟨4, xo, xt, xn, xs, kd⟩, ks, num⟩ : TNode_)) =
 bif (xo == 0) then
 bif (xt == 0) then
 bif (xn == 0) then
 ((I.nameOk (xs))).bind fun (r0 : Bool) =>
 some r0
 else
 some false
 else
 some false
 else
 some false := by
 have h0 : I.node_fieldsOk (some (⟨⟨4, xo, xt, xn, xs, kd⟩, ks, num⟩ : TNode_)) = I.node_fieldsOk.l7551 (some (⟨⟨4, xo, xt, xn, xs, kd⟩, ks, num⟩ : TNode_)) (xo == 0) (xt == 0) (xn == 0) (bEq xs ((⟨#[]⟩ : ByteArray))) (4) true := (I.node_fieldsOk_eq _).trans (by kernel_rfl)
 rw [h0]
 exact (I.node_fieldsOk.l7551_eq _ _ _ _ _ _ _).trans (by kernel_rfl)
theorem gI_4 (xo xt xn : Int) (xs : ByteArray) (kd : Int) (ks : List (Option TNode_)) (num : Int) : I.node_kidsOk (some (⟨⟨4, xo, xt, xn, xs, kd⟩, ks, num⟩ : TNode_)) =
 some ((↑ks.length : Int) == 0) := by
 have h0 : I.node_kidsOk (some (⟨⟨4, xo, xt, xn, xs, kd⟩, ks, num⟩ : TNode_)) = I.node_kidsOk.l117 (some (⟨⟨4, xo, xt, xn, xs, kd⟩, ks, num⟩ : TNode_)) (↑ks.length : Int) (4) true := (I.node_kidsOk_eq _).trans (by kernel_rfl)
 rw [h0]
 exact (I.node_kidsOk.l117_eq _ _ _ _).trans (by kernel_rfl)
theorem uR_4  : R.l2Uses 4 =
 some (false, (false, (false, true))) := by
 have h0 : R.l2Uses 4 = R.l2Uses.l215 4 true := (R.l2Uses_eq _).trans (by kernel_rfl)
 rw [h0]
 exact (R.l2Uses.l215_eq _ _).trans (by kernel_rfl)
theorem nR_4 : R.l2Named 4 = some true := (R.l2Named_eq _).trans (by kernel_rfl)
theorem fR_4 (xo xt xn : Int) (xs : ByteArray) (kd : Int) : R.l2Fields (⟨4, xo, xt, xn, xs, kd⟩) =
 bif xo != 0 then
 some false
 else
 bif xt != 0 then
 some false
 else
 bif xn != 0 then
 some false
 else
 ((R.l1NameOk xs)).bind fun (r2 : Bool) =>
 bif !r2 then
 some false
 else
 some true := by
 rw [R.l2Fields_eq]
 simp only [uR_4, nR_4]
 kernel_rfl
theorem gR_4 (xo xt xn : Int) (xs : ByteArray) (kd : Int) (l : List Int) : R.l2Fits (⟨4, xo, xt, xn, xs, kd⟩) l =
 some ((↑l.length : Int) == 0) := by
 have h0 : R.l2Fits (⟨4, xo, xt, xn, xs, kd⟩) l = R.l2Fits.l117 l (↑l.length : Int) 4 true (⟨4, xo, xt, xn, xs, kd⟩) := (R.l2Fits_eq _ _).trans (by kernel_rfl)
 rw [h0]
 exact (R.l2Fits.l117_eq _ _ _ _ _).trans (by kernel_rfl)
theorem fI_5 (xo xt xn : Int) (xs : ByteArray) (kd : Int) (ks : List (Option TNode_)) (num : Int) : I.node_fieldsOk (some (⟨⟨5, xo, xt, xn, xs, kd⟩, ks, num⟩ : TNode_)) =
 bif (xt == 0) then
 bif (xn == 0) then
 bif (bEq xs ((⟨#[]⟩ : ByteArray))) then
 bif decide (xo ≥ 1) then
 some (decide (xo ≤ 3))
 else
 some false
 else
 some false
 else
 some false
 else
 some false := by
 have h0 : I.node_fieldsOk (some (⟨⟨5, xo, xt, xn, xs, kd⟩, ks, num⟩ : TNode_)) = I.node_fieldsOk.l7551 (some (⟨⟨5, xo, xt, xn, xs, kd⟩, ks, num⟩ : TNode_)) (xo == 0) (xt == 0) (xn == 0) (bEq xs ((⟨#[]⟩ : ByteArray))) (5) false := (I.node_fieldsOk_eq _).trans (by kernel_rfl)
 rw [h0]
 exact (I.node_fieldsOk.l7551_eq _ _ _ _ _ _ _).trans (by kernel_rfl)
theorem gI_5 (xo xt xn : Int) (xs : ByteArray) (kd : Int) (ks : List (Option TNode_)) (num : Int) : I.node_kidsOk (some (⟨⟨5, xo, xt, xn, xs, kd⟩, ks, num⟩ : TNode_)) =
 bif (↑ks.length : Int) == 1 then
 ((I.node_kinds_c61 (some (⟨⟨5, xo, xt, xn, xs, kd⟩, ks, num⟩ : TNode_)) 0)).bind fun (r0 : Bool) =>
 some r0
 else
 some false := by
 have h0 : I.node_kidsOk (some (⟨⟨5, xo, xt, xn, xs, kd⟩, ks, num⟩ : TNode_)) = I.node_kidsOk.l117 (some (⟨⟨5, xo, xt, xn, xs, kd⟩, ks, num⟩ : TNode_)) (↑ks.length : Int) (5) false := (I.node_kidsOk_eq _).trans (by kernel_rfl)
 rw [h0]
 have h1 : I.node_kidsOk.l117 (some (⟨⟨5, xo, xt, xn, xs, kd⟩, ks, num⟩ : TNode_)) (↑ks.length : Int) (5) false = I.node_kidsOk.l471 (some (⟨⟨5, xo, xt, xn, xs, kd⟩, ks, num⟩ : TNode_)) (↑ks.length : Int) (5) true := (I.node_kidsOk.l117_eq _ _ _ _).trans (by kernel_rfl)
 rw [h1]
 exact (I.node_kidsOk.l471_eq _ _ _ _).trans (by kernel_rfl)
theorem uR_5  : R.l2Uses 5 =
 some (true, (false, (false, false))) := by
 have h0 : R.l2Uses 5 = R.l2Uses.l215 5 false := (R.l2Uses_eq _).trans (by kernel_rfl)
 rw [h0]
 have h1 : R.l2Uses.l215 5 false = R.l2Uses.l3455 5 true := (R.l2Uses.l215_eq _ _).trans (by kernel_rfl)
 rw [h1]
 exact (R.l2Uses.l3455_eq _ _).trans (by kernel_rfl)
theorem nR_5 : R.l2Named 5 = some false := (R.l2Named_eq _).trans (by kernel_rfl)
theorem fR_5 (xo xt xn : Int) (xs : ByteArray) (kd : Int) : R.l2Fields (⟨5, xo, xt, xn, xs, kd⟩) =
 bif xt != 0 then
 some false
 else
 bif xn != 0 then
 some false
 else
 bif !bEq xs ((⟨#[]⟩ : ByteArray)) then
 some false
 else
 bif decide (xo ≥ 1) then
 some (decide (xo ≤ 3))
 else
 some false := by
 rw [R.l2Fields_eq]
 simp only [uR_5, nR_5]
 kernel_rfl
theorem gR_5 (xo xt xn : Int) (xs : ByteArray) (kd : Int) (l : List Int) : R.l2Fits (⟨5, xo, xt, xn, xs, kd⟩) l =
 bif (↑l.length : Int) == 1 then
 bif inB 0 l.length then
 ((R.l2E (l.getD 0 0))).bind fun (r0 : Bool) =>
 some r0
 else
 none
 else
 some false := by
 have h0 : R.l2Fits (⟨5, xo, xt, xn, xs, kd⟩) l = R.l2Fits.l117 l (↑l.length : Int) 5 false (⟨5, xo, xt, xn, xs, kd⟩) := (R.l2Fits_eq _ _).trans (by kernel_rfl)
 rw [h0]
 have h1 : R.l2Fits.l117 l (↑l.length : Int) 5 false (⟨5, xo, xt, xn, xs, kd⟩) = R.l2Fits.l471 l (↑l.length : Int) 5 true (⟨5, xo, xt, xn, xs, kd⟩) := (R.l2Fits.l117_eq _ _ _ _ _).trans (by kernel_rfl)
 rw [h1]
 exact (R.l2Fits.l471_eq _ _ _ _ _).trans (by kernel_rfl)
theorem fI_6 (xo xt xn : Int) (xs : ByteArray) (kd : Int) (ks : List (Option TNode_)) (num : Int) : I.node_fieldsOk (some (⟨⟨6, xo, xt, xn, xs, kd⟩, ks, num⟩ : TNode_)) =
 bif (xt == 0) then
 bif (xn == 0) then
 bif (bEq xs ((⟨#[]⟩ : ByteArray))) then
 bif decide (xo ≥ 1) then
 some (decide (xo ≤ 18))
 else
 some false
 else
 some false
 else
 some false
 else
 some false := by
 have h0 : I.node_fieldsOk (some (⟨⟨6, xo, xt, xn, xs, kd⟩, ks, num⟩ : TNode_)) = I.node_fieldsOk.l7551 (some (⟨⟨6, xo, xt, xn, xs, kd⟩, ks, num⟩ : TNode_)) (xo == 0) (xt == 0) (xn == 0) (bEq xs ((⟨#[]⟩ : ByteArray))) (6) false := (I.node_fieldsOk_eq _).trans (by kernel_rfl)
 rw [h0]
 exact (I.node_fieldsOk.l7551_eq _ _ _ _ _ _ _).trans (by kernel_rfl)
theorem gI_6 (xo xt xn : Int) (xs : ByteArray) (kd : Int) (ks : List (Option TNode_)) (num : Int) : I.node_kidsOk (some (⟨⟨6, xo, xt, xn, xs, kd⟩, ks, num⟩ : TNode_)) =
 bif (↑ks.length : Int) == 2 then
 ((I.node_kinds_c61 (some (⟨⟨6, xo, xt, xn, xs, kd⟩, ks, num⟩ : TNode_)) 0)).bind fun (r0 : Bool) =>
 some r0
 else
 some false := by
 have h0 : I.node_kidsOk (some (⟨⟨6, xo, xt, xn, xs, kd⟩, ks, num⟩ : TNode_)) = I.node_kidsOk.l117 (some (⟨⟨6, xo, xt, xn, xs, kd⟩, ks, num⟩ : TNode_)) (↑ks.length : Int) (6) false := (I.node_kidsOk_eq _).trans (by kernel_rfl)
 rw [h0]
 have h1 : I.node_kidsOk.l117 (some (⟨⟨6, xo, xt, xn, xs, kd⟩, ks, num⟩ : TNode_)) (↑ks.length : Int) (6) false = I.node_kidsOk.l471 (some (⟨⟨6, xo, xt, xn, xs, kd⟩, ks, num⟩ : TNode_)) (↑ks.length : Int) (6) false := (I.node_kidsOk.l117_eq _ _ _ _).trans (by kernel_rfl)
 rw [h1]
 have h2 : I.node_kidsOk.l471 (some (⟨⟨6, xo, xt, xn, xs, kd⟩, ks, num⟩ : TNode_)) (↑ks.length : Int) (6) false = I.node_kidsOk.l1887 (some (⟨⟨6, xo, xt, xn, xs, kd⟩, ks, num⟩ : TNode_)) (↑ks.length : Int) (6) true := (I.node_kidsOk.l471_eq _ _ _ _).trans (by kernel_rfl)
 rw [h2]
 exact (I.node_kidsOk.l1887_eq _ _ _ _).trans (by kernel_rfl)
theorem uR_6  : R.l2Uses 6 =
 some (true, (false, (false, false))) := by
 have h0 : R.l2Uses 6 = R.l2Uses.l215 6 false := (R.l2Uses_eq _).trans (by kernel_rfl)
 rw [h0]
 have h1 : R.l2Uses.l215 6 false = R.l2Uses.l3455 6 true := (R.l2Uses.l215_eq _ _).trans (by kernel_rfl)
 rw [h1]
 exact (R.l2Uses.l3455_eq _ _).trans (by kernel_rfl)
theorem nR_6 : R.l2Named 6 = some false := (R.l2Named_eq _).trans (by kernel_rfl)
theorem fR_6 (xo xt xn : Int) (xs : ByteArray) (kd : Int) : R.l2Fields (⟨6, xo, xt, xn, xs, kd⟩) =
 bif xt != 0 then
 some false
 else
 bif xn != 0 then
 some false
 else
 bif !bEq xs ((⟨#[]⟩ : ByteArray)) then
 some false
 else
 bif decide (xo ≥ 1) then
 some (decide (xo ≤ 18))
 else
 some false := by
 rw [R.l2Fields_eq]
 simp only [uR_6, nR_6]
 kernel_rfl
theorem gR_6 (xo xt xn : Int) (xs : ByteArray) (kd : Int) (l : List Int) : R.l2Fits (⟨6, xo, xt, xn, xs, kd⟩) l =
 bif (↑l.length : Int) == 2 then
 ((R.l2AllE l)).bind fun (r0 : Bool) =>
 some r0
 else
 some false := by
 have h0 : R.l2Fits (⟨6, xo, xt, xn, xs, kd⟩) l = R.l2Fits.l117 l (↑l.length : Int) 6 false (⟨6, xo, xt, xn, xs, kd⟩) := (R.l2Fits_eq _ _).trans (by kernel_rfl)
 rw [h0]
 have h1 : R.l2Fits.l117 l (↑l.length : Int) 6 false (⟨6, xo, xt, xn, xs, kd⟩) = R.l2Fits.l471 l (↑l.length : Int) 6 false (⟨6, xo, xt, xn, xs, kd⟩) := (R.l2Fits.l117_eq _ _ _ _ _).trans (by kernel_rfl)
 rw [h1]
 have h2 : R.l2Fits.l471 l (↑l.length : Int) 6 false (⟨6, xo, xt, xn, xs, kd⟩) = R.l2Fits.l1887 l (↑l.length : Int) 6 true (⟨6, xo, xt, xn, xs, kd⟩) := (R.l2Fits.l471_eq _ _ _ _ _).trans (by kernel_rfl)
 rw [h2]
 exact (R.l2Fits.l1887_eq _ _ _ _ _).trans (by kernel_rfl)
theorem fI_7 (xo xt xn : Int) (xs : ByteArray) (kd : Int) (ks : List (Option TNode_)) (num : Int) : I.node_fieldsOk (some (⟨⟨7, xo, xt, xn, xs, kd⟩, ks, num⟩ : TNode_)) =
 bif (xo == 0) then
 bif (xt == 0) then
 bif (xn == 0) then
 ((I.nameOk (xs))).bind fun (r0 : Bool) =>
 some r0
 else
 some false
 else
 some false
 else
 some false := by
 have h0 : I.node_fieldsOk (some (⟨⟨7, xo, xt, xn, xs, kd⟩, ks, num⟩ : TNode_)) = I.node_fieldsOk.l7551 (some (⟨⟨7, xo, xt, xn, xs, kd⟩, ks, num⟩ : TNode_)) (xo == 0) (xt == 0) (xn == 0) (bEq xs ((⟨#[]⟩ : ByteArray))) (7) true := (I.node_fieldsOk_eq _).trans (by kernel_rfl)
 rw [h0]
 exact (I.node_fieldsOk.l7551_eq _ _ _ _ _ _ _).trans (by kernel_rfl)
theorem gI_7 (xo xt xn : Int) (xs : ByteArray) (kd : Int) (ks : List (Option TNode_)) (num : Int) : I.node_kidsOk (some (⟨⟨7, xo, xt, xn, xs, kd⟩, ks, num⟩ : TNode_)) =
 bif decide ((↑ks.length : Int) ≤ 8) then
 ((I.node_kinds_c61 (some (⟨⟨7, xo, xt, xn, xs, kd⟩, ks, num⟩ : TNode_)) 0)).bind fun (r0 : Bool) =>
 some r0
 else
 some false := by
 have h0 : I.node_kidsOk (some (⟨⟨7, xo, xt, xn, xs, kd⟩, ks, num⟩ : TNode_)) = I.node_kidsOk.l117 (some (⟨⟨7, xo, xt, xn, xs, kd⟩, ks, num⟩ : TNode_)) (↑ks.length : Int) (7) false := (I.node_kidsOk_eq _).trans (by kernel_rfl)
 rw [h0]
 have h1 : I.node_kidsOk.l117 (some (⟨⟨7, xo, xt, xn, xs, kd⟩, ks, num⟩ : TNode_)) (↑ks.length : Int) (7) false = I.node_kidsOk.l471 (some (⟨⟨7, xo, xt, xn, xs, kd⟩, ks, num⟩ : TNode_)) (↑ks.length : Int) (7) false := (I.node_kidsOk.l117_eq _ _ _ _).trans (by kernel_rfl)
 rw [h1]
 have h2 : I.node_kidsOk.l471 (some (⟨⟨7, xo, xt, xn, xs, kd⟩, ks, num⟩ : TNode_)) (↑ks.length : Int) (7) false = I.node_kidsOk.l1887 (some (⟨⟨7, xo, xt, xn, xs, kd⟩, ks, num⟩ : TNode_)) (↑ks.length : Int) (7) false := (I.node_kidsOk.l471_eq _ _ _ _).trans (by kernel_rfl)
 rw [h2]
 exact (I.node_kidsOk.l1887_eq _ _ _ _).trans (by kernel_rfl)
theorem uR_7  : R.l2Uses 7 =
 some (false, (false, (false, true))) := by
 have h0 : R.l2Uses 7 = R.l2Uses.l215 7 true := (R.l2Uses_eq _).trans (by kernel_rfl)
 rw [h0]
 exact (R.l2Uses.l215_eq _ _).trans (by kernel_rfl)
theorem nR_7 : R.l2Named 7 = some true := (R.l2Named_eq _).trans (by kernel_rfl)
theorem fR_7 (xo xt xn : Int) (xs : ByteArray) (kd : Int) : R.l2Fields (⟨7, xo, xt, xn, xs, kd⟩) =
 bif xo != 0 then
 some false
 else
 bif xt != 0 then
 some false
 else
 bif xn != 0 then
 some false
 else
 ((R.l1NameOk xs)).bind fun (r2 : Bool) =>
 bif !r2 then
 some false
 else
 some true := by
 rw [R.l2Fields_eq]
 simp only [uR_7, nR_7]
 kernel_rfl
theorem gR_7 (xo xt xn : Int) (xs : ByteArray) (kd : Int) (l : List Int) : R.l2Fits (⟨7, xo, xt, xn, xs, kd⟩) l =
 bif decide ((↑l.length : Int) ≤ 8) then
 ((R.l2AllE l)).bind fun (r0 : Bool) =>
 some r0
 else
 some false := by
 have h0 : R.l2Fits (⟨7, xo, xt, xn, xs, kd⟩) l = R.l2Fits.l117 l (↑l.length : Int) 7 false (⟨7, xo, xt, xn, xs, kd⟩) := (R.l2Fits_eq _ _).trans (by kernel_rfl)
 rw [h0]
 have h1 : R.l2Fits.l117 l (↑l.length : Int) 7 false (⟨7, xo, xt, xn, xs, kd⟩) = R.l2Fits.l471 l (↑l.length : Int) 7 false (⟨7, xo, xt, xn, xs, kd⟩) := (R.l2Fits.l117_eq _ _ _ _ _).trans (by kernel_rfl)
 rw [h1]
 have h2 : R.l2Fits.l471 l (↑l.length : Int) 7 false (⟨7, xo, xt, xn, xs, kd⟩) = R.l2Fits.l1887 l (↑l.length : Int) 7 false (⟨7, xo, xt, xn, xs, kd⟩) := (R.l2Fits.l471_eq _ _ _ _ _).trans (by kernel_rfl)
 rw [h2]
 exact (R.l2Fits.l1887_eq _ _ _ _ _).trans (by kernel_rfl)
theorem fI_8 (xo xt xn : Int) (xs : ByteArray) (kd : Int) (ks : List (Option TNode_)) (num : Int) : I.node_fieldsOk (some (⟨⟨8, xo, xt, xn, xs, kd⟩, ks, num⟩ : TNode_)) =
 bif (xt == 0) then
 bif (xn == 0) then
 some (bEq xs ((⟨#[]⟩ : ByteArray)))
 else
 some false
 else
 some false := by
 have h0 : I.node_fieldsOk (some (⟨⟨8, xo, xt, xn, xs, kd⟩, ks, num⟩ : TNode_)) = I.node_fieldsOk.l7551 (some (⟨⟨8, xo, xt, xn, xs, kd⟩, ks, num⟩ : TNode_)) (xo == 0) (xt == 0) (xn == 0) (bEq xs ((⟨#[]⟩ : ByteArray))) (8) false := (I.node_fieldsOk_eq _).trans (by kernel_rfl)
 rw [h0]
 exact (I.node_fieldsOk.l7551_eq _ _ _ _ _ _ _).trans (by kernel_rfl)
theorem gI_8 (xo xt xn : Int) (xs : ByteArray) (kd : Int) (ks : List (Option TNode_)) (num : Int) : I.node_kidsOk (some (⟨⟨8, xo, xt, xn, xs, kd⟩, ks, num⟩ : TNode_)) =
 bif decide (xo ≥ 1) then
 bif decide (xo ≤ 12) then
 bif inB xo [0, 1, 1, 1, 2, 0, 1, 2, 3, 2, 1, 1, 1].length then
 bif (↑ks.length : Int) == [0, 1, 1, 1, 2, 0, 1, 2, 3, 2, 1, 1, 1].getD xo.toNat 0 then
 ((I.node_kinds_c61 (some (⟨⟨8, xo, xt, xn, xs, kd⟩, ks, num⟩ : TNode_)) 0)).bind fun (r0 : Bool) =>
 some r0
 else
 some false
 else
 none
 else
 some false
 else
 some false := by
 have h0 : I.node_kidsOk (some (⟨⟨8, xo, xt, xn, xs, kd⟩, ks, num⟩ : TNode_)) = I.node_kidsOk.l117 (some (⟨⟨8, xo, xt, xn, xs, kd⟩, ks, num⟩ : TNode_)) (↑ks.length : Int) (8) false := (I.node_kidsOk_eq _).trans (by kernel_rfl)
 rw [h0]
 have h1 : I.node_kidsOk.l117 (some (⟨⟨8, xo, xt, xn, xs, kd⟩, ks, num⟩ : TNode_)) (↑ks.length : Int) (8) false = I.node_kidsOk.l471 (some (⟨⟨8, xo, xt, xn, xs, kd⟩, ks, num⟩ : TNode_)) (↑ks.length : Int) (8) false := (I.node_kidsOk.l117_eq _ _ _ _).trans (by kernel_rfl)
 rw [h1]
 have h2 : I.node_kidsOk.l471 (some (⟨⟨8, xo, xt, xn, xs, kd⟩, ks, num⟩ : TNode_)) (↑ks.length : Int) (8) false = I.node_kidsOk.l1887 (some (⟨⟨8, xo, xt, xn, xs, kd⟩, ks, num⟩ : TNode_)) (↑ks.length : Int) (8) false := (I.node_kidsOk.l471_eq _ _ _ _).trans (by kernel_rfl)
 rw [h2]
 exact (I.node_kidsOk.l1887_eq _ _ _ _).trans (by kernel_rfl)
theorem uR_8  : R.l2Uses 8 =
 some (true, (false, (false, false))) := by
 have h0 : R.l2Uses 8 = R.l2Uses.l215 8 false := (R.l2Uses_eq _).trans (by kernel_rfl)
 rw [h0]
 have h1 : R.l2Uses.l215 8 false = R.l2Uses.l3455 8 true := (R.l2Uses.l215_eq _ _).trans (by kernel_rfl)
 rw [h1]
 exact (R.l2Uses.l3455_eq _ _).trans (by kernel_rfl)
theorem nR_8 : R.l2Named 8 = some false := (R.l2Named_eq _).trans (by kernel_rfl)
theorem fR_8 (xo xt xn : Int) (xs : ByteArray) (kd : Int) : R.l2Fields (⟨8, xo, xt, xn, xs, kd⟩) =
 bif xt != 0 then
 some false
 else
 bif xn != 0 then
 some false
 else
 bif !bEq xs ((⟨#[]⟩ : ByteArray)) then
 some false
 else
 bif decide (xo ≥ 1) then
 some (decide (xo ≤ 12))
 else
 some false := by
 rw [R.l2Fields_eq]
 simp only [uR_8, nR_8]
 kernel_rfl
theorem gR_8 (xo xt xn : Int) (xs : ByteArray) (kd : Int) (l : List Int) : R.l2Fits (⟨8, xo, xt, xn, xs, kd⟩) l =
 ((R.l1BuiltWord xo)).bind fun (r0 : (ByteArray × Int)) =>
 bif (↑l.length : Int) == r0.snd then
 ((R.l2AllE l)).bind fun (r1 : Bool) =>
 some r1
 else
 some false := by
 have h0 : R.l2Fits (⟨8, xo, xt, xn, xs, kd⟩) l = R.l2Fits.l117 l (↑l.length : Int) 8 false (⟨8, xo, xt, xn, xs, kd⟩) := (R.l2Fits_eq _ _).trans (by kernel_rfl)
 rw [h0]
 have h1 : R.l2Fits.l117 l (↑l.length : Int) 8 false (⟨8, xo, xt, xn, xs, kd⟩) = R.l2Fits.l471 l (↑l.length : Int) 8 false (⟨8, xo, xt, xn, xs, kd⟩) := (R.l2Fits.l117_eq _ _ _ _ _).trans (by kernel_rfl)
 rw [h1]
 have h2 : R.l2Fits.l471 l (↑l.length : Int) 8 false (⟨8, xo, xt, xn, xs, kd⟩) = R.l2Fits.l1887 l (↑l.length : Int) 8 false (⟨8, xo, xt, xn, xs, kd⟩) := (R.l2Fits.l471_eq _ _ _ _ _).trans (by kernel_rfl)
 rw [h2]
 exact (R.l2Fits.l1887_eq _ _ _ _ _).trans (by kernel_rfl)
theorem fI_9 (xo xt xn : Int) (xs : ByteArray) (kd : Int) (ks : List (Option TNode_)) (num : Int) : I.node_fieldsOk (some (⟨⟨9, xo, xt, xn, xs, kd⟩, ks, num⟩ : TNode_)) =
 bif (xo == 0) then
 bif (xn == 0) then
 bif (bEq xs ((⟨#[]⟩ : ByteArray))) then
 ((I.integer (xt))).bind fun (r0 : Bool) =>
 some r0
 else
 some false
 else
 some false
 else
 some false := by
 have h0 : I.node_fieldsOk (some (⟨⟨9, xo, xt, xn, xs, kd⟩, ks, num⟩ : TNode_)) = I.node_fieldsOk.l7551 (some (⟨⟨9, xo, xt, xn, xs, kd⟩, ks, num⟩ : TNode_)) (xo == 0) (xt == 0) (xn == 0) (bEq xs ((⟨#[]⟩ : ByteArray))) (9) false := (I.node_fieldsOk_eq _).trans (by kernel_rfl)
 rw [h0]
 exact (I.node_fieldsOk.l7551_eq _ _ _ _ _ _ _).trans (by kernel_rfl)
theorem gI_9 (xo xt xn : Int) (xs : ByteArray) (kd : Int) (ks : List (Option TNode_)) (num : Int) : I.node_kidsOk (some (⟨⟨9, xo, xt, xn, xs, kd⟩, ks, num⟩ : TNode_)) =
 bif (↑ks.length : Int) == 1 then
 ((I.node_kinds_c61 (some (⟨⟨9, xo, xt, xn, xs, kd⟩, ks, num⟩ : TNode_)) 0)).bind fun (r0 : Bool) =>
 some r0
 else
 some false := by
 have h0 : I.node_kidsOk (some (⟨⟨9, xo, xt, xn, xs, kd⟩, ks, num⟩ : TNode_)) = I.node_kidsOk.l117 (some (⟨⟨9, xo, xt, xn, xs, kd⟩, ks, num⟩ : TNode_)) (↑ks.length : Int) (9) false := (I.node_kidsOk_eq _).trans (by kernel_rfl)
 rw [h0]
 have h1 : I.node_kidsOk.l117 (some (⟨⟨9, xo, xt, xn, xs, kd⟩, ks, num⟩ : TNode_)) (↑ks.length : Int) (9) false = I.node_kidsOk.l471 (some (⟨⟨9, xo, xt, xn, xs, kd⟩, ks, num⟩ : TNode_)) (↑ks.length : Int) (9) true := (I.node_kidsOk.l117_eq _ _ _ _).trans (by kernel_rfl)
 rw [h1]
 exact (I.node_kidsOk.l471_eq _ _ _ _).trans (by kernel_rfl)
theorem uR_9  : R.l2Uses 9 =
 some (false, (true, (false, false))) := by
 have h0 : R.l2Uses 9 = R.l2Uses.l215 9 false := (R.l2Uses_eq _).trans (by kernel_rfl)
 rw [h0]
 have h1 : R.l2Uses.l215 9 false = R.l2Uses.l3455 9 false := (R.l2Uses.l215_eq _ _).trans (by kernel_rfl)
 rw [h1]
 exact (R.l2Uses.l3455_eq _ _).trans (by kernel_rfl)
theorem nR_9 : R.l2Named 9 = some false := (R.l2Named_eq _).trans (by kernel_rfl)
theorem fR_9 (xo xt xn : Int) (xs : ByteArray) (kd : Int) : R.l2Fields (⟨9, xo, xt, xn, xs, kd⟩) =
 bif xo != 0 then
 some false
 else
 bif xn != 0 then
 some false
 else
 bif !bEq xs ((⟨#[]⟩ : ByteArray)) then
 some false
 else
 ((R.l1Integer xt)).bind fun (r2 : Bool) =>
 some r2 := by
 rw [R.l2Fields_eq]
 simp only [uR_9, nR_9]
 kernel_rfl
theorem gR_9 (xo xt xn : Int) (xs : ByteArray) (kd : Int) (l : List Int) : R.l2Fits (⟨9, xo, xt, xn, xs, kd⟩) l =
 bif (↑l.length : Int) == 1 then
 bif inB 0 l.length then
 ((R.l2E (l.getD 0 0))).bind fun (r0 : Bool) =>
 some r0
 else
 none
 else
 some false := by
 have h0 : R.l2Fits (⟨9, xo, xt, xn, xs, kd⟩) l = R.l2Fits.l117 l (↑l.length : Int) 9 false (⟨9, xo, xt, xn, xs, kd⟩) := (R.l2Fits_eq _ _).trans (by kernel_rfl)
 rw [h0]
 have h1 : R.l2Fits.l117 l (↑l.length : Int) 9 false (⟨9, xo, xt, xn, xs, kd⟩) = R.l2Fits.l471 l (↑l.length : Int) 9 true (⟨9, xo, xt, xn, xs, kd⟩) := (R.l2Fits.l117_eq _ _ _ _ _).trans (by kernel_rfl)
 rw [h1]
 exact (R.l2Fits.l471_eq _ _ _ _ _).trans (by kernel_rfl)
theorem fI_10 (xo xt xn : Int) (xs : ByteArray) (kd : Int) (ks : List (Option TNode_)) (num : Int) : I.node_fieldsOk (some (⟨⟨10, xo, xt, xn, xs, kd⟩, ks, num⟩ : TNode_)) =
 bif (xo == 0) then
 bif (xt == 0) then
 bif (xn == 0) then
 ((I.nameOk (xs))).bind fun (r0 : Bool) =>
 some r0
 else
 some false
 else
 some false
 else
 some false := by
 have h0 : I.node_fieldsOk (some (⟨⟨10, xo, xt, xn, xs, kd⟩, ks, num⟩ : TNode_)) = I.node_fieldsOk.l7551 (some (⟨⟨10, xo, xt, xn, xs, kd⟩, ks, num⟩ : TNode_)) (xo == 0) (xt == 0) (xn == 0) (bEq xs ((⟨#[]⟩ : ByteArray))) (10) true := (I.node_fieldsOk_eq _).trans (by kernel_rfl)
 rw [h0]
 exact (I.node_fieldsOk.l7551_eq _ _ _ _ _ _ _).trans (by kernel_rfl)
theorem gI_10 (xo xt xn : Int) (xs : ByteArray) (kd : Int) (ks : List (Option TNode_)) (num : Int) : I.node_kidsOk (some (⟨⟨10, xo, xt, xn, xs, kd⟩, ks, num⟩ : TNode_)) =
 bif (↑ks.length : Int) == 1 then
 ((I.node_kinds_c61 (some (⟨⟨10, xo, xt, xn, xs, kd⟩, ks, num⟩ : TNode_)) 0)).bind fun (r0 : Bool) =>
 some r0
 else
 some false := by
 have h0 : I.node_kidsOk (some (⟨⟨10, xo, xt, xn, xs, kd⟩, ks, num⟩ : TNode_)) = I.node_kidsOk.l117 (some (⟨⟨10, xo, xt, xn, xs, kd⟩, ks, num⟩ : TNode_)) (↑ks.length : Int) (10) false := (I.node_kidsOk_eq _).trans (by kernel_rfl)
 rw [h0]
 have h1 : I.node_kidsOk.l117 (some (⟨⟨10, xo, xt, xn, xs, kd⟩, ks, num⟩ : TNode_)) (↑ks.length : Int) (10) false = I.node_kidsOk.l471 (some (⟨⟨10, xo, xt, xn, xs, kd⟩, ks, num⟩ : TNode_)) (↑ks.length : Int) (10) true := (I.node_kidsOk.l117_eq _ _ _ _).trans (by kernel_rfl)
 rw [h1]
 exact (I.node_kidsOk.l471_eq _ _ _ _).trans (by kernel_rfl)
theorem uR_10  : R.l2Uses 10 =
 some (false, (false, (false, true))) := by
 have h0 : R.l2Uses 10 = R.l2Uses.l215 10 true := (R.l2Uses_eq _).trans (by kernel_rfl)
 rw [h0]
 exact (R.l2Uses.l215_eq _ _).trans (by kernel_rfl)
theorem nR_10 : R.l2Named 10 = some true := (R.l2Named_eq _).trans (by kernel_rfl)
theorem fR_10 (xo xt xn : Int) (xs : ByteArray) (kd : Int) : R.l2Fields (⟨10, xo, xt, xn, xs, kd⟩) =
 bif xo != 0 then
 some false
 else
 bif xt != 0 then
 some false
 else
 bif xn != 0 then
 some false
 else
 ((R.l1NameOk xs)).bind fun (r2 : Bool) =>
 bif !r2 then
 some false
 else
 some true := by
 rw [R.l2Fields_eq]
 simp only [uR_10, nR_10]
 kernel_rfl
theorem gR_10 (xo xt xn : Int) (xs : ByteArray) (kd : Int) (l : List Int) : R.l2Fits (⟨10, xo, xt, xn, xs, kd⟩) l =
 bif (↑l.length : Int) == 1 then
 bif inB 0 l.length then
 ((R.l2E (l.getD 0 0))).bind fun (r0 : Bool) =>
 some r0
 else
 none
 else
 some false := by
 have h0 : R.l2Fits (⟨10, xo, xt, xn, xs, kd⟩) l = R.l2Fits.l117 l (↑l.length : Int) 10 false (⟨10, xo, xt, xn, xs, kd⟩) := (R.l2Fits_eq _ _).trans (by kernel_rfl)
 rw [h0]
 have h1 : R.l2Fits.l117 l (↑l.length : Int) 10 false (⟨10, xo, xt, xn, xs, kd⟩) = R.l2Fits.l471 l (↑l.length : Int) 10 true (⟨10, xo, xt, xn, xs, kd⟩) := (R.l2Fits.l117_eq _ _ _ _ _).trans (by kernel_rfl)
 rw [h1]
 exact (R.l2Fits.l471_eq _ _ _ _ _).trans (by kernel_rfl)
theorem fI_11 (xo xt xn : Int) (xs : ByteArray) (kd : Int) (ks : List (Option TNode_)) (num : Int) : I.node_fieldsOk (some (⟨⟨11, xo, xt, xn, xs, kd⟩, ks, num⟩ : TNode_)) =
 bif (xo == 0) then
 bif (xt == 0) then
 bif (xn == 0) then
 ((I.nameOk (xs))).bind fun (r0 : Bool) =>
 some r0
 else
 some false
 else
 some false
 else
 some false := by
 have h0 : I.node_fieldsOk (some (⟨⟨11, xo, xt, xn, xs, kd⟩, ks, num⟩ : TNode_)) = I.node_fieldsOk.l7551 (some (⟨⟨11, xo, xt, xn, xs, kd⟩, ks, num⟩ : TNode_)) (xo == 0) (xt == 0) (xn == 0) (bEq xs ((⟨#[]⟩ : ByteArray))) (11) true := (I.node_fieldsOk_eq _).trans (by kernel_rfl)
 rw [h0]
 exact (I.node_fieldsOk.l7551_eq _ _ _ _ _ _ _).trans (by kernel_rfl)
theorem gI_11 (xo xt xn : Int) (xs : ByteArray) (kd : Int) (ks : List (Option TNode_)) (num : Int) : I.node_kidsOk (some (⟨⟨11, xo, xt, xn, xs, kd⟩, ks, num⟩ : TNode_)) =
 bif (↑ks.length : Int) == 1 then
 ((I.node_kinds_c61 (some (⟨⟨11, xo, xt, xn, xs, kd⟩, ks, num⟩ : TNode_)) 0)).bind fun (r0 : Bool) =>
 some r0
 else
 some false := by
 have h0 : I.node_kidsOk (some (⟨⟨11, xo, xt, xn, xs, kd⟩, ks, num⟩ : TNode_)) = I.node_kidsOk.l117 (some (⟨⟨11, xo, xt, xn, xs, kd⟩, ks, num⟩ : TNode_)) (↑ks.length : Int) (11) false := (I.node_kidsOk_eq _).trans (by kernel_rfl)
 rw [h0]
 have h1 : I.node_kidsOk.l117 (some (⟨⟨11, xo, xt, xn, xs, kd⟩, ks, num⟩ : TNode_)) (↑ks.length : Int) (11) false = I.node_kidsOk.l471 (some (⟨⟨11, xo, xt, xn, xs, kd⟩, ks, num⟩ : TNode_)) (↑ks.length : Int) (11) true := (I.node_kidsOk.l117_eq _ _ _ _).trans (by kernel_rfl)
 rw [h1]
 exact (I.node_kidsOk.l471_eq _ _ _ _).trans (by kernel_rfl)
theorem uR_11  : R.l2Uses 11 =
 some (false, (false, (false, true))) := by
 have h0 : R.l2Uses 11 = R.l2Uses.l215 11 true := (R.l2Uses_eq _).trans (by kernel_rfl)
 rw [h0]
 exact (R.l2Uses.l215_eq _ _).trans (by kernel_rfl)
theorem nR_11 : R.l2Named 11 = some true := (R.l2Named_eq _).trans (by kernel_rfl)
theorem fR_11 (xo xt xn : Int) (xs : ByteArray) (kd : Int) : R.l2Fields (⟨11, xo, xt, xn, xs, kd⟩) =
 bif xo != 0 then
 some false
 else
 bif xt != 0 then
 some false
 else
 bif xn != 0 then
 some false
 else
 ((R.l1NameOk xs)).bind fun (r2 : Bool) =>
 bif !r2 then
 some false
 else
 some true := by
 rw [R.l2Fields_eq]
 simp only [uR_11, nR_11]
 kernel_rfl
theorem gR_11 (xo xt xn : Int) (xs : ByteArray) (kd : Int) (l : List Int) : R.l2Fits (⟨11, xo, xt, xn, xs, kd⟩) l =
 bif (↑l.length : Int) == 1 then
 bif inB 0 l.length then
 ((R.l2E (l.getD 0 0))).bind fun (r0 : Bool) =>
 some r0
 else
 none
 else
 some false := by
 have h0 : R.l2Fits (⟨11, xo, xt, xn, xs, kd⟩) l = R.l2Fits.l117 l (↑l.length : Int) 11 false (⟨11, xo, xt, xn, xs, kd⟩) := (R.l2Fits_eq _ _).trans (by kernel_rfl)
 rw [h0]
 have h1 : R.l2Fits.l117 l (↑l.length : Int) 11 false (⟨11, xo, xt, xn, xs, kd⟩) = R.l2Fits.l471 l (↑l.length : Int) 11 true (⟨11, xo, xt, xn, xs, kd⟩) := (R.l2Fits.l117_eq _ _ _ _ _).trans (by kernel_rfl)
 rw [h1]
 exact (R.l2Fits.l471_eq _ _ _ _ _).trans (by kernel_rfl)
theorem fI_12 (xo xt xn : Int) (xs : ByteArray) (kd : Int) (ks : List (Option TNode_)) (num : Int) : I.node_fieldsOk (some (⟨⟨12, xo, xt, xn, xs, kd⟩, ks, num⟩ : TNode_)) =
 bif (xo == 0) then
 bif (xt == 0) then
 bif (xn == 0) then
 some (bEq xs ((⟨#[]⟩ : ByteArray)))
 else
 some false
 else
 some false
 else
 some false := by
 have h0 : I.node_fieldsOk (some (⟨⟨12, xo, xt, xn, xs, kd⟩, ks, num⟩ : TNode_)) = I.node_fieldsOk.l7551 (some (⟨⟨12, xo, xt, xn, xs, kd⟩, ks, num⟩ : TNode_)) (xo == 0) (xt == 0) (xn == 0) (bEq xs ((⟨#[]⟩ : ByteArray))) (12) false := (I.node_fieldsOk_eq _).trans (by kernel_rfl)
 rw [h0]
 exact (I.node_fieldsOk.l7551_eq _ _ _ _ _ _ _).trans (by kernel_rfl)
theorem gI_12_0 (xo xt xn : Int) (xs : ByteArray) (kd : Int) (num : Int) : I.node_kidsOk (some (⟨⟨12, xo, xt, xn, xs, kd⟩, [], num⟩ : TNode_)) =
 some false := by
 have h0 : I.node_kidsOk (some (⟨⟨12, xo, xt, xn, xs, kd⟩, [], num⟩ : TNode_)) = I.node_kidsOk.l117 (some (⟨⟨12, xo, xt, xn, xs, kd⟩, [], num⟩ : TNode_)) 0 (12) false := (I.node_kidsOk_eq _).trans (by kernel_rfl)
 rw [h0]
 have h1 : I.node_kidsOk.l117 (some (⟨⟨12, xo, xt, xn, xs, kd⟩, [], num⟩ : TNode_)) 0 (12) false = I.node_kidsOk.l471 (some (⟨⟨12, xo, xt, xn, xs, kd⟩, [], num⟩ : TNode_)) 0 (12) false := (I.node_kidsOk.l117_eq _ _ _ _).trans (by kernel_rfl)
 rw [h1]
 have h2 : I.node_kidsOk.l471 (some (⟨⟨12, xo, xt, xn, xs, kd⟩, [], num⟩ : TNode_)) 0 (12) false = I.node_kidsOk.l1887 (some (⟨⟨12, xo, xt, xn, xs, kd⟩, [], num⟩ : TNode_)) 0 (12) false := (I.node_kidsOk.l471_eq _ _ _ _).trans (by kernel_rfl)
 rw [h2]
 exact (I.node_kidsOk.l1887_eq _ _ _ _).trans (by kernel_rfl)
theorem gI_12_1 (xo xt xn : Int) (xs : ByteArray) (kd : Int) (k0 : TNode_) (num : Int) : I.node_kidsOk (some (⟨⟨12, xo, xt, xn, xs, kd⟩, [some k0], num⟩ : TNode_)) =
 some false := by
 have h0 : I.node_kidsOk (some (⟨⟨12, xo, xt, xn, xs, kd⟩, [some k0], num⟩ : TNode_)) = I.node_kidsOk.l117 (some (⟨⟨12, xo, xt, xn, xs, kd⟩, [some k0], num⟩ : TNode_)) 1 (12) false := (I.node_kidsOk_eq _).trans (by kernel_rfl)
 rw [h0]
 have h1 : I.node_kidsOk.l117 (some (⟨⟨12, xo, xt, xn, xs, kd⟩, [some k0], num⟩ : TNode_)) 1 (12) false = I.node_kidsOk.l471 (some (⟨⟨12, xo, xt, xn, xs, kd⟩, [some k0], num⟩ : TNode_)) 1 (12) false := (I.node_kidsOk.l117_eq _ _ _ _).trans (by kernel_rfl)
 rw [h1]
 have h2 : I.node_kidsOk.l471 (some (⟨⟨12, xo, xt, xn, xs, kd⟩, [some k0], num⟩ : TNode_)) 1 (12) false = I.node_kidsOk.l1887 (some (⟨⟨12, xo, xt, xn, xs, kd⟩, [some k0], num⟩ : TNode_)) 1 (12) false := (I.node_kidsOk.l471_eq _ _ _ _).trans (by kernel_rfl)
 rw [h2]
 exact (I.node_kidsOk.l1887_eq _ _ _ _).trans (by kernel_rfl)
theorem gI_12_2 (xo xt xn : Int) (xs : ByteArray) (kd : Int) (k0 k1 : TNode_) (num : Int) : I.node_kidsOk (some (⟨⟨12, xo, xt, xn, xs, kd⟩, [some k0, some k1], num⟩ : TNode_)) =
 ((I.isE (k0.gNode.gKind))).bind fun (r0 : Bool) =>
 bif r0 then
 ((I.isBlock (k1.gNode.gKind))).bind fun (r1 : Bool) =>
 some r1
 else
 some false := by
 have h0 : I.node_kidsOk (some (⟨⟨12, xo, xt, xn, xs, kd⟩, [some k0, some k1], num⟩ : TNode_)) = I.node_kidsOk.l117 (some (⟨⟨12, xo, xt, xn, xs, kd⟩, [some k0, some k1], num⟩ : TNode_)) 2 (12) false := (I.node_kidsOk_eq _).trans (by kernel_rfl)
 rw [h0]
 have h1 : I.node_kidsOk.l117 (some (⟨⟨12, xo, xt, xn, xs, kd⟩, [some k0, some k1], num⟩ : TNode_)) 2 (12) false = I.node_kidsOk.l471 (some (⟨⟨12, xo, xt, xn, xs, kd⟩, [some k0, some k1], num⟩ : TNode_)) 2 (12) false := (I.node_kidsOk.l117_eq _ _ _ _).trans (by kernel_rfl)
 rw [h1]
 have h2 : I.node_kidsOk.l471 (some (⟨⟨12, xo, xt, xn, xs, kd⟩, [some k0, some k1], num⟩ : TNode_)) 2 (12) false = I.node_kidsOk.l1887 (some (⟨⟨12, xo, xt, xn, xs, kd⟩, [some k0, some k1], num⟩ : TNode_)) 2 (12) false := (I.node_kidsOk.l471_eq _ _ _ _).trans (by kernel_rfl)
 rw [h2]
 exact (I.node_kidsOk.l1887_eq _ _ _ _).trans (by kernel_rfl)
theorem gI_12_3 (xo xt xn : Int) (xs : ByteArray) (kd : Int) (k0 k1 k2 : TNode_) (num : Int) : I.node_kidsOk (some (⟨⟨12, xo, xt, xn, xs, kd⟩, [some k0, some k1, some k2], num⟩ : TNode_)) =
 ((I.isBlock (k2.gNode.gKind))).bind fun (r0 : Bool) =>
 bif r0 then
 ((I.isE (k0.gNode.gKind))).bind fun (r1 : Bool) =>
 bif r1 then
 ((I.isBlock (k1.gNode.gKind))).bind fun (r2 : Bool) =>
 some r2
 else
 some false
 else
 bif !k2.gNode.gKind == 12 then
 some false
 else
 ((I.isE (k0.gNode.gKind))).bind fun (r1 : Bool) =>
 bif r1 then
 ((I.isBlock (k1.gNode.gKind))).bind fun (r2 : Bool) =>
 some r2
 else
 some false := by
 have h0 : I.node_kidsOk (some (⟨⟨12, xo, xt, xn, xs, kd⟩, [some k0, some k1, some k2], num⟩ : TNode_)) = I.node_kidsOk.l117 (some (⟨⟨12, xo, xt, xn, xs, kd⟩, [some k0, some k1, some k2], num⟩ : TNode_)) 3 (12) false := (I.node_kidsOk_eq _).trans (by kernel_rfl)
 rw [h0]
 have h1 : I.node_kidsOk.l117 (some (⟨⟨12, xo, xt, xn, xs, kd⟩, [some k0, some k1, some k2], num⟩ : TNode_)) 3 (12) false = I.node_kidsOk.l471 (some (⟨⟨12, xo, xt, xn, xs, kd⟩, [some k0, some k1, some k2], num⟩ : TNode_)) 3 (12) false := (I.node_kidsOk.l117_eq _ _ _ _).trans (by kernel_rfl)
 rw [h1]
 have h2 : I.node_kidsOk.l471 (some (⟨⟨12, xo, xt, xn, xs, kd⟩, [some k0, some k1, some k2], num⟩ : TNode_)) 3 (12) false = I.node_kidsOk.l1887 (some (⟨⟨12, xo, xt, xn, xs, kd⟩, [some k0, some k1, some k2], num⟩ : TNode_)) 3 (12) false := (I.node_kidsOk.l471_eq _ _ _ _).trans (by kernel_rfl)
 rw [h2]
 exact (I.node_kidsOk.l1887_eq _ _ _ _).trans (by kernel_rfl)
theorem gI_12 (xo xt xn : Int) (xs : ByteArray) (kd : Int) (ks : List (Option TNode_)) (num : Int) : I.node_kidsOk (some (⟨⟨12, xo, xt, xn, xs, kd⟩, ks, num⟩ : TNode_)) =
 bif (↑ks.length : Int) == 3 then
 bif inB 2 ks.length then
 bif Option.isSome (ks.getD 2 none) then
 ((I.isBlock ((Option.getD (ks.getD 2 none) TNode_.z).gNode.gKind))).bind fun (r0 : Bool) =>
 bif r0 then
 bif (↑ks.length : Int) == 2 then
 bif inB 0 ks.length then
 bif Option.isSome (ks.getD 0 none) then
 ((I.isE ((Option.getD (ks.getD 0 none) TNode_.z).gNode.gKind))).bind fun (r1 : Bool) =>
 bif r1 then
 bif inB 1 ks.length then
 bif Option.isSome (ks.getD 1 none) then
 ((I.isBlock ((Option.getD (ks.getD 1 none) TNode_.z).gNode.gKind))).bind fun (r2 : Bool) =>
 some r2
 else
 none
 else
 none
 else
 some false
 else
 none
 else
 none
 else
 bif (↑ks.length : Int) == 3 then
 bif inB 0 ks.length then
 bif Option.isSome (ks.getD 0 none) then
 ((I.isE ((Option.getD (ks.getD 0 none) TNode_.z).gNode.gKind))).bind fun (r1 : Bool) =>
 bif r1 then
 bif inB 1 ks.length then
 bif Option.isSome (ks.getD 1 none) then
 ((I.isBlock ((Option.getD (ks.getD 1 none) TNode_.z).gNode.gKind))).bind fun (r2 : Bool) =>
 some r2
 else
 none
 else
 none
 else
 some false
 else
 none
 else
 none
 else
 some false
 else
 bif inB 2 ks.length then
 bif Option.isSome (ks.getD 2 none) then
 bif !(Option.getD (ks.getD 2 none) TNode_.z).gNode.gKind == 12 then
 some false
 else
 bif (↑ks.length : Int) == 2 then
 bif inB 0 ks.length then
 bif Option.isSome (ks.getD 0 none) then
 ((I.isE ((Option.getD (ks.getD 0 none) TNode_.z).gNode.gKind))).bind fun (r1 : Bool) =>
 bif r1 then
 bif inB 1 ks.length then
 bif Option.isSome (ks.getD 1 none) then
 ((I.isBlock ((Option.getD (ks.getD 1 none) TNode_.z).gNode.gKind))).bind fun (r2 : Bool) =>
 some r2
 else
 none
 else
 none
 else
 some false
 else
 none
 else
 none
 else
 bif (↑ks.length : Int) == 3 then
 bif inB 0 ks.length then
 bif Option.isSome (ks.getD 0 none) then
 ((I.isE ((Option.getD (ks.getD 0 none) TNode_.z).gNode.gKind))).bind fun (r1 : Bool) =>
 bif r1 then
 bif inB 1 ks.length then
 bif Option.isSome (ks.getD 1 none) then
 ((I.isBlock ((Option.getD (ks.getD 1 none) TNode_.z).gNode.gKind))).bind fun (r2 : Bool) =>
 some r2
 else
 none
 else
 none
 else
 some false
 else
 none
 else
 none
 else
 some false
 else
 none
 else
 none
 else
 none
 else
 none
 else
 bif (↑ks.length : Int) == 2 then
 bif inB 0 ks.length then
 bif Option.isSome (ks.getD 0 none) then
 ((I.isE ((Option.getD (ks.getD 0 none) TNode_.z).gNode.gKind))).bind fun (r0 : Bool) =>
 bif r0 then
 bif inB 1 ks.length then
 bif Option.isSome (ks.getD 1 none) then
 ((I.isBlock ((Option.getD (ks.getD 1 none) TNode_.z).gNode.gKind))).bind fun (r1 : Bool) =>
 some r1
 else
 none
 else
 none
 else
 some false
 else
 none
 else
 none
 else
 bif (↑ks.length : Int) == 3 then
 bif inB 0 ks.length then
 bif Option.isSome (ks.getD 0 none) then
 ((I.isE ((Option.getD (ks.getD 0 none) TNode_.z).gNode.gKind))).bind fun (r0 : Bool) =>
 bif r0 then
 bif inB 1 ks.length then
 bif Option.isSome (ks.getD 1 none) then
 ((I.isBlock ((Option.getD (ks.getD 1 none) TNode_.z).gNode.gKind))).bind fun (r1 : Bool) =>
 some r1
 else
 none
 else
 none
 else
 some false
 else
 none
 else
 none
 else
 some false := by
 have h0 : I.node_kidsOk (some (⟨⟨12, xo, xt, xn, xs, kd⟩, ks, num⟩ : TNode_)) = I.node_kidsOk.l117 (some (⟨⟨12, xo, xt, xn, xs, kd⟩, ks, num⟩ : TNode_)) (↑ks.length : Int) (12) false := (I.node_kidsOk_eq _).trans (by kernel_rfl)
 rw [h0]
 have h1 : I.node_kidsOk.l117 (some (⟨⟨12, xo, xt, xn, xs, kd⟩, ks, num⟩ : TNode_)) (↑ks.length : Int) (12) false = I.node_kidsOk.l471 (some (⟨⟨12, xo, xt, xn, xs, kd⟩, ks, num⟩ : TNode_)) (↑ks.length : Int) (12) false := (I.node_kidsOk.l117_eq _ _ _ _).trans (by kernel_rfl)
 rw [h1]
 have h2 : I.node_kidsOk.l471 (some (⟨⟨12, xo, xt, xn, xs, kd⟩, ks, num⟩ : TNode_)) (↑ks.length : Int) (12) false = I.node_kidsOk.l1887 (some (⟨⟨12, xo, xt, xn, xs, kd⟩, ks, num⟩ : TNode_)) (↑ks.length : Int) (12) false := (I.node_kidsOk.l471_eq _ _ _ _).trans (by kernel_rfl)
 rw [h2]
 exact (I.node_kidsOk.l1887_eq _ _ _ _).trans (by kernel_rfl)
theorem uR_12  : R.l2Uses 12 =
 some (false, (false, (false, false))) := by
 have h0 : R.l2Uses 12 = R.l2Uses.l215 12 false := (R.l2Uses_eq _).trans (by kernel_rfl)
 rw [h0]
 have h1 : R.l2Uses.l215 12 false = R.l2Uses.l3455 12 false := (R.l2Uses.l215_eq _ _).trans (by kernel_rfl)
 rw [h1]
 exact (R.l2Uses.l3455_eq _ _).trans (by kernel_rfl)
theorem nR_12 : R.l2Named 12 = some false := (R.l2Named_eq _).trans (by kernel_rfl)
theorem fR_12 (xo xt xn : Int) (xs : ByteArray) (kd : Int) : R.l2Fields (⟨12, xo, xt, xn, xs, kd⟩) =
 bif xo != 0 then
 some false
 else
 bif xt != 0 then
 some false
 else
 bif xn != 0 then
 some false
 else
 bif !bEq xs ((⟨#[]⟩ : ByteArray)) then
 some false
 else
 some true := by
 rw [R.l2Fields_eq]
 simp only [uR_12, nR_12]
 kernel_rfl
theorem gR_12 (xo xt xn : Int) (xs : ByteArray) (kd : Int) (l : List Int) : R.l2Fits (⟨12, xo, xt, xn, xs, kd⟩) l =
 bif decide ((↑l.length : Int) ≥ 2) then
 bif decide ((↑l.length : Int) ≤ 3) then
 bif inB 0 l.length then
 ((R.l2E (l.getD 0 0))).bind fun (r0 : Bool) =>
 bif r0 then
 bif inB 1 l.length then
 bif l.getD 1 0 == 21 then
 bif (↑l.length : Int) == 2 then
 some true
 else
 bif inB 2 l.length then
 bif l.getD 2 0 == 21 then
 some true
 else
 bif inB 2 l.length then
 some (l.getD 2 0 == 12)
 else
 none
 else
 none
 else
 some false
 else
 none
 else
 some false
 else
 none
 else
 some false
 else
 some false := by
 have h0 : R.l2Fits (⟨12, xo, xt, xn, xs, kd⟩) l = R.l2Fits.l117 l (↑l.length : Int) 12 false (⟨12, xo, xt, xn, xs, kd⟩) := (R.l2Fits_eq _ _).trans (by kernel_rfl)
 rw [h0]
 have h1 : R.l2Fits.l117 l (↑l.length : Int) 12 false (⟨12, xo, xt, xn, xs, kd⟩) = R.l2Fits.l471 l (↑l.length : Int) 12 false (⟨12, xo, xt, xn, xs, kd⟩) := (R.l2Fits.l117_eq _ _ _ _ _).trans (by kernel_rfl)
 rw [h1]
 have h2 : R.l2Fits.l471 l (↑l.length : Int) 12 false (⟨12, xo, xt, xn, xs, kd⟩) = R.l2Fits.l1887 l (↑l.length : Int) 12 false (⟨12, xo, xt, xn, xs, kd⟩) := (R.l2Fits.l471_eq _ _ _ _ _).trans (by kernel_rfl)
 rw [h2]
 exact (R.l2Fits.l1887_eq _ _ _ _ _).trans (by kernel_rfl)
theorem fI_13 (xo xt xn : Int) (xs : ByteArray) (kd : Int) (ks : List (Option TNode_)) (num : Int) : I.node_fieldsOk (some (⟨⟨13, xo, xt, xn, xs, kd⟩, ks, num⟩ : TNode_)) =
 bif (xo == 0) then
 bif (xt == 0) then
 bif (xn == 0) then
 some (bEq xs ((⟨#[]⟩ : ByteArray)))
 else
 some false
 else
 some false
 else
 some false := by
 have h0 : I.node_fieldsOk (some (⟨⟨13, xo, xt, xn, xs, kd⟩, ks, num⟩ : TNode_)) = I.node_fieldsOk.l7551 (some (⟨⟨13, xo, xt, xn, xs, kd⟩, ks, num⟩ : TNode_)) (xo == 0) (xt == 0) (xn == 0) (bEq xs ((⟨#[]⟩ : ByteArray))) (13) false := (I.node_fieldsOk_eq _).trans (by kernel_rfl)
 rw [h0]
 exact (I.node_fieldsOk.l7551_eq _ _ _ _ _ _ _).trans (by kernel_rfl)
theorem gI_13 (xo xt xn : Int) (xs : ByteArray) (kd : Int) (ks : List (Option TNode_)) (num : Int) : I.node_kidsOk (some (⟨⟨13, xo, xt, xn, xs, kd⟩, ks, num⟩ : TNode_)) =
 bif (↑ks.length : Int) == 2 then
 bif inB 0 ks.length then
 bif Option.isSome (ks.getD 0 none) then
 ((I.isE ((Option.getD (ks.getD 0 none) TNode_.z).gNode.gKind))).bind fun (r0 : Bool) =>
 bif r0 then
 bif inB 1 ks.length then
 bif Option.isSome (ks.getD 1 none) then
 ((I.isBlock ((Option.getD (ks.getD 1 none) TNode_.z).gNode.gKind))).bind fun (r1 : Bool) =>
 some r1
 else
 none
 else
 none
 else
 some false
 else
 none
 else
 none
 else
 some false := by
 have h0 : I.node_kidsOk (some (⟨⟨13, xo, xt, xn, xs, kd⟩, ks, num⟩ : TNode_)) = I.node_kidsOk.l117 (some (⟨⟨13, xo, xt, xn, xs, kd⟩, ks, num⟩ : TNode_)) (↑ks.length : Int) (13) false := (I.node_kidsOk_eq _).trans (by kernel_rfl)
 rw [h0]
 have h1 : I.node_kidsOk.l117 (some (⟨⟨13, xo, xt, xn, xs, kd⟩, ks, num⟩ : TNode_)) (↑ks.length : Int) (13) false = I.node_kidsOk.l471 (some (⟨⟨13, xo, xt, xn, xs, kd⟩, ks, num⟩ : TNode_)) (↑ks.length : Int) (13) false := (I.node_kidsOk.l117_eq _ _ _ _).trans (by kernel_rfl)
 rw [h1]
 have h2 : I.node_kidsOk.l471 (some (⟨⟨13, xo, xt, xn, xs, kd⟩, ks, num⟩ : TNode_)) (↑ks.length : Int) (13) false = I.node_kidsOk.l1887 (some (⟨⟨13, xo, xt, xn, xs, kd⟩, ks, num⟩ : TNode_)) (↑ks.length : Int) (13) false := (I.node_kidsOk.l471_eq _ _ _ _).trans (by kernel_rfl)
 rw [h2]
 exact (I.node_kidsOk.l1887_eq _ _ _ _).trans (by kernel_rfl)
theorem uR_13  : R.l2Uses 13 =
 some (false, (false, (false, false))) := by
 have h0 : R.l2Uses 13 = R.l2Uses.l215 13 false := (R.l2Uses_eq _).trans (by kernel_rfl)
 rw [h0]
 have h1 : R.l2Uses.l215 13 false = R.l2Uses.l3455 13 false := (R.l2Uses.l215_eq _ _).trans (by kernel_rfl)
 rw [h1]
 exact (R.l2Uses.l3455_eq _ _).trans (by kernel_rfl)
theorem nR_13 : R.l2Named 13 = some false := (R.l2Named_eq _).trans (by kernel_rfl)
theorem fR_13 (xo xt xn : Int) (xs : ByteArray) (kd : Int) : R.l2Fields (⟨13, xo, xt, xn, xs, kd⟩) =
 bif xo != 0 then
 some false
 else
 bif xt != 0 then
 some false
 else
 bif xn != 0 then
 some false
 else
 bif !bEq xs ((⟨#[]⟩ : ByteArray)) then
 some false
 else
 some true := by
 rw [R.l2Fields_eq]
 simp only [uR_13, nR_13]
 kernel_rfl
theorem gR_13 (xo xt xn : Int) (xs : ByteArray) (kd : Int) (l : List Int) : R.l2Fits (⟨13, xo, xt, xn, xs, kd⟩) l =
 bif (↑l.length : Int) == 2 then
 bif inB 0 l.length then
 ((R.l2E (l.getD 0 0))).bind fun (r0 : Bool) =>
 bif r0 then
 bif inB 1 l.length then
 some (l.getD 1 0 == 21)
 else
 none
 else
 some false
 else
 none
 else
 some false := by
 have h0 : R.l2Fits (⟨13, xo, xt, xn, xs, kd⟩) l = R.l2Fits.l117 l (↑l.length : Int) 13 false (⟨13, xo, xt, xn, xs, kd⟩) := (R.l2Fits_eq _ _).trans (by kernel_rfl)
 rw [h0]
 have h1 : R.l2Fits.l117 l (↑l.length : Int) 13 false (⟨13, xo, xt, xn, xs, kd⟩) = R.l2Fits.l471 l (↑l.length : Int) 13 false (⟨13, xo, xt, xn, xs, kd⟩) := (R.l2Fits.l117_eq _ _ _ _ _).trans (by kernel_rfl)
 rw [h1]
 have h2 : R.l2Fits.l471 l (↑l.length : Int) 13 false (⟨13, xo, xt, xn, xs, kd⟩) = R.l2Fits.l1887 l (↑l.length : Int) 13 false (⟨13, xo, xt, xn, xs, kd⟩) := (R.l2Fits.l471_eq _ _ _ _ _).trans (by kernel_rfl)
 rw [h2]
 exact (R.l2Fits.l1887_eq _ _ _ _ _).trans (by kernel_rfl)
theorem fI_14 (xo xt xn : Int) (xs : ByteArray) (kd : Int) (ks : List (Option TNode_)) (num : Int) : I.node_fieldsOk (some (⟨⟨14, xo, xt, xn, xs, kd⟩, ks, num⟩ : TNode_)) =
 bif (xo == 0) then
 bif (xt == 0) then
 bif (xn == 0) then
 some (bEq xs ((⟨#[]⟩ : ByteArray)))
 else
 some false
 else
 some false
 else
 some false := by
 have h0 : I.node_fieldsOk (some (⟨⟨14, xo, xt, xn, xs, kd⟩, ks, num⟩ : TNode_)) = I.node_fieldsOk.l7551 (some (⟨⟨14, xo, xt, xn, xs, kd⟩, ks, num⟩ : TNode_)) (xo == 0) (xt == 0) (xn == 0) (bEq xs ((⟨#[]⟩ : ByteArray))) (14) false := (I.node_fieldsOk_eq _).trans (by kernel_rfl)
 rw [h0]
 exact (I.node_fieldsOk.l7551_eq _ _ _ _ _ _ _).trans (by kernel_rfl)
theorem gI_14 (xo xt xn : Int) (xs : ByteArray) (kd : Int) (ks : List (Option TNode_)) (num : Int) : I.node_kidsOk (some (⟨⟨14, xo, xt, xn, xs, kd⟩, ks, num⟩ : TNode_)) =
 some ((↑ks.length : Int) == 0) := by
 have h0 : I.node_kidsOk (some (⟨⟨14, xo, xt, xn, xs, kd⟩, ks, num⟩ : TNode_)) = I.node_kidsOk.l117 (some (⟨⟨14, xo, xt, xn, xs, kd⟩, ks, num⟩ : TNode_)) (↑ks.length : Int) (14) true := (I.node_kidsOk_eq _).trans (by kernel_rfl)
 rw [h0]
 exact (I.node_kidsOk.l117_eq _ _ _ _).trans (by kernel_rfl)
theorem uR_14  : R.l2Uses 14 =
 some (false, (false, (false, false))) := by
 have h0 : R.l2Uses 14 = R.l2Uses.l215 14 false := (R.l2Uses_eq _).trans (by kernel_rfl)
 rw [h0]
 have h1 : R.l2Uses.l215 14 false = R.l2Uses.l3455 14 false := (R.l2Uses.l215_eq _ _).trans (by kernel_rfl)
 rw [h1]
 exact (R.l2Uses.l3455_eq _ _).trans (by kernel_rfl)
theorem nR_14 : R.l2Named 14 = some false := (R.l2Named_eq _).trans (by kernel_rfl)
theorem fR_14 (xo xt xn : Int) (xs : ByteArray) (kd : Int) : R.l2Fields (⟨14, xo, xt, xn, xs, kd⟩) =
 bif xo != 0 then
 some false
 else
 bif xt != 0 then
 some false
 else
 bif xn != 0 then
 some false
 else
 bif !bEq xs ((⟨#[]⟩ : ByteArray)) then
 some false
 else
 some true := by
 rw [R.l2Fields_eq]
 simp only [uR_14, nR_14]
 kernel_rfl
theorem gR_14 (xo xt xn : Int) (xs : ByteArray) (kd : Int) (l : List Int) : R.l2Fits (⟨14, xo, xt, xn, xs, kd⟩) l =
 some ((↑l.length : Int) == 0) := by
 have h0 : R.l2Fits (⟨14, xo, xt, xn, xs, kd⟩) l = R.l2Fits.l117 l (↑l.length : Int) 14 true (⟨14, xo, xt, xn, xs, kd⟩) := (R.l2Fits_eq _ _).trans (by kernel_rfl)
 rw [h0]
 exact (R.l2Fits.l117_eq _ _ _ _ _).trans (by kernel_rfl)
theorem fI_15 (xo xt xn : Int) (xs : ByteArray) (kd : Int) (ks : List (Option TNode_)) (num : Int) : I.node_fieldsOk (some (⟨⟨15, xo, xt, xn, xs, kd⟩, ks, num⟩ : TNode_)) =
 bif (xo == 0) then
 bif (xt == 0) then
 bif (xn == 0) then
 some (bEq xs ((⟨#[]⟩ : ByteArray)))
 else
 some false
 else
 some false
 else
 some false := by
 have h0 : I.node_fieldsOk (some (⟨⟨15, xo, xt, xn, xs, kd⟩, ks, num⟩ : TNode_)) = I.node_fieldsOk.l7551 (some (⟨⟨15, xo, xt, xn, xs, kd⟩, ks, num⟩ : TNode_)) (xo == 0) (xt == 0) (xn == 0) (bEq xs ((⟨#[]⟩ : ByteArray))) (15) false := (I.node_fieldsOk_eq _).trans (by kernel_rfl)
 rw [h0]
 exact (I.node_fieldsOk.l7551_eq _ _ _ _ _ _ _).trans (by kernel_rfl)
theorem gI_15 (xo xt xn : Int) (xs : ByteArray) (kd : Int) (ks : List (Option TNode_)) (num : Int) : I.node_kidsOk (some (⟨⟨15, xo, xt, xn, xs, kd⟩, ks, num⟩ : TNode_)) =
 some ((↑ks.length : Int) == 0) := by
 have h0 : I.node_kidsOk (some (⟨⟨15, xo, xt, xn, xs, kd⟩, ks, num⟩ : TNode_)) = I.node_kidsOk.l117 (some (⟨⟨15, xo, xt, xn, xs, kd⟩, ks, num⟩ : TNode_)) (↑ks.length : Int) (15) true := (I.node_kidsOk_eq _).trans (by kernel_rfl)
 rw [h0]
 exact (I.node_kidsOk.l117_eq _ _ _ _).trans (by kernel_rfl)
theorem uR_15  : R.l2Uses 15 =
 some (false, (false, (false, false))) := by
 have h0 : R.l2Uses 15 = R.l2Uses.l215 15 false := (R.l2Uses_eq _).trans (by kernel_rfl)
 rw [h0]
 have h1 : R.l2Uses.l215 15 false = R.l2Uses.l3455 15 false := (R.l2Uses.l215_eq _ _).trans (by kernel_rfl)
 rw [h1]
 exact (R.l2Uses.l3455_eq _ _).trans (by kernel_rfl)
theorem nR_15 : R.l2Named 15 = some false := (R.l2Named_eq _).trans (by kernel_rfl)
theorem fR_15 (xo xt xn : Int) (xs : ByteArray) (kd : Int) : R.l2Fields (⟨15, xo, xt, xn, xs, kd⟩) =
 bif xo != 0 then
 some false
 else
 bif xt != 0 then
 some false
 else
 bif xn != 0 then
 some false
 else
 bif !bEq xs ((⟨#[]⟩ : ByteArray)) then
 some false
 else
 some true := by
 rw [R.l2Fields_eq]
 simp only [uR_15, nR_15]
 kernel_rfl
theorem gR_15 (xo xt xn : Int) (xs : ByteArray) (kd : Int) (l : List Int) : R.l2Fits (⟨15, xo, xt, xn, xs, kd⟩) l =
 some ((↑l.length : Int) == 0) := by
 have h0 : R.l2Fits (⟨15, xo, xt, xn, xs, kd⟩) l = R.l2Fits.l117 l (↑l.length : Int) 15 true (⟨15, xo, xt, xn, xs, kd⟩) := (R.l2Fits_eq _ _).trans (by kernel_rfl)
 rw [h0]
 exact (R.l2Fits.l117_eq _ _ _ _ _).trans (by kernel_rfl)
theorem fI_16 (xo xt xn : Int) (xs : ByteArray) (kd : Int) (ks : List (Option TNode_)) (num : Int) : I.node_fieldsOk (some (⟨⟨16, xo, xt, xn, xs, kd⟩, ks, num⟩ : TNode_)) =
 bif (xo == 0) then
 bif (xt == 0) then
 bif (xn == 0) then
 some (bEq xs ((⟨#[]⟩ : ByteArray)))
 else
 some false
 else
 some false
 else
 some false := by
 have h0 : I.node_fieldsOk (some (⟨⟨16, xo, xt, xn, xs, kd⟩, ks, num⟩ : TNode_)) = I.node_fieldsOk.l7551 (some (⟨⟨16, xo, xt, xn, xs, kd⟩, ks, num⟩ : TNode_)) (xo == 0) (xt == 0) (xn == 0) (bEq xs ((⟨#[]⟩ : ByteArray))) (16) false := (I.node_fieldsOk_eq _).trans (by kernel_rfl)
 rw [h0]
 exact (I.node_fieldsOk.l7551_eq _ _ _ _ _ _ _).trans (by kernel_rfl)
theorem gI_16 (xo xt xn : Int) (xs : ByteArray) (kd : Int) (ks : List (Option TNode_)) (num : Int) : I.node_kidsOk (some (⟨⟨16, xo, xt, xn, xs, kd⟩, ks, num⟩ : TNode_)) =
 bif (↑ks.length : Int) == 0 then
 some true
 else
 bif (↑ks.length : Int) == 1 then
 bif inB 0 ks.length then
 bif Option.isSome (ks.getD 0 none) then
 ((I.isE ((Option.getD (ks.getD 0 none) TNode_.z).gNode.gKind))).bind fun (r0 : Bool) =>
 some r0
 else
 none
 else
 none
 else
 some false := by
 have h0 : I.node_kidsOk (some (⟨⟨16, xo, xt, xn, xs, kd⟩, ks, num⟩ : TNode_)) = I.node_kidsOk.l117 (some (⟨⟨16, xo, xt, xn, xs, kd⟩, ks, num⟩ : TNode_)) (↑ks.length : Int) (16) false := (I.node_kidsOk_eq _).trans (by kernel_rfl)
 rw [h0]
 have h1 : I.node_kidsOk.l117 (some (⟨⟨16, xo, xt, xn, xs, kd⟩, ks, num⟩ : TNode_)) (↑ks.length : Int) (16) false = I.node_kidsOk.l471 (some (⟨⟨16, xo, xt, xn, xs, kd⟩, ks, num⟩ : TNode_)) (↑ks.length : Int) (16) false := (I.node_kidsOk.l117_eq _ _ _ _).trans (by kernel_rfl)
 rw [h1]
 have h2 : I.node_kidsOk.l471 (some (⟨⟨16, xo, xt, xn, xs, kd⟩, ks, num⟩ : TNode_)) (↑ks.length : Int) (16) false = I.node_kidsOk.l1887 (some (⟨⟨16, xo, xt, xn, xs, kd⟩, ks, num⟩ : TNode_)) (↑ks.length : Int) (16) false := (I.node_kidsOk.l471_eq _ _ _ _).trans (by kernel_rfl)
 rw [h2]
 exact (I.node_kidsOk.l1887_eq _ _ _ _).trans (by kernel_rfl)
theorem uR_16  : R.l2Uses 16 =
 some (false, (false, (false, false))) := by
 have h0 : R.l2Uses 16 = R.l2Uses.l215 16 false := (R.l2Uses_eq _).trans (by kernel_rfl)
 rw [h0]
 have h1 : R.l2Uses.l215 16 false = R.l2Uses.l3455 16 false := (R.l2Uses.l215_eq _ _).trans (by kernel_rfl)
 rw [h1]
 exact (R.l2Uses.l3455_eq _ _).trans (by kernel_rfl)
theorem nR_16 : R.l2Named 16 = some false := (R.l2Named_eq _).trans (by kernel_rfl)
theorem fR_16 (xo xt xn : Int) (xs : ByteArray) (kd : Int) : R.l2Fields (⟨16, xo, xt, xn, xs, kd⟩) =
 bif xo != 0 then
 some false
 else
 bif xt != 0 then
 some false
 else
 bif xn != 0 then
 some false
 else
 bif !bEq xs ((⟨#[]⟩ : ByteArray)) then
 some false
 else
 some true := by
 rw [R.l2Fields_eq]
 simp only [uR_16, nR_16]
 kernel_rfl
theorem gR_16 (xo xt xn : Int) (xs : ByteArray) (kd : Int) (l : List Int) : R.l2Fits (⟨16, xo, xt, xn, xs, kd⟩) l =
 bif decide ((↑l.length : Int) ≤ 1) then
 ((R.l2AllE l)).bind fun (r0 : Bool) =>
 some r0
 else
 some false := by
 have h0 : R.l2Fits (⟨16, xo, xt, xn, xs, kd⟩) l = R.l2Fits.l117 l (↑l.length : Int) 16 false (⟨16, xo, xt, xn, xs, kd⟩) := (R.l2Fits_eq _ _).trans (by kernel_rfl)
 rw [h0]
 have h1 : R.l2Fits.l117 l (↑l.length : Int) 16 false (⟨16, xo, xt, xn, xs, kd⟩) = R.l2Fits.l471 l (↑l.length : Int) 16 false (⟨16, xo, xt, xn, xs, kd⟩) := (R.l2Fits.l117_eq _ _ _ _ _).trans (by kernel_rfl)
 rw [h1]
 have h2 : R.l2Fits.l471 l (↑l.length : Int) 16 false (⟨16, xo, xt, xn, xs, kd⟩) = R.l2Fits.l1887 l (↑l.length : Int) 16 false (⟨16, xo, xt, xn, xs, kd⟩) := (R.l2Fits.l471_eq _ _ _ _ _).trans (by kernel_rfl)
 rw [h2]
 exact (R.l2Fits.l1887_eq _ _ _ _ _).trans (by kernel_rfl)
theorem fI_17 (xo xt xn : Int) (xs : ByteArray) (kd : Int) (ks : List (Option TNode_)) (num : Int) : I.node_fieldsOk (some (⟨⟨17, xo, xt, xn, xs, kd⟩, ks, num⟩ : TNode_)) =
 bif (xo == 0) then
 bif (xt == 0) then
 bif (xn == 0) then
 some (bEq xs ((⟨#[]⟩ : ByteArray)))
 else
 some false
 else
 some false
 else
 some false := by
 have h0 : I.node_fieldsOk (some (⟨⟨17, xo, xt, xn, xs, kd⟩, ks, num⟩ : TNode_)) = I.node_fieldsOk.l7551 (some (⟨⟨17, xo, xt, xn, xs, kd⟩, ks, num⟩ : TNode_)) (xo == 0) (xt == 0) (xn == 0) (bEq xs ((⟨#[]⟩ : ByteArray))) (17) false := (I.node_fieldsOk_eq _).trans (by kernel_rfl)
 rw [h0]
 exact (I.node_fieldsOk.l7551_eq _ _ _ _ _ _ _).trans (by kernel_rfl)
theorem gI_17 (xo xt xn : Int) (xs : ByteArray) (kd : Int) (ks : List (Option TNode_)) (num : Int) : I.node_kidsOk (some (⟨⟨17, xo, xt, xn, xs, kd⟩, ks, num⟩ : TNode_)) =
 bif (↑ks.length : Int) == 1 then
 ((I.node_kinds_c61 (some (⟨⟨17, xo, xt, xn, xs, kd⟩, ks, num⟩ : TNode_)) 0)).bind fun (r0 : Bool) =>
 some r0
 else
 some false := by
 have h0 : I.node_kidsOk (some (⟨⟨17, xo, xt, xn, xs, kd⟩, ks, num⟩ : TNode_)) = I.node_kidsOk.l117 (some (⟨⟨17, xo, xt, xn, xs, kd⟩, ks, num⟩ : TNode_)) (↑ks.length : Int) (17) false := (I.node_kidsOk_eq _).trans (by kernel_rfl)
 rw [h0]
 have h1 : I.node_kidsOk.l117 (some (⟨⟨17, xo, xt, xn, xs, kd⟩, ks, num⟩ : TNode_)) (↑ks.length : Int) (17) false = I.node_kidsOk.l471 (some (⟨⟨17, xo, xt, xn, xs, kd⟩, ks, num⟩ : TNode_)) (↑ks.length : Int) (17) true := (I.node_kidsOk.l117_eq _ _ _ _).trans (by kernel_rfl)
 rw [h1]
 exact (I.node_kidsOk.l471_eq _ _ _ _).trans (by kernel_rfl)
theorem uR_17  : R.l2Uses 17 =
 some (false, (false, (false, false))) := by
 have h0 : R.l2Uses 17 = R.l2Uses.l215 17 false := (R.l2Uses_eq _).trans (by kernel_rfl)
 rw [h0]
 have h1 : R.l2Uses.l215 17 false = R.l2Uses.l3455 17 false := (R.l2Uses.l215_eq _ _).trans (by kernel_rfl)
 rw [h1]
 exact (R.l2Uses.l3455_eq _ _).trans (by kernel_rfl)
theorem nR_17 : R.l2Named 17 = some false := (R.l2Named_eq _).trans (by kernel_rfl)
theorem fR_17 (xo xt xn : Int) (xs : ByteArray) (kd : Int) : R.l2Fields (⟨17, xo, xt, xn, xs, kd⟩) =
 bif xo != 0 then
 some false
 else
 bif xt != 0 then
 some false
 else
 bif xn != 0 then
 some false
 else
 bif !bEq xs ((⟨#[]⟩ : ByteArray)) then
 some false
 else
 some true := by
 rw [R.l2Fields_eq]
 simp only [uR_17, nR_17]
 kernel_rfl
theorem gR_17 (xo xt xn : Int) (xs : ByteArray) (kd : Int) (l : List Int) : R.l2Fits (⟨17, xo, xt, xn, xs, kd⟩) l =
 bif (↑l.length : Int) == 1 then
 bif inB 0 l.length then
 ((R.l2E (l.getD 0 0))).bind fun (r0 : Bool) =>
 some r0
 else
 none
 else
 some false := by
 have h0 : R.l2Fits (⟨17, xo, xt, xn, xs, kd⟩) l = R.l2Fits.l117 l (↑l.length : Int) 17 false (⟨17, xo, xt, xn, xs, kd⟩) := (R.l2Fits_eq _ _).trans (by kernel_rfl)
 rw [h0]
 have h1 : R.l2Fits.l117 l (↑l.length : Int) 17 false (⟨17, xo, xt, xn, xs, kd⟩) = R.l2Fits.l471 l (↑l.length : Int) 17 true (⟨17, xo, xt, xn, xs, kd⟩) := (R.l2Fits.l117_eq _ _ _ _ _).trans (by kernel_rfl)
 rw [h1]
 exact (R.l2Fits.l471_eq _ _ _ _ _).trans (by kernel_rfl)
theorem fI_18 (xo xt xn : Int) (xs : ByteArray) (kd : Int) (ks : List (Option TNode_)) (num : Int) : I.node_fieldsOk (some (⟨⟨18, xo, xt, xn, xs, kd⟩, ks, num⟩ : TNode_)) =
 bif (xo == 0) then
 bif (xt == 0) then
 bif (xn == 0) then
 some (bEq xs ((⟨#[]⟩ : ByteArray)))
 else
 some false
 else
 some false
 else
 some false := by
 have h0 : I.node_fieldsOk (some (⟨⟨18, xo, xt, xn, xs, kd⟩, ks, num⟩ : TNode_)) = I.node_fieldsOk.l7551 (some (⟨⟨18, xo, xt, xn, xs, kd⟩, ks, num⟩ : TNode_)) (xo == 0) (xt == 0) (xn == 0) (bEq xs ((⟨#[]⟩ : ByteArray))) (18) false := (I.node_fieldsOk_eq _).trans (by kernel_rfl)
 rw [h0]
 exact (I.node_fieldsOk.l7551_eq _ _ _ _ _ _ _).trans (by kernel_rfl)
theorem gI_18 (xo xt xn : Int) (xs : ByteArray) (kd : Int) (ks : List (Option TNode_)) (num : Int) : I.node_kidsOk (some (⟨⟨18, xo, xt, xn, xs, kd⟩, ks, num⟩ : TNode_)) =
 bif (↑ks.length : Int) == 2 then
 ((I.node_kinds_c61 (some (⟨⟨18, xo, xt, xn, xs, kd⟩, ks, num⟩ : TNode_)) 0)).bind fun (r0 : Bool) =>
 some r0
 else
 some false := by
 have h0 : I.node_kidsOk (some (⟨⟨18, xo, xt, xn, xs, kd⟩, ks, num⟩ : TNode_)) = I.node_kidsOk.l117 (some (⟨⟨18, xo, xt, xn, xs, kd⟩, ks, num⟩ : TNode_)) (↑ks.length : Int) (18) false := (I.node_kidsOk_eq _).trans (by kernel_rfl)
 rw [h0]
 have h1 : I.node_kidsOk.l117 (some (⟨⟨18, xo, xt, xn, xs, kd⟩, ks, num⟩ : TNode_)) (↑ks.length : Int) (18) false = I.node_kidsOk.l471 (some (⟨⟨18, xo, xt, xn, xs, kd⟩, ks, num⟩ : TNode_)) (↑ks.length : Int) (18) false := (I.node_kidsOk.l117_eq _ _ _ _).trans (by kernel_rfl)
 rw [h1]
 have h2 : I.node_kidsOk.l471 (some (⟨⟨18, xo, xt, xn, xs, kd⟩, ks, num⟩ : TNode_)) (↑ks.length : Int) (18) false = I.node_kidsOk.l1887 (some (⟨⟨18, xo, xt, xn, xs, kd⟩, ks, num⟩ : TNode_)) (↑ks.length : Int) (18) true := (I.node_kidsOk.l471_eq _ _ _ _).trans (by kernel_rfl)
 rw [h2]
 exact (I.node_kidsOk.l1887_eq _ _ _ _).trans (by kernel_rfl)
theorem uR_18  : R.l2Uses 18 =
 some (false, (false, (false, false))) := by
 have h0 : R.l2Uses 18 = R.l2Uses.l215 18 false := (R.l2Uses_eq _).trans (by kernel_rfl)
 rw [h0]
 have h1 : R.l2Uses.l215 18 false = R.l2Uses.l3455 18 false := (R.l2Uses.l215_eq _ _).trans (by kernel_rfl)
 rw [h1]
 exact (R.l2Uses.l3455_eq _ _).trans (by kernel_rfl)
theorem nR_18 : R.l2Named 18 = some false := (R.l2Named_eq _).trans (by kernel_rfl)
theorem fR_18 (xo xt xn : Int) (xs : ByteArray) (kd : Int) : R.l2Fields (⟨18, xo, xt, xn, xs, kd⟩) =
 bif xo != 0 then
 some false
 else
 bif xt != 0 then
 some false
 else
 bif xn != 0 then
 some false
 else
 bif !bEq xs ((⟨#[]⟩ : ByteArray)) then
 some false
 else
 some true := by
 rw [R.l2Fields_eq]
 simp only [uR_18, nR_18]
 kernel_rfl
theorem gR_18 (xo xt xn : Int) (xs : ByteArray) (kd : Int) (l : List Int) : R.l2Fits (⟨18, xo, xt, xn, xs, kd⟩) l =
 bif (↑l.length : Int) == 2 then
 ((R.l2AllE l)).bind fun (r0 : Bool) =>
 some r0
 else
 some false := by
 have h0 : R.l2Fits (⟨18, xo, xt, xn, xs, kd⟩) l = R.l2Fits.l117 l (↑l.length : Int) 18 false (⟨18, xo, xt, xn, xs, kd⟩) := (R.l2Fits_eq _ _).trans (by kernel_rfl)
 rw [h0]
 have h1 : R.l2Fits.l117 l (↑l.length : Int) 18 false (⟨18, xo, xt, xn, xs, kd⟩) = R.l2Fits.l471 l (↑l.length : Int) 18 false (⟨18, xo, xt, xn, xs, kd⟩) := (R.l2Fits.l117_eq _ _ _ _ _).trans (by kernel_rfl)
 rw [h1]
 have h2 : R.l2Fits.l471 l (↑l.length : Int) 18 false (⟨18, xo, xt, xn, xs, kd⟩) = R.l2Fits.l1887 l (↑l.length : Int) 18 true (⟨18, xo, xt, xn, xs, kd⟩) := (R.l2Fits.l471_eq _ _ _ _ _).trans (by kernel_rfl)
 rw [h2]
 exact (R.l2Fits.l1887_eq _ _ _ _ _).trans (by kernel_rfl)
theorem fI_19 (xo xt xn : Int) (xs : ByteArray) (kd : Int) (ks : List (Option TNode_)) (num : Int) : I.node_fieldsOk (some (⟨⟨19, xo, xt, xn, xs, kd⟩, ks, num⟩ : TNode_)) =
 bif (xo == 0) then
 bif (xt == 0) then
 bif (xn == 0) then
 some (bEq xs ((⟨#[]⟩ : ByteArray)))
 else
 some false
 else
 some false
 else
 some false := by
 have h0 : I.node_fieldsOk (some (⟨⟨19, xo, xt, xn, xs, kd⟩, ks, num⟩ : TNode_)) = I.node_fieldsOk.l7551 (some (⟨⟨19, xo, xt, xn, xs, kd⟩, ks, num⟩ : TNode_)) (xo == 0) (xt == 0) (xn == 0) (bEq xs ((⟨#[]⟩ : ByteArray))) (19) false := (I.node_fieldsOk_eq _).trans (by kernel_rfl)
 rw [h0]
 exact (I.node_fieldsOk.l7551_eq _ _ _ _ _ _ _).trans (by kernel_rfl)
theorem gI_19 (xo xt xn : Int) (xs : ByteArray) (kd : Int) (ks : List (Option TNode_)) (num : Int) : I.node_kidsOk (some (⟨⟨19, xo, xt, xn, xs, kd⟩, ks, num⟩ : TNode_)) =
 bif (↑ks.length : Int) == 1 then
 ((I.node_kinds_c61 (some (⟨⟨19, xo, xt, xn, xs, kd⟩, ks, num⟩ : TNode_)) 0)).bind fun (r0 : Bool) =>
 some r0
 else
 some false := by
 have h0 : I.node_kidsOk (some (⟨⟨19, xo, xt, xn, xs, kd⟩, ks, num⟩ : TNode_)) = I.node_kidsOk.l117 (some (⟨⟨19, xo, xt, xn, xs, kd⟩, ks, num⟩ : TNode_)) (↑ks.length : Int) (19) false := (I.node_kidsOk_eq _).trans (by kernel_rfl)
 rw [h0]
 have h1 : I.node_kidsOk.l117 (some (⟨⟨19, xo, xt, xn, xs, kd⟩, ks, num⟩ : TNode_)) (↑ks.length : Int) (19) false = I.node_kidsOk.l471 (some (⟨⟨19, xo, xt, xn, xs, kd⟩, ks, num⟩ : TNode_)) (↑ks.length : Int) (19) true := (I.node_kidsOk.l117_eq _ _ _ _).trans (by kernel_rfl)
 rw [h1]
 exact (I.node_kidsOk.l471_eq _ _ _ _).trans (by kernel_rfl)
theorem uR_19  : R.l2Uses 19 =
 some (false, (false, (false, false))) := by
 have h0 : R.l2Uses 19 = R.l2Uses.l215 19 false := (R.l2Uses_eq _).trans (by kernel_rfl)
 rw [h0]
 have h1 : R.l2Uses.l215 19 false = R.l2Uses.l3455 19 false := (R.l2Uses.l215_eq _ _).trans (by kernel_rfl)
 rw [h1]
 exact (R.l2Uses.l3455_eq _ _).trans (by kernel_rfl)
theorem nR_19 : R.l2Named 19 = some false := (R.l2Named_eq _).trans (by kernel_rfl)
theorem fR_19 (xo xt xn : Int) (xs : ByteArray) (kd : Int) : R.l2Fields (⟨19, xo, xt, xn, xs, kd⟩) =
 bif xo != 0 then
 some false
 else
 bif xt != 0 then
 some false
 else
 bif xn != 0 then
 some false
 else
 bif !bEq xs ((⟨#[]⟩ : ByteArray)) then
 some false
 else
 some true := by
 rw [R.l2Fields_eq]
 simp only [uR_19, nR_19]
 kernel_rfl
theorem gR_19 (xo xt xn : Int) (xs : ByteArray) (kd : Int) (l : List Int) : R.l2Fits (⟨19, xo, xt, xn, xs, kd⟩) l =
 bif (↑l.length : Int) == 1 then
 bif inB 0 l.length then
 ((R.l2E (l.getD 0 0))).bind fun (r0 : Bool) =>
 some r0
 else
 none
 else
 some false := by
 have h0 : R.l2Fits (⟨19, xo, xt, xn, xs, kd⟩) l = R.l2Fits.l117 l (↑l.length : Int) 19 false (⟨19, xo, xt, xn, xs, kd⟩) := (R.l2Fits_eq _ _).trans (by kernel_rfl)
 rw [h0]
 have h1 : R.l2Fits.l117 l (↑l.length : Int) 19 false (⟨19, xo, xt, xn, xs, kd⟩) = R.l2Fits.l471 l (↑l.length : Int) 19 true (⟨19, xo, xt, xn, xs, kd⟩) := (R.l2Fits.l117_eq _ _ _ _ _).trans (by kernel_rfl)
 rw [h1]
 exact (R.l2Fits.l471_eq _ _ _ _ _).trans (by kernel_rfl)
theorem fI_20 (xo xt xn : Int) (xs : ByteArray) (kd : Int) (ks : List (Option TNode_)) (num : Int) : I.node_fieldsOk (some (⟨⟨20, xo, xt, xn, xs, kd⟩, ks, num⟩ : TNode_)) =
 bif (xo == 0) then
 bif (xt == 0) then
 bif (xn == 0) then
 some (bEq xs ((⟨#[]⟩ : ByteArray)))
 else
 some false
 else
 some false
 else
 some false := by
 have h0 : I.node_fieldsOk (some (⟨⟨20, xo, xt, xn, xs, kd⟩, ks, num⟩ : TNode_)) = I.node_fieldsOk.l7551 (some (⟨⟨20, xo, xt, xn, xs, kd⟩, ks, num⟩ : TNode_)) (xo == 0) (xt == 0) (xn == 0) (bEq xs ((⟨#[]⟩ : ByteArray))) (20) false := (I.node_fieldsOk_eq _).trans (by kernel_rfl)
 rw [h0]
 exact (I.node_fieldsOk.l7551_eq _ _ _ _ _ _ _).trans (by kernel_rfl)
theorem gI_20 (xo xt xn : Int) (xs : ByteArray) (kd : Int) (ks : List (Option TNode_)) (num : Int) : I.node_kidsOk (some (⟨⟨20, xo, xt, xn, xs, kd⟩, ks, num⟩ : TNode_)) =
 bif (↑ks.length : Int) == 1 then
 bif inB 0 ks.length then
 bif Option.isSome (ks.getD 0 none) then
 some ((Option.getD (ks.getD 0 none) TNode_.z).gNode.gKind == 7)
 else
 none
 else
 none
 else
 some false := by
 have h0 : I.node_kidsOk (some (⟨⟨20, xo, xt, xn, xs, kd⟩, ks, num⟩ : TNode_)) = I.node_kidsOk.l117 (some (⟨⟨20, xo, xt, xn, xs, kd⟩, ks, num⟩ : TNode_)) (↑ks.length : Int) (20) false := (I.node_kidsOk_eq _).trans (by kernel_rfl)
 rw [h0]
 have h1 : I.node_kidsOk.l117 (some (⟨⟨20, xo, xt, xn, xs, kd⟩, ks, num⟩ : TNode_)) (↑ks.length : Int) (20) false = I.node_kidsOk.l471 (some (⟨⟨20, xo, xt, xn, xs, kd⟩, ks, num⟩ : TNode_)) (↑ks.length : Int) (20) false := (I.node_kidsOk.l117_eq _ _ _ _).trans (by kernel_rfl)
 rw [h1]
 have h2 : I.node_kidsOk.l471 (some (⟨⟨20, xo, xt, xn, xs, kd⟩, ks, num⟩ : TNode_)) (↑ks.length : Int) (20) false = I.node_kidsOk.l1887 (some (⟨⟨20, xo, xt, xn, xs, kd⟩, ks, num⟩ : TNode_)) (↑ks.length : Int) (20) false := (I.node_kidsOk.l471_eq _ _ _ _).trans (by kernel_rfl)
 rw [h2]
 exact (I.node_kidsOk.l1887_eq _ _ _ _).trans (by kernel_rfl)
theorem uR_20  : R.l2Uses 20 =
 some (false, (false, (false, false))) := by
 have h0 : R.l2Uses 20 = R.l2Uses.l215 20 false := (R.l2Uses_eq _).trans (by kernel_rfl)
 rw [h0]
 have h1 : R.l2Uses.l215 20 false = R.l2Uses.l3455 20 false := (R.l2Uses.l215_eq _ _).trans (by kernel_rfl)
 rw [h1]
 exact (R.l2Uses.l3455_eq _ _).trans (by kernel_rfl)
theorem nR_20 : R.l2Named 20 = some false := (R.l2Named_eq _).trans (by kernel_rfl)
theorem fR_20 (xo xt xn : Int) (xs : ByteArray) (kd : Int) : R.l2Fields (⟨20, xo, xt, xn, xs, kd⟩) =
 bif xo != 0 then
 some false
 else
 bif xt != 0 then
 some false
 else
 bif xn != 0 then
 some false
 else
 bif !bEq xs ((⟨#[]⟩ : ByteArray)) then
 some false
 else
 some true := by
 rw [R.l2Fields_eq]
 simp only [uR_20, nR_20]
 kernel_rfl
theorem gR_20 (xo xt xn : Int) (xs : ByteArray) (kd : Int) (l : List Int) : R.l2Fits (⟨20, xo, xt, xn, xs, kd⟩) l =
 bif (↑l.length : Int) == 1 then
 bif inB 0 l.length then
 some (l.getD 0 0 == 7)
 else
 none
 else
 some false := by
 have h0 : R.l2Fits (⟨20, xo, xt, xn, xs, kd⟩) l = R.l2Fits.l117 l (↑l.length : Int) 20 false (⟨20, xo, xt, xn, xs, kd⟩) := (R.l2Fits_eq _ _).trans (by kernel_rfl)
 rw [h0]
 have h1 : R.l2Fits.l117 l (↑l.length : Int) 20 false (⟨20, xo, xt, xn, xs, kd⟩) = R.l2Fits.l471 l (↑l.length : Int) 20 false (⟨20, xo, xt, xn, xs, kd⟩) := (R.l2Fits.l117_eq _ _ _ _ _).trans (by kernel_rfl)
 rw [h1]
 have h2 : R.l2Fits.l471 l (↑l.length : Int) 20 false (⟨20, xo, xt, xn, xs, kd⟩) = R.l2Fits.l1887 l (↑l.length : Int) 20 false (⟨20, xo, xt, xn, xs, kd⟩) := (R.l2Fits.l471_eq _ _ _ _ _).trans (by kernel_rfl)
 rw [h2]
 exact (R.l2Fits.l1887_eq _ _ _ _ _).trans (by kernel_rfl)
theorem fI_21 (xo xt xn : Int) (xs : ByteArray) (kd : Int) (ks : List (Option TNode_)) (num : Int) : I.node_fieldsOk (some (⟨⟨21, xo, xt, xn, xs, kd⟩, ks, num⟩ : TNode_)) =
 bif (xo == 0) then
 bif (xt == 0) then
 bif (xn == 0) then
 some (bEq xs ((⟨#[]⟩ : ByteArray)))
 else
 some false
 else
 some false
 else
 some false := by
 have h0 : I.node_fieldsOk (some (⟨⟨21, xo, xt, xn, xs, kd⟩, ks, num⟩ : TNode_)) = I.node_fieldsOk.l7551 (some (⟨⟨21, xo, xt, xn, xs, kd⟩, ks, num⟩ : TNode_)) (xo == 0) (xt == 0) (xn == 0) (bEq xs ((⟨#[]⟩ : ByteArray))) (21) false := (I.node_fieldsOk_eq _).trans (by kernel_rfl)
 rw [h0]
 exact (I.node_fieldsOk.l7551_eq _ _ _ _ _ _ _).trans (by kernel_rfl)
theorem gI_21 (xo xt xn : Int) (xs : ByteArray) (kd : Int) (ks : List (Option TNode_)) (num : Int) : I.node_kidsOk (some (⟨⟨21, xo, xt, xn, xs, kd⟩, ks, num⟩ : TNode_)) =
 ((I.node_kinds_c63 (some (⟨⟨21, xo, xt, xn, xs, kd⟩, ks, num⟩ : TNode_)) 0)).bind fun (r0 : Bool) =>
 some r0 := by
 have h0 : I.node_kidsOk (some (⟨⟨21, xo, xt, xn, xs, kd⟩, ks, num⟩ : TNode_)) = I.node_kidsOk.l117 (some (⟨⟨21, xo, xt, xn, xs, kd⟩, ks, num⟩ : TNode_)) (↑ks.length : Int) (21) false := (I.node_kidsOk_eq _).trans (by kernel_rfl)
 rw [h0]
 have h1 : I.node_kidsOk.l117 (some (⟨⟨21, xo, xt, xn, xs, kd⟩, ks, num⟩ : TNode_)) (↑ks.length : Int) (21) false = I.node_kidsOk.l471 (some (⟨⟨21, xo, xt, xn, xs, kd⟩, ks, num⟩ : TNode_)) (↑ks.length : Int) (21) false := (I.node_kidsOk.l117_eq _ _ _ _).trans (by kernel_rfl)
 rw [h1]
 have h2 : I.node_kidsOk.l471 (some (⟨⟨21, xo, xt, xn, xs, kd⟩, ks, num⟩ : TNode_)) (↑ks.length : Int) (21) false = I.node_kidsOk.l1887 (some (⟨⟨21, xo, xt, xn, xs, kd⟩, ks, num⟩ : TNode_)) (↑ks.length : Int) (21) false := (I.node_kidsOk.l471_eq _ _ _ _).trans (by kernel_rfl)
 rw [h2]
 exact (I.node_kidsOk.l1887_eq _ _ _ _).trans (by kernel_rfl)
theorem uR_21  : R.l2Uses 21 =
 some (false, (false, (false, false))) := by
 have h0 : R.l2Uses 21 = R.l2Uses.l215 21 false := (R.l2Uses_eq _).trans (by kernel_rfl)
 rw [h0]
 have h1 : R.l2Uses.l215 21 false = R.l2Uses.l3455 21 false := (R.l2Uses.l215_eq _ _).trans (by kernel_rfl)
 rw [h1]
 exact (R.l2Uses.l3455_eq _ _).trans (by kernel_rfl)
theorem nR_21 : R.l2Named 21 = some false := (R.l2Named_eq _).trans (by kernel_rfl)
theorem fR_21 (xo xt xn : Int) (xs : ByteArray) (kd : Int) : R.l2Fields (⟨21, xo, xt, xn, xs, kd⟩) =
 bif xo != 0 then
 some false
 else
 bif xt != 0 then
 some false
 else
 bif xn != 0 then
 some false
 else
 bif !bEq xs ((⟨#[]⟩ : ByteArray)) then
 some false
 else
 some true := by
 rw [R.l2Fields_eq]
 simp only [uR_21, nR_21]
 kernel_rfl
theorem gR_21 (xo xt xn : Int) (xs : ByteArray) (kd : Int) (l : List Int) : R.l2Fits (⟨21, xo, xt, xn, xs, kd⟩) l =
 R.l2Fits.l989855716 l (↑l.length : Int) 0 := by
 have h0 : R.l2Fits (⟨21, xo, xt, xn, xs, kd⟩) l = R.l2Fits.l117 l (↑l.length : Int) 21 false (⟨21, xo, xt, xn, xs, kd⟩) := (R.l2Fits_eq _ _).trans (by kernel_rfl)
 rw [h0]
 have h1 : R.l2Fits.l117 l (↑l.length : Int) 21 false (⟨21, xo, xt, xn, xs, kd⟩) = R.l2Fits.l471 l (↑l.length : Int) 21 false (⟨21, xo, xt, xn, xs, kd⟩) := (R.l2Fits.l117_eq _ _ _ _ _).trans (by kernel_rfl)
 rw [h1]
 have h2 : R.l2Fits.l471 l (↑l.length : Int) 21 false (⟨21, xo, xt, xn, xs, kd⟩) = R.l2Fits.l1887 l (↑l.length : Int) 21 false (⟨21, xo, xt, xn, xs, kd⟩) := (R.l2Fits.l471_eq _ _ _ _ _).trans (by kernel_rfl)
 rw [h2]
 exact (R.l2Fits.l1887_eq _ _ _ _ _).trans (by kernel_rfl)
theorem fI_22 (xo xt xn : Int) (xs : ByteArray) (kd : Int) (ks : List (Option TNode_)) (num : Int) : I.node_fieldsOk (some (⟨⟨22, xo, xt, xn, xs, kd⟩, ks, num⟩ : TNode_)) =
 bif (xo == 0) then
 bif (xn == 0) then
 ((I.nameOk (xs))).bind fun (r0 : Bool) =>
 bif r0 then
 bif decide (xt ≥ 1) then
 some (decide (xt ≤ 10))
 else
 some false
 else
 some false
 else
 some false
 else
 some false := by
 have h0 : I.node_fieldsOk (some (⟨⟨22, xo, xt, xn, xs, kd⟩, ks, num⟩ : TNode_)) = I.node_fieldsOk.l7551 (some (⟨⟨22, xo, xt, xn, xs, kd⟩, ks, num⟩ : TNode_)) (xo == 0) (xt == 0) (xn == 0) (bEq xs ((⟨#[]⟩ : ByteArray))) (22) false := (I.node_fieldsOk_eq _).trans (by kernel_rfl)
 rw [h0]
 exact (I.node_fieldsOk.l7551_eq _ _ _ _ _ _ _).trans (by kernel_rfl)
theorem gI_22 (xo xt xn : Int) (xs : ByteArray) (kd : Int) (ks : List (Option TNode_)) (num : Int) : I.node_kidsOk (some (⟨⟨22, xo, xt, xn, xs, kd⟩, ks, num⟩ : TNode_)) =
 some ((↑ks.length : Int) == 0) := by
 have h0 : I.node_kidsOk (some (⟨⟨22, xo, xt, xn, xs, kd⟩, ks, num⟩ : TNode_)) = I.node_kidsOk.l117 (some (⟨⟨22, xo, xt, xn, xs, kd⟩, ks, num⟩ : TNode_)) (↑ks.length : Int) (22) true := (I.node_kidsOk_eq _).trans (by kernel_rfl)
 rw [h0]
 exact (I.node_kidsOk.l117_eq _ _ _ _).trans (by kernel_rfl)
theorem uR_22  : R.l2Uses 22 =
 some (false, (true, (false, true))) := by
 have h0 : R.l2Uses 22 = R.l2Uses.l215 22 false := (R.l2Uses_eq _).trans (by kernel_rfl)
 rw [h0]
 have h1 : R.l2Uses.l215 22 false = R.l2Uses.l3455 22 false := (R.l2Uses.l215_eq _ _).trans (by kernel_rfl)
 rw [h1]
 exact (R.l2Uses.l3455_eq _ _).trans (by kernel_rfl)
theorem nR_22 : R.l2Named 22 = some true := (R.l2Named_eq _).trans (by kernel_rfl)
theorem fR_22 (xo xt xn : Int) (xs : ByteArray) (kd : Int) : R.l2Fields (⟨22, xo, xt, xn, xs, kd⟩) =
 bif xo != 0 then
 some false
 else
 bif xn != 0 then
 some false
 else
 ((R.l1NameOk xs)).bind fun (r2 : Bool) =>
 bif !r2 then
 some false
 else
 bif decide (xt ≥ 1) then
 some (decide (xt ≤ 10))
 else
 some false := by
 rw [R.l2Fields_eq]
 simp only [uR_22, nR_22]
 kernel_rfl
theorem gR_22 (xo xt xn : Int) (xs : ByteArray) (kd : Int) (l : List Int) : R.l2Fits (⟨22, xo, xt, xn, xs, kd⟩) l =
 some ((↑l.length : Int) == 0) := by
 have h0 : R.l2Fits (⟨22, xo, xt, xn, xs, kd⟩) l = R.l2Fits.l117 l (↑l.length : Int) 22 true (⟨22, xo, xt, xn, xs, kd⟩) := (R.l2Fits_eq _ _).trans (by kernel_rfl)
 rw [h0]
 exact (R.l2Fits.l117_eq _ _ _ _ _).trans (by kernel_rfl)
theorem fI_23 (xo xt xn : Int) (xs : ByteArray) (kd : Int) (ks : List (Option TNode_)) (num : Int) : I.node_fieldsOk (some (⟨⟨23, xo, xt, xn, xs, kd⟩, ks, num⟩ : TNode_)) =
 bif (xo == 0) then
 bif (xn == 0) then
 ((I.nameOk (xs))).bind fun (r0 : Bool) =>
 bif r0 then
 bif decide (xt ≥ 0) then
 some (decide (xt ≤ 10))
 else
 some false
 else
 some false
 else
 some false
 else
 some false := by
 have h0 : I.node_fieldsOk (some (⟨⟨23, xo, xt, xn, xs, kd⟩, ks, num⟩ : TNode_)) = I.node_fieldsOk.l7551 (some (⟨⟨23, xo, xt, xn, xs, kd⟩, ks, num⟩ : TNode_)) (xo == 0) (xt == 0) (xn == 0) (bEq xs ((⟨#[]⟩ : ByteArray))) (23) false := (I.node_fieldsOk_eq _).trans (by kernel_rfl)
 rw [h0]
 exact (I.node_fieldsOk.l7551_eq _ _ _ _ _ _ _).trans (by kernel_rfl)
theorem gI_23 (xo xt xn : Int) (xs : ByteArray) (kd : Int) (ks : List (Option TNode_)) (num : Int) : I.node_kidsOk (some (⟨⟨23, xo, xt, xn, xs, kd⟩, ks, num⟩ : TNode_)) =
 bif decide ((↑ks.length : Int) < 1) then
 some false
 else
 bif decide ((↑ks.length : Int) > 9) then
 some false
 else
 bif inB (IntKind.i64.wrap ((↑ks.length : Int) - 1)) ks.length then
 bif Option.isSome (ks.getD (IntKind.i64.wrap ((↑ks.length : Int) - 1)).toNat none) then
 ((I.isBlock ((Option.getD (ks.getD (IntKind.i64.wrap ((↑ks.length : Int) - 1)).toNat none) TNode_.z).gNode.gKind))).bind fun (r0 : Bool) =>
 bif !r0 then
 some false
 else
 bif inS 0 (IntKind.i64.wrap ((↑ks.length : Int) - 1)) ks.length then
 I.node_kidsOk.l7918845908 (sub ks 0 (IntKind.i64.wrap ((↑ks.length : Int) - 1))) (↑(sub ks 0 (IntKind.i64.wrap ((↑ks.length : Int) - 1))).length : Int) 0
 else
 none
 else
 none
 else
 none := by
 have h0 : I.node_kidsOk (some (⟨⟨23, xo, xt, xn, xs, kd⟩, ks, num⟩ : TNode_)) = I.node_kidsOk.l117 (some (⟨⟨23, xo, xt, xn, xs, kd⟩, ks, num⟩ : TNode_)) (↑ks.length : Int) (23) false := (I.node_kidsOk_eq _).trans (by kernel_rfl)
 rw [h0]
 have h1 : I.node_kidsOk.l117 (some (⟨⟨23, xo, xt, xn, xs, kd⟩, ks, num⟩ : TNode_)) (↑ks.length : Int) (23) false = I.node_kidsOk.l471 (some (⟨⟨23, xo, xt, xn, xs, kd⟩, ks, num⟩ : TNode_)) (↑ks.length : Int) (23) false := (I.node_kidsOk.l117_eq _ _ _ _).trans (by kernel_rfl)
 rw [h1]
 have h2 : I.node_kidsOk.l471 (some (⟨⟨23, xo, xt, xn, xs, kd⟩, ks, num⟩ : TNode_)) (↑ks.length : Int) (23) false = I.node_kidsOk.l1887 (some (⟨⟨23, xo, xt, xn, xs, kd⟩, ks, num⟩ : TNode_)) (↑ks.length : Int) (23) false := (I.node_kidsOk.l471_eq _ _ _ _).trans (by kernel_rfl)
 rw [h2]
 exact (I.node_kidsOk.l1887_eq _ _ _ _).trans (by kernel_rfl)
theorem uR_23  : R.l2Uses 23 =
 some (false, (true, (false, true))) := by
 have h0 : R.l2Uses 23 = R.l2Uses.l215 23 false := (R.l2Uses_eq _).trans (by kernel_rfl)
 rw [h0]
 have h1 : R.l2Uses.l215 23 false = R.l2Uses.l3455 23 false := (R.l2Uses.l215_eq _ _).trans (by kernel_rfl)
 rw [h1]
 exact (R.l2Uses.l3455_eq _ _).trans (by kernel_rfl)
theorem nR_23 : R.l2Named 23 = some true := (R.l2Named_eq _).trans (by kernel_rfl)
theorem fR_23 (xo xt xn : Int) (xs : ByteArray) (kd : Int) : R.l2Fields (⟨23, xo, xt, xn, xs, kd⟩) =
 bif xo != 0 then
 some false
 else
 bif xn != 0 then
 some false
 else
 ((R.l1NameOk xs)).bind fun (r2 : Bool) =>
 bif !r2 then
 some false
 else
 bif decide (xt ≥ 0) then
 some (decide (xt ≤ 10))
 else
 some false := by
 rw [R.l2Fields_eq]
 simp only [uR_23, nR_23]
 kernel_rfl
theorem gR_23 (xo xt xn : Int) (xs : ByteArray) (kd : Int) (l : List Int) : R.l2Fits (⟨23, xo, xt, xn, xs, kd⟩) l =
 R.l2Fits.l3959422948 l (↑l.length : Int) 0 := by
 have h0 : R.l2Fits (⟨23, xo, xt, xn, xs, kd⟩) l = R.l2Fits.l117 l (↑l.length : Int) 23 false (⟨23, xo, xt, xn, xs, kd⟩) := (R.l2Fits_eq _ _).trans (by kernel_rfl)
 rw [h0]
 have h1 : R.l2Fits.l117 l (↑l.length : Int) 23 false (⟨23, xo, xt, xn, xs, kd⟩) = R.l2Fits.l471 l (↑l.length : Int) 23 false (⟨23, xo, xt, xn, xs, kd⟩) := (R.l2Fits.l117_eq _ _ _ _ _).trans (by kernel_rfl)
 rw [h1]
 have h2 : R.l2Fits.l471 l (↑l.length : Int) 23 false (⟨23, xo, xt, xn, xs, kd⟩) = R.l2Fits.l1887 l (↑l.length : Int) 23 false (⟨23, xo, xt, xn, xs, kd⟩) := (R.l2Fits.l471_eq _ _ _ _ _).trans (by kernel_rfl)
 rw [h2]
 exact (R.l2Fits.l1887_eq _ _ _ _ _).trans (by kernel_rfl)
theorem fI_24 (xo xt xn : Int) (xs : ByteArray) (kd : Int) (ks : List (Option TNode_)) (num : Int) : I.node_fieldsOk (some (⟨⟨24, xo, xt, xn, xs, kd⟩, ks, num⟩ : TNode_)) =
 bif (xo == 0) then
 bif (xt == 0) then
 bif (xn == 0) then
 some (bEq xs ((⟨#[]⟩ : ByteArray)))
 else
 some false
 else
 some false
 else
 some false := by
 have h0 : I.node_fieldsOk (some (⟨⟨24, xo, xt, xn, xs, kd⟩, ks, num⟩ : TNode_)) = I.node_fieldsOk.l7551 (some (⟨⟨24, xo, xt, xn, xs, kd⟩, ks, num⟩ : TNode_)) (xo == 0) (xt == 0) (xn == 0) (bEq xs ((⟨#[]⟩ : ByteArray))) (24) false := (I.node_fieldsOk_eq _).trans (by kernel_rfl)
 rw [h0]
 exact (I.node_fieldsOk.l7551_eq _ _ _ _ _ _ _).trans (by kernel_rfl)
theorem gI_24 (xo xt xn : Int) (xs : ByteArray) (kd : Int) (ks : List (Option TNode_)) (num : Int) : I.node_kidsOk (some (⟨⟨24, xo, xt, xn, xs, kd⟩, ks, num⟩ : TNode_)) =
 bif decide ((↑ks.length : Int) ≥ 1) then
 bif decide ((↑ks.length : Int) ≤ 60) then
 ((I.node_kinds_c64 (some (⟨⟨24, xo, xt, xn, xs, kd⟩, ks, num⟩ : TNode_)) 0)).bind fun (r0 : Bool) =>
 some r0
 else
 some false
 else
 some false := by
 have h0 : I.node_kidsOk (some (⟨⟨24, xo, xt, xn, xs, kd⟩, ks, num⟩ : TNode_)) = I.node_kidsOk.l117 (some (⟨⟨24, xo, xt, xn, xs, kd⟩, ks, num⟩ : TNode_)) (↑ks.length : Int) (24) false := (I.node_kidsOk_eq _).trans (by kernel_rfl)
 rw [h0]
 have h1 : I.node_kidsOk.l117 (some (⟨⟨24, xo, xt, xn, xs, kd⟩, ks, num⟩ : TNode_)) (↑ks.length : Int) (24) false = I.node_kidsOk.l471 (some (⟨⟨24, xo, xt, xn, xs, kd⟩, ks, num⟩ : TNode_)) (↑ks.length : Int) (24) false := (I.node_kidsOk.l117_eq _ _ _ _).trans (by kernel_rfl)
 rw [h1]
 have h2 : I.node_kidsOk.l471 (some (⟨⟨24, xo, xt, xn, xs, kd⟩, ks, num⟩ : TNode_)) (↑ks.length : Int) (24) false = I.node_kidsOk.l1887 (some (⟨⟨24, xo, xt, xn, xs, kd⟩, ks, num⟩ : TNode_)) (↑ks.length : Int) (24) false := (I.node_kidsOk.l471_eq _ _ _ _).trans (by kernel_rfl)
 rw [h2]
 exact (I.node_kidsOk.l1887_eq _ _ _ _).trans (by kernel_rfl)
theorem uR_24  : R.l2Uses 24 =
 some (false, (false, (false, false))) := by
 have h0 : R.l2Uses 24 = R.l2Uses.l215 24 false := (R.l2Uses_eq _).trans (by kernel_rfl)
 rw [h0]
 have h1 : R.l2Uses.l215 24 false = R.l2Uses.l3455 24 false := (R.l2Uses.l215_eq _ _).trans (by kernel_rfl)
 rw [h1]
 exact (R.l2Uses.l3455_eq _ _).trans (by kernel_rfl)
theorem nR_24 : R.l2Named 24 = some false := (R.l2Named_eq _).trans (by kernel_rfl)
theorem fR_24 (xo xt xn : Int) (xs : ByteArray) (kd : Int) : R.l2Fields (⟨24, xo, xt, xn, xs, kd⟩) =
 bif xo != 0 then
 some false
 else
 bif xt != 0 then
 some false
 else
 bif xn != 0 then
 some false
 else
 bif !bEq xs ((⟨#[]⟩ : ByteArray)) then
 some false
 else
 some true := by
 rw [R.l2Fields_eq]
 simp only [uR_24, nR_24]
 kernel_rfl
theorem gR_24 (xo xt xn : Int) (xs : ByteArray) (kd : Int) (l : List Int) : R.l2Fits (⟨24, xo, xt, xn, xs, kd⟩) l =
 R.l2Fits.l15837691876 l (↑l.length : Int) 0 := by
 have h0 : R.l2Fits (⟨24, xo, xt, xn, xs, kd⟩) l = R.l2Fits.l117 l (↑l.length : Int) 24 false (⟨24, xo, xt, xn, xs, kd⟩) := (R.l2Fits_eq _ _).trans (by kernel_rfl)
 rw [h0]
 have h1 : R.l2Fits.l117 l (↑l.length : Int) 24 false (⟨24, xo, xt, xn, xs, kd⟩) = R.l2Fits.l471 l (↑l.length : Int) 24 false (⟨24, xo, xt, xn, xs, kd⟩) := (R.l2Fits.l117_eq _ _ _ _ _).trans (by kernel_rfl)
 rw [h1]
 have h2 : R.l2Fits.l471 l (↑l.length : Int) 24 false (⟨24, xo, xt, xn, xs, kd⟩) = R.l2Fits.l1887 l (↑l.length : Int) 24 false (⟨24, xo, xt, xn, xs, kd⟩) := (R.l2Fits.l471_eq _ _ _ _ _).trans (by kernel_rfl)
 rw [h2]
 exact (R.l2Fits.l1887_eq _ _ _ _ _).trans (by kernel_rfl)
theorem bw_1  : R.l1BuiltWord 1 =
 some ((⟨#[114, 101, 97, 100]⟩ : ByteArray), 1) := by
 exact (R.l1BuiltWord_eq _).trans (by kernel_rfl)
theorem bw_2  : R.l1BuiltWord 2 =
 some ((⟨#[104, 97, 115]⟩ : ByteArray), 1) := by
 exact (R.l1BuiltWord_eq _).trans (by kernel_rfl)
theorem bw_3  : R.l1BuiltWord 3 =
 some ((⟨#[108, 105, 115, 116]⟩ : ByteArray), 1) := by
 exact (R.l1BuiltWord_eq _).trans (by kernel_rfl)
theorem bw_4  : R.l1BuiltWord 4 =
 some ((⟨#[116, 111, 111, 108]⟩ : ByteArray), 2) := by
 exact (R.l1BuiltWord_eq _).trans (by kernel_rfl)
theorem bw_5  : R.l1BuiltWord 5 =
 some ((⟨#[97, 114, 103]⟩ : ByteArray), 0) := by
 exact (R.l1BuiltWord_eq _).trans (by kernel_rfl)
theorem bw_6  : R.l1BuiltWord 6 =
 some ((⟨#[108, 101, 110]⟩ : ByteArray), 1) := by
 exact (R.l1BuiltWord_eq _).trans (by kernel_rfl)
theorem bw_7  : R.l1BuiltWord 7 =
 some ((⟨#[97, 116]⟩ : ByteArray), 2) := by
 exact (R.l1BuiltWord_eq _).trans (by kernel_rfl)
theorem bw_8  : R.l1BuiltWord 8 =
 some ((⟨#[99, 117, 116]⟩ : ByteArray), 3) := by
 exact (R.l1BuiltWord_eq _).trans (by kernel_rfl)
theorem bw_9  : R.l1BuiltWord 9 =
 some ((⟨#[102, 105, 110, 100]⟩ : ByteArray), 2) := by
 exact (R.l1BuiltWord_eq _).trans (by kernel_rfl)
theorem bw_10  : R.l1BuiltWord 10 =
 some ((⟨#[99, 104, 114]⟩ : ByteArray), 1) := by
 exact (R.l1BuiltWord_eq _).trans (by kernel_rfl)
theorem bw_11  : R.l1BuiltWord 11 =
 some ((⟨#[100, 101, 99]⟩ : ByteArray), 1) := by
 exact (R.l1BuiltWord_eq _).trans (by kernel_rfl)
theorem bw_12  : R.l1BuiltWord 12 =
 some ((⟨#[110, 117, 109]⟩ : ByteArray), 1) := by
 exact (R.l1BuiltWord_eq _).trans (by kernel_rfl)
end Go.KM.P1
