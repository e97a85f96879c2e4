/- Plain laws: bits of a type: the program's and the reference's are the same. Conditions: none. -/
import Derived.Test.YtgjcobbngimleaaDoorSEq
import Derived.Test.YtgjcobbngimleaaDoorKmY
namespace Go.KM.S1
open Go Go.KM
open Go.KM.Fam (Dn dflt)
open Go.KM.Enc (cells sz mkE glob gany u8)
set_option autoImplicit false
set_option linter.unusedVariables false
set_option linter.unusedSimpArgs false
set_option maxRecDepth 100000

def ibits (t : Int) : Int := if t = 3 ∨ t = 7 then 8 else if t = 4 ∨ t = 8 then 16 else if t = 5 ∨ t = 9 then 32 else 64
theorem R_bits (t : Int) : R.l1Bits t = some (ibits t) := by
  rw [R.l1Bits_eq]
  unfold ibits
  by_cases h3 : t = 3
  · simp [h3, R.l1Bits.l53_eq]
  · by_cases h7 : t = 7
    · simp [h7, R.l1Bits.l53_eq]
    · by_cases h4 : t = 4
      · simp [h4, R.l1Bits.l53_eq, R.l1Bits.l215_eq]
      · by_cases h8 : t = 8
        · simp [h8, R.l1Bits.l53_eq, R.l1Bits.l215_eq]
        · by_cases h5 : t = 5
          · simp [h5, R.l1Bits.l53_eq, R.l1Bits.l215_eq]
          · by_cases h9 : t = 9 <;> simp [bif_if, h3, h7, h4, h8, h5, h9, R.l1Bits.l53_eq, R.l1Bits.l215_eq]
theorem I_bits (t : Int) : I.bits t = some (ibits t) := by
  rw [I.bits_eq]
  unfold ibits
  by_cases h3 : t = 3
  · simp [h3, I.bits.l53_eq]
  · by_cases h7 : t = 7
    · simp [h7, I.bits.l53_eq]
    · by_cases h4 : t = 4
      · simp [h4, I.bits.l53_eq, I.bits.l215_eq]
      · by_cases h8 : t = 8
        · simp [h8, I.bits.l53_eq, I.bits.l215_eq]
        · by_cases h5 : t = 5
          · simp [h5, I.bits.l53_eq, I.bits.l215_eq]
          · by_cases h9 : t = 9 <;> simp [bif_if, h3, h7, h4, h8, h5, h9, I.bits.l53_eq, I.bits.l215_eq]
theorem ibits_cases (t : Int) : ((t = 3 ∨ t = 7) ∧ ibits t = 8) ∨ ((t = 4 ∨ t = 8) ∧ ibits t = 16) ∨ ((t = 5 ∨ t = 9) ∧ ibits t = 32) ∨ ((t ≠ 3 ∧ t ≠ 7 ∧ t ≠ 4 ∧ t ≠ 8 ∧ t ≠ 5 ∧ t ≠ 9) ∧ ibits t = 64) := by
  unfold ibits
  repeat' split
  all_goals omega
theorem R_signed (t : Int) : R.l1Signed t = some (decide (7 ≤ t) && decide (t ≤ 10)) := by
  rw [R.l1Signed_eq]; by_cases h : 7 ≤ t <;> simp [h]
theorem I_signed (t : Int) : I.signed t = some (decide (7 ≤ t)) := by rw [I.signed_eq]
theorem R_integer (t : Int) : R.l1Integer t = some (decide (3 ≤ t) && decide (t ≤ 10)) := by
  rw [R.l1Integer_eq]; by_cases h : 3 ≤ t <;> simp [h]
theorem I_integer (t : Int) : I.integer t = some (decide (3 ≤ t) && decide (t ≤ 10)) := by
  rw [I.integer_eq]; by_cases h : 3 ≤ t <;> simp [h]

end Go.KM.S1
