/- Plain laws: bits of a type, valid values: the program's and the reference's are the same. Conditions: none. -/
import Derived.Test.YtgjcobbngimleaaDoorVEq
import Derived.Test.YtgjcobbngimleaaDoorKmY
namespace Go.KM.V1
open Go Go.KM
open Go.KM.Fam (Dn dflt)
open Go.KM.Enc (cells sz mkE glob gany u8)
set_option autoImplicit false
set_option linter.unusedVariables false
set_option linter.unusedSimpArgs false
set_option maxRecDepth 100000

def ibits (t : Int) : Int := if t = 3 ∨ t = 7 then 8 else if t = 4 ∨ t = 8 then 16 else if t = 5 ∨ t = 9 then 32 else 64
/-- the lowest bits of x as a number of type t -/
def into (t x : Int) : Int :=
  if t = 3 then x % 256 else if t = 4 then x % 65536 else if t = 5 then x % 4294967296
  else if t = 7 then (x + 128) % 256 - 128 else if t = 8 then (x + 32768) % 65536 - 32768 else if t = 9 then (x + 2147483648) % 4294967296 - 2147483648 else IntKind.i64.wrap x
theorem R_bits (t : Int) : R.l1Bits t = some (ibits t) := by
  rw [R.l1Bits_eq]
  unfold ibits
  by_cases h3 : t = 3
  · simp [h3, R.l1Bits.l53_eq]
  · by_cases h7 : t = 7
    · simp [h7, R.l1Bits.l53_eq]
    · by_cases h4 : t = 4
      · simp [h4, R.l1Bits.l53_eq, R.l1Bits.l215_eq]
      · by_cases h8 : t = 8
        · simp [h8, R.l1Bits.l53_eq, R.l1Bits.l215_eq]
        · by_cases h5 : t = 5
          · simp [h5, R.l1Bits.l53_eq, R.l1Bits.l215_eq]
          · by_cases h9 : t = 9 <;> simp [bif_if, h3, h7, h4, h8, h5, h9, R.l1Bits.l53_eq, R.l1Bits.l215_eq]
theorem I_bits (t : Int) : I.bits t = some (ibits t) := by
  rw [I.bits_eq]
  unfold ibits
  by_cases h3 : t = 3
  · simp [h3, I.bits.l53_eq]
  · by_cases h7 : t = 7
    · simp [h7, I.bits.l53_eq]
    · by_cases h4 : t = 4
      · simp [h4, I.bits.l53_eq, I.bits.l215_eq]
      · by_cases h8 : t = 8
        · simp [h8, I.bits.l53_eq, I.bits.l215_eq]
        · by_cases h5 : t = 5
          · simp [h5, I.bits.l53_eq, I.bits.l215_eq]
          · by_cases h9 : t = 9 <;> simp [bif_if, h3, h7, h4, h8, h5, h9, I.bits.l53_eq, I.bits.l215_eq]
theorem ibits_cases (t : Int) : ((t = 3 ∨ t = 7) ∧ ibits t = 8) ∨ ((t = 4 ∨ t = 8) ∧ ibits t = 16) ∨ ((t = 5 ∨ t = 9) ∧ ibits t = 32) ∨ ((t ≠ 3 ∧ t ≠ 7 ∧ t ≠ 4 ∧ t ≠ 8 ∧ t ≠ 5 ∧ t ≠ 9) ∧ ibits t = 64) := by
  unfold ibits
  repeat' split
  all_goals omega
theorem R_signed (t : Int) : R.l1Signed t = some (decide (7 ≤ t) && decide (t ≤ 10)) := by
  rw [R.l1Signed_eq]; by_cases h : 7 ≤ t <;> simp [h]
theorem I_signed (t : Int) : I.signed t = some (decide (7 ≤ t)) := by rw [I.signed_eq]
theorem R_integer (t : Int) : R.l1Integer t = some (decide (3 ≤ t) && decide (t ≤ 10)) := by
  rw [R.l1Integer_eq]; by_cases h : 3 ≤ t <;> simp [h]
theorem I_integer (t : Int) : I.integer t = some (decide (3 ≤ t) && decide (t ≤ 10)) := by
  rw [I.integer_eq]; by_cases h : 3 ≤ t <;> simp [h]

theorem R_into (t x : Int) (h : U64 x) : R.l4Into t x = some (into t x) := by
  obtain ⟨h0, h1⟩ := h
  have e8 : Int.tmod x 256 = x % 256 := Int.tmod_eq_emod_of_nonneg h0
  have e16 : Int.tmod x 65536 = x % 65536 := Int.tmod_eq_emod_of_nonneg h0
  have e32 : Int.tmod x 4294967296 = x % 4294967296 := Int.tmod_eq_emod_of_nonneg h0
  have w8 : IntKind.u64.wrap 8 = 8 := by decide
  have w16 : IntKind.u64.wrap 16 = 16 := by decide
  have w32 : IntKind.u64.wrap 32 = 32 := by decide
  have wh8 : IntKind.u64.wrap (Int.tdiv 256 2) = 128 := by decide
  have wh16 : IntKind.u64.wrap (Int.tdiv 65536 2) = 32768 := by decide
  have wh32 : IntKind.u64.wrap (Int.tdiv 4294967296 2) = 2147483648 := by decide
  rw [R.l4Into_eq, R_bits]
  simp only [Option.bind_some, R_signed]
  rcases ibits_cases t with ⟨ht, hb⟩ | ⟨ht, hb⟩ | ⟨ht, hb⟩ | ⟨ht, hb⟩
  · rw [hb]
    rcases ht with rfl | rfl
    · simp [into, w8, sh8, e8]; rw [wi] <;> omega
    · simp [into, w8, sh8, e8, wh8]
      by_cases hh : 128 ≤ x % 256
      · simp [hh, wu_eq, IntKind.wrap_i64]; omega
      · simp [bif_if, hh, wu_eq, IntKind.wrap_i64]; omega
  · rw [hb]
    rcases ht with rfl | rfl
    · simp [into, w16, sh16, e16]; rw [wi] <;> omega
    · simp [into, w16, sh16, e16, wh16]
      by_cases hh : 32768 ≤ x % 65536
      · simp [hh, wu_eq, IntKind.wrap_i64]; omega
      · simp [bif_if, hh, wu_eq, IntKind.wrap_i64]; omega
  · rw [hb]
    rcases ht with rfl | rfl
    · simp [into, w32, sh32, e32]; rw [wi] <;> omega
    · simp [into, w32, sh32, e32, wh32]
      by_cases hh : 2147483648 ≤ x % 4294967296
      · simp [hh, wu_eq, IntKind.wrap_i64]; omega
      · simp [bif_if, hh, wu_eq, IntKind.wrap_i64]; omega
  · rw [hb]
    obtain ⟨a, b, c, d, e, f⟩ := ht
    simp [into, a, b, c, d, e, f]
theorem I_into (t x : Int) (h : U64 x) : I.into x t = some (into t x) := by
  have e8 := mask8 h
  have e16 := mask16 h
  have e32 := mask32 h
  obtain ⟨h0, h1⟩ := h
  have j8 := join8 (y := x % 256) (by omega) (by omega)
  have j16 := join16 (y := x % 65536) (by omega) (by omega)
  have j32 := join32 (y := x % 4294967296) (by omega) (by omega)
  have w7 : IntKind.u64.wrap (8 - 1) = 7 := by decide
  have w15 : IntKind.u64.wrap (16 - 1) = 15 := by decide
  have w31 : IntKind.u64.wrap (32 - 1) = 31 := by decide
  have wm8 : IntKind.u64.wrap (256 - 1) = 255 := by decide
  have wm16 : IntKind.u64.wrap (65536 - 1) = 65535 := by decide
  have wm32 : IntKind.u64.wrap (4294967296 - 1) = 4294967295 := by decide
  rw [I.into_eq, I_bits]
  simp only [Option.bind_some, I_signed]
  rcases ibits_cases t with ⟨ht, hb⟩ | ⟨ht, hb⟩ | ⟨ht, hb⟩ | ⟨ht, hb⟩
  · rw [hb]
    simp only [sh8, wm8, e8, w7, sr7, shf8, j8]
    rcases ht with rfl | rfl
    · simp [into]; rw [wi] <;> omega
    · simp [into]
      by_cases hh : x % 256 / 128 = 1
      · simp [bif_if, hh, wu_eq, IntKind.wrap_i64]; omega
      · simp [bif_if, hh, wu_eq, IntKind.wrap_i64]; omega
  · rw [hb]
    simp only [sh16, wm16, e16, w15, sr15, shf16, j16]
    rcases ht with rfl | rfl
    · simp [into]; rw [wi] <;> omega
    · simp [into]
      by_cases hh : x % 65536 / 32768 = 1
      · simp [bif_if, hh, wu_eq, IntKind.wrap_i64]; omega
      · simp [bif_if, hh, wu_eq, IntKind.wrap_i64]; omega
  · rw [hb]
    simp only [sh32, wm32, e32, w31, sr31, shf32, j32]
    rcases ht with rfl | rfl
    · simp [into]; rw [wi] <;> omega
    · simp [into]
      by_cases hh : x % 4294967296 / 2147483648 = 1
      · simp [bif_if, hh, wu_eq, IntKind.wrap_i64]; omega
      · simp [bif_if, hh, wu_eq, IntKind.wrap_i64]; omega
  · rw [hb]
    obtain ⟨a, b, c, d, e, f⟩ := ht
    simp [into, a, b, c, d, e, f]

/-- what both say of a value -/
def valid (v : TValue) : Bool :=
  if v.gType = 1 then (decide (v.gN = 0) || decide (v.gN = 1)) && decide (v.gText = ⟨#[]⟩)
  else if v.gType = 2 then decide (v.gN = 0) && decide ((v.gText.size : Int) ≤ 3000)
  else decide (3 ≤ v.gType) && decide (v.gType ≤ 10) && decide (v.gText = ⟨#[]⟩) && decide (v.gN = into v.gType (IntKind.u64.wrap v.gN))
theorem R_valid (v : TValue) : R.ValidValue v = some (valid v) := by
  obtain ⟨t, n, s⟩ := v
  rw [R.ValidValue_eq]
  unfold valid
  simp only [bEq_dec, R_integer, Option.bind_some, R_into _ _ (u64_wrap n)]
  by_cases h1 : t = 1
  · by_cases a : n = 0 <;> by_cases b : n = 1 <;> simp [bif_if, h1, a, b]
  · by_cases h2 : t = 2
    · by_cases a : n = 0 <;> simp [bif_if, h2, a]
    · by_cases a : 3 ≤ t <;> by_cases b : t ≤ 10 <;> by_cases c : s = ⟨#[]⟩ <;> simp [bif_if, h1, h2, a, b, c]
      rw [Bool.eq_iff_iff]; simp
theorem I_valid (v : TValue) : I.ValidValue v = some (valid v) := by
  obtain ⟨t, n, s⟩ := v
  rw [I.ValidValue_eq]
  unfold valid
  simp only [bEq_dec, I_integer, Option.bind_some, I_into _ _ (u64_wrap n)]
  by_cases h1 : t = 1
  · by_cases a : n = 0 <;> by_cases b : n = 1 <;> simp [bif_if, h1, a, b]
  · by_cases h2 : t = 2
    · by_cases a : n = 0 <;> simp [bif_if, h2, a]
    · by_cases a : 3 ≤ t <;> by_cases b : t ≤ 10 <;> by_cases c : s = ⟨#[]⟩ <;> simp [bif_if, h1, h2, a, b, c]
      rw [Bool.eq_iff_iff]; simp only [beq_iff_eq, decide_eq_true_eq]; exact eq_comm
end Go.KM.V1
