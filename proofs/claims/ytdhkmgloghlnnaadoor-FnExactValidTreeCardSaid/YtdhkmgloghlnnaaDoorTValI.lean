/- Plain laws: bits of a type, valid values: the program's. Conditions: none. -/
import Derived.Test.YtdhkmgloghlnnaaDoorTBits
import Derived.Test.YtdhkmgloghlnnaaDoorKmY
namespace Go.KM.T1
open Go Go.KM
open Go.KM.Fam (Dn dflt)
open Go.KM.Enc (cells sz mkE glob gany u8)
set_option autoImplicit false
set_option linter.unusedVariables false
set_option linter.unusedSimpArgs false
set_option maxRecDepth 100000

/-- the lowest bits of x as a number of type t -/
def into (t x : Int) : Int :=
  if t = 3 then x % 256 else if t = 4 then x % 65536 else if t = 5 then x % 4294967296
  else if t = 7 then (x + 128) % 256 - 128 else if t = 8 then (x + 32768) % 65536 - 32768 else if t = 9 then (x + 2147483648) % 4294967296 - 2147483648 else IntKind.i64.wrap x
theorem I_into (t x : Int) (h : U64 x) : I.into x t = some (into t x) := by
  have e8 := mask8 h
  have e16 := mask16 h
  have e32 := mask32 h
  obtain ⟨h0, h1⟩ := h
  have j8 := join8 (y := x % 256) (by omega) (by omega)
  have j16 := join16 (y := x % 65536) (by omega) (by omega)
  have j32 := join32 (y := x % 4294967296) (by omega) (by omega)
  have w7 : IntKind.u64.wrap (8 - 1) = 7 := by decide
  have w15 : IntKind.u64.wrap (16 - 1) = 15 := by decide
  have w31 : IntKind.u64.wrap (32 - 1) = 31 := by decide
  have wm8 : IntKind.u64.wrap (256 - 1) = 255 := by decide
  have wm16 : IntKind.u64.wrap (65536 - 1) = 65535 := by decide
  have wm32 : IntKind.u64.wrap (4294967296 - 1) = 4294967295 := by decide
  rw [I.into_eq, I_bits]
  simp only [Option.bind_some, I_signed]
  rcases ibits_cases t with ⟨ht, hb⟩ | ⟨ht, hb⟩ | ⟨ht, hb⟩ | ⟨ht, hb⟩
  · rw [hb]
    simp only [sh8, wm8, e8, w7, sr7, shf8, j8]
    rcases ht with rfl | rfl
    · simp [into]; rw [wi] <;> omega
    · simp [into]
      by_cases hh : x % 256 / 128 = 1
      · simp [bif_if, hh, wu_eq, IntKind.wrap_i64]; omega
      · simp [bif_if, hh, wu_eq, IntKind.wrap_i64]; omega
  · rw [hb]
    simp only [sh16, wm16, e16, w15, sr15, shf16, j16]
    rcases ht with rfl | rfl
    · simp [into]; rw [wi] <;> omega
    · simp [into]
      by_cases hh : x % 65536 / 32768 = 1
      · simp [bif_if, hh, wu_eq, IntKind.wrap_i64]; omega
      · simp [bif_if, hh, wu_eq, IntKind.wrap_i64]; omega
  · rw [hb]
    simp only [sh32, wm32, e32, w31, sr31, shf32, j32]
    rcases ht with rfl | rfl
    · simp [into]; rw [wi] <;> omega
    · simp [into]
      by_cases hh : x % 4294967296 / 2147483648 = 1
      · simp [bif_if, hh, wu_eq, IntKind.wrap_i64]; omega
      · simp [bif_if, hh, wu_eq, IntKind.wrap_i64]; omega
  · rw [hb]
    obtain ⟨a, b, c, d, e, f⟩ := ht
    simp [into, a, b, c, d, e, f]

/-- what both say of a value -/
def valid (v : TValue) : Bool :=
  if v.gType = 1 then (decide (v.gN = 0) || decide (v.gN = 1)) && decide (v.gText = ⟨#[]⟩)
  else if v.gType = 2 then decide (v.gN = 0) && decide ((v.gText.size : Int) ≤ 3000)
  else decide (3 ≤ v.gType) && decide (v.gType ≤ 10) && decide (v.gText = ⟨#[]⟩) && decide (v.gN = into v.gType (IntKind.u64.wrap v.gN))
theorem I_valid (v : TValue) : I.ValidValue v = some (valid v) := by
  obtain ⟨t, n, s⟩ := v
  rw [I.ValidValue_eq]
  unfold valid
  simp only [bEq_dec, I_integer, Option.bind_some, I_into _ _ (u64_wrap n)]
  by_cases h1 : t = 1
  · by_cases a : n = 0 <;> by_cases b : n = 1 <;> simp [bif_if, h1, a, b]
  · by_cases h2 : t = 2
    · by_cases a : n = 0 <;> simp [bif_if, h2, a]
    · by_cases a : 3 ≤ t <;> by_cases b : t ≤ 10 <;> by_cases c : s = ⟨#[]⟩ <;> simp [bif_if, h1, h2, a, b, c]
      rw [Bool.eq_iff_iff]; simp only [beq_iff_eq, decide_eq_true_eq]; exact eq_comm
end Go.KM.T1
