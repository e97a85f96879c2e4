/- The program's and the reference's 'into' and 'ValidValue' are the same. No conditions. -/
import Derived.Test.YtajlomhnednghaaArith
import Derived.Test.YtajlomhnednghaaRx7
import Derived.Test.YtajlomhnednghaaRx12
namespace Go.Proofs.Ytajlomhnednghaa.R
open Go.RowKit Go.Proofs.YtajlomhnednghaaW.PrintWords Go.Proofs.YtajlomhnednghaaW.PrintLast Go.Proofs.YtajlomhnednghaaW.PrintMore Go.Proofs.Ytajlomhnednghaa.Arith
set_option linter.unusedVariables false
set_option linter.unusedSimpArgs false

theorem specBits (k : Nat) (t : Int) : spec_l1Bits.f (k + 2) t = some (ibits t) := by
  unfold spec_l1Bits.f ibits
  by_cases h3 : t = 3 <;> by_cases h7 : t = 7 <;> by_cases h4 : t = 4 <;> by_cases h8 : t = 8 <;> by_cases h5 : t = 5 <;> by_cases h9 : t = 9 <;>
    first | omega | simp [spec_l1Bits.j0, spec_l1Bits.j1, h3, h7, h4, h8, h5, h9]
theorem implBits (k : Nat) (t : Int) : impl_bits.f (k + 2) t = some (ibits t) := by
  unfold impl_bits.f ibits
  by_cases h3 : t = 3 <;> by_cases h7 : t = 7 <;> by_cases h4 : t = 4 <;> by_cases h8 : t = 8 <;> by_cases h5 : t = 5 <;> by_cases h9 : t = 9 <;>
    first | omega | simp [impl_bits.j0, impl_bits.j1, h3, h7, h4, h8, h5, h9]
theorem ibits_cases (t : Int) : ((t = 3 ∨ t = 7) ∧ ibits t = 8) ∨ ((t = 4 ∨ t = 8) ∧ ibits t = 16) ∨ ((t = 5 ∨ t = 9) ∧ ibits t = 32) ∨ ((t ≠ 3 ∧ t ≠ 7 ∧ t ≠ 4 ∧ t ≠ 8 ∧ t ≠ 5 ∧ t ≠ 9) ∧ ibits t = 64) := by
  unfold ibits
  repeat' split
  all_goals omega
theorem sh8 : shl .u64 1 8 = 256 := by decide
theorem sh16 : shl .u64 1 16 = 65536 := by decide
theorem sh32 : shl .u64 1 32 = 4294967296 := by decide
theorem shf8 : shl .u64 18446744073709551615 8 = 18446744073709551360 := by decide
theorem shf16 : shl .u64 18446744073709551615 16 = 18446744073709486080 := by decide
theorem shf32 : shl .u64 18446744073709551615 32 = 18446744069414584320 := by decide
theorem sr7 (x : Int) : shr .u64 x 7 = x / 128 := by unfold shr; rfl
theorem sr15 (x : Int) : shr .u64 x 15 = x / 32768 := by unfold shr; rfl
theorem sr31 (x : Int) : shr .u64 x 31 = x / 2147483648 := by unfold shr; rfl
theorem w8 : IntKind.u64.wrap 8 = 8 := by decide
theorem w16 : IntKind.u64.wrap 16 = 16 := by decide
theorem w32 : IntKind.u64.wrap 32 = 32 := by decide
theorem wm8 : IntKind.u64.wrap (256 - 1) = 255 := by decide
theorem wm16 : IntKind.u64.wrap (65536 - 1) = 65535 := by decide
theorem wm32 : IntKind.u64.wrap (4294967296 - 1) = 4294967295 := by decide
theorem w7 : IntKind.u64.wrap (8 - 1) = 7 := by decide
theorem w15 : IntKind.u64.wrap (16 - 1) = 15 := by decide
theorem w31 : IntKind.u64.wrap (32 - 1) = 31 := by decide
theorem wh8 : IntKind.u64.wrap (256 / 2) = 128 := by decide
theorem wh16 : IntKind.u64.wrap (65536 / 2) = 32768 := by decide
theorem wh32 : IntKind.u64.wrap (4294967296 / 2) = 2147483648 := by decide

theorem specInto (k : Nat) (t x : Int) (h0 : 0 ≤ x) (h1 : x < 18446744073709551616) : spec_l4Into.f (k + 2) t x = some (into t x) := by
  have e8 : Int.tmod x 256 = x % 256 := Int.tmod_eq_emod_of_nonneg h0
  have e16 : Int.tmod x 65536 = x % 65536 := Int.tmod_eq_emod_of_nonneg h0
  have e32 : Int.tmod x 4294967296 = x % 4294967296 := Int.tmod_eq_emod_of_nonneg h0
  unfold spec_l4Into.f
  rw [specBits]
  rcases ibits_cases t with ⟨ht, hb⟩ | ⟨ht, hb⟩ | ⟨ht, hb⟩ | ⟨ht, hb⟩
  · rw [hb]
    rcases ht with rfl | rfl
    · simp [spec_l1Signed.f, into, w8, sh8, e8, wrap64]; omega
    · simp [spec_l1Signed.f, into, w8, sh8, e8, wh8]
      split <;> simp [wrap64, wrap_u64] <;> omega
  · rw [hb]
    rcases ht with rfl | rfl
    · simp [spec_l1Signed.f, into, w16, sh16, e16, wrap64]; omega
    · simp [spec_l1Signed.f, into, w16, sh16, e16, wh16]
      split <;> simp [wrap64, wrap_u64] <;> omega
  · rw [hb]
    rcases ht with rfl | rfl
    · simp [spec_l1Signed.f, into, w32, sh32, e32, wrap64]; omega
    · simp [spec_l1Signed.f, into, w32, sh32, e32, wh32]
      split <;> simp [wrap64, wrap_u64] <;> omega
  · rw [hb]
    obtain ⟨a, b, c, d, e, f⟩ := ht
    simp [into, a, b, c, d, e, f]

theorem implInto (k : Nat) (t x : Int) (h0 : 0 ≤ x) (h1 : x < 18446744073709551616) : impl_into.f (k + 2) x t = some (into t x) := by
  have e8 := mask8 x h0 h1
  have e16 := mask16 x h0 h1
  have e32 := mask32 x h0 h1
  have j8 := join8 (x % 256) (by omega) (by omega)
  have j16 := join16 (x % 65536) (by omega) (by omega)
  have j32 := join32 (x % 4294967296) (by omega) (by omega)
  unfold impl_into.f
  rw [implBits]
  rcases ibits_cases t with ⟨ht, hb⟩ | ⟨ht, hb⟩ | ⟨ht, hb⟩ | ⟨ht, hb⟩
  · rw [hb]
    simp only [Option.bind_some, sh8, wm8, e8, w7, sr7, shf8, j8]
    rcases ht with rfl | rfl
    · simp [impl_signed.f, into, wrap64]; omega
    · simp [impl_signed.f, into, wrap64]
      split <;> simp <;> omega
  · rw [hb]
    simp only [Option.bind_some, sh16, wm16, e16, w15, sr15, shf16, j16]
    rcases ht with rfl | rfl
    · simp [impl_signed.f, into, wrap64]; omega
    · simp [impl_signed.f, into, wrap64]
      split <;> simp <;> omega
  · rw [hb]
    simp only [Option.bind_some, sh32, wm32, e32, w31, sr31, shf32, j32]
    rcases ht with rfl | rfl
    · simp [impl_signed.f, into, wrap64]; omega
    · simp [impl_signed.f, into, wrap64]
      split <;> simp <;> omega
  · rw [hb]
    obtain ⟨a, b, c, d, e, f⟩ := ht
    simp [into, a, b, c, d, e, f]

theorem u64_range (n : Int) : 0 ≤ IntKind.u64.wrap n ∧ IntKind.u64.wrap n < 18446744073709551616 := by rw [wrap_u64]; omega

/-- What both say of a value. -/
def valid (t n : Int) (s : ByteArray) : Bool :=
  if t = 1 then (decide (n = 0) || decide (n = 1)) && (s.toList == ([] : List UInt8))
  else if t = 2 then decide (n = 0) && decide ((s.size : Int) ≤ 3000)
  else decide (3 ≤ t) && decide (t ≤ 10) && (s.toList == ([] : List UInt8)) && (n == into t (IntKind.u64.wrap n))
theorem specValid (k : Nat) (t n : Int) (s : ByteArray) : spec_ValidValue.f (k + 2) t n s = some (valid t n s) := by
  have h := u64_range n
  unfold spec_ValidValue.f valid
  by_cases h1 : t = 1
  · simp only [h1, if_true]
    by_cases a : n = 0 <;> by_cases b : n = 1 <;> simp [a, b]
  · by_cases h2 : t = 2
    · simp only [h2]
      by_cases a : n = 0 <;> simp [a]
    · simp only [h1, h2, if_false, spec_l1Integer.f]
      by_cases a : 3 ≤ t <;> by_cases b : t ≤ 10 <;> by_cases c : s.toList = ([] : List UInt8) <;> simp [a, b, c, specInto k t _ h.1 h.2]
theorem implValid (k : Nat) (t n : Int) (s : ByteArray) : impl_ValidValue.f (k + 2) t n s = some (valid t n s) := by
  have h := u64_range n
  unfold impl_ValidValue.f valid
  by_cases h1 : t = 1
  · simp only [h1, if_true]
    by_cases a : n = 0 <;> by_cases b : n = 1 <;> simp [a, b]
  · by_cases h2 : t = 2
    · simp only [h2]
      by_cases a : n = 0 <;> simp [a]
    · simp only [h1, h2, if_false, impl_integer.f]
      by_cases a : 3 ≤ t <;> by_cases b : t ≤ 10 <;> by_cases c : s.toList = ([] : List UInt8) <;> simp [a, b, c, implInto k t _ h.1 h.2]
      rw [Bool.eq_iff_iff]; simp only [beq_iff_eq]; exact eq_comm
end Go.Proofs.Ytajlomhnednghaa.R
