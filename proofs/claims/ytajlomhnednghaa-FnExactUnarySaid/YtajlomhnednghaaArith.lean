/- Plain arithmetic: bits of an integer type, taken into a type. No conditions. -/
import Derived.Test.YtajlomhnednghaaWMore
import Derived.Laws.BitsLemmas
namespace Go.Proofs.Ytajlomhnednghaa.Arith
open Go.RowKit Go.Proofs.YtajlomhnednghaaW.PrintWords Go.Proofs.YtajlomhnednghaaW.PrintLast Go.Proofs.YtajlomhnednghaaW.PrintMore
set_option linter.unusedVariables false

theorem wrap_u64 (n : Int) : IntKind.u64.wrap n = n % 18446744073709551616 := by simp [IntKind.wrap, IntKind.bits, IntKind.signed]
theorem wraps_u64 (n : Int) (h0 : 0 ≤ n) (h1 : n < 2 ^ 64) : IntKind.u64.wrap n = n := by rw [wrap_u64]; omega

def ibits (t : Int) : Int := if t = 3 ∨ t = 7 then 8 else if t = 4 ∨ t = 8 then 16 else if t = 5 ∨ t = 9 then 32 else 64
/-- The lowest bits of x as a number of type t. -/
def into (t x : Int) : Int :=
  if t = 3 then x % 256 else if t = 4 then x % 65536 else if t = 5 then x % 4294967296
  else if t = 7 then (x + 128) % 256 - 128 else if t = 8 then (x + 32768) % 65536 - 32768 else if t = 9 then (x + 2147483648) % 4294967296 - 2147483648 else wrap64 x

theorem mask8 (x : Int) (h0 : 0 ≤ x) (h1 : x < 18446744073709551616) : Go.bits .and .u64 x 255 = x % 256 := bits_mask .u64 64 (by decide) wraps_u64 8 (by decide) x h0 h1
theorem mask16 (x : Int) (h0 : 0 ≤ x) (h1 : x < 18446744073709551616) : Go.bits .and .u64 x 65535 = x % 65536 := bits_mask .u64 64 (by decide) wraps_u64 16 (by decide) x h0 h1
theorem mask32 (x : Int) (h0 : 0 ≤ x) (h1 : x < 18446744073709551616) : Go.bits .and .u64 x 4294967295 = x % 4294967296 := bits_mask .u64 64 (by decide) wraps_u64 32 (by decide) x h0 h1
theorem bits_or_comm (x y : Int) : Go.bits .or .u64 x y = Go.bits .or .u64 y x := by
  simp only [Go.bits, BitVec.or_comm]
theorem join8 (y : Int) (h0 : 0 ≤ y) (h1 : y < 256) : Go.bits .or .u64 y 18446744073709551360 = 18446744073709551360 + y := by
  rw [bits_or_comm]; exact bits_join .u64 64 (by decide) wraps_u64 8 _ y (by decide) (by decide) (by decide) h0 h1 (by omega)
theorem join16 (y : Int) (h0 : 0 ≤ y) (h1 : y < 65536) : Go.bits .or .u64 y 18446744073709486080 = 18446744073709486080 + y := by
  rw [bits_or_comm]; exact bits_join .u64 64 (by decide) wraps_u64 16 _ y (by decide) (by decide) (by decide) h0 h1 (by omega)
theorem join32 (y : Int) (h0 : 0 ≤ y) (h1 : y < 4294967296) : Go.bits .or .u64 y 18446744069414584320 = 18446744069414584320 + y := by
  rw [bits_or_comm]; exact bits_join .u64 64 (by decide) wraps_u64 32 _ y (by decide) (by decide) (by decide) h0 h1 (by omega)
end Go.Proofs.Ytajlomhnednghaa.Arith
