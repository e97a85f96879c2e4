/- Plain laws: the greatest number of a type. Conditions: none. -/
import Derived.Test.YtdhkmgloghlnnaaDoorTWords
import Derived.Test.YtdhkmgloghlnnaaDoorTBits
namespace Go.KM.T1
open Go Go.KM
open Go.KM.Fam (Dn dflt)
open Go.KM.Enc (cells sz mkE glob gany u8)
set_option autoImplicit false
set_option linter.unusedVariables false
set_option linter.unusedSimpArgs false
set_option maxRecDepth 100000
/-- the greatest number of a type -/
theorem max_run (n : Nat) (hn : n ≤ 64) : ∀ (m i : Nat), i + m = n → R.l1Max.l500 n (((2 ^ i - 1 : Nat)) : Int) i = some ((2 ^ n - 1 : Nat) : Int) := by
  intro m
  induction m with
  | zero =>
    intro i hi
    have : i = n := by omega
    subst this
    rw [R.l1Max.l500_eq, bif_f (ge_dec (Nat.le_refl _))]
  | succ m ih =>
    intro i hi
    have hp : (2 : Nat) ^ (i + 1) = 2 * 2 ^ i := by rw [Nat.pow_succ]; omega
    have hle : (2 : Nat) ^ (i + 1) ≤ 2 ^ 64 := Nat.pow_le_pow_right (by omega) (by omega)
    have h64 : (2 : Nat) ^ 64 = 18446744073709551616 := by decide
    have hpos : 1 ≤ (2 : Nat) ^ i := Nat.one_le_two_pow
    rw [R.l1Max.l500_eq, bif_t (lt_dec (k := i) (n := n) (by omega)), wi_succ (by omega)]
    have e : IntKind.u64.wrap (IntKind.u64.wrap (((2 ^ i - 1 : Nat) : Int) * 2) + 1) = ((2 ^ (i + 1) - 1 : Nat) : Int) := by
      rw [hp] at hle ⊢
      generalize (2 : Nat) ^ i = P at hle hpos ⊢
      rw [wu (n := ((P - 1 : Nat) : Int) * 2) (by omega) (by omega), wu (by omega) (by omega)]
      omega
    rw [e]
    exact ih (i + 1) (by omega)
def mxOf (t : Int) : Nat := if t = 3 then 255 else if t = 4 then 65535 else if t = 5 then 4294967295 else if t = 7 then 127 else if t = 8 then 32767 else if t = 9 then 2147483647 else if t = 10 then 9223372036854775807 else 18446744073709551615
theorem R_max (t : Int) (h3 : 3 ≤ t) (h10 : t ≤ 10) : R.l1Max t = some (mxOf t : Int) := by
  rw [R.l1Max_eq, R_bits, R_signed, Option.bind_some, Option.bind_some]
  have key : ∀ n : Nat, n ≤ 64 → R.l1Max.l500 n 0 0 = some ((2 ^ n - 1 : Nat) : Int) := fun n hn => max_run n hn n 0 (by omega)
  have : t = 3 ∨ t = 4 ∨ t = 5 ∨ t = 6 ∨ t = 7 ∨ t = 8 ∨ t = 9 ∨ t = 10 := by omega
  rcases this with rfl | rfl | rfl | rfl | rfl | rfl | rfl | rfl
  · exact key 8 (by omega)
  · exact key 16 (by omega)
  · exact key 32 (by omega)
  · exact key 64 (by omega)
  · exact key 7 (by omega)
  · exact key 15 (by omega)
  · exact key 31 (by omega)
  · exact key 63 (by omega)
theorem mx_le (t : Int) : mxOf t ≤ 18446744073709551615 := by
  unfold mxOf
  repeat' split
  all_goals omega
end Go.KM.T1
