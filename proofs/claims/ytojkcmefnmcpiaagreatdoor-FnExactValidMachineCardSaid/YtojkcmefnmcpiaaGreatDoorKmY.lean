/- Plain words for what the machine computes: numbers, bytes, lists. Conditions: none. -/
import Derived.Test.YtojkcmefnmcpiaaGreatDoorKmX
import Derived.Laws.BitsLemmas
namespace Go.KM
open Go
open Fam (Dn dflt)
open Enc (cells sz mkE glob gany u8)
set_option autoImplicit false
set_option linter.unusedVariables false
set_option linter.unusedSimpArgs false
def U64 (n : Int) : Prop := 0 ≤ n ∧ n < 18446744073709551616
theorem wi {n : Int} (h0 : -9223372036854775808 ≤ n) (h1 : n < 9223372036854775808) : IntKind.i64.wrap n = n := by rw [IntKind.wrap_i64]; omega
theorem wu {n : Int} (h0 : 0 ≤ n) (h1 : n < 18446744073709551616) : IntKind.u64.wrap n = n := by simp [IntKind.wrap, IntKind.bits, IntKind.signed]; omega
theorem wu_eq (n : Int) : IntKind.u64.wrap n = n % 18446744073709551616 := by simp [IntKind.wrap, IntKind.bits, IntKind.signed]
theorem u64_wrap (n : Int) : U64 (IntKind.u64.wrap n) := by rw [wu_eq]; constructor <;> omega
theorem wi_succ {k : Nat} (h : k < 9223372036854775807) : IntKind.i64.wrap ((k : Int) + 1) = ((k + 1 : Nat) : Int) := by
 rw [wi (by omega) (by omega)]; omega
theorem inB_iff {i : Int} {n : Nat} : inB i n = true ↔ 0 ≤ i ∧ i < n := by simp [inB]
theorem inB_nat {k n : Nat} (h : k < n) : inB (k : Int) n = true := by simp [inB]; omega
theorem inS_iff {l h : Int} {n : Nat} : inS l h n = true ↔ 0 ≤ l ∧ l ≤ h ∧ h ≤ n := by
 simp only [inS, Bool.and_eq_true, decide_eq_true_eq]
 omega
theorem room_ok {n b : Nat} (h : n * b ≤ 140737488355328) : room n b = true := by simp [room, h]
theorem bif_t {α : Type} {b : Bool} {x y : α} (h : b = true) : (bif b then x else y) = x := by rw [h]; rfl
theorem bif_f {α : Type} {b : Bool} {x y : α} (h : b = false) : (bif b then x else y) = y := by rw [h]; rfl
theorem bif_d {α : Type} {p : Prop} [Decidable p] {x y : α} : (bif decide p then x else y) = if p then x else y := by by_cases h : p <;> simp [h]
theorem bif_if {α : Type} {b : Bool} {x y : α} : (bif b then x else y) = if b = true then x else y := by cases b <;> rfl
theorem bEq_iff {x y : ByteArray} : bEq x y = true ↔ x = y := by
 simp only [bEq, beq_iff_eq]
 constructor
 ·intro h
  obtain ⟨⟨x⟩⟩ := x
  obtain ⟨⟨y⟩⟩ := y
  have h1 : ∀ l : List UInt8, ByteArray.toList ⟨⟨l⟩⟩ = l := fun l => by
   have : ∀ (b : ByteArray) (i : Nat) (r : List UInt8), ByteArray.toList.loop b i r = r.reverse ++ b.data.toList.drop i := by
    intro b i r
    induction i, r using ByteArray.toList.loop.induct b with
    | case1 i r hlt ih =>
     rw [ByteArray.toList.loop, if_pos hlt, ih]
     have hlt' : i < b.data.toList.length := by simpa using hlt
     rw [List.drop_eq_getElem_cons hlt']
     have : b.get! i = b.data.toList[i] := by
      show b.data[i]! = _
      rw [getElem!_pos b.data i (by simpa using hlt')]
      simp
     simp [this]
    | case2 i r hlt =>
     rw [ByteArray.toList.loop, if_neg hlt]
     rw [List.drop_eq_nil_of_le (by simpa using hlt)]
     simp
   rw [ByteArray.toList, this]
   simp
  rw [h1, h1] at h
  rw [h]
 ·intro h; rw [h]
theorem bEq_self (x : ByteArray) : bEq x x = true := bEq_iff.2 rfl
theorem bEq_false {x y : ByteArray} (h : x ≠ y) : bEq x y = false := by
 cases hb : bEq x y with
 | false => rfl
 | true => exact (h (bEq_iff.1 hb)).elim
theorem bEq_dec {x y : ByteArray} : bEq x y = decide (x = y) := by
 by_cases h : x = y
 ·subst h; simp [bEq_self]
 ·simp [bEq_false h, h]
theorem wraps_u64 (n : Int) (h0 : 0 ≤ n) (h1 : n < 2 ^ 64) : IntKind.u64.wrap n = n := wu h0 (by omega)
theorem mask8 {x : Int} (h : U64 x) : bitAnd .u64 x 255 = x % 256 := bits_mask .u64 64 (by decide) wraps_u64 8 (by decide) x h.1 h.2
theorem mask16 {x : Int} (h : U64 x) : bitAnd .u64 x 65535 = x % 65536 := bits_mask .u64 64 (by decide) wraps_u64 16 (by decide) x h.1 h.2
theorem mask32 {x : Int} (h : U64 x) : bitAnd .u64 x 4294967295 = x % 4294967296 := bits_mask .u64 64 (by decide) wraps_u64 32 (by decide) x h.1 h.2
theorem bitOr_comm (x y : Int) : bitOr .u64 x y = bitOr .u64 y x := by unfold bitOr; rw [BitVec.or_comm]
theorem join8 {y : Int} (h0 : 0 ≤ y) (h1 : y < 256) : bitOr .u64 y 18446744073709551360 = 18446744073709551360 + y := by
 rw [bitOr_comm]; exact bits_join .u64 64 (by decide) wraps_u64 8 _ y (by decide) (by decide) (by decide) h0 h1 (by omega)
theorem join16 {y : Int} (h0 : 0 ≤ y) (h1 : y < 65536) : bitOr .u64 y 18446744073709486080 = 18446744073709486080 + y := by
 rw [bitOr_comm]; exact bits_join .u64 64 (by decide) wraps_u64 16 _ y (by decide) (by decide) (by decide) h0 h1 (by omega)
theorem join32 {y : Int} (h0 : 0 ≤ y) (h1 : y < 4294967296) : bitOr .u64 y 18446744069414584320 = 18446744069414584320 + y := by
 rw [bitOr_comm]; exact bits_join .u64 64 (by decide) wraps_u64 32 _ y (by decide) (by decide) (by decide) h0 h1 (by omega)
theorem sh8 : shlI .u64 1 8 = 256 := by decide
theorem sh16 : shlI .u64 1 16 = 65536 := by decide
theorem sh32 : shlI .u64 1 32 = 4294967296 := by decide
theorem shf8 : shlI .u64 18446744073709551615 8 = 18446744073709551360 := by decide
theorem shf16 : shlI .u64 18446744073709551615 16 = 18446744073709486080 := by decide
theorem shf32 : shlI .u64 18446744073709551615 32 = 18446744069414584320 := by decide
theorem sr7 (x : Int) : shrI .u64 x 7 = x / 128 := by
 unfold shrI
 rw [show (2 : Int) ^ min (Int.toNat 7) IntKind.u64.bits = 128 by decide]
 exact Int.fdiv_eq_ediv_of_nonneg x (by decide)
theorem sr15 (x : Int) : shrI .u64 x 15 = x / 32768 := by
 unfold shrI
 rw [show (2 : Int) ^ min (Int.toNat 15) IntKind.u64.bits = 32768 by decide]
 exact Int.fdiv_eq_ediv_of_nonneg x (by decide)
theorem sr31 (x : Int) : shrI .u64 x 31 = x / 2147483648 := by
 unfold shrI
 rw [show (2 : Int) ^ min (Int.toNat 31) IntKind.u64.bits = 2147483648 by decide]
 exact Int.fdiv_eq_ediv_of_nonneg x (by decide)
end Go.KM
