/- Plain laws: decimals written and read. Conditions: none. -/
import Derived.Test.YtgjcobbngimleaaDoorKmY
import Derived.Lib.Index
import Derived.Lib.ItoaNum
import Derived.Lib.ParseIntB
namespace Go.KM
open Go Go.Lib
set_option autoImplicit false
set_option linter.unusedVariables false
set_option linter.unusedSimpArgs false

theorem dec_small {u : Nat} (h : u < 10) : decDigits u = [UInt8.ofNat (48 + u)] := decDigits_one h
theorem dec_big {u : Nat} (h : ¬ u < 10) : decDigits u = decDigits (u / 10) ++ [UInt8.ofNat (48 + u % 10)] := by rw [decDigits, dif_neg h]
theorem digit_nat {d : Nat} (h : d < 10) : (UInt8.ofNat (48 + d)).toNat = 48 + d := by
  rw [UInt8.toNat_ofNat']; omega
theorem dec_ne (u : Nat) : decDigits u ≠ [] := by
  by_cases h : u < 10
  · rw [dec_small h]; simp
  · rw [dec_big h]; simp
theorem dec_digit (u : Nat) : ∀ b ∈ decDigits u, 48 ≤ b.toNat ∧ b.toNat ≤ 57 := by
  induction u using Nat.strongRecOn with
  | ind u ih =>
    by_cases h : u < 10
    · rw [dec_small h]
      intro b hb
      rw [List.mem_singleton.1 hb, digit_nat h]; omega
    · rw [dec_big h]
      intro b hb
      rcases List.mem_append.1 hb with hb | hb
      · exact ih (u / 10) (by omega) b hb
      · rw [List.mem_singleton.1 hb, digit_nat (by omega)]; omega
theorem dec_len : ∀ (k u : Nat), u < 10 ^ (k + 1) → (decDigits u).length ≤ k + 1 := by
  intro k
  induction k with
  | zero => intro u h; rw [dec_small (by simpa using h)]; simp
  | succ k ih =>
    intro u h
    by_cases hu : u < 10
    · rw [dec_small hu]; simp
    · rw [dec_big hu, List.length_append]
      have : u / 10 < 10 ^ (k + 1) := by
        rw [Nat.div_lt_iff_lt_mul (by decide), ← Nat.pow_succ]; exact h
      have := ih _ this
      simp; omega
theorem dec_len20 {u : Nat} (h : u < 18446744073709551616) : (decDigits u).length ≤ 20 := dec_len 19 u (by omega)

/-! read again -/
theorem parse_snoc (M : Nat) (c : UInt8) : ∀ (l : List UInt8) (acc a : Nat), parseUintM M acc l = .ok a → parseUintM M acc (l ++ [c]) = parseUintM M a [c] := by
  intro l
  induction l with
  | nil => intro acc a h; simp only [parseUintM] at h; injection h with h; subst h; rfl
  | cons b l ih =>
    intro acc a h
    simp only [List.cons_append]
    rw [parseUintM] at h ⊢
    split at h
    · rename_i hb
      rw [if_pos hb]
      split at h
      · cases h
      · rename_i h1
        rw [if_neg h1]
        split at h
        · cases h
        · rename_i h2
          rw [if_neg h2]
          exact ih _ _ h
    · cases h
theorem parse_dec {M : Nat} (hM : M < 18446744073709551616) (u : Nat) : u ≤ M → parseUintM M 0 (decDigits u) = .ok u := by
  induction u using Nat.strongRecOn with
  | ind u ih =>
    intro hu
    by_cases h : u < 10
    · rw [dec_small h]
      simp only [parseUintM, digit_nat h]
      rw [if_pos (by omega), if_neg (by omega), if_neg (by omega)]
      congr 1; omega
    · rw [dec_big h, parse_snoc M _ _ 0 (u / 10) (ih (u / 10) (by omega) (by omega))]
      simp only [parseUintM, digit_nat (show u % 10 < 10 by omega)]
      rw [if_pos (by omega), if_neg (by omega), if_neg (by omega)]
      congr 1; omega
theorem parse_itoa {v : Int} (h : I64 v) : parseIntB 64 (itoa v) = .ok v := by
  obtain ⟨h0, h1⟩ := h
  by_cases hn : v < 0
  · have e : itoa v = 45 :: decDigits v.natAbs := by unfold itoa; rw [if_pos hn]
    rw [e]
    have hp := parse_dec (M := 2 ^ 64 - 1) (by decide) v.natAbs (by omega)
    simp only [parseIntB, parseUintB]
    have h45 : (45 : UInt8).toNat = 45 := rfl
    simp only [h45]
    rw [if_pos (Or.inr trivial), if_neg (dec_ne _), hp]
    simp only [not_true_eq_false, false_and, true_and, if_false, if_true]
    rw [if_neg (by omega)]
    congr 1; omega
  · have e : itoa v = decDigits v.toNat := by unfold itoa; rw [if_neg hn]
    rw [e]
    have hp := parse_dec (M := 2 ^ 64 - 1) (by decide) v.toNat (by omega)
    cases hl : decDigits v.toNat with
    | nil => exact (dec_ne _ hl).elim
    | cons c r =>
      have hc := dec_digit v.toNat c (by rw [hl]; simp)
      rw [hl] at hp
      simp only [parseIntB, parseUintB]
      rw [if_neg (by omega : ¬ (c.toNat = 43 ∨ c.toNat = 45)), if_neg (by simp), hp]
      have h45 : ¬ c.toNat = 45 := by omega
      simp only [h45, not_false_eq_true, true_and, false_and, if_false]
      rw [if_neg (by omega)]
      congr 1; omega
theorem parse_range {l : List UInt8} {v : Int} (h : parseIntB 64 l = .ok v) : I64 v := by
  cases l with
  | nil => simp [parseIntB] at h
  | cons c r =>
    simp only [parseIntB] at h
    split at h
    · cases h
    · cases h
    · rename_i u _
      by_cases hn : c.toNat = 45
      · simp only [hn, not_true_eq_false, false_and, true_and, if_false, if_true] at h
        split at h
        · cases h
        · injection h with h; subst h; constructor <;> omega
      · simp only [hn, not_false_eq_true, true_and, false_and, if_false] at h
        split at h
        · cases h
        · injection h with h; subst h; constructor <;> omega
theorem itoa_inj {v v' : Int} (h : I64 v) (h' : I64 v') (he : itoa v = itoa v') : v = v' := by
  have h1 := parse_itoa h
  rw [he, parse_itoa h'] at h1
  injection h1 with h1
  exact h1.symm

/-- digits read with wrapping -/
def stepD (n : Int) (b : UInt8) : Int := IntKind.u64.wrap (IntKind.u64.wrap (IntKind.u64.wrap (n * 10) + IntKind.u64.wrap (b.toNat : Int)) - 48)
theorem foldD_dec (u : Nat) : u < 18446744073709551616 → (decDigits u).foldl stepD 0 = u := by
  induction u using Nat.strongRecOn with
  | ind u ih =>
    intro hu
    by_cases h : u < 10
    · rw [dec_small h]
      simp only [List.foldl_cons, List.foldl_nil, stepD, digit_nat h, wu_eq]
      omega
    · rw [dec_big h, List.foldl_append, ih (u / 10) (by omega) (by omega)]
      simp only [List.foldl_cons, List.foldl_nil, stepD, digit_nat (show u % 10 < 10 by omega), wu_eq]
      omega
/-- a text's bytes one by one -/
theorem bt_get {s : ByteArray} {k : Nat} {b : UInt8} (h : s.data.toList[k]? = some b) : bt s (k : Int) = (b.toNat : Int) := by
  simp only [bt, Int.toNat_natCast, List.getD_eq_getElem?_getD, h, Option.getD_some]
theorem drop_bt {s : ByteArray} {k : Nat} (h : k < s.size) : ∃ b, s.data.toList.drop k = b :: s.data.toList.drop (k + 1) ∧ bt s (k : Int) = (b.toNat : Int) := by
  rw [size_data] at h
  exact ⟨s.data.toList[k], List.drop_eq_getElem_cons h, bt_get (List.getElem?_eq_getElem h)⟩
theorem extract_data (s : ByteArray) (i j : Nat) : (s.extract i j).data.toList = (s.data.toList.take j).drop i := by
  have : (s.extract i j).data = s.data.extract i j := ByteArray.data_extract
  rw [this, Array.toList_extract, List.extract_eq_take_drop]
  rw [← List.drop_take]
/-! the first place of a text in another -/
theorem index_short : ∀ (l x : List UInt8), l.length < x.length → Lib.index l x = -1 := by
  intro l
  induction l with
  | nil => intro x h; cases x with
    | nil => simp at h
    | cons => rfl
  | cons b l ih =>
    intro x h
    have hp : x.isPrefixOf (b :: l) = false := by
      cases hh : x.isPrefixOf (b :: l) with
      | false => rfl
      | true =>
        have := (List.isPrefixOf_iff_prefix.1 hh).length_le
        omega
    rw [Lib.index, hp]
    rw [ih x (by simp at h; omega)]
    rfl
end Go.KM
