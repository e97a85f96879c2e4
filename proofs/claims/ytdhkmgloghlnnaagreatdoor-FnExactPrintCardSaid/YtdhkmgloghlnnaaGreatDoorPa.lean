/- Plain laws: decimals written and read. Conditions: none. -/
import Derived.Test.YtdhkmgloghlnnaaGreatDoorKmY
import Derived.Lib.Index
import Derived.Lib.ItoaNum
import Derived.Lib.ParseIntB
import Derived.Test.YtdhkmgloghlnnaaGreatDoorPEq
import Derived.KernelRfl
namespace Go.KM
open Go Go.Lib
set_option autoImplicit false
set_option linter.unusedVariables false
set_option linter.unusedSimpArgs false
theorem dec_small {u : Nat} (h : u < 10) : decDigits u = [UInt8.ofNat (48 + u)] := decDigits_one h
theorem dec_big {u : Nat} (h : ¬ u < 10) : decDigits u = decDigits (u / 10) ++ [UInt8.ofNat (48 + u % 10)] := by rw [decDigits, dif_neg h]
theorem dec_len : ∀ (k u : Nat), u < 10 ^ (k + 1) → (decDigits u).length ≤ k + 1 := by
  intro k
  induction k with
  | zero => intro u h; rw [dec_small (by simpa using h)]; simp
  | succ k ih =>
    intro u h
    by_cases hu : u < 10
    · rw [dec_small hu]; simp
    · rw [dec_big hu, List.length_append]
      have : u / 10 < 10 ^ (k + 1) := by
        rw [Nat.div_lt_iff_lt_mul (by decide), ← Nat.pow_succ]; exact h
      have := ih _ this
      simp; omega
theorem dec_len20 {u : Nat} (h : u < 18446744073709551616) : (decDigits u).length ≤ 20 := dec_len 19 u (by omega)
theorem bt_get {s : ByteArray} {k : Nat} {b : UInt8} (h : s.data.toList[k]? = some b) : bt s (k : Int) = (b.toNat : Int) := by
  simp only [bt, Int.toNat_natCast, List.getD_eq_getElem?_getD, h, Option.getD_some]
end Go.KM
namespace Go.KM.P1
open Go Go.KM
open Go.KM.Fam (Dn dflt)
open Go.KM.Enc (cells sz mkE glob gany u8)
set_option autoImplicit false
set_option linter.unusedVariables false
set_option linter.unusedSimpArgs false
set_option maxRecDepth 100000
def findT : List ByteArray → Int → ByteArray → Int
  | [], _, _ => 0
  | x :: l, k, w => if x = w then k else findT l (k + 1) w
def tws : List ByteArray := [⟨#[98, 111, 111, 108]⟩, ⟨#[116, 101, 120, 116]⟩, ⟨#[117, 56]⟩, ⟨#[117, 49, 54]⟩, ⟨#[117, 51, 50]⟩, ⟨#[117, 54, 52]⟩, ⟨#[105, 56]⟩, ⟨#[105, 49, 54]⟩, ⟨#[105, 51, 50]⟩, ⟨#[105, 54, 52]⟩]
theorem lt_dec {k n : Nat} (h : k < n) : decide ((k : Int) < (n : Int)) = true := by simp; omega
theorem ge_dec {k n : Nat} (h : n ≤ k) : decide ((k : Int) < (n : Int)) = false := by simp; omega
theorem getD_lt {α : Type} {l : List α} {k : Nat} (h : k < l.length) (z : α) : l.getD k z = l[k] := by
  rw [List.getD_eq_getElem?_getD, List.getElem?_eq_getElem h]; rfl
theorem drop_get {α : Type} {l : List α} {k : Nat} (h : k < l.length) : l.drop k = l[k] :: l.drop (k + 1) := List.drop_eq_getElem_cons h
theorem I_type_loop (s : ByteArray) (L : List ByteArray) (hL : L.length ≤ 1000) : ∀ (m k : Nat), k + m = L.length → 0 < k → I.typeOfWord.l52 s L L.length k = some (findT (L.drop k) k s) := by
  intro m
  induction m with
  | zero =>
    intro k hk h0
    rw [I.typeOfWord.l52_eq, bif_f (ge_dec (by omega)), List.drop_eq_nil_of_le (by omega)]
    rfl
  | succ m ih =>
    intro k hk h0
    have hkl : k < L.length := by omega
    rw [I.typeOfWord.l52_eq, bif_t (lt_dec hkl), bif_t (inB_nat hkl), bif_t (b := decide ((k : Int) > 0)) (by simp; omega), Int.toNat_natCast, getD_lt hkl, wi_succ (by omega), ih (k + 1) (by omega) (by omega), drop_get hkl, bEq_dec, bif_d]
    simp only [findT]
    split <;> rfl
theorem I_type (s : ByteArray) : I.typeOfWord s = some (findT tws 1 s) := by
  rw [I.typeOfWord_eq]
  have h := I_type_loop s (⟨#[]⟩ :: tws) (by decide) 10 1 (by decide) (by decide)
  have h : I.typeOfWord.l52 s (⟨#[]⟩ :: tws) 11 1 = some (findT tws 1 s) := h
  show I.typeOfWord.l52 s (⟨#[]⟩ :: tws) 11 0 = _
  rw [I.typeOfWord.l52_eq, bif_t (b := decide ((0 : Int) < 11)) rfl, bif_t (b := inB 0 (⟨#[]⟩ :: tws : List ByteArray).length) rfl, bif_f (b := decide ((0 : Int) > 0)) rfl]
  exact h
theorem R_type_step (w x : ByteArray) (t : Int) (h1 : t ≤ 10) (h0 : 0 ≤ t) (hx : R.l1TypeWord t = some x) : R.l1Type.l52 w t = if x = w then some t else R.l1Type.l52 w (t + 1) := by
  rw [R.l1Type.l52_eq, bif_t (b := decide (t ≤ 10)) (by simpa using h1), hx, Option.bind_some, bEq_dec, bif_d, wi (by omega) (by omega)]
theorem R_type_loop (w : ByteArray) : ∀ (l : List ByteArray) (t : Int), 0 ≤ t → t + l.length = 11 → (∀ (j : Nat) (x : ByteArray), l[j]? = some x → R.l1TypeWord (t + j) = some x) → R.l1Type.l52 w t = some (findT l t w) := by
  intro l
  induction l with
  | nil =>
    intro t h0 ht hw
    simp only [List.length_nil] at ht
    rw [R.l1Type.l52_eq, bif_f (b := decide (t ≤ 10)) (by simp; omega)]
    rfl
  | cons x l ih =>
    intro t h0 ht hw
    simp only [List.length_cons] at ht
    have hx := hw 0 x rfl
    rw [show t + ((0 : Nat) : Int) = t by omega] at hx
    rw [R_type_step w x t (by omega) h0 hx, ih (t + 1) (by omega) (by omega) (fun j y hj => by have := hw (j + 1) y (by simpa using hj); rw [show t + 1 + (j : Int) = t + ((j + 1 : Nat) : Int) by omega]; exact this)]
    simp only [findT]
    split <;> rfl
theorem R_type (w : ByteArray) : R.l1Type w = some (findT tws 1 w) := by
  rw [R.l1Type_eq]
  refine R_type_loop w tws 1 (by omega) (by decide) fun j x hj => ?_
  have hj10 : j < 10 := (List.getElem?_eq_some_iff.1 hj).1
  have : j = 0 ∨ j = 1 ∨ j = 2 ∨ j = 3 ∨ j = 4 ∨ j = 5 ∨ j = 6 ∨ j = 7 ∨ j = 8 ∨ j = 9 := by omega
  rw [R.l1TypeWord_eq]
  rcases this with rfl | rfl | rfl | rfl | rfl | rfl | rfl | rfl | rfl | rfl <;> exact hj
theorem findT_nonneg : ∀ (l : List ByteArray) (k : Int) (w : ByteArray), 0 < k → 0 ≤ findT l k w := by
  intro l
  induction l with
  | nil => intro k w h; exact Int.le_refl 0
  | cons x l ih =>
    intro k w h
    simp only [findT]
    split
    · omega
    · exact ih _ _ (by omega)
def bws : List ByteArray := [⟨#[114, 101, 97, 100]⟩, ⟨#[104, 97, 115]⟩, ⟨#[108, 105, 115, 116]⟩, ⟨#[116, 111, 111, 108]⟩, ⟨#[97, 114, 103]⟩, ⟨#[108, 101, 110]⟩, ⟨#[97, 116]⟩, ⟨#[99, 117, 116]⟩, ⟨#[102, 105, 110, 100]⟩, ⟨#[99, 104, 114]⟩, ⟨#[100, 101, 99]⟩, ⟨#[110, 117, 109]⟩]
def pws : List ByteArray := [⟨#[102, 110]⟩, ⟨#[108, 101, 116]⟩, ⟨#[105, 102]⟩, ⟨#[101, 108, 115, 101]⟩, ⟨#[119, 104, 105, 108, 101]⟩, ⟨#[98, 114, 101, 97, 107]⟩, ⟨#[99, 111, 110, 116, 105, 110, 117, 101]⟩, ⟨#[114, 101, 116, 117, 114, 110]⟩, ⟨#[102, 97, 105, 108]⟩, ⟨#[119, 114, 105, 116, 101]⟩, ⟨#[115, 97, 121]⟩, ⟨#[116, 114, 117, 101]⟩, ⟨#[102, 97, 108, 115, 101]⟩]
def has (l : List ByteArray) (w : ByteArray) : Bool := l.any fun x => decide (x = w)
def taken (w : ByteArray) : Bool := decide (findT tws 1 w ≠ 0) || (has bws w || has pws w)
theorem R_plain_loop (w : ByteArray) (L : List ByteArray) (hL : L.length ≤ 1000) : ∀ (m k : Nat), k + m = L.length → R.l1Taken.l500 w L k = some (has (L.drop k) w) := by
  intro m
  induction m with
  | zero =>
    intro k hk
    rw [R.l1Taken.l500_eq, bif_f (ge_dec (by omega)), List.drop_eq_nil_of_le (by omega)]
    rfl
  | succ m ih =>
    intro k hk
    have hkl : k < L.length := by omega
    rw [R.l1Taken.l500_eq, bif_t (lt_dec hkl), bif_t (inB_nat hkl), Int.toNat_natCast, getD_lt hkl, wi_succ (by omega), ih (k + 1) (by omega), drop_get hkl, bEq_dec, bif_d]
    simp only [has, List.any_cons]
    split
    · rename_i h; simp [h]
    · rename_i h; simp [h]
theorem R_built_loop (w : ByteArray) (r : Bool) (hr : R.l1Taken.l116 w 13 = some r) : ∀ (l : List ByteArray) (t : Int), 0 ≤ t → t + l.length = 13 → (∀ (j : Nat) (x : ByteArray), l[j]? = some x → ∃ n, R.l1BuiltWord (t + j) = some (x, n)) → R.l1Taken.l116 w t = some (has l w || r) := by
  intro l
  induction l with
  | nil =>
    intro t h0 ht hw
    simp only [List.length_nil] at ht
    rw [show t = 13 by omega, hr]
    simp [has]
  | cons x l ih =>
    intro t h0 ht hw
    simp only [List.length_cons] at ht
    obtain ⟨n, hx⟩ := hw 0 x rfl
    rw [show t + ((0 : Nat) : Int) = t by omega] at hx
    rw [R.l1Taken.l116_eq, bif_t (b := decide (t ≤ 12)) (by simp; omega), hx, Option.bind_some, bEq_dec, bif_d, wi (by omega) (by omega), ih (t + 1) (by omega) (by omega) (fun j y hj => by have := hw (j + 1) y (by simpa using hj); rw [show t + 1 + (j : Int) = t + ((j + 1 : Nat) : Int) by omega]; exact this)]
    simp only [has, List.any_cons]
    split
    · rename_i h
      have h : x = w := h
      simp [h]
    · rename_i h
      have h : ¬ x = w := h
      simp [h]
theorem R_taken (w : ByteArray) : R.l1Taken w = some (taken w) := by
  rw [R.l1Taken_eq, R_type, Option.bind_some]
  have h13 : R.l1Taken.l116 w 13 = some (has pws w) := by
    rw [R.l1Taken.l116_eq, bif_f (b := decide ((13 : Int) ≤ 12)) rfl, R.l1Plain_eq, Option.bind_some]
    exact R_plain_loop w pws (by decide) 13 0 (by decide)
  have h1 := R_built_loop w _ h13 bws 1 (by omega) (by decide) (fun j x hj => by
    have hj12 : j < 12 := (List.getElem?_eq_some_iff.1 hj).1
    have : j = 0 ∨ j = 1 ∨ j = 2 ∨ j = 3 ∨ j = 4 ∨ j = 5 ∨ j = 6 ∨ j = 7 ∨ j = 8 ∨ j = 9 ∨ j = 10 ∨ j = 11 := by omega
    rcases this with rfl | rfl | rfl | rfl | rfl | rfl | rfl | rfl | rfl | rfl | rfl | rfl <;> (cases hj; rw [R.l1BuiltWord_eq]; exact ⟨_, rfl⟩))
  rw [h1]
  unfold taken
  by_cases h : findT tws 1 w = 0
  · simp [h]
  · have : (findT tws 1 w != 0) = true := by simpa using h
    simp [h, this]
theorem I_taken_loop (s : ByteArray) (L : List ByteArray) (hL : L.length ≤ 1000) : ∀ (m k : Nat), k + m = L.length → I.isTaken.l52 s L L.length k = some (has (L.drop k) s || decide (findT tws 1 s > 0)) := by
  intro m
  induction m with
  | zero =>
    intro k hk
    rw [I.isTaken.l52_eq, bif_f (ge_dec (by omega)), List.drop_eq_nil_of_le (by omega), I_type, Option.bind_some]
    rfl
  | succ m ih =>
    intro k hk
    have hkl : k < L.length := by omega
    rw [I.isTaken.l52_eq, bif_t (lt_dec hkl), bif_t (inB_nat hkl), Int.toNat_natCast, getD_lt hkl, wi_succ (by omega), ih (k + 1) (by omega), drop_get hkl, bEq_dec, bif_d]
    simp only [has, List.any_cons]
    split
    · rename_i h; simp [h]
    · rename_i h; simp [h]
theorem has_app (a b : List ByteArray) (w : ByteArray) : has (a ++ b) w = (has a w || has b w) := by simp [has, List.any_append]
theorem I_taken (s : ByteArray) : I.isTaken s = some (taken s) := by
  rw [I.isTaken_eq]
  have e : fieldsOf (⟨([102, 110, 32, 108, 101, 116, 32, 105, 102, 32, 101, 108, 115, 101, 32, 119, 104, 105, 108, 101, 32, 98, 114, 101, 97, 107, 32, 99, 111, 110, 116, 105, 110, 117, 101, 32, 114, 101, 116, 117, 114, 110, 32, 102, 97, 105, 108, 32, 119, 114, 105, 116, 101, 32, 115, 97, 121, 32, 116].append [114, 117, 101, 32, 102, 97, 108, 115, 101, 32, 114, 101, 97, 100, 32, 104, 97, 115, 32, 108, 105, 115, 116, 32, 116, 111, 111, 108, 32, 97, 114, 103, 32, 108, 101, 110, 32, 97, 116, 32, 99, 117, 116, 32, 102, 105, 110, 100, 32, 99, 104, 114, 32, 100, 101, 99, 32, 110, 117, 109]).toArray⟩ : ByteArray) = pws ++ bws := by kernel_rfl
  rw [e]
  have h := I_taken_loop s (pws ++ bws) (by decide) 25 0 (by decide)
  have h : I.isTaken.l52 s (pws ++ bws) ((pws ++ bws).length : Int) 0 = _ := h
  rw [h, List.drop_zero, has_app]
  unfold taken
  have hn := findT_nonneg tws 1 s (by omega)
  by_cases h0 : findT tws 1 s = 0
  · simp only [h0]
    cases has bws s <;> cases has pws s <;> rfl
  · have h1 : findT tws 1 s > 0 := by omega
    simp [h0, h1]
end Go.KM.P1
namespace Go.KM.P1
open Go Go.KM
open Go.KM.Fam (Dn dflt)
open Go.KM.Enc (cells sz mkE glob gany u8)
set_option autoImplicit false
set_option linter.unusedVariables false
set_option linter.unusedSimpArgs false
set_option maxRecDepth 100000
def ibits (t : Int) : Int := if t = 3 ∨ t = 7 then 8 else if t = 4 ∨ t = 8 then 16 else if t = 5 ∨ t = 9 then 32 else 64
theorem R_bits (t : Int) : R.l1Bits t = some (ibits t) := by
  rw [R.l1Bits_eq]
  unfold ibits
  by_cases h3 : t = 3
  · simp [h3, R.l1Bits.l53_eq]
  · by_cases h7 : t = 7
    · simp [h7, R.l1Bits.l53_eq]
    · by_cases h4 : t = 4
      · simp [h4, R.l1Bits.l53_eq, R.l1Bits.l215_eq]
      · by_cases h8 : t = 8
        · simp [h8, R.l1Bits.l53_eq, R.l1Bits.l215_eq]
        · by_cases h5 : t = 5
          · simp [h5, R.l1Bits.l53_eq, R.l1Bits.l215_eq]
          · by_cases h9 : t = 9 <;> simp [bif_if, h3, h7, h4, h8, h5, h9, R.l1Bits.l53_eq, R.l1Bits.l215_eq]
theorem I_bits (t : Int) : I.bits t = some (ibits t) := by
  rw [I.bits_eq]
  unfold ibits
  by_cases h3 : t = 3
  · simp [h3, I.bits.l53_eq]
  · by_cases h7 : t = 7
    · simp [h7, I.bits.l53_eq]
    · by_cases h4 : t = 4
      · simp [h4, I.bits.l53_eq, I.bits.l215_eq]
      · by_cases h8 : t = 8
        · simp [h8, I.bits.l53_eq, I.bits.l215_eq]
        · by_cases h5 : t = 5
          · simp [h5, I.bits.l53_eq, I.bits.l215_eq]
          · by_cases h9 : t = 9 <;> simp [bif_if, h3, h7, h4, h8, h5, h9, I.bits.l53_eq, I.bits.l215_eq]
theorem ibits_cases (t : Int) : ((t = 3 ∨ t = 7) ∧ ibits t = 8) ∨ ((t = 4 ∨ t = 8) ∧ ibits t = 16) ∨ ((t = 5 ∨ t = 9) ∧ ibits t = 32) ∨ ((t ≠ 3 ∧ t ≠ 7 ∧ t ≠ 4 ∧ t ≠ 8 ∧ t ≠ 5 ∧ t ≠ 9) ∧ ibits t = 64) := by
  unfold ibits
  repeat' split
  all_goals omega
theorem R_signed (t : Int) : R.l1Signed t = some (decide (7 ≤ t) && decide (t ≤ 10)) := by
  rw [R.l1Signed_eq]; by_cases h : 7 ≤ t <;> simp [h]
theorem I_signed (t : Int) : I.signed t = some (decide (7 ≤ t)) := by rw [I.signed_eq]
theorem R_integer (t : Int) : R.l1Integer t = some (decide (3 ≤ t) && decide (t ≤ 10)) := by
  rw [R.l1Integer_eq]; by_cases h : 3 ≤ t <;> simp [h]
theorem I_integer (t : Int) : I.integer t = some (decide (3 ≤ t) && decide (t ≤ 10)) := by
  rw [I.integer_eq]; by_cases h : 3 ≤ t <;> simp [h]
end Go.KM.P1
namespace Go.KM.P1
open Go Go.KM
open Go.KM.Fam (Dn dflt)
open Go.KM.Enc (cells sz mkE glob gany u8)
set_option autoImplicit false
set_option linter.unusedVariables false
set_option linter.unusedSimpArgs false
set_option maxRecDepth 100000
theorem max_run (n : Nat) (hn : n ≤ 64) : ∀ (m i : Nat), i + m = n → R.l1Max.l500 n (((2 ^ i - 1 : Nat)) : Int) i = some ((2 ^ n - 1 : Nat) : Int) := by
  intro m
  induction m with
  | zero =>
    intro i hi
    have : i = n := by omega
    subst this
    rw [R.l1Max.l500_eq, bif_f (ge_dec (Nat.le_refl _))]
  | succ m ih =>
    intro i hi
    have hp : (2 : Nat) ^ (i + 1) = 2 * 2 ^ i := by rw [Nat.pow_succ]; omega
    have hle : (2 : Nat) ^ (i + 1) ≤ 2 ^ 64 := Nat.pow_le_pow_right (by omega) (by omega)
    have h64 : (2 : Nat) ^ 64 = 18446744073709551616 := by decide
    have hpos : 1 ≤ (2 : Nat) ^ i := Nat.one_le_two_pow
    rw [R.l1Max.l500_eq, bif_t (lt_dec (k := i) (n := n) (by omega)), wi_succ (by omega)]
    have e : IntKind.u64.wrap (IntKind.u64.wrap (((2 ^ i - 1 : Nat) : Int) * 2) + 1) = ((2 ^ (i + 1) - 1 : Nat) : Int) := by
      rw [hp] at hle ⊢
      generalize (2 : Nat) ^ i = P at hle hpos ⊢
      rw [wu (n := ((P - 1 : Nat) : Int) * 2) (by omega) (by omega), wu (by omega) (by omega)]
      omega
    rw [e]
    exact ih (i + 1) (by omega)
def mxOf (t : Int) : Nat := if t = 3 then 255 else if t = 4 then 65535 else if t = 5 then 4294967295 else if t = 7 then 127 else if t = 8 then 32767 else if t = 9 then 2147483647 else if t = 10 then 9223372036854775807 else 18446744073709551615
theorem R_max (t : Int) (h3 : 3 ≤ t) (h10 : t ≤ 10) : R.l1Max t = some (mxOf t : Int) := by
  rw [R.l1Max_eq, R_bits, R_signed, Option.bind_some, Option.bind_some]
  have key : ∀ n : Nat, n ≤ 64 → R.l1Max.l500 n 0 0 = some ((2 ^ n - 1 : Nat) : Int) := fun n hn => max_run n hn n 0 (by omega)
  have : t = 3 ∨ t = 4 ∨ t = 5 ∨ t = 6 ∨ t = 7 ∨ t = 8 ∨ t = 9 ∨ t = 10 := by omega
  rcases this with rfl | rfl | rfl | rfl | rfl | rfl | rfl | rfl
  · exact key 8 (by omega)
  · exact key 16 (by omega)
  · exact key 32 (by omega)
  · exact key 64 (by omega)
  · exact key 7 (by omega)
  · exact key 15 (by omega)
  · exact key 31 (by omega)
  · exact key 63 (by omega)
end Go.KM.P1
namespace Go.KM.P1
open Go Go.KM
open Go.KM.Fam (Dn dflt)
open Go.KM.Enc (cells sz mkE glob gany u8)
set_option autoImplicit false
set_option linter.unusedVariables false
set_option linter.unusedSimpArgs false
set_option maxRecDepth 100000
def into (t x : Int) : Int :=
  if t = 3 then x % 256 else if t = 4 then x % 65536 else if t = 5 then x % 4294967296
  else if t = 7 then (x + 128) % 256 - 128 else if t = 8 then (x + 32768) % 65536 - 32768 else if t = 9 then (x + 2147483648) % 4294967296 - 2147483648 else IntKind.i64.wrap x
theorem I_into (t x : Int) (h : U64 x) : I.into x t = some (into t x) := by
  have e8 := mask8 h
  have e16 := mask16 h
  have e32 := mask32 h
  obtain ⟨h0, h1⟩ := h
  have j8 := join8 (y := x % 256) (by omega) (by omega)
  have j16 := join16 (y := x % 65536) (by omega) (by omega)
  have j32 := join32 (y := x % 4294967296) (by omega) (by omega)
  have w7 : IntKind.u64.wrap (8 - 1) = 7 := by decide
  have w15 : IntKind.u64.wrap (16 - 1) = 15 := by decide
  have w31 : IntKind.u64.wrap (32 - 1) = 31 := by decide
  have wm8 : IntKind.u64.wrap (256 - 1) = 255 := by decide
  have wm16 : IntKind.u64.wrap (65536 - 1) = 65535 := by decide
  have wm32 : IntKind.u64.wrap (4294967296 - 1) = 4294967295 := by decide
  rw [I.into_eq, I_bits]
  simp only [Option.bind_some, I_signed]
  rcases ibits_cases t with ⟨ht, hb⟩ | ⟨ht, hb⟩ | ⟨ht, hb⟩ | ⟨ht, hb⟩
  · rw [hb]
    simp only [sh8, wm8, e8, w7, sr7, shf8, j8]
    rcases ht with rfl | rfl
    · simp [into]; rw [wi] <;> omega
    · simp [into]
      by_cases hh : x % 256 / 128 = 1
      · simp [bif_if, hh, wu_eq, IntKind.wrap_i64]; omega
      · simp [bif_if, hh, wu_eq, IntKind.wrap_i64]; omega
  · rw [hb]
    simp only [sh16, wm16, e16, w15, sr15, shf16, j16]
    rcases ht with rfl | rfl
    · simp [into]; rw [wi] <;> omega
    · simp [into]
      by_cases hh : x % 65536 / 32768 = 1
      · simp [bif_if, hh, wu_eq, IntKind.wrap_i64]; omega
      · simp [bif_if, hh, wu_eq, IntKind.wrap_i64]; omega
  · rw [hb]
    simp only [sh32, wm32, e32, w31, sr31, shf32, j32]
    rcases ht with rfl | rfl
    · simp [into]; rw [wi] <;> omega
    · simp [into]
      by_cases hh : x % 4294967296 / 2147483648 = 1
      · simp [bif_if, hh, wu_eq, IntKind.wrap_i64]; omega
      · simp [bif_if, hh, wu_eq, IntKind.wrap_i64]; omega
  · rw [hb]
    obtain ⟨a, b, c, d, e, f⟩ := ht
    simp [into, a, b, c, d, e, f]
def valid (v : TValue) : Bool :=
  if v.gType = 1 then (decide (v.gN = 0) || decide (v.gN = 1)) && decide (v.gText = ⟨#[]⟩)
  else if v.gType = 2 then decide (v.gN = 0) && decide ((v.gText.size : Int) ≤ 3000)
  else decide (3 ≤ v.gType) && decide (v.gType ≤ 10) && decide (v.gText = ⟨#[]⟩) && decide (v.gN = into v.gType (IntKind.u64.wrap v.gN))
theorem I_valid (v : TValue) : I.ValidValue v = some (valid v) := by
  obtain ⟨t, n, s⟩ := v
  rw [I.ValidValue_eq]
  unfold valid
  simp only [bEq_dec, I_integer, Option.bind_some, I_into _ _ (u64_wrap n)]
  by_cases h1 : t = 1
  · by_cases a : n = 0 <;> by_cases b : n = 1 <;> simp [bif_if, h1, a, b]
  · by_cases h2 : t = 2
    · by_cases a : n = 0 <;> simp [bif_if, h2, a]
    · by_cases a : 3 ≤ t <;> by_cases b : t ≤ 10 <;> by_cases c : s = ⟨#[]⟩ <;> simp [bif_if, h1, h2, a, b, c]
      rw [Bool.eq_iff_iff]; simp only [beq_iff_eq, decide_eq_true_eq]; exact eq_comm
end Go.KM.P1
