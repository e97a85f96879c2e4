/- Plain laws: words and types of words. Conditions: none. -/
import Derived.Test.YtgjcobbngimleaaDoorSEq
import Derived.Test.YtgjcobbngimleaaDoorKmDec
import Derived.KernelRfl
namespace Go.KM.S1
open Go Go.KM
open Go.KM.Fam (Dn dflt)
open Go.KM.Enc (cells sz mkE glob gany u8)
set_option autoImplicit false
set_option linter.unusedVariables false
set_option linter.unusedSimpArgs false
set_option maxRecDepth 100000
/-- the place of a word in a list, counted from k; 0 for none -/
def findT : List ByteArray → Int → ByteArray → Int
  | [], _, _ => 0
  | x :: l, k, w => if x = w then k else findT l (k + 1) w
def tws : List ByteArray := [⟨#[98, 111, 111, 108]⟩, ⟨#[116, 101, 120, 116]⟩, ⟨#[117, 56]⟩, ⟨#[117, 49, 54]⟩, ⟨#[117, 51, 50]⟩, ⟨#[117, 54, 52]⟩, ⟨#[105, 56]⟩, ⟨#[105, 49, 54]⟩, ⟨#[105, 51, 50]⟩, ⟨#[105, 54, 52]⟩]
theorem lt_dec {k n : Nat} (h : k < n) : decide ((k : Int) < (n : Int)) = true := by simp; omega
theorem ge_dec {k n : Nat} (h : n ≤ k) : decide ((k : Int) < (n : Int)) = false := by simp; omega
theorem getD_lt {α : Type} {l : List α} {k : Nat} (h : k < l.length) (z : α) : l.getD k z = l[k] := by
  rw [List.getD_eq_getElem?_getD, List.getElem?_eq_getElem h]; rfl
theorem drop_get {α : Type} {l : List α} {k : Nat} (h : k < l.length) : l.drop k = l[k] :: l.drop (k + 1) := List.drop_eq_getElem_cons h
theorem I_type_loop (s : ByteArray) (L : List ByteArray) (hL : L.length ≤ 1000) : ∀ (m k : Nat), k + m = L.length → 0 < k → I.typeOfWord.l52 s L L.length k = some (findT (L.drop k) k s) := by
  intro m
  induction m with
  | zero =>
    intro k hk h0
    rw [I.typeOfWord.l52_eq, bif_f (ge_dec (by omega)), List.drop_eq_nil_of_le (by omega)]
    rfl
  | succ m ih =>
    intro k hk h0
    have hkl : k < L.length := by omega
    rw [I.typeOfWord.l52_eq, bif_t (lt_dec hkl), bif_t (inB_nat hkl), bif_t (b := decide ((k : Int) > 0)) (by simp; omega), Int.toNat_natCast, getD_lt hkl, wi_succ (by omega), ih (k + 1) (by omega) (by omega), drop_get hkl, bEq_dec, bif_d]
    simp only [findT]
    split <;> rfl
theorem I_type (s : ByteArray) : I.typeOfWord s = some (findT tws 1 s) := by
  rw [I.typeOfWord_eq]
  have h := I_type_loop s (⟨#[]⟩ :: tws) (by decide) 10 1 (by decide) (by decide)
  have h : I.typeOfWord.l52 s (⟨#[]⟩ :: tws) 11 1 = some (findT tws 1 s) := h
  show I.typeOfWord.l52 s (⟨#[]⟩ :: tws) 11 0 = _
  rw [I.typeOfWord.l52_eq, bif_t (b := decide ((0 : Int) < 11)) rfl, bif_t (b := inB 0 (⟨#[]⟩ :: tws : List ByteArray).length) rfl, bif_f (b := decide ((0 : Int) > 0)) rfl]
  exact h
theorem R_type_step (w x : ByteArray) (t : Int) (h1 : t ≤ 10) (h0 : 0 ≤ t) (hx : R.l1TypeWord t = some x) : R.l1Type.l52 w t = if x = w then some t else R.l1Type.l52 w (t + 1) := by
  rw [R.l1Type.l52_eq, bif_t (b := decide (t ≤ 10)) (by simpa using h1), hx, Option.bind_some, bEq_dec, bif_d, wi (by omega) (by omega)]
theorem R_type_loop (w : ByteArray) : ∀ (l : List ByteArray) (t : Int), 0 ≤ t → t + l.length = 11 → (∀ (j : Nat) (x : ByteArray), l[j]? = some x → R.l1TypeWord (t + j) = some x) → R.l1Type.l52 w t = some (findT l t w) := by
  intro l
  induction l with
  | nil =>
    intro t h0 ht hw
    simp only [List.length_nil] at ht
    rw [R.l1Type.l52_eq, bif_f (b := decide (t ≤ 10)) (by simp; omega)]
    rfl
  | cons x l ih =>
    intro t h0 ht hw
    simp only [List.length_cons] at ht
    have hx := hw 0 x rfl
    rw [show t + ((0 : Nat) : Int) = t by omega] at hx
    rw [R_type_step w x t (by omega) h0 hx, ih (t + 1) (by omega) (by omega) (fun j y hj => by have := hw (j + 1) y (by simpa using hj); rw [show t + 1 + (j : Int) = t + ((j + 1 : Nat) : Int) by omega]; exact this)]
    simp only [findT]
    split <;> rfl
theorem R_type (w : ByteArray) : R.l1Type w = some (findT tws 1 w) := by
  rw [R.l1Type_eq]
  refine R_type_loop w tws 1 (by omega) (by decide) fun j x hj => ?_
  have hj10 : j < 10 := (List.getElem?_eq_some_iff.1 hj).1
  have : j = 0 ∨ j = 1 ∨ j = 2 ∨ j = 3 ∨ j = 4 ∨ j = 5 ∨ j = 6 ∨ j = 7 ∨ j = 8 ∨ j = 9 := by omega
  rw [R.l1TypeWord_eq]
  rcases this with rfl | rfl | rfl | rfl | rfl | rfl | rfl | rfl | rfl | rfl <;> exact hj
theorem findT_nonneg : ∀ (l : List ByteArray) (k : Int) (w : ByteArray), 0 < k → 0 ≤ findT l k w := by
  intro l
  induction l with
  | nil => intro k w h; exact Int.le_refl 0
  | cons x l ih =>
    intro k w h
    simp only [findT]
    split
    · omega
    · exact ih _ _ (by omega)
def bws : List ByteArray := [⟨#[114, 101, 97, 100]⟩, ⟨#[104, 97, 115]⟩, ⟨#[108, 105, 115, 116]⟩, ⟨#[116, 111, 111, 108]⟩, ⟨#[97, 114, 103]⟩, ⟨#[108, 101, 110]⟩, ⟨#[97, 116]⟩, ⟨#[99, 117, 116]⟩, ⟨#[102, 105, 110, 100]⟩, ⟨#[99, 104, 114]⟩, ⟨#[100, 101, 99]⟩, ⟨#[110, 117, 109]⟩]
def pws : List ByteArray := [⟨#[102, 110]⟩, ⟨#[108, 101, 116]⟩, ⟨#[105, 102]⟩, ⟨#[101, 108, 115, 101]⟩, ⟨#[119, 104, 105, 108, 101]⟩, ⟨#[98, 114, 101, 97, 107]⟩, ⟨#[99, 111, 110, 116, 105, 110, 117, 101]⟩, ⟨#[114, 101, 116, 117, 114, 110]⟩, ⟨#[102, 97, 105, 108]⟩, ⟨#[119, 114, 105, 116, 101]⟩, ⟨#[115, 97, 121]⟩, ⟨#[116, 114, 117, 101]⟩, ⟨#[102, 97, 108, 115, 101]⟩]
def has (l : List ByteArray) (w : ByteArray) : Bool := l.any fun x => decide (x = w)
/-- a word that is no name -/
def taken (w : ByteArray) : Bool := decide (findT tws 1 w ≠ 0) || (has bws w || has pws w)
theorem R_plain_loop (w : ByteArray) (L : List ByteArray) (hL : L.length ≤ 1000) : ∀ (m k : Nat), k + m = L.length → R.l1Taken.l500 w L k = some (has (L.drop k) w) := by
  intro m
  induction m with
  | zero =>
    intro k hk
    rw [R.l1Taken.l500_eq, bif_f (ge_dec (by omega)), List.drop_eq_nil_of_le (by omega)]
    rfl
  | succ m ih =>
    intro k hk
    have hkl : k < L.length := by omega
    rw [R.l1Taken.l500_eq, bif_t (lt_dec hkl), bif_t (inB_nat hkl), Int.toNat_natCast, getD_lt hkl, wi_succ (by omega), ih (k + 1) (by omega), drop_get hkl, bEq_dec, bif_d]
    simp only [has, List.any_cons]
    split
    · rename_i h; simp [h]
    · rename_i h; simp [h]
theorem R_built_loop (w : ByteArray) (r : Bool) (hr : R.l1Taken.l116 w 13 = some r) : ∀ (l : List ByteArray) (t : Int), 0 ≤ t → t + l.length = 13 → (∀ (j : Nat) (x : ByteArray), l[j]? = some x → ∃ n, R.l1BuiltWord (t + j) = some (x, n)) → R.l1Taken.l116 w t = some (has l w || r) := by
  intro l
  induction l with
  | nil =>
    intro t h0 ht hw
    simp only [List.length_nil] at ht
    rw [show t = 13 by omega, hr]
    simp [has]
  | cons x l ih =>
    intro t h0 ht hw
    simp only [List.length_cons] at ht
    obtain ⟨n, hx⟩ := hw 0 x rfl
    rw [show t + ((0 : Nat) : Int) = t by omega] at hx
    rw [R.l1Taken.l116_eq, bif_t (b := decide (t ≤ 12)) (by simp; omega), hx, Option.bind_some, bEq_dec, bif_d, wi (by omega) (by omega), ih (t + 1) (by omega) (by omega) (fun j y hj => by have := hw (j + 1) y (by simpa using hj); rw [show t + 1 + (j : Int) = t + ((j + 1 : Nat) : Int) by omega]; exact this)]
    simp only [has, List.any_cons]
    split
    · rename_i h
      have h : x = w := h
      simp [h]
    · rename_i h
      have h : ¬ x = w := h
      simp [h]
theorem R_taken (w : ByteArray) : R.l1Taken w = some (taken w) := by
  rw [R.l1Taken_eq, R_type, Option.bind_some]
  have h13 : R.l1Taken.l116 w 13 = some (has pws w) := by
    rw [R.l1Taken.l116_eq, bif_f (b := decide ((13 : Int) ≤ 12)) rfl, R.l1Plain_eq, Option.bind_some]
    exact R_plain_loop w pws (by decide) 13 0 (by decide)
  have h1 := R_built_loop w _ h13 bws 1 (by omega) (by decide) (fun j x hj => by
    have hj12 : j < 12 := (List.getElem?_eq_some_iff.1 hj).1
    have : j = 0 ∨ j = 1 ∨ j = 2 ∨ j = 3 ∨ j = 4 ∨ j = 5 ∨ j = 6 ∨ j = 7 ∨ j = 8 ∨ j = 9 ∨ j = 10 ∨ j = 11 := by omega
    rcases this with rfl | rfl | rfl | rfl | rfl | rfl | rfl | rfl | rfl | rfl | rfl | rfl <;> (cases hj; rw [R.l1BuiltWord_eq]; exact ⟨_, rfl⟩))
  rw [h1]
  unfold taken
  by_cases h : findT tws 1 w = 0
  · simp [h]
  · have : (findT tws 1 w != 0) = true := by simpa using h
    simp [h, this]
theorem I_taken_loop (s : ByteArray) (L : List ByteArray) (hL : L.length ≤ 1000) : ∀ (m k : Nat), k + m = L.length → I.isTaken.l52 s L L.length k = some (has (L.drop k) s || decide (findT tws 1 s > 0)) := by
  intro m
  induction m with
  | zero =>
    intro k hk
    rw [I.isTaken.l52_eq, bif_f (ge_dec (by omega)), List.drop_eq_nil_of_le (by omega), I_type, Option.bind_some]
    rfl
  | succ m ih =>
    intro k hk
    have hkl : k < L.length := by omega
    rw [I.isTaken.l52_eq, bif_t (lt_dec hkl), bif_t (inB_nat hkl), Int.toNat_natCast, getD_lt hkl, wi_succ (by omega), ih (k + 1) (by omega), drop_get hkl, bEq_dec, bif_d]
    simp only [has, List.any_cons]
    split
    · rename_i h; simp [h]
    · rename_i h; simp [h]
theorem has_app (a b : List ByteArray) (w : ByteArray) : has (a ++ b) w = (has a w || has b w) := by simp [has, List.any_append]
theorem I_taken (s : ByteArray) : I.isTaken s = some (taken s) := by
  rw [I.isTaken_eq]
  have e : fieldsOf (⟨([102, 110, 32, 108, 101, 116, 32, 105, 102, 32, 101, 108, 115, 101, 32, 119, 104, 105, 108, 101, 32, 98, 114, 101, 97, 107, 32, 99, 111, 110, 116, 105, 110, 117, 101, 32, 114, 101, 116, 117, 114, 110, 32, 102, 97, 105, 108, 32, 119, 114, 105, 116, 101, 32, 115, 97, 121, 32, 116].append [114, 117, 101, 32, 102, 97, 108, 115, 101, 32, 114, 101, 97, 100, 32, 104, 97, 115, 32, 108, 105, 115, 116, 32, 116, 111, 111, 108, 32, 97, 114, 103, 32, 108, 101, 110, 32, 97, 116, 32, 99, 117, 116, 32, 102, 105, 110, 100, 32, 99, 104, 114, 32, 100, 101, 99, 32, 110, 117, 109]).toArray⟩ : ByteArray) = pws ++ bws := by kernel_rfl
  rw [e]
  have h := I_taken_loop s (pws ++ bws) (by decide) 25 0 (by decide)
  have h : I.isTaken.l52 s (pws ++ bws) ((pws ++ bws).length : Int) 0 = _ := h
  rw [h, List.drop_zero, has_app]
  unfold taken
  have hn := findT_nonneg tws 1 s (by omega)
  by_cases h0 : findT tws 1 s = 0
  · simp only [h0]
    cases has bws s <;> cases has pws s <;> rfl
  · have h1 : findT tws 1 s > 0 := by omega
    simp [h0, h1]
end Go.KM.S1
