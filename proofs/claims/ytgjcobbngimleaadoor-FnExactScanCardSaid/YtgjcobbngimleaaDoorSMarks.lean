/- Plain laws: marks. Conditions: none. -/
import Derived.Test.YtgjcobbngimleaaDoorSNums
namespace Go.KM.S1
open Go Go.KM
open Go.KM.Fam (Dn dflt)
open Go.KM.Enc (cells sz mkE glob gany u8)
set_option autoImplicit false
set_option linter.unusedVariables false
set_option linter.unusedSimpArgs false
set_option maxRecDepth 100000
/-- a text stands at a place -/
theorem stands (src x : ByteArray) (a : Nat) (ha : a ≤ src.size) : Lib.hasPrefix (src.extract a src.size).data.toList x.data.toList = (decide (a + x.size ≤ src.size) && bEq (src.extract a (a + x.size)) x) := by
  have e1 : (src.extract a src.size).data.toList = src.data.toList.drop a := by
    rw [extract_data, List.take_of_length_le (by rw [← size_data]; omega)]
  unfold Lib.hasPrefix
  rw [e1]
  by_cases hfit : a + x.size ≤ src.size
  · have h2 : (src.extract a (a + x.size)).data.toList = (src.data.toList.drop a).take x.data.toList.length := by
      rw [extract_data, List.drop_take, size_data x, Nat.add_sub_cancel_left]
    rw [bEq_dec]
    simp only [hfit, decide_true, Bool.true_and]
    cases hp : x.data.toList.isPrefixOf (src.data.toList.drop a) with
    | true =>
      have h3 := List.isPrefixOf_iff_prefix.1 hp
      symm
      simp only [decide_eq_true_eq]
      apply ba_ext
      rw [h2]
      exact (List.prefix_iff_eq_take.1 h3).symm
    | false =>
      symm
      simp only [decide_eq_false_iff_not]
      intro h3
      have h4 : x.data.toList = (src.data.toList.drop a).take x.data.toList.length := by rw [← h2, h3]
      rw [List.isPrefixOf_iff_prefix.2 (List.prefix_iff_eq_take.2 h4)] at hp
      simp at hp
  · simp only [hfit, decide_false, Bool.false_and]
    cases hp : x.data.toList.isPrefixOf (src.data.toList.drop a) with
    | false => rfl
    | true =>
      have := (List.isPrefixOf_iff_prefix.1 hp).length_le
      rw [List.length_drop, ← size_data, ← size_data] at this
      omega
/-- a token of the reference as the program gives it -/
def mapT (r : TToken × Int × Int) : TToken × Int × Int := if r.2.2 = 0 then (⟨r.1.gKind, r.1.gText, r.1.gType, r.1.gN, 0⟩, r.2.1, 0) else (⟨0, ⟨#[]⟩, 0, 0, 0⟩, 0, r.2.2)
theorem marks_same (src : ByteArray) (a : Nat) (z z' : TToken) (hs : src.size ≤ 12000) (ha : a < src.size) (L : List ByteArray) (hL : L.length ≤ 100) (hx : ∀ x ∈ L, 1 ≤ x.size ∧ x.size ≤ 100) : ∀ (m k : Nat), k + m = L.length →
    ∃ r : TToken × Int × Int, R.l1One.l16372 src a L k z = some r ∧ I.one.l1012 src a L L.length k z' = some (mapT r) ∧ (r.2.2 = 0 → (a : Int) < r.2.1 ∧ r.2.1 ≤ src.size ∧ r.1.gAt = a) := by
  intro m
  induction m with
  | zero =>
    intro k hk
    rw [R.l1One.l16372_eq, I.one.l1012_eq, bif_f (ge_dec (k := k) (n := L.length) (by omega)), bif_f (ge_dec (k := k) (n := L.length) (by omega))]
    exact ⟨_, rfl, rfl, fun h => by simp at h⟩
  | succ m ih =>
    intro k hk
    have hkl : k < L.length := by omega
    have hxx := hx _ (List.getElem_mem hkl)
    obtain ⟨r, hr, hi, hp⟩ := ih (k + 1) (by omega)
    rw [R.l1One.l16372_eq, I.one.l1012_eq]
    simp only [lt_dec hkl, inB_nat hkl, cond_true, Int.toNat_natCast, getD_lt hkl, wi_succ (show k < 9223372036854775807 by omega), hr, hi]
    rw [bif_t (b := inS (a : Int) (src.size : Int) src.size) (inS_iff.2 ⟨by omega, by omega, by omega⟩), stands src L[k] a (by omega)]
    have w : IntKind.i64.wrap ((a : Int) + (L[k].size : Int)) = ((a + L[k].size : Nat) : Int) := by rw [wi (by omega) (by omega)]; omega
    rw [w]
    by_cases hfit : a + L[k].size ≤ src.size
    · rw [bif_t (b := decide (((a + L[k].size : Nat) : Int) ≤ (src.size : Int))) (by simp; omega), bif_t (inS_iff.2 ⟨by omega, by omega, by omega⟩), Int.toNat_natCast]
      simp only [hfit, decide_true, Bool.true_and]
      cases bEq (src.extract a (a + L[k].size)) L[k] with
      | true => exact ⟨_, rfl, rfl, fun _ => ⟨by show (a : Int) < ((a + L[k].size : Nat) : Int); omega, by show ((a + L[k].size : Nat) : Int) ≤ _; omega, rfl⟩⟩
      | false => exact ⟨r, rfl, rfl, hp⟩
    · rw [bif_f (b := decide (((a + L[k].size : Nat) : Int) ≤ (src.size : Int))) (by simp; omega)]
      simp only [hfit, decide_false, Bool.false_and, cond_false]
      exact ⟨r, rfl, rfl, hp⟩
end Go.KM.S1
