/- Plain laws: the text of a mark. Conditions: none. -/
import Derived.Test.YtgjcobbngimleaaLOrd
namespace Go.KM.L1
open Go Go.KM
open Go.KM.Fam (Dn dflt)
open Go.KM.Enc (cells sz mkE glob gany u8)
set_option autoImplicit false
set_option linter.unusedVariables false
set_option linter.unusedSimpArgs false
set_option maxRecDepth 100000
theorem mark_loop : ∀ (n : Nat) (k : Int) (out : ByteArray), 0 ≤ k → k < 10 ^ n → n ≤ 19 → out.size + n ≤ 100 → ∃ x, L.markText.l120 k out = some x := by
  intro n
  induction n with
  | zero =>
    intro k out h0 h1 _ h2
    rw [L.markText.l120_eq, bif_f (b := decide (k > 0)) (by have : k < 1 := h1; simp; omega), bif_t (b := decide (_ < 2 ^ 62)) (by simp only [decide_eq_true_eq]; show 1 + out.size < 2 ^ 62; omega)]
    exact ⟨_, rfl⟩
  | succ n ih =>
    intro k out h0 h1 hn h2
    by_cases hk : k = 0
    · subst hk
      rw [L.markText.l120_eq, bif_f (b := decide ((0 : Int) > 0)) (by decide), bif_t (b := decide (_ < 2 ^ 62)) (by simp only [decide_eq_true_eq]; show 1 + out.size < 2 ^ 62; omega)]
      exact ⟨_, rfl⟩
    · have hs : (strOfBytes (List.map (fun (x : Int) => x) [IntKind.u8.wrap (IntKind.i64.wrap (48 + k.tmod 10))])).size = 1 := rfl
      have hp : (10 : Int) ^ (n + 1) ≤ 10 ^ 19 := by exact_mod_cast Nat.pow_le_pow_right (by decide : 0 < 10) (by omega : n + 1 ≤ 19)
      have hd : k.tdiv 10 = k / 10 := Int.tdiv_eq_ediv_of_nonneg h0
      have hw : IntKind.i64.wrap (k.tdiv 10) = k / 10 := by
        rw [hd]
        exact wi (by omega) (by have : (10 : Int) ^ 19 = 10000000000000000000 := by decide
                                omega)
      rw [L.markText.l120_eq, bif_t (b := decide (k > 0)) (by simp; omega), bif_t (b := decide (_ < 2 ^ 62)) (by simp only [decide_eq_true_eq, hs]; omega), hw]
      refine ih _ _ (by omega) ?_ (by omega) (by rw [ByteArray.size_append, hs]; omega)
      have : (10 : Int) ^ (n + 1) = 10 ^ n * 10 := Int.pow_succ ..
      omega
theorem markText_some (k : Int) (h : k < 1000000000000000000) : ∃ x, L.markText k = some x := by
  rw [L.markText_eq]
  by_cases h0 : k ≤ 0
  · rw [bif_t (by simpa using h0)]; exact ⟨_, rfl⟩
  · rw [bif_f (by simpa using h0)]
    exact mark_loop 18 k _ (by omega) (by have : (10 : Int) ^ 18 = 1000000000000000000 := by decide
                                          omega) (by omega) (by decide)
/-- what is marked -/
noncomputable def mt (k : Int) : ByteArray := (L.markText k).getD ⟨#[]⟩
theorem markText_mt (k : Int) (h : k < 1000000000000000000) : L.markText k = some (mt k) := by
  obtain ⟨x, hx⟩ := markText_some k h
  unfold mt
  rw [hx]; rfl
theorem getD_set {α : Type} (v : List α) (n : Nat) (x d : α) (h : n < v.length) : (v.set n x).getD n d = x := by
  rw [List.getD_eq_getElem?_getD, List.getElem?_set_self h]; rfl
end Go.KM.L1
