/- Plain laws: tokens are marked, and hold their marks; the law FnExactScan. Conditions: none. -/
import Derived.Test.YtgjcobbngimleaaDoorSOne
import Derived.Test.YtgjcobbngimleaaDoorSMark
namespace Go.KM.S1
open Go Go.KM
open Go.KM.Fam (Dn dflt)
open Go.KM.Enc (cells sz mkE glob gany u8)
set_option autoImplicit false
set_option linter.unusedVariables false
set_option linter.unusedSimpArgs false
set_option maxRecDepth 100000
noncomputable def mkd (k : Int) : TToken := ⟨k, mt (k + 1), k + 2, k + 3, k + 4⟩
theorem w5 {k : Int} (h0 : 0 ≤ k) (h1 : k < 900000000000000000) : IntKind.i64.wrap (k + 1) = k + 1 ∧ IntKind.i64.wrap (k + 1 + 1) = k + 2 ∧ IntKind.i64.wrap (k + 2 + 1) = k + 3 ∧ IntKind.i64.wrap (k + 3 + 1) = k + 4 ∧ IntKind.i64.wrap (k + 4 + 1) = k + 5 :=
  ⟨wi (by omega) (by omega), by rw [wi (by omega) (by omega)]; omega, by rw [wi (by omega) (by omega)]; omega, by rw [wi (by omega) (by omega)]; omega, by rw [wi (by omega) (by omega)]; omega⟩
theorem mark_run (n : Nat) (hn : n ≤ 100000000) : ∀ (m i : Nat) (v : List TToken), v.length = n → i + m = n → (∀ j, j < i → v[j]? = some (mkd (1 + 5 * (j : Int)))) →
    ∃ v', L.markTokenS.l52 (1 + 5 * (i : Int)) i v = some (1 + 5 * (n : Int), v') ∧ v'.length = n ∧ ∀ j, j < n → v'[j]? = some (mkd (1 + 5 * (j : Int))) := by
  intro m
  induction m with
  | zero =>
    intro i v hv him hj
    obtain rfl : i = n := by omega
    rw [L.markTokenS.l52_eq, bif_f (b := decide ((i : Int) < (v.length : Int))) (by rw [hv]; simp)]
    exact ⟨v, rfl, hv, hj⟩
  | succ m ih =>
    intro i v hv him hj
    have hlt : i < v.length := by omega
    obtain ⟨a1, a2, a3, a4, a5⟩ := w5 (k := 1 + 5 * (i : Int)) (by omega) (by omega)
    have hn' : (i : Int).toNat = i := by omega
    rw [L.markTokenS.l52_eq, bif_t (lt_dec hlt), bif_t (inB_nat hlt), a1, markText_mt _ (by omega), Option.bind_some]
    have hin : inB (i : Int) v.length = true := inB_nat hlt
    have g1 : ∀ x d, (v.set i x).getD i d = x := fun x d => getD_set v i x d hlt
    simp only [bnd_eq, hn', List.length_set, hin, cond_true, List.set_set, g1, a2, a3, a4, a5]
    rw [wi_succ (k := i) (by omega)]
    have e1 : (1 : Int) + 5 * (i : Int) + 5 = 1 + 5 * ((i + 1 : Nat) : Int) := by omega
    rw [e1]
    refine ih (i + 1) _ (by rw [List.length_set]; exact hv) (by omega) fun j hji => ?_
    by_cases h : j = i
    · subst h
      rw [List.getElem?_set_self hlt]; rfl
    · rw [List.getElem?_set_ne (Ne.symm h)]
      exact hj j (by omega)
theorem held_run (n : Nat) (hn : n ≤ 100000000) (v : List TToken) (hv : v.length = n) (hj : ∀ j, j < n → v[j]? = some (mkd (1 + 5 * (j : Int)))) : ∀ (m i : Nat), i + m = n → L.heldTokenS.l52 v (1 + 5 * (i : Int)) i = some (1 + 5 * (n : Int)) := by
  intro m
  induction m with
  | zero =>
    intro i him
    obtain rfl : i = n := by omega
    rw [L.heldTokenS.l52_eq, bif_f (b := decide ((i : Int) < (v.length : Int))) (by rw [hv]; simp)]
  | succ m ih =>
    intro i him
    have hlt : i < v.length := by omega
    obtain ⟨a1, a2, a3, a4, a5⟩ := w5 (k := 1 + 5 * (i : Int)) (by omega) (by omega)
    have hn' : (i : Int).toNat = i := by omega
    have hg : ∀ d, v.getD i d = mkd (1 + 5 * (i : Int)) := fun d => by rw [List.getD_eq_getElem?_getD, hj i (by omega)]; rfl
    have hin : inB (i : Int) v.length = true := inB_nat hlt
    rw [L.heldTokenS.l52_eq, bif_t (lt_dec hlt), a1, markText_mt _ (by omega), Option.bind_some]
    simp only [hn', hin, cond_true, hg, a2, a3, a4, a5, mkd, bne_self_eq_false, cond_false, bEq_self, Bool.not_true]
    rw [wi_succ (k := i) (by omega)]
    have e1 : (1 : Int) + 5 * (i : Int) + 5 = 1 + 5 * ((i + 1 : Nat) : Int) := by omega
    rw [e1]
    exact ih (i + 1) (by omega)
theorem eqToken_self (a : TToken) : L.eqToken a a = some true := by
  rw [L.eqToken_eq]
  simp only [bne_self_eq_false, cond_false, bEq_self, Bool.not_true]
theorem eqTokens_self (a : List TToken) (hl : a.length ≤ 100000000) : L.eqTokenS a a = some true := by
  have key : ∀ (m i : Nat), i + m = a.length → L.eqTokenS.l116 a a i = some true := by
    intro m
    induction m with
    | zero =>
      intro i hi
      rw [L.eqTokenS.l116_eq, bif_f (ge_dec (k := i) (n := a.length) (by omega))]
    | succ m ih =>
      intro i hi
      have hlt : i < a.length := by omega
      rw [L.eqTokenS.l116_eq, bif_t (lt_dec hlt), bif_t (inB_nat hlt), bif_t (inB_nat hlt), eqToken_self, Option.bind_some, Bool.not_true, cond_false, wi_succ (by omega)]
      exact ih (i + 1) (by omega)
  rw [L.eqTokenS_eq, bne_self_eq_false, cond_false]
  exact key a.length 0 (by omega)
theorem eqFault_self (a : TFault) : L.eqFault a a = some true := by
  rw [L.eqFault_eq]
  simp only [bne_self_eq_false, cond_false]
theorem fnScan (src : ByteArray) : L.FnExactScan src = some true := by
  rw [L.FnExactScan_eq]
  by_cases h : (src.size : Int) > 1048576
  · rw [bif_t (by simpa using h)]
  · rw [bif_f (by simpa using h)]
    obtain ⟨r, h1, h2, hl⟩ := scan_same src
    obtain ⟨v', m1, m2, m3⟩ := mark_run r.1.length (by omega) r.1.length 0 r.1 rfl (by omega) (fun j hj => by omega)
    have mk : L.markTokenS r.1 1 = some (1 + 5 * (r.1.length : Int), v') := by rw [L.markTokenS_eq]; exact m1
    have hd : L.heldTokenS v' 1 = some (1 + 5 * (r.1.length : Int)) := by rw [L.heldTokenS_eq]; exact held_run r.1.length (by omega) v' m2 m3 r.1.length 0 (by omega)
    have hneg : decide ((1 + 5 * (r.1.length : Int)) < 0) = false := by simp; omega
    simp only [h1, h2, Option.bind_some, eqTokens_self r.1 (by omega), eqFault_self, mk, hd, hneg, bne_self_eq_false, Bool.not_true, cond_false]
end Go.KM.S1
