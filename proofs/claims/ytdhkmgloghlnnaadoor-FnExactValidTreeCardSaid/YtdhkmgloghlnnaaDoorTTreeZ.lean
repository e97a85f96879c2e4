/- The plain law FnExactValidTree: it answers true. Conditions: none. -/
import Derived.Test.YtdhkmgloghlnnaaDoorTTreeB
namespace Go.KM.T1
open Go Go.KM
open Go.KM.Fam (Dn dflt)
open Go.KM.Enc (cells sz mkE glob gany u8)
set_option autoImplicit false
set_option linter.unusedVariables false
set_option linter.unusedSimpArgs false
set_option maxRecDepth 100000
theorem szNodes_some (a : List TNode) (ha : a.length ≤ 2000000) (ht : ∀ x ∈ a, x.gText.size ≤ 9223372036854775807) : ∀ (m i : Nat) (left : Int), i + m = a.length → 0 ≤ left → left ≤ 2000000 → ∃ r, L.szNodeS.l244 a left i = some r := by
  intro m
  induction m with
  | zero => intro i left hi _ _; rw [L.szNodeS.l244_eq, bif_f (ge_dec (by omega))]; exact ⟨_, rfl⟩
  | succ m ih =>
    intro i left hi h0 h1
    have hil : i < a.length := by omega
    have hx := ht a[i] (List.getElem_mem hil)
    have w : IntKind.i64.wrap (left - (a[i].gText.size : Int)) = left - a[i].gText.size := wi (by omega) (by omega)
    rw [L.szNodeS.l244_eq, bif_t (lt_dec hil), bif_t (inB_nat hil), Int.toNat_natCast, getD_lt hil, L.szNode_eq, w]
    by_cases hn : left - (a[i].gText.size : Int) < 0
    · rw [bif_t (b := decide (left - (a[i].gText.size : Int) < 0)) (by simpa using hn), Option.bind_some, bif_t (b := decide ((-1 : Int) < 0)) rfl]
      exact ⟨_, rfl⟩
    · rw [bif_f (b := decide (left - (a[i].gText.size : Int) < 0)) (by simpa using hn), Option.bind_some, bif_f (b := decide (left - (a[i].gText.size : Int) < 0)) (by simpa using hn), wi_succ (by omega)]
      exact ih (i + 1) _ (by omega) (by omega) (by omega)
theorem sz_some (t : TTree) (hl : t.gNodes.length ≤ 9223372036854775807) (ht : ∀ x ∈ t.gNodes, x.gText.size ≤ 9223372036854775807) : ∃ r, L.szTree t 1048576 = some r ∧ (0 ≤ r → t.gNodes.length ≤ 1048576) := by
  rw [L.szTree_eq, L.szNodeS_eq]
  have w : IntKind.i64.wrap (1048576 - (t.gNodes.length : Int)) = 1048576 - t.gNodes.length := wi (by omega) (by omega)
  rw [w]
  by_cases hn : 1048576 - (t.gNodes.length : Int) < 0
  · rw [bif_t (b := decide (1048576 - (t.gNodes.length : Int) < 0)) (by simpa using hn), Option.bind_some, bif_t (b := decide ((-1 : Int) < 0)) rfl]
    exact ⟨_, rfl, fun h => by omega⟩
  · rw [bif_f (b := decide (1048576 - (t.gNodes.length : Int) < 0)) (by simpa using hn)]
    obtain ⟨r, hr⟩ := szNodes_some t.gNodes (by omega) ht t.gNodes.length 0 (1048576 - t.gNodes.length) (by omega) (by omega) (by omega)
    have hr : L.szNodeS.l244 t.gNodes (1048576 - t.gNodes.length) 0 = some r := hr
    rw [hr, Option.bind_some]
    cases decide (r < 0) with
    | true => exact ⟨_, rfl, fun h => by omega⟩
    | false => exact ⟨_, rfl, fun h => by omega⟩
theorem toNodes_run (a : List TNode) (ha : a.length ≤ 2000000) : ∀ (m i : Nat) (out : List TNode), i + m = a.length → out.length = a.length → out.take i = a.take i → L.toNodeS.l116 a out i = some a := by
  intro m
  induction m with
  | zero =>
    intro i out hi hl ht
    rw [L.toNodeS.l116_eq, bif_f (ge_dec (by omega))]
    rw [List.take_of_length_le (by omega), List.take_of_length_le (by omega)] at ht
    rw [ht]
  | succ m ih =>
    intro i out hi hl ht
    have hil : i < a.length := by omega
    rw [L.toNodeS.l116_eq, bif_t (lt_dec hil), bif_t (inB_nat hil), Int.toNat_natCast, getD_lt hil, L.toNode_eq, Option.bind_some, bif_t (inB_nat (by omega)), wi_succ (by omega)]
    have e : TNode.mk a[i].gKind a[i].gOp a[i].gType a[i].gN a[i].gText a[i].gKids = a[i] := rfl
    rw [e]
    refine ih (i + 1) _ (by omega) (by rw [List.length_set]; exact hl) ?_
    rw [List.take_add_one, List.take_add_one, List.take_set_of_le (Nat.le_refl _), ht, List.getElem?_set_self (by omega), List.getElem?_eq_getElem hil]
theorem toTree_id (t : TTree) (hl : t.gNodes.length ≤ 1048576) : L.toTree t = some t := by
  have h := toNodes_run t.gNodes (by omega) t.gNodes.length 0 (List.replicate t.gNodes.length (TNode.mk 0 0 0 0 ⟨#[]⟩ 0)) (by omega) (by simp) (by simp)
  have h : L.toNodeS.l116 t.gNodes (List.replicate t.gNodes.length (TNode.mk 0 0 0 0 ⟨#[]⟩ 0)) 0 = some t.gNodes := h
  rw [L.toTree_eq, L.toNodeS_eq, bif_t (by simp [room]; omega), h]
  rfl
theorem eqNodes_self (a : List TNode) (ha : a.length ≤ 2000000) : ∀ (m i : Nat), i + m = a.length → L.eqNodeS.l116 a a i = some true := by
  intro m
  induction m with
  | zero => intro i hi; rw [L.eqNodeS.l116_eq, bif_f (ge_dec (by omega))]
  | succ m ih =>
    intro i hi
    have hil : i < a.length := by omega
    rw [L.eqNodeS.l116_eq, bif_t (lt_dec hil), bif_t (inB_nat hil), bif_t (inB_nat hil), L.eqNode_eq]
    simp only [bne_self_eq_false, bEq_self, cond_false, Bool.not_true, Option.bind_some]
    rw [wi_succ (by omega)]
    exact ih (i + 1) (by omega)
theorem eqTree_self (t : TTree) (hl : t.gNodes.length ≤ 1048576) : L.eqTree t t = some true := by
  have h := eqNodes_self t.gNodes (by omega) t.gNodes.length 0 (by omega)
  have h : L.eqNodeS.l116 t.gNodes t.gNodes 0 = some true := h
  rw [L.eqTree_eq, L.eqNodeS_eq]
  simp only [bne_self_eq_false, cond_false, h]
  rfl
theorem fnValidTree (t : TTree) (hl : t.gNodes.length ≤ 9223372036854775807) (ht : ∀ x ∈ t.gNodes, x.gText.size ≤ 9223372036854775807) (hI : ∀ x ∈ t.gNodes, I64 x.gN) : L.FnExactValidTree t = some true := by
  obtain ⟨r, hr, hrl⟩ := sz_some t hl ht
  rw [L.FnExactValidTree_eq, hr, Option.bind_some]
  by_cases h0 : r < 0
  · rw [bif_t (by simpa using h0)]
  · rw [bif_f (by simpa using h0)]
    have hlen := hrl (by omega)
    obtain ⟨b, h1, h2⟩ := tree_same t hI
    simp only [toTree_id t hlen, Option.bind_some, h1, h2, eqTree_self t hlen, beq_self_eq_true, Bool.not_true, cond_false]
end Go.KM.T1
