/- Plain laws: trees by the program and by the reference are one. Conditions: none. -/
import Derived.Test.YtdhkmgloghlnnaaGreatDoorPh
namespace Go.KM.P1
open Go Go.KM
open Go.KM.Fam (Dn dflt)
open Go.KM.Enc (cells sz mkE glob gany u8)
set_option autoImplicit false
set_option linter.unusedVariables false
set_option linter.unusedSimpArgs false
set_option maxRecDepth 100000
structure Root (t : TTree) (out : List (List Nat)) (bs : List TNode_) (r : Nat) : Prop where
  hL : t.gNodes.length ≤ 12001
  hT : Tr t.gNodes t.gNodes.length [r] out bs
  hr : r + 1 = t.gNodes.length
  kind : (t.gNodes.getD r TNode.z).gKind = 24
  gd : ∀ j, j < t.gNodes.length → locB t.gNodes out j = true
  hh : Hh out r ≤ 60
theorem root_same (t : TTree) (hI : ∀ x ∈ t.gNodes, I64 x.gN) : (R.ValidTree t = some false ∧ I.validRoot t = some none) ∨
    ∃ out bs r, Root t out bs r ∧ R.ValidTree t = some true ∧ I.validRoot t = some bs[r]? ∧ R.l2Kids t = some (out.map toI, true) := by
  rw [R.ValidTree_eq, I.validRoot_eq, R.l2Kids_eq, I.grow_eq]
  generalize hL : t.gNodes = L at hI
  by_cases h0 : (L.length : Int) < 1
  · simp only [decide_eq_true h0, cond_true]
    exact .inl ⟨rfl, rfl⟩
  · by_cases h1 : (L.length : Int) > 12001
    · simp only [decide_eq_false h0, decide_eq_true h1, cond_true, cond_false]
      exact .inl ⟨rfl, rfl⟩
    · simp only [decide_eq_false h0, decide_eq_false h1, cond_false]
      have hb := build L (by omega) t hL L.length 0 [] [] [] (Tr.nil L) (by omega)
      rcases hb with ⟨hg, o, hk⟩ | ⟨op, out, bs, hT, hg, hk⟩
      · have hg : I.grow.l244 [] L L.length 0 = some none := hg
        have hk : R.l2Kids.l1012 L.length [] [] 0 t = some (o, false) := hk
        rw [hg, hk]
        exact .inl ⟨rfl, rfl⟩
      · have hg : I.grow.l244 [] L L.length 0 = (if op.length = 1 then some ((stk bs op).getD 0 none) else some none) := hg
        have hk : R.l2Kids.l1012 L.length [] [] 0 t = some (out.map toI, decide (op.length = 1)) := hk
        rw [hg, hk, Option.bind_some]
        by_cases h11 : op.length = 1
        · obtain ⟨r, rfl⟩ : ∃ r, op = [r] := by
            match op, h11 with
            | [r], _ => exact ⟨r, rfl⟩
          have hr : r + 1 = L.length := hT.la r rfl
          have hrl : r < L.length := by omega
          have hre : r = L.length - 1 := by omega
          rw [if_pos (show [r].length = 1 from rfl)]
          have hsr : (stk bs [r]).getD 0 none = bs[r]? := rfl
          rw [hsr, Option.bind_some]
          have hd1 : decide ([r].length = 1) = true := rfl
          simp only [hd1, Bool.not_true, cond_false]
          rw [ref_run (by omega) hI hT t hL (by omega)]
          obtain ⟨ks, ho, _, _, hbr, _⟩ := node_at (by omega) hI hT hrl
          have hok := ok_run (by omega) hI hT r hrl 0 (by omega)
          have hok : I.node_ok bs[r]? 0 = some (decide (0 + Hh out r ≤ 60) && Gd (locB L out) out r) := hok
          rw [hok]
          have e1 : bs[r]?.isNone = false := by rw [hbr]; rfl
          have e2 : bs[r]?.isSome = true := by rw [hbr]; rfl
          have e3 : (bs[r]?.getD TNode_.z).gNode.gKind = L[r].gKind := by rw [hbr]; rfl
          simp only [e1, e2, e3, cond_true, cond_false, Option.bind_some]
          have hcov := hT.cover (fun j => Hh out j ≤ 60 ∧ locB L out j = true) (fun j => Hh out j ≤ 60 ∧ Gd (locB L out) out j = true) (fun j kk hj => by
            have hjl : j < L.length := by have := (List.getElem?_eq_some_iff.1 hj).1; rw [hT.lo] at this; exact this
            obtain ⟨ks', ho', h1', _⟩ := node_at (by omega) hI hT hjl
            rw [hj] at ho'
            have ho' := Option.some.inj ho'
            subst ho'
            rw [Gd_eq hj h1', Hh_eq hj h1']
            simp only [Bool.and_eq_true, List.all_eq_true]
            constructor
            · rintro ⟨q1, q2, q3⟩
              exact ⟨⟨q1, q2⟩, fun k hk => ⟨by have := mxl_le.1 q1 k hk; omega, q3 k hk⟩⟩
            · rintro ⟨⟨q1, q2⟩, q3⟩
              exact ⟨q1, q2, fun k hk => (q3 k hk).2⟩)
          have hcov' : ((List.range L.length).all fun j => decide (Hh out j ≤ 60) && locB L out j) = (decide (Hh out r ≤ 60) && Gd (locB L out) out r) := by
            rw [Bool.eq_iff_iff]
            simp only [List.all_eq_true, List.mem_range, Bool.and_eq_true, decide_eq_true_eq]
            rw [hcov]
            simp
          rw [hcov', ← hre, getD_lt hrl, Nat.zero_add]
          cases hk24 : (L[r].gKind == 24) with
          | false =>
            have hne : (L[r].gKind != 24) = true := by simp [bne, hk24]
            rw [hne, Bool.and_false]
            exact .inl ⟨by first | rfl | trivial, rfl⟩
          | true =>
            have hne : (L[r].gKind != 24) = false := by simp [bne, hk24]
            rw [hne, Bool.and_true]
            cases hG : (decide (Hh out r ≤ 60) && Gd (locB L out) out r) with
            | false => exact .inl ⟨rfl, rfl⟩
            | true =>
              rw [hG, List.all_eq_true] at hcov'
              simp only [Bool.and_eq_true, decide_eq_true_eq] at hG
              subst hL
              exact .inr ⟨out, bs, r, ⟨by omega, hT, hr, by rw [getD_lt hrl]; simpa using hk24, fun j hj => by
                have := hcov' j (List.mem_range.2 hj)
                simp only [Bool.and_eq_true] at this
                exact this.2, hG.1⟩, by first | rfl | trivial | simp, by first | rfl | trivial | simp, by first | rfl | trivial | simp⟩
        · rw [if_neg h11]
          have hd1 : decide (op.length = 1) = false := by simpa using h11
          simp only [hd1, Bool.not_false, cond_true, Option.bind_some]
          exact .inl ⟨by first | rfl | trivial, rfl⟩
end Go.KM.P1
namespace Go.KM.P1
open Go Go.KM
open Go.KM.Fam (Dn dflt)
open Go.KM.Enc (cells sz mkE glob gany u8)
set_option autoImplicit false
set_option linter.unusedVariables false
set_option linter.unusedSimpArgs false
set_option maxRecDepth 100000
theorem szNodes_some (a : List TNode) (ha : a.length ≤ 2000000) (ht : ∀ x ∈ a, x.gText.size ≤ 9223372036854775807) : ∀ (m i : Nat) (left : Int), i + m = a.length → 0 ≤ left → left ≤ 2000000 → ∃ r, L.szNodeS.l244 a left i = some r := by
  intro m
  induction m with
  | zero => intro i left hi _ _; rw [L.szNodeS.l244_eq, bif_f (ge_dec (by omega))]; exact ⟨_, rfl⟩
  | succ m ih =>
    intro i left hi h0 h1
    have hil : i < a.length := by omega
    have hx := ht a[i] (List.getElem_mem hil)
    have w : IntKind.i64.wrap (left - (a[i].gText.size : Int)) = left - a[i].gText.size := wi (by omega) (by omega)
    rw [L.szNodeS.l244_eq, bif_t (lt_dec hil), bif_t (inB_nat hil), Int.toNat_natCast, getD_lt hil, L.szNode_eq, w]
    by_cases hn : left - (a[i].gText.size : Int) < 0
    · rw [bif_t (b := decide (left - (a[i].gText.size : Int) < 0)) (by simpa using hn), Option.bind_some, bif_t (b := decide ((-1 : Int) < 0)) rfl]
      exact ⟨_, rfl⟩
    · rw [bif_f (b := decide (left - (a[i].gText.size : Int) < 0)) (by simpa using hn), Option.bind_some, bif_f (b := decide (left - (a[i].gText.size : Int) < 0)) (by simpa using hn), wi_succ (by omega)]
      exact ih (i + 1) _ (by omega) (by omega) (by omega)
theorem sz_some (t : TTree) (hl : t.gNodes.length ≤ 9223372036854775807) (ht : ∀ x ∈ t.gNodes, x.gText.size ≤ 9223372036854775807) : ∃ r, L.szTree t 1048576 = some r ∧ (0 ≤ r → t.gNodes.length ≤ 1048576) := by
  rw [L.szTree_eq, L.szNodeS_eq]
  have w : IntKind.i64.wrap (1048576 - (t.gNodes.length : Int)) = 1048576 - t.gNodes.length := wi (by omega) (by omega)
  rw [w]
  by_cases hn : 1048576 - (t.gNodes.length : Int) < 0
  · rw [bif_t (b := decide (1048576 - (t.gNodes.length : Int) < 0)) (by simpa using hn), Option.bind_some, bif_t (b := decide ((-1 : Int) < 0)) rfl]
    exact ⟨_, rfl, fun h => by omega⟩
  · rw [bif_f (b := decide (1048576 - (t.gNodes.length : Int) < 0)) (by simpa using hn)]
    obtain ⟨r, hr⟩ := szNodes_some t.gNodes (by omega) ht t.gNodes.length 0 (1048576 - t.gNodes.length) (by omega) (by omega) (by omega)
    have hr : L.szNodeS.l244 t.gNodes (1048576 - t.gNodes.length) 0 = some r := hr
    rw [hr, Option.bind_some]
    cases decide (r < 0) with
    | true => exact ⟨_, rfl, fun h => by omega⟩
    | false => exact ⟨_, rfl, fun h => by omega⟩
theorem toNodes_run (a : List TNode) (ha : a.length ≤ 2000000) : ∀ (m i : Nat) (out : List TNode), i + m = a.length → out.length = a.length → out.take i = a.take i → L.toNodeS.l116 a out i = some a := by
  intro m
  induction m with
  | zero =>
    intro i out hi hl ht
    rw [L.toNodeS.l116_eq, bif_f (ge_dec (by omega))]
    rw [List.take_of_length_le (by omega), List.take_of_length_le (by omega)] at ht
    rw [ht]
  | succ m ih =>
    intro i out hi hl ht
    have hil : i < a.length := by omega
    rw [L.toNodeS.l116_eq, bif_t (lt_dec hil), bif_t (inB_nat hil), Int.toNat_natCast, getD_lt hil, L.toNode_eq, Option.bind_some, bif_t (inB_nat (by omega)), wi_succ (by omega)]
    have e : TNode.mk a[i].gKind a[i].gOp a[i].gType a[i].gN a[i].gText a[i].gKids = a[i] := rfl
    rw [e]
    refine ih (i + 1) _ (by omega) (by rw [List.length_set]; exact hl) ?_
    rw [List.take_add_one, List.take_add_one, List.take_set_of_le (Nat.le_refl _), ht, List.getElem?_set_self (by omega), List.getElem?_eq_getElem hil]
theorem toTree_id (t : TTree) (hl : t.gNodes.length ≤ 1048576) : L.toTree t = some t := by
  have h := toNodes_run t.gNodes (by omega) t.gNodes.length 0 (List.replicate t.gNodes.length (TNode.mk 0 0 0 0 ⟨#[]⟩ 0)) (by omega) (by simp) (by simp)
  have h : L.toNodeS.l116 t.gNodes (List.replicate t.gNodes.length (TNode.mk 0 0 0 0 ⟨#[]⟩ 0)) 0 = some t.gNodes := h
  rw [L.toTree_eq, L.toNodeS_eq, bif_t (by simp [room]; omega), h]
  rfl
theorem eqNodes_self (a : List TNode) (ha : a.length ≤ 2000000) : ∀ (m i : Nat), i + m = a.length → L.eqNodeS.l116 a a i = some true := by
  intro m
  induction m with
  | zero => intro i hi; rw [L.eqNodeS.l116_eq, bif_f (ge_dec (by omega))]
  | succ m ih =>
    intro i hi
    have hil : i < a.length := by omega
    rw [L.eqNodeS.l116_eq, bif_t (lt_dec hil), bif_t (inB_nat hil), bif_t (inB_nat hil), L.eqNode_eq]
    simp only [bne_self_eq_false, bEq_self, cond_false, Bool.not_true, Option.bind_some]
    rw [wi_succ (by omega)]
    exact ih (i + 1) (by omega)
theorem eqTree_self (t : TTree) (hl : t.gNodes.length ≤ 1048576) : L.eqTree t t = some true := by
  have h := eqNodes_self t.gNodes (by omega) t.gNodes.length 0 (by omega)
  have h : L.eqNodeS.l116 t.gNodes t.gNodes 0 = some true := h
  rw [L.eqTree_eq, L.eqNodeS_eq]
  simp only [bne_self_eq_false, cond_false, h]
  rfl
end Go.KM.P1
