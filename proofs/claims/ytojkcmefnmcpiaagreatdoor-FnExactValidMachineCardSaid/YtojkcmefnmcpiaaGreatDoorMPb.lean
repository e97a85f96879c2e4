/- Plain laws: what an instruction makes of a shape: the reference's. Conditions: none. -/
import Derived.Test.YtojkcmefnmcpiaaGreatDoorMPa
namespace Go.KM.M1
open Go Go.KM
open Go.KM.Fam (Dn dflt)
open Go.KM.Enc (cells sz mkE glob gany u8)
set_option autoImplicit false
set_option linter.unusedVariables false
set_option linter.unusedSimpArgs false
set_option maxRecDepth 100000
section
variable {c : TCode} {f : TFn} {sl st : List Int} {x : TIns}
theorem R_top (s : TShape) (hs : s.gStack.length ≤ 600) : R.l7Gives c f x s = R.l7Gives.l127 (s.gStack.length : Int) (top s.gStack) (below s.gStack) c f x s := by
 have h63 : R.l7Gives c f x s = R.l7Gives.l63 (s.gStack.length : Int) (top s.gStack) 0 c f x s := by
  rw [R.l7Gives_eq]
  by_cases h0 : s.gStack.length = 0
  ·rw [bif_f (b := decide ((s.gStack.length : Int) > 0)) (decide_eq_false (by omega))]
   have : top s.gStack = 0 := by unfold top; rw [List.length_eq_zero_iff.1 h0]; rfl
   rw [this]
  ·have e : IntKind.i64.wrap ((s.gStack.length : Int) - 1) = ((s.gStack.length - 1 : Nat) : Int) := by rw [wi (by omega) (by omega)]; omega
   rw [bif_t (b := decide ((s.gStack.length : Int) > 0)) (by simp; omega), e, bif_t (inB_nat (by omega)), Int.toNat_natCast]
   rfl
 rw [h63, R.l7Gives.l63_eq]
 by_cases h1 : 1 < s.gStack.length
 ·have e : IntKind.i64.wrap ((s.gStack.length : Int) - 2) = ((s.gStack.length - 2 : Nat) : Int) := by rw [wi (by omega) (by omega)]; omega
  rw [bif_t (b := decide ((s.gStack.length : Int) > 1)) (by simp; omega), e, bif_t (inB_nat (by omega)), Int.toNat_natCast]
  unfold below
  rw [if_pos h1]
 ·rw [bif_f (b := decide ((s.gStack.length : Int) > 1)) (by simp; omega)]
  unfold below
  rw [if_neg h1]
theorem R_args (g : TFn) (sl st : List Int) (hk : g.gParams.length ≤ st.length) (hs : st.length ≤ 600) (fin : Option (Int × (List Int × Bool)))
  (hf : (bif g.gResult == 0 then some ((g.gParams.length : Int), (([] : List Int), true)) else some ((g.gParams.length : Int), ([g.gResult], true))) = fin) : ∀ (m j : Nat), j + m = g.gParams.length →
  R.l7Gives.l8547991412 (st.length : Int) (g.gParams.length : Int) j ⟨1, sl, st⟩ g = if (st.drop (st.length - g.gParams.length)).drop j = g.gParams.drop j then fin else some (0, ([], false)) := by
 intro m
 induction m with
 | zero =>
  intro j hj
  rw [R.l7Gives.l8547991412_eq, bif_f (ge_dec (by omega)), List.drop_eq_nil_of_le (by simp; omega), List.drop_eq_nil_of_le (by omega), if_pos rfl]
  exact hf
 | succ m ih =>
  intro j hj
  have e1 : IntKind.i64.wrap ((st.length : Int) - (g.gParams.length : Int)) = ((st.length - g.gParams.length : Nat) : Int) := by rw [wi (by omega) (by omega)]; omega
  have e2 : IntKind.i64.wrap (((st.length - g.gParams.length : Nat) : Int) + (j : Int)) = ((st.length - g.gParams.length + j : Nat) : Int) := by rw [wi (by omega) (by omega)]; omega
  have hj1 : st.length - g.gParams.length + j < st.length := by omega
  have hj2 : j < g.gParams.length := by omega
  have hj3 : j < (st.drop (st.length - g.gParams.length)).length := by simp; omega
  rw [R.l7Gives.l8547991412_eq, bif_t (lt_dec hj2), e1, e2, bif_t (inB_nat hj1), bif_t (inB_nat hj2), Int.toNat_natCast, Int.toNat_natCast, getD_lt hj1, getD_lt hj2, wi_succ (by omega), ih (j + 1) (by omega), drop_get hj3, drop_get hj2]
  simp only [List.getElem_drop, List.cons.injEq]
  by_cases he : st[st.length - g.gParams.length + j] = g.gParams[j]
  ·rw [bif_f (by simpa using he)]; simp [he]
  ·rw [bif_t (by simpa using he)]; simp [he]
theorem cnt_eq (A : Int) (h : 1 ≤ A ∧ A ≤ 12) : ∃ w, R.l1BuiltWord A = some (w, ((wantR A).length : Int)) := by
 rw [R.l1BuiltWord_eq]
 rcases wants A h.1 h.2 with rfl | rfl | rfl | rfl | rfl | rfl | rfl | rfl | rfl | rfl | rfl | rfl <;> exact ⟨_, rfl⟩
theorem wantR_le (A : Int) : (wantR A).length ≤ 3 := by
 unfold wantR
 repeat' split
 all_goals simp
theorem R_gives (hc : CodeOk c) (hx : Is c f x) (h1 : (sl.length : Int) = f.gSlots) (h3 : st.length ≤ 600) (h4 : ∀ y ∈ st, 1 ≤ y ∧ y ≤ 10) :
  ∃ r, R.l7Gives c f x ⟨1, sl, st⟩ = some r ∧ match gv c f x sl st with
   | none => r.2.2 = false
   | some (k, ps) => r = ((k : Int), (ps, true)) := by
 obtain ⟨t0, t10, tz⟩ := top_range h4
 obtain ⟨b0, b10, bz⟩ := below_range h4
 rw [R_top ⟨1, sl, st⟩ h3]
 simp only
 have hn : (st.length : Int) > 0 ↔ st.length ≠ 0 := by omega
 cases hx with
 | push A N T hA =>
  rw [R.l7Gives.l127_eq]
  exact ⟨_, rfl, rfl⟩
 | slot op A ho hA =>
  rcases ho with rfl | rfl
  ·have hk : A.toNat < sl.length := by omega
   have hb : inB A sl.length = true := by simp [inB]; omega
   rw [R.l7Gives.l127_eq]
   simp only [Int.reduceBEq, cond_true, cond_false, hb]
   refine ⟨_, rfl, ?_⟩
   unfold gv
   simp only [show ¬ ((2 : Int) = 1) by decide, if_true, if_false]
   by_cases hz : sl.getD A.toNat 0 = 0
   ·rw [if_pos hz, hz]; rfl
   ·rw [if_neg hz, bne_iff_ne.2 hz]; rfl
  ·rw [R.l7Gives.l127_eq]
   simp only [Int.reduceBEq, cond_true, cond_false]
   rw [R.l7Gives.l32607_eq]
   refine ⟨_, rfl, ?_⟩
   unfold gv
   simp only [show ¬ ((3 : Int) = 1) by decide, show ¬ ((3 : Int) = 2) by decide, true_or, if_true, if_false]
   by_cases hz : st.length = 0
   ·simp [hz]
   ·simp [hz]; omega
 | un A hA =>
  rw [R.l7Gives.l127_eq]
  simp only [Int.reduceBEq, cond_true, cond_false]
  rw [R.l7Gives.l32607_eq]
  simp only [Int.reduceBEq, cond_true, cond_false, R_un, Option.bind_some]
  refine ⟨_, rfl, ?_⟩
  unfold gv
  simp only [show ¬ ((5 : Int) = 1) by decide, show ¬ ((5 : Int) = 2) by decide, show ¬ ((5 : Int) = 3 ∨ (5 : Int) = 4) by decide, if_true, if_false]
  by_cases hz : unT A (top st) = 0 <;> simp [hz]
 | bin A hA =>
  rw [R.l7Gives.l127_eq]
  simp only [Int.reduceBEq, cond_true, cond_false]
  rw [R.l7Gives.l32607_eq]
  simp only [Int.reduceBEq, cond_true, cond_false, R_bin _ _ _ hA.1 hA.2, Option.bind_some]
  refine ⟨_, rfl, ?_⟩
  unfold gv
  simp only [show ¬ ((6 : Int) = 1) by decide, show ¬ ((6 : Int) = 2) by decide, show ¬ ((6 : Int) = 3 ∨ (6 : Int) = 4) by decide, show ¬ ((6 : Int) = 5) by decide, if_true, if_false]
  by_cases hz : binT A (below st) (top st) = 0 <;> simp [hz]
 | conv A hA =>
  rw [R.l7Gives.l127_eq]
  simp only [Int.reduceBEq, cond_true, cond_false]
  rw [R.l7Gives.l32607_eq]
  simp only [Int.reduceBEq, cond_true, cond_false, R_integer, Option.bind_some]
  refine ⟨_, rfl, ?_⟩
  unfold gv
  simp only [show ¬ ((7 : Int) = 1) by decide, show ¬ ((7 : Int) = 2) by decide, show ¬ ((7 : Int) = 3 ∨ (7 : Int) = 4) by decide, show ¬ ((7 : Int) = 5) by decide, show ¬ ((7 : Int) = 6) by decide, if_true, if_false]
  by_cases hz : 3 ≤ top st
  ·simp [hz, t10]
  ·simp [hz]
 | built A hA =>
  obtain ⟨w, hw⟩ := cnt_eq A hA
  have hwl := wantR_le A
  rw [R.l7Gives.l127_eq]
  simp only [Int.reduceBEq, cond_true, cond_false]
  rw [R.l7Gives.l32607_eq]
  simp only [Int.reduceBEq, cond_true, cond_false, hw, Option.bind_some]
  unfold gv
  simp only [show ¬ ((8 : Int) = 1) by decide, show ¬ ((8 : Int) = 2) by decide, show ¬ ((8 : Int) = 3 ∨ (8 : Int) = 4) by decide, show ¬ ((8 : Int) = 5) by decide, show ¬ ((8 : Int) = 6) by decide, show ¬ ((8 : Int) = 7) by decide, if_true, if_false]
  by_cases hk : (wantR A).length ≤ st.length
  ·have e : IntKind.i64.wrap ((st.length : Int) - ((wantR A).length : Int)) = ((st.length - (wantR A).length : Nat) : Int) := by rw [wi (by omega) (by omega)]; omega
   rw [bif_f (by simp; omega), e, bif_t (inS_iff.2 ⟨by omega, by omega, by omega⟩)]
   have es : sub st ((st.length - (wantR A).length : Nat) : Int) (st.length : Int) = st.drop (st.length - (wantR A).length) := by
    unfold sub; rw [Int.toNat_natCast, Int.toNat_natCast, List.take_length]
   rw [es, R_btype A _ hA.1 hA.2 (by simp; omega), Option.bind_some]
   refine ⟨_, rfl, ?_⟩
   change match (if (wantR A).length ≤ st.length ∧ btT A (st.drop (st.length - (wantR A).length)) ≠ 0 then some ((wantR A).length, [btT A (st.drop (st.length - (wantR A).length))]) else none) with
    | none => (btT A (st.drop (st.length - (wantR A).length)) != 0) = false
    | some (k, ps) => (((wantR A).length : Int), [btT A (st.drop (st.length - (wantR A).length))], btT A (st.drop (st.length - (wantR A).length)) != 0) = ((k : Int), (ps, true))
   by_cases hz : btT A (st.drop (st.length - (wantR A).length)) = 0 <;> simp [hz, hk]
  ·rw [bif_t (by simp; omega)]
   refine ⟨_, rfl, ?_⟩
   simp [hk]
 | call A hA =>
  have hAn : A.toNat < c.gFns.length := by omega
  have hb : inB A c.gFns.length = true := by simp [inB]; omega
  have hg := hc.f _ (List.getElem_mem hAn)
  have hgp := hg.p8
  rw [R.l7Gives.l127_eq]
  simp only [Int.reduceBEq, cond_true, cond_false]
  rw [R.l7Gives.l32607_eq]
  simp only [Int.reduceBEq, cond_true, cond_false, hb]
  unfold gv
  simp only [show ¬ ((9 : Int) = 1) by decide, show ¬ ((9 : Int) = 2) by decide, show ¬ ((9 : Int) = 3 ∨ (9 : Int) = 4) by decide, show ¬ ((9 : Int) = 5) by decide, show ¬ ((9 : Int) = 6) by decide, show ¬ ((9 : Int) = 7) by decide, show ¬ ((9 : Int) = 8) by decide, if_true, if_false]
  rw [getD_lt hAn]
  generalize c.gFns[A.toNat] = g at hg hgp
  by_cases hk : g.gParams.length ≤ st.length
  ·rw [bif_f (by simp; omega)]
   have := R_args g sl st hk h3 _ rfl g.gParams.length 0 (by omega)
   have h : R.l7Gives.l8547991412 (st.length : Int) (g.gParams.length : Int) 0 ⟨1, sl, st⟩ g = _ := this
   rw [h, List.drop_zero, List.drop_zero]
   by_cases he : st.drop (st.length - g.gParams.length) = g.gParams
   ·rw [if_pos he, if_pos ⟨hk, he⟩]
    by_cases hz : g.gResult = 0 <;> simp [bif_if, hz]
   ·rw [if_neg he, if_neg (fun h => he h.2)]
    exact ⟨_, rfl, rfl⟩
  ·rw [bif_t (by simp; omega)]
   refine ⟨_, rfl, ?_⟩
   simp [hk]
 | jump op A ho hA =>
  rcases ho with rfl | rfl
  ·rw [R.l7Gives.l127_eq]
   simp only [Int.reduceBEq, cond_true, cond_false]
   rw [R.l7Gives.l32607_eq]
   simp only [Int.reduceBEq, cond_true, cond_false]
   rw [R.l7Gives.l2136997887_eq]
   exact ⟨_, rfl, by simp [gv]⟩
  ·rw [R.l7Gives.l127_eq]
   simp only [Int.reduceBEq, cond_true, cond_false]
   rw [R.l7Gives.l32607_eq]
   simp only [Int.reduceBEq, cond_true, cond_false]
   refine ⟨_, rfl, ?_⟩
   by_cases hz : top st = 1 <;> simp [gv, hz]
 | ret A hA =>
  rw [R.l7Gives.l127_eq]
  simp only [Int.reduceBEq, cond_true, cond_false]
  rw [R.l7Gives.l32607_eq]
  simp only [Int.reduceBEq, cond_true, cond_false]
  rcases hA with ⟨rfl, _⟩ | ⟨rfl, _⟩
  ·simp only [Int.reduceBEq, cond_true, cond_false]
   by_cases hz : st.length = 0
   ·rw [bif_f (b := decide ((st.length : Int) > 0)) (decide_eq_false (by omega))]
    exact ⟨_, rfl, by simp [gv, List.length_eq_zero_iff.1 hz]⟩
   ·rw [bif_t (b := decide ((st.length : Int) > 0)) (decide_eq_true (by omega))]
    refine ⟨_, rfl, ?_⟩
    have : ¬ st = [] := fun h => hz (by rw [h]; rfl)
    by_cases ht : top st = f.gResult <;> simp [gv, this, ht]
  ·exact ⟨_, rfl, by simp [gv]⟩
 | rest op ho =>
  rw [R.l7Gives.l127_eq]
  rcases ho with rfl | rfl | rfl | rfl | rfl <;> simp only [Int.reduceBEq, cond_true, cond_false] <;> rw [R.l7Gives.l32607_eq] <;> simp only [Int.reduceBEq, cond_true, cond_false]
  ·refine ⟨_, rfl, ?_⟩
   by_cases hz : st.length = 0
   ·simp [gv, List.length_eq_zero_iff.1 hz]
   ·have : ¬ st = [] := fun h => hz (by rw [h]; rfl)
    simp [gv, this]; omega
  ·rw [R.l7Gives.l2136997887_eq]
   refine ⟨_, rfl, ?_⟩
   by_cases ht : top st = 2 <;> simp [gv, ht]
  ·rw [R.l7Gives.l2136997887_eq]
   simp only [Int.reduceBEq, cond_true, cond_false]
   by_cases ht : top st = 2
   ·by_cases hb : below st = 2 <;> simp [gv, ht, hb]
   ·simp [gv, ht, bif_if]
  ·rw [R.l7Gives.l2136997887_eq]
   refine ⟨_, rfl, ?_⟩
   by_cases ht : top st = 2 <;> simp [gv, ht]
  ·rw [R.l7Gives.l2136997887_eq]
   exact ⟨_, rfl, by simp [gv]⟩
end
section
variable {c : TCode} {f : TFn} {sl st : List Int} {x : TIns}
theorem R_goes (x : TIns) (i : Nat) (hi : i < 9223372036854775807) : R.l7Goes x i = some (goz x i) := by
 rw [R.l7Goes_eq, R.l7Goes.l53_eq, R.l7Goes.l53_eq, wi_succ hi]
 unfold goz
 by_cases h1 : x.gOp = 12 <;> by_cases h2 : x.gOp = 13 <;> by_cases h3 : x.gOp = 10 <;> by_cases h4 : x.gOp = 11 <;> first | omega | simp [bif_if, h1, h2, h3, h4]
theorem I_goes (x : TIns) (i : Nat) (hi : i < 9223372036854775807) : I.next x i = some (goz x i) := by
 rw [I.next_eq, I.next.l53_eq, I.next.l53_eq, wi_succ hi]
 unfold goz
 by_cases h1 : x.gOp = 12 <;> by_cases h2 : x.gOp = 13 <;> by_cases h3 : x.gOp = 10 <;> by_cases h4 : x.gOp = 11 <;> first | omega | simp [bif_if, h1, h2, h3, h4]
theorem R_out (takes : Int) (puts goes : List Int) (f : TFn) (s t8 : TShape) (i : TIns) (bad : TShape) (hg : goes.length ≤ 2) : ∀ (m k : Nat), k + m = goes.length →
  R.l7Behind.l4084 takes puts goes k f s t8 i bad = if (goes.drop k).any (fun j => decide (j ≥ (f.gIns.length : Int))) = true then some bad else R.l7Behind.l4084 takes puts goes goes.length f s t8 i bad := by
 intro m
 induction m with
 | zero =>
  intro k hk
  have : k = goes.length := by omega
  subst this
  rw [List.drop_eq_nil_of_le (Nat.le_refl _)]
  simp
 | succ m ih =>
  intro k hk
  have hkl : k < goes.length := by omega
  rw [R.l7Behind.l4084_eq, bif_t (lt_dec hkl), bif_t (inB_nat hkl), Int.toNat_natCast, getD_lt hkl, wi_succ (by omega), ih (k + 1) (by omega), drop_get hkl, List.any_cons]
  by_cases h : goes[k] ≥ (f.gIns.length : Int)
  ·rw [bif_t (decide_eq_true h), if_pos (by simp [h])]
  ·rw [bif_f (decide_eq_false h), decide_eq_false h, Bool.false_or]
theorem R_behind (hc : CodeOk c) (hf : FnOk c f) {S i : Nat} (hS : f.gSlots = S) (hi : i < f.gIns.length) {s : TShape} (hs : Wf S s) : R.l7Behind c f i s = some (bhF c f i s) := by
 have hi5 := hf.h.i5
 have hS2 := hf.h.s200
 rw [R.l7Behind_eq, bif_t (inB_nat hi)]
 unfold bhF
 cases hs with
 | no => rfl
 | bad => rfl
 | is sl st h1 h2 h3 h4 =>
  simp only [bne_self_eq_false, cond_false, if_true, Int.toNat_natCast]
  obtain ⟨r, hr, hm⟩ := R_gives (c := c) (sl := sl) hc (is_at hf hi) (by omega) h3 h4
  rw [hr, Option.bind_some]
  unfold eff
  cases hg : gv c f (f.gIns.getD i TIns.z) sl st with
  | none =>
   rw [hg] at hm
   have hm : r.2.2 = false := hm
   rw [hm]; rfl
  | some q =>
   obtain ⟨k, ps⟩ := q
   rw [hg] at hm
   have hm : r = ((k : Int), (ps, true)) := hm
   subst hm
   obtain ⟨g1, g2, g3⟩ := gv_ok hc (is_at hf hi) hf.h.r10 h2 h4 hg
   simp only [Bool.not_true, cond_false]
   rw [bif_f (b := decide ((k : Int) > (st.length : Int))) (decide_eq_false (by omega)), R_goes _ _ (by omega), Option.bind_some]
   have hgl := goz2 (f.gIns.getD i TIns.z) i
   have := R_out k ps (goz (f.gIns.getD i TIns.z) i) f ⟨1, sl, st⟩ ⟨0, [], []⟩ (f.gIns.getD i TIns.z) ⟨2, [], []⟩ hgl _ 0 (Nat.zero_add _)
   have h : R.l7Behind.l4084 k ps (goz (f.gIns.getD i TIns.z) i) 0 f ⟨1, sl, st⟩ ⟨0, [], []⟩ (f.gIns.getD i TIns.z) ⟨2, [], []⟩ = _ := this
   rw [h, List.drop_zero]
   split
   ·rfl
   ·have e : IntKind.i64.wrap ((st.length : Int) - (k : Int)) = ((st.length - k : Nat) : Int) := by rw [wi (by omega) (by omega)]; omega
    rw [R.l7Behind.l4084_eq, bif_f (ge_dec (Nat.le_refl _))]
    simp only [e]
    have es : sub st 0 ((st.length - k : Nat) : Int) = st.take (st.length - k) := by unfold sub; simp
    rw [bif_t (b := room (0 + sl.length) 8) (room_ok (by omega)), bif_t (inS_iff.2 ⟨by omega, by omega, by omega⟩), es]
    have hl : (st.take (st.length - k)).length ≤ 600 := by simp; omega
    rw [bif_t (b := room (0 + (st.take (st.length - k)).length) 8) (room_ok (by omega)), bif_t (b := room ((st.take (st.length - k)).length + ps.length) 8) (room_ok (by omega))]
    by_cases hh : (st.take (st.length - k) ++ ps).length > 600
    ·rw [bif_t (decide_eq_true (by omega)), if_pos hh]; rfl
    ·rw [bif_f (decide_eq_false (by omega)), if_neg hh]
     by_cases h3' : (f.gIns.getD i TIns.z).gOp = 3
     ·rw [bif_t (by simpa using h3'), if_pos h3']
      have hx := is_at hf hi
      have hA : 0 ≤ (f.gIns.getD i TIns.z).gA ∧ (f.gIns.getD i TIns.z).gA < f.gSlots := by
       generalize f.gIns.getD i TIns.z = x at hx h3'
       cases hx with
       | slot op A ho hA => exact hA
       | jump op A ho hA => rcases ho with rfl | rfl <;> simp at h3'
       | rest op ho => rcases ho with rfl | rfl | rfl | rfl | rfl <;> simp at h3'
       | _ => simp at h3'
      have hn : st.length ≠ 0 := by
       intro hn
       unfold gv at hg
       rw [h3'] at hg
       simp [List.length_eq_zero_iff.1 hn] at hg
      have e1 : IntKind.i64.wrap ((st.length : Int) - 1) = ((st.length - 1 : Nat) : Int) := by rw [wi (by omega) (by omega)]; omega
      rw [e1, bif_t (inB_nat (by omega)), bif_t (inB_iff.2 ⟨hA.1, by omega⟩), Int.toNat_natCast]
      rfl
     ·rw [bif_f (by simpa using h3'), if_neg h3']
      rfl
theorem R_same (a b : List Int) (ha : a.length ≤ 1048576) : R.l7SameInts a b = some (decide (a = b)) := by
 rw [R.l7SameInts_eq]
 by_cases hl : a.length = b.length
 ·rw [bif_f (by simp; omega)]
  have key : ∀ (m k : Nat), k + m = a.length → R.l7SameInts.l116 a b k = some (decide (a.drop k = b.drop k)) := by
   intro m
   induction m with
   | zero => intro k hk; rw [R.l7SameInts.l116_eq, bif_f (ge_dec (by omega)), List.drop_eq_nil_of_le (by omega), List.drop_eq_nil_of_le (by omega)]; rfl
   | succ m ih =>
    intro k hk
    have h1 : k < a.length := by omega
    have h2 : k < b.length := by omega
    rw [R.l7SameInts.l116_eq, bif_t (lt_dec h1), bif_t (inB_nat h1), bif_t (inB_nat h2), Int.toNat_natCast, getD_lt h1, getD_lt h2, wi_succ (by omega), ih (k + 1) (by omega), drop_get h1, drop_get h2]
    by_cases he : a[k] = b[k]
    ·rw [bif_f (by simpa using he)]; simp only [he, List.cons.injEq, true_and]
    ·rw [bif_t (by simpa using he)]; simp only [he, List.cons.injEq, false_and, decide_false]
  exact key a.length 0 (by omega)
 ·rw [bif_t (by simp; omega), decide_eq_false fun h => hl (by rw [h])]
theorem I_same (a b : List Int) (ha : a.length ≤ 1048576) : I.sameInts a b = some (decide (a = b)) := by
 rw [I.sameInts_eq]
 by_cases hl : a.length = b.length
 ·rw [bif_f (by simp; omega)]
  have key : ∀ (m k : Nat), k + m = a.length → I.sameInts.l116 a b a.length k = some (decide (a.drop k = b.drop k)) := by
   intro m
   induction m with
   | zero => intro k hk; rw [I.sameInts.l116_eq, bif_f (ge_dec (by omega)), List.drop_eq_nil_of_le (by omega), List.drop_eq_nil_of_le (by omega)]; rfl
   | succ m ih =>
    intro k hk
    have h1 : k < a.length := by omega
    have h2 : k < b.length := by omega
    rw [I.sameInts.l116_eq, bif_t (lt_dec h1), bif_t (inB_nat h1), bif_t (inB_nat h2), Int.toNat_natCast, getD_lt h1, getD_lt h2, wi_succ (by omega), ih (k + 1) (by omega), drop_get h1, drop_get h2]
    by_cases he : a[k] = b[k]
    ·rw [bif_f (by simpa using he)]; simp only [he, List.cons.injEq, true_and]
    ·rw [bif_t (by simpa using he)]; simp only [he, List.cons.injEq, false_and, decide_false]
  exact key a.length 0 (by omega)
 ·rw [bif_t (by simp; omega), decide_eq_false fun h => hl (by rw [h])]
theorem zip_drop {l l' : List Int} (h : l.length = l'.length) {k : Nat} (hk : k < l.length) : List.zipWith meet (l.take (k + 1)) (l'.take (k + 1)) = List.zipWith meet (l.take k) (l'.take k) ++ [meet l[k] (l'[k]'(by omega))] := by
 have h2 : k < l'.length := by omega
 have e1 : l.take (k + 1) = l.take k ++ [l[k]] := by rw [List.take_add_one, List.getElem?_eq_getElem hk]; rfl
 have e2 : l'.take (k + 1) = l'.take k ++ [l'[k]] := by rw [List.take_add_one, List.getElem?_eq_getElem h2]; rfl
 rw [e1, e2, List.zipWith_append (by simp; omega)]
 rfl
theorem R_join_loop (sl sl' st st' : List Int) (hl : sl.length = sl'.length) (hS : sl.length ≤ 200) (t4 : TShape) : ∀ (m k : Nat) (ch : Bool), k + m = sl.length → ch = decide (List.zipWith meet (sl.take k) (sl'.take k) ≠ sl.take k) →
  R.l7Join.l2036 ch k ⟨1, sl, st⟩ ⟨1, sl', st'⟩ t4 1 (List.zipWith meet (sl.take k) (sl'.take k)) st = some (⟨1, List.zipWith meet sl sl', st⟩, decide (List.zipWith meet sl sl' ≠ sl)) := by
 intro m
 induction m with
 | zero =>
  intro k ch hk hch
  rw [R.l7Join.l2036_eq, bif_f (ge_dec (by simp; omega))]
  rw [List.take_of_length_le (by omega), List.take_of_length_le (by omega)] at hch ⊢
  rw [hch]
 | succ m ih =>
  intro k ch hk hch
  have h1 : k < sl.length := by omega
  have h2 : k < sl'.length := by omega
  have hz : (List.zipWith meet (sl.take k) (sl'.take k)).length = k := by simp; omega
  have hmeet : sl.take (k + 1) = sl.take k ++ [sl[k]] := by rw [List.take_add_one, List.getElem?_eq_getElem h1]; rfl
  have step : ∀ ch' : Bool, ch' = (ch || decide (meet sl[k] sl'[k] ≠ sl[k])) → R.l7Join.l2036 ch' ((k + 1 : Nat) : Int) ⟨1, sl, st⟩ ⟨1, sl', st'⟩ t4 1 (List.zipWith meet (sl.take k) (sl'.take k) ++ [meet sl[k] sl'[k]]) st = some (⟨1, List.zipWith meet sl sl', st⟩, decide (List.zipWith meet sl sl' ≠ sl)) := fun ch' hch' => by
   have := ih (k + 1) ch' (by omega) (by
    rw [hch', hch, zip_drop hl h1, hmeet, Bool.eq_iff_iff]
    simp only [Bool.or_eq_true, decide_eq_true_eq, ne_eq]
    constructor
    ·rintro (h | h) hh
     ·exact h (List.append_inj_left hh (by simp; omega))
     ·exact h (by simpa using List.append_inj_right hh (by simp; omega))
    ·intro h
     by_cases hh : List.zipWith meet (sl.take k) (sl'.take k) = sl.take k
     ·exact .inr fun e => h (by rw [hh, e])
     ·exact .inl hh)
   rw [zip_drop hl h1] at this
   exact this
  rw [R.l7Join.l2036_eq, bif_t (lt_dec h1), bif_t (inB_nat h1), bif_t (inB_nat h2), Int.toNat_natCast, getD_lt h1, getD_lt h2, wi_succ (by omega)]
  have hr : ∀ v : Int, room ((List.zipWith meet (sl.take k) (sl'.take k)).length + [v].length) 8 = true := fun v => room_ok (by rw [hz]; simp; omega)
  by_cases he : sl[k] = sl'[k]
  ·rw [bif_f (by simpa using he), bif_t (hr _)]
   have e : meet sl[k] sl'[k] = sl[k] := if_pos he
   have := step ch (by rw [e]; simp)
   rw [e] at this; exact this
  ·rw [bif_t (by simpa using he)]
   have e : meet sl[k] sl'[k] = 0 := if_neg he
   by_cases h0 : sl[k] = 0
   ·rw [bif_f (by simpa using h0), bif_t (hr _)]
    have := step ch (by rw [e, h0]; simp)
    rw [e] at this; rw [h0]; exact this
   ·rw [bif_t (by simpa using h0), bif_t (room_ok (by rw [hz]; simp; omega))]
    have := step true (by rw [e]; simp; exact .inr fun h => h0 h.symm)
    rw [e] at this; exact this
theorem R_join {S : Nat} (hS : S ≤ 200) {a b : TShape} (ha : Wf S a) (hb : Wf S b) : R.l7Join a b = some (jn a b, decide (jn a b ≠ a)) := by
 rw [R.l7Join_eq]
 unfold jn
 cases hb with
 | no => simp [none_]
 | bad =>
  cases ha with
  | no => simp [none_, bads]
  | bad => simp [bads]
  | is sl st h1 h2 h3 h4 => simp [bads]
 | is sl' st' h5 h6 h7 h8 =>
  cases ha with
  | no => simp [none_]
  | bad => simp [bads]
  | is sl st h1 h2 h3 h4 =>
   simp only [Int.reduceBEq, cond_false, show ¬ ((1 : Int) = 0 ∨ (1 : Int) = 2) by decide, if_false]
   rw [R_same _ _ (by omega), Option.bind_some]
   by_cases he : st = st'
   ·subst he
    rw [decide_eq_true rfl, Bool.not_true, cond_false, if_neg (by simp)]
    have := R_join_loop sl sl' st st (by omega) (by omega) ⟨0, [], []⟩ sl.length 0 false (by omega) (by simp)
    have h : R.l7Join.l2036 false 0 ⟨1, sl, st⟩ ⟨1, sl', st⟩ ⟨0, [], []⟩ 1 [] st = _ := this
    rw [h]
    simp
   ·rw [decide_eq_false he, Bool.not_false, cond_true, if_pos he]
    simp [bads]
theorem I_join_loop (sl sl' st st' : List Int) (hl : sl.length = sl'.length) (hS : sl.length ≤ 200) (t4 : TShape) : ∀ (m k : Nat) (ch : Bool), k + m = sl.length → ch = decide (List.zipWith meet (sl.take k) (sl'.take k) ≠ sl.take k) →
  I.join.l1012 (List.zipWith meet (sl.take k) (sl'.take k) ++ sl.drop k) ch sl.length k ⟨1, sl, st⟩ ⟨1, sl', st'⟩ t4 = some (⟨1, List.zipWith meet sl sl', st⟩, decide (List.zipWith meet sl sl' ≠ sl)) := by
 intro m
 induction m with
 | zero =>
  intro k ch hk hch
  rw [I.join.l1012_eq, bif_f (ge_dec (by omega))]
  rw [List.take_of_length_le (by omega), List.take_of_length_le (by omega)] at hch ⊢
  rw [hch, List.drop_eq_nil_of_le (by omega), List.append_nil]
 | succ m ih =>
  intro k ch hk hch
  have h1 : k < sl.length := by omega
  have h2 : k < sl'.length := by omega
  have hz : (List.zipWith meet (sl.take k) (sl'.take k)).length = k := by simp; omega
  have hmeet : sl.take (k + 1) = sl.take k ++ [sl[k]] := by rw [List.take_add_one, List.getElem?_eq_getElem h1]; rfl
  have step : ∀ ch' : Bool, ch' = (ch || decide (meet sl[k] sl'[k] ≠ sl[k])) → I.join.l1012 (List.zipWith meet (sl.take k) (sl'.take k) ++ meet sl[k] sl'[k] :: sl.drop (k + 1)) ch' sl.length ((k + 1 : Nat) : Int) ⟨1, sl, st⟩ ⟨1, sl', st'⟩ t4 = some (⟨1, List.zipWith meet sl sl', st⟩, decide (List.zipWith meet sl sl' ≠ sl)) := fun ch' hch' => by
   have := ih (k + 1) ch' (by omega) (by
    rw [hch', hch, zip_drop hl h1, hmeet, Bool.eq_iff_iff]
    simp only [Bool.or_eq_true, decide_eq_true_eq, ne_eq]
    constructor
    ·rintro (h | h) hh
     ·exact h (List.append_inj_left hh (by simp; omega))
     ·exact h (by simpa using List.append_inj_right hh (by simp; omega))
    ·intro h
     by_cases hh : List.zipWith meet (sl.take k) (sl'.take k) = sl.take k
     ·exact .inr fun e => h (by rw [hh, e])
     ·exact .inl hh)
   rw [zip_drop hl h1, List.append_assoc] at this
   exact this
  have hg : (List.zipWith meet (sl.take k) (sl'.take k) ++ sl.drop k).getD k 0 = sl[k] := by
   rw [drop_get h1, List.getD_eq_getElem?_getD, List.getElem?_append_right (by omega), hz]
   simp [List.getElem?_eq_getElem h1]
  have hlen : (List.zipWith meet (sl.take k) (sl'.take k) ++ sl.drop k).length = sl.length := by simp; omega
  have hset : (List.zipWith meet (sl.take k) (sl'.take k) ++ sl.drop k).set k 0 = List.zipWith meet (sl.take k) (sl'.take k) ++ 0 :: sl.drop (k + 1) := by
   rw [List.set_append_right _ _ (by omega), hz, Nat.sub_self, drop_get h1]; rfl
  rw [I.join.l1012_eq, bif_t (lt_dec h1), bif_t (inB_nat (by omega)), bif_t (inB_nat h2), Int.toNat_natCast, hg, getD_lt h2, wi_succ (by omega), bif_t (inB_nat (by omega)), bif_t (inB_nat (by omega)), hset]
  by_cases he : sl[k] = sl'[k]
  ·rw [bif_f (by simpa using he)]
   have e : meet sl[k] sl'[k] = sl[k] := if_pos he
   have := step ch (by rw [e]; simp)
   rw [e, ← drop_get h1] at this; exact this
  ·rw [bif_t (by simpa using he)]
   have e : meet sl[k] sl'[k] = 0 := if_neg he
   by_cases h0 : sl[k] = 0
   ·rw [bif_f (by simpa using h0)]
    have := step ch (by rw [e, h0]; simp)
    rw [e] at this
    have e2 : (0 : Int) :: sl.drop (k + 1) = sl.drop k := by rw [drop_get h1, h0]
    rw [e2] at this; exact this
   ·rw [bif_t (by simpa using h0)]
    have := step true (by rw [e]; simp; exact .inr fun h => h0 h.symm)
    rw [e] at this; exact this
theorem zip_self (l : List Int) : List.zipWith meet l l = l := by
 induction l with
 | nil => rfl
 | cons x l ih => simp [meet, ih]
theorem I_join {S : Nat} (hS : S ≤ 200) {a b : TShape} (ha : Wf S a) (hb : Wf S b) : I.join a b = some (jn a b, decide (jn a b ≠ a)) := by
 rw [I.join_eq]
 unfold jn
 cases hb with
 | no => cases ha <;> simp [none_, bads]
 | bad =>
  cases ha with
  | no => simp [none_, bads]
  | bad => simp [bads]
  | is sl st h1 h2 h3 h4 => simp [bads]
 | is sl' st' h5 h6 h7 h8 =>
  cases ha with
  | no => simp [none_]
  | bad => simp [bads]
  | is sl st h1 h2 h3 h4 =>
   simp only [Int.reduceBEq, cond_false, show ¬ ((1 : Int) = 0 ∨ (1 : Int) = 2) by decide, if_false]
   rw [I_same _ _ (by omega), Option.bind_some]
   by_cases he : st = st'
   ·subst he
    rw [decide_eq_true rfl, Bool.not_true, cond_false, if_neg (by simp), I_same _ _ (by omega), Option.bind_some]
    by_cases hs : sl = sl'
    ·subst hs
     rw [decide_eq_true rfl, cond_true, zip_self]
     simp
    ·rw [decide_eq_false hs, cond_false, bif_t (room_ok (by omega))]
     have := I_join_loop sl sl' st st (by omega) (by omega) ⟨0, [], []⟩ sl.length 0 false (by omega) (by simp)
     have h : I.join.l1012 sl false sl.length 0 ⟨1, sl, st⟩ ⟨1, sl', st⟩ ⟨0, [], []⟩ = _ := this
     rw [h]
     simp
   ·rw [decide_eq_false he, Bool.not_false, cond_true, if_pos he]
    simp [bads]
end
section
variable {c : TCode} {f : TFn} {sl st : List Int} {x : TIns}
theorem I_pop (m : List Int) (n : Nat) (hm : m.length ≤ 600) : I.effect_1 m () (n : Int) = some (if m.length < n then (none, (m, ())) else (some (m.drop (m.length - n)), (m.take (m.length - n), ()))) := by
 rw [I.effect_1_eq]
 by_cases h : m.length < n
 ·rw [bif_t (decide_eq_true (by omega)), if_pos h]
 ·have e : IntKind.i64.wrap ((m.length : Int) - (n : Int)) = ((m.length - n : Nat) : Int) := by rw [wi (by omega) (by omega)]; omega
  rw [bif_f (decide_eq_false (by omega)), if_neg h, e, bif_t (inS_iff.2 ⟨by omega, by omega, by omega⟩), bif_t (inS_iff.2 ⟨by omega, by omega, by omega⟩)]
  simp [sub]
theorem I_cmp (want : List Int) (l m : List Int) (hl : l.length = want.length) (hw : want.length ≤ 600) : ∀ (q k : Nat), k + q = want.length → I.effect_2.l244 want (some l) want.length k m = some (decide (l.drop k = want.drop k), (m, ())) := by
 intro q
 induction q with
 | zero => intro k hk; rw [I.effect_2.l244_eq, bif_f (ge_dec (by omega)), List.drop_eq_nil_of_le (by omega), List.drop_eq_nil_of_le (by omega)]; rfl
 | succ q ih =>
  intro k hk
  have h1 : k < l.length := by omega
  have h2 : k < want.length := by omega
  rw [I.effect_2.l244_eq, bif_t (lt_dec h2)]
  simp only [Option.getD_some]
  rw [bif_t (inB_nat h1), bif_t (inB_nat h2), Int.toNat_natCast, getD_lt h1, getD_lt h2, wi_succ (by omega), ih (k + 1) (by omega), drop_get h1, drop_get h2]
  by_cases he : l[k] = want[k]
  ·rw [bif_f (by simpa using he)]; simp only [he, List.cons.injEq, true_and]
  ·rw [bif_t (by simpa using he)]; simp only [he, List.cons.injEq, false_and, decide_false]
theorem I_take (m want : List Int) (hm : m.length ≤ 600) (hw : want.length ≤ 600) :
  if want.length ≤ m.length ∧ m.drop (m.length - want.length) = want then I.effect_2 m () want = some (true, (m.take (m.length - want.length), ())) else ∃ m', I.effect_2 m () want = some (false, (m', ())) := by
 rw [I.effect_2_eq, I_pop m want.length hm, Option.bind_some]
 by_cases h : m.length < want.length
 ·rw [if_neg (by omega), if_pos h]
  refine ⟨m, ?_⟩
  simp only [foC, Option.isNone_none, cond_true]
  rw [bif_t (decide_eq_true (by omega))]
 ·rw [if_neg h]
  simp only
  have hc := I_cmp want (m.drop (m.length - want.length)) (m.take (m.length - want.length)) (by simp; omega) hw want.length 0 (by omega)
  have hc : I.effect_2.l244 want (some (m.drop (m.length - want.length))) want.length 0 (m.take (m.length - want.length)) = _ := hc
  rw [List.drop_zero, List.drop_zero] at hc
  have key : (bif foC (some (m.drop (m.length - want.length))) then bif Option.isNone (some (m.drop (m.length - want.length))) then bif decide ((want.length : Int) > 0) then some (false, (m.take (m.length - want.length), ())) else I.effect_2.l244 want (some (m.drop (m.length - want.length))) want.length 0 (m.take (m.length - want.length))
    else I.effect_2.l244 want (some (m.drop (m.length - want.length))) want.length 0 (m.take (m.length - want.length))
    else amb (bif decide ((want.length : Int) > 0) then some (false, (m.take (m.length - want.length), ())) else I.effect_2.l244 want (some (m.drop (m.length - want.length))) want.length 0 (m.take (m.length - want.length)))
     (I.effect_2.l244 want (some (m.drop (m.length - want.length))) want.length 0 (m.take (m.length - want.length)))) = some (decide (m.drop (m.length - want.length) = want), (m.take (m.length - want.length), ())) := by
   cases hf : foC (some (m.drop (m.length - want.length))) with
   | true => simp only [cond_true, Option.isNone_some, cond_false]; exact hc
   | false =>
    simp only [cond_false]
    refine amb_eq ?_ hc
    have : (m.drop (m.length - want.length)).length = 0 := by
     simp only [foC, Bool.not_eq_false', List.isEmpty_iff] at hf
     rw [hf]; rfl
    have hw0 : want.length = 0 := by simp at this; omega
    rw [bif_f (decide_eq_false (by omega))]
    exact hc
  rw [key]
  by_cases he : m.drop (m.length - want.length) = want
  ·rw [if_pos ⟨by omega, he⟩, decide_eq_true he]
  ·rw [if_neg (fun h => he h.2), decide_eq_false he]
   exact ⟨_, rfl⟩
def putI (sl m : List Int) (put : Int) : TShape × Bool := if (m ++ if put = 0 then [] else [put]).length > 600 then (none_, false) else (⟨1, sl, m ++ if put = 0 then [] else [put]⟩, true)
theorem I_put (put : Int) (sl st m : List Int) (t8 : TShape) (hm : m.length ≤ 600) : I.effect.l511 put ⟨1, sl, st⟩ t8 m = some (putI sl m put) := by
 rw [I.effect.l511_eq]
 unfold putI
 by_cases h : put = 0
 ·subst h
  simp only [bne_self_eq_false, cond_false, if_true, List.append_nil]
  rw [bif_f (decide_eq_false (by omega)), if_neg (by omega)]
 ·rw [bif_t (by simpa using h), bif_t (room_ok (by omega)), bif_t (room_ok (by simp; omega)), if_neg h]
  by_cases hl : (m ++ [put]).length > 600
  ·rw [bif_t (decide_eq_true (by omega)), if_pos hl]; rfl
  ·rw [bif_f (decide_eq_false (by omega)), if_neg hl]
def efI (c : TCode) (f : TFn) (i : Nat) (sl st : List Int) : TShape × Bool :=
 match eff c f i sl st with
 | none => (none_, false)
 | some o => (o, true)
theorem I_out (goes : List Int) (c : TCode) (f : TFn) (s t8 : TShape) (x : TIns) (hg : goes.length ≤ 2) (hn : ∀ j ∈ goes, j ≤ (f.gIns.length : Int)) : ∀ (m k : Nat), k + m = goes.length →
  I.effect.l116 goes goes.length k c f s t8 x = if (goes.drop k).any (fun j => decide (j ≥ (f.gIns.length : Int))) = true then some (none_, false) else I.effect.l116 goes goes.length goes.length c f s t8 x := by
 intro m
 induction m with
 | zero =>
  intro k hk
  have : k = goes.length := by omega
  subst this
  rw [List.drop_eq_nil_of_le (Nat.le_refl _)]
  simp
 | succ m ih =>
  intro k hk
  have hkl : k < goes.length := by omega
  have := hn _ (List.getElem_mem hkl)
  rw [I.effect.l116_eq, bif_t (lt_dec hkl), bif_t (inB_nat hkl), Int.toNat_natCast, getD_lt hkl, wi_succ (by omega), ih (k + 1) (by omega), drop_get hkl, List.any_cons]
  by_cases h : goes[k] ≥ (f.gIns.length : Int)
  ·rw [bif_t (by simp; omega), if_pos (by simp [h])]; rfl
  ·rw [bif_f (by simp; omega), decide_eq_false h, Bool.false_or]
theorem pop_get1 (h : 1 ≤ st.length) : (st.drop (st.length - 1)).getD 0 0 = top st ∧ (st.drop (st.length - 1)).length = 1 := by
 unfold top
 refine ⟨?_, by simp; omega⟩
 rw [List.getD_eq_getElem?_getD, List.getD_eq_getElem?_getD, List.getElem?_drop]; rfl
theorem pop_get2 (h : 2 ≤ st.length) : (st.drop (st.length - 2)).getD 0 0 = below st ∧ (st.drop (st.length - 2)).getD 1 0 = top st ∧ (st.drop (st.length - 2)).length = 2 := by
 unfold top below
 rw [if_pos (by omega)]
 refine ⟨?_, ?_, by simp; omega⟩
 ·rw [List.getD_eq_getElem?_getD, List.getD_eq_getElem?_getD, List.getElem?_drop]; rfl
 ·rw [List.getD_eq_getElem?_getD, List.getD_eq_getElem?_getD, List.getElem?_drop, show st.length - 2 + 1 = st.length - 1 by omega]
theorem foC_cons {l : List Int} (h : l.length ≠ 0) : foC (some l) = true := by
 cases l with
 | nil => simp at h
 | cons => rfl
theorem drop1 (h : 1 ≤ st.length) : st.drop (st.length - 1) = [top st] := by
 obtain ⟨h1, h2⟩ := pop_get1 h
 match hd : st.drop (st.length - 1), h2 with
 | [a], _ => rw [hd] at h1; simp at h1; rw [h1]
theorem drop2 (h : 2 ≤ st.length) : st.drop (st.length - 2) = [below st, top st] := by
 obtain ⟨h1, h2, h3⟩ := pop_get2 h
 match hd : st.drop (st.length - 2), h3 with
 | [a, b], _ => rw [hd] at h1 h2; simp at h1 h2; rw [h1, h2]
def doneI (x : TIns) (sl st : List Int) : Option (Nat × List Int) → TShape × Bool
 | none => (none_, false)
 | some (k, ps) => if (st.take (st.length - k) ++ ps).length > 600 then (none_, false) else (⟨1, if x.gOp = 3 then sl.set x.gA.toNat (top st) else sl, st.take (st.length - k) ++ ps⟩, true)
theorem put_done {x : TIns} (h3 : x.gOp ≠ 3) (sl st : List Int) (k : Nat) (put : Int) : putI sl (st.take (st.length - k)) put = doneI x sl st (some (k, if put = 0 then [] else [put])) := by
 unfold putI doneI
 simp only [h3, if_false]
theorem I_done (hc : CodeOk c) (hx : Is c f x) (hr : f.gResult ≤ 10) (h1 : (sl.length : Int) = f.gSlots) (h1' : sl.length ≤ 200) (h2 : ∀ y ∈ sl, 0 ≤ y ∧ y ≤ 10) (h3 : st.length ≤ 600) (h4 : ∀ y ∈ st, 1 ≤ y ∧ y ≤ 10) (goes : List Int) (t8 : TShape) :
  I.effect.l116 goes goes.length goes.length c f ⟨1, sl, st⟩ t8 x = some (doneI x sl st (gv c f x sl st)) := by
 obtain ⟨t0, t10, tz⟩ := top_range h4
 obtain ⟨b0, b10, bz⟩ := below_range h4
 have hp1 := I_pop st 1 h3
 have hp1 : I.effect_1 st () 1 = _ := hp1
 have hp2 := I_pop st 2 h3
 have hp2 : I.effect_1 st () 2 = _ := hp2
 have hk : ∀ k, (st.take (st.length - k)).length ≤ 600 := fun k => by simp; omega
 have hk0 : st = st.take (st.length - 0) := by rw [Nat.sub_zero, List.take_length]
 rw [I.effect.l116_eq, bif_f (ge_dec (Nat.le_refl _))]
 cases hx with
 | push A N T hA =>
  simp only [Int.reduceBEq, cond_true, cond_false]
  rw [I_put _ _ _ _ _ h3]
  have := put_done (x := ⟨1, A, N, T⟩) (by simp) sl st 0 A
  rw [if_neg (by omega), ← hk0] at this
  rw [this]
  rfl
 | slot op A ho hA =>
  have hb : inB A sl.length = true := by simp [inB]; omega
  rcases ho with rfl | rfl
  ·simp only [Int.reduceBEq, cond_true, cond_false, hb]
   by_cases hz : sl.getD A.toNat 0 = 0
   ·rw [bif_t (beq_iff_eq.2 hz)]
    unfold gv
    simp only [show ¬ ((2 : Int) = 1) by decide, if_true, if_false, hz]
    rfl
   ·rw [bif_f (by rw [beq_eq_false_iff_ne]; exact hz), I_put _ _ _ _ _ h3]
    have := put_done (x := ⟨2, A, 0, ⟨#[]⟩⟩) (by simp) sl st 0 (sl.getD A.toNat 0)
    rw [if_neg hz, ← hk0] at this
    rw [this]
    unfold gv
    simp only [show ¬ ((2 : Int) = 1) by decide, if_true, if_false, hz]
  ·simp only [Int.reduceBEq, cond_true, cond_false, hb, hp1, Option.bind_some]
   unfold gv
   simp only [show ¬ ((3 : Int) = 1) by decide, show ¬ ((3 : Int) = 2) by decide, true_or, if_true, if_false]
   by_cases hz : st.length = 0
   ·rw [if_pos (by omega), if_pos hz]; rfl
   ·rw [if_neg (by omega), if_neg hz]
    simp only [drop1 (show 1 ≤ st.length by omega)]
    simp only [foC, List.isEmpty_cons, Bool.not_false, cond_true, Option.isNone_some, cond_false, Option.getD_some]
    rw [bif_t (room_ok (by omega))]
    unfold doneI
    simp only [List.append_nil, if_true]
    rw [if_neg (by have := hk 1; omega)]
    rfl
 | un A hA =>
  simp only [Int.reduceBEq, cond_true, cond_false, hp1, Option.bind_some]
  unfold gv
  simp only [show ¬ ((5 : Int) = 1) by decide, show ¬ ((5 : Int) = 2) by decide, show ¬ ((5 : Int) = 3 ∨ (5 : Int) = 4) by decide, if_true, if_false]
  by_cases hz : st.length = 0
  ·rw [if_pos (by omega), if_pos (by rw [tz hz]; unfold unT; simp)]; rfl
  ·rw [if_neg (by omega)]
   simp only [drop1 (show 1 ≤ st.length by omega)]
   simp only [foC, List.isEmpty_cons, Bool.not_false, cond_true, Option.isNone_some, cond_false, Option.getD_some]
   have e : ([top st] : List Int).getD 0 0 = top st := rfl
   have e2 : inB 0 ([top st] : List Int).length = true := rfl
   rw [e, e2, cond_true, I_un _ _ hA.1 hA.2, Option.bind_some]
   by_cases hu : unT A (top st) = 0
   ·rw [bif_t (by simpa using hu), if_pos hu]; rfl
   ·rw [bif_f (by simpa using hu), if_neg hu, I_put _ _ _ _ _ (hk 1)]
    have ht := unT_range A (top st) ⟨t0, t10⟩
    have eu : unT A (top st) = top st := by
     unfold unT at hu ⊢
     split at hu
     ·rename_i h2; rw [if_pos h2]; split at hu
      ·rename_i h; rw [if_pos h, h]
      ·simp at hu
     ·rename_i h2; rw [if_neg h2]; split at hu
      ·rename_i h; rw [if_pos h]
      ·simp at hu
    have := put_done (x := ⟨5, A, 0, ⟨#[]⟩⟩) (by simp) sl st 1 (top st)
    rw [if_neg (by omega)] at this
    rw [cond_true, this, eu]
 | bin A hA =>
  simp only [Int.reduceBEq, cond_true, cond_false, hp2, Option.bind_some]
  unfold gv
  simp only [show ¬ ((6 : Int) = 1) by decide, show ¬ ((6 : Int) = 2) by decide, show ¬ ((6 : Int) = 3 ∨ (6 : Int) = 4) by decide, show ¬ ((6 : Int) = 5) by decide, if_true, if_false]
  by_cases hz : st.length < 2
  ·rw [if_pos (by omega), if_pos (by rw [bz (by omega)]; unfold binT; simp)]; rfl
  ·rw [if_neg (by omega)]
   simp only [drop2 (show 2 ≤ st.length by omega)]
   simp only [foC, List.isEmpty_cons, Bool.not_false, cond_true, Option.isNone_some, cond_false, Option.getD_some]
   have e : ([below st, top st] : List Int).getD 0 0 = below st := rfl
   have e' : ([below st, top st] : List Int).getD 1 0 = top st := rfl
   have e2 : inB 0 ([below st, top st] : List Int).length = true := rfl
   have e3 : inB 1 ([below st, top st] : List Int).length = true := rfl
   rw [e, e', e2, e3, cond_true, cond_true, I_bin _ _ _ hA.1 hA.2 b0 b10, Option.bind_some]
   by_cases hu : binT A (below st) (top st) = 0
   ·rw [bif_t (by simpa using hu), if_pos hu]; rfl
   ·rw [bif_f (by simpa using hu), if_neg hu, I_put _ _ _ _ _ (hk 2)]
    have := put_done (x := ⟨6, A, 0, ⟨#[]⟩⟩) (by simp) sl st 2 (binT A (below st) (top st))
    rw [if_neg hu] at this
    rw [this]
 | conv A hA =>
  simp only [Int.reduceBEq, cond_true, cond_false, hp1, Option.bind_some]
  unfold gv
  simp only [show ¬ ((7 : Int) = 1) by decide, show ¬ ((7 : Int) = 2) by decide, show ¬ ((7 : Int) = 3 ∨ (7 : Int) = 4) by decide, show ¬ ((7 : Int) = 5) by decide, show ¬ ((7 : Int) = 6) by decide, if_true, if_false]
  by_cases hz : st.length = 0
  ·rw [if_pos (by omega), if_neg (by rw [tz hz]; omega)]; rfl
  ·rw [if_neg (by omega)]
   simp only [drop1 (show 1 ≤ st.length by omega)]
   simp only [foC, List.isEmpty_cons, Bool.not_false, cond_true, Option.isNone_some, cond_false, Option.getD_some]
   have e : ([top st] : List Int).getD 0 0 = top st := rfl
   have e2 : inB 0 ([top st] : List Int).length = true := rfl
   rw [e, e2, cond_true, I_integer, Option.bind_some]
   by_cases hu : 3 ≤ top st ∧ top st ≤ 10
   ·rw [bif_f (by simp [hu]), if_pos hu, I_put _ _ _ _ _ (hk 1)]
    have := put_done (x := ⟨7, A, 0, ⟨#[]⟩⟩) (by simp) sl st 1 A
    rw [if_neg (by omega)] at this
    rw [this]
   ·rw [bif_t (by simp; omega), if_neg hu]; rfl
 | built A hA =>
  have hcl : inB A ([0, 1, 1, 1, 2, 0, 1, 2, 3, 2, 1, 1, 1] : List Int).length = true := by simp [inB]; omega
  have hcn : ([0, 1, 1, 1, 2, 0, 1, 2, 3, 2, 1, 1, 1] : List Int).getD A.toNat 0 = ((wantR A).length : Int) := by
   rcases wants A hA.1 hA.2 with rfl | rfl | rfl | rfl | rfl | rfl | rfl | rfl | rfl | rfl | rfl | rfl <;> rfl
  have hwl := wantR_le A
  have hb : ∀ l : List Int, l.length ≤ 600 → (∀ y ∈ l, 1 ≤ y) → I.builtType A l = some (btT A l) := fun l hl hy => by
   rw [I_btype A l hA.1 hA.2 (by omega)]
   unfold btT
   simp only [same_types A l hA.1 hA.2 hy]
  simp only [Int.reduceBEq, cond_true, cond_false]
  rw [hcn, I_pop _ _ h3, Option.bind_some]
  have hcl' : inB A [0, 1, 1, 1, 2, 0, 1, 2, 3, 2, 1, 1, 1].length = true := hcl
  rw [bif_t hcl']
  unfold gv
  simp only [show ¬ ((8 : Int) = 1) by decide, show ¬ ((8 : Int) = 2) by decide, show ¬ ((8 : Int) = 3 ∨ (8 : Int) = 4) by decide, show ¬ ((8 : Int) = 5) by decide, show ¬ ((8 : Int) = 6) by decide, show ¬ ((8 : Int) = 7) by decide, if_true, if_false]
  by_cases hz : st.length < (wantR A).length
  ·rw [if_pos hz, if_neg (by omega), bif_t (decide_eq_true (by omega))]; rfl
  ·rw [if_neg hz]
   have hbt := hb (st.drop (st.length - (wantR A).length)) (by simp; omega) (fun y hy => (h4 y (List.mem_of_mem_drop hy)).1)
   simp only [Option.getD_some, Option.isNone_some, cond_false]
   rw [hbt, Option.bind_some]
   have fin : (bif btT A (st.drop (st.length - (wantR A).length)) == 0 then some ((⟨0, [], []⟩ : TShape), false) else I.effect.l511 (btT A (st.drop (st.length - (wantR A).length))) ⟨1, sl, st⟩ t8 (st.take (st.length - (wantR A).length))) =
     some (doneI ⟨8, A, 0, ⟨#[]⟩⟩ sl st (if (wantR A).length ≤ st.length ∧ btT A (st.drop (st.length - (wantR A).length)) ≠ 0 then some ((wantR A).length, [btT A (st.drop (st.length - (wantR A).length))]) else none)) := by
    by_cases hu : btT A (st.drop (st.length - (wantR A).length)) = 0
    ·rw [bif_t (by simpa using hu), if_neg (by simp [hu])]; rfl
    ·rw [bif_f (by simpa using hu), if_pos ⟨by omega, hu⟩, I_put _ _ _ _ _ (hk _)]
     have := put_done (x := ⟨8, A, 0, ⟨#[]⟩⟩) (by simp) sl st (wantR A).length (btT A (st.drop (st.length - (wantR A).length)))
     rw [if_neg hu] at this
     rw [this]
   by_cases hw0 : (wantR A).length = 0
   ·rw [bif_f (decide_eq_false (by omega))]; exact fin
   ·rw [bif_t (decide_eq_true (by omega)), foC_cons (by simp; omega), cond_true]; exact fin
 | call A hA =>
  have hAn : A.toNat < c.gFns.length := by omega
  have hb : inB A c.gFns.length = true := by simp [inB]; omega
  have hg := hc.f _ (List.getElem_mem hAn)
  have hgp := hg.p8
  simp only [Int.reduceBEq, cond_true, cond_false, hb]
  unfold gv
  simp only [show ¬ ((9 : Int) = 1) by decide, show ¬ ((9 : Int) = 2) by decide, show ¬ ((9 : Int) = 3 ∨ (9 : Int) = 4) by decide, show ¬ ((9 : Int) = 5) by decide, show ¬ ((9 : Int) = 6) by decide, show ¬ ((9 : Int) = 7) by decide, show ¬ ((9 : Int) = 8) by decide, if_true, if_false]
  rw [getD_lt hAn]
  generalize c.gFns[A.toNat] = g at hg hgp
  have ht := I_take st g.gParams h3 (by omega)
  split at ht
  ·rename_i hh
   rw [ht, Option.bind_some, if_pos hh]
   simp only [Bool.not_true, cond_false]
   rw [I_put _ _ _ _ _ (hk _), put_done (x := ⟨9, A, 0, ⟨#[]⟩⟩) (by simp)]
  ·rename_i hh
   obtain ⟨m', hm'⟩ := ht
   rw [hm', Option.bind_some, if_neg hh]
   rfl
 | jump op A ho hA =>
  rcases ho with rfl | rfl
  ·simp only [Int.reduceBEq, cond_true, cond_false]
   rw [I.effect.l17137926143_eq]
   simp only [Int.reduceBEq, cond_true, cond_false]
   rw [I_put _ _ _ _ _ h3]
   have := put_done (x := ⟨10, A, 0, ⟨#[]⟩⟩) (by simp) sl st 0 0
   rw [if_pos rfl, ← hk0] at this
   rw [this]
   simp [gv]
  ·simp only [Int.reduceBEq, cond_true, cond_false]
   have ht := I_take st [1] h3 (by simp)
   have hd : ([1] : List Int).length = 1 := rfl
   rw [hd] at ht
   have hiff : (1 ≤ st.length ∧ st.drop (st.length - 1) = [1]) ↔ top st = 1 := by
    constructor
    ·rintro ⟨a, b⟩; rw [drop1 a] at b; simpa using b
    ·intro a
     have h1 : 1 ≤ st.length := by
      by_cases hz : st.length = 0
      ·rw [tz hz] at a; omega
      ·omega
     exact ⟨h1, by rw [drop1 h1, a]⟩
   unfold gv
   simp only [Int.reduceEq, if_true, if_false, or_self, or_false, false_or]
   split at ht
   ·rename_i hh
    rw [ht, Option.bind_some, if_pos (hiff.1 hh)]
    simp only [Bool.not_true, cond_false]
    rw [I_put _ _ _ _ _ (hk _)]
    have := put_done (x := ⟨11, A, 0, ⟨#[]⟩⟩) (by simp) sl st 1 0
    rw [if_pos rfl] at this
    rw [this]
   ·rename_i hh
    obtain ⟨m', hm'⟩ := ht
    rw [hm', Option.bind_some, if_neg (fun h => hh (hiff.2 h))]
    rfl
 | ret A hA =>
  simp only [Int.reduceBEq, cond_true, cond_false]
  rcases hA with ⟨rfl, hr0⟩ | ⟨rfl, hr0⟩
  ·simp only [Int.reduceBEq, cond_true, cond_false]
   have ht := I_take st [f.gResult] h3 (by simp)
   have hd : ([f.gResult] : List Int).length = 1 := rfl
   rw [hd] at ht
   have hiff : (1 ≤ st.length ∧ st.drop (st.length - 1) = [f.gResult]) ↔ (st.length ≠ 0 ∧ top st = f.gResult) := by
    constructor
    ·rintro ⟨a, b⟩; rw [drop1 a] at b; exact ⟨by omega, by simpa using b⟩
    ·rintro ⟨a, b⟩; exact ⟨by omega, by rw [drop1 (by omega), b]⟩
   unfold gv
   simp only [Int.reduceEq, if_true, if_false, or_self, or_false, false_or]
   split at ht
   ·rename_i hh
    rw [ht, Option.bind_some, if_pos (hiff.1 hh)]
    simp only [Bool.not_true, cond_false]
    rw [I_put _ _ _ _ _ (hk _)]
    have := put_done (x := ⟨12, 1, 0, ⟨#[]⟩⟩) (by simp) sl st 1 0
    rw [if_pos rfl] at this
    rw [this]
   ·rename_i hh
    obtain ⟨m', hm'⟩ := ht
    rw [hm', Option.bind_some, if_neg (fun h => hh (hiff.2 h))]
    rfl
  ·simp only [Int.reduceBEq, cond_true, cond_false]
   rw [I_put _ _ _ _ _ h3]
   have := put_done (x := ⟨12, 0, 0, ⟨#[]⟩⟩) (by simp) sl st 0 0
   rw [if_pos rfl, ← hk0] at this
   rw [this]
   simp [gv]
 | rest op ho =>
  have ht2 := I_take st [2] h3 (by simp)
  have hd : ([2] : List Int).length = 1 := rfl
  rw [hd] at ht2
  have hiff : (1 ≤ st.length ∧ st.drop (st.length - 1) = [2]) ↔ top st = 2 := by
   constructor
   ·rintro ⟨a, b⟩; rw [drop1 a] at b; simpa using b
   ·intro a
    have h1 : 1 ≤ st.length := by
     by_cases hz : st.length = 0
     ·rw [tz hz] at a; omega
     ·omega
    exact ⟨h1, by rw [drop1 h1, a]⟩
  have text : ∀ op : Int, op = 13 ∨ op = 15 → ((I.effect_2 st () ([2])).bind fun (r0 : (Bool × (List Int × Unit))) => bif !r0.fst then some ((⟨0, [], []⟩ : TShape), false) else I.effect.l511 0 ⟨1, sl, st⟩ t8 r0.snd.fst) = some (doneI ⟨op, 0, 0, ⟨#[]⟩⟩ sl st (if top st = 2 then some (1, []) else none)) := fun op hop => by
   split at ht2
   ·rename_i hh
    rw [ht2, Option.bind_some, if_pos (hiff.1 hh)]
    simp only [Bool.not_true, cond_false]
    rw [I_put _ _ _ _ _ (hk _)]
    have := put_done (x := ⟨op, 0, 0, ⟨#[]⟩⟩) (by simp; omega) sl st 1 0
    rw [if_pos rfl] at this
    rw [this]
   ·rename_i hh
    obtain ⟨m', hm'⟩ := ht2
    rw [hm', Option.bind_some, if_neg (fun h => hh (hiff.2 h))]
    rfl
  rcases ho with rfl | rfl | rfl | rfl | rfl
  ·simp only [Int.reduceBEq, cond_true, cond_false, hp1, Option.bind_some]
   unfold gv
   simp only [Int.reduceEq, if_true, if_false, or_self, or_false, false_or, or_true]
   by_cases hz : st.length = 0
   ·rw [if_pos (by omega), if_pos hz]; rfl
   ·rw [if_neg (by omega), if_neg hz]
    simp only [drop1 (show 1 ≤ st.length by omega)]
    simp only [foC, List.isEmpty_cons, Bool.not_false, cond_true, Option.isNone_some, cond_false, Option.getD_some]
    rw [I_put _ _ _ _ _ (hk 1)]
    have := put_done (x := ⟨4, 0, 0, ⟨#[]⟩⟩) (by simp) sl st 1 0
    rw [if_pos rfl] at this
    rw [this]
  ·simp only [Int.reduceBEq, cond_true, cond_false]
   rw [I.effect.l17137926143_eq]
   simp only [Int.reduceBEq, cond_true, cond_false]
   rw [text 13 (.inl rfl)]
   simp only [gv, Int.reduceEq, if_true, if_false, or_self, or_false, false_or, or_true, true_or]
  ·simp only [Int.reduceBEq, cond_true, cond_false]
   rw [I.effect.l17137926143_eq]
   simp only [Int.reduceBEq, cond_true, cond_false]
   have ht := I_take st [2, 2] h3 (by simp)
   have hd : ([2, 2] : List Int).length = 2 := rfl
   rw [hd] at ht
   have hiff : (2 ≤ st.length ∧ st.drop (st.length - 2) = [2, 2]) ↔ (top st = 2 ∧ below st = 2) := by
    constructor
    ·rintro ⟨a, b⟩; rw [drop2 a] at b; simp at b; exact ⟨b.2, b.1⟩
    ·rintro ⟨a, b⟩
     have h1 : 2 ≤ st.length := by
      by_cases hz : st.length ≤ 1
      ·rw [bz hz] at b; omega
      ·omega
     exact ⟨h1, by rw [drop2 h1, a, b]⟩
   simp only [gv, Int.reduceEq, if_true, if_false, or_self, or_false, false_or, or_true, true_or]
   split at ht
   ·rename_i hh
    rw [ht, Option.bind_some, if_pos (hiff.1 hh)]
    simp only [Bool.not_true, cond_false]
    rw [I_put _ _ _ _ _ (hk _)]
    have := put_done (x := ⟨14, 0, 0, ⟨#[]⟩⟩) (by simp) sl st 2 0
    rw [if_pos rfl] at this
    rw [this]
   ·rename_i hh
    obtain ⟨m', hm'⟩ := ht
    rw [hm', Option.bind_some, if_neg (fun h => hh (hiff.2 h))]
    rfl
  ·simp only [Int.reduceBEq, cond_true, cond_false]
   rw [I.effect.l17137926143_eq]
   simp only [Int.reduceBEq, cond_true, cond_false]
   rw [text 15 (.inr rfl)]
   simp only [gv, Int.reduceEq, if_true, if_false, or_self, or_false, false_or, or_true, true_or]
  ·simp only [Int.reduceBEq, cond_true, cond_false]
   rw [I.effect.l17137926143_eq]
   simp only [Int.reduceBEq, cond_true, cond_false]
   rw [I_put _ _ _ _ _ h3]
   have := put_done (x := ⟨16, 0, 0, ⟨#[]⟩⟩) (by simp) sl st 0 0
   rw [if_pos rfl, ← hk0] at this
   rw [this]
   simp [gv]
theorem I_effect (hc : CodeOk c) (hf : FnOk c f) {i : Nat} (hi : i < f.gIns.length) (h1 : (sl.length : Int) = f.gSlots) (h2 : ∀ y ∈ sl, 0 ≤ y ∧ y ≤ 10) (h3 : st.length ≤ 600) (h4 : ∀ y ∈ st, 1 ≤ y ∧ y ≤ 10) :
  I.effect c f i ⟨1, sl, st⟩ = some (efI c f i sl st) := by
 have hi5 := hf.h.i5
 have hS := hf.h.s200
 rw [I.effect_eq, bif_t (inB_nat hi), Int.toNat_natCast, I_goes _ _ (by omega), Option.bind_some]
 have hgl := goz2 (f.gIns.getD i TIns.z) i
 have := I_out (goz (f.gIns.getD i TIns.z) i) c f ⟨1, sl, st⟩ ⟨0, [], []⟩ (f.gIns.getD i TIns.z) hgl (fun j hj => (goz_pos hf hi j hj).2) _ 0 (Nat.zero_add _)
 have h : I.effect.l116 (goz (f.gIns.getD i TIns.z) i) (goz (f.gIns.getD i TIns.z) i).length 0 c f ⟨1, sl, st⟩ ⟨0, [], []⟩ (f.gIns.getD i TIns.z) = _ := this
 rw [h, List.drop_zero, I_done hc (is_at hf hi) hf.h.r10 h1 (by omega) h2 h3 h4]
 unfold efI eff doneI
 cases gv c f (f.gIns.getD i TIns.z) sl st with
 | none => split <;> rfl
 | some q =>
  obtain ⟨k, ps⟩ := q
  simp only
  split
  ·rfl
  ·split <;> rfl
end
end Go.KM.M1
