/- Plain laws: a node is well by the program where it is by the reference. Conditions: none. -/
import Derived.Test.YtdhkmgloghlnnaaGreatDoorPTreeF
namespace Go.KM.P1
open Go Go.KM
open Go.KM.Fam (Dn dflt)
open Go.KM.Enc (cells sz mkE glob gany u8)
set_option autoImplicit false
set_option linter.unusedVariables false
set_option linter.unusedSimpArgs false
set_option maxRecDepth 100000
theorem all_map' (ks : List (Option TNode_)) (p : Int → Bool) : (ks.map kdO).all p = ks.all fun o => p (kdO o) := by rw [List.all_map]; rfl
theorem len_ne {α : Type} {l : List α} {n : Nat} {m : Int} (h : m = n) (hne : l.length ≠ n) : ((l.length : Int) == m) = false := beq_eq_false_iff_ne.2 (by omega)
section
variable (ks : List (Option TNode_)) {X Y : Option Bool}
theorem g0 (hX : X = some ((ks.length : Int) == 0)) (hY : Y = some (((ks.map kdO).length : Int) == 0)) : ∃ a, X = some a ∧ Y = some a := by
  rw [List.length_map] at hY; exact ⟨_, hX, hY⟩
theorem g1 (hX : X = bif (ks.length : Int) == 1 then (some (ks.all fun o => isE (kdO o))).bind fun (r0 : Bool) => some r0 else some false)
    (hY : Y = bif ((ks.map kdO).length : Int) == 1 then bif inB 0 (ks.map kdO).length then (R.l2E ((ks.map kdO).getD 0 0)).bind fun (r0 : Bool) => some r0 else none else some false) : ∃ a, X = some a ∧ Y = some a := by
  subst hX hY
  match ks with
  | [] => exact ⟨false, rfl, rfl⟩
  | [a] => refine ⟨isE (kdO a), by simp, ?_⟩; rw [show (([a].map kdO).getD 0 0) = kdO a from rfl, R_isE]; rfl
  | a :: b :: l => rw [bif_f (b := ((a :: b :: l).length : Int) == 1) (len_ne (n := 1) rfl (by simp)), bif_f (b := (((a :: b :: l).map kdO).length : Int) == 1) (len_ne (n := 1) rfl (by simp))]; exact ⟨false, rfl, rfl⟩
theorem g2 (c : Int) (hl : ks.length ≤ 100000) (hX : X = bif (ks.length : Int) == c then (some (ks.all fun o => isE (kdO o))).bind fun (r0 : Bool) => some r0 else some false)
    (hY : Y = bif ((ks.map kdO).length : Int) == c then (R.l2AllE (ks.map kdO)).bind fun (r0 : Bool) => some r0 else some false) : ∃ a, X = some a ∧ Y = some a := by
  rw [rE _ (by rw [List.length_map]; exact hl), all_map', List.length_map] at hY
  refine ⟨bif (ks.length : Int) == c then (ks.all fun o => isE (kdO o)) else false, hX.trans ?_, hY.trans ?_⟩
  · cases (ks.length : Int) == c <;> rfl
  · cases (ks.length : Int) == c <;> rfl
theorem g7 (hl : ks.length ≤ 100000) (hX : X = bif decide ((ks.length : Int) ≤ 8) then (some (ks.all fun o => isE (kdO o))).bind fun (r0 : Bool) => some r0 else some false)
    (hY : Y = bif decide (((ks.map kdO).length : Int) ≤ 8) then (R.l2AllE (ks.map kdO)).bind fun (r0 : Bool) => some r0 else some false) : ∃ a, X = some a ∧ Y = some a := by
  rw [rE _ (by rw [List.length_map]; exact hl), all_map', List.length_map] at hY
  refine ⟨bif decide ((ks.length : Int) ≤ 8) then (ks.all fun o => isE (kdO o)) else false, hX.trans ?_, hY.trans ?_⟩
  · cases decide ((ks.length : Int) ≤ 8) <;> rfl
  · cases decide ((ks.length : Int) ≤ 8) <;> rfl
end
theorem some_of {ks : List (Option TNode_)} (hs : ∀ o ∈ ks, o.isSome = true) {o : Option TNode_} (h : o ∈ ks) : ∃ x, o = some x := by
  have := hs o h
  cases o with
  | none => cases this
  | some x => exact ⟨x, rfl⟩
theorem kids_1 (xo xt xn : Int) (xs : ByteArray) (kd : Int) (ks : List (Option TNode_)) (num : Int) (hs : ∀ o ∈ ks, o.isSome = true) (hl : ks.length ≤ 100000) : ∃ a, I.node_kidsOk (some (⟨⟨1, xo, xt, xn, xs, kd⟩, ks, num⟩ : TNode_)) = some a ∧ R.l2Fits (⟨1, xo, xt, xn, xs, kd⟩ : TNode) (ks.map kdO) = some a := g0 ks (gI_1 xo xt xn xs kd ks num) (gR_1 xo xt xn xs kd _)
theorem kids_2 (xo xt xn : Int) (xs : ByteArray) (kd : Int) (ks : List (Option TNode_)) (num : Int) (hs : ∀ o ∈ ks, o.isSome = true) (hl : ks.length ≤ 100000) : ∃ a, I.node_kidsOk (some (⟨⟨2, xo, xt, xn, xs, kd⟩, ks, num⟩ : TNode_)) = some a ∧ R.l2Fits (⟨2, xo, xt, xn, xs, kd⟩ : TNode) (ks.map kdO) = some a := g0 ks (gI_2 xo xt xn xs kd ks num) (gR_2 xo xt xn xs kd _)
theorem kids_3 (xo xt xn : Int) (xs : ByteArray) (kd : Int) (ks : List (Option TNode_)) (num : Int) (hs : ∀ o ∈ ks, o.isSome = true) (hl : ks.length ≤ 100000) : ∃ a, I.node_kidsOk (some (⟨⟨3, xo, xt, xn, xs, kd⟩, ks, num⟩ : TNode_)) = some a ∧ R.l2Fits (⟨3, xo, xt, xn, xs, kd⟩ : TNode) (ks.map kdO) = some a := g0 ks (gI_3 xo xt xn xs kd ks num) (gR_3 xo xt xn xs kd _)
theorem kids_4 (xo xt xn : Int) (xs : ByteArray) (kd : Int) (ks : List (Option TNode_)) (num : Int) (hs : ∀ o ∈ ks, o.isSome = true) (hl : ks.length ≤ 100000) : ∃ a, I.node_kidsOk (some (⟨⟨4, xo, xt, xn, xs, kd⟩, ks, num⟩ : TNode_)) = some a ∧ R.l2Fits (⟨4, xo, xt, xn, xs, kd⟩ : TNode) (ks.map kdO) = some a := g0 ks (gI_4 xo xt xn xs kd ks num) (gR_4 xo xt xn xs kd _)
theorem kids_14 (xo xt xn : Int) (xs : ByteArray) (kd : Int) (ks : List (Option TNode_)) (num : Int) (hs : ∀ o ∈ ks, o.isSome = true) (hl : ks.length ≤ 100000) : ∃ a, I.node_kidsOk (some (⟨⟨14, xo, xt, xn, xs, kd⟩, ks, num⟩ : TNode_)) = some a ∧ R.l2Fits (⟨14, xo, xt, xn, xs, kd⟩ : TNode) (ks.map kdO) = some a := g0 ks (gI_14 xo xt xn xs kd ks num) (gR_14 xo xt xn xs kd _)
theorem kids_15 (xo xt xn : Int) (xs : ByteArray) (kd : Int) (ks : List (Option TNode_)) (num : Int) (hs : ∀ o ∈ ks, o.isSome = true) (hl : ks.length ≤ 100000) : ∃ a, I.node_kidsOk (some (⟨⟨15, xo, xt, xn, xs, kd⟩, ks, num⟩ : TNode_)) = some a ∧ R.l2Fits (⟨15, xo, xt, xn, xs, kd⟩ : TNode) (ks.map kdO) = some a := g0 ks (gI_15 xo xt xn xs kd ks num) (gR_15 xo xt xn xs kd _)
theorem kids_22 (xo xt xn : Int) (xs : ByteArray) (kd : Int) (ks : List (Option TNode_)) (num : Int) (hs : ∀ o ∈ ks, o.isSome = true) (hl : ks.length ≤ 100000) : ∃ a, I.node_kidsOk (some (⟨⟨22, xo, xt, xn, xs, kd⟩, ks, num⟩ : TNode_)) = some a ∧ R.l2Fits (⟨22, xo, xt, xn, xs, kd⟩ : TNode) (ks.map kdO) = some a := g0 ks (gI_22 xo xt xn xs kd ks num) (gR_22 xo xt xn xs kd _)
theorem kids_5 (xo xt xn : Int) (xs : ByteArray) (kd : Int) (ks : List (Option TNode_)) (num : Int) (hs : ∀ o ∈ ks, o.isSome = true) (hl : ks.length ≤ 100000) : ∃ a, I.node_kidsOk (some (⟨⟨5, xo, xt, xn, xs, kd⟩, ks, num⟩ : TNode_)) = some a ∧ R.l2Fits (⟨5, xo, xt, xn, xs, kd⟩ : TNode) (ks.map kdO) = some a := g1 ks (by rw [gI_5, kE _ ks num hs hl]) (gR_5 xo xt xn xs kd _)
theorem kids_9 (xo xt xn : Int) (xs : ByteArray) (kd : Int) (ks : List (Option TNode_)) (num : Int) (hs : ∀ o ∈ ks, o.isSome = true) (hl : ks.length ≤ 100000) : ∃ a, I.node_kidsOk (some (⟨⟨9, xo, xt, xn, xs, kd⟩, ks, num⟩ : TNode_)) = some a ∧ R.l2Fits (⟨9, xo, xt, xn, xs, kd⟩ : TNode) (ks.map kdO) = some a := g1 ks (by rw [gI_9, kE _ ks num hs hl]) (gR_9 xo xt xn xs kd _)
theorem kids_10 (xo xt xn : Int) (xs : ByteArray) (kd : Int) (ks : List (Option TNode_)) (num : Int) (hs : ∀ o ∈ ks, o.isSome = true) (hl : ks.length ≤ 100000) : ∃ a, I.node_kidsOk (some (⟨⟨10, xo, xt, xn, xs, kd⟩, ks, num⟩ : TNode_)) = some a ∧ R.l2Fits (⟨10, xo, xt, xn, xs, kd⟩ : TNode) (ks.map kdO) = some a := g1 ks (by rw [gI_10, kE _ ks num hs hl]) (gR_10 xo xt xn xs kd _)
theorem kids_11 (xo xt xn : Int) (xs : ByteArray) (kd : Int) (ks : List (Option TNode_)) (num : Int) (hs : ∀ o ∈ ks, o.isSome = true) (hl : ks.length ≤ 100000) : ∃ a, I.node_kidsOk (some (⟨⟨11, xo, xt, xn, xs, kd⟩, ks, num⟩ : TNode_)) = some a ∧ R.l2Fits (⟨11, xo, xt, xn, xs, kd⟩ : TNode) (ks.map kdO) = some a := g1 ks (by rw [gI_11, kE _ ks num hs hl]) (gR_11 xo xt xn xs kd _)
theorem kids_17 (xo xt xn : Int) (xs : ByteArray) (kd : Int) (ks : List (Option TNode_)) (num : Int) (hs : ∀ o ∈ ks, o.isSome = true) (hl : ks.length ≤ 100000) : ∃ a, I.node_kidsOk (some (⟨⟨17, xo, xt, xn, xs, kd⟩, ks, num⟩ : TNode_)) = some a ∧ R.l2Fits (⟨17, xo, xt, xn, xs, kd⟩ : TNode) (ks.map kdO) = some a := g1 ks (by rw [gI_17, kE _ ks num hs hl]) (gR_17 xo xt xn xs kd _)
theorem kids_19 (xo xt xn : Int) (xs : ByteArray) (kd : Int) (ks : List (Option TNode_)) (num : Int) (hs : ∀ o ∈ ks, o.isSome = true) (hl : ks.length ≤ 100000) : ∃ a, I.node_kidsOk (some (⟨⟨19, xo, xt, xn, xs, kd⟩, ks, num⟩ : TNode_)) = some a ∧ R.l2Fits (⟨19, xo, xt, xn, xs, kd⟩ : TNode) (ks.map kdO) = some a := g1 ks (by rw [gI_19, kE _ ks num hs hl]) (gR_19 xo xt xn xs kd _)
theorem kids_6 (xo xt xn : Int) (xs : ByteArray) (kd : Int) (ks : List (Option TNode_)) (num : Int) (hs : ∀ o ∈ ks, o.isSome = true) (hl : ks.length ≤ 100000) : ∃ a, I.node_kidsOk (some (⟨⟨6, xo, xt, xn, xs, kd⟩, ks, num⟩ : TNode_)) = some a ∧ R.l2Fits (⟨6, xo, xt, xn, xs, kd⟩ : TNode) (ks.map kdO) = some a := g2 ks 2 hl (by rw [gI_6, kE _ ks num hs hl]) (gR_6 xo xt xn xs kd _)
theorem kids_18 (xo xt xn : Int) (xs : ByteArray) (kd : Int) (ks : List (Option TNode_)) (num : Int) (hs : ∀ o ∈ ks, o.isSome = true) (hl : ks.length ≤ 100000) : ∃ a, I.node_kidsOk (some (⟨⟨18, xo, xt, xn, xs, kd⟩, ks, num⟩ : TNode_)) = some a ∧ R.l2Fits (⟨18, xo, xt, xn, xs, kd⟩ : TNode) (ks.map kdO) = some a := g2 ks 2 hl (by rw [gI_18, kE _ ks num hs hl]) (gR_18 xo xt xn xs kd _)
theorem kids_7 (xo xt xn : Int) (xs : ByteArray) (kd : Int) (ks : List (Option TNode_)) (num : Int) (hs : ∀ o ∈ ks, o.isSome = true) (hl : ks.length ≤ 100000) : ∃ a, I.node_kidsOk (some (⟨⟨7, xo, xt, xn, xs, kd⟩, ks, num⟩ : TNode_)) = some a ∧ R.l2Fits (⟨7, xo, xt, xn, xs, kd⟩ : TNode) (ks.map kdO) = some a := g7 ks hl (by rw [gI_7, kE _ ks num hs hl]) (gR_7 xo xt xn xs kd _)
theorem kids_12 (xo xt xn : Int) (xs : ByteArray) (kd : Int) (ks : List (Option TNode_)) (num : Int) (hs : ∀ o ∈ ks, o.isSome = true) (hl : ks.length ≤ 100000) : ∃ a, I.node_kidsOk (some (⟨⟨12, xo, xt, xn, xs, kd⟩, ks, num⟩ : TNode_)) = some a ∧ R.l2Fits (⟨12, xo, xt, xn, xs, kd⟩ : TNode) (ks.map kdO) = some a := by
  match ks, hs with
  | [], _ => rw [gI_12_0, gR_12]; exact ⟨false, rfl, rfl⟩
  | [o], hs =>
    obtain ⟨k0, rfl⟩ := some_of hs (List.mem_cons_self ..)
    rw [gI_12_1, gR_12]; exact ⟨false, rfl, rfl⟩
  | [o, o'], hs =>
    obtain ⟨k0, rfl⟩ := some_of hs (List.mem_cons_self ..)
    obtain ⟨k1, rfl⟩ := some_of hs (List.mem_cons_of_mem _ (List.mem_cons_self ..))
    rw [gI_12_2, gR_12, I_isE, I.isBlock_eq]
    refine ⟨isE k0.gNode.gKind && k1.gNode.gKind == 21, ?_, ?_⟩
    · cases isE k0.gNode.gKind <;> rfl
    · show (R.l2E k0.gNode.gKind).bind (fun (r0 : Bool) => bif r0 then bif k1.gNode.gKind == 21 then some true else some false else some false) = _
      rw [R_isE]
      cases isE k0.gNode.gKind <;> cases k1.gNode.gKind == 21 <;> rfl
  | [o, o', o''], hs =>
    obtain ⟨k0, rfl⟩ := some_of hs (List.mem_cons_self ..)
    obtain ⟨k1, rfl⟩ := some_of hs (List.mem_cons_of_mem _ (List.mem_cons_self ..))
    obtain ⟨k2, rfl⟩ := some_of hs (List.mem_cons_of_mem _ (List.mem_cons_of_mem _ (List.mem_cons_self ..)))
    rw [gI_12_3, gR_12, I_isE, I.isBlock_eq, I.isBlock_eq]
    refine ⟨isE k0.gNode.gKind && (k1.gNode.gKind == 21 && (k2.gNode.gKind == 21 || k2.gNode.gKind == 12)), ?_, ?_⟩
    · cases isE k0.gNode.gKind <;> cases k1.gNode.gKind == 21 <;> cases k2.gNode.gKind == 21 <;> cases k2.gNode.gKind == 12 <;> rfl
    · show (R.l2E k0.gNode.gKind).bind (fun (r0 : Bool) => bif r0 then bif k1.gNode.gKind == 21 then bif k2.gNode.gKind == 21 then some true else some (k2.gNode.gKind == 12) else some false else some false) = _
      rw [R_isE]
      cases isE k0.gNode.gKind <;> cases k1.gNode.gKind == 21 <;> cases k2.gNode.gKind == 21 <;> cases k2.gNode.gKind == 12 <;> rfl
  | a :: b :: c :: d :: l, hs =>
    have h2 : (((a :: b :: c :: d :: l).length : Int) == 2) = false := len_ne (n := 2) rfl (by simp)
    have h3 : (((a :: b :: c :: d :: l).length : Int) == 3) = false := len_ne (n := 3) rfl (by simp)
    refine ⟨false, ?_, ?_⟩
    · rw [gI_12]
      simp only [h2, h3, cond_false]
    · rw [gR_12, bif_t (b := decide ((((a :: b :: c :: d :: l).map kdO).length : Int) ≥ 2)) (by simp; omega), bif_f (b := decide ((((a :: b :: c :: d :: l).map kdO).length : Int) ≤ 3)) (by simp; omega)]
theorem kids_13 (xo xt xn : Int) (xs : ByteArray) (kd : Int) (ks : List (Option TNode_)) (num : Int) (hs : ∀ o ∈ ks, o.isSome = true) (hl : ks.length ≤ 100000) : ∃ a, I.node_kidsOk (some (⟨⟨13, xo, xt, xn, xs, kd⟩, ks, num⟩ : TNode_)) = some a ∧ R.l2Fits (⟨13, xo, xt, xn, xs, kd⟩ : TNode) (ks.map kdO) = some a := by
  rw [gI_13, gR_13]
  match ks, hs with
  | [], _ => exact ⟨false, rfl, rfl⟩
  | [o], _ => exact ⟨false, rfl, rfl⟩
  | [o, o'], hs =>
    obtain ⟨k0, rfl⟩ := some_of hs (List.mem_cons_self ..)
    obtain ⟨k1, rfl⟩ := some_of hs (List.mem_cons_of_mem _ (List.mem_cons_self ..))
    refine ⟨isE k0.gNode.gKind && k1.gNode.gKind == 21, ?_, ?_⟩
    · show (I.isE k0.gNode.gKind).bind (fun (r0 : Bool) => bif r0 then (I.isBlock k1.gNode.gKind).bind (fun (r1 : Bool) => some r1) else some false) = _
      rw [I_isE, I.isBlock_eq]
      cases isE k0.gNode.gKind <;> rfl
    · show (R.l2E k0.gNode.gKind).bind (fun (r0 : Bool) => bif r0 then some (k1.gNode.gKind == 21) else some false) = _
      rw [R_isE]
      cases isE k0.gNode.gKind <;> rfl
  | a :: b :: c :: l, _ => rw [bif_f (b := ((a :: b :: c :: l).length : Int) == 2) (len_ne (n := 2) rfl (by simp)), bif_f (b := (((a :: b :: c :: l).map kdO).length : Int) == 2) (len_ne (n := 2) rfl (by simp))]; exact ⟨false, rfl, rfl⟩
theorem kids_16 (xo xt xn : Int) (xs : ByteArray) (kd : Int) (ks : List (Option TNode_)) (num : Int) (hs : ∀ o ∈ ks, o.isSome = true) (hl : ks.length ≤ 100000) : ∃ a, I.node_kidsOk (some (⟨⟨16, xo, xt, xn, xs, kd⟩, ks, num⟩ : TNode_)) = some a ∧ R.l2Fits (⟨16, xo, xt, xn, xs, kd⟩ : TNode) (ks.map kdO) = some a := by
  rw [gI_16, gR_16, rE _ (by rw [List.length_map]; exact hl)]
  match ks, hs with
  | [], _ => exact ⟨true, rfl, rfl⟩
  | [o], hs =>
    obtain ⟨k0, rfl⟩ := some_of hs (List.mem_cons_self ..)
    refine ⟨isE k0.gNode.gKind, ?_, ?_⟩
    · show (I.isE k0.gNode.gKind).bind (fun (r0 : Bool) => some r0) = _
      rw [I_isE]; rfl
    · show some (isE k0.gNode.gKind && true) = _
      rw [Bool.and_true]
  | a :: b :: l, _ =>
    rw [bif_f (b := ((a :: b :: l).length : Int) == 0) (len_ne (n := 0) rfl (by simp)), bif_f (b := ((a :: b :: l).length : Int) == 1) (len_ne (n := 1) rfl (by simp)), bif_f (b := decide ((((a :: b :: l).map kdO).length : Int) ≤ 1)) (by simp; omega)]; exact ⟨false, rfl, rfl⟩
theorem kids_20 (xo xt xn : Int) (xs : ByteArray) (kd : Int) (ks : List (Option TNode_)) (num : Int) (hs : ∀ o ∈ ks, o.isSome = true) (hl : ks.length ≤ 100000) : ∃ a, I.node_kidsOk (some (⟨⟨20, xo, xt, xn, xs, kd⟩, ks, num⟩ : TNode_)) = some a ∧ R.l2Fits (⟨20, xo, xt, xn, xs, kd⟩ : TNode) (ks.map kdO) = some a := by
  rw [gI_20, gR_20]
  match ks, hs with
  | [], _ => exact ⟨false, rfl, rfl⟩
  | [o], hs =>
    obtain ⟨k0, rfl⟩ := some_of hs (List.mem_cons_self ..)
    exact ⟨k0.gNode.gKind == 7, rfl, rfl⟩
  | a :: b :: l, _ => rw [bif_f (b := ((a :: b :: l).length : Int) == 1) (len_ne (n := 1) rfl (by simp)), bif_f (b := (((a :: b :: l).map kdO).length : Int) == 1) (len_ne (n := 1) rfl (by simp))]; exact ⟨false, rfl, rfl⟩
theorem kids_21 (xo xt xn : Int) (xs : ByteArray) (kd : Int) (ks : List (Option TNode_)) (num : Int) (hs : ∀ o ∈ ks, o.isSome = true) (hl : ks.length ≤ 100000) : ∃ a, I.node_kidsOk (some (⟨⟨21, xo, xt, xn, xs, kd⟩, ks, num⟩ : TNode_)) = some a ∧ R.l2Fits (⟨21, xo, xt, xn, xs, kd⟩ : TNode) (ks.map kdO) = some a := by
  rw [gI_21, kS _ ks num hs hl, gR_21, rS _ (by rw [List.length_map]; exact hl), all_map']
  exact ⟨_, rfl, rfl⟩
theorem kids_24 (xo xt xn : Int) (xs : ByteArray) (kd : Int) (ks : List (Option TNode_)) (num : Int) (hs : ∀ o ∈ ks, o.isSome = true) (hl : ks.length ≤ 100000) : ∃ a, I.node_kidsOk (some (⟨⟨24, xo, xt, xn, xs, kd⟩, ks, num⟩ : TNode_)) = some a ∧ R.l2Fits (⟨24, xo, xt, xn, xs, kd⟩ : TNode) (ks.map kdO) = some a := by
  rw [gI_24, kF _ ks num hs hl, gR_24, rF _ (by rw [List.length_map]; exact hl), all_map' ks (fun k => k == 23), List.length_map, Option.bind_some, and_bif, and_bif]
  refine ⟨_, rfl, ?_⟩
  have e1 : decide ((ks.length : Int) ≥ 1) = decide (1 ≤ ks.length) := by rw [Bool.eq_iff_iff]; simp; omega
  have e2 : decide ((ks.length : Int) ≤ 60) = decide (ks.length ≤ 60) := by rw [Bool.eq_iff_iff]; simp; omega
  rw [e1, e2]
  congr 1
  cases (ks.all fun o => kdO o == 23) <;> cases decide (1 ≤ ks.length) <;> cases decide (ks.length ≤ 60) <;> rfl
theorem rP (l : List Int) (hl : l.length ≤ 100000) : ∀ (m k : Nat), k + m + 1 = l.length → R.l2Fits.l3959422948 l l.length k = bif ((l.drop k).take m).all (fun x => x == 22) then (bif decide (l.length ≤ 9) then some (l.getD (l.length - 1) 0 == 21) else some false) else some false := by
  intro m
  induction m with
  | zero =>
    intro k hk
    have w1 : IntKind.i64.wrap ((k : Int) + 1) = ((k + 1 : Nat) : Int) := wi_succ (by omega)
    rw [R.l2Fits.l3959422948_eq, w1, bif_f (ge_dec (k := k + 1) (n := l.length) (by omega)), bif_t (b := decide ((l.length : Int) ≥ 1)) (by simp; omega)]
    have w2 : IntKind.i64.wrap ((l.length : Int) - 1) = ((l.length - 1 : Nat) : Int) := by rw [wi (by omega) (by omega)]; omega
    rw [w2, bif_t (b := inB ((l.length - 1 : Nat) : Int) l.length) (inB_nat (by omega)), Int.toNat_natCast]
    have e : decide (((l.length - 1 : Nat) : Int) ≤ 8) = decide (l.length ≤ 9) := by rw [Bool.eq_iff_iff]; simp; omega
    rw [e]
    rfl
  | succ m ih =>
    intro k hk
    have hkl : k < l.length := by omega
    have w1 : IntKind.i64.wrap ((k : Int) + 1) = ((k + 1 : Nat) : Int) := wi_succ (by omega)
    rw [R.l2Fits.l3959422948_eq, w1, bif_t (lt_dec (k := k + 1) (n := l.length) (by omega)), bif_t (inB_nat hkl), Int.toNat_natCast, getD_lt hkl, ih (k + 1) (by omega), drop_get hkl, List.take_succ_cons, List.all_cons]
    unfold bne
    cases l[k] == 22 <;> rfl
theorem kids_23 (xo xt xn : Int) (xs : ByteArray) (kd : Int) (ks : List (Option TNode_)) (num : Int) (hs : ∀ o ∈ ks, o.isSome = true) (hl : ks.length ≤ 100000) : ∃ a, I.node_kidsOk (some (⟨⟨23, xo, xt, xn, xs, kd⟩, ks, num⟩ : TNode_)) = some a ∧ R.l2Fits (⟨23, xo, xt, xn, xs, kd⟩ : TNode) (ks.map kdO) = some a := by
  rw [gI_23, gR_23]
  by_cases h0 : ks.length = 0
  · have : ks = [] := List.eq_nil_of_length_eq_zero h0
    subst this
    refine ⟨false, rfl, ?_⟩
    exact (R.l2Fits.l3959422948_eq _ _ _).trans (by kernel_rfl)
  · have hr := rP (ks.map kdO) (by rw [List.length_map]; exact hl) (ks.length - 1) 0 (by rw [List.length_map]; omega)
    have hr : R.l2Fits.l3959422948 (ks.map kdO) (ks.map kdO).length 0 = _ := hr
    rw [hr, List.drop_zero, ← List.map_take, all_map' _ (fun x => x == 22), List.length_map, bif_f (b := decide ((ks.length : Int) < 1)) (by simp; omega)]
    by_cases h9 : ks.length ≤ 9
    · have w2 : IntKind.i64.wrap ((ks.length : Int) - 1) = ((ks.length - 1 : Nat) : Int) := by rw [wi (by omega) (by omega)]; omega
      have hlt : ks.length - 1 < ks.length := by omega
      have hg : ((ks.map kdO).getD (ks.length - 1) 0) = kdO (ks.getD (ks.length - 1) none) := by
        rw [getD_lt (by rw [List.length_map]; exact hlt), getD_lt hlt, List.getElem_map]
      have hsub : sub ks 0 ((ks.length - 1 : Nat) : Int) = ks.take (ks.length - 1) := by unfold sub; rw [Int.toNat_natCast, Int.toNat_zero, List.drop_zero]
      have hP := kP (ks.take (ks.length - 1)) (fun o ho => hs o (List.mem_of_mem_take ho)) (by rw [List.length_take]; omega)
      rw [bif_f (b := decide ((ks.length : Int) > 9)) (by simp; omega), w2, bif_t (inB_nat hlt), Int.toNat_natCast, bif_t (get_some hs hlt), I.isBlock_eq, Option.bind_some, bif_t (b := inS 0 ((ks.length - 1 : Nat) : Int) ks.length) (inS_iff.2 ⟨by omega, by omega, by omega⟩), hsub, hP, hg, bif_t (b := decide (ks.length ≤ 9)) (by simpa using h9)]
      have e : (Option.getD (ks.getD (ks.length - 1) none) TNode_.z).gNode.gKind = kdO (ks.getD (ks.length - 1) none) := rfl
      rw [e]
      refine ⟨(kdO (ks.getD (ks.length - 1) none) == 21) && ((ks.take (ks.length - 1)).all fun o => kdO o == 22), ?_, ?_⟩
      · cases kdO (ks.getD (ks.length - 1) none) == 21 <;> cases (ks.take (ks.length - 1)).all fun o => kdO o == 22 <;> rfl
      · cases kdO (ks.getD (ks.length - 1) none) == 21 <;> cases (ks.take (ks.length - 1)).all fun o => kdO o == 22 <;> rfl
    · rw [bif_t (b := decide ((ks.length : Int) > 9)) (by simp; omega), bif_f (b := decide (ks.length ≤ 9)) (by simpa using h9)]
      refine ⟨false, rfl, ?_⟩
      cases (ks.take (ks.length - 1)).all fun o => kdO o == 22 <;> rfl
theorem int_same (t n : Int) (h3 : 3 ≤ t) (h10 : t ≤ 10) (hn : I64 n) : (decide (n = into t (IntKind.u64.wrap n)) && (decide (n ≥ 0) || t == 6)) = decide (IntKind.u64.wrap n ≤ (mxOf t : Int)) := by
  have hw := wu_eq n
  obtain ⟨h1, h2⟩ := hn
  have : t = 3 ∨ t = 4 ∨ t = 5 ∨ t = 6 ∨ t = 7 ∨ t = 8 ∨ t = 9 ∨ t = 10 := by omega
  rw [Bool.eq_iff_iff]
  simp only [Bool.and_eq_true, Bool.or_eq_true, decide_eq_true_eq, beq_iff_eq]
  have hwi : IntKind.i64.wrap (IntKind.u64.wrap n) = n := wi_wu ⟨h1, h2⟩
  rcases this with rfl | rfl | rfl | rfl | rfl | rfl | rfl | rfl <;> simp only [into, mxOf, hwi] <;> simp [hw] <;> omega
theorem fields_2 (xo xt xn : Int) (xs : ByteArray) (kd : Int) (ks : List (Option TNode_)) (num : Int) : ∃ b, I.node_fieldsOk (some (⟨⟨2, xo, xt, xn, xs, kd⟩, ks, num⟩ : TNode_)) = some b ∧ R.l2Fields (⟨2, xo, xt, xn, xs, kd⟩ : TNode) = some b := by
  rw [fI_2, fR_2]
  simp only [I_integer, R_integer, Option.bind_some, and_bif, nand_bif, bne, Bool.and_true, fin_b]
  exact ⟨_, rfl, by congr 1; try ac_rfl⟩
theorem fields_3 (xo xt xn : Int) (xs : ByteArray) (kd : Int) (ks : List (Option TNode_)) (num : Int) : ∃ b, I.node_fieldsOk (some (⟨⟨3, xo, xt, xn, xs, kd⟩, ks, num⟩ : TNode_)) = some b ∧ R.l2Fields (⟨3, xo, xt, xn, xs, kd⟩ : TNode) = some b := by
  rw [fI_3, fR_3]
  simp only [I_integer, R_integer, Option.bind_some, and_bif, nand_bif, bne, Bool.and_true, fin_b]
  rw [show (bif xn == 0 then some true else some (xn == 1)) = some (xn == 0 || xn == 1) by cases xn == 0 <;> rfl]
  simp only [and_bif, nand_bif]
  exact ⟨_, rfl, by congr 1; try ac_rfl⟩
theorem fields_4 (xo xt xn : Int) (xs : ByteArray) (kd : Int) (ks : List (Option TNode_)) (num : Int) : ∃ b, I.node_fieldsOk (some (⟨⟨4, xo, xt, xn, xs, kd⟩, ks, num⟩ : TNode_)) = some b ∧ R.l2Fields (⟨4, xo, xt, xn, xs, kd⟩ : TNode) = some b := by
  obtain ⟨nb, h1, h2⟩ := name_same xs
  rw [fI_4, fR_4]
  simp only [h1, h2, I_integer, R_integer, Option.bind_some, and_bif, nand_bif, bne, Bool.and_true, fin_b]
  exact ⟨_, rfl, by congr 1; try ac_rfl⟩
theorem fields_5 (xo xt xn : Int) (xs : ByteArray) (kd : Int) (ks : List (Option TNode_)) (num : Int) : ∃ b, I.node_fieldsOk (some (⟨⟨5, xo, xt, xn, xs, kd⟩, ks, num⟩ : TNode_)) = some b ∧ R.l2Fields (⟨5, xo, xt, xn, xs, kd⟩ : TNode) = some b := by
  rw [fI_5, fR_5]
  simp only [I_integer, R_integer, Option.bind_some, and_bif, nand_bif, bne, Bool.and_true, fin_b]
  exact ⟨_, rfl, by congr 1; try ac_rfl⟩
theorem fields_6 (xo xt xn : Int) (xs : ByteArray) (kd : Int) (ks : List (Option TNode_)) (num : Int) : ∃ b, I.node_fieldsOk (some (⟨⟨6, xo, xt, xn, xs, kd⟩, ks, num⟩ : TNode_)) = some b ∧ R.l2Fields (⟨6, xo, xt, xn, xs, kd⟩ : TNode) = some b := by
  rw [fI_6, fR_6]
  simp only [I_integer, R_integer, Option.bind_some, and_bif, nand_bif, bne, Bool.and_true, fin_b]
  exact ⟨_, rfl, by congr 1; try ac_rfl⟩
theorem fields_7 (xo xt xn : Int) (xs : ByteArray) (kd : Int) (ks : List (Option TNode_)) (num : Int) : ∃ b, I.node_fieldsOk (some (⟨⟨7, xo, xt, xn, xs, kd⟩, ks, num⟩ : TNode_)) = some b ∧ R.l2Fields (⟨7, xo, xt, xn, xs, kd⟩ : TNode) = some b := by
  obtain ⟨nb, h1, h2⟩ := name_same xs
  rw [fI_7, fR_7]
  simp only [h1, h2, I_integer, R_integer, Option.bind_some, and_bif, nand_bif, bne, Bool.and_true, fin_b]
  exact ⟨_, rfl, by congr 1; try ac_rfl⟩
theorem fields_9 (xo xt xn : Int) (xs : ByteArray) (kd : Int) (ks : List (Option TNode_)) (num : Int) : ∃ b, I.node_fieldsOk (some (⟨⟨9, xo, xt, xn, xs, kd⟩, ks, num⟩ : TNode_)) = some b ∧ R.l2Fields (⟨9, xo, xt, xn, xs, kd⟩ : TNode) = some b := by
  rw [fI_9, fR_9]
  simp only [I_integer, R_integer, Option.bind_some, and_bif, nand_bif, bne, Bool.and_true, fin_b]
  exact ⟨_, rfl, by congr 1; try ac_rfl⟩
theorem fields_10 (xo xt xn : Int) (xs : ByteArray) (kd : Int) (ks : List (Option TNode_)) (num : Int) : ∃ b, I.node_fieldsOk (some (⟨⟨10, xo, xt, xn, xs, kd⟩, ks, num⟩ : TNode_)) = some b ∧ R.l2Fields (⟨10, xo, xt, xn, xs, kd⟩ : TNode) = some b := by
  obtain ⟨nb, h1, h2⟩ := name_same xs
  rw [fI_10, fR_10]
  simp only [h1, h2, I_integer, R_integer, Option.bind_some, and_bif, nand_bif, bne, Bool.and_true, fin_b]
  exact ⟨_, rfl, by congr 1; try ac_rfl⟩
theorem fields_11 (xo xt xn : Int) (xs : ByteArray) (kd : Int) (ks : List (Option TNode_)) (num : Int) : ∃ b, I.node_fieldsOk (some (⟨⟨11, xo, xt, xn, xs, kd⟩, ks, num⟩ : TNode_)) = some b ∧ R.l2Fields (⟨11, xo, xt, xn, xs, kd⟩ : TNode) = some b := by
  obtain ⟨nb, h1, h2⟩ := name_same xs
  rw [fI_11, fR_11]
  simp only [h1, h2, I_integer, R_integer, Option.bind_some, and_bif, nand_bif, bne, Bool.and_true, fin_b]
  exact ⟨_, rfl, by congr 1; try ac_rfl⟩
theorem fields_12 (xo xt xn : Int) (xs : ByteArray) (kd : Int) (ks : List (Option TNode_)) (num : Int) : ∃ b, I.node_fieldsOk (some (⟨⟨12, xo, xt, xn, xs, kd⟩, ks, num⟩ : TNode_)) = some b ∧ R.l2Fields (⟨12, xo, xt, xn, xs, kd⟩ : TNode) = some b := by
  rw [fI_12, fR_12]
  simp only [I_integer, R_integer, Option.bind_some, and_bif, nand_bif, bne, Bool.and_true, fin_b]
  exact ⟨_, rfl, by congr 1; try ac_rfl⟩
theorem fields_13 (xo xt xn : Int) (xs : ByteArray) (kd : Int) (ks : List (Option TNode_)) (num : Int) : ∃ b, I.node_fieldsOk (some (⟨⟨13, xo, xt, xn, xs, kd⟩, ks, num⟩ : TNode_)) = some b ∧ R.l2Fields (⟨13, xo, xt, xn, xs, kd⟩ : TNode) = some b := by
  rw [fI_13, fR_13]
  simp only [I_integer, R_integer, Option.bind_some, and_bif, nand_bif, bne, Bool.and_true, fin_b]
  exact ⟨_, rfl, by congr 1; try ac_rfl⟩
theorem fields_14 (xo xt xn : Int) (xs : ByteArray) (kd : Int) (ks : List (Option TNode_)) (num : Int) : ∃ b, I.node_fieldsOk (some (⟨⟨14, xo, xt, xn, xs, kd⟩, ks, num⟩ : TNode_)) = some b ∧ R.l2Fields (⟨14, xo, xt, xn, xs, kd⟩ : TNode) = some b := by
  rw [fI_14, fR_14]
  simp only [I_integer, R_integer, Option.bind_some, and_bif, nand_bif, bne, Bool.and_true, fin_b]
  exact ⟨_, rfl, by congr 1; try ac_rfl⟩
theorem fields_15 (xo xt xn : Int) (xs : ByteArray) (kd : Int) (ks : List (Option TNode_)) (num : Int) : ∃ b, I.node_fieldsOk (some (⟨⟨15, xo, xt, xn, xs, kd⟩, ks, num⟩ : TNode_)) = some b ∧ R.l2Fields (⟨15, xo, xt, xn, xs, kd⟩ : TNode) = some b := by
  rw [fI_15, fR_15]
  simp only [I_integer, R_integer, Option.bind_some, and_bif, nand_bif, bne, Bool.and_true, fin_b]
  exact ⟨_, rfl, by congr 1; try ac_rfl⟩
theorem fields_16 (xo xt xn : Int) (xs : ByteArray) (kd : Int) (ks : List (Option TNode_)) (num : Int) : ∃ b, I.node_fieldsOk (some (⟨⟨16, xo, xt, xn, xs, kd⟩, ks, num⟩ : TNode_)) = some b ∧ R.l2Fields (⟨16, xo, xt, xn, xs, kd⟩ : TNode) = some b := by
  rw [fI_16, fR_16]
  simp only [I_integer, R_integer, Option.bind_some, and_bif, nand_bif, bne, Bool.and_true, fin_b]
  exact ⟨_, rfl, by congr 1; try ac_rfl⟩
theorem fields_17 (xo xt xn : Int) (xs : ByteArray) (kd : Int) (ks : List (Option TNode_)) (num : Int) : ∃ b, I.node_fieldsOk (some (⟨⟨17, xo, xt, xn, xs, kd⟩, ks, num⟩ : TNode_)) = some b ∧ R.l2Fields (⟨17, xo, xt, xn, xs, kd⟩ : TNode) = some b := by
  rw [fI_17, fR_17]
  simp only [I_integer, R_integer, Option.bind_some, and_bif, nand_bif, bne, Bool.and_true, fin_b]
  exact ⟨_, rfl, by congr 1; try ac_rfl⟩
theorem fields_18 (xo xt xn : Int) (xs : ByteArray) (kd : Int) (ks : List (Option TNode_)) (num : Int) : ∃ b, I.node_fieldsOk (some (⟨⟨18, xo, xt, xn, xs, kd⟩, ks, num⟩ : TNode_)) = some b ∧ R.l2Fields (⟨18, xo, xt, xn, xs, kd⟩ : TNode) = some b := by
  rw [fI_18, fR_18]
  simp only [I_integer, R_integer, Option.bind_some, and_bif, nand_bif, bne, Bool.and_true, fin_b]
  exact ⟨_, rfl, by congr 1; try ac_rfl⟩
theorem fields_19 (xo xt xn : Int) (xs : ByteArray) (kd : Int) (ks : List (Option TNode_)) (num : Int) : ∃ b, I.node_fieldsOk (some (⟨⟨19, xo, xt, xn, xs, kd⟩, ks, num⟩ : TNode_)) = some b ∧ R.l2Fields (⟨19, xo, xt, xn, xs, kd⟩ : TNode) = some b := by
  rw [fI_19, fR_19]
  simp only [I_integer, R_integer, Option.bind_some, and_bif, nand_bif, bne, Bool.and_true, fin_b]
  exact ⟨_, rfl, by congr 1; try ac_rfl⟩
theorem fields_20 (xo xt xn : Int) (xs : ByteArray) (kd : Int) (ks : List (Option TNode_)) (num : Int) : ∃ b, I.node_fieldsOk (some (⟨⟨20, xo, xt, xn, xs, kd⟩, ks, num⟩ : TNode_)) = some b ∧ R.l2Fields (⟨20, xo, xt, xn, xs, kd⟩ : TNode) = some b := by
  rw [fI_20, fR_20]
  simp only [I_integer, R_integer, Option.bind_some, and_bif, nand_bif, bne, Bool.and_true, fin_b]
  exact ⟨_, rfl, by congr 1; try ac_rfl⟩
theorem fields_21 (xo xt xn : Int) (xs : ByteArray) (kd : Int) (ks : List (Option TNode_)) (num : Int) : ∃ b, I.node_fieldsOk (some (⟨⟨21, xo, xt, xn, xs, kd⟩, ks, num⟩ : TNode_)) = some b ∧ R.l2Fields (⟨21, xo, xt, xn, xs, kd⟩ : TNode) = some b := by
  rw [fI_21, fR_21]
  simp only [I_integer, R_integer, Option.bind_some, and_bif, nand_bif, bne, Bool.and_true, fin_b]
  exact ⟨_, rfl, by congr 1; try ac_rfl⟩
theorem fields_22 (xo xt xn : Int) (xs : ByteArray) (kd : Int) (ks : List (Option TNode_)) (num : Int) : ∃ b, I.node_fieldsOk (some (⟨⟨22, xo, xt, xn, xs, kd⟩, ks, num⟩ : TNode_)) = some b ∧ R.l2Fields (⟨22, xo, xt, xn, xs, kd⟩ : TNode) = some b := by
  obtain ⟨nb, h1, h2⟩ := name_same xs
  rw [fI_22, fR_22]
  simp only [h1, h2, I_integer, R_integer, Option.bind_some, and_bif, nand_bif, bne, Bool.and_true, fin_b]
  exact ⟨_, rfl, by congr 1; try ac_rfl⟩
theorem fields_23 (xo xt xn : Int) (xs : ByteArray) (kd : Int) (ks : List (Option TNode_)) (num : Int) : ∃ b, I.node_fieldsOk (some (⟨⟨23, xo, xt, xn, xs, kd⟩, ks, num⟩ : TNode_)) = some b ∧ R.l2Fields (⟨23, xo, xt, xn, xs, kd⟩ : TNode) = some b := by
  obtain ⟨nb, h1, h2⟩ := name_same xs
  rw [fI_23, fR_23]
  simp only [h1, h2, I_integer, R_integer, Option.bind_some, and_bif, nand_bif, bne, Bool.and_true, fin_b]
  exact ⟨_, rfl, by congr 1; try ac_rfl⟩
theorem fields_24 (xo xt xn : Int) (xs : ByteArray) (kd : Int) (ks : List (Option TNode_)) (num : Int) : ∃ b, I.node_fieldsOk (some (⟨⟨24, xo, xt, xn, xs, kd⟩, ks, num⟩ : TNode_)) = some b ∧ R.l2Fields (⟨24, xo, xt, xn, xs, kd⟩ : TNode) = some b := by
  rw [fI_24, fR_24]
  simp only [I_integer, R_integer, Option.bind_some, and_bif, nand_bif, bne, Bool.and_true, fin_b]
  exact ⟨_, rfl, by congr 1; try ac_rfl⟩
theorem fields_1 (xo xt xn : Int) (xs : ByteArray) (kd : Int) (ks : List (Option TNode_)) (num : Int) (hn : I64 xn) : ∃ b, I.node_fieldsOk (some (⟨⟨1, xo, xt, xn, xs, kd⟩, ks, num⟩ : TNode_)) = some b ∧ R.l2Fields (⟨1, xo, xt, xn, xs, kd⟩ : TNode) = some b := by
  rw [fI_1, fR_1, I_integer, R_integer, I_valid, Option.bind_some, Option.bind_some, Option.bind_some]
  by_cases ht : 3 ≤ xt ∧ xt ≤ 10
  · have e1 : (decide (3 ≤ xt) && decide (xt ≤ 10)) = true := by simp [ht.1, ht.2]
    have h12 : ¬ xt = 1 ∧ ¬ xt = 2 := by omega
    have e2 : valid (TValue.mk xt xn ⟨#[]⟩) = decide (xn = into xt (IntKind.u64.wrap xn)) := by
      unfold valid
      simp only [h12.1, h12.2, if_false, ht.1, ht.2, decide_true, Bool.true_and]
    rw [e1, e2, R_max xt ht.1 ht.2, cond_true, cond_true, Option.bind_some, ← int_same xt xn ht.1 ht.2 hn]
    refine ⟨(xo == 0) && (bEq xs ⟨#[]⟩ && (decide (xn = into xt (IntKind.u64.wrap xn)) && (decide (xn ≥ 0) || xt == 6))), ?_, ?_⟩
    · cases xo == 0 <;> cases bEq xs ⟨#[]⟩ <;> cases decide (xn = into xt (IntKind.u64.wrap xn)) <;> cases decide (xn ≥ 0) <;> cases xt == 6 <;> rfl
    · unfold bne
      cases xo == 0 <;> cases bEq xs ⟨#[]⟩ <;> cases decide (xn = into xt (IntKind.u64.wrap xn)) <;> cases decide (xn ≥ 0) <;> cases xt == 6 <;> rfl
  · have e1 : (decide (3 ≤ xt) && decide (xt ≤ 10)) = false := by simp; omega
    rw [e1, cond_false, cond_false]
    refine ⟨false, ?_, ?_⟩
    · cases xo == 0 <;> cases bEq xs ⟨#[]⟩ <;> rfl
    · unfold bne
      cases xo == 0 <;> cases bEq xs ⟨#[]⟩ <;> rfl
end Go.KM.P1
namespace Go.KM.P1
open Go Go.KM
open Go.KM.Fam (Dn dflt)
open Go.KM.Enc (cells sz mkE glob gany u8)
set_option autoImplicit false
set_option linter.unusedVariables false
set_option linter.unusedSimpArgs false
set_option maxRecDepth 100000
def Loc (n : TNode) (ks : List (Option TNode_)) (num : Int) : Prop :=
  ∃ a b c d : Bool, I.node_kidsOk (some ⟨n, ks, num⟩) = some a ∧ I.node_fieldsOk (some ⟨n, ks, num⟩) = some b ∧ R.l2Fields n = some c ∧ R.l2Fits n (ks.map kdO) = some d ∧ (a && b) = (c && d)
theorem loc_of {n : TNode} {ks : List (Option TNode_)} {num : Int} (h : ∃ a, I.node_kidsOk (some ⟨n, ks, num⟩) = some a ∧ R.l2Fits n (ks.map kdO) = some a) (h' : ∃ b, I.node_fieldsOk (some ⟨n, ks, num⟩) = some b ∧ R.l2Fields n = some b) : Loc n ks num :=
  let ⟨a, h1, h2⟩ := h; let ⟨b, h3, h4⟩ := h'; ⟨a, b, b, a, h1, h3, h4, h2, Bool.and_comm _ _⟩
theorem loc_8 (xo xt xn : Int) (xs : ByteArray) (kd : Int) (ks : List (Option TNode_)) (num : Int) (hs : ∀ o ∈ ks, o.isSome = true) (hl : ks.length ≤ 100000) : Loc ⟨8, xo, xt, xn, xs, kd⟩ ks num := by
  have hf : I.node_fieldsOk (some ⟨⟨8, xo, xt, xn, xs, kd⟩, ks, num⟩) = some ((xt == 0) && ((xn == 0) && bEq xs ⟨#[]⟩)) := by rw [fI_8]; simp only [and_bif]
  have hr : R.l2Fields ⟨8, xo, xt, xn, xs, kd⟩ = some ((xt == 0) && ((xn == 0) && (bEq xs ⟨#[]⟩ && (decide (xo ≥ 1) && decide (xo ≤ 12))))) := by rw [fR_8]; simp only [and_bif, nand_bif, bne]
  have hg := gI_8 xo xt xn xs kd ks num
  rw [kE _ ks num hs hl] at hg
  have hg' := gR_8 xo xt xn xs kd (ks.map kdO)
  rw [rE _ (by rw [List.length_map]; exact hl), all_map', List.length_map] at hg'
  by_cases hop : 1 ≤ xo ∧ xo ≤ 12
  · have key : ∃ w : Int, ∃ s : ByteArray, R.l1BuiltWord xo = some (s, w) ∧ [0, 1, 1, 1, 2, 0, 1, 2, 3, 2, 1, 1, 1].getD xo.toNat 0 = w := by
      have : xo = 1 ∨ xo = 2 ∨ xo = 3 ∨ xo = 4 ∨ xo = 5 ∨ xo = 6 ∨ xo = 7 ∨ xo = 8 ∨ xo = 9 ∨ xo = 10 ∨ xo = 11 ∨ xo = 12 := by omega
      rcases this with rfl | rfl | rfl | rfl | rfl | rfl | rfl | rfl | rfl | rfl | rfl | rfl
      · exact ⟨_, _, bw_1, rfl⟩
      · exact ⟨_, _, bw_2, rfl⟩
      · exact ⟨_, _, bw_3, rfl⟩
      · exact ⟨_, _, bw_4, rfl⟩
      · exact ⟨_, _, bw_5, rfl⟩
      · exact ⟨_, _, bw_6, rfl⟩
      · exact ⟨_, _, bw_7, rfl⟩
      · exact ⟨_, _, bw_8, rfl⟩
      · exact ⟨_, _, bw_9, rfl⟩
      · exact ⟨_, _, bw_10, rfl⟩
      · exact ⟨_, _, bw_11, rfl⟩
      · exact ⟨_, _, bw_12, rfl⟩
    obtain ⟨w, s, h1, h2⟩ := key
    have d1 : decide (xo ≥ 1) = true := by simpa using hop.1
    have d2 : decide (xo ≤ 12) = true := by simpa using hop.2
    have d3 : inB xo [0, 1, 1, 1, 2, 0, 1, 2, 3, 2, 1, 1, 1].length = true := by simp [inB]; omega
    rw [d1, d2, d3, h2, cond_true, cond_true, cond_true, Option.bind_some, and_bif] at hg
    rw [h1, Option.bind_some, Option.bind_some, and_bif] at hg'
    rw [d1, d2] at hr
    refine ⟨_, _, _, _, hg, hf, hr, hg', ?_⟩
    simp only [Bool.and_true]
    ac_rfl
  · have hb : (decide (xo ≥ 1) && decide (xo ≤ 12)) = false := by simp; omega
    have hc : I.node_kidsOk (some ⟨⟨8, xo, xt, xn, xs, kd⟩, ks, num⟩) = some false := by
      rw [hg]
      by_cases h1 : 1 ≤ xo
      · rw [bif_t (b := decide (xo ≥ 1)) (by simpa using h1), bif_f (b := decide (xo ≤ 12)) (by simp; omega)]
      · rw [bif_f (b := decide (xo ≥ 1)) (by simpa using h1)]
    have hd : ∃ d, R.l2Fits ⟨8, xo, xt, xn, xs, kd⟩ (ks.map kdO) = some d := by
      have : ∃ r, R.l1BuiltWord xo = some r := by
        rw [R.l1BuiltWord_eq]
        repeat' (first | exact ⟨_, rfl⟩ | (cases (xo == (_ : Int)) <;> simp only [cond_true, cond_false]))
      obtain ⟨r, h1⟩ := this
      rw [h1, Option.bind_some, Option.bind_some, and_bif] at hg'
      exact ⟨_, hg'⟩
    obtain ⟨d, hd⟩ := hd
    rw [hb] at hr
    refine ⟨_, _, _, _, hc, hf, hr, hd, ?_⟩
    simp only [Bool.and_false, Bool.false_and]
theorem loc_rest (K xo xt xn : Int) (xs : ByteArray) (kd : Int) (ks : List (Option TNode_)) (num : Int) (hK : K < 1 ∨ 24 < K) : Loc ⟨K, xo, xt, xn, xs, kd⟩ ks num := by
  have hb : ∀ m : Int, 1 ≤ m → m ≤ 24 → (K == m) = false := fun m h1 h2 => beq_eq_false_iff_ne.2 (by omega)
  have b1 := hb 1 (by omega) (by omega)
  have b2 := hb 2 (by omega) (by omega)
  have b3 := hb 3 (by omega) (by omega)
  have b4 := hb 4 (by omega) (by omega)
  have b5 := hb 5 (by omega) (by omega)
  have b6 := hb 6 (by omega) (by omega)
  have b7 := hb 7 (by omega) (by omega)
  have b8 := hb 8 (by omega) (by omega)
  have b9 := hb 9 (by omega) (by omega)
  have b10 := hb 10 (by omega) (by omega)
  have b11 := hb 11 (by omega) (by omega)
  have b12 := hb 12 (by omega) (by omega)
  have b13 := hb 13 (by omega) (by omega)
  have b14 := hb 14 (by omega) (by omega)
  have b15 := hb 15 (by omega) (by omega)
  have b16 := hb 16 (by omega) (by omega)
  have b17 := hb 17 (by omega) (by omega)
  have b18 := hb 18 (by omega) (by omega)
  have b19 := hb 19 (by omega) (by omega)
  have b20 := hb 20 (by omega) (by omega)
  have b21 := hb 21 (by omega) (by omega)
  have b22 := hb 22 (by omega) (by omega)
  have b23 := hb 23 (by omega) (by omega)
  have b24 := hb 24 (by omega) (by omega)
  have h1 : I.node_kidsOk (some ⟨⟨K, xo, xt, xn, xs, kd⟩, ks, num⟩) = some false := by
    rw [I.node_kidsOk_eq]
    simp only [Option.isSome_some, Option.getD_some, cond_true, cond_false, b1, b2, b3, b4, b14, b15, b22]
    rw [I.node_kidsOk.l117_eq]
    simp only [cond_false, b5, b9, b10, b11, b17, b19]
    rw [I.node_kidsOk.l471_eq]
    simp only [cond_false, b6, b18]
    rw [I.node_kidsOk.l1887_eq]
    simp only [cond_false, b7, b8, b12, b13, b16, b20, b21, b23, b24]
  have h2 : ∃ b, I.node_fieldsOk (some ⟨⟨K, xo, xt, xn, xs, kd⟩, ks, num⟩) = some b := by
    rw [I.node_fieldsOk_eq]
    simp only [Option.isSome_some, Option.getD_some, cond_true, cond_false, b1, b2, b3, b4, b7, b10, b11]
    rw [I.node_fieldsOk.l7551_eq]
    simp only [cond_false, b5, b6, b8, b9, b22, b23, and_bif]
    exact ⟨_, rfl⟩
  have hu : R.l2Uses K = some (false, false, false, false) := by
    rw [R.l2Uses_eq]
    simp only [cond_false, b1, b2, b4, b7, b10, b11]
    rw [R.l2Uses.l215_eq]
    simp only [cond_false, b3, b5, b6, b8]
    rw [R.l2Uses.l3455_eq]
    simp only [cond_false, b9, b22, b23]
  have hn : R.l2Named K = some false := by
    rw [R.l2Named_eq]
    simp only [cond_false, b4, b7, b10, b11, b22, b23]
  have h3 : ∃ c, R.l2Fields ⟨K, xo, xt, xn, xs, kd⟩ = some c := by
    rw [R.l2Fields_eq]
    simp only [hu, hn, Option.bind_some, Bool.not_false, cond_true, cond_false, b1, b2, b3, b5, b6, b8, b9, b22, b23, bne, nand_bif]
    exact ⟨_, rfl⟩
  have h4 : R.l2Fits ⟨K, xo, xt, xn, xs, kd⟩ (ks.map kdO) = some false := by
    rw [R.l2Fits_eq]
    simp only [cond_false, b1, b2, b3, b4, b14, b15, b22]
    rw [R.l2Fits.l117_eq]
    simp only [cond_false, b5, b9, b10, b11, b17, b19]
    rw [R.l2Fits.l471_eq]
    simp only [cond_false, b6, b18]
    rw [R.l2Fits.l1887_eq]
    simp only [cond_false, b7, b8, b12, b13, b16, b20, b21, b23, b24]
  obtain ⟨b, h2⟩ := h2
  obtain ⟨c, h3⟩ := h3
  exact ⟨_, _, _, _, h1, h2, h3, h4, by simp⟩
theorem loc_same (n : TNode) (ks : List (Option TNode_)) (num : Int) (hs : ∀ o ∈ ks, o.isSome = true) (hl : ks.length ≤ 100000) (hn : I64 n.gN) : Loc n ks num := by
  obtain ⟨K, xo, xt, xn, xs, kd⟩ := n
  by_cases hK : K < 1 ∨ 24 < K
  · exact loc_rest K xo xt xn xs kd ks num hK
  · have : K = 1 ∨ K = 2 ∨ K = 3 ∨ K = 4 ∨ K = 5 ∨ K = 6 ∨ K = 7 ∨ K = 8 ∨ K = 9 ∨ K = 10 ∨ K = 11 ∨ K = 12 ∨ K = 13 ∨ K = 14 ∨ K = 15 ∨ K = 16 ∨ K = 17 ∨ K = 18 ∨ K = 19 ∨ K = 20 ∨ K = 21 ∨ K = 22 ∨ K = 23 ∨ K = 24 := by omega
    rcases this with rfl | rfl | rfl | rfl | rfl | rfl | rfl | rfl | rfl | rfl | rfl | rfl | rfl | rfl | rfl | rfl | rfl | rfl | rfl | rfl | rfl | rfl | rfl | rfl
    · exact loc_of (kids_1 xo xt xn xs kd ks num hs hl) (fields_1 xo xt xn xs kd ks num hn)
    · exact loc_of (kids_2 xo xt xn xs kd ks num hs hl) (fields_2 xo xt xn xs kd ks num)
    · exact loc_of (kids_3 xo xt xn xs kd ks num hs hl) (fields_3 xo xt xn xs kd ks num)
    · exact loc_of (kids_4 xo xt xn xs kd ks num hs hl) (fields_4 xo xt xn xs kd ks num)
    · exact loc_of (kids_5 xo xt xn xs kd ks num hs hl) (fields_5 xo xt xn xs kd ks num)
    · exact loc_of (kids_6 xo xt xn xs kd ks num hs hl) (fields_6 xo xt xn xs kd ks num)
    · exact loc_of (kids_7 xo xt xn xs kd ks num hs hl) (fields_7 xo xt xn xs kd ks num)
    · exact loc_8 xo xt xn xs kd ks num hs hl
    · exact loc_of (kids_9 xo xt xn xs kd ks num hs hl) (fields_9 xo xt xn xs kd ks num)
    · exact loc_of (kids_10 xo xt xn xs kd ks num hs hl) (fields_10 xo xt xn xs kd ks num)
    · exact loc_of (kids_11 xo xt xn xs kd ks num hs hl) (fields_11 xo xt xn xs kd ks num)
    · exact loc_of (kids_12 xo xt xn xs kd ks num hs hl) (fields_12 xo xt xn xs kd ks num)
    · exact loc_of (kids_13 xo xt xn xs kd ks num hs hl) (fields_13 xo xt xn xs kd ks num)
    · exact loc_of (kids_14 xo xt xn xs kd ks num hs hl) (fields_14 xo xt xn xs kd ks num)
    · exact loc_of (kids_15 xo xt xn xs kd ks num hs hl) (fields_15 xo xt xn xs kd ks num)
    · exact loc_of (kids_16 xo xt xn xs kd ks num hs hl) (fields_16 xo xt xn xs kd ks num)
    · exact loc_of (kids_17 xo xt xn xs kd ks num hs hl) (fields_17 xo xt xn xs kd ks num)
    · exact loc_of (kids_18 xo xt xn xs kd ks num hs hl) (fields_18 xo xt xn xs kd ks num)
    · exact loc_of (kids_19 xo xt xn xs kd ks num hs hl) (fields_19 xo xt xn xs kd ks num)
    · exact loc_of (kids_20 xo xt xn xs kd ks num hs hl) (fields_20 xo xt xn xs kd ks num)
    · exact loc_of (kids_21 xo xt xn xs kd ks num hs hl) (fields_21 xo xt xn xs kd ks num)
    · exact loc_of (kids_22 xo xt xn xs kd ks num hs hl) (fields_22 xo xt xn xs kd ks num)
    · exact loc_of (kids_23 xo xt xn xs kd ks num hs hl) (fields_23 xo xt xn xs kd ks num)
    · exact loc_of (kids_24 xo xt xn xs kd ks num hs hl) (fields_24 xo xt xn xs kd ks num)
structure Tr (L : List TNode) (i : Nat) (op : List Nat) (out : List (List Nat)) (bs : List TNode_) : Prop where
  lo : out.length = i
  lb : bs.length = i
  rg : ∀ r ∈ op, r < i
  ky : ∀ (j : Nat) (ks : List Nat), out[j]? = some ks → (∀ k ∈ ks, k < j) ∧ ks.length ≤ j ∧ ∃ x, L[j]? = some x ∧ bs[j]? = some ⟨x, ks.map (fun k => bs[k]?), (j : Int)⟩
  la : ∀ r, op.getLast? = some r → r + 1 = i
  ol : op.length ≤ i
  cover : ∀ (P Q : Nat → Prop), (∀ (j : Nat) (ks : List Nat), out[j]? = some ks → (Q j ↔ P j ∧ ∀ k ∈ ks, Q k)) → ((∀ j, j < i → P j) ↔ ∀ r ∈ op, Q r)
  sum : ∀ (w W : Nat → Nat), (∀ (j : Nat) (ks : List Nat), out[j]? = some ks → W j = w j + (ks.map W).sum) → (op.map W).sum = ((List.range i).map w).sum
theorem Tr.nil (L : List TNode) : Tr L 0 [] [] [] := ⟨rfl, rfl, fun r h => (by cases h), fun j ks h => (by simp at h), fun r h => (by simp at h), Nat.le_refl _, fun P Q _ => ⟨fun _ r h => (by cases h), fun _ j h => (by omega)⟩, fun _ _ _ => rfl⟩
theorem map_grow {bs : List TNode_} {b : TNode_} {ks : List Nat} {i : Nat} (hb : bs.length = i) (h : ∀ k ∈ ks, k < i) : ks.map (fun k => (bs ++ [b])[k]?) = ks.map (fun k => bs[k]?) := by
  apply List.map_congr_left
  intro k hk
  rw [List.getElem?_append_left (by have := h k hk; omega)]
theorem Tr.step {L : List TNode} {i : Nat} {op : List Nat} {out : List (List Nat)} {bs : List TNode_} (h : Tr L i op out bs) {x : TNode} (hx : L[i]? = some x) {k : Nat} (hk : k ≤ op.length) :
    Tr L (i + 1) (op.take (op.length - k) ++ [i]) (out ++ [op.drop (op.length - k)]) (bs ++ [⟨x, (op.drop (op.length - k)).map (fun k => bs[k]?), (i : Int)⟩]) := by
  have hd : ∀ r ∈ op.drop (op.length - k), r < i := fun r hr => h.rg r (List.mem_of_mem_drop hr)
  refine ⟨by simp [h.lo], by simp [h.lb], fun r hr => ?_, fun j ks hj => ?_, fun r hr => ?_, by simp; have := h.ol; omega, fun P Q hPQ => ?_, fun w W hW => ?_⟩
  · rcases List.mem_append.1 hr with hr | hr
    · have := h.rg r (List.mem_of_mem_take hr); omega
    · simp at hr; omega
  · by_cases hji : j < i
    · rw [List.getElem?_append_left (by rw [h.lo]; exact hji)] at hj
      obtain ⟨h1, h2, y, h3, h4⟩ := h.ky j ks hj
      refine ⟨h1, h2, y, h3, ?_⟩
      rw [List.getElem?_append_left (by rw [h.lb]; exact hji), map_grow h.lb (fun q hq => by have := h1 q hq; omega)]
      exact h4
    · have hji' : j = i := by
        have := (List.getElem?_eq_some_iff.1 hj).1
        simp [h.lo] at this; omega
      subst hji'
      rw [List.getElem?_append_right (by rw [h.lo]; exact Nat.le_refl _), h.lo] at hj
      simp at hj
      subst hj
      refine ⟨hd, by simp; have := h.ol; omega, x, hx, ?_⟩
      rw [List.getElem?_append_right (by rw [h.lb]; exact Nat.le_refl _), h.lb, map_grow h.lb hd]
      simp
  · simp at hr; omega
  · have hQ : ∀ (j : Nat) (ks : List Nat), out[j]? = some ks → (Q j ↔ P j ∧ ∀ k ∈ ks, Q k) := fun j ks hj => hPQ j ks (by rw [List.getElem?_append_left (List.getElem?_eq_some_iff.1 hj).1]; exact hj)
    have hi := hPQ i (op.drop (op.length - k)) (by rw [List.getElem?_append_right (by rw [h.lo]; exact Nat.le_refl _), h.lo]; simp)
    have hc := h.cover P Q hQ
    constructor
    · intro hall r hr
      have h1 := hc.1 fun j hj => hall j (by omega)
      rcases List.mem_append.1 hr with hr | hr
      · exact h1 r (List.mem_of_mem_take hr)
      · simp at hr; subst hr
        exact hi.2 ⟨hall r (by omega), fun q hq => h1 q (List.mem_of_mem_drop hq)⟩
    · intro hall j hj
      have h1 := hi.1 (hall i (by simp))
      by_cases hji : j < i
      · refine hc.2 (fun r hr => ?_) j hji
        rw [← List.take_append_drop (op.length - k) op] at hr
        rcases List.mem_append.1 hr with hr | hr
        · exact hall r (by simp [hr])
        · exact h1.2 r hr
      · have : j = i := by omega
        subst this; exact h1.1
  · have h1 := h.sum w W fun j ks hj => hW j ks (by rw [List.getElem?_append_left (List.getElem?_eq_some_iff.1 hj).1]; exact hj)
    have h2 := hW i (op.drop (op.length - k)) (by rw [List.getElem?_append_right (by rw [h.lo]; exact Nat.le_refl _), h.lo]; simp)
    have h3 : (op.map W).sum = ((op.take (op.length - k)).map W).sum + ((op.drop (op.length - k)).map W).sum := by
      rw [← List.sum_append, ← List.map_append, List.take_append_drop]
    rw [List.map_append, List.sum_append, List.range_succ, List.map_append, List.sum_append]
    simp only [List.map_cons, List.map_nil, List.sum_cons, List.sum_nil]
    omega
end Go.KM.P1
namespace Go.KM.P1
open Go Go.KM
open Go.KM.Fam (Dn dflt)
open Go.KM.Enc (cells sz mkE glob gany u8)
set_option autoImplicit false
set_option linter.unusedVariables false
set_option linter.unusedSimpArgs false
set_option maxRecDepth 100000
def toI (l : List Nat) : List Int := l.map fun (r : Nat) => (r : Int)
def stk (bs : List TNode_) (op : List Nat) : List (Option TNode_) := op.map fun r => bs[r]?
theorem sub_end {α : Type} (xs : List α) {k : Nat} (hk : k ≤ xs.length) : sub xs (k : Int) (xs.length : Int) = xs.drop k := by
  unfold sub; rw [Int.toNat_natCast, Int.toNat_natCast, List.take_of_length_le (Nat.le_refl _)]
theorem stk_step {bs : List TNode_} {op : List Nat} {i k : Nat} (hb : bs.length = i) (h : ∀ r ∈ op, r < i) (b : TNode_) : (stk bs op).take (op.length - k) ++ [some b] = stk (bs ++ [b]) (op.take (op.length - k) ++ [i]) := by
  unfold stk
  rw [List.map_append, map_grow hb (fun r hr => h r (List.mem_of_mem_take hr)), List.map_take]
  congr 1
  rw [← hb]
  simp
theorem build (L : List TNode) (hL : L.length ≤ 12001) (t : TTree) (ht : t.gNodes = L) : ∀ (m i : Nat) (op : List Nat) (out : List (List Nat)) (bs : List TNode_), Tr L i op out bs → i + m = L.length →
    (I.grow.l244 (stk bs op) L L.length i = some none ∧ ∃ o, R.l2Kids.l1012 L.length (out.map toI) (toI op) i t = some (o, false)) ∨
    ∃ op' out' bs', Tr L L.length op' out' bs' ∧ I.grow.l244 (stk bs op) L L.length i = (if op'.length = 1 then some ((stk bs' op').getD 0 none) else some none) ∧ R.l2Kids.l1012 L.length (out.map toI) (toI op) i t = some (out'.map toI, decide (op'.length = 1)) := by
  intro m
  induction m with
  | zero =>
    intro i op out bs h hi
    have hi : i = L.length := by omega
    subst hi
    right
    refine ⟨op, out, bs, h, ?_, ?_⟩
    · rw [I.grow.l244_eq, bif_f (ge_dec (Nat.le_refl _))]
      have e : (stk bs op).length = op.length := by unfold stk; rw [List.length_map]
      rw [e]
      by_cases h1 : op.length = 1
      · rw [if_pos h1, bif_f (b := ((op.length : Int) != 1)) (by simp [h1]), bif_t (b := inB 0 op.length) (by simp [inB, h1])]
      · rw [if_neg h1, bif_t (b := ((op.length : Int) != 1)) (bne_iff_ne.2 (by omega))]
    · rw [R.l2Kids.l1012_eq, bif_f (ge_dec (Nat.le_refl _))]
      have e : (toI op).length = op.length := by unfold toI; rw [List.length_map]
      rw [e]
      congr 2
      rw [Bool.eq_iff_iff]; simp; omega
  | succ m ih =>
    intro i op out bs h hi
    have hil : i < L.length := by omega
    have e1 : (stk bs op).length = op.length := by unfold stk; rw [List.length_map]
    have e2 : (toI op).length = op.length := by unfold toI; rw [List.length_map]
    have e3 : (out.map toI).length = i := by rw [List.length_map, h.lo]
    have hol := h.ol
    rw [I.grow.l244_eq, R.l2Kids.l1012_eq, ht]
    simp only [lt_dec hil, inB_nat hil, cond_true, Int.toNat_natCast, getD_lt hil, e1, e2]
    by_cases hk0 : L[i].gKids < 0
    · simp only [decide_eq_true hk0, cond_true]
      exact .inl ⟨by trivial, _, rfl⟩
    · by_cases hk1 : L[i].gKids > (op.length : Int)
      · simp only [decide_eq_false hk0, decide_eq_true hk1, cond_true, cond_false]
        exact .inl ⟨by trivial, _, rfl⟩
      · obtain ⟨k, hk⟩ : ∃ k : Nat, L[i].gKids = k := ⟨L[i].gKids.toNat, by omega⟩
        have hkl : k ≤ op.length := by omega
        have w : IntKind.i64.wrap ((op.length : Int) - L[i].gKids) = ((op.length - k : Nat) : Int) := by rw [hk, wi (by omega) (by omega)]; omega
        have hin : inS ((op.length - k : Nat) : Int) (op.length : Int) op.length = true := inS_iff.2 ⟨by omega, by omega, by omega⟩
        have hin0 : inS 0 ((op.length - k : Nat) : Int) op.length = true := inS_iff.2 ⟨by omega, by omega, by omega⟩
        have s1 : sub (stk bs op) ((op.length - k : Nat) : Int) (op.length : Int) = (op.drop (op.length - k)).map (fun r => bs[r]?) := by
          have := sub_end (stk bs op) (k := op.length - k) (by rw [e1]; omega)
          rw [e1] at this
          rw [this]; unfold stk; rw [List.map_drop]
        have s2 : sub (toI op) ((op.length - k : Nat) : Int) (op.length : Int) = toI (op.drop (op.length - k)) := by
          have := sub_end (toI op) (k := op.length - k) (by rw [e2]; omega)
          rw [e2] at this
          rw [this]; unfold toI; rw [List.map_drop]
        have hx : L[i]? = some L[i] := List.getElem?_eq_getElem hil
        have hst := h.step hx hkl
        have r1 : ∀ (y : Option TNode_), room ((List.take (op.length - k) (stk bs op)).length + [y].length) 8 = true := fun y => room_ok (by simp [e1]; omega)
        have r2 : ∀ (y : Int), room ((List.take (op.length - k) (toI op)).length + [y].length) 8 = true := fun y => room_ok (by simp [e2]; omega)
        have r3 : room ((op.drop (op.length - k)).map (fun r => bs[r]?)).length 8 = true := room_ok (by simp; omega)
        have r4 : room (0 + (toI (op.drop (op.length - k))).length) 8 = true := room_ok (by unfold toI; simp; omega)
        have r5 : ∀ y : List Int, room ((out.map toI).length + [y].length) 24 = true := fun y => room_ok (by rw [e3]; simp; omega)
        simp only [decide_eq_false hk0, decide_eq_false hk1, cond_false, w, hin, hin0, cond_true, s1, s2, Int.toNat_natCast, r1, r2, r3, r4, r5, wi_succ (show i < 9223372036854775807 by omega)]
        have eb : (TNode_.mk (TNode.mk L[i].gKind L[i].gOp L[i].gType L[i].gN L[i].gText L[i].gKids) ((op.drop (op.length - k)).map (fun r => bs[r]?)) (i : Int)) = ⟨L[i], (op.drop (op.length - k)).map (fun r => bs[r]?), (i : Int)⟩ := rfl
        rw [eb, stk_step h.lb h.rg]
        have eo : out.map toI ++ [toI (op.drop (op.length - k))] = (out ++ [op.drop (op.length - k)]).map toI := by rw [List.map_append]; rfl
        have ep : List.take (op.length - k) (toI op) ++ [(i : Int)] = toI (op.take (op.length - k) ++ [i]) := by unfold toI; rw [List.map_append, List.map_take]; rfl
        rw [eo, ep]
        exact ih (i + 1) _ _ _ hst (by omega)
def tabl {β : Type} (f : List β → List Nat → β) (out : List (List Nat)) : List β := out.foldl (fun acc ks => acc ++ [f acc ks]) []
theorem tabl_run {β : Type} (f : List β → List Nat → β) : ∀ (out : List (List Nat)) (acc : List β), (out.foldl (fun acc ks => acc ++ [f acc ks]) acc).take acc.length = acc ∧ (out.foldl (fun acc ks => acc ++ [f acc ks]) acc).length = acc.length + out.length ∧
    ∀ (j : Nat) (ks : List Nat), out[j]? = some ks → (out.foldl (fun acc ks => acc ++ [f acc ks]) acc)[acc.length + j]? = some (f ((out.foldl (fun acc ks => acc ++ [f acc ks]) acc).take (acc.length + j)) ks) := by
  intro out
  induction out with
  | nil => intro acc; exact ⟨by simp, by simp, fun j ks h => by simp at h⟩
  | cons k0 out ih =>
    intro acc
    obtain ⟨h1, h2, h3⟩ := ih (acc ++ [f acc k0])
    simp only [List.foldl_cons]
    generalize hr : out.foldl (fun acc ks => acc ++ [f acc ks]) (acc ++ [f acc k0]) = res at h1 h2 h3
    simp only [List.length_append, List.length_cons, List.length_nil, Nat.zero_add] at h1 h2 h3
    have h4 : res.take acc.length = acc := by
      have := congrArg (List.take acc.length) h1
      rw [List.take_take, Nat.min_eq_left (by omega)] at this
      rw [this]; simp
    refine ⟨h4, by simp [h2]; omega, fun j ks hj => ?_⟩
    cases j with
    | zero =>
      simp at hj; subst hj
      rw [Nat.add_zero, h4]
      have := congrArg (fun l => l[acc.length]?) h1
      simp only [List.getElem?_take] at this
      rw [if_pos (by omega)] at this
      rw [this]; simp
    | succ j =>
      have := h3 j ks (by simpa using hj)
      rw [show acc.length + (j + 1) = acc.length + 1 + j by omega]
      exact this
theorem tabl_get {β : Type} (f : List β → List Nat → β) {out : List (List Nat)} {j : Nat} {ks : List Nat} (h : out[j]? = some ks) : (tabl f out)[j]? = some (f ((tabl f out).take j) ks) := by
  have := (tabl_run f out []).2.2 j ks h
  simpa [tabl] using this
theorem tabl_len {β : Type} (f : List β → List Nat → β) (out : List (List Nat)) : (tabl f out).length = out.length := by
  have := (tabl_run f out []).2.1
  simpa [tabl] using this
theorem getD_take {β : Type} (l : List β) {k j : Nat} (h : k < j) (z : β) : (l.take j).getD k z = l.getD k z := by
  rw [List.getD_eq_getElem?_getD, List.getElem?_take, if_pos h, ← List.getD_eq_getElem?_getD]
def mxl (f : Nat → Nat) (ks : List Nat) : Nat := ks.foldl (fun h k => max h (f k + 1)) 0
theorem mxl_run (f : Nat → Nat) (B : Nat) : ∀ (ks : List Nat) (h : Nat), ks.foldl (fun h k => max h (f k + 1)) h ≤ B ↔ h ≤ B ∧ ∀ k ∈ ks, f k + 1 ≤ B := by
  intro ks
  induction ks with
  | nil => intro h; simp
  | cons k ks ih =>
    intro h
    simp only [List.foldl_cons, ih, List.mem_cons, forall_eq_or_imp, Nat.max_le, and_assoc]
theorem mxl_le {f : Nat → Nat} {B : Nat} {ks : List Nat} : mxl f ks ≤ B ↔ ∀ k ∈ ks, f k + 1 ≤ B := by unfold mxl; rw [mxl_run]; simp
theorem foldl_congr' {f g : Nat → Nat} : ∀ (ks : List Nat) (h : Nat), (∀ k ∈ ks, f k = g k) → ks.foldl (fun h k => max h (f k + 1)) h = ks.foldl (fun h k => max h (g k + 1)) h := by
  intro ks
  induction ks with
  | nil => intro h _; rfl
  | cons k ks ih => intro h hk; simp only [List.foldl_cons]; rw [hk k (by simp), ih _ fun q hq => hk q (by simp [hq])]
def hgt (out : List (List Nat)) : List Nat := tabl (fun acc ks => mxl (fun k => acc.getD k 0) ks) out
def Hh (out : List (List Nat)) (j : Nat) : Nat := (hgt out).getD j 0
theorem Hh_eq {out : List (List Nat)} {j : Nat} {ks : List Nat} (h : out[j]? = some ks) (hk : ∀ k ∈ ks, k < j) : Hh out j = mxl (Hh out) ks := by
  unfold Hh
  rw [List.getD_eq_getElem?_getD, show (hgt out)[j]? = _ from tabl_get _ h, Option.getD_some]
  unfold mxl
  exact foldl_congr' ks 0 fun k hkk => getD_take _ (hk k hkk) 0
def gds (loc : Nat → Bool) (out : List (List Nat)) : List Bool := tabl (fun acc ks => loc acc.length && ks.all fun k => acc.getD k false) out
def Gd (loc : Nat → Bool) (out : List (List Nat)) (j : Nat) : Bool := (gds loc out).getD j false
theorem Gd_eq {loc : Nat → Bool} {out : List (List Nat)} {j : Nat} {ks : List Nat} (h : out[j]? = some ks) (hk : ∀ k ∈ ks, k < j) : Gd loc out j = (loc j && ks.all (Gd loc out)) := by
  have hj : j < out.length := (List.getElem?_eq_some_iff.1 h).1
  unfold Gd
  rw [List.getD_eq_getElem?_getD, show (gds loc out)[j]? = _ from tabl_get _ h, Option.getD_some, List.length_take, show (tabl _ out).length = _ from tabl_len _ out, Nat.min_eq_left (by omega)]
  congr 1
  rw [Bool.eq_iff_iff]
  simp only [List.all_eq_true]
  constructor
  · intro hh k hkk; have := hh k hkk; rw [getD_take _ (hk k hkk)] at this; exact this
  · intro hh k hkk; rw [getD_take _ (hk k hkk)]; exact hh k hkk
noncomputable def locB (L : List TNode) (out : List (List Nat)) (j : Nat) : Bool :=
  (R.l2Fields (L.getD j TNode.z)).getD false && (R.l2Fits (L.getD j TNode.z) ((out.getD j []).map fun k => (L.getD k TNode.z).gKind)).getD false
section
variable {L : List TNode} {op : List Nat} {out : List (List Nat)} {bs : List TNode_} (hL : L.length ≤ 12001) (hI : ∀ x ∈ L, I64 x.gN) (h : Tr L L.length op out bs)
include hL hI h
theorem node_at {j : Nat} (hj : j < L.length) : ∃ ks, out[j]? = some ks ∧ (∀ k ∈ ks, k < j) ∧ ks.length ≤ j ∧ bs[j]? = some ⟨L[j], ks.map (fun k => bs[k]?), (j : Int)⟩ ∧
    ∃ a b c d : Bool, I.node_kidsOk bs[j]? = some a ∧ I.node_fieldsOk bs[j]? = some b ∧ R.l2Fields L[j] = some c ∧ R.l2Fits L[j] (ks.map fun k => (L.getD k TNode.z).gKind) = some d ∧ (a && b) = locB L out j ∧ (c && d) = locB L out j := by
  have hjo : j < out.length := by rw [h.lo]; exact hj
  have ho : out[j]? = some out[j] := List.getElem?_eq_getElem hjo
  obtain ⟨h1, h2, x, h3, h4⟩ := h.ky j _ ho
  rw [List.getElem?_eq_getElem hj] at h3
  have h3 := Option.some.inj h3
  subst h3
  have hb : ∀ k, k < j → ∃ b, bs[k]? = some b ∧ b.gNode = L.getD k TNode.z := fun k hk => by
    have hko : k < out.length := by omega
    obtain ⟨_, _, y, h5, h6⟩ := h.ky k _ (List.getElem?_eq_getElem hko)
    exact ⟨_, h6, by rw [List.getD_eq_getElem?_getD, h5]; rfl⟩
  have hs : ∀ o ∈ out[j].map (fun k => bs[k]?), o.isSome = true := fun o hoo => by
    obtain ⟨k, hk, rfl⟩ := List.mem_map.1 hoo
    obtain ⟨b, h5, _⟩ := hb k (h1 k hk)
    rw [h5]; rfl
  have hkd : (out[j].map (fun k => bs[k]?)).map kdO = out[j].map fun k => (L.getD k TNode.z).gKind := by
    rw [List.map_map]
    apply List.map_congr_left
    intro k hk
    obtain ⟨b, h5, h6⟩ := hb k (h1 k hk)
    show kdO bs[k]? = _
    rw [h5, ← h6]; rfl
  obtain ⟨a, b, c, d, q1, q2, q3, q4, q5⟩ := loc_same L[j] (out[j].map (fun k => bs[k]?)) (j : Int) hs (by rw [List.length_map]; omega) (hI _ (List.getElem_mem hj))
  rw [hkd] at q4
  have hloc : (c && d) = locB L out j := by
    unfold locB
    rw [getD_lt hj, q3, List.getD_eq_getElem?_getD (l := out), ho]
    simp only [Option.getD_some]
    rw [q4]
    rfl
  refine ⟨_, ho, h1, h2, h4, a, b, c, d, by rw [h4]; exact q1, by rw [h4]; exact q2, q3, q4, q5.trans hloc, hloc⟩
theorem ok_run : ∀ (j : Nat), j < L.length → ∀ a : Nat, a ≤ 61 → I.node_ok bs[j]? (a : Int) = some (decide (a + Hh out j ≤ 60) && Gd (locB L out) out j) := by
  intro j
  induction j using Nat.strongRecOn with
  | ind j ih =>
    intro hj a ha
    obtain ⟨ks, ho, h1, h2, hb, x, y, c, d, q1, q2, q3, q4, q5, q6⟩ := node_at hL hI h hj
    rw [I.node_ok_eq]
    by_cases h60 : (a : Int) > 60
    · rw [bif_t (by simpa using h60)]
      have : decide (a + Hh out j ≤ 60) = false := by simp; omega
      rw [this, Bool.false_and]
    · rw [bif_f (by simpa using h60), q1, q2, Option.bind_some, Option.bind_some, Gd_eq ho h1, ← q5]
      cases x with
      | false => simp
      | true =>
        cases y with
        | false => simp
        | true =>
          simp only [Bool.not_true, cond_false, Bool.true_and]
          rw [hb]
          simp only [Option.isSome_some, Option.getD_some, cond_true, List.length_map]
          have e := all_run ks (fun k => decide (a + 1 + Hh out k ≤ 60) && Gd (locB L out) out k) (fun q => I.node_ok.l116 a (ks.map fun k => bs[k]?) ks.length q) (some true) (fun q hq => by
            show I.node_ok.l116 a (ks.map fun k => bs[k]?) ks.length q = _
            have w : IntKind.i64.wrap ((a : Int) + 1) = ((a + 1 : Nat) : Int) := wi_succ (by omega)
            have hm : q < (ks.map fun k => bs[k]?).length := by rw [List.length_map]; exact hq
            have hkq := h1 ks[q] (List.getElem_mem hq)
            rw [I.node_ok.l116_eq, bif_t (lt_dec hq), bif_t (inB_nat hm), Int.toNat_natCast, getD_lt hm, List.getElem_map, w, ih ks[q] hkq (by omega) (a + 1) (by omega), Option.bind_some, wi_succ (by omega)]
            cases (decide (a + 1 + Hh out ks[q] ≤ 60) && Gd (locB L out) out ks[q]) <;> rfl) (by rw [I.node_ok.l116_eq, bif_f (ge_dec (Nat.le_refl _))])
          refine e.trans ((fin_b _).trans ?_)
          congr 1
          rw [Hh_eq ho h1, Bool.eq_iff_iff]
          simp only [List.all_eq_true, Bool.and_eq_true, decide_eq_true_eq]
          constructor
          · intro hh
            refine ⟨?_, fun k hk => (hh k hk).2⟩
            have : mxl (Hh out) ks ≤ 60 - a := mxl_le.2 fun k hk => by have := (hh k hk).1; omega
            omega
          · rintro ⟨hh1, hh2⟩ k hk
            refine ⟨?_, hh2 k hk⟩
            have : mxl (Hh out) ks ≤ 60 - a := by omega
            have := mxl_le.1 this k hk
            omega
theorem ref_inner (t : TTree) (ht : t.gNodes = L) (i : Nat) (hi : i < L.length) (ks : List Nat) (ho : out[i]? = some ks) : ∀ (m k : Nat), k + m = ks.length →
    R.ValidTree.l256308 (out.map toI) (toI ((hgt out).take i)) i ((ks.take k).map fun q => (L.getD q TNode.z).gKind) ((mxl (Hh out) (ks.take k) : Nat) : Int) k t =
    bif decide (Hh out i ≤ 60) && locB L out i then R.ValidTree.l500 (out.map toI) (toI ((hgt out).take (i + 1))) ((i + 1 : Nat) : Int) t else some false := by
  obtain ⟨ks', ho', h1, h2, hb, x, y, c, d, q1, q2, q3, q4, q5, q6⟩ := node_at hL hI h hi
  rw [ho] at ho'
  have ho' := Option.some.inj ho'
  subst ho'
  have hio : i < (out.map toI).length := by rw [List.length_map, h.lo]; exact hi
  have hlen : (toI ((hgt out).take i)).length = i := by
    unfold toI hgt; rw [List.length_map, List.length_take, tabl_len, h.lo]; omega
  have hg : (out.map toI).getD i [] = toI ks := by
    rw [getD_lt hio, List.getElem_map]
    congr 1
    exact Option.some.inj ((List.getElem?_eq_getElem _).symm.trans ho)
  have hHi := Hh_eq ho h1
  intro m
  induction m with
  | zero =>
    intro k hk
    have hk : k = ks.length := by omega
    subst hk
    rw [List.take_length, R.ValidTree.l256308_eq, bif_t (inB_nat hio), Int.toNat_natCast, hg, bif_f (b := decide ((ks.length : Int) < ((toI ks).length : Int))) (by unfold toI; simp), hlen, bif_t (room_ok (by simp; omega)), ← hHi, ht]
    by_cases h60 : Hh out i ≤ 60
    · rw [bif_f (b := decide (((Hh out i : Nat) : Int) > 60)) (by simp; omega), bif_t (inB_nat hi), getD_lt hi, q3, Option.bind_some]
      have e60 : decide (Hh out i ≤ 60) = true := by simpa using h60
      have etake : toI ((hgt out).take i) ++ [((Hh out i : Nat) : Int)] = toI ((hgt out).take (i + 1)) := by
        unfold toI Hh
        have hil : i < (hgt out).length := by unfold hgt; rw [tabl_len, h.lo]; exact hi
        rw [List.take_add_one, List.getElem?_eq_getElem hil, getD_lt hil, List.map_append]; rfl
      rw [e60, Bool.true_and, ← q6]
      cases c with
      | false => rfl
      | true =>
        rw [Bool.not_true, cond_false, bif_t (inB_nat hi), q4, Option.bind_some, Bool.true_and, wi_succ (by omega), etake]
        cases d <;> rfl
    · rw [bif_t (b := decide (((Hh out i : Nat) : Int) > 60)) (by simp; omega)]
      have e60 : decide (Hh out i ≤ 60) = false := by simpa using h60
      rw [e60]; rfl
  | succ m ih =>
    intro k hk
    have hkl : k < ks.length := by omega
    have hki := h1 ks[k] (List.getElem_mem hkl)
    have hlk : (toI ks).length = ks.length := by unfold toI; rw [List.length_map]
    have hgk : (toI ks).getD k 0 = ((ks[k] : Nat) : Int) := by
      rw [getD_lt (by rw [hlk]; exact hkl)]; unfold toI; rw [List.getElem_map]
    have hH : (toI ((hgt out).take i)).getD ks[k] 0 = ((Hh out ks[k] : Nat) : Int) := by
      unfold Hh
      rw [getD_lt (by rw [hlen]; exact hki)]
      unfold toI
      rw [List.getElem_map, List.getElem_take, getD_lt]
    have etk : ks.take (k + 1) = ks.take k ++ [ks[k]] := by rw [List.take_add_one, List.getElem?_eq_getElem hkl]; rfl
    have emx : mxl (Hh out) (ks.take (k + 1)) = max (mxl (Hh out) (ks.take k)) (Hh out ks[k] + 1) := by unfold mxl; rw [etk, List.foldl_append]; rfl
    have ekd : ((ks.take k).map fun q => (L.getD q TNode.z).gKind) ++ [(L.getD ks[k] TNode.z).gKind] = (ks.take (k + 1)).map fun q => (L.getD q TNode.z).gKind := by rw [etk, List.map_append]; rfl
    have hih := ih (k + 1) (by omega)
    rw [emx] at hih
    have hHb : Hh out ks[k] ≤ 12001 := by
      obtain ⟨ks2, ho2, h12, _⟩ := node_at hL hI h (j := ks[k]) (by omega)
      have hbnd : ∀ j, j < L.length → Hh out j ≤ j := by
        intro j
        induction j using Nat.strongRecOn with
        | ind j ihj =>
          intro hj
          obtain ⟨ks3, ho3, h13, _⟩ := node_at hL hI h hj
          rw [Hh_eq ho3 h13]
          exact mxl_le.2 fun q hq => by have h5 := h13 q hq; have := ihj q h5 (by omega); omega
      have := hbnd ks[k] (by omega)
      omega
    rw [R.ValidTree.l256308_eq, bif_t (inB_nat hio), Int.toNat_natCast, hg, hlk, hlen, bif_t (lt_dec hkl), bif_t (inB_nat hkl), Int.toNat_natCast, hgk, ht, Int.toNat_natCast, hH, wi_succ (show Hh out ks[k] < 9223372036854775807 by omega), wi_succ (show k < 9223372036854775807 by omega)]
    simp only [inB_nat hio, inB_nat hkl, inB_nat hki, inB_nat (show ks[k] < L.length by omega), cond_true]
    rw [bif_t (room_ok (by simp; omega)), ekd]
    by_cases hgt' : Hh out ks[k] + 1 > mxl (Hh out) (ks.take k)
    · rw [bif_t (b := decide (((Hh out ks[k] + 1 : Nat) : Int) > ((mxl (Hh out) (ks.take k) : Nat) : Int))) (by simp; omega)]
      rw [Nat.max_eq_right (by omega)] at hih
      exact hih
    · rw [bif_f (b := decide (((Hh out ks[k] + 1 : Nat) : Int) > ((mxl (Hh out) (ks.take k) : Nat) : Int))) (by simp; omega)]
      rw [Nat.max_eq_left (by omega)] at hih
      exact hih
theorem ref_run (t : TTree) (ht : t.gNodes = L) (h1 : 1 ≤ L.length) : R.ValidTree.l500 (out.map toI) [] 0 t = some (((List.range L.length).all fun j => decide (Hh out j ≤ 60) && locB L out j) && (L.getD (L.length - 1) TNode.z).gKind == 24) := by
  have hlo : (out.map toI).length = L.length := by rw [List.length_map, h.lo]
  have e := all_run (List.range L.length) (fun j => decide (Hh out j ≤ 60) && locB L out j) (fun i => R.ValidTree.l500 (out.map toI) (toI ((hgt out).take i.toNat)) i t) (some ((L.getD (L.length - 1) TNode.z).gKind == 24)) (fun i hi => by
    rw [List.length_range] at hi
    show R.ValidTree.l500 (out.map toI) (toI ((hgt out).take (i : Int).toNat)) i t = _
    have ho : out[i]? = some (out[i]'(by rw [h.lo]; exact hi)) := List.getElem?_eq_getElem (by rw [h.lo]; exact hi)
    rw [Int.toNat_natCast, R.ValidTree.l500_eq, hlo, bif_t (lt_dec hi), List.getElem_range]
    exact ref_inner hL hI h t ht i hi _ ho _ 0 (Nat.zero_add _)) (by
    rw [List.length_range]
    have w : IntKind.i64.wrap ((L.length : Int) - 1) = ((L.length - 1 : Nat) : Int) := by rw [wi (by omega) (by omega)]; omega
    show R.ValidTree.l500 _ _ _ _ = _
    rw [R.ValidTree.l500_eq, hlo, bif_f (ge_dec (Nat.le_refl _)), ht, w, bif_t (inB_nat (by omega)), Int.toNat_natCast])
  refine Eq.trans ?_ (e.trans (and_bif _ _))
  rfl
end
end Go.KM.P1
