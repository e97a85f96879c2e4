/- Plain laws: a node is well by the program where it is by the reference. Conditions: none. -/
import Derived.Test.YtdhkmgloghlnnaaDoorTTreeF
namespace Go.KM.T1
open Go Go.KM
open Go.KM.Fam (Dn dflt)
open Go.KM.Enc (cells sz mkE glob gany u8)
set_option autoImplicit false
set_option linter.unusedVariables false
set_option linter.unusedSimpArgs false
set_option maxRecDepth 100000
theorem all_map' (ks : List (Option TNode_)) (p : Int → Bool) : (ks.map kdO).all p = ks.all fun o => p (kdO o) := by rw [List.all_map]; rfl
theorem len_ne {α : Type} {l : List α} {n : Nat} {m : Int} (h : m = n) (hne : l.length ≠ n) : ((l.length : Int) == m) = false := beq_eq_false_iff_ne.2 (by omega)
theorem len_eq {α : Type} {l : List α} {n : Nat} {m : Int} (h : m = n) (he : l.length = n) : ((l.length : Int) == m) = true := by rw [he, h]; simp
section
variable (ks : List (Option TNode_)) {X Y : Option Bool}
theorem g0 (hX : X = some ((ks.length : Int) == 0)) (hY : Y = some (((ks.map kdO).length : Int) == 0)) : ∃ a, X = some a ∧ Y = some a := by
  rw [List.length_map] at hY; exact ⟨_, hX, hY⟩
theorem g1 (hX : X = bif (ks.length : Int) == 1 then (some (ks.all fun o => isE (kdO o))).bind fun (r0 : Bool) => some r0 else some false)
    (hY : Y = bif ((ks.map kdO).length : Int) == 1 then bif inB 0 (ks.map kdO).length then (R.l2E ((ks.map kdO).getD 0 0)).bind fun (r0 : Bool) => some r0 else none else some false) : ∃ a, X = some a ∧ Y = some a := by
  subst hX hY
  match ks with
  | [] => exact ⟨false, rfl, rfl⟩
  | [a] => refine ⟨isE (kdO a), by simp, ?_⟩; rw [show (([a].map kdO).getD 0 0) = kdO a from rfl, R_isE]; rfl
  | a :: b :: l => rw [bif_f (b := ((a :: b :: l).length : Int) == 1) (len_ne (n := 1) rfl (by simp)), bif_f (b := (((a :: b :: l).map kdO).length : Int) == 1) (len_ne (n := 1) rfl (by simp))]; exact ⟨false, rfl, rfl⟩
theorem g2 (c : Int) (hl : ks.length ≤ 100000) (hX : X = bif (ks.length : Int) == c then (some (ks.all fun o => isE (kdO o))).bind fun (r0 : Bool) => some r0 else some false)
    (hY : Y = bif ((ks.map kdO).length : Int) == c then (R.l2AllE (ks.map kdO)).bind fun (r0 : Bool) => some r0 else some false) : ∃ a, X = some a ∧ Y = some a := by
  rw [rE _ (by rw [List.length_map]; exact hl), all_map', List.length_map] at hY
  refine ⟨bif (ks.length : Int) == c then (ks.all fun o => isE (kdO o)) else false, hX.trans ?_, hY.trans ?_⟩
  · cases (ks.length : Int) == c <;> rfl
  · cases (ks.length : Int) == c <;> rfl
theorem g7 (hl : ks.length ≤ 100000) (hX : X = bif decide ((ks.length : Int) ≤ 8) then (some (ks.all fun o => isE (kdO o))).bind fun (r0 : Bool) => some r0 else some false)
    (hY : Y = bif decide (((ks.map kdO).length : Int) ≤ 8) then (R.l2AllE (ks.map kdO)).bind fun (r0 : Bool) => some r0 else some false) : ∃ a, X = some a ∧ Y = some a := by
  rw [rE _ (by rw [List.length_map]; exact hl), all_map', List.length_map] at hY
  refine ⟨bif decide ((ks.length : Int) ≤ 8) then (ks.all fun o => isE (kdO o)) else false, hX.trans ?_, hY.trans ?_⟩
  · cases decide ((ks.length : Int) ≤ 8) <;> rfl
  · cases decide ((ks.length : Int) ≤ 8) <;> rfl
end
theorem some_of {ks : List (Option TNode_)} (hs : ∀ o ∈ ks, o.isSome = true) {o : Option TNode_} (h : o ∈ ks) : ∃ x, o = some x := by
  have := hs o h
  cases o with
  | none => cases this
  | some x => exact ⟨x, rfl⟩

theorem kids_1 (xo xt xn : Int) (xs : ByteArray) (kd : Int) (ks : List (Option TNode_)) (num : Int) (hs : ∀ o ∈ ks, o.isSome = true) (hl : ks.length ≤ 100000) : ∃ a, I.node_kidsOk (some (⟨⟨1, xo, xt, xn, xs, kd⟩, ks, num⟩ : TNode_)) = some a ∧ R.l2Fits (⟨1, xo, xt, xn, xs, kd⟩ : TNode) (ks.map kdO) = some a := g0 ks (gI_1 xo xt xn xs kd ks num) (gR_1 xo xt xn xs kd _)
theorem kids_2 (xo xt xn : Int) (xs : ByteArray) (kd : Int) (ks : List (Option TNode_)) (num : Int) (hs : ∀ o ∈ ks, o.isSome = true) (hl : ks.length ≤ 100000) : ∃ a, I.node_kidsOk (some (⟨⟨2, xo, xt, xn, xs, kd⟩, ks, num⟩ : TNode_)) = some a ∧ R.l2Fits (⟨2, xo, xt, xn, xs, kd⟩ : TNode) (ks.map kdO) = some a := g0 ks (gI_2 xo xt xn xs kd ks num) (gR_2 xo xt xn xs kd _)
theorem kids_3 (xo xt xn : Int) (xs : ByteArray) (kd : Int) (ks : List (Option TNode_)) (num : Int) (hs : ∀ o ∈ ks, o.isSome = true) (hl : ks.length ≤ 100000) : ∃ a, I.node_kidsOk (some (⟨⟨3, xo, xt, xn, xs, kd⟩, ks, num⟩ : TNode_)) = some a ∧ R.l2Fits (⟨3, xo, xt, xn, xs, kd⟩ : TNode) (ks.map kdO) = some a := g0 ks (gI_3 xo xt xn xs kd ks num) (gR_3 xo xt xn xs kd _)
theorem kids_4 (xo xt xn : Int) (xs : ByteArray) (kd : Int) (ks : List (Option TNode_)) (num : Int) (hs : ∀ o ∈ ks, o.isSome = true) (hl : ks.length ≤ 100000) : ∃ a, I.node_kidsOk (some (⟨⟨4, xo, xt, xn, xs, kd⟩, ks, num⟩ : TNode_)) = some a ∧ R.l2Fits (⟨4, xo, xt, xn, xs, kd⟩ : TNode) (ks.map kdO) = some a := g0 ks (gI_4 xo xt xn xs kd ks num) (gR_4 xo xt xn xs kd _)
theorem kids_14 (xo xt xn : Int) (xs : ByteArray) (kd : Int) (ks : List (Option TNode_)) (num : Int) (hs : ∀ o ∈ ks, o.isSome = true) (hl : ks.length ≤ 100000) : ∃ a, I.node_kidsOk (some (⟨⟨14, xo, xt, xn, xs, kd⟩, ks, num⟩ : TNode_)) = some a ∧ R.l2Fits (⟨14, xo, xt, xn, xs, kd⟩ : TNode) (ks.map kdO) = some a := g0 ks (gI_14 xo xt xn xs kd ks num) (gR_14 xo xt xn xs kd _)
theorem kids_15 (xo xt xn : Int) (xs : ByteArray) (kd : Int) (ks : List (Option TNode_)) (num : Int) (hs : ∀ o ∈ ks, o.isSome = true) (hl : ks.length ≤ 100000) : ∃ a, I.node_kidsOk (some (⟨⟨15, xo, xt, xn, xs, kd⟩, ks, num⟩ : TNode_)) = some a ∧ R.l2Fits (⟨15, xo, xt, xn, xs, kd⟩ : TNode) (ks.map kdO) = some a := g0 ks (gI_15 xo xt xn xs kd ks num) (gR_15 xo xt xn xs kd _)
theorem kids_22 (xo xt xn : Int) (xs : ByteArray) (kd : Int) (ks : List (Option TNode_)) (num : Int) (hs : ∀ o ∈ ks, o.isSome = true) (hl : ks.length ≤ 100000) : ∃ a, I.node_kidsOk (some (⟨⟨22, xo, xt, xn, xs, kd⟩, ks, num⟩ : TNode_)) = some a ∧ R.l2Fits (⟨22, xo, xt, xn, xs, kd⟩ : TNode) (ks.map kdO) = some a := g0 ks (gI_22 xo xt xn xs kd ks num) (gR_22 xo xt xn xs kd _)
theorem kids_5 (xo xt xn : Int) (xs : ByteArray) (kd : Int) (ks : List (Option TNode_)) (num : Int) (hs : ∀ o ∈ ks, o.isSome = true) (hl : ks.length ≤ 100000) : ∃ a, I.node_kidsOk (some (⟨⟨5, xo, xt, xn, xs, kd⟩, ks, num⟩ : TNode_)) = some a ∧ R.l2Fits (⟨5, xo, xt, xn, xs, kd⟩ : TNode) (ks.map kdO) = some a := g1 ks (by rw [gI_5, kE _ ks num hs hl]) (gR_5 xo xt xn xs kd _)
theorem kids_9 (xo xt xn : Int) (xs : ByteArray) (kd : Int) (ks : List (Option TNode_)) (num : Int) (hs : ∀ o ∈ ks, o.isSome = true) (hl : ks.length ≤ 100000) : ∃ a, I.node_kidsOk (some (⟨⟨9, xo, xt, xn, xs, kd⟩, ks, num⟩ : TNode_)) = some a ∧ R.l2Fits (⟨9, xo, xt, xn, xs, kd⟩ : TNode) (ks.map kdO) = some a := g1 ks (by rw [gI_9, kE _ ks num hs hl]) (gR_9 xo xt xn xs kd _)
theorem kids_10 (xo xt xn : Int) (xs : ByteArray) (kd : Int) (ks : List (Option TNode_)) (num : Int) (hs : ∀ o ∈ ks, o.isSome = true) (hl : ks.length ≤ 100000) : ∃ a, I.node_kidsOk (some (⟨⟨10, xo, xt, xn, xs, kd⟩, ks, num⟩ : TNode_)) = some a ∧ R.l2Fits (⟨10, xo, xt, xn, xs, kd⟩ : TNode) (ks.map kdO) = some a := g1 ks (by rw [gI_10, kE _ ks num hs hl]) (gR_10 xo xt xn xs kd _)
theorem kids_11 (xo xt xn : Int) (xs : ByteArray) (kd : Int) (ks : List (Option TNode_)) (num : Int) (hs : ∀ o ∈ ks, o.isSome = true) (hl : ks.length ≤ 100000) : ∃ a, I.node_kidsOk (some (⟨⟨11, xo, xt, xn, xs, kd⟩, ks, num⟩ : TNode_)) = some a ∧ R.l2Fits (⟨11, xo, xt, xn, xs, kd⟩ : TNode) (ks.map kdO) = some a := g1 ks (by rw [gI_11, kE _ ks num hs hl]) (gR_11 xo xt xn xs kd _)
theorem kids_17 (xo xt xn : Int) (xs : ByteArray) (kd : Int) (ks : List (Option TNode_)) (num : Int) (hs : ∀ o ∈ ks, o.isSome = true) (hl : ks.length ≤ 100000) : ∃ a, I.node_kidsOk (some (⟨⟨17, xo, xt, xn, xs, kd⟩, ks, num⟩ : TNode_)) = some a ∧ R.l2Fits (⟨17, xo, xt, xn, xs, kd⟩ : TNode) (ks.map kdO) = some a := g1 ks (by rw [gI_17, kE _ ks num hs hl]) (gR_17 xo xt xn xs kd _)
theorem kids_19 (xo xt xn : Int) (xs : ByteArray) (kd : Int) (ks : List (Option TNode_)) (num : Int) (hs : ∀ o ∈ ks, o.isSome = true) (hl : ks.length ≤ 100000) : ∃ a, I.node_kidsOk (some (⟨⟨19, xo, xt, xn, xs, kd⟩, ks, num⟩ : TNode_)) = some a ∧ R.l2Fits (⟨19, xo, xt, xn, xs, kd⟩ : TNode) (ks.map kdO) = some a := g1 ks (by rw [gI_19, kE _ ks num hs hl]) (gR_19 xo xt xn xs kd _)
theorem kids_6 (xo xt xn : Int) (xs : ByteArray) (kd : Int) (ks : List (Option TNode_)) (num : Int) (hs : ∀ o ∈ ks, o.isSome = true) (hl : ks.length ≤ 100000) : ∃ a, I.node_kidsOk (some (⟨⟨6, xo, xt, xn, xs, kd⟩, ks, num⟩ : TNode_)) = some a ∧ R.l2Fits (⟨6, xo, xt, xn, xs, kd⟩ : TNode) (ks.map kdO) = some a := g2 ks 2 hl (by rw [gI_6, kE _ ks num hs hl]) (gR_6 xo xt xn xs kd _)
theorem kids_18 (xo xt xn : Int) (xs : ByteArray) (kd : Int) (ks : List (Option TNode_)) (num : Int) (hs : ∀ o ∈ ks, o.isSome = true) (hl : ks.length ≤ 100000) : ∃ a, I.node_kidsOk (some (⟨⟨18, xo, xt, xn, xs, kd⟩, ks, num⟩ : TNode_)) = some a ∧ R.l2Fits (⟨18, xo, xt, xn, xs, kd⟩ : TNode) (ks.map kdO) = some a := g2 ks 2 hl (by rw [gI_18, kE _ ks num hs hl]) (gR_18 xo xt xn xs kd _)
theorem kids_7 (xo xt xn : Int) (xs : ByteArray) (kd : Int) (ks : List (Option TNode_)) (num : Int) (hs : ∀ o ∈ ks, o.isSome = true) (hl : ks.length ≤ 100000) : ∃ a, I.node_kidsOk (some (⟨⟨7, xo, xt, xn, xs, kd⟩, ks, num⟩ : TNode_)) = some a ∧ R.l2Fits (⟨7, xo, xt, xn, xs, kd⟩ : TNode) (ks.map kdO) = some a := g7 ks hl (by rw [gI_7, kE _ ks num hs hl]) (gR_7 xo xt xn xs kd _)
theorem kids_12 (xo xt xn : Int) (xs : ByteArray) (kd : Int) (ks : List (Option TNode_)) (num : Int) (hs : ∀ o ∈ ks, o.isSome = true) (hl : ks.length ≤ 100000) : ∃ a, I.node_kidsOk (some (⟨⟨12, xo, xt, xn, xs, kd⟩, ks, num⟩ : TNode_)) = some a ∧ R.l2Fits (⟨12, xo, xt, xn, xs, kd⟩ : TNode) (ks.map kdO) = some a := by
  match ks, hs with
  | [], _ => rw [gI_12_0, gR_12]; exact ⟨false, rfl, rfl⟩
  | [o], hs =>
    obtain ⟨k0, rfl⟩ := some_of hs (List.mem_cons_self ..)
    rw [gI_12_1, gR_12]; exact ⟨false, rfl, rfl⟩
  | [o, o'], hs =>
    obtain ⟨k0, rfl⟩ := some_of hs (List.mem_cons_self ..)
    obtain ⟨k1, rfl⟩ := some_of hs (List.mem_cons_of_mem _ (List.mem_cons_self ..))
    rw [gI_12_2, gR_12, I_isE, I.isBlock_eq]
    refine ⟨isE k0.gNode.gKind && k1.gNode.gKind == 21, ?_, ?_⟩
    · cases isE k0.gNode.gKind <;> rfl
    · show (R.l2E k0.gNode.gKind).bind (fun (r0 : Bool) => bif r0 then bif k1.gNode.gKind == 21 then some true else some false else some false) = _
      rw [R_isE]
      cases isE k0.gNode.gKind <;> cases k1.gNode.gKind == 21 <;> rfl
  | [o, o', o''], hs =>
    obtain ⟨k0, rfl⟩ := some_of hs (List.mem_cons_self ..)
    obtain ⟨k1, rfl⟩ := some_of hs (List.mem_cons_of_mem _ (List.mem_cons_self ..))
    obtain ⟨k2, rfl⟩ := some_of hs (List.mem_cons_of_mem _ (List.mem_cons_of_mem _ (List.mem_cons_self ..)))
    rw [gI_12_3, gR_12, I_isE, I.isBlock_eq, I.isBlock_eq]
    refine ⟨isE k0.gNode.gKind && (k1.gNode.gKind == 21 && (k2.gNode.gKind == 21 || k2.gNode.gKind == 12)), ?_, ?_⟩
    · cases isE k0.gNode.gKind <;> cases k1.gNode.gKind == 21 <;> cases k2.gNode.gKind == 21 <;> cases k2.gNode.gKind == 12 <;> rfl
    · show (R.l2E k0.gNode.gKind).bind (fun (r0 : Bool) => bif r0 then bif k1.gNode.gKind == 21 then bif k2.gNode.gKind == 21 then some true else some (k2.gNode.gKind == 12) else some false else some false) = _
      rw [R_isE]
      cases isE k0.gNode.gKind <;> cases k1.gNode.gKind == 21 <;> cases k2.gNode.gKind == 21 <;> cases k2.gNode.gKind == 12 <;> rfl
  | a :: b :: c :: d :: l, hs =>
    have h2 : (((a :: b :: c :: d :: l).length : Int) == 2) = false := len_ne (n := 2) rfl (by simp)
    have h3 : (((a :: b :: c :: d :: l).length : Int) == 3) = false := len_ne (n := 3) rfl (by simp)
    refine ⟨false, ?_, ?_⟩
    · rw [gI_12]
      simp only [h2, h3, cond_false]
    · rw [gR_12, bif_t (b := decide ((((a :: b :: c :: d :: l).map kdO).length : Int) ≥ 2)) (by simp; omega), bif_f (b := decide ((((a :: b :: c :: d :: l).map kdO).length : Int) ≤ 3)) (by simp; omega)]
theorem kids_13 (xo xt xn : Int) (xs : ByteArray) (kd : Int) (ks : List (Option TNode_)) (num : Int) (hs : ∀ o ∈ ks, o.isSome = true) (hl : ks.length ≤ 100000) : ∃ a, I.node_kidsOk (some (⟨⟨13, xo, xt, xn, xs, kd⟩, ks, num⟩ : TNode_)) = some a ∧ R.l2Fits (⟨13, xo, xt, xn, xs, kd⟩ : TNode) (ks.map kdO) = some a := by
  rw [gI_13, gR_13]
  match ks, hs with
  | [], _ => exact ⟨false, rfl, rfl⟩
  | [o], _ => exact ⟨false, rfl, rfl⟩
  | [o, o'], hs =>
    obtain ⟨k0, rfl⟩ := some_of hs (List.mem_cons_self ..)
    obtain ⟨k1, rfl⟩ := some_of hs (List.mem_cons_of_mem _ (List.mem_cons_self ..))
    refine ⟨isE k0.gNode.gKind && k1.gNode.gKind == 21, ?_, ?_⟩
    · show (I.isE k0.gNode.gKind).bind (fun (r0 : Bool) => bif r0 then (I.isBlock k1.gNode.gKind).bind (fun (r1 : Bool) => some r1) else some false) = _
      rw [I_isE, I.isBlock_eq]
      cases isE k0.gNode.gKind <;> rfl
    · show (R.l2E k0.gNode.gKind).bind (fun (r0 : Bool) => bif r0 then some (k1.gNode.gKind == 21) else some false) = _
      rw [R_isE]
      cases isE k0.gNode.gKind <;> rfl
  | a :: b :: c :: l, _ => rw [bif_f (b := ((a :: b :: c :: l).length : Int) == 2) (len_ne (n := 2) rfl (by simp)), bif_f (b := (((a :: b :: c :: l).map kdO).length : Int) == 2) (len_ne (n := 2) rfl (by simp))]; exact ⟨false, rfl, rfl⟩
theorem kids_16 (xo xt xn : Int) (xs : ByteArray) (kd : Int) (ks : List (Option TNode_)) (num : Int) (hs : ∀ o ∈ ks, o.isSome = true) (hl : ks.length ≤ 100000) : ∃ a, I.node_kidsOk (some (⟨⟨16, xo, xt, xn, xs, kd⟩, ks, num⟩ : TNode_)) = some a ∧ R.l2Fits (⟨16, xo, xt, xn, xs, kd⟩ : TNode) (ks.map kdO) = some a := by
  rw [gI_16, gR_16, rE _ (by rw [List.length_map]; exact hl)]
  match ks, hs with
  | [], _ => exact ⟨true, rfl, rfl⟩
  | [o], hs =>
    obtain ⟨k0, rfl⟩ := some_of hs (List.mem_cons_self ..)
    refine ⟨isE k0.gNode.gKind, ?_, ?_⟩
    · show (I.isE k0.gNode.gKind).bind (fun (r0 : Bool) => some r0) = _
      rw [I_isE]; rfl
    · show some (isE k0.gNode.gKind && true) = _
      rw [Bool.and_true]
  | a :: b :: l, _ =>
    rw [bif_f (b := ((a :: b :: l).length : Int) == 0) (len_ne (n := 0) rfl (by simp)), bif_f (b := ((a :: b :: l).length : Int) == 1) (len_ne (n := 1) rfl (by simp)), bif_f (b := decide ((((a :: b :: l).map kdO).length : Int) ≤ 1)) (by simp; omega)]; exact ⟨false, rfl, rfl⟩
theorem kids_20 (xo xt xn : Int) (xs : ByteArray) (kd : Int) (ks : List (Option TNode_)) (num : Int) (hs : ∀ o ∈ ks, o.isSome = true) (hl : ks.length ≤ 100000) : ∃ a, I.node_kidsOk (some (⟨⟨20, xo, xt, xn, xs, kd⟩, ks, num⟩ : TNode_)) = some a ∧ R.l2Fits (⟨20, xo, xt, xn, xs, kd⟩ : TNode) (ks.map kdO) = some a := by
  rw [gI_20, gR_20]
  match ks, hs with
  | [], _ => exact ⟨false, rfl, rfl⟩
  | [o], hs =>
    obtain ⟨k0, rfl⟩ := some_of hs (List.mem_cons_self ..)
    exact ⟨k0.gNode.gKind == 7, rfl, rfl⟩
  | a :: b :: l, _ => rw [bif_f (b := ((a :: b :: l).length : Int) == 1) (len_ne (n := 1) rfl (by simp)), bif_f (b := (((a :: b :: l).map kdO).length : Int) == 1) (len_ne (n := 1) rfl (by simp))]; exact ⟨false, rfl, rfl⟩
theorem kids_21 (xo xt xn : Int) (xs : ByteArray) (kd : Int) (ks : List (Option TNode_)) (num : Int) (hs : ∀ o ∈ ks, o.isSome = true) (hl : ks.length ≤ 100000) : ∃ a, I.node_kidsOk (some (⟨⟨21, xo, xt, xn, xs, kd⟩, ks, num⟩ : TNode_)) = some a ∧ R.l2Fits (⟨21, xo, xt, xn, xs, kd⟩ : TNode) (ks.map kdO) = some a := by
  rw [gI_21, kS _ ks num hs hl, gR_21, rS _ (by rw [List.length_map]; exact hl), all_map']
  exact ⟨_, rfl, rfl⟩
theorem kids_24 (xo xt xn : Int) (xs : ByteArray) (kd : Int) (ks : List (Option TNode_)) (num : Int) (hs : ∀ o ∈ ks, o.isSome = true) (hl : ks.length ≤ 100000) : ∃ a, I.node_kidsOk (some (⟨⟨24, xo, xt, xn, xs, kd⟩, ks, num⟩ : TNode_)) = some a ∧ R.l2Fits (⟨24, xo, xt, xn, xs, kd⟩ : TNode) (ks.map kdO) = some a := by
  rw [gI_24, kF _ ks num hs hl, gR_24, rF _ (by rw [List.length_map]; exact hl), all_map' ks (fun k => k == 23), List.length_map, Option.bind_some, and_bif, and_bif]
  refine ⟨_, rfl, ?_⟩
  have e1 : decide ((ks.length : Int) ≥ 1) = decide (1 ≤ ks.length) := by rw [Bool.eq_iff_iff]; simp; omega
  have e2 : decide ((ks.length : Int) ≤ 60) = decide (ks.length ≤ 60) := by rw [Bool.eq_iff_iff]; simp; omega
  rw [e1, e2]
  congr 1
  cases (ks.all fun o => kdO o == 23) <;> cases decide (1 ≤ ks.length) <;> cases decide (ks.length ≤ 60) <;> rfl
theorem rP (l : List Int) (hl : l.length ≤ 100000) : ∀ (m k : Nat), k + m + 1 = l.length → R.l2Fits.l3959422948 l l.length k = bif ((l.drop k).take m).all (fun x => x == 22) then (bif decide (l.length ≤ 9) then some (l.getD (l.length - 1) 0 == 21) else some false) else some false := by
  intro m
  induction m with
  | zero =>
    intro k hk
    have w1 : IntKind.i64.wrap ((k : Int) + 1) = ((k + 1 : Nat) : Int) := wi_succ (by omega)
    rw [R.l2Fits.l3959422948_eq, w1, bif_f (ge_dec (k := k + 1) (n := l.length) (by omega)), bif_t (b := decide ((l.length : Int) ≥ 1)) (by simp; omega)]
    have w2 : IntKind.i64.wrap ((l.length : Int) - 1) = ((l.length - 1 : Nat) : Int) := by rw [wi (by omega) (by omega)]; omega
    rw [w2, bif_t (b := inB ((l.length - 1 : Nat) : Int) l.length) (inB_nat (by omega)), Int.toNat_natCast]
    have e : decide (((l.length - 1 : Nat) : Int) ≤ 8) = decide (l.length ≤ 9) := by rw [Bool.eq_iff_iff]; simp; omega
    rw [e]
    rfl
  | succ m ih =>
    intro k hk
    have hkl : k < l.length := by omega
    have w1 : IntKind.i64.wrap ((k : Int) + 1) = ((k + 1 : Nat) : Int) := wi_succ (by omega)
    rw [R.l2Fits.l3959422948_eq, w1, bif_t (lt_dec (k := k + 1) (n := l.length) (by omega)), bif_t (inB_nat hkl), Int.toNat_natCast, getD_lt hkl, ih (k + 1) (by omega), drop_get hkl, List.take_succ_cons, List.all_cons]
    unfold bne
    cases l[k] == 22 <;> rfl
theorem kids_23 (xo xt xn : Int) (xs : ByteArray) (kd : Int) (ks : List (Option TNode_)) (num : Int) (hs : ∀ o ∈ ks, o.isSome = true) (hl : ks.length ≤ 100000) : ∃ a, I.node_kidsOk (some (⟨⟨23, xo, xt, xn, xs, kd⟩, ks, num⟩ : TNode_)) = some a ∧ R.l2Fits (⟨23, xo, xt, xn, xs, kd⟩ : TNode) (ks.map kdO) = some a := by
  rw [gI_23, gR_23]
  by_cases h0 : ks.length = 0
  · have : ks = [] := List.eq_nil_of_length_eq_zero h0
    subst this
    refine ⟨false, rfl, ?_⟩
    exact (R.l2Fits.l3959422948_eq _ _ _).trans (by kernel_rfl)
  · have hr := rP (ks.map kdO) (by rw [List.length_map]; exact hl) (ks.length - 1) 0 (by rw [List.length_map]; omega)
    have hr : R.l2Fits.l3959422948 (ks.map kdO) (ks.map kdO).length 0 = _ := hr
    rw [hr, List.drop_zero, ← List.map_take, all_map' _ (fun x => x == 22), List.length_map, bif_f (b := decide ((ks.length : Int) < 1)) (by simp; omega)]
    by_cases h9 : ks.length ≤ 9
    · have w2 : IntKind.i64.wrap ((ks.length : Int) - 1) = ((ks.length - 1 : Nat) : Int) := by rw [wi (by omega) (by omega)]; omega
      have hlt : ks.length - 1 < ks.length := by omega
      have hg : ((ks.map kdO).getD (ks.length - 1) 0) = kdO (ks.getD (ks.length - 1) none) := by
        rw [getD_lt (by rw [List.length_map]; exact hlt), getD_lt hlt, List.getElem_map]
      have hsub : sub ks 0 ((ks.length - 1 : Nat) : Int) = ks.take (ks.length - 1) := by unfold sub; rw [Int.toNat_natCast, Int.toNat_zero, List.drop_zero]
      have hP := kP (ks.take (ks.length - 1)) (fun o ho => hs o (List.mem_of_mem_take ho)) (by rw [List.length_take]; omega)
      rw [bif_f (b := decide ((ks.length : Int) > 9)) (by simp; omega), w2, bif_t (inB_nat hlt), Int.toNat_natCast, bif_t (get_some hs hlt), I.isBlock_eq, Option.bind_some, bif_t (b := inS 0 ((ks.length - 1 : Nat) : Int) ks.length) (inS_iff.2 ⟨by omega, by omega, by omega⟩), hsub, hP, hg, bif_t (b := decide (ks.length ≤ 9)) (by simpa using h9)]
      have e : (Option.getD (ks.getD (ks.length - 1) none) TNode_.z).gNode.gKind = kdO (ks.getD (ks.length - 1) none) := rfl
      rw [e]
      refine ⟨(kdO (ks.getD (ks.length - 1) none) == 21) && ((ks.take (ks.length - 1)).all fun o => kdO o == 22), ?_, ?_⟩
      · cases kdO (ks.getD (ks.length - 1) none) == 21 <;> cases (ks.take (ks.length - 1)).all fun o => kdO o == 22 <;> rfl
      · cases kdO (ks.getD (ks.length - 1) none) == 21 <;> cases (ks.take (ks.length - 1)).all fun o => kdO o == 22 <;> rfl
    · rw [bif_t (b := decide ((ks.length : Int) > 9)) (by simp; omega), bif_f (b := decide (ks.length ≤ 9)) (by simpa using h9)]
      refine ⟨false, rfl, ?_⟩
      cases (ks.take (ks.length - 1)).all fun o => kdO o == 22 <;> rfl
/-- numbers that fit -/
theorem int_same (t n : Int) (h3 : 3 ≤ t) (h10 : t ≤ 10) (hn : I64 n) : (decide (n = into t (IntKind.u64.wrap n)) && (decide (n ≥ 0) || t == 6)) = decide (IntKind.u64.wrap n ≤ (mxOf t : Int)) := by
  have hw := wu_eq n
  obtain ⟨h1, h2⟩ := hn
  have : t = 3 ∨ t = 4 ∨ t = 5 ∨ t = 6 ∨ t = 7 ∨ t = 8 ∨ t = 9 ∨ t = 10 := by omega
  rw [Bool.eq_iff_iff]
  simp only [Bool.and_eq_true, Bool.or_eq_true, decide_eq_true_eq, beq_iff_eq]
  have hwi : IntKind.i64.wrap (IntKind.u64.wrap n) = n := wi_wu ⟨h1, h2⟩
  rcases this with rfl | rfl | rfl | rfl | rfl | rfl | rfl | rfl <;> simp only [into, mxOf, hwi] <;> simp [hw] <;> omega
theorem fields_2 (xo xt xn : Int) (xs : ByteArray) (kd : Int) (ks : List (Option TNode_)) (num : Int) : ∃ b, I.node_fieldsOk (some (⟨⟨2, xo, xt, xn, xs, kd⟩, ks, num⟩ : TNode_)) = some b ∧ R.l2Fields (⟨2, xo, xt, xn, xs, kd⟩ : TNode) = some b := by
  rw [fI_2, fR_2]
  simp only [I_integer, R_integer, Option.bind_some, and_bif, nand_bif, bne, Bool.and_true, fin_b]
  exact ⟨_, rfl, by congr 1; try ac_rfl⟩
theorem fields_3 (xo xt xn : Int) (xs : ByteArray) (kd : Int) (ks : List (Option TNode_)) (num : Int) : ∃ b, I.node_fieldsOk (some (⟨⟨3, xo, xt, xn, xs, kd⟩, ks, num⟩ : TNode_)) = some b ∧ R.l2Fields (⟨3, xo, xt, xn, xs, kd⟩ : TNode) = some b := by
  rw [fI_3, fR_3]
  simp only [I_integer, R_integer, Option.bind_some, and_bif, nand_bif, bne, Bool.and_true, fin_b]
  rw [show (bif xn == 0 then some true else some (xn == 1)) = some (xn == 0 || xn == 1) by cases xn == 0 <;> rfl]
  simp only [and_bif, nand_bif]
  exact ⟨_, rfl, by congr 1; try ac_rfl⟩
theorem fields_4 (xo xt xn : Int) (xs : ByteArray) (kd : Int) (ks : List (Option TNode_)) (num : Int) : ∃ b, I.node_fieldsOk (some (⟨⟨4, xo, xt, xn, xs, kd⟩, ks, num⟩ : TNode_)) = some b ∧ R.l2Fields (⟨4, xo, xt, xn, xs, kd⟩ : TNode) = some b := by
  obtain ⟨nb, h1, h2⟩ := name_same xs
  rw [fI_4, fR_4]
  simp only [h1, h2, I_integer, R_integer, Option.bind_some, and_bif, nand_bif, bne, Bool.and_true, fin_b]
  exact ⟨_, rfl, by congr 1; try ac_rfl⟩
theorem fields_5 (xo xt xn : Int) (xs : ByteArray) (kd : Int) (ks : List (Option TNode_)) (num : Int) : ∃ b, I.node_fieldsOk (some (⟨⟨5, xo, xt, xn, xs, kd⟩, ks, num⟩ : TNode_)) = some b ∧ R.l2Fields (⟨5, xo, xt, xn, xs, kd⟩ : TNode) = some b := by
  rw [fI_5, fR_5]
  simp only [I_integer, R_integer, Option.bind_some, and_bif, nand_bif, bne, Bool.and_true, fin_b]
  exact ⟨_, rfl, by congr 1; try ac_rfl⟩
theorem fields_6 (xo xt xn : Int) (xs : ByteArray) (kd : Int) (ks : List (Option TNode_)) (num : Int) : ∃ b, I.node_fieldsOk (some (⟨⟨6, xo, xt, xn, xs, kd⟩, ks, num⟩ : TNode_)) = some b ∧ R.l2Fields (⟨6, xo, xt, xn, xs, kd⟩ : TNode) = some b := by
  rw [fI_6, fR_6]
  simp only [I_integer, R_integer, Option.bind_some, and_bif, nand_bif, bne, Bool.and_true, fin_b]
  exact ⟨_, rfl, by congr 1; try ac_rfl⟩
theorem fields_7 (xo xt xn : Int) (xs : ByteArray) (kd : Int) (ks : List (Option TNode_)) (num : Int) : ∃ b, I.node_fieldsOk (some (⟨⟨7, xo, xt, xn, xs, kd⟩, ks, num⟩ : TNode_)) = some b ∧ R.l2Fields (⟨7, xo, xt, xn, xs, kd⟩ : TNode) = some b := by
  obtain ⟨nb, h1, h2⟩ := name_same xs
  rw [fI_7, fR_7]
  simp only [h1, h2, I_integer, R_integer, Option.bind_some, and_bif, nand_bif, bne, Bool.and_true, fin_b]
  exact ⟨_, rfl, by congr 1; try ac_rfl⟩
theorem fields_9 (xo xt xn : Int) (xs : ByteArray) (kd : Int) (ks : List (Option TNode_)) (num : Int) : ∃ b, I.node_fieldsOk (some (⟨⟨9, xo, xt, xn, xs, kd⟩, ks, num⟩ : TNode_)) = some b ∧ R.l2Fields (⟨9, xo, xt, xn, xs, kd⟩ : TNode) = some b := by
  rw [fI_9, fR_9]
  simp only [I_integer, R_integer, Option.bind_some, and_bif, nand_bif, bne, Bool.and_true, fin_b]
  exact ⟨_, rfl, by congr 1; try ac_rfl⟩
theorem fields_10 (xo xt xn : Int) (xs : ByteArray) (kd : Int) (ks : List (Option TNode_)) (num : Int) : ∃ b, I.node_fieldsOk (some (⟨⟨10, xo, xt, xn, xs, kd⟩, ks, num⟩ : TNode_)) = some b ∧ R.l2Fields (⟨10, xo, xt, xn, xs, kd⟩ : TNode) = some b := by
  obtain ⟨nb, h1, h2⟩ := name_same xs
  rw [fI_10, fR_10]
  simp only [h1, h2, I_integer, R_integer, Option.bind_some, and_bif, nand_bif, bne, Bool.and_true, fin_b]
  exact ⟨_, rfl, by congr 1; try ac_rfl⟩
theorem fields_11 (xo xt xn : Int) (xs : ByteArray) (kd : Int) (ks : List (Option TNode_)) (num : Int) : ∃ b, I.node_fieldsOk (some (⟨⟨11, xo, xt, xn, xs, kd⟩, ks, num⟩ : TNode_)) = some b ∧ R.l2Fields (⟨11, xo, xt, xn, xs, kd⟩ : TNode) = some b := by
  obtain ⟨nb, h1, h2⟩ := name_same xs
  rw [fI_11, fR_11]
  simp only [h1, h2, I_integer, R_integer, Option.bind_some, and_bif, nand_bif, bne, Bool.and_true, fin_b]
  exact ⟨_, rfl, by congr 1; try ac_rfl⟩
theorem fields_12 (xo xt xn : Int) (xs : ByteArray) (kd : Int) (ks : List (Option TNode_)) (num : Int) : ∃ b, I.node_fieldsOk (some (⟨⟨12, xo, xt, xn, xs, kd⟩, ks, num⟩ : TNode_)) = some b ∧ R.l2Fields (⟨12, xo, xt, xn, xs, kd⟩ : TNode) = some b := by
  rw [fI_12, fR_12]
  simp only [I_integer, R_integer, Option.bind_some, and_bif, nand_bif, bne, Bool.and_true, fin_b]
  exact ⟨_, rfl, by congr 1; try ac_rfl⟩
theorem fields_13 (xo xt xn : Int) (xs : ByteArray) (kd : Int) (ks : List (Option TNode_)) (num : Int) : ∃ b, I.node_fieldsOk (some (⟨⟨13, xo, xt, xn, xs, kd⟩, ks, num⟩ : TNode_)) = some b ∧ R.l2Fields (⟨13, xo, xt, xn, xs, kd⟩ : TNode) = some b := by
  rw [fI_13, fR_13]
  simp only [I_integer, R_integer, Option.bind_some, and_bif, nand_bif, bne, Bool.and_true, fin_b]
  exact ⟨_, rfl, by congr 1; try ac_rfl⟩
theorem fields_14 (xo xt xn : Int) (xs : ByteArray) (kd : Int) (ks : List (Option TNode_)) (num : Int) : ∃ b, I.node_fieldsOk (some (⟨⟨14, xo, xt, xn, xs, kd⟩, ks, num⟩ : TNode_)) = some b ∧ R.l2Fields (⟨14, xo, xt, xn, xs, kd⟩ : TNode) = some b := by
  rw [fI_14, fR_14]
  simp only [I_integer, R_integer, Option.bind_some, and_bif, nand_bif, bne, Bool.and_true, fin_b]
  exact ⟨_, rfl, by congr 1; try ac_rfl⟩
theorem fields_15 (xo xt xn : Int) (xs : ByteArray) (kd : Int) (ks : List (Option TNode_)) (num : Int) : ∃ b, I.node_fieldsOk (some (⟨⟨15, xo, xt, xn, xs, kd⟩, ks, num⟩ : TNode_)) = some b ∧ R.l2Fields (⟨15, xo, xt, xn, xs, kd⟩ : TNode) = some b := by
  rw [fI_15, fR_15]
  simp only [I_integer, R_integer, Option.bind_some, and_bif, nand_bif, bne, Bool.and_true, fin_b]
  exact ⟨_, rfl, by congr 1; try ac_rfl⟩
theorem fields_16 (xo xt xn : Int) (xs : ByteArray) (kd : Int) (ks : List (Option TNode_)) (num : Int) : ∃ b, I.node_fieldsOk (some (⟨⟨16, xo, xt, xn, xs, kd⟩, ks, num⟩ : TNode_)) = some b ∧ R.l2Fields (⟨16, xo, xt, xn, xs, kd⟩ : TNode) = some b := by
  rw [fI_16, fR_16]
  simp only [I_integer, R_integer, Option.bind_some, and_bif, nand_bif, bne, Bool.and_true, fin_b]
  exact ⟨_, rfl, by congr 1; try ac_rfl⟩
theorem fields_17 (xo xt xn : Int) (xs : ByteArray) (kd : Int) (ks : List (Option TNode_)) (num : Int) : ∃ b, I.node_fieldsOk (some (⟨⟨17, xo, xt, xn, xs, kd⟩, ks, num⟩ : TNode_)) = some b ∧ R.l2Fields (⟨17, xo, xt, xn, xs, kd⟩ : TNode) = some b := by
  rw [fI_17, fR_17]
  simp only [I_integer, R_integer, Option.bind_some, and_bif, nand_bif, bne, Bool.and_true, fin_b]
  exact ⟨_, rfl, by congr 1; try ac_rfl⟩
theorem fields_18 (xo xt xn : Int) (xs : ByteArray) (kd : Int) (ks : List (Option TNode_)) (num : Int) : ∃ b, I.node_fieldsOk (some (⟨⟨18, xo, xt, xn, xs, kd⟩, ks, num⟩ : TNode_)) = some b ∧ R.l2Fields (⟨18, xo, xt, xn, xs, kd⟩ : TNode) = some b := by
  rw [fI_18, fR_18]
  simp only [I_integer, R_integer, Option.bind_some, and_bif, nand_bif, bne, Bool.and_true, fin_b]
  exact ⟨_, rfl, by congr 1; try ac_rfl⟩
theorem fields_19 (xo xt xn : Int) (xs : ByteArray) (kd : Int) (ks : List (Option TNode_)) (num : Int) : ∃ b, I.node_fieldsOk (some (⟨⟨19, xo, xt, xn, xs, kd⟩, ks, num⟩ : TNode_)) = some b ∧ R.l2Fields (⟨19, xo, xt, xn, xs, kd⟩ : TNode) = some b := by
  rw [fI_19, fR_19]
  simp only [I_integer, R_integer, Option.bind_some, and_bif, nand_bif, bne, Bool.and_true, fin_b]
  exact ⟨_, rfl, by congr 1; try ac_rfl⟩
theorem fields_20 (xo xt xn : Int) (xs : ByteArray) (kd : Int) (ks : List (Option TNode_)) (num : Int) : ∃ b, I.node_fieldsOk (some (⟨⟨20, xo, xt, xn, xs, kd⟩, ks, num⟩ : TNode_)) = some b ∧ R.l2Fields (⟨20, xo, xt, xn, xs, kd⟩ : TNode) = some b := by
  rw [fI_20, fR_20]
  simp only [I_integer, R_integer, Option.bind_some, and_bif, nand_bif, bne, Bool.and_true, fin_b]
  exact ⟨_, rfl, by congr 1; try ac_rfl⟩
theorem fields_21 (xo xt xn : Int) (xs : ByteArray) (kd : Int) (ks : List (Option TNode_)) (num : Int) : ∃ b, I.node_fieldsOk (some (⟨⟨21, xo, xt, xn, xs, kd⟩, ks, num⟩ : TNode_)) = some b ∧ R.l2Fields (⟨21, xo, xt, xn, xs, kd⟩ : TNode) = some b := by
  rw [fI_21, fR_21]
  simp only [I_integer, R_integer, Option.bind_some, and_bif, nand_bif, bne, Bool.and_true, fin_b]
  exact ⟨_, rfl, by congr 1; try ac_rfl⟩
theorem fields_22 (xo xt xn : Int) (xs : ByteArray) (kd : Int) (ks : List (Option TNode_)) (num : Int) : ∃ b, I.node_fieldsOk (some (⟨⟨22, xo, xt, xn, xs, kd⟩, ks, num⟩ : TNode_)) = some b ∧ R.l2Fields (⟨22, xo, xt, xn, xs, kd⟩ : TNode) = some b := by
  obtain ⟨nb, h1, h2⟩ := name_same xs
  rw [fI_22, fR_22]
  simp only [h1, h2, I_integer, R_integer, Option.bind_some, and_bif, nand_bif, bne, Bool.and_true, fin_b]
  exact ⟨_, rfl, by congr 1; try ac_rfl⟩
theorem fields_23 (xo xt xn : Int) (xs : ByteArray) (kd : Int) (ks : List (Option TNode_)) (num : Int) : ∃ b, I.node_fieldsOk (some (⟨⟨23, xo, xt, xn, xs, kd⟩, ks, num⟩ : TNode_)) = some b ∧ R.l2Fields (⟨23, xo, xt, xn, xs, kd⟩ : TNode) = some b := by
  obtain ⟨nb, h1, h2⟩ := name_same xs
  rw [fI_23, fR_23]
  simp only [h1, h2, I_integer, R_integer, Option.bind_some, and_bif, nand_bif, bne, Bool.and_true, fin_b]
  exact ⟨_, rfl, by congr 1; try ac_rfl⟩
theorem fields_24 (xo xt xn : Int) (xs : ByteArray) (kd : Int) (ks : List (Option TNode_)) (num : Int) : ∃ b, I.node_fieldsOk (some (⟨⟨24, xo, xt, xn, xs, kd⟩, ks, num⟩ : TNode_)) = some b ∧ R.l2Fields (⟨24, xo, xt, xn, xs, kd⟩ : TNode) = some b := by
  rw [fI_24, fR_24]
  simp only [I_integer, R_integer, Option.bind_some, and_bif, nand_bif, bne, Bool.and_true, fin_b]
  exact ⟨_, rfl, by congr 1; try ac_rfl⟩
theorem fields_1 (xo xt xn : Int) (xs : ByteArray) (kd : Int) (ks : List (Option TNode_)) (num : Int) (hn : I64 xn) : ∃ b, I.node_fieldsOk (some (⟨⟨1, xo, xt, xn, xs, kd⟩, ks, num⟩ : TNode_)) = some b ∧ R.l2Fields (⟨1, xo, xt, xn, xs, kd⟩ : TNode) = some b := by
  rw [fI_1, fR_1, I_integer, R_integer, I_valid, Option.bind_some, Option.bind_some, Option.bind_some]
  by_cases ht : 3 ≤ xt ∧ xt ≤ 10
  · have e1 : (decide (3 ≤ xt) && decide (xt ≤ 10)) = true := by simp [ht.1, ht.2]
    have h12 : ¬ xt = 1 ∧ ¬ xt = 2 := by omega
    have e2 : valid (TValue.mk xt xn ⟨#[]⟩) = decide (xn = into xt (IntKind.u64.wrap xn)) := by
      unfold valid
      simp only [h12.1, h12.2, if_false, ht.1, ht.2, decide_true, Bool.true_and]
    rw [e1, e2, R_max xt ht.1 ht.2, cond_true, cond_true, Option.bind_some, ← int_same xt xn ht.1 ht.2 hn]
    refine ⟨(xo == 0) && (bEq xs ⟨#[]⟩ && (decide (xn = into xt (IntKind.u64.wrap xn)) && (decide (xn ≥ 0) || xt == 6))), ?_, ?_⟩
    · cases xo == 0 <;> cases bEq xs ⟨#[]⟩ <;> cases decide (xn = into xt (IntKind.u64.wrap xn)) <;> cases decide (xn ≥ 0) <;> cases xt == 6 <;> rfl
    · unfold bne
      cases xo == 0 <;> cases bEq xs ⟨#[]⟩ <;> cases decide (xn = into xt (IntKind.u64.wrap xn)) <;> cases decide (xn ≥ 0) <;> cases xt == 6 <;> rfl
  · have e1 : (decide (3 ≤ xt) && decide (xt ≤ 10)) = false := by simp; omega
    rw [e1, cond_false, cond_false]
    refine ⟨false, ?_, ?_⟩
    · cases xo == 0 <;> cases bEq xs ⟨#[]⟩ <;> rfl
    · unfold bne
      cases xo == 0 <;> cases bEq xs ⟨#[]⟩ <;> rfl
end Go.KM.T1
