/- Plain laws: a node's checks, whole; trees out of lists. Conditions: none. -/
import Derived.Test.YtdhkmgloghlnnaaDoorTTreeL
namespace Go.KM.T1
open Go Go.KM
open Go.KM.Fam (Dn dflt)
open Go.KM.Enc (cells sz mkE glob gany u8)
set_option autoImplicit false
set_option linter.unusedVariables false
set_option linter.unusedSimpArgs false
set_option maxRecDepth 100000
/-- both checks of a node come out, and alike as a whole -/
def Loc (n : TNode) (ks : List (Option TNode_)) (num : Int) : Prop :=
  ∃ a b c d : Bool, I.node_kidsOk (some ⟨n, ks, num⟩) = some a ∧ I.node_fieldsOk (some ⟨n, ks, num⟩) = some b ∧ R.l2Fields n = some c ∧ R.l2Fits n (ks.map kdO) = some d ∧ (a && b) = (c && d)
theorem loc_of {n : TNode} {ks : List (Option TNode_)} {num : Int} (h : ∃ a, I.node_kidsOk (some ⟨n, ks, num⟩) = some a ∧ R.l2Fits n (ks.map kdO) = some a) (h' : ∃ b, I.node_fieldsOk (some ⟨n, ks, num⟩) = some b ∧ R.l2Fields n = some b) : Loc n ks num :=
  let ⟨a, h1, h2⟩ := h; let ⟨b, h3, h4⟩ := h'; ⟨a, b, b, a, h1, h3, h4, h2, Bool.and_comm _ _⟩
theorem loc_8 (xo xt xn : Int) (xs : ByteArray) (kd : Int) (ks : List (Option TNode_)) (num : Int) (hs : ∀ o ∈ ks, o.isSome = true) (hl : ks.length ≤ 100000) : Loc ⟨8, xo, xt, xn, xs, kd⟩ ks num := by
  have hf : I.node_fieldsOk (some ⟨⟨8, xo, xt, xn, xs, kd⟩, ks, num⟩) = some ((xt == 0) && ((xn == 0) && bEq xs ⟨#[]⟩)) := by rw [fI_8]; simp only [and_bif]
  have hr : R.l2Fields ⟨8, xo, xt, xn, xs, kd⟩ = some ((xt == 0) && ((xn == 0) && (bEq xs ⟨#[]⟩ && (decide (xo ≥ 1) && decide (xo ≤ 12))))) := by rw [fR_8]; simp only [and_bif, nand_bif, bne]
  have hg := gI_8 xo xt xn xs kd ks num
  rw [kE _ ks num hs hl] at hg
  have hg' := gR_8 xo xt xn xs kd (ks.map kdO)
  rw [rE _ (by rw [List.length_map]; exact hl), all_map', List.length_map] at hg'
  by_cases hop : 1 ≤ xo ∧ xo ≤ 12
  · have key : ∃ w : Int, ∃ s : ByteArray, R.l1BuiltWord xo = some (s, w) ∧ [0, 1, 1, 1, 2, 0, 1, 2, 3, 2, 1, 1, 1].getD xo.toNat 0 = w := by
      have : xo = 1 ∨ xo = 2 ∨ xo = 3 ∨ xo = 4 ∨ xo = 5 ∨ xo = 6 ∨ xo = 7 ∨ xo = 8 ∨ xo = 9 ∨ xo = 10 ∨ xo = 11 ∨ xo = 12 := by omega
      rcases this with rfl | rfl | rfl | rfl | rfl | rfl | rfl | rfl | rfl | rfl | rfl | rfl
      · exact ⟨_, _, bw_1, rfl⟩
      · exact ⟨_, _, bw_2, rfl⟩
      · exact ⟨_, _, bw_3, rfl⟩
      · exact ⟨_, _, bw_4, rfl⟩
      · exact ⟨_, _, bw_5, rfl⟩
      · exact ⟨_, _, bw_6, rfl⟩
      · exact ⟨_, _, bw_7, rfl⟩
      · exact ⟨_, _, bw_8, rfl⟩
      · exact ⟨_, _, bw_9, rfl⟩
      · exact ⟨_, _, bw_10, rfl⟩
      · exact ⟨_, _, bw_11, rfl⟩
      · exact ⟨_, _, bw_12, rfl⟩
    obtain ⟨w, s, h1, h2⟩ := key
    have d1 : decide (xo ≥ 1) = true := by simpa using hop.1
    have d2 : decide (xo ≤ 12) = true := by simpa using hop.2
    have d3 : inB xo [0, 1, 1, 1, 2, 0, 1, 2, 3, 2, 1, 1, 1].length = true := by simp [inB]; omega
    rw [d1, d2, d3, h2, cond_true, cond_true, cond_true, Option.bind_some, and_bif] at hg
    rw [h1, Option.bind_some, Option.bind_some, and_bif] at hg'
    rw [d1, d2] at hr
    refine ⟨_, _, _, _, hg, hf, hr, hg', ?_⟩
    simp only [Bool.and_true]
    ac_rfl
  · have hb : (decide (xo ≥ 1) && decide (xo ≤ 12)) = false := by simp; omega
    have hc : I.node_kidsOk (some ⟨⟨8, xo, xt, xn, xs, kd⟩, ks, num⟩) = some false := by
      rw [hg]
      by_cases h1 : 1 ≤ xo
      · rw [bif_t (b := decide (xo ≥ 1)) (by simpa using h1), bif_f (b := decide (xo ≤ 12)) (by simp; omega)]
      · rw [bif_f (b := decide (xo ≥ 1)) (by simpa using h1)]
    have hd : ∃ d, R.l2Fits ⟨8, xo, xt, xn, xs, kd⟩ (ks.map kdO) = some d := by
      have : ∃ r, R.l1BuiltWord xo = some r := by
        rw [R.l1BuiltWord_eq]
        repeat' (first | exact ⟨_, rfl⟩ | (cases (xo == (_ : Int)) <;> simp only [cond_true, cond_false]))
      obtain ⟨r, h1⟩ := this
      rw [h1, Option.bind_some, Option.bind_some, and_bif] at hg'
      exact ⟨_, hg'⟩
    obtain ⟨d, hd⟩ := hd
    rw [hb] at hr
    refine ⟨_, _, _, _, hc, hf, hr, hd, ?_⟩
    simp only [Bool.and_false, Bool.false_and]
theorem loc_rest (K xo xt xn : Int) (xs : ByteArray) (kd : Int) (ks : List (Option TNode_)) (num : Int) (hK : K < 1 ∨ 24 < K) : Loc ⟨K, xo, xt, xn, xs, kd⟩ ks num := by
  have hb : ∀ m : Int, 1 ≤ m → m ≤ 24 → (K == m) = false := fun m h1 h2 => beq_eq_false_iff_ne.2 (by omega)
  have b1 := hb 1 (by omega) (by omega)
  have b2 := hb 2 (by omega) (by omega)
  have b3 := hb 3 (by omega) (by omega)
  have b4 := hb 4 (by omega) (by omega)
  have b5 := hb 5 (by omega) (by omega)
  have b6 := hb 6 (by omega) (by omega)
  have b7 := hb 7 (by omega) (by omega)
  have b8 := hb 8 (by omega) (by omega)
  have b9 := hb 9 (by omega) (by omega)
  have b10 := hb 10 (by omega) (by omega)
  have b11 := hb 11 (by omega) (by omega)
  have b12 := hb 12 (by omega) (by omega)
  have b13 := hb 13 (by omega) (by omega)
  have b14 := hb 14 (by omega) (by omega)
  have b15 := hb 15 (by omega) (by omega)
  have b16 := hb 16 (by omega) (by omega)
  have b17 := hb 17 (by omega) (by omega)
  have b18 := hb 18 (by omega) (by omega)
  have b19 := hb 19 (by omega) (by omega)
  have b20 := hb 20 (by omega) (by omega)
  have b21 := hb 21 (by omega) (by omega)
  have b22 := hb 22 (by omega) (by omega)
  have b23 := hb 23 (by omega) (by omega)
  have b24 := hb 24 (by omega) (by omega)
  have h1 : I.node_kidsOk (some ⟨⟨K, xo, xt, xn, xs, kd⟩, ks, num⟩) = some false := by
    rw [I.node_kidsOk_eq]
    simp only [Option.isSome_some, Option.getD_some, cond_true, cond_false, b1, b2, b3, b4, b14, b15, b22]
    rw [I.node_kidsOk.l117_eq]
    simp only [cond_false, b5, b9, b10, b11, b17, b19]
    rw [I.node_kidsOk.l471_eq]
    simp only [cond_false, b6, b18]
    rw [I.node_kidsOk.l1887_eq]
    simp only [cond_false, b7, b8, b12, b13, b16, b20, b21, b23, b24]
  have h2 : ∃ b, I.node_fieldsOk (some ⟨⟨K, xo, xt, xn, xs, kd⟩, ks, num⟩) = some b := by
    rw [I.node_fieldsOk_eq]
    simp only [Option.isSome_some, Option.getD_some, cond_true, cond_false, b1, b2, b3, b4, b7, b10, b11]
    rw [I.node_fieldsOk.l7551_eq]
    simp only [cond_false, b5, b6, b8, b9, b22, b23, and_bif]
    exact ⟨_, rfl⟩
  have hu : R.l2Uses K = some (false, false, false, false) := by
    rw [R.l2Uses_eq]
    simp only [cond_false, b1, b2, b4, b7, b10, b11]
    rw [R.l2Uses.l215_eq]
    simp only [cond_false, b3, b5, b6, b8]
    rw [R.l2Uses.l3455_eq]
    simp only [cond_false, b9, b22, b23]
  have hn : R.l2Named K = some false := by
    rw [R.l2Named_eq]
    simp only [cond_false, b4, b7, b10, b11, b22, b23]
  have h3 : ∃ c, R.l2Fields ⟨K, xo, xt, xn, xs, kd⟩ = some c := by
    rw [R.l2Fields_eq]
    simp only [hu, hn, Option.bind_some, Bool.not_false, cond_true, cond_false, b1, b2, b3, b5, b6, b8, b9, b22, b23, bne, nand_bif]
    exact ⟨_, rfl⟩
  have h4 : R.l2Fits ⟨K, xo, xt, xn, xs, kd⟩ (ks.map kdO) = some false := by
    rw [R.l2Fits_eq]
    simp only [cond_false, b1, b2, b3, b4, b14, b15, b22]
    rw [R.l2Fits.l117_eq]
    simp only [cond_false, b5, b9, b10, b11, b17, b19]
    rw [R.l2Fits.l471_eq]
    simp only [cond_false, b6, b18]
    rw [R.l2Fits.l1887_eq]
    simp only [cond_false, b7, b8, b12, b13, b16, b20, b21, b23, b24]
  obtain ⟨b, h2⟩ := h2
  obtain ⟨c, h3⟩ := h3
  exact ⟨_, _, _, _, h1, h2, h3, h4, by simp⟩
theorem loc_same (n : TNode) (ks : List (Option TNode_)) (num : Int) (hs : ∀ o ∈ ks, o.isSome = true) (hl : ks.length ≤ 100000) (hn : I64 n.gN) : Loc n ks num := by
  obtain ⟨K, xo, xt, xn, xs, kd⟩ := n
  by_cases hK : K < 1 ∨ 24 < K
  · exact loc_rest K xo xt xn xs kd ks num hK
  · have : K = 1 ∨ K = 2 ∨ K = 3 ∨ K = 4 ∨ K = 5 ∨ K = 6 ∨ K = 7 ∨ K = 8 ∨ K = 9 ∨ K = 10 ∨ K = 11 ∨ K = 12 ∨ K = 13 ∨ K = 14 ∨ K = 15 ∨ K = 16 ∨ K = 17 ∨ K = 18 ∨ K = 19 ∨ K = 20 ∨ K = 21 ∨ K = 22 ∨ K = 23 ∨ K = 24 := by omega
    rcases this with rfl | rfl | rfl | rfl | rfl | rfl | rfl | rfl | rfl | rfl | rfl | rfl | rfl | rfl | rfl | rfl | rfl | rfl | rfl | rfl | rfl | rfl | rfl | rfl
    · exact loc_of (kids_1 xo xt xn xs kd ks num hs hl) (fields_1 xo xt xn xs kd ks num hn)
    · exact loc_of (kids_2 xo xt xn xs kd ks num hs hl) (fields_2 xo xt xn xs kd ks num)
    · exact loc_of (kids_3 xo xt xn xs kd ks num hs hl) (fields_3 xo xt xn xs kd ks num)
    · exact loc_of (kids_4 xo xt xn xs kd ks num hs hl) (fields_4 xo xt xn xs kd ks num)
    · exact loc_of (kids_5 xo xt xn xs kd ks num hs hl) (fields_5 xo xt xn xs kd ks num)
    · exact loc_of (kids_6 xo xt xn xs kd ks num hs hl) (fields_6 xo xt xn xs kd ks num)
    · exact loc_of (kids_7 xo xt xn xs kd ks num hs hl) (fields_7 xo xt xn xs kd ks num)
    · exact loc_8 xo xt xn xs kd ks num hs hl
    · exact loc_of (kids_9 xo xt xn xs kd ks num hs hl) (fields_9 xo xt xn xs kd ks num)
    · exact loc_of (kids_10 xo xt xn xs kd ks num hs hl) (fields_10 xo xt xn xs kd ks num)
    · exact loc_of (kids_11 xo xt xn xs kd ks num hs hl) (fields_11 xo xt xn xs kd ks num)
    · exact loc_of (kids_12 xo xt xn xs kd ks num hs hl) (fields_12 xo xt xn xs kd ks num)
    · exact loc_of (kids_13 xo xt xn xs kd ks num hs hl) (fields_13 xo xt xn xs kd ks num)
    · exact loc_of (kids_14 xo xt xn xs kd ks num hs hl) (fields_14 xo xt xn xs kd ks num)
    · exact loc_of (kids_15 xo xt xn xs kd ks num hs hl) (fields_15 xo xt xn xs kd ks num)
    · exact loc_of (kids_16 xo xt xn xs kd ks num hs hl) (fields_16 xo xt xn xs kd ks num)
    · exact loc_of (kids_17 xo xt xn xs kd ks num hs hl) (fields_17 xo xt xn xs kd ks num)
    · exact loc_of (kids_18 xo xt xn xs kd ks num hs hl) (fields_18 xo xt xn xs kd ks num)
    · exact loc_of (kids_19 xo xt xn xs kd ks num hs hl) (fields_19 xo xt xn xs kd ks num)
    · exact loc_of (kids_20 xo xt xn xs kd ks num hs hl) (fields_20 xo xt xn xs kd ks num)
    · exact loc_of (kids_21 xo xt xn xs kd ks num hs hl) (fields_21 xo xt xn xs kd ks num)
    · exact loc_of (kids_22 xo xt xn xs kd ks num hs hl) (fields_22 xo xt xn xs kd ks num)
    · exact loc_of (kids_23 xo xt xn xs kd ks num hs hl) (fields_23 xo xt xn xs kd ks num)
    · exact loc_of (kids_24 xo xt xn xs kd ks num hs hl) (fields_24 xo xt xn xs kd ks num)

/-! a list of nodes as a tree: indices -/
structure Tr (L : List TNode) (i : Nat) (op : List Nat) (out : List (List Nat)) (bs : List TNode_) : Prop where
  lo : out.length = i
  lb : bs.length = i
  rg : ∀ r ∈ op, r < i
  ky : ∀ (j : Nat) (ks : List Nat), out[j]? = some ks → (∀ k ∈ ks, k < j) ∧ ks.length ≤ j ∧ ∃ x, L[j]? = some x ∧ bs[j]? = some ⟨x, ks.map (fun k => bs[k]?), (j : Int)⟩
  la : ∀ r, op.getLast? = some r → r + 1 = i
  ol : op.length ≤ i
  cover : ∀ (P Q : Nat → Prop), (∀ (j : Nat) (ks : List Nat), out[j]? = some ks → (Q j ↔ P j ∧ ∀ k ∈ ks, Q k)) → ((∀ j, j < i → P j) ↔ ∀ r ∈ op, Q r)
theorem Tr.nil (L : List TNode) : Tr L 0 [] [] [] := ⟨rfl, rfl, fun r h => (by cases h), fun j ks h => (by simp at h), fun r h => (by simp at h), Nat.le_refl _, fun P Q _ => ⟨fun _ r h => (by cases h), fun _ j h => (by omega)⟩⟩
theorem map_grow {bs : List TNode_} {b : TNode_} {ks : List Nat} {i : Nat} (hb : bs.length = i) (h : ∀ k ∈ ks, k < i) : ks.map (fun k => (bs ++ [b])[k]?) = ks.map (fun k => bs[k]?) := by
  apply List.map_congr_left
  intro k hk
  rw [List.getElem?_append_left (by have := h k hk; omega)]
theorem Tr.step {L : List TNode} {i : Nat} {op : List Nat} {out : List (List Nat)} {bs : List TNode_} (h : Tr L i op out bs) {x : TNode} (hx : L[i]? = some x) {k : Nat} (hk : k ≤ op.length) :
    Tr L (i + 1) (op.take (op.length - k) ++ [i]) (out ++ [op.drop (op.length - k)]) (bs ++ [⟨x, (op.drop (op.length - k)).map (fun k => bs[k]?), (i : Int)⟩]) := by
  have hd : ∀ r ∈ op.drop (op.length - k), r < i := fun r hr => h.rg r (List.mem_of_mem_drop hr)
  refine ⟨by simp [h.lo], by simp [h.lb], fun r hr => ?_, fun j ks hj => ?_, fun r hr => ?_, by simp; have := h.ol; omega, fun P Q hPQ => ?_⟩
  · rcases List.mem_append.1 hr with hr | hr
    · have := h.rg r (List.mem_of_mem_take hr); omega
    · simp at hr; omega
  · by_cases hji : j < i
    · rw [List.getElem?_append_left (by rw [h.lo]; exact hji)] at hj
      obtain ⟨h1, h2, y, h3, h4⟩ := h.ky j ks hj
      refine ⟨h1, h2, y, h3, ?_⟩
      rw [List.getElem?_append_left (by rw [h.lb]; exact hji), map_grow h.lb (fun q hq => by have := h1 q hq; omega)]
      exact h4
    · have hji' : j = i := by
        have := (List.getElem?_eq_some_iff.1 hj).1
        simp [h.lo] at this; omega
      subst hji'
      rw [List.getElem?_append_right (by rw [h.lo]; exact Nat.le_refl _), h.lo] at hj
      simp at hj
      subst hj
      refine ⟨hd, by simp; have := h.ol; omega, x, hx, ?_⟩
      rw [List.getElem?_append_right (by rw [h.lb]; exact Nat.le_refl _), h.lb, map_grow h.lb hd]
      simp
  · simp at hr; omega
  · have hQ : ∀ (j : Nat) (ks : List Nat), out[j]? = some ks → (Q j ↔ P j ∧ ∀ k ∈ ks, Q k) := fun j ks hj => hPQ j ks (by rw [List.getElem?_append_left (List.getElem?_eq_some_iff.1 hj).1]; exact hj)
    have hi := hPQ i (op.drop (op.length - k)) (by rw [List.getElem?_append_right (by rw [h.lo]; exact Nat.le_refl _), h.lo]; simp)
    have hc := h.cover P Q hQ
    constructor
    · intro hall r hr
      have h1 := hc.1 fun j hj => hall j (by omega)
      rcases List.mem_append.1 hr with hr | hr
      · exact h1 r (List.mem_of_mem_take hr)
      · simp at hr; subst hr
        exact hi.2 ⟨hall r (by omega), fun q hq => h1 q (List.mem_of_mem_drop hq)⟩
    · intro hall j hj
      have h1 := hi.1 (hall i (by simp))
      by_cases hji : j < i
      · refine hc.2 (fun r hr => ?_) j hji
        rw [← List.take_append_drop (op.length - k) op] at hr
        rcases List.mem_append.1 hr with hr | hr
        · exact hall r (by simp [hr])
        · exact h1.2 r hr
      · have : j = i := by omega
        subst this; exact h1.1
end Go.KM.T1
