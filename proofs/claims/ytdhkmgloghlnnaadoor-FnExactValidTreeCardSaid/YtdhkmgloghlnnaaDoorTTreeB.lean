/- Plain laws: trees by the program and by the reference are one. Conditions: none. -/
import Derived.Test.YtdhkmgloghlnnaaDoorTTreeM
namespace Go.KM.T1
open Go Go.KM
open Go.KM.Fam (Dn dflt)
open Go.KM.Enc (cells sz mkE glob gany u8)
set_option autoImplicit false
set_option linter.unusedVariables false
set_option linter.unusedSimpArgs false
set_option maxRecDepth 100000
def toI (l : List Nat) : List Int := l.map fun (r : Nat) => (r : Int)
def stk (bs : List TNode_) (op : List Nat) : List (Option TNode_) := op.map fun r => bs[r]?
theorem sub_end {α : Type} (xs : List α) {k : Nat} (hk : k ≤ xs.length) : sub xs (k : Int) (xs.length : Int) = xs.drop k := by
  unfold sub; rw [Int.toNat_natCast, Int.toNat_natCast, List.take_of_length_le (Nat.le_refl _)]
theorem stk_step {bs : List TNode_} {op : List Nat} {i k : Nat} (hb : bs.length = i) (h : ∀ r ∈ op, r < i) (b : TNode_) : (stk bs op).take (op.length - k) ++ [some b] = stk (bs ++ [b]) (op.take (op.length - k) ++ [i]) := by
  unfold stk
  rw [List.map_append, map_grow hb (fun r hr => h r (List.mem_of_mem_take hr)), List.map_take]
  congr 1
  rw [← hb]
  simp
theorem build (L : List TNode) (hL : L.length ≤ 12001) (t : TTree) (ht : t.gNodes = L) : ∀ (m i : Nat) (op : List Nat) (out : List (List Nat)) (bs : List TNode_), Tr L i op out bs → i + m = L.length →
    (I.grow.l244 (stk bs op) L L.length i = some none ∧ ∃ o, R.l2Kids.l1012 L.length (out.map toI) (toI op) i t = some (o, false)) ∨
    ∃ op' out' bs', Tr L L.length op' out' bs' ∧ I.grow.l244 (stk bs op) L L.length i = (if op'.length = 1 then some ((stk bs' op').getD 0 none) else some none) ∧ R.l2Kids.l1012 L.length (out.map toI) (toI op) i t = some (out'.map toI, decide (op'.length = 1)) := by
  intro m
  induction m with
  | zero =>
    intro i op out bs h hi
    have hi : i = L.length := by omega
    subst hi
    right
    refine ⟨op, out, bs, h, ?_, ?_⟩
    · rw [I.grow.l244_eq, bif_f (ge_dec (Nat.le_refl _))]
      have e : (stk bs op).length = op.length := by unfold stk; rw [List.length_map]
      rw [e]
      by_cases h1 : op.length = 1
      · rw [if_pos h1, bif_f (b := ((op.length : Int) != 1)) (by simp [h1]), bif_t (b := inB 0 op.length) (by simp [inB, h1])]
      · rw [if_neg h1, bif_t (b := ((op.length : Int) != 1)) (bne_iff_ne.2 (by omega))]
    · rw [R.l2Kids.l1012_eq, bif_f (ge_dec (Nat.le_refl _))]
      have e : (toI op).length = op.length := by unfold toI; rw [List.length_map]
      rw [e]
      congr 2
      rw [Bool.eq_iff_iff]; simp; omega
  | succ m ih =>
    intro i op out bs h hi
    have hil : i < L.length := by omega
    have e1 : (stk bs op).length = op.length := by unfold stk; rw [List.length_map]
    have e2 : (toI op).length = op.length := by unfold toI; rw [List.length_map]
    have e3 : (out.map toI).length = i := by rw [List.length_map, h.lo]
    have hol := h.ol
    rw [I.grow.l244_eq, R.l2Kids.l1012_eq, ht]
    simp only [lt_dec hil, inB_nat hil, cond_true, Int.toNat_natCast, getD_lt hil, e1, e2]
    by_cases hk0 : L[i].gKids < 0
    · simp only [decide_eq_true hk0, cond_true]
      exact .inl ⟨by trivial, _, rfl⟩
    · by_cases hk1 : L[i].gKids > (op.length : Int)
      · simp only [decide_eq_false hk0, decide_eq_true hk1, cond_true, cond_false]
        exact .inl ⟨by trivial, _, rfl⟩
      · obtain ⟨k, hk⟩ : ∃ k : Nat, L[i].gKids = k := ⟨L[i].gKids.toNat, by omega⟩
        have hkl : k ≤ op.length := by omega
        have w : IntKind.i64.wrap ((op.length : Int) - L[i].gKids) = ((op.length - k : Nat) : Int) := by rw [hk, wi (by omega) (by omega)]; omega
        have hin : inS ((op.length - k : Nat) : Int) (op.length : Int) op.length = true := inS_iff.2 ⟨by omega, by omega, by omega⟩
        have hin0 : inS 0 ((op.length - k : Nat) : Int) op.length = true := inS_iff.2 ⟨by omega, by omega, by omega⟩
        have s1 : sub (stk bs op) ((op.length - k : Nat) : Int) (op.length : Int) = (op.drop (op.length - k)).map (fun r => bs[r]?) := by
          have := sub_end (stk bs op) (k := op.length - k) (by rw [e1]; omega)
          rw [e1] at this
          rw [this]; unfold stk; rw [List.map_drop]
        have s2 : sub (toI op) ((op.length - k : Nat) : Int) (op.length : Int) = toI (op.drop (op.length - k)) := by
          have := sub_end (toI op) (k := op.length - k) (by rw [e2]; omega)
          rw [e2] at this
          rw [this]; unfold toI; rw [List.map_drop]
        have hx : L[i]? = some L[i] := List.getElem?_eq_getElem hil
        have hst := h.step hx hkl
        have r1 : ∀ (y : Option TNode_), room ((List.take (op.length - k) (stk bs op)).length + [y].length) 8 = true := fun y => room_ok (by simp [e1]; omega)
        have r2 : ∀ (y : Int), room ((List.take (op.length - k) (toI op)).length + [y].length) 8 = true := fun y => room_ok (by simp [e2]; omega)
        have r3 : room ((op.drop (op.length - k)).map (fun r => bs[r]?)).length 8 = true := room_ok (by simp; omega)
        have r4 : room (0 + (toI (op.drop (op.length - k))).length) 8 = true := room_ok (by unfold toI; simp; omega)
        have r5 : ∀ y : List Int, room ((out.map toI).length + [y].length) 24 = true := fun y => room_ok (by rw [e3]; simp; omega)
        simp only [decide_eq_false hk0, decide_eq_false hk1, cond_false, w, hin, hin0, cond_true, s1, s2, Int.toNat_natCast, r1, r2, r3, r4, r5, wi_succ (show i < 9223372036854775807 by omega)]
        have eb : (TNode_.mk (TNode.mk L[i].gKind L[i].gOp L[i].gType L[i].gN L[i].gText L[i].gKids) ((op.drop (op.length - k)).map (fun r => bs[r]?)) (i : Int)) = ⟨L[i], (op.drop (op.length - k)).map (fun r => bs[r]?), (i : Int)⟩ := rfl
        rw [eb, stk_step h.lb h.rg]
        have eo : out.map toI ++ [toI (op.drop (op.length - k))] = (out ++ [op.drop (op.length - k)]).map toI := by rw [List.map_append]; rfl
        have ep : List.take (op.length - k) (toI op) ++ [(i : Int)] = toI (op.take (op.length - k) ++ [i]) := by unfold toI; rw [List.map_append, List.map_take]; rfl
        rw [eo, ep]
        exact ih (i + 1) _ _ _ hst (by omega)

/-! tables along the list -/
def tabl {β : Type} (f : List β → List Nat → β) (out : List (List Nat)) : List β := out.foldl (fun acc ks => acc ++ [f acc ks]) []
theorem tabl_run {β : Type} (f : List β → List Nat → β) : ∀ (out : List (List Nat)) (acc : List β), (out.foldl (fun acc ks => acc ++ [f acc ks]) acc).take acc.length = acc ∧ (out.foldl (fun acc ks => acc ++ [f acc ks]) acc).length = acc.length + out.length ∧
    ∀ (j : Nat) (ks : List Nat), out[j]? = some ks → (out.foldl (fun acc ks => acc ++ [f acc ks]) acc)[acc.length + j]? = some (f ((out.foldl (fun acc ks => acc ++ [f acc ks]) acc).take (acc.length + j)) ks) := by
  intro out
  induction out with
  | nil => intro acc; exact ⟨by simp, by simp, fun j ks h => by simp at h⟩
  | cons k0 out ih =>
    intro acc
    obtain ⟨h1, h2, h3⟩ := ih (acc ++ [f acc k0])
    simp only [List.foldl_cons]
    generalize hr : out.foldl (fun acc ks => acc ++ [f acc ks]) (acc ++ [f acc k0]) = res at h1 h2 h3
    simp only [List.length_append, List.length_cons, List.length_nil, Nat.zero_add] at h1 h2 h3
    have h4 : res.take acc.length = acc := by
      have := congrArg (List.take acc.length) h1
      rw [List.take_take, Nat.min_eq_left (by omega)] at this
      rw [this]; simp
    refine ⟨h4, by simp [h2]; omega, fun j ks hj => ?_⟩
    cases j with
    | zero =>
      simp at hj; subst hj
      rw [Nat.add_zero, h4]
      have := congrArg (fun l => l[acc.length]?) h1
      simp only [List.getElem?_take] at this
      rw [if_pos (by omega)] at this
      rw [this]; simp
    | succ j =>
      have := h3 j ks (by simpa using hj)
      rw [show acc.length + (j + 1) = acc.length + 1 + j by omega]
      exact this
theorem tabl_get {β : Type} (f : List β → List Nat → β) {out : List (List Nat)} {j : Nat} {ks : List Nat} (h : out[j]? = some ks) : (tabl f out)[j]? = some (f ((tabl f out).take j) ks) := by
  have := (tabl_run f out []).2.2 j ks h
  simpa [tabl] using this
theorem tabl_len {β : Type} (f : List β → List Nat → β) (out : List (List Nat)) : (tabl f out).length = out.length := by
  have := (tabl_run f out []).2.1
  simpa [tabl] using this
theorem getD_take {β : Type} (l : List β) {k j : Nat} (h : k < j) (z : β) : (l.take j).getD k z = l.getD k z := by
  rw [List.getD_eq_getElem?_getD, List.getElem?_take, if_pos h, ← List.getD_eq_getElem?_getD]
def mxl (f : Nat → Nat) (ks : List Nat) : Nat := ks.foldl (fun h k => max h (f k + 1)) 0
theorem mxl_run (f : Nat → Nat) (B : Nat) : ∀ (ks : List Nat) (h : Nat), ks.foldl (fun h k => max h (f k + 1)) h ≤ B ↔ h ≤ B ∧ ∀ k ∈ ks, f k + 1 ≤ B := by
  intro ks
  induction ks with
  | nil => intro h; simp
  | cons k ks ih =>
    intro h
    simp only [List.foldl_cons, ih, List.mem_cons, forall_eq_or_imp, Nat.max_le, and_assoc]
theorem mxl_le {f : Nat → Nat} {B : Nat} {ks : List Nat} : mxl f ks ≤ B ↔ ∀ k ∈ ks, f k + 1 ≤ B := by unfold mxl; rw [mxl_run]; simp
theorem foldl_congr' {f g : Nat → Nat} : ∀ (ks : List Nat) (h : Nat), (∀ k ∈ ks, f k = g k) → ks.foldl (fun h k => max h (f k + 1)) h = ks.foldl (fun h k => max h (g k + 1)) h := by
  intro ks
  induction ks with
  | nil => intro h _; rfl
  | cons k ks ih => intro h hk; simp only [List.foldl_cons]; rw [hk k (by simp), ih _ fun q hq => hk q (by simp [hq])]
/-- heights -/
def hgt (out : List (List Nat)) : List Nat := tabl (fun acc ks => mxl (fun k => acc.getD k 0) ks) out
def Hh (out : List (List Nat)) (j : Nat) : Nat := (hgt out).getD j 0
theorem Hh_eq {out : List (List Nat)} {j : Nat} {ks : List Nat} (h : out[j]? = some ks) (hk : ∀ k ∈ ks, k < j) : Hh out j = mxl (Hh out) ks := by
  unfold Hh
  rw [List.getD_eq_getElem?_getD, show (hgt out)[j]? = _ from tabl_get _ h, Option.getD_some]
  unfold mxl
  exact foldl_congr' ks 0 fun k hkk => getD_take _ (hk k hkk) 0
/-- all is well below -/
def gds (loc : Nat → Bool) (out : List (List Nat)) : List Bool := tabl (fun acc ks => loc acc.length && ks.all fun k => acc.getD k false) out
def Gd (loc : Nat → Bool) (out : List (List Nat)) (j : Nat) : Bool := (gds loc out).getD j false
theorem Gd_eq {loc : Nat → Bool} {out : List (List Nat)} {j : Nat} {ks : List Nat} (h : out[j]? = some ks) (hk : ∀ k ∈ ks, k < j) : Gd loc out j = (loc j && ks.all (Gd loc out)) := by
  have hj : j < out.length := (List.getElem?_eq_some_iff.1 h).1
  unfold Gd
  rw [List.getD_eq_getElem?_getD, show (gds loc out)[j]? = _ from tabl_get _ h, Option.getD_some, List.length_take, show (tabl _ out).length = _ from tabl_len _ out, Nat.min_eq_left (by omega)]
  congr 1
  rw [Bool.eq_iff_iff]
  simp only [List.all_eq_true]
  constructor
  · intro hh k hkk; have := hh k hkk; rw [getD_take _ (hk k hkk)] at this; exact this
  · intro hh k hkk; rw [getD_take _ (hk k hkk)]; exact hh k hkk

/-- what the reference says of a node alone -/
noncomputable def locB (L : List TNode) (out : List (List Nat)) (j : Nat) : Bool :=
  (R.l2Fields (L.getD j TNode.z)).getD false && (R.l2Fits (L.getD j TNode.z) ((out.getD j []).map fun k => (L.getD k TNode.z).gKind)).getD false
section
variable {L : List TNode} {op : List Nat} {out : List (List Nat)} {bs : List TNode_} (hL : L.length ≤ 12001) (hI : ∀ x ∈ L, I64 x.gN) (h : Tr L L.length op out bs)
include hL hI h
theorem node_at {j : Nat} (hj : j < L.length) : ∃ ks, out[j]? = some ks ∧ (∀ k ∈ ks, k < j) ∧ ks.length ≤ j ∧ bs[j]? = some ⟨L[j], ks.map (fun k => bs[k]?), (j : Int)⟩ ∧
    ∃ a b c d : Bool, I.node_kidsOk bs[j]? = some a ∧ I.node_fieldsOk bs[j]? = some b ∧ R.l2Fields L[j] = some c ∧ R.l2Fits L[j] (ks.map fun k => (L.getD k TNode.z).gKind) = some d ∧ (a && b) = locB L out j ∧ (c && d) = locB L out j := by
  have hjo : j < out.length := by rw [h.lo]; exact hj
  have ho : out[j]? = some out[j] := List.getElem?_eq_getElem hjo
  obtain ⟨h1, h2, x, h3, h4⟩ := h.ky j _ ho
  rw [List.getElem?_eq_getElem hj] at h3
  have h3 := Option.some.inj h3
  subst h3
  have hb : ∀ k, k < j → ∃ b, bs[k]? = some b ∧ b.gNode = L.getD k TNode.z := fun k hk => by
    have hko : k < out.length := by omega
    obtain ⟨_, _, y, h5, h6⟩ := h.ky k _ (List.getElem?_eq_getElem hko)
    exact ⟨_, h6, by rw [List.getD_eq_getElem?_getD, h5]; rfl⟩
  have hs : ∀ o ∈ out[j].map (fun k => bs[k]?), o.isSome = true := fun o hoo => by
    obtain ⟨k, hk, rfl⟩ := List.mem_map.1 hoo
    obtain ⟨b, h5, _⟩ := hb k (h1 k hk)
    rw [h5]; rfl
  have hkd : (out[j].map (fun k => bs[k]?)).map kdO = out[j].map fun k => (L.getD k TNode.z).gKind := by
    rw [List.map_map]
    apply List.map_congr_left
    intro k hk
    obtain ⟨b, h5, h6⟩ := hb k (h1 k hk)
    show kdO bs[k]? = _
    rw [h5, ← h6]; rfl
  obtain ⟨a, b, c, d, q1, q2, q3, q4, q5⟩ := loc_same L[j] (out[j].map (fun k => bs[k]?)) (j : Int) hs (by rw [List.length_map]; omega) (hI _ (List.getElem_mem hj))
  rw [hkd] at q4
  have hloc : (c && d) = locB L out j := by
    unfold locB
    rw [getD_lt hj, q3, List.getD_eq_getElem?_getD (l := out), ho]
    simp only [Option.getD_some]
    rw [q4]
    rfl
  refine ⟨_, ho, h1, h2, h4, a, b, c, d, by rw [h4]; exact q1, by rw [h4]; exact q2, q3, q4, q5.trans hloc, hloc⟩
theorem ok_run : ∀ (j : Nat), j < L.length → ∀ a : Nat, a ≤ 61 → I.node_ok bs[j]? (a : Int) = some (decide (a + Hh out j ≤ 60) && Gd (locB L out) out j) := by
  intro j
  induction j using Nat.strongRecOn with
  | ind j ih =>
    intro hj a ha
    obtain ⟨ks, ho, h1, h2, hb, x, y, c, d, q1, q2, q3, q4, q5, q6⟩ := node_at hL hI h hj
    rw [I.node_ok_eq]
    by_cases h60 : (a : Int) > 60
    · rw [bif_t (by simpa using h60)]
      have : decide (a + Hh out j ≤ 60) = false := by simp; omega
      rw [this, Bool.false_and]
    · rw [bif_f (by simpa using h60), q1, q2, Option.bind_some, Option.bind_some, Gd_eq ho h1, ← q5]
      cases x with
      | false => simp
      | true =>
        cases y with
        | false => simp
        | true =>
          simp only [Bool.not_true, cond_false, Bool.true_and]
          rw [hb]
          simp only [Option.isSome_some, Option.getD_some, cond_true, List.length_map]
          have e := all_run ks (fun k => decide (a + 1 + Hh out k ≤ 60) && Gd (locB L out) out k) (fun q => I.node_ok.l116 a (ks.map fun k => bs[k]?) ks.length q) (some true) (fun q hq => by
            show I.node_ok.l116 a (ks.map fun k => bs[k]?) ks.length q = _
            have w : IntKind.i64.wrap ((a : Int) + 1) = ((a + 1 : Nat) : Int) := wi_succ (by omega)
            have hm : q < (ks.map fun k => bs[k]?).length := by rw [List.length_map]; exact hq
            have hkq := h1 ks[q] (List.getElem_mem hq)
            rw [I.node_ok.l116_eq, bif_t (lt_dec hq), bif_t (inB_nat hm), Int.toNat_natCast, getD_lt hm, List.getElem_map, w, ih ks[q] hkq (by omega) (a + 1) (by omega), Option.bind_some, wi_succ (by omega)]
            cases (decide (a + 1 + Hh out ks[q] ≤ 60) && Gd (locB L out) out ks[q]) <;> rfl) (by rw [I.node_ok.l116_eq, bif_f (ge_dec (Nat.le_refl _))])
          refine e.trans ((fin_b _).trans ?_)
          congr 1
          rw [Hh_eq ho h1, Bool.eq_iff_iff]
          simp only [List.all_eq_true, Bool.and_eq_true, decide_eq_true_eq]
          constructor
          · intro hh
            refine ⟨?_, fun k hk => (hh k hk).2⟩
            have : mxl (Hh out) ks ≤ 60 - a := mxl_le.2 fun k hk => by have := (hh k hk).1; omega
            omega
          · rintro ⟨hh1, hh2⟩ k hk
            refine ⟨?_, hh2 k hk⟩
            have : mxl (Hh out) ks ≤ 60 - a := by omega
            have := mxl_le.1 this k hk
            omega
theorem ref_inner (t : TTree) (ht : t.gNodes = L) (i : Nat) (hi : i < L.length) (ks : List Nat) (ho : out[i]? = some ks) : ∀ (m k : Nat), k + m = ks.length →
    R.ValidTree.l256308 (out.map toI) (toI ((hgt out).take i)) i ((ks.take k).map fun q => (L.getD q TNode.z).gKind) ((mxl (Hh out) (ks.take k) : Nat) : Int) k t =
    bif decide (Hh out i ≤ 60) && locB L out i then R.ValidTree.l500 (out.map toI) (toI ((hgt out).take (i + 1))) ((i + 1 : Nat) : Int) t else some false := by
  obtain ⟨ks', ho', h1, h2, hb, x, y, c, d, q1, q2, q3, q4, q5, q6⟩ := node_at hL hI h hi
  rw [ho] at ho'
  have ho' := Option.some.inj ho'
  subst ho'
  have hio : i < (out.map toI).length := by rw [List.length_map, h.lo]; exact hi
  have hlen : (toI ((hgt out).take i)).length = i := by
    unfold toI hgt; rw [List.length_map, List.length_take, tabl_len, h.lo]; omega
  have hg : (out.map toI).getD i [] = toI ks := by
    rw [getD_lt hio, List.getElem_map]
    congr 1
    exact Option.some.inj ((List.getElem?_eq_getElem _).symm.trans ho)
  have hHi := Hh_eq ho h1
  intro m
  induction m with
  | zero =>
    intro k hk
    have hk : k = ks.length := by omega
    subst hk
    rw [List.take_length, R.ValidTree.l256308_eq, bif_t (inB_nat hio), Int.toNat_natCast, hg, bif_f (b := decide ((ks.length : Int) < ((toI ks).length : Int))) (by unfold toI; simp), hlen, bif_t (room_ok (by simp; omega)), ← hHi, ht]
    by_cases h60 : Hh out i ≤ 60
    · rw [bif_f (b := decide (((Hh out i : Nat) : Int) > 60)) (by simp; omega), bif_t (inB_nat hi), getD_lt hi, q3, Option.bind_some]
      have e60 : decide (Hh out i ≤ 60) = true := by simpa using h60
      have etake : toI ((hgt out).take i) ++ [((Hh out i : Nat) : Int)] = toI ((hgt out).take (i + 1)) := by
        unfold toI Hh
        have hil : i < (hgt out).length := by unfold hgt; rw [tabl_len, h.lo]; exact hi
        rw [List.take_add_one, List.getElem?_eq_getElem hil, getD_lt hil, List.map_append]; rfl
      rw [e60, Bool.true_and, ← q6]
      cases c with
      | false => rfl
      | true =>
        rw [Bool.not_true, cond_false, bif_t (inB_nat hi), q4, Option.bind_some, Bool.true_and, wi_succ (by omega), etake]
        cases d <;> rfl
    · rw [bif_t (b := decide (((Hh out i : Nat) : Int) > 60)) (by simp; omega)]
      have e60 : decide (Hh out i ≤ 60) = false := by simpa using h60
      rw [e60]; rfl
  | succ m ih =>
    intro k hk
    have hkl : k < ks.length := by omega
    have hki := h1 ks[k] (List.getElem_mem hkl)
    have hlk : (toI ks).length = ks.length := by unfold toI; rw [List.length_map]
    have hgk : (toI ks).getD k 0 = ((ks[k] : Nat) : Int) := by
      rw [getD_lt (by rw [hlk]; exact hkl)]; unfold toI; rw [List.getElem_map]
    have hH : (toI ((hgt out).take i)).getD ks[k] 0 = ((Hh out ks[k] : Nat) : Int) := by
      unfold Hh
      rw [getD_lt (by rw [hlen]; exact hki)]
      unfold toI
      rw [List.getElem_map, List.getElem_take, getD_lt]
    have etk : ks.take (k + 1) = ks.take k ++ [ks[k]] := by rw [List.take_add_one, List.getElem?_eq_getElem hkl]; rfl
    have emx : mxl (Hh out) (ks.take (k + 1)) = max (mxl (Hh out) (ks.take k)) (Hh out ks[k] + 1) := by unfold mxl; rw [etk, List.foldl_append]; rfl
    have ekd : ((ks.take k).map fun q => (L.getD q TNode.z).gKind) ++ [(L.getD ks[k] TNode.z).gKind] = (ks.take (k + 1)).map fun q => (L.getD q TNode.z).gKind := by rw [etk, List.map_append]; rfl
    have hih := ih (k + 1) (by omega)
    rw [emx] at hih
    have hHb : Hh out ks[k] ≤ 12001 := by
      obtain ⟨ks2, ho2, h12, _⟩ := node_at hL hI h (j := ks[k]) (by omega)
      have hbnd : ∀ j, j < L.length → Hh out j ≤ j := by
        intro j
        induction j using Nat.strongRecOn with
        | ind j ihj =>
          intro hj
          obtain ⟨ks3, ho3, h13, _⟩ := node_at hL hI h hj
          rw [Hh_eq ho3 h13]
          exact mxl_le.2 fun q hq => by have h5 := h13 q hq; have := ihj q h5 (by omega); omega
      have := hbnd ks[k] (by omega)
      omega
    rw [R.ValidTree.l256308_eq, bif_t (inB_nat hio), Int.toNat_natCast, hg, hlk, hlen, bif_t (lt_dec hkl), bif_t (inB_nat hkl), Int.toNat_natCast, hgk, ht, Int.toNat_natCast, hH, wi_succ (show Hh out ks[k] < 9223372036854775807 by omega), wi_succ (show k < 9223372036854775807 by omega)]
    simp only [inB_nat hio, inB_nat hkl, inB_nat hki, inB_nat (show ks[k] < L.length by omega), cond_true]
    rw [bif_t (room_ok (by simp; omega)), ekd]
    by_cases hgt' : Hh out ks[k] + 1 > mxl (Hh out) (ks.take k)
    · rw [bif_t (b := decide (((Hh out ks[k] + 1 : Nat) : Int) > ((mxl (Hh out) (ks.take k) : Nat) : Int))) (by simp; omega)]
      rw [Nat.max_eq_right (by omega)] at hih
      exact hih
    · rw [bif_f (b := decide (((Hh out ks[k] + 1 : Nat) : Int) > ((mxl (Hh out) (ks.take k) : Nat) : Int))) (by simp; omega)]
      rw [Nat.max_eq_left (by omega)] at hih
      exact hih
theorem ref_run (t : TTree) (ht : t.gNodes = L) (h1 : 1 ≤ L.length) : R.ValidTree.l500 (out.map toI) [] 0 t = some (((List.range L.length).all fun j => decide (Hh out j ≤ 60) && locB L out j) && (L.getD (L.length - 1) TNode.z).gKind == 24) := by
  have hlo : (out.map toI).length = L.length := by rw [List.length_map, h.lo]
  have e := all_run (List.range L.length) (fun j => decide (Hh out j ≤ 60) && locB L out j) (fun i => R.ValidTree.l500 (out.map toI) (toI ((hgt out).take i.toNat)) i t) (some ((L.getD (L.length - 1) TNode.z).gKind == 24)) (fun i hi => by
    rw [List.length_range] at hi
    show R.ValidTree.l500 (out.map toI) (toI ((hgt out).take (i : Int).toNat)) i t = _
    have ho : out[i]? = some (out[i]'(by rw [h.lo]; exact hi)) := List.getElem?_eq_getElem (by rw [h.lo]; exact hi)
    rw [Int.toNat_natCast, R.ValidTree.l500_eq, hlo, bif_t (lt_dec hi), List.getElem_range]
    exact ref_inner hL hI h t ht i hi _ ho _ 0 (Nat.zero_add _)) (by
    rw [List.length_range]
    have w : IntKind.i64.wrap ((L.length : Int) - 1) = ((L.length - 1 : Nat) : Int) := by rw [wi (by omega) (by omega)]; omega
    show R.ValidTree.l500 _ _ _ _ = _
    rw [R.ValidTree.l500_eq, hlo, bif_f (ge_dec (Nat.le_refl _)), ht, w, bif_t (inB_nat (by omega)), Int.toNat_natCast])
  refine Eq.trans ?_ (e.trans (and_bif _ _))
  rfl
end
theorem tree_same (t : TTree) (hI : ∀ x ∈ t.gNodes, I64 x.gN) : ∃ b, R.ValidTree t = some b ∧ I.ValidTree t = some b := by
  rw [R.ValidTree_eq, I.ValidTree_eq, I.validRoot_eq, R.l2Kids_eq, I.grow_eq]
  generalize hL : t.gNodes = L at hI
  by_cases h0 : (L.length : Int) < 1
  · simp only [decide_eq_true h0, cond_true]
    exact ⟨false, rfl, rfl⟩
  · by_cases h1 : (L.length : Int) > 12001
    · simp only [decide_eq_false h0, decide_eq_true h1, cond_true, cond_false]
      exact ⟨false, rfl, rfl⟩
    · simp only [decide_eq_false h0, decide_eq_false h1, cond_false]
      have hb := build L (by omega) t hL L.length 0 [] [] [] (Tr.nil L) (by omega)
      rcases hb with ⟨hg, o, hk⟩ | ⟨op, out, bs, hT, hg, hk⟩
      · have hg : I.grow.l244 [] L L.length 0 = some none := hg
        have hk : R.l2Kids.l1012 L.length [] [] 0 t = some (o, false) := hk
        rw [hg, hk]
        exact ⟨false, rfl, rfl⟩
      · have hg : I.grow.l244 [] L L.length 0 = (if op.length = 1 then some ((stk bs op).getD 0 none) else some none) := hg
        have hk : R.l2Kids.l1012 L.length [] [] 0 t = some (out.map toI, decide (op.length = 1)) := hk
        rw [hg, hk, Option.bind_some]
        by_cases h11 : op.length = 1
        · obtain ⟨r, rfl⟩ : ∃ r, op = [r] := by
            match op, h11 with
            | [r], _ => exact ⟨r, rfl⟩
          have hr : r + 1 = L.length := hT.la r rfl
          have hrl : r < L.length := by omega
          have hre : r = L.length - 1 := by omega
          rw [if_pos (show [r].length = 1 from rfl)]
          have hsr : (stk bs [r]).getD 0 none = bs[r]? := rfl
          rw [hsr, Option.bind_some]
          have hd1 : decide ([r].length = 1) = true := rfl
          simp only [hd1, Bool.not_true, cond_false]
          rw [ref_run (by omega) hI hT t hL (by omega)]
          obtain ⟨ks, ho, _, _, hbr, _⟩ := node_at (by omega) hI hT hrl
          have hok := ok_run (by omega) hI hT r hrl 0 (by omega)
          have hok : I.node_ok bs[r]? 0 = some (decide (0 + Hh out r ≤ 60) && Gd (locB L out) out r) := hok
          rw [hok, hbr]
          simp only [Option.isNone_some, Option.isSome_some, Option.getD_some, cond_true, cond_false, Option.bind_some]
          refine ⟨_, rfl, ?_⟩
          have hcov := hT.cover (fun j => Hh out j ≤ 60 ∧ locB L out j = true) (fun j => Hh out j ≤ 60 ∧ Gd (locB L out) out j = true) (fun j kk hj => by
            have hjl : j < L.length := by have := (List.getElem?_eq_some_iff.1 hj).1; rw [hT.lo] at this; exact this
            obtain ⟨ks', ho', h1', _⟩ := node_at (by omega) hI hT hjl
            rw [hj] at ho'
            have ho' := Option.some.inj ho'
            subst ho'
            rw [Gd_eq hj h1', Hh_eq hj h1']
            simp only [Bool.and_eq_true, List.all_eq_true]
            constructor
            · rintro ⟨q1, q2, q3⟩
              exact ⟨⟨q1, q2⟩, fun k hk => ⟨by have := mxl_le.1 q1 k hk; omega, q3 k hk⟩⟩
            · rintro ⟨⟨q1, q2⟩, q3⟩
              exact ⟨q1, q2, fun k hk => (q3 k hk).2⟩)
          have hcov' : ((List.range L.length).all fun j => decide (Hh out j ≤ 60) && locB L out j) = (decide (Hh out r ≤ 60) && Gd (locB L out) out r) := by
            rw [Bool.eq_iff_iff]
            simp only [List.all_eq_true, List.mem_range, Bool.and_eq_true, decide_eq_true_eq]
            rw [hcov]
            simp
          rw [hcov', ← hre, getD_lt hrl, Nat.zero_add]
          have hne : (L[r].gKind != 24) = !(L[r].gKind == 24) := rfl
          rw [hne]
          cases L[r].gKind == 24 <;> cases (decide (Hh out r ≤ 60) && Gd (locB L out) out r) <;> rfl
        · rw [if_neg h11]
          have hd1 : decide (op.length = 1) = false := by simpa using h11
          simp only [hd1, Bool.not_false, cond_true, Option.bind_some]
          exact ⟨false, rfl, rfl⟩
end Go.KM.T1
