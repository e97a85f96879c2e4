/- Plain laws: shapes, where they come together, and what holds of every solution. Conditions: none. -/
import Derived.Test.YtojkcmefnmcpiaaGreatDoorMEq
import Derived.Test.YtojkcmefnmcpiaaGreatDoorKmY
import Derived.Lib.Index
import Derived.Lib.ItoaNum
import Derived.Lib.ParseIntB
import Derived.KernelRfl
namespace Go.KM.M1
open Go Go.KM
open Go.KM.Fam (Dn dflt)
open Go.KM.Enc (cells sz mkE glob gany u8)
set_option autoImplicit false
set_option linter.unusedVariables false
set_option linter.unusedSimpArgs false
set_option maxRecDepth 100000
section
instance : DecidableEq TShape := fun a b => decidable_of_iff (a.gState = b.gState ∧ a.gSlots = b.gSlots ∧ a.gStack = b.gStack) (by cases a; cases b; simp)
def none_ : TShape := ⟨0, [], []⟩
def bads : TShape := ⟨2, [], []⟩
inductive Wf (S : Nat) : TShape → Prop
 | no : Wf S none_
 | bad : Wf S bads
 | is (sl st : List Int) (h1 : sl.length = S) (h2 : ∀ x ∈ sl, 0 ≤ x ∧ x ≤ 10) (h3 : st.length ≤ 600) (h4 : ∀ x ∈ st, 1 ≤ x ∧ x ≤ 10) : Wf S ⟨1, sl, st⟩
def meet (x y : Int) : Int := if x = y then x else 0
def jn (a b : TShape) : TShape :=
 if b.gState = 0 ∨ a.gState = 2 then a else if a.gState = 0 ∨ b.gState = 2 then b else if a.gStack ≠ b.gStack then bads else ⟨1, List.zipWith meet a.gSlots b.gSlots, a.gStack⟩
inductive Le : TShape → TShape → Prop
 | no (b) : Le none_ b
 | bad (a) : Le a bads
 | is (sl sl' st : List Int) (h : sl.length = sl'.length) (h' : ∀ k, k < sl.length → sl'.getD k 0 = sl.getD k 0 ∨ sl'.getD k 0 = 0) : Le ⟨1, sl, st⟩ ⟨1, sl', st⟩
variable {S : Nat} {a b c : TShape}
theorem Le.refl (h : Wf S a) : Le a a := by
 cases h with
 | no => exact .no _
 | bad => exact .bad _
 | is => exact .is _ _ _ rfl fun _ _ => .inl rfl
theorem Le.trans (h : Le a b) (h' : Le b c) : Le a c := by
 cases h with
 | no => exact .no _
 | bad => cases h' with
  | bad => exact .bad _
 | is sl sl' st h1 h2 =>
  cases h' with
  | bad => exact .bad _
  | is _ sl2 _ h3 h4 =>
   refine .is _ _ _ (h1.trans h3) fun k hk => ?_
   rcases h4 k (by omega) with h | h
   ·rw [h]; exact h2 k hk
   ·exact .inr h
theorem list_ext0 {l l' : List Int} (h : l.length = l'.length) (h' : ∀ k, k < l.length → l.getD k 0 = l'.getD k 0) : l = l' := by
 apply List.ext_getElem h
 intro k h1 h2
 have := h' k h1
 rwa [List.getD_eq_getElem?_getD, List.getD_eq_getElem?_getD, List.getElem?_eq_getElem h1, List.getElem?_eq_getElem h2] at this
theorem Le.antisymm (h : Le a b) (h' : Le b a) : a = b := by
 cases h with
 | no =>
  cases h' with
  | no => rfl
 | bad =>
  cases h' with
  | bad => rfl
 | is sl sl' st h1 h2 =>
  cases h' with
  | is _ _ _ h3 h4 =>
   congr 1
   refine list_ext0 h1 fun k hk => ?_
   rcases h2 k hk with h | h
   ·exact h.symm
   ·rcases h4 k (by omega) with h5 | h5
    ·exact h5
    ·rw [h, h5]
theorem zip_getD {l l' : List Int} (h : l.length = l'.length) {k : Nat} (hk : k < l.length) : (List.zipWith meet l l').getD k 0 = meet (l.getD k 0) (l'.getD k 0) := by
 have h2 : k < l'.length := by omega
 have h3 : k < (List.zipWith meet l l').length := by simp; omega
 rw [List.getD_eq_getElem?_getD, List.getD_eq_getElem?_getD, List.getD_eq_getElem?_getD, List.getElem?_eq_getElem hk, List.getElem?_eq_getElem h2, List.getElem?_eq_getElem h3]
 simp
theorem Le.jnl (ha : Wf S a) (hb : Wf S b) : Le a (jn a b) := by
 cases ha with
 | no => exact .no _
 | bad => unfold jn; simp [bads]; exact .bad _
 | is sl st h1 h2 h3 h4 =>
  cases hb with
  | no => unfold jn; simp [none_]; exact Le.refl (S := S) (.is sl st h1 h2 h3 h4)
  | bad => unfold jn; simp [bads]; exact .bad _
  | is sl' st' h5 h6 h7 h8 =>
   unfold jn
   simp only [show ¬ ((1 : Int) = 0 ∨ (1 : Int) = 2) by decide, if_false]
   split
   ·exact .bad _
   ·refine .is _ _ _ (by simp; omega) fun k hk => ?_
    rw [zip_getD (by omega) hk]; unfold meet; split
    ·exact .inl rfl
    ·exact .inr rfl
theorem Le.jnr (ha : Wf S a) (hb : Wf S b) : Le b (jn a b) := by
 cases hb with
 | no => exact .no _
 | bad =>
  cases ha with
  | no => unfold jn; simp [none_, bads]; exact .bad _
  | bad => unfold jn; simp [bads]; exact .bad _
  | is sl st h1 h2 h3 h4 => unfold jn; simp [bads]; exact .bad _
 | is sl st h1 h2 h3 h4 =>
  cases ha with
  | no => unfold jn; simp [none_]; exact Le.refl (S := S) (.is sl st h1 h2 h3 h4)
  | bad => unfold jn; simp [bads]; exact .bad _
  | is sl' st' h5 h6 h7 h8 =>
   unfold jn
   simp only [show ¬ ((1 : Int) = 0 ∨ (1 : Int) = 2) by decide, if_false]
   split
   ·exact .bad _
   ·rename_i hh
    simp only [ne_eq, Classical.not_not] at hh
    subst hh
    refine .is _ _ _ (by simp; omega) fun k hk => ?_
    rw [zip_getD (by omega) (by omega)]; unfold meet; split
    ·rename_i h; exact .inl h
    ·exact .inr rfl
theorem Le.jn (h : Le a c) (h' : Le b c) : Le (jn a b) c := by
 cases h with
 | no => unfold Go.KM.M1.jn; simp [none_]; split <;> first | exact .no _ | exact h'
 | bad => exact .bad _
 | is sl sl' st h1 h2 =>
  cases h' with
  | no => unfold Go.KM.M1.jn; simp [none_]; exact .is _ _ _ h1 h2
  | is sl2 _ _ h3 h4 =>
   unfold Go.KM.M1.jn
   simp only [show ¬ ((1 : Int) = 0 ∨ (1 : Int) = 2) by decide, if_false, ne_eq, not_true_eq_false]
   refine .is _ _ _ (by simp; omega) fun k hk => ?_
   have hk : k < sl.length := by simp at hk; omega
   rw [zip_getD (by omega) hk]
   unfold meet
   split
   ·exact h2 k hk
   ·rename_i hne
    rcases h2 k hk with h | h
    ·rcases h4 k (by omega) with h5 | h5
     ·exact absurd (h.symm.trans h5) hne
     ·exact .inr h5
    ·exact .inr h
theorem Wf.jn (ha : Wf S a) (hb : Wf S b) : Wf S (jn a b) := by
 unfold Go.KM.M1.jn
 split
 ·exact ha
 ·split
  ·exact hb
  ·split
   ·exact .bad
   ·cases ha with
    | no => simp_all [none_]
    | bad => simp_all [bads]
    | is sl st h1 h2 h3 h4 =>
     cases hb with
     | no => simp_all [none_]
     | bad => simp_all [bads]
     | is sl' st' h5 h6 h7 h8 =>
      refine .is _ _ (by simp; omega) (fun x hx => ?_) h3 h4
      obtain ⟨k, hk, rfl⟩ := List.mem_iff_getElem.1 hx
      simp only [List.length_zipWith] at hk
      simp only [List.getElem_zipWith, meet]
      split
      ·exact h2 _ (List.getElem_mem _)
      ·omega
def rank (S : Nat) (s : TShape) : Nat := if s.gState = 0 then 0 else if s.gState = 2 then S + 2 else 1 + s.gSlots.countP (· == 0)
theorem rank_le (h : Wf S a) : rank S a ≤ S + 2 := by
 cases h with
 | no => simp [rank, none_]
 | bad => simp [rank, bads]
 | is sl st h1 =>
  have : sl.countP (· == 0) ≤ sl.length := List.countP_le_length
  simp [rank]; omega
theorem count_lt : ∀ (l l' : List Int), l.length = l'.length → (∀ k, k < l.length → l'.getD k 0 = l.getD k 0 ∨ l'.getD k 0 = 0) → l.countP (· == 0) ≤ l'.countP (· == 0) ∧ (l ≠ l' → l.countP (· == 0) < l'.countP (· == 0)) := by
 intro l
 induction l with
 | nil => intro l' h _; cases l' with
  | nil => simp
  | cons => simp at h
 | cons x l ih =>
  intro l' h h'
  cases l' with
  | nil => simp at h
  | cons y l' =>
   obtain ⟨h1, h2⟩ := ih l' (by simpa using h) fun k hk => by have := h' (k + 1) (by simpa using hk); simpa using this
   have h3 := h' 0 (by simp)
   simp only [List.getD_cons_zero] at h3
   simp only [List.countP_cons]
   rcases h3 with rfl | rfl
   ·refine ⟨by omega, fun hne => ?_⟩
    have := h2 fun e => hne (by rw [e])
    omega
   ·by_cases hx : x = 0
    ·subst hx
     refine ⟨by omega, fun hne => ?_⟩
     have := h2 fun e => hne (by rw [e])
     omega
    ·have hx' : (x == 0) = false := by simpa using hx
     simp only [hx']
     exact ⟨by simp; omega, fun _ => by simp; omega⟩
theorem rank_mono (ha : Wf S a) (hb : Wf S b) (h : Le a b) : rank S a ≤ rank S b ∧ (a ≠ b → rank S a < rank S b) := by
 cases h with
 | no =>
  refine ⟨by simp [rank, none_], fun hne => ?_⟩
  cases hb with
  | no => exact absurd rfl hne
  | bad => simp [rank, none_, bads]
  | is => simp [rank, none_]; omega
 | bad =>
  refine ⟨rank_le ha, fun hne => ?_⟩
  cases ha with
  | no => simp [rank, none_, bads]
  | bad => exact absurd rfl hne
  | is sl st h1 =>
   have : sl.countP (· == 0) ≤ sl.length := List.countP_le_length
   simp [rank, bads]; omega
 | is sl sl' st h1 h2 =>
  obtain ⟨h3, h4⟩ := count_lt sl sl' h1 h2
  refine ⟨by simp [rank]; omega, fun hne => ?_⟩
  have := h4 fun e => hne (by rw [e])
  simp [rank]; omega
theorem Le.state (h : Le a b) (ha : a.gState ≠ 0) : b.gState ≠ 0 := by
 cases h with
 | no => simp [none_] at ha
 | bad => simp [bads]
 | is => simp
def Wfs (n S : Nat) (X : List TShape) : Prop := X.length = n ∧ ∀ i, i < n → Wf S (X.getD i none_)
def Les (n : Nat) (X Y : List TShape) : Prop := ∀ i, i < n → Le (X.getD i none_) (Y.getD i none_)
def ranks (S : Nat) (X : List TShape) : Nat := (X.map (rank S)).sum
theorem sum_le : ∀ (l : List Nat) (m : Nat), (∀ x ∈ l, x ≤ m) → l.sum ≤ l.length * m := by
 intro l
 induction l with
 | nil => intro m _; simp
 | cons x l ih =>
  intro m h
  have h1 := h x (by simp)
  have h2 := ih m fun y hy => h y (by simp [hy])
  simp only [List.sum_cons, List.length_cons, Nat.succ_mul]
  omega
theorem getD_none {X : List TShape} {i : Nat} (h : i < X.length) : X.getD i none_ = X[i] := by rw [List.getD_eq_getElem?_getD, List.getElem?_eq_getElem h]; rfl
theorem ranks_le {n : Nat} {X : List TShape} (h : Wfs n S X) : ranks S X ≤ n * (S + 2) := by
 have h1 := sum_le (X.map (rank S)) (S + 2) fun x hx => by
  obtain ⟨y, hy, rfl⟩ := List.mem_map.1 hx
  obtain ⟨k, hk, rfl⟩ := List.mem_iff_getElem.1 hy
  have := h.2 k (by rw [← h.1]; exact hk)
  rw [getD_none hk] at this
  exact rank_le this
 rw [List.length_map, h.1] at h1
 exact h1
theorem getD_set_eq {X : List TShape} {i : Nat} (h : i < X.length) (x : TShape) : (X.set i x).getD i none_ = x := by
 rw [List.getD_eq_getElem?_getD, List.getElem?_set_self h]; rfl
theorem getD_set_ne' {X : List TShape} {i j : Nat} (h : i ≠ j) (x : TShape) : (X.set i x).getD j none_ = X.getD j none_ := by
 rw [List.getD_eq_getElem?_getD, List.getD_eq_getElem?_getD, List.getElem?_set_ne h]
theorem sum_set : ∀ (l : List Nat) (i x : Nat) (h : i < l.length), (l.set i x).sum + l[i] = l.sum + x := by
 intro l
 induction l with
 | nil => intro i x h; simp at h
 | cons y l ih =>
  intro i x h
  cases i with
  | zero => simp; omega
  | succ i =>
   have := ih i x (by simpa using h)
   simp only [List.set_cons_succ, List.sum_cons, List.getElem_cons_succ]
   omega
theorem ranks_set {X : List TShape} {i : Nat} (h : i < X.length) (x : TShape) : ranks S (X.set i x) + rank S (X.getD i none_) = ranks S X + rank S x := by
 unfold ranks
 rw [List.map_set, getD_none h]
 have := sum_set (X.map (rank S)) i (rank S x) (by simpa using h)
 simpa using this
theorem Wfs.set {n : Nat} {X : List TShape} (h : Wfs n S X) {i : Nat} {x : TShape} (hx : Wf S x) : Wfs n S (X.set i x) := by
 refine ⟨by simpa using h.1, fun j hj => ?_⟩
 by_cases hij : i = j
 ·subst hij
  rw [getD_set_eq (by rw [h.1]; exact hj)]; exact hx
 ·rw [getD_set_ne' hij]; exact h.2 j hj
theorem Les.antisymm {n : Nat} {X Y : List TShape} (hX : X.length = n) (hY : Y.length = n) (h : Les n X Y) (h' : Les n Y X) : X = Y := by
 apply List.ext_getElem (hX.trans hY.symm)
 intro k h1 h2
 have := (h k (by omega)).antisymm (h' k (by omega))
 rwa [getD_none h1, getD_none h2] at this
structure Sy where
 n : Nat
 S : Nat
 first : TShape
 bh : Nat → TShape → TShape
 go : Nat → List Nat
structure SyOk (Q : Sy) : Prop where
 pos : 0 < Q.n
 first : Wf Q.S Q.first
 first0 : Q.first.gState ≠ 0
 wf : ∀ i s, i < Q.n → Wf Q.S s → Wf Q.S (Q.bh i s)
 mono : ∀ i s s', i < Q.n → Wf Q.S s → Wf Q.S s' → s.gState ≠ 0 → Le s s' → Le (Q.bh i s) (Q.bh i s')
 st : ∀ i s, i < Q.n → Wf Q.S s → (Q.bh i s).gState ≠ 0
 go2 : ∀ i, (Q.go i).length ≤ 2
def At (Q : Sy) (X : List TShape) (i : Nat) : Prop := (X.getD i none_).gState ≠ 0 → ∀ j ∈ Q.go i, j < Q.n → Le (Q.bh i (X.getD i none_)) (X.getD j none_)
structure Sol (Q : Sy) (X : List TShape) : Prop where
 wf : Wfs Q.n Q.S X
 first : Le Q.first (X.getD 0 none_)
 at_ : ∀ i, i < Q.n → At Q X i
structure Inv (Q : Sy) (X : List TShape) : Prop where
 wf : Wfs Q.n Q.S X
 first : Le Q.first (X.getD 0 none_)
 below : ∀ Y, Sol Q Y → Les Q.n X Y
theorem Sol.unique {Q : Sy} {X Y : List TShape} (hX : Sol Q X) (hX' : Inv Q X) (hY : Sol Q Y) (hY' : Inv Q Y) : X = Y :=
 Les.antisymm hX.wf.1 hY.wf.1 (hX'.below Y hY) (hY'.below X hX)
theorem Inv.step {Q : Sy} (hQ : SyOk Q) {X : List TShape} (h : Inv Q X) {i j : Nat} {s : TShape} (hi : i < Q.n) (hj : j < Q.n) (hji : j ∈ Q.go i) (hs : Wf Q.S s) (hs0 : s.gState ≠ 0) (hle : ∀ Y, Sol Q Y → Le s (Y.getD i none_)) :
  Inv Q (X.set j (jn (X.getD j none_) (Q.bh i s))) ∧ Le (X.getD j none_) (jn (X.getD j none_) (Q.bh i s)) ∧ Le (Q.bh i s) (jn (X.getD j none_) (Q.bh i s)) ∧
  (jn (X.getD j none_) (Q.bh i s) ≠ X.getD j none_ → ranks Q.S X < ranks Q.S (X.set j (jn (X.getD j none_) (Q.bh i s)))) := by
 have w1 := h.wf.2 j hj
 have w2 := hQ.wf i s hi hs
 have l1 : Le (X.getD j none_) (jn (X.getD j none_) (Q.bh i s)) := Le.jnl w1 w2
 have hjl : j < X.length := by rw [h.wf.1]; exact hj
 refine ⟨⟨h.wf.set (w1.jn w2), ?_, fun Y hY k hk => ?_⟩, l1, Le.jnr w1 w2, fun hne => ?_⟩
 ·by_cases h0 : j = 0
  ·subst h0
   rw [getD_set_eq hjl]
   exact h.first.trans l1
  ·rw [getD_set_ne' h0]; exact h.first
 ·by_cases hjk : j = k
  ·subst hjk
   rw [getD_set_eq hjl]
   refine Le.jn (h.below Y hY j hj) ?_
   have h1 := hle Y hY
   exact (hQ.mono i s _ hi hs (hY.wf.2 i hi) hs0 h1).trans (hY.at_ i hi (h1.state hs0) j hji hj)
  ·rw [getD_set_ne' hjk]; exact h.below Y hY k hk
 ·have h1 := (rank_mono w1 (w1.jn w2) l1).2 (Ne.symm hne)
  have h2 := ranks_set (S := Q.S) hjl (jn (X.getD j none_) (Q.bh i s))
  omega
end
section
def ibits (t : Int) : Int := if t = 3 ∨ t = 7 then 8 else if t = 4 ∨ t = 8 then 16 else if t = 5 ∨ t = 9 then 32 else 64
theorem R_bits (t : Int) : R.l1Bits t = some (ibits t) := by
 rw [R.l1Bits_eq]
 unfold ibits
 by_cases h3 : t = 3
 ·simp [h3, R.l1Bits.l53_eq]
 ·by_cases h7 : t = 7
  ·simp [h7, R.l1Bits.l53_eq]
  ·by_cases h4 : t = 4
   ·simp [h4, R.l1Bits.l53_eq, R.l1Bits.l215_eq]
   ·by_cases h8 : t = 8
    ·simp [h8, R.l1Bits.l53_eq, R.l1Bits.l215_eq]
    ·by_cases h5 : t = 5
     ·simp [h5, R.l1Bits.l53_eq, R.l1Bits.l215_eq]
     ·by_cases h9 : t = 9 <;> simp [bif_if, h3, h7, h4, h8, h5, h9, R.l1Bits.l53_eq, R.l1Bits.l215_eq]
theorem I_bits (t : Int) : I.bits t = some (ibits t) := by
 rw [I.bits_eq]
 unfold ibits
 by_cases h3 : t = 3
 ·simp [h3, I.bits.l53_eq]
 ·by_cases h7 : t = 7
  ·simp [h7, I.bits.l53_eq]
  ·by_cases h4 : t = 4
   ·simp [h4, I.bits.l53_eq, I.bits.l215_eq]
   ·by_cases h8 : t = 8
    ·simp [h8, I.bits.l53_eq, I.bits.l215_eq]
    ·by_cases h5 : t = 5
     ·simp [h5, I.bits.l53_eq, I.bits.l215_eq]
     ·by_cases h9 : t = 9 <;> simp [bif_if, h3, h7, h4, h8, h5, h9, I.bits.l53_eq, I.bits.l215_eq]
theorem ibits_cases (t : Int) : ((t = 3 ∨ t = 7) ∧ ibits t = 8) ∨ ((t = 4 ∨ t = 8) ∧ ibits t = 16) ∨ ((t = 5 ∨ t = 9) ∧ ibits t = 32) ∨ ((t ≠ 3 ∧ t ≠ 7 ∧ t ≠ 4 ∧ t ≠ 8 ∧ t ≠ 5 ∧ t ≠ 9) ∧ ibits t = 64) := by
 unfold ibits
 repeat' split
 all_goals omega
theorem R_signed (t : Int) : R.l1Signed t = some (decide (7 ≤ t) && decide (t ≤ 10)) := by
 rw [R.l1Signed_eq]; by_cases h : 7 ≤ t <;> simp [h]
theorem I_signed (t : Int) : I.signed t = some (decide (7 ≤ t)) := by rw [I.signed_eq]
theorem R_integer (t : Int) : R.l1Integer t = some (decide (3 ≤ t) && decide (t ≤ 10)) := by
 rw [R.l1Integer_eq]; by_cases h : 3 ≤ t <;> simp [h]
theorem I_integer (t : Int) : I.integer t = some (decide (3 ≤ t) && decide (t ≤ 10)) := by
 rw [I.integer_eq]; by_cases h : 3 ≤ t <;> simp [h]
end
section
def into (t x : Int) : Int :=
 if t = 3 then x % 256 else if t = 4 then x % 65536 else if t = 5 then x % 4294967296
 else if t = 7 then (x + 128) % 256 - 128 else if t = 8 then (x + 32768) % 65536 - 32768 else if t = 9 then (x + 2147483648) % 4294967296 - 2147483648 else IntKind.i64.wrap x
theorem R_into (t x : Int) (h : U64 x) : R.l4Into t x = some (into t x) := by
 obtain ⟨h0, h1⟩ := h
 have e8 : Int.tmod x 256 = x % 256 := Int.tmod_eq_emod_of_nonneg h0
 have e16 : Int.tmod x 65536 = x % 65536 := Int.tmod_eq_emod_of_nonneg h0
 have e32 : Int.tmod x 4294967296 = x % 4294967296 := Int.tmod_eq_emod_of_nonneg h0
 have w8 : IntKind.u64.wrap 8 = 8 := by decide
 have w16 : IntKind.u64.wrap 16 = 16 := by decide
 have w32 : IntKind.u64.wrap 32 = 32 := by decide
 have wh8 : IntKind.u64.wrap (Int.tdiv 256 2) = 128 := by decide
 have wh16 : IntKind.u64.wrap (Int.tdiv 65536 2) = 32768 := by decide
 have wh32 : IntKind.u64.wrap (Int.tdiv 4294967296 2) = 2147483648 := by decide
 rw [R.l4Into_eq, R_bits]
 simp only [Option.bind_some, R_signed]
 rcases ibits_cases t with ⟨ht, hb⟩ | ⟨ht, hb⟩ | ⟨ht, hb⟩ | ⟨ht, hb⟩
 ·rw [hb]
  rcases ht with rfl | rfl
  ·simp [into, w8, sh8, e8]; rw [wi] <;> omega
  ·simp [into, w8, sh8, e8, wh8]
   by_cases hh : 128 ≤ x % 256
   ·simp [hh, wu_eq, IntKind.wrap_i64]; omega
   ·simp [bif_if, hh, wu_eq, IntKind.wrap_i64]; omega
 ·rw [hb]
  rcases ht with rfl | rfl
  ·simp [into, w16, sh16, e16]; rw [wi] <;> omega
  ·simp [into, w16, sh16, e16, wh16]
   by_cases hh : 32768 ≤ x % 65536
   ·simp [hh, wu_eq, IntKind.wrap_i64]; omega
   ·simp [bif_if, hh, wu_eq, IntKind.wrap_i64]; omega
 ·rw [hb]
  rcases ht with rfl | rfl
  ·simp [into, w32, sh32, e32]; rw [wi] <;> omega
  ·simp [into, w32, sh32, e32, wh32]
   by_cases hh : 2147483648 ≤ x % 4294967296
   ·simp [hh, wu_eq, IntKind.wrap_i64]; omega
   ·simp [bif_if, hh, wu_eq, IntKind.wrap_i64]; omega
 ·rw [hb]
  obtain ⟨a, b, c, d, e, f⟩ := ht
  simp [into, a, b, c, d, e, f]
theorem I_into (t x : Int) (h : U64 x) : I.into x t = some (into t x) := by
 have e8 := mask8 h
 have e16 := mask16 h
 have e32 := mask32 h
 obtain ⟨h0, h1⟩ := h
 have j8 := join8 (y := x % 256) (by omega) (by omega)
 have j16 := join16 (y := x % 65536) (by omega) (by omega)
 have j32 := join32 (y := x % 4294967296) (by omega) (by omega)
 have w7 : IntKind.u64.wrap (8 - 1) = 7 := by decide
 have w15 : IntKind.u64.wrap (16 - 1) = 15 := by decide
 have w31 : IntKind.u64.wrap (32 - 1) = 31 := by decide
 have wm8 : IntKind.u64.wrap (256 - 1) = 255 := by decide
 have wm16 : IntKind.u64.wrap (65536 - 1) = 65535 := by decide
 have wm32 : IntKind.u64.wrap (4294967296 - 1) = 4294967295 := by decide
 rw [I.into_eq, I_bits]
 simp only [Option.bind_some, I_signed]
 rcases ibits_cases t with ⟨ht, hb⟩ | ⟨ht, hb⟩ | ⟨ht, hb⟩ | ⟨ht, hb⟩
 ·rw [hb]
  simp only [sh8, wm8, e8, w7, sr7, shf8, j8]
  rcases ht with rfl | rfl
  ·simp [into]; rw [wi] <;> omega
  ·simp [into]
   by_cases hh : x % 256 / 128 = 1
   ·simp [bif_if, hh, wu_eq, IntKind.wrap_i64]; omega
   ·simp [bif_if, hh, wu_eq, IntKind.wrap_i64]; omega
 ·rw [hb]
  simp only [sh16, wm16, e16, w15, sr15, shf16, j16]
  rcases ht with rfl | rfl
  ·simp [into]; rw [wi] <;> omega
  ·simp [into]
   by_cases hh : x % 65536 / 32768 = 1
   ·simp [bif_if, hh, wu_eq, IntKind.wrap_i64]; omega
   ·simp [bif_if, hh, wu_eq, IntKind.wrap_i64]; omega
 ·rw [hb]
  simp only [sh32, wm32, e32, w31, sr31, shf32, j32]
  rcases ht with rfl | rfl
  ·simp [into]; rw [wi] <;> omega
  ·simp [into]
   by_cases hh : x % 4294967296 / 2147483648 = 1
   ·simp [bif_if, hh, wu_eq, IntKind.wrap_i64]; omega
   ·simp [bif_if, hh, wu_eq, IntKind.wrap_i64]; omega
 ·rw [hb]
  obtain ⟨a, b, c, d, e, f⟩ := ht
  simp [into, a, b, c, d, e, f]
def valid (v : TValue) : Bool :=
 if v.gType = 1 then (decide (v.gN = 0) || decide (v.gN = 1)) && decide (v.gText = ⟨#[]⟩)
 else if v.gType = 2 then decide (v.gN = 0) && decide ((v.gText.size : Int) ≤ 3000)
 else decide (3 ≤ v.gType) && decide (v.gType ≤ 10) && decide (v.gText = ⟨#[]⟩) && decide (v.gN = into v.gType (IntKind.u64.wrap v.gN))
theorem R_valid (v : TValue) : R.ValidValue v = some (valid v) := by
 obtain ⟨t, n, s⟩ := v
 rw [R.ValidValue_eq]
 unfold valid
 simp only [bEq_dec, R_integer, Option.bind_some, R_into _ _ (u64_wrap n)]
 by_cases h1 : t = 1
 ·by_cases a : n = 0 <;> by_cases b : n = 1 <;> simp [bif_if, h1, a, b]
 ·by_cases h2 : t = 2
  ·by_cases a : n = 0 <;> simp [bif_if, h2, a]
  ·by_cases a : 3 ≤ t <;> by_cases b : t ≤ 10 <;> by_cases c : s = ⟨#[]⟩ <;> simp [bif_if, h1, h2, a, b, c]
   rw [Bool.eq_iff_iff]; simp
theorem I_valid (v : TValue) : I.ValidValue v = some (valid v) := by
 obtain ⟨t, n, s⟩ := v
 rw [I.ValidValue_eq]
 unfold valid
 simp only [bEq_dec, I_integer, Option.bind_some, I_into _ _ (u64_wrap n)]
 by_cases h1 : t = 1
 ·by_cases a : n = 0 <;> by_cases b : n = 1 <;> simp [bif_if, h1, a, b]
 ·by_cases h2 : t = 2
  ·by_cases a : n = 0 <;> simp [bif_if, h2, a]
  ·by_cases a : 3 ≤ t <;> by_cases b : t ≤ 10 <;> by_cases c : s = ⟨#[]⟩ <;> simp [bif_if, h1, h2, a, b, c]
   rw [Bool.eq_iff_iff]; simp only [beq_iff_eq, decide_eq_true_eq]; exact eq_comm
end
end Go.KM.M1
namespace Go.KM
open Go Go.Lib
set_option autoImplicit false
set_option linter.unusedVariables false
set_option linter.unusedSimpArgs false
section
end
end Go.KM
namespace Go.KM.M1
open Go Go.KM
open Go.KM.Fam (Dn dflt)
open Go.KM.Enc (cells sz mkE glob gany u8)
set_option autoImplicit false
set_option linter.unusedVariables false
set_option linter.unusedSimpArgs false
set_option maxRecDepth 100000
section
def findT : List ByteArray → Int → ByteArray → Int
 | [], _, _ => 0
 | x :: l, k, w => if x = w then k else findT l (k + 1) w
def tws : List ByteArray := [⟨#[98, 111, 111, 108]⟩, ⟨#[116, 101, 120, 116]⟩, ⟨#[117, 56]⟩, ⟨#[117, 49, 54]⟩, ⟨#[117, 51, 50]⟩, ⟨#[117, 54, 52]⟩, ⟨#[105, 56]⟩, ⟨#[105, 49, 54]⟩, ⟨#[105, 51, 50]⟩, ⟨#[105, 54, 52]⟩]
theorem lt_dec {k n : Nat} (h : k < n) : decide ((k : Int) < (n : Int)) = true := by simp; omega
theorem ge_dec {k n : Nat} (h : n ≤ k) : decide ((k : Int) < (n : Int)) = false := by simp; omega
theorem getD_lt {α : Type} {l : List α} {k : Nat} (h : k < l.length) (z : α) : l.getD k z = l[k] := by
 rw [List.getD_eq_getElem?_getD, List.getElem?_eq_getElem h]; rfl
theorem drop_get {α : Type} {l : List α} {k : Nat} (h : k < l.length) : l.drop k = l[k] :: l.drop (k + 1) := List.drop_eq_getElem_cons h
theorem I_type_loop (s : ByteArray) (L : List ByteArray) (hL : L.length ≤ 1000) : ∀ (m k : Nat), k + m = L.length → 0 < k → I.typeOfWord.l52 s L L.length k = some (findT (L.drop k) k s) := by
 intro m
 induction m with
 | zero =>
  intro k hk h0
  rw [I.typeOfWord.l52_eq, bif_f (ge_dec (by omega)), List.drop_eq_nil_of_le (by omega)]
  rfl
 | succ m ih =>
  intro k hk h0
  have hkl : k < L.length := by omega
  rw [I.typeOfWord.l52_eq, bif_t (lt_dec hkl), bif_t (inB_nat hkl), bif_t (b := decide ((k : Int) > 0)) (by simp; omega), Int.toNat_natCast, getD_lt hkl, wi_succ (by omega), ih (k + 1) (by omega) (by omega), drop_get hkl, bEq_dec, bif_d]
  simp only [findT]
  split <;> rfl
theorem I_type (s : ByteArray) : I.typeOfWord s = some (findT tws 1 s) := by
 rw [I.typeOfWord_eq]
 have h := I_type_loop s (⟨#[]⟩ :: tws) (by decide) 10 1 (by decide) (by decide)
 have h : I.typeOfWord.l52 s (⟨#[]⟩ :: tws) 11 1 = some (findT tws 1 s) := h
 show I.typeOfWord.l52 s (⟨#[]⟩ :: tws) 11 0 = _
 rw [I.typeOfWord.l52_eq, bif_t (b := decide ((0 : Int) < 11)) rfl, bif_t (b := inB 0 (⟨#[]⟩ :: tws : List ByteArray).length) rfl, bif_f (b := decide ((0 : Int) > 0)) rfl]
 exact h
theorem R_type_step (w x : ByteArray) (t : Int) (h1 : t ≤ 10) (h0 : 0 ≤ t) (hx : R.l1TypeWord t = some x) : R.l1Type.l52 w t = if x = w then some t else R.l1Type.l52 w (t + 1) := by
 rw [R.l1Type.l52_eq, bif_t (b := decide (t ≤ 10)) (by simpa using h1), hx, Option.bind_some, bEq_dec, bif_d, wi (by omega) (by omega)]
theorem R_type_loop (w : ByteArray) : ∀ (l : List ByteArray) (t : Int), 0 ≤ t → t + l.length = 11 → (∀ (j : Nat) (x : ByteArray), l[j]? = some x → R.l1TypeWord (t + j) = some x) → R.l1Type.l52 w t = some (findT l t w) := by
 intro l
 induction l with
 | nil =>
  intro t h0 ht hw
  simp only [List.length_nil] at ht
  rw [R.l1Type.l52_eq, bif_f (b := decide (t ≤ 10)) (by simp; omega)]
  rfl
 | cons x l ih =>
  intro t h0 ht hw
  simp only [List.length_cons] at ht
  have hx := hw 0 x rfl
  rw [show t + ((0 : Nat) : Int) = t by omega] at hx
  rw [R_type_step w x t (by omega) h0 hx, ih (t + 1) (by omega) (by omega) (fun j y hj => by have := hw (j + 1) y (by simpa using hj); rw [show t + 1 + (j : Int) = t + ((j + 1 : Nat) : Int) by omega]; exact this)]
  simp only [findT]
  split <;> rfl
theorem R_type (w : ByteArray) : R.l1Type w = some (findT tws 1 w) := by
 rw [R.l1Type_eq]
 refine R_type_loop w tws 1 (by omega) (by decide) fun j x hj => ?_
 have hj10 : j < 10 := (List.getElem?_eq_some_iff.1 hj).1
 have : j = 0 ∨ j = 1 ∨ j = 2 ∨ j = 3 ∨ j = 4 ∨ j = 5 ∨ j = 6 ∨ j = 7 ∨ j = 8 ∨ j = 9 := by omega
 rw [R.l1TypeWord_eq]
 rcases this with rfl | rfl | rfl | rfl | rfl | rfl | rfl | rfl | rfl | rfl <;> exact hj
theorem findT_nonneg : ∀ (l : List ByteArray) (k : Int) (w : ByteArray), 0 < k → 0 ≤ findT l k w := by
 intro l
 induction l with
 | nil => intro k w h; exact Int.le_refl 0
 | cons x l ih =>
  intro k w h
  simp only [findT]
  split
  ·omega
  ·exact ih _ _ (by omega)
def bws : List ByteArray := [⟨#[114, 101, 97, 100]⟩, ⟨#[104, 97, 115]⟩, ⟨#[108, 105, 115, 116]⟩, ⟨#[116, 111, 111, 108]⟩, ⟨#[97, 114, 103]⟩, ⟨#[108, 101, 110]⟩, ⟨#[97, 116]⟩, ⟨#[99, 117, 116]⟩, ⟨#[102, 105, 110, 100]⟩, ⟨#[99, 104, 114]⟩, ⟨#[100, 101, 99]⟩, ⟨#[110, 117, 109]⟩]
def pws : List ByteArray := [⟨#[102, 110]⟩, ⟨#[108, 101, 116]⟩, ⟨#[105, 102]⟩, ⟨#[101, 108, 115, 101]⟩, ⟨#[119, 104, 105, 108, 101]⟩, ⟨#[98, 114, 101, 97, 107]⟩, ⟨#[99, 111, 110, 116, 105, 110, 117, 101]⟩, ⟨#[114, 101, 116, 117, 114, 110]⟩, ⟨#[102, 97, 105, 108]⟩, ⟨#[119, 114, 105, 116, 101]⟩, ⟨#[115, 97, 121]⟩, ⟨#[116, 114, 117, 101]⟩, ⟨#[102, 97, 108, 115, 101]⟩]
def has (l : List ByteArray) (w : ByteArray) : Bool := l.any fun x => decide (x = w)
def taken (w : ByteArray) : Bool := decide (findT tws 1 w ≠ 0) || (has bws w || has pws w)
theorem R_plain_loop (w : ByteArray) (L : List ByteArray) (hL : L.length ≤ 1000) : ∀ (m k : Nat), k + m = L.length → R.l1Taken.l500 w L k = some (has (L.drop k) w) := by
 intro m
 induction m with
 | zero =>
  intro k hk
  rw [R.l1Taken.l500_eq, bif_f (ge_dec (by omega)), List.drop_eq_nil_of_le (by omega)]
  rfl
 | succ m ih =>
  intro k hk
  have hkl : k < L.length := by omega
  rw [R.l1Taken.l500_eq, bif_t (lt_dec hkl), bif_t (inB_nat hkl), Int.toNat_natCast, getD_lt hkl, wi_succ (by omega), ih (k + 1) (by omega), drop_get hkl, bEq_dec, bif_d]
  simp only [has, List.any_cons]
  split
  ·rename_i h; simp [h]
  ·rename_i h; simp [h]
theorem R_built_loop (w : ByteArray) (r : Bool) (hr : R.l1Taken.l116 w 13 = some r) : ∀ (l : List ByteArray) (t : Int), 0 ≤ t → t + l.length = 13 → (∀ (j : Nat) (x : ByteArray), l[j]? = some x → ∃ n, R.l1BuiltWord (t + j) = some (x, n)) → R.l1Taken.l116 w t = some (has l w || r) := by
 intro l
 induction l with
 | nil =>
  intro t h0 ht hw
  simp only [List.length_nil] at ht
  rw [show t = 13 by omega, hr]
  simp [has]
 | cons x l ih =>
  intro t h0 ht hw
  simp only [List.length_cons] at ht
  obtain ⟨n, hx⟩ := hw 0 x rfl
  rw [show t + ((0 : Nat) : Int) = t by omega] at hx
  rw [R.l1Taken.l116_eq, bif_t (b := decide (t ≤ 12)) (by simp; omega), hx, Option.bind_some, bEq_dec, bif_d, wi (by omega) (by omega), ih (t + 1) (by omega) (by omega) (fun j y hj => by have := hw (j + 1) y (by simpa using hj); rw [show t + 1 + (j : Int) = t + ((j + 1 : Nat) : Int) by omega]; exact this)]
  simp only [has, List.any_cons]
  split
  ·rename_i h
   have h : x = w := h
   simp [h]
  ·rename_i h
   have h : ¬ x = w := h
   simp [h]
theorem R_taken (w : ByteArray) : R.l1Taken w = some (taken w) := by
 rw [R.l1Taken_eq, R_type, Option.bind_some]
 have h13 : R.l1Taken.l116 w 13 = some (has pws w) := by
  rw [R.l1Taken.l116_eq, bif_f (b := decide ((13 : Int) ≤ 12)) rfl, R.l1Plain_eq, Option.bind_some]
  exact R_plain_loop w pws (by decide) 13 0 (by decide)
 have h1 := R_built_loop w _ h13 bws 1 (by omega) (by decide) (fun j x hj => by
  have hj12 : j < 12 := (List.getElem?_eq_some_iff.1 hj).1
  have : j = 0 ∨ j = 1 ∨ j = 2 ∨ j = 3 ∨ j = 4 ∨ j = 5 ∨ j = 6 ∨ j = 7 ∨ j = 8 ∨ j = 9 ∨ j = 10 ∨ j = 11 := by omega
  rcases this with rfl | rfl | rfl | rfl | rfl | rfl | rfl | rfl | rfl | rfl | rfl | rfl <;> (cases hj; rw [R.l1BuiltWord_eq]; exact ⟨_, rfl⟩))
 rw [h1]
 unfold taken
 by_cases h : findT tws 1 w = 0
 ·simp [h]
 ·have : (findT tws 1 w != 0) = true := by simpa using h
  simp [h, this]
theorem I_taken_loop (s : ByteArray) (L : List ByteArray) (hL : L.length ≤ 1000) : ∀ (m k : Nat), k + m = L.length → I.isTaken.l52 s L L.length k = some (has (L.drop k) s || decide (findT tws 1 s > 0)) := by
 intro m
 induction m with
 | zero =>
  intro k hk
  rw [I.isTaken.l52_eq, bif_f (ge_dec (by omega)), List.drop_eq_nil_of_le (by omega), I_type, Option.bind_some]
  rfl
 | succ m ih =>
  intro k hk
  have hkl : k < L.length := by omega
  rw [I.isTaken.l52_eq, bif_t (lt_dec hkl), bif_t (inB_nat hkl), Int.toNat_natCast, getD_lt hkl, wi_succ (by omega), ih (k + 1) (by omega), drop_get hkl, bEq_dec, bif_d]
  simp only [has, List.any_cons]
  split
  ·rename_i h; simp [h]
  ·rename_i h; simp [h]
theorem has_app (a b : List ByteArray) (w : ByteArray) : has (a ++ b) w = (has a w || has b w) := by simp [has, List.any_append]
theorem I_taken (s : ByteArray) : I.isTaken s = some (taken s) := by
 rw [I.isTaken_eq]
 have e : fieldsOf (⟨([102, 110, 32, 108, 101, 116, 32, 105, 102, 32, 101, 108, 115, 101, 32, 119, 104, 105, 108, 101, 32, 98, 114, 101, 97, 107, 32, 99, 111, 110, 116, 105, 110, 117, 101, 32, 114, 101, 116, 117, 114, 110, 32, 102, 97, 105, 108, 32, 119, 114, 105, 116, 101, 32, 115, 97, 121, 32, 116].append [114, 117, 101, 32, 102, 97, 108, 115, 101, 32, 114, 101, 97, 100, 32, 104, 97, 115, 32, 108, 105, 115, 116, 32, 116, 111, 111, 108, 32, 97, 114, 103, 32, 108, 101, 110, 32, 97, 116, 32, 99, 117, 116, 32, 102, 105, 110, 100, 32, 99, 104, 114, 32, 100, 101, 99, 32, 110, 117, 109]).toArray⟩ : ByteArray) = pws ++ bws := by kernel_rfl
 rw [e]
 have h := I_taken_loop s (pws ++ bws) (by decide) 25 0 (by decide)
 have h : I.isTaken.l52 s (pws ++ bws) ((pws ++ bws).length : Int) 0 = _ := h
 rw [h, List.drop_zero, has_app]
 unfold taken
 have hn := findT_nonneg tws 1 s (by omega)
 by_cases h0 : findT tws 1 s = 0
 ·simp only [h0]
  cases has bws s <;> cases has pws s <;> rfl
 ·have h1 : findT tws 1 s > 0 := by omega
  simp [h0, h1]
end
section
def okT (p : Int × Int) : Bool := decide (p.1 = p.2) || (decide (p.2 = 0) && (decide (3 ≤ p.1) && decide (p.1 ≤ 10)))
theorem R_types_loop (ks want : List Int) (g : Int) (hl : ks.length = want.length) (hb : ks.length ≤ 1048576) : ∀ (m k : Nat), k + m = ks.length →
  R.l3Built.l244 ks want g k = some (if ((ks.zip want).drop k).all okT = true then g else 0) := by
 intro m
 induction m with
 | zero =>
  intro k hk
  rw [R.l3Built.l244_eq, bif_f (ge_dec (by omega)), List.drop_eq_nil_of_le (by simp; omega)]
  rfl
 | succ m ih =>
  intro k hk
  have hk1 : k < ks.length := by omega
  have hk2 : k < want.length := by omega
  have hk3 : k < (ks.zip want).length := by simp; omega
  rw [R.l3Built.l244_eq, bif_t (lt_dec hk2), bif_t (inB_nat hk1), bif_t (inB_nat hk2), Int.toNat_natCast, getD_lt hk1, getD_lt hk2, bif_t (inB_nat hk2), bif_t (inB_nat hk1), wi_succ (by omega), ih (k + 1) (by omega), R_integer, Option.bind_some,
   drop_get hk3, List.all_cons, List.getElem_zip]
  generalize ks[k] = x
  generalize want[k] = y
  generalize ((ks.zip want).drop (k + 1)).all okT = z
  by_cases h1 : x = y
  ·subst h1; simp [okT]
  ·by_cases h2 : y = 0
   ·subst h2
    by_cases h3 : 3 ≤ x <;> by_cases h4 : x ≤ 10 <;> simp [okT, bif_if, h1, h3, h4]
   ·simp [okT, bif_if, h1, h2]
def okI (p : Int × Int) : Bool := decide (p.1 = p.2) || (decide (p.2 = -1) && (decide (3 ≤ p.1) && decide (p.1 ≤ 10)))
theorem I_types_loop (op : Int) (ks want : List Int) (hl : ks.length = want.length) (hb : ks.length ≤ 1048576) : ∀ (m k : Nat), k + m = ks.length →
  I.builtType.l500 op want ks ks.length k = if ((ks.zip want).drop k).all okI = true then I.builtType.l500 op want ks ks.length ks.length else some 0 := by
 intro m
 induction m with
 | zero =>
  intro k hk
  have : k = ks.length := by omega
  subst this
  rw [List.drop_eq_nil_of_le (by simp; omega)]
  rfl
 | succ m ih =>
  intro k hk
  have hk1 : k < ks.length := by omega
  have hk2 : k < want.length := by omega
  have hk3 : k < (ks.zip want).length := by simp; omega
  rw [I.builtType.l500_eq, bif_t (lt_dec hk1), bif_t (inB_nat hk1), bif_t (inB_nat hk2), Int.toNat_natCast, getD_lt hk1, getD_lt hk2, bif_t (inB_nat hk2), wi_succ (by omega), ih (k + 1) (by omega), I_integer, Option.bind_some,
   drop_get hk3, List.all_cons, List.getElem_zip]
  generalize ks[k] = x
  generalize want[k] = y
  generalize ((ks.zip want).drop (k + 1)).all okI = z
  by_cases h1 : x = y
  ·subst h1
   by_cases h2 : x = -1
   ·subst h2; simp [okI, bif_if]
   ·simp [okI, bif_if, h2]
  ·have h1' : ¬ y = x := fun h => h1 h.symm
   by_cases h2 : y = -1
   ·subst h2
    by_cases h3 : 3 ≤ x <;> by_cases h4 : x ≤ 10 <;> simp [okI, bif_if, h1, h1', h3, h4]
   ·simp [okI, bif_if, h1, h1', h2]
theorem wants (op : Int) (h0 : 1 ≤ op) (h1 : op ≤ 12) : op = 1 ∨ op = 2 ∨ op = 3 ∨ op = 4 ∨ op = 5 ∨ op = 6 ∨ op = 7 ∨ op = 8 ∨ op = 9 ∨ op = 10 ∨ op = 11 ∨ op = 12 := by omega
def wantR (op : Int) : List Int := if op = 4 then [2, 2] else if op = 5 then [] else if op = 6 then [2] else if op = 7 then [2, 10] else if op = 8 then [2, 10, 10] else if op = 9 then [2, 2] else if op = 10 then [3] else if op = 11 then [0] else [2]
def gives (op : Int) : Int := if op ≤ 5 then (if op = 2 then 1 else 2) else if op = 6 then 10 else if op = 7 then 3 else if op = 8 then 2 else if op = 9 then 10 else if op = 10 then 2 else if op = 11 then 2 else 10
def wantI (op : Int) : List Int := if op = 11 then [-1] else wantR op
theorem R_wants (op : Int) (h0 : 1 ≤ op) (h1 : op ≤ 12) : R.l3Wants op = some (wantR op, gives op) := by
 rw [R.l3Wants_eq]
 rcases wants op h0 h1 with rfl | rfl | rfl | rfl | rfl | rfl | rfl | rfl | rfl | rfl | rfl | rfl <;> simp [R.l3Wants.l53_eq, R.l3Wants.l13823_eq, wantR, gives]
theorem R_btype (op : Int) (ks : List Int) (h0 : 1 ≤ op) (h1 : op ≤ 12) (hb : ks.length ≤ 1048576) :
  R.l3Built op ks = some (if ks.length = (wantR op).length ∧ (ks.zip (wantR op)).all okT = true then gives op else 0) := by
 rw [R.l3Built_eq, R_wants op h0 h1, Option.bind_some]
 by_cases hl : ks.length = (wantR op).length
 ·rw [bif_f (by simp; omega)]
  have := R_types_loop ks (wantR op) (gives op) hl hb ks.length 0 (by omega)
  simp only [Int.natCast_zero, List.drop_zero] at this
  have h : R.l3Built.l244 ks (wantR op) (gives op) 0 = _ := this
  rw [h]
  by_cases hz : (ks.zip (wantR op)).all okT = true <;> simp [hl, hz]
 ·rw [bif_t (by simp; omega)]
  simp [hl]
theorem I_btype (op : Int) (ks : List Int) (h0 : 1 ≤ op) (h1 : op ≤ 12) (hb : ks.length ≤ 1048576) :
  I.builtType op ks = some (if ks.length = (wantI op).length ∧ (ks.zip (wantI op)).all okI = true then gives op else 0) := by
 have hend : ∀ (w : List Int), I.builtType.l500 op w ks ks.length ks.length = some (gives op) := by
  intro w
  rw [I.builtType.l500_eq, bif_f (ge_dec (Nat.le_refl _))]
  rcases wants op h0 h1 with rfl | rfl | rfl | rfl | rfl | rfl | rfl | rfl | rfl | rfl | rfl | rfl <;> rfl
 have hw : [[], [2], [2], [2], [2, 2], [], [2], [2, 10], [2, 10, 10], [2, 2], [3], [-1], [2]].getD op.toNat [] = wantI op := by
  rcases wants op h0 h1 with rfl | rfl | rfl | rfl | rfl | rfl | rfl | rfl | rfl | rfl | rfl | rfl <;> rfl
 rw [I.builtType_eq, bif_f (by simp; omega), bif_f (by simp; omega), bif_t (by simp [inB]; omega), hw]
 by_cases hl : ks.length = (wantI op).length
 ·rw [bif_f (by simp; omega)]
  have := I_types_loop op ks (wantI op) hl hb ks.length 0 (by omega)
  simp only [Int.natCast_zero, List.drop_zero] at this
  have h : I.builtType.l500 op (wantI op) ks ks.length 0 = _ := this
  rw [h, hend]
  by_cases hz : (ks.zip (wantI op)).all okI = true <;> simp [hl, hz]
 ·rw [bif_t (by simp; omega)]
  simp [hl]
theorem same_types (op : Int) (ks : List Int) (h0 : 1 ≤ op) (h1 : op ≤ 12) (hk : ∀ x ∈ ks, 1 ≤ x) :
  (ks.length = (wantR op).length ∧ (ks.zip (wantR op)).all okT = true) ↔ (ks.length = (wantI op).length ∧ (ks.zip (wantI op)).all okI = true) := by
 match ks, hk with
 | [], _ => rcases wants op h0 h1 with rfl | rfl | rfl | rfl | rfl | rfl | rfl | rfl | rfl | rfl | rfl | rfl <;> simp [wantR, wantI]
 | [a], hk =>
  have := hk a (by simp)
  rcases wants op h0 h1 with rfl | rfl | rfl | rfl | rfl | rfl | rfl | rfl | rfl | rfl | rfl | rfl <;> simp [wantR, wantI, okT, okI] <;> omega
 | [a, b], hk => rcases wants op h0 h1 with rfl | rfl | rfl | rfl | rfl | rfl | rfl | rfl | rfl | rfl | rfl | rfl <;> simp [wantR, wantI, okT, okI]
 | [a, b, c], hk => rcases wants op h0 h1 with rfl | rfl | rfl | rfl | rfl | rfl | rfl | rfl | rfl | rfl | rfl | rfl <;> simp [wantR, wantI, okT, okI]
 | a :: b :: c :: d :: r, hk => rcases wants op h0 h1 with rfl | rfl | rfl | rfl | rfl | rfl | rfl | rfl | rfl | rfl | rfl | rfl <;> simp [wantR, wantI]
def unT (op a : Int) : Int := if op = 2 then (if a = 1 then 1 else 0) else if 3 ≤ a ∧ a ≤ 10 then a else 0
theorem R_un (op a : Int) : R.l3Un op a = some (unT op a) := by
 rw [R.l3Un_eq, R_integer, Option.bind_some]
 unfold unT
 by_cases h : op = 2
 ·by_cases h1 : a = 1 <;> simp [bif_if, h, h1]
 ·by_cases h1 : 3 ≤ a <;> by_cases h2 : a ≤ 10 <;> simp [bif_if, h, h1, h2]
theorem I_un (op a : Int) (h0 : 1 ≤ op) (h3 : op ≤ 3) : I.unType op a = some (unT op a) := by
 rw [I.unType_eq, I_integer, Option.bind_some]
 unfold unT
 have : op = 1 ∨ op = 2 ∨ op = 3 := by omega
 rcases this with rfl | rfl | rfl
 ·by_cases h1 : 3 ≤ a <;> by_cases h2 : a ≤ 10 <;> simp [bif_if, h1, h2]
 ·by_cases h1 : a = 1 <;> simp [bif_if, h1]
 ·by_cases h1 : 3 ≤ a <;> by_cases h2 : a ≤ 10 <;> simp [bif_if, h1, h2]
def binT (op a b : Int) : Int :=
 if a ≠ b ∨ a = 0 then 0 else if op = 1 ∨ op = 2 then (if a = 1 then 1 else 0) else if op = 3 ∨ op = 4 then 1 else if 5 ≤ op ∧ op ≤ 8 then (if a ≠ 1 then 1 else 0) else if op = 9 then (if a ≠ 1 then a else 0) else if 3 ≤ a ∧ a ≤ 10 then a else 0
theorem ops18 {op : Int} (h0 : 3 ≤ op) (h1 : op ≤ 18) : op = 3 ∨ op = 4 ∨ op = 5 ∨ op = 6 ∨ op = 7 ∨ op = 8 ∨ op = 9 ∨ 10 ≤ op := by omega
theorem R_bin (op a b : Int) (h0 : 3 ≤ op) (h1 : op ≤ 18) : R.l3Bin op a b = some (binT op a b) := by
 rw [R.l3Bin_eq]
 unfold binT
 by_cases hab : a = b
 ·subst hab
  by_cases ha : a = 0
  ·subst ha; simp
  ·have e1 : (a == 0) = false := by simpa using ha
   simp only [bne_self_eq_false, cond_false, e1, R.l3Bin.l117_eq, R.l3Bin.l471_eq, R.l3Bin.l1887_eq, R_integer, Option.bind_some]
   rcases ops18 h0 h1 with rfl | rfl | rfl | rfl | rfl | rfl | rfl | h
   ·simp [ha]
   ·simp [ha]
   ·by_cases h1 : a = 1 <;> simp [bif_if, ha, h1]
   ·by_cases h1 : a = 1 <;> simp [bif_if, ha, h1]
   ·by_cases h1 : a = 1 <;> simp [bif_if, ha, h1]
   ·by_cases h1 : a = 1 <;> simp [bif_if, ha, h1]
   ·by_cases h1 : a = 1 <;> simp [bif_if, ha, h1]
   ·have f : ∀ k : Int, k < 10 → (op == k) = false := fun k hk => by simp; omega
    have f' : ∀ k : Int, k < 10 → ¬ op = k := fun k hk => by omega
    simp only [f 1 (by omega), f 2 (by omega), f 3 (by omega), f 4 (by omega), f 5 (by omega), f 6 (by omega), f 7 (by omega), f 8 (by omega), f 9 (by omega), cond_false,
     f' 1 (by omega), f' 2 (by omega), f' 3 (by omega), f' 4 (by omega), f' 9 (by omega), show ¬ (5 ≤ op ∧ op ≤ 8) by omega, ha, ne_eq, not_true_eq_false, or_self, if_false]
    by_cases h2 : 3 ≤ a <;> by_cases h3 : a ≤ 10 <;> simp [bif_if, h2, h3]
 ·rw [bif_t (b := a != b) (by simpa using hab), if_pos (.inl hab)]
theorem I_bin (op a b : Int) (h0 : 3 ≤ op) (h1 : op ≤ 18) (ha0 : 0 ≤ a) (ha1 : a ≤ 10) : I.binType op a b = some (binT op a b) := by
 rw [I.binType_eq]
 unfold binT
 by_cases hab : a = b
 ·subst hab
  by_cases ha : a = 0
  ·subst ha; simp
  ·have e1 : (a == 0) = false := by simpa using ha
   simp only [bne_self_eq_false, cond_false, e1, I_integer, Option.bind_some]
   have h12 : a = 1 ∨ a = 2 ∨ 3 ≤ a := by omega
   have h10 : decide (a ≤ 10) = true := by simpa using ha1
   rcases ops18 h0 h1 with rfl | rfl | rfl | rfl | rfl | rfl | rfl | h
   ·simp [ha]
   ·simp [ha]
   iterate 5
    ·rcases h12 with rfl | rfl | h2
     ·simp
     ·simp
     ·simp [bif_if, ha, h2, ha1, show ¬ a = 1 by omega]
   ·have f : ∀ k : Int, k < 10 → (op == k) = false := fun k hk => by simp; omega
    have f' : ∀ k : Int, k < 10 → ¬ op = k := fun k hk => by omega
    have g5 : decide (op ≥ 5) = true := by simp; omega
    have g8 : decide (op ≤ 8) = false := by simp; omega
    have g9 : decide (op > 9) = true := by simp; omega
    have g18 : decide (op ≤ 18) = true := by simp; omega
    simp only [f 1 (by omega), f 2 (by omega), f 3 (by omega), f 4 (by omega), f 9 (by omega), cond_false, cond_true, g5, g8, g9, g18,
     f' 1 (by omega), f' 2 (by omega), f' 3 (by omega), f' 4 (by omega), f' 9 (by omega), show ¬ (5 ≤ op ∧ op ≤ 8) by omega, ha, ne_eq, not_true_eq_false, or_self, if_false]
    by_cases h2 : 3 ≤ a <;> simp [bif_if, h2, ha1]
 ·rw [bif_t (b := a != b) (by simpa using hab), if_pos (.inl hab)]
end
section
def top (st : List Int) : Int := st.getD (st.length - 1) 0
def below (st : List Int) : Int := if 1 < st.length then st.getD (st.length - 2) 0 else 0
def btT (A : Int) (ks : List Int) : Int := if ks.length = (wantR A).length ∧ (ks.zip (wantR A)).all okT = true then gives A else 0
def gv (c : TCode) (f : TFn) (x : TIns) (sl st : List Int) : Option (Nat × List Int) :=
 if x.gOp = 1 then some (0, [x.gA])
 else if x.gOp = 2 then (if sl.getD x.gA.toNat 0 = 0 then none else some (0, [sl.getD x.gA.toNat 0]))
 else if x.gOp = 3 ∨ x.gOp = 4 then (if st.length = 0 then none else some (1, []))
 else if x.gOp = 5 then (if unT x.gA (top st) = 0 then none else some (1, [unT x.gA (top st)]))
 else if x.gOp = 6 then (if binT x.gA (below st) (top st) = 0 then none else some (2, [binT x.gA (below st) (top st)]))
 else if x.gOp = 7 then (if 3 ≤ top st ∧ top st ≤ 10 then some (1, [x.gA]) else none)
 else if x.gOp = 8 then (if (wantR x.gA).length ≤ st.length ∧ btT x.gA (st.drop (st.length - (wantR x.gA).length)) ≠ 0 then some ((wantR x.gA).length, [btT x.gA (st.drop (st.length - (wantR x.gA).length))]) else none)
 else if x.gOp = 9 then (if (c.gFns.getD x.gA.toNat TFn.z).gParams.length ≤ st.length ∧ st.drop (st.length - (c.gFns.getD x.gA.toNat TFn.z).gParams.length) = (c.gFns.getD x.gA.toNat TFn.z).gParams then
  some ((c.gFns.getD x.gA.toNat TFn.z).gParams.length, if (c.gFns.getD x.gA.toNat TFn.z).gResult = 0 then [] else [(c.gFns.getD x.gA.toNat TFn.z).gResult]) else none)
 else if x.gOp = 11 then (if top st = 1 then some (1, []) else none)
 else if x.gOp = 12 then (if x.gA = 0 then some (0, []) else if st.length ≠ 0 ∧ top st = f.gResult then some (1, []) else none)
 else if x.gOp = 13 ∨ x.gOp = 15 then (if top st = 2 then some (1, []) else none)
 else if x.gOp = 14 then (if top st = 2 ∧ below st = 2 then some (2, []) else none)
 else some (0, [])
def goz (x : TIns) (i : Nat) : List Int := if x.gOp = 12 ∨ x.gOp = 13 then [] else if x.gOp = 10 then [x.gA] else if x.gOp = 11 then [x.gA, ((i + 1 : Nat) : Int)] else [((i + 1 : Nat) : Int)]
def insOk (c : TCode) (f : TFn) (x : TIns) : Bool :=
 if x.gOp = 1 then valid ⟨x.gA, x.gN, x.gText⟩
 else decide (x.gN = 0) && (decide (x.gText = ⟨#[]⟩) &&
  (if x.gOp = 2 ∨ x.gOp = 3 then decide (0 ≤ x.gA) && decide (x.gA ≤ f.gSlots - 1)
  else if x.gOp = 5 then decide (1 ≤ x.gA) && decide (x.gA ≤ 3)
  else if x.gOp = 6 then decide (3 ≤ x.gA) && decide (x.gA ≤ 18)
  else if x.gOp = 7 then decide (3 ≤ x.gA) && decide (x.gA ≤ 10)
  else if x.gOp = 8 then decide (1 ≤ x.gA) && decide (x.gA ≤ 12)
  else if x.gOp = 9 then decide (0 ≤ x.gA) && decide (x.gA ≤ (c.gFns.length : Int) - 1)
  else if x.gOp = 10 ∨ x.gOp = 11 then decide (0 ≤ x.gA) && decide (x.gA ≤ (f.gIns.length : Int))
  else if x.gOp = 12 then (decide (x.gA = 1) && decide (f.gResult ≠ 0)) || (decide (x.gA = 0) && decide (f.gResult = 0))
  else if x.gOp = 4 ∨ x.gOp = 13 ∨ x.gOp = 14 ∨ x.gOp = 15 ∨ x.gOp = 16 then decide (x.gA = 0) else false))
structure HeadOk (f : TFn) : Prop where
 p8 : f.gParams.length ≤ 8
 p : ∀ x ∈ f.gParams, 1 ≤ x ∧ x ≤ 10
 r0 : 0 ≤ f.gResult
 r10 : f.gResult ≤ 10
 s0 : (f.gParams.length : Int) ≤ f.gSlots
 s200 : f.gSlots ≤ 200
 i1 : 1 ≤ f.gIns.length
 i5 : f.gIns.length ≤ 50000
structure CodeOk (c : TCode) : Prop where
 n : c.gFns.length ≤ 60
 f : ∀ f ∈ c.gFns, HeadOk f
structure FnOk (c : TCode) (f : TFn) : Prop where
 h : HeadOk f
 i : ∀ x ∈ f.gIns, insOk c f x = true
inductive Is (c : TCode) (f : TFn) : TIns → Prop
 | push (A N : Int) (T : ByteArray) (h : 1 ≤ A ∧ A ≤ 10) : Is c f ⟨1, A, N, T⟩
 | slot (op A : Int) (h : op = 2 ∨ op = 3) (h' : 0 ≤ A ∧ A < f.gSlots) : Is c f ⟨op, A, 0, ⟨#[]⟩⟩
 | un (A : Int) (h : 1 ≤ A ∧ A ≤ 3) : Is c f ⟨5, A, 0, ⟨#[]⟩⟩
 | bin (A : Int) (h : 3 ≤ A ∧ A ≤ 18) : Is c f ⟨6, A, 0, ⟨#[]⟩⟩
 | conv (A : Int) (h : 3 ≤ A ∧ A ≤ 10) : Is c f ⟨7, A, 0, ⟨#[]⟩⟩
 | built (A : Int) (h : 1 ≤ A ∧ A ≤ 12) : Is c f ⟨8, A, 0, ⟨#[]⟩⟩
 | call (A : Int) (h : 0 ≤ A ∧ A < c.gFns.length) : Is c f ⟨9, A, 0, ⟨#[]⟩⟩
 | jump (op A : Int) (h : op = 10 ∨ op = 11) (h' : 0 ≤ A ∧ A ≤ f.gIns.length) : Is c f ⟨op, A, 0, ⟨#[]⟩⟩
 | ret (A : Int) (h : (A = 1 ∧ f.gResult ≠ 0) ∨ (A = 0 ∧ f.gResult = 0)) : Is c f ⟨12, A, 0, ⟨#[]⟩⟩
 | rest (op : Int) (h : op = 4 ∨ op = 13 ∨ op = 14 ∨ op = 15 ∨ op = 16) : Is c f ⟨op, 0, 0, ⟨#[]⟩⟩
theorem insOk_is {c : TCode} {f : TFn} {x : TIns} (h : insOk c f x = true) : Is c f x := by
 obtain ⟨op, A, N, T⟩ := x
 unfold insOk at h
 by_cases h1 : op = 1
 ·subst h1
  simp only [if_true] at h
  refine .push _ _ _ ?_
  unfold valid at h
  simp only at h
  split at h
  ·rename_i h2; omega
  ·split at h
   ·rename_i h2; omega
   ·simp only [Bool.and_eq_true, decide_eq_true_eq] at h; omega
 ·simp only [h1, if_false, Bool.and_eq_true, decide_eq_true_eq] at h
  obtain ⟨rfl, rfl, h⟩ := h
  repeat' split at h
  all_goals simp only [Bool.and_eq_true, Bool.or_eq_true, decide_eq_true_eq, Bool.false_eq_true] at h
  ·exact .slot _ _ (by assumption) (by omega)
  ·rename_i e; subst e; exact .un _ h
  ·rename_i e; subst e; exact .bin _ h
  ·rename_i e; subst e; exact .conv _ h
  ·rename_i e; subst e; exact .built _ h
  ·rename_i e; subst e; exact .call _ (by omega)
  ·exact .jump _ _ (by assumption) h
  ·rename_i e; subst e; exact .ret _ h
  ·subst h; exact .rest _ (by assumption)
def eff (c : TCode) (f : TFn) (i : Nat) (sl st : List Int) : Option TShape :=
 match gv c f (f.gIns.getD i TIns.z) sl st with
 | none => none
 | some (k, ps) => if (goz (f.gIns.getD i TIns.z) i).any (fun j => decide (j ≥ (f.gIns.length : Int))) then none
  else if (st.take (st.length - k) ++ ps).length > 600 then none
  else some ⟨1, if (f.gIns.getD i TIns.z).gOp = 3 then sl.set (f.gIns.getD i TIns.z).gA.toNat (top st) else sl, st.take (st.length - k) ++ ps⟩
def bhF (c : TCode) (f : TFn) (i : Nat) (s : TShape) : TShape := if s.gState = 1 then (eff c f i s.gSlots s.gStack).getD bads else bads
variable {c : TCode} {f : TFn} {x : TIns} {sl st : List Int}
theorem top_range (h : ∀ y ∈ st, 1 ≤ y ∧ y ≤ 10) : 0 ≤ top st ∧ top st ≤ 10 ∧ (st.length = 0 → top st = 0) := by
 unfold top
 cases st with
 | nil => simp
 | cons a l =>
  have hk : (a :: l).length - 1 < (a :: l).length := by simp
  rw [getD_lt hk]
  have := h _ (List.getElem_mem hk)
  exact ⟨by omega, by omega, fun h => by simp at h⟩
theorem below_range (h : ∀ y ∈ st, 1 ≤ y ∧ y ≤ 10) : 0 ≤ below st ∧ below st ≤ 10 ∧ (st.length ≤ 1 → below st = 0) := by
 unfold below
 split
 ·rename_i hl
  have hk : st.length - 2 < st.length := by omega
  rw [getD_lt hk]
  have := h _ (List.getElem_mem hk)
  exact ⟨by omega, by omega, fun h => by omega⟩
 ·exact ⟨by omega, by omega, fun _ => rfl⟩
theorem btT_range (A : Int) (ks : List Int) : btT A ks = 0 ∨ (1 ≤ btT A ks ∧ btT A ks ≤ 10) := by
 unfold btT gives
 repeat' split
 all_goals omega
theorem unT_range (A t : Int) (ht : 0 ≤ t ∧ t ≤ 10) : unT A t = 0 ∨ (1 ≤ unT A t ∧ unT A t ≤ 10 ∧ t ≠ 0) := by
 unfold unT
 repeat' split
 all_goals omega
theorem binT_range (A b t : Int) (ht : 0 ≤ b ∧ b ≤ 10) : binT A b t = 0 ∨ (1 ≤ binT A b t ∧ binT A b t ≤ 10 ∧ b ≠ 0) := by
 unfold binT
 repeat' split
 all_goals omega
theorem gv_ok (hc : CodeOk c) (hx : Is c f x) (hr : f.gResult ≤ 10) (hs : ∀ y ∈ sl, 0 ≤ y ∧ y ≤ 10) (ht : ∀ y ∈ st, 1 ≤ y ∧ y ≤ 10) {k : Nat} {ps : List Int} (h : gv c f x sl st = some (k, ps)) : k ≤ st.length ∧ ps.length ≤ 1 ∧ ∀ y ∈ ps, 1 ≤ y ∧ y ≤ 10 := by
 obtain ⟨t0, t10, tz⟩ := top_range ht
 obtain ⟨b0, b10, bz⟩ := below_range ht
 unfold gv at h
 cases hx with
 | push A N T hA =>
  simp only [if_true, Option.some.injEq, Prod.mk.injEq] at h
  obtain ⟨rfl, rfl⟩ := h
  exact ⟨by omega, by simp, fun y hy => by simp at hy; subst hy; exact hA⟩
 | slot op A ho hA =>
  rcases ho with rfl | rfl
  ·simp only [show ¬ ((2 : Int) = 1) by decide, if_true, if_false] at h
   split at h
   ·simp at h
   ·rename_i hne
    simp only [Option.some.injEq, Prod.mk.injEq] at h
    obtain ⟨rfl, rfl⟩ := h
    refine ⟨by omega, by simp, fun y hy => ?_⟩
    simp only [List.mem_singleton] at hy
    subst hy
    by_cases hk : A.toNat < sl.length
    ·rw [getD_lt hk] at hne ⊢
     have := hs _ (List.getElem_mem hk)
     omega
    ·rw [List.getD_eq_getElem?_getD, List.getElem?_eq_none (by omega)] at hne
     simp at hne
  ·simp only [show ¬ ((3 : Int) = 1) by decide, show ¬ ((3 : Int) = 2) by decide, true_or, if_true, if_false] at h
   split at h
   ·simp at h
   ·rename_i hne
    simp only [Option.some.injEq, Prod.mk.injEq] at h
    obtain ⟨rfl, rfl⟩ := h
    exact ⟨by omega, by simp, fun y hy => by simp at hy⟩
 | un A hA =>
  simp only [show ¬ ((5 : Int) = 1) by decide, show ¬ ((5 : Int) = 2) by decide, show ¬ ((5 : Int) = 3 ∨ (5 : Int) = 4) by decide, if_true, if_false] at h
  split at h
  ·simp at h
  ·rename_i hne
   simp only [Option.some.injEq, Prod.mk.injEq] at h
   obtain ⟨rfl, rfl⟩ := h
   have := unT_range A (top st) ⟨t0, t10⟩
   exact ⟨by omega, by simp, fun y hy => by simp at hy; subst hy; omega⟩
 | bin A hA =>
  simp only [show ¬ ((6 : Int) = 1) by decide, show ¬ ((6 : Int) = 2) by decide, show ¬ ((6 : Int) = 3 ∨ (6 : Int) = 4) by decide, show ¬ ((6 : Int) = 5) by decide, if_true, if_false] at h
  split at h
  ·simp at h
  ·rename_i hne
   simp only [Option.some.injEq, Prod.mk.injEq] at h
   obtain ⟨rfl, rfl⟩ := h
   have := binT_range A (below st) (top st) ⟨b0, b10⟩
   exact ⟨by omega, by simp, fun y hy => by simp at hy; subst hy; omega⟩
 | conv A hA =>
  simp only [show ¬ ((7 : Int) = 1) by decide, show ¬ ((7 : Int) = 2) by decide, show ¬ ((7 : Int) = 3 ∨ (7 : Int) = 4) by decide, show ¬ ((7 : Int) = 5) by decide, show ¬ ((7 : Int) = 6) by decide, if_true, if_false] at h
  split at h
  ·simp only [Option.some.injEq, Prod.mk.injEq] at h
   obtain ⟨rfl, rfl⟩ := h
   exact ⟨by omega, by simp, fun y hy => by simp at hy; subst hy; omega⟩
  ·simp at h
 | built A hA =>
  simp only [show ¬ ((8 : Int) = 1) by decide, show ¬ ((8 : Int) = 2) by decide, show ¬ ((8 : Int) = 3 ∨ (8 : Int) = 4) by decide, show ¬ ((8 : Int) = 5) by decide, show ¬ ((8 : Int) = 6) by decide, show ¬ ((8 : Int) = 7) by decide, if_true, if_false] at h
  split at h
  ·rename_i hk
   simp only [Option.some.injEq, Prod.mk.injEq] at h
   obtain ⟨rfl, rfl⟩ := h
   have := btT_range A (st.drop (st.length - (wantR A).length))
   exact ⟨by omega, by simp, fun y hy => by simp only [List.mem_singleton] at hy; subst hy; omega⟩
  ·simp at h
 | call A hA =>
  simp only [show ¬ ((9 : Int) = 1) by decide, show ¬ ((9 : Int) = 2) by decide, show ¬ ((9 : Int) = 3 ∨ (9 : Int) = 4) by decide, show ¬ ((9 : Int) = 5) by decide, show ¬ ((9 : Int) = 6) by decide, show ¬ ((9 : Int) = 7) by decide, show ¬ ((9 : Int) = 8) by decide, if_true, if_false] at h
  split at h
  ·rename_i hk
   simp only [Option.some.injEq, Prod.mk.injEq] at h
   obtain ⟨rfl, rfl⟩ := h
   refine ⟨hk.1, by split <;> simp, fun y hy => ?_⟩
   split at hy
   ·simp at hy
   ·rename_i hne
    simp only [List.mem_singleton] at hy
    subst hy
    have hk : A.toNat < c.gFns.length := by omega
    rw [getD_lt hk] at hne ⊢
    have := hc.f _ (List.getElem_mem hk)
    have h0 := this.r0
    have h1 := this.r10
    omega
  ·simp at h
 | jump op A ho hA =>
  rcases ho with rfl | rfl
  ·simp at h
   obtain ⟨rfl, rfl⟩ := h
   exact ⟨by omega, by simp, fun y hy => by simp at hy⟩
  ·simp at h
   obtain ⟨h1, rfl, rfl⟩ := h
   exact ⟨by omega, by simp, fun y hy => by simp at hy⟩
 | ret A hA =>
  rcases hA with ⟨rfl, _⟩ | ⟨rfl, _⟩
  ·simp at h
   obtain ⟨h1, rfl, rfl⟩ := h
   have : st.length ≠ 0 := by intro h; exact h1.1 (List.length_eq_zero_iff.1 h)
   exact ⟨by omega, by simp, fun y hy => by simp at hy⟩
  ·simp at h
   obtain ⟨rfl, rfl⟩ := h
   exact ⟨by omega, by simp, fun y hy => by simp at hy⟩
 | rest op ho =>
  rcases ho with rfl | rfl | rfl | rfl | rfl
  ·simp at h
   obtain ⟨h1, rfl, rfl⟩ := h
   have : st.length ≠ 0 := by intro h; exact h1 (List.length_eq_zero_iff.1 h)
   exact ⟨by omega, by simp, fun y hy => by simp at hy⟩
  ·simp at h
   obtain ⟨h1, rfl, rfl⟩ := h
   exact ⟨by omega, by simp, fun y hy => by simp at hy⟩
  ·simp at h
   obtain ⟨h1, rfl, rfl⟩ := h
   exact ⟨by omega, by simp, fun y hy => by simp at hy⟩
  ·simp at h
   obtain ⟨h1, rfl, rfl⟩ := h
   exact ⟨by omega, by simp, fun y hy => by simp at hy⟩
  ·simp at h
   obtain ⟨rfl, rfl⟩ := h
   exact ⟨by omega, by simp, fun y hy => by simp at hy⟩
end
section
variable {c : TCode} {f : TFn} {sl st : List Int}
theorem is_at (hf : FnOk c f) {i : Nat} (hi : i < f.gIns.length) : Is c f (f.gIns.getD i TIns.z) := by
 rw [getD_lt hi]; exact insOk_is (hf.i _ (List.getElem_mem hi))
theorem eff_wf (hc : CodeOk c) (hf : FnOk c f) {S i : Nat} (hi : i < f.gIns.length) (h1 : sl.length = S) (h2 : ∀ x ∈ sl, 0 ≤ x ∧ x ≤ 10) (h4 : ∀ x ∈ st, 1 ≤ x ∧ x ≤ 10) {o : TShape} (h : eff c f i sl st = some o) : Wf S o ∧ o.gState = 1 := by
 unfold eff at h
 split at h
 ·simp at h
 ·rename_i k ps hg
  split at h
  ·simp at h
  ·split at h
   ·simp at h
   ·rename_i hl
    simp only [Option.some.injEq] at h
    subst h
    obtain ⟨g1, g2, g3⟩ := gv_ok hc (is_at hf hi) hf.h.r10 h2 h4 hg
    obtain ⟨t0, t10, _⟩ := top_range h4
    refine ⟨.is _ _ (by split <;> simp [h1]) (fun x hx => ?_) (by omega) fun x hx => ?_, rfl⟩
    ·split at hx
     ·rcases List.mem_or_eq_of_mem_set hx with h | h
      ·exact h2 x h
      ·subst h; exact ⟨t0, t10⟩
     ·exact h2 x hx
    ·rcases List.mem_append.1 hx with h | h
     ·exact h4 x (List.mem_of_mem_take h)
     ·exact g3 x h
theorem bhF_wf (hc : CodeOk c) (hf : FnOk c f) {S i : Nat} (hi : i < f.gIns.length) {s : TShape} (hs : Wf S s) : Wf S (bhF c f i s) ∧ (bhF c f i s).gState ≠ 0 := by
 unfold bhF
 split
 ·cases hs with
  | no => simp_all [none_]
  | bad => simp_all [bads]
  | is sl st h1 h2 h3 h4 =>
   cases he : eff c f i sl st with
   | none => exact ⟨.bad, by simp [bads]⟩
   | some o =>
    obtain ⟨g1, g2⟩ := eff_wf hc hf hi h1 h2 h4 he
    exact ⟨g1, by simp [g2]⟩
 ·exact ⟨.bad, by simp [bads]⟩
theorem gv_mono {x : TIns} {sl' : List Int} (h : sl.length = sl'.length) (h' : ∀ k, k < sl.length → sl'.getD k 0 = sl.getD k 0 ∨ sl'.getD k 0 = 0) {r : Nat × List Int} (hg : gv c f x sl' st = some r) : gv c f x sl st = some r := by
 unfold gv at hg ⊢
 by_cases h1 : x.gOp = 1
 ·simp only [h1, if_true] at hg ⊢; exact hg
 ·simp only [h1, if_false] at hg ⊢
  by_cases h2 : x.gOp = 2
  ·simp only [h2, if_true] at hg ⊢
   by_cases hk : x.gA.toNat < sl.length
   ·rcases h' _ hk with h3 | h3
    ·rw [h3] at hg; exact hg
    ·rw [h3] at hg; simp at hg
   ·rw [List.getD_eq_getElem?_getD, List.getElem?_eq_none (by omega)] at hg
    simp at hg
  ·simp only [h2, if_false] at hg ⊢
   exact hg
theorem set_getD (l : List Int) (k j : Nat) (v : Int) (hk : k < l.length) : (l.set j v).getD k 0 = if j = k then v else l.getD k 0 := by
 rw [List.getD_eq_getElem?_getD, List.getD_eq_getElem?_getD, List.getElem?_set]
 by_cases h : j = k
 ·subst h; simp [hk]
 ·simp [h]
theorem bhF_mono {i : Nat} {s s' : TShape} (hs0 : s.gState ≠ 0) (h : Le s s') : Le (bhF c f i s) (bhF c f i s') := by
 cases h with
 | no => simp [none_] at hs0
 | bad =>
  have : bhF c f i bads = bads := by unfold bhF; simp [bads]
  rw [this]; exact .bad _
 | is sl sl' st h1 h2 =>
  unfold bhF
  simp only [if_true]
  cases he : eff c f i sl' st with
  | none => exact .bad _
  | some o =>
   unfold eff at he
   split at he
   ·simp at he
   ·rename_i k ps hg
    have hg' := gv_mono h1 h2 hg
    split at he
    ·simp at he
    ·rename_i hgo
     split at he
     ·simp at he
     ·rename_i hl
      simp only [Option.some.injEq] at he
      subst he
      unfold eff
      rw [hg']
      simp only
      rw [if_neg hgo, if_neg hl]
      simp only [Option.getD_some]
      split
      ·refine .is _ _ _ (by simp [h1]) fun q hq => ?_
       have hq : q < sl.length := by simpa using hq
       rw [set_getD _ _ _ _ (by omega), set_getD _ _ _ _ hq]
       split
       ·exact .inl rfl
       ·exact h2 q hq
      ·exact .is _ _ _ h1 h2
def gos (f : TFn) (i : Nat) : List Nat := (goz (f.gIns.getD i TIns.z) i).map Int.toNat
def sy (c : TCode) (f : TFn) : Sy := ⟨f.gIns.length, f.gSlots.toNat, ⟨1, f.gParams ++ List.replicate (f.gSlots.toNat - f.gParams.length) 0, []⟩, bhF c f, gos f⟩
theorem goz2 (x : TIns) (i : Nat) : (goz x i).length ≤ 2 := by
 unfold goz
 repeat' split
 all_goals simp
theorem goz_pos (hf : FnOk c f) {i : Nat} (hi : i < f.gIns.length) : ∀ j ∈ goz (f.gIns.getD i TIns.z) i, 0 ≤ j ∧ j ≤ f.gIns.length := by
 have := is_at hf hi
 generalize f.gIns.getD i TIns.z = x at this
 unfold goz
 intro j hj
 cases this with
 | jump op A ho hA => rcases ho with rfl | rfl <;> simp at hj <;> omega
 | slot op A ho hA => rcases ho with rfl | rfl <;> simp at hj <;> omega
 | rest op ho => rcases ho with rfl | rfl | rfl | rfl | rfl <;> simp at hj <;> omega
 | ret A hA => simp at hj
 | _ => simp at hj; omega
theorem syOk (hc : CodeOk c) (hf : FnOk c f) : SyOk (sy c f) where
 pos := hf.h.i1
 first := by
  have := hf.h.s0
  refine .is _ _ (by simp [sy]; omega) (fun x hx => ?_) (by simp) (by simp)
  rcases List.mem_append.1 hx with h | h
  ·have := hf.h.p x h; omega
  ·rw [(List.mem_replicate.1 h).2]; omega
 first0 := by simp [sy]
 wf i s hi hs := (bhF_wf hc hf hi hs).1
 mono i s s' _ _ _ h0 h := bhF_mono h0 h
 st i s hi hs := (bhF_wf hc hf hi hs).2
 go2 i := by simp only [sy, gos, List.length_map]; exact goz2 _ _
end
end Go.KM.M1
