/- Plain laws: the shapes of a function: the reference goes through it again and again. Conditions: none. -/
import Derived.Test.YtojkcmefnmcpiaaGreatDoorMPb
import Derived.Test.YtojkcmefnmcpiaaGreatDoorMPa
import Derived.Test.YtojkcmefnmcpiaaGreatDoorMPa
namespace Go.KM.M1
open Go Go.KM
open Go.KM.Fam (Dn dflt)
open Go.KM.Enc (cells sz mkE glob gany u8)
set_option autoImplicit false
set_option linter.unusedVariables false
set_option linter.unusedSimpArgs false
set_option maxRecDepth 100000
section
variable {c : TCode} {f : TFn}
theorem slotsN (hf : FnOk c f) : f.gSlots = ((sy c f).S : Int) ∧ (sy c f).S ≤ 200 := by
 have h1 := hf.h.s0
 have h2 := hf.h.s200
 simp only [sy]
 omega
theorem getD_z (X : List TShape) (i : Nat) : X.getD i TShape.z = X.getD i none_ := rfl
theorem set_same {X : List TShape} {j : Nat} (hj : j < X.length) {v : TShape} (h : v = X.getD j none_) : X.set j v = X := by
 subst h
 rw [getD_none hj]
 exact List.set_getElem_self hj
theorem mem_gos {f : TFn} {i k : Nat} {g : Int} (h : (goz (f.gIns.getD i TIns.z) i)[k]? = some g) : g.toNat ∈ gos f i := List.mem_map.2 ⟨g, List.mem_of_getElem? h, rfl⟩
theorem R_inner (hc : CodeOk c) (hf : FnOk c f) {i : Nat} (hi : i < f.gIns.length) {s : TShape} (hs : Wf (sy c f).S s) (hs0 : s.gState ≠ 0) (hle : ∀ Y, Sol (sy c f) Y → Le s (Y.getD i none_)) :
  ∀ (m k : Nat) (X : List TShape) (again : Bool), k + m = (goz (f.gIns.getD i TIns.z) i).length → Inv (sy c f) X →
  ∃ X' again', R.l7Shapes.l66738492 X again i (goz (f.gIns.getD i TIns.z) i) k c f (bhF c f i s) = R.l7Shapes.l130348 X' again' ((i + 1 : Nat) : Int) c f ∧ Inv (sy c f) X' ∧ ranks (sy c f).S X ≤ ranks (sy c f).S X' ∧
   ((again' = true ∧ (again = true ∨ ranks (sy c f).S X < ranks (sy c f).S X')) ∨ (again' = false ∧ again = false ∧ X' = X ∧ ∀ j ∈ ((goz (f.gIns.getD i TIns.z) i).drop k).map Int.toNat, j < f.gIns.length → Le (bhF c f i s) (X.getD j none_))) := by
 have hi5 := hf.h.i5
 have hgl := goz2 (f.gIns.getD i TIns.z) i
 have hpos := goz_pos hf hi
 have hQ := syOk hc hf
 obtain ⟨hS1, hS2⟩ := slotsN hf
 intro m
 induction m with
 | zero =>
  intro k X again hk hX
  rw [R.l7Shapes.l66738492_eq, bif_f (ge_dec (by omega)), wi_succ (by omega)]
  refine ⟨X, again, rfl, hX, Nat.le_refl _, ?_⟩
  cases again with
  | true => exact .inl ⟨rfl, .inl rfl⟩
  | false => exact .inr ⟨rfl, rfl, rfl, fun j hj => by rw [List.drop_eq_nil_of_le (by omega)] at hj; simp at hj⟩
 | succ m ih =>
  intro k X again hk hX
  have hkl : k < (goz (f.gIns.getD i TIns.z) i).length := by omega
  have hget := List.getElem?_eq_getElem hkl
  have hm := mem_gos hget
  have hp := hpos _ (List.getElem_mem hkl)
  have hXl : X.length = f.gIns.length := hX.wf.1
  rw [R.l7Shapes.l66738492_eq, bif_t (lt_dec hkl), bif_t (inB_nat hkl), Int.toNat_natCast, getD_lt hkl, drop_get hkl, wi_succ (by omega)]
  generalize (goz (f.gIns.getD i TIns.z) i)[k] = g at hm hp
  by_cases hg : g < (f.gIns.length : Int)
  ·have hj : g.toNat < f.gIns.length := by omega
   have hb : inB g X.length = true := inB_iff.2 ⟨hp.1, by omega⟩
   have w1 : Wf (sy c f).S (X.getD g.toNat none_) := hX.wf.2 _ hj
   have w2 : Wf (sy c f).S (bhF c f i s) := hQ.wf i s hi hs
   obtain ⟨s1, s2, s3, s4⟩ := hX.step hQ hi hj hm hs hs0 hle
   have s1 : Inv (sy c f) (X.set g.toNat (jn (X.getD g.toNat none_) (bhF c f i s))) := s1
   have s3 : Le (bhF c f i s) (jn (X.getD g.toNat none_) (bhF c f i s)) := s3
   have s4 : jn (X.getD g.toNat none_) (bhF c f i s) ≠ X.getD g.toNat none_ → ranks (sy c f).S X < ranks (sy c f).S (X.set g.toNat (jn (X.getD g.toNat none_) (bhF c f i s))) := s4
   rw [bif_t (decide_eq_true (by rw [hXl]; exact hg)), bif_t (inB_nat hkl), bif_t hb, getD_z, R_join hS2 w1 w2, Option.bind_some, bif_t (inB_nat hkl), bif_t hb]
   clear s2 w1 w2
   generalize jn (X.getD g.toNat none_) (bhF c f i s) = v at *
   show ∃ X' again', (bif again then R.l7Shapes.l66738492 (X.set g.toNat v) true i (goz (f.gIns.getD i TIns.z) i) ((k + 1 : Nat) : Int) c f (bhF c f i s) else R.l7Shapes.l66738492 (X.set g.toNat v) (decide (v ≠ X.getD g.toNat none_)) i (goz (f.gIns.getD i TIns.z) i) ((k + 1 : Nat) : Int) c f (bhF c f i s)) = _ ∧ _
   by_cases he : v = X.getD g.toNat none_
   ·-- nothing changes
    have hset : X.set g.toNat v = X := set_same (by omega) he
    have hde : decide (v ≠ X.getD g.toNat none_) = false := by simp only [he, ne_eq, not_true_eq_false, decide_false]
    rw [hset, hde]
    obtain ⟨X', again', e1, e2, e3, e4⟩ := ih (k + 1) X again (by omega) hX
    refine ⟨X', again', ?_, e2, e3, ?_⟩
    ·rw [← e1]; cases again <;> rfl
    ·rcases e4 with e4 | ⟨q1, q2, q3, q4⟩
     ·exact .inl e4
     ·refine .inr ⟨q1, q2, q3, fun j hj hjn => ?_⟩
      simp only [List.map_cons, List.mem_cons] at hj
      rcases hj with rfl | hj
      ·rw [he] at s3; exact s3
      ·exact q4 j hj hjn
   ·have hlt := s4 he
    have hde : decide (v ≠ X.getD g.toNat none_) = true := decide_eq_true he
    obtain ⟨X', again', e1, e2, e3, e4⟩ := ih (k + 1) (X.set g.toNat v) true (by omega) s1
    refine ⟨X', again', ?_, e2, by omega, .inl ⟨?_, .inr (by omega)⟩⟩
    ·rw [← e1, hde]
     cases again <;> rfl
    ·rcases e4 with ⟨q, _⟩ | ⟨_, q, _⟩
     ·exact q
     ·cases q
  ·rw [bif_f (decide_eq_false (by rw [hXl]; exact hg))]
   obtain ⟨X', again', e1, e2, e3, e4⟩ := ih (k + 1) X again (by omega) hX
   refine ⟨X', again', e1, e2, e3, ?_⟩
   rcases e4 with e4 | ⟨q1, q2, q3, q4⟩
   ·exact .inl e4
   ·refine .inr ⟨q1, q2, q3, fun j hj hjn => ?_⟩
    simp only [List.map_cons, List.mem_cons] at hj
    rcases hj with rfl | hj
    ·omega
    ·exact q4 j hj hjn
theorem R_sweep (hc : CodeOk c) (hf : FnOk c f) : ∀ (m i : Nat) (X : List TShape) (again : Bool), i + m = f.gIns.length → Inv (sy c f) X →
  ∃ X' again', R.l7Shapes.l130348 X again i c f = R.l7Shapes.l2036 X' again' c f ∧ Inv (sy c f) X' ∧ ranks (sy c f).S X ≤ ranks (sy c f).S X' ∧
   ((again' = true ∧ (again = true ∨ ranks (sy c f).S X < ranks (sy c f).S X')) ∨ (again' = false ∧ again = false ∧ X' = X ∧ ∀ j, i ≤ j → j < f.gIns.length → At (sy c f) X j)) := by
 have hi5 := hf.h.i5
 obtain ⟨hS1, hS2⟩ := slotsN hf
 intro m
 induction m with
 | zero =>
  intro i X again hi hX
  have hXl : X.length = f.gIns.length := hX.wf.1
  rw [R.l7Shapes.l130348_eq, bif_f (ge_dec (by omega))]
  refine ⟨X, again, rfl, hX, Nat.le_refl _, ?_⟩
  cases again with
  | true => exact .inl ⟨rfl, .inl rfl⟩
  | false => exact .inr ⟨rfl, rfl, rfl, fun j h1 h2 => by omega⟩
 | succ m ih =>
  intro i X again hi hX
  have hXl : X.length = f.gIns.length := hX.wf.1
  have hil : i < f.gIns.length := by omega
  rw [R.l7Shapes.l130348_eq, bif_t (lt_dec (by omega)), bif_t (inB_nat (by omega)), Int.toNat_natCast, getD_z]
  by_cases h0 : (X.getD i none_).gState = 0
  ·rw [bif_t (by simpa using h0), wi_succ (by omega)]
   obtain ⟨X', again', e1, e2, e3, e4⟩ := ih (i + 1) X again (by omega) hX
   refine ⟨X', again', e1, e2, e3, ?_⟩
   rcases e4 with e4 | ⟨q1, q2, q3, q4⟩
   ·exact .inl e4
   ·refine .inr ⟨q1, q2, q3, fun j h1 h2 => ?_⟩
    by_cases hji : j = i
    ·subst hji; exact fun h => absurd h0 h
    ·exact q4 j (by omega) h2
  ·rw [bif_f (by simpa using h0), bif_t (inB_nat (by omega)), R_behind hc hf hS1 hil (hX.wf.2 i hil), Option.bind_some, bif_t (inB_nat hil), R_goes _ _ (by omega), Option.bind_some]
   obtain ⟨X1, again1, a1, a2, a3, a4⟩ := R_inner hc hf hil (hX.wf.2 i hil) h0 (fun Y hY => hX.below Y hY i hil) _ 0 X again (Nat.zero_add _) hX
   have a1 : R.l7Shapes.l66738492 X again i (goz (f.gIns.getD i TIns.z) i) 0 c f (bhF c f i (X.getD i none_)) = _ := a1
   rw [a1]
   obtain ⟨X', again', e1, e2, e3, e4⟩ := ih (i + 1) X1 again1 (by omega) a2
   refine ⟨X', again', e1, e2, by omega, ?_⟩
   rcases e4 with ⟨q1, q2⟩ | ⟨q1, q2, q3, q4⟩
   ·refine .inl ⟨q1, ?_⟩
    rcases a4 with ⟨p1, p2⟩ | ⟨p1, p2, p3, p4⟩
    ·rcases p2 with p2 | p2
     ·exact .inl p2
     ·exact .inr (by omega)
    ·subst p3
     rcases q2 with q2 | q2
     ·rw [p1] at q2; cases q2
     ·exact .inr q2
   ·rcases a4 with ⟨p1, p2⟩ | ⟨p1, p2, p3, p4⟩
    ·rw [p1] at q2; cases q2
    ·subst p3
     refine .inr ⟨q1, p2, q3, fun j h1 h2 => ?_⟩
     by_cases hji : j = i
     ·subst hji
      exact fun _ => p4
     ·exact q4 j (by omega) h2
theorem R_fix (hc : CodeOk c) (hf : FnOk c f) : ∀ (N : Nat) (X : List TShape), Inv (sy c f) X → f.gIns.length * ((sy c f).S + 2) - ranks (sy c f).S X ≤ N → ∃ Y, R.l7Shapes.l2036 X true c f = some Y ∧ Sol (sy c f) Y ∧ Inv (sy c f) Y := by
 intro N
 induction N with
 | zero =>
  intro X hX hN
  rw [R.l7Shapes.l2036_eq, cond_true]
  obtain ⟨X', again', e1, e2, e3, e4⟩ := R_sweep hc hf f.gIns.length 0 X false (by omega) hX
  have e1 : R.l7Shapes.l130348 X false 0 c f = _ := e1
  rw [e1]
  rcases e4 with ⟨q1, q2⟩ | ⟨q1, q2, q3, q4⟩
  ·rcases q2 with q2 | q2
   ·cases q2
   ·have := ranks_le e2.wf
    simp only [sy] at this hN q2
    omega
  ·subst q3 q1
   rw [R.l7Shapes.l2036_eq, cond_false]
   exact ⟨_, rfl, ⟨hX.wf, hX.first, fun i hi => q4 i (by omega) hi⟩, hX⟩
 | succ N ih =>
  intro X hX hN
  rw [R.l7Shapes.l2036_eq, cond_true]
  obtain ⟨X', again', e1, e2, e3, e4⟩ := R_sweep hc hf f.gIns.length 0 X false (by omega) hX
  have e1 : R.l7Shapes.l130348 X false 0 c f = _ := e1
  rw [e1]
  rcases e4 with ⟨q1, q2⟩ | ⟨q1, q2, q3, q4⟩
  ·subst q1
   refine ih X' e2 ?_
   rcases q2 with q2 | q2
   ·cases q2
   ·omega
  ·subst q3 q1
   rw [R.l7Shapes.l2036_eq, cond_false]
   exact ⟨_, rfl, ⟨hX.wf, hX.first, fun i hi => q4 i (by omega) hi⟩, hX⟩
def start (c : TCode) (f : TFn) : List TShape := (List.replicate f.gIns.length none_).set 0 (sy c f).first
theorem start_inv (hc : CodeOk c) (hf : FnOk c f) : Inv (sy c f) (start c f) := by
 have hQ := syOk hc hf
 have hp := hf.h.i1
 have h0 : (start c f).getD 0 none_ = (sy c f).first := getD_set_eq (by simp; omega) _
 have hn : ∀ i, i ≠ 0 → (start c f).getD i none_ = none_ := fun i hi => by
  unfold start
  rw [getD_set_ne' (Ne.symm hi), List.getD_eq_getElem?_getD, List.getElem?_replicate]
  split <;> rfl
 refine ⟨⟨by simp [start, sy], fun i hi => ?_⟩, ?_, fun Y hY i hi => ?_⟩
 ·by_cases h : i = 0
  ·subst h; rw [h0]; exact hQ.first
  ·rw [hn i h]; exact .no
 ·rw [h0]; exact Le.refl hQ.first
 ·by_cases h : i = 0
  ·subst h; rw [h0]; exact hY.first
  ·rw [hn i h]; exact .no _
theorem R_pad (c : TCode) (f : TFn) (out : List TShape) (ps : List Int) (S : Nat) (hS : f.gSlots = S) (hp : ps.length ≤ S) (h2 : S ≤ 200) : ∀ (m k : Nat), ps.length + k + m = S →
  R.l7Shapes.l248 out c f 1 (ps ++ List.replicate k 0) [] = bif inB 0 out.length then R.l7Shapes.l2036 (out.set 0 ⟨1, ps ++ List.replicate (S - ps.length) 0, []⟩) true c f else none := by
 intro m
 induction m with
 | zero =>
  intro k hk
  rw [R.l7Shapes.l248_eq, bif_f (decide_eq_false (by simp; omega)), show k = S - ps.length by omega]
 | succ m ih =>
  intro k hk
  rw [R.l7Shapes.l248_eq, bif_t (decide_eq_true (by simp; omega)), bif_t (room_ok (by simp; omega))]
  have := ih (k + 1) (by omega)
  rw [← this, List.append_assoc, List.replicate_succ']
theorem R_shapes (hc : CodeOk c) {fn : Nat} (hfn : fn < c.gFns.length) (hf : FnOk c c.gFns[fn]) : ∃ Y, R.l7Shapes c fn = some Y ∧ Sol (sy c c.gFns[fn]) Y ∧ Inv (sy c c.gFns[fn]) Y := by
 rw [R.l7Shapes_eq, bif_t (inB_nat hfn), Int.toNat_natCast, getD_lt hfn]
 generalize c.gFns[fn] = f at hf
 have h5 := hf.h.i5
 have h1 := hf.h.i1
 have h8 := hf.h.p8
 have hs0 := hf.h.s0
 obtain ⟨hS1, hS2⟩ := slotsN hf
 rw [bif_t (by simp [room]; omega), bif_t (room_ok (by omega))]
 have := R_pad c f (List.replicate f.gIns.length (TShape.mk 0 [] [])) f.gParams (sy c f).S hS1 (by omega) hS2 _ 0 (Nat.add_sub_of_le (show f.gParams.length + 0 ≤ (sy c f).S by omega))
 rw [List.replicate_zero, List.append_nil] at this
 rw [this, bif_t (inB_iff.2 ⟨by omega, by simp; omega⟩)]
 exact R_fix hc hf _ (start c f) (start_inv hc hf) (Nat.le_refl _)
end
section
variable {c : TCode} {f : TFn}
structure WI (Q : Sy) (X : List TShape) (work : List Int) (on : List Bool) : Prop where
 wk : ∀ t ∈ work, ∃ j : Nat, t = (j : Int) ∧ j < Q.n ∧ (X.getD j none_).gState ≠ 0
 len : on.length = Q.n
 ls : ∀ j, j < Q.n → on.getD j false = true → (j : Int) ∈ work
structure WK (Q : Sy) (i : Nat) (s o : TShape) (done : List Nat) (X : List TShape) (work : List Int) (on : List Bool) : Prop extends WI Q X work on where
 at_ : ∀ j, j < Q.n → (j : Int) ∈ work ∨ At Q X j ∨ (j = i ∧ X.getD i none_ = s ∧ ∀ j' ∈ done, j' < Q.n → Le o (X.getD j' none_))
theorem getDb_set {on : List Bool} {j k : Nat} (hj : j < on.length) (b : Bool) : (on.set j b).getD k false = if j = k then b else on.getD k false := by
 rw [List.getD_eq_getElem?_getD, List.getD_eq_getElem?_getD, List.getElem?_set]
 by_cases h : j = k
 ·subst h; simp [hj]
 ·simp [h]
theorem WK.grow {Q : Sy} {i : Nat} {s o : TShape} {done : List Nat} {X : List TShape} {work work' : List Int} {on on' : List Bool} (h : WK Q i s o done X work on) (hX : Wfs Q.n Q.S X) {j : Nat} {v : TShape} (hj : j < Q.n)
  (hle : Le (X.getD j none_) v) (hv : v.gState ≠ 0) (hov : Le o v) (hw : ∀ t ∈ work, t ∈ work') (hw' : ∀ t ∈ work', t ∈ work ∨ t = (j : Int)) (hjw : (j : Int) ∈ work') (hl : on'.length = Q.n) (hon : ∀ k, k < Q.n → on'.getD k false = true → on.getD k false = true ∨ k = j) :
  WK Q i s o (done ++ [j]) (X.set j v) work' on' := by
 have hjl : j < X.length := by rw [hX.1]; exact hj
 have gr : ∀ k, k < Q.n → Le (X.getD k none_) ((X.set j v).getD k none_) := fun k hk => by
  by_cases hjk : j = k
  ·subst hjk; rw [getD_set_eq hjl]; exact hle
  ·rw [getD_set_ne' hjk]; exact Le.refl (hX.2 k hk)
 refine ⟨⟨fun t ht => ?_, hl, fun k hk hk' => ?_⟩, fun k hk => ?_⟩
 ·rcases hw' t ht with h1 | h1
  ·obtain ⟨k, h2, h3, h4⟩ := h.wk t h1
   exact ⟨k, h2, h3, (gr k h3).state h4⟩
  ·exact ⟨j, h1, hj, by rw [getD_set_eq hjl]; exact hv⟩
 ·rcases hon k hk hk' with h1 | h1
  ·exact hw _ (h.ls k hk h1)
  ·subst h1; exact hjw
 ·by_cases hjk : j = k
  ·subst hjk; exact .inl hjw
  ·rcases h.at_ k hk with h1 | h1 | ⟨h1, h2, h3⟩
   ·exact .inl (hw _ h1)
   ·refine .inr (.inl fun h0 j' hj' hn => ?_)
    rw [getD_set_ne' hjk] at h0 ⊢
    exact (h1 h0 j' hj' hn).trans (gr j' hn)
   ·subst h1
    refine .inr (.inr ⟨rfl, by rw [getD_set_ne' hjk]; exact h2, fun j' hj' hn => ?_⟩)
    rcases List.mem_append.1 hj' with h4 | h4
    ·exact (h3 j' h4 hn).trans (gr j' hn)
    ·rw [List.mem_singleton.1 h4, getD_set_eq hjl]; exact hov
theorem I_inner (hc : CodeOk c) (hf : FnOk c f) {i : Nat} (hi : i < f.gIns.length) {s : TShape} (hs : Wf (sy c f).S s) (hs0 : s.gState ≠ 0) (hle : ∀ Y, Sol (sy c f) Y → Le s (Y.getD i none_)) :
  ∀ (m k : Nat) (X : List TShape) (work : List Int) (on : List Bool), k + m = (goz (f.gIns.getD i TIns.z) i).length → Inv (sy c f) X →
   WK (sy c f) i s (bhF c f i s) (((goz (f.gIns.getD i TIns.z) i).take k).map Int.toNat) X work on → 2 * (f.gIns.length * ((sy c f).S + 2) - ranks (sy c f).S X) + work.length ≤ 100000000 →
  ∃ X' work' on', I.shapes.l4186876 X work on (goz (f.gIns.getD i TIns.z) i) (goz (f.gIns.getD i TIns.z) i).length k c f (bhF c f i s) = I.shapes.l4088 X' work' on' c f ∧ Inv (sy c f) X' ∧
   WK (sy c f) i s (bhF c f i s) (gos f i) X' work' on' ∧ 2 * (f.gIns.length * ((sy c f).S + 2) - ranks (sy c f).S X') + work'.length ≤ 2 * (f.gIns.length * ((sy c f).S + 2) - ranks (sy c f).S X) + work.length := by
 have hi5 := hf.h.i5
 have hgl := goz2 (f.gIns.getD i TIns.z) i
 have hpos := goz_pos hf hi
 have hQ := syOk hc hf
 obtain ⟨hS1, hS2⟩ := slotsN hf
 intro m
 induction m with
 | zero =>
  intro k X work on hk hX hW hM
  rw [I.shapes.l4186876_eq, bif_f (ge_dec (by omega))]
  refine ⟨X, work, on, rfl, hX, ?_, Nat.le_refl _⟩
  rw [List.take_of_length_le (by omega)] at hW
  exact hW
 | succ m ih =>
  intro k X work on hk hX hW hM
  have hkl : k < (goz (f.gIns.getD i TIns.z) i).length := by omega
  have hget := List.getElem?_eq_getElem hkl
  have hm := mem_gos hget
  have hp := hpos _ (List.getElem_mem hkl)
  have hXl : X.length = f.gIns.length := hX.wf.1
  have hol : on.length = f.gIns.length := hW.len
  have htake : ((goz (f.gIns.getD i TIns.z) i).take (k + 1)).map Int.toNat = ((goz (f.gIns.getD i TIns.z) i).take k).map Int.toNat ++ [((goz (f.gIns.getD i TIns.z) i)[k]).toNat] := by
   rw [List.take_add_one, hget, List.map_append]; rfl
  have ih := fun X work on => ih (k + 1) X work on (by omega)
  rw [htake] at ih
  rw [I.shapes.l4186876_eq, bif_t (lt_dec hkl), bif_t (inB_nat hkl), Int.toNat_natCast, getD_lt hkl, wi_succ (by omega)]
  generalize (goz (f.gIns.getD i TIns.z) i)[k] = g at hm hp ih
  by_cases hg : g = (f.gIns.length : Int)
  ·rw [bif_t (by simpa using hg)]
   refine ih X work on hX ⟨hW.toWI, fun j hj => ?_⟩ hM
   rcases hW.at_ j hj with h1 | h1 | ⟨h1, h2, h3⟩
   ·exact .inl h1
   ·exact .inr (.inl h1)
   ·refine .inr (.inr ⟨h1, h2, fun j' hj' hn => ?_⟩)
    rcases List.mem_append.1 hj' with h4 | h4
    ·exact h3 j' h4 hn
    ·rw [List.mem_singleton.1 h4] at hn
     have hn : g.toNat < f.gIns.length := hn
     omega
  ·have hj : g.toNat < f.gIns.length := by omega
   have hb : inB g X.length = true := inB_iff.2 ⟨hp.1, by omega⟩
   have hbo : inB g on.length = true := inB_iff.2 ⟨hp.1, by omega⟩
   have hgn : ((g.toNat : Nat) : Int) = g := by omega
   have w1 : Wf (sy c f).S (X.getD g.toNat none_) := hX.wf.2 _ hj
   have w2 : Wf (sy c f).S (bhF c f i s) := hQ.wf i s hi hs
   have o0 : (bhF c f i s).gState ≠ 0 := hQ.st i s hi hs
   obtain ⟨s1, s2, s3, s4⟩ := hX.step hQ hi hj hm hs hs0 hle
   have s1 : Inv (sy c f) (X.set g.toNat (jn (X.getD g.toNat none_) (bhF c f i s))) := s1
   have s2 : Le (X.getD g.toNat none_) (jn (X.getD g.toNat none_) (bhF c f i s)) := s2
   have s3 : Le (bhF c f i s) (jn (X.getD g.toNat none_) (bhF c f i s)) := s3
   have s4 : jn (X.getD g.toNat none_) (bhF c f i s) ≠ X.getD g.toNat none_ → ranks (sy c f).S X < ranks (sy c f).S (X.set g.toNat (jn (X.getD g.toNat none_) (bhF c f i s))) := s4
   have hz : X.getD g.toNat TShape.z = X.getD g.toNat none_ := rfl
   rw [bif_f (b := g == (f.gIns.length : Int)) (by simpa using hg), bif_t hb, hz, I_join hS2 w1 w2, Option.bind_some]
   generalize jn (X.getD g.toNat none_) (bhF c f i s) = v at *
   simp only
   by_cases he : v = X.getD g.toNat none_
   ·rw [bif_f (by simp only [he, ne_eq, not_true_eq_false, decide_false])]
    refine ih X work on hX ⟨hW.toWI, fun j hj' => ?_⟩ hM
    rcases hW.at_ j hj' with h1 | h1 | ⟨h1, h2, h3⟩
    ·exact .inl h1
    ·exact .inr (.inl h1)
    ·refine .inr (.inr ⟨h1, h2, fun j' hj' hn => ?_⟩)
     rcases List.mem_append.1 hj' with h4 | h4
     ·exact h3 j' h4 hn
     ·rw [List.mem_singleton.1 h4, ← he]; exact s3
   ·rw [bif_t (decide_eq_true he), bif_t hb, bif_t hbo]
    have hlt := s4 he
    have hrk := ranks_le s1.wf
    have hrk : ranks (sy c f).S (X.set g.toNat v) ≤ f.gIns.length * ((sy c f).S + 2) := hrk
    have v0 : v.gState ≠ 0 := s3.state o0
    cases hob : on.getD g.toNat false with
    | true =>
     have hin : ((g.toNat : Nat) : Int) ∈ work := hW.ls _ hj hob
     rw [Bool.not_true, cond_false]
     have hW' := hW.grow hX.wf (j := g.toNat) (v := v) (work' := work) (on' := on) hj s2 v0 s3 (fun t ht => ht) (fun t ht => .inl ht) hin hW.len (fun k _ h => .inl h)
     obtain ⟨X', work', on', e1, e2, e3, e4⟩ := ih (X.set g.toNat v) work on s1 hW' (by omega)
     exact ⟨X', work', on', e1, e2, e3, by omega⟩
    | false =>
     rw [Bool.not_false, cond_true, bif_t hbo, bif_t (room_ok (by simp; omega))]
     have hW' := hW.grow hX.wf (j := g.toNat) (v := v) (work' := work ++ [g]) (on' := on.set g.toNat true) hj s2 v0 s3 (fun t ht => List.mem_append_left _ ht) (fun t ht => by
      rcases List.mem_append.1 ht with h | h
      ·exact .inl h
      ·right; rw [List.mem_singleton.1 h, hgn]) (by rw [hgn]; simp) ((List.length_set ..).trans hol) (fun k hk h => by
      rw [getDb_set (by omega)] at h
      split at h
      ·rename_i e; exact .inr e.symm
      ·exact .inl h)
     obtain ⟨X', work', on', e1, e2, e3, e4⟩ := ih (X.set g.toNat v) (work ++ [g]) (on.set g.toNat true) s1 hW' (by simp; omega)
     refine ⟨X', work', on', e1, e2, e3, ?_⟩
     simp only [List.length_append, List.length_cons, List.length_nil] at e4
     omega
theorem efI_bh {i : Nat} {sl st : List Int} : (bif (efI c f i sl st).2 then (efI c f i sl st).1 else bads) = bhF c f i ⟨1, sl, st⟩ := by
 unfold efI bhF
 simp only [if_true]
 cases eff c f i sl st <;> rfl
theorem I_work (hc : CodeOk c) (hf : FnOk c f) : ∀ (N : Nat) (X : List TShape) (work : List Int) (on : List Bool), Inv (sy c f) X → WI (sy c f) X work on → (∀ j, j < f.gIns.length → (j : Int) ∈ work ∨ At (sy c f) X j) →
  2 * (f.gIns.length * ((sy c f).S + 2) - ranks (sy c f).S X) + work.length = N → N ≤ 100000000 →
  ∃ Y, I.shapes.l4088 X work on c f = I.shapes.l32756 Y (-1) Y Y.length 0 c f ∧ Sol (sy c f) Y ∧ Inv (sy c f) Y := by
 have hi5 := hf.h.i5
 have hQ := syOk hc hf
 obtain ⟨hS1, hS2⟩ := slotsN hf
 intro N
 induction N using Nat.strongRecOn with
 | ind N ih =>
 intro X work on hX hW hA hN hM
 have hXl : X.length = f.gIns.length := hX.wf.1
 have hol : on.length = f.gIns.length := hW.len
 rw [I.shapes.l4088_eq]
 by_cases h0 : work.length = 0
 ·rw [bif_f (decide_eq_false (by omega))]
  have hnil := List.length_eq_zero_iff.1 h0
  exact ⟨X, rfl, ⟨hX.wf, hX.first, fun i hi => (hA i hi).resolve_left (by rw [hnil]; simp)⟩, hX⟩
 ·have hw1 : work.length - 1 < work.length := by omega
  have e : IntKind.i64.wrap ((work.length : Int) - 1) = ((work.length - 1 : Nat) : Int) := by rw [wi (by omega) (by omega)]; omega
  rw [bif_t (decide_eq_true (by omega))]
  simp only [e, Int.toNat_natCast]
  rw [bif_t (inB_nat hw1), bif_t (inS_iff.2 ⟨by omega, by omega, by omega⟩), getD_lt hw1]
  obtain ⟨i, hti, hi, hs0⟩ := hW.wk _ (List.getElem_mem hw1)
  have hsplit : work = work.take (work.length - 1) ++ [(i : Int)] := by
   have h1 := List.take_append_drop (work.length - 1) work
   rw [drop_get hw1, hti, List.drop_eq_nil_of_le (by omega)] at h1
   exact h1.symm
  rw [hti]
  simp only [Int.toNat_natCast]
  have hi : i < f.gIns.length := hi
  have hz : X.getD i TShape.z = X.getD i none_ := rfl
  rw [bif_t (inB_nat (by omega)), bif_t (inB_nat (by omega)), hz]
  have hmem : ∀ t ∈ work, t ∈ work.take (work.length - 1) ∨ t = (i : Int) := fun t ht => by
   rw [hsplit] at ht
   rcases List.mem_append.1 ht with h | h
   ·exact .inl h
   ·exact .inr (List.mem_singleton.1 h)
  have hwl : (work.take (work.length - 1)).length = work.length - 1 := by simp
  have hwk : WK (sy c f) i (X.getD i none_) (bhF c f i (X.getD i none_)) (((goz (f.gIns.getD i TIns.z) i).take 0).map Int.toNat) X (work.take (work.length - 1)) (on.set i false) := by
   refine ⟨⟨fun t ht => hW.wk t (List.mem_of_mem_take ht), (List.length_set ..).trans hol, fun j hj hb => ?_⟩, fun j hj => ?_⟩
   ·rw [getDb_set (by omega)] at hb
    split at hb
    ·cases hb
    ·rename_i hne
     rcases hmem _ (hW.ls j hj hb) with h | h
     ·exact h
     ·omega
   ·rcases hA j hj with h | h
    ·rcases hmem _ h with h | h
     ·exact .inl h
     ·exact .inr (.inr ⟨by omega, rfl, fun j' hj' => by simp at hj'⟩)
    ·exact .inr (.inl h)
  have fin : ∃ Y, I.shapes.l4186876 X (work.take (work.length - 1)) (on.set i false) (goz (f.gIns.getD i TIns.z) i) (goz (f.gIns.getD i TIns.z) i).length 0 c f (bhF c f i (X.getD i none_)) = I.shapes.l32756 Y (-1) Y Y.length 0 c f ∧ Sol (sy c f) Y ∧ Inv (sy c f) Y := by
   obtain ⟨X', work', on', e1, e2, e3, e4⟩ := I_inner hc hf hi (hX.wf.2 i hi) hs0 (fun Y hY => hX.below Y hY i hi) _ 0 X _ _ (Nat.zero_add _) hX hwk (by omega)
   have e1 : I.shapes.l4186876 X (work.take (work.length - 1)) (on.set i false) (goz (f.gIns.getD i TIns.z) i) (goz (f.gIns.getD i TIns.z) i).length 0 c f (bhF c f i (X.getD i none_)) = _ := e1
   rw [e1]
   refine ih (2 * (f.gIns.length * ((sy c f).S + 2) - ranks (sy c f).S X') + work'.length) (by omega) X' work' on' e2 e3.toWI (fun j hj => ?_) rfl (by omega)
   rcases e3.at_ j hj with h | h | ⟨h1, h2, h3⟩
   ·exact .inl h
   ·exact .inr h
   ·subst h1
    refine .inr fun _ => ?_
    rw [h2]
    exact h3
  have hg := I_goes (f.gIns.getD i TIns.z) i (by omega)
  have hw := hX.wf.2 i hi
  revert fin hs0 hw
  generalize X.getD i none_ = s
  intro hs0 fin hw
  cases hw with
  | no => simp [none_] at hs0
  | bad =>
   have hb : bhF c f i bads = bads := by unfold bhF; simp [bads]
   rw [hb] at fin
   rw [bif_f (by simp [bads]), bif_t (inB_nat hi), hg, Option.bind_some]
   exact fin
  | is sl st h1 h2 h3 h4 =>
   rw [bif_t (by simp), bif_t (inB_nat (by omega)), I_effect hc hf hi (by omega) h2 h3 h4, Option.bind_some]
   have hb := efI_bh (c := c) (f := f) (i := i) (sl := sl) (st := st)
   rw [← hb] at fin
   cases hef : (efI c f i sl st).2 with
   | true =>
    rw [hef, cond_true] at fin
    rw [cond_true, bif_t (inB_nat hi), hg, Option.bind_some]
    exact fin
   | false =>
    rw [hef, cond_false] at fin
    rw [cond_false, bif_t (inB_nat hi), hg, Option.bind_some]
    exact fin
theorem I_shapes (hc : CodeOk c) {fn : Nat} (hfn : fn < c.gFns.length) (hf : FnOk c c.gFns[fn]) : ∃ Y, I.shapes c fn = I.shapes.l32756 Y (-1) Y Y.length 0 c c.gFns[fn] ∧ Sol (sy c c.gFns[fn]) Y ∧ Inv (sy c c.gFns[fn]) Y := by
 rw [I.shapes_eq, bif_t (inB_nat hfn), Int.toNat_natCast, getD_lt hfn]
 generalize c.gFns[fn] = f at hf
 have h5 := hf.h.i5
 have h1 := hf.h.i1
 have h8 := hf.h.p8
 have hs0 := hf.h.s0
 obtain ⟨hS1, hS2⟩ := slotsN hf
 have hSn : f.gSlots.toNat = (sy c f).S := rfl
 have hQ := syOk hc hf
 have e : (List.take 0 (List.replicate f.gSlots.toNat (0 : Int)) ++ List.take ((List.replicate f.gSlots.toNat (0 : Int)).length - 0) f.gParams ++ List.drop (0 + min f.gParams.length ((List.replicate f.gSlots.toNat (0 : Int)).length - 0)) (List.replicate f.gSlots.toNat (0 : Int))) = (sy c f).first.gSlots := by
  simp only [List.take_zero, List.nil_append, List.length_replicate, Nat.sub_zero, Nat.zero_add, sy, List.drop_replicate]
  rw [List.take_of_length_le (by omega), Nat.min_eq_left (by omega)]
 rw [bif_t (by simp [room]; omega), bif_t (by simp [room]; omega), bif_t (inB_iff.2 ⟨by omega, by simp; omega⟩), bif_t (by simp [room]; omega), e]
 have hst := start_inv hc hf
 have h0 : (start c f).getD 0 none_ = (sy c f).first := getD_set_eq (by simp; omega) _
 refine I_work hc hf _ (start c f) [0] (List.replicate f.gIns.length false) hst ⟨fun t ht => ⟨0, by simpa using ht, hQ.pos, by rw [h0]; exact hQ.first0⟩, by simp [sy], fun j hj hb => ?_⟩ (fun j hj => ?_) rfl ?_
 ·rw [List.getD_eq_getElem?_getD, List.getElem?_replicate] at hb
  split at hb <;> simp at hb
 ·by_cases h : j = 0
  ·subst h; exact .inl (by simp)
  ·refine .inr fun hh => ?_
   unfold start at hh
   rw [getD_set_ne' (Ne.symm h), List.getD_eq_getElem?_getD, List.getElem?_replicate] at hh
   split at hh <;> simp [none_] at hh
 ·have : f.gIns.length * ((sy c f).S + 2) ≤ 50000 * 202 := Nat.mul_le_mul h5 (by omega)
  simp only [List.length_cons, List.length_nil]
  omega
end
section
theorem and_bif (p q : Bool) : (bif p then some q else some false) = some (p && q) := by cases p <;> rfl
theorem nand_bif (p q : Bool) : (bif !p then some false else some q) = some (p && q) := by cases p <;> rfl
def isL (b : Int) : Bool := decide (97 ≤ b) && decide (b ≤ 122)
def isD (b : Int) : Bool := decide (48 ≤ b) && decide (b ≤ 57)
def isW (b : Int) : Bool := isL b || (isD b || b == 95)
theorem R_letter (b : Int) : R.l1Letter b = some (isL b) := by rw [R.l1Letter_eq]; exact and_bif _ _
theorem I_lower (b : Int) : I.lower b = some (isL b) := by rw [I.lower_eq]; exact and_bif _ _
theorem R_digit (b : Int) : R.l1Digit b = some (isD b) := by rw [R.l1Digit_eq]; exact and_bif _ _
theorem I_digit (b : Int) : I.digit b = some (isD b) := by rw [I.digit_eq]; exact and_bif _ _
theorem R_tail (b : Int) : R.l1Tail b = some (isW b) := by
 rw [R.l1Tail_eq, R_letter, Option.bind_some, R_digit, Option.bind_some]
 unfold isW
 cases isL b <;> cases isD b <;> rfl
theorem I_wordy (b : Int) : I.wordy b = some (isW b) := by
 rw [I.wordy_eq, I_lower, Option.bind_some, I_digit, Option.bind_some]
 unfold isW
 cases isL b <;> cases isD b <;> rfl
theorem all_run {α : Type} (xs : List α) (p : α → Bool) (F : Int → Option Bool) (fin : Option Bool)
  (h : ∀ k (hk : k < xs.length), F (k : Int) = bif p xs[k] then F ((k + 1 : Nat) : Int) else some false) (hend : F (xs.length : Int) = fin) : F 0 = bif xs.all p then fin else some false := by
 have key : ∀ m k : Nat, k + m = xs.length → F (k : Int) = bif (xs.drop k).all p then fin else some false := by
  intro m
  induction m with
  | zero =>
   intro k hk
   rw [List.drop_eq_nil_of_le (by omega), show k = xs.length by omega, hend]
   rfl
  | succ m ih =>
   intro k hk
   have hkl : k < xs.length := by omega
   rw [h k hkl, ih (k + 1) (by omega), drop_get hkl, List.all_cons]
   cases p xs[k] <;> rfl
 exact key xs.length 0 (by omega)
theorem name_same (s : ByteArray) : ∃ b, I.nameOk s = some b ∧ R.l1NameOk s = some b := by
 rw [I.nameOk_eq, R.l1NameOk_eq]
 by_cases h1 : (s.size : Int) < 1
 ·rw [bif_t (b := decide ((s.size : Int) < 1)) (by simpa using h1), bif_t (b := decide ((s.size : Int) < 1)) (by simpa using h1)]; exact ⟨false, rfl, rfl⟩
 ·rw [bif_f (b := decide ((s.size : Int) < 1)) (by simpa using h1), bif_f (b := decide ((s.size : Int) < 1)) (by simpa using h1)]
  by_cases h2 : (s.size : Int) > 30
  ·rw [bif_t (b := decide ((s.size : Int) > 30)) (by simpa using h2), bif_t (b := decide ((s.size : Int) > 30)) (by simpa using h2)]; exact ⟨false, rfl, rfl⟩
  ·rw [bif_f (b := decide ((s.size : Int) > 30)) (by simpa using h2), bif_f (b := decide ((s.size : Int) > 30)) (by simpa using h2), bif_t (b := inB 0 s.size) (by simp [inB]; omega), bif_t (b := inB 0 s.size) (by simp [inB]; omega), I_lower, R_letter, Option.bind_some, Option.bind_some]
   cases isL (bt s 0) with
   | false => exact ⟨false, rfl, rfl⟩
   | true =>
    rw [Bool.not_true, cond_false, cond_false, I_taken, R_taken, Option.bind_some, Option.bind_some]
    cases taken s with
    | true => exact ⟨false, rfl, rfl⟩
    | false =>
     rw [cond_false, cond_false]
     have e1 := all_run (List.range s.size) (fun k => isW (bt s (k : Nat))) (fun k => I.nameOk.l116 s k) (some true) (fun k hk => by
      rw [List.length_range] at hk
      show I.nameOk.l116 s k = _
      rw [I.nameOk.l116_eq, bif_t (lt_dec hk), bif_t (inB_nat hk), I_wordy, Option.bind_some, wi_succ (by omega), List.getElem_range]
      cases isW (bt s k) <;> rfl) (by rw [List.length_range, I.nameOk.l116_eq, bif_f (ge_dec (Nat.le_refl _))])
     have e2 := all_run (List.range s.size) (fun k => isW (bt s (k : Nat))) (fun k => R.l1NameOk.l116 s k) (some true) (fun k hk => by
      rw [List.length_range] at hk
      show R.l1NameOk.l116 s k = _
      rw [R.l1NameOk.l116_eq, bif_t (lt_dec hk), bif_t (inB_nat hk), R_tail, Option.bind_some, wi_succ (by omega), List.getElem_range]
      cases isW (bt s k) <;> rfl) (by rw [List.length_range, R.l1NameOk.l116_eq, bif_f (ge_dec (Nat.le_refl _))])
     refine ⟨(List.range s.size).all fun k => isW (bt s (k : Nat)), e1.trans ?_, e2.trans ?_⟩ <;> (cases (List.range s.size).all fun k => isW (bt s (k : Nat))) <;> rfl
end
section
variable {c : TCode} {f : TFn}
noncomputable def nm (s : ByteArray) : Bool := (I.nameOk s).getD false
theorem I_nm (s : ByteArray) : I.nameOk s = some (nm s) := by
 obtain ⟨b, h1, h2⟩ := name_same s
 unfold nm; rw [h1]; rfl
theorem R_nm (s : ByteArray) : R.l1NameOk s = some (nm s) := by
 obtain ⟨b, h1, h2⟩ := name_same s
 unfold nm; rw [h1]; exact h2
theorem R_in (n l h : Int) : R.l7In n l h = some (decide (l ≤ n) && decide (n ≤ h)) := by rw [R.l7In_eq]; exact and_bif _ _
theorem gt_bif (a b : Int) (q : Bool) : (bif decide (a > b) then some false else some q) = some (decide (a ≤ b) && q) := by
 by_cases h : a ≤ b
 ·rw [bif_f (decide_eq_false (by omega)), decide_eq_true h, Bool.true_and]
 ·rw [bif_t (decide_eq_true (by omega)), decide_eq_false h, Bool.false_and]
theorem lt_bif (a b : Int) (q : Bool) : (bif decide (a < b) then some false else some q) = some (decide (b ≤ a) && q) := by
 by_cases h : b ≤ a
 ·rw [bif_f (decide_eq_false (by omega)), decide_eq_true h, Bool.true_and]
 ·rw [bif_t (decide_eq_true (by omega)), decide_eq_false h, Bool.false_and]
def okP (p : Int) : Bool := decide (1 ≤ p) && decide (p ≤ 10)
noncomputable def headB (f : TFn) : Bool :=
 nm f.gName && (decide ((f.gParams.length : Int) ≤ 8) && (decide (0 ≤ f.gResult) && (decide (f.gResult ≤ 10) && (f.gParams.all okP && (decide ((f.gParams.length : Int) ≤ f.gSlots) && (decide (f.gSlots ≤ 200) && (decide (1 ≤ (f.gIns.length : Int)) && decide ((f.gIns.length : Int) ≤ 50000))))))))
theorem headB_ok (h : headB f = true) : HeadOk f := by
 unfold headB at h
 simp only [Bool.and_eq_true, decide_eq_true_eq] at h
 obtain ⟨h1, h2, h3, h4, h5, h6, h7, h8, h9⟩ := h
 refine ⟨by omega, fun x hx => ?_, h3, h4, h6, h7, by omega, by omega⟩
 have := List.all_eq_true.1 h5 x hx
 unfold okP at this
 simpa using this
theorem I_head (hp : f.gParams.length ≤ 1048576) : I.headOk f = some (headB f) := by
 have fin : I.headOk.l116 f.gParams f.gParams.length f.gParams.length f = some (decide ((f.gParams.length : Int) ≤ f.gSlots) && (decide (f.gSlots ≤ 200) && (decide (1 ≤ (f.gIns.length : Int)) && decide ((f.gIns.length : Int) ≤ 50000)))) := by
  rw [I.headOk.l116_eq, bif_f (ge_dec (Nat.le_refl _))]
  simp only [and_bif, ge_iff_le]
 have loop := all_run f.gParams okP (fun k => I.headOk.l116 f.gParams f.gParams.length k f) _ (fun k hk => by
  show I.headOk.l116 f.gParams f.gParams.length k f = _
  rw [I.headOk.l116_eq, bif_t (lt_dec hk), bif_t (inB_nat hk), Int.toNat_natCast, getD_lt hk, wi_succ (by omega)]
  unfold okP
  by_cases h1 : 1 ≤ f.gParams[k] <;> by_cases h2 : f.gParams[k] ≤ 10
  ·rw [bif_f (decide_eq_false (by omega)), bif_f (decide_eq_false (by omega))]; simp [h1, h2]
  ·rw [bif_f (decide_eq_false (by omega)), bif_t (decide_eq_true (by omega))]; simp [h1, h2]
  ·rw [bif_t (decide_eq_true (by omega))]; simp [h1, h2]
  ·rw [bif_t (decide_eq_true (by omega))]; simp [h1, h2]) fin
 have loop : I.headOk.l116 f.gParams f.gParams.length 0 f = _ := loop
 rw [I.headOk_eq, I_nm, Option.bind_some, loop, and_bif, gt_bif, lt_bif, gt_bif, nand_bif]
 rfl
def newName (c : TCode) (k : Nat) (f : TFn) : Bool := (c.gFns.take k).all fun g => decide (g.gName ≠ f.gName)
theorem R_fnok (hl : c.gFns.length ≤ 1048576) {k : Nat} (hk : k < c.gFns.length) (hp : c.gFns[k].gParams.length ≤ 1048576) : R.l7FnOk c k = some (headB c.gFns[k] && newName c k c.gFns[k]) := by
 rw [R.l7FnOk_eq, bif_t (inB_nat hk), Int.toNat_natCast, getD_lt hk]
 generalize c.gFns[k] = f at hp
 have names := all_run (c.gFns.take k) (fun g => decide (g.gName ≠ f.gName)) (fun i => R.l7FnOk.l500 k i c f) (some true) (fun i hi => by
  show R.l7FnOk.l500 k i c f = _
  have hik : i < k := by simp at hi; omega
  have hil : i < c.gFns.length := by omega
  rw [R.l7FnOk.l500_eq, bif_t (lt_dec hik), bif_t (inB_nat hil), Int.toNat_natCast, getD_lt hil, wi_succ (by omega), bEq_dec, List.getElem_take]
  by_cases h : c.gFns[i].gName = f.gName <;> simp [h]) (by
  show R.l7FnOk.l500 k ((c.gFns.take k).length : Nat) c f = _
  have : (c.gFns.take k).length = k := by simp; omega
  rw [this, R.l7FnOk.l500_eq, bif_f (ge_dec (Nat.le_refl _))])
 have names : R.l7FnOk.l500 k 0 c f = some (newName c k f) := by
  have h : R.l7FnOk.l500 k 0 c f = _ := names
  rw [h]; unfold newName; cases (c.gFns.take k).all fun g => decide (g.gName ≠ f.gName) <;> rfl
 have loop := all_run f.gParams okP (fun i => R.l7FnOk.l244 k i c f) (some (newName c k f)) (fun i hi => by
  show R.l7FnOk.l244 k i c f = _
  rw [R.l7FnOk.l244_eq, bif_t (lt_dec hi), bif_t (inB_nat hi), Int.toNat_natCast, getD_lt hi, wi_succ (by omega), R_in, Option.bind_some]
  unfold okP
  cases (decide (1 ≤ f.gParams[i]) && decide (f.gParams[i] ≤ 10)) <;> rfl) (by
  show R.l7FnOk.l244 k (f.gParams.length : Nat) c f = _
  rw [R.l7FnOk.l244_eq, bif_f (ge_dec (Nat.le_refl _)), names])
 have loop : R.l7FnOk.l244 k 0 c f = _ := loop
 rw [R_nm, Option.bind_some, R_in, Option.bind_some, R_in, Option.bind_some, R_in, Option.bind_some, loop]
 simp only [and_bif, nand_bif, gt_bif]
 unfold headB
 congr 1
 ac_rfl
theorem R_hasA (op : Int) : R.l7HasA op = some (decide (op = 1) || (decide (op = 2) || (decide (op = 3) || (decide (5 ≤ op) && decide (op ≤ 12))))) := by
 rw [R.l7HasA_eq, R_in, Option.bind_some]
 by_cases h1 : op = 1
 ·simp [h1]
 ·by_cases h2 : op = 2
  ·simp [h2]
  ·by_cases h3 : op = 3
   ·simp [h3]
   ·simp [bif_if, h1, h2, h3]
theorem ops16 (op : Int) : op = 1 ∨ op = 2 ∨ op = 3 ∨ op = 4 ∨ op = 5 ∨ op = 6 ∨ op = 7 ∨ op = 8 ∨ op = 9 ∨ op = 10 ∨ op = 11 ∨ op = 12 ∨ op = 13 ∨ op = 14 ∨ op = 15 ∨ op = 16 ∨ (op < 1 ∨ 16 < op) := by omega
theorem I_in (a b lo hi : Int) (n : Int) (t : ByteArray) : (I.insOk_1 (a, b, n, t) lo hi).bind (fun (r0 : (Bool × (Int × (Int × (Int × ByteArray))))) => some r0.fst) = some (decide (lo ≤ b) && decide (b ≤ hi)) := by
 rw [I.insOk_1_eq]
 by_cases h : lo ≤ b
 ·rw [bif_t (decide_eq_true (by omega)), Option.bind_some, decide_eq_true h, Bool.true_and]
 ·rw [bif_f (decide_eq_false (by omega)), Option.bind_some, decide_eq_false h, Bool.false_and]
theorem id_bind (b : Bool) : ((some b).bind fun (r0 : Bool) => some r0) = some b := rfl
theorem ne_bif (p : Int) (q : Bool) : (bif p != 0 then some false else some q) = some (decide (p = 0) && q) := by by_cases h : p = 0 <;> simp [bif_if, h]
theorem nd_bif (p : Prop) [Decidable p] (q : Bool) : (bif !decide p then some false else some q) = some (decide p && q) := by by_cases h : p <;> simp [h]
theorem ret_bif (a r : Int) : (bif a == 1 then bif r != 0 then some true else bif a == 0 then some (r == 0) else some false else bif a == 0 then some (r == 0) else some false) = some ((decide (a = 1) && decide (r ≠ 0)) || (decide (a = 0) && decide (r = 0))) := by
 by_cases h1 : a = 1
 ·subst h1; by_cases h2 : r = 0 <;> simp [bif_if, h2]
 ·by_cases h0 : a = 0
  ·subst h0; by_cases h2 : r = 0 <;> simp [bif_if, h2]
  ·simp [bif_if, h1, h0]
theorem I_ins (hc : c.gFns.length ≤ 1048576) (hs : -1000 ≤ f.gSlots ∧ f.gSlots ≤ 1000) (x : TIns) : I.insOk c f x = some (insOk c f x) := by
 obtain ⟨op, A, N, T⟩ := x
 have w1 : IntKind.i64.wrap (f.gSlots - 1) = f.gSlots - 1 := wi (by omega) (by omega)
 have w2 : IntKind.i64.wrap ((c.gFns.length : Int) - 1) = (c.gFns.length : Int) - 1 := wi (by omega) (by omega)
 rw [I.insOk_eq]
 rcases ops16 op with rfl | rfl | rfl | rfl | rfl | rfl | rfl | rfl | rfl | rfl | rfl | rfl | rfl | rfl | rfl | rfl | ho
 ·simp only [Int.reduceBEq, cond_true, I_valid, id_bind]
  rfl
 iterate 15
  ·simp only [Int.reduceBEq, cond_true, cond_false, I.insOk.l501_eq, I.insOk.l2056191_eq, I_in, w1, w2, bEq_dec, ret_bif, ne_bif, nd_bif]
   simp [insOk]
   try (by_cases hA : A = 0 <;> simp [hA])
 ·have f0 : ∀ k : Int, 1 ≤ k → k ≤ 16 → (op == k) = false := fun k h1 h2 => by simp; omega
  have f1 : ∀ k : Int, 1 ≤ k → k ≤ 16 → ¬ op = k := fun k h1 h2 => by omega
  simp only [f0 1 (by omega) (by omega), f0 2 (by omega) (by omega), f0 3 (by omega) (by omega), f0 4 (by omega) (by omega), f0 5 (by omega) (by omega), f0 6 (by omega) (by omega), f0 7 (by omega) (by omega), f0 8 (by omega) (by omega), f0 9 (by omega) (by omega),
   f0 10 (by omega) (by omega), f0 11 (by omega) (by omega), f0 12 (by omega) (by omega), f0 13 (by omega) (by omega), f0 14 (by omega) (by omega), f0 15 (by omega) (by omega), f0 16 (by omega) (by omega), cond_true, cond_false, I.insOk.l501_eq, I.insOk.l2056191_eq, bEq_dec, ne_bif, nd_bif]
  simp [insOk, f1]
theorem R_ins (hc : c.gFns.length ≤ 1048576) (hs : -1000 ≤ f.gSlots ∧ f.gSlots ≤ 1000) (x : TIns) : R.l7InsOk c f x = some (insOk c f x) := by
 obtain ⟨op, A, N, T⟩ := x
 have w1 : IntKind.i64.wrap (f.gSlots - 1) = f.gSlots - 1 := wi (by omega) (by omega)
 have w2 : IntKind.i64.wrap ((c.gFns.length : Int) - 1) = (c.gFns.length : Int) - 1 := wi (by omega) (by omega)
 rw [R.l7InsOk_eq]
 simp only [R_in, R_hasA, Option.bind_some]
 rcases ops16 op with rfl | rfl | rfl | rfl | rfl | rfl | rfl | rfl | rfl | rfl | rfl | rfl | rfl | rfl | rfl | rfl | ho
 ·simp [R_valid, insOk]
 iterate 15
  ·simp only [Int.reduceBEq, Int.reduceEq, Int.reduceLE, decide_true, decide_false, Bool.and_true, Bool.true_and, Bool.and_false, Bool.or_true, Bool.true_or, Bool.or_false, Bool.or_self, Bool.and_self, Bool.not_true, Bool.not_false, cond_true, cond_false, R.l7InsOk.l501_eq, R.l7InsOk.l2056191_eq, R_in, R_integer, id_bind, w1, w2, bEq_dec, ret_bif, ne_bif, nd_bif]
   simp [insOk]
   try (by_cases hA : A = 0 <;> simp [hA])
 ·have h1 : (decide (1 ≤ op) && decide (op ≤ 16)) = false := by simp; omega
  have f1 : ∀ k : Int, 1 ≤ k → k ≤ 16 → ¬ op = k := fun k h1 h2 => by omega
  rw [h1, Bool.not_false, cond_true]
  simp [insOk, f1]
end
end Go.KM.M1
