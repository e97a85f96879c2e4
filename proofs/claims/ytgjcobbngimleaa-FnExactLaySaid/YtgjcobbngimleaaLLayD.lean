/- Plain laws: the program's Lay and the reference's; the law FnExactLay. Conditions: none. -/
import Derived.Test.YtgjcobbngimleaaLLayC
namespace Go.KM.L1
open Go Go.KM
open Go.KM.Fam (Dn dflt)
open Go.KM.Enc (cells sz mkE glob gany u8)
set_option autoImplicit false
set_option linter.unusedVariables false
set_option linter.unusedSimpArgs false
set_option maxRecDepth 100000
theorem lay_run (fs : List TFile) (hl : fs.length ≤ 40) : ∀ (m i : Nat) (out : List TFile), i + m = fs.length → out.length ≤ 40 + i → Srt out →
    ∃ r, R.Lay.l244 fs out i ⟨[]⟩ = some r ∧ I.Lay.l244 out fs fs.length i ⟨[]⟩ = some r ∧ r.1.gFiles.length ≤ 40 := by
  intro m
  induction m with
  | zero =>
    intro i out hi ho hs
    rw [R.Lay.l244_eq, I.Lay.l244_eq, bif_f (ge_dec (by omega)), bif_f (ge_dec (by omega))]
    cases h : decide ((out.length : Int) > 40) with
    | true =>
      exact ⟨_, rfl, rfl, by simp⟩
    | false =>
      simp only [decide_eq_false_iff_not] at h
      exact ⟨_, rfl, rfl, by show out.length ≤ 40; omega⟩
  | succ m ih =>
    intro i out hi ho hs
    have hlt : i < fs.length := by omega
    have hn : (i : Int).toNat = i := by omega
    rw [R.Lay.l244_eq, I.Lay.l244_eq, bif_t (lt_dec hlt), bif_t (lt_dec hlt)]
    obtain ⟨p, h1, h2⟩ := path_same fs[i].gName
    simp only [inB_nat hlt, cond_true, hn, getD_lt hlt, h1, h2, Option.bind_some]
    cases p with
    | false => exact ⟨_, rfl, rfl, by simp⟩
    | true =>
      simp only [Bool.not_true, cond_false]
      cases h3 : decide ((fs[i].gText.size : Int) > 3000) with
      | true => exact ⟨_, rfl, rfl, by simp⟩
      | false =>
        simp only [cond_false]
        rw [R_put out (by omega) hs, I_put out (by omega) hs]
        simp only [Option.bind_some, wi_succ (show i < 9223372036854775807 by omega)]
        exact ih (i + 1) (put out fs[i]) (by omega) (by have := put_len out fs[i]; omega) (put_srt out fs[i] hs)
theorem lay_same (p : TPlace) (fs : List TFile) : ∃ r, R.Lay p fs = some r ∧ I.Lay p fs = some r ∧ r.1.gFiles.length ≤ 40 := by
  rw [R.Lay_eq, I.Lay_eq]
  obtain ⟨b, h1, h2, h3⟩ := valid_same p
  rw [h1, h2, Option.bind_some, Option.bind_some]
  cases b with
  | false => exact ⟨_, rfl, rfl, by simp⟩
  | true =>
    obtain ⟨h4, h5⟩ := h3 rfl
    simp only [Bool.not_true, cond_false]
    cases h : decide ((fs.length : Int) > 40) with
    | true => exact ⟨_, rfl, rfl, by simp⟩
    | false =>
      simp only [decide_eq_false_iff_not] at h
      have e1 : room (0 + p.gFiles.length) 32 = true := room_ok (by omega)
      have e2 : room p.gFiles.length 32 = true := room_ok (by omega)
      simp only [e1, e2, cond_true, cond_false]
      exact lay_run fs (by omega) fs.length 0 p.gFiles (by omega) (by omega) h5
def okF (x : TFile) : Prop := x.gName.size < 9223372036854775808 ∧ x.gText.size < 9223372036854775808
theorem sz_one (x : TFile) (hx : okF x) (left : Int) (h0 : 0 ≤ left) (h1 : left ≤ 1048576) : ∃ r, L.szFile x left = some r ∧ r ≤ 1048576 := by
  obtain ⟨a1, a2⟩ := hx
  rw [L.szFile_eq, wi (by omega) (by omega)]
  by_cases h : left - (x.gName.size : Int) < 0
  · rw [bif_t (by simpa using h)]; exact ⟨_, rfl, by omega⟩
  · rw [bif_f (by simpa using h), wi (by omega) (by omega)]
    by_cases h : left - (x.gName.size : Int) - (x.gText.size : Int) < 0
    · rw [bif_t (by simpa using h)]; exact ⟨_, rfl, by omega⟩
    · rw [bif_f (by simpa using h)]; exact ⟨_, rfl, by omega⟩
theorem sz_run (a : List TFile) (hl : a.length ≤ 1048576) (ha : ∀ x ∈ a, okF x) : ∀ (m i : Nat) (left : Int), i + m = a.length → 0 ≤ left → left ≤ 1048576 → ∃ r, L.szFileS.l244 a left i = some r ∧ r ≤ 1048576 := by
  intro m
  induction m with
  | zero =>
    intro i left hi h0 h1
    rw [L.szFileS.l244_eq, bif_f (ge_dec (by omega))]
    exact ⟨_, rfl, h1⟩
  | succ m ih =>
    intro i left hi h0 h1
    have hlt : i < a.length := by omega
    have hn : (i : Int).toNat = i := by omega
    obtain ⟨r, h2, h3⟩ := sz_one a[i] (ha _ (List.getElem_mem hlt)) left h0 h1
    rw [L.szFileS.l244_eq, bif_t (lt_dec hlt), bif_t (inB_nat hlt), hn, getD_lt hlt, h2, Option.bind_some]
    by_cases h : r < 0
    · rw [bif_t (by simpa using h)]; exact ⟨_, rfl, by omega⟩
    · rw [bif_f (by simpa using h), wi_succ (by omega)]
      exact ih (i + 1) r (by omega) (by omega) h3
theorem sz_all (a : List TFile) (hl : a.length < 9223372036854775808) (ha : ∀ x ∈ a, okF x) (left : Int) (h0 : 0 ≤ left) (h1 : left ≤ 1048576) : ∃ r, L.szFileS a left = some r ∧ r ≤ 1048576 ∧ (0 ≤ r → a.length ≤ 1048576) := by
  rw [L.szFileS_eq, wi (by omega) (by omega)]
  by_cases h : left - (a.length : Int) < 0
  · rw [bif_t (by simpa using h)]; exact ⟨_, rfl, by omega, fun h => by omega⟩
  · rw [bif_f (by simpa using h)]
    obtain ⟨r, h2, h3⟩ := sz_run a (by omega) ha a.length 0 (left - (a.length : Int)) (by omega) (by omega) (by omega)
    exact ⟨r, h2, h3, fun _ => by omega⟩
theorem to_run (a : List TFile) (hl : a.length ≤ 1048576) : ∀ (m i : Nat) (out : List TFile), i + m = a.length → out.length = a.length → (∀ j, j < i → out[j]? = a[j]?) → L.toFileS.l116 a out i = some a := by
  intro m
  induction m with
  | zero =>
    intro i out hi ho hj
    rw [L.toFileS.l116_eq, bif_f (ge_dec (by omega))]
    congr 1
    apply List.ext_getElem?
    intro j
    by_cases h : j < i
    · exact hj j h
    · rw [List.getElem?_eq_none (by omega), List.getElem?_eq_none (by omega)]
  | succ m ih =>
    intro i out hi ho hj
    have hlt : i < a.length := by omega
    have hn : (i : Int).toNat = i := by omega
    rw [L.toFileS.l116_eq, bif_t (lt_dec hlt), bif_t (inB_nat hlt), hn, getD_lt hlt, L.toFile_eq, Option.bind_some, bif_t (inB_nat (by omega)), wi_succ (by omega)]
    refine ih (i + 1) _ (by omega) (by rw [List.length_set]; exact ho) fun j hji => ?_
    by_cases h : j = i
    · subst h
      rw [List.getElem?_set_self (by omega), List.getElem?_eq_getElem hlt]
    · rw [List.getElem?_set_ne (Ne.symm h)]
      exact hj j (by omega)
theorem to_all (a : List TFile) (hl : a.length ≤ 1048576) : L.toFileS a = some a := by
  have h1 : (decide (0 ≤ (a.length : Int)) && (a.length : Int) == (a.length : Int) && room a.length 32) = true := by
    rw [room_ok (by omega)]; simp
  rw [L.toFileS_eq, bif_t h1]
  exact to_run a hl a.length 0 _ (by omega) (by simp) fun j h => by omega
theorem to_place (p : TPlace) (hl : p.gFiles.length ≤ 1048576) : L.toPlace p = some p := by
  rw [L.toPlace_eq, to_all _ hl]; rfl
theorem eq_one (a : TFile) : L.eqFile a a = some true := by
  rw [L.eqFile_eq]
  simp only [bEq_self, Bool.not_true, cond_false]
theorem eq_all (a : List TFile) (hl : a.length ≤ 100000000) : L.eqFileS a a = some true := by
  have key : ∀ (m i : Nat), i + m = a.length → L.eqFileS.l116 a a i = some true := by
    intro m
    induction m with
    | zero =>
      intro i hi
      rw [L.eqFileS.l116_eq, bif_f (ge_dec (k := i) (n := a.length) (by omega))]
    | succ m ih =>
      intro i hi
      have hlt : i < a.length := by omega
      rw [L.eqFileS.l116_eq, bif_t (lt_dec hlt), bif_t (inB_nat hlt), bif_t (inB_nat hlt), eq_one, Option.bind_some, Bool.not_true, cond_false, wi_succ (by omega)]
      exact ih (i + 1) (by omega)
  rw [L.eqFileS_eq, bne_self_eq_false, cond_false]
  exact key a.length 0 (by omega)
theorem eq_place (p : TPlace) (hl : p.gFiles.length ≤ 100000000) : L.eqPlace p p = some true := by
  rw [L.eqPlace_eq, eq_all _ hl]; rfl
noncomputable def mkd (k : Int) : TFile := ⟨mt k, mt (k + 1)⟩
theorem w2 {k : Int} (h0 : 0 ≤ k) (h1 : k < 900000000000000000) : IntKind.i64.wrap (k + 1) = k + 1 ∧ IntKind.i64.wrap (k + 1 + 1) = k + 2 :=
  ⟨wi (by omega) (by omega), by rw [wi (by omega) (by omega)]; omega⟩
theorem mark_run (c : Nat) (hc : c ≤ 1000000000) (n : Nat) (hn : n ≤ 100000000) : ∀ (m i : Nat) (v : List TFile), v.length = n → i + m = n → (∀ j, j < i → v[j]? = some (mkd (c + 2 * (j : Int)))) →
    ∃ v', L.markFileS.l52 (c + 2 * (i : Int)) i v = some (c + 2 * (n : Int), v') ∧ v'.length = n ∧ ∀ j, j < n → v'[j]? = some (mkd (c + 2 * (j : Int))) := by
  intro m
  induction m with
  | zero =>
    intro i v hv him hj
    obtain rfl : i = n := by omega
    rw [L.markFileS.l52_eq, bif_f (b := decide ((i : Int) < (v.length : Int))) (by rw [hv]; simp)]
    exact ⟨v, rfl, hv, hj⟩
  | succ m ih =>
    intro i v hv him hj
    have hlt : i < v.length := by omega
    obtain ⟨a1, a2⟩ := w2 (k := c + 2 * (i : Int)) (by omega) (by omega)
    have hn' : (i : Int).toNat = i := by omega
    rw [L.markFileS.l52_eq, bif_t (lt_dec hlt), a1, markText_mt _ (by omega), Option.bind_some, markText_mt _ (by omega), Option.bind_some]
    have hin : inB (i : Int) v.length = true := inB_nat hlt
    have g1 : ∀ x d, (v.set i x).getD i d = x := fun x d => getD_set v i x d hlt
    simp only [bnd_eq, hn', List.length_set, hin, cond_true, List.set_set, g1, a2]
    rw [wi_succ (k := i) (by omega)]
    have e1 : (c : Int) + 2 * (i : Int) + 2 = c + 2 * ((i + 1 : Nat) : Int) := by omega
    rw [e1]
    refine ih (i + 1) _ (by rw [List.length_set]; exact hv) (by omega) fun j hji => ?_
    by_cases h : j = i
    · subst h
      rw [List.getElem?_set_self hlt]; rfl
    · rw [List.getElem?_set_ne (Ne.symm h)]
      exact hj j (by omega)
theorem held_run (n : Nat) (hn : n ≤ 100000000) (v : List TFile) (hv : v.length = n) (hj : ∀ j, j < n → v[j]? = some (mkd (1 + 2 * (j : Int)))) : ∀ (m i : Nat), i + m = n → L.heldFileS.l52 v (1 + 2 * (i : Int)) i = some (1 + 2 * (n : Int)) := by
  intro m
  induction m with
  | zero =>
    intro i him
    obtain rfl : i = n := by omega
    rw [L.heldFileS.l52_eq, bif_f (b := decide ((i : Int) < (v.length : Int))) (by rw [hv]; simp)]
  | succ m ih =>
    intro i him
    have hlt : i < v.length := by omega
    obtain ⟨a1, a2⟩ := w2 (k := 1 + 2 * (i : Int)) (by omega) (by omega)
    have hn' : (i : Int).toNat = i := by omega
    have hg : ∀ d, v.getD i d = mkd (1 + 2 * (i : Int)) := fun d => by rw [List.getD_eq_getElem?_getD, hj i (by omega)]; rfl
    have hin : inB (i : Int) v.length = true := inB_nat hlt
    rw [L.heldFileS.l52_eq, bif_t (lt_dec hlt), bif_t hin, a1, markText_mt _ (by omega), Option.bind_some, markText_mt _ (by omega)]
    simp only [hn', hin, cond_true, hg, a2, mkd, cond_false, bEq_self, Bool.not_true, Option.bind_some]
    rw [wi_succ (k := i) (by omega)]
    have e1 : (1 : Int) + 2 * (i : Int) + 2 = 1 + 2 * ((i + 1 : Nat) : Int) := by omega
    rw [e1]
    exact ih (i + 1) (by omega)
theorem fnLay (aP : TPlace) (aFiles : List TFile) (p1 : aP.gFiles.length < 9223372036854775808) (p2 : ∀ x ∈ aP.gFiles, okF x) (p3 : aFiles.length < 9223372036854775808) (p4 : ∀ x ∈ aFiles, okF x) : L.FnExactLay aP aFiles = some true := by
  rw [L.FnExactLay_eq, L.szPlace_eq]
  obtain ⟨s1, h1, h2, h3⟩ := sz_all aP.gFiles p1 p2 1048576 (by omega) (by omega)
  rw [h1, Option.bind_some]
  by_cases hs1 : s1 < 0
  · rw [bif_t (by simpa using hs1)]; rfl
  · rw [bif_f (by simpa using hs1), Option.bind_some, bif_f (by simpa using hs1)]
    obtain ⟨s2, h4, h5, h6⟩ := sz_all aFiles p3 p4 s1 (by omega) h2
    rw [h4, Option.bind_some]
    by_cases hs2 : s2 < 0
    · rw [bif_t (by simpa using hs2)]
    · rw [bif_f (by simpa using hs2)]
      have q1 := h3 (by omega)
      have q2 := h6 (by omega)
      obtain ⟨r, r1, r2, r3⟩ := lay_same aP aFiles
      have t1 := to_place aP q1
      have t2 := to_all aFiles q2
      obtain ⟨v1, m1, _, _⟩ := mark_run 1 (by omega) aP.gFiles.length (by omega) aP.gFiles.length 0 aP.gFiles rfl (by omega) fun j hj => by omega
      have m1' : L.markPlace aP.gFiles 1 = some ((1 : Int) + 2 * (aP.gFiles.length : Int), v1) := by
        rw [L.markPlace_eq, L.markFileS_eq]
        have : L.markFileS.l52 1 0 aP.gFiles = some (((1 : Nat) : Int) + 2 * (aP.gFiles.length : Int), v1) := m1
        rw [this]; rfl
      obtain ⟨v2, m2, _, _⟩ := mark_run (1 + 2 * aP.gFiles.length) (by omega) aFiles.length (by omega) aFiles.length 0 aFiles rfl (by omega) fun j hj => by omega
      have m2' : L.markFileS aFiles ((1 : Int) + 2 * (aP.gFiles.length : Int)) = some (((1 + 2 * aP.gFiles.length : Nat) : Int) + 2 * (aFiles.length : Int), v2) := by
        rw [L.markFileS_eq, show (1 : Int) + 2 * (aP.gFiles.length : Int) = ((1 + 2 * aP.gFiles.length : Nat) : Int) + 2 * ((0 : Nat) : Int) by omega]
        exact m2
      have n2 : decide ((((1 + 2 * aP.gFiles.length : Nat) : Int) + 2 * (aFiles.length : Int)) < 0) = false := by simp; omega
      obtain ⟨v3, m3, l3, j3⟩ := mark_run 1 (by omega) r.1.gFiles.length (by omega) r.1.gFiles.length 0 r.1.gFiles rfl (by omega) fun j hj => by omega
      have m3' : L.markPlace r.1.gFiles 1 = some ((1 : Int) + 2 * (r.1.gFiles.length : Int), v3) := by
        rw [L.markPlace_eq, L.markFileS_eq]
        have : L.markFileS.l52 1 0 r.1.gFiles = some (((1 : Nat) : Int) + 2 * (r.1.gFiles.length : Int), v3) := m3
        rw [this]; rfl
      have n3 : decide (((1 : Int) + 2 * (r.1.gFiles.length : Int)) < 0) = false := by simp; omega
      have hd : L.heldPlace ⟨v3⟩ 1 = some ((1 : Int) + 2 * (r.1.gFiles.length : Int)) := by
        rw [L.heldPlace_eq, L.heldFileS_eq]
        have := held_run r.1.gFiles.length (by omega) v3 l3 j3 r.1.gFiles.length 0 (by omega)
        have : L.heldFileS.l52 v3 1 0 = some ((1 : Int) + 2 * (r.1.gFiles.length : Int)) := this
        rw [this, Option.bind_some, n3]; rfl
      simp only [t1, t2, r1, r2, Option.bind_some, eq_place r.1 (by omega), eq_place aP (by omega), eq_all aFiles (by omega), m1', m2', n2, m3', n3, hd, bne_self_eq_false, Bool.not_true, cond_false]
end Go.KM.L1
