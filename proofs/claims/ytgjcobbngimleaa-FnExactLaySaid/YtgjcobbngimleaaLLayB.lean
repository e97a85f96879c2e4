/- Plain laws: a file put among sorted files. Conditions: none. -/
import Derived.Test.YtgjcobbngimleaaLLayA
namespace Go.KM.L1
open Go Go.KM
open Go.KM.Fam (Dn dflt)
open Go.KM.Enc (cells sz mkE glob gany u8)
set_option autoImplicit false
set_option linter.unusedVariables false
set_option linter.unusedSimpArgs false
set_option maxRecDepth 100000
noncomputable def put : List TFile → TFile → List TFile
  | [], f => [f]
  | x :: r, f => bif bLt x.gName f.gName then x :: put r f else bif bEq x.gName f.gName then f :: r else f :: x :: r
theorem put_len : ∀ (l : List TFile) (f : TFile), (put l f).length ≤ l.length + 1
  | [], f => by simp [put]
  | x :: r, f => by
    have := put_len r f
    unfold put
    cases bLt x.gName f.gName with
    | true => simpa using this
    | false => cases bEq x.gName f.gName <;> simp
theorem put_names : ∀ (l : List TFile) (f : TFile) (y : TFile), y ∈ put l f → y.gName = f.gName ∨ y ∈ l
  | [], f, y, h => by simp [put] at h; exact .inl (by rw [h])
  | x :: r, f, y, h => by
    unfold put at h
    cases h1 : bLt x.gName f.gName with
    | true =>
      simp only [h1, cond_true, List.mem_cons] at h
      rcases h with h | h
      · exact .inr (by simp [h])
      · exact (put_names r f y h).imp id fun h => by simp [h]
    | false =>
      simp only [h1, cond_false] at h
      cases h2 : bEq x.gName f.gName with
      | true =>
        simp only [h2, cond_true, List.mem_cons] at h
        rcases h with h | h
        · exact .inl (by rw [h])
        · exact .inr (by simp [h])
      | false =>
        simp only [h2, cond_false, List.mem_cons] at h
        rcases h with h | h
        · exact .inl (by rw [h])
        · exact .inr (by simpa using h)
theorem put_srt : ∀ (l : List TFile) (f : TFile), Srt l → Srt (put l f)
  | [], f, h => by simp [put, Srt]
  | x :: r, f, h => by
    obtain ⟨h1, h2⟩ := List.pairwise_cons.1 h
    unfold put
    cases h3 : bLt x.gName f.gName with
    | true =>
      refine List.pairwise_cons.2 ⟨fun y hy => ?_, put_srt r f h2⟩
      rcases put_names r f y hy with h4 | h4
      · rw [h4]; exact h3
      · exact h1 y h4
    | false =>
      cases h4 : bEq x.gName f.gName with
      | true =>
        refine List.pairwise_cons.2 ⟨fun y hy => ?_, h2⟩
        rw [← bEq_iff.1 h4]; exact h1 y hy
      | false =>
        have h5 : bLt f.gName x.gName = true := bLt_total h3 fun hh => by rw [bEq_iff.2 hh] at h4; simp at h4
        refine List.pairwise_cons.2 ⟨fun y hy => ?_, h⟩
        rcases List.mem_cons.1 hy with rfl | hy
        · exact h5
        · exact bLt_trans h5 (h1 y hy)
theorem bEq_ne {x y : ByteArray} (h : x ≠ y) : bEq x y = false := by
  cases hh : bEq x y with
  | false => rfl
  | true => exact (h (bEq_iff.1 hh)).elim
theorem put_done (fs : List TFile) (hl : fs.length ≤ 100000000) (name text : ByteArray) : ∀ (m i : Nat) (out : List TFile), i + m = fs.length → out.length ≤ i + 1 → (∀ j (hj : j < fs.length), i ≤ j → fs[j].gName ≠ name) →
    R.l6Put.l244 fs name text out true i = some (out ++ fs.drop i) := by
  intro m
  induction m with
  | zero =>
    intro i out hi ho hn
    rw [R.l6Put.l244_eq, bif_f (ge_dec (by omega)), Bool.not_true, cond_false, List.drop_eq_nil_of_le (by omega), List.append_nil]
  | succ m ih =>
    intro i out hi ho hn
    have hlt : i < fs.length := by omega
    have hnn : (i : Int).toNat = i := by omega
    have hr : ∀ x : TFile, room (out.length + [x].length) 32 = true := fun x => room_ok (by simp only [List.length_singleton]; omega)
    rw [R.l6Put.l244_eq, bif_t (lt_dec hlt)]
    simp only [Bool.not_true, cond_false, inB_nat hlt, cond_true, hnn, getD_lt hlt, bEq_ne (hn i hlt (Nat.le_refl _)), Bool.not_false, hr, wi_succ (show i < 9223372036854775807 by omega)]
    rw [ih (i + 1) _ (by omega) (by simp only [List.length_append, List.length_singleton]; omega) fun j hj h => hn j hj (by omega), List.drop_eq_getElem_cons hlt, List.append_assoc]
    rfl
theorem put_run (fs : List TFile) (hl : fs.length ≤ 100000000) (hs : Srt fs) (name text : ByteArray) : ∀ (m i : Nat) (out : List TFile), i + m = fs.length → out.length ≤ i →
    R.l6Put.l244 fs name text out false i = some (out ++ put (fs.drop i) ⟨name, text⟩) := by
  intro m
  induction m with
  | zero =>
    intro i out hi ho
    rw [R.l6Put.l244_eq, bif_f (ge_dec (by omega)), Bool.not_false, cond_true, List.drop_eq_nil_of_le (by omega), bif_t (room_ok (by simp only [List.length_singleton]; omega))]
    rfl
  | succ m ih =>
    intro i out hi ho
    have hlt : i < fs.length := by omega
    have hnn : (i : Int).toNat = i := by omega
    have hr : ∀ x : TFile, room (out.length + [x].length) 32 = true := fun x => room_ok (by simp only [List.length_singleton]; omega)
    have hr2 : ∀ x y : TFile, room ((out ++ [x]).length + [y].length) 32 = true := fun x y => room_ok (by simp only [List.length_append, List.length_singleton]; omega)
    have hsrt : ∀ j (hj : j < fs.length), i < j → bLt fs[i].gName fs[j].gName = true := fun j hj h => List.pairwise_iff_getElem.1 hs i j hlt hj h
    rw [R.l6Put.l244_eq, bif_t (lt_dec hlt)]
    simp only [Bool.not_false, inB_nat hlt, cond_true, hnn, getD_lt hlt, hr, hr2, wi_succ (show i < 9223372036854775807 by omega)]
    rw [List.drop_eq_getElem_cons hlt]
    unfold put
    cases h1 : bLt fs[i].gName name with
    | true =>
      have hne : fs[i].gName ≠ name := fun hh => by rw [hh, bLt_irr] at h1; simp at h1
      simp only [Bool.not_true, cond_false, bEq_ne hne, Bool.not_false, cond_true]
      rw [ih (i + 1) _ (by omega) (by simp only [List.length_append, List.length_singleton]; omega), List.append_assoc]
      rfl
    | false =>
      simp only [Bool.not_false, cond_true, cond_false]
      have hlater : ∀ j (hj : j < fs.length), i + 1 ≤ j → fs[j].gName ≠ name := fun j hj h hh => by
        have := hsrt j hj (by omega)
        rw [hh, h1] at this; simp at this
      cases h2 : bEq fs[i].gName name with
      | false =>
        simp only [Bool.not_false, cond_true, cond_false]
        rw [put_done fs hl name text m (i + 1) _ (by omega) (by simp only [List.length_append, List.length_singleton]; omega) hlater, List.append_assoc, List.append_assoc]
        rfl
      | true =>
        simp only [Bool.not_true, cond_true, cond_false]
        rw [put_done fs hl name text m (i + 1) _ (by omega) (by simp only [List.length_append, List.length_singleton]; omega) hlater, List.append_assoc]
        rfl
theorem R_put (fs : List TFile) (hl : fs.length ≤ 100000000) (hs : Srt fs) (name text : ByteArray) : R.l6Put fs name text = some (put fs ⟨name, text⟩) := by
  rw [R.l6Put_eq]
  exact put_run fs hl hs name text fs.length 0 [] (by omega) (by simp)
end Go.KM.L1
