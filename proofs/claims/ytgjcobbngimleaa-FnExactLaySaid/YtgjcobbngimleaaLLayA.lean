/- Plain laws: names of files, places that are valid. Conditions: none. -/
import Derived.Test.YtgjcobbngimleaaLMarkL
namespace Go.KM.L1
open Go Go.KM
open Go.KM.Fam (Dn dflt)
open Go.KM.Enc (cells sz mkE glob gany u8)
set_option autoImplicit false
set_option linter.unusedVariables false
set_option linter.unusedSimpArgs false
set_option maxRecDepth 100000
theorem pre_loop (s : ByteArray) (hs : s.size ≤ 60) : ∀ (m i : Nat), i + m = s.size → ∃ b, R.l6PrefixOk.l116 s i = some b ∧ I.pathText.l116 s i = some b := by
  intro m
  induction m with
  | zero =>
    intro i hi
    rw [R.l6PrefixOk.l116_eq, I.pathText.l116_eq, bif_f (ge_dec (by omega)), bif_f (ge_dec (by omega))]
    exact ⟨_, rfl, rfl⟩
  | succ m ih =>
    intro i hi
    have hlt : i < s.size := by omega
    rw [R.l6PrefixOk.l116_eq, I.pathText.l116_eq, bif_t (lt_dec hlt), bif_t (lt_dec hlt)]
    simp only [inB_nat hlt, cond_true]
    cases h1 : decide (bt s (i : Int) < 33) with
    | true => exact ⟨_, rfl, rfl⟩
    | false =>
      simp only [cond_false]
      cases h2 : decide (bt s (i : Int) > 126) with
      | true => exact ⟨_, rfl, rfl⟩
      | false =>
        simp only [cond_false]
        rw [wi_succ (by omega)]
        exact ih (i + 1) (by omega)
theorem path_same (s : ByteArray) : ∃ b, R.l6PathOk s = some b ∧ I.fileName s = some b := by
  rw [R.l6PathOk_eq, I.fileName_eq]
  by_cases h0 : s.size = 0
  · have he : s = ⟨#[]⟩ := by
      obtain ⟨⟨l⟩⟩ := s
      have : l = [] := List.eq_nil_of_length_eq_zero h0
      subst this; rfl
    subst he
    exact ⟨false, rfl, by rw [bEq_self]; rfl⟩
  · have he : bEq s ⟨#[]⟩ = false := by
      cases hh : bEq s ⟨#[]⟩ with
      | false => rfl
      | true => rw [bEq_iff.1 hh] at h0; exact (h0 rfl).elim
    rw [he, bif_t (b := decide ((s.size : Int) ≥ 1)) (by simp; omega), Bool.not_false, cond_true, R.l6PrefixOk_eq, I.pathText_eq]
    by_cases h1 : (s.size : Int) > 60
    · rw [bif_t (by simpa using h1), bif_t (by simpa using h1)]; exact ⟨_, rfl, rfl⟩
    · rw [bif_f (by simpa using h1), bif_f (by simpa using h1)]
      obtain ⟨b, h2, h3⟩ := pre_loop s (by omega) s.size 0 (by omega)
      have h2 : R.l6PrefixOk.l116 s 0 = some b := h2
      have h3 : I.pathText.l116 s 0 = some b := h3
      rw [h2, h3]; exact ⟨b, rfl, rfl⟩
def Srt (l : List TFile) : Prop := l.Pairwise fun a b => bLt a.gName b.gName = true
theorem srt_adj {l : List TFile} (h : ∀ j (hj : j < l.length), (h0 : 0 < j) → bLt (l[j - 1]'(by omega)).gName l[j].gName = true) : Srt l := by
  refine List.pairwise_iff_getElem.2 fun i j hi hj hij => ?_
  induction j with
  | zero => omega
  | succ j ih =>
    have h1 := h (j + 1) hj (by omega)
    simp only [Nat.add_sub_cancel] at h1
    by_cases he : i = j
    · subst he; exact h1
    · exact bLt_trans (ih (by omega) (by omega)) h1
theorem ok_loop (fs : List TFile) (hl : fs.length ≤ 40) : ∀ (m i : Nat), i + m = fs.length → ∃ b, R.l9FilesOk.l116 fs i = some b ∧ I.filesOk.l116 fs fs fs.length i = some b ∧
    (b = true → ∀ j (hj : j < fs.length), (h0 : 0 < j) → i ≤ j → bLt (fs[j - 1]'(by omega)).gName fs[j].gName = true) := by
  intro m
  induction m with
  | zero =>
    intro i hi
    rw [R.l9FilesOk.l116_eq, I.filesOk.l116_eq, bif_f (ge_dec (by omega)), bif_f (ge_dec (by omega))]
    exact ⟨_, rfl, rfl, fun _ j hj h0 h1 => by omega⟩
  | succ m ih =>
    intro i hi
    have hlt : i < fs.length := by omega
    have hn : (i : Int).toNat = i := by omega
    rw [R.l9FilesOk.l116_eq, I.filesOk.l116_eq, bif_t (lt_dec hlt), bif_t (lt_dec hlt)]
    obtain ⟨p, h1, h2⟩ := path_same fs[i].gName
    simp only [inB_nat hlt, cond_true, hn, getD_lt hlt, h1, h2, Option.bind_some]
    cases p with
    | false => exact ⟨_, rfl, rfl, fun h => by simp at h⟩
    | true =>
      simp only [Bool.not_true, cond_false]
      cases h3 : decide ((fs[i].gText.size : Int) > 3000) with
      | true => exact ⟨_, rfl, rfl, fun h => by simp at h⟩
      | false =>
        simp only [cond_false, wi_succ (show i < 9223372036854775807 by omega)]
        obtain ⟨b, h4, h5, h6⟩ := ih (i + 1) (by omega)
        by_cases hi0 : i = 0
        · subst hi0
          rw [bif_f (b := decide (((0 : Nat) : Int) > 0)) (by decide), bif_f (b := decide (((0 : Nat) : Int) > 0)) (by decide)]
          exact ⟨b, h4, h5, fun hb j hj h0 h1 => h6 hb j hj h0 (by omega)⟩
        · have hw : IntKind.i64.wrap ((i : Int) - 1) = ((i - 1 : Nat) : Int) := by rw [wi (by omega) (by omega)]; omega
          have hn1 : ((i - 1 : Nat) : Int).toNat = i - 1 := by omega
          have hlt1 : i - 1 < fs.length := by omega
          rw [bif_t (b := decide ((i : Int) > 0)) (by simp; omega), bif_t (b := decide ((i : Int) > 0)) (by simp; omega), hw]
          simp only [inB_nat hlt1, inB_nat hlt, cond_true, hn1, getD_lt hlt1]
          cases h7 : bLt fs[i - 1].gName fs[i].gName with
          | false => exact ⟨_, rfl, rfl, fun h => by simp at h⟩
          | true =>
            simp only [Bool.not_true, cond_false]
            refine ⟨b, h4, h5, fun hb j hj h0 h1 => ?_⟩
            by_cases hj1 : j = i
            · subst hj1; exact h7
            · exact h6 hb j hj h0 (by omega)
theorem valid_same (p : TPlace) : ∃ b, R.ValidPlace p = some b ∧ I.ValidPlace p = some b ∧ (b = true → p.gFiles.length ≤ 40 ∧ Srt p.gFiles) := by
  rw [R.ValidPlace_eq, I.ValidPlace_eq, R.l9FilesOk_eq, I.filesOk_eq]
  by_cases h : (p.gFiles.length : Int) > 40
  · rw [bif_t (by simpa using h), bif_t (by simpa using h)]
    exact ⟨_, rfl, rfl, fun h => by simp at h⟩
  · rw [bif_f (by simpa using h), bif_f (by simpa using h)]
    obtain ⟨b, h4, h5, h6⟩ := ok_loop p.gFiles (by omega) p.gFiles.length 0 (by omega)
    have h4 : R.l9FilesOk.l116 p.gFiles 0 = some b := h4
    have h5 : I.filesOk.l116 p.gFiles p.gFiles p.gFiles.length 0 = some b := h5
    rw [h4, h5]
    exact ⟨b, rfl, rfl, fun hb => ⟨by omega, srt_adj fun j hj h0 => h6 hb j hj h0 (by omega)⟩⟩
end Go.KM.L1
