/- Plain laws on lists of files: the program's functions and the reference's tell the same and end. No conditions. -/
import Derived.Test.YtajlomhnednghaaPureA
import Derived.Test.YtajlomhnednghaaRx43
import Derived.Test.YtajlomhnednghaaRx0
namespace Go.Proofs.Ytajlomhnednghaa.R
open Go.RowKit Go.Proofs.YtajlomhnednghaaW.PrintWords Go.Proofs.YtajlomhnednghaaW.PrintLast Go.Proofs.YtajlomhnednghaaW.PrintMore
set_option linter.unusedVariables false
set_option linter.unusedSimpArgs false

theorem files_same (x : List S100) : ∀ k (i : Int), impl_filesOk.l0 k x x (x.length : Int) i = spec_l9FilesOk.l0 k x i
  | 0, _ => by simp only [impl_filesOk.l0, spec_l9FilesOk.l0]
  | k + 1, i => by
    simp only [impl_filesOk.l0, spec_l9FilesOk.l0, fileName_same]
    by_cases h : i < (x.length : Int) <;> by_cases h0 : 0 ≤ i <;> simp only [h, h0, if_true, if_false, files_same x k]
theorem filesOk_same (k : Nat) (x : List S100) (m : Int) : impl_filesOk.f k x m = spec_l9FilesOk.f k x m := by
  unfold impl_filesOk.f spec_l9FilesOk.f
  rw [files_same]
theorem validPlace_same (k : Nat) (x : List S100) : impl_ValidPlace.f k x = spec_ValidPlace.f k x := by
  unfold impl_ValidPlace.f spec_ValidPlace.f
  rw [filesOk_same]
theorem files_ends (l : List S100) (hl : l.length ≤ maxLen) : ∀ (d k i : Nat), l.length - i = d → i ≤ l.length → d + 62 ≤ k → ∃ b, spec_l9FilesOk.l0 k l i = some b := by
  intro d
  induction d with
  | zero =>
    intro k i h1 h2 h3
    obtain ⟨k, rfl⟩ : ∃ m, k = m + 1 := ⟨k - 1, by omega⟩
    exact ⟨true, by simp only [spec_l9FilesOk.l0]; rw [if_neg (by omega)]⟩
  | succ d ih =>
    intro k i h1 h2 h3
    obtain ⟨k, rfl⟩ : ∃ m, k = m + 1 := ⟨k - 1, by omega⟩
    obtain ⟨b, hb⟩ := ih k (i + 1) (by omega) (by omega) (by omega)
    obtain ⟨c, hc⟩ := pathOk_ends ((rd_T100 l i).f0) k (by omega)
    simp only [spec_l9FilesOk.l0]
    rw [if_pos (by omega), if_pos (by omega), hc, wrap_nat (n := l.length) (by omega) hl, hb]
    simp only [Option.bind_some]
    split
    · split
      · exact ⟨_, rfl⟩
      · by_cases hi : i = 0
        · rw [if_neg (by omega)]; exact ⟨_, rfl⟩
        · rw [if_pos (by omega), wrap_pred (by omega) (by omega), if_pos (by omega), if_pos (by omega)]
          split <;> exact ⟨_, rfl⟩
    · exact ⟨_, rfl⟩
theorem filesOk_ends (l : List S100) (hl : l.length ≤ maxLen) (m : Int) (k : Nat) (hk : l.length + 62 ≤ k) : ∃ b, spec_l9FilesOk.f k l m = some b := by
  unfold spec_l9FilesOk.f
  split
  · exact ⟨_, rfl⟩
  · exact files_ends l hl l.length k 0 (by omega) (by omega) hk
theorem validPlace_ends (l : List S100) (hl : l.length ≤ maxLen) (k : Nat) (hk : l.length + 62 ≤ k) : ∃ b, spec_ValidPlace.f k l = some b := by
  obtain ⟨b, hb⟩ := filesOk_ends l hl 40 k hk
  exact ⟨b, by unfold spec_ValidPlace.f; rw [hb]; rfl⟩

/-- The mirror of a file. -/
def toF (x : S113) : S100 := ⟨x.f0, x.f1⟩
theorem rd113 (x : List S113) (i : Nat) : rd_T113 x (i : Int) = x.getD i z113 := by unfold rd_T113; simp
theorem rd100 (x : List S100) (i : Nat) : rd_T100 x (i : Int) = x.getD i z100 := by unfold rd_T100; simp
theorem toFiles_ends (x : List S113) (hx : x.length ≤ maxLen) : ∀ (d k i : Nat) (y : List S100), x.length - i = d → i ≤ x.length → y.length = x.length → y.take i = (x.take i).map toF → d < k →
    laws_toFileS.l0 k x y i = some (x.map toF) := by
  intro d
  induction d with
  | zero =>
    intro k i y h1 h2 hy ht h3
    obtain ⟨k, rfl⟩ : ∃ m, k = m + 1 := ⟨k - 1, by omega⟩
    simp only [laws_toFileS.l0]; rw [if_neg (by omega)]
    obtain rfl : i = x.length := by omega
    rw [List.take_length, List.take_of_length_le (by omega)] at ht
    rw [ht]
  | succ d ih =>
    intro k i y h1 h2 hy ht h3
    obtain ⟨k, rfl⟩ : ∃ m, k = m + 1 := ⟨k - 1, by omega⟩
    simp only [laws_toFileS.l0]
    rw [if_pos (by omega), if_pos (by omega)]
    simp only [laws_toFile.f, Option.bind_some]
    rw [if_pos (by omega), wrap_nat (n := x.length) (by omega) hx, rd113]
    refine ih k (i + 1) _ (by omega) (by omega) (by simp [hy]) ?_ (by omega)
    have := set_copy toF z113 x y i (by omega) hy ht
    simpa [toF] using this
theorem toFileS_ends (x : List S113) (hx : x.length ≤ 8796093022208) (k : Nat) (hk : x.length < k) : laws_toFileS.f k x = some (x.map toF) := by
  unfold laws_toFileS.f
  rw [if_pos (by omega), if_pos (by simpa using hx)]
  exact toFiles_ends x (by unfold maxLen; omega) x.length k 0 _ (by omega) (by omega) (by simp) (by simp) hk
theorem eqFiles_ends (x : List S100) (hx : x.length ≤ maxLen) : ∀ (d k i : Nat), x.length - i = d → i ≤ x.length → d < k → laws_eqFileS.l0 k x x i = some true := by
  intro d
  induction d with
  | zero =>
    intro k i h1 h2 h3
    obtain ⟨k, rfl⟩ : ∃ m, k = m + 1 := ⟨k - 1, by omega⟩
    simp only [laws_eqFileS.l0]; rw [if_neg (by omega)]
  | succ d ih =>
    intro k i h1 h2 h3
    obtain ⟨k, rfl⟩ : ∃ m, k = m + 1 := ⟨k - 1, by omega⟩
    simp only [laws_eqFileS.l0, laws_eqFile.f, if_true, Option.bind_some]
    rw [if_pos (by omega), if_pos (by omega), if_pos (by omega), wrap_nat (n := x.length) (by omega) hx]
    exact ih k (i + 1) (by omega) (by omega) (by omega)
theorem eqFileS_ends (x : List S100) (hx : x.length ≤ maxLen) (k : Nat) (hk : x.length < k) : laws_eqFileS.f k x x = some true := by
  unfold laws_eqFileS.f
  rw [if_pos rfl]
  exact eqFiles_ends x hx x.length k 0 (by omega) (by omega) hk
def good113 (x : S113) : Prop := x.f0.size ≤ maxLen ∧ x.f1.size ≤ maxLen
theorem szFiles_ends (x : List S113) (hx : x.length ≤ maxLen) (hs : ∀ s ∈ x, good113 s) : ∀ (d k i : Nat) (a : Int), 0 ≤ a → a ≤ 9223372036854775807 → x.length - i = d → i ≤ x.length → d < k → ∃ n, laws_szFileS.l0 k x a i = some n ∧ n ≤ a := by
  intro d
  induction d with
  | zero =>
    intro k i a h0 ha h1 h2 h3
    obtain ⟨k, rfl⟩ : ∃ m, k = m + 1 := ⟨k - 1, by omega⟩
    simp only [laws_szFileS.l0]; rw [if_neg (by omega)]; exact ⟨_, rfl, Int.le_refl _⟩
  | succ d ih =>
    intro k i a h0 ha h1 h2 h3
    obtain ⟨k, rfl⟩ : ∃ m, k = m + 1 := ⟨k - 1, by omega⟩
    simp only [laws_szFileS.l0]
    have hm : good113 (rd_T113 x i) := by
      rw [rd113]
      have e : x.getD i z113 = x[i]'(by omega) := by simp [List.getD, show i < x.length by omega]
      rw [e]; exact hs _ (List.getElem_mem _)
    rw [if_pos (by omega), if_pos (by omega)]
    unfold laws_szFile.f
    rw [wrap_sub h0 ha hm.1]
    by_cases c1 : a - ((rd_T113 x i).f0.size : Int) < 0
    · rw [if_pos c1]; exact ⟨-1, by simp, by omega⟩
    · rw [if_neg c1, wrap_sub (by omega) (by omega) hm.2]
      by_cases c2 : a - ((rd_T113 x i).f0.size : Int) - ((rd_T113 x i).f1.size : Int) < 0
      · rw [if_pos c2]; exact ⟨-1, by simp, by omega⟩
      · rw [if_neg c2]; simp only [Option.bind_some]
        rw [if_neg c2, wrap_nat (n := x.length) (by omega) hx]
        obtain ⟨n, hn, hle⟩ := ih k (i + 1) (a - ((rd_T113 x i).f0.size : Int) - ((rd_T113 x i).f1.size : Int)) (by omega) (by omega) (by omega) (by omega) (by omega : d < k)
        exact ⟨n, hn, by omega⟩
theorem szFileS_ends (x : List S113) (hx : x.length ≤ maxLen) (hs : ∀ s ∈ x, good113 s) (a : Int) (h0 : 0 ≤ a) (ha : a ≤ 9223372036854775807) (k : Nat) (hk : x.length < k) :
    ∃ n, laws_szFileS.f k x a = some n ∧ n ≤ a ∧ (0 ≤ n → (x.length : Int) ≤ a) := by
  unfold laws_szFileS.f
  rw [wrap_sub h0 ha hx]
  split
  · exact ⟨-1, rfl, by omega, fun h => absurd h (by omega)⟩
  · obtain ⟨n, hn, hle⟩ := szFiles_ends x hx hs x.length k 0 (a - x.length) (by omega) (by omega) (by omega) (by omega) hk
    exact ⟨n, hn, by omega, fun _ => by omega⟩
theorem szPlace_ends (x : List S113) (hx : x.length ≤ maxLen) (hs : ∀ s ∈ x, good113 s) (a : Int) (h0 : 0 ≤ a) (ha : a ≤ 9223372036854775807) (k : Nat) (hk : x.length < k) :
    ∃ n, laws_szPlace.f k x a = some n ∧ n ≤ a ∧ (0 ≤ n → (x.length : Int) ≤ a) := by
  obtain ⟨n, hn, hle, hp⟩ := szFileS_ends x hx hs a h0 ha k hk
  unfold laws_szPlace.f
  rw [hn]; simp only [Option.bind_some]
  split
  · exact ⟨-1, rfl, by omega, fun h => absurd h (by omega)⟩
  · exact ⟨n, rfl, hle, hp⟩
end Go.Proofs.Ytajlomhnednghaa.R
