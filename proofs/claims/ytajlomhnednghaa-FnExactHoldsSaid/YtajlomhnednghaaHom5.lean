/- Texts of this session, put together (wip/tools/pack.py): PureA, PureB, PureC ... Conditions: none. -/
import Derived.Test.YtajlomhnednghaaHow
import Derived.Test.YtajlomhnednghaaHom4
import Derived.Test.YtajlomhnednghaaHom1
import Derived.Test.YtajlomhnednghaaHom2
import Derived.Test.YtajlomhnednghaaHom3
import Derived.Test.YtajlomhnednghaaRows
import Derived.WalkKit
import Derived.ProofKit
import Derived.OpenShut
import Derived.ShutString
import Derived.ChangeOld
import Derived.Below
import Derived.SizedLaws
import Derived.Carry
/- Plain laws on names of files, jobs, places: the program's functions and the reference's tell the same and end. No conditions. -/
namespace Go.Proofs.Ytajlomhnednghaa.S
open Go.RowKit Go.Proofs.YtajlomhnednghaaW.PrintWords Go.Proofs.YtajlomhnednghaaW.PrintLast Go.Proofs.YtajlomhnednghaaW.PrintMore
set_option linter.unusedVariables false
set_option linter.unusedSimpArgs false

theorem wrap_nat {i n : Nat} (h : i < n) (hn : n ≤ maxLen) : wrap64 ((i : Int) + 1) = ((i + 1 : Nat) : Int) := by
  unfold maxLen at hn; unfold wrap64; omega
theorem wrap_pred {i : Nat} (h : 0 < i) (hn : i ≤ maxLen) : wrap64 ((i : Int) - 1) = ((i - 1 : Nat) : Int) := by
  unfold maxLen at hn; unfold wrap64; omega
theorem wrap_sub {a : Int} {n : Nat} (h0 : 0 ≤ a) (h1 : a ≤ 9223372036854775807) (hn : n ≤ maxLen) : wrap64 (a - (n : Int)) = a - n := by
  unfold maxLen at hn; unfold wrap64; omega

theorem prefix_same : ∀ k s i, impl_pathText.l0 k s i = spec_l6PrefixOk.l0 k s i
  | 0, _, _ => rfl
  | k + 1, s, i => by
    simp only [impl_pathText.l0, spec_l6PrefixOk.l0, prefix_same k s]
theorem pathText_same (k : Nat) (s : ByteArray) : impl_pathText.f k s = spec_l6PrefixOk.f k s := by
  unfold impl_pathText.f spec_l6PrefixOk.f
  rw [prefix_same]
theorem toList_nil (s : ByteArray) : s.toList = [] ↔ s.size = 0 := by
  constructor
  · intro h
    have : s.toList.length = s.size := by simp [ByteArray.toList_eq]
    rw [h] at this; simpa using this.symm
  · intro h
    have : s.toList.length = s.size := by simp [ByteArray.toList_eq]
    rw [h] at this; exact List.eq_nil_of_length_eq_zero this
theorem fileName_same (k : Nat) (s : ByteArray) : impl_fileName.f k s = spec_l6PathOk.f k s := by
  unfold impl_fileName.f spec_l6PathOk.f
  rw [pathText_same]
  by_cases h : s.size = 0
  · rw [if_pos ((toList_nil s).2 h), if_neg (by omega)]
  · rw [if_neg (fun e => h ((toList_nil s).1 e)), if_pos (by omega)]
theorem prefix_ends (s : ByteArray) (hs : s.size ≤ 60) : ∀ (d k i : Nat), s.size - i = d → i ≤ s.size → d < k → ∃ b, spec_l6PrefixOk.l0 k s i = some b := by
  intro d
  induction d with
  | zero =>
    intro k i h1 h2 h3
    obtain ⟨k, rfl⟩ : ∃ m, k = m + 1 := ⟨k - 1, by omega⟩
    exact ⟨true, by simp only [spec_l6PrefixOk.l0]; rw [if_neg (by omega)]⟩
  | succ d ih =>
    intro k i h1 h2 h3
    obtain ⟨k, rfl⟩ : ∃ m, k = m + 1 := ⟨k - 1, by omega⟩
    obtain ⟨b, hb⟩ := ih k (i + 1) (by omega) (by omega) (by omega)
    simp only [spec_l6PrefixOk.l0]
    rw [if_pos (by omega), if_pos (by omega), wrap_nat (n := s.size) (by omega) (by unfold maxLen; omega), hb]
    split
    · exact ⟨_, rfl⟩
    · split <;> exact ⟨_, rfl⟩
theorem prefixOk_ends (s : ByteArray) (k : Nat) (hk : 61 ≤ k) : ∃ b, spec_l6PrefixOk.f k s = some b := by
  unfold spec_l6PrefixOk.f
  split
  · exact ⟨_, rfl⟩
  · exact prefix_ends s (by omega) s.size k 0 (by omega) (by omega) (by omega)
theorem pathOk_ends (s : ByteArray) (k : Nat) (hk : 61 ≤ k) : ∃ b, spec_l6PathOk.f k s = some b := by
  unfold spec_l6PathOk.f
  split
  · obtain ⟨b, hb⟩ := prefixOk_ends s k hk
    exact ⟨b, by rw [hb]; rfl⟩
  · exact ⟨_, rfl⟩

/-! ### jobs -/
theorem job_same (a : ByteArray) (l : List ByteArray) : ∀ k (i : Int), impl_ValidJob.l0 k l (l.length : Int) i a l = spec_ValidJob.l0 k i a l
  | 0, _ => by simp only [impl_ValidJob.l0, spec_ValidJob.l0]
  | k + 1, i => by
    simp only [impl_ValidJob.l0, spec_ValidJob.l0, fileName_same]
    by_cases h : i < (l.length : Int) <;> by_cases h0 : 0 ≤ i <;> simp only [h, h0, if_true, if_false, job_same a l k]
theorem validJob_same (k : Nat) (a : ByteArray) (l : List ByteArray) : impl_ValidJob.f k a l = spec_ValidJob.f k a l := by
  have h : ∀ k b, impl_ValidJob.j0 k b a l = spec_ValidJob.j0 k b a l := by
    intro k b
    cases k with
    | zero => simp only [impl_ValidJob.j0, spec_ValidJob.j0]
    | succ k => simp only [impl_ValidJob.j0, spec_ValidJob.j0, job_same]
  unfold impl_ValidJob.f spec_ValidJob.f
  rw [h, h]
theorem job_ends (a : ByteArray) (l : List ByteArray) (hl : l.length ≤ maxLen) : ∀ (d k i : Nat), l.length - i = d → i ≤ l.length → d + 62 ≤ k → ∃ b, spec_ValidJob.l0 k i a l = some b := by
  intro d
  induction d with
  | zero =>
    intro k i h1 h2 h3
    obtain ⟨k, rfl⟩ : ∃ m, k = m + 1 := ⟨k - 1, by omega⟩
    exact ⟨true, by simp only [spec_ValidJob.l0]; rw [if_neg (by omega)]⟩
  | succ d ih =>
    intro k i h1 h2 h3
    obtain ⟨k, rfl⟩ : ∃ m, k = m + 1 := ⟨k - 1, by omega⟩
    obtain ⟨b, hb⟩ := ih k (i + 1) (by omega) (by omega) (by omega)
    obtain ⟨c, hc⟩ := pathOk_ends (rdOf ByteArray.empty l i) k (by omega)
    simp only [spec_ValidJob.l0]
    rw [if_pos (by omega), if_pos (by omega), hc, wrap_nat (n := l.length) (by omega) hl, hb]
    simp only [Option.bind_some]
    split
    · by_cases hi : i = 0
      · rw [if_neg (by omega)]; exact ⟨_, rfl⟩
      · rw [if_pos (by omega), wrap_pred (by omega) (by omega), if_pos (by omega), if_pos (by omega)]
        split <;> exact ⟨_, rfl⟩
    · exact ⟨_, rfl⟩
theorem validJob_ends (a : ByteArray) (l : List ByteArray) (hl : l.length ≤ maxLen) (k : Nat) (hk : l.length + 63 ≤ k) : ∃ b, spec_ValidJob.f k a l = some b := by
  obtain ⟨k, rfl⟩ : ∃ m, k = m + 1 := ⟨k - 1, by omega⟩
  obtain ⟨b, hb⟩ := job_ends a l hl l.length k 0 (by omega) (by omega) (by omega)
  have hb' : spec_ValidJob.l0 k 0 a l = some b := hb
  have h : ∀ c, ∃ b, spec_ValidJob.j0 (k + 1) c a l = some b := by
    intro c
    simp only [spec_ValidJob.j0, hb']
    split <;> exact ⟨_, rfl⟩
  unfold spec_ValidJob.f
  split <;> exact h _

theorem rdOf_nat {α : Type} (d : α) (l : List α) (i : Nat) : rdOf d l (i : Int) = l.getD i d := by unfold rdOf; simp
theorem set_copy {α β : Type} (f : α → β) (d : α) (x : List α) (y : List β) (i : Nat) (hi : i < x.length) (hy : y.length = x.length) (h : y.take i = (x.take i).map f) :
    (y.set i (f (x.getD i d))).take (i + 1) = (x.take (i + 1)).map f := by
  have e : x.getD i d = x[i] := by simp [List.getD, hi]
  rw [e, List.take_succ_eq_append_getElem (by simp; omega), List.take_succ_eq_append_getElem hi, List.map_append, ← h]
  congr 1
  · rw [List.take_set]
    rw [List.set_eq_of_length_le (by simp; omega)]
  · simp
theorem toStrings_ends (x : List ByteArray) (hx : x.length ≤ maxLen) : ∀ (d k i : Nat) (y : List ByteArray), x.length - i = d → i ≤ x.length → y.length = x.length → y.take i = x.take i → d < k →
    laws_toStringS.l0 k x y i = some x := by
  intro d
  induction d with
  | zero =>
    intro k i y h1 h2 hy ht h3
    obtain ⟨k, rfl⟩ : ∃ m, k = m + 1 := ⟨k - 1, by omega⟩
    simp only [laws_toStringS.l0]; rw [if_neg (by omega)]
    obtain rfl : i = x.length := by omega
    rw [List.take_length, List.take_of_length_le (by omega)] at ht
    rw [ht]
  | succ d ih =>
    intro k i y h1 h2 hy ht h3
    obtain ⟨k, rfl⟩ : ∃ m, k = m + 1 := ⟨k - 1, by omega⟩
    simp only [laws_toStringS.l0]
    rw [if_pos (by omega), if_pos (by omega), if_pos (by omega), wrap_nat (n := x.length) (by omega) hx, rdOf_nat]
    refine ih k (i + 1) _ (by omega) (by omega) (by simp [hy]) ?_ (by omega)
    have := set_copy (fun a => a) ByteArray.empty x y i (by omega) hy (by simpa using ht)
    simpa using this
theorem toStringS_ends (x : List ByteArray) (hx : x.length ≤ 17592186044416) (k : Nat) (hk : x.length < k) : laws_toStringS.f k x = some x := by
  unfold laws_toStringS.f
  rw [if_pos (by omega), if_pos (by simpa using hx)]
  exact toStrings_ends x (by unfold maxLen; omega) x.length k 0 _ (by omega) (by omega) (by simp) (by simp) hk
theorem eqStrings_ends (x : List ByteArray) (hx : x.length ≤ maxLen) : ∀ (d k i : Nat), x.length - i = d → i ≤ x.length → d < k → laws_eqStringS.l0 k x x i = some true := by
  intro d
  induction d with
  | zero =>
    intro k i h1 h2 h3
    obtain ⟨k, rfl⟩ : ∃ m, k = m + 1 := ⟨k - 1, by omega⟩
    simp only [laws_eqStringS.l0]; rw [if_neg (by omega)]
  | succ d ih =>
    intro k i h1 h2 h3
    obtain ⟨k, rfl⟩ : ∃ m, k = m + 1 := ⟨k - 1, by omega⟩
    simp only [laws_eqStringS.l0]
    rw [if_pos (by omega), if_pos (by omega), if_pos (by omega)]
    simp only [if_true]
    rw [wrap_nat (n := x.length) (by omega) hx]
    exact ih k (i + 1) (by omega) (by omega) (by omega)
theorem eqStringS_ends (x : List ByteArray) (hx : x.length ≤ maxLen) (k : Nat) (hk : x.length < k) : laws_eqStringS.f k x x = some true := by
  unfold laws_eqStringS.f
  rw [if_pos rfl]
  exact eqStrings_ends x hx x.length k 0 (by omega) (by omega) hk
theorem szStrings_ends (x : List ByteArray) (hx : x.length ≤ maxLen) (hs : ∀ s ∈ x, s.size ≤ maxLen) : ∀ (d k i : Nat) (a : Int), 0 ≤ a → a ≤ 9223372036854775807 → x.length - i = d → i ≤ x.length → d < k → ∃ n, laws_szStringS.l0 k x a i = some n := by
  intro d
  induction d with
  | zero =>
    intro k i a h0 ha h1 h2 h3
    obtain ⟨k, rfl⟩ : ∃ m, k = m + 1 := ⟨k - 1, by omega⟩
    simp only [laws_szStringS.l0]; rw [if_neg (by omega)]; exact ⟨_, rfl⟩
  | succ d ih =>
    intro k i a h0 ha h1 h2 h3
    obtain ⟨k, rfl⟩ : ∃ m, k = m + 1 := ⟨k - 1, by omega⟩
    simp only [laws_szStringS.l0]
    have hm : (rdOf ByteArray.empty x i).size ≤ maxLen := by
      rw [rdOf_nat]
      have e : x.getD i ByteArray.empty = x[i]'(by omega) := by simp [List.getD, show i < x.length by omega]
      rw [e]; exact hs _ (List.getElem_mem _)
    rw [if_pos (by omega), if_pos (by omega), wrap_sub h0 ha hm, wrap_nat (n := x.length) (by omega) hx]
    split
    · exact ⟨_, rfl⟩
    · exact ih k (i + 1) _ (by omega) (by omega) (by omega) (by omega) (by omega)
theorem szStringS_ends (x : List ByteArray) (hx : x.length ≤ maxLen) (hs : ∀ s ∈ x, s.size ≤ maxLen) (a : Int) (h0 : 0 ≤ a) (ha : a ≤ 9223372036854775807) (k : Nat) (hk : x.length < k) :
    ∃ n, laws_szStringS.f k x a = some n ∧ (0 ≤ n → (x.length : Int) ≤ a) := by
  unfold laws_szStringS.f
  rw [wrap_sub h0 ha hx]
  split
  · exact ⟨-1, rfl, fun h => absurd h (by omega)⟩
  · obtain ⟨n, hn⟩ := szStrings_ends x hx hs x.length k 0 (a - x.length) (by omega) (by omega) (by omega) (by omega) hk
    exact ⟨n, hn, fun _ => by omega⟩
end Go.Proofs.Ytajlomhnednghaa.S
/- Plain laws on lists of files: the program's functions and the reference's tell the same and end. No conditions. -/
namespace Go.Proofs.Ytajlomhnednghaa.S
open Go.RowKit Go.Proofs.YtajlomhnednghaaW.PrintWords Go.Proofs.YtajlomhnednghaaW.PrintLast Go.Proofs.YtajlomhnednghaaW.PrintMore
set_option linter.unusedVariables false
set_option linter.unusedSimpArgs false

theorem files_same (x : List S100) : ∀ k (i : Int), impl_filesOk.l0 k x x (x.length : Int) i = spec_l9FilesOk.l0 k x i
  | 0, _ => by simp only [impl_filesOk.l0, spec_l9FilesOk.l0]
  | k + 1, i => by
    simp only [impl_filesOk.l0, spec_l9FilesOk.l0, fileName_same]
    by_cases h : i < (x.length : Int) <;> by_cases h0 : 0 ≤ i <;> simp only [h, h0, if_true, if_false, files_same x k]
theorem filesOk_same (k : Nat) (x : List S100) (m : Int) : impl_filesOk.f k x m = spec_l9FilesOk.f k x m := by
  unfold impl_filesOk.f spec_l9FilesOk.f
  rw [files_same]
theorem validPlace_same (k : Nat) (x : List S100) : impl_ValidPlace.f k x = spec_ValidPlace.f k x := by
  unfold impl_ValidPlace.f spec_ValidPlace.f
  rw [filesOk_same]
theorem files_ends (l : List S100) (hl : l.length ≤ maxLen) : ∀ (d k i : Nat), l.length - i = d → i ≤ l.length → d + 62 ≤ k → ∃ b, spec_l9FilesOk.l0 k l i = some b := by
  intro d
  induction d with
  | zero =>
    intro k i h1 h2 h3
    obtain ⟨k, rfl⟩ : ∃ m, k = m + 1 := ⟨k - 1, by omega⟩
    exact ⟨true, by simp only [spec_l9FilesOk.l0]; rw [if_neg (by omega)]⟩
  | succ d ih =>
    intro k i h1 h2 h3
    obtain ⟨k, rfl⟩ : ∃ m, k = m + 1 := ⟨k - 1, by omega⟩
    obtain ⟨b, hb⟩ := ih k (i + 1) (by omega) (by omega) (by omega)
    obtain ⟨c, hc⟩ := pathOk_ends ((rd_T100 l i).f0) k (by omega)
    simp only [spec_l9FilesOk.l0]
    rw [if_pos (by omega), if_pos (by omega), hc, wrap_nat (n := l.length) (by omega) hl, hb]
    simp only [Option.bind_some]
    split
    · split
      · exact ⟨_, rfl⟩
      · by_cases hi : i = 0
        · rw [if_neg (by omega)]; exact ⟨_, rfl⟩
        · rw [if_pos (by omega), wrap_pred (by omega) (by omega), if_pos (by omega), if_pos (by omega)]
          split <;> exact ⟨_, rfl⟩
    · exact ⟨_, rfl⟩
theorem filesOk_ends (l : List S100) (hl : l.length ≤ maxLen) (m : Int) (k : Nat) (hk : l.length + 62 ≤ k) : ∃ b, spec_l9FilesOk.f k l m = some b := by
  unfold spec_l9FilesOk.f
  split
  · exact ⟨_, rfl⟩
  · exact files_ends l hl l.length k 0 (by omega) (by omega) hk
theorem validPlace_ends (l : List S100) (hl : l.length ≤ maxLen) (k : Nat) (hk : l.length + 62 ≤ k) : ∃ b, spec_ValidPlace.f k l = some b := by
  obtain ⟨b, hb⟩ := filesOk_ends l hl 40 k hk
  exact ⟨b, by unfold spec_ValidPlace.f; rw [hb]; rfl⟩

/-- The mirror of a file. -/
def toF (x : S113) : S100 := ⟨x.f0, x.f1⟩
theorem rd113 (x : List S113) (i : Nat) : rd_T113 x (i : Int) = x.getD i z113 := by unfold rd_T113; simp
theorem rd100 (x : List S100) (i : Nat) : rd_T100 x (i : Int) = x.getD i z100 := by unfold rd_T100; simp
theorem toFiles_ends (x : List S113) (hx : x.length ≤ maxLen) : ∀ (d k i : Nat) (y : List S100), x.length - i = d → i ≤ x.length → y.length = x.length → y.take i = (x.take i).map toF → d < k →
    laws_toFileS.l0 k x y i = some (x.map toF) := by
  intro d
  induction d with
  | zero =>
    intro k i y h1 h2 hy ht h3
    obtain ⟨k, rfl⟩ : ∃ m, k = m + 1 := ⟨k - 1, by omega⟩
    simp only [laws_toFileS.l0]; rw [if_neg (by omega)]
    obtain rfl : i = x.length := by omega
    rw [List.take_length, List.take_of_length_le (by omega)] at ht
    rw [ht]
  | succ d ih =>
    intro k i y h1 h2 hy ht h3
    obtain ⟨k, rfl⟩ : ∃ m, k = m + 1 := ⟨k - 1, by omega⟩
    simp only [laws_toFileS.l0]
    rw [if_pos (by omega), if_pos (by omega)]
    simp only [laws_toFile.f, Option.bind_some]
    rw [if_pos (by omega), wrap_nat (n := x.length) (by omega) hx, rd113]
    refine ih k (i + 1) _ (by omega) (by omega) (by simp [hy]) ?_ (by omega)
    have := set_copy toF z113 x y i (by omega) hy ht
    simpa [toF] using this
theorem toFileS_ends (x : List S113) (hx : x.length ≤ 8796093022208) (k : Nat) (hk : x.length < k) : laws_toFileS.f k x = some (x.map toF) := by
  unfold laws_toFileS.f
  rw [if_pos (by omega), if_pos (by simpa using hx)]
  exact toFiles_ends x (by unfold maxLen; omega) x.length k 0 _ (by omega) (by omega) (by simp) (by simp) hk
theorem eqFiles_ends (x : List S100) (hx : x.length ≤ maxLen) : ∀ (d k i : Nat), x.length - i = d → i ≤ x.length → d < k → laws_eqFileS.l0 k x x i = some true := by
  intro d
  induction d with
  | zero =>
    intro k i h1 h2 h3
    obtain ⟨k, rfl⟩ : ∃ m, k = m + 1 := ⟨k - 1, by omega⟩
    simp only [laws_eqFileS.l0]; rw [if_neg (by omega)]
  | succ d ih =>
    intro k i h1 h2 h3
    obtain ⟨k, rfl⟩ : ∃ m, k = m + 1 := ⟨k - 1, by omega⟩
    simp only [laws_eqFileS.l0, laws_eqFile.f, if_true, Option.bind_some]
    rw [if_pos (by omega), if_pos (by omega), if_pos (by omega), wrap_nat (n := x.length) (by omega) hx]
    exact ih k (i + 1) (by omega) (by omega) (by omega)
theorem eqFileS_ends (x : List S100) (hx : x.length ≤ maxLen) (k : Nat) (hk : x.length < k) : laws_eqFileS.f k x x = some true := by
  unfold laws_eqFileS.f
  rw [if_pos rfl]
  exact eqFiles_ends x hx x.length k 0 (by omega) (by omega) hk
def good113 (x : S113) : Prop := x.f0.size ≤ maxLen ∧ x.f1.size ≤ maxLen
theorem szFiles_ends (x : List S113) (hx : x.length ≤ maxLen) (hs : ∀ s ∈ x, good113 s) : ∀ (d k i : Nat) (a : Int), 0 ≤ a → a ≤ 9223372036854775807 → x.length - i = d → i ≤ x.length → d < k → ∃ n, laws_szFileS.l0 k x a i = some n ∧ n ≤ a := by
  intro d
  induction d with
  | zero =>
    intro k i a h0 ha h1 h2 h3
    obtain ⟨k, rfl⟩ : ∃ m, k = m + 1 := ⟨k - 1, by omega⟩
    simp only [laws_szFileS.l0]; rw [if_neg (by omega)]; exact ⟨_, rfl, Int.le_refl _⟩
  | succ d ih =>
    intro k i a h0 ha h1 h2 h3
    obtain ⟨k, rfl⟩ : ∃ m, k = m + 1 := ⟨k - 1, by omega⟩
    simp only [laws_szFileS.l0]
    have hm : good113 (rd_T113 x i) := by
      rw [rd113]
      have e : x.getD i z113 = x[i]'(by omega) := by simp [List.getD, show i < x.length by omega]
      rw [e]; exact hs _ (List.getElem_mem _)
    rw [if_pos (by omega), if_pos (by omega)]
    unfold laws_szFile.f
    rw [wrap_sub h0 ha hm.1]
    by_cases c1 : a - ((rd_T113 x i).f0.size : Int) < 0
    · rw [if_pos c1]; exact ⟨-1, by simp, by omega⟩
    · rw [if_neg c1, wrap_sub (by omega) (by omega) hm.2]
      by_cases c2 : a - ((rd_T113 x i).f0.size : Int) - ((rd_T113 x i).f1.size : Int) < 0
      · rw [if_pos c2]; exact ⟨-1, by simp, by omega⟩
      · rw [if_neg c2]; simp only [Option.bind_some]
        rw [if_neg c2, wrap_nat (n := x.length) (by omega) hx]
        obtain ⟨n, hn, hle⟩ := ih k (i + 1) (a - ((rd_T113 x i).f0.size : Int) - ((rd_T113 x i).f1.size : Int)) (by omega) (by omega) (by omega) (by omega) (by omega : d < k)
        exact ⟨n, hn, by omega⟩
theorem szFileS_ends (x : List S113) (hx : x.length ≤ maxLen) (hs : ∀ s ∈ x, good113 s) (a : Int) (h0 : 0 ≤ a) (ha : a ≤ 9223372036854775807) (k : Nat) (hk : x.length < k) :
    ∃ n, laws_szFileS.f k x a = some n ∧ n ≤ a ∧ (0 ≤ n → (x.length : Int) ≤ a) := by
  unfold laws_szFileS.f
  rw [wrap_sub h0 ha hx]
  split
  · exact ⟨-1, rfl, by omega, fun h => absurd h (by omega)⟩
  · obtain ⟨n, hn, hle⟩ := szFiles_ends x hx hs x.length k 0 (a - x.length) (by omega) (by omega) (by omega) (by omega) hk
    exact ⟨n, hn, by omega, fun _ => by omega⟩
theorem szPlace_ends (x : List S113) (hx : x.length ≤ maxLen) (hs : ∀ s ∈ x, good113 s) (a : Int) (h0 : 0 ≤ a) (ha : a ≤ 9223372036854775807) (k : Nat) (hk : x.length < k) :
    ∃ n, laws_szPlace.f k x a = some n ∧ n ≤ a ∧ (0 ≤ n → (x.length : Int) ≤ a) := by
  obtain ⟨n, hn, hle, hp⟩ := szFileS_ends x hx hs a h0 ha k hk
  unfold laws_szPlace.f
  rw [hn]; simp only [Option.bind_some]
  split
  · exact ⟨-1, rfl, by omega, fun h => absurd h (by omega)⟩
  · exact ⟨n, rfl, hle, hp⟩
end Go.Proofs.Ytajlomhnednghaa.S
/- Plain laws on looks in a place: program and reference answer the same. No conditions. -/
namespace Go.Proofs.Ytajlomhnednghaa.S
open Go.RowKit Go.Proofs.YtajlomhnednghaaW.PrintWords Go.Proofs.YtajlomhnednghaaW.PrintLast Go.Proofs.YtajlomhnednghaaW.PrintMore
set_option linter.unusedVariables false
set_option linter.unusedSimpArgs false

theorem prefix_true {s : ByteArray} {k : Nat} (h : spec_l6PathOk.f k s = some true) : s.size ≤ 60 := by
  unfold spec_l6PathOk.f spec_l6PrefixOk.f at h
  by_cases c : (s.size : Int) ≥ 1
  · rw [if_pos c] at h
    by_cases d : (s.size : Int) > 60
    · rw [if_pos d] at h; cases h
    · omega
  · omega
theorem files_true (l : List S100) (hl : l.length ≤ maxLen) : ∀ (k i : Nat), spec_l9FilesOk.l0 k l i = some true → ∀ j, i ≤ j → j < l.length → (rd_T100 l j).f0.size ≤ 60
  | 0, _, h => by simp [spec_l9FilesOk.l0] at h
  | k + 1, i, h => by
    intro j hij hj
    simp only [spec_l9FilesOk.l0] at h
    rw [if_pos (by omega), if_pos (by omega)] at h
    obtain ⟨b, hb, h⟩ := Option.bind_eq_some_iff.mp h
    cases b with
    | false => cases h
    | true =>
      simp only [if_true] at h
      by_cases e : j = i
      · subst e; exact prefix_true hb
      · have next : spec_l9FilesOk.l0 k l ((i + 1 : Nat) : Int) = some true := by
          by_cases c : ((rd_T100 l i).f1.size : Int) > 3000
          · rw [if_pos c] at h; cases h
          · rw [if_neg c, wrap_nat (n := l.length) (by omega) hl] at h
            by_cases p : (i : Int) > 0
            · rw [if_pos p, wrap_pred (by omega) (by omega), if_pos (by omega), if_pos (by omega)] at h
              by_cases q : Op.bytesLess (rd_T100 l ((i - 1 : Nat) : Int)).f0.toList (rd_T100 l i).f0.toList = true
              · rw [if_pos q] at h; exact h
              · rw [if_neg q] at h; cases h
            · rw [if_neg p] at h; exact h
        exact files_true l hl k (i + 1) next j (by omega) hj
theorem place_true {l : List S100} {k : Nat} (h : spec_ValidPlace.f k l = some true) : l.length ≤ 40 ∧ ∀ f ∈ l, f.f0.size ≤ 60 := by
  unfold spec_ValidPlace.f at h
  obtain ⟨b, hb, h⟩ := Option.bind_eq_some_iff.mp h
  obtain rfl := Option.some.inj h
  unfold spec_l9FilesOk.f at hb
  by_cases c : (l.length : Int) > 40
  · rw [if_pos c] at hb; cases hb
  · rw [if_neg c] at hb
    have hl : l.length ≤ 40 := by omega
    refine ⟨hl, fun f hf => ?_⟩
    obtain ⟨j, hj, rfl⟩ := List.mem_iff_getElem.1 hf
    have := files_true l (by unfold maxLen; omega) k 0 hb j (by omega) hj
    rw [rd100] at this
    simpa [List.getD, hj] using this

/-! ### what is listed -/
def listed : List S100 → ByteArray → ByteArray → ByteArray
  | [], _, acc => acc
  | f :: fs, name, acc => if name.size ≤ f.f0.size ∧ (f.f0.extract 0 name.size).toList = name.toList then listed fs name (acc ++ f.f0 ++ ⟨#[10]⟩) else listed fs name acc
theorem listed_size (name : ByteArray) : ∀ (l : List S100) (acc : ByteArray), (∀ f ∈ l, f.f0.size ≤ 60) → acc.size ≤ (listed l name acc).size ∧ (listed l name acc).size ≤ acc.size + 61 * l.length
  | [], acc, _ => by simp [listed]
  | f :: fs, acc, h => by
    have h1 := h f (by simp)
    have ih := fun a => listed_size name fs a (fun g hg => h g (by simp [hg]))
    simp only [listed]
    split
    · have := ih (acc ++ f.f0 ++ ⟨#[10]⟩)
      have e : (acc ++ f.f0 ++ (⟨#[10]⟩ : ByteArray)).size = acc.size + f.f0.size + 1 := by rw [ByteArray.size_append, ByteArray.size_append]; rfl
      simp only [List.length_cons]; omega
    · have := ih acc
      simp only [List.length_cons]; omega
theorem hasPrefix_some (s p : ByteArray) : strings_HasPrefix.f s p = some (decide (p.size ≤ s.size ∧ (s.extract 0 p.size).toList = p.toList)) := by
  unfold strings_HasPrefix.f stringslite_HasPrefix.f
  by_cases c : (s.size : Int) ≥ (p.size : Int)
  · rw [if_pos c, if_pos (by omega), if_pos (by omega)]
    simp only [Option.bind_some, Int.toNat_natCast]
    congr 1
    rw [Bool.eq_iff_iff]
    simp
    omega
  · rw [if_neg c]
    simp only [Option.bind_some]
    congr 1
    symm
    rw [decide_eq_false_iff_not]
    omega
theorem data_append (a b : ByteArray) : (a ++ b).data.toList = a.data.toList ++ b.data.toList := by simp [ByteArray.data_append]
theorem seeList_some (name : ByteArray) : ∀ (l : List S100) (acc : ByteArray), (∀ f ∈ l, f.f0.size ≤ 60) → acc.size + 61 * l.length ≤ 3000 → seeList l name acc.data.toList = some (listed l name acc).data.toList
  | [], acc, _, _ => rfl
  | f :: fs, acc, h, hb => by
    have h1 := h f (by simp)
    simp only [List.length_cons] at hb
    have hlen : acc.data.toList.length = acc.size := by simp
    simp only [seeList, listed, hasPrefix_some, Option.bind_some, decide_eq_true_eq]
    by_cases c : name.size ≤ f.f0.size ∧ (f.f0.extract 0 name.size).toList = name.toList
    · rw [if_pos c, if_pos (by omega), if_pos (by omega), if_pos c]
      have e : acc.data.toList ++ (f.f0 ++ (⟨#[10]⟩ : ByteArray)).data.toList = (acc ++ f.f0 ++ (⟨#[10]⟩ : ByteArray)).data.toList := by
        simp only [data_append, List.append_assoc]
      rw [e]
      refine seeList_some name fs _ (fun g hg => h g (by simp [hg])) ?_
      have e2 : (acc ++ f.f0 ++ (⟨#[10]⟩ : ByteArray)).size = acc.size + f.f0.size + 1 := by rw [ByteArray.size_append, ByteArray.size_append]; rfl
      omega
    · rw [if_neg c, if_neg c]
      exact seeList_some name fs acc (fun g hg => h g (by simp [hg])) (by omega)
theorem drop_cons (l : List S100) {i : Nat} (h : i < l.length) : l.drop i = rd_T100 l i :: l.drop (i + 1) := by
  rw [List.drop_eq_getElem_cons h, rd100]
  simp [List.getD, h]
theorem specList_some (name : ByteArray) (l : List S100) (hl : l.length ≤ 40) (hs : ∀ f ∈ l, f.f0.size ≤ 60) : ∀ (d k i : Nat) (acc : ByteArray), l.length - i = d → i ≤ l.length → acc.size + 61 * d ≤ 3000 → d < k → spec_See.l0 k name acc i l = some (0, listed (l.drop i) name acc) := by
  intro d
  induction d with
  | zero =>
    intro k i acc e1 e2 e3 e4
    obtain ⟨k, rfl⟩ : ∃ m, k = m + 1 := ⟨k - 1, by omega⟩
    obtain rfl : i = l.length := by omega
    rw [spec_See.l0, if_neg (by omega), List.drop_length]; rfl
  | succ d ih =>
    intro k i acc e1 e2 e3 e4
    obtain ⟨k, rfl⟩ : ∃ m, k = m + 1 := ⟨k - 1, by omega⟩
    have hi : i < l.length := by omega
    have hsz : (rd_T100 l i).f0.size ≤ 60 := by
      have : rd_T100 l i ∈ l := by rw [rd100]; simp [List.getD, hi]
      exact hs _ this
    rw [spec_See.l0, if_pos (by omega), if_pos (by omega), drop_cons l hi, wrap_nat (n := l.length) hi (by unfold maxLen; omega)]
    simp only [listed, Int.toNat_natCast]
    by_cases c : name.size ≤ (rd_T100 l i).f0.size
    · rw [if_pos (by omega), if_pos (by omega), if_pos (by omega)]
      by_cases e : ((rd_T100 l i).f0.extract 0 name.size).toList = name.toList
      · have e2' : (acc ++ (rd_T100 l i).f0).size = acc.size + (rd_T100 l i).f0.size := by rw [ByteArray.size_append]
        have e3' : (acc ++ (rd_T100 l i).f0 ++ (⟨#[10]⟩ : ByteArray)).size = acc.size + (rd_T100 l i).f0.size + 1 := by rw [ByteArray.size_append, ByteArray.size_append]; rfl
        rw [if_pos e, if_pos (by omega), if_pos (by omega), if_pos ⟨c, e⟩]
        exact ih k (i + 1) _ (by omega) (by omega) (by omega) (by omega)
      · rw [if_neg e, if_neg (fun h => e h.2)]
        exact ih k (i + 1) _ (by omega) (by omega) (by omega) (by omega)
    · rw [if_neg (by omega), if_neg (fun h => c h.1)]
      exact ih k (i + 1) _ (by omega) (by omega) (by omega) (by omega)
theorem specAt_some (name : ByteArray) (l : List S100) (hl : l.length ≤ maxLen) : ∀ (d k i : Nat), l.length - i = d → i ≤ l.length → d < k → ∃ n, spec_l10At.l0 k l name i = some n ∧ ((n = -1 ∧ seeFind (l.drop i) name = none) ∨ (0 ≤ n ∧ n < l.length ∧ seeFind (l.drop i) name = some (rd_T100 l n))) := by
  intro d
  induction d with
  | zero =>
    intro k i e1 e2 e3
    obtain ⟨k, rfl⟩ : ∃ m, k = m + 1 := ⟨k - 1, by omega⟩
    obtain rfl : i = l.length := by omega
    rw [spec_l10At.l0, if_neg (by omega), List.drop_length]
    exact ⟨_, rfl, .inl ⟨rfl, rfl⟩⟩
  | succ d ih =>
    intro k i e1 e2 e3
    obtain ⟨k, rfl⟩ : ∃ m, k = m + 1 := ⟨k - 1, by omega⟩
    have hi : i < l.length := by omega
    rw [spec_l10At.l0, if_pos (by omega), if_pos (by omega), drop_cons l hi, wrap_nat (n := l.length) hi hl]
    simp only [seeFind]
    by_cases e : (rd_T100 l i).f0.toList = name.toList
    · rw [if_pos e, if_pos e]
      exact ⟨_, rfl, .inr ⟨by omega, by omega, rfl⟩⟩
    · rw [if_neg e, if_neg e]
      exact ih k (i + 1) (by omega) (by omega) (by omega)
theorem see_same (l : List S100) (kind : Int) (name : ByteArray) (k : Nat) (hl : l.length ≤ maxLen) (hk : l.length + 64 ≤ k) : ∃ r, spec_See.f k l kind name = some r ∧ impl_See.f k l kind name = some r := by
  obtain ⟨b, hb⟩ := validPlace_ends l hl k (by omega)
  obtain ⟨q, rfl⟩ : ∃ q, k = q + 1 := ⟨k - 1, by omega⟩
  unfold spec_See.f impl_See.f
  rw [validPlace_same, hb]
  simp only [Option.bind_some]
  cases b with
  | false =>
    simp only [Bool.false_eq_true, if_false]
    exact ⟨(5, ⟨#[]⟩), by rw [spec_See.j0]; rfl, rfl⟩
  | true =>
    simp only [if_true]
    obtain ⟨h40, hs⟩ := place_true hb
    by_cases lo : kind < 1
    · rw [if_pos lo, if_neg (by omega), if_neg (by omega)]
      exact ⟨(5, ⟨#[]⟩), by rw [spec_See.j0]; rfl, rfl⟩
    · rw [if_neg lo]
      by_cases hi : kind > 3
      · rw [if_neg (by omega), if_neg (by omega), show decide (kind > 3) = true from by simpa using hi]
        exact ⟨(5, ⟨#[]⟩), by rw [spec_See.j0]; rfl, rfl⟩
      · rw [show decide (kind > 3) = false from by simpa using hi, spec_See.j0]
        simp only [Bool.false_eq_true, if_false]
        by_cases k3 : kind = 3
        · subst k3
          rw [if_pos rfl, if_neg (by omega), if_pos rfl]
          have e1 := specList_some name l h40 hs l.length q 0 ⟨#[]⟩ (by omega) (by omega) (by show 0 + 61 * l.length ≤ 3000; omega) (by omega)
          have e2 := seeList_some name l ⟨#[]⟩ hs (by show 0 + 61 * l.length ≤ 3000; omega)
          have sz := (listed_size name l ⟨#[]⟩ hs).2
          rw [List.drop_zero] at e1
          have e1' : spec_See.l0 q name ⟨#[]⟩ 0 l = some (0, listed l name ⟨#[]⟩) := e1
          have e2' : seeList l name [] = some (listed l name ⟨#[]⟩).data.toList := e2
          rw [e1', e2']
          have hlen : (listed l name ⟨#[]⟩).data.toList.length = (listed l name ⟨#[]⟩).size := by simp
          have h0 : (⟨#[]⟩ : ByteArray).size = 0 := rfl
          refine ⟨_, rfl, ?_⟩
          simp only [Option.bind_some]
          rw [if_pos (by omega)]
        · rw [if_neg k3, if_pos (by omega)]
          obtain ⟨n, hn, hcase⟩ := specAt_some name l hl l.length q 0 (by omega) (by omega) (by omega)
          unfold spec_l10At.f
          have hn' : spec_l10At.l0 q l name 0 = some n := hn
          rw [hn']
          simp only [Option.bind_some]
          rw [List.drop_zero] at hcase
          rcases hcase with ⟨rfl, h⟩ | ⟨h0, h1, h⟩
          · rw [if_pos (by omega), h]; exact ⟨_, rfl, rfl⟩
          · rw [if_neg (by omega), h]
            by_cases k2 : kind = 2
            · rw [if_pos k2]; exact ⟨(0, ⟨#[]⟩), rfl, by simp [seeGot, k2]⟩
            · rw [if_neg k2, if_pos h0, if_pos h1]; exact ⟨(0, (rd_T100 l n).f1), rfl, by simp [seeGot, k2]⟩
end Go.Proofs.Ytajlomhnednghaa.S
/- The law FnExactHolds answers true: program and reference tell alike whether a place shows what was seen. Conditions: none. -/
namespace Go.Proofs.Ytajlomhnednghaa.S
open Go.RowKit Go.Proofs.YtajlomhnednghaaW.PrintWords Go.Proofs.YtajlomhnednghaaW.PrintLast Go.Proofs.YtajlomhnednghaaW.PrintMore
set_option linter.unusedVariables false
set_option linter.unusedSimpArgs false
def toSe (x : S121) : S123 := ⟨x.f0, x.f1, ⟨x.f2.f0, x.f2.f1⟩⟩
theorem rd121 (x : List S121) (i : Nat) : rd_T121 x (i : Int) = x.getD i z121 := by unfold rd_T121; simp
theorem rd123 (x : List S123) (i : Nat) : rd_T123 x (i : Int) = x.getD i z123 := by unfold rd_T123; simp
theorem toSeens_ends (x : List S121) (hx : x.length ≤ maxLen) : ∀ (d k i : Nat) (y : List S123), x.length - i = d → i ≤ x.length → y.length = x.length → y.take i = (x.take i).map toSe → d < k →
    laws_toSeenS.l0 k x y i = some (x.map toSe) := by
  intro d
  induction d with
  | zero =>
    intro k i y h1 h2 hy ht h3
    obtain ⟨k, rfl⟩ : ∃ m, k = m + 1 := ⟨k - 1, by omega⟩
    simp only [laws_toSeenS.l0]; rw [if_neg (by omega)]
    obtain rfl : i = x.length := by omega
    rw [List.take_length, List.take_of_length_le (by omega)] at ht
    rw [ht]
  | succ d ih =>
    intro k i y h1 h2 hy ht h3
    obtain ⟨k, rfl⟩ : ∃ m, k = m + 1 := ⟨k - 1, by omega⟩
    simp only [laws_toSeenS.l0]
    rw [if_pos (by omega), if_pos (by omega)]
    simp only [laws_toSeen.f, laws_toReply.f, Option.bind_some]
    rw [if_pos (by omega), wrap_nat (n := x.length) (by omega) hx, rd121]
    refine ih k (i + 1) _ (by omega) (by omega) (by simp [hy]) ?_ (by omega)
    have := set_copy toSe z121 x y i (by omega) hy ht
    simpa [toSe] using this
theorem toSeenS_ends (x : List S121) (hx : x.length ≤ 1048576) (k : Nat) (hk : x.length < k) : laws_toSeenS.f k x = some (x.map toSe) := by
  unfold laws_toSeenS.f
  rw [if_pos (by omega), if_pos (by simp; omega)]
  exact toSeens_ends x (by unfold maxLen; omega) x.length k 0 _ (by omega) (by omega) (by simp) (by simp) hk
theorem eqSeens_ends (x : List S123) (hx : x.length ≤ maxLen) : ∀ (d k i : Nat), x.length - i = d → i ≤ x.length → d < k → laws_eqSeenS.l0 k x x i = some true := by
  intro d
  induction d with
  | zero =>
    intro k i h1 h2 h3
    obtain ⟨k, rfl⟩ : ∃ m, k = m + 1 := ⟨k - 1, by omega⟩
    simp only [laws_eqSeenS.l0]; rw [if_neg (by omega)]
  | succ d ih =>
    intro k i h1 h2 h3
    obtain ⟨k, rfl⟩ : ∃ m, k = m + 1 := ⟨k - 1, by omega⟩
    simp only [laws_eqSeenS.l0, laws_eqSeen.f, laws_eqReply.f, if_true, Option.bind_some]
    rw [if_pos (by omega), if_pos (by omega), if_pos (by omega), wrap_nat (n := x.length) (by omega) hx]
    exact ih k (i + 1) (by omega) (by omega) (by omega)
theorem eqSeenS_ends (x : List S123) (hx : x.length ≤ maxLen) (k : Nat) (hk : x.length < k) : laws_eqSeenS.f k x x = some true := by
  unfold laws_eqSeenS.f
  rw [if_pos rfl]
  exact eqSeens_ends x hx x.length k 0 (by omega) (by omega) hk
def good24 (x : S24) : Prop := (Lit.int .i64 x.f0).wf = true ∧ x.f1.size ≤ maxLen
def good121 (x : S121) : Prop := (Lit.int .i64 x.f0).wf = true ∧ x.f1.size ≤ maxLen ∧ good24 x.f2
theorem szSeens_ends (x : List S121) (hx : x.length ≤ maxLen) (hs : ∀ s ∈ x, good121 s) : ∀ (d k i : Nat) (a : Int), 0 ≤ a → a ≤ 9223372036854775807 → x.length - i = d → i ≤ x.length → d < k → ∃ n, laws_szSeenS.l0 k x a i = some n ∧ n ≤ a := by
  intro d
  induction d with
  | zero =>
    intro k i a h0 ha h1 h2 h3
    obtain ⟨k, rfl⟩ : ∃ m, k = m + 1 := ⟨k - 1, by omega⟩
    simp only [laws_szSeenS.l0]; rw [if_neg (by omega)]; exact ⟨_, rfl, Int.le_refl _⟩
  | succ d ih =>
    intro k i a h0 ha h1 h2 h3
    obtain ⟨k, rfl⟩ : ∃ m, k = m + 1 := ⟨k - 1, by omega⟩
    simp only [laws_szSeenS.l0]
    have hm : good121 (rd_T121 x i) := by
      rw [rd121]
      have e : x.getD i z121 = x[i]'(by omega) := by simp [List.getD, show i < x.length by omega]
      rw [e]; exact hs _ (List.getElem_mem _)
    rw [if_pos (by omega), if_pos (by omega)]
    unfold laws_szSeen.f laws_szReply.f
    rw [wrap_sub h0 ha hm.2.1]
    by_cases c1 : a - ((rd_T121 x i).f1.size : Int) < 0
    · rw [if_pos c1]; exact ⟨-1, by simp, by omega⟩
    · rw [if_neg c1, wrap_sub (by omega) (by omega) hm.2.2.2]
      by_cases c2 : a - ((rd_T121 x i).f1.size : Int) - ((rd_T121 x i).f2.f1.size : Int) < 0
      · rw [if_pos c2]; exact ⟨-1, by simp, by omega⟩
      · rw [if_neg c2]; simp only [Option.bind_some]
        rw [if_neg c2]; simp only [Option.bind_some]
        rw [if_neg c2, wrap_nat (n := x.length) (by omega) hx]
        obtain ⟨n, hn, hle⟩ := ih k (i + 1) (a - ((rd_T121 x i).f1.size : Int) - ((rd_T121 x i).f2.f1.size : Int)) (by omega) (by omega) (by omega) (by omega) (by omega : d < k)
        exact ⟨n, hn, by omega⟩
theorem szSeenS_ends (x : List S121) (hx : x.length ≤ maxLen) (hs : ∀ s ∈ x, good121 s) (a : Int) (h0 : 0 ≤ a) (ha : a ≤ 9223372036854775807) (k : Nat) (hk : x.length < k) :
    ∃ n, laws_szSeenS.f k x a = some n ∧ n ≤ a ∧ (0 ≤ n → (x.length : Int) ≤ a) := by
  unfold laws_szSeenS.f
  rw [wrap_sub h0 ha hx]
  split
  · exact ⟨-1, rfl, by omega, fun h => absurd h (by omega)⟩
  · obtain ⟨n, hn, hle⟩ := szSeens_ends x hx hs x.length k 0 (a - x.length) (by omega) (by omega) (by omega) (by omega) hk
    exact ⟨n, hn, by omega, fun _ => by omega⟩
theorem holds_same (l : List S100) (hl : l.length ≤ maxLen) (x : List S123) (hx : x.length ≤ maxLen) : ∀ (d k i : Nat), x.length - i = d → i ≤ x.length → d + l.length + 64 < k →
    ∃ r, spec_Holds.l0 k x i l = some r ∧ impl_Holds.l0 k x (x.length : Int) i l = some r := by
  intro d
  induction d with
  | zero =>
    intro k i h1 h2 h3
    obtain ⟨k, rfl⟩ : ∃ m, k = m + 1 := ⟨k - 1, by omega⟩
    refine ⟨true, ?_, ?_⟩
    · rw [spec_Holds.l0, if_neg (by omega)]
    · rw [impl_Holds.l0, if_neg (by omega)]
  | succ d ih =>
    intro k i h1 h2 h3
    obtain ⟨k, rfl⟩ : ∃ m, k = m + 1 := ⟨k - 1, by omega⟩
    obtain ⟨r, e1, e2⟩ := ih k (i + 1) (by omega) (by omega) (by omega)
    obtain ⟨q, q1, q2⟩ := see_same l (rd_T123 x i).f0 (rd_T123 x i).f1 k hl (by omega)
    rw [spec_Holds.l0, impl_Holds.l0, q1, q2, if_pos (by omega), if_pos (by omega), if_pos (by omega), if_pos (by omega), if_pos (by omega), wrap_nat (n := x.length) (by omega) hx, e1, e2]
    simp only [Option.bind_some]
    generalize (!(q.1 == ((rd_T123 x i).f2.f0)) || (!(q.2.toList == (((rd_T123 x i).f2.f1).toList)))) = b
    cases b
    · exact ⟨r, rfl, rfl⟩
    · exact ⟨false, rfl, rfl⟩
end Go.Proofs.Ytajlomhnednghaa.S
namespace Go.Proofs.Ytajlomhnednghaa.Pure
open Go.RowKit Go.Proofs.Ytajlomhnednghaa.S Go.Proofs.YtajlomhnednghaaW.PrintWords Go.Proofs.YtajlomhnednghaaW.PrintLast Go.Proofs.YtajlomhnednghaaW.PrintMore
set_option linter.unusedVariables false
theorem FnExactHolds (x0_0 : List (S113)) (x1 : List (S121)) (hg0 : (x0_0.length ≤ maxLen ∧ ∀ y4 ∈ x0_0, good113 y4)) (hg1 : (x1.length ≤ maxLen ∧ ∀ y2 ∈ x1, good121 y2)) : ∃ k, laws_FnExactHolds.f k x0_0 x1 = some true := by
  obtain ⟨hl, hm⟩ := hg0
  obtain ⟨hl1, hm1⟩ := hg1
  refine ⟨x0_0.length + x1.length + 66, ?_⟩
  generalize hk : x0_0.length + x1.length + 66 = k
  unfold laws_FnExactHolds.f
  obtain ⟨n, hn, hle', hle⟩ := szPlace_ends x0_0 hl hm 1048576 (by omega) (by omega) k (by omega)
  rw [hn]; simp only [Option.bind_some]
  by_cases c : n < 0
  · rw [if_pos c]
  · rw [if_neg c]
    obtain ⟨n2, hn2, hle2', hle2⟩ := szSeenS_ends x1 hl1 hm1 n (by omega) (by omega) k (by omega)
    rw [hn2]; simp only [Option.bind_some]
    by_cases c2 : n2 < 0
    · rw [if_pos c2]
    · rw [if_neg c2]
      have b1 := hle (by omega)
      have b2 := hle2 (by omega)
      have h1 := toFileS_ends x0_0 (by omega) k (by omega)
      have h2 := toSeenS_ends x1 (by omega) k (by omega)
      have hlen : (x0_0.map toF).length = x0_0.length := by simp
      have hlen2 : (x1.map toSe).length = x1.length := by simp
      have hml : (1048576 : Nat) ≤ maxLen := by unfold maxLen; omega
      obtain ⟨b, hb⟩ := validPlace_ends (x0_0.map toF) (by omega) k (by omega)
      obtain ⟨r, e1, e2⟩ := holds_same (x0_0.map toF) (by omega) (x1.map toSe) (by omega) x1.length k 0 (by omega) (by omega) (by omega)
      have e1' : spec_Holds.l0 k (x1.map toSe) 0 (x0_0.map toF) = some r := e1
      have e2' : impl_Holds.l0 k (x1.map toSe) ((x1.map toSe).length : Int) 0 (x0_0.map toF) = some r := e2
      have s1 : spec_Holds.f k (x0_0.map toF) (x1.map toSe) = some (if b = true then r else false) := by
        unfold spec_Holds.f; rw [hb, e1']; cases b <;> rfl
      have s2 : impl_Holds.f k (x0_0.map toF) (x1.map toSe) = some (if b = true then r else false) := by
        unfold impl_Holds.f; rw [validPlace_same, hb, e2']; cases b <;> rfl
      simp only [laws_toPlace.f, h1, h2, Option.bind_some, s1, s2, laws_eqPlace.f, eqFileS_ends _ (show (x0_0.map toF).length ≤ maxLen by omega) k (by omega), eqSeenS_ends _ (show (x1.map toSe).length ≤ maxLen by omega) k (by omega), bne_self_eq_false, Bool.false_eq_true, if_false, if_true]
end Go.Proofs.Ytajlomhnednghaa.Pure
/- The row of the law FnExactHolds, out of its pure statement and the walk of its text. Conditions: none. -/
namespace Go.Proofs.Ytajlomhnednghaa.fnExactHolds
open Go.ChangeShapes Go.WideShapes Go.ChangeAt Go.RowKit Go.Proofs.Ytajlomhnednghaa.Open Go.Proofs.Ytajlomhnednghaa.S Go.Proofs.YtajlomhnednghaaW.PrintWords
set_option linter.unusedVariables false
theorem own : ownKnob Try.prog.godebug = none := by kernel_rfl
theorem laidOut : laidOutB Try.prog = true := by kernel_rfl
theorem cells3 : Try.prog.cellsOf 3 = 1 := by kernel_rfl
theorem cells9 : Try.prog.cellsOf 9 = 1 := by kernel_rfl
theorem cells24 : Try.prog.cellsOf 24 = 2 := by kernel_rfl
theorem cells50 : Try.prog.cellsOf 50 = 1 := by kernel_rfl
theorem cells52 : Try.prog.cellsOf 52 = 1 := by kernel_rfl
theorem cells74 : Try.prog.cellsOf 74 = 1 := by kernel_rfl
theorem cells113 : Try.prog.cellsOf 113 = 2 := by kernel_rfl
theorem cells121 : Try.prog.cellsOf 121 = 4 := by kernel_rfl
theorem open_k113 : Opens Try.prog 113 k113 (fun x => good113 x) :=
  opens_iso (fun a => S113.mk (a.1) (a.2)) (fun _ => rfl) (opens_struct Try.underlying113 cells113 (fields_cons (off := 0) (off' := 1) 9 (d := Kd.string) (by rfl) (by rfl) cells9 rfl (opens_string Try.underlying9) (fields_one (off := 1) 9 (d := Kd.string) (by rfl) (by rfl) cells9 (opens_string Try.underlying9))))
theorem open_k24 : Opens Try.prog 24 k24 (fun x => good24 x) :=
  opens_iso (fun a => S24.mk (a.1) (a.2)) (fun _ => rfl) (opens_struct Try.underlying24 cells24 (fields_cons (off := 0) (off' := 1) 3 (d := (Kd.int .i64)) (by rfl) (by rfl) cells3 rfl (opens_int Try.underlying3) (fields_one (off := 1) 9 (d := Kd.string) (by rfl) (by rfl) cells9 (opens_string Try.underlying9))))
theorem open_k121 : Opens Try.prog 121 k121 (fun x => good121 x) :=
  opens_iso (fun a => S121.mk (a.1) (a.2.1) (a.2.2)) (fun _ => rfl) (opens_struct Try.underlying121 cells121 (fields_cons (off := 0) (off' := 1) 3 (d := (Kd.int .i64)) (by rfl) (by rfl) cells3 rfl (opens_int Try.underlying3) (fields_cons (off := 1) (off' := 2) 9 (d := Kd.string) (by rfl) (by rfl) cells9 rfl (opens_string Try.underlying9) (fields_one (off := 2) 24 (d := k24) (by rfl) (by rfl) cells24 open_k24))))
theorem open_arg0 : Opens Try.prog 52 (Kd.slice 113 k113) (fun x => (x.length ≤ maxLen ∧ ∀ y1 ∈ x, good113 y1)) :=
  opens_struct Try.underlying52 cells52 (fields_one (off := 0) 50 (d := (Kd.slice 113 k113)) (by rfl) (by rfl) cells50 (opens_slice (d := k113) 113 Try.underlying50 cells113 open_k113))
theorem open_arg1 : Opens Try.prog 74 (Kd.slice 121 k121) (fun x => (x.length ≤ maxLen ∧ ∀ y1 ∈ x, good121 y1)) :=
  (opens_slice (d := k121) 121 Try.underlying74 cells121 open_k121)
set_option maxRecDepth 100000 in
set_option maxHeartbeats 2000000 in
theorem lifted (os : Os) (started : os.Started) (H : Type) (enc : TypeId × Value → H) :
    ReturnsInHanded {} Try.checked os 12 .any (Rows.fnExactHoldsSpec.pre6 enc Try.prog Try.f12 Rows.fnExactHoldsRow.domain false) (Rows.fnExactHoldsSpec.post enc Try.prog Try.f12 false true false false) := by
  refine returnsInHanded_of_change_sized (C := Try.checked) own started (by kernel_rfl) Try.func12
    (ChangeSpec.witness6 (enc := enc) (C := Try.checked) false ⟨#[], #[.agg #[.slice none 0 0], .slice none 0 0], []⟩ 8 (by kernel_rfl) (by kernel_rfl) (by kernel_rfl) (by kernel_rfl)) ?_
  intro W base args ds gs before hval0 hW hcnd hsz0 _
  have hval : ∀ (j : Nat) t v, Try.f12.params[j]? = some t → args[j]? = some v → Value.okWide Try.prog W .any base t v := hval0
  have hW' := hW
  obtain ⟨p, q, hA0, hV, rfl, hfz, hnd⟩ := hW
  have hA : DataW.TrodAll enc Try.prog W 0 (fun _ => true) true Try.f12.params.toList args.toList ds p := hA0
  rw [Try.params12] at hA hval
  obtain ⟨v0, vs0, d0, ds0, p0, q0, hargs, rfl, rfl, h0, r0⟩ := trodAll_cons hA
  obtain ⟨v1, vs1, d1, ds1, p1, q1, rfl, rfl, rfl, h1, r1⟩ := trodAll_cons r0
  obtain ⟨rfl, rfl, rfl⟩ := trodAll_nil r1
  obtain rfl : args = #[v0, v1] := by cases args; simp_all
  obtain ⟨rfl, rfl⟩ := trodVars_none hV
  have k0 := h0
  have lt0 : ∀ x ∈ p0, x.block < W.heap.size := by obtain ⟨m, hm⟩ := k0; exact DataW.trod_lt m _ _ _ hm
  obtain ⟨cs0, rfl, _⟩ := okWide_struct Try.underlying52 (hval 0 52 v0 rfl rfl)
  obtain ⟨x0_0, hg0, hK0⟩ := opens_arg open_arg0 h0
  obtain ⟨A0_0, c0_0, e0, hl0_0, hr0_0⟩ := hK0
  obtain rfl : cs0 = #[.slice A0_0 x0_0.length c0_0] := by apply Array.toList_inj.1; exact e0
  have k1 := h1
  have lt1 : ∀ x ∈ p1, x.block < W.heap.size := by obtain ⟨m, hm⟩ := k1; exact DataW.trod_lt m _ _ _ hm
  obtain ⟨a1, len1, cap1, rfl⟩ := okWide_slice Try.underlying74 (hval 1 74 v1 rfl rfl)
  obtain ⟨x1, hg1, A1, c1, e1, hl1, hr1⟩ := opens_arg open_arg1 h1
  obtain ⟨rfl, rfl, rfl⟩ : a1 = A1 ∧ len1 = x1.length ∧ cap1 = c1 := by simpa [Value.cells] using e1
  obtain ⟨k, hk⟩ := Pure.FnExactHolds x0_0 x1 hg0 hg1
  refine (laws_FnExactHolds.calls (k := k) (l0_0 := x0_0) (hr0_0 := hr0_0) (hc0_0 := hl0_0) (l1 := x1) (hr1 := hr1) (hc1 := hl1) (r := true) (w := W) (hrt := rfl) (h := hk)).mono fun e W' ⟨he, bel0⟩ => ?_
  have bel : Below W.heap.size W W' := bel0
  subst he
  exact ⟨_, rfl, _, _, _, [], _, [], hW', trodAll_mk1 (shut_bool Try.underlying4 _), (trodAll_cons_mk (Below.trod laidOut (by kernel_rfl) (of_decide_eq_true (by kernel_rfl)) k0 bel lt0) (trodAll_cons_mk (Below.trod laidOut (by kernel_rfl) (of_decide_eq_true (by kernel_rfl)) k1 bel lt1) trodAll_mk0)), rfl, bel.frame _, fun h => by cases h⟩
theorem over : Rows.fnExactHoldsRow.holds Try.pinned (OpenSpec.ofChange Rows.fnExactHoldsSpec) :=
  OpenClaim.holds_of_wide 12 Try.f12 rfl rfl rfl rfl rfl rfl rfl ⟨rfl, rfl, rfl, rfl, rfl⟩ rfl rfl rfl rfl rfl (by kernel_rfl) Try.func12 (by kernel_rfl)
    (of_decide_eq_true (by kernel_rfl)) (by unfold Func.isWrapper; first | (rw [if_pos (by decide +kernel)]; kernel_rfl) | (rw [if_neg (by decide +kernel)]; exact ⟨rfl, rfl⟩))
    (fun os started H enc _ => lifted os started H enc)
end Go.Proofs.Ytajlomhnednghaa.fnExactHolds
namespace Go.Proofs.Ytajlomhnednghaa
/-- The law FnExactHolds: for every input it returns true. -/
theorem fnExactHolds_holds : Rows.FnExactHoldsSaid := fnExactHolds.over
#print axioms fnExactHolds_holds
end Go.Proofs.Ytajlomhnednghaa
