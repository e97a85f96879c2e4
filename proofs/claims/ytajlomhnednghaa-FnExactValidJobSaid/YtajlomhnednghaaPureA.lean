/- Plain laws on names of files, jobs, places: the program's functions and the reference's tell the same and end. No conditions. -/
import Derived.Test.YtajlomhnednghaaWMore
import Derived.Test.YtajlomhnednghaaRx26
import Derived.Test.YtajlomhnednghaaRx43
namespace Go.Proofs.Ytajlomhnednghaa.R
open Go.RowKit Go.Proofs.YtajlomhnednghaaW.PrintWords Go.Proofs.YtajlomhnednghaaW.PrintLast Go.Proofs.YtajlomhnednghaaW.PrintMore
set_option linter.unusedVariables false
set_option linter.unusedSimpArgs false

theorem wrap_nat {i n : Nat} (h : i < n) (hn : n ≤ maxLen) : wrap64 ((i : Int) + 1) = ((i + 1 : Nat) : Int) := by
  unfold maxLen at hn; unfold wrap64; omega
theorem wrap_pred {i : Nat} (h : 0 < i) (hn : i ≤ maxLen) : wrap64 ((i : Int) - 1) = ((i - 1 : Nat) : Int) := by
  unfold maxLen at hn; unfold wrap64; omega
theorem wrap_sub {a : Int} {n : Nat} (h0 : 0 ≤ a) (h1 : a ≤ 9223372036854775807) (hn : n ≤ maxLen) : wrap64 (a - (n : Int)) = a - n := by
  unfold maxLen at hn; unfold wrap64; omega

theorem prefix_same : ∀ k s i, impl_pathText.l0 k s i = spec_l6PrefixOk.l0 k s i
  | 0, _, _ => rfl
  | k + 1, s, i => by
    simp only [impl_pathText.l0, spec_l6PrefixOk.l0, prefix_same k s]
theorem pathText_same (k : Nat) (s : ByteArray) : impl_pathText.f k s = spec_l6PrefixOk.f k s := by
  unfold impl_pathText.f spec_l6PrefixOk.f
  rw [prefix_same]
theorem toList_nil (s : ByteArray) : s.toList = [] ↔ s.size = 0 := by
  constructor
  · intro h
    have : s.toList.length = s.size := by simp [ByteArray.toList_eq]
    rw [h] at this; simpa using this.symm
  · intro h
    have : s.toList.length = s.size := by simp [ByteArray.toList_eq]
    rw [h] at this; exact List.eq_nil_of_length_eq_zero this
theorem fileName_same (k : Nat) (s : ByteArray) : impl_fileName.f k s = spec_l6PathOk.f k s := by
  unfold impl_fileName.f spec_l6PathOk.f
  rw [pathText_same]
  by_cases h : s.size = 0
  · rw [if_pos ((toList_nil s).2 h), if_neg (by omega)]
  · rw [if_neg (fun e => h ((toList_nil s).1 e)), if_pos (by omega)]
theorem prefix_ends (s : ByteArray) (hs : s.size ≤ 60) : ∀ (d k i : Nat), s.size - i = d → i ≤ s.size → d < k → ∃ b, spec_l6PrefixOk.l0 k s i = some b := by
  intro d
  induction d with
  | zero =>
    intro k i h1 h2 h3
    obtain ⟨k, rfl⟩ : ∃ m, k = m + 1 := ⟨k - 1, by omega⟩
    exact ⟨true, by simp only [spec_l6PrefixOk.l0]; rw [if_neg (by omega)]⟩
  | succ d ih =>
    intro k i h1 h2 h3
    obtain ⟨k, rfl⟩ : ∃ m, k = m + 1 := ⟨k - 1, by omega⟩
    obtain ⟨b, hb⟩ := ih k (i + 1) (by omega) (by omega) (by omega)
    simp only [spec_l6PrefixOk.l0]
    rw [if_pos (by omega), if_pos (by omega), wrap_nat (n := s.size) (by omega) (by unfold maxLen; omega), hb]
    split
    · exact ⟨_, rfl⟩
    · split <;> exact ⟨_, rfl⟩
theorem prefixOk_ends (s : ByteArray) (k : Nat) (hk : 61 ≤ k) : ∃ b, spec_l6PrefixOk.f k s = some b := by
  unfold spec_l6PrefixOk.f
  split
  · exact ⟨_, rfl⟩
  · exact prefix_ends s (by omega) s.size k 0 (by omega) (by omega) (by omega)
theorem pathOk_ends (s : ByteArray) (k : Nat) (hk : 61 ≤ k) : ∃ b, spec_l6PathOk.f k s = some b := by
  unfold spec_l6PathOk.f
  split
  · obtain ⟨b, hb⟩ := prefixOk_ends s k hk
    exact ⟨b, by rw [hb]; rfl⟩
  · exact ⟨_, rfl⟩

/-! ### jobs -/
theorem job_same (a : ByteArray) (l : List ByteArray) : ∀ k (i : Int), impl_ValidJob.l0 k l (l.length : Int) i a l = spec_ValidJob.l0 k i a l
  | 0, _ => by simp only [impl_ValidJob.l0, spec_ValidJob.l0]
  | k + 1, i => by
    simp only [impl_ValidJob.l0, spec_ValidJob.l0, fileName_same]
    by_cases h : i < (l.length : Int) <;> by_cases h0 : 0 ≤ i <;> simp only [h, h0, if_true, if_false, job_same a l k]
theorem validJob_same (k : Nat) (a : ByteArray) (l : List ByteArray) : impl_ValidJob.f k a l = spec_ValidJob.f k a l := by
  have h : ∀ k b, impl_ValidJob.j0 k b a l = spec_ValidJob.j0 k b a l := by
    intro k b
    cases k with
    | zero => simp only [impl_ValidJob.j0, spec_ValidJob.j0]
    | succ k => simp only [impl_ValidJob.j0, spec_ValidJob.j0, job_same]
  unfold impl_ValidJob.f spec_ValidJob.f
  rw [h, h]
theorem job_ends (a : ByteArray) (l : List ByteArray) (hl : l.length ≤ maxLen) : ∀ (d k i : Nat), l.length - i = d → i ≤ l.length → d + 62 ≤ k → ∃ b, spec_ValidJob.l0 k i a l = some b := by
  intro d
  induction d with
  | zero =>
    intro k i h1 h2 h3
    obtain ⟨k, rfl⟩ : ∃ m, k = m + 1 := ⟨k - 1, by omega⟩
    exact ⟨true, by simp only [spec_ValidJob.l0]; rw [if_neg (by omega)]⟩
  | succ d ih =>
    intro k i h1 h2 h3
    obtain ⟨k, rfl⟩ : ∃ m, k = m + 1 := ⟨k - 1, by omega⟩
    obtain ⟨b, hb⟩ := ih k (i + 1) (by omega) (by omega) (by omega)
    obtain ⟨c, hc⟩ := pathOk_ends (rdOf ByteArray.empty l i) k (by omega)
    simp only [spec_ValidJob.l0]
    rw [if_pos (by omega), if_pos (by omega), hc, wrap_nat (n := l.length) (by omega) hl, hb]
    simp only [Option.bind_some]
    split
    · by_cases hi : i = 0
      · rw [if_neg (by omega)]; exact ⟨_, rfl⟩
      · rw [if_pos (by omega), wrap_pred (by omega) (by omega), if_pos (by omega), if_pos (by omega)]
        split <;> exact ⟨_, rfl⟩
    · exact ⟨_, rfl⟩
theorem validJob_ends (a : ByteArray) (l : List ByteArray) (hl : l.length ≤ maxLen) (k : Nat) (hk : l.length + 63 ≤ k) : ∃ b, spec_ValidJob.f k a l = some b := by
  obtain ⟨k, rfl⟩ : ∃ m, k = m + 1 := ⟨k - 1, by omega⟩
  obtain ⟨b, hb⟩ := job_ends a l hl l.length k 0 (by omega) (by omega) (by omega)
  have hb' : spec_ValidJob.l0 k 0 a l = some b := hb
  have h : ∀ c, ∃ b, spec_ValidJob.j0 (k + 1) c a l = some b := by
    intro c
    simp only [spec_ValidJob.j0, hb']
    split <;> exact ⟨_, rfl⟩
  unfold spec_ValidJob.f
  split <;> exact h _

theorem rdOf_nat {α : Type} (d : α) (l : List α) (i : Nat) : rdOf d l (i : Int) = l.getD i d := by unfold rdOf; simp
theorem set_copy {α β : Type} (f : α → β) (d : α) (x : List α) (y : List β) (i : Nat) (hi : i < x.length) (hy : y.length = x.length) (h : y.take i = (x.take i).map f) :
    (y.set i (f (x.getD i d))).take (i + 1) = (x.take (i + 1)).map f := by
  have e : x.getD i d = x[i] := by simp [List.getD, hi]
  rw [e, List.take_succ_eq_append_getElem (by simp; omega), List.take_succ_eq_append_getElem hi, List.map_append, ← h]
  congr 1
  · rw [List.take_set]
    rw [List.set_eq_of_length_le (by simp; omega)]
  · simp
theorem toStrings_ends (x : List ByteArray) (hx : x.length ≤ maxLen) : ∀ (d k i : Nat) (y : List ByteArray), x.length - i = d → i ≤ x.length → y.length = x.length → y.take i = x.take i → d < k →
    laws_toStringS.l0 k x y i = some x := by
  intro d
  induction d with
  | zero =>
    intro k i y h1 h2 hy ht h3
    obtain ⟨k, rfl⟩ : ∃ m, k = m + 1 := ⟨k - 1, by omega⟩
    simp only [laws_toStringS.l0]; rw [if_neg (by omega)]
    obtain rfl : i = x.length := by omega
    rw [List.take_length, List.take_of_length_le (by omega)] at ht
    rw [ht]
  | succ d ih =>
    intro k i y h1 h2 hy ht h3
    obtain ⟨k, rfl⟩ : ∃ m, k = m + 1 := ⟨k - 1, by omega⟩
    simp only [laws_toStringS.l0]
    rw [if_pos (by omega), if_pos (by omega), if_pos (by omega), wrap_nat (n := x.length) (by omega) hx, rdOf_nat]
    refine ih k (i + 1) _ (by omega) (by omega) (by simp [hy]) ?_ (by omega)
    have := set_copy (fun a => a) ByteArray.empty x y i (by omega) hy (by simpa using ht)
    simpa using this
theorem toStringS_ends (x : List ByteArray) (hx : x.length ≤ 17592186044416) (k : Nat) (hk : x.length < k) : laws_toStringS.f k x = some x := by
  unfold laws_toStringS.f
  rw [if_pos (by omega), if_pos (by simpa using hx)]
  exact toStrings_ends x (by unfold maxLen; omega) x.length k 0 _ (by omega) (by omega) (by simp) (by simp) hk
theorem eqStrings_ends (x : List ByteArray) (hx : x.length ≤ maxLen) : ∀ (d k i : Nat), x.length - i = d → i ≤ x.length → d < k → laws_eqStringS.l0 k x x i = some true := by
  intro d
  induction d with
  | zero =>
    intro k i h1 h2 h3
    obtain ⟨k, rfl⟩ : ∃ m, k = m + 1 := ⟨k - 1, by omega⟩
    simp only [laws_eqStringS.l0]; rw [if_neg (by omega)]
  | succ d ih =>
    intro k i h1 h2 h3
    obtain ⟨k, rfl⟩ : ∃ m, k = m + 1 := ⟨k - 1, by omega⟩
    simp only [laws_eqStringS.l0]
    rw [if_pos (by omega), if_pos (by omega), if_pos (by omega)]
    simp only [if_true]
    rw [wrap_nat (n := x.length) (by omega) hx]
    exact ih k (i + 1) (by omega) (by omega) (by omega)
theorem eqStringS_ends (x : List ByteArray) (hx : x.length ≤ maxLen) (k : Nat) (hk : x.length < k) : laws_eqStringS.f k x x = some true := by
  unfold laws_eqStringS.f
  rw [if_pos rfl]
  exact eqStrings_ends x hx x.length k 0 (by omega) (by omega) hk
theorem szStrings_ends (x : List ByteArray) (hx : x.length ≤ maxLen) (hs : ∀ s ∈ x, s.size ≤ maxLen) : ∀ (d k i : Nat) (a : Int), 0 ≤ a → a ≤ 9223372036854775807 → x.length - i = d → i ≤ x.length → d < k → ∃ n, laws_szStringS.l0 k x a i = some n := by
  intro d
  induction d with
  | zero =>
    intro k i a h0 ha h1 h2 h3
    obtain ⟨k, rfl⟩ : ∃ m, k = m + 1 := ⟨k - 1, by omega⟩
    simp only [laws_szStringS.l0]; rw [if_neg (by omega)]; exact ⟨_, rfl⟩
  | succ d ih =>
    intro k i a h0 ha h1 h2 h3
    obtain ⟨k, rfl⟩ : ∃ m, k = m + 1 := ⟨k - 1, by omega⟩
    simp only [laws_szStringS.l0]
    have hm : (rdOf ByteArray.empty x i).size ≤ maxLen := by
      rw [rdOf_nat]
      have e : x.getD i ByteArray.empty = x[i]'(by omega) := by simp [List.getD, show i < x.length by omega]
      rw [e]; exact hs _ (List.getElem_mem _)
    rw [if_pos (by omega), if_pos (by omega), wrap_sub h0 ha hm, wrap_nat (n := x.length) (by omega) hx]
    split
    · exact ⟨_, rfl⟩
    · exact ih k (i + 1) _ (by omega) (by omega) (by omega) (by omega) (by omega)
theorem szStringS_ends (x : List ByteArray) (hx : x.length ≤ maxLen) (hs : ∀ s ∈ x, s.size ≤ maxLen) (a : Int) (h0 : 0 ≤ a) (ha : a ≤ 9223372036854775807) (k : Nat) (hk : x.length < k) :
    ∃ n, laws_szStringS.f k x a = some n ∧ (0 ≤ n → (x.length : Int) ≤ a) := by
  unfold laws_szStringS.f
  rw [wrap_sub h0 ha hx]
  split
  · exact ⟨-1, rfl, fun h => absurd h (by omega)⟩
  · obtain ⟨n, hn⟩ := szStrings_ends x hx hs x.length k 0 (a - x.length) (by omega) (by omega) (by omega) (by omega) hk
    exact ⟨n, hn, fun _ => by omega⟩
end Go.Proofs.Ytajlomhnednghaa.R
