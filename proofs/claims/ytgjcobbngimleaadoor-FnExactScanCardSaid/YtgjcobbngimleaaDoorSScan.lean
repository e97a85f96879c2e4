/- Plain laws: the tokens. Conditions: none. -/
import Derived.Test.YtgjcobbngimleaaDoorSWords
import Derived.Test.YtgjcobbngimleaaDoorSBits
namespace Go.KM.S1
open Go Go.KM
open Go.KM.Fam (Dn dflt)
open Go.KM.Enc (cells sz mkE glob gany u8)
set_option autoImplicit false
set_option linter.unusedVariables false
set_option linter.unusedSimpArgs false
set_option maxRecDepth 100000
/-! letters -/
def isL (b : Int) : Bool := decide (97 ≤ b) && decide (b ≤ 122)
def isD (b : Int) : Bool := decide (48 ≤ b) && decide (b ≤ 57)
def isW (b : Int) : Bool := isL b || (isD b || b == 95)
theorem and_bif (p q : Bool) : (bif p then some q else some false) = some (p && q) := by cases p <;> rfl
theorem R_letter (b : Int) : R.l1Letter b = some (isL b) := by rw [R.l1Letter_eq]; exact and_bif _ _
theorem I_lower (b : Int) : I.lower b = some (isL b) := by rw [I.lower_eq]; exact and_bif _ _
theorem R_digit (b : Int) : R.l1Digit b = some (isD b) := by rw [R.l1Digit_eq]; exact and_bif _ _
theorem I_digit (b : Int) : I.digit b = some (isD b) := by rw [I.digit_eq]; exact and_bif _ _
theorem R_tail (b : Int) : R.l1Tail b = some (isW b) := by
  rw [R.l1Tail_eq, R_letter, R_digit, Option.bind_some, Option.bind_some]
  unfold isW
  cases isL b <;> cases isD b <;> rfl
theorem I_wordy (b : Int) : I.wordy b = some (isW b) := by
  rw [I.wordy_eq, I_lower, I_digit, Option.bind_some, Option.bind_some]
  unfold isW
  cases isL b <;> cases isD b <;> rfl
def hexV (b : Int) : Int := if 48 ≤ b ∧ b ≤ 57 then b - 48 else if 97 ≤ b ∧ b ≤ 102 then b - 87 else -1
theorem byte_cases {b : Int} (h0 : 0 ≤ b) (h1 : b < 256) (p : Int → Bool) (h : (List.range 256).all (fun n => p (n : Int)) = true) : p b = true := by
  rw [List.all_eq_true] at h
  have := h b.toNat (List.mem_range.2 (by omega))
  rwa [Int.toNat_of_nonneg h0] at this
theorem R_hex (b : Int) (h0 : 0 ≤ b) (h1 : b < 256) : R.l1Hex b = some (hexV b) := by
  rw [R.l1Hex_eq]
  unfold hexV
  by_cases a : 48 ≤ b
  · rw [bif_t (b := decide (b ≥ 48)) (by simpa using a)]
    by_cases c : b ≤ 57
    · rw [bif_t (b := decide (b ≤ 57)) (by simpa using c), if_pos ⟨a, c⟩, w8_eq, wi (by omega) (by omega)]
      congr 1; omega
    · rw [bif_f (b := decide (b ≤ 57)) (by simpa using c), if_neg (fun h => c h.2)]
      by_cases d : 97 ≤ b
      · rw [bif_t (b := decide (b ≥ 97)) (by simpa using d)]
        by_cases e : b ≤ 102
        · rw [bif_t (b := decide (b ≤ 102)) (by simpa using e), if_pos ⟨d, e⟩, w8_eq, wi (n := (b - 97) % 256) (by omega) (by omega), wi (by omega) (by omega)]
          congr 1; omega
        · rw [bif_f (b := decide (b ≤ 102)) (by simpa using e), if_neg (fun h => e h.2)]
      · rw [bif_f (b := decide (b ≥ 97)) (by simpa using d), if_neg (fun h => d h.1)]
  · rw [bif_f (b := decide (b ≥ 48)) (by simpa using a), bif_f (b := decide (b ≥ 97)) (by simp; omega), if_neg (fun h => a h.1), if_neg (by omega)]
theorem I_hex (b : Int) (h0 : 0 ≤ b) (h1 : b < 256) : I.hexDigit b = some (hexV b) := by
  rw [I.hexDigit_eq]
  congr 1
  have := byte_cases h0 h1 (fun b => decide (Lib.indexByte (⟨#[48, 49, 50, 51, 52, 53, 54, 55, 56, 57, 97, 98, 99, 100, 101, 102]⟩ : ByteArray).data.toList b.toNat.toUInt8 = hexV b)) (by decide +kernel)
  simpa using this
/-! texts cut -/
theorem bt_cut (src : ByteArray) (a j : Nat) (ha : a ≤ src.size) (hj : a + j < src.size) : bt (src.extract a src.size) (j : Int) = bt src ((a + j : Nat) : Int) := by
  unfold bt
  rw [Int.toNat_natCast, Int.toNat_natCast, extract_data, List.getD_eq_getElem?_getD, List.getD_eq_getElem?_getD, List.getElem?_drop, List.getElem?_take, if_pos (by omega)]
theorem size_cut (src : ByteArray) (a b : Nat) (h : a ≤ b) (hb : b ≤ src.size) : (src.extract a b).size = b - a := by
  rw [size_data, extract_data, List.length_drop, List.length_take, ← size_data]; omega
theorem R_bare (b : Int) : R.l1Bare b = some ((decide (32 ≤ b) && decide (b ≤ 126)) && (b != 34 && b != 92)) := by
  rw [R.l1Bare_eq]
  have e1 : decide (b ≥ 32) = decide (32 ≤ b) := rfl
  rw [e1]
  cases decide (32 ≤ b) <;> cases decide (b ≤ 126) <;> cases (b != 34) <;> cases (b != 92) <;> rfl
theorem bare_lo {b : Int} (h : b < 32) : ((decide (32 ≤ b) && decide (b ≤ 126)) && (b != 34 && b != 92)) = false := by
  have : decide (32 ≤ b) = false := by simp; omega
  rw [this]; rfl
theorem bare_hi {b : Int} (h : 126 < b) : ((decide (32 ≤ b) && decide (b ≤ 126)) && (b != 34 && b != 92)) = false := by
  have : decide (b ≤ 126) = false := by simp; omega
  rw [this, Bool.and_false]; rfl
theorem bare_no {b : Int} (h : b = 92) : ((decide (32 ≤ b) && decide (b ≤ 126)) && (b != 34 && b != 92)) = false := by subst h; rfl
theorem bare_ok {b : Int} (h1 : ¬ b < 32) (h2 : ¬ 126 < b) (h3 : ¬ b = 34) (h4 : ¬ b = 92) : ((decide (32 ≤ b) && decide (b ≤ 126)) && (b != 34 && b != 92)) = true := by
  have e1 : decide (32 ≤ b) = true := by simp; omega
  have e2 : decide (b ≤ 126) = true := by simp; omega
  have e3 : (b != 34) = true := bne_iff_ne.2 h3
  have e4 : (b != 92) = true := bne_iff_ne.2 h4
  rw [e1, e2, e3, e4]; rfl
/-- what the program gives for what the reference read between quotes -/
def mapU (a : Nat) (r : ByteArray × Int × Bool) : ByteArray × Int × Int :=
  if r.2.2 = true then (if (r.1.size : Int) > 3000 then (⟨#[]⟩, r.2.1 - a, 5) else (r.1, r.2.1 - a, 0)) else (⟨#[]⟩, 0, 4)
theorem unq (src : ByteArray) (a : Nat) (z : Int) (ha : a ≤ src.size) (hs : src.size ≤ 12000) : ∀ (m j : Nat) (out : List Int), a + j + m = src.size → out.length ≤ j → 1 ≤ j →
    ∃ r : ByteArray × Int × Bool, R.l1Unquote.l120 src z out ((a + j : Nat) : Int) = some r ∧ I.quoted.l116 (src.extract a src.size) out (j : Int) = some (mapU a r) ∧ (r.2.2 = true → (a : Int) < r.2.1 ∧ r.2.1 ≤ src.size) := by
  intro m
  induction m using Nat.strongRecOn with
  | ind m ih =>
    intro j out hm ho hj
    have hcs : (src.extract a src.size).size = src.size - a := size_cut src a src.size ha (Nat.le_refl _)
    rw [R.l1Unquote.l120_eq, I.quoted.l116_eq, hcs]
    cases m with
    | zero =>
      rw [bif_f (ge_dec (k := a + j) (n := src.size) (by omega)), bif_f (ge_dec (k := j) (n := src.size - a) (by omega))]
      exact ⟨(⟨#[]⟩, z, false), rfl, rfl, fun h => by cases h⟩
    | succ m =>
      have h1 : a + j < src.size := by omega
      have h2 : j < src.size - a := by omega
      rw [bif_t (lt_dec h1), bif_t (lt_dec h2)]
      simp only [inB_nat h1, inB_nat h2, cond_true]
      rw [bt_cut src a j ha h1]
      have hb := bt_lt src ((a + j : Nat) : Int)
      generalize hbb : bt src ((a + j : Nat) : Int) = b at hb ⊢
      have w1 : IntKind.i64.wrap (((a + j : Nat) : Int) + 1) = ((a + (j + 1) : Nat) : Int) := by rw [wi (by omega) (by omega)]; omega
      have w1' : IntKind.i64.wrap ((j : Int) + 1) = ((j + 1 : Nat) : Int) := by rw [wi (by omega) (by omega)]; omega
      by_cases h34 : b = 34
      · rw [bif_t (b := b == 34) (by simpa using h34), bif_t (b := b == 34) (by simpa using h34), w1, w1']
        have hsz : (strOfBytes (List.map (fun (x : Int) => x) out)).size = out.length := by rw [strOf_size, List.length_map]
        refine ⟨_, rfl, ?_, fun _ => ⟨by show (a : Int) < ((a + (j + 1) : Nat) : Int); omega, by show ((a + (j + 1) : Nat) : Int) ≤ _; omega⟩⟩
        unfold mapU
        simp only [if_true, hsz]
        rw [bif_d]
        split
        · congr 3; omega
        · congr 3; omega
      · rw [bif_f (b := b == 34) (by simpa using h34), bif_f (b := b == 34) (by simpa using h34), R_bare, Option.bind_some]
        by_cases hlo : b < 32
        · rw [bif_t (b := decide (b < 32)) (by simpa using hlo), bif_f (bare_lo hlo), bif_t (b := b != 92) (by simp; omega)]
          exact ⟨(⟨#[]⟩, z, false), rfl, rfl, fun h => by cases h⟩
        · rw [bif_f (b := decide (b < 32)) (by simpa using hlo)]
          by_cases hhi : 126 < b
          · rw [bif_t (b := decide (b > 126)) (by simpa using hhi), bif_f (bare_hi hhi), bif_t (b := b != 92) (by simp; omega)]
            exact ⟨(⟨#[]⟩, z, false), rfl, rfl, fun h => by cases h⟩
          · rw [bif_f (b := decide (b > 126)) (by simpa using hhi)]
            by_cases h92 : b = 92
            · rw [bif_t (b := b == 92) (by simpa using h92), bif_f (bare_no h92), bif_f (b := b != 92) (by simpa using h92)]
              have w2 : IntKind.i64.wrap (((a + j : Nat) : Int) + 2) = ((a + (j + 2) : Nat) : Int) := by rw [wi (by omega) (by omega)]; omega
              have w2' : IntKind.i64.wrap ((j : Int) + 2) = ((j + 2 : Nat) : Int) := by rw [wi (by omega) (by omega)]; omega
              have w3 : IntKind.i64.wrap (((a + j : Nat) : Int) + 3) = ((a + (j + 3) : Nat) : Int) := by rw [wi (by omega) (by omega)]; omega
              have w3' : IntKind.i64.wrap (((j + 2 : Nat) : Int) + 1) = ((j + 3 : Nat) : Int) := by rw [wi (by omega) (by omega)]; omega
              rw [w1, w1', w2, w2', w3, w3']
              by_cases hend : src.size ≤ a + (j + 2)
              · rw [bif_t (b := decide (((a + (j + 2) : Nat) : Int) ≥ (src.size : Int))) (by simp; omega), bif_t (b := decide (((j + 2 : Nat) : Int) ≥ ((src.size - a : Nat) : Int))) (by simp; omega)]
                exact ⟨(⟨#[]⟩, z, false), rfl, rfl, fun h => by cases h⟩
              · have g1 : a + (j + 1) < src.size := by omega
                have g2 : a + (j + 2) < src.size := by omega
                have g1' : j + 1 < src.size - a := by omega
                have g2' : j + 2 < src.size - a := by omega
                rw [bif_f (b := decide (((a + (j + 2) : Nat) : Int) ≥ (src.size : Int))) (by simp; omega), bif_f (b := decide (((j + 2 : Nat) : Int) ≥ ((src.size - a : Nat) : Int))) (by simp; omega),
                  bt_cut src a (j + 1) ha g1, bt_cut src a (j + 2) ha g2]
                have hx := bt_lt src ((a + (j + 1) : Nat) : Int)
                have hy := bt_lt src ((a + (j + 2) : Nat) : Int)
                generalize bt src ((a + (j + 1) : Nat) : Int) = x at hx ⊢
                generalize bt src ((a + (j + 2) : Nat) : Int) = y at hy ⊢
                rw [R_hex x hx.1 hx.2, I_hex x hx.1 hx.2, R_hex y hy.1 hy.2, I_hex y hy.1 hy.2]
                simp only [Option.bind_some, inB_nat g1, inB_nat g2, inB_nat g1', inB_nat g2', cond_true]
                by_cases hx0 : hexV x < 0
                · rw [bif_t (b := decide (hexV x < 0)) (by simpa using hx0), bif_t (b := decide (hexV x < 0)) (by simpa using hx0)]
                  exact ⟨(⟨#[]⟩, z, false), rfl, rfl, fun h => by cases h⟩
                · rw [bif_f (b := decide (hexV x < 0)) (by simpa using hx0), bif_f (b := decide (hexV x < 0)) (by simpa using hx0)]
                  by_cases hy0 : hexV y < 0
                  · rw [bif_t (b := decide (hexV y < 0)) (by simpa using hy0), bif_t (b := decide (hexV y < 0)) (by simpa using hy0)]
                    exact ⟨(⟨#[]⟩, z, false), rfl, rfl, fun h => by cases h⟩
                  · rw [bif_f (b := decide (hexV y < 0)) (by simpa using hy0), bif_f (b := decide (hexV y < 0)) (by simpa using hy0), Int.mul_comm 16, bif_t (room_ok (by simp; omega)), bif_t (room_ok (by simp; omega))]
                    exact ih (m - 2) (by omega) (j + 3) _ (by omega) (by simp; omega) (by omega)
            · rw [bif_f (b := b == 92) (by simpa using h92), bif_t (bare_ok hlo hhi h34 h92), bif_t (room_ok (by simp; omega)), bif_t (room_ok (by simp; omega)), w1, w1']
              exact ih m (by omega) (j + 1) _ (by omega) (by simp; omega) (by omega)
end Go.KM.S1
