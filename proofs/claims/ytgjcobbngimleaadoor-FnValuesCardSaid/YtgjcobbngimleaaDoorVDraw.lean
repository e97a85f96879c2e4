/- Plain laws: the drawn values are there. Conditions: none. -/
import Derived.Test.YtgjcobbngimleaaDoorVVal
import Derived.Test.YtgjcobbngimleaaDoorKmDec
namespace Go.KM.V1
open Go Go.KM
open Go.KM.Fam (Dn dflt)
open Go.KM.Enc (cells sz mkE glob gany u8)
set_option autoImplicit false
set_option linter.unusedVariables false
set_option linter.unusedSimpArgs false
set_option maxRecDepth 100000
structure RdOk (r : List Int × Int) (k : Nat) : Prop where
  len : r.1.length ≤ 2000
  byte : ∀ b ∈ r.1, 0 ≤ b ∧ b < 256
  lo : 0 ≤ r.2
  hi : r.2 ≤ k
theorem RdOk.mono {r : List Int × Int} {k k' : Nat} (h : RdOk r k) (hk : k ≤ k') : RdOk r k' := ⟨h.len, h.byte, h.lo, by have := h.hi; omega⟩
theorem RdOk.getD {r : List Int × Int} {k : Nat} (h : RdOk r k) (i : Nat) : 0 ≤ r.1.getD i 0 ∧ r.1.getD i 0 < 256 := by
  rw [List.getD_eq_getElem?_getD]
  by_cases hi : i < r.1.length
  · rw [List.getElem?_eq_getElem hi]; exact h.byte _ (List.getElem_mem hi)
  · rw [List.getElem?_eq_none (by omega)]; exact ⟨by simp, by simp⟩
theorem xor_nonneg {x y : Int} (h0 : 0 ≤ x) (h1 : x < 9223372036854775808) (h2 : 0 ≤ y) (h3 : y < 9223372036854775808) : 0 ≤ bitXor .i64 x y ∧ bitXor .i64 x y < 9223372036854775808 := by
  obtain ⟨a, rfl⟩ : ∃ a : Nat, x = a := ⟨x.toNat, by omega⟩
  obtain ⟨b, rfl⟩ : ∃ b : Nat, y = b := ⟨y.toNat, by omega⟩
  have ha : a < 2 ^ 63 := by omega
  have hb : b < 2 ^ 63 := by omega
  have e : ∀ n : Nat, n < 2 ^ 63 → BitVec.ofInt 64 (n : Int) = BitVec.ofNat 64 n := fun n hn => by
    apply BitVec.eq_of_toNat_eq
    rw [BitVec.toNat_ofInt, BitVec.toNat_ofNat]
    omega
  have hx : a ^^^ b < 2 ^ 63 := Nat.xor_lt_two_pow ha hb
  have key : (BitVec.ofInt 64 (a : Int) ^^^ BitVec.ofInt 64 (b : Int)).toNat = a ^^^ b := by
    rw [e a ha, e b hb, BitVec.toNat_xor, BitVec.toNat_ofNat, BitVec.toNat_ofNat, Nat.mod_eq_of_lt (by omega), Nat.mod_eq_of_lt (by omega)]
  show 0 ≤ IntKind.i64.wrap ((BitVec.ofInt 64 (a : Int) ^^^ BitVec.ofInt 64 (b : Int)).toNat : Int) ∧ IntKind.i64.wrap ((BitVec.ofInt 64 (a : Int) ^^^ BitVec.ofInt 64 (b : Int)).toNat : Int) < _
  rw [key, wi (by omega) (by omega)]
  omega
theorem tmod_ok {x n : Int} (h0 : 0 ≤ x) (hn : 1 ≤ n) : 0 ≤ x.tmod n ∧ x.tmod n < n := ⟨Int.tmod_nonneg n h0, Int.tmod_lt_of_pos x (by omega)⟩
theorem pick_ok {r : List Int × Int} {k : Nat} {n : Int} (h : RdOk r k) (hk : k ≤ 1000000) (hn : 1 ≤ n) : ∃ x r', R.l1Rd_pick r n = some (x, r') ∧ 0 ≤ x ∧ x < n ∧ RdOk r' (k + 1) := by
  have hlo := h.lo
  have hhi := h.hi
  have hlen := h.len
  have e1 : IntKind.i64.wrap (r.2 + 1) = r.2 + 1 := wi (by omega) (by omega)
  have e2 : IntKind.i64.wrap (r.2 + 1 - 1) = r.2 := by rw [wi (by omega) (by omega)]; omega
  have hr' : RdOk (r.1, r.2 + 1) (k + 1) := ⟨h.len, h.byte, by show 0 ≤ r.2 + 1; omega, by show r.2 + 1 ≤ _; omega⟩
  rw [R.l1Rd_pick_eq, e1, e2, bif_f (b := decide (n < 1)) (by simp; omega)]
  by_cases hz : r.1.length = 0
  · rw [bif_t (by simp [hz])]
    exact ⟨0, _, rfl, by omega, by omega, hr'⟩
  · rw [bif_f (b := (r.1.length : Int) == 0) (beq_eq_false_iff_ne.2 (by omega))]
    have hn0 : (n != 0) = true := by simp; omega
    have hl0 : ((r.1.length : Int) != 0) = true := bne_iff_ne.2 (by omega)
    by_cases hlt : r.2 < r.1.length
    · rw [bif_t (b := decide (r.2 < (r.1.length : Int))) (by simpa using hlt), bif_t (b := inB r.2 r.1.length) (by simp [inB]; omega), bif_t hn0]
      have hg := h.getD r.2.toNat
      rw [wi (n := r.1.getD r.2.toNat 0) (by omega) (by omega)]
      have := tmod_ok hg.1 hn
      exact ⟨_, _, rfl, this.1, this.2, hr'⟩
    · rw [bif_f (b := decide (r.2 < (r.1.length : Int))) (by simpa using hlt), bif_t hl0]
      have i1 := tmod_ok (n := (r.1.length : Int)) hlo (by omega)
      rw [bif_t (b := inB (r.2.tmod (r.1.length : Int)) r.1.length) (by simp only [inB, Bool.and_eq_true, decide_eq_true_eq]; exact i1), bif_t hl0]
      have e3 : IntKind.i64.wrap (IntKind.i64.wrap (r.2 * 7) + 3) = r.2 * 7 + 3 := by rw [wi (n := r.2 * 7) (by omega) (by omega), wi (by omega) (by omega)]
      rw [e3]
      have i2 := tmod_ok (x := r.2 * 7 + 3) (n := (r.1.length : Int)) (by omega) (by omega)
      rw [bif_t (b := inB ((r.2 * 7 + 3).tmod (r.1.length : Int)) r.1.length) (by simp only [inB, Bool.and_eq_true, decide_eq_true_eq]; exact i2), bif_t hl0, bif_t hn0]
      have g1 := h.getD (r.2.tmod (r.1.length : Int)).toNat
      have g2 := h.getD ((r.2 * 7 + 3).tmod (r.1.length : Int)).toNat
      generalize r.1.getD (r.2.tmod (r.1.length : Int)).toNat 0 = b1 at g1 ⊢
      generalize r.1.getD ((r.2 * 7 + 3).tmod (r.1.length : Int)).toNat 0 = b2 at g2 ⊢
      have hq0 : 0 ≤ r.2.tdiv (r.1.length : Int) := Int.tdiv_nonneg hlo (by omega)
      have hq1 : r.2.tdiv (r.1.length : Int) ≤ r.2 := by
        rw [Int.tdiv_eq_ediv_of_nonneg hlo]
        exact Int.ediv_le_self _ hlo
      generalize r.2.tdiv (r.1.length : Int) = q at hq0 hq1 ⊢
      rw [wi (n := b1) (by omega) (by omega), wi (n := b2) (by omega) (by omega), wi (n := b1 * 131) (by omega) (by omega), wi (n := b2 * 1117) (by omega) (by omega), wi (n := b1 * 131 + b2 * 1117) (by omega) (by omega),
        wi (n := r.2 * 29) (by omega) (by omega), wi (n := b1 * 131 + b2 * 1117 + r.2 * 29) (by omega) (by omega), wi (n := q) (by omega) (by omega), wi (n := q * 53) (by omega) (by omega), wi (n := b1 * 131 + b2 * 1117 + r.2 * 29 + q * 53) (by omega) (by omega)]
      generalize hX : b1 * 131 + b2 * 1117 + r.2 * 29 + q * 53 = X
      have hX0 : 0 ≤ X := by omega
      have hX1 : X < 4611686018427387904 := by omega
      have hd0 : 0 ≤ X.tdiv 64 := Int.tdiv_nonneg hX0 (by omega)
      have hd1 : X.tdiv 64 ≤ X := by rw [Int.tdiv_eq_ediv_of_nonneg hX0]; omega
      rw [wi (n := X.tdiv 64) (by omega) (by omega)]
      have hx := xor_nonneg hX0 (by omega) hd0 (by omega)
      have := tmod_ok hx.1 hn
      exact ⟨_, _, rfl, this.1, this.2, hr'⟩
theorem open_ok {code : List Int} (hb : ∀ b ∈ code, 0 ≤ b ∧ b < 256) : ∃ r, R.l1Open code = some ((), r) ∧ RdOk r 0 := by
  rw [R.l1Open_eq]
  by_cases hl : (code.length : Int) > 2000
  · rw [bif_t (by simpa using hl), bif_t (inS_iff.2 ⟨by omega, by omega, by omega⟩)]
    refine ⟨_, rfl, ?_, fun b hm => hb b ?_, by show (0 : Int) ≤ 0; omega, by show (0 : Int) ≤ 0; omega⟩
    · show (sub code 0 2000).length ≤ 2000
      unfold sub
      rw [List.length_drop, List.length_take]
      omega
    · have hm : b ∈ sub code 0 2000 := hm
      unfold sub at hm
      exact List.mem_of_mem_take (List.mem_of_mem_drop hm)
  · rw [bif_f (by simpa using hl)]
    exact ⟨_, rfl, by show code.length ≤ 2000; omega, hb, by show (0 : Int) ≤ 0; omega, by show (0 : Int) ≤ 0; omega⟩
theorem max_loop (n : Int) (hn : n ≤ 64) : ∀ (m : Nat) (x i : Int), 0 ≤ i → n - i ≤ m → U64 x → ∃ z, R.l1Max.l500 n x i = some z ∧ U64 z := by
  intro m
  induction m with
  | zero =>
    intro x i hi hm hx
    rw [R.l1Max.l500_eq, bif_f (by simp; omega)]
    exact ⟨x, rfl, hx⟩
  | succ m ih =>
    intro x i hi hm hx
    rw [R.l1Max.l500_eq]
    by_cases h : i < n
    · rw [bif_t (by simpa using h), wi (n := i + 1) (by omega) (by omega)]
      exact ih _ _ (by omega) (by omega) (u64_wrap _)
    · rw [bif_f (by simpa using h)]
      exact ⟨x, rfl, hx⟩
theorem max_ok (t : Int) : ∃ z, R.l1Max t = some z ∧ U64 z := by
  rw [R.l1Max_eq, R_bits, R_signed, Option.bind_some, Option.bind_some]
  have hb : ibits t ≤ 64 ∧ 8 ≤ ibits t := by rcases ibits_cases t with ⟨_, h⟩ | ⟨_, h⟩ | ⟨_, h⟩ | ⟨_, h⟩ <;> omega
  cases (decide (7 ≤ t) && decide (t ≤ 10)) with
  | true =>
    rw [cond_true, wi (n := ibits t - 1) (by omega) (by omega)]
    exact max_loop _ (by omega) 64 _ _ (by omega) (by omega) ⟨by omega, by omega⟩
  | false =>
    rw [cond_false]
    exact max_loop _ (by omega) 64 _ _ (by omega) (by omega) ⟨by omega, by omega⟩
theorem into_i64 (t x : Int) : I64 (into t x) := by
  have h := i64_wrap x
  unfold into
  repeat' split
  all_goals first | exact h | (constructor <;> omega)
theorem many_loop : ∀ (m : Nat) (s : ByteArray) (n : Nat) (out : ByteArray), n ≤ 4000 → n < 2 ^ m → s.size * 2 ^ m ≤ 2 ^ 20 → out.size + s.size * n ≤ 2 ^ 21 → ∃ t, R.l1Many.l56 s n out = some t := by
  intro m
  induction m with
  | zero =>
    intro s n out hm h1 h2 h3
    have : n = 0 := by omega
    subst this
    exact ⟨out, by rw [R.l1Many.l56_eq]; rfl⟩
  | succ m ih =>
    intro s n out hm h1 h2 h3
    have hq : (2 : Nat) ^ (m + 1) = 2 * 2 ^ m := by rw [Nat.pow_succ]; omega
    have hpos : 1 ≤ (2 : Nat) ^ m := Nat.one_le_two_pow
    have hss : s.size ≤ s.size * 2 ^ m := Nat.le_mul_of_pos_right _ hpos
    have hmul : s.size * 2 ^ (m + 1) = 2 * (s.size * 2 ^ m) := by rw [hq, Nat.mul_left_comm]
    have hsz : (s ++ s).size = s.size + s.size := by rw [size_data, ba_app, List.length_append, ← size_data]
    have hsz2 : ∀ o : ByteArray, (o ++ s).size = o.size + s.size := fun o => by rw [size_data, ba_app, List.length_append, ← size_data, ← size_data]
    have hdbl : (s ++ s).size * 2 ^ m = 2 * (s.size * 2 ^ m) := by rw [hsz, Nat.add_mul]; omega
    rw [hmul] at h2
    rw [R.l1Many.l56_eq]
    have e62 : (2 : Nat) ^ 62 = 4611686018427387904 := by decide
    by_cases hn : 0 < n
    · have hd : (n : Int).tdiv 2 = ((n / 2 : Nat) : Int) := by rw [Int.tdiv_eq_ediv_of_nonneg (by omega)]; omega
      have hmd : (n : Int).tmod 2 = ((n % 2 : Nat) : Int) := by rw [Int.tmod_eq_emod_of_nonneg (by omega)]; omega
      have hw : IntKind.i64.wrap ((n / 2 : Nat) : Int) = ((n / 2 : Nat) : Int) := wi (by omega) (by omega)
      have hlt : n / 2 < 2 ^ m := by omega
      have hns : s.size ≤ s.size * n := Nat.le_mul_of_pos_right _ hn
      have hs2 : decide (s.size + s.size < 2 ^ 62) = true := by rw [e62]; simp only [decide_eq_true_eq]; omega
      rw [bif_t (b := decide ((n : Int) > 0)) (by simpa using hn), hd, hmd, hw]
      have hhalf : (s ++ s).size * (n / 2) + s.size * (n % 2) = s.size * n := by
        rw [hsz, ← Nat.two_mul, Nat.mul_comm 2, Nat.mul_assoc, ← Nat.mul_add]
        congr 1; omega
      by_cases ho : n % 2 = 1
      · have h4 := ih (s ++ s) (n / 2) (out ++ s) (by omega) hlt (by rw [hdbl]; exact h2) (by
          rw [hsz2]
          rw [ho, Nat.mul_one] at hhalf
          omega)
        rw [bif_t (b := ((n % 2 : Nat) : Int) == 1) (by simp; omega), bif_t (b := decide (out.size + s.size < 2 ^ 62)) (by rw [e62]; simp only [decide_eq_true_eq]; omega), bif_t hs2]
        exact h4
      · have h4 := ih (s ++ s) (n / 2) out (by omega) hlt (by rw [hdbl]; exact h2) (by
          have : n % 2 = 0 := by omega
          rw [this, Nat.mul_zero] at hhalf
          omega)
        rw [bif_f (b := ((n % 2 : Nat) : Int) == 1) (by simp; omega), bif_t hs2]
        exact h4
    · rw [bif_f (b := decide ((n : Int) > 0)) (by simpa using hn)]
      exact ⟨out, rfl⟩
theorem many_ok (c : UInt8) (n : Nat) (hn : n ≤ 3001) : ∃ t, R.l1Many ⟨#[c]⟩ n = some t := by
  rw [R.l1Many_eq]
  refine many_loop 12 _ n _ (by omega) (by omega) ?_ ?_
  · show 1 * 2 ^ 12 ≤ 2 ^ 20; decide
  · show 0 + 1 * n ≤ 2 ^ 21; omega
theorem path_ok {r : List Int × Int} {k : Nat} (h : RdOk r k) (hk : k ≤ 1000000) : ∃ s r', R.l1Path r = some (s, r') ∧ RdOk r' (k + 1) := by
  obtain ⟨x, r', h1, h2, h3, h4⟩ := pick_ok (n := 8) h hk (by omega)
  rw [R.l1Path_eq, h1, Option.bind_some, bif_t (by simp [inB]; omega)]
  exact ⟨_, _, rfl, h4⟩
theorem text_loop (n : Int) (hn : n ≤ 10) : ∀ (m : Nat) (out : List Int) (i : Int) (a : List Int) (b : Int) (k : Nat), RdOk (a, b) k → 0 ≤ i → n + 1 - i ≤ m → k + m ≤ 1000000 → out.length + m ≤ 1000 → ∃ s r', R.l1DrawText.l500 n out i a b = some (s, r') ∧ RdOk r' (k + m) := by
  intro m
  induction m with
  | zero =>
    intro out i a b k h hi hm hk ho
    rw [R.l1DrawText.l500_eq, bif_f (by simp; omega)]
    exact ⟨_, _, rfl, h⟩
  | succ m ih =>
    intro out i a b k h hi hm hk ho
    rw [R.l1DrawText.l500_eq]
    by_cases hin : i ≤ n
    · obtain ⟨x, r', h1, h2, h3, h4⟩ := pick_ok (n := 4) h (by omega) (by omega)
      rw [bif_t (b := decide (i ≤ n)) (by simpa using hin), h1, Option.bind_some, bif_t (room_ok (by simp; omega)), wi (n := i + 1) (by omega) (by omega)]
      obtain ⟨s, r2, h5, h6⟩ := ih (out ++ [IntKind.u8.wrap (IntKind.i64.wrap (97 + x))]) (i + 1) r'.1 r'.2 (k + 1) h4 (by omega) (by omega) (by omega) (by simp; omega)
      exact ⟨s, r2, h5, h6.mono (by omega)⟩
    · rw [bif_f (b := decide (i ≤ n)) (by simpa using hin)]
      exact ⟨_, _, rfl, h.mono (by omega)⟩
theorem text_ok {r : List Int × Int} {k : Nat} (h : RdOk r k) (hk : k ≤ 900000) : ∃ s r', R.l1DrawText r = some (s, r') ∧ RdOk r' (k + 20) := by
  obtain ⟨x, r1, h1, h2, h3, h4⟩ := pick_ok (n := 12) h (by omega) (by omega)
  rw [R.l1DrawText_eq, h1, Option.bind_some]
  dsimp only
  have hd : ∀ s : ByteArray, ∃ s' r', some (s, (r1.1, r1.2)) = some (s', r') ∧ RdOk r' (k + 20) := fun s => ⟨_, _, rfl, h4.mono (by omega)⟩
  cases (x == 0); rotate_left; exact hd _
  cases (x == 1); rotate_left; exact hd _
  cases (x == 2); rotate_left; exact hd _
  cases (x == 3); rotate_left; exact hd _
  cases (x == 4); rotate_left; exact hd _
  cases (x == 5); rotate_left; exact hd _
  cases (x == 6)
  · simp only [cond_false]
    obtain ⟨y, r2, h5, h6, h7, h8⟩ := pick_ok (n := 5) h4 (by omega) (by omega)
    rw [h5, Option.bind_some]
    obtain ⟨s, r3, h9, h10⟩ := text_loop y (by omega) 6 [] 0 r2.1 r2.2 _ h8 (by omega) (by omega) (by omega) (by simp)
    exact ⟨s, r3, h9, h10.mono (by omega)⟩
  · simp only [cond_false, cond_true]
    obtain ⟨s, r2, h5, h6⟩ := path_ok h4 (by omega)
    rw [h5, Option.bind_some]
    exact ⟨_, _, rfl, h6.mono (by omega)⟩
theorem num_ok {r : List Int × Int} {k : Nat} (t : Int) (h : RdOk r k) (hk : k ≤ 900000) : ∃ v r', R.l1Number r t = some (v, r') ∧ RdOk r' (k + 20) := by
  obtain ⟨z, hz, _⟩ := max_ok t
  obtain ⟨x, r1, h1, h2, h3, h4⟩ := pick_ok (n := 9) h (by omega) (by omega)
  rw [R.l1Number_eq, hz, Option.bind_some, h1, Option.bind_some]
  dsimp only
  cases (x == 0); rotate_left
  · exact ⟨_, _, rfl, h4.mono (by omega)⟩
  cases (x == 1); rotate_left
  · obtain ⟨y, r2, h5, h6, h7, h8⟩ := pick_ok (n := 3) h4 (by omega) (by omega)
    simp only [cond_false, cond_true]
    rw [h5, Option.bind_some]
    exact ⟨_, _, rfl, h8.mono (by omega)⟩
  cases (x == 2); rotate_left
  · exact ⟨_, _, rfl, h4.mono (by omega)⟩
  cases (x == 3)
  · obtain ⟨y, r2, h5, h6, h7, h8⟩ := pick_ok (n := 10) h4 (by omega) (by omega)
    simp only [cond_false]
    rw [h5, Option.bind_some]
    exact ⟨_, _, rfl, h8.mono (by omega)⟩
  · obtain ⟨y, r2, h5, h6, h7, h8⟩ := pick_ok (n := 256) h4 (by omega) (by omega)
    obtain ⟨y3, r3, h9, _, _, h10⟩ := pick_ok (n := 256) h8 (by omega) (by omega)
    obtain ⟨y4, r4, h11, _, _, h12⟩ := pick_ok (n := 256) h10 (by omega) (by omega)
    simp only [cond_false, cond_true]
    rw [h5, Option.bind_some, h9, Option.bind_some, h11, Option.bind_some, R_into _ _ (u64_wrap _), Option.bind_some]
    exact ⟨_, _, rfl, h12.mono (by omega)⟩
theorem num4 (t x : Int) : ∃ v, R.l4Num t (IntKind.u64.wrap x) = some v ∧ I64 v.gN := by
  rw [R.l4Num_eq, R_into _ _ (u64_wrap _), Option.bind_some]
  exact ⟨_, rfl, into_i64 _ _⟩
theorem i64_0 : I64 0 := ⟨by omega, by omega⟩
theorem value_ok {r : List Int × Int} {k : Nat} (t : Int) (h : RdOk r k) (hk : k ≤ 800000) : ∃ v r', R.l4Value r t = some (v, r') ∧ I64 v.gN ∧ RdOk r' (k + 40) := by
  rw [R.l4Value_eq]
  cases (t == 1); rotate_left
  · obtain ⟨x, r1, h1, h2, h3, h4⟩ := pick_ok (n := 2) h (by omega) (by omega)
    rw [cond_true, h1, Option.bind_some, R.l4Bool_eq]
    dsimp only
    cases (x == 0)
    · exact ⟨_, _, rfl, ⟨by decide, by decide⟩, h4.mono (by omega)⟩
    · exact ⟨_, _, rfl, ⟨by decide, by decide⟩, h4.mono (by omega)⟩
  cases (t == 2); rotate_left
  · obtain ⟨x, r1, h1, h2, h3, h4⟩ := pick_ok (n := 12) h (by omega) (by omega)
    simp only [cond_false, cond_true]
    rw [h1, Option.bind_some]
    dsimp only
    obtain ⟨y, r2, h5, h6, h7, h8⟩ := pick_ok (n := 3) h4 (by omega) (by omega)
    rw [h5, Option.bind_some, Option.bind_some]
    cases (x == 0)
    · simp only [cond_false]
      cases (y == 0)
      · simp only [cond_false]
        obtain ⟨s, r3, h9, h10⟩ := text_ok h8 (by omega)
        rw [h9, Option.bind_some, R.l4Text_eq]
        exact ⟨_, _, rfl, i64_0, h10.mono (by omega)⟩
      · simp only [cond_true]
        obtain ⟨z, r3, h9, h10, h11, h12⟩ := pick_ok (n := 12) h8 (by omega) (by omega)
        rw [h9, Option.bind_some, bif_t (by simp [inB]; omega), R.l4Text_eq]
        exact ⟨_, _, rfl, i64_0, h12.mono (by omega)⟩
    · simp only [cond_true]
      have e : IntKind.i64.wrap (3000 - y) = ((3000 - y).toNat : Int) := by rw [wi (by omega) (by omega)]; omega
      obtain ⟨s, hs⟩ := many_ok 118 (3000 - y).toNat (by omega)
      rw [e, hs, Option.bind_some, R.l4Text_eq]
      exact ⟨_, _, rfl, i64_0, h8.mono (by omega)⟩
  simp only [cond_false]
  obtain ⟨x, r1, h1, h2⟩ := num_ok t h (by omega)
  obtain ⟨y, r2, h3, h4, h5, h6⟩ := pick_ok (n := 4) h2 (by omega) (by omega)
  rw [h1, Option.bind_some]
  dsimp only
  rw [h3, Option.bind_some]
  dsimp only
  cases (y == 0); rotate_left
  · obtain ⟨v, h7, h8⟩ := num4 t (0 - IntKind.u64.wrap x)
    rw [cond_true, h7, Option.bind_some]
    exact ⟨_, _, rfl, h8, h6.mono (by omega)⟩
  cases (y == 1)
  · obtain ⟨v, h7, h8⟩ := num4 t x
    simp only [cond_false]
    rw [h7, Option.bind_some]
    exact ⟨_, _, rfl, h8, h6.mono (by omega)⟩
  · obtain ⟨z, hz, _⟩ := max_ok t
    obtain ⟨q, r3, h9, h10, h11, h12⟩ := pick_ok (n := 3) h6 (by omega) (by omega)
    simp only [cond_false, cond_true]
    rw [hz, Option.bind_some, h9, Option.bind_some]
    obtain ⟨v, h7, h8⟩ := num4 t (IntKind.u64.wrap (z + 1) - IntKind.u64.wrap q)
    rw [h7, Option.bind_some]
    exact ⟨_, _, rfl, h8, h12.mono (by omega)⟩
theorem any_ok {r : List Int × Int} {k : Nat} (t : Int) (h : RdOk r k) (hk : k ≤ 700000) : ∃ v r', R.l4Any r t = some (v, r') ∧ I64 v.gN ∧ RdOk r' (k + 60) := by
  obtain ⟨v, r1, h1, hv, h2⟩ := value_ok t h (by omega)
  obtain ⟨x, r2, h3, h4, h5, h6⟩ := pick_ok (n := 12) h2 (by omega) (by omega)
  rw [R.l4Any_eq, h1, Option.bind_some]
  dsimp only
  rw [h3, Option.bind_some]
  dsimp only
  cases (x == 0)
  · exact ⟨_, _, rfl, hv, h6.mono (by omega)⟩
  rw [cond_true]
  obtain ⟨y, r3, h7, h8, h9, h10⟩ := pick_ok (n := 4) h6 (by omega) (by omega)
  rw [h7, Option.bind_some]
  dsimp only
  cases (y == 0); rotate_left
  · obtain ⟨z, r4, h11, _, _, h12⟩ := pick_ok (n := 13) h10 (by omega) (by omega)
    rw [cond_true, h11, Option.bind_some]
    exact ⟨_, _, rfl, hv, h12.mono (by omega)⟩
  cases (y == 1); rotate_left
  · obtain ⟨z, r4, h11, h13, h14, h12⟩ := pick_ok (n := 6) h10 (by omega) (by omega)
    simp only [cond_false, cond_true]
    rw [h11, Option.bind_some, bif_t (by simp [inB]; omega)]
    refine ⟨_, _, rfl, ?_, h12.mono (by omega)⟩
    have : z.toNat = 0 ∨ z.toNat = 1 ∨ z.toNat = 2 ∨ z.toNat = 3 ∨ z.toNat = 4 ∨ z.toNat = 5 := by omega
    show I64 ([2, -1, 256, -129, 65536, 4294967296].getD z.toNat 0)
    rcases this with e | e | e | e | e | e <;> rw [e] <;> exact ⟨by decide, by decide⟩
  cases (y == 2)
  · obtain ⟨s, hs⟩ := many_ok 118 3001 (by omega)
    simp only [cond_false]
    have hs : R.l1Many ⟨#[118]⟩ 3001 = some s := hs
    rw [hs, Option.bind_some]
    exact ⟨_, _, rfl, hv, h10.mono (by omega)⟩
  · exact ⟨_, _, rfl, hv, h10.mono (by omega)⟩
/-- what is drawn at the end -/
def Two (x : Option (Int × (TValue × TValue))) : Prop := ∃ op a b, x = some (op, (a, b)) ∧ I64 a.gN ∧ I64 b.gN
theorem d4095 (op : Int) (t3 t4 a b : TValue) (m : List Int) (i : Int) (k : Nat) (h : RdOk (m, i) k) (hk : k ≤ 600000) (ha : I64 a.gN) (hb : I64 b.gN) : Two (R.DrawBinary.l4095 op t3 t4 a b m i) := by
  obtain ⟨x, r1, h1, h2, h3, h4⟩ := pick_ok (n := 24) h (by omega) (by omega)
  rw [R.DrawBinary.l4095_eq, h1, Option.bind_some]
  dsimp only
  cases (x == 0)
  · exact ⟨_, _, _, rfl, ha, hb⟩
  · obtain ⟨y, r2, h5, _⟩ := pick_ok (n := 22) h4 (by omega) (by omega)
    rw [cond_true, h5, Option.bind_some]
    exact ⟨_, _, _, rfl, ha, hb⟩
theorem d2047 (op : Int) (t3 t4 a b : TValue) (m : List Int) (i : Int) (k : Nat) (h : RdOk (m, i) k) (hk : k ≤ 500000) (ha : I64 a.gN) (hb : I64 b.gN) : Two (R.DrawBinary.l2047 op t3 t4 a b m i) := by
  rw [R.DrawBinary.l2047_eq]
  cases decide (op ≤ 8)
  · exact d4095 op t3 t4 a b m i k h (by omega) ha hb
  · obtain ⟨x, r1, h1, h2, h3, h4⟩ := pick_ok (n := 4) h (by omega) (by omega)
    rw [cond_true, h1, Option.bind_some]
    dsimp only
    cases (x == 0)
    · exact d4095 op t3 t4 a b _ _ _ h4 (by omega) ha hb
    · exact d4095 op t3 t4 a a _ _ _ h4 (by omega) ha ha
theorem d32747 (op t : Int) (t3 t4 a b : TValue) (m : List Int) (i : Int) (k : Nat) (h : RdOk (m, i) k) (hk : k ≤ 400000) (hb : I64 b.gN) : Two (R.DrawBinary.l32747 op t t3 t4 a b m i) := by
  obtain ⟨x, r1, h1, h2, h3, h4⟩ := pick_ok (n := 3) h (by omega) (by omega)
  rw [R.DrawBinary.l32747_eq, h1, Option.bind_some, bif_t (by simp [inB]; omega)]
  dsimp only
  have hx : x.toNat = 0 ∨ x.toNat = 1 ∨ x.toNat = 2 := by omega
  cases decide (t ≥ 7)
  · refine d2047 op t3 t4 _ b _ _ _ h4 (by omega) ?_ hb
    show I64 ([1, 5, 100].getD x.toNat 0)
    rcases hx with e | e | e <;> rw [e] <;> exact ⟨by decide, by decide⟩
  · exact d2047 op t3 t4 _ b _ _ _ h4 (by omega) (i64_wrap _) hb
theorem d1023 (op t : Int) (t3 t4 a b : TValue) (m : List Int) (i : Int) (k : Nat) (h : RdOk (m, i) k) (hk : k ≤ 300000) (ha : I64 a.gN) (hb : I64 b.gN) : Two (R.DrawBinary.l1023 op t t3 t4 a b m i) := by
  rw [R.DrawBinary.l1023_eq]
  cases decide (op ≥ 17)
  · exact d2047 op t3 t4 a b m i k h (by omega) ha hb
  rw [cond_true, R_integer, Option.bind_some]
  cases (decide (3 ≤ b.gType) && decide (b.gType ≤ 10))
  · exact d2047 op t3 t4 a b m i k h (by omega) ha hb
  rw [cond_true]
  cases (b.gType == a.gType)
  · exact d2047 op t3 t4 a b m i k h (by omega) ha hb
  obtain ⟨x, r1, h1, h2, h3, h4⟩ := pick_ok (n := 6) h (by omega) (by omega)
  rw [cond_true, h1, Option.bind_some]
  dsimp only
  cases (x == 0)
  · exact d2047 op t3 t4 a b _ _ _ h4 (by omega) ha hb
  obtain ⟨y, r2, h5, h6, h7, h8⟩ := pick_ok (n := 8) h4 (by omega) (by omega)
  obtain ⟨z, hz, _⟩ := max_ok t
  rw [cond_true, h5, Option.bind_some, bif_t (by simp [inB]; omega), hz, Option.bind_some]
  dsimp only
  cases decide ([8, 16, 32, 64, 7, 15, 31, 63].getD y.toNat 0 > IntKind.i64.wrap (shrI IntKind.u64 z 1))
  · refine d32747 op t t3 t4 a _ _ _ _ h8 (by omega) ?_
    show I64 ([8, 16, 32, 64, 7, 15, 31, 63].getD y.toNat 0)
    have : y.toNat = 0 ∨ y.toNat = 1 ∨ y.toNat = 2 ∨ y.toNat = 3 ∨ y.toNat = 4 ∨ y.toNat = 5 ∨ y.toNat = 6 ∨ y.toNat = 7 := by omega
    rcases this with e | e | e | e | e | e | e | e <;> rw [e] <;> exact ⟨by decide, by decide⟩
  · exact d32747 op t t3 t4 a _ _ _ _ h8 (by omega) (show I64 8 from ⟨by decide, by decide⟩)
theorem d255 (op t : Int) (t3 t4 a : TValue) (m : List Int) (i : Int) (k : Nat) (h : RdOk (m, i) k) (hk : k ≤ 200000) (ha : I64 a.gN) : Two (R.DrawBinary.l255 op t t3 t4 a m i) := by
  obtain ⟨v, r1, h1, hv, h2⟩ := any_ok t h (by omega)
  rw [R.DrawBinary.l255_eq, h1, Option.bind_some]
  dsimp only
  cases decide (op ≥ 17)
  · exact d1023 op t t3 t4 a v _ _ _ h2 (by omega) ha hv
  rw [cond_true, R_integer, Option.bind_some]
  cases (decide (3 ≤ v.gType) && decide (v.gType ≤ 10))
  · exact d1023 op t t3 t4 a v _ _ _ h2 (by omega) ha hv
  obtain ⟨x, r2, h3, h4, h5, h6⟩ := pick_ok (n := 2) h2 (by omega) (by omega)
  rw [cond_true, h3, Option.bind_some]
  dsimp only
  cases (x == 0)
  · exact d1023 op t t3 t4 a v _ _ _ h6 (by omega) ha hv
  obtain ⟨y, r3, h7, h8, h9, h10⟩ := pick_ok (n := 70) h6 (by omega) (by omega)
  obtain ⟨z, hz, hzu⟩ := max_ok t
  rw [cond_true, h7, Option.bind_some, hz, Option.bind_some]
  dsimp only
  have hm := tmod_ok (x := z) (n := 71) hzu.1 (by omega)
  have e : IntKind.i64.wrap (IntKind.u64.wrap (z.tmod 71 + 1)) = z.tmod 71 + 1 := by rw [wu (by omega) (by omega), wi (by omega) (by omega)]
  rw [e, bif_t (bne_iff_ne.2 (by omega))]
  have hq := tmod_ok (x := y) (n := z.tmod 71 + 1) h8 (by omega)
  exact d1023 op t t3 t4 a _ _ _ _ h10 (by omega) ha ⟨by show -9223372036854775808 ≤ y.tmod _; omega, by show y.tmod _ < _; omega⟩
theorem d63 (op t : Int) (t3 t4 : TValue) (m : List Int) (i : Int) (k : Nat) (h : RdOk (m, i) k) (hk : k ≤ 100000) : Two (R.DrawBinary.l63 op t t3 t4 m i) := by
  obtain ⟨v, r1, h1, hv, h2⟩ := any_ok t h (by omega)
  obtain ⟨x, r2, h3, h4, h5, h6⟩ := pick_ok (n := 16) h2 (by omega) (by omega)
  rw [R.DrawBinary.l63_eq, h1, Option.bind_some]
  dsimp only
  rw [h3, Option.bind_some]
  dsimp only
  cases (x == 0)
  · exact d255 op t t3 t4 v _ _ _ h6 (by omega) hv
  obtain ⟨y, r3, h7, _, _, h10⟩ := pick_ok (n := 10) h6 (by omega) (by omega)
  rw [cond_true, h7, Option.bind_some]
  exact d255 op _ t3 t4 v _ _ _ h10 (by omega) hv
theorem draw_two (code : List Int) (hb : ∀ b ∈ code, 0 ≤ b ∧ b < 256) : Two (R.DrawBinary code) := by
  obtain ⟨r, h1, h2⟩ := open_ok hb
  obtain ⟨x, r1, h3, h4, h5, h6⟩ := pick_ok (n := 18) h2 (by omega) (by omega)
  obtain ⟨y, r2, h7, h8, h9, h10⟩ := pick_ok (n := 8) h6 (by omega) (by omega)
  rw [R.DrawBinary_eq, h1, Option.bind_some]
  dsimp only
  rw [h3, Option.bind_some]
  dsimp only
  rw [h7, Option.bind_some]
  dsimp only
  cases decide (IntKind.i64.wrap (1 + x) ≤ 2); rotate_left
  · exact d63 _ _ _ _ _ _ _ h10 (by omega)
  cases decide (IntKind.i64.wrap (1 + x) ≤ 9)
  · exact d63 _ _ _ _ _ _ _ h10 (by omega)
  obtain ⟨z, r3, h11, _, _, h14⟩ := pick_ok (n := 3) h10 (by omega) (by omega)
  simp only [cond_false, cond_true]
  rw [h11, Option.bind_some]
  dsimp only
  cases (z == 0)
  · exact d63 _ _ _ _ _ _ _ h14 (by omega)
  · exact d63 _ _ _ _ _ _ _ h14 (by omega)
end Go.KM.V1
