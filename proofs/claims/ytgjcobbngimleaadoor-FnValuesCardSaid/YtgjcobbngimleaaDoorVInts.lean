/- Plain laws: what the program's operations on integers of a type give. Conditions: none. -/
import Derived.Test.YtgjcobbngimleaaDoorVVal
import Derived.Test.YtgjcobbngimleaaDoorKmDec
namespace Go.KM.V1
open Go Go.KM
open Go.KM.Fam (Dn dflt)
open Go.KM.Enc (cells sz mkE glob gany u8)
set_option autoImplicit false
set_option linter.unusedVariables false
set_option linter.unusedSimpArgs false
set_option maxRecDepth 100000
def md (t : Int) : Int := if t = 3 ∨ t = 7 then 256 else if t = 4 ∨ t = 8 then 65536 else if t = 5 ∨ t = 9 then 4294967296 else 18446744073709551616
theorem md_cases (t : Int) : md t = 256 ∨ md t = 65536 ∨ md t = 4294967296 ∨ md t = 18446744073709551616 := by
  unfold md
  split
  · exact .inl rfl
  split
  · exact .inr (.inl rfl)
  split
  · exact .inr (.inr (.inl rfl))
  · exact .inr (.inr (.inr rfl))
theorem into_cong {t x y : Int} (h : x % md t = y % md t) : into t x = into t y := by
  unfold md at h
  unfold into
  rw [IntKind.wrap_i64, IntKind.wrap_i64]
  by_cases h3 : t = 3
  · simp only [h3, true_or, if_true] at h ⊢; exact h
  by_cases h4 : t = 4
  · subst h4; simp at h ⊢; exact h
  by_cases h5 : t = 5
  · subst h5; simp at h ⊢; exact h
  by_cases h7 : t = 7
  · subst h7; simp at h ⊢; omega
  by_cases h8 : t = 8
  · subst h8; simp at h ⊢; omega
  by_cases h9 : t = 9
  · subst h9; simp at h ⊢; omega
  simp only [h3, h4, h5, h7, h8, h9, or_self, if_false] at h ⊢
  omega
theorem into_md (t x : Int) : into t x % md t = x % md t := by
  unfold md into
  rw [IntKind.wrap_i64]
  by_cases h3 : t = 3
  · subst h3; simp
  by_cases h4 : t = 4
  · subst h4; simp
  by_cases h5 : t = 5
  · subst h5; simp
  by_cases h7 : t = 7
  · subst h7; simp <;> omega
  by_cases h8 : t = 8
  · subst h8; simp <;> omega
  by_cases h9 : t = 9
  · subst h9; simp <;> omega
  simp only [h3, h4, h5, h7, h8, h9, or_self, if_false]
  omega
theorem wu_md (t x : Int) : IntKind.u64.wrap x % md t = x % md t := by
  rw [wu_eq]
  rcases md_cases t with h | h | h | h <;> rw [h] <;> omega
theorem wi_md (t x : Int) : IntKind.i64.wrap x % md t = x % md t := by
  rw [IntKind.wrap_i64]
  rcases md_cases t with h | h | h | h <;> rw [h] <;> omega
theorem add_md {t a b c d : Int} (h1 : a % md t = b % md t) (h2 : c % md t = d % md t) : (a + c) % md t = (b + d) % md t := by rw [Int.add_emod, h1, h2, ← Int.add_emod]
theorem sub_md {t a b c d : Int} (h1 : a % md t = b % md t) (h2 : c % md t = d % md t) : (a - c) % md t = (b - d) % md t := by rw [Int.sub_emod, h1, h2, ← Int.sub_emod]
theorem mul_md {t a b c d : Int} (h1 : a % md t = b % md t) (h2 : c % md t = d % md t) : (a * c) % md t = (b * d) % md t := by rw [Int.mul_emod, h1, h2, ← Int.mul_emod]
/-- a valid integer -/
structure VI (t : Int) (v : TValue) : Prop where
  ty : v.gType = t
  lo : 3 ≤ t
  hi : t ≤ 10
  tx : v.gText = ⟨#[]⟩
  n : into t (IntKind.u64.wrap v.gN) = v.gN
theorem VI.eq {t : Int} {v : TValue} (h : VI t v) : v = ⟨t, v.gN, ⟨#[]⟩⟩ := by
  cases v; simp only [TValue.mk.injEq]; exact ⟨h.ty, trivial, h.tx⟩
theorem VI.valid {t : Int} {v : TValue} (h : VI t v) : valid v = true := by
  have := h.lo; have := h.hi
  unfold Go.KM.V1.valid
  rw [h.ty, if_neg (by omega), if_neg (by omega), h.n]
  simp only [h.tx, Bool.and_eq_true, decide_eq_true_eq]
  exact ⟨⟨⟨by omega, by omega⟩, trivial⟩, trivial⟩
theorem VI.of {v : TValue} (h : Go.KM.V1.valid v = true) (h3 : 3 ≤ v.gType) : VI v.gType v := by
  unfold Go.KM.V1.valid at h
  rw [if_neg (by omega), if_neg (by omega)] at h
  simp only [Bool.and_eq_true, decide_eq_true_eq] at h
  exact ⟨rfl, h3, h.1.1.2, h.1.2, h.2.symm⟩
theorem VI.into {t : Int} (x : Int) (h3 : 3 ≤ t) (h10 : t ≤ 10) : VI t ⟨t, Go.KM.V1.into t x, ⟨#[]⟩⟩ :=
  ⟨rfl, h3, h10, rfl, into_cong (by rw [wu_md, into_md])⟩
def mkI (t n : Int) : TValue := ⟨t, n, ⟨#[]⟩⟩
def none_ : ByteArray := ⟨#[]⟩
theorem I_int {t : Int} (h3 : 3 ≤ t) (h10 : t ≤ 10) : I.integer t = some true := by rw [I_integer]; simp [h3, h10]
theorem ne0 {t : Int} (h3 : 3 ≤ t) : (t == 0) = false := by simp; omega
theorem unTy {op t : Int} (ho : op = 1 ∨ op = 3) (h3 : 3 ≤ t) (h10 : t ≤ 10) : I.unType op t = some t := by
  rw [I.unType_eq, I_int h3 h10]
  rcases ho with rfl | rfl <;> rfl
theorem binTy {op t : Int} (h1 : 9 ≤ op) (h2 : op ≤ 18) (h3 : 3 ≤ t) (h10 : t ≤ 10) : I.binType op t t = some t := by
  rw [I.binType_eq, I_int h3 h10]
  have e1 : (op == 1) = false := by simp; omega
  have e2 : (op == 2) = false := by simp; omega
  have e3 : (op == 3) = false := by simp; omega
  have e4 : (op == 4) = false := by simp; omega
  have e5 : (t == 0) = false := ne0 h3
  have e6 : decide (op ≥ 5) = true := by simp; omega
  have e7 : decide (op ≤ 8) = false := by simp; omega
  have e8 : decide (op > 9) = !(op == 9) := by
    by_cases h : op = 9
    · subst h; rfl
    · have h' : op > 9 := by omega
      simp [h, h']
  have e9 : decide (op ≤ 18) = true := by simp; omega
  simp only [bne_self_eq_false, cond_false, cond_true, e1, e2, e3, e4, e5, e6, e7, e9, Option.bind_some]
  by_cases h : op = 9
  · subst h; rfl
  · have e10 : (op == 9) = false := by simpa using h
    rw [e8, e10]; rfl
theorem cmpTy {op t : Int} (h1 : 5 ≤ op) (h2 : op ≤ 8) (h3 : 3 ≤ t) (h10 : t ≤ 10) : I.binType op t t = some 1 := by
  rw [I.binType_eq, I_int h3 h10]
  have e1 : (op == 1) = false := by simp; omega
  have e2 : (op == 2) = false := by simp; omega
  have e3 : (op == 3) = false := by simp; omega
  have e4 : (op == 4) = false := by simp; omega
  have e5 : (t == 0) = false := ne0 h3
  have e6 : decide (op ≥ 5) = true := by simp; omega
  have e7 : decide (op ≤ 8) = true := by simp; omega
  simp only [bne_self_eq_false, cond_false, cond_true, e1, e2, e3, e4, e5, e6, e7, Option.bind_some]
theorem I_neg {t : Int} {a : TValue} (h : VI t a) : I.Unary 1 a = some (mkI t (into t (IntKind.u64.wrap (0 - IntKind.u64.wrap a.gN))), none_) := by
  rw [I.Unary_eq, I_valid, h.valid, Option.bind_some, h.ty, unTy (.inl rfl) h.lo h.hi, Option.bind_some, ne0 h.lo, I_into _ _ (u64_wrap _)]
  rfl
theorem xor_all {x : Int} (h : U64 x) : bitXor .u64 18446744073709551615 x = 18446744073709551615 - x := by
  obtain ⟨h0, h1⟩ := h
  obtain ⟨n, rfl⟩ : ∃ n : Nat, x = n := ⟨x.toNat, by omega⟩
  have hn : n < 2 ^ 64 := by omega
  unfold bitXor
  have e : (BitVec.ofInt 64 18446744073709551615 ^^^ BitVec.ofInt 64 (n : Int)).toNat = 18446744073709551615 - n := by
    have e1 : BitVec.ofInt 64 18446744073709551615 = BitVec.allOnes 64 := by decide
    have e2 : BitVec.ofInt 64 (n : Int) = BitVec.ofNat 64 n := by
      apply BitVec.eq_of_toNat_eq
      rw [BitVec.toNat_ofInt, BitVec.toNat_ofNat]
      omega
    rw [e1, e2, BitVec.allOnes_xor, BitVec.toNat_not, BitVec.toNat_ofNat, Nat.mod_eq_of_lt hn]
  show IntKind.u64.wrap ((BitVec.ofInt 64 18446744073709551615 ^^^ BitVec.ofInt 64 (n : Int)).toNat : Int) = _
  rw [e, wu (by omega) (by omega)]
  omega
theorem I_inv {t : Int} {a : TValue} (h : VI t a) : I.Unary 3 a = some (mkI t (into t (18446744073709551615 - IntKind.u64.wrap a.gN)), none_) := by
  have hw := u64_wrap a.gN
  have e : bitXor IntKind.u64 (if IntKind.u64.signed = true then -1 else IntKind.u64.max) (IntKind.u64.wrap a.gN) = 18446744073709551615 - IntKind.u64.wrap a.gN := xor_all hw
  rw [I.Unary_eq, I_valid, h.valid, Option.bind_some, h.ty, unTy (.inr rfl) h.lo h.hi, Option.bind_some, ne0 h.lo, e, I_into t (18446744073709551615 - IntKind.u64.wrap a.gN) ⟨by have := hw.2; omega, by have := hw.1; omega⟩]
  rfl
theorem I_conv {t u : Int} {a : TValue} (h : VI t a) (h3 : 3 ≤ u) (h10 : u ≤ 10) : I.Convert a u = some (mkI u (into u (IntKind.u64.wrap a.gN)), none_) := by
  rw [I.Convert_eq, I_valid, h.valid, Option.bind_some, h.ty, I_int h.lo h.hi, Option.bind_some, I_int h3 h10, Option.bind_some, I_into _ _ (u64_wrap _)]
  rfl
theorem ne2 {t : Int} (h3 : 3 ≤ t) : (t == 2) = false := by simp; omega
theorem I_add {t : Int} {a b : TValue} (h : VI t a) (h' : VI t b) : I.Binary 9 a b = some (mkI t (into t (IntKind.u64.wrap (IntKind.u64.wrap a.gN + IntKind.u64.wrap b.gN))), none_) := by
  rw [I.Binary_eq, I_valid, I_valid, h.valid, h'.valid, Option.bind_some, Option.bind_some, h.ty, h'.ty, binTy (by omega) (by omega) h.lo h.hi, Option.bind_some, ne0 h.lo, ne2 h.lo, I_into _ _ (u64_wrap _), I_into _ _ (u64_wrap _), I_into _ _ (u64_wrap _)]
  rfl
theorem I_mul {t : Int} {a b : TValue} (h : VI t a) (h' : VI t b) : I.Binary 13 a b = some (mkI t (into t (IntKind.u64.wrap (IntKind.u64.wrap a.gN * IntKind.u64.wrap b.gN))), none_) := by
  rw [I.Binary_eq, I_valid, I_valid, h.valid, h'.valid, Option.bind_some, Option.bind_some, h.ty, h'.ty, binTy (by omega) (by omega) h.lo h.hi, Option.bind_some, ne0 h.lo, ne2 h.lo, I_into _ _ (u64_wrap _), I_into _ _ (u64_wrap _), I_into _ _ (u64_wrap _)]
  rfl
/-- quotient and rest -/
theorem div_ok {t : Int} {a b : TValue} (h : VI t a) (h' : VI t b) (hb : b.gN ≠ 0) (ha64 : I64 a.gN) (hb64 : I64 b.gN) : ∃ D R, I.divide 14 a b = some D ∧ I.divide 15 a b = some R ∧ U64 D ∧ U64 R ∧ (D * b.gN + R) % md t = a.gN % md t := by
  have hua := u64_wrap a.gN
  have hub := u64_wrap b.gN
  have hub0 : IntKind.u64.wrap b.gN ≠ 0 := by
    rw [wu_eq]; obtain ⟨_, _⟩ := hb64; omega
  have e14 : ((14 : Int) == 14) = true := rfl
  have e15 : ((15 : Int) == 14) = false := rfl
  by_cases h7 : 7 ≤ t
  · have hs : I.signed a.gType = some true := by rw [I_signed, h.ty]; simp [h7]
    by_cases hm : b.gN = -1
    · refine ⟨IntKind.u64.wrap (0 - IntKind.u64.wrap a.gN), 0, ?_, ?_, u64_wrap _, ⟨by omega, by omega⟩, ?_⟩
      · rw [I.divide_eq, hs, Option.bind_some, hm]; rfl
      · rw [I.divide_eq, hs, Option.bind_some, hm]; rfl
      · have e1 : (IntKind.u64.wrap (0 - IntKind.u64.wrap a.gN) * b.gN) % md t = ((0 - a.gN) * b.gN) % md t := mul_md ((wu_md t _).trans (sub_md rfl (wu_md t _))) rfl
        rw [Int.add_zero, e1, hm]
        congr 1; omega
    · have hm' : (b.gN == -1) = false := by simpa using hm
      have hb' : (b.gN != 0) = true := by simpa using hb
      refine ⟨IntKind.u64.wrap (IntKind.i64.wrap (a.gN.tdiv b.gN)), IntKind.u64.wrap (a.gN.tmod b.gN), ?_, ?_, u64_wrap _, u64_wrap _, ?_⟩
      · rw [I.divide_eq, hs, Option.bind_some, hm', hb']; rfl
      · rw [I.divide_eq, hs, Option.bind_some, hm', hb']; rfl
      · rw [add_md (mul_md ((wu_md t _).trans (wi_md t _)) rfl) (wu_md t _)]
        congr 1
        have := Int.tmod_add_mul_tdiv a.gN b.gN
        rw [Int.mul_comm] at this
        omega
  · have hs : I.signed a.gType = some false := by rw [I_signed, h.ty]; simp; omega
    have hb' : (IntKind.u64.wrap b.gN != 0) = true := by simpa using hub0
    refine ⟨IntKind.u64.wrap ((IntKind.u64.wrap a.gN).tdiv (IntKind.u64.wrap b.gN)), (IntKind.u64.wrap a.gN).tmod (IntKind.u64.wrap b.gN), ?_, ?_, u64_wrap _, ?_, ?_⟩
    · rw [I.divide_eq, hs, Option.bind_some, hb']; rfl
    · rw [I.divide_eq, hs, Option.bind_some, hb']; rfl
    · have h1 := Int.tmod_nonneg (IntKind.u64.wrap b.gN) hua.1
      have h2 := Int.tmod_lt_of_pos (IntKind.u64.wrap a.gN) (show 0 < IntKind.u64.wrap b.gN by have := hub.1; omega)
      exact ⟨h1, by have := hub.2; omega⟩
    · have e1 : (IntKind.u64.wrap ((IntKind.u64.wrap a.gN).tdiv (IntKind.u64.wrap b.gN)) * b.gN) % md t = ((IntKind.u64.wrap a.gN).tdiv (IntKind.u64.wrap b.gN) * IntKind.u64.wrap b.gN) % md t := mul_md (wu_md t _) (wu_md t _).symm
      rw [add_md e1 rfl]
      have := Int.tmod_add_mul_tdiv (IntKind.u64.wrap a.gN) (IntKind.u64.wrap b.gN)
      rw [Int.mul_comm] at this
      rw [show (IntKind.u64.wrap a.gN).tdiv (IntKind.u64.wrap b.gN) * IntKind.u64.wrap b.gN + (IntKind.u64.wrap a.gN).tmod (IntKind.u64.wrap b.gN) = IntKind.u64.wrap a.gN by omega]
      exact wu_md t _
theorem I_quo {t op D : Int} {a b : TValue} (ho : op = 14 ∨ op = 15) (h : VI t a) (h' : VI t b) (hb : IntKind.u64.wrap b.gN ≠ 0) (hD : I.divide op a b = some D) (hU : U64 D) : I.Binary op a b = some (mkI t (into t D), none_) := by
  have e0 : (IntKind.u64.wrap b.gN == 0) = false := by simpa using hb
  rw [I.Binary_eq, I_valid, I_valid, h.valid, h'.valid, Option.bind_some, Option.bind_some, h.ty, h'.ty, binTy (by omega) (by omega) h.lo h.hi, Option.bind_some, ne0 h.lo, ne2 h.lo]
  have key : I.Binary.l16736255 op t (IntKind.u64.wrap b.gN) true a b ⟨0, 0, ⟨#[]⟩⟩ = some (mkI t (into t D), none_) := by
    rw [I.Binary.l16736255_eq, e0, hD, Option.bind_some, I_into _ _ hU]; rfl
  rcases ho with rfl | rfl <;> exact key
theorem I_quo0 {t op : Int} {a b : TValue} (ho : op = 14 ∨ op = 15) (h : VI t a) (h' : VI t b) (hb : b.gN = 0) : I.Binary op a b = some (⟨0, 0, ⟨#[]⟩⟩, ⟨#[100, 105, 118, 105, 100, 101]⟩) := by
  rw [I.Binary_eq, I_valid, I_valid, h.valid, h'.valid, Option.bind_some, Option.bind_some, h.ty, h'.ty, binTy (by omega) (by omega) h.lo h.hi, Option.bind_some, ne0 h.lo, ne2 h.lo]
  have key : I.Binary.l16736255 op t (IntKind.u64.wrap b.gN) true a b ⟨0, 0, ⟨#[]⟩⟩ = some (⟨0, 0, ⟨#[]⟩⟩, ⟨#[100, 105, 118, 105, 100, 101]⟩) := by
    rw [I.Binary.l16736255_eq, hb]; rfl
  rcases ho with rfl | rfl <;> exact key
/-- two of one type are ordered -/
theorem I_ord {t : Int} {a b : TValue} (h : VI t a) : ∃ z, I.order a b = some z := by
  have e : (a.gType == 2) = false := by rw [h.ty]; exact ne2 h.lo
  rw [I.order_eq, e, I_signed, Option.bind_some, cond_false]
  have l : ∀ x, ∃ z, I.order.l31 x a b = some z := fun x => by
    rw [I.order.l31_eq]
    cases x
    · cases (a.gN == b.gN) <;> exact ⟨_, rfl⟩
    · exact ⟨_, rfl⟩
  cases hs : decide (7 ≤ a.gType) <;> exact l _
theorem I_less {t z : Int} {a b : TValue} (h : VI t a) (h' : VI t b) (hz : I.order a b = some z) : I.Binary 5 a b = some (⟨1, if z < 0 then 1 else 0, ⟨#[]⟩⟩, none_) := by
  rw [I.Binary_eq, I_valid, I_valid, h.valid, h'.valid, Option.bind_some, Option.bind_some, h.ty, h'.ty, cmpTy (by omega) (by omega) h.lo h.hi, Option.bind_some, hz]
  have e : ∀ q : Bool, I.truth q = some (⟨1, if q = true then 1 else 0, ⟨#[]⟩⟩ : TValue) := fun q => by rw [I.truth_eq]; cases q <;> rfl
  show (I.truth (decide (z < 0))).bind (fun r4 : TValue => some (r4, (⟨#[]⟩ : ByteArray))) = _
  rw [e]
  by_cases hh : z < 0
  · simp only [hh, decide_true, if_true]; rfl
  · simp only [hh, decide_false, if_false]; rfl
theorem I_least {t z : Int} {a b : TValue} (h : VI t a) (h' : VI t b) (hz : I.order a b = some z) : I.Binary 8 a b = some (⟨1, if z < 0 then 0 else 1, ⟨#[]⟩⟩, none_) := by
  rw [I.Binary_eq, I_valid, I_valid, h.valid, h'.valid, Option.bind_some, Option.bind_some, h.ty, h'.ty, cmpTy (by omega) (by omega) h.lo h.hi, Option.bind_some, hz]
  have e : ∀ q : Bool, I.truth q = some (⟨1, if q = true then 1 else 0, ⟨#[]⟩⟩ : TValue) := fun q => by rw [I.truth_eq]; cases q <;> rfl
  show (I.truth (decide (z ≥ 0))).bind (fun r4 : TValue => some (r4, (⟨#[]⟩ : ByteArray))) = _
  rw [e]
  by_cases hh : z < 0
  · have h2 : decide (z ≥ 0) = false := by simp; omega
    simp only [hh, if_true, h2]; rfl
  · have h2 : decide (z ≥ 0) = true := by simp; omega
    simp only [hh, if_false, h2]; rfl
/-- what does not fit has no type -/
theorem I_mul_bad (a b : TValue) (h : ¬ (valid a = true ∧ valid b = true ∧ a.gType = b.gType ∧ 3 ≤ a.gType)) : I.Binary 13 a b = some (⟨0, 0, ⟨#[]⟩⟩, ⟨#[116, 121, 112, 101]⟩) := by
  rw [I.Binary_eq, I_valid, I_valid]
  cases ha : valid a with
  | false => rw [Option.bind_some]; rfl
  | true =>
    rw [Option.bind_some, bif_f (b := !true) rfl]
    cases hb : valid b with
    | false => rw [Option.bind_some]; rfl
    | true =>
      have : I.binType 13 a.gType b.gType = some 0 := by
        rw [I.binType_eq]
        by_cases he : a.gType = b.gType
        · have hlt : ¬ 3 ≤ a.gType := fun h3 => h ⟨ha, hb, he, h3⟩
          have e1 : (a.gType != b.gType) = false := by simpa using he
          have e2 : I.integer a.gType = some false := by rw [I_integer]; simp; omega
          rw [e1, bif_f rfl, e2]
          cases (a.gType == 0)
          · rw [bif_f rfl]; rfl
          · rw [bif_t rfl]
        · have e1 : (a.gType != b.gType) = true := by simpa using he
          rw [e1, bif_t rfl]
      rw [Option.bind_some, bif_f (b := !true) rfl, this, Option.bind_some, bif_t (b := (0 : Int) == 0) rfl]
end Go.KM.V1
