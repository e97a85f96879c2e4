/- Plain laws: the values' laws. Conditions: none. -/
import Derived.Test.YtgjcobbngimleaaDoorVInts
namespace Go.KM.V1
open Go Go.KM
open Go.KM.Fam (Dn dflt)
open Go.KM.Enc (cells sz mkE glob gany u8)
set_option autoImplicit false
set_option linter.unusedVariables false
set_option linter.unusedSimpArgs false
set_option maxRecDepth 100000
theorem itoa_len {v : Int} (h : I64 v) : (Lib.itoa v).length ≤ 20 := by
  obtain ⟨h0, h1⟩ := h
  unfold Lib.itoa
  split
  · have := dec_len 18 v.natAbs (by omega)
    simp; omega
  · have := dec_len 18 v.toNat (by omega)
    omega
def dec1 (n : Int) : TValue := ⟨2, 0, ⟨(Lib.itoa n).toArray⟩⟩
theorem dec1_valid {n : Int} (h : I64 n) : valid (dec1 n) = true := by
  have := itoa_len h
  unfold valid dec1
  rw [if_neg (by simp), if_pos rfl]
  simp only [Bool.and_eq_true, decide_eq_true_eq]
  refine ⟨trivial, ?_⟩
  rw [size_data]
  simp only [List.toList_toArray]
  omega
theorem one_arg (op : Int) (c : TValue) (hv : valid c = true) : I.Built op [c] = I.Built.l116 op [c] [c.gType] [c] 1 1 ⟨0, 0, ⟨#[]⟩⟩ := by
  rw [I.Built_eq]
  show I.Built.l116 op [c] [] [c] 1 0 ⟨0, 0, ⟨#[]⟩⟩ = _
  rw [I.Built.l116_eq, bif_t (b := decide ((0 : Int) < 1)) rfl, bif_t (b := inB 0 [c].length) rfl]
  show (I.ValidValue c).bind _ = _
  rw [I_valid, hv, Option.bind_some, bif_f (b := !true) rfl, bif_t (room_ok (by simp))]
  rfl
theorem bt11 : I.builtType 11 [10] = some 2 := by
  rw [I.builtType_eq]
  show I.builtType.l500 11 [-1] [10] 1 0 = some 2
  rw [I.builtType.l500_eq]
  show (I.integer 10).bind _ = _
  rw [I_int (by omega) (by omega), Option.bind_some]
  show I.builtType.l500 11 [-1] [10] 1 1 = some 2
  rw [I.builtType.l500_eq]
  rfl
theorem bt12 : I.builtType 12 [2] = some 10 := by
  rw [I.builtType_eq]
  show I.builtType.l500 12 [2] [2] 1 0 = some 10
  rw [I.builtType.l500_eq]
  show I.builtType.l500 12 [2] [2] 1 1 = some 10
  rw [I.builtType.l500_eq]
  rfl
theorem B_dec {c : TValue} (h : VI 10 c) (hn : I64 c.gN) : I.Built 11 [c] = some (dec1 c.gN, none_) := by
  rw [one_arg 11 c h.valid, I.Built.l116_eq, h.ty, bif_f (b := decide ((1 : Int) < 1)) rfl, bif_f (b := decide ((11 : Int) ≤ 5)) rfl, bt11, Option.bind_some]
  show (I.decimal c).bind _ = _
  have : I.decimal c = some ⟨(Lib.itoa c.gN).toArray⟩ := by
    rw [I.decimal_eq, I_signed, h.ty, Option.bind_some, bif_t (b := decide ((7 : Int) ≤ 10)) rfl, bif_t (by obtain ⟨_, _⟩ := hn; simp; omega)]
  rw [this, Option.bind_some, I.vText_eq]
  rfl
theorem pInt_itoa {v : Int} (hv : I64 v) : pInt ⟨(Lib.itoa v).toArray⟩ = (v, true) := by
  have hp := parse_itoa hv
  unfold pInt
  simp only [List.toList_toArray]
  rw [hp]
theorem B_num {n : Int} (hn : I64 n) : I.Built 12 [dec1 n] = some (mkI 10 n, none_) := by
  have hs : (⟨(Lib.itoa n).toArray⟩ : ByteArray).size ≤ 20 := by
    rw [size_data]; simpa using itoa_len hn
  rw [one_arg 12 _ (dec1_valid hn), I.Built.l116_eq, bif_f (b := decide ((1 : Int) < 1)) rfl, bif_f (b := decide ((12 : Int) ≤ 5)) rfl]
  show (I.builtType 12 [2]).bind _ = _
  rw [bt12, Option.bind_some]
  show (bif decide ((⟨(Lib.itoa n).toArray⟩ : ByteArray).size ≤ 281474976710656) && 10 == 10 && 64 == 64 then _ else none) = _
  rw [bif_t (by simp; omega)]
  show (bif !(pInt ⟨(Lib.itoa n).toArray⟩).snd then _ else bif decide (-9223372036854775808 ≤ (pInt ⟨(Lib.itoa n).toArray⟩).fst) && decide ((pInt ⟨(Lib.itoa n).toArray⟩).fst ≤ 9223372036854775807) && 10 == 10 then
      bif !bEq ⟨(Lib.itoa (pInt ⟨(Lib.itoa n).toArray⟩).fst).toArray⟩ ⟨(Lib.itoa n).toArray⟩ then _ else (I.vInt (pInt ⟨(Lib.itoa n).toArray⟩).fst).bind _ else none) = _
  rw [pInt_itoa hn]
  simp only [Bool.not_true, cond_false]
  rw [bif_t (by obtain ⟨_, _⟩ := hn; simp; omega), bEq_self, I.vInt_eq]
  rfl
theorem nn : none_ ++ none_ = none_ := by decide
theorem nz : decide (ByteArray.size none_ + ByteArray.size none_ < 2 ^ 62) = true := by decide
theorem bq : bEq none_ (⟨#[]⟩ : ByteArray) = true := bEq_self _
theorem bmul {a b : TValue} (h : ¬ (valid a = true ∧ valid b = true ∧ a.gType = b.gType ∧ 3 ≤ a.gType)) :
    ((I.Binary 13 a b).bind fun (r2 : (TValue × ByteArray)) => bif bEq r2.snd (⟨#[116, 121, 112, 101]⟩ : ByteArray) then some (r2.fst.gType == 0 && (r2.fst.gN == 0 && (r2.fst.gText.toList == (⟨#[]⟩ : ByteArray).toList && true))) else some false) = some true := by
  rw [I_mul_bad a b h, Option.bind_some, bEq_self]
  simp
theorem fnValues (code : List Int) (op : Int) (a b : TValue) (hd : R.DrawBinary code = some (op, (a, b))) (ha64 : I64 a.gN) (hb64 : I64 b.gN) : L.FnValues code = some true := by
  rw [L.FnValues_eq]
  cases hlen : decide ((code.length : Int) > 1048576) with
  | true => rfl
  | false =>
    rw [cond_false, hd, Option.bind_some, R_valid, Option.bind_some, R_valid]
    show (bif !valid a then _ else _) = _
    by_cases hg : valid a = true ∧ valid b = true ∧ a.gType = b.gType ∧ 3 ≤ a.gType
    · obtain ⟨hva, hvb, hty, h3⟩ := hg
      have ha := VI.of hva h3
      have hb : VI a.gType b := by rw [hty]; exact VI.of hvb (by omega)
      have tb : b.gType = a.gType := hty.symm
      generalize ht : a.gType = t at ha hb tb
      rw [hva, hvb, tb]
      have hh3 := ha.lo
      have hh10 := ha.hi
      have c1 : (t != t) = false := by simp
      have c2 : decide (t < 3) = false := by simp; omega
      have hN : VI t ⟨t, into t (IntKind.u64.wrap (0 - IntKind.u64.wrap a.gN)), ⟨#[]⟩⟩ := VI.into _ hh3 hh10
      have hI : VI t ⟨t, into t (18446744073709551615 - IntKind.u64.wrap a.gN), ⟨#[]⟩⟩ := VI.into _ hh3 hh10
      have ec : into 10 (IntKind.u64.wrap a.gN) = a.gN := wi_wu ha64
      have hC : VI 10 ⟨10, a.gN, ⟨#[]⟩⟩ := ⟨rfl, by omega, by omega, rfl, ec⟩
      have es : into t (IntKind.u64.wrap (IntKind.u64.wrap a.gN + IntKind.u64.wrap (into t (IntKind.u64.wrap (0 - IntKind.u64.wrap a.gN))))) = 0 := by
        have : into t 0 = 0 := by
          unfold into
          rw [IntKind.wrap_i64]
          repeat' split
          all_goals rfl
        rw [← this]
        apply into_cong
        rw [wu_md, add_md (wu_md t _) ((wu_md t _).trans ((into_md t _).trans ((wu_md t _).trans (sub_md rfl (wu_md t _)))))]
        congr 1; omega
      have ei : into t (18446744073709551615 - IntKind.u64.wrap (into t (18446744073709551615 - IntKind.u64.wrap a.gN))) = a.gN := by
        rw [← ha.n]
        apply into_cong
        rw [ha.n, sub_md rfl ((wu_md t _).trans (into_md t _))]
        congr 1; omega
      have e1 : I.Unary 1 a = some (⟨t, into t (IntKind.u64.wrap (0 - IntKind.u64.wrap a.gN)), ⟨#[]⟩⟩, ⟨#[]⟩) := I_neg ha
      have e2 : I.Binary 9 a ⟨t, into t (IntKind.u64.wrap (0 - IntKind.u64.wrap a.gN)), ⟨#[]⟩⟩ = some (⟨t, 0, ⟨#[]⟩⟩, ⟨#[]⟩) := by rw [I_add ha hN, es]; rfl
      have e3 : I.Unary 3 a = some (⟨t, into t (18446744073709551615 - IntKind.u64.wrap a.gN), ⟨#[]⟩⟩, ⟨#[]⟩) := I_inv ha
      have e4 : I.Unary 3 ⟨t, into t (18446744073709551615 - IntKind.u64.wrap a.gN), ⟨#[]⟩⟩ = some (⟨t, a.gN, ⟨#[]⟩⟩, ⟨#[]⟩) := by rw [I_inv hI, ei]; rfl
      have e5 : I.Convert a 10 = some (⟨10, a.gN, ⟨#[]⟩⟩, ⟨#[]⟩) := by rw [I_conv ha (by omega) (by omega), ec]; rfl
      have e6 : I.Convert ⟨10, a.gN, ⟨#[]⟩⟩ t = some (⟨t, a.gN, ⟨#[]⟩⟩, ⟨#[]⟩) := by rw [I_conv hC hh3 hh10, ha.n]; rfl
      have v1 : I.ValidValue ⟨t, into t (IntKind.u64.wrap (0 - IntKind.u64.wrap a.gN)), ⟨#[]⟩⟩ = some true := by rw [I_valid, hN.valid]
      have v2 : I.ValidValue ⟨t, into t (18446744073709551615 - IntKind.u64.wrap a.gN), ⟨#[]⟩⟩ = some true := by rw [I_valid, hI.valid]
      have v3 : I.ValidValue ⟨10, a.gN, ⟨#[]⟩⟩ = some true := by rw [I_valid, hC.valid]
      have b1 : I.Built 11 [⟨10, a.gN, ⟨#[]⟩⟩] = some (⟨2, 0, ⟨(Lib.itoa a.gN).toArray⟩⟩, ⟨#[]⟩) := B_dec hC ha64
      have b2 : I.Built 12 [⟨2, 0, ⟨(Lib.itoa a.gN).toArray⟩⟩] = some (⟨10, a.gN, ⟨#[]⟩⟩, ⟨#[]⟩) := B_num ha64
      have nn' : (⟨#[]⟩ : ByteArray) ++ ⟨#[]⟩ = ⟨#[]⟩ := nn
      have nz' : decide ((⟨#[]⟩ : ByteArray).size + (⟨#[]⟩ : ByteArray).size < 2 ^ 62) = true := nz
      have bq' : bEq (⟨#[]⟩ : ByteArray) ⟨#[]⟩ = true := bq
      simp only [Bool.not_true, cond_false, cond_true, Option.bind_some, c1, c2, e1, e2, e3, e4, e5, e6, v1, v2, v3, b1, b2, nn', nz', bq', ha.tx, beq_self_eq_true, Bool.and_true]
      by_cases hz : b.gN = 0
      · have q0 := I_quo0 (op := 14) (.inl rfl) ha hb hz
        have r0 := I_quo0 (op := 15) (.inr rfl) ha hb hz
        have z0 : (b.gN == 0) = true := by simpa using hz
        rw [q0, Option.bind_some, r0, Option.bind_some, z0, cond_true, bEq_self]
        simp
      · have z0 : (b.gN == 0) = false := by simpa using hz
        have hub0 : IntKind.u64.wrap b.gN ≠ 0 := by
          rw [wu_eq]; obtain ⟨_, _⟩ := hb64; omega
        obtain ⟨D, R, hD, hR, uD, uR, hDR⟩ := div_ok ha hb hz ha64 hb64
        have hQ : VI t ⟨t, into t D, ⟨#[]⟩⟩ := VI.into _ hh3 hh10
        have hRm : VI t ⟨t, into t R, ⟨#[]⟩⟩ := VI.into _ hh3 hh10
        have hM : VI t ⟨t, into t (IntKind.u64.wrap (IntKind.u64.wrap (into t D) * IntKind.u64.wrap b.gN)), ⟨#[]⟩⟩ := VI.into _ hh3 hh10
        have q1 : I.Binary 14 a b = some (⟨t, into t D, ⟨#[]⟩⟩, ⟨#[]⟩) := I_quo (.inl rfl) ha hb hub0 hD uD
        have q2 : I.Binary 15 a b = some (⟨t, into t R, ⟨#[]⟩⟩, ⟨#[]⟩) := I_quo (.inr rfl) ha hb hub0 hR uR
        have q3 : I.Binary 13 ⟨t, into t D, ⟨#[]⟩⟩ b = some (⟨t, into t (IntKind.u64.wrap (IntKind.u64.wrap (into t D) * IntKind.u64.wrap b.gN)), ⟨#[]⟩⟩, ⟨#[]⟩) := I_mul hQ hb
        have eq : into t (IntKind.u64.wrap (IntKind.u64.wrap (into t (IntKind.u64.wrap (IntKind.u64.wrap (into t D) * IntKind.u64.wrap b.gN))) + IntKind.u64.wrap (into t R))) = a.gN := by
          rw [← ha.n]
          apply into_cong
          rw [wu_md, add_md ((wu_md t _).trans ((into_md t _).trans ((wu_md t _).trans (mul_md ((wu_md t _).trans (into_md t _)) (wu_md t _))))) ((wu_md t _).trans (into_md t _)), hDR, wu_md]
        have q4 : I.Binary 9 ⟨t, into t (IntKind.u64.wrap (IntKind.u64.wrap (into t D) * IntKind.u64.wrap b.gN)), ⟨#[]⟩⟩ ⟨t, into t R, ⟨#[]⟩⟩ = some (⟨t, a.gN, ⟨#[]⟩⟩, ⟨#[]⟩) := by rw [I_add hM hRm, eq]; rfl
        obtain ⟨z, hzz⟩ := I_ord (b := b) ha
        have l1 : I.Binary 5 a b = some (⟨1, if z < 0 then 1 else 0, ⟨#[]⟩⟩, ⟨#[]⟩) := I_less ha hb hzz
        have l2 : I.Binary 8 a b = some (⟨1, if z < 0 then 0 else 1, ⟨#[]⟩⟩, ⟨#[]⟩) := I_least ha hb hzz
        have v4 : I.ValidValue ⟨t, into t D, ⟨#[]⟩⟩ = some true := by rw [I_valid, hQ.valid]
        have v5 : I.ValidValue ⟨t, into t R, ⟨#[]⟩⟩ = some true := by rw [I_valid, hRm.valid]
        have ss : (IntKind.i64.wrap ((if z < 0 then (1 : Int) else 0) + (if z < 0 then 0 else 1)) == 1) = true := by
          by_cases hzn : z < 0 <;> simp [hzn] <;> decide
        simp only [Bool.not_true, cond_false, cond_true, Option.bind_some, q1, q2, q3, q4, l1, l2, v4, v5, ss, z0, nn', nz', bq', beq_self_eq_true, Bool.and_true]
    · have hb' := bmul hg
      cases hva : valid a with
      | false => exact hb'
      | true =>
        rw [bif_f (b := !true) rfl, Option.bind_some]
        cases hvb : valid b with
        | false => exact hb'
        | true =>
          rw [bif_f (b := !true) rfl]
          by_cases hty : a.gType = b.gType
          · have h3 : ¬ 3 ≤ a.gType := fun h => hg ⟨hva, hvb, hty, h⟩
            rw [bif_f (b := a.gType != b.gType) (by simpa using hty), bif_t (b := decide (a.gType < 3)) (by simp; omega)]
            exact hb'
          · rw [bif_t (b := a.gType != b.gType) (by simpa using hty)]
            exact hb'
end Go.KM.V1
