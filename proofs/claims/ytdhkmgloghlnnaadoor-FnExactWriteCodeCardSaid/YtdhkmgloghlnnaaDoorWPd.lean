/- Plain laws: how a code is written. Conditions: none. -/
import Derived.Test.YtdhkmgloghlnnaaDoorWPc
namespace Go.KM.W1
open Go Go.KM
open Go.KM.Fam (Dn dflt)
open Go.KM.Enc (cells sz mkE glob gany u8)
set_option autoImplicit false
set_option linter.unusedVariables false
set_option linter.unusedSimpArgs false
set_option maxRecDepth 100000
def vn (n : Nat) : List Int := if h : n > 127 then ((n % 128 + 128 : Nat) : Int) :: vn (n / 128) else [(n : Int)]
termination_by n
decreasing_by omega
theorem vn_big {n : Nat} (h : n > 127) : vn n = ((n % 128 + 128 : Nat) : Int) :: vn (n / 128) := by rw [vn, dif_pos h]
theorem vn_small {n : Nat} (h : ¬ n > 127) : vn n = [(n : Int)] := by rw [vn, dif_neg h]
theorem vn_len : ∀ (k n : Nat), n < 128 ^ (k + 1) → (vn n).length ≤ k + 1 := by
  intro k
  induction k with
  | zero => intro n h; rw [vn_small (by omega)]; simp
  | succ k ih =>
    intro n h
    by_cases hn : n > 127
    · rw [vn_big hn]
      have : n / 128 < 128 ^ (k + 1) := by rw [Nat.div_lt_iff_lt_mul (by decide), ← Nat.pow_succ]; exact h
      have := ih _ this
      simp; omega
    · rw [vn_small hn]; simp
theorem vn_len10 {n : Nat} (h : n < 18446744073709551616) : (vn n).length ≤ 10 := vn_len 9 n (by omega)
theorem room_len {n m : Nat} (h : n + m ≤ 70368744177664) : room (n + m) 1 = true := room_ok (by omega)
theorem R_num : ∀ (n : Nat), n < 18446744073709551616 → ∀ out : List Int, (out ++ vn n).length ≤ 70368744177664 → R.l7Number.l24 out n = some (out ++ vn n) := by
  intro n
  induction n using Nat.strongRecOn with
  | ind n ih =>
    intro hn out hl
    rw [R.l7Number.l24_eq]
    by_cases h : n > 127
    · rw [vn_big h] at hl
      rw [bif_t (decide_eq_true (by omega))]
      have e1 : IntKind.u8.wrap (IntKind.u64.wrap ((n : Int).tmod 128 + 128)) = ((n % 128 + 128 : Nat) : Int) := by
        rw [Int.tmod_eq_emod_of_nonneg (by omega), wu (by omega) (by omega), w8_eq]; omega
      have e2 : IntKind.u64.wrap ((n : Int).tdiv 128) = ((n / 128 : Nat) : Int) := by
        rw [Int.tdiv_eq_ediv_of_nonneg (by omega), wu (by omega) (by omega)]; omega
      rw [e1, e2, bif_t (room_len (by simp at hl ⊢; omega)), ih (n / 128) (by omega) (by omega) _ (by simpa using hl), vn_big h]
      simp
    · rw [vn_small h] at hl
      rw [bif_f (decide_eq_false (by omega))]
      have e1 : IntKind.u8.wrap (n : Int) = n := by rw [w8_eq]; omega
      rw [e1, bif_t (room_len (by simpa using hl)), vn_small h]
theorem or128 : ∀ m : Fin 256, m.val ||| 128 = m.val % 128 + 128 := by decide
theorem bitOr128 (x : Int) (h0 : 0 ≤ x) (h1 : x < 256) : bitOr .u8 x 128 = x % 128 + 128 := by
  obtain ⟨m, rfl⟩ := Int.eq_ofNat_of_zero_le h0
  have hm : m < 256 := by omega
  unfold bitOr
  have e : (BitVec.ofInt IntKind.u8.bits (m : Int) ||| BitVec.ofInt IntKind.u8.bits 128).toNat = m % 128 + 128 := by
    rw [BitVec.toNat_or]
    have a : (BitVec.ofInt IntKind.u8.bits (m : Int)).toNat = m := by simp [BitVec.toNat_ofInt, IntKind.bits]; omega
    have b : (BitVec.ofInt IntKind.u8.bits 128).toNat = 128 := by decide
    rw [a, b]
    exact or128 ⟨m, hm⟩
  rw [e, w8_eq]; omega
theorem I_num : ∀ (n : Nat), n < 18446744073709551616 → ∀ (b : Bool) (out : List Int), (out ++ vn n).length ≤ 70368744177664 → I.former_num.l8 n b out = some ((), (true, out ++ vn n)) := by
  intro n
  induction n using Nat.strongRecOn with
  | ind n ih =>
    intro hn b out hl
    rw [I.former_num.l8_eq]
    by_cases h : n > 127
    · rw [vn_big h] at hl
      rw [bif_t (decide_eq_true (by omega)), sr7]
      have e1 : bitOr IntKind.u8 (IntKind.u8.wrap (n : Int)) 128 = ((n % 128 + 128 : Nat) : Int) := by
        rw [w8_eq, bitOr128 _ (by omega) (by omega)]; omega
      have e2 : (n : Int) / 128 = ((n / 128 : Nat) : Int) := by omega
      rw [e1, e2, G.strings_Builder_WriteByte_eq, bif_t (room_len (by simp at hl ⊢; omega)), Option.bind_some]
      show I.former_num.l8 ((n / 128 : Nat) : Int) true (out ++ [((n % 128 + 128 : Nat) : Int)]) = _
      rw [ih (n / 128) (by omega) (by omega) _ _ (by simpa using hl), vn_big h]
      simp
    · rw [vn_small h] at hl
      have e1 : IntKind.u8.wrap (n : Int) = n := by rw [w8_eq]; omega
      rw [bif_f (decide_eq_false (by omega)), e1, G.strings_Builder_WriteByte_eq, bif_t (room_len (by simpa using hl)), Option.bind_some, vn_small h]
def vu (x : Int) : List Int := vn (IntKind.u64.wrap x).toNat
theorem wu_nat (x : Int) : ∃ n : Nat, IntKind.u64.wrap x = n ∧ n < 18446744073709551616 := ⟨(x % 18446744073709551616).toNat, by rw [wu_eq]; omega, by omega⟩
theorem vu_len (x : Int) : (vu x).length ≤ 10 := by
  obtain ⟨n, h, hn⟩ := wu_nat x
  unfold vu; rw [h]; exact vn_len10 hn
theorem R_vu (out : List Int) (x : Int) (h : (out ++ vu x).length ≤ 70368744177664) : R.l7Number out (IntKind.u64.wrap x) = some (out ++ vu x) := by
  obtain ⟨n, hx, hn⟩ := wu_nat x
  unfold vu at h ⊢
  rw [R.l7Number_eq, hx]
  rw [hx] at h
  exact R_num n hn out h
theorem I_vu (b : Bool) (out : List Int) (x : Int) (h : (out ++ vu x).length ≤ 70368744177664) : I.former_num (b, out) (IntKind.u64.wrap x) = some ((), (true, out ++ vu x)) := by
  obtain ⟨n, hx, hn⟩ := wu_nat x
  unfold vu at h ⊢
  rw [I.former_num_eq, hx]
  rw [hx] at h
  exact I_num n hn b out h
def vt (s : ByteArray) : List Int := vu s.size ++ strB s
theorem strB_len (s : ByteArray) : (strB s).length = s.size := by unfold strB; rw [List.length_map, size_data]
theorem vt_len (s : ByteArray) : (vt s).length ≤ 10 + s.size := by
  unfold vt; rw [List.length_append, strB_len]; have := vu_len s.size; omega
theorem R_vt (out : List Int) (s : ByteArray) (h : (out ++ vt s).length ≤ 70368744177664) : R.l7Text out s = some (out ++ vt s) := by
  unfold vt at h ⊢
  rw [← List.append_assoc] at h ⊢
  have hl : (out ++ vu s.size).length + s.size ≤ 70368744177664 := by rw [List.length_append, strB_len] at h; exact h
  rw [R.l7Text_eq, R_vu out s.size (by omega), Option.bind_some, bif_t (room_len (by exact hl))]
theorem I_vt (b : Bool) (out : List Int) (s : ByteArray) (h : (out ++ vt s).length ≤ 70368744177664) : I.former_text (b, out) s = some ((), (true, out ++ vt s)) := by
  unfold vt at h ⊢
  rw [← List.append_assoc] at h ⊢
  have hl : (out ++ vu s.size).length + s.size ≤ 70368744177664 := by rw [List.length_append, strB_len] at h; exact h
  rw [I.former_text_eq, I_vu b out s.size (by omega), Option.bind_some, G.strings_Builder_WriteString_eq, bif_t (room_len (by exact hl)), Option.bind_some]
def hasA (op : Int) : Bool := !(op == 4 || (op == 13 || (op == 14 || (op == 15 || op == 16))))
def insB (x : TIns) : List Int := vu x.gOp ++ ((bif hasA x.gOp then vu x.gA else []) ++ (bif x.gOp == 1 then (bif x.gA == 2 then vt x.gText else vu x.gN) else []))
def fnB (f : TFn) : List Int := vt f.gName ++ (vu f.gParams.length ++ (f.gParams.flatMap vu ++ (vu f.gResult ++ (vu f.gSlots ++ (vu f.gIns.length ++ f.gIns.flatMap insB)))))
theorem I_hasA (op : Int) : I.hasA op = some (hasA op) := by
  rw [I.hasA_eq]
  unfold hasA
  cases op == 4 <;> cases op == 13 <;> cases op == 14 <;> cases op == 15 <;> cases op == 16 <;> rfl
theorem R_hasAw (op : Int) (h1 : 1 ≤ op) (h2 : op ≤ 16) : R.l7HasA op = some (hasA op) := by
  have : op = 1 ∨ op = 2 ∨ op = 3 ∨ op = 4 ∨ op = 5 ∨ op = 6 ∨ op = 7 ∨ op = 8 ∨ op = 9 ∨ op = 10 ∨ op = 11 ∨ op = 12 ∨ op = 13 ∨ op = 14 ∨ op = 15 ∨ op = 16 := by omega
  rw [R_hasA]
  rcases this with rfl | rfl | rfl | rfl | rfl | rfl | rfl | rfl | rfl | rfl | rfl | rfl | rfl | rfl | rfl | rfl <;> rfl
theorem flat_drop {α : Type} {l : List α} {i : Nat} (h : i < l.length) (F : α → List Int) : (l.drop i).flatMap F = F l[i] ++ (l.drop (i + 1)).flatMap F := by rw [drop_get h, List.flatMap_cons]
theorem pre_le {a b c : List Int} {n : Nat} (h : (a ++ (b ++ c)).length ≤ n) : (a ++ b).length ≤ n := by simp at h ⊢; omega
section
variable {c : TCode} {f : TFn}
theorem R_insB {k i : Nat} (x : TIns) (h1 : 1 ≤ x.gOp) (h2 : x.gOp ≤ 16) (hi : i < 9223372036854775807) (out : List Int) (h : (out ++ insB x).length ≤ 70368744177664) :
    ((R.l7Number out (IntKind.u64.wrap x.gOp)).bind fun r0 => (R.l7HasA x.gOp).bind fun r1 => bif r1 then (R.l7Number r0 (IntKind.u64.wrap x.gA)).bind fun r2 => R.l7Form.l64126759 r2 k i c f x else R.l7Form.l64126759 r0 k i c f x) =
    R.l7Form.l1001980 (out ++ insB x) k ((i + 1 : Nat) : Int) c f := by
  unfold insB at h ⊢
  rw [R_vu out _ (pre_le h), Option.bind_some, R_hasAw _ h1 h2, Option.bind_some]
  rw [← List.append_assoc] at h ⊢
  have tail : ∀ o : List Int, (o ++ (bif x.gOp == 1 then (bif x.gA == 2 then vt x.gText else vu x.gN) else [])).length ≤ 70368744177664 → R.l7Form.l64126759 o k i c f x = R.l7Form.l1001980 (o ++ (bif x.gOp == 1 then (bif x.gA == 2 then vt x.gText else vu x.gN) else [])) k ((i + 1 : Nat) : Int) c f := by
    intro o ho
    rw [R.l7Form.l64126759_eq, wi_succ hi]
    cases ha : x.gOp == 1 with
    | false => simp only [cond_false, List.append_nil]
    | true =>
      rw [ha] at ho
      cases hb : x.gA == 2 with
      | true =>
        rw [hb] at ho
        simp only [cond_true] at ho ⊢
        rw [R_vt o _ ho, Option.bind_some]
      | false =>
        rw [hb] at ho
        simp only [cond_true, cond_false] at ho ⊢
        rw [R_vu o _ ho, Option.bind_some]
  cases hA : hasA x.gOp with
  | true =>
    rw [hA] at h
    simp only [cond_true] at h ⊢
    rw [← List.append_assoc] at h ⊢
    rw [R_vu _ _ (by simp at h ⊢; omega), Option.bind_some, tail _ h]
  | false =>
    rw [hA] at h
    simp only [cond_false, List.nil_append] at h ⊢
    rw [tail _ h]
theorem R_inssB {k : Nat} (hk : k < 9223372036854775807) (hl : f.gIns.length ≤ 50000) (hop : ∀ x ∈ f.gIns, 1 ≤ x.gOp ∧ x.gOp ≤ 16) : ∀ (m i : Nat), i + m = f.gIns.length → ∀ out : List Int, (out ++ (f.gIns.drop i).flatMap insB).length ≤ 70368744177664 →
    R.l7Form.l1001980 out k i c f = R.l7Form.l244 (out ++ (f.gIns.drop i).flatMap insB) ((k + 1 : Nat) : Int) c := by
  intro m
  induction m with
  | zero =>
    intro i hi out h
    rw [R.l7Form.l1001980_eq, bif_f (ge_dec (by omega)), wi_succ hk, List.drop_eq_nil_of_le (by omega)]
    simp
  | succ m ih =>
    intro i hi out h
    have hil : i < f.gIns.length := by omega
    rw [flat_drop hil] at h ⊢
    have hx := hop _ (List.getElem_mem hil)
    rw [R.l7Form.l1001980_eq, bif_t (lt_dec hil), bif_t (inB_nat hil), Int.toNat_natCast, getD_lt hil, R_insB _ hx.1 hx.2 (by omega) out (pre_le h)]
    rw [← List.append_assoc] at h ⊢
    exact ih (i + 1) (by omega) _ h
theorem R_paramsB {k : Nat} (hk : k < 9223372036854775807) (hf : HeadOk f) (hop : ∀ x ∈ f.gIns, 1 ≤ x.gOp ∧ x.gOp ≤ 16) : ∀ (m i : Nat), i + m = f.gParams.length → ∀ out : List Int,
    (out ++ ((f.gParams.drop i).flatMap vu ++ (vu f.gResult ++ (vu f.gSlots ++ (vu f.gIns.length ++ f.gIns.flatMap insB))))).length ≤ 70368744177664 →
    R.l7Form.l125236 out k i c f = R.l7Form.l244 (out ++ ((f.gParams.drop i).flatMap vu ++ (vu f.gResult ++ (vu f.gSlots ++ (vu f.gIns.length ++ f.gIns.flatMap insB))))) ((k + 1 : Nat) : Int) c := by
  have h8 := hf.p8
  intro m
  induction m with
  | zero =>
    intro i hi out h
    rw [List.drop_eq_nil_of_le (by omega)] at h ⊢
    rw [R.l7Form.l125236_eq, bif_f (ge_dec (by omega))]
    simp only [List.flatMap_nil, List.nil_append] at h ⊢
    rw [R_vu out _ (pre_le h), Option.bind_some]
    rw [← List.append_assoc] at h ⊢
    rw [R_vu _ _ (pre_le h), Option.bind_some]
    rw [← List.append_assoc] at h ⊢
    rw [R_vu _ _ (pre_le h), Option.bind_some]
    rw [← List.append_assoc] at h ⊢
    have := R_inssB (c := c) hk hf.i5 hop f.gIns.length 0 (by omega) _ h
    exact this
  | succ m ih =>
    intro i hi out h
    have hil : i < f.gParams.length := by omega
    rw [flat_drop hil, List.append_assoc] at h ⊢
    have hg : f.gParams.getD i 0 = f.gParams[i] := getD_lt hil _
    rw [R.l7Form.l125236_eq, bif_t (lt_dec hil), bif_t (inB_nat hil), Int.toNat_natCast, hg, R_vu out _ (pre_le h), Option.bind_some, wi_succ (by omega)]
    rw [← List.append_assoc] at h ⊢
    exact ih (i + 1) (by omega) _ h
theorem R_fnsB (hc : CodeOk c) (hf : ∀ k (hk : k < c.gFns.length), FnOk c c.gFns[k]) (hop : ∀ f ∈ c.gFns, ∀ x ∈ f.gIns, 1 ≤ x.gOp ∧ x.gOp ≤ 16) : ∀ (m k : Nat), k + m = c.gFns.length → ∀ out : List Int, (out ++ (c.gFns.drop k).flatMap fnB).length ≤ 70368744177664 →
    R.l7Form.l244 out k c = some (out ++ (c.gFns.drop k).flatMap fnB) := by
  have hn := hc.n
  intro m
  induction m with
  | zero =>
    intro k hk out h
    rw [R.l7Form.l244_eq, bif_f (ge_dec (by omega)), List.drop_eq_nil_of_le (by omega)]
    simp
  | succ m ih =>
    intro k hk out h
    have hkl : k < c.gFns.length := by omega
    rw [flat_drop hkl] at h ⊢
    rw [R.l7Form.l244_eq, bif_t (lt_dec hkl), bif_t (inB_nat hkl), Int.toNat_natCast, getD_lt hkl]
    have h1 := pre_le h
    unfold fnB at h1
    rw [R_vt out _ (pre_le h1), Option.bind_some]
    rw [← List.append_assoc] at h1
    rw [R_vu _ _ (pre_le h1), Option.bind_some]
    rw [← List.append_assoc] at h1
    have := R_paramsB (c := c) (k := k) (by omega) (hf k hkl).h (hop _ (List.getElem_mem hkl)) c.gFns[k].gParams.length 0 (by omega) _ h1
    refine this.trans ?_
    have e : out ++ vt c.gFns[k].gName ++ vu (c.gFns[k].gParams.length : Int) ++ ((c.gFns[k].gParams.drop 0).flatMap vu ++ (vu c.gFns[k].gResult ++ (vu c.gFns[k].gSlots ++ (vu c.gFns[k].gIns.length ++ c.gFns[k].gIns.flatMap insB)))) = out ++ fnB c.gFns[k] := by
      simp [fnB, List.append_assoc]
    rw [e]
    rw [← List.append_assoc] at h ⊢
    exact ih (k + 1) (by omega) _ h
end
def formB (c : TCode) : List Int := strB ⟨#[109, 105, 108, 108, 49]⟩ ++ (vu c.gFns.length ++ c.gFns.flatMap fnB)
end Go.KM.W1
namespace Go.KM.W1
open Go Go.KM
open Go.KM.Fam (Dn dflt)
open Go.KM.Enc (cells sz mkE glob gany u8)
set_option autoImplicit false
set_option linter.unusedVariables false
set_option linter.unusedSimpArgs false
set_option maxRecDepth 100000
section
variable {fs : List TFn} {f : TFn}
theorem I_insB {k i n N : Nat} (l : List TIns) (x : TIns) (hi : i < 9223372036854775807) (b : Bool) (out : List Int) (h : (out ++ insB x).length ≤ 70368744177664) :
    ∃ b', ((I.former_num (b, out) (IntKind.u64.wrap x.gOp)).bind fun r0 => (I.hasA x.gOp).bind fun r1 => bif r1 then (I.former_num r0.snd (IntKind.u64.wrap x.gA)).bind fun r2 => I.form.l2100558439 fs N k l n i x r2.snd.fst r2.snd.snd else I.form.l2100558439 fs N k l n i x r0.snd.fst r0.snd.snd) =
    I.form.l16410612 fs N k l n ((i + 1 : Nat) : Int) b' (out ++ insB x) := by
  unfold insB at h ⊢
  rw [I_vu b out _ (pre_le h), Option.bind_some, I_hasA, Option.bind_some]
  rw [← List.append_assoc] at h ⊢
  have tail : ∀ (b : Bool) (o : List Int), (o ++ (bif x.gOp == 1 then (bif x.gA == 2 then vt x.gText else vu x.gN) else [])).length ≤ 70368744177664 → ∃ b', I.form.l2100558439 fs N k l n i x b o = I.form.l16410612 fs N k l n ((i + 1 : Nat) : Int) b' (o ++ (bif x.gOp == 1 then (bif x.gA == 2 then vt x.gText else vu x.gN) else [])) := by
    intro b o ho
    rw [I.form.l2100558439_eq, wi_succ hi]
    cases ha : x.gOp == 1 with
    | false => simp only [cond_false, List.append_nil]; exact ⟨b, rfl⟩
    | true =>
      rw [ha] at ho
      cases hb : x.gA == 2 with
      | true =>
        rw [hb] at ho
        simp only [cond_true] at ho ⊢
        rw [I_vt b o _ ho, Option.bind_some]; exact ⟨_, rfl⟩
      | false =>
        rw [hb] at ho
        simp only [cond_true, cond_false] at ho ⊢
        rw [I_vu b o _ ho, Option.bind_some]; exact ⟨_, rfl⟩
  cases hA : hasA x.gOp with
  | true =>
    rw [hA] at h
    simp only [cond_true] at h ⊢
    rw [← List.append_assoc] at h ⊢
    rw [I_vu _ _ _ (by simp at h ⊢; omega), Option.bind_some]
    exact tail _ _ h
  | false =>
    rw [hA] at h
    simp only [cond_false, List.nil_append] at h ⊢
    exact tail _ _ h
theorem I_inssB {k N : Nat} (hk : k < 9223372036854775807) (l : List TIns) (hl : l.length ≤ 50000) : ∀ (m i : Nat), i + m = l.length → ∀ (b : Bool) (out : List Int), (out ++ (l.drop i).flatMap insB).length ≤ 70368744177664 →
    ∃ b', I.form.l16410612 fs N k l l.length i b out = bif decide (((out ++ (l.drop i).flatMap insB).length : Int) > 200000) then some ⟨#[]⟩ else I.form.l500 fs N ((k + 1 : Nat) : Int) b' (out ++ (l.drop i).flatMap insB) := by
  intro m
  induction m with
  | zero =>
    intro i hi b out h
    rw [I.form.l16410612_eq, bif_f (ge_dec (by omega)), wi_succ hk, List.drop_eq_nil_of_le (by omega), G.strings_Builder_Len_eq, Option.bind_some]
    simp only [List.flatMap_nil, List.append_nil]
    exact ⟨b, rfl⟩
  | succ m ih =>
    intro i hi b out h
    have hil : i < l.length := by omega
    rw [flat_drop hil] at h ⊢
    obtain ⟨b1, e1⟩ := I_insB (fs := fs) (k := k) (n := l.length) (N := N) l l[i] (i := i) (by omega) b out (pre_le h)
    rw [I.form.l16410612_eq, bif_t (lt_dec hil), bif_t (inB_nat hil), Int.toNat_natCast, getD_lt hil, e1]
    rw [← List.append_assoc] at h ⊢
    exact ih (i + 1) (by omega) _ _ h
theorem I_paramsB {k N : Nat} (hk : k < 9223372036854775807) (hf : HeadOk f) : ∀ (m i : Nat), i + m = f.gParams.length → ∀ (b : Bool) (out : List Int),
    (out ++ ((f.gParams.drop i).flatMap vu ++ (vu f.gResult ++ (vu f.gSlots ++ (vu f.gIns.length ++ f.gIns.flatMap insB))))).length ≤ 70368744177664 →
    ∃ b', I.form.l1025652 fs N k f.gParams f.gParams.length i f b out = bif decide (((out ++ ((f.gParams.drop i).flatMap vu ++ (vu f.gResult ++ (vu f.gSlots ++ (vu f.gIns.length ++ f.gIns.flatMap insB))))).length : Int) > 200000) then some ⟨#[]⟩ else
      I.form.l500 fs N ((k + 1 : Nat) : Int) b' (out ++ ((f.gParams.drop i).flatMap vu ++ (vu f.gResult ++ (vu f.gSlots ++ (vu f.gIns.length ++ f.gIns.flatMap insB))))) := by
  have h8 := hf.p8
  intro m
  induction m with
  | zero =>
    intro i hi b out h
    rw [List.drop_eq_nil_of_le (by omega)] at h ⊢
    rw [I.form.l1025652_eq, bif_f (ge_dec (by omega))]
    simp only [List.flatMap_nil, List.nil_append] at h ⊢
    rw [I_vu b out _ (pre_le h), Option.bind_some]
    rw [← List.append_assoc] at h ⊢
    rw [I_vu _ _ _ (pre_le h), Option.bind_some]
    rw [← List.append_assoc] at h ⊢
    rw [I_vu _ _ _ (pre_le h), Option.bind_some]
    rw [← List.append_assoc] at h ⊢
    have := I_inssB (fs := fs) (N := N) hk f.gIns hf.i5 f.gIns.length 0 (by omega) true _ h
    exact this
  | succ m ih =>
    intro i hi b out h
    have hil : i < f.gParams.length := by omega
    rw [flat_drop hil, List.append_assoc] at h ⊢
    have hg : f.gParams.getD i 0 = f.gParams[i] := getD_lt hil _
    rw [I.form.l1025652_eq, bif_t (lt_dec hil), bif_t (inB_nat hil), Int.toNat_natCast, hg, I_vu b out _ (pre_le h), Option.bind_some, wi_succ (by omega)]
    rw [← List.append_assoc] at h ⊢
    exact ih (i + 1) (by omega) _ _ h
end
section
variable {c : TCode}
theorem I_fnsB (hc : CodeOk c) (hf : ∀ k (hk : k < c.gFns.length), FnOk c c.gFns[k]) : ∀ (m k : Nat), k + m = c.gFns.length → ∀ (b : Bool) (out : List Int), (out ++ (c.gFns.drop k).flatMap fnB).length ≤ 70368744177664 → (m = 0 → out.length ≤ 200000) →
    I.form.l500 c.gFns c.gFns.length k b out = some (bif decide (((out ++ (c.gFns.drop k).flatMap fnB).length : Int) > 200000) then ⟨#[]⟩ else strOfBytes (out ++ (c.gFns.drop k).flatMap fnB)) := by
  have hn := hc.n
  intro m
  induction m with
  | zero =>
    intro k hk b out h h0
    have := h0 rfl
    rw [I.form.l500_eq, bif_f (ge_dec (by omega)), List.drop_eq_nil_of_le (by omega)]
    simp only [List.flatMap_nil, List.append_nil, List.map_id']
    rw [bif_f (decide_eq_false (by omega))]
  | succ m ih =>
    intro k hk b out h h0
    have hkl : k < c.gFns.length := by omega
    rw [flat_drop hkl] at h ⊢
    rw [I.form.l500_eq, bif_t (lt_dec hkl), bif_t (inB_nat hkl), Int.toNat_natCast, getD_lt hkl]
    have h1 := pre_le h
    unfold fnB at h1
    rw [I_vt b out _ (pre_le h1), Option.bind_some]
    rw [← List.append_assoc] at h1
    rw [I_vu _ _ _ (pre_le h1), Option.bind_some]
    rw [← List.append_assoc] at h1
    obtain ⟨b', e'⟩ := I_paramsB (fs := c.gFns) (N := c.gFns.length) (k := k) (by omega) (hf k hkl).h c.gFns[k].gParams.length 0 (by omega) true _ h1
    have e' : I.form.l1025652 c.gFns c.gFns.length k c.gFns[k].gParams c.gFns[k].gParams.length 0 c.gFns[k] true (out ++ vt c.gFns[k].gName ++ vu (c.gFns[k].gParams.length : Int)) = _ := e'
    rw [e']
    have e : out ++ vt c.gFns[k].gName ++ vu (c.gFns[k].gParams.length : Int) ++ ((c.gFns[k].gParams.drop 0).flatMap vu ++ (vu c.gFns[k].gResult ++ (vu c.gFns[k].gSlots ++ (vu c.gFns[k].gIns.length ++ c.gFns[k].gIns.flatMap insB)))) = out ++ fnB c.gFns[k] := by
      simp [fnB, List.append_assoc]
    rw [e]
    rw [← List.append_assoc] at h ⊢
    by_cases hb : ((out ++ fnB c.gFns[k]).length : Int) > 200000
    · rw [bif_t (decide_eq_true hb), bif_t (decide_eq_true (by simp at hb ⊢; omega))]
    · rw [bif_f (decide_eq_false hb)]
      exact ih (k + 1) (by omega) _ _ h (fun _ => by omega)
theorem flat_len {α : Type} (F : α → List Int) (B : Nat) : ∀ (l : List α), (∀ x ∈ l, (F x).length ≤ B) → (l.flatMap F).length ≤ l.length * B
  | [], _ => by simp
  | x :: l, h => by
    have h1 := h x (by simp)
    have h2 := flat_len F B l fun y hy => h y (by simp [hy])
    rw [List.flatMap_cons, List.length_append, List.length_cons, Nat.succ_mul]; omega
theorem insB_len {x : TIns} (h : x.gText.size ≤ 1048576) : (insB x).length ≤ 1048606 := by
  unfold insB
  have h1 := vu_len x.gOp
  have h2 : (bif hasA x.gOp then vu x.gA else []).length ≤ 10 := by cases hasA x.gOp <;> simp [vu_len]
  have h3 : (bif x.gOp == 1 then (bif x.gA == 2 then vt x.gText else vu x.gN) else []).length ≤ 1048586 := by
    have := vt_len x.gText
    have := vu_len x.gN
    cases x.gOp == 1 <;> cases x.gA == 2 <;> simp only [cond_true, cond_false, List.length_nil] <;> omega
  simp only [List.length_append]; omega
theorem fnB_len {f : TFn} (hf : HeadOk f) (h : FnSmall f) : (fnB f).length ≤ 60000000000 := by
  have h1 := vt_len f.gName
  have h2 := vu_len f.gParams.length
  have h3 := flat_len vu 10 f.gParams fun x _ => vu_len x
  have h4 := vu_len f.gResult
  have h5 := vu_len f.gSlots
  have h6 := vu_len f.gIns.length
  have h7 := flat_len insB 1048606 f.gIns fun x hx => insB_len (h.text x hx)
  have h8 : f.gIns.length * 1048606 ≤ 50000 * 1048606 := Nat.mul_le_mul_right _ hf.i5
  have h9 : f.gParams.length * 10 ≤ 8 * 10 := Nat.mul_le_mul_right _ hf.p8
  have := h.name
  unfold fnB
  simp only [List.length_append]; omega
theorem formB_len (hc : CodeOk c) (h : ∀ f ∈ c.gFns, FnSmall f) : (formB c).length ≤ 70368744177664 := by
  have h1 := vu_len c.gFns.length
  have h2 := flat_len fnB 60000000000 c.gFns fun f hf => fnB_len (hc.f f hf) (h f hf)
  have h3 : c.gFns.length * 60000000000 ≤ 60 * 60000000000 := Nat.mul_le_mul_right _ hc.n
  unfold formB
  simp only [List.length_append, strB_len]
  show 5 + _ ≤ _
  omega
theorem writes_same (hl : c.gFns.length ≤ 1048576) (hs : ∀ f ∈ c.gFns, FnSmall f) : ∃ r, R.WriteCode c = some r ∧ I.WriteCode c = some r := by
  obtain ⟨r, a1, a2⟩ := codes_same hl fun f hf => (hs f hf).params
  rw [R.WriteCode_eq, I.WriteCode_eq, R.l7Ok_eq, I.validCode_eq, a1, a2]
  simp only [Option.bind_some]
  by_cases h0 : r.1 = 0
  · have hv : (r.1 == 0) = true := by simpa using h0
    rw [hv]
    simp only [Bool.not_true, cond_false]
    rcases plains hl fun f hf => (hs f hf).params with ⟨q, q1, q2, q3⟩ | ⟨q2, q3, hC, hF⟩
    · exfalso
      rw [R.CheckCode_eq, q2, Option.bind_some, bif_t (by simpa using q1)] at a1
      have := Option.some.inj a1
      rw [← this] at h0
      exact q1 h0
    · have hlen := formB_len hC hs
      have hop : ∀ f ∈ c.gFns, ∀ x ∈ f.gIns, 1 ≤ x.gOp ∧ x.gOp ≤ 16 := fun f hf x hx => by
        obtain ⟨k, hk, rfl⟩ := List.mem_iff_getElem.1 hf
        have := insOk_is ((hF k hk).i x hx)
        cases this <;> simp only [] <;> omega
      unfold formB at hlen
      have hlen2 := hlen
      rw [← List.append_assoc] at hlen2
      have eR : R.l7Form c = some (formB c) := by
        rw [R.l7Form_eq]
        show (R.l7Number (strB ⟨#[109, 105, 108, 108, 49]⟩) _).bind _ = _
        rw [R_vu _ _ (pre_le hlen), Option.bind_some]
        have := R_fnsB hC hF hop c.gFns.length 0 (by omega) _ hlen2
        refine this.trans ?_
        unfold formB; simp [List.append_assoc]
      have eI : I.form c = some (bif decide (((formB c).length : Int) > 200000) then ⟨#[]⟩ else strOfBytes (formB c)) := by
        rw [I.form_eq, G.strings_Builder_WriteString_eq, bif_t (by rfl), Option.bind_some]
        show (I.former_num (true, strB ⟨#[109, 105, 108, 108, 49]⟩) _).bind _ = _
        rw [I_vu _ _ _ (pre_le hlen), Option.bind_some]
        have := I_fnsB hC hF c.gFns.length 0 (by omega) true _ hlen2 (fun h => by
          have h1 := vu_len c.gFns.length
          simp only [List.length_append, strB_len]
          show 5 + _ ≤ _
          omega)
        have e : strB ⟨#[109, 105, 108, 108, 49]⟩ ++ vu c.gFns.length ++ (c.gFns.drop 0).flatMap fnB = formB c := by unfold formB; simp [List.append_assoc]
        rw [e] at this
        exact this
      rw [eR, eI]
      simp only [Option.bind_some, List.map_id']
      by_cases hb : ((formB c).length : Int) > 200000
      · rw [bif_t (decide_eq_true hb), bif_t (decide_eq_true hb)]; exact ⟨_, rfl, rfl⟩
      · rw [bif_f (decide_eq_false hb), bif_f (decide_eq_false hb)]; exact ⟨_, rfl, rfl⟩
  · have hv : (r.1 == 0) = false := by simpa using h0
    rw [hv]
    exact ⟨_, rfl, rfl⟩
end
theorem fnWriteCode (c : TCode) (hl : c.gFns.length ≤ 9223372036854775807) (hf : ∀ f ∈ c.gFns, FnLen f) : L.FnExactWriteCode c = some true := by
  obtain ⟨q, hq, hs⟩ := sz_code c hl hf
  rw [L.FnExactWriteCode_eq, hq, Option.bind_some]
  by_cases h0 : q < 0
  · rw [bif_t (decide_eq_true h0)]
  · rw [bif_f (decide_eq_false h0)]
    obtain ⟨h1, h2⟩ := hs (by omega)
    obtain ⟨r, a1, a2⟩ := writes_same h1 h2
    simp only [to_code c h1 h2, Option.bind_some, a1, a2, eq_code c h1 h2, bEq_self, Bool.not_true, cond_false]
end Go.KM.W1
