/- Plain laws: numbers in a text. Conditions: none. -/
import Derived.Test.YtgjcobbngimleaaDoorSScan
namespace Go.KM.S1
open Go Go.KM
open Go.KM.Fam (Dn dflt)
open Go.KM.Enc (cells sz mkE glob gany u8)
set_option autoImplicit false
set_option linter.unusedVariables false
set_option linter.unusedSimpArgs false
set_option maxRecDepth 100000
/-- the value of digits behind acc -/
def val (acc : Nat) (l : List UInt8) : Nat := l.foldl (fun a b => a * 10 + (b.toNat - 48)) acc
theorem val_nil (acc : Nat) : val acc [] = acc := List.foldl_nil
theorem val_cons (acc : Nat) (b : UInt8) (l : List UInt8) : val acc (b :: l) = val (acc * 10 + (b.toNat - 48)) l := List.foldl_cons
theorem val_ge : ∀ (l : List UInt8) (acc : Nat), acc ≤ val acc l := by
  intro l
  induction l with
  | nil => intro acc; rw [val_nil]; exact Nat.le_refl _
  | cons b l ih =>
    intro acc
    have h := ih (acc * 10 + (b.toNat - 48))
    rw [val_cons]
    generalize val (acc * 10 + (b.toNat - 48)) l = v at h ⊢
    generalize b.toNat - 48 = d at h
    omega
theorem parse_val (M : Nat) (hM : M < 18446744073709551616) : ∀ (l : List UInt8) (acc : Nat), (∀ b ∈ l, 48 ≤ b.toNat ∧ b.toNat ≤ 57) → acc ≤ M → Lib.parseUintM M acc l = if val acc l ≤ M then .ok (val acc l) else .range := by
  intro l
  induction l with
  | nil => intro acc hl ha; rw [val_nil, if_pos ha]; rfl
  | cons b l ih =>
    intro acc hl ha
    have hb := hl b (by simp)
    have hv := val_ge l (acc * 10 + (b.toNat - 48))
    rw [Lib.parseUintM, if_pos hb, val_cons]
    split
    · rw [if_neg (by omega)]
    · split
      · rw [if_neg (by omega)]
      · exact ih _ (fun c hc => hl c (by simp [hc])) (by omega)
theorem val_big : ∀ (l : List UInt8) (acc : Nat), acc * 10 ^ l.length ≤ val acc l := by
  intro l
  induction l with
  | nil => intro acc; rw [val_nil]; simp
  | cons b l ih =>
    intro acc
    have h := ih (acc * 10 + (b.toNat - 48))
    rw [val_cons, List.length_cons, Nat.pow_succ, Nat.mul_comm _ 10, ← Nat.mul_assoc]
    exact Nat.le_trans (Nat.mul_le_mul_right _ (by omega)) h
/-- the reference's loop: the value, if it is at most the greatest -/
theorem R_num_loop (s : ByteArray) (K : Nat) (t : Int) (Mx : Nat) (hK : K ≤ s.size) (hs : s.size ≤ 12000) (hMx : R.l1Max t = some (Mx : Int)) (h9 : 9 ≤ Mx) (hM : Mx < 18446744073709551616) (hd : ∀ b ∈ s.data.toList.take K, 48 ≤ b.toNat ∧ b.toNat ≤ 57) :
    ∀ (m i : Nat) (n : Nat), i + m = K → n ≤ Mx → R.l1Int.l4084 s K t n i = some (if val n ((s.data.toList.take K).drop i) ≤ Mx then (t, IntKind.i64.wrap (val n ((s.data.toList.take K).drop i)), true) else (0, 0, false)) := by
  intro m
  induction m with
  | zero =>
    intro i n hi hn
    rw [R.l1Int.l4084_eq, bif_f (ge_dec (k := i) (n := K) (by omega)), List.drop_eq_nil_of_le (by rw [List.length_take]; omega)]
    rw [val_nil, if_pos hn]
  | succ m ih =>
    intro i n hi hn
    have hik : i < K := by omega
    have his : i < s.size := by omega
    have hlen : (s.data.toList.take K).length = K := by rw [List.length_take, ← size_data]; omega
    have hdr : (s.data.toList.take K).drop i = (s.data.toList.take K)[i] :: (s.data.toList.take K).drop (i + 1) := List.drop_eq_getElem_cons (by omega)
    have hbb := hd _ (List.getElem_mem (l := s.data.toList.take K) (n := i) (by omega))
    have hbt : bt s (i : Int) = (((s.data.toList.take K)[i]'(by omega)).toNat : Int) := by
      apply bt_get
      rw [List.getElem_take]
      exact List.getElem?_eq_getElem (by rw [← size_data]; omega)
    rw [hdr]
    generalize (s.data.toList.take K)[i]'(by omega) = b at hbb hbt
    rw [val_cons, R.l1Int.l4084_eq, bif_t (lt_dec (k := i) (n := K) hik), bif_t (inB_nat his), hMx, Option.bind_some, hbt]
    have e1 : IntKind.u8.wrap ((b.toNat : Int) - 48) = ((b.toNat - 48 : Nat) : Int) := by rw [w8_eq]; omega
    have e2 : IntKind.u64.wrap ((b.toNat - 48 : Nat) : Int) = ((b.toNat - 48 : Nat) : Int) := wu (by omega) (by omega)
    have e3 : IntKind.u64.wrap ((Mx : Int) - ((b.toNat - 48 : Nat) : Int)) = ((Mx - (b.toNat - 48) : Nat) : Int) := by rw [wu (by omega) (by omega)]; omega
    have e4 : ((Mx - (b.toNat - 48) : Nat) : Int).tdiv 10 = (((Mx - (b.toNat - 48)) / 10 : Nat) : Int) := by rw [Int.tdiv_eq_ediv_of_nonneg (by omega)]; omega
    have e5 : IntKind.u64.wrap (((Mx - (b.toNat - 48)) / 10 : Nat) : Int) = (((Mx - (b.toNat - 48)) / 10 : Nat) : Int) := wu (by omega) (by omega)
    rw [e1, e2, e3, e4, e5]
    have hv := val_ge ((s.data.toList.take K).drop (i + 1)) (n * 10 + (b.toNat - 48))
    by_cases hbig : (Mx - (b.toNat - 48)) / 10 < n
    · rw [bif_t (b := decide ((n : Int) > (((Mx - (b.toNat - 48)) / 10 : Nat) : Int))) (by simp; omega), if_neg (by omega)]
    · have e6 : IntKind.u64.wrap (IntKind.u64.wrap ((n : Int) * 10) + ((b.toNat - 48 : Nat) : Int)) = ((n * 10 + (b.toNat - 48) : Nat) : Int) := by
        rw [wu (n := (n : Int) * 10) (by omega) (by omega), wu (by omega) (by omega)]; omega
      rw [bif_f (b := decide ((n : Int) > (((Mx - (b.toNat - 48)) / 10 : Nat) : Int))) (by simp; omega), e6, wi_succ (by omega)]
      exact ih (i + 1) _ (by omega) (by omega)
/-- digits in front -/
def digs (s : ByteArray) (K : Nat) : Prop := K ≤ s.size ∧ (∀ b ∈ s.data.toList.take K, 48 ≤ b.toNat ∧ b.toNat ≤ 57) ∧ (K < s.size → isD (bt s K) = false)
theorem bt_at (s : ByteArray) (k : Nat) (h : k < s.size) : ∃ b, s.data.toList[k]? = some b ∧ bt s (k : Int) = (b.toNat : Int) := by
  rw [size_data] at h
  exact ⟨s.data.toList[k], List.getElem?_eq_getElem h, bt_get (List.getElem?_eq_getElem h)⟩
/-- what the reference goes on with behind the digits -/
noncomputable def contR (s : ByteArray) (K : Nat) : Option (Int × Int × Bool) :=
  bif decide ((K : Int) < (s.size : Int)) then
   bif inS (K : Int) (s.size : Int) s.size then
    (R.l1Type (s.extract K s.size)).bind fun (r0 : Int) => R.l1Int.l63 s K r0
   else none
  else R.l1Int.l63 s K 10
theorem R_digs (s : ByteArray) (hs : s.size ≤ 12000) : ∀ (m k : Nat), k + m = s.size → (∀ b ∈ s.data.toList.take k, 48 ≤ b.toNat ∧ b.toNat ≤ 57) → ∃ K, digs s K ∧ k ≤ K ∧ R.l1Int.l56 s k = contR s K := by
  intro m
  induction m with
  | zero =>
    intro k hk hd
    refine ⟨k, ⟨by omega, hd, fun h => by omega⟩, Nat.le_refl _, ?_⟩
    rw [R.l1Int.l56_eq, bif_f (ge_dec (k := k) (n := s.size) (by omega))]
    rfl
  | succ m ih =>
    intro k hk hd
    have hkl : k < s.size := by omega
    obtain ⟨b, hb1, hb2⟩ := bt_at s k hkl
    rw [R.l1Int.l56_eq, bif_t (lt_dec hkl), bif_t (inB_nat hkl), R_digit, Option.bind_some]
    cases hD : isD (bt s k) with
    | true =>
      have hb : 48 ≤ b.toNat ∧ b.toNat ≤ 57 := by
        rw [hb2] at hD
        simp only [isD, Bool.and_eq_true, decide_eq_true_eq] at hD
        omega
      obtain ⟨K, h1, h2, h3⟩ := ih (k + 1) (by omega) (fun c hc => by
        rw [List.take_add_one, hb1] at hc
        rcases List.mem_append.1 hc with hc | hc
        · exact hd c hc
        · simp at hc; rw [hc]; exact hb)
      refine ⟨K, h1, by omega, ?_⟩
      rw [cond_true, wi_succ (by omega), h3]
    | false =>
      refine ⟨k, ⟨by omega, hd, fun _ => hD⟩, Nat.le_refl _, ?_⟩
      rw [cond_false]
      unfold contR
      rw [bif_t (lt_dec hkl), bif_t (lt_dec hkl), Int.toNat_natCast]
theorem digs_unique {s : ByteArray} {K K' : Nat} (h : digs s K) (h' : digs s K') : K = K' := by
  have key : ∀ {A B : Nat}, digs s A → digs s B → ¬ A < B := fun {A B} hA hB hlt => by
    have hAs : A < s.size := by have := hB.1; omega
    have h1 := hA.2.2 hAs
    obtain ⟨b, hb1, hb2⟩ := bt_at s A hAs
    have h2 := hB.2.1 b (by
      have : (s.data.toList.take B)[A]? = some b := by rw [List.getElem?_take, if_pos hlt]; exact hb1
      exact List.mem_of_getElem? this)
    rw [hb2] at h1
    simp only [isD, Bool.and_eq_false_iff, decide_eq_false_iff_not] at h1
    omega
  have := key h h'
  have := key h' h
  omega
/-- what the program goes on with behind the digits -/
noncomputable def contI (s : ByteArray) (K : Nat) (z : TToken) : Option (TToken × Bool) :=
  let rest := bif decide ((K : Int) < (s.size : Int)) then
      bif inS (K : Int) (s.size : Int) s.size then
        (I.typeOfWord (s.extract K s.size)).bind fun (r0 : Int) => (I.integer r0).bind fun (r1 : Bool) => bif !r1 then some (⟨0, ⟨#[]⟩, 0, 0, 0⟩, false) else I.readInt.l127 s K r0 z
      else none
    else I.readInt.l127 s K 10 z
  bif decide ((K : Int) > 1) then bif inB 0 s.size then bif bt s 0 == 48 then some (⟨0, ⟨#[]⟩, 0, 0, 0⟩, false) else rest else none else rest
theorem I_digs (s : ByteArray) (z : TToken) (hs : s.size ≤ 12000) : ∀ (m k : Nat), k + m = s.size → (∀ b ∈ s.data.toList.take k, 48 ≤ b.toNat ∧ b.toNat ≤ 57) → ∃ K, digs s K ∧ k ≤ K ∧ I.readInt.l56 s k z = contI s K z := by
  intro m
  induction m with
  | zero =>
    intro k hk hd
    refine ⟨k, ⟨by omega, hd, fun h => by omega⟩, Nat.le_refl _, ?_⟩
    rw [I.readInt.l56_eq, bif_f (ge_dec (k := k) (n := s.size) (by omega))]
    rfl
  | succ m ih =>
    intro k hk hd
    have hkl : k < s.size := by omega
    obtain ⟨b, hb1, hb2⟩ := bt_at s k hkl
    rw [I.readInt.l56_eq, bif_t (lt_dec hkl), bif_t (inB_nat hkl), I_digit, Option.bind_some]
    cases hD : isD (bt s k) with
    | true =>
      have hb : 48 ≤ b.toNat ∧ b.toNat ≤ 57 := by
        rw [hb2] at hD
        simp only [isD, Bool.and_eq_true, decide_eq_true_eq] at hD
        omega
      obtain ⟨K, h1, h2, h3⟩ := ih (k + 1) (by omega) (fun c hc => by
        rw [List.take_add_one, hb1] at hc
        rcases List.mem_append.1 hc with hc | hc
        · exact hd c hc
        · simp at hc; rw [hc]; exact hb)
      refine ⟨K, h1, by omega, ?_⟩
      rw [cond_true, wi_succ (by omega), h3]
    | false =>
      refine ⟨k, ⟨by omega, hd, fun _ => hD⟩, Nat.le_refl _, ?_⟩
      rw [cond_false]
      unfold contI
      simp only [lt_dec hkl, Int.toNat_natCast]
/-- the greatest number of a type -/
theorem max_run (n : Nat) (hn : n ≤ 64) : ∀ (m i : Nat), i + m = n → R.l1Max.l500 n (((2 ^ i - 1 : Nat)) : Int) i = some ((2 ^ n - 1 : Nat) : Int) := by
  intro m
  induction m with
  | zero =>
    intro i hi
    have : i = n := by omega
    subst this
    rw [R.l1Max.l500_eq, bif_f (ge_dec (Nat.le_refl _))]
  | succ m ih =>
    intro i hi
    have hp : (2 : Nat) ^ (i + 1) = 2 * 2 ^ i := by rw [Nat.pow_succ]; omega
    have hle : (2 : Nat) ^ (i + 1) ≤ 2 ^ 64 := Nat.pow_le_pow_right (by omega) (by omega)
    have h64 : (2 : Nat) ^ 64 = 18446744073709551616 := by decide
    have hpos : 1 ≤ (2 : Nat) ^ i := Nat.one_le_two_pow
    rw [R.l1Max.l500_eq, bif_t (lt_dec (k := i) (n := n) (by omega)), wi_succ (by omega)]
    have e : IntKind.u64.wrap (IntKind.u64.wrap (((2 ^ i - 1 : Nat) : Int) * 2) + 1) = ((2 ^ (i + 1) - 1 : Nat) : Int) := by
      rw [hp] at hle ⊢
      generalize (2 : Nat) ^ i = P at hle hpos ⊢
      rw [wu (n := ((P - 1 : Nat) : Int) * 2) (by omega) (by omega), wu (by omega) (by omega)]
      omega
    rw [e]
    exact ih (i + 1) (by omega)
def mxOf (t : Int) : Nat := if t = 3 then 255 else if t = 4 then 65535 else if t = 5 then 4294967295 else if t = 7 then 127 else if t = 8 then 32767 else if t = 9 then 2147483647 else if t = 10 then 9223372036854775807 else 18446744073709551615
theorem R_max (t : Int) (h3 : 3 ≤ t) (h10 : t ≤ 10) : R.l1Max t = some (mxOf t : Int) := by
  rw [R.l1Max_eq, R_bits, R_signed, Option.bind_some, Option.bind_some]
  have key : ∀ n : Nat, n ≤ 64 → R.l1Max.l500 n 0 0 = some ((2 ^ n - 1 : Nat) : Int) := fun n hn => max_run n hn n 0 (by omega)
  have : t = 3 ∨ t = 4 ∨ t = 5 ∨ t = 6 ∨ t = 7 ∨ t = 8 ∨ t = 9 ∨ t = 10 := by omega
  rcases this with rfl | rfl | rfl | rfl | rfl | rfl | rfl | rfl
  · exact key 8 (by omega)
  · exact key 16 (by omega)
  · exact key 32 (by omega)
  · exact key 64 (by omega)
  · exact key 7 (by omega)
  · exact key 15 (by omega)
  · exact key 31 (by omega)
  · exact key 63 (by omega)
theorem pUint_digs (s : ByteArray) (K : Nat) (hK : K ≤ s.size) (h1 : 1 ≤ K) (hd : ∀ b ∈ s.data.toList.take K, 48 ≤ b.toNat ∧ b.toNat ≤ 57) :
    pUint (s.extract 0 K) = if val 0 (s.data.toList.take K) ≤ 18446744073709551615 then ((val 0 (s.data.toList.take K) : Int), true) else (18446744073709551615, false) := by
  have e : (s.extract 0 K).data.toList = s.data.toList.take K := by rw [extract_data, List.drop_zero]
  have hne : s.data.toList.take K ≠ [] := by
    intro h
    have := congrArg List.length h
    rw [List.length_take, ← size_data, List.length_nil] at this
    omega
  unfold pUint
  rw [e]
  have hp := parse_val 18446744073709551615 (by omega) (s.data.toList.take K) 0 hd (by omega)
  have : Lib.parseUintB 64 (s.data.toList.take K) = Lib.parseUintM 18446744073709551615 0 (s.data.toList.take K) := by
    unfold Lib.parseUintB
    rw [if_neg hne]
  rw [this, hp]
  by_cases hv : val 0 (s.data.toList.take K) ≤ 18446744073709551615
  · rw [if_pos hv, if_pos hv]
  · rw [if_neg hv, if_neg hv]
theorem mx_le (t : Int) : mxOf t ≤ 18446744073709551615 := by
  unfold mxOf
  repeat' split
  all_goals omega
theorem mx_ge (t : Int) : 9 ≤ mxOf t := by
  unfold mxOf
  repeat' split
  all_goals omega
theorem I_127 (s : ByteArray) (K : Nat) (t : Int) (z : TToken) (hs : s.size ≤ 12000) (hK : K ≤ s.size) (h1 : 1 ≤ K) (h3 : 3 ≤ t) (h10 : t ≤ 10) (hd : ∀ b ∈ s.data.toList.take K, 48 ≤ b.toNat ∧ b.toNat ≤ 57) :
    I.readInt.l127 s K t z = some (if val 0 (s.data.toList.take K) ≤ mxOf t then (⟨3, ⟨#[]⟩, t, IntKind.i64.wrap (val 0 (s.data.toList.take K)), 0⟩, true) else (⟨0, ⟨#[]⟩, 0, 0, 0⟩, false)) := by
  have hsz : (s.extract 0 K).size = K := by rw [size_cut s 0 K (Nat.zero_le _) hK]; omega
  have hmx := mx_le t
  rw [I.readInt.l127_eq, bif_t (inS_iff.2 ⟨by omega, by omega, by omega⟩), Int.toNat_natCast, hsz, bif_t (by simp; omega), pUint_digs s K hK h1 hd]
  generalize val 0 (s.data.toList.take K) = v
  by_cases hv : v ≤ 18446744073709551615
  · rw [if_pos hv]
    simp only [Bool.not_true, cond_false]
    rw [I_bits, I_signed, Option.bind_some]
    have : t = 3 ∨ t = 4 ∨ t = 5 ∨ t = 6 ∨ t = 7 ∨ t = 8 ∨ t = 9 ∨ t = 10 := by omega
    have fin : ∀ (top : Int) (x : TToken × Bool), top = (mxOf t : Int) → (bif decide ((v : Int) > top) then some ((⟨0, ⟨#[]⟩, 0, 0, 0⟩ : TToken), false) else some x) = some (if v ≤ mxOf t then x else (⟨0, ⟨#[]⟩, 0, 0, 0⟩, false)) := fun top x ht => by
      subst ht
      rw [bif_d]
      by_cases hc : v ≤ mxOf t
      · rw [if_neg (by omega), if_pos hc]
      · rw [if_pos (by omega), if_neg hc]
    rcases this with rfl | rfl | rfl | rfl | rfl | rfl | rfl | rfl <;> exact fin _ _ (by decide)
  · rw [if_neg hv]
    simp only [Bool.not_false, cond_true]
    rw [if_neg (by omega)]
/-- both read a number alike -/
def mapN (r : Int × Int × Bool) : TToken × Bool := if r.2.2 = true then (⟨3, ⟨#[]⟩, r.1, r.2.1, 0⟩, true) else (⟨0, ⟨#[]⟩, 0, 0, 0⟩, false)
theorem fin_same (s : ByteArray) (K : Nat) (t : Int) (z : TToken) (hs : s.size ≤ 12000) (hK : K ≤ s.size) (h1 : 1 ≤ K) (hd : ∀ b ∈ s.data.toList.take K, 48 ≤ b.toNat ∧ b.toNat ≤ 57) (h0 : ¬ (1 < K ∧ bt s 0 = 48)) (h3 : 3 ≤ t) (h10 : t ≤ 10) :
    ∃ r, R.l1Int.l63 s K t = some r ∧ I.readInt.l127 s K t z = some (mapN r) := by
  rw [I_127 s K t z hs hK h1 h3 h10 hd, R.l1Int.l63_eq, R_integer, Option.bind_some, bif_f (by simp [h3, h10])]
  have hmx := mx_le t
  have h9 : 9 ≤ mxOf t := mx_ge t
  have hloop := R_num_loop s K t (mxOf t) hK hs (R_max t h3 h10) h9 (by omega) hd K 0 0 (by omega) (by omega)
  rw [List.drop_zero] at hloop
  have hloop : R.l1Int.l4084 s K t 0 0 = _ := hloop
  have ok : ∃ r, R.l1Int.l4084 s K t 0 0 = some r ∧ some (if val 0 (s.data.toList.take K) ≤ mxOf t then ((⟨3, ⟨#[]⟩, t, IntKind.i64.wrap (val 0 (s.data.toList.take K)), 0⟩ : TToken), true) else (⟨0, ⟨#[]⟩, 0, 0, 0⟩, false)) = some (mapN r) := by
    refine ⟨_, hloop, ?_⟩
    by_cases hv : val 0 (s.data.toList.take K) ≤ mxOf t
    · rw [if_pos hv, if_pos hv]; rfl
    · rw [if_neg hv, if_neg hv]; rfl
  by_cases h20 : 20 < K
  · rw [bif_t (b := decide ((K : Int) > 20)) (by simp; omega)]
    refine ⟨_, rfl, ?_⟩
    have hlt : 0 < s.size := by omega
    obtain ⟨b, hb1, hb2⟩ := bt_at s 0 hlt
    have hb2 : bt s 0 = (b.toNat : Int) := hb2
    have hl : s.data.toList.take K = b :: (s.data.toList.take K).drop 1 := by
      cases hh : s.data.toList.take K with
      | nil =>
        have := congrArg List.length hh
        rw [List.length_take, ← size_data, List.length_nil] at this
        omega
      | cons c l =>
        have : (s.data.toList.take K)[0]? = some b := by rw [List.getElem?_take, if_pos (by omega)]; exact hb1
        rw [hh] at this
        simp at this
        rw [this]; rfl
    have hbd := hd b (by rw [hl]; simp)
    have hb48 : b.toNat ≠ 48 := fun h => h0 ⟨by omega, by rw [hb2, h]; rfl⟩
    have hlen : ((s.data.toList.take K).drop 1).length = K - 1 := by rw [List.length_drop, List.length_take, ← size_data]; omega
    have hbig := val_big ((s.data.toList.take K).drop 1) (b.toNat - 48)
    rw [hlen] at hbig
    have hv : val 0 (s.data.toList.take K) = val (b.toNat - 48) ((s.data.toList.take K).drop 1) := by
      have := val_cons 0 b ((s.data.toList.take K).drop 1)
      rw [← hl] at this
      rw [this]; congr 1; omega
    have hp : (10 : Nat) ^ 20 ≤ 10 ^ (K - 1) := Nat.pow_le_pow_right (by omega) (by omega)
    have e20 : (10 : Nat) ^ 20 = 100000000000000000000 := by decide
    have hge : (10 : Nat) ^ (K - 1) ≤ (b.toNat - 48) * 10 ^ (K - 1) := Nat.le_mul_of_pos_left _ (by omega)
    rw [if_neg (by rw [hv]; omega)]
    rfl
  · rw [bif_f (b := decide ((K : Int) > 20)) (by simp; omega)]
    by_cases hk1 : 1 < K
    · rw [bif_t (b := decide ((K : Int) > 1)) (by simp; omega), bif_t (b := inB 0 s.size) (by simp [inB]; omega), bif_f (b := bt s 0 == 48) (beq_eq_false_iff_ne.2 fun h => h0 ⟨hk1, h⟩)]
      exact ok
    · rw [bif_f (b := decide ((K : Int) > 1)) (by simp; omega)]
      exact ok
theorem num_same (s : ByteArray) (hs : s.size ≤ 12000) (h1 : 1 ≤ s.size) (hf : isD (bt s 0) = true) : ∃ r, R.l1Int s = some r ∧ I.readInt s = some (mapN r) := by
  obtain ⟨K, hK, _, hR⟩ := R_digs s hs s.size 0 (by omega) (by simp)
  obtain ⟨K', hK', _, hI⟩ := I_digs s ⟨0, ⟨#[]⟩, 0, 0, 0⟩ hs s.size 0 (by omega) (by simp)
  have := digs_unique hK hK'
  subst this
  have hR : R.l1Int.l56 s 0 = contR s K := hR
  have hI : I.readInt.l56 s 0 ⟨0, ⟨#[]⟩, 0, 0, 0⟩ = contI s K ⟨0, ⟨#[]⟩, 0, 0, 0⟩ := hI
  rw [R.l1Int_eq, I.readInt_eq, hR, hI]
  obtain ⟨hKs, hd, _⟩ := hK
  have hK1 : 1 ≤ K := by
    rcases Nat.eq_zero_or_pos K with h | h
    · subst h
      have := hK'.2.2 (by omega)
      have h2 : bt s ((0 : Nat) : Int) = bt s 0 := rfl
      rw [h2, hf] at this
      cases this
    · exact h
  have bad : ∀ t : Int, (1 < K ∧ bt s 0 = 48) → ∃ r, R.l1Int.l63 s K t = some r ∧ some ((⟨0, ⟨#[]⟩, 0, 0, 0⟩ : TToken), false) = some (mapN r) := fun t h => by
    rw [R.l1Int.l63_eq, R_integer, Option.bind_some]
    cases (decide (3 ≤ t) && decide (t ≤ 10)) with
    | false => exact ⟨_, rfl, rfl⟩
    | true =>
      rw [bif_f (b := !true) rfl]
      cases decide ((K : Int) > 20) with
      | true => exact ⟨_, rfl, rfl⟩
      | false =>
        rw [cond_false, bif_t (b := decide ((K : Int) > 1)) (by simp; omega), bif_t (b := inB 0 s.size) (by simp [inB]; omega), bif_t (b := bt s 0 == 48) (by simpa using h.2)]
        exact ⟨_, rfl, rfl⟩
  have any : ∀ t : Int, ¬ (3 ≤ t ∧ t ≤ 10) → ∃ r, R.l1Int.l63 s K t = some r ∧ some ((⟨0, ⟨#[]⟩, 0, 0, 0⟩ : TToken), false) = some (mapN r) := fun t h => by
    rw [R.l1Int.l63_eq, R_integer, Option.bind_some, bif_t (by simp; omega)]
    exact ⟨_, rfl, rfl⟩
  unfold contR contI
  by_cases h0 : 1 < K ∧ bt s 0 = 48
  · rw [bif_t (b := decide ((K : Int) > 1)) (by simp; omega), bif_t (b := inB 0 s.size) (by simp [inB]; omega), bif_t (b := bt s 0 == 48) (by simpa using h0.2)]
    cases decide ((K : Int) < (s.size : Int)) with
    | false => exact bad 10 h0
    | true =>
      rw [cond_true, bif_t (inS_iff.2 ⟨by omega, by omega, by omega⟩), R_type, Option.bind_some]
      exact bad _ h0
  · have hrest : ∀ (x y : Option (TToken × Bool)), (bif decide ((K : Int) > 1) then bif inB 0 s.size then bif bt s 0 == 48 then x else y else none else y) = y := fun x y => by
      by_cases hk : 1 < K
      · rw [bif_t (b := decide ((K : Int) > 1)) (by simp; omega), bif_t (b := inB 0 s.size) (by simp [inB]; omega), bif_f (b := bt s 0 == 48) (beq_eq_false_iff_ne.2 fun h => h0 ⟨hk, h⟩)]
      · rw [bif_f (b := decide ((K : Int) > 1)) (by simp; omega)]
    rw [hrest]
    cases decide ((K : Int) < (s.size : Int)) with
    | false => exact fin_same s K 10 _ hs hKs hK1 hd h0 (by omega) (by omega)
    | true =>
      rw [cond_true, cond_true, bif_t (inS_iff.2 ⟨by omega, by omega, by omega⟩), bif_t (inS_iff.2 ⟨by omega, by omega, by omega⟩), R_type, I_type, Option.bind_some, Option.bind_some, I_integer, Option.bind_some]
      by_cases ht : 3 ≤ findT tws 1 (s.extract K s.size) ∧ findT tws 1 (s.extract K s.size) ≤ 10
      · rw [bif_f (by simp [ht.1, ht.2])]
        exact fin_same s K _ _ hs hKs hK1 hd h0 ht.1 ht.2
      · rw [bif_t (by simp; omega)]
        exact any _ ht
end Go.KM.S1
