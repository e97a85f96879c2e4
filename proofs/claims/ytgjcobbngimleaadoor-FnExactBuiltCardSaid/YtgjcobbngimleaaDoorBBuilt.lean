/- Plain laws: the program's Built answers as the reference's. Conditions: none. -/
import Derived.Test.YtgjcobbngimleaaDoorBVal
import Derived.Test.YtgjcobbngimleaaDoorKmDec
namespace Go.KM.B1
open Go Go.KM
open Go.KM.Fam (Dn dflt)
open Go.KM.Enc (cells sz mkE glob gany u8)
set_option autoImplicit false
set_option linter.unusedVariables false
set_option linter.unusedSimpArgs false
set_option maxRecDepth 100000

/-! words -/
def no (w : ByteArray) : TValue × ByteArray := ((⟨0, 0, (⟨#[]⟩ : ByteArray)⟩ : TValue), w)
def wType : ByteArray := ⟨#[116, 121, 112, 101]⟩
def wRange : ByteArray := ⟨#[114, 97, 110, 103, 101]⟩
def wNumber : ByteArray := ⟨#[110, 117, 109, 98, 101, 114]⟩
theorem lt_dec {k n : Nat} (h : k < n) : decide ((k : Int) < (n : Int)) = true := by simp; omega
theorem ge_dec {k n : Nat} (h : n ≤ k) : decide ((k : Int) < (n : Int)) = false := by simp; omega
theorem getD_lt {α : Type} {l : List α} {k : Nat} (h : k < l.length) (z : α) : l.getD k z = l[k] := by
  rw [List.getD_eq_getElem?_getD, List.getElem?_eq_getElem h]; rfl
theorem drop_get {α : Type} {l : List α} {k : Nat} (h : k < l.length) : l.drop k = l[k] :: l.drop (k + 1) := List.drop_eq_getElem_cons h

/-! sizes, copies -/
theorem sz_val (v : TValue) (left : Int) (h0 : 0 ≤ left) (h1 : left ≤ 1048576) (hs : v.gText.size ≤ 9223372036854775807) :
    ∃ r, L.szValue v left = some r ∧ (r = -1 ∨ (0 ≤ r ∧ r ≤ 1048576 ∧ v.gText.size ≤ 1048576)) := by
  rw [L.szValue_eq, wi (by omega) (by omega), bif_d]
  split
  · exact ⟨-1, rfl, .inl rfl⟩
  · exact ⟨_, rfl, .inr ⟨by omega, by omega, by omega⟩⟩
theorem sz_loop (a : List TValue) (hlen : a.length ≤ 1048576) (hs : ∀ x ∈ a, x.gText.size ≤ 9223372036854775807) : ∀ (m k : Nat) (left : Int), k + m = a.length → 0 ≤ left → left ≤ 1048576 →
    ∃ r, L.szValueS.l244 a left k = some r ∧ (0 ≤ r → ∀ x ∈ a.drop k, x.gText.size ≤ 1048576) := by
  intro m
  induction m with
  | zero =>
    intro k left hk h0 h1
    rw [L.szValueS.l244_eq, bif_f (ge_dec (by omega))]
    exact ⟨left, rfl, fun _ x hx => by rw [List.drop_eq_nil_of_le (by omega)] at hx; simp at hx⟩
  | succ m ih =>
    intro k left hk h0 h1
    have hkl : k < a.length := by omega
    rw [L.szValueS.l244_eq, bif_t (lt_dec hkl), bif_t (inB_nat hkl), Int.toNat_natCast, getD_lt hkl]
    obtain ⟨r, hr, hr'⟩ := sz_val a[k] left h0 h1 (hs _ (List.getElem_mem hkl))
    rw [hr, Option.bind_some]
    rcases hr' with rfl | ⟨h2, h3, h4⟩
    · exact ⟨-1, rfl, fun h => by omega⟩
    · rw [bif_f (by simp; omega), wi_succ (by omega)]
      obtain ⟨r', h5, h6⟩ := ih (k + 1) r (by omega) h2 h3
      refine ⟨r', h5, fun h x hx => ?_⟩
      rw [drop_get hkl] at hx
      rcases List.mem_cons.1 hx with rfl | hx
      · exact h4
      · exact h6 h x hx
theorem sz_ok (a : List TValue) (hlen : a.length ≤ 9223372036854775807) (hs : ∀ x ∈ a, x.gText.size ≤ 9223372036854775807) :
    ∃ r, L.szValueS a 1048576 = some r ∧ (0 ≤ r → a.length ≤ 1048576 ∧ ∀ x ∈ a, x.gText.size ≤ 1048576) := by
  rw [L.szValueS_eq, wi (by omega) (by omega), bif_d]
  split
  · exact ⟨-1, rfl, fun h => by omega⟩
  · obtain ⟨r, h1, h2⟩ := sz_loop a (by omega) hs a.length 0 (1048576 - a.length) (by omega) (by omega) (by omega)
    exact ⟨r, h1, fun h => ⟨by omega, by simpa using h2 h⟩⟩
theorem to_loop (a : List TValue) (hlen : a.length ≤ 1048576) : ∀ (m k : Nat) (out : List TValue), k + m = a.length → out.length = a.length → (∀ j, j < k → out[j]? = a[j]?) → L.toValueS.l116 a out k = some a := by
  intro m
  induction m with
  | zero =>
    intro k out hk hl hj
    rw [L.toValueS.l116_eq, bif_f (ge_dec (by omega))]
    congr 1
    apply List.ext_getElem?
    intro j
    by_cases h : j < k
    · exact hj j h
    · rw [List.getElem?_eq_none (by omega), List.getElem?_eq_none (by omega)]
  | succ m ih =>
    intro k out hk hl hj
    have hkl : k < a.length := by omega
    rw [L.toValueS.l116_eq, bif_t (lt_dec hkl), bif_t (inB_nat hkl), Int.toNat_natCast, getD_lt hkl, L.toValue_eq, Option.bind_some, bif_t (inB_nat (by omega)), wi_succ (by omega)]
    refine ih (k + 1) _ (by omega) (by simpa using hl) fun j h => ?_
    by_cases hjk : j = k
    · subst hjk
      rw [List.getElem?_set_self (by omega), List.getElem?_eq_getElem hkl]
    · rw [List.getElem?_set_ne (by omega)]
      exact hj j (by omega)
theorem to_ok (a : List TValue) (hlen : a.length ≤ 1048576) : L.toValueS a = some a := by
  rw [L.toValueS_eq]
  have : (decide (0 ≤ (a.length : Int)) && (a.length : Int) == (a.length : Int) && room a.length 32) = true := by
    simp [room]; omega
  rw [bif_t this]
  exact to_loop a hlen a.length 0 _ (by omega) (by simp) (fun j h => by omega)
theorem eq_val (a : TValue) : L.eqValue a a = some true := by rw [L.eqValue_eq]; simp [bEq_self]
theorem eqs_loop (a : List TValue) (hlen : a.length ≤ 1048576) : ∀ (m k : Nat), k + m = a.length → L.eqValueS.l116 a a k = some true := by
  intro m
  induction m with
  | zero =>
    intro k hk
    rw [L.eqValueS.l116_eq, bif_f (ge_dec (by omega))]
  | succ m ih =>
    intro k hk
    have hkl : k < a.length := by omega
    rw [L.eqValueS.l116_eq, bif_t (lt_dec hkl), bif_t (inB_nat hkl), bif_t (inB_nat hkl), eq_val, Option.bind_some, wi_succ (by omega)]
    exact ih (k + 1) (by omega)
theorem eqs_ok (a : List TValue) (hlen : a.length ≤ 1048576) : L.eqValueS a a = some true := by
  rw [L.eqValueS_eq]
  simp only [bne_self_eq_false, cond_false]
  exact eqs_loop a hlen a.length 0 (by omega)

/-! types -/
def okT (p : Int × Int) : Bool := decide (p.1 = p.2) || (decide (p.2 = 0) && (decide (3 ≤ p.1) && decide (p.1 ≤ 10)))
theorem R_types_loop (ks want : List Int) (g : Int) (hl : ks.length = want.length) (hb : ks.length ≤ 1048576) : ∀ (m k : Nat), k + m = ks.length →
    R.l3Built.l244 ks want g k = some (if ((ks.zip want).drop k).all okT = true then g else 0) := by
  intro m
  induction m with
  | zero =>
    intro k hk
    rw [R.l3Built.l244_eq, bif_f (ge_dec (by omega)), List.drop_eq_nil_of_le (by simp; omega)]
    rfl
  | succ m ih =>
    intro k hk
    have hk1 : k < ks.length := by omega
    have hk2 : k < want.length := by omega
    have hk3 : k < (ks.zip want).length := by simp; omega
    rw [R.l3Built.l244_eq, bif_t (lt_dec hk2), bif_t (inB_nat hk1), bif_t (inB_nat hk2), Int.toNat_natCast, getD_lt hk1, getD_lt hk2, bif_t (inB_nat hk2), bif_t (inB_nat hk1), wi_succ (by omega), ih (k + 1) (by omega), R_integer, Option.bind_some,
      drop_get hk3, List.all_cons, List.getElem_zip]
    generalize ks[k] = x
    generalize want[k] = y
    generalize ((ks.zip want).drop (k + 1)).all okT = z
    by_cases h1 : x = y
    · subst h1; simp [okT]
    · by_cases h2 : y = 0
      · subst h2
        by_cases h3 : 3 ≤ x <;> by_cases h4 : x ≤ 10 <;> simp [okT, bif_if, h1, h3, h4]
      · simp [okT, bif_if, h1, h2]
def okI (p : Int × Int) : Bool := decide (p.1 = p.2) || (decide (p.2 = -1) && (decide (3 ≤ p.1) && decide (p.1 ≤ 10)))
theorem I_types_loop (op : Int) (ks want : List Int) (hl : ks.length = want.length) (hb : ks.length ≤ 1048576) : ∀ (m k : Nat), k + m = ks.length →
    I.builtType.l500 op want ks ks.length k = if ((ks.zip want).drop k).all okI = true then I.builtType.l500 op want ks ks.length ks.length else some 0 := by
  intro m
  induction m with
  | zero =>
    intro k hk
    have : k = ks.length := by omega
    subst this
    rw [List.drop_eq_nil_of_le (by simp; omega)]
    rfl
  | succ m ih =>
    intro k hk
    have hk1 : k < ks.length := by omega
    have hk2 : k < want.length := by omega
    have hk3 : k < (ks.zip want).length := by simp; omega
    rw [I.builtType.l500_eq, bif_t (lt_dec hk1), bif_t (inB_nat hk1), bif_t (inB_nat hk2), Int.toNat_natCast, getD_lt hk1, getD_lt hk2, bif_t (inB_nat hk2), wi_succ (by omega), ih (k + 1) (by omega), I_integer, Option.bind_some,
      drop_get hk3, List.all_cons, List.getElem_zip]
    generalize ks[k] = x
    generalize want[k] = y
    generalize ((ks.zip want).drop (k + 1)).all okI = z
    by_cases h1 : x = y
    · subst h1
      by_cases h2 : x = -1
      · subst h2; simp [okI, bif_if]
      · simp [okI, bif_if, h2]
    · have h1' : ¬ y = x := fun h => h1 h.symm
      by_cases h2 : y = -1
      · subst h2
        by_cases h3 : 3 ≤ x <;> by_cases h4 : x ≤ 10 <;> simp [okI, bif_if, h1, h1', h3, h4]
      · simp [okI, bif_if, h1, h1', h2]
theorem wants (op : Int) (h0 : 6 ≤ op) (h1 : op ≤ 12) : op = 6 ∨ op = 7 ∨ op = 8 ∨ op = 9 ∨ op = 10 ∨ op = 11 ∨ op = 12 := by omega
/-- what Built asks for: the reference's words -/
def wantR (op : Int) : List Int := if op = 6 then [2] else if op = 7 then [2, 10] else if op = 8 then [2, 10, 10] else if op = 9 then [2, 2] else if op = 10 then [3] else if op = 11 then [0] else [2]
def gives (op : Int) : Int := if op = 6 then 10 else if op = 7 then 3 else if op = 8 then 2 else if op = 9 then 10 else if op = 10 then 2 else if op = 11 then 2 else 10
def wantI (op : Int) : List Int := if op = 11 then [-1] else wantR op
theorem R_wants (op : Int) (h0 : 6 ≤ op) (h1 : op ≤ 12) : R.l3Wants op = some (wantR op, gives op) := by
  rw [R.l3Wants_eq]
  rcases wants op h0 h1 with rfl | rfl | rfl | rfl | rfl | rfl | rfl <;> simp [R.l3Wants.l53_eq, R.l3Wants.l13823_eq, wantR, gives]
theorem R_type (op : Int) (ks : List Int) (h0 : 6 ≤ op) (h1 : op ≤ 12) (hb : ks.length ≤ 1048576) :
    R.l3Built op ks = some (if ks.length = (wantR op).length ∧ (ks.zip (wantR op)).all okT = true then gives op else 0) := by
  rw [R.l3Built_eq, R_wants op h0 h1, Option.bind_some]
  by_cases hl : ks.length = (wantR op).length
  · rw [bif_f (by simp; omega)]
    have := R_types_loop ks (wantR op) (gives op) hl hb ks.length 0 (by omega)
    simp only [Int.natCast_zero, List.drop_zero] at this
    have h : R.l3Built.l244 ks (wantR op) (gives op) 0 = _ := this
    rw [h]
    by_cases hz : (ks.zip (wantR op)).all okT = true <;> simp [hl, hz]
  · rw [bif_t (by simp; omega)]
    simp [hl]
theorem I_type (op : Int) (ks : List Int) (h0 : 6 ≤ op) (h1 : op ≤ 12) (hb : ks.length ≤ 1048576) :
    I.builtType op ks = some (if ks.length = (wantI op).length ∧ (ks.zip (wantI op)).all okI = true then gives op else 0) := by
  have hend : ∀ (w : List Int), I.builtType.l500 op w ks ks.length ks.length = some (gives op) := by
    intro w
    rw [I.builtType.l500_eq, bif_f (ge_dec (Nat.le_refl _))]
    rcases wants op h0 h1 with rfl | rfl | rfl | rfl | rfl | rfl | rfl <;> rfl
  have hw : [[], [2], [2], [2], [2, 2], [], [2], [2, 10], [2, 10, 10], [2, 2], [3], [-1], [2]].getD op.toNat [] = wantI op := by
    rcases wants op h0 h1 with rfl | rfl | rfl | rfl | rfl | rfl | rfl <;> rfl
  rw [I.builtType_eq, bif_f (by simp; omega), bif_f (by simp; omega), bif_t (by simp [inB]; omega), hw]
  by_cases hl : ks.length = (wantI op).length
  · rw [bif_f (by simp; omega)]
    have := I_types_loop op ks (wantI op) hl hb ks.length 0 (by omega)
    simp only [Int.natCast_zero, List.drop_zero] at this
    have h : I.builtType.l500 op (wantI op) ks ks.length 0 = _ := this
    rw [h, hend]
    by_cases hz : (ks.zip (wantI op)).all okI = true <;> simp [hl, hz]
  · rw [bif_t (by simp; omega)]
    simp [hl]
/-- types of valid values: both ask for the same -/
theorem same_types (op : Int) (ks : List Int) (h0 : 6 ≤ op) (h1 : op ≤ 12) (hk : ∀ x ∈ ks, 1 ≤ x) :
    (ks.length = (wantR op).length ∧ (ks.zip (wantR op)).all okT = true) ↔ (ks.length = (wantI op).length ∧ (ks.zip (wantI op)).all okI = true) := by
  match ks, hk with
  | [], _ => rcases wants op h0 h1 with rfl | rfl | rfl | rfl | rfl | rfl | rfl <;> simp [wantR, wantI]
  | [a], hk =>
    have := hk a (by simp)
    rcases wants op h0 h1 with rfl | rfl | rfl | rfl | rfl | rfl | rfl <;> simp [wantR, wantI, okT, okI] <;> omega
  | [a, b], hk => rcases wants op h0 h1 with rfl | rfl | rfl | rfl | rfl | rfl | rfl <;> simp [wantR, wantI, okT, okI]
  | [a, b, c], hk => rcases wants op h0 h1 with rfl | rfl | rfl | rfl | rfl | rfl | rfl <;> simp [wantR, wantI, okT, okI]
  | a :: b :: c :: d :: r, hk => rcases wants op h0 h1 with rfl | rfl | rfl | rfl | rfl | rfl | rfl <;> simp [wantR, wantI]

/-! the values one by one -/
theorem R_vals (op : Int) (args : List TValue) (t4 : TValue) (hb : args.length ≤ 1048576) : ∀ (m k : Nat) (ts : List Int), k + m = args.length → ts.length = k →
    R.Built.l244 op args ts k t4 = if (args.drop k).all valid = true then R.Built.l244 op args (ts ++ (args.drop k).map TValue.gType) args.length t4 else some (no wType) := by
  intro m
  induction m with
  | zero =>
    intro k ts hk ht
    have : k = args.length := by omega
    subst this
    rw [List.drop_eq_nil_of_le (Nat.le_refl _)]
    simp
  | succ m ih =>
    intro k ts hk ht
    have hkl : k < args.length := by omega
    rw [R.Built.l244_eq, bif_t (lt_dec hkl), bif_t (inB_nat hkl), Int.toNat_natCast, getD_lt hkl, R_valid, Option.bind_some, bif_t (inB_nat hkl), bif_t (room_ok (by simp; omega)), wi_succ (by omega), ih (k + 1) _ (by omega) (by simp [ht]), drop_get hkl]
    cases hv : valid args[k] with
    | false => simp only [hv, Bool.not_false, cond_true, List.all_cons, Bool.false_and, Bool.false_eq_true, if_false]; rfl
    | true => simp only [hv, Bool.not_true, cond_false, List.all_cons, Bool.true_and, List.map_cons, List.append_assoc, List.cons_append, List.nil_append]
theorem I_vals (op : Int) (args : List TValue) (t4 : TValue) (hb : args.length ≤ 1048576) : ∀ (m k : Nat) (ts : List Int), k + m = args.length → ts.length = k →
    I.Built.l116 op args ts args args.length k t4 = if (args.drop k).all valid = true then I.Built.l116 op args (ts ++ (args.drop k).map TValue.gType) args args.length args.length t4 else some (no wType) := by
  intro m
  induction m with
  | zero =>
    intro k ts hk ht
    have : k = args.length := by omega
    subst this
    rw [List.drop_eq_nil_of_le (Nat.le_refl _)]
    simp
  | succ m ih =>
    intro k ts hk ht
    have hkl : k < args.length := by omega
    rw [I.Built.l116_eq, bif_t (lt_dec hkl), bif_t (inB_nat hkl), Int.toNat_natCast, getD_lt hkl, I_valid, Option.bind_some, bif_t (room_ok (by simp; omega)), wi_succ (by omega), ih (k + 1) _ (by omega) (by simp [ht]), drop_get hkl]
    cases hv : valid args[k] with
    | false => simp only [hv, Bool.not_false, cond_true, List.all_cons, Bool.false_and, Bool.false_eq_true, if_false]; rfl
    | true => simp only [hv, Bool.not_true, cond_false, List.all_cons, Bool.true_and, List.map_cons, List.append_assoc, List.cons_append, List.nil_append]
theorem valid_type {v : TValue} (h : valid v = true) : 1 ≤ v.gType := by
  unfold valid at h
  split at h
  · omega
  · split at h
    · omega
    · simp only [Bool.and_eq_true, decide_eq_true_eq] at h; omega
theorem valid_text {v : TValue} (h : valid v = true) (ht : v.gType = 2) : v.gN = 0 ∧ v.gText.size ≤ 3000 := by
  unfold valid at h
  rw [if_neg (by omega), if_pos ht] at h
  simp only [Bool.and_eq_true, decide_eq_true_eq] at h
  exact ⟨h.1, by omega⟩
theorem inS_true {i j : Int} {n : Nat} (h0 : 0 ≤ i) (h1 : i ≤ j) (h2 : j ≤ n) : inS i j n = true := inS_iff.2 ⟨h0, h1, h2⟩

/-! the first place -/
theorem find_loop (s x : ByteArray) (hs : s.size ≤ 1048576) (hx : x.size ≤ 1048576) : ∀ (m k : Nat), k + m = s.size + 1 →
    R.l4Find.l52 s x k = some (if Lib.index (s.data.toList.drop k) x.data.toList = -1 ∨ s.size < k then -1 else Lib.index (s.data.toList.drop k) x.data.toList + k) := by
  intro m
  induction m with
  | zero =>
    intro k hk
    rw [R.l4Find.l52_eq, wi (by omega) (by omega), bif_f (by simp; omega), if_pos (by right; omega)]
  | succ m ih =>
    intro k hk
    rw [R.l4Find.l52_eq, wi (by omega) (by omega), wi (by omega) (by omega)]
    by_cases hfit : k + x.size ≤ s.size
    · rw [bif_t (by simp; omega), bif_t (inS_true (by omega) (by omega) (by omega))]
      have he : bEq (s.extract (k : Int).toNat ((k : Int) + (x.size : Int)).toNat) x = x.data.toList.isPrefixOf (s.data.toList.drop k) := by
        rw [bEq_dec]
        have h1 : ((k : Int) + (x.size : Int)).toNat = k + x.size := by omega
        rw [h1, Int.toNat_natCast]
        have h2 : (s.extract k (k + x.size)).data.toList = (s.data.toList.drop k).take x.data.toList.length := by
          rw [extract_data, List.drop_take, size_data x, Nat.add_sub_cancel_left]
        cases hp : x.data.toList.isPrefixOf (s.data.toList.drop k) with
        | true =>
          have h3 := (List.isPrefixOf_iff_prefix.1 hp)
          simp only [decide_eq_true_eq]
          apply ba_ext
          rw [h2]
          exact (List.prefix_iff_eq_take.1 h3).symm
        | false =>
          simp only [decide_eq_false_iff_not]
          intro h3
          have h4 : x.data.toList = (s.data.toList.drop k).take x.data.toList.length := by rw [← h2, h3]
          have h5 := List.prefix_iff_eq_take.2 h4
          rw [List.isPrefixOf_iff_prefix.2 h5] at hp
          simp at hp
      rw [he]
      by_cases hks : k < s.size
      · obtain ⟨b, hd, _⟩ := drop_bt hks
        rw [show ((k : Int) + 1) = ((k + 1 : Nat) : Int) by omega, ih (k + 1) (by omega), hd]
        rw [Lib.index]
        rw [← hd]
        cases hp : x.data.toList.isPrefixOf (s.data.toList.drop k) with
        | true => rw [cond_true, if_pos rfl, if_neg (by omega)]; simp
        | false =>
          rw [cond_false]
          simp only [Bool.false_eq_true, if_false, beq_iff_eq]
          by_cases hi : Lib.index (s.data.toList.drop (k + 1)) x.data.toList = -1
          · simp [hi]
          · have := Lib.index_ge (s.data.toList.drop (k + 1)) x.data.toList
            rw [if_neg (by omega), if_neg hi, if_neg (by omega)]
            congr 1; omega
      · have hk' : k = s.size := by omega
        have hx0 : x.size = 0 := by omega
        have hxn : x.data.toList = [] := List.eq_nil_of_length_eq_zero (by rw [← size_data]; exact hx0)
        have hdn : s.data.toList.drop k = [] := List.drop_eq_nil_of_le (by rw [← size_data]; omega)
        rw [hdn, hxn]
        simp [Lib.index, hk']
    · rw [bif_f (by simp; omega)]
      have := index_short (s.data.toList.drop k) x.data.toList (by rw [List.length_drop, ← size_data, ← size_data]; omega)
      rw [if_pos (.inl this)]
theorem find_ok (s x : ByteArray) (hs : s.size ≤ 1048576) (hx : x.size ≤ 1048576) : R.l4Find s x = some (Lib.index s.data.toList x.data.toList) := by
  have := find_loop s x hs hx (s.size + 1) 0 (by omega)
  simp only [List.drop_zero, Int.natCast_zero, Int.add_zero] at this
  rw [R.l4Find_eq]
  have h : R.l4Find.l52 s x 0 = _ := this
  rw [h]
  congr 1
  by_cases hi : Lib.index s.data.toList x.data.toList = -1
  · simp [hi]
  · simp [hi]

/-! decimals -/
theorem u8_digit (n : Int) (h0 : 0 ≤ n) (h1 : n < 10) : strOfBytes (List.map (fun (x : Int) => x) [IntKind.u8.wrap (IntKind.u64.wrap (48 + n))]) = ⟨[UInt8.ofNat (48 + n.toNat)].toArray⟩ := by
  apply ba_ext
  rw [strOf_data, w8_eq, wu_eq]
  have : ((48 + n) % 18446744073709551616 % 256).toNat = 48 + n.toNat := by omega
  rw [List.map_map]
  show [UInt8.ofNat ((48 + n) % 18446744073709551616 % 256).toNat] = _
  rw [this]
theorem dec_ok (u : Nat) : u < 18446744073709551616 → R.l1Decimal u = some ⟨(Lib.decDigits u).toArray⟩ := by
  induction u using Nat.strongRecOn with
  | ind u ih =>
    intro hu
    rw [R.l1Decimal_eq]
    by_cases h : u < 10
    · rw [bif_t (by simp; omega), u8_digit u (by omega) (by omega), dec_small h, Int.toNat_natCast]
    · have h1 : (u : Int).tdiv 10 = ((u / 10 : Nat) : Int) := by rw [Int.tdiv_eq_ediv_of_nonneg (by omega)]; omega
      have h2 : (u : Int).tmod 10 = ((u % 10 : Nat) : Int) := by rw [Int.tmod_eq_emod_of_nonneg (by omega)]; omega
      rw [bif_f (by simp; omega), h1, h2, wu (by omega) (by omega), ih (u / 10) (by omega) (by omega), Option.bind_some, u8_digit _ (by omega) (by omega), Int.toNat_natCast]
      have hl := dec_len20 (u := u / 10) (by omega)
      rw [bif_t (by
        simp only [decide_eq_true_eq]
        rw [size_data, size_data]
        simp only [List.toList_toArray, List.length_singleton]
        have : (2 : Nat) ^ 62 = 4611686018427387904 := by decide
        omega)]
      congr 1
      apply ba_ext
      rw [ba_app]
      simp only [List.toList_toArray]
      rw [← dec_big h]
theorem itoa_len {v : Int} (h : I64 v) : (Lib.itoa v).length ≤ 20 := by
  obtain ⟨h0, h1⟩ := h
  unfold Lib.itoa
  split
  · have := dec_len 18 v.natAbs (by omega)
    simp; omega
  · have := dec_len 18 v.toNat (by omega)
    omega
theorem dec4 {t n : Int} (h : I64 n) (h3 : 3 ≤ t) (h10 : t ≤ 10) : R.l4Dec t n = some ⟨(if 7 ≤ t then Lib.itoa n else Lib.decDigits (IntKind.u64.wrap n).toNat).toArray⟩ := by
  have hw := u64_wrap n
  have e0 : IntKind.u64.wrap n = ((IntKind.u64.wrap n).toNat : Int) := by have := hw.1; omega
  rw [R.l4Dec_eq, R.l4Abs_eq, R_signed, Option.bind_some]
  by_cases h7 : 7 ≤ t
  · rw [if_pos h7, bif_t (by simp; omega)]
    obtain ⟨hn0, hn1⟩ := h
    by_cases hn : n < 0
    · have e : IntKind.u64.wrap (0 - IntKind.u64.wrap n) = ((n.natAbs : Nat) : Int) := by rw [wu_eq, wu_eq]; omega
      rw [bif_t (by simpa using hn), Option.bind_some]
      simp only [cond_true]
      rw [e, dec_ok _ (by omega), Option.bind_some]
      have hl := dec_len20 (u := n.natAbs) (by omega)
      rw [bif_t (by
        simp only [decide_eq_true_eq]
        rw [size_data, size_data]
        simp only [List.toList_toArray, List.length_cons, List.length_nil]
        have : (2 : Nat) ^ 62 = 4611686018427387904 := by decide
        omega)]
      congr 1
      apply ba_ext
      rw [ba_app]
      unfold Lib.itoa
      rw [if_pos hn]
      rfl
    · have e : IntKind.u64.wrap n = ((n.toNat : Nat) : Int) := by rw [wu_eq]; omega
      rw [bif_f (by simpa using hn), Option.bind_some]
      simp only [cond_false]
      rw [e, dec_ok _ (by omega), Option.bind_some]
      congr 1
      unfold Lib.itoa
      rw [if_neg hn]
  · rw [if_neg h7, bif_f (by simp; omega), Option.bind_some]
    simp only [cond_false]
    rw [e0, dec_ok _ (by have := hw.2; omega), Option.bind_some]
    congr 3
theorem dec10 {n : Int} (h : I64 n) : R.l4Dec 10 n = some ⟨(Lib.itoa n).toArray⟩ := by
  rw [dec4 h (by omega) (by omega), if_pos (by omega)]
theorem I_dec {v : TValue} (h : I64 v.gN) (h3 : 3 ≤ v.gType) (h10 : v.gType ≤ 10) : I.decimal v = some ⟨(if 7 ≤ v.gType then Lib.itoa v.gN else Lib.decDigits (IntKind.u64.wrap v.gN).toNat).toArray⟩ := by
  have hw := u64_wrap v.gN
  rw [I.decimal_eq, I_signed, Option.bind_some]
  by_cases h7 : 7 ≤ v.gType
  · rw [if_pos h7, bif_t (by simpa using h7), bif_t (by have := h.1; have := h.2; simp; omega)]
  · rw [if_neg h7, bif_f (by simpa using h7), bif_t (by have := hw.1; have := hw.2; simp; omega)]

/-! numbers read -/
theorem rd_loop (s : ByteArray) (hs : s.size ≤ 3000) : ∀ (m k : Nat) (n : Int), k + m = s.size → R.l4Parse.l244 s n k = R.l4Parse.l244 s ((s.data.toList.drop k).foldl stepD n) s.size := by
  intro m
  induction m with
  | zero =>
    intro k n hk
    have : k = s.size := by omega
    subst this
    rw [List.drop_eq_nil_of_le (by rw [← size_data]; omega)]
    rfl
  | succ m ih =>
    intro k n hk
    have hkl : k < s.size := by omega
    obtain ⟨b, hd, hb⟩ := drop_bt hkl
    rw [R.l4Parse.l244_eq, bif_t (lt_dec hkl), bif_t (inB_nat hkl), wi_succ (by omega), ih (k + 1) _ (by omega), hd, List.foldl_cons, hb]
    rfl
theorem rd_loop2 (s : ByteArray) (hs : s.size ≤ 3000) : ∀ (m k : Nat) (n : Int), k + m = s.size → R.l4Parse.l8020 s n k = R.l4Parse.l8020 s ((s.data.toList.drop k).foldl stepD n) s.size := by
  intro m
  induction m with
  | zero =>
    intro k n hk
    have : k = s.size := by omega
    subst this
    rw [List.drop_eq_nil_of_le (by rw [← size_data]; omega)]
    rfl
  | succ m ih =>
    intro k n hk
    have hkl : k < s.size := by omega
    obtain ⟨b, hd, hb⟩ := drop_bt hkl
    rw [R.l4Parse.l8020_eq, bif_t (lt_dec hkl), bif_t (inB_nat hkl), wi_succ (by omega), ih (k + 1) _ (by omega), hd, List.foldl_cons, hb]
    rfl
/-- what the reference reads: a number, and whether it is written so -/
theorem rd_ok (s : ByteArray) (hs : s.size ≤ 3000) : ∃ r, R.l4Parse s = some r ∧ (r.2 = true → I64 r.1 ∧ s = ⟨(Lib.itoa r.1).toArray⟩) ∧ (∀ v, I64 v → s = ⟨(Lib.itoa v).toArray⟩ → r = (v, true)) := by
  by_cases h0 : s.size < 1
  · refine ⟨(0, false), ?_, fun h => by simp at h, fun v hv he => ?_⟩
    · rw [R.l4Parse_eq, bif_t (by simp; omega)]
    · exfalso
      have h1 : s.data.toList = Lib.itoa v := by rw [he]
      have h2 : (Lib.itoa v).length = 0 := by rw [← h1, ← size_data]; omega
      unfold Lib.itoa at h2
      split at h2
      · simp at h2
      · exact dec_ne _ (List.eq_nil_of_length_eq_zero h2)
  · by_cases h20 : 20 < s.size
    · refine ⟨(0, false), ?_, fun h => by simp at h, fun v hv he => ?_⟩
      · rw [R.l4Parse_eq, bif_f (by simp; omega), bif_t (by simp; omega)]
      · exfalso
        have h1 : s.data.toList = Lib.itoa v := by rw [he]
        have := itoa_len hv
        rw [← h1, ← size_data] at this
        omega
    · have hL : R.l4Parse s = R.l4Parse.l244 s (s.data.toList.foldl stepD 0) s.size := by
        rw [R.l4Parse_eq, bif_f (by simp; omega), bif_f (by simp; omega)]
        exact rd_loop s hs s.size 0 0 (by omega)
      obtain ⟨b, hd, hb⟩ := drop_bt (s := s) (k := 0) (by omega)
      rw [List.drop_zero] at hd
      have hb' : bt s 0 = (b.toNat : Int) := hb
      rw [hL, R.l4Parse.l244_eq, bif_f (ge_dec (Nat.le_refl _)), bif_t (by simp [inB]; omega), hb']
      by_cases h45 : b.toNat = 45
      · rw [bif_t (by simp; omega)]
        have h2 : R.l4Parse.l8020 s 0 1 = _ := rd_loop2 s hs (s.size - 1) 1 0 (by omega)
        rw [h2, R.l4Parse.l8020_eq, bif_f (ge_dec (Nat.le_refl _)), dec10 (i64_wrap _), Option.bind_some]
        refine ⟨_, rfl, fun h => ⟨i64_wrap _, (bEq_iff.1 h).symm⟩, fun v hv he => ?_⟩
        have h1 : s.data.toList = Lib.itoa v := by rw [he]
        have hv0 : v < 0 := by
          apply Classical.byContradiction
          intro hn
          unfold Lib.itoa at h1
          rw [if_neg hn] at h1
          have := dec_digit v.toNat b (by rw [← h1, hd]; simp)
          omega
        have h3 : s.data.toList.drop 1 = Lib.decDigits v.natAbs := by
          rw [h1]; unfold Lib.itoa; rw [if_pos hv0]; rfl
        have h4 : IntKind.i64.wrap (IntKind.u64.wrap (0 - (s.data.toList.drop 1).foldl stepD 0)) = v := by
          obtain ⟨_, _⟩ := hv
          rw [h3, foldD_dec _ (by omega), wu_eq, IntKind.wrap_i64]
          omega
        rw [h4, he, bEq_self]
      · rw [bif_f (by simp; omega), dec10 (i64_wrap _), Option.bind_some]
        refine ⟨_, rfl, fun h => ⟨i64_wrap _, (bEq_iff.1 h).symm⟩, fun v hv he => ?_⟩
        have h1 : s.data.toList = Lib.itoa v := by rw [he]
        have hv0 : ¬ v < 0 := by
          intro hn
          unfold Lib.itoa at h1
          rw [if_pos hn, hd] at h1
          injection h1 with h1 _
          rw [h1] at h45
          exact h45 rfl
        have h3 : s.data.toList = Lib.decDigits v.toNat := by
          rw [h1]; unfold Lib.itoa; rw [if_neg hv0]
        have h4 : IntKind.i64.wrap (s.data.toList.foldl stepD 0) = v := by
          obtain ⟨_, _⟩ := hv
          rw [h3, foldD_dec _ (by omega), IntKind.wrap_i64]
          omega
        rw [h4, he, bEq_self]
/-- the number that the program reads -/
theorem rd_I (s : ByteArray) : ((pInt s).2 = true → I64 (pInt s).1) ∧ (∀ v, I64 v → s = ⟨(Lib.itoa v).toArray⟩ → pInt s = (v, true)) := by
  refine ⟨fun h => ?_, fun v hv he => ?_⟩
  · unfold pInt at h ⊢
    split at h
    · rename_i v hp; exact parse_range hp
    · simp at h
    · simp at h
  · have hp := parse_itoa hv
    unfold pInt
    rw [he]
    simp only [List.toList_toArray]
    rw [hp]

/-! both -/
def okA (v : TValue) : Prop := I64 v.gN ∧ v.gText.size ≤ 1048576
theorem R_tail (op : Int) (args : List TValue) (h0 : 6 ≤ op) (h1 : op ≤ 12) (hb : args.length ≤ 3) :
    R.Built op args = if args.all valid = true then R.Built.l244 op args (args.map TValue.gType) args.length ⟨0, 0, ⟨#[]⟩⟩ else some (no wType) := by
  rw [R.Built_eq, bif_f (by simp; omega), bif_f (by simp; omega), bif_f (by simp; omega)]
  have := R_vals op args ⟨0, 0, ⟨#[]⟩⟩ (by omega) args.length 0 [] (by omega) rfl
  simp only [List.drop_zero, List.nil_append] at this
  exact this
theorem I_tail (op : Int) (args : List TValue) (hb : args.length ≤ 1048576) :
    I.Built op args = if args.all valid = true then I.Built.l116 op args (args.map TValue.gType) args args.length args.length ⟨0, 0, ⟨#[]⟩⟩ else some (no wType) := by
  rw [I.Built_eq]
  have := I_vals op args ⟨0, 0, ⟨#[]⟩⟩ (by omega) args.length 0 [] (by omega) rfl
  simp only [List.drop_zero, List.nil_append] at this
  exact this
theorem I_none (op : Int) (args : List TValue) (hb : args.length ≤ 1048576) (h : op < 6 ∨ 12 < op ∨ 3 < args.length) : I.Built op args = some (no wType) := by
  rw [I_tail op args hb]
  split
  · rw [I.Built.l116_eq, bif_f (ge_dec (Nat.le_refl _))]
    by_cases h5 : op ≤ 5
    · rw [bif_t (by simpa using h5)]; rfl
    · rw [bif_f (by simpa using h5)]
      by_cases h12 : 12 < op
      · rw [I.builtType_eq, bif_f (by simp; omega), bif_t (by simp; omega)]; rfl
      · rw [I_type op _ (by omega) (by omega) (by simpa using hb), if_neg, Option.bind_some]
        · rfl
        · rintro ⟨h2, _⟩
          rw [List.length_map] at h2
          have : (wantI op).length ≤ 3 := by
            rcases wants op (by omega) (by omega) with rfl | rfl | rfl | rfl | rfl | rfl | rfl <;> decide
          omega
  · rfl
theorem R_none (op : Int) (args : List TValue) (h : op < 6 ∨ 12 < op ∨ 3 < args.length) : R.Built op args = some (no wType) := by
  rw [R.Built_eq]
  by_cases h5 : op < 6
  · rw [bif_t (by simpa using h5)]; rfl
  · rw [bif_f (by simpa using h5)]
    by_cases h12 : 12 < op
    · rw [bif_t (by simpa using h12)]; rfl
    · rw [bif_f (by simpa using h12), bif_t (by simp; omega)]; rfl
theorem gives_ne (op : Int) (h0 : 6 ≤ op) (h1 : op ≤ 12) : (gives op == 0) = false := by
  rcases wants op h0 h1 with rfl | rfl | rfl | rfl | rfl | rfl | rfl <;> decide
theorem map1 {l : List TValue} {a : Int} (h : l.map TValue.gType = [a]) : ∃ x, l = [x] ∧ x.gType = a := by
  match l, h with
  | [x], h => exact ⟨x, rfl, by simpa using h⟩
theorem map2 {l : List TValue} {a b : Int} (h : l.map TValue.gType = [a, b]) : ∃ x y, l = [x, y] ∧ x.gType = a ∧ y.gType = b := by
  match l, h with
  | [x, y], h => simp at h; exact ⟨x, y, rfl, h.1, h.2⟩
theorem map3 {l : List TValue} {a b c : Int} (h : l.map TValue.gType = [a, b, c]) : ∃ x y z, l = [x, y, z] ∧ x.gType = a ∧ y.gType = b ∧ z.gType = c := by
  match l, h with
  | [x, y, z], h => simp at h; exact ⟨x, y, z, rfl, h.1, h.2⟩
theorem built_same (op : Int) (args : List TValue) (hb : args.length ≤ 1048576) (ha : ∀ v ∈ args, okA v) : ∃ r, R.Built op args = some r ∧ I.Built op args = some r := by
  by_cases hout : op < 6 ∨ 12 < op ∨ 3 < args.length
  · exact ⟨_, R_none op args hout, I_none op args hb hout⟩
  have h0 : 6 ≤ op := by omega
  have h1 : op ≤ 12 := by omega
  have h3 : args.length ≤ 3 := by omega
  rw [R_tail op args h0 h1 h3, I_tail op args hb]
  by_cases hv : args.all valid = true
  · rw [if_pos hv, if_pos hv, R.Built.l244_eq, I.Built.l116_eq, bif_f (ge_dec (Nat.le_refl _)), bif_f (ge_dec (Nat.le_refl _)), bif_f (b := decide (op ≤ 5)) (by simp; omega),
      R_type op _ h0 h1 (by simpa using hb), I_type op _ h0 h1 (by simpa using hb), Option.bind_some, Option.bind_some]
    have hvv : ∀ x ∈ args, valid x = true := by simpa using hv
    have hsame := same_types op (args.map TValue.gType) h0 h1 (by
      intro x hx
      obtain ⟨v, h4, rfl⟩ := List.mem_map.1 hx
      exact valid_type (hvv v h4))
    by_cases hR : (args.map TValue.gType).length = (wantR op).length ∧ ((args.map TValue.gType).zip (wantR op)).all okT = true
    · rw [if_pos hR, if_pos (hsame.1 hR), bif_f (gives_ne op h0 h1), bif_f (gives_ne op h0 h1)]
      obtain ⟨hl, hz⟩ := hR
      simp only [I.vInt_eq, I.vText_eq, R.l4Text_eq, Option.bind_some]
      rcases wants op h0 h1 with rfl | rfl | rfl | rfl | rfl | rfl | rfl
      · match args, hl with
        | [a], _ => exact ⟨_, rfl, rfl⟩
      · match args, hl with
        | [a, b], _ =>
          by_cases c1 : b.gN < 0
          · refine ⟨no wRange, ?_, ?_⟩ <;> simp [inB, c1, no, wRange]
          · by_cases c2 : (a.gText.size : Int) ≤ b.gN
            · refine ⟨no wRange, ?_, ?_⟩ <;> simp [inB, c1, c2, no, wRange]
            · have c3 : 0 ≤ b.gN := by omega
              have c4 : b.gN < a.gText.size := by omega
              refine ⟨(⟨3, IntKind.i64.wrap (bt a.gText b.gN), ⟨#[]⟩⟩, ⟨#[]⟩), ?_, ?_⟩ <;> simp [inB, c1, c2, c3, c4]
      · match args, hl with
        | [a, b, c], _ =>
          simp only [R.l4Cut_eq, R.l4Text_eq, Option.bind_some]
          by_cases c1 : b.gN < 0
          · refine ⟨no wRange, ?_, ?_⟩ <;> simp [inB, c1, no, wRange]
          · by_cases c2 : c.gN < b.gN
            · refine ⟨no wRange, ?_, ?_⟩ <;> simp [inB, c1, c2, no, wRange]
            · by_cases c3 : (a.gText.size : Int) < c.gN
              · refine ⟨no wRange, ?_, ?_⟩ <;> simp [inB, c1, c2, c3, no, wRange]
              · have c4 : inS b.gN c.gN a.gText.size = true := inS_iff.2 ⟨by omega, by omega, by omega⟩
                refine ⟨(⟨2, 0, a.gText.extract b.gN.toNat c.gN.toNat⟩, ⟨#[]⟩), ?_, ?_⟩ <;> simp [inB, c1, c2, c3, c4]
      · match args, hl with
        | [a, b], _ =>
          have ha1 := (ha a (by simp)).2
          have hb1 := (ha b (by simp)).2
          have c1 : a.gText.size < 4294967281 := by omega
          refine ⟨(⟨10, Lib.index a.gText.data.toList b.gText.data.toList, ⟨#[]⟩⟩, ⟨#[]⟩), ?_, ?_⟩
          · simp [inB, find_ok a.gText b.gText ha1 hb1]
          · simp [inB, c1]
      · match args, hl with
        | [a], _ => exact ⟨_, rfl, rfl⟩
      · match args, hl with
        | [a], _ =>
          have ha1 := (ha a (by simp)).1
          have hw : 3 ≤ a.gType ∧ a.gType ≤ 10 := by
            simp [wantR, okT] at hz
            have := valid_type (hvv a (by simp))
            omega
          refine ⟨(⟨2, 0, ⟨(if 7 ≤ a.gType then Lib.itoa a.gN else Lib.decDigits (IntKind.u64.wrap a.gN).toNat).toArray⟩⟩, ⟨#[]⟩), ?_, ?_⟩
          · simp [inB, dec4 ha1 hw.1 hw.2]
          · simp [inB, I_dec ha1 hw.1 hw.2]
      · match args, hl with
        | [a], _ =>
          have hw : a.gType = 2 := by
            simp [wantR, okT] at hz
            have := valid_type (hvv a (by simp))
            omega
          have hs := (valid_text (hvv a (by simp)) hw).2
          obtain ⟨r, hr, hr1, hr2⟩ := rd_ok a.gText hs
          obtain ⟨hp1, hp2⟩ := rd_I a.gText
          have c0 : a.gText.size ≤ 281474976710656 := by omega
          by_cases he : ∃ v, I64 v ∧ a.gText = ⟨(Lib.itoa v).toArray⟩
          · obtain ⟨v, hv1, hv2⟩ := he
            have e1 := hr2 v hv1 hv2
            have e2 := hp2 v hv1 hv2
            have e3 : bEq ⟨(Lib.itoa v).toArray⟩ a.gText = true := by rw [hv2]; exact bEq_self _
            have c1 : -9223372036854775808 ≤ v := by have := hv1.1; omega
            have c2 : v ≤ 9223372036854775807 := by have := hv1.2; omega
            refine ⟨(⟨10, v, ⟨#[]⟩⟩, ⟨#[]⟩), ?_, ?_⟩
            · simp [inB, hr, e1]
            · simp [inB, e2, c0, c1, c2, e3]
          · have e1 : r.2 = false := by
              cases h : r.2 with
              | false => rfl
              | true => exact (he ⟨_, hr1 h⟩).elim
            refine ⟨no wNumber, ?_, ?_⟩
            · simp [inB, hr, e1, no, wNumber]
            · cases h : (pInt a.gText).2 with
              | false => simp [inB, h, c0, no, wNumber]
              | true =>
                have hv1 := hp1 h
                have c1 : -9223372036854775808 ≤ (pInt a.gText).1 := by have := hv1.1; omega
                have c2 : (pInt a.gText).1 ≤ 9223372036854775807 := by have := hv1.2; omega
                have e3 : bEq ⟨(Lib.itoa (pInt a.gText).1).toArray⟩ a.gText = false := bEq_false fun h => he ⟨_, hv1, h.symm⟩
                simp [inB, h, c0, c1, c2, e3, no, wNumber]
    · rw [if_neg hR, if_neg (fun h => hR (hsame.2 h))]
      exact ⟨_, rfl, rfl⟩
  · rw [if_neg hv, if_neg hv]; exact ⟨_, rfl, rfl⟩
theorem fnBuilt (op : Int) (args : List TValue) (hop : I64 op) (hb : args.length ≤ 9223372036854775807) (ha : ∀ v ∈ args, I64 v.gN ∧ v.gText.size ≤ 9223372036854775807) : L.FnExactBuilt op args = some true := by
  rw [L.FnExactBuilt_eq]
  obtain ⟨z, hz, hz'⟩ := sz_ok args hb fun x hx => (ha x hx).2
  rw [hz, Option.bind_some]
  by_cases h : z < 0
  · rw [bif_t (by simpa using h)]
  · obtain ⟨h1, h2⟩ := hz' (by omega)
    obtain ⟨r, hr, hi⟩ := built_same op args h1 fun v hv => ⟨(ha v hv).1, h2 v hv⟩
    rw [bif_f (by simpa using h), to_ok args h1, Option.bind_some, hr, Option.bind_some, Option.bind_some, hi, Option.bind_some, eq_val, Option.bind_some,
      Option.bind_some, eqs_ok args h1, Option.bind_some, bEq_self]
    rfl
end Go.KM.B1
