/- Plain laws: one token. Conditions: none. -/
import Derived.Test.YtgjcobbngimleaaDoorSMarks
namespace Go.KM.S1
open Go Go.KM
open Go.KM.Fam (Dn dflt)
open Go.KM.Enc (cells sz mkE glob gany u8)
set_option autoImplicit false
set_option linter.unusedVariables false
set_option linter.unusedSimpArgs false
set_option maxRecDepth 100000
/-- letters and digits from a place on -/
def word (s : ByteArray) (a e : Nat) : Prop := a ≤ e ∧ e ≤ s.size ∧ (∀ j, a ≤ j → j < e → isW (bt s j) = true) ∧ (e < s.size → isW (bt s e) = false)
theorem R_word (s : ByteArray) (z : Int) (b : Int) (t : TToken) (hs : s.size ≤ 12000) (a : Nat) : ∀ (m k : Nat), k + m = s.size → a ≤ k → (∀ j, a ≤ j → j < k → isW (bt s j) = true) → ∃ e, word s a e ∧ R.l1One.l488 s z b k t = R.l1One.l31 s z b e t := by
  intro m
  induction m with
  | zero =>
    intro k hk ha hw
    refine ⟨k, ⟨ha, by omega, hw, fun h => by omega⟩, ?_⟩
    rw [R.l1One.l488_eq, bif_f (ge_dec (k := k) (n := s.size) (by omega))]
  | succ m ih =>
    intro k hk ha hw
    have hkl : k < s.size := by omega
    rw [R.l1One.l488_eq, bif_t (lt_dec hkl), bif_t (inB_nat hkl), R_tail, Option.bind_some, wi_succ (by omega)]
    cases hW : isW (bt s k) with
    | true =>
      obtain ⟨e, h1, h2⟩ := ih (k + 1) (by omega) (by omega) (fun j h3 h4 => by
        by_cases hj : j = k
        · rw [hj]; exact hW
        · exact hw j h3 (by omega))
      exact ⟨e, h1, by rw [cond_true, h2]⟩
    | false => exact ⟨k, ⟨ha, by omega, hw, fun _ => hW⟩, by rw [cond_false]⟩
theorem word_unique {s : ByteArray} {a e e' : Nat} (h : word s a e) (h' : word s a e') : e = e' := by
  have key : ∀ {x y : Nat}, word s a x → word s a y → ¬ x < y := fun {x y} hx hy hlt => by
    have h1 := hx.2.2.2 (by have := hy.2.1; omega)
    rw [hy.2.2.1 x hx.1 hlt] at h1
    cases h1
  have := key h h'
  have := key h' h
  omega
def mks : List ByteArray := [⟨#[45, 62]⟩, ⟨#[61, 61]⟩, ⟨#[33, 61]⟩, ⟨#[60, 61]⟩, ⟨#[62, 61]⟩, ⟨#[60, 60]⟩, ⟨#[62, 62]⟩, ⟨#[38, 38]⟩, ⟨#[124, 124]⟩, ⟨#[40]⟩, ⟨#[41]⟩, ⟨#[123]⟩, ⟨#[125]⟩, ⟨#[44]⟩, ⟨#[59]⟩, ⟨#[61]⟩, ⟨#[60]⟩, ⟨#[62]⟩, ⟨#[43]⟩, ⟨#[45]⟩, ⟨#[42]⟩, ⟨#[47]⟩, ⟨#[37]⟩, ⟨#[38]⟩, ⟨#[124]⟩, ⟨#[94]⟩, ⟨#[33]⟩, ⟨#[126]⟩]
/-- what the program goes on with behind a word -/
noncomputable def contO (src : ByteArray) (a c e : Int) (z : TToken) : Option (TToken × Int × Int) :=
  (I.lower c).bind fun (r1 : Bool) =>
    bif r1 then
     bif inS a e src.size then
      (I.isTaken (src.extract a.toNat e.toNat)).bind fun (r2 : Bool) =>
      bif r2 then some ((⟨2, src.extract a.toNat e.toNat, 0, 0, 0⟩ : TToken), (e, 0))
      else
      bif decide (((src.extract a.toNat e.toNat).size : Int) > 30) then some ((⟨0, ⟨#[]⟩, 0, 0, 0⟩ : TToken), (0, 5))
       else some ((⟨1, src.extract a.toNat e.toNat, 0, 0, 0⟩ : TToken), (e, 0))
     else none
    else
    (I.digit c).bind fun (r2 : Bool) =>
     bif r2 then
      bif inS a e src.size then
       (I.readInt (src.extract a.toNat e.toNat)).bind fun (r3 : (TToken × Bool)) =>
       bif !r3.snd then some ((⟨0, ⟨#[]⟩, 0, 0, 0⟩ : TToken), (0, 3))
       else some (r3.fst, (e, 0))
      else none
     else
     bif c == 34 then
       bif inS a (src.size : Int) src.size then
        (I.quoted (src.extract a.toNat src.size)).bind fun (r3 : (ByteArray × (Int × Int))) =>
        bif r3.snd.snd != 0 then some ((⟨0, ⟨#[]⟩, 0, 0, 0⟩ : TToken), (0, r3.snd.snd))
        else some ((⟨4, r3.fst, 0, 0, 0⟩ : TToken), (IntKind.i64.wrap (a + r3.snd.fst), 0))
       else none
      else I.one.l1012 src a mks mks.length 0 z
theorem I_word (s : ByteArray) (z : Int) (c : Int) (t : TToken) (hs : s.size ≤ 12000) (a : Nat) : ∀ (m k : Nat), k + m = s.size → a ≤ k → (∀ j, a ≤ j → j < k → isW (bt s j) = true) → ∃ e : Nat, word s a e ∧ I.one.l120 s z c k t = contO s z c e t := by
  intro m
  induction m with
  | zero =>
    intro k hk ha hw
    refine ⟨k, ⟨ha, by omega, hw, fun h => by omega⟩, ?_⟩
    rw [I.one.l120_eq, bif_f (ge_dec (k := k) (n := s.size) (by omega))]
    rfl
  | succ m ih =>
    intro k hk ha hw
    have hkl : k < s.size := by omega
    rw [I.one.l120_eq, bif_t (lt_dec hkl), bif_t (inB_nat hkl), I_wordy, Option.bind_some, wi_succ (by omega)]
    cases hW : isW (bt s k) with
    | true =>
      obtain ⟨e, h1, h2⟩ := ih (k + 1) (by omega) (by omega) (fun j h3 h4 => by
        by_cases hj : j = k
        · rw [hj]; exact hW
        · exact hw j h3 (by omega))
      exact ⟨e, h1, by rw [cond_true, h2]⟩
    | false => exact ⟨k, ⟨ha, by omega, hw, fun _ => hW⟩, by rw [cond_false]; rfl⟩
theorem bt_cut' (src : ByteArray) (a e j : Nat) (ha : a + j < e) (he : e ≤ src.size) : bt (src.extract a e) (j : Int) = bt src ((a + j : Nat) : Int) := by
  unfold bt
  rw [extract_data, Int.toNat_natCast, Int.toNat_natCast, List.getD_eq_getElem?_getD, List.getD_eq_getElem?_getD, List.getElem?_drop, List.getElem?_take, if_pos ha]
theorem one_same (src : ByteArray) (a : Nat) (hs : src.size ≤ 12000) (ha : a < src.size) :
    ∃ r : TToken × Int × Int, R.l1One src a = some r ∧ I.one src a = some (mapT r) ∧ (r.2.2 = 0 → (a : Int) < r.2.1 ∧ r.2.1 ≤ src.size ∧ r.1.gAt = a) := by
  obtain ⟨e', hw', hI⟩ := I_word src a (bt src a) ⟨0, ⟨#[]⟩, 0, 0, 0⟩ hs a (src.size - a) a (by omega) (Nat.le_refl a) (fun j h1 h2 => by omega)
  rw [R.l1One_eq, I.one_eq, bif_t (inB_nat ha), bif_t (inB_nat ha), hI, R_letter, Option.bind_some]
  have hnext : isW (bt src a) = true → ∀ e, word src a e → a < e := fun hW e he => by
    rcases Nat.lt_or_ge a e with h | h
    · exact h
    · have : a = e := by have := he.1; omega
      subst this
      have := he.2.2.2 ha
      rw [hW] at this; cases this
  unfold contO
  rw [I_lower, Option.bind_some, I_digit]
  cases hL : isL (bt src a) with
  | true =>
    rw [cond_true, cond_true]
    obtain ⟨e, hw, hR⟩ := R_word src a (bt src a) ⟨0, ⟨#[]⟩, 0, 0, 0⟩ hs a (src.size - a) a (by omega) (Nat.le_refl a) (fun j h1 h2 => by omega)
    have := word_unique hw hw'
    subst this
    have hlt := hnext (by simp [isW, hL]) e hw
    have hin : inS (a : Int) (e : Int) src.size = true := inS_iff.2 ⟨by omega, by omega, by have := hw.2.1; omega⟩
    rw [hR, R.l1One.l31_eq, bif_t hin, bif_t hin, R_letter, hL, Option.bind_some, cond_true, R_taken, I_taken, Option.bind_some, Option.bind_some]
    cases taken (src.extract (a : Int).toNat (e : Int).toNat) with
    | true => exact ⟨_, rfl, rfl, fun _ => ⟨by show (a : Int) < (e : Int); omega, by show (e : Int) ≤ _; have := hw.2.1; omega, rfl⟩⟩
    | false =>
      rw [cond_false, cond_false]
      cases decide (((src.extract (a : Int).toNat (e : Int).toNat).size : Int) > 30) with
      | true => exact ⟨_, rfl, rfl, fun h => by simp at h⟩
      | false => exact ⟨_, rfl, rfl, fun _ => ⟨by show (a : Int) < (e : Int); omega, by show (e : Int) ≤ _; have := hw.2.1; omega, rfl⟩⟩
  | false =>
    rw [cond_false, cond_false, R_digit, Option.bind_some, Option.bind_some]
    cases hD : isD (bt src a) with
    | true =>
      rw [cond_true, cond_true]
      obtain ⟨e, hw, hR⟩ := R_word src a (bt src a) ⟨0, ⟨#[]⟩, 0, 0, 0⟩ hs a (src.size - a) a (by omega) (Nat.le_refl a) (fun j h1 h2 => by omega)
      have := word_unique hw hw'
      subst this
      have hlt := hnext (by simp [isW, hD]) e hw
      have hin : inS (a : Int) (e : Int) src.size = true := inS_iff.2 ⟨by omega, by omega, by have := hw.2.1; omega⟩
      have hsz := size_cut src a e hw.1 hw.2.1
      have hf : isD (bt (src.extract a e) 0) = true := by
        have := bt_cut' src a e 0 (by omega) hw.2.1
        rw [Nat.add_zero] at this
        have this : bt (src.extract a e) 0 = bt src a := this
        rw [this]; exact hD
      obtain ⟨r, hr, hi⟩ := num_same (src.extract a e) (by have := hw.2.1; omega) (by omega) hf
      rw [hR, R.l1One.l31_eq, bif_t hin, bif_t hin, R_letter, hL, Option.bind_some, cond_false, R_digit, hD, Option.bind_some, cond_true, Int.toNat_natCast, Int.toNat_natCast, hr, hi, Option.bind_some, Option.bind_some]
      obtain ⟨t, n, ok⟩ := r
      cases ok with
      | true => exact ⟨_, rfl, rfl, fun _ => ⟨by show (a : Int) < (e : Int); omega, by show (e : Int) ≤ _; have := hw.2.1; omega, rfl⟩⟩
      | false => exact ⟨_, rfl, rfl, fun h => by simp at h⟩
    | false =>
      have hin : inS (a : Int) (a : Int) src.size = true := inS_iff.2 ⟨by omega, by omega, by omega⟩
      rw [cond_false, cond_false, R.l1One.l31_eq, bif_t hin, R_letter, hL, Option.bind_some, cond_false, R_digit, hD, Option.bind_some, cond_false]
      cases h34 : bt src a == 34 with
      | true =>
        rw [cond_true, cond_true, bif_t (b := inS (a : Int) (src.size : Int) src.size) (inS_iff.2 ⟨by omega, by omega, by omega⟩), R.l1Unquote_eq, I.quoted_eq, Int.toNat_natCast]
        obtain ⟨r, hr, hi, hp⟩ := unq src a a (by omega) hs (src.size - a - 1) 1 [] (by omega) (by simp) (by omega)
        have w1 : IntKind.i64.wrap ((a : Int) + 1) = ((a + 1 : Nat) : Int) := by rw [wi (by omega) (by omega)]; omega
        have hi : I.quoted.l116 (src.extract a src.size) [] 1 = some (mapU a r) := hi
        rw [w1, hr, hi, Option.bind_some, Option.bind_some]
        obtain ⟨x, p, ok⟩ := r
        cases ok with
        | false => exact ⟨_, rfl, rfl, fun h => by simp at h⟩
        | true =>
          have hp := hp rfl
          have hp : (a : Int) < p ∧ p ≤ (src.size : Int) := hp
          unfold mapU
          simp only [if_true, Bool.not_true, cond_false]
          by_cases hbig : (x.size : Int) > 3000
          · rw [if_pos hbig, bif_t (b := decide ((x.size : Int) > 3000)) (by simpa using hbig)]
            exact ⟨_, rfl, rfl, fun h => by simp at h⟩
          · rw [if_neg hbig, bif_f (b := decide ((x.size : Int) > 3000)) (by simpa using hbig)]
            refine ⟨_, rfl, ?_, fun _ => ⟨hp.1, hp.2, rfl⟩⟩
            have w2 : IntKind.i64.wrap ((a : Int) + (p - a)) = p := by rw [wi (by omega) (by omega)]; omega
            show some ((⟨4, x, 0, 0, 0⟩ : TToken), IntKind.i64.wrap ((a : Int) + (p - a)), (0 : Int)) = _
            rw [w2]
            rfl
      | false =>
        rw [cond_false, cond_false, R.l1Marks_eq, Option.bind_some]
        exact marks_same src a ⟨0, ⟨#[]⟩, 0, 0, 0⟩ ⟨0, ⟨#[]⟩, 0, 0, 0⟩ hs ha mks (by decide) (by decide +kernel) 28 0 (by decide)
/-- the tokens from a place on: the program's loop is the reference's -/
theorem scan_loop (src : ByteArray) (hs : src.size ≤ 12000) (z z' : TFault) : ∀ (m a : Nat) (out : List TToken), a + m = src.size → out.length ≤ a →
    (∃ r, R.Scan.l248 src out a z = some r ∧ I.Scan.l244 src out a z' = some r ∧ r.1.length ≤ src.size) ∧ (∃ r, R.Scan.l127312 src out a z = some r ∧ I.Scan.l1001840 src out a z' = some r ∧ r.1.length ≤ src.size) := by
  intro m
  induction m using Nat.strongRecOn with
  | ind m ih =>
    intro a out hm ho
    have main : ∃ r, R.Scan.l248 src out a z = some r ∧ I.Scan.l244 src out a z' = some r ∧ r.1.length ≤ src.size := by
      rw [R.Scan.l248_eq, I.Scan.l244_eq]
      by_cases ha : a < src.size
      · simp only [lt_dec ha, inB_nat ha, cond_true]
        have w1 := wi_succ (k := a) (by omega)
        have nx := (ih (m - 1) (by omega) (a + 1) out (by omega) (by omega)).1
        cases h32 : bt src a == 32 with
        | true =>
          rw [cond_true, cond_true, I.Scan.l15653_eq, cond_true, w1]
          exact nx
        | false =>
          rw [cond_false, cond_false, I.Scan.l15653_eq]
          cases h10 : bt src a == 10 with
          | true =>
            rw [cond_true, cond_true, w1]
            exact nx
          | false =>
            rw [cond_false, cond_false]
            cases h35 : bt src a == 35 with
            | true =>
              rw [cond_true, cond_true, R.Scan.l127312_eq, I.Scan.l1001840_eq]
              have hb : (bt src a != 10) = true := by simp only [bne, h10]; rfl
              simp only [lt_dec ha, inB_nat ha, cond_true, hb, w1]
              exact (ih (m - 1) (by omega) (a + 1) out (by omega) (by omega)).2
            | false =>
              rw [cond_false, cond_false]
              obtain ⟨r, hr, hi, hp⟩ := one_same src a hs ha
              rw [hr, hi, Option.bind_some, Option.bind_some]
              obtain ⟨t, p, c⟩ := r
              by_cases hc : c = 0
              · subst hc
                obtain ⟨h1, h2, h3⟩ := hp rfl
                have h1 : (a : Int) < p := h1
                have h2 : p ≤ (src.size : Int) := h2
                have h3 : t.gAt = a := h3
                have hroom : ∀ x : TToken, room (out.length + [x].length) 48 = true := fun x => room_ok (by simp; omega)
                obtain ⟨q, rfl⟩ : ∃ q : Nat, p = q := ⟨p.toNat, by omega⟩
                have h4 := (ih (src.size - q) (by omega) q (out ++ [t]) (by omega) (by simp; omega)).1
                unfold mapT
                simp only [if_true, bne_self_eq_false, cond_false, hroom, cond_true]
                have e1 : (TToken.mk t.gKind t.gText t.gType t.gN t.gAt) = t := rfl
                have e2 : (TToken.mk t.gKind t.gText t.gType t.gN a) = t := by rw [← h3]
                rw [e1, e2]
                exact h4
              · have hb : (c != 0) = true := bne_iff_ne.2 hc
                have h4 : (mapT (t, p, c)).2.2 = c := by unfold mapT; rw [if_neg hc]
                refine ⟨([], ⟨c, a⟩), ?_, ?_, Nat.zero_le _⟩
                · show (bif c != 0 then _ else _) = _
                  rw [hb]; rfl
                · rw [h4, hb]; rfl
      · rw [bif_f (ge_dec (k := a) (n := src.size) (by omega)), bif_f (ge_dec (k := a) (n := src.size) (by omega))]
        exact ⟨_, rfl, rfl, by show out.length ≤ src.size; omega⟩
    refine ⟨main, ?_⟩
    rw [R.Scan.l127312_eq, I.Scan.l1001840_eq]
    by_cases ha : a < src.size
    · simp only [lt_dec ha, inB_nat ha, cond_true]
      cases bt src a != 10 with
      | true =>
        rw [cond_true, cond_true, wi_succ (k := a) (by omega)]
        exact (ih (m - 1) (by omega) (a + 1) out (by omega) (by omega)).2
      | false => rw [cond_false, cond_false]; exact main
    · rw [bif_f (ge_dec (k := a) (n := src.size) (by omega)), bif_f (ge_dec (k := a) (n := src.size) (by omega))]
      exact main
theorem scan_same (src : ByteArray) : ∃ r, R.Scan src = some r ∧ I.Scan src = some r ∧ r.1.length ≤ src.size := by
  rw [R.Scan_eq, I.Scan_eq]
  by_cases h : (src.size : Int) > 12000
  · rw [bif_t (by simpa using h), bif_t (by simpa using h)]
    exact ⟨_, rfl, rfl, Nat.zero_le _⟩
  · rw [bif_f (by simpa using h), bif_f (by simpa using h)]
    exact (scan_loop src (by omega) ⟨0, 0⟩ ⟨0, 0⟩ src.size 0 [] (by omega) (by simp)).1
end Go.KM.S1
