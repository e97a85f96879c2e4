/- Plain laws: names, and lists that are all of a kind. Conditions: none. -/
import Derived.Test.YtdhkmgloghlnnaaGreatDoorPa
import Derived.Test.YtdhkmgloghlnnaaGreatDoorPa
import Derived.Test.YtdhkmgloghlnnaaGreatDoorPa
namespace Go.KM.P1
open Go Go.KM
open Go.KM.Fam (Dn dflt)
open Go.KM.Enc (cells sz mkE glob gany u8)
set_option autoImplicit false
set_option linter.unusedVariables false
set_option linter.unusedSimpArgs false
set_option maxRecDepth 100000
theorem and_bif (p q : Bool) : (bif p then some q else some false) = some (p && q) := by cases p <;> rfl
theorem nand_bif (p q : Bool) : (bif !p then some false else some q) = some (p && q) := by cases p <;> rfl
def isL (b : Int) : Bool := decide (97 ≤ b) && decide (b ≤ 122)
def isD (b : Int) : Bool := decide (48 ≤ b) && decide (b ≤ 57)
def isW (b : Int) : Bool := isL b || (isD b || b == 95)
theorem R_letter (b : Int) : R.l1Letter b = some (isL b) := by rw [R.l1Letter_eq]; exact and_bif _ _
theorem I_lower (b : Int) : I.lower b = some (isL b) := by rw [I.lower_eq]; exact and_bif _ _
theorem R_digit (b : Int) : R.l1Digit b = some (isD b) := by rw [R.l1Digit_eq]; exact and_bif _ _
theorem I_digit (b : Int) : I.digit b = some (isD b) := by rw [I.digit_eq]; exact and_bif _ _
theorem R_tail (b : Int) : R.l1Tail b = some (isW b) := by
  rw [R.l1Tail_eq, R_letter, Option.bind_some, R_digit, Option.bind_some]
  unfold isW
  cases isL b <;> cases isD b <;> rfl
theorem I_wordy (b : Int) : I.wordy b = some (isW b) := by
  rw [I.wordy_eq, I_lower, Option.bind_some, I_digit, Option.bind_some]
  unfold isW
  cases isL b <;> cases isD b <;> rfl
theorem all_run {α : Type} (xs : List α) (p : α → Bool) (F : Int → Option Bool) (fin : Option Bool)
    (h : ∀ k (hk : k < xs.length), F (k : Int) = bif p xs[k] then F ((k + 1 : Nat) : Int) else some false) (hend : F (xs.length : Int) = fin) : F 0 = bif xs.all p then fin else some false := by
  have key : ∀ m k : Nat, k + m = xs.length → F (k : Int) = bif (xs.drop k).all p then fin else some false := by
    intro m
    induction m with
    | zero =>
      intro k hk
      rw [List.drop_eq_nil_of_le (by omega), show k = xs.length by omega, hend]
      rfl
    | succ m ih =>
      intro k hk
      have hkl : k < xs.length := by omega
      rw [h k hkl, ih (k + 1) (by omega), drop_get hkl, List.all_cons]
      cases p xs[k] <;> rfl
  exact key xs.length 0 (by omega)
theorem name_same (s : ByteArray) : ∃ b, I.nameOk s = some b ∧ R.l1NameOk s = some b := by
  rw [I.nameOk_eq, R.l1NameOk_eq]
  by_cases h1 : (s.size : Int) < 1
  · rw [bif_t (b := decide ((s.size : Int) < 1)) (by simpa using h1), bif_t (b := decide ((s.size : Int) < 1)) (by simpa using h1)]; exact ⟨false, rfl, rfl⟩
  · rw [bif_f (b := decide ((s.size : Int) < 1)) (by simpa using h1), bif_f (b := decide ((s.size : Int) < 1)) (by simpa using h1)]
    by_cases h2 : (s.size : Int) > 30
    · rw [bif_t (b := decide ((s.size : Int) > 30)) (by simpa using h2), bif_t (b := decide ((s.size : Int) > 30)) (by simpa using h2)]; exact ⟨false, rfl, rfl⟩
    · rw [bif_f (b := decide ((s.size : Int) > 30)) (by simpa using h2), bif_f (b := decide ((s.size : Int) > 30)) (by simpa using h2), bif_t (b := inB 0 s.size) (by simp [inB]; omega), bif_t (b := inB 0 s.size) (by simp [inB]; omega), I_lower, R_letter, Option.bind_some, Option.bind_some]
      cases isL (bt s 0) with
      | false => exact ⟨false, rfl, rfl⟩
      | true =>
        rw [Bool.not_true, cond_false, cond_false, I_taken, R_taken, Option.bind_some, Option.bind_some]
        cases taken s with
        | true => exact ⟨false, rfl, rfl⟩
        | false =>
          rw [cond_false, cond_false]
          have e1 := all_run (List.range s.size) (fun k => isW (bt s (k : Nat))) (fun k => I.nameOk.l116 s k) (some true) (fun k hk => by
            rw [List.length_range] at hk
            show I.nameOk.l116 s k = _
            rw [I.nameOk.l116_eq, bif_t (lt_dec hk), bif_t (inB_nat hk), I_wordy, Option.bind_some, wi_succ (by omega), List.getElem_range]
            cases isW (bt s k) <;> rfl) (by rw [List.length_range, I.nameOk.l116_eq, bif_f (ge_dec (Nat.le_refl _))])
          have e2 := all_run (List.range s.size) (fun k => isW (bt s (k : Nat))) (fun k => R.l1NameOk.l116 s k) (some true) (fun k hk => by
            rw [List.length_range] at hk
            show R.l1NameOk.l116 s k = _
            rw [R.l1NameOk.l116_eq, bif_t (lt_dec hk), bif_t (inB_nat hk), R_tail, Option.bind_some, wi_succ (by omega), List.getElem_range]
            cases isW (bt s k) <;> rfl) (by rw [List.length_range, R.l1NameOk.l116_eq, bif_f (ge_dec (Nat.le_refl _))])
          refine ⟨(List.range s.size).all fun k => isW (bt s (k : Nat)), e1.trans ?_, e2.trans ?_⟩ <;> (cases (List.range s.size).all fun k => isW (bt s (k : Nat))) <;> rfl
def kdO (o : Option TNode_) : Int := (o.getD TNode_.z).gNode.gKind
def isE (k : Int) : Bool := decide (1 ≤ k) && decide (k ≤ 9)
def isS (k : Int) : Bool := decide (10 ≤ k) && decide (k ≤ 20)
theorem I_isE (k : Int) : I.isE k = some (isE k) := by rw [I.isE_eq]; exact and_bif _ _
theorem R_isE (k : Int) : R.l2E k = some (isE k) := by rw [R.l2E_eq]; exact and_bif _ _
theorem I_isS (k : Int) : I.isS k = some (isS k) := by rw [I.isS_eq]; exact and_bif _ _
theorem R_isS (k : Int) : R.l2S k = some (isS k) := by rw [R.l2S_eq]; exact and_bif _ _
theorem sub_all {α : Type} (xs : List α) : sub xs 0 (xs.length : Int) = xs := by simp [sub]
theorem fin_b (b : Bool) : (bif b then some true else some false) = some b := by cases b <;> rfl
theorem get_some {ks : List (Option TNode_)} (hs : ∀ o ∈ ks, o.isSome = true) {k : Nat} (hk : k < ks.length) : (ks.getD k none).isSome = true := by
  rw [getD_lt hk]; exact hs _ (List.getElem_mem hk)
section
variable (n : TNode) (ks : List (Option TNode_)) (num : Int) (hs : ∀ o ∈ ks, o.isSome = true) (hl : ks.length ≤ 100000)
include hs hl
theorem kE : I.node_kinds_c61 (some ⟨n, ks, num⟩) 0 = some (ks.all fun o => isE (kdO o)) := by
  rw [I.node_kinds_c61_eq]
  simp only [Option.isSome_some, Option.getD_some, cond_true, sub_all]
  rw [bif_t (inS_iff.2 ⟨by omega, by omega, by omega⟩)]
  refine (all_run ks (fun o => isE (kdO o)) (fun k => I.node_kinds_c61.l52 ks ks.length k) (some true) (fun k hk => ?_) ?_).trans (fin_b _)
  · show I.node_kinds_c61.l52 ks ks.length k = _
    rw [I.node_kinds_c61.l52_eq, bif_t (lt_dec hk), bif_t (inB_nat hk), Int.toNat_natCast, bif_t (get_some hs hk), I_isE, Option.bind_some, wi_succ (by omega), getD_lt hk]
    show _ = bif isE (kdO ks[k]) then _ else _
    unfold kdO
    cases isE (Option.getD ks[k] TNode_.z).gNode.gKind <;> rfl
  · rw [I.node_kinds_c61.l52_eq, bif_f (ge_dec (Nat.le_refl _))]
theorem kS : I.node_kinds_c63 (some ⟨n, ks, num⟩) 0 = some (ks.all fun o => isS (kdO o)) := by
  rw [I.node_kinds_c63_eq]
  simp only [Option.isSome_some, Option.getD_some, cond_true, sub_all]
  rw [bif_t (inS_iff.2 ⟨by omega, by omega, by omega⟩)]
  refine (all_run ks (fun o => isS (kdO o)) (fun k => I.node_kinds_c63.l52 ks ks.length k) (some true) (fun k hk => ?_) ?_).trans (fin_b _)
  · show I.node_kinds_c63.l52 ks ks.length k = _
    rw [I.node_kinds_c63.l52_eq, bif_t (lt_dec hk), bif_t (inB_nat hk), Int.toNat_natCast, bif_t (get_some hs hk), I_isS, Option.bind_some, wi_succ (by omega), getD_lt hk]
    show _ = bif isS (kdO ks[k]) then _ else _
    unfold kdO
    cases isS (Option.getD ks[k] TNode_.z).gNode.gKind <;> rfl
  · rw [I.node_kinds_c63.l52_eq, bif_f (ge_dec (Nat.le_refl _))]
theorem kF : I.node_kinds_c64 (some ⟨n, ks, num⟩) 0 = some (ks.all fun o => kdO o == 23) := by
  rw [I.node_kinds_c64_eq]
  simp only [Option.isSome_some, Option.getD_some, cond_true, sub_all]
  rw [bif_t (inS_iff.2 ⟨by omega, by omega, by omega⟩)]
  refine (all_run ks (fun o => kdO o == 23) (fun k => I.node_kinds_c64.l52 ks ks.length k) (some true) (fun k hk => ?_) ?_).trans (fin_b _)
  · show I.node_kinds_c64.l52 ks ks.length k = _
    rw [I.node_kinds_c64.l52_eq, bif_t (lt_dec hk), bif_t (inB_nat hk), Int.toNat_natCast, bif_t (get_some hs hk), I.node_kidsOk_1_eq, Option.bind_some, wi_succ (by omega), getD_lt hk]
    show _ = bif kdO ks[k] == 23 then _ else _
    unfold kdO
    cases (Option.getD ks[k] TNode_.z).gNode.gKind == 23 <;> rfl
  · rw [I.node_kinds_c64.l52_eq, bif_f (ge_dec (Nat.le_refl _))]
theorem kP : I.node_kidsOk.l7918845908 ks ks.length 0 = some (ks.all fun o => kdO o == 22) := by
  refine (all_run ks (fun o => kdO o == 22) (fun k => I.node_kidsOk.l7918845908 ks ks.length k) (some true) (fun k hk => ?_) ?_).trans (fin_b _)
  · show I.node_kidsOk.l7918845908 ks ks.length k = _
    rw [I.node_kidsOk.l7918845908_eq, bif_t (lt_dec hk), bif_t (inB_nat hk), Int.toNat_natCast, bif_t (get_some hs hk), wi_succ (by omega), getD_lt hk]
    show _ = bif kdO ks[k] == 22 then _ else _
    unfold kdO bne
    cases (Option.getD ks[k] TNode_.z).gNode.gKind == 22 <;> rfl
  · rw [I.node_kidsOk.l7918845908_eq, bif_f (ge_dec (Nat.le_refl _))]
end
section
variable (l : List Int) (hl : l.length ≤ 100000)
include hl
theorem rE : R.l2AllE l = some (l.all isE) := by
  rw [R.l2AllE_eq]
  refine (all_run l isE (fun k => R.l2AllE.l52 l k) (some true) (fun k hk => ?_) ?_).trans (fin_b _)
  · show R.l2AllE.l52 l k = _
    rw [R.l2AllE.l52_eq, bif_t (lt_dec hk), bif_t (inB_nat hk), Int.toNat_natCast, R_isE, Option.bind_some, wi_succ (by omega), getD_lt hk]
    cases isE l[k] <;> rfl
  · rw [R.l2AllE.l52_eq, bif_f (ge_dec (Nat.le_refl _))]
theorem rS : R.l2Fits.l989855716 l l.length 0 = some (l.all isS) := by
  refine (all_run l isS (fun k => R.l2Fits.l989855716 l l.length k) (some true) (fun k hk => ?_) ?_).trans (fin_b _)
  · show R.l2Fits.l989855716 l l.length k = _
    rw [R.l2Fits.l989855716_eq, bif_t (lt_dec hk), bif_t (inB_nat hk), Int.toNat_natCast, R_isS, Option.bind_some, wi_succ (by omega), getD_lt hk]
    cases isS l[k] <;> rfl
  · rw [R.l2Fits.l989855716_eq, bif_f (ge_dec (Nat.le_refl _))]
theorem rF : R.l2Fits.l15837691876 l l.length 0 = some (l.all (fun k => k == 23) && (decide (1 ≤ l.length) && decide (l.length ≤ 60))) := by
  refine (all_run l (fun k => k == 23) (fun k => R.l2Fits.l15837691876 l l.length k) (some (decide (1 ≤ l.length) && decide (l.length ≤ 60))) (fun k hk => ?_) ?_).trans (and_bif _ _)
  · show R.l2Fits.l15837691876 l l.length k = _
    rw [R.l2Fits.l15837691876_eq, bif_t (lt_dec hk), bif_t (inB_nat hk), Int.toNat_natCast, wi_succ (by omega), getD_lt hk]
    unfold bne
    cases l[k] == 23 <;> rfl
  · rw [R.l2Fits.l15837691876_eq, bif_f (ge_dec (Nat.le_refl _)), and_bif]
    congr 2
    · rw [Bool.eq_iff_iff]; simp; omega
    · rw [Bool.eq_iff_iff]; simp; omega
end
end Go.KM.P1
