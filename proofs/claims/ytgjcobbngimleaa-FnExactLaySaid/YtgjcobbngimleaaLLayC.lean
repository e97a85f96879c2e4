/- Plain laws: the program puts a file by halving. Conditions: none. -/
import Derived.Test.YtgjcobbngimleaaLLayB
namespace Go.KM.L1
open Go Go.KM
open Go.KM.Fam (Dn dflt)
open Go.KM.Enc (cells sz mkE glob gany u8)
set_option autoImplicit false
set_option linter.unusedVariables false
set_option linter.unusedSimpArgs false
set_option maxRecDepth 100000
theorem half {i j : Nat} (h : i + j < 9223372036854775807) : IntKind.i64.wrap (shrI IntKind.u64 (IntKind.u64.wrap (IntKind.i64.wrap ((i : Int) + (j : Int)))) 1) = (((i + j) / 2 : Nat) : Int) := by
  have e0 : IntKind.i64.wrap ((i : Int) + (j : Int)) = (i : Int) + (j : Int) := wi (by omega) (by omega)
  have e1 : IntKind.u64.wrap ((i : Int) + (j : Int)) = (i : Int) + (j : Int) := wu (by omega) (by omega)
  rw [e0, e1]
  have : shrI IntKind.u64 ((i : Int) + (j : Int)) 1 = (((i + j) / 2 : Nat) : Int) := by
    have h2 : (2 : Int) ^ min (1 : Int).toNat IntKind.u64.bits = 2 := by decide
    simp only [shrI, h2]
    rw [Int.fdiv_eq_ediv_of_nonneg _ (by omega)]; omega
  rw [this, wi (by omega) (by omega)]
theorem search_run (fs : List TFile) (hl : fs.length ≤ 100000000) (hs : Srt fs) (n t : ByteArray) : ∀ (m i j : Nat), j - i ≤ m → i ≤ j → j ≤ fs.length →
    (∀ a (ha : a < fs.length), a < i → bLt fs[a].gName n = true) → (∀ a (ha : a < fs.length), j ≤ a → bLt fs[a].gName n = false) →
    ∃ k : Nat, G.sort_Search_c47.l56 i j fs n t = some ((k : Int), (fs, (n, t))) ∧ k ≤ fs.length ∧ (∀ a (ha : a < fs.length), a < k → bLt fs[a].gName n = true) ∧ (∀ a (ha : a < fs.length), k ≤ a → bLt fs[a].gName n = false) := by
  intro m
  induction m with
  | zero =>
    intro i j hm hij hj h1 h2
    rw [G.sort_Search_c47.l56_eq, bif_f (ge_dec (by omega))]
    exact ⟨i, rfl, by omega, h1, fun a ha h => h2 a ha (by omega)⟩
  | succ m ih =>
    intro i j hm hij hj h1 h2
    by_cases hlt : i < j
    · have hh : (i + j) / 2 < fs.length := by omega
      have hn : (((i + j) / 2 : Nat) : Int).toNat = (i + j) / 2 := by omega
      have hsrt := List.pairwise_iff_getElem.1 hs
      rw [G.sort_Search_c47.l56_eq, bif_t (lt_dec hlt), half (by omega), I.setFile_1_eq, bif_t (inB_nat hh), hn, getD_lt hh]
      simp only [Option.bind_some]
      cases hb : bLt fs[(i + j) / 2].gName n with
      | true =>
        simp only [Bool.not_true, Bool.not_false, cond_true]
        rw [wi_succ (by omega)]
        refine ih ((i + j) / 2 + 1) j (by omega) (by omega) hj (fun a ha h => ?_) h2
        by_cases he : a = (i + j) / 2
        · subst he; exact hb
        · exact bLt_trans (hsrt a _ ha hh (by omega)) hb
      | false =>
        simp only [Bool.not_true, Bool.not_false, cond_false]
        refine ih i ((i + j) / 2) (by omega) (by omega) (by omega) h1 fun a ha h => ?_
        by_cases he : a = (i + j) / 2
        · subst he; exact hb
        · cases hc : bLt fs[a].gName n with
          | false => rfl
          | true => rw [bLt_trans (hsrt _ a hh ha (by omega)) hc] at hb; simp at hb
    · rw [G.sort_Search_c47.l56_eq, bif_f (ge_dec (by omega))]
      exact ⟨i, rfl, by omega, h1, fun a ha h => h2 a ha (by omega)⟩
theorem put_cons (x : TFile) (r : List TFile) (f : TFile) : put (x :: r) f = bif bLt x.gName f.gName then x :: put r f else bif bEq x.gName f.gName then f :: r else f :: x :: r := rfl
theorem put_at (f : TFile) : ∀ (k : Nat) (fs : List TFile), k ≤ fs.length → (∀ a (ha : a < fs.length), a < k → bLt fs[a].gName f.gName = true) → put fs f = fs.take k ++ put (fs.drop k) f
  | 0, fs, _, _ => rfl
  | k + 1, [], h, _ => by simp at h
  | k + 1, x :: r, h, h1 => by
    have h2 : bLt x.gName f.gName = true := h1 0 (by simp) (by omega)
    rw [put, h2, cond_true, put_at f k r (by simpa using h) fun a ha h3 => h1 (a + 1) (by simpa using ha) (by omega)]
    rfl
theorem insert_eq {α : Type} (fs : List α) (z f : α) (k : Nat) (hk : k ≤ fs.length) :
    (((fs ++ [z]).take (k + 1) ++ (sub (fs ++ [z]) (k : Int) ((fs ++ [z]).length : Int)).take ((fs ++ [z]).length - (k + 1)) ++
      (fs ++ [z]).drop (k + 1 + min (sub (fs ++ [z]) (k : Int) ((fs ++ [z]).length : Int)).length ((fs ++ [z]).length - (k + 1)))).set k f) = fs.take k ++ f :: fs.drop k := by
  have hlen : (fs ++ [z]).length = fs.length + 1 := by simp
  have e1 : sub (fs ++ [z]) (k : Int) ((fs ++ [z]).length : Int) = fs.drop k ++ [z] := by
    unfold sub
    rw [show (((fs ++ [z]).length : Nat) : Int).toNat = (fs ++ [z]).length by omega, List.take_length, Int.toNat_natCast, List.drop_append_of_le_length hk]
  have e2 : (fs.drop k ++ [z]).take ((fs ++ [z]).length - (k + 1)) = fs.drop k := by
    rw [hlen, List.take_append_of_le_length (by simp)]
    exact List.take_of_length_le (by simp)
  have e3 : (fs ++ [z]).drop (k + 1 + min (fs.drop k ++ [z]).length ((fs ++ [z]).length - (k + 1))) = [] := by
    apply List.drop_eq_nil_of_le
    simp only [List.length_append, List.length_drop, List.length_singleton]; omega
  have e4 : ∃ y, (fs ++ [z]).take (k + 1) = fs.take k ++ [y] := by
    have hk' : k < (fs ++ [z]).length := by omega
    refine ⟨(fs ++ [z])[k], ?_⟩
    rw [List.take_succ_eq_append_getElem hk', List.take_append_of_le_length hk]
  obtain ⟨y, e4⟩ := e4
  rw [e1, e2, e3, e4, List.append_nil, List.append_assoc]
  have hl : (fs.take k).length = k := by rw [List.length_take]; omega
  rw [List.set_append_right _ _ (by omega), hl, Nat.sub_self]
  rfl
theorem I_put (fs : List TFile) (hl : fs.length ≤ 100000000) (hs : Srt fs) (f : TFile) : I.setFile fs f = some (put fs f) := by
  rw [I.setFile_eq, G.sort_Search_c47_eq]
  obtain ⟨k, h1, h2, h3, h4⟩ := search_run fs hl hs f.gName f.gText fs.length 0 fs.length (by omega) (by omega) (Nat.le_refl _) (fun a ha h => by omega) (fun a ha h => by omega)
  have h1 : G.sort_Search_c47.l56 0 (fs.length : Int) fs f.gName f.gText = some ((k : Int), (fs, (f.gName, f.gText))) := h1
  have hn : (k : Int).toNat = k := by omega
  have hr : ∀ x : TFile, room (fs.length + [x].length) 32 = true := fun x => room_ok (by simp only [List.length_singleton]; omega)
  have hlen : ∀ z : TFile, (fs ++ [z]).length = fs.length + 1 := fun z => by simp
  have hS : ∀ z : TFile, inS (IntKind.i64.wrap ((k : Int) + 1)) ((fs ++ [z]).length : Int) (fs ++ [z]).length = true := fun z => by
    rw [wi_succ (by omega), hlen]; exact inS_iff.2 ⟨by omega, by omega, by omega⟩
  have hS2 : ∀ z : TFile, inS (k : Int) ((fs ++ [z]).length : Int) (fs ++ [z]).length = true := fun z => by
    rw [hlen]; exact inS_iff.2 ⟨by omega, by omega, by omega⟩
  rw [h1]
  simp only [Option.bind_some]
  have hins : ∀ z : TFile, put fs f = fs.take k ++ f :: fs.drop k → ∀ E : List TFile, E = ((fs ++ [z]).take (k + 1) ++ (sub (fs ++ [z]) (k : Int) ((fs ++ [z]).length : Int)).take ((fs ++ [z]).length - (k + 1)) ++
      (fs ++ [z]).drop (k + 1 + min (sub (fs ++ [z]) (k : Int) ((fs ++ [z]).length : Int)).length ((fs ++ [z]).length - (k + 1)))) → (bif inB (k : Int) E.length then some (E.set k f) else none) = some (put fs f) := fun z hp E hE => by
    have h5 : E.set k f = put fs f := by rw [hE, insert_eq fs z f k h2, hp]
    have h6 : E.length = (put fs f).length := by rw [← h5, List.length_set]
    rw [bif_t (inB_nat (by rw [h6, hp]; simp only [List.length_append, List.length_take, List.length_cons]; omega)), h5]
  have hw1 : (IntKind.i64.wrap ((k : Int) + 1)).toNat = k + 1 := by rw [wi_succ (by omega)]; omega
  by_cases hk : k < fs.length
  · rw [bif_t (lt_dec hk), bif_t (inB_nat hk)]
    simp only [hn, getD_lt hk, inB_nat hk, cond_true]
    have hp0 := put_at f k fs h2 h3
    rw [List.drop_eq_getElem_cons hk, put_cons] at hp0
    rw [h4 k hk (Nat.le_refl _), cond_false] at hp0
    cases hb : bEq fs[k].gName f.gName with
    | true =>
      rw [hb, cond_true] at hp0
      simp only [cond_true]
      have : put fs f = fs.take k ++ f :: fs.drop (k + 1) := hp0
      rw [this, bEq_iff.1 hb, List.set_eq_take_append_cons_drop, if_pos hk]
    | false =>
      rw [hb, cond_false] at hp0
      simp only [cond_false]
      have hp1 : put fs f = fs.take k ++ f :: fs.drop k := by rw [List.drop_eq_getElem_cons hk]; exact hp0
      simp only [hr, hS, hS2, cond_true]
      rw [hw1]
      exact hins _ hp1 _ rfl
  · rw [bif_f (ge_dec (by omega))]
    have hp1 : put fs f = fs.take k ++ f :: fs.drop k := by
      rw [put_at f k fs h2 h3, List.drop_eq_nil_of_le (by omega)]; rfl
    simp only [hr, hS, hS2, cond_true]
    simp only [hw1, hn]
    exact hins _ hp1 _ rfl
end Go.KM.L1
