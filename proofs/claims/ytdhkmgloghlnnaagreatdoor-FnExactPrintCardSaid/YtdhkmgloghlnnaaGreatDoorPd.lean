/- Plain laws: every expression is printed alike. Conditions: none. -/
import Derived.Test.YtdhkmgloghlnnaaGreatDoorPc
namespace Go.KM.P1
open Go Go.KM
open Go.KM.Fam (Dn dflt)
open Go.KM.Enc (cells sz mkE glob gany u8)
set_option autoImplicit false
set_option linter.unusedVariables false
set_option linter.unusedSimpArgs false
set_option linter.unusedSectionVars false
set_option maxRecDepth 100000
theorem ret_bind {α β : Type} (a : α) (f : α → Option β) : (some a).bind f = f a := rfl
theorem pick {P : Nat → ByteArray → Prop} : ∀ (ks : List Nat), (∀ k ∈ ks, ∃ s, P k s) → ∃ F : Nat → ByteArray, ∀ k ∈ ks, P k (F k) := fun ks h =>
  ⟨fun k => if hk : k ∈ ks then Classical.choose (h k hk) else ⟨#[]⟩, fun k hk => by
    simp only [dif_pos hk]; exact Classical.choose_spec (h k hk)⟩
section
variable {t : TTree} {out : List (List Nat)} {bs : List TNode_} {r : Nat} (h : Root t out bs r) (hI : ∀ x ∈ t.gNodes, I64 x.gN)
include h hI
theorem exprs (hx : ∀ x ∈ t.gNodes, x.gText.size ≤ 1048576) : ∀ j, j < t.gNodes.length → isE (t.gNodes.getD j TNode.z).gKind = true → WW (wj t.gNodes) out j ≤ 70368744177664 → ∃ s, Ex t out bs j s := by
  intro j
  induction j using Nat.strongRecOn with
  | ind j ih =>
  intro hj hE hW
  obtain ⟨ks, h1, h2, h3, h4, h5, h6, h7, h8, h9, h10⟩ := view h hI hj
  have hx' : (t.gNodes.getD j TNode.z).gText.size ≤ 1048576 := by rw [getD_lt hj]; exact hx _ (List.getElem_mem _)
  have hn' : I64 (t.gNodes.getD j TNode.z).gN := by rw [getD_lt hj]; exact hI _ (List.getElem_mem _)
  have hlt : ∀ k ∈ ks, k < t.gNodes.length := fun k hk => Nat.lt_trans (h2 k hk) hj
  have go : ∀ k ∈ ks, isE (t.gNodes.getD k TNode.z).gKind = true → ∃ s, Ex t out bs k s := fun k hk he => ih k (h2 k hk) (hlt k hk) he (Nat.le_trans (h8 k hk) hW)
  have goH : ∀ k ∈ ks, isE (t.gNodes.getD k TNode.z).gKind = true → ∃ s, Hd t out bs k s := fun k hk he => by
    obtain ⟨s, hs⟩ := go k hk he
    exact held h hI (hlt k hk) (Nat.le_trans (h8 k hk) hW) hs
  have hll : (ks.map fun k => (t.gNodes.getD k TNode.z).gKind).length ≤ 100000 := by rw [List.length_map]; omega
  have hwj : wj t.gNodes j = 4 * (t.gNodes.getD j TNode.z).gText.size + 3000 := rfl
  have hjo : j < (out.map toI).length := by rw [List.length_map]; exact (List.getElem?_eq_some_iff.1 h1).1
  have c1 : (⟨#[40]⟩ : ByteArray).size = 1 := rfl
  have c2 : (⟨#[41]⟩ : ByteArray).size = 1 := rfl
  have c3 : (⟨#[32]⟩ : ByteArray).size = 1 := rfl
  have g0 : ∀ {k : Nat} {l : List Nat}, (toI (k :: l)).getD 0 0 = (k : Int) := rfl
  have e0 : ∀ {k : Nat} {l : List Nat}, inB 0 (toI (k :: l)).length = true := fun {k l} => inB_iff.2 ⟨by omega, by simp [toI]⟩
  have e1 : ∀ {k m : Nat} {l : List Nat}, inB 1 (toI (k :: m :: l)).length = true := fun {k m l} => inB_iff.2 ⟨by omega, by simp [toI]; omega⟩
  have e2 : ∀ {k : Nat} {l : List Nat}, inB 0 ((k :: l).map fun k => bs[k]?).length = true := fun {k l} => inB_iff.2 ⟨by omega, by simp⟩
  have e3 : ∀ {k m : Nat} {l : List Nat}, inB 1 ((k :: m :: l).map fun k => bs[k]?).length = true := fun {k m l} => inB_iff.2 ⟨by omega, by simp; omega⟩
  unfold Ex
  rw [h4, I.node_show_eq, R.l2Pen_expr_eq]
  obtain ⟨nd, hnd⟩ : ∃ nd, t.gNodes.getD j TNode.z = nd := ⟨_, rfl⟩
  rw [hnd] at h4 h5 h6 hx' hn' hwj hE
  simp only [Int.toNat_natCast, h9, Option.isSome_some, Option.getD_some, cond_true, hnd]
  rw [bif_t (inB_nat hj), bif_t (inB_nat hjo)]
  have hlst := fun (hlen : ks.length ≤ 12001) F hF hw nd num => lists h hI hlen F hF hw nd num
  have hwk : (ks.map (WW (wj t.gNodes) out)).sum ≤ 70368744177664 := by omega
  have wk : ∀ k ∈ ks, WW (wj t.gNodes) out k ≤ (ks.map (WW (wj t.gNodes) out)).sum := fun k hk => sum_ge hk
  obtain ⟨xk, xo, xt, xn, xs, kd⟩ := nd
  simp only [] at hx' hn' hwj hE
  have hk9 : xk = 1 ∨ xk = 2 ∨ xk = 3 ∨ xk = 4 ∨ xk = 5 ∨ xk = 6 ∨ xk = 7 ∨ xk = 8 ∨ xk = 9 := by
    simp only [isE, Bool.and_eq_true, decide_eq_true_eq] at hE; omega
  rcases hk9 with rfl | rfl | rfl | rfl | rfl | rfl | rfl | rfl | rfl
  · have hu : IntKind.u64.wrap xn = ((IntKind.u64.wrap xn).toNat : Int) := by
      have : 0 ≤ IntKind.u64.wrap xn := by rw [wu_eq]; omega
      omega
    have hu2 : IntKind.u64.wrap xn < 18446744073709551616 := by rw [wu_eq]; omega
    have hu0 : 0 ≤ IntKind.u64.wrap xn := by omega
    obtain ⟨f1, f2⟩ := fd_1 h6
    have hd := R_dec (IntKind.u64.wrap xn).toNat (by omega)
    rw [← hu] at hd
    have hds : (⟨(Lib.decDigits (IntKind.u64.wrap xn).toNat).toArray⟩ : ByteArray).size ≤ 20 := by
      have := dec_len20 (u := (IntKind.u64.wrap xn).toNat) (by omega)
      rw [size_data]; simpa using this
    have hts := tw_size (t := xt) (by omega) f2
    have hin : inB xt 11 = true := inB_iff.2 ⟨by omega, by omega⟩
    have hc : (decide (0 ≤ IntKind.u64.wrap xn) && decide (IntKind.u64.wrap xn < 18446744073709551616) && (10 : Int) == 10) = true := by rw [decide_eq_true hu0, decide_eq_true hu2]; rfl
    by_cases h10' : xt = 10
    · subst h10'
      refine ⟨⟨(Lib.decDigits (IntKind.u64.wrap xn).toNat).toArray⟩, ?_, ?_, by omega⟩
      · refine (bif_t (by rfl)).trans ?_
        refine (bif_t hc).trans ?_
        exact bif_f (by rfl)
      · refine (bif_t (by rfl)).trans ?_
        refine (bif_t (by rfl)).trans ?_
        rw [hd]
        exact ret_bind _ _
    · have hd1 : (xt == 10) = false := by simpa using h10'
      have hd2 : (xt != 10) = true := by simpa using h10'
      refine ⟨⟨(Lib.decDigits (IntKind.u64.wrap xn).toNat).toArray⟩ ++ tw xt, ?_, ?_, ?_⟩
      · refine (bif_t (by rfl)).trans ?_
        refine (bif_t hc).trans ?_
        refine (bif_t hd2).trans ?_
        refine (bif_t hin).trans ?_
        exact bif_t (cat_ok (by show (⟨(Lib.decDigits (IntKind.u64.wrap xn).toNat).toArray⟩ : ByteArray).size + (tw xt).size < _; omega))
      · refine (bif_t (by rfl)).trans ?_
        refine (bif_f hd1).trans ?_
        rw [hd, R_tw (by omega) f2]
        exact bif_t (cat_ok (by omega))
      · rw [ba_size_app]; omega
  · obtain ⟨q, q1, q2, q3⟩ := quote_same xs hx'
    refine ⟨q, ?_, ?_, by omega⟩
    · refine (bif_f (by rfl)).trans ?_; refine (bif_t (by rfl)).trans ?_
      rw [q2]; rfl
    · refine (bif_f (by rfl)).trans ?_; refine (bif_t (by rfl)).trans ?_
      rw [q1]; rfl
  · by_cases hn : xn = 1
    · refine ⟨⟨#[116, 114, 117, 101]⟩, ?_, ?_, by show 4 + 100 ≤ _; omega⟩
      · refine (bif_f (by rfl)).trans ?_; refine (bif_f (by rfl)).trans ?_; refine (bif_t (by rfl)).trans ?_
        exact bif_t (by rw [hn]; rfl)
      · refine (bif_f (by rfl)).trans ?_; refine (bif_f (by rfl)).trans ?_; refine (bif_t (by rfl)).trans ?_
        exact bif_t (by rw [hn]; rfl)
    · refine ⟨⟨#[102, 97, 108, 115, 101]⟩, ?_, ?_, by show 5 + 100 ≤ _; omega⟩
      · refine (bif_f (by rfl)).trans ?_; refine (bif_f (by rfl)).trans ?_; refine (bif_t (by rfl)).trans ?_
        exact bif_f (by simpa using hn)
      · refine (bif_f (by rfl)).trans ?_; refine (bif_f (by rfl)).trans ?_; refine (bif_t (by rfl)).trans ?_
        exact bif_f (by simpa using hn)
  · refine ⟨xs, ?_, ?_, by omega⟩
    · refine (bif_f (by rfl)).trans ?_; refine (bif_f (by rfl)).trans ?_; refine (bif_f (by rfl)).trans ?_; refine (bif_t (by rfl)).trans ?_
      rfl
    · refine (bif_f (by rfl)).trans ?_; refine (bif_f (by rfl)).trans ?_; refine (bif_f (by rfl)).trans ?_; refine (bif_t (by rfl)).trans ?_
      rfl
  · obtain ⟨f1, f2⟩ := fd_5 h6
    obtain ⟨a, ha, hae⟩ := sh_5 h5
    match ks, ha with
    | [k], ha =>
    obtain ⟨s, hs1, hs2, hs3⟩ := goH k (by simp) (by simp only [List.map_cons, List.map_nil, List.cons.injEq] at ha; rw [ha.1]; exact hae)
    obtain ⟨u1, u2⟩ := R_uw f1 f2
    have hw := wk k (by simp)
    refine ⟨uw xo ++ s, ?_, ?_, by rw [ba_size_app]; omega⟩
    · refine (bif_f (by rfl)).trans ?_; refine (bif_f (by rfl)).trans ?_; refine (bif_f (by rfl)).trans ?_; refine (bif_f (by rfl)).trans ?_; refine (bif_t (by rfl)).trans ?_
      refine (bif_t (inB_iff.2 ⟨by show 0 ≤ xo; omega, by show xo < (4 : Nat); omega⟩)).trans ?_
      refine (bif_t e2).trans ?_
      show (I.node_show_1 bs[k]?).bind _ = _
      rw [hs1, ret_bind]
      exact bif_t (cat_ok (by show (uw xo).size + _ < _; omega))
    · refine (bif_f (by rfl)).trans ?_; refine (bif_f (by rfl)).trans ?_; refine (bif_f (by rfl)).trans ?_; refine (bif_f (by rfl)).trans ?_; refine (bif_t (by rfl)).trans ?_
      rw [u1, ret_bind, bif_t e0, g0, hs2, ret_bind]
      exact bif_t (cat_ok (by simp only []; omega))
  · obtain ⟨f1, f2⟩ := fd_6 h6
    obtain ⟨a, b, ha, hae, hbe⟩ := sh_6 h5
    match ks, ha with
    | [k, m], ha =>
    simp only [List.map_cons, List.map_nil, List.cons.injEq] at ha
    obtain ⟨s, hs1, hs2, hs3⟩ := goH k (by simp) (by rw [ha.1]; exact hae)
    obtain ⟨s', ht1, ht2, ht3⟩ := goH m (by simp) (by rw [ha.2.1]; exact hbe)
    obtain ⟨rr, u1, u2⟩ := R_mk f1 f2
    have hw : (List.map (WW (wj t.gNodes) out) [k, m]).sum = WW (wj t.gNodes) out k + WW (wj t.gNodes) out m := by simp
    have g1 : (toI [k, m]).getD 1 0 = (m : Int) := rfl
    refine ⟨s ++ ⟨#[32]⟩ ++ mk_ xo ++ ⟨#[32]⟩ ++ s', ?_, ?_, by simp only [ba_size_app, c3]; omega⟩
    · refine (bif_f (by rfl)).trans ?_; refine (bif_f (by rfl)).trans ?_; refine (bif_f (by rfl)).trans ?_; refine (bif_f (by rfl)).trans ?_; refine (bif_f (by rfl)).trans ?_; refine (bif_t (by rfl)).trans ?_
      refine (bif_t e2).trans ?_
      show (I.node_show_1 bs[k]?).bind _ = _
      rw [hs1, ret_bind]
      refine (bif_t (cat_ok (by rw [c3]; omega))).trans ?_
      refine (bif_t (inB_iff.2 ⟨by show 0 ≤ xo; omega, by show xo < (19 : Nat); omega⟩)).trans ?_
      refine (bif_t (cat_ok (by show _ + (mk_ xo).size < _; rw [ba_size_app, c3]; omega))).trans ?_
      refine (bif_t (cat_ok (by show (_ ++ mk_ xo).size + _ < _; simp only [ba_size_app, c3]; omega))).trans ?_
      refine (bif_t e3).trans ?_
      show (I.node_show_1 bs[m]?).bind _ = _
      rw [ht1, ret_bind]
      exact bif_t (cat_ok (by show (_ ++ mk_ xo ++ _).size + _ < _; simp only [ba_size_app, c3]; omega))
    · refine (bif_f (by rfl)).trans ?_; refine (bif_f (by rfl)).trans ?_; refine (bif_f (by rfl)).trans ?_; refine (bif_f (by rfl)).trans ?_; refine (bif_f (by rfl)).trans ?_; refine (bif_t (by rfl)).trans ?_
      rw [u1, ret_bind, bif_t e0, g0, hs2, ret_bind, same_self]
      refine (bif_t (cat_ok (by simp only [c3]; omega))).trans ?_
      refine (bif_t (cat_ok (by simp only [ba_size_app, c3]; omega))).trans ?_
      refine (bif_t (cat_ok (by simp only [ba_size_app, c3]; omega))).trans ?_
      refine (bif_t e1).trans ?_
      rw [g1, ht2, ret_bind, same_self]
      exact bif_t (cat_ok (by simp only [ba_size_app, c3]; omega))
  · have hall := sh_7 hll h5
    obtain ⟨F, hF⟩ := pick (P := Ex t out bs) ks fun k hk => go k hk (List.all_eq_true.1 hall _ (List.mem_map.2 ⟨k, hk, rfl⟩))
    obtain ⟨l1, l2, l3⟩ := hlst h3 F hF hwk ⟨7, xo, xt, xn, xs, kd⟩ (j : Int)
    refine ⟨xs ++ ⟨#[40]⟩ ++ joinB (ks.map F) sepC ++ ⟨#[41]⟩, ?_, ?_, by simp only [ba_size_app, c1, c2]; omega⟩
    · refine (bif_f (by rfl)).trans ?_; refine (bif_f (by rfl)).trans ?_; refine (bif_f (by rfl)).trans ?_; refine (bif_f (by rfl)).trans ?_; refine (bif_f (by rfl)).trans ?_; refine (bif_f (by rfl)).trans ?_; refine (bif_t (by rfl)).trans ?_
      rw [l2, ret_bind, same_self]
      refine (bif_t (cat_ok (by show xs.size + _ < _; simp only [ba_size_app, c1, c2]; omega))).trans ?_
      simp only [ba_assoc]
    · refine (bif_f (by rfl)).trans ?_; refine (bif_f (by rfl)).trans ?_; refine (bif_f (by rfl)).trans ?_; refine (bif_f (by rfl)).trans ?_; refine (bif_f (by rfl)).trans ?_; refine (bif_f (by rfl)).trans ?_; refine (bif_t (by rfl)).trans ?_
      refine (bif_t (cat_ok (by show xs.size + 1 < _; omega))).trans ?_
      rw [l1, ret_bind, same_self]
      refine (bif_t (cat_ok (by show (xs ++ _).size + _ < _; simp only [ba_size_app, c1]; omega))).trans ?_
      exact bif_t (cat_ok (by show (xs ++ _ ++ _).size + _ < _; simp only [ba_size_app, c1, c2]; omega))
  · obtain ⟨f1, f2⟩ := fd_8 h6
    have hall := sh_8 hll f1 f2 h5
    obtain ⟨F, hF⟩ := pick (P := Ex t out bs) ks fun k hk => go k hk (List.all_eq_true.1 hall _ (List.mem_map.2 ⟨k, hk, rfl⟩))
    obtain ⟨l1, l2, l3⟩ := hlst h3 F hF hwk ⟨8, xo, xt, xn, xs, kd⟩ (j : Int)
    obtain ⟨rr, u1, u2⟩ := R_bw f1 f2
    refine ⟨bw xo ++ ⟨#[40]⟩ ++ joinB (ks.map F) sepC ++ ⟨#[41]⟩, ?_, ?_, by simp only [ba_size_app, c1, c2]; omega⟩
    · refine (bif_f (by rfl)).trans ?_; refine (bif_f (by rfl)).trans ?_; refine (bif_f (by rfl)).trans ?_; refine (bif_f (by rfl)).trans ?_; refine (bif_f (by rfl)).trans ?_; refine (bif_f (by rfl)).trans ?_; refine (bif_f (by rfl)).trans ?_; refine (bif_t (by rfl)).trans ?_
      refine (bif_t (inB_iff.2 ⟨by show 0 ≤ xo; omega, by show xo < (13 : Nat); omega⟩)).trans ?_
      rw [l2, ret_bind, same_self]
      refine (bif_t (cat_ok (by show (bw xo).size + _ < _; simp only [ba_size_app, c1, c2]; omega))).trans ?_
      show some (bw xo ++ _) = _
      simp only [ba_assoc]
    · refine (bif_f (by rfl)).trans ?_; refine (bif_f (by rfl)).trans ?_; refine (bif_f (by rfl)).trans ?_; refine (bif_f (by rfl)).trans ?_; refine (bif_f (by rfl)).trans ?_; refine (bif_f (by rfl)).trans ?_; refine (bif_f (by rfl)).trans ?_; refine (bif_t (by rfl)).trans ?_
      rw [u1, ret_bind]
      refine (bif_t (cat_ok (by simp only [c1]; omega))).trans ?_
      rw [l1, ret_bind]
      refine (bif_t (cat_ok (by simp only [ba_size_app, c1]; omega))).trans ?_
      exact bif_t (cat_ok (by simp only [ba_size_app, c1, c2]; omega))
  · obtain ⟨f1, f2⟩ := fd_9 h6
    obtain ⟨a, ha, hae⟩ := sh_9 h5
    have hall : ∀ k ∈ ks, isE (t.gNodes.getD k TNode.z).gKind = true := fun k hk => by
      have : (t.gNodes.getD k TNode.z).gKind ∈ ks.map fun k => (t.gNodes.getD k TNode.z).gKind := List.mem_map.2 ⟨k, hk, rfl⟩
      rw [ha, List.mem_singleton] at this
      rw [this]; exact hae
    obtain ⟨F, hF⟩ := pick (P := Ex t out bs) ks fun k hk => go k hk (hall k hk)
    obtain ⟨l1, l2, l3⟩ := hlst h3 F hF hwk ⟨9, xo, xt, xn, xs, kd⟩ (j : Int)
    have u1 := R_tw (t := xt) (by omega) f2
    have u2 := tw_size (t := xt) (by omega) f2
    refine ⟨tw xt ++ ⟨#[40]⟩ ++ joinB (ks.map F) sepC ++ ⟨#[41]⟩, ?_, ?_, by simp only [ba_size_app, c1, c2]; omega⟩
    · refine (bif_f (by rfl)).trans ?_; refine (bif_f (by rfl)).trans ?_; refine (bif_f (by rfl)).trans ?_; refine (bif_f (by rfl)).trans ?_; refine (bif_f (by rfl)).trans ?_; refine (bif_f (by rfl)).trans ?_; refine (bif_f (by rfl)).trans ?_; refine (bif_f (by rfl)).trans ?_
      refine (bif_t (inB_iff.2 ⟨by show 0 ≤ xt; omega, by show xt < (11 : Nat); omega⟩)).trans ?_
      rw [l2, ret_bind, same_self]
      refine (bif_t (cat_ok (by show (tw xt).size + _ < _; simp only [ba_size_app, c1, c2]; omega))).trans ?_
      show some (tw xt ++ _) = _
      simp only [ba_assoc]
    · refine (bif_f (by rfl)).trans ?_; refine (bif_f (by rfl)).trans ?_; refine (bif_f (by rfl)).trans ?_; refine (bif_f (by rfl)).trans ?_; refine (bif_f (by rfl)).trans ?_; refine (bif_f (by rfl)).trans ?_; refine (bif_f (by rfl)).trans ?_; refine (bif_f (by rfl)).trans ?_
      rw [u1, ret_bind]
      refine (bif_t (cat_ok (by simp only [c1]; omega))).trans ?_
      rw [l1, ret_bind]
      refine (bif_t (cat_ok (by simp only [ba_size_app, c1]; omega))).trans ?_
      exact bif_t (cat_ok (by simp only [ba_size_app, c1, c2]; omega))
end
end Go.KM.P1
namespace Go.KM.P1
open Go Go.KM
open Go.KM.Fam (Dn dflt)
open Go.KM.Enc (cells sz mkE glob gany u8)
set_option autoImplicit false
set_option linter.unusedVariables false
set_option linter.unusedSimpArgs false
set_option linter.unusedSectionVars false
set_option maxRecDepth 100000
def nl : ByteArray := ⟨#[10]⟩
theorem nl_size : nl.size = 1 := rfl
theorem line (m : Bool) (ml : List Int) (ind s : ByteArray) (hB : ml.length + ind.size + s.size + 1 ≤ 70368744177664) :
    I.node_lines_1 (m, ml) ind () s = some ((), ((true, ml ++ strB (ind ++ s ++ nl)), (ind, ()))) := by
  rw [I.node_lines_1_eq, bif_t (cat_ok (by omega)), bif_t (cat_ok (by rw [ba_size_app]; show _ + 1 < _; omega))]
  rw [G.strings_Builder_WriteString_eq]
  have : (ind ++ s ++ nl).size = ind.size + s.size + 1 := by rw [ba_size_app, ba_size_app, nl_size]
  have hr : room (((m, ml) : Bool × List Int).snd.length + (ind ++ s ++ (⟨#[10]⟩ : ByteArray)).size) 1 = true := room_len (by show ml.length + (ind ++ s ++ nl).size ≤ _; omega)
  rw [bif_t hr]
  rfl
def catB : List ByteArray → ByteArray
  | [] => ⟨#[]⟩
  | x :: r => x ++ catB r
theorem catB_snoc (xs : List ByteArray) (y : ByteArray) : catB (xs ++ [y]) = catB xs ++ y := by
  induction xs with
  | nil => show y ++ ⟨#[]⟩ = ⟨#[]⟩ ++ y; rw [ba_nil, nil_ba]
  | cons x r ih => show x ++ catB (r ++ [y]) = x ++ catB r ++ y; rw [ih, ba_assoc]
theorem catB_size (xs : List ByteArray) : (catB xs).size = (xs.map fun x => x.size).sum := by
  induction xs with
  | nil => rfl
  | cons x r ih => show (x ++ catB r).size = _; rw [ba_size_app, ih, List.map_cons, List.sum_cons]
theorem catB_take_le {α : Type} (f : α → ByteArray) (ks : List α) (i : Nat) : (catB ((ks.take i).map f)).size ≤ (catB (ks.map f)).size := by
  rw [catB_size, catB_size, List.map_map, List.map_map]
  have : (ks.map ((fun x => x.size) ∘ f)).sum = ((ks.take i).map ((fun x => x.size) ∘ f)).sum + ((ks.drop i).map ((fun x => x.size) ∘ f)).sum := by
    rw [← List.sum_append, ← List.map_append, List.take_append_drop]
  omega
section
variable {t : TTree} {out : List (List Nat)} {bs : List TNode_} {r : Nat} (h : Root t out bs r) (hI : ∀ x ∈ t.gNodes, I64 x.gN)
def Tl (bs : List TNode_) (j : Nat) (gap tail : ByteArray) : Prop := ∀ m ml, ml.length + tail.size ≤ 70368744177664 → I.node_lines.l64488 bs[j]? m ml gap = some ((), (true, ml ++ strB tail))
def ifB : ByteArray := ⟨#[105, 102, 32]⟩
def obB : ByteArray := ⟨#[32, 123, 10]⟩
def St (t : TTree) (out : List (List Nat)) (bs : List TNode_) (j : Nat) (gap s : ByteArray) : Prop :=
  (∀ m ml, ml.length + gap.size + s.size ≤ 70368744177664 → I.node_lines (m, ml) bs[j]? gap = some ((), (true, ml ++ strB (gap ++ s)))) ∧
  R.l2Pen_statement (t.gNodes, out.map toI) (j : Int) gap = some (s, (t.gNodes, out.map toI)) ∧ s.size + gap.size + 100 ≤ WW (wj t.gNodes) out j ∧
  ((t.gNodes.getD j TNode.z).gKind = 12 → ∃ c tail, s = ifB ++ c ++ obB ++ tail ∧ inB 0 (bs[j]?.getD TNode_.z).gkids.length = true ∧ I.node_show ((bs[j]?.getD TNode_.z).gkids.getD 0 none) = some c ∧ Tl bs j gap tail)
def Bl (t : TTree) (out : List (List Nat)) (bs : List TNode_) (j : Nat) (gap q : ByteArray) : Prop :=
  (∀ m ml, ml.length + q.size ≤ 70368744177664 → ∃ m', I.node_lines_2 (m, ml) gap () bs[j]? = some ((), ((m', ml ++ strB q), (gap, ())))) ∧
  R.l2Pen_block (t.gNodes, out.map toI) (j : Int) (gap ++ ⟨#[32, 32]⟩) = some (q, (t.gNodes, out.map toI)) ∧ q.size ≤ WW (wj t.gNodes) out j
include h hI
theorem block {j : Nat} (hj : j < t.gNodes.length) {ks : List Nat} (h1 : out[j]? = some ks) (hlen : ks.length ≤ 12001) (h4 : bs[j]? = some ⟨t.gNodes.getD j TNode.z, ks.map (fun k => bs[k]?), (j : Int)⟩) (h9 : (out.map toI).getD j [] = toI ks)
    (hw : (ks.map (WW (wj t.gNodes) out)).sum ≤ WW (wj t.gNodes) out j) (hW : WW (wj t.gNodes) out j ≤ 70368744177664) {gap : ByteArray} (hg : gap.size ≤ 1000) (F : Nat → ByteArray) (hF : ∀ k ∈ ks, St t out bs k (gap ++ ⟨#[32, 32]⟩) (F k)) :
    Bl t out bs j gap (catB (ks.map fun k => (gap ++ ⟨#[32, 32]⟩) ++ F k)) := by
  have c2 : (⟨#[32, 32]⟩ : ByteArray).size = 2 := rfl
  have hjo : j < (out.map toI).length := by rw [List.length_map]; exact (List.getElem?_eq_some_iff.1 h1).1
  have hsum : (catB (ks.map fun k => (gap ++ ⟨#[32, 32]⟩) ++ F k)).size ≤ (ks.map (WW (wj t.gNodes) out)).sum := by
    rw [catB_size, List.map_map]
    exact sum_le fun k hk => by
      have := (hF k hk).2.2.1
      show ((gap ++ ⟨#[32, 32]⟩) ++ F k).size ≤ _
      rw [ba_size_app]; omega
  have htk := fun i => catB_take_le (fun k => (gap ++ ⟨#[32, 32]⟩) ++ F k) ks i
  refine ⟨fun m ml hml => ?_, ?_, by omega⟩
  · have hl : (ks.map fun k => bs[k]?).length = ks.length := List.length_map _
    have loop : ∀ (n i : Nat), i + n = ks.length → ∀ m, ∃ m', I.node_lines_2.l12 (ks.map fun k => bs[k]?) (ks.map fun k => bs[k]?).length i m (ml ++ strB (catB ((ks.take i).map fun k => (gap ++ ⟨#[32, 32]⟩) ++ F k))) gap = some ((), ((m', ml ++ strB (catB (ks.map fun k => (gap ++ ⟨#[32, 32]⟩) ++ F k))), (gap, ()))) := by
      intro n
      induction n with
      | zero =>
        intro i hi m
        rw [I.node_lines_2.l12_eq, bif_f (ge_dec (by omega)), List.take_of_length_le (by omega)]
        exact ⟨m, rfl⟩
      | succ n ih =>
        intro i hi m
        have hil : i < ks.length := by omega
        have hil' : i < (ks.map fun k => bs[k]?).length := by omega
        have hgi : (ks.map fun k => bs[k]?).getD i none = bs[ks[i]]? := by rw [getD_lt hil']; simp
        have hS := hF ks[i] (List.getElem_mem hil)
        have htake : ks.take (i + 1) = ks.take i ++ [ks[i]] := by rw [List.take_add_one, List.getElem?_eq_getElem hil]; rfl
        have h1' := htk (i + 1)
        have ih := ih (i + 1) (by omega) true
        rw [htake, List.map_append, List.map_cons, List.map_nil, catB_snoc] at ih h1'
        rw [ba_size_app] at h1'
        rw [I.node_lines_2.l12_eq, bif_t (lt_dec hil'), bif_t (inB_nat hil'), bif_t (cat_ok (by rw [c2]; omega)), Int.toNat_natCast, hgi, hS.1 _ _ (by
          rw [List.length_append, strB_len]
          rw [ba_size_app (gap ++ _)] at h1'
          omega), ret_bind, wi_succ (by omega)]
        rw [strB_app (catB _), ← List.append_assoc] at ih
        exact ih
    obtain ⟨m', hm'⟩ := loop ks.length 0 (Nat.zero_add _) m
    refine ⟨m', ?_⟩
    rw [I.node_lines_2_eq, h4, bif_t (by rfl)]
    have e : ml ++ strB (catB ((ks.take 0).map fun k => (gap ++ ⟨#[32, 32]⟩) ++ F k)) = ml := by show ml ++ [] = ml; simp
    rw [e] at hm'
    exact hm'
  · have loop : ∀ (n i : Nat), i + n = ks.length → R.l2Pen_block.l244 (gap ++ ⟨#[32, 32]⟩) (strB (catB ((ks.take i).map fun k => (gap ++ ⟨#[32, 32]⟩) ++ F k))) (toI ks) i t.gNodes (out.map toI) = some (catB (ks.map fun k => (gap ++ ⟨#[32, 32]⟩) ++ F k), (t.gNodes, out.map toI)) := by
      have hl : (toI ks).length = ks.length := by simp [toI]
      intro n
      induction n with
      | zero =>
        intro i hi
        rw [R.l2Pen_block.l244_eq, bif_f (ge_dec (by omega)), List.take_of_length_le (by omega), List.map_id', strOf_strB]
      | succ n ih =>
        intro i hi
        have hil : i < ks.length := by omega
        have hil' : i < (toI ks).length := by omega
        have hgi : (toI ks).getD i 0 = (ks[i] : Int) := by rw [getD_lt hil']; simp [toI]
        have hS := hF ks[i] (List.getElem_mem hil)
        have htake : ks.take (i + 1) = ks.take i ++ [ks[i]] := by rw [List.take_add_one, List.getElem?_eq_getElem hil]; rfl
        have h1' := htk (i + 1)
        have ih := ih (i + 1) (by omega)
        rw [htake, List.map_append, List.map_cons, List.map_nil, catB_snoc] at ih h1'
        rw [ba_size_app, ba_size_app (gap ++ _)] at h1'
        rw [R.l2Pen_block.l244_eq, bif_t (lt_dec hil'), bif_t (room_len (by rw [strB_len]; omega)), bif_t (inB_nat hil'), Int.toNat_natCast, hgi, hS.2.1, ret_bind]
        refine (bif_t (room_len (by rw [List.length_append, strB_len]; show _ + (strB (gap ++ ⟨#[32, 32]⟩)).length + (F ks[i]).size ≤ _; rw [strB_len]; omega))).trans ?_
        rw [wi_succ (by omega)]
        rw [strB_app (catB _), strB_app (gap ++ _), ← List.append_assoc] at ih
        exact ih
    rw [R.l2Pen_block_eq]
    refine (bif_t (inB_nat hjo)).trans ?_
    simp only [Int.toNat_natCast, h9]
    exact loop ks.length 0 (Nat.zero_add _)
end
end Go.KM.P1
