/- Plain laws: every statement is printed alike, kind by kind. Conditions: none. -/
import Derived.Test.YtdhkmgloghlnnaaGreatDoorPd
namespace Go.KM.P1
open Go Go.KM
open Go.KM.Fam (Dn dflt)
open Go.KM.Enc (cells sz mkE glob gany u8)
set_option autoImplicit false
set_option linter.unusedVariables false
set_option linter.unusedSimpArgs false
set_option linter.unusedSectionVars false
set_option maxRecDepth 100000
theorem map_nil' {α β : Type} {f : α → β} {ks : List α} (h : ks.map f = []) : ks = [] := List.map_eq_nil_iff.1 h
theorem map_one' {α β : Type} {f : α → β} {ks : List α} {a : β} (h : ks.map f = [a]) : ∃ k, ks = [k] ∧ f k = a := by
  match ks, h with
  | [k], h => simp at h; exact ⟨k, rfl, h⟩
theorem map_two' {α β : Type} {f : α → β} {ks : List α} {a b : β} (h : ks.map f = [a, b]) : ∃ k m, ks = [k, m] ∧ f k = a ∧ f m = b := by
  match ks, h with
  | [k, m], h => simp at h; exact ⟨k, m, rfl, h.1, h.2⟩
theorem map_three' {α β : Type} {f : α → β} {ks : List α} {a b c : β} (h : ks.map f = [a, b, c]) : ∃ k m n, ks = [k, m, n] ∧ f k = a ∧ f m = b ∧ f n = c := by
  match ks, h with
  | [k, m, n], h => simp at h; exact ⟨k, m, n, rfl, h.1, h.2.1, h.2.2⟩
theorem lit_size (a : Array UInt8) : (⟨a⟩ : ByteArray).size = a.size := rfl
theorem semi (x : ByteArray) : x ++ ⟨#[59]⟩ ++ nl = x ++ ⟨#[59, 10]⟩ := by
  rw [ba_assoc]; congr 1
theorem brace (x : ByteArray) : x ++ ⟨#[125]⟩ ++ nl = x ++ ⟨#[125, 10]⟩ := by
  rw [ba_assoc]; congr 1
theorem ob_nl (x : ByteArray) : x ++ ⟨#[32, 123]⟩ ++ nl = x ++ obB := by
  rw [ba_assoc]; congr 1
theorem elif (x : ByteArray) : x ++ ⟨#[125]⟩ ++ ⟨#[32, 101, 108, 115, 101, 32]⟩ ++ ifB = x ++ ⟨#[125, 32, 101, 108, 115, 101, 32, 105, 102, 32]⟩ := by
  rw [ba_assoc, ba_assoc]; congr 1
theorem else_ (x : ByteArray) : x ++ ⟨#[125]⟩ ++ ⟨#[32, 101, 108, 115, 101, 32, 123, 10]⟩ = x ++ ⟨#[125, 32, 101, 108, 115, 101, 32, 123]⟩ ++ nl := by
  rw [ba_assoc, ba_assoc]; congr 1
theorem zz : (∀ s t : ByteArray, (s ++ t).size = s.size + t.size) ∧ (∀ a : Array UInt8, (⟨a⟩ : ByteArray).size = a.size) ∧ nl = ⟨#[10]⟩ ∧ ifB = ⟨#[105, 102, 32]⟩ ∧ obB = ⟨#[32, 123, 10]⟩ ∧ sepC = ⟨#[44, 32]⟩ ∧ (∀ l : List UInt8, l.toArray.size = l.length) ∧ (∀ (a : UInt8) l, (a :: l).length = l.length + 1) ∧ ([] : List UInt8).length = 0 ∧ (∀ l m : List Int, (l ++ m).length = l.length + m.length) ∧ ∀ s, (strB s).length = s.size :=
  ⟨ba_size_app, lit_size, rfl, rfl, rfl, rfl, fun _ => List.size_toArray, fun _ _ => rfl, rfl, fun _ _ => List.length_append, strB_len⟩
section
variable {t : TTree} {out : List (List Nat)} {bs : List TNode_} {r : Nat} (h : Root t out bs r) (hI : ∀ x ∈ t.gNodes, I64 x.gN)
include h hI
set_option maxHeartbeats 1000000 in
theorem stmts (hx : ∀ x ∈ t.gNodes, x.gText.size ≤ 1048576) : ∀ j, j < t.gNodes.length → isS (t.gNodes.getD j TNode.z).gKind = true → WW (wj t.gNodes) out j ≤ 70368744177664 → ∀ gap : ByteArray, gap.size + 2 * Hh out j ≤ 500 → ∃ s, St t out bs j gap s := by
  intro j
  induction j using Nat.strongRecOn with
  | ind j ih =>
  intro hj hE hW gap hg
  obtain ⟨ks, h1, h2, h3, h4, h5, h6, h7, h8, h9, h10⟩ := view h hI hj
  have hx' : (t.gNodes.getD j TNode.z).gText.size ≤ 1048576 := by rw [getD_lt hj]; exact hx _ (List.getElem_mem _)
  have hlt : ∀ k ∈ ks, k < t.gNodes.length := fun k hk => Nat.lt_trans (h2 k hk) hj
  have hwj : wj t.gNodes j = 4 * (t.gNodes.getD j TNode.z).gText.size + 3000 := rfl
  have wk : ∀ k ∈ ks, WW (wj t.gNodes) out k ≤ (ks.map (WW (wj t.gNodes) out)).sum := fun k hk => sum_ge hk
  have go : ∀ k ∈ ks, isE (t.gNodes.getD k TNode.z).gKind = true → ∃ s, Ex t out bs k s := fun k hk he => exprs h hI hx k (hlt k hk) he (Nat.le_trans (h8 k hk) hW)
  have goB : ∀ k ∈ ks, (t.gNodes.getD k TNode.z).gKind = 21 → ∃ q, Bl t out bs k gap q := fun k hk he => by
    obtain ⟨ls, a1, a2, a3, a4, a5, a6, a7, a8, a9, a10⟩ := view h hI (hlt k hk)
    have hwk := Nat.le_trans (h8 k hk) hW
    have hk10 := h10 k hk
    have hall : (ls.map fun k => (t.gNodes.getD k TNode.z).gKind).all isS = true := by
      have hll : (ls.map fun k => (t.gNodes.getD k TNode.z).gKind).length ≤ 100000 := by rw [List.length_map]; omega
      obtain ⟨nd, hnd⟩ : ∃ nd, t.gNodes.getD k TNode.z = nd := ⟨_, rfl⟩
      rw [hnd] at he a5
      obtain ⟨xk, xo, xt, xn, xs, kd⟩ := nd
      have he : xk = 21 := he
      subst he
      exact sh_21 hll a5
    obtain ⟨F, hF⟩ := pick (P := fun k' => St t out bs k' (gap ++ ⟨#[32, 32]⟩)) ls fun k' hk' => ih k' (Nat.lt_trans (a2 k' hk') (h2 k hk)) (Nat.lt_trans (a2 k' hk') (hlt k hk)) (List.all_eq_true.1 hall _ (List.mem_map.2 ⟨k', hk', rfl⟩)) (Nat.le_trans (a8 k' hk') hwk) _ (by
      have := a10 k' hk'
      rw [ba_size_app]; show gap.size + 2 + _ ≤ _; omega)
    exact ⟨_, block h hI (hlt k hk) a1 a3 a4 a9 (by omega) hwk (by omega) F hF⟩
  have hjo : j < (out.map toI).length := by rw [List.length_map]; exact (List.getElem?_eq_some_iff.1 h1).1
  have g0 : ∀ {k : Nat} {l : List Nat}, (toI (k :: l)).getD 0 0 = (k : Int) := rfl
  have e0 : ∀ {k : Nat} {l : List Nat}, inB 0 (toI (k :: l)).length = true := fun {k l} => inB_iff.2 ⟨by omega, by simp [toI]⟩
  have e1 : ∀ {k m : Nat} {l : List Nat}, inB 1 (toI (k :: m :: l)).length = true := fun {k m l} => inB_iff.2 ⟨by omega, by simp [toI]; omega⟩
  have e2 : ∀ {k : Nat} {l : List Nat}, inB 0 ((k :: l).map fun k => bs[k]?).length = true := fun {k l} => inB_iff.2 ⟨by omega, by simp⟩
  have e3 : ∀ {k m : Nat} {l : List Nat}, inB 1 ((k :: m :: l).map fun k => bs[k]?).length = true := fun {k m l} => inB_iff.2 ⟨by omega, by simp; omega⟩
  have e4 : ∀ {k m n : Nat} {l : List Nat}, inB 2 ((k :: m :: n :: l).map fun k => bs[k]?).length = true := fun {k m n l} => inB_iff.2 ⟨by omega, by simp; omega⟩
  have e5 : ∀ {k m n : Nat} {l : List Nat}, inB 2 (toI (k :: m :: n :: l)).length = true := fun {k m n l} => inB_iff.2 ⟨by omega, by simp [toI]; omega⟩
  have d0 : ∀ {k : Nat} {l : List Nat}, (List.map (fun k => bs[k]?) (k :: l)).getD 0 none = bs[k]? := rfl
  have d1 : ∀ {k m : Nat} {l : List Nat}, (List.map (fun k => bs[k]?) (k :: m :: l)).getD 1 none = bs[m]? := rfl
  have d2 : ∀ {k m n : Nat} {l : List Nat}, (List.map (fun k => bs[k]?) (k :: m :: n :: l)).getD 2 none = bs[n]? := rfl
  have f1 : ∀ {k m : Nat} {l : List Nat}, (toI (k :: m :: l)).getD 1 0 = (m : Int) := rfl
  have f2 : ∀ {k m n : Nat} {l : List Nat}, (toI (k :: m :: n :: l)).getD 2 0 = (n : Int) := rfl
  have hlst := fun (hlen : ks.length ≤ 12001) F hF hw nd num => lists h hI hlen F hF hw nd num
  unfold St
  rw [h4, R.l2Pen_statement_eq]
  obtain ⟨nd, hnd⟩ : ∃ nd, t.gNodes.getD j TNode.z = nd := ⟨_, rfl⟩
  rw [hnd] at h4 h5 h6 hx' hwj hE
  simp only [Int.toNat_natCast, h9, Option.isSome_some, Option.getD_some, cond_true, hnd]
  simp only [bif_t (inB_nat hj), bif_t (inB_nat hjo)]
  obtain ⟨xk, xo, xt, xn, xs, kd⟩ := nd
  simp only [] at hx' hwj hE
  have hk9 : xk = 10 ∨ xk = 11 ∨ xk = 12 ∨ xk = 13 ∨ xk = 14 ∨ xk = 15 ∨ xk = 16 ∨ xk = 17 ∨ xk = 18 ∨ xk = 19 ∨ xk = 20 := by
    simp only [isS, Bool.and_eq_true, decide_eq_true_eq] at hE; omega
  rcases hk9 with rfl | rfl | rfl | rfl | rfl | rfl | rfl | rfl | rfl | rfl | rfl
  · obtain ⟨a, ha, hae⟩ := sh_10 h5
    obtain ⟨k, rfl, ha0⟩ := map_one' ha
    obtain ⟨e, hs1, hs2, hs3⟩ := go k (by simp) (by rw [ha0]; exact hae)
    have hw := wk k (by simp)
    refine ⟨⟨#[108, 101, 116, 32]⟩ ++ xs ++ ⟨#[32, 61, 32]⟩ ++ e ++ ⟨#[59]⟩ ++ nl, fun m ml hml => ?_, ?_, by ((try simp only [zz] at *) <;> omega), fun hk => absurd hk (by simp)⟩
    · rw [I.node_lines_eq]
      simp only [Option.isSome_some, Option.getD_some, cond_true]
      refine (bif_t (by rfl)).trans ?_
      refine (bif_t (cat_ok (by ((try simp only [zz] at *) <;> omega)))).trans ?_
      refine (bif_t (cat_ok (by ((try simp only [zz] at *) <;> omega)))).trans ?_
      refine (bif_t e2).trans ?_
      rw [d0, hs1, ret_bind]
      refine (bif_t (cat_ok (by ((try simp only [zz] at *) <;> omega)))).trans ?_
      refine (bif_t (cat_ok (by ((try simp only [zz] at *) <;> omega)))).trans ?_
      rw [line _ _ _ _ (by ((try simp only [zz] at *) <;> omega)), ret_bind, ba_assoc gap]
    · refine (bif_t (by rfl)).trans ?_
      refine (bif_t (cat_ok (by ((try simp only [zz] at *) <;> omega)))).trans ?_
      refine (bif_t (cat_ok (by ((try simp only [zz] at *) <;> omega)))).trans ?_
      refine (bif_t e0).trans ?_
      rw [g0, hs2, ret_bind, same_self]
      refine (bif_t (cat_ok (by ((try simp only [zz] at *) <;> omega)))).trans ?_
      refine (bif_t (cat_ok (by ((try simp only [zz] at *) <;> omega)))).trans ?_
      rw [semi]
  · obtain ⟨a, ha, hae⟩ := sh_11 h5
    obtain ⟨k, rfl, ha0⟩ := map_one' ha
    obtain ⟨e, hs1, hs2, hs3⟩ := go k (by simp) (by rw [ha0]; exact hae)
    have hw := wk k (by simp)
    refine ⟨xs ++ ⟨#[32, 61, 32]⟩ ++ e ++ ⟨#[59]⟩ ++ nl, fun m ml hml => ?_, ?_, by ((try simp only [zz] at *) <;> omega), fun hk => absurd hk (by simp)⟩
    · rw [I.node_lines_eq]
      simp only [Option.isSome_some, Option.getD_some, cond_true]
      refine (bif_f (by rfl)).trans ?_; refine (bif_t (by rfl)).trans ?_
      refine (bif_t (cat_ok (by ((try simp only [zz] at *) <;> omega)))).trans ?_
      refine (bif_t e2).trans ?_
      rw [d0, hs1, ret_bind]
      refine (bif_t (cat_ok (by ((try simp only [zz] at *) <;> omega)))).trans ?_
      refine (bif_t (cat_ok (by ((try simp only [zz] at *) <;> omega)))).trans ?_
      rw [line _ _ _ _ (by ((try simp only [zz] at *) <;> omega)), ret_bind, ba_assoc gap]
    · refine (bif_f (by rfl)).trans ?_; refine (bif_t (by rfl)).trans ?_
      refine (bif_t (cat_ok (by ((try simp only [zz] at *) <;> omega)))).trans ?_
      refine (bif_t e0).trans ?_
      rw [g0, hs2, ret_bind, same_self]
      refine (bif_t (cat_ok (by ((try simp only [zz] at *) <;> omega)))).trans ?_
      refine (bif_t (cat_ok (by ((try simp only [zz] at *) <;> omega)))).trans ?_
      rw [semi]
  · rcases sh_12 h5 with ⟨a, ha, hae⟩ | ⟨a, cc, ha, hae, hcc⟩
    · obtain ⟨k, k', rfl, ha0, ha1⟩ := map_two' ha
      obtain ⟨c, hs1, hs2, hs3⟩ := go k (by simp) (by rw [ha0]; exact hae)
      obtain ⟨q, hq1, hq2, hq3⟩ := goB k' (by simp) ha1
      have hw : (List.map (WW (wj t.gNodes) out) [k, k']).sum = WW (wj t.gNodes) out k + WW (wj t.gNodes) out k' := by simp
      · have htl : Tl bs j gap (q ++ gap ++ ⟨#[125]⟩ ++ nl) := fun m ml hml => by
          rw [I.node_lines.l64488_eq, h4]
          simp only [Option.isSome_some, Option.getD_some, cond_true]
          refine (bif_t e3).trans ?_
          obtain ⟨m', hm'⟩ := hq1 m ml (by ((try simp only [zz] at *) <;> omega))
          rw [d1, hm', ret_bind]
          refine (bif_t (by rfl)).trans ?_
          refine (congrArg (fun x => Option.bind x _) (line m' _ gap _ (by ((try simp only [zz] at *) <;> omega)))).trans ?_
          show some ((), (true, _)) = some ((), (true, _))
          congr 3
          simp only [strB_app, List.append_assoc]
        obtain ⟨tail, hT⟩ : ∃ tail : ByteArray, q ++ gap ++ ⟨#[125]⟩ ++ nl = tail := ⟨_, rfl⟩
        rw [hT] at htl
        have hts : tail.size = (q ++ gap ++ ⟨#[125]⟩ ++ nl : ByteArray).size := by rw [hT]
        refine ⟨ifB ++ c ++ obB ++ tail, fun m ml hml => ?_, ?_, by ((try simp only [zz] at *) <;> omega), fun _ => ⟨c, tail, rfl, e2, hs1, htl⟩⟩
        · rw [I.node_lines_eq]
          simp only [Option.isSome_some, Option.getD_some, cond_true]
          refine (bif_f (by rfl)).trans ?_; refine (bif_f (by rfl)).trans ?_; refine (bif_t (by rfl)).trans ?_
          refine (bif_t e2).trans ?_
          rw [d0, hs1, ret_bind]
          refine (bif_t (cat_ok (by ((try simp only [zz] at *) <;> omega)))).trans ?_
          refine (bif_t (cat_ok (by ((try simp only [zz] at *) <;> omega)))).trans ?_
          rw [line _ _ _ _ (by ((try simp only [zz] at *) <;> omega)), ret_bind]
          rw [← h4]
          refine (htl true (ml ++ strB (gap ++ (⟨#[105, 102, 32]⟩ ++ c ++ ⟨#[32, 123]⟩) ++ nl)) (by ((try simp only [zz] at *) <;> omega))).trans ?_
          congr 3
          show _ = ml ++ strB (gap ++ (ifB ++ c ++ obB ++ _))
          simp only [← ob_nl, strB_app, List.append_assoc]
          rfl
        · refine (bif_f (by rfl)).trans ?_; refine (bif_f (by rfl)).trans ?_; refine (bif_t (by rfl)).trans ?_
          refine (bif_t e0).trans ?_
          rw [g0, hs2, ret_bind, same_self]
          refine (bif_t (cat_ok (by ((try simp only [zz] at *) <;> omega)))).trans ?_
          refine (bif_t (cat_ok (by ((try simp only [zz] at *) <;> omega)))).trans ?_
          refine (bif_t e1).trans ?_
          refine (bif_t (cat_ok (by ((try simp only [zz] at *) <;> omega)))).trans ?_
          rw [f1, hq2, ret_bind, same_self]
          refine (bif_t (cat_ok (by ((try simp only [zz] at *) <;> omega)))).trans ?_
          refine (bif_t (cat_ok (by ((try simp only [zz] at *) <;> omega)))).trans ?_
          refine (bif_t (cat_ok (by ((try simp only [zz] at *) <;> omega)))).trans ?_
          refine (bif_t (by rfl)).trans ?_
          refine (bif_t (cat_ok (by ((try simp only [zz] at *) <;> omega)))).trans ?_
          rw [← hT]
          simp only [ba_assoc]
          rfl
    · obtain ⟨k, k', k2, rfl, ha0, ha1, ha2⟩ := map_three' ha
      obtain ⟨c, hs1, hs2, hs3⟩ := go k (by simp) (by rw [ha0]; exact hae)
      obtain ⟨q, hq1, hq2, hq3⟩ := goB k' (by simp) ha1
      have hw : (List.map (WW (wj t.gNodes) out) [k, k', k2]).sum = WW (wj t.gNodes) out k + (WW (wj t.gNodes) out k' + WW (wj t.gNodes) out k2) := by simp
      have hk2 : k2 < t.gNodes.length := hlt k2 (by simp)
      obtain ⟨ls, a1, a2, a3, a4, a5, a6, a7, a8, a9, a10⟩ := view h hI hk2
      have hso : bs[k2]?.isSome = true := by rw [a4]; rfl
      have hkd : (bs[k2]?.getD TNode_.z).gNode.gKind = cc := by rw [a4]; exact ha2
      rcases hcc with rfl | rfl
      · obtain ⟨q', hp1, hp2, hp3⟩ := goB k2 (by simp) ha2
        have htl : Tl bs j gap (q ++ gap ++ ⟨#[125, 32, 101, 108, 115, 101, 32, 123]⟩ ++ nl ++ q' ++ gap ++ ⟨#[125]⟩ ++ nl) := fun m ml hml => by
          rw [I.node_lines.l64488_eq, h4]
          simp only [Option.isSome_some, Option.getD_some, cond_true]
          refine (bif_t e3).trans ?_
          obtain ⟨m', hm'⟩ := hq1 m ml (by ((try simp only [zz] at *) <;> omega))
          rw [d1, hm', ret_bind]
          refine (bif_f (by rfl)).trans ?_
          refine (bif_t e4).trans ?_
          rw [d2]
          refine (bif_t hso).trans ?_
          refine (bif_f (by rw [hkd]; rfl)).trans ?_
          refine (congrArg (fun x => Option.bind x _) (line m' _ gap _ (by ((try simp only [zz] at *) <;> omega)))).trans ?_
          rw [ret_bind]
          obtain ⟨m2, hm2⟩ := hp1 true (ml ++ strB q ++ strB (gap ++ ⟨#[125, 32, 101, 108, 115, 101, 32, 123]⟩ ++ nl)) (by ((try simp only [zz] at *) <;> omega))
          refine (congrArg (fun x => Option.bind x _) hm2).trans ?_
          rw [ret_bind]
          refine (congrArg (fun x => Option.bind x _) (line m2 _ gap _ (by ((try simp only [zz] at *) <;> omega)))).trans ?_
          show some ((), (true, _)) = some ((), (true, _))
          congr 3
          simp only [strB_app, List.append_assoc]
        obtain ⟨tail, hT⟩ : ∃ tail : ByteArray, q ++ gap ++ ⟨#[125, 32, 101, 108, 115, 101, 32, 123]⟩ ++ nl ++ q' ++ gap ++ ⟨#[125]⟩ ++ nl = tail := ⟨_, rfl⟩
        rw [hT] at htl
        have hts : tail.size = (q ++ gap ++ ⟨#[125, 32, 101, 108, 115, 101, 32, 123]⟩ ++ nl ++ q' ++ gap ++ ⟨#[125]⟩ ++ nl : ByteArray).size := by rw [hT]
        refine ⟨ifB ++ c ++ obB ++ tail, fun m ml hml => ?_, ?_, by ((try simp only [zz] at *) <;> omega), fun _ => ⟨c, tail, rfl, e2, hs1, htl⟩⟩
        · rw [I.node_lines_eq]
          simp only [Option.isSome_some, Option.getD_some, cond_true]
          refine (bif_f (by rfl)).trans ?_; refine (bif_f (by rfl)).trans ?_; refine (bif_t (by rfl)).trans ?_
          refine (bif_t e2).trans ?_
          rw [d0, hs1, ret_bind]
          refine (bif_t (cat_ok (by ((try simp only [zz] at *) <;> omega)))).trans ?_
          refine (bif_t (cat_ok (by ((try simp only [zz] at *) <;> omega)))).trans ?_
          rw [line _ _ _ _ (by ((try simp only [zz] at *) <;> omega)), ret_bind]
          rw [← h4]
          refine (htl true (ml ++ strB (gap ++ (⟨#[105, 102, 32]⟩ ++ c ++ ⟨#[32, 123]⟩) ++ nl)) (by ((try simp only [zz] at *) <;> omega))).trans ?_
          congr 3
          show _ = ml ++ strB (gap ++ (ifB ++ c ++ obB ++ _))
          simp only [← ob_nl, strB_app, List.append_assoc]
          rfl
        · refine (bif_f (by rfl)).trans ?_; refine (bif_f (by rfl)).trans ?_; refine (bif_t (by rfl)).trans ?_
          refine (bif_t e0).trans ?_
          rw [g0, hs2, ret_bind, same_self]
          refine (bif_t (cat_ok (by ((try simp only [zz] at *) <;> omega)))).trans ?_
          refine (bif_t (cat_ok (by ((try simp only [zz] at *) <;> omega)))).trans ?_
          refine (bif_t e1).trans ?_
          refine (bif_t (cat_ok (by ((try simp only [zz] at *) <;> omega)))).trans ?_
          rw [f1, hq2, ret_bind, same_self]
          refine (bif_t (cat_ok (by ((try simp only [zz] at *) <;> omega)))).trans ?_
          refine (bif_t (cat_ok (by ((try simp only [zz] at *) <;> omega)))).trans ?_
          refine (bif_t (cat_ok (by ((try simp only [zz] at *) <;> omega)))).trans ?_
          refine (bif_f (by rfl)).trans ?_
          refine (bif_t e5).trans ?_
          rw [f2]
          refine (bif_t (inB_nat hk2)).trans ?_
          refine (bif_f (by rw [Int.toNat_natCast, ha2]; rfl)).trans ?_
          refine (bif_t (cat_ok (by ((try simp only [zz] at *) <;> omega)))).trans ?_
          refine (bif_t e5).trans ?_
          refine (bif_t (cat_ok (by ((try simp only [zz] at *) <;> omega)))).trans ?_
          rw [hp2, ret_bind]
          refine (bif_t (cat_ok (by ((try simp only [zz] at *) <;> omega)))).trans ?_
          refine (bif_t (cat_ok (by ((try simp only [zz] at *) <;> omega)))).trans ?_
          refine (bif_t (cat_ok (by ((try simp only [zz] at *) <;> omega)))).trans ?_
          rw [else_, ← brace]
          rw [← hT]
          simp only [ba_assoc]
          rfl
      · obtain ⟨s2, hp1, hp2, hp3, hp4⟩ := ih k2 (h2 k2 (by simp)) hk2 (by rw [ha2]; rfl) (Nat.le_trans (h8 k2 (by simp)) hW) gap (by have := h10 k2 (by simp); omega)
        obtain ⟨c2, tail2, rfl, hb1, hb2, hb3⟩ := hp4 ha2
        have htl : Tl bs j gap (q ++ gap ++ ⟨#[125, 32, 101, 108, 115, 101, 32, 105, 102, 32]⟩ ++ c2 ++ obB ++ tail2) := fun m ml hml => by
          rw [I.node_lines.l64488_eq, h4]
          simp only [Option.isSome_some, Option.getD_some, cond_true]
          refine (bif_t e3).trans ?_
          obtain ⟨m', hm'⟩ := hq1 m ml (by ((try simp only [zz] at *) <;> omega))
          rw [d1, hm', ret_bind]
          refine (bif_f (by rfl)).trans ?_
          refine (bif_t e4).trans ?_
          rw [d2]
          refine (bif_t hso).trans ?_
          refine (bif_t (by rw [hkd]; rfl)).trans ?_
          refine (bif_t hso).trans ?_
          refine (bif_t hb1).trans ?_
          rw [hb2, ret_bind]
          refine (bif_t (cat_ok (by ((try simp only [zz] at *) <;> omega)))).trans ?_
          refine (bif_t (cat_ok (by ((try simp only [zz] at *) <;> omega)))).trans ?_
          refine (congrArg (fun x => Option.bind x _) (line m' _ gap _ (by ((try simp only [zz] at *) <;> omega)))).trans ?_
          rw [ret_bind]
          refine (hb3 true (ml ++ strB q ++ strB (gap ++ (⟨#[125, 32, 101, 108, 115, 101, 32, 105, 102, 32]⟩ ++ c2 ++ ⟨#[32, 123]⟩) ++ nl)) (by ((try simp only [zz] at *) <;> omega))).trans ?_
          congr 3
          simp only [← ob_nl, strB_app, List.append_assoc]
        obtain ⟨tail, hT⟩ : ∃ tail : ByteArray, q ++ gap ++ ⟨#[125, 32, 101, 108, 115, 101, 32, 105, 102, 32]⟩ ++ c2 ++ obB ++ tail2 = tail := ⟨_, rfl⟩
        rw [hT] at htl
        have hts : tail.size = (q ++ gap ++ ⟨#[125, 32, 101, 108, 115, 101, 32, 105, 102, 32]⟩ ++ c2 ++ obB ++ tail2 : ByteArray).size := by rw [hT]
        refine ⟨ifB ++ c ++ obB ++ tail, fun m ml hml => ?_, ?_, by ((try simp only [zz] at *) <;> omega), fun _ => ⟨c, tail, rfl, e2, hs1, htl⟩⟩
        · rw [I.node_lines_eq]
          simp only [Option.isSome_some, Option.getD_some, cond_true]
          refine (bif_f (by rfl)).trans ?_; refine (bif_f (by rfl)).trans ?_; refine (bif_t (by rfl)).trans ?_
          refine (bif_t e2).trans ?_
          rw [d0, hs1, ret_bind]
          refine (bif_t (cat_ok (by ((try simp only [zz] at *) <;> omega)))).trans ?_
          refine (bif_t (cat_ok (by ((try simp only [zz] at *) <;> omega)))).trans ?_
          rw [line _ _ _ _ (by ((try simp only [zz] at *) <;> omega)), ret_bind]
          rw [← h4]
          refine (htl true (ml ++ strB (gap ++ (⟨#[105, 102, 32]⟩ ++ c ++ ⟨#[32, 123]⟩) ++ nl)) (by ((try simp only [zz] at *) <;> omega))).trans ?_
          congr 3
          show _ = ml ++ strB (gap ++ (ifB ++ c ++ obB ++ _))
          simp only [← ob_nl, strB_app, List.append_assoc]
          rfl
        · refine (bif_f (by rfl)).trans ?_; refine (bif_f (by rfl)).trans ?_; refine (bif_t (by rfl)).trans ?_
          refine (bif_t e0).trans ?_
          rw [g0, hs2, ret_bind, same_self]
          refine (bif_t (cat_ok (by ((try simp only [zz] at *) <;> omega)))).trans ?_
          refine (bif_t (cat_ok (by ((try simp only [zz] at *) <;> omega)))).trans ?_
          refine (bif_t e1).trans ?_
          refine (bif_t (cat_ok (by ((try simp only [zz] at *) <;> omega)))).trans ?_
          rw [f1, hq2, ret_bind, same_self]
          refine (bif_t (cat_ok (by ((try simp only [zz] at *) <;> omega)))).trans ?_
          refine (bif_t (cat_ok (by ((try simp only [zz] at *) <;> omega)))).trans ?_
          refine (bif_t (cat_ok (by ((try simp only [zz] at *) <;> omega)))).trans ?_
          refine (bif_f (by rfl)).trans ?_
          refine (bif_t e5).trans ?_
          rw [f2]
          refine (bif_t (inB_nat hk2)).trans ?_
          refine (bif_t (by rw [Int.toNat_natCast, ha2]; rfl)).trans ?_
          refine (bif_t (cat_ok (by ((try simp only [zz] at *) <;> omega)))).trans ?_
          refine (bif_t e5).trans ?_
          rw [hp2, ret_bind]
          refine (bif_t (cat_ok (by ((try simp only [zz] at *) <;> omega)))).trans ?_
          rw [← ba_assoc (_ ++ ⟨#[32, 101, 108, 115, 101, 32]⟩) (ifB ++ c2 ++ obB), ← ba_assoc (_ ++ ⟨#[32, 101, 108, 115, 101, 32]⟩) (ifB ++ c2), ← ba_assoc (_ ++ ⟨#[32, 101, 108, 115, 101, 32]⟩) ifB, elif]
          rw [← hT]
          simp only [ba_assoc]
          rfl
  · obtain ⟨a, ha, hae⟩ := sh_13 h5
    obtain ⟨k, k', rfl, ha0, ha1⟩ := map_two' ha
    obtain ⟨c, hs1, hs2, hs3⟩ := go k (by simp) (by rw [ha0]; exact hae)
    obtain ⟨q, hq1, hq2, hq3⟩ := goB k' (by simp) ha1
    have hw : (List.map (WW (wj t.gNodes) out) [k, k']).sum = WW (wj t.gNodes) out k + WW (wj t.gNodes) out k' := by simp
    refine ⟨⟨#[119, 104, 105, 108, 101, 32]⟩ ++ c ++ obB ++ q ++ gap ++ ⟨#[125]⟩ ++ nl, fun m ml hml => ?_, ?_, by ((try simp only [zz] at *) <;> omega), fun hk => absurd hk (by simp)⟩
    · rw [I.node_lines_eq]
      simp only [Option.isSome_some, Option.getD_some, cond_true]
      refine (bif_f (by rfl)).trans ?_; refine (bif_f (by rfl)).trans ?_; refine (bif_f (by rfl)).trans ?_; refine (bif_t (by rfl)).trans ?_
      refine (bif_t e2).trans ?_
      rw [d0, hs1, ret_bind]
      refine (bif_t (cat_ok (by ((try simp only [zz] at *) <;> omega)))).trans ?_
      refine (bif_t (cat_ok (by ((try simp only [zz] at *) <;> omega)))).trans ?_
      rw [line _ _ _ _ (by ((try simp only [zz] at *) <;> omega)), ret_bind]
      refine (bif_t e3).trans ?_
      obtain ⟨m', hm'⟩ := hq1 true (ml ++ strB (gap ++ (⟨#[119, 104, 105, 108, 101, 32]⟩ ++ c ++ ⟨#[32, 123]⟩) ++ nl)) (by ((try simp only [zz] at *) <;> omega))
      rw [d1]
      refine (congrArg (fun x => Option.bind x _) hm').trans ?_
      rw [ret_bind]
      refine (congrArg (fun x => Option.bind x _) (line m' _ gap _ (by ((try simp only [zz] at *) <;> omega)))).trans ?_
      show some ((), (true, _)) = some ((), (true, _))
      congr 3
      simp only [← ob_nl, strB_app, List.append_assoc]
    · refine (bif_f (by rfl)).trans ?_; refine (bif_f (by rfl)).trans ?_; refine (bif_f (by rfl)).trans ?_; refine (bif_t (by rfl)).trans ?_
      refine (bif_t e0).trans ?_
      rw [g0, hs2, ret_bind, same_self]
      refine (bif_t (cat_ok (by ((try simp only [zz] at *) <;> omega)))).trans ?_
      refine (bif_t (cat_ok (by ((try simp only [zz] at *) <;> omega)))).trans ?_
      refine (bif_t e1).trans ?_
      refine (bif_t (cat_ok (by ((try simp only [zz] at *) <;> omega)))).trans ?_
      rw [f1, hq2, ret_bind, same_self]
      refine (bif_t (cat_ok (by ((try simp only [zz] at *) <;> omega)))).trans ?_
      refine (bif_t (cat_ok (by ((try simp only [zz] at *) <;> omega)))).trans ?_
      refine (bif_t (cat_ok (by ((try simp only [zz] at *) <;> omega)))).trans ?_
      rw [brace]
      rfl
  · refine ⟨⟨#[98, 114, 101, 97, 107, 59]⟩ ++ nl, fun m ml hml => ?_, ?_, by ((try simp only [zz] at *) <;> omega), fun hk => absurd hk (by simp)⟩
    · rw [I.node_lines_eq]
      simp only [Option.isSome_some, Option.getD_some, cond_true]
      refine (bif_f (by rfl)).trans ?_; refine (bif_f (by rfl)).trans ?_; refine (bif_f (by rfl)).trans ?_; refine (bif_f (by rfl)).trans ?_; refine (bif_t (by rfl)).trans ?_
      rw [line _ _ _ _ (by ((try simp only [zz] at *) <;> omega)), ret_bind, ba_assoc gap]
    · refine (bif_f (by rfl)).trans ?_; refine (bif_f (by rfl)).trans ?_; refine (bif_f (by rfl)).trans ?_; refine (bif_f (by rfl)).trans ?_; refine (bif_t (by rfl)).trans ?_
      rfl
  · refine ⟨⟨#[99, 111, 110, 116, 105, 110, 117, 101, 59]⟩ ++ nl, fun m ml hml => ?_, ?_, by ((try simp only [zz] at *) <;> omega), fun hk => absurd hk (by simp)⟩
    · rw [I.node_lines_eq]
      simp only [Option.isSome_some, Option.getD_some, cond_true]
      refine (bif_f (by rfl)).trans ?_; refine (bif_f (by rfl)).trans ?_; refine (bif_f (by rfl)).trans ?_; refine (bif_f (by rfl)).trans ?_; refine (bif_f (by rfl)).trans ?_; refine (bif_t (by rfl)).trans ?_
      rw [line _ _ _ _ (by ((try simp only [zz] at *) <;> omega)), ret_bind, ba_assoc gap]
    · refine (bif_f (by rfl)).trans ?_; refine (bif_f (by rfl)).trans ?_; refine (bif_f (by rfl)).trans ?_; refine (bif_f (by rfl)).trans ?_; refine (bif_f (by rfl)).trans ?_; refine (bif_t (by rfl)).trans ?_
      rfl
  · rcases sh_16 h5 with ha | ⟨a, ha, hae⟩
    · obtain rfl := map_nil' ha
      refine ⟨⟨#[114, 101, 116, 117, 114, 110, 59]⟩ ++ nl, fun m ml hml => ?_, ?_, by ((try simp only [zz] at *) <;> omega), fun hk => absurd hk (by simp)⟩
      · rw [I.node_lines_eq]
        simp only [Option.isSome_some, Option.getD_some, cond_true]
        refine (bif_f (by rfl)).trans ?_; refine (bif_f (by rfl)).trans ?_; refine (bif_f (by rfl)).trans ?_; refine (bif_f (by rfl)).trans ?_; refine (bif_f (by rfl)).trans ?_; refine (bif_f (by rfl)).trans ?_; refine (bif_t (by rfl)).trans ?_
        refine (bif_t (by rfl)).trans ?_
        rw [line _ _ _ _ (by ((try simp only [zz] at *) <;> omega)), ret_bind, ba_assoc gap]
      · refine (bif_f (by rfl)).trans ?_; refine (bif_f (by rfl)).trans ?_; refine (bif_f (by rfl)).trans ?_; refine (bif_f (by rfl)).trans ?_; refine (bif_f (by rfl)).trans ?_; refine (bif_f (by rfl)).trans ?_; refine (bif_t (by rfl)).trans ?_
        refine (bif_t (by rfl)).trans ?_
        rfl
    · obtain ⟨k, rfl, ha0⟩ := map_one' ha
      obtain ⟨e, hs1, hs2, hs3⟩ := go k (by simp) (by rw [ha0]; exact hae)
      have hw := wk k (by simp)
      refine ⟨⟨#[114, 101, 116, 117, 114, 110, 32]⟩ ++ e ++ ⟨#[59]⟩ ++ nl, fun m ml hml => ?_, ?_, by ((try simp only [zz] at *) <;> omega), fun hk => absurd hk (by simp)⟩
      · rw [I.node_lines_eq]
        simp only [Option.isSome_some, Option.getD_some, cond_true]
        refine (bif_f (by rfl)).trans ?_; refine (bif_f (by rfl)).trans ?_; refine (bif_f (by rfl)).trans ?_; refine (bif_f (by rfl)).trans ?_; refine (bif_f (by rfl)).trans ?_; refine (bif_f (by rfl)).trans ?_; refine (bif_t (by rfl)).trans ?_
        refine (bif_f (by rfl)).trans ?_
        refine (bif_t e2).trans ?_
        rw [d0, hs1, ret_bind]
        refine (bif_t (cat_ok (by ((try simp only [zz] at *) <;> omega)))).trans ?_
        refine (bif_t (cat_ok (by ((try simp only [zz] at *) <;> omega)))).trans ?_
        rw [line _ _ _ _ (by ((try simp only [zz] at *) <;> omega)), ret_bind, ba_assoc gap]
      · refine (bif_f (by rfl)).trans ?_; refine (bif_f (by rfl)).trans ?_; refine (bif_f (by rfl)).trans ?_; refine (bif_f (by rfl)).trans ?_; refine (bif_f (by rfl)).trans ?_; refine (bif_f (by rfl)).trans ?_; refine (bif_t (by rfl)).trans ?_
        refine (bif_f (by rfl)).trans ?_
        refine (bif_t e0).trans ?_
        rw [g0, hs2, ret_bind]
        refine (bif_t (cat_ok (by ((try simp only [zz] at *) <;> omega)))).trans ?_
        refine (bif_t (cat_ok (by ((try simp only [zz] at *) <;> omega)))).trans ?_
        rw [semi]
  · obtain ⟨a, ha, hae⟩ := sh_17 h5
    obtain ⟨k, rfl, ha0⟩ := map_one' ha
    obtain ⟨e, hs1, hs2, hs3⟩ := go k (by simp) (by rw [ha0]; exact hae)
    have hw := wk k (by simp)
    refine ⟨⟨#[102, 97, 105, 108, 32]⟩ ++ e ++ ⟨#[59]⟩ ++ nl, fun m ml hml => ?_, ?_, by ((try simp only [zz] at *) <;> omega), fun hk => absurd hk (by simp)⟩
    · rw [I.node_lines_eq]
      simp only [Option.isSome_some, Option.getD_some, cond_true]
      refine (bif_f (by rfl)).trans ?_; refine (bif_f (by rfl)).trans ?_; refine (bif_f (by rfl)).trans ?_; refine (bif_f (by rfl)).trans ?_; refine (bif_f (by rfl)).trans ?_; refine (bif_f (by rfl)).trans ?_; refine (bif_f (by rfl)).trans ?_; refine (bif_t (by rfl)).trans ?_
      refine (bif_t e2).trans ?_
      rw [d0, hs1, ret_bind]
      refine (bif_t (cat_ok (by ((try simp only [zz] at *) <;> omega)))).trans ?_
      refine (bif_t (cat_ok (by ((try simp only [zz] at *) <;> omega)))).trans ?_
      rw [line _ _ _ _ (by ((try simp only [zz] at *) <;> omega)), ret_bind, ba_assoc gap]
    · refine (bif_f (by rfl)).trans ?_; refine (bif_f (by rfl)).trans ?_; refine (bif_f (by rfl)).trans ?_; refine (bif_f (by rfl)).trans ?_; refine (bif_f (by rfl)).trans ?_; refine (bif_f (by rfl)).trans ?_; refine (bif_f (by rfl)).trans ?_; refine (bif_t (by rfl)).trans ?_
      refine (bif_t e0).trans ?_
      rw [g0, hs2, ret_bind]
      refine (bif_t (cat_ok (by ((try simp only [zz] at *) <;> omega)))).trans ?_
      refine (bif_t (cat_ok (by ((try simp only [zz] at *) <;> omega)))).trans ?_
      rw [semi]
  · obtain ⟨a, b, ha, hae, hbe⟩ := sh_18 h5
    obtain ⟨k, k', rfl, ha0, ha1⟩ := map_two' ha
    obtain ⟨F, hF⟩ := pick (P := Ex t out bs) [k, k'] fun x hx' => go x hx' (by
      rcases List.mem_cons.1 hx' with rfl | hx'
      · rw [ha0]; exact hae
      · rw [List.mem_singleton] at hx'; subst hx'; rw [ha1]; exact hbe)
    have hs := hF k (by simp)
    have ht := hF k' (by simp)
    have hs3 := hs.2.2
    have ht3 := ht.2.2
    have hw : (List.map (WW (wj t.gNodes) out) [k, k']).sum = WW (wj t.gNodes) out k + WW (wj t.gNodes) out k' := by simp
    obtain ⟨l1, l2, l3⟩ := hlst h3 F hF (by omega) ⟨18, xo, xt, xn, xs, kd⟩ (j : Int)
    have hjn : joinB (List.map F [k, k']) sepC = F k ++ ⟨#[44, 32]⟩ ++ F k' := rfl
    rw [hjn] at l1 l3
    refine ⟨⟨#[119, 114, 105, 116, 101, 32]⟩ ++ F k ++ ⟨#[44, 32]⟩ ++ F k' ++ ⟨#[59]⟩ ++ nl, fun m ml hml => ?_, ?_, by ((try simp only [zz] at *) <;> omega), fun hk => absurd hk (by simp)⟩
    · rw [I.node_lines_eq]
      simp only [Option.isSome_some, Option.getD_some, cond_true]
      refine (bif_f (by rfl)).trans ?_; refine (bif_f (by rfl)).trans ?_; refine (bif_f (by rfl)).trans ?_; refine (bif_f (by rfl)).trans ?_; refine (bif_f (by rfl)).trans ?_; refine (bif_f (by rfl)).trans ?_; refine (bif_f (by rfl)).trans ?_; refine (bif_f (by rfl)).trans ?_; refine (bif_t (by rfl)).trans ?_
      refine (bif_t e2).trans ?_
      rw [d0, hs.1, ret_bind]
      refine (bif_t (cat_ok (by ((try simp only [zz] at *) <;> omega)))).trans ?_
      refine (bif_t (cat_ok (by ((try simp only [zz] at *) <;> omega)))).trans ?_
      refine (bif_t e3).trans ?_
      rw [d1, ht.1, ret_bind]
      refine (bif_t (cat_ok (by ((try simp only [zz] at *) <;> omega)))).trans ?_
      refine (bif_t (cat_ok (by ((try simp only [zz] at *) <;> omega)))).trans ?_
      rw [line _ _ _ _ (by ((try simp only [zz] at *) <;> omega)), ret_bind, ba_assoc gap]
    · refine (bif_f (by rfl)).trans ?_; refine (bif_f (by rfl)).trans ?_; refine (bif_f (by rfl)).trans ?_; refine (bif_f (by rfl)).trans ?_; refine (bif_f (by rfl)).trans ?_; refine (bif_f (by rfl)).trans ?_; refine (bif_f (by rfl)).trans ?_; refine (bif_f (by rfl)).trans ?_; refine (bif_t (by rfl)).trans ?_
      rw [l1, ret_bind]
      refine (bif_t (cat_ok (by ((try simp only [zz] at *) <;> omega)))).trans ?_
      refine (bif_t (cat_ok (by ((try simp only [zz] at *) <;> omega)))).trans ?_
      rw [semi]
      simp only [ba_assoc]
  · obtain ⟨a, ha, hae⟩ := sh_19 h5
    obtain ⟨k, rfl, ha0⟩ := map_one' ha
    obtain ⟨e, hs1, hs2, hs3⟩ := go k (by simp) (by rw [ha0]; exact hae)
    have hw := wk k (by simp)
    refine ⟨⟨#[115, 97, 121, 32]⟩ ++ e ++ ⟨#[59]⟩ ++ nl, fun m ml hml => ?_, ?_, by ((try simp only [zz] at *) <;> omega), fun hk => absurd hk (by simp)⟩
    · rw [I.node_lines_eq]
      simp only [Option.isSome_some, Option.getD_some, cond_true]
      refine (bif_f (by rfl)).trans ?_; refine (bif_f (by rfl)).trans ?_; refine (bif_f (by rfl)).trans ?_; refine (bif_f (by rfl)).trans ?_; refine (bif_f (by rfl)).trans ?_; refine (bif_f (by rfl)).trans ?_; refine (bif_f (by rfl)).trans ?_; refine (bif_f (by rfl)).trans ?_; refine (bif_f (by rfl)).trans ?_; refine (bif_t (by rfl)).trans ?_
      refine (bif_t e2).trans ?_
      rw [d0, hs1, ret_bind]
      refine (bif_t (cat_ok (by ((try simp only [zz] at *) <;> omega)))).trans ?_
      refine (bif_t (cat_ok (by ((try simp only [zz] at *) <;> omega)))).trans ?_
      rw [line _ _ _ _ (by ((try simp only [zz] at *) <;> omega)), ret_bind, ba_assoc gap]
    · refine (bif_f (by rfl)).trans ?_; refine (bif_f (by rfl)).trans ?_; refine (bif_f (by rfl)).trans ?_; refine (bif_f (by rfl)).trans ?_; refine (bif_f (by rfl)).trans ?_; refine (bif_f (by rfl)).trans ?_; refine (bif_f (by rfl)).trans ?_; refine (bif_f (by rfl)).trans ?_; refine (bif_f (by rfl)).trans ?_; refine (bif_t (by rfl)).trans ?_
      refine (bif_t e0).trans ?_
      rw [g0, hs2, ret_bind]
      refine (bif_t (cat_ok (by ((try simp only [zz] at *) <;> omega)))).trans ?_
      refine (bif_t (cat_ok (by ((try simp only [zz] at *) <;> omega)))).trans ?_
      rw [semi]
  · have ha := sh_20 h5
    obtain ⟨k, rfl, ha0⟩ := map_one' ha
    obtain ⟨e, hs1, hs2, hs3⟩ := go k (by simp) (by rw [ha0]; rfl)
    have hw := wk k (by simp)
    refine ⟨e ++ ⟨#[59]⟩ ++ nl, fun m ml hml => ?_, ?_, by ((try simp only [zz] at *) <;> omega), fun hk => absurd hk (by simp)⟩
    · rw [I.node_lines_eq]
      simp only [Option.isSome_some, Option.getD_some, cond_true]
      refine (bif_f (by rfl)).trans ?_; refine (bif_f (by rfl)).trans ?_; refine (bif_f (by rfl)).trans ?_; refine (bif_f (by rfl)).trans ?_; refine (bif_f (by rfl)).trans ?_; refine (bif_f (by rfl)).trans ?_; refine (bif_f (by rfl)).trans ?_; refine (bif_f (by rfl)).trans ?_; refine (bif_f (by rfl)).trans ?_; refine (bif_f (by rfl)).trans ?_; refine (bif_t (by rfl)).trans ?_
      refine (bif_t e2).trans ?_
      rw [d0, hs1, ret_bind]
      refine (bif_t (cat_ok (by ((try simp only [zz] at *) <;> omega)))).trans ?_
      rw [line _ _ _ _ (by ((try simp only [zz] at *) <;> omega)), ret_bind, ba_assoc gap]
    · refine (bif_f (by rfl)).trans ?_; refine (bif_f (by rfl)).trans ?_; refine (bif_f (by rfl)).trans ?_; refine (bif_f (by rfl)).trans ?_; refine (bif_f (by rfl)).trans ?_; refine (bif_f (by rfl)).trans ?_; refine (bif_f (by rfl)).trans ?_; refine (bif_f (by rfl)).trans ?_; refine (bif_f (by rfl)).trans ?_; refine (bif_f (by rfl)).trans ?_
      refine (bif_t e0).trans ?_
      rw [g0, hs2, ret_bind]
      refine (bif_t (cat_ok (by ((try simp only [zz] at *) <;> omega)))).trans ?_
      rw [semi]
end
end Go.KM.P1
