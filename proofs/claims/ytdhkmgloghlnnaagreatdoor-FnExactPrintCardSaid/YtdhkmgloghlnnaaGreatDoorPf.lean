/- Plain laws: every function is printed alike. Conditions: none. -/
import Derived.Test.YtdhkmgloghlnnaaGreatDoorPPrG
namespace Go.KM.P1
open Go Go.KM
open Go.KM.Fam (Dn dflt)
open Go.KM.Enc (cells sz mkE glob gany u8)
set_option autoImplicit false
set_option linter.unusedVariables false
set_option linter.unusedSimpArgs false
set_option linter.unusedSectionVars false
set_option maxRecDepth 100000
theorem ne23 {xo xt xn : Int} {xs : ByteArray} {kd : Int} : ¬ R.l2Fits ⟨23, xo, xt, xn, xs, kd⟩ [] = some true := by
  rw [gR_23]
  have : R.l2Fits.l3959422948 [] (([] : List Int).length : Int) 0 = some false := (R.l2Fits.l3959422948_eq _ _ _).trans (by kernel_rfl)
  rw [this]
  intro h; cases h
theorem WS (m : Bool) (ml : List Int) (s : ByteArray) (h : ml.length + s.size ≤ 70368744177664) : G.strings_Builder_WriteString (m, ml) s = some (((s.size : Int), true), (true, ml ++ strB s)) := by
  rw [G.strings_Builder_WriteString_eq, bif_t (room_len (by show ml.length + s.size ≤ _; omega))]
def pt (t : TTree) (k : Nat) : ByteArray := (t.gNodes.getD k TNode.z).gText ++ ⟨#[32]⟩ ++ tw (t.gNodes.getD k TNode.z).gType
def rt (x : Int) : ByteArray := if x = 0 then ⟨#[]⟩ else ⟨#[32, 45, 62, 32]⟩ ++ tw x
def fnB : ByteArray := ⟨#[102, 110, 32]⟩
theorem fn_end1 (x w : ByteArray) : x ++ ⟨#[41, 32]⟩ ++ ⟨#[45, 62, 32]⟩ ++ w ++ ⟨#[32]⟩ ++ ⟨#[123, 10]⟩ = x ++ ⟨#[41]⟩ ++ (⟨#[32, 45, 62, 32]⟩ ++ w) ++ obB := by
  apply ba_ext
  simp only [ba_app, List.append_assoc]
  rfl
theorem fn_end0 (x : ByteArray) : x ++ ⟨#[41, 32]⟩ ++ ⟨#[123, 10]⟩ = x ++ ⟨#[41]⟩ ++ ⟨#[]⟩ ++ obB := by
  apply ba_ext
  simp only [ba_app, List.append_assoc]
  rfl
section
variable {t : TTree} {out : List (List Nat)} {bs : List TNode_} {r : Nat} (h : Root t out bs r) (hI : ∀ x ∈ t.gNodes, I64 x.gN)
def Fn (t : TTree) (out : List (List Nat)) (bs : List TNode_) (j : Nat) (s : ByteArray) : Prop :=
  (∀ (t20 : List (Option TNode_)) (i : Nat) m ml, i < t20.length → t20.length ≤ 100000 → t20.getD i none = bs[j]? → ml.length + s.size ≤ 70368744177664 → ∃ m', I.Print.l500 t20 t20.length i m ml = I.Print.l500 t20 t20.length ((i + 1 : Nat) : Int) m' (ml ++ strB s)) ∧
  R.l2Pen_fn (t.gNodes, out.map toI) (j : Int) = some (s, (t.gNodes, out.map toI)) ∧ s.size ≤ WW (wj t.gNodes) out j
include h hI
set_option maxHeartbeats 1000000 in
theorem fns (hx : ∀ x ∈ t.gNodes, x.gText.size ≤ 1048576) {j : Nat} (hj : j < t.gNodes.length) (hE : (t.gNodes.getD j TNode.z).gKind = 23) (hW : WW (wj t.gNodes) out j ≤ 70368744177664) (hH : Hh out j ≤ 60) : ∃ s, Fn t out bs j s := by
  obtain ⟨ks, h1, h2, h3, h4, h5, h6, h7, h8, h9, h10⟩ := view h hI hj
  have hx' : (t.gNodes.getD j TNode.z).gText.size ≤ 1048576 := by rw [getD_lt hj]; exact hx _ (List.getElem_mem _)
  have hlt : ∀ k ∈ ks, k < t.gNodes.length := fun k hk => Nat.lt_trans (h2 k hk) hj
  have hwj : wj t.gNodes j = 4 * (t.gNodes.getD j TNode.z).gText.size + 3000 := rfl
  have hjo : j < (out.map toI).length := by rw [List.length_map]; exact (List.getElem?_eq_some_iff.1 h1).1
  have hll : (ks.map fun k => (t.gNodes.getD k TNode.z).gKind).length ≤ 100000 := by rw [List.length_map]; omega
  obtain ⟨nd, hnd⟩ : ∃ nd, t.gNodes.getD j TNode.z = nd := ⟨_, rfl⟩
  rw [hnd] at h4 h5 h6 hx' hwj hE
  obtain ⟨xk, xo, xt, xn, xs, kd⟩ := nd
  have hE : xk = 23 := hE
  subst hE
  simp only [] at hx' hwj
  have hne : ks ≠ [] := fun e => by subst e; exact ne23 h5
  obtain ⟨ps, b, rfl⟩ : ∃ ps b, ks = ps ++ [b] := ⟨ks.dropLast, ks.getLast hne, (List.dropLast_concat_getLast hne).symm⟩
  obtain ⟨p1, p2, p3⟩ := sh_23 hll (by simp) h5
  rw [List.map_append, List.map_cons, List.map_nil, List.length_append, List.length_map] at p1 p3
  have hpl : (List.map (fun k => (t.gNodes.getD k TNode.z).gKind) (ps ++ [b])).length = ps.length + 1 := by simp
  rw [hpl] at p2
  have hp22 : ∀ k ∈ ps, (t.gNodes.getD k TNode.z).gKind = 22 := fun k hk => by
    have : ((ps.map fun k => (t.gNodes.getD k TNode.z).gKind) ++ [(t.gNodes.getD b TNode.z).gKind]).take (ps.length + [(t.gNodes.getD b TNode.z).gKind].length - 1) = ps.map fun k => (t.gNodes.getD k TNode.z).gKind := by
      simp
    rw [this] at p1
    exact beq_iff_eq.1 (List.all_eq_true.1 p1 _ (List.mem_map.2 ⟨k, hk, rfl⟩))
  have hb21 : (t.gNodes.getD b TNode.z).gKind = 21 := by
    rw [List.getD_eq_getElem?_getD, List.getElem?_append_right (by simp)] at p3
    simpa using p3
  obtain ⟨q1, q2⟩ := fd_23 h6
  -- the parameters
  have pv : ∀ k ∈ ps, (1 ≤ (t.gNodes.getD k TNode.z).gType ∧ (t.gNodes.getD k TNode.z).gType ≤ 10) ∧ (∃ kk, bs[k]? = some ⟨t.gNodes.getD k TNode.z, kk, (k : Int)⟩) ∧ (t.gNodes.getD k TNode.z).gText.size ≤ 1048576 ∧ (pt t k).size + 100 ≤ WW (wj t.gNodes) out k ∧ (pt t k).size ≤ 1048600 := fun k hk => by
    have hk' : k ∈ ps ++ [b] := by simp [hk]
    obtain ⟨ls, a1, a2, a3, a4, a5, a6, a7, a8, a9, a10⟩ := view h hI (hlt k hk')
    have hxk : (t.gNodes.getD k TNode.z).gText.size ≤ 1048576 := by rw [getD_lt (hlt k hk')]; exact hx _ (List.getElem_mem _)
    have hwk : wj t.gNodes k = 4 * (t.gNodes.getD k TNode.z).gText.size + 3000 := rfl
    have h22 := hp22 k hk
    have hty : 1 ≤ (t.gNodes.getD k TNode.z).gType ∧ (t.gNodes.getD k TNode.z).gType ≤ 10 := by
      obtain ⟨nd, hnd⟩ : ∃ nd, t.gNodes.getD k TNode.z = nd := ⟨_, rfl⟩
      rw [hnd] at h22 a6 ⊢
      obtain ⟨xk, xo, xt, xn, xs, kd⟩ := nd
      have h22 : xk = 22 := h22
      subst h22
      exact fd_22 a6
    have htw := tw_size hty.1 hty.2
    have hpt : (pt t k).size = (t.gNodes.getD k TNode.z).gText.size + 1 + (tw (t.gNodes.getD k TNode.z).gType).size := by
      unfold pt; rw [ba_size_app, ba_size_app]; rfl
    exact ⟨hty, ⟨_, a4⟩, hxk, by omega, by omega⟩
  -- the block
  have hbm : b ∈ ps ++ [b] := by simp
  have hbl := hlt b hbm
  obtain ⟨ls, a1, a2, a3, a4, a5, a6, a7, a8, a9, a10⟩ := view h hI hbl
  have hWb := Nat.le_trans (h8 b hbm) hW
  have hHb := h10 b hbm
  have hall : (ls.map fun k => (t.gNodes.getD k TNode.z).gKind).all isS = true := by
    have hll : (ls.map fun k => (t.gNodes.getD k TNode.z).gKind).length ≤ 100000 := by rw [List.length_map]; omega
    obtain ⟨nd, hnd⟩ : ∃ nd, t.gNodes.getD b TNode.z = nd := ⟨_, rfl⟩
    rw [hnd] at hb21 a5
    obtain ⟨xk, xo, xt, xn, xs, kd⟩ := nd
    have hb21 : xk = 21 := hb21
    subst hb21
    exact sh_21 hll a5
  obtain ⟨F, hF⟩ := pick (P := fun k' => St t out bs k' ⟨#[32, 32]⟩) ls fun k' hk' => stmts h hI hx k' (Nat.lt_trans (a2 k' hk') hbl) (List.all_eq_true.1 hall _ (List.mem_map.2 ⟨k', hk', rfl⟩)) (Nat.le_trans (a8 k' hk') hWb) _ (by
    have := a10 k' hk'
    show 2 + _ ≤ _; omega)
  obtain ⟨_, b2, b3⟩ := block h hI hbl (gap := ⟨#[]⟩) a1 a3 a4 a9 (by omega) hWb (by show 0 ≤ _; omega) F (fun k hk => by rw [nil_ba]; exact hF k hk)
  simp only [nil_ba] at b2 b3
  obtain ⟨q, hq⟩ : ∃ q, catB (ls.map fun k => (⟨#[32, 32]⟩ : ByteArray) ++ F k) = q := ⟨_, rfl⟩
  rw [hq] at b2 b3
  have htk := fun i => catB_take_le (fun k => (⟨#[32, 32]⟩ : ByteArray) ++ F k) ls i
  rw [hq] at htk
  -- sizes
  have hsum : ((ps ++ [b]).map (WW (wj t.gNodes) out)).sum = (ps.map (WW (wj t.gNodes) out)).sum + WW (wj t.gNodes) out b := by simp
  have hjs : ∀ i, (joinB ((ps.take i).map (pt t)) sepC).size ≤ (ps.map (WW (wj t.gNodes) out)).sum := fun i => by
    have g1 := join_size sepC ((ps.take i).map (pt t))
    rw [List.map_map] at g1
    have g2 : ((ps.take i).map ((fun x => x.size + sepC.size) ∘ pt t)).sum ≤ ((ps.take i).map (WW (wj t.gNodes) out)).sum := sum_le fun k hk => by
      have := (pv k (List.mem_of_mem_take hk)).2.2.2.1
      show (pt t k).size + sepC.size ≤ _
      show (pt t k).size + 2 ≤ _
      omega
    have g3 : (ps.map (WW (wj t.gNodes) out)).sum = ((ps.take i).map (WW (wj t.gNodes) out)).sum + ((ps.drop i).map (WW (wj t.gNodes) out)).sum := by
      rw [← List.sum_append, ← List.map_append, List.take_append_drop]
    omega
  have hjall := hjs ps.length
  rw [List.take_length] at hjall
  have hrt : (rt xt).size ≤ 8 := by
    unfold rt
    split
    · exact Nat.zero_le _
    · have := tw_size (t := xt) (by omega) q2
      rw [ba_size_app]; show 4 + _ ≤ _; omega
  have hlast : IntKind.i64.wrap (((ps ++ [b]).length : Int) - 1) = (ps.length : Int) := by
    rw [List.length_append]; show IntKind.i64.wrap (((ps.length + 1 : Nat) : Int) - 1) = _
    rw [wi (by omega) (by omega)]; omega
  have hgl : (toI (ps ++ [b])).getD ps.length 0 = (b : Int) := by simp [toI]
  have hil : (toI (ps ++ [b])).length = ps.length + 1 := by simp [toI]
  obtain ⟨s, hs⟩ : ∃ s, fnB ++ xs ++ ⟨#[40]⟩ ++ joinB (ps.map (pt t)) sepC ++ ⟨#[41]⟩ ++ rt xt ++ obB ++ q ++ ⟨#[125, 10]⟩ = s := ⟨_, rfl⟩
  have hss : s.size = 3 + xs.size + 1 + (joinB (ps.map (pt t)) sepC).size + 1 + (rt xt).size + 3 + q.size + 2 := by rw [← hs]; simp only [ba_size_app]; rfl
  refine ⟨s, ?_, ?_, by omega⟩
  · intro t20 i m ml hi ht20 hgi hml
    have hkl : ((ps ++ [b]).map fun k => bs[k]?).length = ps.length + 1 := by simp
    have hkb : ((ps ++ [b]).map fun k => bs[k]?).getD ps.length none = bs[b]? := by simp
    have hsub : sub ((ps ++ [b]).map fun k => bs[k]?) 0 (ps.length : Int) = ps.map fun k => bs[k]? := by
      simp [sub, List.take_append]
    have loop : ∀ (n i' : Nat), i' + n = ps.length → I.Print.l1025652 bs[j]? ((ps.take i').map (pt t)) ps.length t20 t20.length i (ps.map fun k => bs[k]?) (ps.map fun k => bs[k]?).length i' m ml = I.Print.l1025652 bs[j]? (ps.map (pt t)) ps.length t20 t20.length i (ps.map fun k => bs[k]?) (ps.map fun k => bs[k]?).length ps.length m ml := by
      have hl : (ps.map fun k => bs[k]?).length = ps.length := List.length_map _
      intro n
      induction n with
      | zero =>
        intro i' hi'
        have : i' = ps.length := by omega
        subst this
        rw [List.take_length]
      | succ n ih =>
        intro i' hi'
        have hil : i' < ps.length := by omega
        have hil' : i' < (ps.map fun k => bs[k]?).length := by omega
        have hgi : (ps.map fun k => bs[k]?).getD i' none = bs[ps[i']]? := by rw [getD_lt hil']; simp
        obtain ⟨v1, ⟨kk, v2⟩, v3, v4, v5⟩ := pv ps[i'] (List.getElem_mem hil)
        have htake : ps.take (i' + 1) = ps.take i' ++ [ps[i']] := by rw [List.take_add_one, List.getElem?_eq_getElem hil]; rfl
        have ih := ih (i' + 1) (by omega)
        rw [htake, List.map_append, List.map_cons, List.map_nil] at ih
        have htw := tw_size v1.1 v1.2
        rw [I.Print.l1025652_eq, bif_t (lt_dec hil'), bif_t (inB_nat hil'), Int.toNat_natCast, hgi, v2]
        simp only [Option.isSome_some, Option.getD_some, cond_true]
        refine (bif_t (cat_ok (by ((try simp only [zz] at *) <;> omega)))).trans ?_
        refine (bif_t (inB_iff.2 ⟨by omega, by show (t.gNodes.getD ps[i'] TNode.z).gType < (11 : Nat); omega⟩)).trans ?_
        refine (bif_t (cat_ok (by show _ + (tw _).size < _; ((try simp only [zz] at *) <;> omega)))).trans ?_
        refine (bif_t (room_ok (by simp; omega))).trans ?_
        rw [wi_succ (by omega)]
        exact ih
    refine ⟨true, ?_⟩
    rw [I.Print.l500_eq]
    refine (bif_t (lt_dec hi)).trans ?_
    refine (bif_t (inB_nat hi)).trans ?_
    simp only [Int.toNat_natCast, hgi]
    have hso : bs[j]?.isSome = true := by rw [h4]; rfl
    refine (bif_t hso).trans ?_
    refine (bif_t hso).trans ?_
    have hgk : (Option.getD bs[j]? TNode_.z).gkids = (ps ++ [b]).map fun k => bs[k]? := by rw [h4]; rfl
    have hlast' : IntKind.i64.wrap ((((ps ++ [b]).map fun k => bs[k]?).length : Int) - 1) = (ps.length : Int) := by rw [List.length_map]; exact hlast
    simp only [hgk, hlast', hsub]
    refine (bif_t (by simp [inS]; omega)).trans ?_
    refine (loop ps.length 0 (Nat.zero_add _)).trans ?_
    have hl : (ps.map fun k => bs[k]?).length = ps.length := List.length_map _
    have loop2 : ∀ (n i' : Nat), i' + n = ls.length → ∀ m ml, ml.length + q.size + 2 ≤ 70368744177664 → I.Print.l16410612 t20 t20.length i (ls.map fun k => bs[k]?) (ls.map fun k => bs[k]?).length i' m (ml ++ strB (catB ((ls.take i').map fun k => (⟨#[32, 32]⟩ : ByteArray) ++ F k))) = I.Print.l500 t20 t20.length ((i + 1 : Nat) : Int) true (ml ++ strB q ++ strB ⟨#[125, 10]⟩) := by
      have hl : (ls.map fun k => bs[k]?).length = ls.length := List.length_map _
      intro n
      induction n with
      | zero =>
        intro i' hi' m ml hml
        rw [I.Print.l16410612_eq, bif_f (ge_dec (by omega)), List.take_of_length_le (by omega), hq, WS _ _ _ (by show _ + 2 ≤ _; rw [List.length_append, strB_len]; omega), ret_bind, wi_succ (by omega)]
      | succ n ih =>
        intro i' hi' m ml hml
        have hil : i' < ls.length := by omega
        have hil' : i' < (ls.map fun k => bs[k]?).length := by omega
        have hgi : (ls.map fun k => bs[k]?).getD i' none = bs[ls[i']]? := by rw [getD_lt hil']; simp
        have hS := hF ls[i'] (List.getElem_mem hil)
        have htake : ls.take (i' + 1) = ls.take i' ++ [ls[i']] := by rw [List.take_add_one, List.getElem?_eq_getElem hil]; rfl
        have h1' := htk (i' + 1)
        have ih := ih (i' + 1) (by omega) true ml hml
        rw [htake, List.map_append, List.map_cons, List.map_nil, catB_snoc] at ih h1'
        rw [ba_size_app] at h1'
        rw [I.Print.l16410612_eq, bif_t (lt_dec hil'), bif_t (inB_nat hil'), Int.toNat_natCast, hgi, hS.1 _ _ (by
          rw [List.length_append, strB_len]
          rw [ba_size_app ⟨#[32, 32]⟩] at h1'
          omega), ret_bind, wi_succ (by omega)]
        rw [strB_app (catB _), ← List.append_assoc] at ih
        exact ih
    have loop3 : ∀ m ml, ml.length + 3 + q.size + 2 ≤ 70368744177664 → I.Print.l512831 bs[j]? ps.length t20 t20.length i m ml = I.Print.l500 t20 t20.length ((i + 1 : Nat) : Int) true (ml ++ strB obB ++ strB q ++ strB ⟨#[125, 10]⟩) := fun m ml hml => by
      rw [I.Print.l512831_eq, WS _ _ _ (by show _ + 3 ≤ _; omega), ret_bind]
      refine (bif_t hso).trans ?_
      simp only [hgk, Int.toNat_natCast, hkb]
      refine (bif_t (by rw [hkl]; exact inB_nat (by omega))).trans ?_
      have hsb : bs[b]?.isSome = true := by rw [a4]; rfl
      refine (bif_t hsb).trans ?_
      have hgb : (Option.getD bs[b]? TNode_.z).gkids = ls.map fun k => bs[k]? := by rw [a4]; rfl
      simp only [hgb]
      have := loop2 ls.length 0 (Nat.zero_add _) true (ml ++ strB obB) (by rw [List.length_append, strB_len]; show _ + 3 + _ + _ ≤ _; omega)
      have e : (ml ++ strB obB) ++ strB (catB ((ls.take 0).map fun k => (⟨#[32, 32]⟩ : ByteArray) ++ F k)) = ml ++ strB obB := by show _ ++ [] = _; simp
      rw [e] at this
      exact this
    rw [I.Print.l1025652_eq, bif_f (ge_dec (by omega))]
    have hnm : (Option.getD bs[j]? TNode_.z).gNode = ⟨23, xo, xt, xn, xs, kd⟩ := by rw [h4]; rfl
    simp only [hnm]
    refine (bif_t hso).trans ?_
    refine (bif_t (cat_ok (by ((try simp only [zz] at *) <;> omega)))).trans ?_
    refine (bif_t (cat_ok (by ((try simp only [zz] at *) <;> omega)))).trans ?_
    refine (bif_t (by rw [List.length_map, decide_eq_true (by omega), Bool.true_and]; exact decide_eq_true (by show (joinB _ sepC).size ≤ _; omega))).trans ?_
    refine (bif_t (cat_ok (by show _ + (joinB _ sepC).size < _; ((try simp only [zz] at *) <;> omega)))).trans ?_
    refine (bif_t (cat_ok (by show (_ ++ joinB _ sepC).size + _ < _; ((try simp only [zz] at *) <;> omega)))).trans ?_
    rw [WS _ _ _ (by show _ + (_ ++ joinB _ sepC ++ _).size ≤ _; ((try simp only [zz] at *) <;> omega)), ret_bind]
    refine (bif_t hso).trans ?_
    by_cases h0 : xt = 0
    · have e0 : rt xt = ⟨#[]⟩ := by unfold rt; rw [if_pos h0]
      refine (bif_f (by rw [h0]; rfl)).trans ?_
      refine (loop3 _ _ (by show (_ ++ strB (_ ++ joinB _ sepC ++ _)).length + _ + _ + _ ≤ _; ((try simp only [zz] at *) <;> omega))).trans ?_
      congr 1
      rw [← hs, e0]
      simp only [strB_app, List.append_assoc]
      rfl
    · have e0 : rt xt = ⟨#[32, 45, 62, 32]⟩ ++ tw xt := by unfold rt; rw [if_neg h0]
      have htw := tw_size (t := xt) (by omega) q2
      have hrs : (rt xt).size = 4 + (tw xt).size := by rw [e0, ba_size_app]; rfl
      refine (bif_t (by simpa using h0)).trans ?_
      refine (bif_t hso).trans ?_
      refine (bif_t (inB_iff.2 ⟨by omega, by show xt < (11 : Nat); omega⟩)).trans ?_
      refine (bif_t (cat_ok (by show 4 + (tw xt).size < _; omega))).trans ?_
      show (G.strings_Builder_WriteString (true, ml ++ strB (fnB ++ xs ++ ⟨#[40]⟩ ++ joinB (ps.map (pt t)) sepC ++ ⟨#[41]⟩)) (⟨#[32, 45, 62, 32]⟩ ++ tw xt)).bind _ = _
      have hfs : fnB.size = 3 := rfl
      rw [WS _ _ _ (by ((try simp only [zz] at *) <;> omega)), ret_bind]
      refine (loop3 _ _ (by ((try simp only [zz] at *) <;> omega))).trans ?_
      congr 1
      rw [← hs, e0]
      simp only [strB_app, List.append_assoc]
  · have loop : ∀ (n i' : Nat), i' + n = ps.length → R.l2Pen_fn.l1012 (toI (ps ++ [b])) ps.length (fnB ++ xs ++ ⟨#[40]⟩ ++ joinB ((ps.take i').map (pt t)) sepC) i' ⟨23, xo, xt, xn, xs, kd⟩ t.gNodes (out.map toI) = R.l2Pen_fn.l1012 (toI (ps ++ [b])) ps.length (fnB ++ xs ++ ⟨#[40]⟩ ++ joinB (ps.map (pt t)) sepC) ps.length ⟨23, xo, xt, xn, xs, kd⟩ t.gNodes (out.map toI) := by
      intro n
      induction n with
      | zero =>
        intro i' hi'
        have : i' = ps.length := by omega
        subst this
        rw [List.take_length]
      | succ n ih =>
        intro i' hi'
        have hip : i' < ps.length := by omega
        have hil' : i' < (toI (ps ++ [b])).length := by omega
        have hgi : (toI (ps ++ [b])).getD i' 0 = (ps[i'] : Int) := by rw [getD_lt hil']; simp [toI, List.getElem_append, hip]
        obtain ⟨v1, ⟨kk, v2⟩, v3, v4, v5⟩ := pv ps[i'] (List.getElem_mem hip)
        have hpl : ps[i'] < t.gNodes.length := hlt _ (List.mem_append_left _ (List.getElem_mem hip))
        have htake : ps.take (i' + 1) = ps.take i' ++ [ps[i']] := by rw [List.take_add_one, List.getElem?_eq_getElem hip]; rfl
        have ih := ih (i' + 1) (by omega)
        rw [htake, List.map_append, List.map_cons, List.map_nil] at ih
        have htw := tw_size v1.1 v1.2
        have hji := hjs i'
        have step : ∀ o : ByteArray, o.size ≤ 105553116266496 → R.l2Pen_fn.l16201 (toI (ps ++ [b])) ps.length o i' ⟨23, xo, xt, xn, xs, kd⟩ t.gNodes (out.map toI) = R.l2Pen_fn.l1012 (toI (ps ++ [b])) ps.length (o ++ (t.gNodes.getD ps[i'] TNode.z).gText ++ ⟨#[32]⟩ ++ tw (t.gNodes.getD ps[i'] TNode.z).gType) ((i' + 1 : Nat) : Int) ⟨23, xo, xt, xn, xs, kd⟩ t.gNodes (out.map toI) := fun o ho => by
          rw [R.l2Pen_fn.l16201_eq]
          simp only [Int.toNat_natCast, hgi]
          refine (bif_t (inB_nat hil')).trans ?_
          refine (bif_t (inB_nat hpl)).trans ?_
          refine (bif_t (cat_ok (by omega))).trans ?_
          refine (bif_t (cat_ok (by ((try simp only [zz] at *) <;> omega)))).trans ?_
          refine (bif_t (inB_nat hil')).trans ?_
          refine (bif_t (inB_nat hpl)).trans ?_
          rw [R_tw v1.1 v1.2, ret_bind]
          refine (bif_t (cat_ok (by ((try simp only [zz] at *) <;> omega)))).trans ?_
          rw [wi_succ (by omega)]
        have c1 : (fnB ++ xs ++ ⟨#[40]⟩ ++ joinB ((ps.take i').map (pt t)) sepC).size = 3 + xs.size + 1 + (joinB ((ps.take i').map (pt t)) sepC).size := by simp only [ba_size_app]; rfl
        rw [R.l2Pen_fn.l1012_eq, bif_t (lt_dec hip)]
        by_cases h0 : i' = 0
        · subst h0
          refine (bif_f (by rfl)).trans ?_
          rw [step _ (by omega)]
          have e1 : joinB ((ps.take 0).map (pt t)) sepC = ⟨#[]⟩ := rfl
          have e2 : joinB ((ps.take 0).map (pt t) ++ [pt t ps[0]]) sepC = pt t ps[0] := rfl
          rw [e2] at ih
          rw [e1, ba_nil]
          have e3 : fnB ++ xs ++ ⟨#[40]⟩ ++ (t.gNodes.getD ps[0] TNode.z).gText ++ ⟨#[32]⟩ ++ tw (t.gNodes.getD ps[0] TNode.z).gType = fnB ++ xs ++ ⟨#[40]⟩ ++ pt t ps[0] := by unfold pt; simp only [ba_assoc]
          rw [e3]
          exact ih
        · refine (bif_t (decide_eq_true (by omega))).trans ?_
          refine (bif_t (cat_ok (by rw [c1]; show _ + 2 < _; omega))).trans ?_
          rw [step _ (by rw [ba_size_app, c1]; show _ + 2 ≤ _; omega)]
          rw [join_snoc sepC _ _ (by cases ps with
            | nil => simp at hip
            | cons a b => cases i' with
              | zero => exact absurd rfl h0
              | succ i => simp)] at ih
          have e3 : fnB ++ xs ++ ⟨#[40]⟩ ++ joinB ((ps.take i').map (pt t)) sepC ++ ⟨#[44, 32]⟩ ++ (t.gNodes.getD ps[i'] TNode.z).gText ++ ⟨#[32]⟩ ++ tw (t.gNodes.getD ps[i'] TNode.z).gType = fnB ++ xs ++ ⟨#[40]⟩ ++ (joinB ((ps.take i').map (pt t)) sepC ++ sepC ++ pt t ps[i']) := by unfold pt; simp only [ba_assoc]; rfl
          rw [e3]
          exact ih
    rw [R.l2Pen_fn_eq]
    simp only [Int.toNat_natCast, h9, hnd]
    refine (bif_t (inB_nat hj)).trans ?_
    refine (bif_t (inB_nat hjo)).trans ?_
    refine (bif_t (cat_ok (by ((try simp only [zz] at *) <;> omega)))).trans ?_
    refine (bif_t (cat_ok (by ((try simp only [zz] at *) <;> omega)))).trans ?_
    have hlast2 : IntKind.i64.wrap (((toI (ps ++ [b])).length : Int) - 1) = (ps.length : Int) := by rw [hil]; have := hlast; rw [List.length_append] at this; exact this
    have := loop ps.length 0 (Nat.zero_add _)
    have e1 : joinB ((ps.take 0).map (pt t)) sepC = ⟨#[]⟩ := rfl
    rw [e1, ba_nil] at this
    rw [hlast2]
    refine this.trans ?_
    obtain ⟨x, hxx⟩ : ∃ x, fnB ++ xs ++ ⟨#[40]⟩ ++ joinB (ps.map (pt t)) sepC = x := ⟨_, rfl⟩
    have hxs : x.size = 3 + xs.size + 1 + (joinB (ps.map (pt t)) sepC).size := by rw [← hxx]; simp only [ba_size_app]; rfl
    rw [hxx] at hs ⊢
    rw [R.l2Pen_fn.l1012_eq, bif_f (ge_dec (by omega))]
    simp only []
    refine (bif_t (cat_ok (by ((try simp only [zz] at *) <;> omega)))).trans ?_
    by_cases h0 : xt = 0
    · have e0 : rt xt = ⟨#[]⟩ := by unfold rt; rw [if_pos h0]
      refine (bif_f (by rw [h0]; rfl)).trans ?_
      refine (bif_t (cat_ok (by ((try simp only [zz] at *) <;> omega)))).trans ?_
      refine (bif_t (by rw [hil]; exact inB_nat (by omega))).trans ?_
      rw [Int.toNat_natCast, hgl, b2, ret_bind]
      refine (bif_t (cat_ok (by ((try simp only [zz] at *) <;> omega)))).trans ?_
      refine (bif_t (cat_ok (by ((try simp only [zz] at *) <;> omega)))).trans ?_
      rw [fn_end0, ← hs, e0]
    · have e0 : rt xt = ⟨#[32, 45, 62, 32]⟩ ++ tw xt := by unfold rt; rw [if_neg h0]
      have htw := tw_size (t := xt) (by omega) q2
      refine (bif_t (by simpa using h0)).trans ?_
      refine (bif_t (cat_ok (by ((try simp only [zz] at *) <;> omega)))).trans ?_
      rw [R_tw (by omega) q2, ret_bind]
      refine (bif_t (cat_ok (by ((try simp only [zz] at *) <;> omega)))).trans ?_
      refine (bif_t (cat_ok (by ((try simp only [zz] at *) <;> omega)))).trans ?_
      refine (bif_t (cat_ok (by ((try simp only [zz] at *) <;> omega)))).trans ?_
      refine (bif_t (by rw [hil]; exact inB_nat (by omega))).trans ?_
      rw [Int.toNat_natCast, hgl, b2, ret_bind]
      refine (bif_t (cat_ok (by ((try simp only [zz] at *) <;> omega)))).trans ?_
      refine (bif_t (cat_ok (by ((try simp only [zz] at *) <;> omega)))).trans ?_
      rw [fn_end1, ← hs, e0]
end
end Go.KM.P1
namespace Go.KM.P1
open Go Go.KM
open Go.KM.Fam (Dn dflt)
open Go.KM.Enc (cells sz mkE glob gany u8)
set_option autoImplicit false
set_option linter.unusedVariables false
set_option linter.unusedSimpArgs false
set_option linter.unusedSectionVars false
set_option maxRecDepth 100000
theorem sz_texts (a : List TNode) (ha : a.length ≤ 2000000) (ht : ∀ x ∈ a, x.gText.size ≤ 9223372036854775807) : ∀ (m i : Nat) (left : Int), i + m = a.length → 0 ≤ left → left ≤ 1048576 → ∀ r, L.szNodeS.l244 a left i = some r → 0 ≤ r → ∀ k (hk : k < a.length), i ≤ k → a[k].gText.size ≤ 1048576 := by
  intro m
  induction m with
  | zero => intro i left hi h0 h1 r hr h2 k hk hik; omega
  | succ m ih =>
    intro i left hi h0 h1 r hr h2 k hk hik
    have hil : i < a.length := by omega
    have hx := ht a[i] (List.getElem_mem hil)
    have w : IntKind.i64.wrap (left - (a[i].gText.size : Int)) = left - a[i].gText.size := wi (by omega) (by omega)
    rw [L.szNodeS.l244_eq, bif_t (lt_dec hil), bif_t (inB_nat hil), Int.toNat_natCast, getD_lt hil, L.szNode_eq, w] at hr
    by_cases hn : left - (a[i].gText.size : Int) < 0
    · rw [bif_t (b := decide (left - (a[i].gText.size : Int) < 0)) (by simpa using hn), Option.bind_some, bif_t (b := decide ((-1 : Int) < 0)) rfl] at hr
      cases hr
      omega
    · rw [bif_f (b := decide (left - (a[i].gText.size : Int) < 0)) (by simpa using hn), Option.bind_some, bif_f (b := decide (left - (a[i].gText.size : Int) < 0)) (by simpa using hn), wi_succ (by omega)] at hr
      by_cases hki : k = i
      · subst hki; omega
      · exact ih (i + 1) _ (by omega) (by omega) (by omega) r hr h2 k hk (by omega)
theorem tree_texts (t : TTree) (hl : t.gNodes.length ≤ 1048576) (ht : ∀ x ∈ t.gNodes, x.gText.size ≤ 9223372036854775807) {r : Int} (hr : L.szTree t 1048576 = some r) (h0 : 0 ≤ r) : ∀ x ∈ t.gNodes, x.gText.size ≤ 1048576 := by
  rw [L.szTree_eq, L.szNodeS_eq] at hr
  have w : IntKind.i64.wrap (1048576 - (t.gNodes.length : Int)) = 1048576 - t.gNodes.length := wi (by omega) (by omega)
  rw [w, bif_f (b := decide (1048576 - (t.gNodes.length : Int) < 0)) (decide_eq_false (by omega))] at hr
  obtain ⟨q, hq⟩ := szNodes_some t.gNodes (by omega) ht t.gNodes.length 0 (1048576 - t.gNodes.length) (by omega) (by omega) (by omega)
  have hq : L.szNodeS.l244 t.gNodes (1048576 - t.gNodes.length) 0 = some q := hq
  rw [hq, Option.bind_some] at hr
  have hq0 : 0 ≤ q := by
    by_cases hn : q < 0
    · rw [bif_t (decide_eq_true hn)] at hr; cases hr; omega
    · omega
  intro x hx
  obtain ⟨k, hk, rfl⟩ := List.getElem_of_mem hx
  exact sz_texts t.gNodes (by omega) ht t.gNodes.length 0 (1048576 - t.gNodes.length) (by omega) (by omega) (by omega) q hq hq0 k hk (Nat.zero_le _)
theorem sum_bound (w : Nat → Nat) (B : Nat) : ∀ (n : Nat), (∀ j, j < n → w j ≤ B) → ((List.range n).map w).sum ≤ n * B
  | 0, _ => Nat.zero_le _
  | n + 1, h => by
    rw [List.range_succ, List.map_append, List.sum_append]
    have h1 := sum_bound w B n fun j hj => h j (by omega)
    have h2 := h n (by omega)
    simp only [List.map_cons, List.map_nil, List.sum_cons, List.sum_nil]
    have : (n + 1) * B = n * B + B := by rw [Nat.add_mul, Nat.one_mul]
    omega
section
variable {t : TTree} {out : List (List Nat)} {bs : List TNode_} {r : Nat} (h : Root t out bs r) (hI : ∀ x ∈ t.gNodes, I64 x.gN)
include h hI
theorem root_bound (hx : ∀ x ∈ t.gNodes, x.gText.size ≤ 1048576) : WW (wj t.gNodes) out r ≤ 70368744177664 := by
  have h1 := h.hT.sum (wj t.gNodes) (WW (wj t.gNodes) out) fun j ks hj => WW_eq hj (h.hT.ky j ks hj).1
  have h2 := sum_bound (wj t.gNodes) 4200000 t.gNodes.length fun j hj => by
    have := hx _ (List.getElem_mem hj)
    unfold wj
    rw [getD_lt hj]; omega
  have h3 := h.hL
  simp only [List.map_cons, List.map_nil, List.sum_cons, List.sum_nil] at h1
  have h4 : t.gNodes.length * 4200000 ≤ 12001 * 4200000 := Nat.mul_le_mul_right _ h3
  omega
theorem prints (hx : ∀ x ∈ t.gNodes, x.gText.size ≤ 1048576) (hv : R.ValidTree t = some true) (hr' : I.validRoot t = some bs[r]?) (hk' : R.l2Kids t = some (out.map toI, true)) : ∃ s, R.Print t = some s ∧ I.Print t = some s := by
  have hW := root_bound h hI hx
  have hrl : r < t.gNodes.length := by have := h.hr; omega
  obtain ⟨ks, h1, h2, h3, h4, h5, h6, h7, h8, h9, h10⟩ := view h hI hrl
  have hlt : ∀ k ∈ ks, k < t.gNodes.length := fun k hk => Nat.lt_trans (h2 k hk) hrl
  have hh := h.hh
  have hkd := h.kind
  have hll : (ks.map fun k => (t.gNodes.getD k TNode.z).gKind).length ≤ 100000 := by rw [List.length_map]; omega
  have hall : ∀ k ∈ ks, (t.gNodes.getD k TNode.z).gKind = 23 := by
    obtain ⟨nd, hnd⟩ : ∃ nd, t.gNodes.getD r TNode.z = nd := ⟨_, rfl⟩
    rw [hnd] at h5 hkd
    obtain ⟨xk, xo, xt, xn, xs, kd⟩ := nd
    have hkd : xk = 24 := hkd
    subst hkd
    obtain ⟨p1, p2, p3⟩ := sh_24 hll h5
    intro k hk
    exact beq_iff_eq.1 (List.all_eq_true.1 p1 _ (List.mem_map.2 ⟨k, hk, rfl⟩))
  obtain ⟨F, hF⟩ := pick (P := Fn t out bs) ks fun k hk => fns h hI hx (hlt k hk) (hall k hk) (Nat.le_trans (h8 k hk) hW) (by have := h10 k hk; omega)
  have hsz : (catB (ks.map F)).size ≤ (ks.map (WW (wj t.gNodes) out)).sum := by
    rw [catB_size, List.map_map]
    exact sum_le fun k hk => (hF k hk).2.2
  have htk := fun i => catB_take_le F ks i
  obtain ⟨q, hq⟩ : ∃ q, catB (ks.map F) = q := ⟨_, rfl⟩
  rw [hq] at hsz
  simp only [hq] at htk
  have hres : ∃ s, (bif decide ((q.size : Int) > 12000) then some (⟨#[]⟩ : ByteArray) else some q) = some s := by
    cases decide ((q.size : Int) > 12000)
    · exact ⟨_, rfl⟩
    · exact ⟨_, rfl⟩
  obtain ⟨s, hs⟩ := hres
  have hol : (out.map toI).length = t.gNodes.length := by rw [List.length_map]; exact h.hT.lo
  refine ⟨s, ?_, ?_⟩
  · rw [R.Print_eq, hv, hk']
    simp only [Option.bind_some, Bool.not_true, cond_false]
    have hw : IntKind.i64.wrap (((out.map toI).length : Int) - 1) = (r : Int) := by
      rw [hol]
      have := h.hr
      have := h.hL
      rw [wi (by omega) (by omega)]; omega
    rw [hw, bif_t (inB_nat (by omega)), Int.toNat_natCast, h9]
    have hl : (toI ks).length = ks.length := by simp [toI]
    have loop : ∀ (n i : Nat), i + n = ks.length → R.Print.l2036 (strB (catB ((ks.take i).map F))) (toI ks) i t.gNodes (out.map toI) = some s := by
      intro n
      induction n with
      | zero =>
        intro i hi
        rw [R.Print.l2036_eq, bif_f (ge_dec (by omega)), List.take_of_length_le (by omega), hq, strB_len, List.map_id', strOf_strB]
        exact hs
      | succ n ih =>
        intro i hi
        have hil : i < ks.length := by omega
        have hil' : i < (toI ks).length := by omega
        have hgi : (toI ks).getD i 0 = (ks[i] : Int) := by rw [getD_lt hil']; simp [toI]
        have hS := hF ks[i] (List.getElem_mem hil)
        have htake : ks.take (i + 1) = ks.take i ++ [ks[i]] := by rw [List.take_add_one, List.getElem?_eq_getElem hil]; rfl
        have h1' := htk (i + 1)
        have ih := ih (i + 1) (by omega)
        rw [htake, List.map_append, List.map_cons, List.map_nil, catB_snoc] at ih h1'
        rw [ba_size_app] at h1'
        rw [strB_app] at ih
        rw [R.Print.l2036_eq, bif_t (lt_dec hil'), bif_t (inB_nat hil'), Int.toNat_natCast, hgi, hS.2.1, ret_bind]
        refine (bif_t (room_len (by rw [strB_len]; show _ + (F ks[i]).size ≤ _; omega))).trans ?_
        rw [wi_succ (by omega)]
        exact ih
    exact loop ks.length 0 (Nat.zero_add _)
  · rw [I.Print_eq, hr', Option.bind_some, h4]
    simp only [Option.isNone_some, Option.isSome_some, Option.getD_some, cond_true, cond_false]
    have hl : (ks.map fun k => bs[k]?).length = ks.length := List.length_map _
    have loop : ∀ (n i : Nat), i + n = ks.length → ∀ m, I.Print.l500 (ks.map fun k => bs[k]?) (ks.map fun k => bs[k]?).length i m (strB (catB ((ks.take i).map F))) = some s := by
      intro n
      induction n with
      | zero =>
        intro i hi m
        rw [I.Print.l500_eq, bif_f (ge_dec (by omega)), List.take_of_length_le (by omega), hq, G.strings_Builder_Len_eq, ret_bind]
        simp only [strB_len, List.map_id', strOf_strB]
        exact hs
      | succ n ih =>
        intro i hi m
        have hil : i < ks.length := by omega
        have hil' : i < (ks.map fun k => bs[k]?).length := by omega
        have hgi : (ks.map fun k => bs[k]?).getD i none = bs[ks[i]]? := by rw [getD_lt hil']; simp
        have hS := hF ks[i] (List.getElem_mem hil)
        have htake : ks.take (i + 1) = ks.take i ++ [ks[i]] := by rw [List.take_add_one, List.getElem?_eq_getElem hil]; rfl
        have h1' := htk (i + 1)
        have ih := ih (i + 1) (by omega)
        rw [htake, List.map_append, List.map_cons, List.map_nil, catB_snoc] at ih h1'
        rw [ba_size_app] at h1'
        rw [strB_app] at ih
        obtain ⟨m', hm'⟩ := hS.1 _ i m (strB (catB ((ks.take i).map F))) hil' (by omega) hgi (by rw [strB_len]; omega)
        rw [hm']
        exact ih m'
    exact loop ks.length 0 (Nat.zero_add _) false
end
theorem fnPrint (t : TTree) (hl : t.gNodes.length ≤ 9223372036854775807) (ht : ∀ x ∈ t.gNodes, x.gText.size ≤ 9223372036854775807) (hI : ∀ x ∈ t.gNodes, I64 x.gN) : L.FnExactPrint t = some true := by
  obtain ⟨r, hr, hrl⟩ := sz_some t hl ht
  rw [L.FnExactPrint_eq, hr, Option.bind_some]
  by_cases h0 : r < 0
  · rw [bif_t (by simpa using h0)]
  · rw [bif_f (by simpa using h0)]
    have hlen := hrl (by omega)
    have hx := tree_texts t hlen ht hr (by omega)
    have : ∃ s, R.Print t = some s ∧ I.Print t = some s := by
      rcases root_same t hI with ⟨e1, e2⟩ | ⟨out, bs, r, hR, e1, e2, e3⟩
      · refine ⟨⟨#[]⟩, ?_, ?_⟩
        · rw [R.Print_eq, e1]; rfl
        · rw [I.Print_eq, e2]; rfl
      · exact prints hR hI hx e1 e2 e3
    obtain ⟨s, h1, h2⟩ := this
    simp only [toTree_id t hlen, Option.bind_some, h1, h2, eqTree_self t hlen, bEq_self, Bool.not_true, cond_false]
end Go.KM.P1
