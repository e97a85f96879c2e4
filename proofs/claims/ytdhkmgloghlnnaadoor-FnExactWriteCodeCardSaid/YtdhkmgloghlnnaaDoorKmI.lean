/- Elements of owned lists are stored; new variables; parts of tuples. Conditions: none. -/
import Derived.Test.YtdhkmgloghlnnaaDoorKmH
namespace Go.KM
open Go
open Fam (Dn dflt)
open Enc (cells sz mkE glob gany u8)
set_option autoImplicit false
set_option linter.unusedVariables false
set_option linter.unusedSimpArgs false
set_option linter.unusedSectionVars false
section
variable [Enc] {d nt : Nat} {e : Option Nat} {S : St} {g g' : G} {a : Act} {w w' : World} {P : Program}
def skey (d : Nat) (g : G) : Src → Key
  | .var t => .tm d t 0
  | .cell b o => ckey d g b o
  | .vo i => .vo d i
theorem Rel.vlTo (h : Rel d nt e S g a w) (hr : S.rt = []) {i : Nat} {p : PV} (hp : i < S.vl.length → ∃ v, g.va i = some v ∧ RepC g w (Key.vo d i) p v) : Rel d nt e { S with vl := S.vl.set i p } g a w := by
  refine ⟨h.sz, h.tm, h.lc, h.mm, h.no, fun t r hr' => by rw [show ({ S with vl := S.vl.set i p } : St).rt = S.rt from rfl, hr] at hr'; simp [lk] at hr', h.wf, h.df, fun j q hj => ?_⟩
  have hk : (S.vl.set i p)[j]? = some q := hj
  rw [List.getElem?_set] at hk
  by_cases hij : i = j
  · rw [if_pos hij] at hk
    split at hk
    · rename_i hlt
      simp only [Option.some.injEq] at hk
      rw [← hk, ← hij]
      exact hp (by omega)
    · simp at hk
  · rw [if_neg hij] at hk
    exact h.vl j q hk
theorem free_vl {i : Nat} : Free d { S with vl := S.vl.set i .gone } g (.vo d i) := by
  refine ⟨fun _ _ _ hk => by simp at hk, fun _ _ _ _ hk => by simp at hk, fun _ _ _ _ hk => by simp at hk, fun j p hk hj => ?_⟩
  simp only [Key.vo.injEq, true_and] at hk
  have hl : (S.vl.set i .gone)[j]? = some p := hj
  rw [List.getElem?_set, if_pos hk] at hl
  split at hl
  · simp only [Option.some.injEq] at hl; rw [← hl]; rfl
  · simp at hl
theorem src_key (h : Rel d nt e S g a w) {s : Src} {T : Nat} {xs : List (Dn T)} (hs : S.at_ s = some (.ol T xs)) {v : Value} (hv : hdr g a w s = some v) : RepO g w (skey d g s) T xs v := by
  cases s with
  | var u =>
    have h1 := (h.tm u _ hs).2
    simp only [hdr] at hv
    have : a.tmps.getD u undef = v := by simp [Array.getD_eq_getD_getElem?, hv]
    rw [this] at h1; exact h1
  | vo i =>
    obtain ⟨u, h1, h2⟩ := h.vl i _ hs
    have hv : g.va i = some v := hv
    rw [h1] at hv
    obtain rfl := Option.some.inj hv
    exact h2
  | cell b o =>
    simp only [St.at_] at hs
    cases hb : S.cont b with
    | none => simp [hb] at hs
    | some cs =>
      simp only [hb] at hs
      obtain ⟨_, C, E, h2, h3⟩ := h.cont hb
      obtain ⟨u, h4, h5⟩ := h3.2 o _ hs
      simp only [hdr] at hv
      rw [cell_of_row w (g.addr b) o C E (0, 0) h2, h4] at hv
      simp only [Option.some.injEq] at hv
      subst hv
      exact h5
theorem wf_setRow {b : Nat} {C C' : Array Value} {E : TypeId} {κ : Key} (h : WF g w) (hb : w.heap[b]? = some (.cells C E (0, 0))) (ho : g.own b = some κ) : WF g (w.setRow b C') := by
  have hs := heap_setRow_size w b C'
  refine ⟨h.gl, fun k κ' hk => by rw [hs]; exact h.own k κ' hk, fun k D hf => ?_, fun k b' j hk => by rw [hs]; exact h.ob k b' j hk, fun i hi => by rw [hs]; exact h.ol i hi, h.inj, h.oe_row fun k D T fr hk => ?_⟩
  case refine_2 =>
    by_cases hkb : k = b
    · subst hkb
      rw [hb] at hk
      cases hk
      exact ⟨_, _, setRow_heap w k C C' E _ hb⟩
    · exact ⟨_, _, (setRow_other w b k C' hkb).trans hk⟩
  obtain ⟨h1, h2⟩ := h.fz k D hf
  refine ⟨h1, ?_⟩
  rw [setRow_other w b k C' fun hh => by subst hh; rw [ho] at h1; simp at h1]
  exact h2
theorem Rel.listAt (h : Rel d nt e S g a w) (hr : S.rt = []) {s : Src} {T : Nat} {xs ys : List (Dn T)} (hs : S.at_ s = some (.ol T xs)) {v : Value} (hv : hdr g a w s = some v) {b : Nat} (hb : v.ownBlock = some b) {C' : Array Value}
    (hy : RepO g (w.setRow b C') (skey d g s) T ys v) : Rel d nt e (S.setAt s (.ol T ys)) g a (w.setRow b C') ∧ Ext d S.mm.length g w g (w.setRow b C') := by
  have hrep := src_key h hs hv
  obtain ⟨vs, h1, h2, h3⟩ := hrep
  have hob := h2 b hb
  obtain ⟨C, hC⟩ : ∃ C, w.heap[b]? = some (.cells C T (0, 0)) := by
    rcases h1.2 with ⟨h4, _⟩ | ⟨b', cap, cur, h4, _, h5, _⟩
    · subst h4; simp [Value.ownBlock] at hb
    · subst h4; simp only [Value.ownBlock, Option.some.injEq] at hb; subst hb; exact ⟨cur, h5⟩
  have hother : ∀ k, k ≠ b → (w.setRow b C').heap[k]? = w.heap[k]? := fun k hk => setRow_other w b k C' hk
  have hk : Keep (fun k κ => k = b ∧ κ = skey d g s) g w g (w.setRow b C') := ⟨.refl g, rfl, fun k κ hk hx => ⟨hk, hother k fun hh => by subst hh; rw [hob] at hk; exact hx ⟨rfl, (Option.some.inj hk).symm⟩⟩⟩
  have hwf := wf_setRow (C' := C') h.wf hC hob
  cases s with
  | var t =>
    have ht := (h.tm t _ hs).1
    have hm : Mine d S.mm.length g w (skey d g (.var t)) := Nat.le_refl d
    refine ⟨?_, ⟨.refl g, fun k κ hk' hout => ⟨hk', hother k fun hh => by subst hh; rw [hob] at hk'; simp only [Option.some.injEq] at hk'; subst hk'; exact hm.out k hout⟩, by rw [heap_setRow_size]; exact Nat.le_refl _, fun i h1 h2 => by omega, ⟨rfl, rfl, rfl⟩⟩⟩
    have h4 : Rel d nt e (S.setT t .gone) g a w := h.gone ht
    have h5 := h4.keep hk (fun _ => rfl) (fun k κ hx => by obtain ⟨_, rfl⟩ := hx; exact ⟨trivial, fun _ => free_gone⟩) (.inl (by simp [St.setT, hr, dropR])) hwf
    have h6 := h5.setT' (a' := a) (t := t) (p := .ol T ys) ht rfl rfl (fun _ _ => rfl) (by
      have : a.tmps.getD t undef = v := by simp only [hdr] at hv; simp [Array.getD_eq_getD_getElem?, hv]
      rw [this]; exact hy)
    refine h6.congr (fun u => ?_) (fun _ => rfl) rfl (by simp [St.setAt, St.setT, hr, dropR])
    show lk ((t, _) :: S.tm) u = lk ((t, _) :: (t, _) :: S.tm) u
    rw [lk_cons, lk_cons, lk_cons]
    split <;> rfl
  | vo i =>
    have hm : Mine d S.mm.length g w (skey d g (.vo i)) := Nat.le_refl d
    refine ⟨?_, ⟨.refl g, fun k κ hk' hout => ⟨hk', hother k fun hh => by subst hh; rw [hob] at hk'; simp only [Option.some.injEq] at hk'; subst hk'; exact hm.out k hout⟩, by rw [heap_setRow_size]; exact Nat.le_refl _, fun i h1 h2 => by omega, ⟨rfl, rfl, rfl⟩⟩⟩
    have h4 : Rel d nt e { S with vl := S.vl.set i .gone } g a w := h.vlTo hr fun _ => ⟨v, hv, trivial⟩
    have h5 := h4.keep hk (fun _ => rfl) (fun k κ hx => by obtain ⟨_, rfl⟩ := hx; exact ⟨trivial, fun _ => free_vl⟩) (.inl hr) hwf
    have h6 := h5.vlTo (p := .ol T ys) (i := i) hr fun _ => ⟨v, hv, hy⟩
    refine h6.congr (fun _ => rfl) (fun _ => rfl) rfl rfl ?_
    show S.vl.set i _ = (S.vl.set i _).set i _
    rw [List.set_set]
  | cell bs o =>
    simp only [St.at_] at hs
    cases hcb : S.cont bs with
    | none => simp [hcb] at hs
    | some cs =>
      simp only [hcb] at hs
      have hle := (List.getElem?_eq_some_iff.1 hs).1
      have hm := ckey_mine h hcb o
      refine ⟨?_, ⟨.refl g, fun k κ hk' hout => ⟨hk', hother k fun hh => by subst hh; rw [hob] at hk'; simp only [Option.some.injEq] at hk'; subst hk'; exact hm.out k hout⟩, by rw [heap_setRow_size]; exact Nat.le_refl _, fun i h1 h2 => by omega, ⟨rfl, rfl, rfl⟩⟩⟩
      have h4 : Rel d nt e (S.setCont bs (splice cs o [.gone])) g a w := h.cellTo hcb hr hle fun _ _ _ _ _ => trivial
      have hcont' := setCont_cont S (cs' := splice cs o [.gone]) hcb
      have h5 := h4.keep hk (fun _ => rfl) (fun k κ hx => by
        obtain ⟨_, rfl⟩ := hx
        exact ⟨by cases bs <;> trivial, fun _ => free_cell h4 hcont' fun c hc' => by
          rw [splice1_get hle, if_pos rfl] at hc'
          simp only [Option.some.injEq] at hc'
          subst hc'; rfl⟩) (.inl (by cases bs <;> exact hr)) hwf
      have hne : g.addr bs ≠ b := fun hh => by
        have := (h.cont hcb).1
        rw [hh, hob] at this
        simp only [Option.some.injEq] at this
        exact bkey_cell d bs (this ▸ (by cases bs <;> trivial : (skey d g (.cell bs o)).cell))
      have h6 := h5.cellTo (c := .ol T ys) (off := o) hcont' (by cases bs <;> exact hr) (by rw [splice1_len hle]; exact hle) fun C2 E2 v' h14 h15 => by
        have : v' = v := by
          simp only [hdr] at hv
          rw [hother _ hne] at h14
          rw [cell_of_row w (g.addr bs) o C2 E2 (0, 0) h14, h15] at hv
          exact Option.some.inj hv
        subst this
        exact hy
      rw [splice_splice hle] at h6
      have hset : S.setAt (.cell bs o) (.ol T ys) = S.setCont bs (splice cs o [.ol T ys]) := by simp only [St.setAt, hcb]
      rw [hset]
      refine h6.congr (fun u => by cases bs <;> rfl) (fun u => ?_) ?_ (by cases bs <;> rfl)
      · exact (((setCont_setCont S bs _ _ u) _).1 rfl).symm ▸ rfl
      · cases bs with
        | loc u => rfl
        | obj u => show S.mm.set u _ = (S.mm.set u _).set u _; rw [List.set_set]
theorem storeEl_ran {F : Fx} (hT : TabOk P F.T) {ty U i off : Nat} {x v : Operand} {s : Src} {xs : List (Dn U)} {p : PV} {y : Dn U} (h : Rel d nt e S g a w) (hx : S.opr x = some (.el s U i off)) (hs : S.at_ s = some (.ol U xs)) (hv : S.opv v = some p)
    (hd : p.dup = true) (hpl : p.cs.all PV.plain = true) (hl : p.cs.length = F.T.cz ty) (hz : 0 < F.T.cz ty) (hy : mkE U (splice (cells U (xs.getD i (dflt U))) off p.cs) = some y) {o : Oper} (hop : o.op = .store ty x v) :
    RanS d nt e S.mm.length (S.noR.setAt s (.ol U (xs.set i y))) g a w ((execOp a.eval o).run P w) := by
  obtain ⟨u, rfl, hu⟩ := opr_tmp hx
  obtain ⟨_, xs', b, len, cap, h1, h2, h3, h4⟩ := h.rt u _ hu
  rw [hs] at h1
  simp only [Option.some.injEq, PV.ol.injEq, heq_eq_eq, true_and] at h1
  subst h1
  have h5 := src_key h hs h2
  have h5' := h5
  obtain ⟨C, h7, hlen, h8, h9, h10, h11⟩ := repO_row h5
  obtain ⟨vs, h12, h13, h14⟩ := h5'
  -- the cells that are stored
  have hok : p.cs.all PV.okc = true := by rw [List.all_eq_true] at hpl ⊢; intro c hc; simp [PV.okc, hpl c hc]
  obtain ⟨h15, h16⟩ := repT_cells (opv_dup h hv hd fun _ => .obj) hok
  have hget : xs[i]? = some (xs.getD i (dflt U)) := by rw [List.getD_eq_getElem?_getD, List.getElem?_eq_getElem h3]; rfl
  obtain ⟨h17, h18⟩ := hT.enc.mkE _ _ _ hy
  have hcl := hT.enc.len U (xs.getD i (dflt U))
  have hfit : off + p.cs.length ≤ (cells U (xs.getD i (dflt U))).length := by
    have : (splice (cells U (xs.getD i (dflt U))) off p.cs).length = sz U := h17
    simp only [splice, List.length_append, List.length_take, List.length_drop] at this
    omega
  have hrow : (i + 1) * sz U ≤ cap * sz U := Nat.mul_le_mul_right _ (by omega)
  rw [Nat.add_mul, Nat.one_mul] at hrow
  have hsz : i * sz U + off + (a.eval v).cells.size ≤ C.size := by rw [h15, h10]; omega
  have hrun := storeVar_run (P := P) (w := w) hT (v := a.eval v) (o := i * sz U + off) h7 hz (by rw [h15, hl]) hsz (fun u hu => by
    obtain ⟨j, hj⟩ := List.mem_iff_getElem?.1 hu
    have hj' := (List.getElem?_eq_some_iff.1 hj).1
    simp only [Array.length_toList] at hj'
    have hc : p.cs[j]? = some (p.cs[j]'(by omega)) := List.getElem?_eq_getElem _
    obtain ⟨u', h22, _, h24⟩ := h16 j _ hc
    have : (a.eval v).cells[j]? = some u := by simpa using hj
    rw [this] at h22
    simp only [Option.some.injEq] at h22
    subst h22; exact h24)
  generalize hC' : ((C.toList.take (i * sz U + off) ++ (a.eval v).cells.toList ++ C.toList.drop (i * sz U + off + (a.eval v).cells.size)).toArray) = C' at hrun
  have hC'g : ∀ j, C'[j]? = if i * sz U + off ≤ j ∧ j < i * sz U + off + (a.eval v).cells.size then (a.eval v).cells[j - (i * sz U + off)]? else C[j]? := fun j => by rw [← hC']; exact row_splice hsz j
  have hC's : C'.size = C.size := by
    rw [← hC']
    simp only [List.size_toArray, List.length_append, List.length_take, List.length_drop, Array.length_toList]
    omega
  have hnew := setRow_heap w b C C' U (0, 0) h7
  -- the elements as they are now
  have hcells : ∀ k z, (xs.set i y)[k]? = some z → CellsAt g C' (k * sz U) (cells U z) := by
    intro k z hk
    rw [List.getElem?_set] at hk
    by_cases hki : i = k
    · subst hki
      simp only [if_true, h3] at hk
      simp only [Option.some.injEq] at hk
      subst hk
      refine h18 g C' _ fun j c hj => ?_
      rw [splice_get hfit] at hj
      by_cases hjj : off ≤ j ∧ j < off + p.cs.length
      · rw [if_pos hjj] at hj
        obtain ⟨u', h22, h23, _⟩ := h16 _ c hj
        refine ⟨u', ?_, (plain_key (all_plain hpl hj)).1 h23⟩
        rw [hC'g, h15, if_pos (by omega)]
        have : i * sz U + j - (i * sz U + off) = j - off := by omega
        rw [this]; exact h22
      · rw [if_neg hjj] at hj
        obtain ⟨u', h22, h23⟩ := h11 i _ hget j c hj
        refine ⟨u', ?_, h23⟩
        rw [hC'g, h15, if_neg (by omega)]; exact h22
    · simp only [hki, if_false] at hk
      intro j c hj
      obtain ⟨u', h22, h23⟩ := h11 k z hk j c hj
      refine ⟨u', ?_, h23⟩
      have hj' : j < sz U := by have := (List.getElem?_eq_some_iff.1 hj).1; rw [hT.enc.len] at this; exact this
      rw [hC'g, h15, if_neg ?_]
      · exact h22
      · rw [hcl] at hfit
        rcases Nat.lt_or_gt_of_ne hki with hlt | hgt
        · have := Nat.mul_le_mul_right (sz U) (show i + 1 ≤ k by omega)
          rw [Nat.add_mul, Nat.one_mul] at this; omega
        · have := Nat.mul_le_mul_right (sz U) (show k + 1 ≤ i by omega)
          rw [Nat.add_mul, Nat.one_mul] at this; omega
  have hy' : RepO g (w.setRow b C') (skey d g s) U (xs.set i y) (.slice (some ⟨b, 0, none⟩) len cap) := by
    have hcap : cap ≤ maxLen := by
      rcases h12.2 with ⟨h24, _⟩ | ⟨b', cap', cur, h24, _, _, _, h25, _⟩
      · simp at h24
      · simp only [Value.slice.injEq] at h24; obtain ⟨_, _, rfl⟩ := h24; exact h25
    refine ⟨(C'.toList.take ((xs.set i y).length * sz U)), ⟨?_, .inr ⟨b, cap, C', by rw [List.length_set, ← hlen], Nat.zero_le _, hnew, by rw [List.length_set]; exact h8, hcap, by rw [hC's, h10], rfl⟩⟩, fun b' hb' => ?_, fun k z hk j c hj => ?_⟩
    · have hh : C'.toList.length = cap * sz U := by rw [Array.length_toList, hC's, h10]
      rw [List.length_take, List.length_set, hh]
      exact Nat.min_eq_left (Nat.mul_le_mul_right _ h8)
    · simp only [Value.ownBlock, Option.some.injEq] at hb'; subst hb'; exact h13 _ rfl
    · obtain ⟨u', h22, h23⟩ := hcells k z hk j c hj
      refine ⟨u', ?_, h23⟩
      have hk' : k < xs.length := by have := (List.getElem?_eq_some_iff.1 hk).1; simpa using this
      have hj' : j < sz U := by have := (List.getElem?_eq_some_iff.1 hj).1; rw [hT.enc.len] at this; exact this
      have hlt : k * sz U + j < (xs.set i y).length * sz U := by
        have := Nat.mul_le_mul_right (sz U) (show k + 1 ≤ xs.length by omega)
        rw [Nat.add_mul, Nat.one_mul] at this
        rw [List.length_set]; omega
      simp only [List.getElem?_toArray]
      rw [List.getElem?_take, if_pos hlt]
      simpa using h22
  have hs' : S.noR.at_ s = some (.ol U xs) := by
    cases s with
    | var u => exact hs
    | cell b o => cases b <;> exact hs
    | vo i => exact hs
  obtain ⟨h30, h31⟩ := h.noR.listAt rfl hs' h2 rfl hy'
  refine ⟨g, _, ?_, h30, h31⟩
  simp [execOp, hop, show a.eval (.tmp u) = _ from h4, hrun]
theorem store_ran {F : Fx} (hT : TabOk P F.T) {ty : Nat} {x v : Operand} {S' : St} (h : Rel d nt e S g a w) (ho : opStore F ty x v S = some S') {o : Oper} (hop : o.op = .store ty x v) :
    RanS d nt e S.mm.length S' g a w ((execOp a.eval o).run P w) := by
  have hpos : ∀ {n : Nat}, Nat.blt 0 n = true → 0 < n := fun {n} hh => by
    have : 1 ≤ n := by simpa [Nat.blt, Nat.ble_eq] using hh
    omega
  unfold opStore at ho
  split at ho
  · rename_i s U i off hx
    split at ho
    · rename_i V xs p hs hv
      cases hg : (Nat.beq U V && p.dup && p.cs.all PV.plain && Nat.beq p.cs.length (F.T.cz ty) && Nat.blt 0 (F.T.cz ty)) with
      | false => simp only [hg, cond_false, reduceCtorEq] at ho
      | true =>
        simp only [hg, cond_true] at ho
        simp only [Bool.and_eq_true] at hg
        obtain ⟨⟨⟨⟨h1, h2⟩, h3⟩, h4⟩, h5⟩ := hg
        have := Nat.eq_of_beq_eq_true h1
        subst this
        split at ho <;> simp only [Option.some.injEq, reduceCtorEq] at ho
        rename_i y hy
        subst ho
        exact storeEl_ran hT h hx hs hv h2 h3 (Nat.eq_of_beq_eq_true h4) (hpos h5) hy hop
    · simp at ho
  · simp at ho
  · split at ho
    · rename_i b off p S1 hx hv
      split at ho
      · rename_i cs hb
        cases hg : (Nat.beq p.cs.length (F.T.cz ty) && p.cs.all PV.okc && Nat.blt 0 (F.T.cz ty) && Nat.ble (off + p.cs.length) cs.length) with
        | false => simp only [hg, cond_false, reduceCtorEq] at ho
        | true =>
          simp only [hg, cond_true, Option.some.injEq] at ho
          subst ho
          simp only [Bool.and_eq_true] at hg
          obtain ⟨⟨⟨h1, h2⟩, h3⟩, h4⟩ := hg
          exact storeAd_ran hT h hx hv hb (Nat.eq_of_beq_eq_true h1) h2 (hpos h3) (Nat.le_of_ble_eq_true h4) hop
      · simp at ho
    · simp at ho
end
end Go.KM
