/- Slices that are built, made, appended to. Conditions: none. -/
import Derived.Test.YtdhkmgloghlnnaaGreatDoorKmHh
namespace Go.KM
open Go
open Fam (Dn dflt)
open Enc (cells sz mkE glob gany u8)
set_option autoImplicit false
set_option linter.unusedVariables false
set_option linter.unusedSimpArgs false
set_option linter.unusedSectionVars false
section
variable [Enc] {d nt : Nat} {e : Option Nat} {S : St} {g g' : G} {a : Act} {w w' : World} {P : Program}
theorem Rel.mm_no (h : Rel d nt e S g a w) : S.mm.length ≤ g.no := by
  have := h.no
  cases e with
  | none => exact Nat.le_of_eq this
  | some k => have := this.1; omega
theorem Ext.comp {m : Nat} {g1 g2 : G} {w1 w2 : World} (h : Ext d m g w g1 w1) (hm : m ≤ g.no) (h' : Ext d m g1 w1 g2 w2) : Ext d m g w g2 w2 := by
  have out : ∀ b κ, Outer d m g b κ → Outer d m g1 b κ := fun b κ ho => by
    cases κ with
    | obj => exact fun i hi => by rw [h.gr.oa i (by omega)]; exact ho i hi
    | ob b' j => exact fun i hi => by rw [h.gr.oa i (by omega)]; exact ho i hi
    | _ => exact ho
  refine ⟨h.gr.trans h'.gr, fun b κ hb ho => ?_, Nat.le_trans h.hs h'.hs, fun i h1 h2 => ?_, h.sl.trans h'.sl⟩
  · obtain ⟨k1, k2⟩ := h.own b κ hb ho
    obtain ⟨k3, k4⟩ := h'.own b κ k1 (out b κ ho)
    exact ⟨k3, k4.trans k2⟩
  · by_cases hi : i < g1.no
    · rw [h'.gr.oa i hi]; exact h.nw i h1 hi
    · exact Nat.le_trans h.hs (h'.nw i (by omega) h2)
theorem lk_twice {t : Nat} {p q : PV} {l : List (Nat × PV)} (u : Nat) : lk ((t, p) :: l) u = lk ((t, p) :: (t, q) :: l) u := by
  rw [lk_cons, lk_cons, lk_cons]; split <;> rfl
theorem frzO_rep {m : Nat} (h : Rel d nt e S g a w) (x : Operand) : ∃ g', Rel d nt e (frzO S x) g' a w ∧ Ext d m g w g' w ∧ g'.oa = g.oa ∧ g'.no = g.no ∧ (frzO S x).mm = S.mm ∧ OF g g' := by
  cases x with
  | tmp t =>
    cases hl : lk S.tm t with
    | none =>
      have e1 : frzO S (.tmp t) = S := by simp only [frzO, hl]
      rw [e1]
      exact ⟨g, h, .refl _ _ _ _, rfl, rfl, rfl, .refl g⟩
    | some p =>
      cases hc : (p.dup || !p.okZ) with
      | true =>
        have e1 : frzO S (.tmp t) = S := by simp only [frzO, hl, hc, cond_true]
        rw [e1]
        exact ⟨g, h, .refl _ _ _ _, rfl, rfl, rfl, .refl g⟩
      | false =>
        have e1 : frzO S (.tmp t) = S.noR.setT t p.frz := by simp only [frzO, hl, hc, cond_false]
        rw [e1]
        simp only [Bool.or_eq_false_iff, Bool.not_eq_false'] at hc
        obtain ⟨ht, hrep⟩ := h.tm t p hl
        have hg := h.noR.gone ht
        cases p with
        | ol T xs =>
          obtain ⟨g', h1, h2, h3, h4, h5, h6, _, h12⟩ := hg.freeze (m := m) (T := T) (xs := xs) hrep (mine_tm (t := t) (i := 0)) free_gone rfl
          refine ⟨g', (h1.setT' (a' := a) (t := t) (p := .fl T xs) ht rfl rfl (fun _ _ => rfl) h2).congr (fun u => lk_twice u) (fun _ => rfl) rfl rfl, h3, h4, h5, rfl, h12⟩
        | st cs =>
          obtain ⟨A, h7, h8, h9⟩ := hrep
          have hok : cs.all PV.okf = true := hc.2
          obtain ⟨g', h1, h2, h3, h4, h5, h6, h12, _⟩ := hg.freezeCells (m := m) rfl cs (fun j => (A[j]?).getD undef) (fun j => .tm d t j) (fun _ => mine_tm) (fun _ _ => free_gone) (fun i j hij => by simpa using hij) hok (fun j c hj => by
            obtain ⟨u, h10, h11⟩ := h9 j c hj
            simp only [h10, Option.getD_some]; exact h11)
          refine ⟨g', (h1.setT' (a' := a) (t := t) (p := .st (cs.map PV.fz)) ht rfl rfl (fun _ _ => rfl) ⟨A, h7, by simpa using h8, fun j c hj => ?_⟩).congr (fun u => lk_twice u) (fun _ => rfl) rfl rfl, h2, h3, h4, rfl, h12⟩
          simp only [List.getElem?_map, Option.map_eq_some_iff] at hj
          obtain ⟨c', hj', rfl⟩ := hj
          obtain ⟨u, h10, _⟩ := h9 j c' hj'
          have := h6 j c' hj'
          simp only [h10, Option.getD_some] at this
          have hokc : c'.okf = true := by rw [List.all_eq_true] at hok; exact hok _ (List.mem_of_getElem? hj')
          exact ⟨u, h10, (plain_key (fz_plain hokc)).2 this⟩
        | _ => simp_all [PV.okZ]
  | _ => exact ⟨g, h, .refl _ _ _ _, rfl, rfl, rfl, .refl g⟩
theorem lk_dropC (u : Nat) : ∀ (l : List (Nat × List PV)) (t : Nat), lk (dropC u l) t = if t = u then none else lk l t := by
  intro l
  induction l with
  | nil => intro t; simp [dropC, lk]
  | cons x l ih =>
    obtain ⟨v, cs⟩ := x
    intro t
    simp only [dropC]
    cases hb : Nat.beq v u with
    | true =>
      have := beq_true hb
      subst this
      simp only [cond_true, ih, lk_cons]
      by_cases h : t = v
      · simp [h]
      · simp [h, Ne.symm h]
    | false =>
      have hne := beq_false hb
      simp only [cond_false, lk_cons, ih]
      by_cases h : v = t
      · subst h; simp [hne]
      · simp [h]
theorem frzL_rep {F : Fx} (hE : EncOk) {m : Nat} (h : Rel d nt e S g a w) (x : Operand) : ∃ g', Rel d nt e (frzL F S x) g' a w ∧ Ext d m g w g' w ∧ g'.oa = g.oa ∧ g'.no = g.no ∧ (frzL F S x).mm = S.mm := by
  have same : ∀ {S' : St}, S' = S → ∃ g', Rel d nt e S' g' a w ∧ Ext d m g w g' w ∧ g'.oa = g.oa ∧ g'.no = g.no ∧ S'.mm = S.mm := fun hh => by
    subst hh; exact ⟨g, h, .refl _ _ _ _, rfl, rfl, rfl⟩
  unfold frzL
  split
  case h_2 => exact same rfl
  rename_i t
  split
  case h_2 => exact same rfl
  rename_i u hl
  split
  case h_2 => exact same rfl
  rename_i T cs hn hc
  cases hok : cs.all PV.okf with
  | false => exact same rfl
  | true =>
  rw [cond_true]
  split
  case h_2 => exact same rfl
  rename_i y hy
  obtain ⟨ht, hrep⟩ := h.tm t _ hl
  obtain ⟨ho, C, E, hb, hK⟩ := h.lc u cs hc
  let S1 : St := { tm := S.tm, lc := dropC u S.lc, mm := S.mm, rt := [], vl := S.vl }
  have hd : ∀ t cs, lk S1.lc t = some cs → t ≠ u ∧ lk S.lc t = some cs := fun t cs hh => by
    have hh : lk (dropC u S.lc) t = some cs := hh
    rw [lk_dropC] at hh
    split at hh
    · simp at hh
    · rename_i h1; exact ⟨h1, hh⟩
  have h1 : Rel d nt e S1 g a w := ⟨h.sz, h.tm, fun t cs hh => h.lc t cs (hd t cs hh).2, h.mm, h.no, fun t r hr => by simp [S1, lk] at hr, h.wf, h.df, h.vl⟩
  obtain ⟨g1, h2, h3, h4, h5, h6, h7, _, h8⟩ := h1.freezeCells (m := m) rfl cs (fun j => (C[j]?).getD undef) (Key.lc d u) (fun _ => Nat.le_refl d)
    (fun j _ => ⟨fun _ _ _ hk => by simp at hk, fun t cs2 j2 c hk hl2 _ => by
      simp only [Key.lc.injEq, true_and] at hk
      exact absurd hk.1.symm (hd t cs2 hl2).1, fun _ _ _ _ hk => by simp at hk, fun _ _ hk => by simp at hk⟩) (fun i j hij => by simpa using hij) hok (fun j c hj => by
      obtain ⟨v, h9, h10⟩ := hK.2 j c hj
      simp only [h9, Option.getD_some]; exact h10)
  have hown : g1.own (g.lb u) = some (.loc d u) := (h8.own _ _ ho fun ⟨j, hj⟩ => by simp at hj).1
  generalize hbk : g.lb u = b at ho hb hown
  have hgr : Grow g1 (g1.frz b C E) := by
    have hne : ∀ b' C', g1.fz b' = some C' → b' ≠ b := fun b' C' hb' hh => by subst hh; have := (h2.wf.fz b' C' hb').1; rw [hown] at this; simp at this
    refine ⟨fun b' C' hb' => ?_, Nat.le_refl _, fun _ _ => rfl, fun b' C' hb' => ?_, rfl, h2.wf.frz_oe (by assumption)⟩
    · simp only [G.frz, if_neg (hne b' C' hb')]; exact hb'
    · simp only [G.frz, if_neg (hne b' C' hb')]
  have hk : Keep (fun b' _ => b' = b) g1 w (g1.frz b C E) w := ⟨hgr, rfl, fun b' k hb' hx => ⟨by simp only [G.frz, if_neg hx]; exact hb', rfl⟩⟩
  have hwf : WF (g1.frz b C E) w := by
    refine ⟨gl_mono hgr h2.wf.gl, fun b' k hb' => ?_, fun b' C' hb' => ?_, fun b' b2 j hb' => ?_, h2.wf.ol, h2.wf.inj, h2.wf.frz_oe2 (by assumption) (fun hh => by rw [hown] at hh; cases hh)⟩
    · simp only [G.frz] at hb'; split at hb'
      · simp at hb'
      · exact h2.wf.own _ _ hb'
    · simp only [G.frz] at hb' ⊢
      split at hb'
      · rename_i hh
        simp only [Option.some.injEq] at hb'
        subst hb' hh
        exact ⟨by simp, by simp [hb]⟩
      · rename_i hh
        simp only [hh, if_false]
        exact h2.wf.fz _ _ hb'
    · simp only [G.frz] at hb'; split at hb'
      · simp at hb'
      · exact h2.wf.ob _ _ _ hb'
  have h9 : Rel d nt e S1 (g1.frz b C E) a w := by
    refine h2.keepC' hk h2.no (fun b' κ hb' hx => ?_) rfl hwf
    subst hx
    rw [hown] at hb'
    have hb' := Option.some.inj hb'
    subst hb'
    refine ⟨.inr (by simp), fun t' cs' hl' hh => ?_, fun _ _ _ hk => by simp at hk, fun _ _ _ _ hk => by simp at hk, fun _ _ _ _ hk => by simp at hk, fun _ _ hk => by simp at hk⟩
    simp only [Key.loc.injEq, true_and] at hh
    exact (hd t' cs' hl').1 hh.symm
  have hx2 : Ext d m g1 w (g1.frz b C E) w := ⟨hgr, fun b' k hb' hout => ⟨by
    have hne : b' ≠ b := fun hh => by
      subst hh; rw [hown] at hb'
      have hb' := Option.some.inj hb'
      subst hb'
      exact Nat.lt_irrefl d hout
    simp only [G.frz, if_neg hne]; exact hb', rfl⟩, Nat.le_refl _, fun i h1 h2 => by simp only [G.frz] at h2; omega, .refl w⟩
  refine ⟨g1.frz b C E, ?_, h3.trans' hx2 h4 h5, h4, h5, rfl⟩
  have hv : a.tmps.getD t undef = .pointer (some ⟨b, 0, none⟩) := by
    have hrep : a.tmps.getD t undef = .pointer (some ⟨g.lb u, 0, none⟩) := hrep
    rw [hrep, hbk]
  refine h9.setT' (a' := a) (t := t) (p := .fa T y 0) ht rfl rfl (fun _ _ => rfl) ?_
  rw [hv]
  refine RepF.fa' (off := 0) (o := 0) (C := C) (by simp [G.frz]) ((hE.mkE T _ y hy).2 _ C 0 fun j c hj => ?_)
  simp only [List.getElem?_map, Option.map_eq_some_iff] at hj
  obtain ⟨c', hj, rfl⟩ := hj
  obtain ⟨v, h10, _⟩ := hK.2 j c' hj
  have h11 := h7 j c' hj
  simp only [h10, Option.getD_some] at h11
  exact ⟨v, by rw [Nat.zero_add]; exact h10, h11.mono hgr⟩
theorem frzLs_rep {F : Fx} (hE : EncOk) : ∀ (ps : List (Nat × Operand)) (S : St) (g : G) {m : Nat}, Rel d nt e S g a w → ∃ g', Rel d nt e (frzLs F S ps) g' a w ∧ Ext d m g w g' w ∧ g'.oa = g.oa ∧ g'.no = g.no ∧ (frzLs F S ps).mm = S.mm := by
  intro ps
  induction ps with
  | nil => intro S g m h; exact ⟨g, h, .refl _ _ _ _, rfl, rfl, rfl⟩
  | cons q r ih =>
    intro S g m h
    obtain ⟨g1, h1, h2, h3, h4, h5⟩ := frzL_rep (F := F) hE (m := m) h q.2
    obtain ⟨g2, h6, h7, h8, h9, h10⟩ := ih _ g1 (m := m) h1
    exact ⟨g2, h6, h2.trans' h7 h3 h4, h8.trans h3, h9.trans h4, h10.trans h5⟩
theorem frzAll_rep : ∀ (ps : List (Nat × Operand)) (S : St) (g : G) {m : Nat}, Rel d nt e S g a w → ∃ g', Rel d nt e (frzAll S ps) g' a w ∧ Ext d m g w g' w ∧ g'.oa = g.oa ∧ g'.no = g.no ∧ (frzAll S ps).mm = S.mm := by
  intro ps
  induction ps with
  | nil => intro S g m h; exact ⟨g, h, .refl _ _ _ _, rfl, rfl, rfl⟩
  | cons q r ih =>
    intro S g m h
    obtain ⟨g1, h1, h2, h3, h4, h5, _⟩ := frzO_rep (m := m) h q.2
    obtain ⟨g2, h6, h7, h8, h9, h10⟩ := ih _ g1 (m := m) h1
    exact ⟨g2, h6, h2.trans' h7 h3 h4, h8.trans h3, h9.trans h4, h10.trans h5⟩
theorem fillE_rep {F : Fx} {el n : Nat} (hT : TabOk P F.T) (hsz : F.T.cz el = sz el) (h : Rel d nt e S g a w) : ∀ (ps : List (Nat × Operand)) (xs ys : List (Dn el)) (A : Array Value), xs.length = n → A.size = n * sz el →
    (∀ i x, xs[i]? = some x → CellsAt g A (i * sz el) (cells el x)) → fillE F el n S ps xs = some ys →
    ∃ A', Instr.fill (fun i => some (i * sz el, sz el)) A (ps.map fun q => (q.1, a.eval q.2)) = some A' ∧ ys.length = n ∧ A'.size = n * sz el ∧ ∀ i x, ys[i]? = some x → CellsAt g A' (i * sz el) (cells el x) := by
  intro ps
  induction ps with
  | nil =>
    intro xs ys A h1 h2 h3 ho
    simp only [fillE, Option.some.injEq] at ho
    subst ho
    exact ⟨A, rfl, h1, h2, h3⟩
  | cons q r ih =>
    intro xs ys A h1 h2 h3 ho
    obtain ⟨f, x⟩ := q
    simp only [fillE] at ho
    split at ho
    · rename_i p hx
      cases hg : (Nat.beq p.cs.length (F.T.cz el) && p.cs.all PV.plain && Nat.blt f n) with
      | false => simp only [hg, cond_false, reduceCtorEq] at ho
      | true =>
        simp only [hg, cond_true] at ho
        simp only [Bool.and_eq_true] at hg
        obtain ⟨⟨h4, h5⟩, h6⟩ := hg
        have h4 := Nat.eq_of_beq_eq_true h4
        have h6 : f < n := by
          have : f + 1 ≤ n := by simpa [Nat.blt, Nat.ble_eq] using h6
          omega
        split at ho
        · rename_i y hy
          obtain ⟨h7, h8⟩ := hT.enc.mkE _ _ _ hy
          have hok : p.cs.all PV.okc = true := by rw [List.all_eq_true] at h5 ⊢; intro c hc; simp [PV.okc, h5 c hc]
          obtain ⟨h9, h10⟩ := repT_cells (opv_rep h hx) hok
          have hrow : (f + 1) * sz el ≤ n * sz el := Nat.mul_le_mul_right _ h6
          rw [Nat.add_mul, Nat.one_mul] at hrow
          have hfit : f * sz el + (a.eval x).cells.size ≤ A.size := by rw [h9, h2, h7]; exact hrow
          obtain ⟨A', r1, r2, r3, r4⟩ := ih (xs.set f y) ys ((a.eval x).cells.zipIdx.foldl (fun cs (x : Value × Nat) => cs.setIfInBounds (f * sz el + x.2) x.1) A) (by rw [List.length_set]; exact h1) (by rw [fill_size]; exact h2) (fun i z hz => by
            rw [List.getElem?_set] at hz
            by_cases hfi : f = i
            · subst hfi
              rw [if_pos rfl] at hz
              split at hz
              · simp only [Option.some.injEq] at hz
                subst hz
                refine h8 g _ _ fun j c hj => ?_
                obtain ⟨u, h11, h12, _⟩ := h10 j c hj
                refine ⟨u, ?_, (plain_key (all_plain h5 hj)).1 h12⟩
                have hj' := (List.getElem?_eq_some_iff.1 hj).1
                rw [fill_get _ _ A hfit, if_pos (by rw [h9]; omega)]
                have : f * sz el + j - f * sz el = j := by omega
                rw [this]; exact h11
              · simp at hz
            · rw [if_neg hfi] at hz
              intro j c hj
              obtain ⟨u, h11, h12⟩ := h3 i z hz j c hj
              refine ⟨u, ?_, h12⟩
              have hj' : j < sz el := by have := (List.getElem?_eq_some_iff.1 hj).1; rw [hT.enc.len] at this; exact this
              rw [fill_get _ _ A hfit, if_neg ?_]
              · exact h11
              · rw [h9, h7]
                rcases Nat.lt_or_gt_of_ne hfi with hlt | hgt
                · have := Nat.mul_le_mul_right (sz el) (show f + 1 ≤ i by omega)
                  rw [Nat.add_mul, Nat.one_mul] at this; omega
                · have := Nat.mul_le_mul_right (sz el) (show i + 1 ≤ f by omega)
                  rw [Nat.add_mul, Nat.one_mul] at this; omega) ho
          refine ⟨A', ?_, r2, r3, r4⟩
          simp only [List.map_cons, Instr.fill]
          have hc1 : ¬ ((a.eval x).cells.size ≠ sz el ∨ f * sz el + (a.eval x).cells.size > A.size) := by
            rintro (hh | hh)
            · exact hh (h9.trans h7)
            · omega
          rw [if_neg (by simpa using hc1)]
          exact r1
        · simp at ho
    · simp at ho
theorem row_ran {t T n : Nat} {ys : List (Dn T)} {A : Array Value} {r : Result Next} (ht : t < nt) (h : Rel d nt e S g a w) (hn : ys.length = n) (h63 : n ≤ maxLen) (hA : A.size = n * sz T) (hc : ∀ i x, ys[i]? = some x → CellsAt g A (i * sz T) (cells T x))
    (hr : r = .ok (.value (.slice (some ⟨w.heap.size, 0, none⟩) n n)) (w.alloc (.cells A T))) {m : Nat} : Ran d nt e m (S.setT t (.ol T ys)) g a w t r := by
  have h1 := h.alloc (.cells A T) (.tm d t 0) (fun _ _ hh => by simp at hh)
  refine ⟨_, _, _, hr, h1.setT ht (show RepO _ _ _ T ys _ from ⟨A.toList, ⟨by rw [hn]; simpa using hA, .inr ⟨w.heap.size, n, A, by rw [hn], Nat.zero_le _, heap_alloc_new w _, by omega, h63, hA, ?_⟩⟩, fun b hb => ?_, fun i x hi => ?_⟩), ext_alloc h.wf m _ _⟩
  · rw [hn, ← hA]
    have : A.size = A.toList.length := by simp
    rw [this, List.take_length]
  · simp only [Value.ownBlock, Option.some.injEq] at hb; subst hb; simp [G.new]
  · rw [Array.toArray_toList]
    exact (hc i x hi).mono (keep_alloc h.wf (.cells A T) (.tm d t 0)).gr
theorem zeros_get {z : Array Value} {n k j : Nat} (hz : 0 < z.size) (hj : j < z.size) (hk : k * z.size + j < n) : ((Array.range n).map (z[· % z.size]!))[k * z.size + j]? = z[j]? := by
  have h1 : (k * z.size + j) % z.size = j := by rw [Nat.add_comm, Nat.add_mul_mod_self_right, Nat.mod_eq_of_lt hj]
  rw [Array.getElem?_map, Array.getElem?_range, if_pos hk]
  simp only [Option.map_some, h1]
  rw [getElem!_pos z j hj, Array.getElem?_eq_getElem hj]
theorem buildSlice_ran {F : Fx} (hT : TabOk P F.T) {t T n : Nat} {ps : Array (Nat × Operand)} {S' : St} (ht : t < nt) (h : Rel d nt e S g a w) (ho : opBuildSlice F t T n ps.toList S = some S') {o : Oper} (hop : o.op = .buildSlice T n ps) :
    Ran d nt e S.mm.length S' g a w t ((execOp a.eval o).run P w) := by
  obtain ⟨g0, e1, e2, e3, e4, e5⟩ := frzLs_rep (F := F) hT.enc ps.toList S g (m := S.mm.length) h
  obtain ⟨g1, f1, f2', f3', f4', f5⟩ := frzAll_rep ps.toList _ g0 (m := S.mm.length) e1
  have f2 := e2.trans' f2' e3 e4
  have f3 := f3'.trans e3
  have f4 := f4'.trans e4
  unfold opBuildSlice at ho
  split at ho
  · rename_i el hK
    split at ho
    · rename_i z hz
      split at ho
      · rename_i y hy
        split at ho
        · rename_i xs hle hf
          simp only [Option.some.injEq] at ho
          subst ho
          obtain ⟨s1, s2, s3, i, zv, s4, s5, s6, s7, s8, s9⟩ := hT.slice _ _ hK
          obtain ⟨i', v, h1, h2, h3, h4, h5, h6, h7, h8⟩ := hT.zr _ _ hz
          rw [s4] at h1
          simp only [Option.some.injEq] at h1
          subst h1
          rw [s8] at h2
          simp only [Option.some.injEq] at h2
          subst h2
          obtain ⟨m1, m2⟩ := hT.enc.mkE _ _ _ hy
          have hle' := Nat.le_of_ble_eq_true hle
          rw [s2] at hle'
          have hzz : (Array.range (n * sz el)).map (zv.cells[· % zv.cells.size]!) = (Array.range (n * sz el)).map (zv.cells[· % zv.cells.size]!) := rfl
          obtain ⟨A', r1, r2, r3, r4⟩ := fillE_rep hT s2 f1 ps.toList (List.replicate n y) xs ((Array.range (n * sz el)).map (zv.cells[· % zv.cells.size]!)) (by simp) (by simp) (fun k x hk j c hj => by
            rw [List.getElem?_replicate] at hk
            split at hk
            · rename_i hkn
              simp only [Option.some.injEq] at hk
              subst hk
              obtain ⟨u, h9, h10⟩ := m2 g1 zv.cells 0 (h6 g1) j c hj
              have hj' : j < sz el := by have := (List.getElem?_eq_some_iff.1 hj).1; rw [hT.enc.len] at this; exact this
              refine ⟨u, ?_, h10⟩
              have := zeros_get (z := zv.cells) (n := n * sz el) (k := k) (j := j) (by omega) (by omega) (by
                rw [s9]
                have := Nat.mul_le_mul_right (sz el) (show k + 1 ≤ n by omega)
                rw [Nat.add_mul, Nat.one_mul] at this; omega)
              rw [s9] at this
              rw [s9, this]
              simpa using h9
            · simp at hk) hf
          have hrun : (execOp a.eval o).run P w = .ok (.value (.slice (some ⟨w.heap.size, 0, none⟩) n n)) (w.alloc (.cells A' el)) := by
            have hnot : ¬ n * sz el > 2 ^ 24 := by
              have : (2 : Nat) ^ 24 = 16777216 := by decide
              omega
            have hins : (Instr.buildSlice T n (ps.map fun x => (x.1, a.eval x.2))).run P w = .ok (.slice (some ⟨w.heap.size, 0, none⟩) n n) (w.alloc (.cells A' el)) := by
              unfold Instr.buildSlice
              simp only [Sem.run_bind, sem_underlying s1, Result.andThen_ok]
              by_cases h0 : n * sz el = 0
              · have e0 : ((Array.range (n * sz el)).map (zv.cells[· % zv.cells.size]!)) = #[] := by rw [h0]; simp
                rw [e0] at r1
                have e2 : ∀ f : Nat → Value, (Array.range 0).map f = #[] := fun f => by rw [show Array.range 0 = #[] from rfl]; simp
                simp only [sizeOf, typeInfo, Sem.run_bind, run_program, Result.andThen_ok, s4, Sem.run_pure, s5, h0, e2, Array.toList_map, r1, newRow, if_true]
                simp
              · simp [sizeOf, typeInfo, s4, s5, h0, hnot, zeroValue, s8, r1, newRow]
            simp [execOp, hop, hins]
          obtain ⟨g2, v2, w2, q1, q2, q3⟩ := row_ran (m := S.mm.length) ht f1 r2 (by unfold maxLen; have := Nat.le_mul_of_pos_right n s3; omega) r3 r4 hrun
          have q4 := f2.trans' q3 f3 f4
          cases hz' : isFrz (F.md t) with
          | false => exact ⟨g2, v2, w2, q1, q2, q4⟩
          | true =>
            obtain ⟨g3, p1, p2, p3, p4, p5, _⟩ := frzO_rep (m := S.mm.length) q2 (.tmp t)
            refine ⟨g3, v2, w2, q1, ?_, q4.comp (h.mm_no) p2⟩
            have e0 : frzO (St.setT (frzAll (frzLs F S ps.toList) ps.toList) t (.ol el xs)) (.tmp t) = ((frzAll (frzLs F S ps.toList) ps.toList).setT t (.ol el xs)).noR.setT t (.fl el xs) := by
              simp [frzO, St.setT, lk, PV.dup, PV.plain, PV.okZ, PV.frz, PV.fz]
            rw [e0] at p1
            exact p1.congr (fun u => lk_twice u) (fun _ => rfl) rfl (by simp [St.noR, St.setT, dropR])
        · simp at ho
      · simp at ho
    · simp at ho
  · simp at ho
end
end Go.KM
