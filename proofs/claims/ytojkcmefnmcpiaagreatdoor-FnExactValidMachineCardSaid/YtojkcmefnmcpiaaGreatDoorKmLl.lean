/- Slices that are built, made, appended to. Conditions: none. -/
import Derived.Test.YtojkcmefnmcpiaaGreatDoorKmHh
import Derived.Lib.AppendStr
import Derived.MapKept
import Derived.Laws.BytesString
namespace Go.KM
open Go
open Fam (Dn dflt)
open Enc (cells sz mkE glob gany u8)
set_option autoImplicit false
set_option linter.unusedVariables false
set_option linter.unusedSimpArgs false
set_option linter.unusedSectionVars false
section
section
variable [Enc] {d nt : Nat} {e : Option Nat} {S : St} {g g' : G} {a : Act} {w w' : World} {P : Program}
theorem Rel.mm_no (h : Rel d nt e S g a w) : S.mm.length ≤ g.no := by
 have := h.no
 cases e with
 | none => exact Nat.le_of_eq this
 | some k => have := this.1; omega
theorem Ext.comp {m : Nat} {g1 g2 : G} {w1 w2 : World} (h : Ext d m g w g1 w1) (hm : m ≤ g.no) (h' : Ext d m g1 w1 g2 w2) : Ext d m g w g2 w2 := by
 have out : ∀ b κ, Outer d m g b κ → Outer d m g1 b κ := fun b κ ho => by
  cases κ with
  | obj => exact fun i hi => by rw [h.gr.oa i (by omega)]; exact ho i hi
  | ob b' j => exact fun i hi => by rw [h.gr.oa i (by omega)]; exact ho i hi
  | _ => exact ho
 refine ⟨h.gr.trans h'.gr, fun b κ hb ho => ?_, Nat.le_trans h.hs h'.hs, fun i h1 h2 => ?_, h.sl.trans h'.sl⟩
 ·obtain ⟨k1, k2⟩ := h.own b κ hb ho
  obtain ⟨k3, k4⟩ := h'.own b κ k1 (out b κ ho)
  exact ⟨k3, k4.trans k2⟩
 ·by_cases hi : i < g1.no
  ·rw [h'.gr.oa i hi]; exact h.nw i h1 hi
  ·exact Nat.le_trans h.hs (h'.nw i (by omega) h2)
theorem lk_twice {t : Nat} {p q : PV} {l : List (Nat × PV)} (u : Nat) : lk ((t, p) :: l) u = lk ((t, p) :: (t, q) :: l) u := by
 rw [lk_cons, lk_cons, lk_cons]; split <;> rfl
theorem frzO_rep {m : Nat} (h : Rel d nt e S g a w) (x : Operand) : ∃ g', Rel d nt e (frzO S x) g' a w ∧ Ext d m g w g' w ∧ g'.oa = g.oa ∧ g'.no = g.no ∧ (frzO S x).mm = S.mm ∧ OF g g' := by
 cases x with
 | tmp t =>
  cases hl : lk S.tm t with
  | none =>
   have e1 : frzO S (.tmp t) = S := by simp only [frzO, hl]
   rw [e1]
   exact ⟨g, h, .refl _ _ _ _, rfl, rfl, rfl, .refl g⟩
  | some p =>
   cases hc : (p.dup || !p.okZ) with
   | true =>
    have e1 : frzO S (.tmp t) = S := by simp only [frzO, hl, hc, cond_true]
    rw [e1]
    exact ⟨g, h, .refl _ _ _ _, rfl, rfl, rfl, .refl g⟩
   | false =>
    have e1 : frzO S (.tmp t) = S.noR.setT t p.frz := by simp only [frzO, hl, hc, cond_false]
    rw [e1]
    simp only [Bool.or_eq_false_iff, Bool.not_eq_false'] at hc
    obtain ⟨ht, hrep⟩ := h.tm t p hl
    have hg := h.noR.gone ht
    cases p with
    | ol T xs =>
     obtain ⟨g', h1, h2, h3, h4, h5, h6, _, h12⟩ := hg.freeze (m := m) (T := T) (xs := xs) hrep (mine_tm (t := t) (i := 0)) free_gone rfl
     refine ⟨g', (h1.setT' (a' := a) (t := t) (p := .fl T xs) ht rfl rfl (fun _ _ => rfl) h2).congr (fun u => lk_twice u) (fun _ => rfl) rfl rfl, h3, h4, h5, rfl, h12⟩
    | st cs =>
     obtain ⟨A, h7, h8, h9⟩ := hrep
     have hok : cs.all PV.okf = true := hc.2
     obtain ⟨g', h1, h2, h3, h4, h5, h6, h12, _⟩ := hg.freezeCells (m := m) rfl cs (fun j => (A[j]?).getD undef) (fun j => .tm d t j) (fun _ => mine_tm) (fun _ _ => free_gone) (fun i j hij => by simpa using hij) hok (fun j c hj => by
      obtain ⟨u, h10, h11⟩ := h9 j c hj
      simp only [h10, Option.getD_some]; exact h11)
     refine ⟨g', (h1.setT' (a' := a) (t := t) (p := .st (cs.map PV.fz)) ht rfl rfl (fun _ _ => rfl) ⟨A, h7, by simpa using h8, fun j c hj => ?_⟩).congr (fun u => lk_twice u) (fun _ => rfl) rfl rfl, h2, h3, h4, rfl, h12⟩
     simp only [List.getElem?_map, Option.map_eq_some_iff] at hj
     obtain ⟨c', hj', rfl⟩ := hj
     obtain ⟨u, h10, _⟩ := h9 j c' hj'
     have := h6 j c' hj'
     simp only [h10, Option.getD_some] at this
     have hokc : c'.okf = true := by rw [List.all_eq_true] at hok; exact hok _ (List.mem_of_getElem? hj')
     exact ⟨u, h10, (plain_key (fz_plain hokc)).2 this⟩
    | _ => simp_all [PV.okZ]
 | _ => exact ⟨g, h, .refl _ _ _ _, rfl, rfl, rfl, .refl g⟩
theorem lk_dropC (u : Nat) : ∀ (l : List (Nat × List PV)) (t : Nat), lk (dropC u l) t = if t = u then none else lk l t := by
 intro l
 induction l with
 | nil => intro t; simp [dropC, lk]
 | cons x l ih =>
  obtain ⟨v, cs⟩ := x
  intro t
  simp only [dropC]
  cases hb : Nat.beq v u with
  | true =>
   have := beq_true hb
   subst this
   simp only [cond_true, ih, lk_cons]
   by_cases h : t = v
   ·simp [h]
   ·simp [h, Ne.symm h]
  | false =>
   have hne := beq_false hb
   simp only [cond_false, lk_cons, ih]
   by_cases h : v = t
   ·subst h; simp [hne]
   ·simp [h]
theorem frzL_rep {F : Fx} (hE : EncOk) {m : Nat} (h : Rel d nt e S g a w) (x : Operand) : ∃ g', Rel d nt e (frzL F S x) g' a w ∧ Ext d m g w g' w ∧ g'.oa = g.oa ∧ g'.no = g.no ∧ (frzL F S x).mm = S.mm := by
 have same : ∀ {S' : St}, S' = S → ∃ g', Rel d nt e S' g' a w ∧ Ext d m g w g' w ∧ g'.oa = g.oa ∧ g'.no = g.no ∧ S'.mm = S.mm := fun hh => by
  subst hh; exact ⟨g, h, .refl _ _ _ _, rfl, rfl, rfl⟩
 unfold frzL
 split
 case h_2 => exact same rfl
 rename_i t
 split
 case h_2 => exact same rfl
 rename_i u hl
 split
 case h_2 => exact same rfl
 rename_i T cs hn hc
 cases hok : cs.all PV.okf with
 | false => exact same rfl
 | true =>
 rw [cond_true]
 split
 case h_2 => exact same rfl
 rename_i y hy
 obtain ⟨ht, hrep⟩ := h.tm t _ hl
 obtain ⟨ho, C, E, hb, hK⟩ := h.lc u cs hc
 let S1 : St := { tm := S.tm, lc := dropC u S.lc, mm := S.mm, rt := [], vl := S.vl }
 have hd : ∀ t cs, lk S1.lc t = some cs → t ≠ u ∧ lk S.lc t = some cs := fun t cs hh => by
  have hh : lk (dropC u S.lc) t = some cs := hh
  rw [lk_dropC] at hh
  split at hh
  ·simp at hh
  ·rename_i h1; exact ⟨h1, hh⟩
 have h1 : Rel d nt e S1 g a w := ⟨h.sz, h.tm, fun t cs hh => h.lc t cs (hd t cs hh).2, h.mm, h.no, fun t r hr => by simp [S1, lk] at hr, h.wf, h.df, h.vl⟩
 obtain ⟨g1, h2, h3, h4, h5, h6, h7, _, h8⟩ := h1.freezeCells (m := m) rfl cs (fun j => (C[j]?).getD undef) (Key.lc d u) (fun _ => Nat.le_refl d)
  (fun j _ => ⟨fun _ _ _ hk => by simp at hk, fun t cs2 j2 c hk hl2 _ => by
   simp only [Key.lc.injEq, true_and] at hk
   exact absurd hk.1.symm (hd t cs2 hl2).1, fun _ _ _ _ hk => by simp at hk, fun _ _ hk => by simp at hk⟩) (fun i j hij => by simpa using hij) hok (fun j c hj => by
   obtain ⟨v, h9, h10⟩ := hK.2 j c hj
   simp only [h9, Option.getD_some]; exact h10)
 have hown : g1.own (g.lb u) = some (.loc d u) := (h8.own _ _ ho fun ⟨j, hj⟩ => by simp at hj).1
 generalize hbk : g.lb u = b at ho hb hown
 have hgr : Grow g1 (g1.frz b C E) := by
  have hne : ∀ b' C', g1.fz b' = some C' → b' ≠ b := fun b' C' hb' hh => by subst hh; have := (h2.wf.fz b' C' hb').1; rw [hown] at this; simp at this
  refine ⟨fun b' C' hb' => ?_, Nat.le_refl _, fun _ _ => rfl, fun b' C' hb' => ?_, rfl, h2.wf.frz_oe (by assumption)⟩
  ·simp only [G.frz, if_neg (hne b' C' hb')]; exact hb'
  ·simp only [G.frz, if_neg (hne b' C' hb')]
 have hk : Keep (fun b' _ => b' = b) g1 w (g1.frz b C E) w := ⟨hgr, rfl, fun b' k hb' hx => ⟨by simp only [G.frz, if_neg hx]; exact hb', rfl⟩⟩
 have hwf : WF (g1.frz b C E) w := by
  refine ⟨gl_mono hgr h2.wf.gl, fun b' k hb' => ?_, fun b' C' hb' => ?_, fun b' b2 j hb' => ?_, h2.wf.ol, h2.wf.inj, h2.wf.frz_oe2 (by assumption) (fun hh => by rw [hown] at hh; cases hh)⟩
  ·simp only [G.frz] at hb'; split at hb'
   ·simp at hb'
   ·exact h2.wf.own _ _ hb'
  ·simp only [G.frz] at hb' ⊢
   split at hb'
   ·rename_i hh
    simp only [Option.some.injEq] at hb'
    subst hb' hh
    exact ⟨by simp, by simp [hb]⟩
   ·rename_i hh
    simp only [hh, if_false]
    exact h2.wf.fz _ _ hb'
  ·simp only [G.frz] at hb'; split at hb'
   ·simp at hb'
   ·exact h2.wf.ob _ _ _ hb'
 have h9 : Rel d nt e S1 (g1.frz b C E) a w := by
  refine h2.keepC' hk h2.no (fun b' κ hb' hx => ?_) rfl hwf
  subst hx
  rw [hown] at hb'
  have hb' := Option.some.inj hb'
  subst hb'
  refine ⟨.inr (by simp), fun t' cs' hl' hh => ?_, fun _ _ _ hk => by simp at hk, fun _ _ _ _ hk => by simp at hk, fun _ _ _ _ hk => by simp at hk, fun _ _ hk => by simp at hk⟩
  simp only [Key.loc.injEq, true_and] at hh
  exact (hd t' cs' hl').1 hh.symm
 have hx2 : Ext d m g1 w (g1.frz b C E) w := ⟨hgr, fun b' k hb' hout => ⟨by
  have hne : b' ≠ b := fun hh => by
   subst hh; rw [hown] at hb'
   have hb' := Option.some.inj hb'
   subst hb'
   exact Nat.lt_irrefl d hout
  simp only [G.frz, if_neg hne]; exact hb', rfl⟩, Nat.le_refl _, fun i h1 h2 => by simp only [G.frz] at h2; omega, .refl w⟩
 refine ⟨g1.frz b C E, ?_, h3.trans' hx2 h4 h5, h4, h5, rfl⟩
 have hv : a.tmps.getD t undef = .pointer (some ⟨b, 0, none⟩) := by
  have hrep : a.tmps.getD t undef = .pointer (some ⟨g.lb u, 0, none⟩) := hrep
  rw [hrep, hbk]
 refine h9.setT' (a' := a) (t := t) (p := .fa T y 0) ht rfl rfl (fun _ _ => rfl) ?_
 rw [hv]
 refine RepF.fa' (off := 0) (o := 0) (C := C) (by simp [G.frz]) ((hE.mkE T _ y hy).2 _ C 0 fun j c hj => ?_)
 simp only [List.getElem?_map, Option.map_eq_some_iff] at hj
 obtain ⟨c', hj, rfl⟩ := hj
 obtain ⟨v, h10, _⟩ := hK.2 j c' hj
 have h11 := h7 j c' hj
 simp only [h10, Option.getD_some] at h11
 exact ⟨v, by rw [Nat.zero_add]; exact h10, h11.mono hgr⟩
theorem frzLs_rep {F : Fx} (hE : EncOk) : ∀ (ps : List (Nat × Operand)) (S : St) (g : G) {m : Nat}, Rel d nt e S g a w → ∃ g', Rel d nt e (frzLs F S ps) g' a w ∧ Ext d m g w g' w ∧ g'.oa = g.oa ∧ g'.no = g.no ∧ (frzLs F S ps).mm = S.mm := by
 intro ps
 induction ps with
 | nil => intro S g m h; exact ⟨g, h, .refl _ _ _ _, rfl, rfl, rfl⟩
 | cons q r ih =>
  intro S g m h
  obtain ⟨g1, h1, h2, h3, h4, h5⟩ := frzL_rep (F := F) hE (m := m) h q.2
  obtain ⟨g2, h6, h7, h8, h9, h10⟩ := ih _ g1 (m := m) h1
  exact ⟨g2, h6, h2.trans' h7 h3 h4, h8.trans h3, h9.trans h4, h10.trans h5⟩
theorem frzAll_rep : ∀ (ps : List (Nat × Operand)) (S : St) (g : G) {m : Nat}, Rel d nt e S g a w → ∃ g', Rel d nt e (frzAll S ps) g' a w ∧ Ext d m g w g' w ∧ g'.oa = g.oa ∧ g'.no = g.no ∧ (frzAll S ps).mm = S.mm := by
 intro ps
 induction ps with
 | nil => intro S g m h; exact ⟨g, h, .refl _ _ _ _, rfl, rfl, rfl⟩
 | cons q r ih =>
  intro S g m h
  obtain ⟨g1, h1, h2, h3, h4, h5, _⟩ := frzO_rep (m := m) h q.2
  obtain ⟨g2, h6, h7, h8, h9, h10⟩ := ih _ g1 (m := m) h1
  exact ⟨g2, h6, h2.trans' h7 h3 h4, h8.trans h3, h9.trans h4, h10.trans h5⟩
theorem fillE_rep {F : Fx} {el n : Nat} (hT : TabOk P F.T) (hsz : F.T.cz el = sz el) (h : Rel d nt e S g a w) : ∀ (ps : List (Nat × Operand)) (xs ys : List (Dn el)) (A : Array Value), xs.length = n → A.size = n * sz el →
  (∀ i x, xs[i]? = some x → CellsAt g A (i * sz el) (cells el x)) → fillE F el n S ps xs = some ys →
  ∃ A', Instr.fill (fun i => some (i * sz el, sz el)) A (ps.map fun q => (q.1, a.eval q.2)) = some A' ∧ ys.length = n ∧ A'.size = n * sz el ∧ ∀ i x, ys[i]? = some x → CellsAt g A' (i * sz el) (cells el x) := by
 intro ps
 induction ps with
 | nil =>
  intro xs ys A h1 h2 h3 ho
  simp only [fillE, Option.some.injEq] at ho
  subst ho
  exact ⟨A, rfl, h1, h2, h3⟩
 | cons q r ih =>
  intro xs ys A h1 h2 h3 ho
  obtain ⟨f, x⟩ := q
  simp only [fillE] at ho
  split at ho
  ·rename_i p hx
   cases hg : (Nat.beq p.cs.length (F.T.cz el) && p.cs.all PV.plain && Nat.blt f n) with
   | false => simp only [hg, cond_false, reduceCtorEq] at ho
   | true =>
    simp only [hg, cond_true] at ho
    simp only [Bool.and_eq_true] at hg
    obtain ⟨⟨h4, h5⟩, h6⟩ := hg
    have h4 := Nat.eq_of_beq_eq_true h4
    have h6 : f < n := by
     have : f + 1 ≤ n := by simpa [Nat.blt, Nat.ble_eq] using h6
     omega
    split at ho
    ·rename_i y hy
     obtain ⟨h7, h8⟩ := hT.enc.mkE _ _ _ hy
     have hok : p.cs.all PV.okc = true := by rw [List.all_eq_true] at h5 ⊢; intro c hc; simp [PV.okc, h5 c hc]
     obtain ⟨h9, h10⟩ := repT_cells (opv_rep h hx) hok
     have hrow : (f + 1) * sz el ≤ n * sz el := Nat.mul_le_mul_right _ h6
     rw [Nat.add_mul, Nat.one_mul] at hrow
     have hfit : f * sz el + (a.eval x).cells.size ≤ A.size := by rw [h9, h2, h7]; exact hrow
     obtain ⟨A', r1, r2, r3, r4⟩ := ih (xs.set f y) ys ((a.eval x).cells.zipIdx.foldl (fun cs (x : Value × Nat) => cs.setIfInBounds (f * sz el + x.2) x.1) A) (by rw [List.length_set]; exact h1) (by rw [fill_size]; exact h2) (fun i z hz => by
      rw [List.getElem?_set] at hz
      by_cases hfi : f = i
      ·subst hfi
       rw [if_pos rfl] at hz
       split at hz
       ·simp only [Option.some.injEq] at hz
        subst hz
        refine h8 g _ _ fun j c hj => ?_
        obtain ⟨u, h11, h12, _⟩ := h10 j c hj
        refine ⟨u, ?_, (plain_key (all_plain h5 hj)).1 h12⟩
        have hj' := (List.getElem?_eq_some_iff.1 hj).1
        rw [fill_get _ _ A hfit, if_pos (by rw [h9]; omega)]
        have : f * sz el + j - f * sz el = j := by omega
        rw [this]; exact h11
       ·simp at hz
      ·rw [if_neg hfi] at hz
       intro j c hj
       obtain ⟨u, h11, h12⟩ := h3 i z hz j c hj
       refine ⟨u, ?_, h12⟩
       have hj' : j < sz el := by have := (List.getElem?_eq_some_iff.1 hj).1; rw [hT.enc.len] at this; exact this
       rw [fill_get _ _ A hfit, if_neg ?_]
       ·exact h11
       ·rw [h9, h7]
        rcases Nat.lt_or_gt_of_ne hfi with hlt | hgt
        ·have := Nat.mul_le_mul_right (sz el) (show f + 1 ≤ i by omega)
         rw [Nat.add_mul, Nat.one_mul] at this; omega
        ·have := Nat.mul_le_mul_right (sz el) (show i + 1 ≤ f by omega)
         rw [Nat.add_mul, Nat.one_mul] at this; omega) ho
     refine ⟨A', ?_, r2, r3, r4⟩
     simp only [List.map_cons, Instr.fill]
     have hc1 : ¬ ((a.eval x).cells.size ≠ sz el ∨ f * sz el + (a.eval x).cells.size > A.size) := by
      rintro (hh | hh)
      ·exact hh (h9.trans h7)
      ·omega
     rw [if_neg (by simpa using hc1)]
     exact r1
    ·simp at ho
  ·simp at ho
theorem row_ran {t T n : Nat} {ys : List (Dn T)} {A : Array Value} {r : Result Next} (ht : t < nt) (h : Rel d nt e S g a w) (hn : ys.length = n) (h63 : n ≤ maxLen) (hA : A.size = n * sz T) (hc : ∀ i x, ys[i]? = some x → CellsAt g A (i * sz T) (cells T x))
  (hr : r = .ok (.value (.slice (some ⟨w.heap.size, 0, none⟩) n n)) (w.alloc (.cells A T))) {m : Nat} : Ran d nt e m (S.setT t (.ol T ys)) g a w t r := by
 have h1 := h.alloc (.cells A T) (.tm d t 0) (fun _ _ hh => by simp at hh)
 refine ⟨_, _, _, hr, h1.setT ht (show RepO _ _ _ T ys _ from ⟨A.toList, ⟨by rw [hn]; simpa using hA, .inr ⟨w.heap.size, n, A, by rw [hn], Nat.zero_le _, heap_alloc_new w _, by omega, h63, hA, ?_⟩⟩, fun b hb => ?_, fun i x hi => ?_⟩), ext_alloc h.wf m _ _⟩
 ·rw [hn, ← hA]
  have : A.size = A.toList.length := by simp
  rw [this, List.take_length]
 ·simp only [Value.ownBlock, Option.some.injEq] at hb; subst hb; simp [G.new]
 ·rw [Array.toArray_toList]
  exact (hc i x hi).mono (keep_alloc h.wf (.cells A T) (.tm d t 0)).gr
theorem zeros_get {z : Array Value} {n k j : Nat} (hz : 0 < z.size) (hj : j < z.size) (hk : k * z.size + j < n) : ((Array.range n).map (z[· % z.size]!))[k * z.size + j]? = z[j]? := by
 have h1 : (k * z.size + j) % z.size = j := by rw [Nat.add_comm, Nat.add_mul_mod_self_right, Nat.mod_eq_of_lt hj]
 rw [Array.getElem?_map, Array.getElem?_range, if_pos hk]
 simp only [Option.map_some, h1]
 rw [getElem!_pos z j hj, Array.getElem?_eq_getElem hj]
theorem buildSlice_ran {F : Fx} (hT : TabOk P F.T) {t T n : Nat} {ps : Array (Nat × Operand)} {S' : St} (ht : t < nt) (h : Rel d nt e S g a w) (ho : opBuildSlice F t T n ps.toList S = some S') {o : Oper} (hop : o.op = .buildSlice T n ps) :
  Ran d nt e S.mm.length S' g a w t ((execOp a.eval o).run P w) := by
 obtain ⟨g0, e1, e2, e3, e4, e5⟩ := frzLs_rep (F := F) hT.enc ps.toList S g (m := S.mm.length) h
 obtain ⟨g1, f1, f2', f3', f4', f5⟩ := frzAll_rep ps.toList _ g0 (m := S.mm.length) e1
 have f2 := e2.trans' f2' e3 e4
 have f3 := f3'.trans e3
 have f4 := f4'.trans e4
 unfold opBuildSlice at ho
 split at ho
 ·rename_i el hK
  split at ho
  ·rename_i z hz
   split at ho
   ·rename_i y hy
    split at ho
    ·rename_i xs hle hf
     simp only [Option.some.injEq] at ho
     subst ho
     obtain ⟨s1, s2, s3, i, zv, s4, s5, s6, s7, s8, s9⟩ := hT.slice _ _ hK
     obtain ⟨i', v, h1, h2, h3, h4, h5, h6, h7, h8⟩ := hT.zr _ _ hz
     rw [s4] at h1
     simp only [Option.some.injEq] at h1
     subst h1
     rw [s8] at h2
     simp only [Option.some.injEq] at h2
     subst h2
     obtain ⟨m1, m2⟩ := hT.enc.mkE _ _ _ hy
     have hle' := Nat.le_of_ble_eq_true hle
     rw [s2] at hle'
     have hzz : (Array.range (n * sz el)).map (zv.cells[· % zv.cells.size]!) = (Array.range (n * sz el)).map (zv.cells[· % zv.cells.size]!) := rfl
     obtain ⟨A', r1, r2, r3, r4⟩ := fillE_rep hT s2 f1 ps.toList (List.replicate n y) xs ((Array.range (n * sz el)).map (zv.cells[· % zv.cells.size]!)) (by simp) (by simp) (fun k x hk j c hj => by
      rw [List.getElem?_replicate] at hk
      split at hk
      ·rename_i hkn
       simp only [Option.some.injEq] at hk
       subst hk
       obtain ⟨u, h9, h10⟩ := m2 g1 zv.cells 0 (h6 g1) j c hj
       have hj' : j < sz el := by have := (List.getElem?_eq_some_iff.1 hj).1; rw [hT.enc.len] at this; exact this
       refine ⟨u, ?_, h10⟩
       have := zeros_get (z := zv.cells) (n := n * sz el) (k := k) (j := j) (by omega) (by omega) (by
        rw [s9]
        have := Nat.mul_le_mul_right (sz el) (show k + 1 ≤ n by omega)
        rw [Nat.add_mul, Nat.one_mul] at this; omega)
       rw [s9] at this
       rw [s9, this]
       simpa using h9
      ·simp at hk) hf
     have hrun : (execOp a.eval o).run P w = .ok (.value (.slice (some ⟨w.heap.size, 0, none⟩) n n)) (w.alloc (.cells A' el)) := by
      have hnot : ¬ n * sz el > 2 ^ 24 := by
       have : (2 : Nat) ^ 24 = 16777216 := by decide
       omega
      have hins : (Instr.buildSlice T n (ps.map fun x => (x.1, a.eval x.2))).run P w = .ok (.slice (some ⟨w.heap.size, 0, none⟩) n n) (w.alloc (.cells A' el)) := by
       unfold Instr.buildSlice
       simp only [Sem.run_bind, sem_underlying s1, Result.andThen_ok]
       by_cases h0 : n * sz el = 0
       ·have e0 : ((Array.range (n * sz el)).map (zv.cells[· % zv.cells.size]!)) = #[] := by rw [h0]; simp
        rw [e0] at r1
        have e2 : ∀ f : Nat → Value, (Array.range 0).map f = #[] := fun f => by rw [show Array.range 0 = #[] from rfl]; simp
        simp only [sizeOf, typeInfo, Sem.run_bind, run_program, Result.andThen_ok, s4, Sem.run_pure, s5, h0, e2, Array.toList_map, r1, newRow, if_true]
        simp
       ·simp [sizeOf, typeInfo, s4, s5, h0, hnot, zeroValue, s8, r1, newRow]
      simp [execOp, hop, hins]
     obtain ⟨g2, v2, w2, q1, q2, q3⟩ := row_ran (m := S.mm.length) ht f1 r2 (by unfold maxLen; have := Nat.le_mul_of_pos_right n s3; omega) r3 r4 hrun
     have q4 := f2.trans' q3 f3 f4
     cases hz' : isFrz (F.md t) with
     | false => exact ⟨g2, v2, w2, q1, q2, q4⟩
     | true =>
      obtain ⟨g3, p1, p2, p3, p4, p5, _⟩ := frzO_rep (m := S.mm.length) q2 (.tmp t)
      refine ⟨g3, v2, w2, q1, ?_, q4.comp (h.mm_no) p2⟩
      have e0 : frzO (St.setT (frzAll (frzLs F S ps.toList) ps.toList) t (.ol el xs)) (.tmp t) = ((frzAll (frzLs F S ps.toList) ps.toList).setT t (.ol el xs)).noR.setT t (.fl el xs) := by
       simp [frzO, St.setT, lk, PV.dup, PV.plain, PV.okZ, PV.frz, PV.fz]
      rw [e0] at p1
      exact p1.congr (fun u => lk_twice u) (fun _ => rfl) rfl (by simp [St.noR, St.setT, dropR])
    ·simp at ho
   ·simp at ho
  ·simp at ho
 ·simp at ho
end
end
section
section
variable {P : Program}
theorem append_run (w : World) (t ty e : TypeId) (i : TypeInfo) (z : Value) (ht : P.underlying t = some (.slice e)) (hi : P.info? e = some i) (hz : i.zero = some z)
  (hzs : z.cells.size = i.size) (hsz : 0 < i.size) (v : Value) (n : Nat) (xs : List Value) (hown : w.ownsRow 0 e i.size v n xs)
  (a : Addr) (m c : Nat) (news : List Value) (hl : news.length = m * i.size) (hnews : ∀ j u, news[j]? = some u → w.cell? (a.add j) = some u) (h1 : ∀ u ∈ news, u.oneCell' = true)
  (h63 : n + m ≤ maxLen) (hbytes : (n + m) * i.bytes ≤ 140737488355328) :
  ∃ v' w', (Builtin.append_ #[t, t] ty #[v, .slice (some a) m c]).run P w = .ok v' w' ∧ w'.ownsRow 0 e i.size v' (n + m) (xs ++ news) ∧ Go.KM.Sl w w' ∧
   ((v'.ownBlock = v.ownBlock ∧ w'.heap.size = w.heap.size ∧ ∀ k, some k ≠ v.ownBlock → w'.heap[k]? = w.heap[k]?) ∨
    (v'.ownBlock = some w.heap.size ∧ w'.heap.size = w.heap.size + 1 ∧ ∀ k, k ≠ w.heap.size → w'.heap[k]? = w.heap[k]?)) := by
 have hsmall : n + m ≤ 9223372036854775807 := by simp only [maxLen] at h63; omega
 have hlen : (xs ++ news).length = (n + m) * i.size := by rw [List.length_append, hown.1, hl, Nat.add_mul]
 have grown : ∀ (old : Nat), old < n + m →
   (w.drew.alloc (.cells (xs.toArray ++ news.toArray ++ Builtin.zeroCells z.cells (grownCap w (n + m) old e - (n + m))) e)).ownsRow 0 e i.size
    (.slice (some ⟨w.heap.size, 0, none⟩) (n + m) (grownCap w (n + m) old e)) (n + m) (xs ++ news) := by
  intro old ho
  have hge := grownCap_ge w (n + m) old e
  have hcm : grownCap w (n + m) old e ≤ maxLen := grownCap_le_maxLen w (n + m) old e h63
  refine ⟨hlen, .inr ⟨w.heap.size, _, _, rfl, Nat.zero_le _, heap_alloc_new w.drew _, hge, hcm, ?_, ?_⟩⟩
  ·simp only [Array.size_append, List.size_toArray, size_zeroCells, hzs, hown.1, hl, ← Nat.add_mul]
   congr 1
   omega
  ·simp only [Array.toList_append, List.append_assoc]
   rw [← List.append_assoc, ← hlen]
   exact List.take_left
 have other : ∀ (o : Obj), (w.drew.alloc o).heap.size = w.heap.size + 1 ∧ ∀ k, k ≠ w.heap.size → (w.drew.alloc o).heap[k]? = w.heap[k]? := fun o =>
  ⟨by show (w.heap.push o).size = _; simp, fun k hk => by show (w.heap.push o)[k]? = _; rw [Array.getElem?_push, if_neg hk]⟩
 rcases hown.2 with ⟨rfl, rfl⟩ | ⟨g, cap, cur, rfl, hbg, hg, hnc, hcm, hcs, htake⟩
 ·have hx : xs = [] := List.eq_nil_of_length_eq_zero (by simpa using hown.1)
  subst hx
  by_cases hm : m = 0
  ·subst hm
   have hn : news = [] := List.eq_nil_of_length_eq_zero (by simpa using hl)
   subst hn
   refine ⟨.slice none 0 0, w, ?_, World.ownsRow_nil w 0 e i.size, ⟨rfl, rfl, rfl⟩, .inl ⟨rfl, rfl, fun _ _ => rfl⟩⟩
   simp [Builtin.append_, run_underlying ht, sizeOf, typeInfo, hi, Builtin.lenOf, Builtin.firstCells, loadCells, loadCellsFrom]
  ·have hr := run_append_nil (P := P) w t ty e i z ht hi hz a m c news hl hnews (by omega) (by omega) (by have hb := hbytes; simp only [Nat.zero_add] at hb; omega)
   have hgr := grown 0 (by omega)
   simp only [Nat.zero_add, List.nil_append, Array.empty_append] at hgr ⊢
   exact ⟨_, _, hr, hgr, ⟨rfl, rfl, rfl⟩, .inr ⟨rfl, (other _).1, (other _).2⟩⟩
 ·by_cases hroom : n + m ≤ cap
  ·have hfit : n * i.size + news.length ≤ cur.size := by rw [hl, hcs, ← Nat.add_mul]; exact Nat.mul_le_mul_right _ hroom
   have hr := run_append_room (P := P) w t ty e i ht hi g n cap cur hg a m c news hl hnews h1 hroom hfit
   refine ⟨_, _, hr, ⟨hlen, .inr ⟨g, cap, _, rfl, hbg, setRow_heap w g cur _ e _ hg, hroom, hcm, ?_, ?_⟩⟩, ⟨rfl, rfl, rfl⟩, .inl ⟨rfl, by simp [World.setRow], fun k hk => setRow_other w g k _ (fun e => hk (by simp [Value.ownBlock, e]))⟩⟩
   ·simp only [List.size_toArray, List.length_append, List.length_take, List.length_drop, Array.length_toList]
    omega
   ·rw [htake, ← hlen]
    exact List.take_left
  ·have holds : ∀ j u, xs[j]? = some u → w.cell? ((⟨g, 0, none⟩ : Addr).add j) = some u := hown.cells (g := g) rfl
   have hr := run_append_grow (P := P) w t ty e i z ht hi hz ⟨g, 0, none⟩ n cap xs hown.1 holds a m c news hl hnews (by omega) (by omega) (growslice_fits (by omega) hbytes)
   exact ⟨_, _, hr, grown cap (by omega), ⟨rfl, rfl, rfl⟩, .inr ⟨rfl, (other _).1, (other _).2⟩⟩
theorem append_run_str (w : World) (t tx ty e : TypeId) (i : TypeInfo) (z : Value) (ht : P.underlying t = some (.slice e)) (hu : P.underlying tx = some .string) (hi : P.info? e = some i) (hz : i.zero = some z)
  (hzs : z.cells.size = i.size) (hs1 : i.size = 1) (v : Value) (n : Nat) (xs : List Value) (hown : w.ownsRow 0 e i.size v n xs) (s : ByteArray) (h63 : n + s.size ≤ maxLen) (hbytes : (n + s.size) * i.bytes ≤ 140737488355328) :
  ∃ v' w', (Builtin.append_ #[t, tx] ty #[v, .string s]).run P w = .ok v' w' ∧ w'.ownsRow 0 e i.size v' (n + s.size) (xs ++ Lib.strCells s) ∧ Go.KM.Sl w w' ∧
   ((v'.ownBlock = v.ownBlock ∧ w'.heap.size = w.heap.size ∧ ∀ k, some k ≠ v.ownBlock → w'.heap[k]? = w.heap[k]?) ∨
    (v'.ownBlock = some w.heap.size ∧ w'.heap.size = w.heap.size + 1 ∧ ∀ k, k ≠ w.heap.size → w'.heap[k]? = w.heap[k]?)) := by
 have hsmall : n + s.size ≤ 9223372036854775807 := by simp only [maxLen] at h63; omega
 have hsl := Lib.strCells_length s
 have hlen : (xs ++ Lib.strCells s).length = (n + s.size) * i.size := by rw [List.length_append, hown.1, hsl, Nat.add_mul, hs1, Nat.mul_one, Nat.mul_one]
 have grown : ∀ (old : Nat), old < n + s.size →
   (w.drew.alloc (.cells (xs.toArray ++ (Lib.strCells s).toArray ++ Builtin.zeroCells z.cells (grownCap w (n + s.size) old e - (n + s.size))) e)).ownsRow 0 e i.size
    (.slice (some ⟨w.heap.size, 0, none⟩) (n + s.size) (grownCap w (n + s.size) old e)) (n + s.size) (xs ++ Lib.strCells s) := by
  intro old ho
  have hge := grownCap_ge w (n + s.size) old e
  have hcm : grownCap w (n + s.size) old e ≤ maxLen := grownCap_le_maxLen w (n + s.size) old e h63
  refine ⟨hlen, .inr ⟨w.heap.size, _, _, rfl, Nat.zero_le _, heap_alloc_new w.drew _, hge, hcm, ?_, ?_⟩⟩
  ·simp only [Array.size_append, List.size_toArray, size_zeroCells, hzs, hown.1, hsl, hs1]
   omega
  ·simp only [Array.toList_append, List.append_assoc]
   rw [← List.append_assoc, ← hlen]
   exact List.take_left
 have other : ∀ (o : Obj), (w.drew.alloc o).heap.size = w.heap.size + 1 ∧ ∀ k, k ≠ w.heap.size → (w.drew.alloc o).heap[k]? = w.heap[k]? := fun o =>
  ⟨by show (w.heap.push o).size = _; simp, fun k hk => by show (w.heap.push o)[k]? = _; rw [Array.getElem?_push, if_neg hk]⟩
 rcases hown.2 with ⟨rfl, rfl⟩ | ⟨g, cap, cur, rfl, hbg, hg, hnc, hcm, hcs, htake⟩
 ·have hx : xs = [] := List.eq_nil_of_length_eq_zero (by simpa using hown.1)
  subst hx
  by_cases hm : s.size = 0
  ·have hn : Lib.strCells s = [] := List.eq_nil_of_length_eq_zero (by omega)
   rw [hm, hn]
   refine ⟨.slice none 0 0, w, ?_, World.ownsRow_nil w 0 e i.size, ⟨rfl, rfl, rfl⟩, .inl ⟨rfl, rfl, fun _ _ => rfl⟩⟩
   have hs : s = ByteArray.empty := by
    apply ByteArray.ext
    apply Array.eq_empty_of_size_eq_zero
    exact hm
   subst hs
   simp [Builtin.append_, run_underlying ht, run_underlying hu, sizeOf, typeInfo, hi, Builtin.lenOf, Builtin.firstCells]
  ·have hr := run_append_nil_string (P := P) w t tx ty e i z ht hu hi hz s (by omega) (by omega) (by have hb := hbytes; simp only [Nat.zero_add] at hb; omega)
   have hgr := grown 0 (by omega)
   have hcells : (s.data.map fun b => Value.int .u8 (b.toNat : Int)) = (Lib.strCells s).toArray := by apply Array.ext'; simp [Lib.strCells]
   rw [hcells] at hr
   simp only [Nat.zero_add, List.nil_append, Array.empty_append] at hgr ⊢
   exact ⟨_, _, hr, hgr, ⟨rfl, rfl, rfl⟩, .inr ⟨rfl, (other _).1, (other _).2⟩⟩
 ·by_cases hroom : n + s.size ≤ cap
  ·have hfit : n + s.size ≤ cur.size := by rw [hcs, hs1]; omega
   have hr := Lib.run_append_room_string (P := P) w t tx ty e i ht hu hi hs1 g n cap cur hg s hroom hfit
   have htake' : cur.toList.take n = xs := by rw [← htake, hs1, Nat.mul_one]
   refine ⟨_, _, hr, ⟨hlen, .inr ⟨g, cap, _, rfl, hbg, setRow_heap w g cur _ e _ hg, hroom, hcm, ?_, ?_⟩⟩, ⟨rfl, rfl, rfl⟩, .inl ⟨rfl, by simp [World.setRow], fun k hk => setRow_other w g k _ (fun e => hk (by simp [Value.ownBlock, e]))⟩⟩
   ·simp only [List.size_toArray, List.length_append, List.length_take, List.length_drop, Array.length_toList, hsl]
    omega
   ·rw [htake', ← hlen]
    exact List.take_left
  ·have holds : ∀ j u, xs[j]? = some u → w.cell? ((⟨g, 0, none⟩ : Addr).add j) = some u := hown.cells (g := g) rfl
   have hr := Lib.run_append_grow_string (P := P) w t tx ty e i z ht hu hi hz ⟨g, 0, none⟩ n cap xs hown.1 holds s (by omega) (by omega) (growslice_fits (by omega) hbytes)
   exact ⟨_, _, hr, grown cap (by omega), ⟨rfl, rfl, rfl⟩, .inr ⟨rfl, (other _).1, (other _).2⟩⟩
theorem append_none (w : World) (t ty e : TypeId) (i : TypeInfo) (ht : P.underlying t = some (.slice e)) (hi : P.info? e = some i) (v : Value) (n : Nat) (xs : List Value) (hown : w.ownsRow 0 e i.size v n xs) :
  (Builtin.append_ #[t, t] ty #[v, .slice none 0 0]).run P w = .ok v w := by
 rcases hown.2 with ⟨rfl, rfl⟩ | ⟨g, cap, cur, rfl, hbg, hg, hnc, hcm, hcs, htake⟩
 ·simp [Builtin.append_, run_underlying ht, sizeOf, typeInfo, hi, Builtin.lenOf, Builtin.firstCells]
 ·simp [Builtin.append_, run_underlying ht, sizeOf, typeInfo, hi, Builtin.lenOf, Builtin.firstCells, hnc, storeCells]
end
section
variable [Enc] {d nt : Nat} {e : Option Nat} {S : St} {g g' : G} {a : Act} {w w' : World} {P : Program}
theorem castL_eq {T U : Nat} {xs : List (Dn U)} {ys : List (Dn T)} (h : castL T xs = some ys) : ∃ hh : U = T, ys = hh ▸ xs := by
 unfold castL at h
 split at h
 ·rename_i hh; simp only [Option.some.injEq] at h; exact ⟨hh, h.symm⟩
 ·simp at h
theorem seen_rep (h : Rel d nt e S g a w) {T : Nat} {x : Operand} {ys : List (Dn T)} (ho : S.seen T x = some ys) :
  (ys = [] ∧ a.eval x = .slice none 0 0) ∨ ∃ A off cap C E fr, a.eval x = .slice (some A) ys.length cap ∧ (ys ≠ [] → A = ⟨A.block, off, none⟩ ∧ w.heap[A.block]? = some (.cells C E fr)) ∧ ∀ i y, ys[i]? = some y → CellsAt g C (off + i * sz T) (cells T y) := by
 unfold St.seen at ho
 split at ho
 ·rename_i U xs src hx
  obtain ⟨hh, hy⟩ := castL_eq ho
  subst hh
  simp only at hy
  subst hy
  obtain ⟨u, rfl, hu⟩ := opr_tmp hx
  obtain ⟨_, h4, _⟩ := h.rt u _ hu
  rcases h4 with ⟨h5, h6⟩ | ⟨b, off, cap, C, E, h5, h6, h7, h8, h9⟩
  ·exact .inl ⟨h5, h6⟩
  ·exact .inr ⟨⟨b, off, none⟩, off, cap, C, E, _, h5, fun _ => ⟨rfl, h7⟩, h9⟩
 ·simp at ho
 ·split at ho
  ·rename_i U xs hx
   obtain ⟨hh, hy⟩ := castL_eq ho
   subst hh
   simp only at hy
   subst hy
   rcases repF_fl (eval_fl h hx) with ⟨h4, h5⟩ | ⟨A, off, cap, C, h4, h5, h6, h7⟩
   ·exact .inl ⟨h4, h5⟩
   ·exact .inr ⟨A, off, cap, C, _, _, h4, fun hn => ⟨(h5 hn).1, (h.wf.fz _ _ (h5 hn).2).2⟩, h7⟩
  ·rename_i U xs hx
   obtain ⟨hh, hy⟩ := castL_eq ho
   subst hh
   simp only at hy
   subst hy
   have h1 := opv_rep h hx
   generalize hk : (match (generalizing := false) x with | .tmp t => Key.tm d t | _ => fun _ => Key.obj) = κ at h1
   have h2 : RepO g w (κ 0) _ ys (a.eval x) := by
    cases x with
    | tmp t => simp only at hk; subst hk; exact h1
    | const v => exact absurd hx opv_const_ol
    | global n => exact absurd hx opv_global_ol
    | func f => simp [St.opv] at hx
   have h2' := h2
   obtain ⟨vs, h3, h4, h5⟩ := h2
   rcases h3.2 with ⟨h6, h7⟩ | ⟨b, cap, cur, h6, _⟩
   ·exact .inl ⟨List.eq_nil_of_length_eq_zero h7, h6⟩
   ·rw [h6] at h2'
    obtain ⟨C, h8, _, _, _, _, h9⟩ := repO_row h2'
    exact .inr ⟨⟨b, 0, none⟩, 0, cap, C, _, _, h6, fun _ => ⟨rfl, h8⟩, fun i y hi => by rw [Nat.zero_add]; exact h9 i y hi⟩
  ·rename_i hx
   simp only [Option.some.injEq] at ho
   subst ho
   exact .inl ⟨rfl, eval_nl h hx⟩
  ·simp at ho
theorem list_vals {T : Nat} (hE : EncOk) (hz : 0 < sz T) {ys : List (Dn T)} {C : Array Value} {off : Nat} (h : ∀ i y, ys[i]? = some y → CellsAt g C (off + i * sz T) (cells T y)) :
  ∃ news : List Value, news.length = ys.length * sz T ∧ (∀ j u, news[j]? = some u → C[off + j]? = some u) ∧ (∀ u ∈ news, u.oneCell' = true) ∧ ∀ i y, ys[i]? = some y → CellsAt g news.toArray (i * sz T) (cells T y) := by
 have key : ∀ k, k < ys.length * sz T → ∃ u, C[off + k]? = some u ∧ u.oneCell' = true := by
  intro k hk
  have hi : k / sz T < ys.length := Nat.div_lt_of_lt_mul (by rw [Nat.mul_comm]; exact hk)
  have hy : ys[k / sz T]? = some ys[k / sz T] := List.getElem?_eq_getElem hi
  have hj : k % sz T < (cells T ys[k / sz T]).length := by rw [hE.len]; exact Nat.mod_lt _ hz
  obtain ⟨u, h1, h2⟩ := h _ _ hy (k % sz T) _ (List.getElem?_eq_getElem hj)
  refine ⟨u, ?_, repF_one h2⟩
  have : off + k / sz T * sz T + k % sz T = off + k := by
   have := Nat.div_add_mod k (sz T)
   rw [Nat.mul_comm] at this; omega
  rw [← this]; exact h1
 refine ⟨(List.range (ys.length * sz T)).map fun k => (C[off + k]?).getD undef, by simp, fun j u hj => ?_, fun u hu => ?_, fun i y hi j c hj => ?_⟩
 ·simp only [List.getElem?_map, Option.map_eq_some_iff] at hj
  obtain ⟨k, hk, rfl⟩ := hj
  obtain ⟨h2, h3⟩ := List.getElem?_eq_some_iff.1 hk
  simp only [List.getElem_range] at h3
  subst h3
  obtain ⟨u, h4, _⟩ := key j (by simpa using h2)
  simp [h4]
 ·simp only [List.mem_map, List.mem_range] at hu
  obtain ⟨k, hk, rfl⟩ := hu
  obtain ⟨u, h4, h5⟩ := key k hk
  simp [h4, h5]
 ·obtain ⟨u, h1, h2⟩ := h i y hi j c hj
  refine ⟨u, ?_, h2⟩
  have hj' : j < sz T := by have := (List.getElem?_eq_some_iff.1 hj).1; rw [hE.len] at this; exact this
  have hi' := (List.getElem?_eq_some_iff.1 hi).1
  have hlt : i * sz T + j < ys.length * sz T := by
   have := Nat.mul_le_mul_right (sz T) (show i + 1 ≤ ys.length by omega)
   rw [Nat.add_mul, Nat.one_mul] at this; omega
  simp only [List.getElem?_toArray, List.getElem?_map]
  rw [List.getElem?_range hlt]
  rw [Nat.add_assoc] at h1
  simp [h1]
theorem execApp (o : Oper) {s x : Operand} {T : Nat} {args : Array Operand} {tys : Array TypeId} (hop : o.op = .call { callee := .builtin .append, args := args, argTypes := tys }) (ha : args.toList = [s, x]) (ht : tys.toList = [T, T]) {v : Value}
  (hr : (Builtin.append_ #[T, T] o.type #[a.eval s, a.eval x]).run P w = .ok v w') : (execOp a.eval o).run P w = .ok (.value v) w' := by
 have h1 : args = #[s, x] := by rw [← Array.toArray_toList (xs := args), ha]
 have h2 : tys = #[T, T] := by rw [← Array.toArray_toList (xs := tys), ht]
 subst h1 h2
 simp [execOp, hop, resolve, invoke, builtin, hr]
theorem row_of {w : World} {base el bs n : Nat} {v : Value} {xs : List Value} {b : Nat} (h : w.ownsRow base el bs v n xs) (hv : v.ownBlock = some b) : ∃ D, w.heap[b]? = some (.cells D el (0, 0)) := by
 rcases h.2 with ⟨h4, _⟩ | ⟨b', cap, cur, h4, _, h5, _⟩
 ·subst h4; simp [Value.ownBlock] at hv
 ·subst h4; simp only [Value.ownBlock, Option.some.injEq] at hv; subst hv; exact ⟨cur, h5⟩
theorem append_fin {el t m : Nat} {xs ys : List (Dn el)} {κ : Key} {V : Value} {vs news : List Value} {r : Result Next} {bs : Nat} (ht : t < nt) (h : Rel d nt e S g a w) (hrt : S.rt = []) (hE : EncOk) (s3 : 0 < sz el) (s5 : bs = sz el)
  (o1 : w.ownsRow 0 el bs V xs.length vs) (o2 : ∀ b, V.ownBlock = some b → g.own b = some κ) (o3 : ∀ k y, xs[k]? = some y → CellsAt g vs.toArray (k * sz el) (cells el y)) (hm : Mine d m g w κ) (hf : Free d S g κ)
  (n4 : ∀ k y, ys[k]? = some y → CellsAt g news.toArray (k * sz el) (cells el y)) {v' : Value} {w' : World} (hex : r = .ok (.value v') w') (r2 : w'.ownsRow 0 el bs v' (xs.length + ys.length) (vs ++ news)) (rsl : Sl w w')
  (r3 : (v'.ownBlock = V.ownBlock ∧ w'.heap.size = w.heap.size ∧ ∀ k, some k ≠ V.ownBlock → w'.heap[k]? = w.heap[k]?) ∨ (v'.ownBlock = some w.heap.size ∧ w'.heap.size = w.heap.size + 1 ∧ ∀ k, k ≠ w.heap.size → w'.heap[k]? = w.heap[k]?)) :
  Ran d nt e m (S.setT t (.ol el (xs ++ ys))) g a w t r := by
 subst s5
 -- the elements of the longer list
 have hvlen := o1.1
 have hel : ∀ {G' : G}, Grow g G' → ∀ k y, (xs ++ ys)[k]? = some y → CellsAt G' (vs ++ news).toArray (k * sz el) (cells el y) := by
  intro G' hG k y hk j c hj
  have hj' : j < sz el := by have := (List.getElem?_eq_some_iff.1 hj).1; rw [hE.len] at this; exact this
  simp only [List.getElem?_toArray]
  by_cases hkx : k < xs.length
  ·rw [List.getElem?_append_left hkx] at hk
   obtain ⟨u, h4, h5⟩ := o3 k y hk j c hj
   refine ⟨u, ?_, h5.mono hG⟩
   have := Nat.mul_le_mul_right (sz el) (show k + 1 ≤ xs.length by omega)
   rw [Nat.add_mul, Nat.one_mul] at this
   rw [List.getElem?_append_left (by omega)]
   simpa using h4
  ·rw [List.getElem?_append_right (by omega)] at hk
   obtain ⟨u, h4, h5⟩ := n4 _ y hk j c hj
   refine ⟨u, ?_, h5.mono hG⟩
   have hkk : k * sz el = xs.length * sz el + (k - xs.length) * sz el := by rw [← Nat.add_mul]; congr 1; omega
   rw [List.getElem?_append_right (by omega)]
   have : k * sz el + j - vs.length = (k - xs.length) * sz el + j := by omega
   rw [this]
   simpa using h4
 have hll : (xs ++ ys).length = xs.length + ys.length := List.length_append
 rcases r3 with ⟨q1, q2, q3⟩ | ⟨q1, q2, q3⟩
 ·-- in place
  cases hv : V.ownBlock with
  | none =>
   rw [hv] at q1 q3
   have hsame : ∀ k : Nat, w'.heap[k]? = w.heap[k]? := fun k => q3 k (by simp)
   have hwf : WF g w' := ⟨h.wf.gl, fun b κ hb => by rw [q2]; exact h.wf.own b κ hb, fun b C hb => by
     obtain ⟨h4, h5⟩ := h.wf.fz b C hb
     exact ⟨h4, (hsame b).trans h5⟩, fun b b' j hb => by rw [q2]; exact h.wf.ob b b' j hb, fun i hi => by rw [q2]; exact h.wf.ol i hi, h.wf.inj, h.wf.oe_row (RowTy.of_same fun k _ => hsame k)⟩
   have h1 : Rel d nt e S g a w' := h.keep (X := fun _ _ => False) ⟨.refl g, rfl, fun b κ hb _ => ⟨hb, hsame b⟩⟩ (fun _ => rfl) (fun _ _ hx => hx.elim) (.inl hrt) hwf
   exact ⟨g, v', w', hex, h1.setT ht (show RepO _ _ _ el _ _ from ⟨_, by rw [hll]; exact r2, fun b hb => by rw [q1] at hb; simp at hb, hel (.refl g)⟩), ⟨.refl g, fun b κ hb _ => ⟨hb, hsame b⟩, by rw [q2]; exact Nat.le_refl _, fun i h1 h2 => by omega, rsl⟩⟩
  | some bb =>
   have hbb := o2 bb hv
   rw [hv] at q1 q3
   have hother : ∀ k, k ≠ bb → w'.heap[k]? = w.heap[k]? := fun k hk => q3 k (by simpa using hk)
   have hwf : WF g w' := ⟨h.wf.gl, fun b κ hb => by rw [q2]; exact h.wf.own b κ hb, fun b C hb => by
     obtain ⟨h4, h5⟩ := h.wf.fz b C hb
     exact ⟨h4, (hother b fun hh => by subst hh; rw [hbb] at h4; simp at h4).trans h5⟩, fun b b' j hb => by rw [q2]; exact h.wf.ob b b' j hb, fun i hi => by rw [q2]; exact h.wf.ol i hi, h.wf.inj, h.wf.oe_row fun k C E fr hk => by
     by_cases hkb : k = bb
     ·subst hkb
      obtain ⟨D, hD⟩ := row_of o1 hv
      obtain ⟨D', hD'⟩ := row_of r2 q1
      rw [hD] at hk
      cases hk
      exact ⟨_, _, hD'⟩
     ·exact ⟨_, _, (hother k hkb).trans hk⟩⟩
   have hk : Keep (fun k κ' => k = bb ∧ κ' = κ) g w g w' := ⟨.refl g, rfl, fun k κ' hk hx => ⟨hk, hother k fun hh => by subst hh; rw [hbb] at hk; exact hx ⟨rfl, (Option.some.inj hk).symm⟩⟩⟩
   have h1 : Rel d nt e S g a w' := h.keep hk (fun _ => rfl) (fun k κ' hx => by obtain ⟨_, rfl⟩ := hx; exact ⟨hm.cell, fun _ => hf⟩) (.inl hrt) hwf
   have hm' : Mine d m g w' κ := by cases κ <;> first | exact hm | exact ⟨hm.1, by rw [q2]; exact hm.2⟩
   obtain ⟨g', h2, h3, h4, _⟩ := h1.move (m := m) (κ' := .tm d t 0) (T := el) (xs := xs ++ ys) ⟨_, by rw [hll]; exact r2, fun b hb => by rw [q1] at hb; simp only [Option.some.injEq] at hb; subst hb; exact hbb, hel (.refl g)⟩ hm' (Nat.le_refl d) hf
   refine ⟨g', v', w', hex, h2.setT ht h3, ?_⟩
   have e1 : Ext d m g w g w' := ⟨.refl g, fun k κ' hk' hout => ⟨hk', hother k fun hh => by subst hh; rw [hbb] at hk'; simp only [Option.some.injEq] at hk'; subst hk'; exact hm.out k hout⟩, by rw [q2]; exact Nat.le_refl _, fun i h1 h2 => by omega, rsl⟩
   exact e1.trans' h4 rfl rfl
 ·-- a new row
  have hkA : Keep (fun _ _ => False) g w (g.new w.heap.size (.tm d t 0)) w' := by
   refine ⟨⟨fun _ _ h => h, Nat.le_refl _, fun _ _ => rfl, fun _ _ _ => rfl, rfl, fun _ _ => rfl⟩, rfl, fun b k hb _ => ?_⟩
   have hlt := h.wf.own b k hb
   have hne : b ≠ w.heap.size := by omega
   exact ⟨by simp only [G.new, if_neg hne]; exact hb, q3 b hne⟩
  have hwf : WF (g.new w.heap.size (.tm d t 0)) w' := by
   refine ⟨gl_mono hkA.gr h.wf.gl, fun b k hb => ?_, fun b C hf => ?_, fun b b' j hb => ?_, fun i hi => ?_, h.wf.inj, fun i hi => by
    obtain ⟨k0, k1⟩ := h.wf.oe_row (RowTy.of_same fun k hk => q3 k (by omega)) i hi
    have hne : g.oa i ≠ w.heap.size := by have := h.wf.ol i hi; omega
    exact ⟨by simp only [G.new, if_neg hne]; exact k0, k1⟩⟩
   ·rw [q2]
    simp only [G.new] at hb
    split at hb
    ·rename_i hh; omega
    ·have := h.wf.own b k hb; omega
   ·obtain ⟨h1, h2⟩ := h.wf.fz b C hf
    have hlt := (Array.getElem?_eq_some_iff.1 h2).1
    have hne : b ≠ w.heap.size := by omega
    exact ⟨by simp only [G.new, if_neg hne]; exact h1, by rw [q3 b hne]; exact h2⟩
   ·rw [q2]
    simp only [G.new] at hb
    split at hb
    ·simp at hb
    ·have := h.wf.ob b b' j hb; omega
   ·rw [q2]; have := h.wf.ol i hi; simp only [G.new]; omega
  have h1 : Rel d nt e S (g.new w.heap.size (.tm d t 0)) a w' := h.keep hkA (fun _ => rfl) (fun _ _ hx => hx.elim) (.inl hrt) hwf
  refine ⟨_, v', w', hex, h1.setT ht (show RepO _ _ _ el _ _ from ⟨_, by rw [hll]; exact r2, fun b hb => by rw [q1] at hb; simp only [Option.some.injEq] at hb; subst hb; simp [G.new], hel hkA.gr⟩), ⟨hkA.gr, fun b k hb _ => hkA.own b k hb id, by omega, fun i h1 h2 => by simp only [G.new] at h2; omega, rsl⟩⟩
theorem append_core {F : Fx} (hT : TabOk P F.T) {t T el m : Nat} {s x : Operand} {xs ys : List (Dn el)} {κ : Key} {o : Oper} {args : Array Operand} {tys : Array TypeId} (ht : t < nt) (h : Rel d nt e S g a w) (hrt : S.rt = []) (hK : F.T.K T = .slice el)
  (hs : RepO g w κ el xs (a.eval s)) (hm : Mine d m g w κ) (hf : Free d S g κ) (hx : (ys = [] ∧ a.eval x = .slice none 0 0) ∨ ∃ A off cap C E fr, a.eval x = .slice (some A) ys.length cap ∧ (ys ≠ [] → A = ⟨A.block, off, none⟩ ∧ w.heap[A.block]? = some (.cells C E fr)) ∧ ∀ i y, ys[i]? = some y → CellsAt g C (off + i * sz el) (cells el y))
  (hroom : room (xs.length + ys.length) (F.T.by_ el) = true) (hop : o.op = .call { callee := .builtin .append, args := args, argTypes := tys }) (ha : args.toList = [s, x]) (hty : tys.toList = [T, T]) :
  Ran d nt e m (S.setT t (.ol el (xs ++ ys))) g a w t ((execOp a.eval o).run P w) := by
 obtain ⟨s1, s2, s3, i, z, s4, s5, s6, s7, s8, s9⟩ := hT.slice _ _ hK
 obtain ⟨vs, o1, o2, o3⟩ := hs
 have o1' : w.ownsRow 0 el i.size (a.eval s) xs.length vs := by rw [s5]; exact o1
 rcases hx with ⟨rfl, hx⟩ | ⟨A, off, cap, C, E, fr, hx, hb, hc⟩
 ·have hrun := append_none (P := P) w T o.type el i s1 s4 (a.eval s) xs.length vs o1'
  obtain ⟨g', h1, h2, h3, _⟩ := h.move (m := m) (κ' := .tm d t 0) (T := el) (xs := xs) ⟨vs, o1, o2, o3⟩ hm (by
   exact Nat.le_refl d) hf
  refine ⟨g', _, w, execApp o hop ha hty (by rw [hx]; exact hrun), h1.setT ht ?_, h3⟩
  rw [List.append_nil]; exact h2
 ·obtain ⟨news, n1, n2, n3, n4⟩ := list_vals hT.enc s3 hc
  simp only [room, decide_eq_true_eq] at hroom
  have hlen : xs.length + ys.length ≤ 140737488355328 := by
   have := Nat.le_mul_of_pos_right (xs.length + ys.length) (show 0 < F.T.by_ el by omega)
   omega
  obtain ⟨v', w', r1, r2, rsl, r3⟩ := append_run (P := P) w T o.type el i z s1 s4 s8 (by rw [s5]; exact s9) (by omega) (a.eval s) xs.length vs o1' A ys.length cap news (by rw [s5]; exact n1) (fun j u hj => by
    have hn : ys ≠ [] := fun hh => by
     subst hh
     have := (List.getElem?_eq_some_iff.1 hj).1
     simp only [List.length_nil, Nat.zero_mul] at n1
     omega
    obtain ⟨hA, hh⟩ := hb hn
    rw [hA, cell_at hh]; exact n2 j u hj) n3
   (by unfold maxLen; omega) (by rw [s6]; exact hroom)
  have hex := execApp (a := a) (w := w) o hop ha hty (by rw [hx]; exact r1)
  exact append_fin ht h hrt hT.enc s3 s5 o1' o2 o3 hm hf n4 hex r2 rsl r3
theorem execAppS (o : Oper) {s x : Operand} {T U : Nat} {args : Array Operand} {tys : Array TypeId} (hop : o.op = .call { callee := .builtin .append, args := args, argTypes := tys }) (ha : args.toList = [s, x]) (ht : tys.toList = [T, U]) {v : Value}
  (hr : (Builtin.append_ #[T, U] o.type #[a.eval s, a.eval x]).run P w = .ok v w') : (execOp a.eval o).run P w = .ok (.value v) w' := by
 have h1 : args = #[s, x] := by rw [← Array.toArray_toList (xs := args), ha]
 have h2 : tys = #[T, U] := by rw [← Array.toArray_toList (xs := tys), ht]
 subst h1 h2
 simp [execOp, hop, resolve, invoke, builtin, hr]
theorem strL_len (T : Nat) (b : ByteArray) : (strL T b).length = b.size := by unfold strL; rw [List.length_map, Array.length_toList]; rfl
theorem appendS_ran {F : Fx} (hT : TabOk P F.T) {t m T U : Nat} {s x : Operand} {S' : St} {o : Oper} {args : Array Operand} {tys : Array TypeId} (ht : t < nt) (h : Rel d nt e S g a w) (ho : opAppendS F t T U s x S = some (true, S'))
  (hop : o.op = .call { callee := .builtin .append, args := args, argTypes := tys }) (ha : args.toList = [s, x]) (hty : tys.toList = [T, U]) : Ran d nt e m S' g a w t ((execOp a.eval o).run P w) := by
 unfold opAppendS at ho
 split at ho
 ·rename_i el b hK hKU hx
  have hxs : a.eval x = .string b := eval_s h hx
  split at ho
  ·rename_i f hKe hu
   obtain ⟨s1, s2, s3, i, z, s4, s5, s6, s7, s8, s9⟩ := hT.slice _ _ hK
   obtain ⟨u1, u2⟩ := hT.enc.u8 _ _ hu
   have hs1 : i.size = 1 := by rw [s5, u1]
   have key : ∀ {S0 : St} {g0 : G} {xs : List (Dn el)} {κ : Key} {sv : Operand}, Rel d nt e S0 g0 a w → S0.rt = [] → RepO g0 w κ el xs (a.eval sv) → Mine d m g0 w κ → Free d S0 g0 κ → args.toList = [sv, x] → room (xs.length + b.size) (F.T.by_ el) = true →
     Ran d nt e m (S0.setT t (.ol el (xs ++ strL el b))) g0 a w t ((execOp a.eval o).run P w) := by
    intro S0 g0 xs κ sv h0 hrt hs hm hf ha hroom
    obtain ⟨vs, o1, o2, o3⟩ := hs
    have o1' : w.ownsRow 0 el i.size (a.eval sv) xs.length vs := by rw [s5]; exact o1
    simp only [room, decide_eq_true_eq] at hroom
    have hlen : xs.length + b.size ≤ 140737488355328 := by
     have := Nat.le_mul_of_pos_right (xs.length + b.size) (show 0 < F.T.by_ el by omega)
     omega
    obtain ⟨v', w', r1, r2, rsl, r3⟩ := append_run_str (P := P) w T U o.type el i z s1 (hT.str _ hKU) s4 s8 (by rw [s5]; exact s9) hs1 (a.eval sv) xs.length vs o1' b (by unfold maxLen; omega) (by rw [s6]; exact hroom)
    have hex := execAppS (a := a) (w := w) o hop ha hty (by rw [hxs]; exact r1)
    refine append_fin (bs := i.size) ht h0 hrt hT.enc s3 s5 o1' o2 o3 hm hf (fun k y hk => ?_) hex (by rw [strL_len]; exact r2) rsl r3
    unfold strL at hk
    rw [List.getElem?_map] at hk
    obtain ⟨c, hc, rfl⟩ := Option.map_eq_some_iff.1 hk
    obtain ⟨y, hy⟩ := hT.enc.u8m _ _ (c.toNat : Int) hu
    rw [hy, Option.getD_some]
    refine (hT.enc.mkE _ _ _ hy).2 g0 _ _ fun j p hj => ?_
    cases j with
    | zero =>
     simp only [List.getElem?_cons_zero, Option.some.injEq] at hj
     subst hj
     refine ⟨.int .u8 (c.toNat : Int), ?_, .i _ _⟩
     unfold Lib.strCells
     rw [u1, Nat.mul_one, Nat.add_zero, List.getElem?_toArray, List.getElem?_map, hc]
     rfl
    | succ j => simp at hj
   split at ho
   ·rename_i hs
    simp only [Option.some.injEq, Prod.mk.injEq] at ho
    obtain ⟨h1, rfl⟩ := ho
    have hs' : RepO g w (.ar d 0) el [] (a.eval s) := by rw [eval_nl h hs]; exact ⟨[], World.ownsRow_nil w 0 el (sz el), fun b hb => by simp [Value.ownBlock] at hb, fun i x hi => by simp at hi⟩
    have := key (S0 := S.noR) h.noR rfl hs' (Nat.le_refl d) ⟨fun _ _ _ hk => by simp at hk, fun _ _ _ _ hk => by simp at hk, fun _ _ _ _ hk => by simp at hk, fun _ _ hk => by simp at hk⟩ ha (by simpa using h1)
    simpa using this
   ·rename_i V xs hs
    split at ho
    ·rename_i xs' u hc
     obtain ⟨hh, hy⟩ := castL_eq hc
     subst hh
     simp only at hy
     subst hy
     simp only [Option.some.injEq, Prod.mk.injEq] at ho
     obtain ⟨h1, rfl⟩ := ho
     obtain ⟨hu', hrep⟩ := h.tm u _ hs
     exact key (S0 := (S.setT u .gone).noR) (sv := .tmp u) (h.gone hu').noR rfl hrep (mine_tm (t := u) (i := 0)) (by
      have := free_gone (d := d) (S := S) (g := g) (t := u) (i := 0)
      exact ⟨this.tm, this.lc, this.mm, this.vl⟩) ha h1
    ·simp at ho
   ·simp at ho
  ·simp at ho
 ·simp at ho
theorem append_ran {F : Fx} (hT : TabOk P F.T) {t m T : Nat} {s x : Operand} {S' : St} {o : Oper} {args : Array Operand} {tys : Array TypeId} (ht : t < nt) (h : Rel d nt e S g a w) (ho : opAppend F t T s x S = some (true, S'))
  (hop : o.op = .call { callee := .builtin .append, args := args, argTypes := tys }) (ha : args.toList = [s, x]) (hty : tys.toList = [T, T]) : Ran d nt e m S' g a w t ((execOp a.eval o).run P w) := by
 unfold opAppend at ho
 split at ho
 ·rename_i el hK
  split at ho
  ·rename_i ys hx
   have hseen := seen_rep h hx
   split at ho
   ·rename_i hs
    simp only [Option.some.injEq, Prod.mk.injEq] at ho
    obtain ⟨h1, rfl⟩ := ho
    have hs' : RepO g w (.ar d 0) el [] (a.eval s) := by rw [eval_nl h hs]; exact ⟨[], World.ownsRow_nil w 0 el (sz el), fun b hb => by simp [Value.ownBlock] at hb, fun i x hi => by simp at hi⟩
    have := append_core (m := m) hT ht h.noR rfl hK hs' (Nat.le_refl d) ⟨fun _ _ _ hk => by simp at hk, fun _ _ _ _ hk => by simp at hk, fun _ _ _ _ hk => by simp at hk, fun _ _ hk => by simp at hk⟩ hseen (by simpa using h1) hop ha hty
    simpa using this
   ·rename_i U xs hs
    split at ho
    ·rename_i xs' u hc
     obtain ⟨hh, hy⟩ := castL_eq hc
     subst hh
     simp only at hy
     subst hy
     simp only [Option.some.injEq, Prod.mk.injEq] at ho
     obtain ⟨h1, rfl⟩ := ho
     obtain ⟨hu, hrep⟩ := h.tm u _ hs
     have := append_core (m := m) (s := .tmp u) (xs := xs') hT ht (h.gone hu).noR rfl hK hrep (mine_tm (t := u) (i := 0)) (by
      have := free_gone (d := d) (S := S) (g := g) (t := u) (i := 0)
      exact ⟨this.tm, this.lc, this.mm, this.vl⟩) hseen h1 hop ha hty
     exact this
    ·simp at ho
   ·simp at ho
  ·simp at ho
 ·simp at ho
end
end
section
section
variable [Enc] {d nt : Nat} {e : Option Nat} {S : St} {g g' : G} {a : Act} {w w' : World} {P : Program}
theorem sliceD_ran {F : Fx} (hT : TabOk P F.T) {t m ty : Nat} {x : Operand} {lo hi : Option Operand} {S' : St} (ht : t < nt) (h : Rel d nt e S g a w) (ho : opSliceD F t ty x lo hi S = some (true, S')) {o : Oper} (hop : o.op = .slice ty x lo hi none) :
  RanQ d nt e m S' g a w t ((execOp a.eval o).run P w) := by
 unfold opSliceD at ho
 split at ho
 ·rename_i U xs s hx hmd
  obtain ⟨u, rfl, hu⟩ := opr_tmp hx
  split at ho
  ·rename_i el l r hK hl hh
   cases hU : (Nat.beq U el && !s.isVar t) with
   | false => simp [hU] at ho
   | true =>
    simp only [hU, cond_true, Option.some.injEq, Prod.mk.injEq] at ho
    simp only [Bool.and_eq_true, Bool.not_eq_true'] at hU
    have := Nat.eq_of_beq_eq_true hU.1
    subst this
    obtain ⟨hb, rfl⟩ := ho
    have hsv := hU.2
    obtain ⟨_, h4, h4'⟩ := h.rt u _ hu
    obtain ⟨hs, hd⟩ := h4' s rfl
    have hrep := src_key h hs hd
    have hb' := hb
    simp only [inS, Bool.and_eq_true, decide_eq_true_eq] at hb'
    obtain ⟨vs, q1, _, _⟩ := hrep
    have hex : ∀ v, (Instr.sliceAt ty (a.eval (.tmp u)) (lo.map a.eval) (hi.map a.eval) none).run P w = .ok v w → (execOp a.eval o).run P w = .ok (.value v) w := by
     intro v hv; simp [execOp, hop, hv]
    have hsrc : ∀ s', (RV.sl s U l.toNat r.toNat).src = some s' → s'.isVar t = false := fun s' hs' => by simp only [RV.src, Option.some.injEq] at hs'; subst hs'; exact hsv
    rcases q1.2 with ⟨h5, h6⟩ | ⟨b, cap, cur, h5, _, _, h6, _⟩
    ·have h10 : a.eval (.tmp u) = .slice none 0 0 := h5
     have hb2 : inS l r 0 = true := by rw [h6] at hb; exact hb
     have hh2 : hiOf S 0 hi = some r := by rw [h6] at hh; exact hh
     rw [h6] at hb'
     have h11 := slice_run (P := P) (w := w) hT h hK (ao := none) (cap := 0) hl hh2 (Nat.le_refl _) hb2
     have e0 : r.toNat - l.toNat = 0 := by omega
     rw [e0] at h11
     exact ran_refQ h ht (hex _ (by rw [h10]; exact h11)) ⟨xs, hs, by omega, by omega, .inl ⟨by omega, _, _, rfl⟩⟩ hsrc
    ·have h10 : a.eval (.tmp u) = .slice (some ⟨b, 0, none⟩) xs.length cap := h5
     have h11 := slice_run (P := P) (w := w) hT h hK (ao := some ⟨b, 0, none⟩) (cap := cap) hl hh h6 hb
     obtain ⟨off', h12, h13⟩ := sliced_row (b := b) (off := 0) (cap := cap) (n := xs.length) (l := l.toNat) (r := r.toNat) (by omega) (by omega) h6 (sz U)
     refine ran_refQ h ht (hex _ (by rw [h10]; exact h11)) ⟨xs, hs, by omega, by omega, ?_⟩ hsrc
     rw [h12]
     by_cases hlr : l.toNat < r.toNat
     ·rw [h13 hlr, Nat.zero_add]
      exact .inr ⟨hlr, b, xs.length, cap, _, hd.trans (by rw [h5]), rfl⟩
     ·have e0 : r.toNat - l.toNat = 0 := by omega
      rw [e0]
      exact .inl ⟨by omega, _, _, rfl⟩
  ·simp at ho
 ·exact slice_ran hT ht h ho hop
theorem dst_rep (h : Rel d nt e S g a w) {x : Operand} {s : Src} {T lo hi : Nat} (hx : S.dst x = some (s, T, lo, hi)) : RepR S g a w (a.eval x) (.sl s T lo hi) := by
 unfold St.dst at hx
 split at hx
 ·rename_i s' T' lo' hi' hr
  simp only [Option.some.injEq, Prod.mk.injEq] at hx
  obtain ⟨rfl, rfl, rfl, rfl⟩ := hx
  obtain ⟨u, rfl, hu⟩ := opr_tmp hr
  exact (h.rt u _ hu).2
 ·rename_i T' xs s' hr
  simp only [Option.some.injEq, Prod.mk.injEq] at hx
  obtain ⟨rfl, rfl, rfl, rfl⟩ := hx
  obtain ⟨u, rfl, hu⟩ := opr_tmp hr
  obtain ⟨_, h4, h4'⟩ := h.rt u _ hu
  obtain ⟨hs, hd⟩ := h4' s' rfl
  obtain ⟨vs, q1, _, _⟩ := src_key h hs hd
  refine ⟨xs, hs, Nat.zero_le _, Nat.le_refl _, ?_⟩
  rcases q1.2 with ⟨h5, h6⟩ | ⟨b, cap, cur, h5, _, _, h6, _⟩
  ·exact .inl ⟨h6.symm ▸ rfl, none, 0, h5⟩
  ·by_cases hn : 0 < xs.length
   ·refine .inr ⟨hn, b, xs.length, cap, cap, hd.trans (by rw [h5]), ?_⟩
    rw [Nat.zero_mul, Nat.sub_zero]; exact h5
   ·have hz : xs.length = 0 := by omega
    exact .inl ⟨hz.symm, some ⟨b, 0, none⟩, cap, by rw [show a.eval (.tmp u) = _ from h5, hz]⟩
 ·simp at hx
theorem list_set_self {α : Type} {l : List α} {i : Nat} {x : α} (h : l[i]? = some x) : l.set i x = l := by
 obtain ⟨h1, h2⟩ := List.getElem?_eq_some_iff.1 h
 subst h2
 exact List.set_getElem_self h1
theorem copy_cells {T : Nat} (hE : EncOk) {xs zs : List (Dn T)} {lo : Nat} (hl : lo + zs.length ≤ xs.length) {C : Array Value} {news : List Value} (hC : ∀ i x, xs[i]? = some x → CellsAt g C (i * sz T) (cells T x))
  (hs : xs.length * sz T ≤ C.size) (hn : news.length = zs.length * sz T) (hN : ∀ i y, zs[i]? = some y → CellsAt g news.toArray (i * sz T) (cells T y)) :
  ∀ k z, (xs.take lo ++ zs ++ xs.drop (lo + zs.length))[k]? = some z → CellsAt g (C.toList.take (lo * sz T) ++ news ++ C.toList.drop (lo * sz T + news.length)).toArray (k * sz T) (cells T z) := by
 intro k z hk j c hj
 have hj' : j < sz T := by have := (List.getElem?_eq_some_iff.1 hj).1; rw [hE.len] at this; exact this
 have hle : (lo + zs.length) * sz T ≤ xs.length * sz T := Nat.mul_le_mul_right _ hl
 rw [Nat.add_mul] at hle
 have hsz : lo * sz T + news.toArray.size ≤ C.size := by simp only [List.size_toArray]; omega
 have hC' := fun i => row_splice (C := C) (A := news.toArray) hsz i
 simp only [List.size_toArray, List.getElem?_toArray] at hC'
 have hlen : (xs.take lo).length = lo := by rw [List.length_take]; omega
 rw [List.append_assoc] at hk
 by_cases h1 : k < lo
 ·rw [List.getElem?_append_left (by omega), List.getElem?_take, if_pos h1] at hk
  obtain ⟨u, h4, h5⟩ := hC k z hk j c hj
  refine ⟨u, ?_, h5⟩
  have := Nat.mul_le_mul_right (sz T) (show k + 1 ≤ lo by omega)
  rw [Nat.add_mul, Nat.one_mul] at this
  simp only [List.getElem?_toArray]
  rw [hC', if_neg (by omega)]; exact h4
 ·rw [List.getElem?_append_right (by omega), hlen] at hk
  by_cases h2 : k - lo < zs.length
  ·rw [List.getElem?_append_left h2] at hk
   obtain ⟨u, h4, h5⟩ := hN _ z hk j c hj
   refine ⟨u, ?_, h5⟩
   have e1 : k * sz T = lo * sz T + (k - lo) * sz T := by rw [← Nat.add_mul]; congr 1; omega
   have := Nat.mul_le_mul_right (sz T) (show k - lo + 1 ≤ zs.length by omega)
   rw [Nat.add_mul, Nat.one_mul] at this
   simp only [List.getElem?_toArray]
   rw [hC', if_pos (by omega)]
   rw [show k * sz T + j - lo * sz T = (k - lo) * sz T + j by omega]
   simpa using h4
  ·rw [List.getElem?_append_right (by omega), List.getElem?_drop] at hk
   rw [show lo + zs.length + (k - lo - zs.length) = k by omega] at hk
   obtain ⟨u, h4, h5⟩ := hC k z hk j c hj
   refine ⟨u, ?_, h5⟩
   have := Nat.mul_le_mul_right (sz T) (show lo + zs.length ≤ k by omega)
   rw [Nat.add_mul] at this
   simp only [List.getElem?_toArray]
   rw [hC', if_neg (by omega)]; exact h4
theorem execCopy (o : Oper) {s x : Operand} {T : Nat} {args : Array Operand} {tys : Array TypeId} (hop : o.op = .call { callee := .builtin .copy, args := args, argTypes := tys }) (ha : args.toList = [s, x]) (ht : tys.toList = [T, T]) {v : Value}
  (hr : (Builtin.copy_ #[T, T] o.type #[a.eval s, a.eval x]).run P w = .ok v w') : (execOp a.eval o).run P w = .ok (.value v) w' := by
 have h1 : args = #[s, x] := by rw [← Array.toArray_toList (xs := args), ha]
 have h2 : tys = #[T, T] := by rw [← Array.toArray_toList (xs := tys), ht]
 subst h1 h2
 simp [execOp, hop, resolve, invoke, builtin, hr]
theorem copy_zero {F : Fx} (hT : TabOk P F.T) {T el ty : Nat} (hK : F.T.K T = .slice el) {p q : Option Addr} {n m c c' : Nat} (hn : min m n = 0) :
  (Builtin.copy_ #[T, T] ty #[.slice p n c, .slice q m c']).run P w = .ok (.int .i64 0) w := by
 obtain ⟨h2, h3, h4, i, z, h5, h6, _⟩ := hT.slice _ _ hK
 have hn' : Nat.min m n = 0 := hn
 have hl : ∀ a : Addr, (loadCells a 0).run P w = .ok #[] w := fun a => run_loadCells_list (P := P) (w := w) a [] (by simp)
 cases p <;> cases q <;> simp [Builtin.copy_, run_underlying h2, sizeOf, typeInfo, h5, Builtin.lenOf, Builtin.firstCells, hn', storeCells, hl, goInt]
theorem setAt_self (h : Rel d nt e S g a w) (hr : S.rt = []) {s : Src} {p : PV} (hs : S.at_ s = some p) : Rel d nt e (S.setAt s p) g a w := by
 cases s with
 | var t =>
  refine h.congr (fun u => ?_) (fun _ => rfl) rfl (by simp [St.setAt, St.setT, hr, dropR]) rfl
  show lk ((t, p) :: S.tm) u = lk S.tm u
  rw [lk_cons]
  split
  ·rename_i hu; subst hu; exact hs.symm
  ·rfl
 | vo i =>
  refine h.congr (fun _ => rfl) (fun _ => rfl) rfl rfl ?_
  exact list_set_self hs
 | cell b o =>
  simp only [St.at_] at hs
  cases hb : S.cont b with
  | none => simp [hb] at hs
  | some cs =>
   simp only [hb] at hs
   have hle := (List.getElem?_eq_some_iff.1 hs).1
   have he : splice cs o [p] = cs := by
    apply List.ext_getElem?
    intro j
    rw [splice1_get hle]
    split
    ·rename_i hj; subst hj; exact hs.symm
    ·rfl
   have : S.setAt (.cell b o) p = S.setCont b cs := by simp only [St.setAt, hb, he]
   rw [this]
   cases b with
   | loc u =>
    refine h.congr (fun _ => rfl) (fun v => ?_) rfl rfl rfl
    show lk ((u, cs) :: S.lc) v = lk S.lc v
    rw [lk_cons]
    split
    ·rename_i hu; subst hu; exact hb.symm
    ·rfl
   | obj u => exact h.congr (fun _ => rfl) (fun _ => rfl) (list_set_self hb) rfl rfl
theorem copy_ran {F : Fx} (hT : TabOk P F.T) {t m T : Nat} {x y : Operand} {S' : St} {o : Oper} {args : Array Operand} {tys : Array TypeId} (ht : t < nt) (h : Rel d nt e S g a w) (ho : opCopy F t T x y S = some S') (hm : m = S.mm.length)
  (hop : o.op = .call { callee := .builtin .copy, args := args, argTypes := tys }) (ha : args.toList = [x, y]) (hty : tys.toList = [T, T]) : Ran d nt e m S' g a w t ((execOp a.eval o).run P w) := by
 subst hm
 unfold opCopy at ho
 split at ho
 ·rename_i el s U lo hi hK hx
  split at ho
  ·rename_i V xs0 ys hs0 hy
   split at ho
   ·rename_i xs hc
    obtain ⟨hh, hq⟩ := castL_eq hc
    subst hh
    simp only at hq
    subst hq
    cases hU : Nat.beq U V with
    | false => simp [hU] at ho
    | true =>
     simp only [hU, cond_true, Option.some.injEq] at ho
     have := Nat.eq_of_beq_eq_true hU
     subst this
     subst ho
     obtain ⟨h2, _, hz, i, z, h5, h6, _⟩ := hT.slice _ _ hK
     obtain ⟨xs1, h7, h8, h9, h10⟩ := dst_rep h hx
     rw [hs0] at h7
     simp only [Option.some.injEq, PV.ol.injEq, heq_eq_eq, true_and] at h7
     subst h7
     have hseen := seen_rep h hy
     have hs' : S.noR.at_ s = some (.ol U xs) := by
      cases s with
      | var u => exact hs0
      | cell b o => cases b <;> exact hs0
      | vo i => exact hs0
     have hzl : (ys.take (hi - lo)).length = min ys.length (hi - lo) := by rw [List.length_take, Nat.min_comm]
     generalize hn : min ys.length (hi - lo) = n at hzl ⊢
     have hlen : ∃ q c', a.eval y = .slice q ys.length c' := by
      rcases hseen with ⟨h11, h12⟩ | ⟨A, off, cap, C, E, fr, h11, _⟩
      ·exact ⟨none, 0, by rw [h12, h11]; rfl⟩
      ·exact ⟨some A, cap, h11⟩
     obtain ⟨q, c', hlen⟩ := hlen
     by_cases hn0 : n = 0
     ·subst hn0
      have hz0 : ys.take (hi - lo) = [] := List.eq_nil_of_length_eq_zero hzl
      have hxs : xs.take lo ++ ys.take (hi - lo) ++ xs.drop (lo + 0) = xs := by rw [hz0]; simp
      rw [hxs]
      obtain ⟨p, c, hp⟩ : ∃ p c, a.eval x = .slice p (hi - lo) c := by
       rcases h10 with ⟨h11, ao, cap, h12⟩ | ⟨_, b, len, cap, cap', _, h12⟩
       ·exact ⟨ao, cap, by rw [h12, h11, Nat.sub_self]⟩
       ·exact ⟨_, _, h12⟩
      have hr := copy_zero (P := P) (w := w) hT (T := T) (el := U) (ty := o.type) hK (p := p) (q := q) (n := hi - lo) (m := ys.length) (c := c) (c' := c') hn
      have hex := execCopy (a := a) (w := w) o hop ha hty (by rw [hp, hlen]; exact hr)
      exact ⟨g, _, w, hex, (setAt_self h.noR rfl hs').setT ht (.i _ _), .refl _ _ _ _⟩
     ·rcases h10 with ⟨h11, _⟩ | ⟨hlt, b, len, cap, cap', h11, h12⟩
      ·omega
      ·rcases hseen with ⟨h13, _⟩ | ⟨A, off, cp, C, E, fr, h13, h14, h15⟩
       ·subst h13; simp at hn; omega
       ·have hyn : ys ≠ [] := fun hh => by subst hh; simp at hn; omega
        obtain ⟨hA, hC⟩ := h14 hyn
        obtain ⟨news, n1, n2, n3, n4⟩ := list_vals (g := g) hT.enc hz (ys := ys.take (hi - lo)) (C := C) (off := off) (fun i z hi' => h15 i z (by
         rw [List.getElem?_take] at hi'
         split at hi'
         ·exact hi'
         ·simp at hi'))
        have hrep := src_key h hs0 h11
        have hrep' := hrep
        obtain ⟨C2, r1, r2, r3, r4, r5, r6⟩ := repO_row hrep
        obtain ⟨vs, q1, q2, q3⟩ := hrep'
        have hfit : lo + (ys.take (hi - lo)).length ≤ xs.length := by rw [hzl]; omega
        have hrow : (lo + (ys.take (hi - lo)).length) * sz U ≤ cap * sz U := Nat.mul_le_mul_right _ (by omega)
        rw [Nat.add_mul] at hrow
        have hld := run_loadCells_list (P := P) (w := w) A news (fun j u hj => by rw [hA, addr_add, cell_of_row w _ _ C E fr hC]; exact n2 j u hj)
        rw [n1, hzl] at hld
        have hst := run_storeCells_at P b (lo * sz U) U news 0 C2 w r1 (by omega) n3
        simp only [Nat.add_zero] at hst
        have hmin : Nat.min ys.length (hi - lo) = n := hn
        have hrun : (Builtin.copy_ #[T, T] o.type #[a.eval x, a.eval y]).run P w = .ok (.int .i64 n) (w.setRow b (C2.toList.take (lo * sz U) ++ news ++ C2.toList.drop (lo * sz U + news.length)).toArray) := by
         rw [h12, h13]
         simp [Builtin.copy_, run_underlying h2, sizeOf, typeInfo, h5, h6, Builtin.lenOf, Builtin.firstCells, hmin, hld, hst, goInt]
        have hex := execCopy (a := a) (w := w) o hop ha hty hrun
        generalize hC' : (C2.toList.take (lo * sz U) ++ news ++ C2.toList.drop (lo * sz U + news.length)).toArray = C' at hex
        have hC's : C'.size = C2.size := by
         rw [← hC']
         simp only [List.size_toArray, List.length_append, List.length_take, List.length_drop, Array.length_toList]
         omega
        have hcells := copy_cells (g := g) hT.enc hfit (C := C2) (news := news) r6 (by rw [r5]; exact Nat.mul_le_mul_right _ r3) n1 n4
        rw [hC', hzl] at hcells
        have hnew := setRow_heap w b C2 C' U (0, 0) r1
        generalize hzs : xs.take lo ++ ys.take (hi - lo) ++ xs.drop (lo + n) = zs at hcells ⊢
        have hzsl : zs.length = xs.length := by
         rw [← hzs]
         simp only [List.length_append, List.length_take, List.length_drop]
         omega
        have hy' : RepO g (w.setRow b C') (skey d g s) U zs (.slice (some ⟨b, 0, none⟩) len cap) := by
         have hcap : cap ≤ maxLen := by
          rcases q1.2 with ⟨h24, _⟩ | ⟨b', cap', cur, h24, _, _, _, h25, _⟩
          ·simp at h24
          ·simp only [Value.slice.injEq] at h24; obtain ⟨_, _, rfl⟩ := h24; exact h25
         refine ⟨(C'.toList.take (zs.length * sz U)), ⟨?_, .inr ⟨b, cap, C', by rw [hzsl, ← r2], Nat.zero_le _, hnew, by rw [hzsl]; exact r3, hcap, by rw [hC's, r5], rfl⟩⟩, fun b' hb' => ?_, fun k z hk j c hj => ?_⟩
         ·have hh : C'.toList.length = cap * sz U := by rw [Array.length_toList, hC's, r5]
          rw [List.length_take, hzsl, hh]
          exact Nat.min_eq_left (Nat.mul_le_mul_right _ r3)
         ·simp only [Value.ownBlock, Option.some.injEq] at hb'; subst hb'; exact q2 _ rfl
         ·obtain ⟨u', h22, h23⟩ := hcells k z hk j c hj
          refine ⟨u', ?_, h23⟩
          have hk' : k < zs.length := (List.getElem?_eq_some_iff.1 hk).1
          have hj' : j < sz U := by have := (List.getElem?_eq_some_iff.1 hj).1; rw [hT.enc.len] at this; exact this
          have hlt : k * sz U + j < zs.length * sz U := by
           have := Nat.mul_le_mul_right (sz U) (show k + 1 ≤ zs.length by omega)
           rw [Nat.add_mul, Nat.one_mul] at this
           omega
          simp only [List.getElem?_toArray]
          rw [List.getElem?_take, if_pos hlt]
          simpa using h22
        obtain ⟨h30, h31⟩ := h.noR.listAt rfl hs' h11 rfl hy'
        exact ⟨g, _, _, hex, h30.setT ht (.i _ _), h31⟩
   ·simp at ho
  ·simp at ho
 ·simp at ho
end
end
section
section
variable [Enc] {d nt : Nat} {e : Option Nat} {S : St} {g g' : G} {a : Act} {w w' : World} {P : Program}
theorem src_keyM (h : Rel d nt e S g a w) {s : Src} {U : Nat} {es : List (ByteArray × Dn U)} (hs : S.at_ s = some (.mp U es)) {v : Value} (hv : hdr g a w s = some v) : RepM g w (skey d g s) U es v := by
 cases s with
 | var u =>
  have h1 := (h.tm u _ hs).2
  simp only [hdr] at hv
  have : a.tmps.getD u undef = v := by simp [Array.getD_eq_getD_getElem?, hv]
  rw [this] at h1; exact h1
 | vo i =>
  obtain ⟨u, h1, h2⟩ := h.vl i _ hs
  have hv : g.va i = some v := hv
  rw [h1] at hv
  obtain rfl := Option.some.inj hv
  exact h2
 | cell b o =>
  simp only [St.at_] at hs
  cases hb : S.cont b with
  | none => simp [hb] at hs
  | some cs =>
   simp only [hb] at hs
   obtain ⟨_, C, E, h2, h3⟩ := h.cont hb
   obtain ⟨u, h4, h5⟩ := h3.2 o _ hs
   simp only [hdr] at hv
   rw [cell_of_row w (g.addr b) o C E (0, 0) h2, h4] at hv
   simp only [Option.some.injEq] at hv
   subst hv
   exact h5
theorem mapAt_rep (h : Rel d nt e S g a w) {m : Operand} {s : Src} {U : Nat} {es : List (ByteArray × Dn U)} (hm : S.mapAt m = some (s, ⟨U, es⟩)) : S.at_ s = some (.mp U es) ∧ hdr g a w s = some (a.eval m) := by
 unfold St.mapAt at hm
 split at hm
 ·rename_i s' hr
  obtain ⟨t, rfl, hl⟩ := opr_tmp hr
  obtain ⟨_, U', es', h1, h2⟩ := h.rt t _ hl
  rw [h1] at hm
  simp only [Option.some.injEq, Prod.mk.injEq, Sigma.mk.injEq] at hm
  obtain ⟨rfl, rfl, h3⟩ := hm
  have h3 := eq_of_heq h3
  subst h3
  exact ⟨h1, h2⟩
 ·simp at hm
 ·split at hm
  ·rename_i t
   split at hm
   ·rename_i U' es' hl
    simp only [Option.some.injEq, Prod.mk.injEq, Sigma.mk.injEq] at hm
    obtain ⟨rfl, rfl, h3⟩ := hm
    have h3 := eq_of_heq h3
    subst h3
    refine ⟨hl, ?_⟩
    have h1 := (h.tm _ _ hl).1
    simp only [hdr, Act.eval, Array.getD_eq_getD_getElem?]
    rw [Array.getElem?_eq_getElem (by rw [h.sz]; exact h1)]
    rfl
   ·simp at hm
  ·simp at hm
theorem Rel.mapTo (h : Rel d nt e S g a w) (hr : S.rt = []) {s : Src} {U : Nat} {es es' : List (ByteArray × Dn U)} (hs : S.at_ s = some (.mp U es)) {r : Nat} (hv : hdr g a w s = some (.map (some r)))
  (hother : ∀ k, k ≠ r → w'.heap[k]? = w.heap[k]?) (hsz : w'.heap.size = w.heap.size) (hsl : Sl w w')
  (hy : RepM g w' (skey d g s) U es' (.map (some r))) : Rel d nt e (S.setAt s (.mp U es')) g a w' ∧ Ext d S.mm.length g w g w' := by
 have hrep := src_keyM h hs hv
 obtain ⟨r', ms, ck, h1, hob, hC, _⟩ := hrep
 simp only [Value.map.injEq, Option.some.injEq] at h1
 subst h1
 have hk : Keep (fun k κ => k = r ∧ κ = skey d g s) g w g w' := ⟨.refl g, rfl, fun k κ hk hx => ⟨hk, hother k fun hh => by subst hh; rw [hob] at hk; exact hx ⟨rfl, (Option.some.inj hk).symm⟩⟩⟩
 have hwf : WF g w' := by
  refine ⟨h.wf.gl, fun k κ' hk => by rw [hsz]; exact h.wf.own k κ' hk, fun k D hf => ?_, fun k b' j hk => by rw [hsz]; exact h.wf.ob k b' j hk, fun i hi => by rw [hsz]; exact h.wf.ol i hi, h.wf.inj, h.wf.oe_row fun k D E fr hk0 => by
   by_cases hkr : k = r
   ·subst hkr; rw [hC] at hk0; cases hk0
   ·exact ⟨_, _, (hother k hkr).trans hk0⟩⟩
  obtain ⟨h1, h2⟩ := h.wf.fz k D hf
  refine ⟨h1, ?_⟩
  rw [hother k fun hh => by subst hh; rw [hob] at h1; simp at h1]
  exact h2
 have hext : ∀ {m : Nat}, Mine d m g w (skey d g s) → Ext d m g w g w' := fun hm => ⟨.refl g, fun k κ hk' hout => ⟨hk', hother k fun hh => by subst hh; rw [hob] at hk'; simp only [Option.some.injEq] at hk'; subst hk'; exact hm.out k hout⟩, by rw [hsz]; exact Nat.le_refl _, fun i h1 h2 => by omega, hsl⟩
 cases s with
 | var t =>
  have ht := (h.tm t _ hs).1
  refine ⟨?_, hext (Nat.le_refl d)⟩
  have h4 : Rel d nt e (S.setT t .gone) g a w := h.gone ht
  have h5 := h4.keep hk (fun _ => rfl) (fun k κ hx => by obtain ⟨_, rfl⟩ := hx; exact ⟨trivial, fun _ => free_gone⟩) (.inl (by simp [St.setT, hr, dropR])) hwf
  have h6 := h5.setT' (a' := a) (t := t) (p := .mp U es') ht rfl rfl (fun _ _ => rfl) (by
   have : a.tmps.getD t undef = .map (some r) := by simp only [hdr] at hv; simp [Array.getD_eq_getD_getElem?, hv]
   rw [this]; exact hy)
  refine h6.congr (fun u => ?_) (fun _ => rfl) rfl (by simp [St.setAt, St.setT, hr, dropR])
  show lk ((t, _) :: S.tm) u = lk ((t, _) :: (t, _) :: S.tm) u
  rw [lk_cons, lk_cons, lk_cons]
  split <;> rfl
 | vo i =>
  refine ⟨?_, hext (Nat.le_refl d)⟩
  have h4 : Rel d nt e { S with vl := S.vl.set i .gone } g a w := h.vlTo hr fun _ => ⟨_, hv, trivial⟩
  have h5 := h4.keep hk (fun _ => rfl) (fun k κ hx => by obtain ⟨_, rfl⟩ := hx; exact ⟨trivial, fun _ => free_vl⟩) (.inl hr) hwf
  have h6 := h5.vlTo (p := .mp U es') (i := i) hr fun _ => ⟨_, hv, hy⟩
  refine h6.congr (fun _ => rfl) (fun _ => rfl) rfl rfl ?_
  show S.vl.set i _ = (S.vl.set i _).set i _
  rw [List.set_set]
 | cell bs o =>
  simp only [St.at_] at hs
  cases hcb : S.cont bs with
  | none => simp [hcb] at hs
  | some cs =>
   simp only [hcb] at hs
   have hle := (List.getElem?_eq_some_iff.1 hs).1
   have hm := ckey_mine h hcb o
   refine ⟨?_, hext hm⟩
   have h4 : Rel d nt e (S.setCont bs (splice cs o [.gone])) g a w := h.cellTo hcb hr hle fun _ _ _ _ _ => trivial
   have hcont' := setCont_cont S (cs' := splice cs o [.gone]) hcb
   have h5 := h4.keep hk (fun _ => rfl) (fun k κ hx => by
    obtain ⟨_, rfl⟩ := hx
    exact ⟨by cases bs <;> trivial, fun _ => free_cell h4 hcont' fun c hc' => by
     rw [splice1_get hle, if_pos rfl] at hc'
     simp only [Option.some.injEq] at hc'
     subst hc'; rfl⟩) (.inl (by cases bs <;> exact hr)) hwf
   have hne : g.addr bs ≠ r := fun hh => by
    have := (h.cont hcb).1
    rw [hh, hob] at this
    simp only [Option.some.injEq] at this
    exact bkey_cell d bs (this ▸ (by cases bs <;> trivial : (skey d g (.cell bs o)).cell))
   have h6 := h5.cellTo (c := .mp U es') (off := o) hcont' (by cases bs <;> exact hr) (by rw [splice1_len hle]; exact hle) fun C2 E2 v' h14 h15 => by
    have : v' = .map (some r) := by
     simp only [hdr] at hv
     rw [hother _ hne] at h14
     rw [cell_of_row w (g.addr bs) o C2 E2 (0, 0) h14, h15] at hv
     exact Option.some.inj hv
    subst this
    exact hy
   rw [splice_splice hle] at h6
   have hset : S.setAt (.cell bs o) (.mp U es') = S.setCont bs (splice cs o [.mp U es']) := by simp only [St.setAt, hcb]
   rw [hset]
   refine h6.congr (fun u => by cases bs <;> rfl) (fun u => ?_) ?_ (by cases bs <;> rfl)
   ·exact (((setCont_setCont S bs _ _ u) _).1 rfl).symm ▸ rfl
   ·cases bs with
    | loc u => rfl
    | obj u => show S.mm.set u _ = (S.mm.set u _).set u _; rw [List.set_set]
theorem makeMap_ran {F : Fx} (hT : TabOk P F.T) {t m T : Nat} {S' : St} (ht : t < nt) (h : Rel d nt e S g a w) (ho : opMakeMap F t T S = some S') {o : Oper} (hop : o.op = .makeMap T none) :
  Ran d nt e m S' g a w t ((execOp a.eval o).run P w) := by
 unfold opMakeMap at ho
 split at ho
 case h_2 => simp at ho
 rename_i el kb hK
 simp only [Option.some.injEq] at ho
 subst ho
 have h1 := h.alloc (.map #[] 0) (.tm d t 0) (fun _ _ hh => by simp at hh)
 have hr : (execOp a.eval o).run P w = .ok (.value (.map (some w.heap.size))) (w.alloc (.map #[] 0)) := by
  simp [execOp, hop, Instr.makeMap, Result.andThen]
 refine ⟨_, _, _, hr, h1.setT ht ?_, ext_alloc h.wf m _ _⟩
 refine ⟨w.heap.size, #[], 0, rfl, by simp [G.new], heap_alloc_new w _, rfl, fun i x hi => by simp at hi⟩
theorem bEq_iffM {x y : ByteArray} : bEq x y = true ↔ x = y := by
 simp only [bEq, beq_iff_eq]
 constructor
 ·intro h
  obtain ⟨⟨x⟩⟩ := x
  obtain ⟨⟨y⟩⟩ := y
  have h1 : ∀ l : List UInt8, ByteArray.toList ⟨⟨l⟩⟩ = l := fun l => by
   have : ∀ (b : ByteArray) (i : Nat) (r : List UInt8), ByteArray.toList.loop b i r = r.reverse ++ b.data.toList.drop i := by
    intro b i r
    induction i, r using ByteArray.toList.loop.induct b with
    | case1 i r hlt ih =>
     rw [ByteArray.toList.loop, if_pos hlt, ih]
     have hlt' : i < b.data.toList.length := by simpa using hlt
     rw [List.drop_eq_getElem_cons hlt']
     have : b.get! i = b.data.toList[i] := by
      show b.data[i]! = _
      rw [getElem!_pos b.data i (by simpa using hlt')]
      simp
     simp [this]
    | case2 i r hlt =>
     rw [ByteArray.toList.loop, if_neg hlt]
     rw [List.drop_eq_nil_of_le (by simpa using hlt)]
     simp
   rw [ByteArray.toList, this]
   simp
  rw [h1, h1] at h
  rw [h]
 ·intro h; rw [h]
theorem mget_at {α : Type} : ∀ (es : List (ByteArray × α)) (k : ByteArray), (mget es k = none ∧ (∀ x ∈ es, x.1 ≠ k) ∧ ∀ x, mset es k x = es ++ [(k, x)]) ∨
  ∃ i v, mget es k = some v ∧ es[i]? = some (k, v) ∧ (∀ (j : Nat) (y : ByteArray × α), j < i → es[j]? = some y → y.1 ≠ k) ∧ ∀ x, mset es k x = es.set i (k, x) := by
 intro es
 induction es with
 | nil => intro k; exact .inl ⟨rfl, fun x hx => by simp at hx, fun x => rfl⟩
 | cons y r ih =>
  obtain ⟨k', v⟩ := y
  intro k
  cases hb : bEq k k' with
  | true =>
   have := bEq_iffM.1 hb
   subst this
   exact .inr ⟨0, v, by simp [mget, hb], rfl, fun j y hj => by omega, fun x => by simp [mset, hb]⟩
  | false =>
   have hne : k' ≠ k := fun hh => by rw [bEq_iffM.2 hh.symm] at hb; simp at hb
   rcases ih k with ⟨h1, h2, h3⟩ | ⟨i, u, h1, h2, h3, h4⟩
   ·refine .inl ⟨by simp [mget, hb, h1], fun x hx => ?_, fun x => by simp [mset, hb, h3]⟩
    rcases List.mem_cons.1 hx with rfl | hx
    ·exact hne
    ·exact h2 x hx
   ·refine .inr ⟨i + 1, u, by simp [mget, hb, h1], by simpa using h2, fun j y hj hy => ?_, fun x => by simp [mset, hb, h4]⟩
    cases j with
    | zero => simp only [List.getElem?_cons_zero, Option.some.injEq] at hy; rw [← hy]; exact hne
    | succ j => exact h3 j y (by omega) (by simpa using hy)
theorem find_first {d : TypeDesc} {k : Value} (hk : MapKept.IsKey d k) : ∀ (l : List MapEntry) (i n : Nat) {e0 : MapEntry}, (∀ x ∈ l, MapKept.IsKey d x.key) → l[n]? = some e0 → e0.key = k → (∀ (j : Nat) (y : MapEntry), j < n → l[j]? = some y → y.key ≠ k) → Instr.findNow d k l i = some (some (i + n, e0.val)) := by
 intro l
 induction l with
 | nil => intro i n e0 _ hn; simp at hn
 | cons x r ih =>
  intro i n e0 hks hn he hne
  obtain ⟨b, hb, hiff⟩ := MapKept.sameNow_of_keys hk (hks x (.head _))
  cases n with
  | zero =>
   simp only [List.getElem?_cons_zero, Option.some.injEq] at hn
   subst hn
   have : b = true := hiff.2 he.symm
   subst this
   simp [Instr.findNow, hb]
  | succ n =>
   have hf : b = false := by
    cases b with
    | false => rfl
    | true => exact absurd (hiff.1 rfl).symm (hne 0 x (Nat.succ_pos n) rfl)
   subst hf
   simp only [Instr.findNow, hb]
   rw [ih (i + 1) n (fun y hy => hks y (.tail _ hy)) (by simpa using hn) he (fun j y hj hy => hne (j + 1) y (by omega) (by simpa using hy))]
   congr 3; omega
theorem find_none {d : TypeDesc} {k : Value} (hk : MapKept.IsKey d k) (l : List MapEntry) (hks : ∀ x ∈ l, MapKept.IsKey d x.key) (hne : ∀ x ∈ l, x.key ≠ k) : Instr.findNow d k l 0 = some none := by
 rcases MapKept.findNow_spec hk l 0 hks with ⟨h1, _⟩ | ⟨j, e, _, h2, h3⟩
 ·exact h1
 ·exact absurd h3 (hne e (List.mem_of_getElem? h2))
theorem ikN_inj {a b : Int} (h : ikN a = ikN b) : a = b := by
 unfold ikN at h
 by_cases ha : 0 ≤ a <;> by_cases hb : 0 ≤ b <;> simp only [ha, hb, decide_true, decide_false, cond_true, cond_false] at h <;> omega
theorem rep_one {m n : Nat} : ∀ {xs ys : List UInt8}, List.replicate m (0 : UInt8) ++ 1 :: xs = List.replicate n 0 ++ 1 :: ys → m = n ∧ xs = ys := by
 induction m generalizing n with
 | zero =>
  intro xs ys h
  cases n with
  | zero => simpa using h
  | succ n => simp [List.replicate_succ] at h
 | succ m ih =>
  intro xs ys h
  cases n with
  | zero => simp [List.replicate_succ] at h
  | succ n =>
   simp only [List.replicate_succ, List.cons_append, List.cons.injEq, true_and] at h
   obtain ⟨h1, h2⟩ := ih h
   exact ⟨by rw [h1], h2⟩
theorem ik_inj {a b c d : Int} (h : ik a b = ik c d) : a = c ∧ b = d := by
 unfold ik at h
 have h1 : (List.replicate (ikN a) (0 : UInt8) ++ 1 :: List.replicate (ikN b) 0).toArray = (List.replicate (ikN c) (0 : UInt8) ++ 1 :: List.replicate (ikN d) 0).toArray := congrArg ByteArray.data h
 have h1 := congrArg Array.toList h1
 simp only [List.toList_toArray] at h1
 obtain ⟨h2, h3⟩ := rep_one h1
 have h4 := congrArg List.length h3
 simp only [List.length_replicate] at h4
 exact ⟨ikN_inj h2, ikN_inj h4⟩
theorem keyIs_iff {U : Nat} {x y : ByteArray} {u v : Value} (h : KeyIs U x u) (h' : KeyIs U y v) : u = v ↔ x = y := by
 rcases h with ⟨h0, rfl⟩ | ⟨h0, a, b, rfl, rfl⟩ <;> rcases h' with ⟨h0', rfl⟩ | ⟨h0', c, d, rfl, rfl⟩
 ·exact ⟨Value.string.inj, fun h => by rw [h]⟩
 ·rw [h0] at h0'; simp at h0'
 ·rw [h0] at h0'; simp at h0'
 ·refine ⟨fun h => by simp at h; rw [h.1, h.2], fun h => ?_⟩
  obtain ⟨rfl, rfl⟩ := ik_inj h
  rfl
def KT (P : Program) (U kt : Nat) : Prop := (Enc.pk U = false ∧ P.underlying kt = some .string) ∨ (Enc.pk U = true ∧ PairOk P kt)
theorem mapT_ok {T : Tab} (hT : TabOk P T) {t el : Nat} {b : Bool} (h : mapT (T.K t) = some (el, b)) (hp : isP b el = true) : ∃ k v i, P.underlying t = some (.map k el) ∧ KT P el k ∧ P.info? el = some i ∧ i.zero = some v ∧ v.cells = #[v] := by
 cases hK : T.K t with
 | map e =>
  simp only [hK, mapT, Option.some.injEq, Prod.mk.injEq] at h
  obtain ⟨rfl, rfl⟩ := h
  obtain ⟨k, v, i, h1, h2, h3⟩ := hT.map t e hK
  exact ⟨k, v, i, h1, .inl ⟨by simpa [isP] using hp, h2⟩, h3⟩
 | mapP e =>
  simp only [hK, mapT, Option.some.injEq, Prod.mk.injEq] at h
  obtain ⟨rfl, rfl⟩ := h
  obtain ⟨k, v, i, h1, h2, h3⟩ := hT.mapP t e hK
  exact ⟨k, v, i, h1, .inr ⟨by simpa [isP] using hp, h2⟩, h3⟩
 | _ => simp [hK, mapT] at h
theorem mkey_rep (h : Rel d nt e S g a w) {k : Operand} {U : Nat} {b : Bool} {key : ByteArray} (hk : mkey b (S.opv k) = some key) (hp : isP b U = true) : KeyIs U key (a.eval k) := by
 cases ho : S.opv k with
 | none => simp [ho, mkey] at hk
 | some p =>
  cases b with
  | false =>
   simp only [ho, mkey] at hk
   split at hk
   ·simp only [Option.some.injEq] at hk
    subst hk
    exact .inl ⟨by simpa [isP] using hp, eval_s h ho⟩
   ·simp at hk
  | true =>
   simp only [ho, mkey] at hk
   split at hk
   case h_2 => simp at hk
   rename_i cs
   unfold pairI at hk
   split at hk
   case h_2 => simp at hk
   split at hk
   case h_2 => simp at hk
   rename_i x y
   simp only [Option.some.injEq] at hk
   subst hk
   refine .inr ⟨by simpa [isP] using hp, x, y, rfl, ?_⟩
   have hr := opv_rep h ho
   obtain ⟨A, h1, h2, h3⟩ := hr
   rw [h1]
   obtain ⟨u, h4, h5⟩ := h3 0 _ rfl
   obtain ⟨v, h6, h7⟩ := h3 1 _ rfl
   have h5 : RepF g (.i .i64 x) u := h5
   have h7 : RepF g (.i .i64 y) v := h7
   cases h5
   cases h7
   congr 1
   apply Array.ext_getElem?
   intro i
   match i with
   | 0 => exact h4
   | 1 => exact h6
   | n + 2 =>
    rw [Array.getElem?_eq_none (by rw [h2]; simp), Array.getElem?_eq_none (by simp)]
theorem KT.ck {U kt : Nat} (h : KT P U kt) {key : ByteArray} {kv : Value} (hk : KeyIs U key kv) (b : Bool) (w : World) : (Instr.checkKey b 10000 kt kv).run P w = .ok () w := by
 rcases h with ⟨h0, h1⟩ | ⟨h0, h1⟩ <;> rcases hk with ⟨h2, rfl⟩ | ⟨h2, x, y, rfl, rfl⟩
 ·exact MapKept.run_checkKey h1 (d := .string) (k := .string key) trivial b 9999
 ·rw [h0] at h2; simp at h2
 ·rw [h0] at h2; simp at h2
 ·exact h1.ck b x y w
theorem KeyIs.stays {U : Nat} {key : ByteArray} {kv : Value} (hk : KeyIs U key kv) (w : World) : (Instr.keyThatStays kv kv).run P w = .ok kv w := by
 rcases hk with ⟨h2, rfl⟩ | ⟨h2, x, y, rfl, rfl⟩
 ·exact MapKept.run_keyThatStays (d := .string) (k := .string key) trivial
 ·have : Instr.sameBits 10000 (.agg #[.int .i64 x, .int .i64 y]) (.agg #[.int .i64 x, .int .i64 y]) = true := by simp [Instr.sameBits]
  simp [Instr.keyThatStays, this]
theorem pair_ask {kt : Nat} (hp : PairOk P kt) (a b : Int) : ∀ (l : List MapEntry) (i : Nat), (∀ x ∈ l, ∃ c d : Int, x.key = .agg #[.int .i64 c, .int .i64 d]) →
  ((∀ x ∈ l, x.key ≠ .agg #[.int .i64 a, .int .i64 b]) → (Instr.findAsking kt (.agg #[.int .i64 a, .int .i64 b]) l i).run P w = .ok none w) ∧
  (∀ (n : Nat) (e0 : MapEntry), l[n]? = some e0 → e0.key = .agg #[.int .i64 a, .int .i64 b] → (∀ (j : Nat) (y : MapEntry), j < n → l[j]? = some y → y.key ≠ .agg #[.int .i64 a, .int .i64 b]) →
   (Instr.findAsking kt (.agg #[.int .i64 a, .int .i64 b]) l i).run P w = .ok (some (i + n, e0.val)) w) := by
 intro l
 induction l with
 | nil => intro i _; exact ⟨fun _ => rfl, fun n e0 h => by simp at h⟩
 | cons x r ih =>
  intro i hx
  obtain ⟨c, d', hc⟩ := hx x (.head _)
  obtain ⟨h1, h2⟩ := ih (i + 1) fun y hy => hx y (.tail _ hy)
  have hne : ∀ (b' : Bool), ((a == c && b == d') = b') → x.key ≠ .agg #[.int .i64 a, .int .i64 b] → b' = false := fun b' hb hn => by
   cases b' with
   | false => rfl
   | true =>
    simp only [Bool.and_eq_true, beq_iff_eq] at hb
    exact absurd (by rw [hc, hb.1, hb.2]) hn
  refine ⟨fun hn => ?_, fun n e0 hn he hj => ?_⟩
  ·have hf : (a == c && b == d') = false := hne _ rfl (hn x (.head _))
   unfold Instr.findAsking
   simp only [Sem.run_bind, hc, hp.eq, hf, Result.andThen]
   exact h1 fun y hy => hn y (.tail _ hy)
  ·cases n with
   | zero =>
    simp only [List.getElem?_cons_zero, Option.some.injEq] at hn
    subst hn
    rw [he] at hc
    simp at hc
    unfold Instr.findAsking
    simp only [Sem.run_bind, he, hp.eq, Result.andThen, beq_self_eq_true, Bool.and_self]
    rfl
   | succ n =>
    have hf : (a == c && b == d') = false := hne _ rfl (hj 0 x (Nat.succ_pos n) rfl)
    unfold Instr.findAsking
    simp only [Sem.run_bind, hc, hp.eq, hf, Result.andThen]
    have := h2 n e0 (by simpa using hn) he fun j y hjn hy => hj (j + 1) y (by omega) (by simpa using hy)
    rw [show i + (n + 1) = i + 1 + n by omega]
    exact this
theorem map_find {U kt : Nat} (hkt : KT P U kt) {es : List (ByteArray × Dn U)} {ms : Array MapEntry} (hn : ms.size = es.length) {g : G} (hk : ∀ (i : Nat) (e : ByteArray × Dn U), es[i]? = some e → ∃ m : MapEntry, ms[i]? = some m ∧ KeyIs U e.1 m.key ∧ ∃ c, cells U e.2 = [c] ∧ RepF g c m.val)
  {key : ByteArray} {kv : Value} (hkv : KeyIs U key kv) (w : World) :
  (mget es key = none ∧ (Instr.findKey kt kv ms.toList).run P w = .ok none w ∧ ∀ x, mset es key x = es ++ [(key, x)]) ∨
  ∃ i v m, mget es key = some v ∧ (Instr.findKey kt kv ms.toList).run P w = .ok (some (i, m.val)) w ∧ ms[i]? = some m ∧ m.key = kv ∧ (∃ c, cells U v = [c] ∧ RepF g c m.val) ∧ ∀ x, mset es key x = es.set i (key, x) := by
 have hall : ∀ (i : Nat) (x : MapEntry), ms.toList[i]? = some x → ∃ e, es[i]? = some e ∧ KeyIs U e.1 x.key := fun i x hx => by
  have hx : ms[i]? = some x := by simpa using hx
  have hlt : i < es.length := by rw [← hn]; exact (Array.getElem?_eq_some_iff.1 hx).1
  obtain ⟨m, a1, a2, _⟩ := hk i _ (List.getElem?_eq_getElem hlt)
  rw [hx] at a1
  obtain rfl := Option.some.inj a1
  exact ⟨_, List.getElem?_eq_getElem hlt, a2⟩
 have run : ∀ {r : Option (Nat × Value)}, (∀ d, P.underlying kt = some d → MapKept.IsKey d kv → (∀ x ∈ ms.toList, MapKept.IsKey d x.key) → Instr.findNow d kv ms.toList 0 = some r) →
   (∀ a b : Int, kv = .agg #[.int .i64 a, .int .i64 b] → PairOk P kt → (∀ x ∈ ms.toList, ∃ c d : Int, x.key = .agg #[.int .i64 c, .int .i64 d]) → (Instr.findAsking kt kv ms.toList 0).run P w = .ok r w) → (Instr.findKey kt kv ms.toList).run P w = .ok r w := fun {r} f1 f2 => by
  rcases hkt with ⟨p0, p1⟩ | ⟨p0, p1⟩
  ·have ks : ∀ {x : ByteArray} {v : Value}, KeyIs U x v → v = .string x := fun hh => by
    rcases hh with ⟨_, hh⟩ | ⟨hh, _⟩
    ·exact hh
    ·rw [p0] at hh; simp at hh
   refine MapKept.run_findKey p1 (f1 _ p1 ?_ fun x hx => ?_)
   ·rw [ks hkv]; trivial
   ·obtain ⟨i, hi⟩ := List.getElem?_of_mem hx
    obtain ⟨e, _, he⟩ := hall i x hi
    rw [ks he]; trivial
  ·have ks : ∀ {x : ByteArray} {v : Value}, KeyIs U x v → ∃ a b : Int, v = .agg #[.int .i64 a, .int .i64 b] := fun hh => by
    rcases hh with ⟨hh, _⟩ | ⟨_, a, b, _, hh⟩
    ·rw [p0] at hh; simp at hh
    ·exact ⟨a, b, hh⟩
   obtain ⟨a, b, hab⟩ := ks hkv
   obtain ⟨fs, hfs⟩ := p1.st
   have hms : ∀ x ∈ ms.toList, ∃ c d : Int, x.key = .agg #[.int .i64 c, .int .i64 d] := fun x hx => by
    obtain ⟨i, hi⟩ := List.getElem?_of_mem hx
    obtain ⟨e, _, he⟩ := hall i x hi
    exact ks he
   have h3 := f2 a b hab p1 hms
   unfold Instr.findKey
   simp only [Sem.run_bind, run_underlying hfs, Result.andThen]
   cases hl : ms.toList with
   | nil =>
    rw [hl] at h3
    simp only [Instr.findNow]
    exact h3
   | cons x r' =>
    rw [hl] at h3
    have : Instr.findNow (.struct fs) kv (x :: r') 0 = none := by
     subst hab
     simp [Instr.findNow, Instr.sameNow]
    rw [this]
    exact h3
 rcases mget_at es key with ⟨h1, h2, h3⟩ | ⟨i, v, h1, h2, h3, h4⟩
 ·have hne : ∀ x ∈ ms.toList, x.key ≠ kv := fun x hx hh => by
   obtain ⟨i, hi⟩ := List.getElem?_of_mem hx
   obtain ⟨e, he1, he⟩ := hall i x hi
   exact h2 e (List.mem_of_getElem? he1) ((keyIs_iff he hkv).1 hh)
  refine .inl ⟨h1, run (fun d _ hd hks => find_none hd _ hks hne) (fun a b hab hp hms => ?_), h3⟩
  subst hab
  exact (pair_ask hp a b ms.toList 0 hms).1 hne
 ·obtain ⟨m, a1, a2, a3⟩ := hk i _ h2
  have hmk : m.key = kv := (keyIs_iff a2 hkv).2 rfl
  have hne : ∀ (j : Nat) (y : MapEntry), j < i → ms.toList[j]? = some y → y.key ≠ kv := fun j y hj hy hh => by
   obtain ⟨e, he1, he⟩ := hall j y hy
   exact h3 j e hj he1 ((keyIs_iff he hkv).1 hh)
  refine .inr ⟨i, v, m, h1, run (fun d _ hd hks => ?_) (fun a b hab hp hms => ?_), a1, hmk, a3, h4⟩
  ·have := find_first hd ms.toList 0 i (e0 := m) hks (by simpa using a1) hmk hne
   simpa using this
  ·subst hab
   have := (pair_ask (w := w) hp a b ms.toList 0 hms).2 i m (by simpa using a1) hmk hne
   simpa using this
theorem zero_run {el : Nat} {i : TypeInfo} {v : Value} (hi : P.info? el = some i) (hz : i.zero = some v) (w : World) : (zeroValue el).run P w = .ok v w := by
 simp [zeroValue, typeInfo, hi, hz, Result.andThen]
theorem lookup_ran {F : Fx} (hT : TabOk P F.T) {t m T : Nat} {x k : Operand} {ok : Bool} {S' : St} (ht : t < nt) (h : Rel d nt e S g a w) (ho : opLookup F t T x k ok S = some S') {o : Oper} (hop : o.op = .lookup T x k ok) :
  Ran d nt e m S' g a w t ((execOp a.eval o).run P w) := by
 unfold opLookup at ho
 split at ho
 case h_2 => simp at ho
 rename_i el kb hK
 split at ho
 case h_2 => simp at ho
 rename_i s U es hm
 split at ho
 case h_2 => simp at ho
 rename_i key z hkey hz
 split at ho
 case h_2 => simp at ho
 rename_i y hy
 split at ho
 case h_2 => simp at ho
 rename_i c hc
 cases hU : (Nat.beq U el && isP kb U) with
 | false => simp [hU] at ho
 | true =>
  simp only [hU, cond_true, Option.some.injEq] at ho
  simp only [Bool.and_eq_true] at hU
  obtain ⟨hU, hkb⟩ := hU
  have := Nat.eq_of_beq_eq_true hU
  subst this
  obtain ⟨hs, hv⟩ := mapAt_rep h hm
  obtain ⟨r, ms, ck, h1, h2, h3, h4, h5⟩ := src_keyM h hs hv
  obtain ⟨kt, zv, inf, k1, k2, k3, k4, k5⟩ := mapT_ok hT hK hkb
  have hkv := mkey_rep h hkey hkb
  generalize hkx : a.eval k = kv at hkv
  have hck : ∀ b, (Instr.checkKey b 10000 kt kv).run P w = .ok () w := fun b => k2.ck hkv b w
  have fin : ∀ u f, (Instr.lookup T (.map (some r)) kv ok).run P w = .ok (bif ok then .tuple #[u, .bool f] else u) w → RepF g c u → f = (mget es key).isSome → Ran d nt e m S' g a w t ((execOp a.eval o).run P w) := by
   intro u f hrun hrep hf
   have hx : (execOp a.eval o).run P w = .ok (.value (bif ok then .tuple #[u, .bool f] else u)) w := by simp [execOp, hop, h1, hkx, hrun, Result.andThen]
   rw [← ho]
   refine ran_val h ht hx ?_
   have hpl : c.plain = true := by
    have := hT.enc.plain U ((mget es key).getD y)
    rw [hc] at this
    simpa using this
   cases ok with
   | false => exact (plain_T hpl hrep _)
   | true =>
    refine ⟨#[u, .bool f], rfl, rfl, fun i p hi => ?_⟩
    cases i with
    | zero =>
     simp only [cond_true, List.getElem?_cons_zero, Option.some.injEq] at hi
     subst hi
     have : RepV g w (Key.tm d t (offs [c, PV.b (mget es key).isSome] 0 + 0)) c u := (plain_V hpl).2 hrep
     refine ⟨u, rfl, ?_⟩
     cases c <;> first | exact this | simp [PV.plain] at hpl
    | succ i =>
     cases i with
     | zero =>
      simp only [List.getElem?_cons_succ, List.getElem?_cons_zero, Option.some.injEq] at hi
      subst hi
      exact ⟨.bool f, rfl, by rw [hf]; exact .b _⟩
     | succ i => simp at hi
  rcases map_find k2 h4 h5 hkv w with ⟨q1, q2, _⟩ | ⟨i, v0, m0, q1, q2, q3, q4, ⟨c', q5, q6⟩, _⟩
  ·obtain ⟨inf', zv', z1, z2, z3, z4, z5, z6, z7, z8⟩ := hT.zr U z hz
   rw [k3] at z1
   obtain rfl := Option.some.inj z1
   rw [k4] at z2
   obtain rfl := Option.some.inj z2
   refine fin zv false ?_ ?_ (by rw [q1]; rfl)
   ·cases ok <;> simp [Instr.lookup, run_underlying k1, MapKept.run_getObj_map h3, hck, q2, zero_run k3 k4, Result.andThen]
   ·have := (hT.enc.mkE U z y hy).2 g zv.cells 0 (z6 g)
    rw [q1] at hc
    rw [Option.getD_none] at hc
    rw [hc] at this
    obtain ⟨u, b1, b2⟩ := this 0 c rfl
    rw [k5] at b1
    simp at b1
    subst b1
    exact b2
  ·refine fin m0.val true ?_ ?_ (by rw [q1]; rfl)
   ·cases ok <;> simp [Instr.lookup, run_underlying k1, MapKept.run_getObj_map h3, hck, q2, Result.andThen]
   ·rw [q1, Option.getD_some, q5] at hc
    simp only [List.cons.injEq, and_true] at hc
    rw [← hc]; exact q6
theorem mapUpdate_ran {F : Fx} (hT : TabOk P F.T) {T : Nat} {x k v : Operand} {S' : St} (h : Rel d nt e S g a w) (ho : opMapUpdate F T x k v S = some S') {o : Oper} (hop : o.op = .mapUpdate T x k v) :
  RanS d nt e S.mm.length S' g a w ((execOp a.eval o).run P w) := by
 unfold opMapUpdate at ho
 split at ho
 case h_2 => simp at ho
 rename_i el kb hK
 split at ho
 case h_2 => simp at ho
 rename_i s U es hm
 split at ho
 case h_2 => simp at ho
 rename_i key p hkey hp
 cases hU : (Nat.beq U el && isP kb U && (p.plain && Nat.beq (F.T.cz el) 1)) with
 | false => simp [hU] at ho
 | true =>
  simp only [hU, cond_true] at ho
  simp only [Bool.and_eq_true] at hU
  obtain ⟨⟨hU, hkb⟩, hpl, hcz⟩ := hU
  have := Nat.eq_of_beq_eq_true hU
  subst this
  split at ho
  case h_2 => simp at ho
  rename_i y hy
  simp only [Option.some.injEq] at ho
  subst ho
  obtain ⟨hs, hv⟩ := mapAt_rep h hm
  obtain ⟨r, ms, ck, h1, h2, h3, h4, h5⟩ := src_keyM h hs hv
  obtain ⟨kt, zv, inf, k1, k2, k3, k4, k5⟩ := mapT_ok hT hK hkb
  have hkv := mkey_rep h hkey hkb
  generalize hkx : a.eval k = kv at hkv
  have hck : ∀ b, (Instr.checkKey b 10000 kt kv).run P w = .ok () w := fun b => k2.ck hkv b w
  have hrep : RepF g p (a.eval v) := by
   have := opv_dup h hp (by cases p <;> first | rfl | (rename_i b _; cases b <;> first | rfl | simp [PV.plain] at hpl) | simp [PV.plain] at hpl) (fun _ => .obj)
   cases p <;> first | exact this | (rename_i b _; cases b <;> first | exact this | simp [PV.plain] at hpl) | simp [PV.plain] at hpl
  obtain ⟨hl, hmk⟩ := hT.enc.mkE U [p] y hy
  have hcell : ∃ c, cells U y = [c] ∧ RepF g c (a.eval v) := by
   have hlen := hT.enc.len U y
   rw [← hl] at hlen
   have h6 := hmk g #[a.eval v] 0 fun j c hj => by
    cases j with
    | zero => simp only [List.getElem?_cons_zero, Option.some.injEq] at hj; subst hj; exact ⟨_, rfl, hrep⟩
    | succ j => simp at hj
   cases hcs : cells U y with
   | nil => rw [hcs] at hlen; simp at hlen
   | cons c cs =>
    cases cs with
    | nil =>
     rw [hcs] at h6
     obtain ⟨u, b1, b2⟩ := h6 0 c rfl
     simp at b1
     subst b1
     exact ⟨c, rfl, b2⟩
    | cons c' cs => rw [hcs] at hlen; simp at hlen
  have hs0 : S.noR.at_ s = some (.mp U es) := by cases s with
   | var u => exact hs
   | vo i => exact hs
   | cell b o => cases b <;> exact hs
  have fin : ∀ (w' : World) (es' : List (ByteArray × Dn U)) (ms' : Array MapEntry) (ck' : Nat), (Instr.mapUpdate T (.map (some r)) kv (a.eval v)).run P w = .ok () w' → w' = { w with heap := w.heap.setIfInBounds r (.map ms' ck') } → mset es key y = es' → ms'.size = es'.length →
    (∀ (i : Nat) (e : ByteArray × Dn U), es'[i]? = some e → ∃ m : MapEntry, ms'[i]? = some m ∧ KeyIs U e.1 m.key ∧ ∃ c, cells U e.2 = [c] ∧ RepF g c m.val) → RanS d nt e S.mm.length (S.noR.setAt s (.mp U (mset es key y))) g a w ((execOp a.eval o).run P w) := by
   intro w' es' ms' ck' hrun hw hes hn hm'
   rw [hes]
   subst hw
   have hh := MapKept.heap_set (w := w) (o' := .map ms' ck') h3
   have hv0 : hdr g a w s = some (.map (some r)) := by rw [hv, h1]
   obtain ⟨j1, j2⟩ := h.noR.mapTo (w' := { w with heap := w.heap.setIfInBounds r (.map ms' ck') }) rfl hs0 hv0 (fun k hk => hh.2 k hk) (by simp) ⟨rfl, rfl, rfl⟩ ⟨r, ms', ck', rfl, h2, hh.1, hn, hm'⟩
   refine ⟨g, _, ?_, j1, j2⟩
   simp [execOp, hop, h1, hkx, hrun, Result.andThen]
  have hlt : r < w.heap.size := (Array.getElem?_eq_some_iff.1 h3).1
  rcases map_find k2 h4 h5 hkv w with ⟨q1, q2, q3⟩ | ⟨i, v0, m0, q1, q2, q3, q4, _, q7⟩
  ·refine fin _ (es ++ [(key, y)]) (ms.push { key := kv, val := a.eval v, born := ck }) (ck + 1) ?_ rfl (q3 y) (by simp [h4]) fun i e0 hi => ?_
   ·simp [Instr.mapUpdate, run_underlying k1, MapKept.run_getObj_map h3, hck, q2, MapKept.run_setObj_map _ h3, Result.andThen]
   ·by_cases hie : i < es.length
    ·rw [List.getElem?_append_left hie] at hi
     obtain ⟨q, b1, b2, b3⟩ := h5 i e0 hi
     exact ⟨q, by rw [Array.getElem?_push, if_neg (by omega)]; exact b1, b2, b3⟩
    ·rw [List.getElem?_append_right (by omega)] at hi
     have hi0 : i - es.length = 0 := by
      have := (List.getElem?_eq_some_iff.1 hi).1
      simp at this; omega
     rw [hi0] at hi
     simp only [List.getElem?_cons_zero, Option.some.injEq] at hi
     subst hi
     have : i = ms.size := by omega
     exact ⟨_, by rw [Array.getElem?_push, if_pos this], hkv, hcell⟩
  ·refine fin _ (es.set i (key, y)) (ms.modify i fun e => { e with key := kv, val := a.eval v }) ck ?_ rfl (q7 y) (by simp [h4]) fun j e0 hj => ?_
   ·simp [Instr.mapUpdate, run_underlying k1, MapKept.run_getObj_map h3, hck, q2, q3, q4, hkv.stays, MapKept.run_setObj_map _ h3, Result.andThen]
   ·rw [List.getElem?_set] at hj
    by_cases hij : i = j
    ·subst hij
     rw [if_pos rfl] at hj
     split at hj
     ·simp only [Option.some.injEq] at hj
      subst hj
      exact ⟨{ m0 with key := kv, val := a.eval v }, by rw [Array.getElem?_modify, if_pos rfl, q3]; rfl, hkv, hcell⟩
     ·simp at hj
    ·rw [if_neg hij] at hj
     obtain ⟨q, b1, b2, b3⟩ := h5 j e0 hj
     exact ⟨q, by rw [Array.getElem?_modify, if_neg hij]; exact b1, b2, b3⟩
end
end
section
section
variable [Enc] {d nt : Nat} {e : Option Nat} {S : St} {g g' : G} {a : Act} {w w' : World} {P : Program}
theorem makeSlice_ran {F : Fx} (hT : TabOk P F.T) {t m T : Nat} {x y : Operand} {S' : St} (ht : t < nt) (h : Rel d nt e S g a w) (ho : opMakeSlice F t T x y S = some (true, S')) {o : Oper} (hop : o.op = .makeSlice T x y) :
  Ran d nt e m S' g a w t ((execOp a.eval o).run P w) := by
 unfold opMakeSlice at ho
 split at ho
 ·rename_i el n c hK hn hc
  split at ho
  ·rename_i z hz
   split at ho
   ·rename_i el0 hy
    simp only [Option.some.injEq, Prod.mk.injEq, Bool.and_eq_true, decide_eq_true_eq, beq_iff_eq, room] at ho
    obtain ⟨⟨⟨h1, h2⟩, h3⟩, rfl⟩ := ho
    subst h2
    obtain ⟨s1, s2, s3, i, zv, s4, s5, s6, s7, s8, s9⟩ := hT.slice _ _ hK
    obtain ⟨i', v, q1, q2, q3, q4, q5, q6, q7, q8⟩ := hT.zr _ _ hz
    rw [s4] at q1
    simp only [Option.some.injEq] at q1
    subst q1
    rw [s8] at q2
    simp only [Option.some.injEq] at q2
    subst q2
    obtain ⟨m1, m2⟩ := hT.enc.mkE _ _ _ hy
    obtain ⟨k1, hk1⟩ := int?_eval h hn
    obtain ⟨k2, hk2⟩ := int?_eval h hc
    have hnn : (n.toNat : Int) = n := Int.toNat_of_nonneg h1
    have hlen : n.toNat ≤ 140737488355328 := by
     have := Nat.le_mul_of_pos_right n.toNat (show 0 < F.T.by_ el by omega)
     omega
    obtain ⟨w', r1, r2, r3⟩ := run_make_full (P := P) w 0 T el i zv (sz el) s1 s4 s8 s5 k1 k2 n.toNat (by rw [s6, Nat.mul_comm]; omega) (by unfold maxLen; omega) (Nat.zero_le _)
    rw [hnn] at r1
    have hk : Keep (fun _ _ => False) g w (g.new w.heap.size (.tm d t 0)) w' := by
     refine ⟨⟨fun _ _ h => h, Nat.le_refl _, fun _ _ => rfl, fun _ _ _ => rfl, rfl, fun _ _ => rfl⟩, rfl, fun b k hb _ => ?_⟩
     have hlt := h.wf.own b k hb
     have hne : b ≠ w.heap.size := by omega
     exact ⟨by simp only [G.new, if_neg hne]; exact hb, r3.block b hlt (by simp)⟩
    have hsz : w.heap.size < w'.heap.size := by
     rcases r2.2 with ⟨hh, _⟩ | ⟨b, cap, cur, hh, _, h5, _⟩
     ·simp at hh
     ·simp only [Value.slice.injEq, Option.some.injEq, Addr.mk.injEq, and_true] at hh
      obtain ⟨rfl, _, _⟩ := hh
      exact (Array.getElem?_eq_some_iff.1 h5).1
    have hwf : WF (g.new w.heap.size (.tm d t 0)) w' := by
     refine ⟨gl_mono (g := g) (g' := g.new w.heap.size (.tm d t 0)) ⟨fun _ _ h => h, Nat.le_refl _, fun _ _ => rfl, fun _ _ _ => rfl, rfl, fun _ _ => rfl⟩ h.wf.gl, fun b k hb => ?_, fun b C hf => ?_, fun b b' j hb => ?_, fun i hi => ?_, h.wf.inj, fun i hi => by
      obtain ⟨k0, k1⟩ := h.wf.oe_row (RowTy.of_same fun k hk => r3.block k hk (by simp)) i hi
      have hne : g.oa i ≠ w.heap.size := by have := h.wf.ol i hi; omega
      exact ⟨by simp only [G.new, if_neg hne]; exact k0, k1⟩⟩
     ·simp only [G.new] at hb
      split at hb
      ·rename_i hh; omega
      ·have := h.wf.own b k hb; omega
     ·obtain ⟨h1, h2⟩ := h.wf.fz b C hf
      have hlt := (Array.getElem?_eq_some_iff.1 h2).1
      have hne : b ≠ w.heap.size := by omega
      exact ⟨by simp only [G.new, if_neg hne]; exact h1, by rw [r3.block b hlt (by simp)]; exact h2⟩
     ·simp only [G.new] at hb
      split at hb
      ·simp at hb
      ·have := h.wf.ob b b' j hb; omega
     ·have := h.wf.ol i hi; simp only [G.new]; omega
    have h1 : Rel d nt e S (g.new w.heap.size (.tm d t 0)) a w' := h.keep hk (fun _ => rfl) (fun _ _ hx => hx.elim) (.inr fun b k hb hc => by
     have := hk.own b k hb id
     exact ⟨this.2, k, this.1, hc⟩) hwf
    have hrun : (execOp a.eval o).run P w = .ok (.value (.slice (some ⟨w.heap.size, 0, none⟩) n.toNat n.toNat)) w' := by simp [execOp, hop, hk1, hk2, r1]
    refine ⟨_, _, w', hrun, h1.setT ht (show RepO _ _ _ el _ _ from ⟨_, by rw [List.length_replicate]; exact r2, fun b hb => ?_, fun k x hk' j c hj => ?_⟩), ⟨hk.gr, fun b k hb _ => hk.own b k hb id, r3.size, fun i h1 h2 => by simp only [G.new] at h2; omega, ⟨r3.os, r3.tape, r3.output⟩⟩⟩
    ·simp only [Value.ownBlock, Option.some.injEq] at hb; subst hb; simp [G.new]
    ·rw [List.getElem?_replicate] at hk'
     split at hk'
     ·rename_i hkn
      simp only [Option.some.injEq] at hk'
      subst hk'
      obtain ⟨u, h9, h10⟩ := m2 (g.new w.heap.size (.tm d t 0)) zv.cells 0 (q6 _) j c hj
      have hj' : j < sz el := by have := (List.getElem?_eq_some_iff.1 hj).1; rw [hT.enc.len] at this; exact this
      refine ⟨u, ?_, h10⟩
      have := zeros_get (z := zv.cells) (n := n.toNat * sz el) (k := k) (j := j) (by omega) (by omega) (by
       rw [s9]
       have := Nat.mul_le_mul_right (sz el) (show k + 1 ≤ n.toNat by omega)
       rw [Nat.add_mul, Nat.one_mul] at this; omega)
      rw [s9] at this
      rw [Array.toArray_toList]
      show ((Array.range (n.toNat * sz el)).map (zv.cells[· % zv.cells.size]!))[k * sz el + j]? = some u
      rw [s9, this]
      simpa using h9
     ·simp at hk'
   ·simp at ho
  ·simp at ho
 ·simp at ho
theorem offs_set : ∀ (vs : List PV) (i : Nat) {p q : PV}, vs[i]? = some p → q.ks.length = p.ks.length → ∀ k, offs (vs.set i q) k = offs vs k := by
 intro vs
 induction vs with
 | nil => intro i p q hi; simp at hi
 | cons x r ih =>
  intro i p q hi hq k
  cases i with
  | zero =>
   simp only [List.getElem?_cons_zero, Option.some.injEq] at hi
   subst hi
   cases k with
   | zero => rfl
   | succ k => simp only [List.set_cons_zero, offs, hq]
  | succ i =>
   simp only [List.getElem?_cons_succ] at hi
   cases k with
   | zero => rfl
   | succ k => simp only [List.set_cons_succ, offs, ih i hi hq k]
theorem field_ran {F : Fx} (hT : TabOk P F.T) {t m ty f : Nat} {x : Operand} {S' : St} (ht : t < nt) (h : Rel d nt e S g a w) (ho : opField F t ty x f S = some S') {o : Oper} (hop : o.op = .field ty x f) :
  Ran d nt e m S' g a w t ((execOp a.eval o).run P w) := by
 unfold opField at ho
 split at ho
 ·rename_i of n U u hoff hft
  split at ho
  ·rename_i cs hx
   split at ho
   ·rename_i c hc hk
    cases hp : c.plain with
    | false => simp [hp] at ho
    | true =>
     simp only [hp, cond_true, Option.some.injEq] at ho
     subst ho
     obtain ⟨hu, A, hA, hs, hr⟩ := h.tm u _ hx
     have hA' : a.eval (.tmp u) = .agg A := hA
     obtain ⟨v, h1, h2⟩ := hr _ _ hc
     obtain ⟨fs, fd, i, q1, q2, q3, q4, q5, q6⟩ := hT.off _ _ _ _ hoff
     obtain ⟨fs', fd', q7, q8, q9⟩ := hT.ft _ _ _ hft
     rw [q1] at q7
     simp only [Option.some.injEq, TypeDesc.struct.injEq] at q7
     subst q7
     rw [q2] at q8
     obtain rfl := Option.some.inj q8
     have hag : (isAgg fd.type).run P w = .ok false w := by rw [q9]; exact isAgg_false hT hk
     have hrun : (execOp a.eval o).run P w = .ok (.value v) w := by
      simp [execOp, hop, hA', Instr.field, sem_underlying q1, q2, asAgg, Go.part, hag, q3, h1, Result.andThen]
     exact ran_val h ht hrun (plain_T hp ((plain_key hp).1 h2) _)
   ·simp at ho
  ·simp at ho
 ·simp at ho
theorem extract_ran {t m i : Nat} {x : Operand} {S' : St} (ht : t < nt) (h : Rel d nt e S g a w) (ho : opExtract t x i S = some S') {o : Oper} (hop : o.op = .extract x i) :
  Ran d nt e m S' g a w t ((execOp a.eval o).run P w) := by
 unfold opExtract at ho
 split at ho
 ·rename_i vs u hx
  obtain ⟨hu, A, hA, hs, hr⟩ := h.tm u _ hx
  have hA' : a.eval (.tmp u) = .tuple A := hA
  split at ho
  ·rename_i p hp
   obtain ⟨v, h1, h2⟩ := hr i p hp
   have hrun : (execOp a.eval o).run P w = .ok (.value v) w := by
    simp [execOp, hop, hA', Instr.extract, h1]
   cases hd : p.dup with
   | true =>
    simp only [hd, cond_true, Option.some.injEq] at ho
    subst ho
    refine ran_val h ht hrun ?_
    cases p with
    | tup _ => simp [PV.dup, PV.plain] at hd
    | st cs =>
     obtain ⟨B, h3, h4, h5⟩ := h2
     refine ⟨B, h3, h4, fun j c hj => ?_⟩
     obtain ⟨z, h6, h7⟩ := h5 j c hj
     exact ⟨z, by simpa using h6, (plain_key (all_plain hd hj)).2 ((plain_key (all_plain hd hj)).1 h7)⟩
    | gone => trivial
    | _ => exact dup_V (g := g) (v := v) (w := w) (κ := Key.tm d u (offs vs i + 0)) (κ' := Key.tm d t 0) hd h2
   | false =>
    simp only [hd, cond_false] at ho
    cases hg0 : (p.okE && !Nat.beq u t) with
    | false => simp [hg0] at ho
    | true =>
     simp only [hg0, cond_true, Option.some.injEq] at ho
     simp only [Bool.and_eq_true, Bool.not_eq_true'] at hg0
     obtain ⟨hE, hut⟩ := hg0
     have hut : u ≠ t := beq_false hut
     subst ho
     have hks : p.goneAs.ks.length = p.ks.length := by cases p <;> simp [PV.goneAs, PV.ks]
     have hgk : ∀ (j : Nat) (c : PV), p.goneAs.ks[j]? = some c → c = .gone := by
      intro j c hj
      cases p with
      | st cs =>
       simp only [PV.goneAs, PV.ks, List.getElem?_map, Option.map_eq_some_iff] at hj
       obtain ⟨_, _, rfl⟩ := hj
       rfl
      | _ =>
       cases j with
       | zero => simp only [PV.goneAs, PV.ks, List.getElem?_cons_zero, Option.some.injEq] at hj; exact hj.symm
       | succ j => simp [PV.goneAs, PV.ks] at hj
     have hof : ∀ k, offs (vs.set i p.goneAs) k = offs vs k := offs_set vs i hp hks
     have hi := (List.getElem?_eq_some_iff.1 hp).1
     have hset : (vs.set i p.goneAs)[i]? = some p.goneAs := by rw [List.getElem?_set_self hi]
     have hg : Rel d nt e (S.setT u (.tup (vs.set i p.goneAs))) g a w := h.setT' hu rfl rfl (fun _ _ => rfl) ⟨A, hA, by rw [List.length_set]; exact hs, fun j q hj => by
      rw [hof]
      rw [List.getElem?_set] at hj
      split at hj
      ·rename_i hij
       subst hij
       simp only [hi, if_true, Option.some.injEq] at hj
       subst hj
       refine ⟨v, h1, ?_⟩
       cases p with
       | st cs =>
        obtain ⟨B, h3, h4, h5⟩ := h2
        refine ⟨B, h3, by simpa using h4, fun j c hj => ?_⟩
        simp only [List.getElem?_map, Option.map_eq_some_iff] at hj
        obtain ⟨c0, hj, rfl⟩ := hj
        obtain ⟨z, h6, _⟩ := h5 j c0 hj
        exact ⟨z, h6, trivial⟩
       | _ => trivial
      ·exact hr j q hj⟩
     obtain ⟨hus, hback⟩ := repE_split h2
     obtain ⟨g', h3, h4, h5, h6, h7, h8, h9⟩ := hg.moveCells (m := m) p.ks (usE p v) (fun j => .tm d u (offs vs i + j)) (fun j => .tm d t j) (fun _ => Nat.le_refl d) (fun _ => Nat.le_refl d)
      (fun j hj => ⟨fun t' p' j' hk hl => by
       simp only [Key.tm.injEq, true_and] at hk
       obtain ⟨rfl, rfl⟩ := hk
       have hl : lk ((u, PV.tup (vs.set i p.goneAs)) :: S.tm) u = some p' := hl
       rw [lk_cons, if_pos rfl] at hl
       simp only [Option.some.injEq] at hl
       subst hl
       obtain ⟨c, hc⟩ : ∃ c, p.goneAs.ks[j]? = some c := ⟨_, List.getElem?_eq_getElem (by rw [hks]; exact hj)⟩
       have h10 := keys_at _ i hset hc
       rw [hof] at h10
       have h11 := hgk j c hc
       simp only [olT, PV.keys, h10, h11]
       rfl, fun _ _ _ _ hk => by simp at hk, fun _ _ _ _ hk => by simp at hk, fun _ _ hk => by simp at hk⟩)
      (fun x y hxy => by simp only [Key.tm.injEq, true_and] at hxy; omega) (fun x y hxy => by simp only [Key.tm.injEq, true_and] at hxy; exact hut hxy.1) hus
     refine ⟨g', v, w, hrun, h3.setT ht ?_, h4⟩
     have h10 := hback g' w (Key.tm d t) h9.gr (.inr h7) h8
     cases p with
     | tup _ => simp [PV.okE] at hE
     | _ => exact h10
  ·simp at ho
 ·simp at ho
theorem ifc_ran {F : Fx} (hT : TabOk P F.T) {t m ty yt : Nat} {op : BinOp} {x y : Operand} {b : Bool} {r : PV} (ht : t < nt) (h : Rel d nt e S g a w) (hc : nilC y = true) (hx : S.opv x = some (.ifc b)) (hK : F.T.K ty = .iface)
  (ho : eqOp op b = some (true, r)) {o : Oper} (hop : o.op = .binOp op ty x y yt) : RanQ d nt e m (S.setT t r) g a w t ((execOp a.eval o).run P w) := by
 have hy : y = .const .nilIface := by
  unfold nilC at hc
  split at hc
  ·rfl
  ·simp at hc
 subst hy
 obtain ⟨ms, hms⟩ := hT.iface _ hK
 have hv := opv_dup h hx rfl (fun _ => .obj)
 have hg : ∀ v, (eqGuard op ty x (.const .nilIface) v .nilIface).run P w = .ok () w := by
  intro v
  unfold eqGuard
  cases op <;> first | rfl | (cases v <;> simp)
 have heq : (Op.equal ty (a.eval x) .nilIface).run P w = .ok b w := by
  show (Op.equalIn (9999 + 1) ty _ _).run P w = _
  unfold Op.equalIn
  rw [Sem.run_bind, sem_underlying hms]
  generalize a.eval x = v at hv ⊢
  cases hv <;> rfl
 have hr : ∃ v, (execOp a.eval o).run P w = .ok (.value v) w ∧ RepF g r v ∧ r.plain = true := by
  have hev : a.eval (.const .nilIface) = .nilIface := rfl
  cases op <;> simp only [eqOp, Option.some.injEq, Prod.mk.injEq, true_and, reduceCtorEq] at ho
  ·subst ho
   refine ⟨.bool b, ?_, .b _, rfl⟩
   have : (binOp .eql ty (a.eval x) .nilIface).run P w = .ok (.bool b) w := by
    generalize a.eval x = v at hv heq ⊢
    cases hv <;> simp [binOp, heq]
   simp [execOp, hop, hev, hg, this]
  ·subst ho
   refine ⟨.bool (!b), ?_, .b _, rfl⟩
   have : (binOp .neq ty (a.eval x) .nilIface).run P w = .ok (.bool (!b)) w := by
    generalize a.eval x = v at hv heq ⊢
    cases hv <;> simp [binOp, heq]
   simp [execOp, hop, hev, hg, this]
 obtain ⟨v, h1, h2, h3⟩ := hr
 exact ran_valQ h ht h1 (plain_T h3 h2 _)
theorem strOfBytes_foldl (ns : List Int) : ns.foldl (fun r n => r.push (UInt8.ofNat n.toNat)) ByteArray.empty = strOfBytes ns := by
 have key : ∀ (ns : List Int) (s : ByteArray), (ns.foldl (fun r n => r.push (UInt8.ofNat n.toNat)) s).data.toList = s.data.toList ++ ns.map fun n => UInt8.ofNat n.toNat := by
  intro ns
  induction ns with
  | nil => intro s; simp
  | cons n ns ih => intro s; simp only [List.foldl_cons, ih, List.map_cons]; simp [ByteArray.push]
 have h1 := key ns ByteArray.empty
 have h2 : ∀ a b : ByteArray, a.data.toList = b.data.toList → a = b := fun a b h => by
  cases a; cases b; simp only at h; congr 1; exact Array.ext' h
 exact h2 _ _ (by rw [h1]; simp [strOfBytes])
theorem bytes_ran {F : Fx} (hT : TabOk P F.T) {t m src dst : Nat} {x : Operand} {S' : St} (ht : t < nt) (h : Rel d nt e S g a w) (ho : opBytes F t src dst x S = some S') {o : Oper} (hop : o.op = .convert src dst x) :
  Ran d nt e m S' g a w t ((execOp a.eval o).run P w) := by
 unfold opBytes at ho
 split at ho
 case h_2 => simp at ho
 rename_i el hs hd
 split at ho
 case h_2 => simp at ho
 rename_i f ys hel hu hseen
 simp only [Option.some.injEq] at ho
 subst ho
 obtain ⟨h1, h2⟩ := hT.enc.u8 el f hu
 have hconv : ∀ (q : Option Addr) (l c : Nat), (execOp a.eval o).run P w = ((convert src dst (a.eval x)).run P w).andThen fun v w => .ok (.value v) w := fun _ _ _ => by simp [execOp, hop]
 rcases seen_rep h hseen with ⟨rfl, h3⟩ | ⟨A, off, cap, C, E, fr, h3, h4, h5⟩
 ·refine ran_val h ht (v := .string .empty) ?_ (.s _)
  rw [hconv none 0 0, h3, run_convert_bytes_string w src dst el none 0 0 (hT.slice _ _ hs).1 (hT.int _ _ hel) (hT.str _ hd)]
  rfl
 ·refine ran_val h ht (v := .string (strOfBytes (ys.map f))) ?_ (.s _)
  rw [hconv none 0 0, h3, run_convert_bytes_string w src dst el _ _ _ (hT.slice _ _ hs).1 (hT.int _ _ hel) (hT.str _ hd)]
  have hl := run_loadCells_list (P := P) w A ((ys.map f).map (Value.int .u8)) (fun j v hj => by
   simp only [List.getElem?_map, Option.map_eq_some_iff] at hj
   obtain ⟨_, ⟨y, hy, rfl⟩, rfl⟩ := hj
   obtain ⟨hA, hh⟩ := h4 fun hh => by subst hh; simp at hy
   rw [hA, cell_at hh]
   obtain ⟨u, h6, h7⟩ := h5 j y hy 0 (.i .u8 (f y)) (by rw [h2]; rfl)
   rw [h1, Nat.mul_one, Nat.add_zero] at h6
   cases h7
   exact h6)
  rw [run_bytesToString w A ys.length cap (ys.map f) (by simpa using hl), strOfBytes_foldl]
  rfl
theorem opFrz_ran {t m : Nat} {x : Operand} {S' : St} (ht : t < nt) (h : Rel d nt e S g a w) (ho : opFrz t x S = some S') {r : Result Next} (hr : r = .ok (.value (a.eval x)) w) : RanQ d nt e m S' g a w t r := by
 unfold opFrz at ho
 split at ho
 ·rename_i p hx
  cases hd : p.dup with
  | true =>
   simp only [hd, cond_true, Option.some.injEq] at ho
   subst ho
   exact ran_valQ h ht hr (opv_dup h hx hd _)
  | false =>
   simp only [hd, cond_false] at ho
   split at ho
   ·rename_i u
    cases hk : p.okZ with
    | false => simp [hk] at ho
    | true =>
     simp only [hk, cond_true, Option.some.injEq] at ho
     subst ho
     obtain ⟨g', h1, h2, _⟩ := frzO_rep (m := m) h (.tmp u)
     have hl : lk S.tm u = some p := hx
     have he : frzO S (.tmp u) = S.noR.setT u p.frz := by simp only [frzO, hl, hd, hk, Bool.not_true, Bool.or_self, cond_false]
     have hl' : lk (frzO S (.tmp u)).tm u = some p.frz := by rw [he]; show lk ((u, p.frz) :: S.noR.tm) u = _; rw [lk_cons, if_pos rfl]
     obtain ⟨_, h3⟩ := h1.tm u _ hl'
     have hdup : p.frz.dup = true := by
      cases p with
      | ol T xs => rfl
      | st cs =>
       simp only [PV.frz, PV.dup, List.all_map, List.all_eq_true]
       intro c hc
       exact fz_plain (List.all_eq_true.1 (show cs.all PV.okf = true from hk) c hc)
      | _ => simp_all [PV.okZ]
     exact ⟨g', _, hr, h1.setT ht (dup_T hdup h3), h2⟩
   ·simp at ho
 ·simp at ho
theorem capsOf_rep : ∀ (l : List Operand) {caps : List (Nat × Nat)}, Rel d nt e S g a w → capsOf S l = some caps → l.map a.eval = caps.map (fun x => Value.pointer (some ⟨g.oa x.1, x.2, none⟩)) ∧ ∀ x ∈ caps, x.1 < g.no := by
 intro l
 induction l with
 | nil => intro caps h hc; simp only [capsOf, Option.some.injEq] at hc; subst hc; exact ⟨rfl, fun x hx => by simp at hx⟩
 | cons o r ih =>
  intro caps h hc
  simp only [capsOf] at hc
  split at hc
  ·rename_i i off l' ho hr
   simp only [Option.some.injEq] at hc
   subst hc
   obtain ⟨h1, h2⟩ := ih h hr
   have h3 : RepF g (.ad (.obj i) off) (a.eval o) := opv_dup h ho rfl (fun _ => .obj)
   generalize hv : a.eval o = v at h3
   cases h3 with
   | ad _ _ h4 =>
    refine ⟨by rw [List.map_cons, List.map_cons, hv, h1], fun x hx => ?_⟩
    rcases List.mem_cons.1 hx with rfl | hx
    ·exact h4
    ·exact h2 x hx
  ·simp at hc
theorem stp1_ran {F : Fx} (hT : TabOk P F.T) (hF : ∀ t z, F.T.flat t = some z → FlatOk P t z) (he : F.e = e.isNone) {t : Nat} {S' : St} {o : Oper} (ht : t < nt) (h : Rel d nt e S g a w) (ho : stp1 F o.op t S = some (true, S')) :
  Ran d nt e S.mm.length S' g a w t ((execOp a.eval o).run P w) := by
 have yes_ : ∀ {X : Option St}, yes t X = some (true, S') → X = some S' := fun {X} hX => by
  cases X with
  | none => simp [yes] at hX
  | some y => simpa [yes] using hX
 unfold stp1 at ho
 split at ho
 case h_1 x hop =>
  cases hz : isFrz (F.md t) with
  | true => rw [hz] at ho; exact (opFrz_ran ht h (yes_ ho) (by simp [execOp, hop])).ran
  | false => rw [hz] at ho; exact (opMove_ran ht h (yes_ ho) hop).ran
 case h_2 x hop =>
  cases hz : isFrz (F.md t) with
  | true => rw [hz] at ho; exact (opFrz_ran ht h (yes_ ho) (by simp [execOp, hop])).ran
  | false => rw [hz] at ho; exact opAssign_ran ht h (yes_ ho) hop
 case h_3 c x y hop => exact opPick_ran ht h (yes_ ho) hop
 case h_4 T x hop => exact (load_ran hT ht h (yes_ ho) hop).ran
 case h_5 T hop => exact alloc_ran hT he ht h (yes_ ho) hop
 case h_6 T x hop => exact box_ran he ht h (yes_ ho) hop
 case h_7 T ps hop => exact build_ran hT ht h (yes_ ho) hop
 case h_8 T n ps hop => exact buildSlice_ran hT ht h (yes_ ho) hop
 case h_9 T x f hop => exact (fieldAddr_ran hT ht h (yes_ ho) hop).ran
 case h_10 T x i hop => exact (indexAddr_ran hT ht h ho hop).ran
 case h_11 T x i hop => exact index_ran hT ht h ho hop
 case h_12 T x lo hi hop => exact (sliceD_ran hT ht h ho hop).ran
 case h_13 op T x y yt hop =>
  split at ho
  ·rename_i b hc hx
   split at ho
   case h_2 => simp at ho
   rename_i hK
   simp only [Option.map_eq_some_iff, Prod.mk.injEq, Prod.exists] at ho
   obtain ⟨c, r, hb, rfl, rfl⟩ := ho
   exact (ifc_ran hT ht h hc hx hK hb hop).ran
  ·split at ho
   ·rename_i p q hx hy
    simp only [Option.map_eq_some_iff, Prod.mk.injEq, Prod.exists] at ho
    obtain ⟨c, r, hb, rfl, rfl⟩ := ho
    exact (bin_ran hT hF ht h hx hy hb hop).ran
   ·simp at ho
 case h_14 op T x hop =>
  split at ho
  ·rename_i p hx
   simp only [Option.map_eq_some_iff, Prod.mk.injEq, true_and] at ho
   obtain ⟨r, hb, rfl⟩ := ho
   exact un_ran ht h hx hb hop
  ·simp at ho
 case h_15 src dst x hop =>
  split at ho
  ·exact bytes_ran hT ht h (yes_ ho) hop
  ·exact convert_ran hT ht h (yes_ ho) hop
 case h_16 T n c hop => exact makeSlice_ran hT ht h ho hop
 case h_17 x hop =>
  split at ho
  ·simp at ho
  ·split at ho
   ·rename_i b off hx
    simp only [Option.some.injEq, Prod.mk.injEq, true_and] at ho
    subst ho
    refine ran_val h ht (v := a.eval x) ?_ (opv_dup h hx (by cases b <;> rfl) _)
    rw [eval_ad h hx]
    simp [execOp, hop, eval_ad h hx]
   ·rename_i U y off hx
    simp only [Option.some.injEq, Prod.mk.injEq, true_and] at ho
    subst ho
    obtain ⟨bk, o', C, h1, _⟩ := eval_fa h hx
    refine ran_val h ht (v := a.eval x) ?_ (opv_dup h hx rfl _)
    rw [h1]
    simp [execOp, hop, h1]
   ·rename_i U y hx
    simp only [Option.some.injEq, Prod.mk.injEq] at ho
    obtain ⟨hy, rfl⟩ := ho
    cases y with
    | none => simp at hy
    | some y =>
     have h5 : RepF g (.fp U (some y)) (a.eval x) := opv_dup h hx rfl (fun _ => .obj)
     have h6 : RepF g (.fa U y 0) (a.eval x) := by
      generalize a.eval x = v at h5
      cases h5 with
      | fpS _ _ _ h6 => exact h6
     obtain ⟨bk, o', C, h1, _⟩ := repF_fa h6
     refine ran_val h ht (v := a.eval x) ?_ h6
     rw [h1]
     simp [execOp, hop, h1]
   ·simp at ho
 case h_18 x i hop => exact extract_ran ht h (yes_ ho) hop
 case h_19 args tys hop =>
  split at ho
  ·rename_i x T ha hty
   exact (len_ran hT ht h (yes_ ho) hop ha hty).ran
  ·simp at ho
 case h_20 args tys hop =>
  split at ho
  ·rename_i s x T U ha hty
   cases hTU : Nat.beq T U with
   | false =>
    simp only [hTU, cond_false] at ho
    exact appendS_ran hT ht h ho hop ha hty
   | true =>
    simp only [hTU, cond_true] at ho
    have := Nat.eq_of_beq_eq_true hTU
    subst this
    exact append_ran hT ht h ho hop ha hty
  ·simp at ho
 case h_21 args tys hop =>
  split at ho
  ·rename_i x y T U ha hty
   cases hTU : Nat.beq T U with
   | false => simp [hTU] at ho
   | true =>
    simp only [hTU, cond_true] at ho
    have := Nat.eq_of_beq_eq_true hTU
    subst this
    exact copy_ran hT ht h (yes_ ho) rfl hop ha hty
  ·simp at ho
 case h_22 f first captured hop =>
  split at ho
  ·rename_i caps hfi hcs
   simp only [Option.some.injEq, Prod.mk.injEq, true_and] at ho
   subst ho
   obtain ⟨h1, h2⟩ := capsOf_rep captured.toList h hcs
   have hrun : (execOp a.eval o).run P w = .ok (.value (.func (.func f) #[] (caps.map fun x => Value.pointer (some ⟨g.oa x.1, x.2, none⟩)).toArray)) w := by
    have e1 : first.map a.eval = #[] := by
     have : first = #[] := by rw [← Array.toArray_toList (xs := first), hfi]
     rw [this]; simp
    have e2 : captured.map a.eval = (caps.map fun x => Value.pointer (some ⟨g.oa x.1, x.2, none⟩)).toArray := by
     rw [← h1, ← Array.toList_map, Array.toArray_toList]
    simp only [execOp, hop, Instr.makeFunc, e1, e2]
    rfl
   exact ran_val h ht hrun (.clo f caps h2)
  ·simp at ho
 case h_23 T hop => exact makeMap_ran hT ht h (yes_ ho) hop
 case h_24 T m k ok hop => exact lookup_ran hT ht h (yes_ ho) hop
 case h_25 T x f hop => exact field_ran hT ht h (yes_ ho) hop
 case h_26 => simp at ho
end
end
end Go.KM
