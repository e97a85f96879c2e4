/- Built structs, frozen temporaries, boxes. Conditions: none. -/
import Derived.Test.YtdhkmgloghlnnaaDoorKmJ
namespace Go.KM
open Go
open Fam (Dn dflt)
open Enc (cells sz mkE glob gany u8)
set_option autoImplicit false
set_option linter.unusedVariables false
set_option linter.unusedSimpArgs false
set_option linter.unusedSectionVars false
section
variable [Enc] {d nt : Nat} {e : Option Nat} {S : St} {g g' : G} {a : Act} {w w' : World} {P : Program}
theorem markO_rel (h : Rel d nt e S g a w) {T : Nat} (hT : ∀ n, S.mm.length = n + 1 → ∃ C fr, w.heap[g.oa n]? = some (.cells C T fr)) : Rel d nt e (markO T S) g a w := by
  unfold markO
  split
  · exact h
  · rename_i n hn
    split
    · rename_i r hr
      obtain ⟨C, fr, h1⟩ := hT n hn
      obtain ⟨h2, _⟩ := h.mm n _ hr
      obtain ⟨_, C2, fr2, h3⟩ := h.wf.oe n h2
      rw [h1] at h3
      simp only [Option.some.injEq, Obj.cells.injEq] at h3
      have := h.mark hr
      rw [← h3.2.1] at this
      exact this
    · exact h
theorem markO_ran {F : Fx} {t ty m : Nat} {cs : List PV} {A : Array Value} {r : Result Next} (hsz : a.tmps.size = nt) (ht : t < nt) (hb : (F.e && F.esc t) = true) (hrun : r = .ok (.value (.pointer (some ⟨w.heap.size, 0, none⟩))) (w.alloc (.cells A ty)))
    (key : Ran d nt e m (Go.KM.newVar F t cs S) g a w t r) : Ran d nt e m (markO ty (Go.KM.newVar F t cs S)) g a w t r := by
  obtain ⟨g', v', w', hr, hrel, hext⟩ := key
  rw [hrun] at hr
  simp only [Result.ok.injEq, Next.value.injEq] at hr
  obtain ⟨hr1, hr2⟩ := hr
  refine ⟨g', v', w', by rw [hrun, hr1, hr2], ?_, hext⟩
  simp only [Bool.and_eq_true] at hb
  have hnv : (Go.KM.newVar F t cs S).tm = (t, .ad (.obj S.mm.length) 0) :: S.tm ∧ (Go.KM.newVar F t cs S).mm = S.mm ++ [cs] := by
    unfold Go.KM.newVar; simp [hb.1, hb.2]
  obtain ⟨k1, k2⟩ := hrel.tm t (.ad (.obj S.mm.length) 0) (by rw [hnv.1]; simp [lk])
  have k2 : RepF g' (.ad (.obj S.mm.length) 0) _ := k2
  rw [put_get a t v' (by rw [hsz]; exact ht), ← hr1] at k2
  have hoa : g'.oa S.mm.length = w.heap.size := by
    have : ∀ {u : Value}, RepF g' (.ad (.obj S.mm.length) 0) u → u = .pointer (some ⟨g'.oa S.mm.length, 0, none⟩) := fun hu => by cases hu; rfl
    have := this k2
    simp only [Value.pointer.injEq, Option.some.injEq, Addr.mk.injEq] at this
    exact this.1.symm
  refine markO_rel hrel ?_
  rw [hnv.2]
  intro n hn
  have : n = S.mm.length := by simpa using hn.symm
  subst this
  exact ⟨_, _, by rw [hoa, ← hr2]; exact heap_alloc_new w _⟩
theorem box_ran {F : Fx} {t ty : Nat} {x : Operand} {S' : St} (hF : F.e = e.isNone) (ht : t < nt) (h : Rel d nt e S g a w) (ho : opBox F t ty x S = some S') {o : Oper} (hop : o.op = .box ty x) :
    Ran d nt e S.mm.length S' g a w t ((execOp a.eval o).run P w) := by
  unfold opBox at ho
  split at ho
  · rename_i p S1 hx
    cases hg : (Nat.beq p.cs.length (F.T.cz ty) && p.cs.all PV.okc && Nat.blt 0 (F.T.cz ty) && notT t x) with
    | false => simp only [hg, cond_false, reduceCtorEq] at ho
    | true =>
      simp only [hg, cond_true, Option.some.injEq] at ho
      subst ho
      simp only [Bool.and_eq_true] at hg
      obtain ⟨⟨⟨h1, h2⟩, h3⟩, h4⟩ := hg
      obtain ⟨κ, k1, k2, k3, k4, k5, k6, k7, k8, k9, k10⟩ := takeO_rep h hx h4
      obtain ⟨h5, h6⟩ := repT_cells k2 h2
      have hrun : (execOp a.eval o).run P w = .ok (.value (.pointer (some ⟨w.heap.size, 0, none⟩))) (w.alloc (.cells (a.eval x).cells ty)) := by
        simp [execOp, hop, Instr.box, Go.newVar, newRow]
      have key := newVar_ran (A := (a.eval x).cells) (ty := ty) hF ht k1 k3 k4 k5 k6 k7 h5 (fun j c hj => let ⟨u, h7, h8, _⟩ := h6 j c hj; ⟨u, h7, h8⟩) hrun
      have hmm : S.mm.length = S1.mm.length := by rw [k8]
      rw [hmm]
      cases hb : F.T.sf ty && (F.e && F.esc t) with
      | false => simp only [cond_false]; exact key
      | true =>
        simp only [cond_true]
        simp only [Bool.and_eq_true] at hb
        exact markO_ran h.sz ht (by simp [hb.2]) hrun key
  · simp at ho
theorem alloc_ran {F : Fx} (hT : TabOk P F.T) {t ty : Nat} {S' : St} (hF : F.e = e.isNone) (ht : t < nt) (h : Rel d nt e S g a w) (ho : opAlloc F t ty S = some S') {o : Oper} (hop : o.op = .alloc ty) :
    Ran d nt e S.mm.length S' g a w t ((execOp a.eval o).run P w) := by
  unfold opAlloc at ho
  split at ho
  · rename_i z hz
    simp only [Option.some.injEq] at ho
    subst ho
    obtain ⟨i, v, h1, h2, h3, h4, h5, h6, h7, h8⟩ := hT.zr _ _ hz
    have hrun : (execOp a.eval o).run P w = .ok (.value (.pointer (some ⟨w.heap.size, 0, none⟩))) (w.alloc (.cells v.cells ty)) := by
      simp [execOp, hop, Instr.alloc, zeroValue, typeInfo, h1, h2, Go.newVar, newRow]
    have key : Ran d nt e S.mm.length (Go.KM.newVar F t z S) g a w t ((execOp a.eval o).run P w) := by
     refine newVar_ran (A := v.cells) (ty := ty) (κ := fun j => .ar d j) hF ht h (fun _ _ _ => Nat.le_refl d) (fun g j => ⟨fun _ _ _ hk => by simp at hk, fun _ _ _ _ hk => by simp at hk, fun _ _ _ _ hk => by simp at hk, fun _ _ hk => by simp at hk⟩)
      (fun i j hij => by simpa using hij) (fun i j => by simp) (fun i b j g => by cases b <;> simp [ckey]) h4 (fun j c hj => ?_) hrun
     obtain ⟨u, h9, h10⟩ := h6 g j c hj
     exact ⟨u, by simpa using h9, (plain_key (all_plain h5 hj)).2 h10⟩
    cases hb : F.T.sf ty && (F.e && F.esc t) with
    | false => exact key
    | true =>
      simp only [Bool.and_eq_true] at hb
      exact markO_ran h.sz ht (by simp [hb.2]) hrun key
  · simp at ho
theorem fold_cells (off : Nat) : ∀ (l : List (Value × Nat)) (A : Array Value), (l.foldl (fun cs (c, j) => cs.setIfInBounds (off + j) c) A).size = A.size := by
  intro l
  induction l with
  | nil => intro A; rfl
  | cons x l ih => intro A; rw [List.foldl_cons, ih]; simp
theorem fold_get (off : Nat) : ∀ (l : List Value) (s : Nat) (A : Array Value), off + s + l.length ≤ A.size → ∀ k,
    ((l.zipIdx s).foldl (fun cs (c, j) => cs.setIfInBounds (off + j) c) A)[k]? = if off + s ≤ k ∧ k < off + s + l.length then l[k - (off + s)]? else A[k]? := by
  intro l
  induction l with
  | nil => intro s A _ k; simp; omega
  | cons v l ih =>
    intro s A hl k
    simp only [List.zipIdx_cons, List.foldl_cons, List.length_cons] at hl ⊢
    rw [ih (s + 1) _ (by simp; omega) k]
    by_cases h1 : k = off + s
    · subst h1
      have h2 : ¬ (off + (s + 1) ≤ off + s ∧ off + s < off + (s + 1) + l.length) := by omega
      have h3 : off + s ≤ off + s ∧ off + s < off + s + (l.length + 1) := by omega
      rw [if_neg h2, if_pos h3, Array.getElem?_setIfInBounds]
      have h4 : off + s < A.size := by omega
      simp [h4]
    · by_cases h2 : off + (s + 1) ≤ k ∧ k < off + (s + 1) + l.length
      · have h3 : off + s ≤ k ∧ k < off + s + (l.length + 1) := by omega
        rw [if_pos h2, if_pos h3]
        have : k - (off + s) = (k - (off + (s + 1))) + 1 := by omega
        rw [this, List.getElem?_cons_succ]
      · have h3 : ¬ (off + s ≤ k ∧ k < off + s + (l.length + 1)) := by omega
        rw [if_neg h2, if_neg h3, Array.getElem?_setIfInBounds]
        have : ¬ off + s = k := by omega
        simp [this]
theorem fill_get (off : Nat) (V A : Array Value) (h : off + V.size ≤ A.size) (k : Nat) :
    (V.zipIdx.foldl (fun cs (x : Value × Nat) => cs.setIfInBounds (off + x.2) x.1) A)[k]? = if off ≤ k ∧ k < off + V.size then V[k - off]? else A[k]? := by
  have := fold_get off V.toList 0 A (by simpa using h) k
  simp only [Nat.add_zero, Array.length_toList] at this
  rw [← Array.foldl_toList, Array.toList_zipIdx]
  simpa using this
theorem fill_size (off : Nat) (V A : Array Value) : (V.zipIdx.foldl (fun cs (x : Value × Nat) => cs.setIfInBounds (off + x.2) x.1) A).size = A.size := by
  have := fold_cells off V.zipIdx.toList A
  rw [← Array.foldl_toList]; exact this
theorem fillP_rep {F : Fx} {t T : Nat} {place : Nat → Option (Nat × Nat)} (hpl : ∀ f o n, F.T.off T f = some (o, n) → place f = some (o, n)) : ∀ (ps : List (Nat × Operand)) (cs : List PV) (S : St) (g : G) (A : Array Value) (cs' : List PV) (S' : St),
    Rel d nt e S g a w → A.size = cs.length → (∀ j c, cs[j]? = some c → ∃ u, A[j]? = some u ∧ RepC g w (.tm d t j) c u) → fillP F t T ps cs S = some (cs', S') →
    ∃ g' A', Instr.fill place A (ps.map fun q => (q.1, a.eval q.2)) = some A' ∧ Rel d nt e S' g' a w ∧ Ext d S.mm.length g w g' w ∧ g'.oa = g.oa ∧ g'.no = g.no ∧ A'.size = cs'.length ∧
      (∀ j c, cs'[j]? = some c → ∃ u, A'[j]? = some u ∧ RepC g' w (.tm d t j) c u) ∧ S'.mm = S.mm := by
  intro ps
  induction ps with
  | nil =>
    intro cs S g A cs' S' h hs hr ho
    simp only [fillP, Option.some.injEq, Prod.mk.injEq] at ho
    obtain ⟨rfl, rfl⟩ := ho
    exact ⟨g, A, rfl, h, .refl _ _ _ _, rfl, rfl, hs, hr, rfl⟩
  | cons q r ih =>
    intro cs S g A cs' S' h hs hr ho
    obtain ⟨f, x⟩ := q
    simp only [fillP] at ho
    split at ho
    · rename_i of n p S1 hoff hx
      cases hg : (Nat.beq p.cs.length n && p.cs.all PV.okc && Nat.ble (of + n) cs.length && notT t x && (part cs of n).all PV.plain) with
      | false => simp only [hg, cond_false, reduceCtorEq] at ho
      | true =>
        simp only [hg, cond_true] at ho
        simp only [Bool.and_eq_true] at hg
        obtain ⟨⟨⟨⟨h1, h2⟩, h3⟩, h4⟩, h5⟩ := hg
        have h1 := Nat.eq_of_beq_eq_true h1
        have h3 := Nat.le_of_ble_eq_true h3
        obtain ⟨κ, k1, k2, k3, k4, k5, k6, k7, k8, k9, k10⟩ := takeO_rep h hx h4
        obtain ⟨h6, h7⟩ := repT_cells k2 h2
        obtain ⟨g1, m1, m2, m3, m4, m5, m6, m7⟩ := k1.moveCells (m := S.mm.length) p.cs (fun j => ((a.eval x).cells[j]?).getD undef) κ (fun j => .tm d t (of + j)) (fun j => k3 _ _ j) (fun j => Nat.le_refl d) (fun j _ => k4 g j) k5 (fun i j => k6 i _) (fun j c hj => by
          obtain ⟨u, h8, h9, _⟩ := h7 j c hj
          simp only [h8, Option.getD_some]; exact h9)
        have hfit : of + (a.eval x).cells.size ≤ A.size := by rw [h6, hs, h1]; exact h3
        have hle : of + p.cs.length ≤ cs.length := by rw [h1]; exact h3
        have hrec := ih (splice cs of p.cs) S1 g1 ((a.eval x).cells.zipIdx.foldl (fun cs (x : Value × Nat) => cs.setIfInBounds (of + x.2) x.1) A) cs' S' m1 (by rw [fill_size, hs, splice_len hle]) (fun j c hj => by
          rw [splice_get hle] at hj
          rw [fill_get of _ A hfit, h6]
          by_cases hjj : of ≤ j ∧ j < of + p.cs.length
          · rw [if_pos hjj] at hj ⊢
            obtain ⟨u, h8, _⟩ := h7 _ c hj
            have h9 := m6 _ c hj
            simp only [h8, Option.getD_some] at h9
            have e1 : of + (j - of) = j := by omega
            rw [e1] at h9
            exact ⟨u, h8, h9⟩
          · rw [if_neg hjj] at hj ⊢
            obtain ⟨u, h8, h9⟩ := hr j c hj
            exact ⟨u, h8, h9.keep m7 fun _ _ _ ⟨i, hi⟩ => k6 i j hi.symm⟩) ho
        obtain ⟨g2, A', r1, r2, r3, r4, r5, r6, r7, r8⟩ := hrec
        refine ⟨g2, A', ?_, r2, m2.trans' (by rw [k8] at r3; exact r3) m3 m4, r4.trans m3, r5.trans m4, r6, r7, r8.trans k8⟩
        simp only [List.map_cons, Instr.fill, hpl f of n hoff]
        have hc1 : ¬ ((a.eval x).cells.size ≠ n ∨ of + (a.eval x).cells.size > A.size) := by
          rintro (hh | hh)
          · exact hh (h6.trans h1)
          · omega
        simp only [ne_eq, Bool.or_eq_true, decide_eq_true_eq] at hc1 ⊢
        rw [if_neg (by simpa using hc1)]
        exact r1
    · simp at ho
theorem build_ran {F : Fx} (hT : TabOk P F.T) {t T : Nat} {ps : Array (Nat × Operand)} {S' : St} (ht : t < nt) (h : Rel d nt e S g a w) (ho : opBuild F t T ps.toList S = some S') {o : Oper} (hop : o.op = .build T ps) :
    Ran d nt e S.mm.length S' g a w t ((execOp a.eval o).run P w) := by
  unfold opBuild at ho
  split at ho
  · rename_i z hz hK
    split at ho
    · rename_i cs' S1 hf
      simp only [Option.some.injEq] at ho
      subst ho
      obtain ⟨i, v, h1, h2, h3, h4, h5, h6, h7, h8⟩ := hT.zr _ _ hz
      have hK' : F.T.K T = .struct := by cases hk : F.T.K T <;> simp [hk, isAggK] at hK <;> rfl
      obtain ⟨i', fs, places, b1, b2, b3, b4⟩ := hT.bld _ _ hz hK'
      rw [h1] at b1
      simp only [Option.some.injEq] at b1
      subst b1
      obtain ⟨g1, A', r1, r2, r3, r4, r5, r6, r7, r8⟩ := fillP_rep (place := (places.toArray[·]?)) b4 ps.toList z S g v.cells cs' S1 h h4 (fun j c hj => by
        obtain ⟨u, h9, h10⟩ := h6 g j c hj
        exact ⟨u, by simpa using h9, (plain_key (all_plain h5 hj)).2 h10⟩) hf
      have hbuilt : P.built T (ps.map fun x => (x.1, a.eval x.2)).toList = some A' := by
        simp only [Program.built, h1, b2, h2, b3, Array.toList_map]
        exact r1
      refine ⟨g1, .agg A', w, ?_, r2.setT ht ⟨A', rfl, r6, r7⟩, r3⟩
      simp [execOp, hop, run_build w T _ A' hbuilt]
    · simp at ho
  · simp at ho
end
end Go.KM
