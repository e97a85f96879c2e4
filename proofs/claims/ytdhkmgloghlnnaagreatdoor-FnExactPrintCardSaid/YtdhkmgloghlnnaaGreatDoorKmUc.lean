/- Drawn regions in which a new variable may come at any time: the text's order serves every order. Conditions: none. -/
import Derived.Test.YtdhkmgloghlnnaaGreatDoorKmUb
namespace Go.KM
open Go
open Fam (Dn dflt)
open Enc (cells sz mkE glob gany u8)
set_option autoImplicit false
set_option linter.unusedVariables false
set_option linter.unusedSimpArgs false
set_option linter.unusedSectionVars false
section
variable {P : Program} {ops : Array Oper}
def Pi (P : Program) {α : Type} (m : Sem α) : Prop := ∀ w v w', m.run P w = .ok v w' → w' = w ∧ ∀ w2, m.run P w2 = .ok v w2
theorem Pi.pure {α : Type} (v : α) : Pi P (Pure.pure v : Sem α) := fun w v' w' h => by
  simp only [Sem.run_pure, Result.ok.injEq] at h
  obtain ⟨rfl, rfl⟩ := h
  exact ⟨rfl, fun _ => rfl⟩
theorem Pi.bind {α β : Type} {m : Sem α} {f : α → Sem β} (h : Pi P m) (h' : ∀ x, Pi P (f x)) : Pi P (m >>= f) := fun w v w' hr => by
  rw [Sem.run_bind] at hr
  cases hm : m.run P w with
  | halt x w1 => rw [hm] at hr; simp [Result.andThen] at hr
  | ok x w1 =>
    rw [hm] at hr
    obtain ⟨rfl, h1⟩ := h w x w1 hm
    have hr : (f x).run P w1 = .ok v w' := hr
    obtain ⟨rfl, h2⟩ := h' x _ v w' hr
    exact ⟨rfl, fun w2 => by rw [Sem.run_bind, h1 w2]; exact h2 w2⟩
theorem Pi.underlying (t : TypeId) : Pi P (underlying t) := fun w v w' h => by
  cases hu : P.underlying t with
  | none => simp [Go.underlying, hu, Result.andThen] at h
  | some d =>
    rw [run_underlying hu] at h
    simp only [Result.ok.injEq] at h
    obtain ⟨rfl, rfl⟩ := h
    exact ⟨rfl, fun w2 => run_underlying hu w2⟩
theorem Pi.typeInfo (t : TypeId) : Pi P (typeInfo t) := fun w v w' h => by
  cases hu : P.info? t with
  | none => simp [Go.typeInfo, hu, Result.andThen] at h
  | some d =>
    simp only [Go.typeInfo, Sem.run_bind, run_program, Result.andThen_ok, hu, Sem.run_pure, Result.ok.injEq] at h
    obtain ⟨rfl, rfl⟩ := h
    exact ⟨rfl, fun w2 => by simp [Go.typeInfo, hu, Result.andThen]⟩
theorem Pi.sizeOf (t : TypeId) : Pi P (sizeOf t) := by
  unfold Go.sizeOf
  exact (Pi.typeInfo t).bind fun x => .pure _
variable [Enc] {F : Fx}
def wpX (P : Program) (F : Fx) (o : Oper) (a : Act) (w : World) (K : Act → World → Prop) : Prop :=
  ∃ nx w', (execOp a.eval o).run P w = .ok nx w' ∧ (stabOp F o.op = true → w' = w ∧ ∃ v, nx = .value v ∧ ∀ x, (execOp a.eval o).run P (w.alloc x) = .ok (.value v) (w.alloc x)) ∧ o.upon P a K (fun _ _ _ => False) (.ok nx w')
def opX (P : Program) (F : Fx) (ops : Array Oper) (i : Nat) (K : Act → World → Prop) (a : Act) (w : World) : Prop :=
  match ops[i]? with
  | none => K a w
  | some o => if Region.wanted o (yielded ops a.tmps) then wpX P F o a w K else K (a.put o.dst undef) w
theorem al_wanted {o : Oper} (ho : isAl o = true) (a : Act) : Region.wanted o (yielded ops a.tmps) = true := by
  unfold isAl at ho
  split at ho
  · rename_i hg; simp [Region.wanted, hg]
  · simp at ho
structure DrawX (F : Fx) (ops : Array Oper) : Prop where
  ns : Region.noSelect ops = true
  back : ∀ i j, edge ops i j = true → j < i
  any : ∀ i oi, ops[i]? = some oi → isAl oi = true ∨ (∀ j, j < i → TE ops i j) ∨
    ((stabOp F oi.op = true ∨ stoOp oi.op = true) ∧ (∀ j oj, ops[j]? = some oj → j < i → TE ops i j ∨ commX F ops oj oi = true) ∧ ∀ k ok, ops[k]? = some ok → alAt ops k = true → TE ops i k ∨ commK F ops ok oi = true)
end
section
variable [Enc] {xb : Bool} {d nt : Nat} {e : Option Nat} {S : St} {g g' g0 : G} {a : Act} {w w' w0 : World} {P : Program} {m0 : Nat} {F : Fx} {C : CTab} {ops : Array Oper}
structure Early (F : Fx) (ops : Array Oper) (g : G) (a : Act) (w : World) (k b : Nat) : Prop where
  is : ∃ o T dd z C E, ops[k]? = some o ∧ isAl o = true ∧ o.op = .alloc T ∧ o.dst = some dd ∧ F.T.zr T = some z ∧ a.tmps[dd]? = some (.pointer (some ⟨b, 0, none⟩)) ∧
    w.heap[b]? = some (.cells C E (0, 0)) ∧ C.size = z.length ∧ z.all PV.plain = true ∧ ∀ g : G, CellsAt g C 0 z
  own : g.own b = some .obj
  oa : ∀ i, i < g.no → g.oa i ≠ b
theorem Early.go {k b : Nat} (he : Early F ops g a w k b) (hmm : e.isNone = true → S.mm.length = g.no) (hm : S.mm.length ≤ g.no) {f : Nat → Option Value} (hx : Ext d S.mm.length (g.setVa f) w g' w') (hsz : b < w.heap.size) {a' : Act} (ha : ∀ o dd, ops[k]? = some o → o.dst = some dd → a'.tmps[dd]? = a.tmps[dd]?) : Early F ops g' a' w' k b := by
  obtain ⟨⟨o, T, dd, z, C, E, h1, h2, h3, h4, h5, h6, h7, h8, h9, h10⟩, hown, hoa⟩ := he
  obtain ⟨k1, k2⟩ := hx.own b .obj hown fun i hi => hoa i (by show i < g.no; omega)
  refine ⟨⟨o, T, dd, z, C, E, h1, h2, h3, h4, h5, (ha o dd h1 h4).trans h6, k2.trans h7, h8, h9, h10⟩, k1, fun i hi hh => ?_⟩
  by_cases hig : i < g.no
  · have h11 : g'.oa i = g.oa i := hx.gr.oa i hig
    exact hoa i hig (h11 ▸ hh)
  · have := hx.nw i (by show g.no ≤ i; omega) hi
    omega
theorem Rel.putOff (h : Rel d nt e S g a w) {t : Nat} (ho : offT S t = true) (v : Value) : Rel d nt e S g (a.put (some t) v) w := by
  unfold offT at ho
  simp only [Bool.and_eq_true] at ho
  have hp : ∀ p, lk S.tm t = some p → p = .gone := fun p hp => by
    have h1 := ho.1
    rw [hp] at h1
    cases p <;> first | rfl | simp at h1
  have hr : ∀ r, lk S.rt t = some r → r = .dead := fun r hr => by
    have h1 := ho.2
    rw [hr] at h1
    cases r <;> first | rfl | simp at h1
  have hne : ∀ u, u ≠ t → (a.put (some t) v).tmps[u]? = a.tmps[u]? := fun u hu => put_ne a t v hu
  have hg : ∀ u, u ≠ t → (a.put (some t) v).tmps.getD u undef = a.tmps.getD u undef := fun u hu => by
    simp only [Array.getD_eq_getD_getElem?, hne u hu]
  have hh : ∀ {s : Src} {p : PV}, S.at_ s = some p → p ≠ .gone → hdr g (a.put (some t) v) w s = hdr g a w s := fun {s p} hs hpn => by
    cases s with
    | var u =>
      have : u ≠ t := fun e => by subst e; exact hpn (hp _ hs)
      exact hne u this
    | cell b o => rfl
    | vo i => rfl
  refine ⟨by simpa [Act.put] using h.sz, fun u p hu => ?_, h.lc, h.mm, h.no, fun u r hu => ?_, h.wf, by simpa [Act.put] using h.df, h.vl⟩
  · by_cases hut : u = t
    · subst hut
      have := hp p hu
      subst this
      exact ⟨(h.tm u _ hu).1, trivial⟩
    · rw [hg u hut]; exact h.tm u p hu
  · obtain ⟨h1, h2⟩ := h.rt u r hu
    refine ⟨h1, ?_⟩
    by_cases hut : u = t
    · subst hut
      have := hr r hu
      subst this
      trivial
    · rw [hg u hut]
      cases r with
      | pk T xs src => exact ⟨h2.1, fun s hs => ⟨(h2.2 s hs).1, (hh (h2.2 s hs).1 (by simp)).trans (h2.2 s hs).2⟩⟩
      | el s T i off =>
        obtain ⟨xs, b, len, cap, h5, h6, h7⟩ := h2
        exact ⟨xs, b, len, cap, h5, (hh h5 (by simp)).trans h6, h7⟩
      | sl s T lo hi =>
        obtain ⟨xs, q8, q9, q10, q11⟩ := h2
        exact ⟨xs, q8, q9, q10, q11.imp id fun ⟨q, b, len, cap, cap', q12, q13⟩ => ⟨q, b, len, cap, cap', (hh q8 (by simp)).trans q12, q13⟩⟩
      | mr s =>
        obtain ⟨U, es, h5, h6⟩ := h2
        exact ⟨U, es, h5, (hh h5 (by simp)).trans h6⟩
      | dead => trivial
theorem Early.new (hx : FxOk P F e nt xb) (hb : Base0 e m0 g0 w0) (hi : Inv xb d nt e m0 g0 w0 S g a w) {k : Nat} {o : Oper} (ho : ops[k]? = some o) (ha : isAl o = true) {T dd : Nat} {z : List PV} (h1 : o.op = .alloc T) (h2 : o.dst = some dd)
    (hlt : dd < F.nt) (hoff : offT S dd = true) (hz : F.T.zr T = some z) {N : Act → World → Prop}
    (next : ∀ ob, Inv xb d nt e m0 g0 w0 S (g.new w.heap.size .obj) (a.put (some dd) (.pointer (some ⟨w.heap.size, 0, none⟩))) (w.alloc ob) →
      Early F ops (g.new w.heap.size .obj) (a.put (some dd) (.pointer (some ⟨w.heap.size, 0, none⟩))) (w.alloc ob) k w.heap.size → N (a.put (some dd) (.pointer (some ⟨w.heap.size, 0, none⟩))) (w.alloc ob)) : opX P F ops k N a w := by
  obtain ⟨i, v, q1, q2, q3, q4, q5, q6, q7, q8⟩ := hx.T.zr _ _ hz
  have hrun : (execOp a.eval o).run P w = .ok (.value (.pointer (some ⟨w.heap.size, 0, none⟩))) (w.alloc (.cells v.cells T)) := by
    simp [execOp, h1, Instr.alloc, zeroValue, typeInfo, q1, q2, Go.newVar, newRow, Result.andThen]
  have hdd : dd < a.tmps.size := by rw [hi.rel.sz]; rw [← hx.nt]; exact hlt
  have hv : (a.put (some dd) (.pointer (some ⟨w.heap.size, 0, none⟩))).tmps[dd]? = some (.pointer (some ⟨w.heap.size, 0, none⟩)) := by
    simp [Act.put, Array.getElem?_setIfInBounds, hdd]
  unfold opX
  simp only [ho]
  rw [if_pos (al_wanted ha a)]
  refine ⟨_, _, hrun, fun hs => ?_, ?_⟩
  · rw [h1] at hs; simp [stabOp, indepOp] at hs
  · show N (a.put o.dst _) _
    rw [h2]
    refine next _ ?_ ?_
    · have r1 := (hi.rel.alloc (.cells v.cells T) .obj (fun _ _ hh => by simp at hh)).putOff hoff (.pointer (some ⟨w.heap.size, 0, none⟩))
      exact hi.go hb r1 (ext_alloc hi.rel.wf _ _ _)
    · exact ⟨⟨o, T, dd, z, v.cells, T, ho, ha, h1, h2, hz, hv, heap_alloc_new w _, q4, q5, q6⟩, by simp [G.new], fun i hi' => by
        have := hi.rel.wf.ol i hi'
        show g.oa i ≠ _
        omega⟩
end
end Go.KM
