/- Operations in their regions. Conditions: none. -/
import Derived.Test.YtgjcobbngimleaaDoorKmO
import Derived.Test.YtgjcobbngimleaaDoorKmOb
import Derived.BigCall
namespace Go.KM
open Go
open Fam (Dn dflt)
open Enc (cells sz mkE glob gany u8)
set_option autoImplicit false
set_option linter.unusedVariables false
set_option linter.unusedSimpArgs false
set_option linter.unusedSectionVars false

section
variable [Enc] {d nt : Nat} {e : Option Nat} {S : St} {g g' g0 : G} {a : Act} {w w' w0 : World} {P : Program} {m0 : Nat} {F : Fx} {C : CTab}

/-- where a call began -/
structure Base0 (e : Option Nat) (m0 : Nat) (g0 : G) (w0 : World) : Prop where
  no : NoOk e m0 g0.no
  wf : WF g0 w0
structure Inv (d nt : Nat) (e : Option Nat) (m0 : Nat) (g0 : G) (w0 : World) (S : St) (g : G) (a : Act) (w : World) : Prop where
  rel : Rel d nt e S g a w
  ext : Ext d m0 g0 w0 g w

theorem Ext.go (hb : Base0 e m0 g0 w0) (h : Ext d m0 g0 w0 g w) (hr : Rel d nt e S g a w) (h' : Ext d S.mm.length g w g' w') : Ext d m0 g0 w0 g' w' := by
  cases e with
  | some k =>
    have h1 : m0 = 0 := hb.no.1
    have h2 : S.mm.length = 0 := hr.no.1
    rw [h2] at h'
    subst h1
    exact h.trans h' fun i hi => by omega
  | none =>
    have h1 : m0 = g0.no := hb.no
    have h2 : S.mm.length = g.no := hr.no
    rw [h2] at h'
    have hoa : ∀ i b, b < w0.heap.size → (∀ j, j < m0 → g0.oa j ≠ b) → i < g.no → g.oa i ≠ b := by
      intro i b hb' hj hi
      by_cases hi0 : i < g0.no
      · rw [h.gr.oa i hi0]; exact hj i (by omega)
      · have := h.nw i (by omega) hi; omega
    refine ⟨h.gr.trans h'.gr, fun b κ hb' ho => ?_, Nat.le_trans h.hs h'.hs, fun i h3 h4 => ?_, h.sl.trans h'.sl⟩
    · obtain ⟨h3, h4⟩ := h.own b κ hb' ho
      have h5 : Outer d g.no g b κ := by
        cases κ with
        | obj => exact fun i hi => hoa i b (hb.wf.own _ _ hb') ho hi
        | ob b' j => exact fun i hi => hoa i b' (hb.wf.ob _ _ _ hb') ho hi
        | _ => exact ho
      obtain ⟨h6, h7⟩ := h'.own b κ h3 h5
      exact ⟨h6, h7.trans h4⟩
    · by_cases hi : i < g.no
      · rw [h'.gr.oa i hi]; exact h.nw i h3 hi
      · exact Nat.le_trans h.hs (h'.nw i (by omega) h4)

structure FxOk (P : Program) (F : Fx) (e : Option Nat) (nt : Nat) : Prop where
  T : TabOk P F.T
  flat : ∀ t z, F.T.flat t = some z → FlatOk P t z
  e : F.e = e.isNone
  nt : F.nt = nt

theorem dstOk_lt {dst : Option Nat} (hn : F.nt = nt) (h : dstOk F dst = true) : ∀ t, dst = some t → t < nt := by
  intro t ht
  subst ht
  simp only [dstOk, Nat.blt_eq] at h
  omega

theorem evCall_ok {β : Type} {res : β} (hb : Base0 e m0 g0 w0) (hx : FxOk P F e nt) (hC : CTabOk P C) {K : St → Option β} (hi : Inv d nt e m0 g0 w0 S g a w) {f : FuncId} {dst : Option Nat} {args : List Operand}
    (h : evCall F C f dst args S K = some res) {N : Act → World → Prop} {Q : Exit → Act → World → Prop} (next : ∀ S' g' a' w', K S' = some res → Inv d nt e m0 g0 w0 S' g' a' w' → N a' w') :
    Real P f ∧ Calls P f (args.map a.eval).toArray w fun
      | .returned v, w'' => N (a.put dst v) w''
      | .panicked chain, w'' => Q (.panic chain) a w''
      | .outgrown, _ => LetsOut Q := by
  unfold evCall at h
  split at h
  case h_2 => simp at h
  rename_i ps hps
  cases hg : (olOnce S args && dstOk F dst) with
  | false => simp [hg] at h
  | true =>
    simp only [hg, cond_true] at h
    simp only [Bool.and_eq_true] at hg
    have hd := dstOk_lt hx.nt hg.2
    cases hA : C.isA f with
    | true =>
      simp only [hA, cond_true] at h
      obtain ⟨hre, v, hc, hv, hk⟩ := hC.A f ps β _ res hA h
      refine ⟨hre, (call_ran hi.rel hps hg.1 hc hv (.inr ⟨rfl, rfl⟩) hd).mono fun en w' hen => ?_⟩
      obtain ⟨r, g', rfl, h1, h2⟩ := hen
      have hmm : ({ (useOl S args).noR with mm := S.mm } : St) = (useOl S args).noR := by
        have := (useOl_rel args hi.rel).2.1
        rw [← this]; rfl
      refine next _ g' _ w' hk ⟨?_, hi.ext.go hb hi.rel h2⟩
      have h1 : Rel d nt e (setD ({ (useOl S args).noR with mm := S.mm } : St) dst v) g' (a.put dst r) w' := h1
      rw [hmm] at h1
      exact h1
    | false =>
      simp only [hA, cond_false] at h
      cases he : F.e with
      | false => simp [he] at h
      | true =>
        simp only [he, cond_true] at h
        have hen : e = none := by
          have h8 := hx.e
          rw [he] at h8
          cases e with
          | none => rfl
          | some k => simp at h8
        obtain ⟨hre, v, M', hc, hv, hk⟩ := hC.B f ps S.mm β _ res hA h
        refine ⟨hre, (call_ran hi.rel hps hg.1 hc hv (.inl ⟨rfl, hen, rfl⟩) hd).mono fun en w' hen => ?_⟩
        obtain ⟨r, g', rfl, h1, h2⟩ := hen
        exact next _ g' _ w' hk ⟨h1, hi.ext.go hb hi.rel h2⟩

/-! what is frozen for a call -/
theorem frzC_rep : ∀ (l : List Bool) (xs : List Operand) (S : St) (g : G) {m : Nat}, Rel d nt e S g a w → ∃ g', Rel d nt e (frzC l xs S) g' a w ∧ Ext d m g w g' w ∧ g'.oa = g.oa ∧ g'.no = g.no ∧ (frzC l xs S).mm = S.mm ∧ OF g g' := by
  intro l
  induction l with
  | nil => intro xs S g m h; exact ⟨g, h, .refl _ _ _ _, rfl, rfl, rfl, .refl g⟩
  | cons b l ih =>
    intro xs S g m h
    cases xs with
    | nil => cases b <;> exact ⟨g, h, .refl _ _ _ _, rfl, rfl, rfl, .refl g⟩
    | cons x r =>
      cases b with
      | false => exact ih r S g h
      | true =>
        obtain ⟨g1, h1, h2, h3, h4, h5, h11⟩ := frzO_rep (m := m) h x
        obtain ⟨g2, h6, h7, h8, h9, h10, h12⟩ := ih r _ g1 (m := m) h1
        exact ⟨g2, h6, h2.trans' h7 h3 h4, h8.trans h3, h9.trans h4, h10.trans h5, h11.trans h12 h7.gr⟩

theorem lk_keepRs {l : List (Nat × RV)} {t : Nat} {r : RV} (h : lk (keepRs l) t = some r) : ∃ q, lk l t = some q ∧ (r = .dead ∨ r = q ∧ ((∃ T xs s, q = .pk T xs (some s)) ∨ ∃ s T i o, q = .el s T i o)) := by
  induction l with
  | nil => simp [keepRs, lk] at h
  | cons x l ih =>
    obtain ⟨u, q⟩ := x
    simp only [keepRs] at h
    rw [lk_cons]
    split at h
    · rw [lk_cons] at h
      split at h
      · rename_i hu; rw [if_pos hu]
        exact ⟨_, rfl, .inr ⟨(Option.some.inj h).symm, .inl ⟨_, _, _, rfl⟩⟩⟩
      · rename_i hu; rw [if_neg hu]; exact ih h
    · rw [lk_cons] at h
      split at h
      · rename_i hu; rw [if_pos hu]
        exact ⟨_, rfl, .inr ⟨(Option.some.inj h).symm, .inr ⟨_, _, _, _, rfl⟩⟩⟩
      · rename_i hu; rw [if_neg hu]; exact ih h
    · rw [lk_cons] at h
      split at h
      · rename_i hu; rw [if_pos hu]
        exact ⟨_, rfl, .inl (Option.some.inj h).symm⟩
      · rename_i hu; rw [if_neg hu]; exact ih h
/-- references come back -/
theorem Rel.addR (h : Rel d nt e S g a w) (h' : Rel d nt e S.noR g a w') (hh : ∀ b cs, S.cont b = some cs → w'.heap[g.addr b]? = w.heap[g.addr b]?) : Rel d nt e S.keepR g a w' := by
  have hd : ∀ (s : Src) (T : Nat) (xs : List (Dn T)), S.at_ s = some (.ol T xs) → hdr g a w' s = hdr g a w s := by
    intro s T xs hs
    cases s with
    | var t => rfl
    | vo i => rfl
    | cell b o =>
      simp only [St.at_] at hs
      cases hc : S.cont b with
      | none => simp [hc] at hs
      | some cs => exact cell_heap (a := ⟨g.addr b, o, none⟩) (hh b cs hc)
  refine ⟨h'.sz, h'.tm, h'.lc, h'.mm, h'.no, fun t r hr => ?_, h'.wf, h'.df, h'.vl⟩
  obtain ⟨q, h1, h2⟩ := lk_keepRs hr
  obtain ⟨h3, h4⟩ := h.rt t q h1
  refine ⟨h3, ?_⟩
  rcases h2 with rfl | ⟨rfl, ⟨T, xs, s, rfl⟩ | ⟨s, T, i, o, rfl⟩⟩
  · trivial
  · obtain ⟨_, h5⟩ := h4
    obtain ⟨h6, h7⟩ := h5 s rfl
    have h8 : hdr g a w' s = some (a.tmps.getD t undef) := (hd s T xs h6).trans h7
    refine ⟨?_, fun s' hs' => by simp only [Option.some.injEq] at hs'; subst hs'; exact ⟨h6, h8⟩⟩
    cases s with
    | var u =>
      obtain ⟨h9, h10⟩ := h'.tm u _ h6
      have h8 : a.tmps[u]? = some (a.tmps.getD t undef) := h8
      have h11 : a.tmps.getD u undef = a.tmps.getD t undef := by rw [Array.getD_eq_getD_getElem? (i := u), h8]; rfl
      rw [h11] at h10
      exact repO_repP (κ := .tm d u 0) h10 (by simp [Key.cell])
    | vo i =>
      obtain ⟨u, h9, h10⟩ := h'.vl i _ h6
      have h8 : g.va i = some (a.tmps.getD t undef) := h8
      rw [h9] at h8
      have h8 := Option.some.inj h8
      subst h8
      exact repO_repP (κ := .vo d i) h10 (by simp [Key.cell])
    | cell b o =>
      simp only [St.at_] at h6
      cases hc : S.cont b with
      | none => simp [hc] at h6
      | some cs =>
        simp only [hc] at h6
        have hc' : S.noR.cont b = some cs := by cases b <;> exact hc
        obtain ⟨_, C, E, h9, h10⟩ := h'.cont hc'
        obtain ⟨u, h11, h12⟩ := h10.2 o _ h6
        have h13 : hdr g a w' (.cell b o) = some u := by
          show w'.cell? ⟨g.addr b, o, none⟩ = some u
          rw [cell_of_row w' (g.addr b) o C E (0, 0) h9]; exact h11
        rw [h13] at h8
        have h8 := Option.some.inj h8
        subst h8
        exact repO_repP (κ := ckey d g b o) h12 (by cases b <;> simp [ckey, Key.cell])
  · obtain ⟨xs, b, len, cap, h5, h6, h7⟩ := h4
    exact ⟨xs, b, len, cap, h5, (hd s T xs h5).trans h6, h7⟩

theorem lend_ran {f : FuncId} {args : List Operand} {ps : List PV} {v : PV} {l : List Bool} (h : Rel d nt e S g a w) (ha : argsOf (frzC l args S) args = some ps) (hp : ps.all PV.dup = true)
    (hc : Con P false f ps [] v []) (hv : v.flat = true) {dst : Option Nat} (hd : ∀ t, dst = some t → t < nt) :
    Calls P f (args.map a.eval).toArray w fun en w' => ∃ r, en = .returned r ∧ Rel d nt e (setD S.keepR dst v) g (a.put dst r) w' ∧ Ext d S.mm.length g w g w' := by
  obtain ⟨g1, h1, h2, h3, h4, _, h5⟩ := frzC_rep (m := 0) l args S g h
  obtain ⟨hlen, hargs⟩ := argsOf_rep args h1 ha
  have hvals : ∀ i x, args[i]? = some x → (args.map a.eval).toArray[i]? = some (a.eval x) := fun i x hx => by rw [List.getElem?_toArray, List.getElem?_map, hx]; rfl
  have hargs' : ∀ i p, ps[i]? = some p → ∃ u, (args.map a.eval).toArray[i]? = some u ∧ RepV g1 w (.ar (d + 1) i) p u := by
    intro i p hp'
    obtain ⟨x, hx, hxv, _⟩ := hargs i p hp'
    have hdup : p.dup = true := by
      rw [List.all_eq_true] at hp
      exact hp p (List.mem_of_getElem? hp')
    exact ⟨a.eval x, hvals i x hx, dup_TV hdup (opv_rep h1 hxv)⟩
  refine (hc (d + 1) g1 w _ (by simp [hlen]) hargs' (fun i cs hi => by simp at hi) (fun hh => by simp at hh) h1.wf).mono fun en w' hen => ?_
  obtain ⟨r, g2, rfl, hr, _, _, _, hw2, hext⟩ := hen
  have same : ∀ b κ, g.own b = some κ → ¬ w'.heap[b]? = w.heap[b]? → ¬ Outer (d + 1) 0 g1 b κ := fun b κ hb hne ho => by
    rcases h5 b κ hb with h6 | ⟨C, h6⟩
    · exact hne (hext.own b κ h6 ho).2
    · have h7 := (h1.wf.fz b C h6).2
      have h8 := (hw2.fz b C (hext.gr.fz b C h6)).2
      rw [hext.gr.fe b C h6] at h8
      exact hne (h8.trans h7.symm)
  have hwf : WF g w' := by
    refine ⟨h.wf.gl, fun b κ hb => Nat.lt_of_lt_of_le (h.wf.own b κ hb) hext.hs, fun b C hf => ⟨(h.wf.fz b C hf).1, ?_⟩, fun b b' j hb => Nat.lt_of_lt_of_le (h.wf.ob b b' j hb) hext.hs, fun i hi => Nat.lt_of_lt_of_le (h.wf.ol i hi) hext.hs, h.wf.inj⟩
    have h6 := h2.gr.fz b C hf
    have h8 := (hw2.fz b C (hext.gr.fz b C h6)).2
    rw [hext.gr.fe b C h6, h2.gr.fe b C hf] at h8
    exact h8
  have hk : Keep (fun b _ => ¬ w'.heap[b]? = w.heap[b]?) g w g w' := ⟨.refl g, rfl, fun b κ hb hx => ⟨hb, Classical.not_not.1 hx⟩⟩
  have h9 : Rel d nt e S.noR g a w' := by
    refine h.noR.keepC hk h.no (fun b κ hb hx => ?_) rfl hwf
    have hx := same b κ hb hx
    cases κ with
    | loc d' t => exact ⟨.inr (by simp), fun t' hh => by simp only [Key.loc.injEq] at hh; exact hx (by rw [hh.1]; exact Nat.lt_succ_self d), fun _ _ _ hk => by simp at hk, fun _ _ _ _ hk => by simp at hk, fun _ _ _ _ hk => by simp at hk, fun _ _ hk => by simp at hk⟩
    | tm d' t i => exact ⟨.inr (by simp), fun _ => by simp, fun _ _ _ hk => by simp only [Key.tm.injEq] at hk; exact (hx (by rw [hk.1]; exact Nat.lt_succ_self d)).elim, fun _ _ _ _ hk => by simp at hk, fun _ _ _ _ hk => by simp at hk, fun _ _ hk => by simp at hk⟩
    | lc d' t i => exact ⟨.inr (by simp), fun _ => by simp, fun _ _ _ hk => by simp at hk, fun _ _ _ _ hk => by simp only [Key.lc.injEq] at hk; exact (hx (by rw [hk.1]; exact Nat.lt_succ_self d)).elim, fun _ _ _ _ hk => by simp at hk, fun _ _ hk => by simp at hk⟩
    | vo d' i => exact ⟨.inr (by simp), fun _ => by simp, fun _ _ _ hk => by simp at hk, fun _ _ _ _ hk => by simp at hk, fun _ _ _ _ hk => by simp at hk, fun _ _ hk => by simp only [Key.vo.injEq] at hk; exact (hx (by rw [hk.1]; exact Nat.lt_succ_self d)).elim⟩
    | obj => exact (hx fun i hi => by omega).elim
    | ob b' j => exact (hx fun i hi => by omega).elim
    | _ => exact ⟨.inr (by simp), fun _ => by simp, fun _ _ _ hk => by simp at hk, fun _ _ _ _ hk => by simp at hk, fun _ _ _ _ hk => by simp at hk, fun _ _ hk => by simp at hk⟩
  have hE : Ext d S.mm.length g w g w' := by
    refine ⟨.refl g, fun b κ hb ho => ⟨hb, Classical.not_not.1 fun hx => same b κ hb hx ?_⟩, hext.hs, fun i h6 h7 => by omega, hext.sl⟩
    cases κ with
    | obj => intro i hi; omega
    | ob b' j => intro i hi; omega
    | _ => exact Nat.lt_succ_of_lt ho
  refine ⟨r, rfl, ?_, hE⟩
  have hrT : RepT g w' (fun j => .tm d (dst.getD 0) j) v r := flat_T hv hr
  have h10 : Rel d nt e S.keepR g a w' := h.addR h9 fun b cs hb => by
    obtain ⟨h11, _⟩ := h.cont hb
    refine Classical.not_not.1 fun hx => same _ _ h11 hx ?_
    cases b with
    | loc t => exact Nat.lt_succ_self d
    | obj i => intro j hj; omega
  cases dst with
  | none => exact h10
  | some t => exact h10.setT (hd t rfl) hrT

theorem srcO_eval (h : Rel d nt e S g a w) (x : Operand) : a.eval (srcO S x) = a.eval x := by
  cases x with
  | tmp u =>
    simp only [srcO]
    split
    · rename_i T xs t hr
      obtain ⟨_, h1⟩ := h.rt u _ hr
      obtain ⟨_, h2⟩ := h1.2 _ rfl
      have h2 : a.tmps[t]? = some (a.tmps.getD u undef) := h2
      show a.tmps.getD t undef = a.tmps.getD u undef
      rw [Array.getD_eq_getD_getElem?, h2]
      rfl
    · rfl
  | _ => rfl
theorem evFn_ok {β : Type} {res : β} (hb : Base0 e m0 g0 w0) (hx : FxOk P F e nt) (hC : CTabOk P C) {K : St → Option β} (hi : Inv d nt e m0 g0 w0 S g a w) {f : FuncId} {dst : Option Nat} {args : List Operand}
    (h : evFn F C f dst args S K = some res) {N : Act → World → Prop} {Q : Exit → Act → World → Prop} (next : ∀ S' g' a' w', K S' = some res → Inv d nt e m0 g0 w0 S' g' a' w' → N a' w') :
    Real P f ∧ Calls P f (args.map a.eval).toArray w fun
      | .returned v, w'' => N (a.put dst v) w''
      | .panicked chain, w'' => Q (.panic chain) a w''
      | .outgrown, _ => LetsOut Q := by
  unfold evFn at h
  cases hw : C.isW f with
  | true =>
    simp only [hw, cond_true] at h
    unfold evW at h
    split at h
    case h_2 => simp at h
    rename_i ps cs ws hps
    cases hg : (dstOk F dst && (wDist ws && cs.all PV.nob1)) with
    | false => simp [hg] at h
    | true =>
      simp only [hg, cond_true] at h
      simp only [Bool.and_eq_true] at hg
      obtain ⟨hre, v, cs', hc, hk⟩ := hC.W f ps cs β _ res hw h
      cases hvf : (v.flat && (Nat.beq cs'.length cs.length && cs'.all PV.nob1)) with
      | false => simp [hvf] at hk
      | true =>
        simp only [hvf, cond_true] at hk
        simp only [Bool.and_eq_true] at hvf
        have heq : args.map a.eval = (args.map (srcO S)).map a.eval := by
          rw [List.map_map]
          exact List.map_congr_left fun x _ => (srcO_eval hi.rel x).symm
        rw [heq]
        refine ⟨hre, (wcall_ran hx.T.enc.nob hi.rel hps hg.2.1 hc hg.2.2 hvf.1 (Nat.eq_of_beq_eq_true hvf.2.1) hvf.2.2 (dstOk_lt hx.nt hg.1)).mono fun en w' hen => ?_⟩
        obtain ⟨r, g', rfl, h1, h2⟩ := hen
        exact next _ g' _ w' hk ⟨h1, hi.ext.go hb hi.rel h2⟩
  | false =>
  simp only [hw, cond_false] at h
  cases hl : C.lnd f with
  | false =>
    simp only [hl, cond_false] at h
    obtain ⟨g', h1, h2, _, _, h3, _⟩ := frzC_rep (m := S.mm.length) (C.fz f) args S g hi.rel
    exact evCall_ok hb hx hC ⟨h1, hi.ext.go hb hi.rel h2⟩ h next
  | true =>
    simp only [hl, cond_true] at h
    unfold evLend at h
    split at h
    case h_2 => simp at h
    rename_i ps hps
    cases hg : (ps.all PV.dup && dstOk F dst && C.isA f) with
    | false => simp [hg] at h
    | true =>
      simp only [hg, cond_true] at h
      simp only [Bool.and_eq_true] at hg
      obtain ⟨hre, v, hc, hv, hk⟩ := hC.A f ps β _ res hg.2 h
      cases hvf : v.flat with
      | false => simp [hvf] at hk
      | true =>
        simp only [hvf, cond_true] at hk
        have heq : args.map a.eval = (args.map (srcO S)).map a.eval := by
          rw [List.map_map]
          exact List.map_congr_left fun x _ => (srcO_eval hi.rel x).symm
        rw [heq]
        refine ⟨hre, (lend_ran hi.rel hps hg.1.1 hc hvf (dstOk_lt hx.nt hg.1.2)).mono fun en w' hen => ?_⟩
        obtain ⟨r, rfl, h1, h2⟩ := hen
        exact next _ g _ w' hk ⟨h1, hi.ext.go hb hi.rel h2⟩

theorem run_enter {f : FuncId} (h : Real P f) (args : Array Value) : (callFunc f args).run P w = .ok (.enter f args) w := by
  obtain ⟨fn, h1, h2, h3⟩ := h
  have h2' : ¬ fn.name = "runtime.NumGoroutine" := by simpa using h2
  have h3' : ¬ fn.body = none := fun hh => by rw [hh] at h3; simp at h3
  simp [callFunc, h1, h2', h3']

theorem stp_ran {o : Oper} (hx : FxOk P F e nt) {S' : St} (h : Rel d nt e S g a w) (ho : stp F o S = some (true, S')) :
    ∃ nx g' w', (execOp a.eval o).run P w = .ok nx w' ∧ (∀ N Q, o.upon P a N Q (.ok nx w') = N (match nx with | .value v => a.put o.dst v | _ => a) w') ∧
      Rel d nt e S' g' (match nx with | .value v => a.put o.dst v | _ => a) w' ∧ Ext d S.mm.length g w g' w' := by
  unfold stp at ho
  split at ho
  · rename_i t hdst
    cases hb : Nat.blt t F.nt with
    | false => simp [hb] at ho
    | true =>
      simp only [hb, cond_true] at ho
      simp only [Nat.blt_eq] at hb
      obtain ⟨g', v, w', h1, h2, h3⟩ := stp1_ran hx.T hx.flat hx.e (hx.nt ▸ hb) h ho
      exact ⟨.value v, g', w', h1, fun N Q => rfl, by rw [hdst]; exact h2, h3⟩
  · rename_i hdst
    split at ho
    · rename_i T x v hop
      simp only [Option.map_eq_some_iff, Prod.mk.injEq, true_and] at ho
      obtain ⟨S1, ho, rfl⟩ := ho
      obtain ⟨g', w', h1, h2, h3⟩ := store_ran hx.T h ho hop
      exact ⟨.skip, g', w', h1, fun N Q => by simp only [Oper.upon, hdst, Act.put], h2, h3⟩
    · simp at ho

theorem evOp_ok {β : Type} {res : β} (hb : Base0 e m0 g0 w0) (hx : FxOk P F e nt) (hC : CTabOk P C) {K : St → Option β} (hi : Inv d nt e m0 g0 w0 S g a w) {o : Oper}
    (h : evOp F C o S K = some res) {N : Act → World → Prop} {Q : Exit → Act → World → Prop} (next : ∀ S' g' a' w', K S' = some res → Inv d nt e m0 g0 w0 S' g' a' w' → N a' w') : o.wp P a w N Q := by
  unfold evOp at h
  have hsame : ∀ args : Array Operand, (args.toList.map a.eval).toArray = args.map a.eval := fun args => by rw [← Array.toList_map, Array.toArray_toList]
  split at h
  · rename_i f args tys hop
    obtain ⟨h1, h2⟩ := evFn_ok (Q := Q) hb hx hC hi h next
    obtain ⟨dst, op, ty, pos, after, guard⟩ := o
    simp only at hop h1 h2
    subst hop
    have h3 : (execOp a.eval ⟨dst, .call { callee := .value (.func f), args, argTypes := tys }, ty, pos, after, guard⟩).run P w = .ok (.enter f (args.toList.map a.eval).toArray) w := by
      have h4 := run_enter (w := w) h1 (#[] ++ args.map a.eval ++ #[])
      rw [execOp_call_go]
      rw [h4, hsame]
      congr 2
      simp
    unfold Oper.wp
    rw [h3]
    exact h2
  · rename_i t args tys hop
    split at h
    case h_2 => simp at h
    rename_i f hf
    obtain ⟨h1, h2⟩ := evFn_ok (Q := Q) hb hx hC hi h next
    obtain ⟨dst, op, ty, pos, after, guard⟩ := o
    simp only at hop h1 h2
    subst hop
    have hv : a.eval (.tmp t) = .func (.func f) #[] #[] := by
      have h5 := (hi.rel.tm t _ hf).2
      have h6 : RepF g (.clo f []) (a.tmps.getD t undef) := h5
      show a.tmps.getD t undef = _
      generalize a.tmps.getD t undef = v at h6
      cases h6
      rfl
    have h3 : (execOp a.eval ⟨dst, .call { callee := .value (.tmp t), args, argTypes := tys }, ty, pos, after, guard⟩).run P w = .ok (.enter f (args.toList.map a.eval).toArray) w := by
      have h4 := run_enter (w := w) h1 (#[] ++ args.map a.eval ++ #[])
      have h5 : execOp a.eval ⟨dst, .call { callee := .value (.tmp t), args, argTypes := tys }, ty, pos, after, guard⟩ = callFunc f (#[] ++ args.map a.eval ++ #[]) := by
        have h6 : resolve a.eval { callee := .value (.tmp t), args, argTypes := tys } ty = pure { target := .fn (.func f) #[], args := #[] ++ args.map a.eval } := by
          simp only [resolve, hv]; rfl
        show (resolve a.eval { callee := .value (.tmp t), args, argTypes := tys } ty >>= fun d => invoke d.target d.args) = _
        rw [h6]
        rfl
      rw [h5, h4, hsame]
      congr 2
      simp
    unfold Oper.wp
    rw [h3]
    exact h2
  · split at h
    · rename_i c S1 hs
      cases c with
      | false => simp at h
      | true =>
        simp only [cond_true] at h
        obtain ⟨nx, g', w', h1, h2, h3, h4⟩ := stp_ran hx hi.rel hs
        unfold Oper.wp
        rw [h1, h2]
        exact next _ _ _ _ h ⟨h3, hi.ext.go hb hi.rel h4⟩
    · simp at h

theorem guardVal_ok {ops : Array Oper} {j t : Nat} {q : Option Bool} {c : Bool} (h : Rel d nt e S g a w) (hg : guardVal ops S j = some (t, q, c)) :
    (q = none ∧ lk S.tm t = some (.b c) ∧ yielded ops a.tmps j = some c) ∨ (q = some false ∧ yielded ops a.tmps j = none) := by
  unfold guardVal at hg
  split at hg
  case h_2 => simp at hg
  rename_i o ho
  split at hg
  case h_2 => simp at hg
  rename_i t' hd
  have hy : ∀ v, a.tmps.getD t' undef = v → t' < nt → yielded ops a.tmps j = (match v with | .bool b => some b | _ => none) := by
    intro v hv ht
    have h1 : a.tmps[t']? = some v := by
      rw [← hv, Array.getD_eq_getD_getElem?, Array.getElem?_eq_getElem (by rw [h.sz]; exact ht)]; rfl
    simp only [yielded, ho, Option.bind_some, hd, h1]
    cases v <;> rfl
  split at hg
  · rename_i b hb
    simp only [Option.some.injEq, Prod.mk.injEq] at hg
    obtain ⟨rfl, rfl, rfl⟩ := hg
    obtain ⟨h1, h2⟩ := h.tm _ _ hb
    have h3 : a.tmps.getD t' undef = .bool b := by generalize a.tmps.getD t' undef = v at h2; cases h2; rfl
    exact .inl ⟨rfl, hb, hy _ h3 h1⟩
  · rename_i hb
    simp only [Option.some.injEq, Prod.mk.injEq] at hg
    obtain ⟨rfl, rfl, rfl⟩ := hg
    obtain ⟨h1, h2⟩ := h.tm _ _ hb
    obtain ⟨A, h3, _⟩ := h2
    exact .inr ⟨rfl, hy _ h3 h1⟩
  · simp at hg

/-- operations in the order given -/
theorem evOps_ok {β : Type} {res : β} (hb : Base0 e m0 g0 w0) (hx : FxOk P F e nt) (hC : CTabOk P C) {K : St → Option β} {ops : Array Oper} {Q : Exit → Act → World → Prop} :
    ∀ (r : List Oper) (l : List Nat) {S : St} {g : G} {a : Act} {w : World}, l.map (fun i => ops[i]?) = r.map some → Inv d nt e m0 g0 w0 S g a w → evOps F C ops r S K = some res →
      (∀ S' g' a' w', K S' = some res → Inv d nt e m0 g0 w0 S' g' a' w' → Q .normal a' w') → wpOps P ops Q l a w := by
  intro r
  induction r with
  | nil =>
    intro l S g a w hl hi h next
    cases l with
    | nil => exact next _ _ _ _ h hi
    | cons i l => simp at hl
  | cons o r ih =>
    intro l S g a w hl hi h next
    cases l with
    | nil => simp at hl
    | cons i l =>
      simp only [List.map_cons, List.cons.injEq] at hl
      obtain ⟨ho, hl⟩ := hl
      simp only [wpOps, ho]
      -- the operation runs
      have run : ∀ {S : St} {a : Act} {w : World} {g : G}, Inv d nt e m0 g0 w0 S g a w → (evOp F C o S fun S => evOps F C ops r S K) = some res → o.wp P a w (wpOps P ops Q l) Q :=
        fun hi h => evOp_ok hb hx hC hi h fun S' g' a' w' hk hi' => ih l hl hi' hk next
      -- it is passed over
      have skip : ∀ {S : St}, Inv d nt e m0 g0 w0 S g a w → dstOk F o.dst = true → evOps F C ops r (setD S o.dst (.tup [])) K = some res → wpOps P ops Q l (a.put o.dst undef) w := by
        intro S hi hd h
        refine ih l hl (S := setD S o.dst (.tup [])) (g := g) ⟨?_, hi.ext⟩ h next
        cases hdst : o.dst with
        | none => exact hi.rel
        | some t => exact hi.rel.setT (dstOk_lt hx.nt hd t hdst) ⟨#[], rfl, rfl, by simp⟩
      simp only [evOps] at h
      split at h
      · rename_i hg
        have : Region.wanted o (yielded ops a.tmps) = true := by simp [Region.wanted, hg]
        rw [if_pos this]
        exact .inl (run hi h)
      · rename_i j want hg
        split at h
        · rename_i t c hgv
          rcases guardVal_ok hi.rel hgv with ⟨_, h1, h2⟩ | ⟨h1, _⟩
          · have hset : ∀ c', c' = c → Inv d nt e m0 g0 w0 (S.setT t (.b c')) g a w := fun c' hc => by
              subst hc
              obtain ⟨h3, h4⟩ := hi.rel.tm _ _ h1
              exact ⟨hi.rel.setT' h3 rfl rfl (fun _ _ => rfl) h4, hi.ext⟩
            cases hd : dstOk F o.dst with
            | false => simp [hd] at h
            | true =>
              simp only [hd, cond_true] at h
              cases c with
              | true =>
                simp only [cond_true] at h
                cases want with
                | true =>
                  simp only [cond_true] at h
                  have : Region.wanted o (yielded ops a.tmps) = true := by simp [Region.wanted, hg, h2]
                  rw [if_pos this]
                  exact .inl (run (hset _ rfl) h)
                | false =>
                  simp only [cond_false] at h
                  have : ¬ Region.wanted o (yielded ops a.tmps) = true := by simp [Region.wanted, hg, h2]
                  rw [if_neg this]
                  exact skip (hset _ rfl) hd h
              | false =>
                simp only [cond_false] at h
                cases want with
                | true =>
                  simp only [cond_true] at h
                  have : ¬ Region.wanted o (yielded ops a.tmps) = true := by simp [Region.wanted, hg, h2]
                  rw [if_neg this]
                  exact skip (hset _ rfl) hd h
                | false =>
                  simp only [cond_false] at h
                  have : Region.wanted o (yielded ops a.tmps) = true := by simp [Region.wanted, hg, h2]
                  rw [if_pos this]
                  exact .inl (run (hset _ rfl) h)
          · simp at h1
        · rename_i t q c hgv
          rcases guardVal_ok hi.rel hgv with ⟨h1, _⟩ | ⟨_, h2⟩
          · simp at h1
          · have : ¬ Region.wanted o (yielded ops a.tmps) = true := by simp [Region.wanted, hg, h2]
            rw [if_neg this]
            cases hd : dstOk F o.dst with
            | false => simp [hd] at h
            | true =>
              simp only [hd, cond_true] at h
              exact skip hi hd h
        · simp at h
end
end Go.KM
