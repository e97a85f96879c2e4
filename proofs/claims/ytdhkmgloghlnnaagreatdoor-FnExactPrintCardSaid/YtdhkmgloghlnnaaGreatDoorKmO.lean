/- Calls and regions of the abstract machine. Conditions: none. -/
import Derived.Test.YtdhkmgloghlnnaaGreatDoorKmN
namespace Go.KM
open Go
open Fam (Dn dflt)
open Enc (cells sz mkE glob gany u8)
set_option autoImplicit false
set_option linter.unusedVariables false
set_option linter.unusedSimpArgs false
set_option linter.unusedSectionVars false
section
variable [Enc] {d nt : Nat} {e : Option Nat} {S : St} {g g' : G} {a : Act} {w w' : World} {P : Program}
def MemRep (g : G) (w : World) (M : List (List PV)) : Prop :=
  ∀ i cs, M[i]? = some cs → i < g.no ∧ g.own (g.oa i) = some .obj ∧ ∃ C E, w.heap[g.oa i]? = some (.cells C E (0, 0)) ∧ RepK g w (Key.ob (g.oa i)) cs C
def Con (P : Program) (e : Bool) (f : FuncId) (args : List PV) (M : List (List PV)) (v : PV) (M' : List (List PV)) : Prop :=
  ∀ (d : Nat) (g : G) (w : World) (vals : Array Value), vals.size = args.length → (∀ i p, args[i]? = some p → ∃ u, vals[i]? = some u ∧ RepV g w (.ar d i) p u) → MemRep g w M → (e = true → M.length = g.no) → WF g w →
    Calls P f vals w fun en w' => ∃ r g', en = .returned r ∧ RepT g' w' (Key.rt d) v r ∧ MemRep g' w' M' ∧ (e = true → M'.length = g'.no) ∧ (e = false → g'.no = g.no) ∧ WF g' w' ∧ Ext d M.length g w g' w'
def VlRep (d : Nat) (g : G) (w : World) (cs : List PV) : Prop := ∀ i p, cs[i]? = some p → ∃ v, g.va i = some v ∧ RepC g w (Key.vo d i) p v
def ConW (P : Program) (f : FuncId) (args cs : List PV) (v : PV) (cs' : List PV) : Prop :=
  ∀ (d : Nat) (g : G) (w : World) (vals : Array Value), vals.size = args.length → (∀ i p, args[i]? = some p → ∃ u, vals[i]? = some u ∧ RepV g w (.ar d i) p u) → VlRep d g w cs → WF g w →
    Calls P f vals w fun en w' => ∃ r g', en = .returned r ∧ RepT g' w' (Key.rt d) v r ∧ VlRep d g' w' cs' ∧ g'.no = g.no ∧ WF g' w' ∧ Ext d 0 g w g' w'
def PV.noLoc : PV → Bool
  | .ad (.loc _) _ => false
  | .tup vs => vs.all fun p => !p.isLoc
  | _ => true
def Real (P : Program) (f : FuncId) : Prop := ∃ fn, P.funcs[f]? = some fn ∧ (fn.name == "runtime.NumGoroutine") = false ∧ fn.body.isNone = false
structure CTabOk (P : Program) (C : CTab) : Prop where
  A : ∀ f ps (β : Type) (K : PV → Option β) r, C.isA f = true → C.A f ps β K = some r → Real P f ∧ ∃ v, Con P false f ps [] v [] ∧ v.noLoc = true ∧ K v = some r
  B : ∀ f ps M (β : Type) (K : PV → List (List PV) → Option β) r, C.isA f = false → C.B f ps M β K = some r → Real P f ∧ ∃ v M', Con P true f ps M v M' ∧ v.noLoc = true ∧ K v M' = some r
  W : ∀ f ps cs (β : Type) (K : PV → List PV → Option β) r, C.isW f = true → C.W f ps cs β K = some r → Real P f ∧ ∃ v cs', ConW P f ps cs v cs' ∧ K v cs' = some r
theorem dup_TV {p : PV} (hp : p.dup = true) {κ : Nat → Key} {κ' : Key} {v : Value} (h : RepT g w κ p v) : RepV g w κ' p v := by
  cases p with
  | tup vs => simp [PV.dup, PV.plain] at hp
  | st cs =>
    obtain ⟨A, h1, h2, h3⟩ := h
    refine ⟨A, h1, h2, fun j c hj => ?_⟩
    obtain ⟨u, h4, h5⟩ := h3 j c hj
    exact ⟨u, by simpa using h4, (plain_key (all_plain hp hj)).1 h5⟩
  | fa T x off => exact h
  | ad b off => cases b <;> exact h
  | _ => simp_all [PV.dup, PV.plain, RepT, RepV, RepC]
theorem dup_TTV {p : PV} (hp : p.dup = true) {κ : Nat → Key} {κ' : Key} {v : Value} (h : RepV g w κ' p v) : RepT g w κ p v := by
  cases p with
  | tup vs => simp [PV.dup, PV.plain] at hp
  | st cs =>
    obtain ⟨A, h1, h2, h3⟩ := h
    refine ⟨A, h1, h2, fun j c hj => ?_⟩
    obtain ⟨u, h4, h5⟩ := h3 j c hj
    exact ⟨u, by simpa using h4, (plain_key (all_plain hp hj)).2 h5⟩
  | fa T x off => exact h
  | ad b off => cases b <;> exact h
  | _ => simp_all [PV.dup, PV.plain, RepT, RepV, RepC]
theorem noLoc_locs {p : PV} (h : p.noLoc = true) : locs p = false := by
  cases p with
  | tup vs =>
    simp only [PV.noLoc, List.all_eq_true, Bool.not_eq_true'] at h
    simp only [locs, List.any_eq_false]
    intro p hp
    rw [h p hp]; simp
  | ad b off => cases b <;> simp_all [PV.noLoc, locs]
  | _ => rfl
theorem repT_split {p : PV} {v : Value} {κ : Nat → Key} (h : RepT g w κ p v) : ∃ us : Nat → Value, (∀ j c, p.keys[j]? = some c → RepC g w (κ j) c (us j)) ∧
    ∀ (g' : G) (w' : World) (κ' : Nat → Key), Grow g g' → p.noLoc = true → (∀ j c, p.keys[j]? = some c → RepC g' w' (κ' j) c (us j)) → RepT g' w' κ' p v := by
  obtain ⟨us, h1, h2⟩ := repT_split' h
  exact ⟨us, h1, fun g' w' κ' hG hn hc => h2 g' w' κ' hG (.inl (noLoc_locs hn)) hc⟩
theorem argsOf_rep : ∀ (xs : List Operand) {S : St} {ps : List PV}, Rel d nt e S g a w → argsOf S xs = some ps → xs.length = ps.length ∧
    ∀ (i : Nat) (p : PV), ps[i]? = some p → ∃ x, xs[i]? = some x ∧ S.opv x = some p ∧ ((p.dup = true ∧ p.isLoc = false) ∨ isLs p = true) := by
  intro xs
  induction xs with
  | nil => intro S ps h ho; simp only [argsOf, Option.some.injEq] at ho; subst ho; exact ⟨rfl, by simp⟩
  | cons x r ih =>
    intro S ps h ho
    simp only [argsOf] at ho
    split at ho
    · rename_i p hx
      cases hg : (p.dup && !p.isLoc || isLs p) with
      | false => simp [hg] at ho
      | true =>
        simp only [hg, cond_true] at ho
        split at ho
        · rename_i qs hqs
          simp only [Option.some.injEq] at ho
          subst ho
          obtain ⟨h1, h2⟩ := ih h hqs
          refine ⟨by simp [h1], fun i q hi => ?_⟩
          cases i with
          | zero =>
            simp only [List.getElem?_cons_zero, Option.some.injEq] at hi
            subst hi
            simp only [Bool.or_eq_true, Bool.and_eq_true, Bool.not_eq_true'] at hg
            exact ⟨x, rfl, hx, hg⟩
          | succ i =>
            simp only [List.getElem?_cons_succ] at hi ⊢
            exact h2 i q hi
        · simp at ho
    · simp at ho
theorem useOl_gone : ∀ (xs : List Operand) (S : St) (t : Nat), Operand.tmp t ∈ xs → (∃ T ys, lk S.tm t = some (.ol T ys)) → lk (useOl S xs).tm t = some .gone := by
  intro xs
  induction xs with
  | nil => intro S t h; simp at h
  | cons x r ih =>
    intro S t hm hol
    have keep : ∀ (l : List Operand) (S : St), lk S.tm t = some .gone → lk (useOl S l).tm t = some .gone := by
      intro l
      induction l with
      | nil => intro S h; exact h
      | cons y l ihl =>
        intro S h
        cases y with
        | tmp u =>
          simp only [useOl]
          split
          · rename_i T ys hu
            refine ihl _ ?_
            show lk ((u, PV.gone) :: S.tm) t = _
            rw [lk_cons]; split
            · rfl
            · exact h
          · exact ihl _ h
        | _ => exact ihl _ h
    cases x with
    | tmp u =>
      simp only [useOl]
      by_cases hut : u = t
      · subst hut
        obtain ⟨T, ys, hu⟩ := hol
        simp only [hu]
        refine keep r _ ?_
        show lk ((u, PV.gone) :: S.tm) u = _
        rw [lk_cons, if_pos rfl]
      · have hm' : .tmp t ∈ r := by simpa [Ne.symm hut] using hm
        split
        · refine ih _ t hm' ?_
          obtain ⟨T, ys, hu⟩ := hol
          refine ⟨T, ys, ?_⟩
          show lk ((u, PV.gone) :: S.tm) t = _
          rw [lk_cons, if_neg hut]; exact hu
        · exact ih _ t hm' hol
    | _ => exact ih _ t (by simpa using hm) hol
theorem useOl_rel : ∀ (xs : List Operand) {S : St}, Rel d nt e S g a w → Rel d nt e (useOl S xs) g a w ∧ (useOl S xs).mm = S.mm ∧ (useOl S xs).lc = S.lc := by
  intro xs
  induction xs with
  | nil => intro S h; exact ⟨h, rfl, rfl⟩
  | cons x r ih =>
    intro S h
    cases x with
    | tmp u =>
      simp only [useOl]
      split
      · rename_i T ys hu
        exact ih (h.gone (h.tm u _ hu).1)
      · exact ih h
    | _ => exact ih h
theorem olOnce_inj : ∀ (xs : List Operand) {S : St}, olOnce S xs = true → ∀ (i j t : Nat), xs[i]? = some (Operand.tmp t) → xs[j]? = some (Operand.tmp t) → (∃ T ys, lk S.tm t = some (.ol T ys)) → i = j := by
  intro xs
  induction xs with
  | nil => intro S _ i j t h; simp at h
  | cons x r ih =>
    intro S ho i j t hi hj hol
    have hr : olOnce S r = true := by cases x <;> simp only [olOnce, Bool.and_eq_true] at ho <;> first | exact ho.2 | exact ho
    have hhead : ∀ k : Nat, x = Operand.tmp t → r[k]? = some (Operand.tmp t) → False := by
      intro k hx hk
      subst hx
      simp only [olOnce, Bool.and_eq_true] at ho
      obtain ⟨T, ys, hu⟩ := hol
      rw [hu] at ho
      simp only [Bool.not_eq_true', List.any_eq_false] at ho
      have := ho.1 _ (List.mem_of_getElem? hk)
      simp at this
    cases i with
    | zero => cases j with
      | zero => rfl
      | succ j => simp only [List.getElem?_cons_zero, Option.some.injEq, List.getElem?_cons_succ] at hi hj; exact (hhead j hi hj).elim
    | succ i => cases j with
      | zero => simp only [List.getElem?_cons_zero, Option.some.injEq, List.getElem?_cons_succ] at hi hj; exact (hhead i hj hi).elim
      | succ j => simp only [List.getElem?_cons_succ] at hi hj; rw [ih hr i j t hi hj hol]
theorem dup_own {p : PV} (h : p.dup = true) : isOl p = false := by
  cases p <;> first | rfl | (simp [PV.dup, PV.plain] at h; done)
def G.setLb (g : G) (l : Nat → Nat) : G := { g with lb := l }
theorem grow_lb (g : G) (l : Nat → Nat) : Grow g (g.setLb l) := ⟨fun _ _ h => h, Nat.le_refl _, fun _ _ => rfl, fun _ _ _ => rfl, rfl, fun _ _ => rfl⟩
theorem repC_lb {l : Nat → Nat} {κ : Key} {p : PV} {v : Value} (h : RepC g w κ p v) : RepC (g.setLb l) w κ p v := by
  cases p with
  | ol T xs => obtain ⟨vs, h1, h2, h3⟩ := h; exact ⟨vs, h1, h2, fun i x hi => (h3 i x hi).mono (grow_lb g l)⟩
  | mp U es => obtain ⟨r, ms, ck, h1, h2, h3, h4, h5⟩ := h; exact ⟨r, ms, ck, h1, h2, h3, h4, fun i x hi => let ⟨q, a1, a2, c, a3, a4⟩ := h5 i x hi; ⟨q, a1, a2, c, a3, a4.mono (grow_lb g l)⟩⟩
  | gone => trivial
  | _ => exact RepF.mono (grow_lb g l) h
theorem memRep_lb {l : Nat → Nat} {M : List (List PV)} (h : MemRep g w M) : MemRep (g.setLb l) w M := fun i cs hi =>
  let ⟨h1, h2, C, E, h3, h4⟩ := h i cs hi
  ⟨h1, h2, C, E, h3, h4.1, fun j c hj => let ⟨u, h5, h6⟩ := h4.2 j c hj; ⟨u, h5, repC_lb h6⟩⟩
theorem WF.setLb {l : Nat → Nat} (h : WF g w) : WF (g.setLb l) w := ⟨gl_mono (grow_lb g l) h.gl, h.own, h.fz, h.ob, h.ol, h.inj, h.oe⟩
theorem Rel.keepC {X : Nat → Key → Prop} {e' : Option Nat} (h : Rel d nt e S g a w) (hk : Keep X g w g' w') (hno : NoOk e' S.mm.length g'.no)
    (hX : ∀ b κ, g.own b = some κ → X b κ → (S.mm = [] ∨ κ ≠ .obj) ∧ (∀ t, κ ≠ .loc d t) ∧ Free d S g κ) (hr : S.rt = []) (hw : WF g' w') : Rel d nt e' S g' a w' :=
  h.keepC' hk hno (fun b κ h1 h2 => let ⟨h3, h4, h5⟩ := hX b κ h1 h2; ⟨h3, fun t _ _ => h4 t, h5⟩) hr hw
theorem Rel.setM {e' : Option Nat} {M : List (List PV)} (h : Rel d nt e S g a w) (hr : S.rt = []) (hM : MemRep g w M) (hno : NoOk e' M.length g.no) : Rel d nt e' { S with mm := M } g a w :=
  ⟨h.sz, h.tm, h.lc, hM, hno, fun t r hr' => by rw [show ({ S with mm := M } : St).rt = S.rt from rfl, hr] at hr'; simp [lk] at hr', h.wf, h.df, h.vl⟩
theorem Ext.weaken {m m' : Nat} (h : Ext (d + 1) m' g w g' w') (hm : m' ≤ m) : Ext d m g w g' w' := by
  refine ⟨h.gr, fun b κ hb ho => h.own b κ hb ?_, h.hs, h.nw, h.sl⟩
  cases κ with
  | obj => exact fun i hi => ho i (by omega)
  | ob b' j => exact fun i hi => ho i (by omega)
  | _ => exact Nat.lt_succ_of_lt ho
theorem core_ran {f : FuncId} {ps : List PV} {M M' : List (List PV)} {v : PV} {be : Bool} {S1 : St} {g1 : G} (h2 : Rel d nt e S1 g1 a w) (hrt : S1.rt = []) (hc : Con P be f ps M v M') (hv : v.noLoc = true) (hM : be = true ∧ e = none ∧ M = S1.mm ∨ be = false ∧ M = [])
    {vals : Array Value} (hvs : vals.size = ps.length) (hargs' : ∀ i p, ps[i]? = some p → ∃ u, vals[i]? = some u ∧ RepV g1 w (.ar (d + 1) i) p u) {dst : Option Nat} (hd : ∀ t, dst = some t → t < nt) :
    Calls P f vals w fun en w' => ∃ r g', en = .returned r ∧ Rel d nt e (setD ({ S1 with mm := bif be then M' else S1.mm } : St) dst v) g' (a.put dst r) w' ∧ Ext d S1.mm.length g1 w g' w' := by
  have hMR : MemRep g1 w M := by
    rcases hM with ⟨_, _, rfl⟩ | ⟨_, rfl⟩
    · exact fun i cs hi => h2.mm i cs hi
    · exact fun i cs hi => by simp at hi
  have hMl : be = true → M.length = g1.no := by
    intro hb
    rcases hM with ⟨_, rfl, rfl⟩ | ⟨h9, _⟩
    · exact h2.no
    · rw [hb] at h9; simp at h9
  have hMle : M.length ≤ S1.mm.length := by rcases hM with ⟨_, _, rfl⟩ | ⟨_, rfl⟩ <;> simp
  refine (hc (d + 1) g1 w _ hvs hargs' hMR hMl h2.wf).mono fun en w' hen => ?_
  obtain ⟨r, g2, rfl, hr, hMR', hMl', hMn, hw2, hext⟩ := hen
  -- back in the caller
  let g3 := g2.setLb g1.lb
  have hK : Keep (fun b k => ¬ Outer (d + 1) M.length g1 b k) g1 w g3 w' := ⟨hext.gr.trans (grow_lb g2 _), rfl, fun b k hb hx => hext.own b k hb (Classical.not_not.1 hx)⟩
  have hfar : ∀ b k, ¬ Outer (d + 1) M.length g1 b k → (∀ t, k ≠ .loc d t) ∧ (∀ t i, k ≠ .tm d t i) ∧ (∀ t j, k ≠ .lc d t j) ∧ (∀ i, k ≠ .vo d i) := by
    intro b k hx
    cases k with
    | loc d' t => refine ⟨fun t' hh => ?_, by simp, by simp, by simp⟩; simp only [Key.loc.injEq] at hh; exact hx (by rw [hh.1]; exact Nat.lt_succ_self d)
    | tm d' t i => refine ⟨by simp, fun t' i' hh => ?_, by simp, by simp⟩; simp only [Key.tm.injEq] at hh; exact hx (by rw [hh.1]; exact Nat.lt_succ_self d)
    | lc d' t i => refine ⟨by simp, by simp, fun t' i' hh => ?_, by simp⟩; simp only [Key.lc.injEq] at hh; exact hx (by rw [hh.1]; exact Nat.lt_succ_self d)
    | vo d' i => refine ⟨by simp, by simp, by simp, fun i' hh => ?_⟩; simp only [Key.vo.injEq] at hh; exact hx (by rw [hh.1]; exact Nat.lt_succ_self d)
    | _ => simp
  let S2 : St := { S1 with mm := bif be then M' else S1.mm }
  have h9 : Rel d nt e S2 g3 a w' := by
    rcases hM with ⟨rfl, rfl, rfl⟩ | ⟨rfl, rfl⟩
    · have k1 : Rel d nt (some g1.no) { S1 with mm := [] } g1 a w := h2.setM hrt (fun i cs hi => by simp at hi) ⟨rfl, rfl⟩
      have k2 : Rel d nt (some g3.no) { S1 with mm := [] } g3 a w' := k1.keepC hK ⟨rfl, rfl⟩ (fun b k hb hx => by
        obtain ⟨h9, h10, h11, h12⟩ := hfar b k hx
        exact ⟨.inl rfl, h9, fun t p i hk _ => (h10 t i hk).elim, fun t cs j c hk _ _ => (h11 t j hk).elim, fun k cs j c hk hl _ => by simp at hl, fun i p hk _ => (h12 i hk).elim⟩) hrt hw2.setLb
      exact k2.setM hrt (memRep_lb hMR') (hMl' rfl)
    · have k1 : Rel d nt e S2 g1 a w := h2.setM (M := S1.mm) hrt (fun i cs hi => h2.mm i cs hi) h2.no
      refine k1.keepC hK (by rw [show g3.no = g1.no from hMn rfl]; exact k1.no) (fun b k hb hx => ?_) hrt hw2.setLb
      obtain ⟨h9, h10, h11, h12⟩ := hfar b k hx
      refine ⟨.inr fun hh => ?_, h9, fun t p i hk _ => (h10 t i hk).elim, fun t cs j c hk _ _ => (h11 t j hk).elim, fun i cs j c hk hl _ => ?_, fun i p hk _ => (h12 i hk).elim⟩
      · subst hh; exact hx fun i hi => by simp at hi
      · subst hk; exact (hx fun i hi => by simp at hi).elim
  have hE3 : Ext d S1.mm.length g1 w g3 w' := by
    have := hext.weaken (d := d) hMle
    exact ⟨this.gr.trans (grow_lb g2 _), this.own, this.hs, this.nw, this.sl⟩
  -- the result's owned lists
  obtain ⟨us, hus, hback⟩ := repT_split hr
  obtain ⟨g4, h10, h11, h12, h13, h14, h15, h16⟩ := h9.moveCells (m := S1.mm.length) v.keys us (fun j => .rt (d + 1) j) (fun j => .tm d (dst.getD 0) j) (fun _ => Nat.le_succ d) (fun _ => Nat.le_refl d)
    (fun _ _ => ⟨fun _ _ _ hk => by simp at hk, fun _ _ _ _ hk => by simp at hk, fun _ _ _ _ hk => by simp at hk, fun _ _ hk => by simp at hk⟩) (fun i j hij => by simpa using hij) (fun i j hij => by simp at hij)
    (fun j c hj => repC_lb (hus j c hj))
  have hrT : RepT g4 w' (fun j => .tm d (dst.getD 0) j) v r := hback g4 w' _ ((grow_lb g2 _).trans h11.gr) hv h15
  have hE : Ext d S1.mm.length g1 w g4 w' := hE3.trans h11 fun i hi => (h2.mm i S1.mm[i] (List.getElem?_eq_getElem hi)).1
  refine ⟨r, g4, rfl, ?_, hE⟩
  cases dst with
  | none => exact h10
  | some t => exact h10.setT (hd t rfl) hrT
theorem call_ran {f : FuncId} {args : List Operand} {ps : List PV} {M M' : List (List PV)} {v : PV} {be : Bool} (h : Rel d nt e S g a w) (ha : argsOf S args = some ps) (ho : olOnce S args = true)
    (hc : Con P be f ps M v M') (hv : v.noLoc = true) (hM : be = true ∧ e = none ∧ M = S.mm ∨ be = false ∧ M = []) {dst : Option Nat} (hd : ∀ t, dst = some t → t < nt) :
    Calls P f (args.map a.eval).toArray w fun en w' => ∃ r g', en = .returned r ∧ Rel d nt e (setD ({ (useOl S args).noR with mm := bif be then M' else S.mm } : St) dst v) g' (a.put dst r) w' ∧ Ext d S.mm.length g w g' w' := by
  obtain ⟨hlen, hargs⟩ := argsOf_rep args h ha
  obtain ⟨h1, hmm, hlc⟩ := useOl_rel args h
  -- the owned lists go to the callee
  let ol : Nat → Bool := fun i => match ps[i]? with | some p => isLs p | none => false
  let κ : Nat → Key := fun i => match args[i]? with | some (.tmp t) => bif ol i then .tm d t 0 else .rt d i | _ => .rt d i
  have hvals : ∀ i x, args[i]? = some x → (args.map a.eval).toArray[i]? = some (a.eval x) := fun i x hx => by rw [List.getElem?_toArray, List.getElem?_map, hx]; rfl
  have holt : ∀ (i : Nat) (p : PV), ps[i]? = some p → isLs p = true → ∃ t T ys, args[i]? = some (Operand.tmp t) ∧ p = .ol T ys ∧ lk S.tm t = some p := by
    intro i p hp hi
    obtain ⟨x, hx, hxv, _⟩ := hargs i p hp
    cases p with
    | ol T ys =>
      cases x with
      | tmp t => exact ⟨t, T, ys, hx, rfl, hxv⟩
      | const c => exact (opv_const_ol hxv).elim
      | global n => exact (opv_global_ol hxv).elim
      | func n => simp [St.opv] at hxv
    | _ => simp [isLs] at hi
  have hκ : ∀ i, (ol i = true ∧ ∃ t p T ys, κ i = .tm d t 0 ∧ ps[i]? = some p ∧ args[i]? = some (Operand.tmp t) ∧ p = .ol T ys ∧ lk S.tm t = some p) ∨ κ i = .rt d i := by
    intro i
    cases hol : ol i with
    | false => right; simp only [κ, hol]; split <;> rfl
    | true =>
      left
      refine ⟨rfl, ?_⟩
      have hol' := hol
      simp only [ol] at hol'
      split at hol'
      · rename_i p hp
        obtain ⟨t, T, ys, h2, h3, h4⟩ := holt i p hp hol'
        exact ⟨t, p, T, ys, by simp only [κ, h2, hol, cond_true], hp, h2, h3, h4⟩
      · simp at hol'
  obtain ⟨g1, h2, h3, h4, h5, h6, h7, h8⟩ := h1.moveCells (m := S.mm.length) (ps.map fun p => bif isLs p then p else .gone) (fun i => ((args.map a.eval).toArray[i]?).getD undef) κ (fun i => .ar (d + 1) i)
    (fun i => by rcases hκ i with ⟨_, t, p, T, ys, h9, _⟩ | h9 <;> rw [h9] <;> exact Nat.le_refl d) (fun i => Nat.le_succ d)
    (fun i _ => by
      rcases hκ i with ⟨_, t, p, T, ys, h9, h10, h11, h12, h13⟩ | h9
      · rw [h9]
        subst h12
        have hg := useOl_gone args S t (List.mem_of_getElem? h11) ⟨T, ys, h13⟩
        refine ⟨fun t' q j hk hl => ?_, fun _ _ _ _ hk => by simp at hk, fun _ _ _ _ hk => by simp at hk, fun _ _ hk => by simp at hk⟩
        simp only [Key.tm.injEq, true_and] at hk
        obtain ⟨rfl, rfl⟩ := hk
        rw [hg] at hl
        simp only [Option.some.injEq] at hl
        subst hl
        exact olT_gone _
      · rw [h9]; exact ⟨fun _ _ _ hk => by simp at hk, fun _ _ _ _ hk => by simp at hk, fun _ _ _ _ hk => by simp at hk, fun _ _ hk => by simp at hk⟩)
    (fun i j hij => by
      rcases hκ i with ⟨_, t, p, T, ys, h9, h10, h11, h12, h13⟩ | h9 <;> rcases hκ j with ⟨_, t', p', T', ys', h9', h10', h11', h12', h13'⟩ | h9'
      · rw [h9, h9'] at hij
        simp only [Key.tm.injEq, true_and, and_true] at hij
        subst hij
        subst h12
        exact olOnce_inj args ho i j t h11 h11' ⟨T, ys, h13⟩
      · rw [h9, h9'] at hij; simp at hij
      · rw [h9, h9'] at hij; simp at hij
      · rw [h9, h9'] at hij; simpa using hij)
    (fun i j hij => by rcases hκ i with ⟨_, t, p, T, ys, h9, _⟩ | h9 <;> rw [h9] at hij <;> simp at hij)
    (fun i c hi => by
      simp only [List.getElem?_map, Option.map_eq_some_iff] at hi
      obtain ⟨p, hp, rfl⟩ := hi
      cases hol : isLs p with
      | false => trivial
      | true =>
        obtain ⟨t, T, ys, h9, h10, h11⟩ := holt i p hp hol
        have : κ i = .tm d t 0 := by
          have hoi : ol i = true := by simp only [ol, hp, hol]
          simp only [κ, h9, hoi, cond_true]
        rw [this, hvals i _ h9]
        subst h10
        exact (h.tm t _ h11).2)
  have hargs' : ∀ i p, ps[i]? = some p → ∃ u, (args.map a.eval).toArray[i]? = some u ∧ RepV g1 w (.ar (d + 1) i) p u := by
    intro i p hp
    obtain ⟨x, hx, hxv, hgood⟩ := hargs i p hp
    refine ⟨a.eval x, hvals i x hx, ?_⟩
    cases hol : isLs p with
    | true =>
      have := h7 i p (by simp [hp, hol])
      rw [hvals i x hx] at this
      cases p with
      | ol T ys => exact this
      | _ => simp [isLs] at hol
    | false =>
      rw [hol] at hgood
      have hdup := hgood.resolve_right (by simp)
      have h9 : RepV g w (.ar (d + 1) i) p (a.eval x) := dup_TV hdup.1 (opv_rep h hxv)
      exact h9.keep h8 fun hh => by rw [dup_own hdup.1] at hh; simp at hh
  refine (core_ran (S1 := (useOl S args).noR) (g1 := g1) h2.noR rfl hc hv (by rcases hM with ⟨k1, k2, k3⟩ | k1; exact .inl ⟨k1, k2, k3.trans hmm.symm⟩; exact .inr k1) (by simp [hlen]) hargs' hd).mono fun en w' hen => ?_
  obtain ⟨r, g4, k1, k2, k3⟩ := hen
  have e1 : ((useOl S args).noR).mm = S.mm := hmm
  rw [e1] at k2 k3
  exact ⟨r, g4, k1, k2, h3.trans' k3 h4 h5⟩
theorem clo_ran {f : FuncId} {args : List Operand} {ps : List PV} {caps : List (Nat × Nat)} {M' : List (List PV)} {v : PV} (h : Rel d nt none S g a w) (ha : argsOf S args = some ps) (hp : (ps.all fun p => p.dup && !p.isLoc) = true) (hcap : ∀ x ∈ caps, x.1 < g.no)
    (hc : Con P true f (ps ++ capP caps) S.mm v M') (hv : v.noLoc = true) {dst : Option Nat} (hd : ∀ t, dst = some t → t < nt) :
    Calls P f ((args.map a.eval) ++ caps.map fun x => Value.pointer (some ⟨g.oa x.1, x.2, none⟩)).toArray w fun en w' => ∃ r g', en = .returned r ∧ Rel d nt none (setD ({ S.noR with mm := M' } : St) dst v) g' (a.put dst r) w' ∧ Ext d S.mm.length g w g' w' := by
  obtain ⟨hlen, hargs⟩ := argsOf_rep args h ha
  refine core_ran (S1 := S.noR) (g1 := g) (be := true) (M := S.mm) h.noR rfl hc hv (.inl ⟨rfl, rfl, rfl⟩) (by simp [hlen, capP]) (fun i p hi => ?_) hd
  by_cases hlt : i < ps.length
  · rw [List.getElem?_append_left hlt] at hi
    obtain ⟨x, hx, hxv, _⟩ := hargs i p hi
    have hdup : p.dup = true := by
      rw [List.all_eq_true] at hp
      have := hp p (List.mem_of_getElem? hi)
      simp only [Bool.and_eq_true] at this
      exact this.1
    refine ⟨a.eval x, ?_, dup_TV hdup (opv_rep h hxv)⟩
    rw [List.getElem?_toArray, List.getElem?_append_left (by rw [List.length_map, hlen]; exact hlt), List.getElem?_map, hx]; rfl
  · rw [List.getElem?_append_right (by omega)] at hi
    unfold capP at hi
    rw [List.getElem?_map] at hi
    obtain ⟨x, hx, rfl⟩ := Option.map_eq_some_iff.1 hi
    refine ⟨.pointer (some ⟨g.oa x.1, x.2, none⟩), ?_, RepF.ad _ _ (hcap x (List.mem_of_getElem? hx))⟩
    rw [List.getElem?_toArray, List.getElem?_append_right (by rw [List.length_map]; omega), List.length_map, hlen, List.getElem?_map, hx]; rfl
theorem cloR_ran {f : FuncId} {args : List Operand} {ps : List PV} {caps : List (Nat × Nat)} {v : PV} (h : Rel d nt e S g a w) (hr : S.rt = []) (ha : argsOf S args = some ps) (hp : (ps.all fun p => p.dup && !p.isLoc) = true) (hcap : ∀ x ∈ caps, x.1 < g.no)
    (hc : (caps = [] ∧ Con P false f ps [] v []) ∨ (e = none ∧ Con P true f (ps ++ capP caps) S.mm v S.mm)) (hv : v.noLoc = true) {dst : Option Nat} (hd : ∀ t, dst = some t → t < nt) :
    Calls P f ((args.map a.eval) ++ caps.map fun x => Value.pointer (some ⟨g.oa x.1, x.2, none⟩)).toArray w fun en w' => ∃ r g', en = .returned r ∧ Rel d nt e (setD S dst v) g' (a.put dst r) w' ∧ Ext d S.mm.length g w g' w' := by
  obtain ⟨hlen, hargs⟩ := argsOf_rep args h ha
  have arg : ∀ (i : Nat) (p : PV), ps[i]? = some p → ∃ u, ((args.map a.eval) ++ caps.map fun x => Value.pointer (some ⟨g.oa x.1, x.2, none⟩)).toArray[i]? = some u ∧ RepV g w (.ar (d + 1) i) p u := by
    intro i p hi
    have hlt : i < ps.length := (List.getElem?_eq_some_iff.1 hi).1
    obtain ⟨x, hx, hxv, _⟩ := hargs i p hi
    have hdup : p.dup = true := by
      rw [List.all_eq_true] at hp
      have := hp p (List.mem_of_getElem? hi)
      simp only [Bool.and_eq_true] at this
      exact this.1
    refine ⟨a.eval x, ?_, dup_TV hdup (opv_rep h hxv)⟩
    rw [List.getElem?_toArray, List.getElem?_append_left (by rw [List.length_map, hlen]; exact hlt), List.getElem?_map, hx]; rfl
  rcases hc with ⟨rfl, hc⟩ | ⟨rfl, hc⟩
  · have := core_ran (vals := ((args.map a.eval) ++ ([] : List (Nat × Nat)).map fun x => Value.pointer (some ⟨g.oa x.1, x.2, none⟩)).toArray) (S1 := S) (g1 := g) (be := false) (M := []) h hr hc hv (.inr ⟨rfl, rfl⟩) (by simp [hlen]) arg hd
    exact this
  · have := core_ran (vals := ((args.map a.eval) ++ caps.map fun x => Value.pointer (some ⟨g.oa x.1, x.2, none⟩)).toArray) (S1 := S) (g1 := g) (be := true) (M := S.mm) h hr hc hv (.inl ⟨rfl, rfl, rfl⟩) (by simp [hlen, capP]) (fun i p hi => ?_) hd
    · exact this
    · by_cases hlt : i < ps.length
      · rw [List.getElem?_append_left hlt] at hi
        exact arg i p hi
      · rw [List.getElem?_append_right (by omega)] at hi
        unfold capP at hi
        rw [List.getElem?_map] at hi
        obtain ⟨x, hx, rfl⟩ := Option.map_eq_some_iff.1 hi
        refine ⟨.pointer (some ⟨g.oa x.1, x.2, none⟩), ?_, RepF.ad _ _ (hcap x (List.mem_of_getElem? hx))⟩
        rw [List.getElem?_toArray, List.getElem?_append_right (by rw [List.length_map]; omega), List.length_map, hlen, List.getElem?_map, hx]; rfl
end
end Go.KM
