/- Calls and regions of the abstract machine. Conditions: none. -/
import Derived.Test.YtojkcmefnmcpiaaGreatDoorKmLl
import Derived.BigCall
namespace Go.KM
open Go
open Fam (Dn dflt)
open Enc (cells sz mkE glob gany u8)
set_option autoImplicit false
set_option linter.unusedVariables false
set_option linter.unusedSimpArgs false
set_option linter.unusedSectionVars false
section
section
variable [Enc] {d nt : Nat} {e : Option Nat} {S : St} {g g' : G} {a : Act} {w w' : World} {P : Program}
def MemRep (g : G) (w : World) (M : List (List PV)) : Prop :=
 ∀ i cs, M[i]? = some cs → i < g.no ∧ g.own (g.oa i) = some .obj ∧ ∃ C E, w.heap[g.oa i]? = some (.cells C E (0, 0)) ∧ RepK g w (Key.ob (g.oa i)) cs C
def Con (P : Program) (e : Bool) (f : FuncId) (args : List PV) (M : List (List PV)) (v : PV) (M' : List (List PV)) : Prop :=
 ∀ (d : Nat) (g : G) (w : World) (vals : Array Value), vals.size = args.length → (∀ i p, args[i]? = some p → ∃ u, vals[i]? = some u ∧ RepV g w (.ar d i) p u) → MemRep g w M → (e = true → M.length = g.no) → WF g w →
  Calls P f vals w fun en w' => ∃ r g', en = .returned r ∧ RepT g' w' (Key.rt d) v r ∧ MemRep g' w' M' ∧ (e = true → M'.length = g'.no) ∧ (e = false → g'.no = g.no) ∧ WF g' w' ∧ Ext d M.length g w g' w'
def VlRep (d : Nat) (g : G) (w : World) (cs : List PV) : Prop := ∀ i p, cs[i]? = some p → ∃ v, g.va i = some v ∧ RepC g w (Key.vo d i) p v
def ConW (P : Program) (f : FuncId) (args cs : List PV) (v : PV) (cs' : List PV) : Prop :=
 ∀ (d : Nat) (g : G) (w : World) (vals : Array Value), vals.size = args.length → (∀ i p, args[i]? = some p → ∃ u, vals[i]? = some u ∧ RepV g w (.ar d i) p u) → VlRep d g w cs → WF g w →
  Calls P f vals w fun en w' => ∃ r g', en = .returned r ∧ RepT g' w' (Key.rt d) v r ∧ VlRep d g' w' cs' ∧ g'.no = g.no ∧ WF g' w' ∧ Ext d 0 g w g' w'
def PV.noLoc : PV → Bool
 | .ad (.loc _) _ => false
 | .tup vs => vs.all fun p => !p.isLoc
 | _ => true
def Real (P : Program) (f : FuncId) : Prop := ∃ fn, P.funcs[f]? = some fn ∧ (fn.name == "runtime.NumGoroutine") = false ∧ fn.body.isNone = false
structure CTabOk (P : Program) (C : CTab) : Prop where
 A : ∀ f ps (β : Type) (K : PV → Option β) r, C.isA f = true → C.A f ps β K = some r → Real P f ∧ ∃ v, Con P false f ps [] v [] ∧ v.noLoc = true ∧ K v = some r
 B : ∀ f ps M (β : Type) (K : PV → List (List PV) → Option β) r, C.isA f = false → C.B f ps M β K = some r → Real P f ∧ ∃ v M', Con P true f ps M v M' ∧ v.noLoc = true ∧ K v M' = some r
 W : ∀ f ps cs (β : Type) (K : PV → List PV → Option β) r, C.isW f = true → C.W f ps cs β K = some r → Real P f ∧ ∃ v cs', ConW P f ps cs v cs' ∧ K v cs' = some r
theorem dup_TV {p : PV} (hp : p.dup = true) {κ : Nat → Key} {κ' : Key} {v : Value} (h : RepT g w κ p v) : RepV g w κ' p v := by
 cases p with
 | tup vs => simp [PV.dup, PV.plain] at hp
 | st cs =>
  obtain ⟨A, h1, h2, h3⟩ := h
  refine ⟨A, h1, h2, fun j c hj => ?_⟩
  obtain ⟨u, h4, h5⟩ := h3 j c hj
  exact ⟨u, by simpa using h4, (plain_key (all_plain hp hj)).1 h5⟩
 | fa T x off => exact h
 | ad b off => cases b <;> exact h
 | _ => simp_all [PV.dup, PV.plain, RepT, RepV, RepC]
theorem dup_TTV {p : PV} (hp : p.dup = true) {κ : Nat → Key} {κ' : Key} {v : Value} (h : RepV g w κ' p v) : RepT g w κ p v := by
 cases p with
 | tup vs => simp [PV.dup, PV.plain] at hp
 | st cs =>
  obtain ⟨A, h1, h2, h3⟩ := h
  refine ⟨A, h1, h2, fun j c hj => ?_⟩
  obtain ⟨u, h4, h5⟩ := h3 j c hj
  exact ⟨u, by simpa using h4, (plain_key (all_plain hp hj)).2 h5⟩
 | fa T x off => exact h
 | ad b off => cases b <;> exact h
 | _ => simp_all [PV.dup, PV.plain, RepT, RepV, RepC]
theorem noLoc_locs {p : PV} (h : p.noLoc = true) : locs p = false := by
 cases p with
 | tup vs =>
  simp only [PV.noLoc, List.all_eq_true, Bool.not_eq_true'] at h
  simp only [locs, List.any_eq_false]
  intro p hp
  rw [h p hp]; simp
 | ad b off => cases b <;> simp_all [PV.noLoc, locs]
 | _ => rfl
theorem repT_split {p : PV} {v : Value} {κ : Nat → Key} (h : RepT g w κ p v) : ∃ us : Nat → Value, (∀ j c, p.keys[j]? = some c → RepC g w (κ j) c (us j)) ∧
  ∀ (g' : G) (w' : World) (κ' : Nat → Key), Grow g g' → p.noLoc = true → (∀ j c, p.keys[j]? = some c → RepC g' w' (κ' j) c (us j)) → RepT g' w' κ' p v := by
 obtain ⟨us, h1, h2⟩ := repT_split' h
 exact ⟨us, h1, fun g' w' κ' hG hn hc => h2 g' w' κ' hG (.inl (noLoc_locs hn)) hc⟩
theorem argsOf_rep : ∀ (xs : List Operand) {S : St} {ps : List PV}, Rel d nt e S g a w → argsOf S xs = some ps → xs.length = ps.length ∧
  ∀ (i : Nat) (p : PV), ps[i]? = some p → ∃ x, xs[i]? = some x ∧ S.opv x = some p ∧ ((p.dup = true ∧ p.isLoc = false) ∨ isLs p = true) := by
 intro xs
 induction xs with
 | nil => intro S ps h ho; simp only [argsOf, Option.some.injEq] at ho; subst ho; exact ⟨rfl, by simp⟩
 | cons x r ih =>
  intro S ps h ho
  simp only [argsOf] at ho
  split at ho
  ·rename_i p hx
   cases hg : (p.dup && !p.isLoc || isLs p) with
   | false => simp [hg] at ho
   | true =>
    simp only [hg, cond_true] at ho
    split at ho
    ·rename_i qs hqs
     simp only [Option.some.injEq] at ho
     subst ho
     obtain ⟨h1, h2⟩ := ih h hqs
     refine ⟨by simp [h1], fun i q hi => ?_⟩
     cases i with
     | zero =>
      simp only [List.getElem?_cons_zero, Option.some.injEq] at hi
      subst hi
      simp only [Bool.or_eq_true, Bool.and_eq_true, Bool.not_eq_true'] at hg
      exact ⟨x, rfl, hx, hg⟩
     | succ i =>
      simp only [List.getElem?_cons_succ] at hi ⊢
      exact h2 i q hi
    ·simp at ho
  ·simp at ho
theorem useOl_gone : ∀ (xs : List Operand) (S : St) (t : Nat), Operand.tmp t ∈ xs → (∃ T ys, lk S.tm t = some (.ol T ys)) → lk (useOl S xs).tm t = some .gone := by
 intro xs
 induction xs with
 | nil => intro S t h; simp at h
 | cons x r ih =>
  intro S t hm hol
  have keep : ∀ (l : List Operand) (S : St), lk S.tm t = some .gone → lk (useOl S l).tm t = some .gone := by
   intro l
   induction l with
   | nil => intro S h; exact h
   | cons y l ihl =>
    intro S h
    cases y with
    | tmp u =>
     simp only [useOl]
     split
     ·rename_i T ys hu
      refine ihl _ ?_
      show lk ((u, PV.gone) :: S.tm) t = _
      rw [lk_cons]; split
      ·rfl
      ·exact h
     ·exact ihl _ h
    | _ => exact ihl _ h
  cases x with
  | tmp u =>
   simp only [useOl]
   by_cases hut : u = t
   ·subst hut
    obtain ⟨T, ys, hu⟩ := hol
    simp only [hu]
    refine keep r _ ?_
    show lk ((u, PV.gone) :: S.tm) u = _
    rw [lk_cons, if_pos rfl]
   ·have hm' : .tmp t ∈ r := by simpa [Ne.symm hut] using hm
    split
    ·refine ih _ t hm' ?_
     obtain ⟨T, ys, hu⟩ := hol
     refine ⟨T, ys, ?_⟩
     show lk ((u, PV.gone) :: S.tm) t = _
     rw [lk_cons, if_neg hut]; exact hu
    ·exact ih _ t hm' hol
  | _ => exact ih _ t (by simpa using hm) hol
theorem useOl_rel : ∀ (xs : List Operand) {S : St}, Rel d nt e S g a w → Rel d nt e (useOl S xs) g a w ∧ (useOl S xs).mm = S.mm ∧ (useOl S xs).lc = S.lc := by
 intro xs
 induction xs with
 | nil => intro S h; exact ⟨h, rfl, rfl⟩
 | cons x r ih =>
  intro S h
  cases x with
  | tmp u =>
   simp only [useOl]
   split
   ·rename_i T ys hu
    exact ih (h.gone (h.tm u _ hu).1)
   ·exact ih h
  | _ => exact ih h
theorem olOnce_inj : ∀ (xs : List Operand) {S : St}, olOnce S xs = true → ∀ (i j t : Nat), xs[i]? = some (Operand.tmp t) → xs[j]? = some (Operand.tmp t) → (∃ T ys, lk S.tm t = some (.ol T ys)) → i = j := by
 intro xs
 induction xs with
 | nil => intro S _ i j t h; simp at h
 | cons x r ih =>
  intro S ho i j t hi hj hol
  have hr : olOnce S r = true := by cases x <;> simp only [olOnce, Bool.and_eq_true] at ho <;> first | exact ho.2 | exact ho
  have hhead : ∀ k : Nat, x = Operand.tmp t → r[k]? = some (Operand.tmp t) → False := by
   intro k hx hk
   subst hx
   simp only [olOnce, Bool.and_eq_true] at ho
   obtain ⟨T, ys, hu⟩ := hol
   rw [hu] at ho
   simp only [Bool.not_eq_true', List.any_eq_false] at ho
   have := ho.1 _ (List.mem_of_getElem? hk)
   simp at this
  cases i with
  | zero => cases j with
   | zero => rfl
   | succ j => simp only [List.getElem?_cons_zero, Option.some.injEq, List.getElem?_cons_succ] at hi hj; exact (hhead j hi hj).elim
  | succ i => cases j with
   | zero => simp only [List.getElem?_cons_zero, Option.some.injEq, List.getElem?_cons_succ] at hi hj; exact (hhead i hj hi).elim
   | succ j => simp only [List.getElem?_cons_succ] at hi hj; rw [ih hr i j t hi hj hol]
theorem dup_own {p : PV} (h : p.dup = true) : isOl p = false := by
 cases p <;> first | rfl | (simp [PV.dup, PV.plain] at h; done)
def G.setLb (g : G) (l : Nat → Nat) : G := { g with lb := l }
theorem grow_lb (g : G) (l : Nat → Nat) : Grow g (g.setLb l) := ⟨fun _ _ h => h, Nat.le_refl _, fun _ _ => rfl, fun _ _ _ => rfl, rfl, fun _ _ => rfl⟩
theorem repC_lb {l : Nat → Nat} {κ : Key} {p : PV} {v : Value} (h : RepC g w κ p v) : RepC (g.setLb l) w κ p v := by
 cases p with
 | ol T xs => obtain ⟨vs, h1, h2, h3⟩ := h; exact ⟨vs, h1, h2, fun i x hi => (h3 i x hi).mono (grow_lb g l)⟩
 | mp U es => obtain ⟨r, ms, ck, h1, h2, h3, h4, h5⟩ := h; exact ⟨r, ms, ck, h1, h2, h3, h4, fun i x hi => let ⟨q, a1, a2, c, a3, a4⟩ := h5 i x hi; ⟨q, a1, a2, c, a3, a4.mono (grow_lb g l)⟩⟩
 | gone => trivial
 | _ => exact RepF.mono (grow_lb g l) h
theorem memRep_lb {l : Nat → Nat} {M : List (List PV)} (h : MemRep g w M) : MemRep (g.setLb l) w M := fun i cs hi =>
 let ⟨h1, h2, C, E, h3, h4⟩ := h i cs hi
 ⟨h1, h2, C, E, h3, h4.1, fun j c hj => let ⟨u, h5, h6⟩ := h4.2 j c hj; ⟨u, h5, repC_lb h6⟩⟩
theorem WF.setLb {l : Nat → Nat} (h : WF g w) : WF (g.setLb l) w := ⟨gl_mono (grow_lb g l) h.gl, h.own, h.fz, h.ob, h.ol, h.inj, h.oe⟩
theorem Rel.keepC {X : Nat → Key → Prop} {e' : Option Nat} (h : Rel d nt e S g a w) (hk : Keep X g w g' w') (hno : NoOk e' S.mm.length g'.no)
  (hX : ∀ b κ, g.own b = some κ → X b κ → (S.mm = [] ∨ κ ≠ .obj) ∧ (∀ t, κ ≠ .loc d t) ∧ Free d S g κ) (hr : S.rt = []) (hw : WF g' w') : Rel d nt e' S g' a w' :=
 h.keepC' hk hno (fun b κ h1 h2 => let ⟨h3, h4, h5⟩ := hX b κ h1 h2; ⟨h3, fun t _ _ => h4 t, h5⟩) hr hw
theorem Rel.setM {e' : Option Nat} {M : List (List PV)} (h : Rel d nt e S g a w) (hr : S.rt = []) (hM : MemRep g w M) (hno : NoOk e' M.length g.no) : Rel d nt e' { S with mm := M } g a w :=
 ⟨h.sz, h.tm, h.lc, hM, hno, fun t r hr' => by rw [show ({ S with mm := M } : St).rt = S.rt from rfl, hr] at hr'; simp [lk] at hr', h.wf, h.df, h.vl⟩
theorem Ext.weaken {m m' : Nat} (h : Ext (d + 1) m' g w g' w') (hm : m' ≤ m) : Ext d m g w g' w' := by
 refine ⟨h.gr, fun b κ hb ho => h.own b κ hb ?_, h.hs, h.nw, h.sl⟩
 cases κ with
 | obj => exact fun i hi => ho i (by omega)
 | ob b' j => exact fun i hi => ho i (by omega)
 | _ => exact Nat.lt_succ_of_lt ho
theorem core_ran {f : FuncId} {ps : List PV} {M M' : List (List PV)} {v : PV} {be : Bool} {S1 : St} {g1 : G} (h2 : Rel d nt e S1 g1 a w) (hrt : S1.rt = []) (hc : Con P be f ps M v M') (hv : v.noLoc = true) (hM : be = true ∧ e = none ∧ M = S1.mm ∨ be = false ∧ M = [])
  {vals : Array Value} (hvs : vals.size = ps.length) (hargs' : ∀ i p, ps[i]? = some p → ∃ u, vals[i]? = some u ∧ RepV g1 w (.ar (d + 1) i) p u) {dst : Option Nat} (hd : ∀ t, dst = some t → t < nt) :
  Calls P f vals w fun en w' => ∃ r g', en = .returned r ∧ Rel d nt e (setD ({ S1 with mm := bif be then M' else S1.mm } : St) dst v) g' (a.put dst r) w' ∧ Ext d S1.mm.length g1 w g' w' := by
 have hMR : MemRep g1 w M := by
  rcases hM with ⟨_, _, rfl⟩ | ⟨_, rfl⟩
  ·exact fun i cs hi => h2.mm i cs hi
  ·exact fun i cs hi => by simp at hi
 have hMl : be = true → M.length = g1.no := by
  intro hb
  rcases hM with ⟨_, rfl, rfl⟩ | ⟨h9, _⟩
  ·exact h2.no
  ·rw [hb] at h9; simp at h9
 have hMle : M.length ≤ S1.mm.length := by rcases hM with ⟨_, _, rfl⟩ | ⟨_, rfl⟩ <;> simp
 refine (hc (d + 1) g1 w _ hvs hargs' hMR hMl h2.wf).mono fun en w' hen => ?_
 obtain ⟨r, g2, rfl, hr, hMR', hMl', hMn, hw2, hext⟩ := hen
 -- back in the caller
 let g3 := g2.setLb g1.lb
 have hK : Keep (fun b k => ¬ Outer (d + 1) M.length g1 b k) g1 w g3 w' := ⟨hext.gr.trans (grow_lb g2 _), rfl, fun b k hb hx => hext.own b k hb (Classical.not_not.1 hx)⟩
 have hfar : ∀ b k, ¬ Outer (d + 1) M.length g1 b k → (∀ t, k ≠ .loc d t) ∧ (∀ t i, k ≠ .tm d t i) ∧ (∀ t j, k ≠ .lc d t j) ∧ (∀ i, k ≠ .vo d i) := by
  intro b k hx
  cases k with
  | loc d' t => refine ⟨fun t' hh => ?_, by simp, by simp, by simp⟩; simp only [Key.loc.injEq] at hh; exact hx (by rw [hh.1]; exact Nat.lt_succ_self d)
  | tm d' t i => refine ⟨by simp, fun t' i' hh => ?_, by simp, by simp⟩; simp only [Key.tm.injEq] at hh; exact hx (by rw [hh.1]; exact Nat.lt_succ_self d)
  | lc d' t i => refine ⟨by simp, by simp, fun t' i' hh => ?_, by simp⟩; simp only [Key.lc.injEq] at hh; exact hx (by rw [hh.1]; exact Nat.lt_succ_self d)
  | vo d' i => refine ⟨by simp, by simp, by simp, fun i' hh => ?_⟩; simp only [Key.vo.injEq] at hh; exact hx (by rw [hh.1]; exact Nat.lt_succ_self d)
  | _ => simp
 let S2 : St := { S1 with mm := bif be then M' else S1.mm }
 have h9 : Rel d nt e S2 g3 a w' := by
  rcases hM with ⟨rfl, rfl, rfl⟩ | ⟨rfl, rfl⟩
  ·have k1 : Rel d nt (some g1.no) { S1 with mm := [] } g1 a w := h2.setM hrt (fun i cs hi => by simp at hi) ⟨rfl, rfl⟩
   have k2 : Rel d nt (some g3.no) { S1 with mm := [] } g3 a w' := k1.keepC hK ⟨rfl, rfl⟩ (fun b k hb hx => by
    obtain ⟨h9, h10, h11, h12⟩ := hfar b k hx
    exact ⟨.inl rfl, h9, fun t p i hk _ => (h10 t i hk).elim, fun t cs j c hk _ _ => (h11 t j hk).elim, fun k cs j c hk hl _ => by simp at hl, fun i p hk _ => (h12 i hk).elim⟩) hrt hw2.setLb
   exact k2.setM hrt (memRep_lb hMR') (hMl' rfl)
  ·have k1 : Rel d nt e S2 g1 a w := h2.setM (M := S1.mm) hrt (fun i cs hi => h2.mm i cs hi) h2.no
   refine k1.keepC hK (by rw [show g3.no = g1.no from hMn rfl]; exact k1.no) (fun b k hb hx => ?_) hrt hw2.setLb
   obtain ⟨h9, h10, h11, h12⟩ := hfar b k hx
   refine ⟨.inr fun hh => ?_, h9, fun t p i hk _ => (h10 t i hk).elim, fun t cs j c hk _ _ => (h11 t j hk).elim, fun i cs j c hk hl _ => ?_, fun i p hk _ => (h12 i hk).elim⟩
   ·subst hh; exact hx fun i hi => by simp at hi
   ·subst hk; exact (hx fun i hi => by simp at hi).elim
 have hE3 : Ext d S1.mm.length g1 w g3 w' := by
  have := hext.weaken (d := d) hMle
  exact ⟨this.gr.trans (grow_lb g2 _), this.own, this.hs, this.nw, this.sl⟩
 -- the result's owned lists
 obtain ⟨us, hus, hback⟩ := repT_split hr
 obtain ⟨g4, h10, h11, h12, h13, h14, h15, h16⟩ := h9.moveCells (m := S1.mm.length) v.keys us (fun j => .rt (d + 1) j) (fun j => .tm d (dst.getD 0) j) (fun _ => Nat.le_succ d) (fun _ => Nat.le_refl d)
  (fun _ _ => ⟨fun _ _ _ hk => by simp at hk, fun _ _ _ _ hk => by simp at hk, fun _ _ _ _ hk => by simp at hk, fun _ _ hk => by simp at hk⟩) (fun i j hij => by simpa using hij) (fun i j hij => by simp at hij)
  (fun j c hj => repC_lb (hus j c hj))
 have hrT : RepT g4 w' (fun j => .tm d (dst.getD 0) j) v r := hback g4 w' _ ((grow_lb g2 _).trans h11.gr) hv h15
 have hE : Ext d S1.mm.length g1 w g4 w' := hE3.trans h11 fun i hi => (h2.mm i S1.mm[i] (List.getElem?_eq_getElem hi)).1
 refine ⟨r, g4, rfl, ?_, hE⟩
 cases dst with
 | none => exact h10
 | some t => exact h10.setT (hd t rfl) hrT
theorem call_ran {f : FuncId} {args : List Operand} {ps : List PV} {M M' : List (List PV)} {v : PV} {be : Bool} (h : Rel d nt e S g a w) (ha : argsOf S args = some ps) (ho : olOnce S args = true)
  (hc : Con P be f ps M v M') (hv : v.noLoc = true) (hM : be = true ∧ e = none ∧ M = S.mm ∨ be = false ∧ M = []) {dst : Option Nat} (hd : ∀ t, dst = some t → t < nt) :
  Calls P f (args.map a.eval).toArray w fun en w' => ∃ r g', en = .returned r ∧ Rel d nt e (setD ({ (useOl S args).noR with mm := bif be then M' else S.mm } : St) dst v) g' (a.put dst r) w' ∧ Ext d S.mm.length g w g' w' := by
 obtain ⟨hlen, hargs⟩ := argsOf_rep args h ha
 obtain ⟨h1, hmm, hlc⟩ := useOl_rel args h
 -- the owned lists go to the callee
 let ol : Nat → Bool := fun i => match ps[i]? with | some p => isLs p | none => false
 let κ : Nat → Key := fun i => match args[i]? with | some (.tmp t) => bif ol i then .tm d t 0 else .rt d i | _ => .rt d i
 have hvals : ∀ i x, args[i]? = some x → (args.map a.eval).toArray[i]? = some (a.eval x) := fun i x hx => by rw [List.getElem?_toArray, List.getElem?_map, hx]; rfl
 have holt : ∀ (i : Nat) (p : PV), ps[i]? = some p → isLs p = true → ∃ t T ys, args[i]? = some (Operand.tmp t) ∧ p = .ol T ys ∧ lk S.tm t = some p := by
  intro i p hp hi
  obtain ⟨x, hx, hxv, _⟩ := hargs i p hp
  cases p with
  | ol T ys =>
   cases x with
   | tmp t => exact ⟨t, T, ys, hx, rfl, hxv⟩
   | const c => exact (opv_const_ol hxv).elim
   | global n => exact (opv_global_ol hxv).elim
   | func n => simp [St.opv] at hxv
  | _ => simp [isLs] at hi
 have hκ : ∀ i, (ol i = true ∧ ∃ t p T ys, κ i = .tm d t 0 ∧ ps[i]? = some p ∧ args[i]? = some (Operand.tmp t) ∧ p = .ol T ys ∧ lk S.tm t = some p) ∨ κ i = .rt d i := by
  intro i
  cases hol : ol i with
  | false => right; simp only [κ, hol]; split <;> rfl
  | true =>
   left
   refine ⟨rfl, ?_⟩
   have hol' := hol
   simp only [ol] at hol'
   split at hol'
   ·rename_i p hp
    obtain ⟨t, T, ys, h2, h3, h4⟩ := holt i p hp hol'
    exact ⟨t, p, T, ys, by simp only [κ, h2, hol, cond_true], hp, h2, h3, h4⟩
   ·simp at hol'
 obtain ⟨g1, h2, h3, h4, h5, h6, h7, h8⟩ := h1.moveCells (m := S.mm.length) (ps.map fun p => bif isLs p then p else .gone) (fun i => ((args.map a.eval).toArray[i]?).getD undef) κ (fun i => .ar (d + 1) i)
  (fun i => by rcases hκ i with ⟨_, t, p, T, ys, h9, _⟩ | h9 <;> rw [h9] <;> exact Nat.le_refl d) (fun i => Nat.le_succ d)
  (fun i _ => by
   rcases hκ i with ⟨_, t, p, T, ys, h9, h10, h11, h12, h13⟩ | h9
   ·rw [h9]
    subst h12
    have hg := useOl_gone args S t (List.mem_of_getElem? h11) ⟨T, ys, h13⟩
    refine ⟨fun t' q j hk hl => ?_, fun _ _ _ _ hk => by simp at hk, fun _ _ _ _ hk => by simp at hk, fun _ _ hk => by simp at hk⟩
    simp only [Key.tm.injEq, true_and] at hk
    obtain ⟨rfl, rfl⟩ := hk
    rw [hg] at hl
    simp only [Option.some.injEq] at hl
    subst hl
    exact olT_gone _
   ·rw [h9]; exact ⟨fun _ _ _ hk => by simp at hk, fun _ _ _ _ hk => by simp at hk, fun _ _ _ _ hk => by simp at hk, fun _ _ hk => by simp at hk⟩)
  (fun i j hij => by
   rcases hκ i with ⟨_, t, p, T, ys, h9, h10, h11, h12, h13⟩ | h9 <;> rcases hκ j with ⟨_, t', p', T', ys', h9', h10', h11', h12', h13'⟩ | h9'
   ·rw [h9, h9'] at hij
    simp only [Key.tm.injEq, true_and, and_true] at hij
    subst hij
    subst h12
    exact olOnce_inj args ho i j t h11 h11' ⟨T, ys, h13⟩
   ·rw [h9, h9'] at hij; simp at hij
   ·rw [h9, h9'] at hij; simp at hij
   ·rw [h9, h9'] at hij; simpa using hij)
  (fun i j hij => by rcases hκ i with ⟨_, t, p, T, ys, h9, _⟩ | h9 <;> rw [h9] at hij <;> simp at hij)
  (fun i c hi => by
   simp only [List.getElem?_map, Option.map_eq_some_iff] at hi
   obtain ⟨p, hp, rfl⟩ := hi
   cases hol : isLs p with
   | false => trivial
   | true =>
    obtain ⟨t, T, ys, h9, h10, h11⟩ := holt i p hp hol
    have : κ i = .tm d t 0 := by
     have hoi : ol i = true := by simp only [ol, hp, hol]
     simp only [κ, h9, hoi, cond_true]
    rw [this, hvals i _ h9]
    subst h10
    exact (h.tm t _ h11).2)
 have hargs' : ∀ i p, ps[i]? = some p → ∃ u, (args.map a.eval).toArray[i]? = some u ∧ RepV g1 w (.ar (d + 1) i) p u := by
  intro i p hp
  obtain ⟨x, hx, hxv, hgood⟩ := hargs i p hp
  refine ⟨a.eval x, hvals i x hx, ?_⟩
  cases hol : isLs p with
  | true =>
   have := h7 i p (by simp [hp, hol])
   rw [hvals i x hx] at this
   cases p with
   | ol T ys => exact this
   | _ => simp [isLs] at hol
  | false =>
   rw [hol] at hgood
   have hdup := hgood.resolve_right (by simp)
   have h9 : RepV g w (.ar (d + 1) i) p (a.eval x) := dup_TV hdup.1 (opv_rep h hxv)
   exact h9.keep h8 fun hh => by rw [dup_own hdup.1] at hh; simp at hh
 refine (core_ran (S1 := (useOl S args).noR) (g1 := g1) h2.noR rfl hc hv (by rcases hM with ⟨k1, k2, k3⟩ | k1; exact .inl ⟨k1, k2, k3.trans hmm.symm⟩; exact .inr k1) (by simp [hlen]) hargs' hd).mono fun en w' hen => ?_
 obtain ⟨r, g4, k1, k2, k3⟩ := hen
 have e1 : ((useOl S args).noR).mm = S.mm := hmm
 rw [e1] at k2 k3
 exact ⟨r, g4, k1, k2, h3.trans' k3 h4 h5⟩
theorem clo_ran {f : FuncId} {args : List Operand} {ps : List PV} {caps : List (Nat × Nat)} {M' : List (List PV)} {v : PV} (h : Rel d nt none S g a w) (ha : argsOf S args = some ps) (hp : (ps.all fun p => p.dup && !p.isLoc) = true) (hcap : ∀ x ∈ caps, x.1 < g.no)
  (hc : Con P true f (ps ++ capP caps) S.mm v M') (hv : v.noLoc = true) {dst : Option Nat} (hd : ∀ t, dst = some t → t < nt) :
  Calls P f ((args.map a.eval) ++ caps.map fun x => Value.pointer (some ⟨g.oa x.1, x.2, none⟩)).toArray w fun en w' => ∃ r g', en = .returned r ∧ Rel d nt none (setD ({ S.noR with mm := M' } : St) dst v) g' (a.put dst r) w' ∧ Ext d S.mm.length g w g' w' := by
 obtain ⟨hlen, hargs⟩ := argsOf_rep args h ha
 refine core_ran (S1 := S.noR) (g1 := g) (be := true) (M := S.mm) h.noR rfl hc hv (.inl ⟨rfl, rfl, rfl⟩) (by simp [hlen, capP]) (fun i p hi => ?_) hd
 by_cases hlt : i < ps.length
 ·rw [List.getElem?_append_left hlt] at hi
  obtain ⟨x, hx, hxv, _⟩ := hargs i p hi
  have hdup : p.dup = true := by
   rw [List.all_eq_true] at hp
   have := hp p (List.mem_of_getElem? hi)
   simp only [Bool.and_eq_true] at this
   exact this.1
  refine ⟨a.eval x, ?_, dup_TV hdup (opv_rep h hxv)⟩
  rw [List.getElem?_toArray, List.getElem?_append_left (by rw [List.length_map, hlen]; exact hlt), List.getElem?_map, hx]; rfl
 ·rw [List.getElem?_append_right (by omega)] at hi
  unfold capP at hi
  rw [List.getElem?_map] at hi
  obtain ⟨x, hx, rfl⟩ := Option.map_eq_some_iff.1 hi
  refine ⟨.pointer (some ⟨g.oa x.1, x.2, none⟩), ?_, RepF.ad _ _ (hcap x (List.mem_of_getElem? hx))⟩
  rw [List.getElem?_toArray, List.getElem?_append_right (by rw [List.length_map]; omega), List.length_map, hlen, List.getElem?_map, hx]; rfl
theorem cloR_ran {f : FuncId} {args : List Operand} {ps : List PV} {caps : List (Nat × Nat)} {v : PV} (h : Rel d nt e S g a w) (hr : S.rt = []) (ha : argsOf S args = some ps) (hp : (ps.all fun p => p.dup && !p.isLoc) = true) (hcap : ∀ x ∈ caps, x.1 < g.no)
  (hc : (caps = [] ∧ Con P false f ps [] v []) ∨ (e = none ∧ Con P true f (ps ++ capP caps) S.mm v S.mm)) (hv : v.noLoc = true) {dst : Option Nat} (hd : ∀ t, dst = some t → t < nt) :
  Calls P f ((args.map a.eval) ++ caps.map fun x => Value.pointer (some ⟨g.oa x.1, x.2, none⟩)).toArray w fun en w' => ∃ r g', en = .returned r ∧ Rel d nt e (setD S dst v) g' (a.put dst r) w' ∧ Ext d S.mm.length g w g' w' := by
 obtain ⟨hlen, hargs⟩ := argsOf_rep args h ha
 have arg : ∀ (i : Nat) (p : PV), ps[i]? = some p → ∃ u, ((args.map a.eval) ++ caps.map fun x => Value.pointer (some ⟨g.oa x.1, x.2, none⟩)).toArray[i]? = some u ∧ RepV g w (.ar (d + 1) i) p u := by
  intro i p hi
  have hlt : i < ps.length := (List.getElem?_eq_some_iff.1 hi).1
  obtain ⟨x, hx, hxv, _⟩ := hargs i p hi
  have hdup : p.dup = true := by
   rw [List.all_eq_true] at hp
   have := hp p (List.mem_of_getElem? hi)
   simp only [Bool.and_eq_true] at this
   exact this.1
  refine ⟨a.eval x, ?_, dup_TV hdup (opv_rep h hxv)⟩
  rw [List.getElem?_toArray, List.getElem?_append_left (by rw [List.length_map, hlen]; exact hlt), List.getElem?_map, hx]; rfl
 rcases hc with ⟨rfl, hc⟩ | ⟨rfl, hc⟩
 ·have := core_ran (vals := ((args.map a.eval) ++ ([] : List (Nat × Nat)).map fun x => Value.pointer (some ⟨g.oa x.1, x.2, none⟩)).toArray) (S1 := S) (g1 := g) (be := false) (M := []) h hr hc hv (.inr ⟨rfl, rfl⟩) (by simp [hlen]) arg hd
  exact this
 ·have := core_ran (vals := ((args.map a.eval) ++ caps.map fun x => Value.pointer (some ⟨g.oa x.1, x.2, none⟩)).toArray) (S1 := S) (g1 := g) (be := true) (M := S.mm) h hr hc hv (.inl ⟨rfl, rfl, rfl⟩) (by simp [hlen, capP]) (fun i p hi => ?_) hd
  ·exact this
  ·by_cases hlt : i < ps.length
   ·rw [List.getElem?_append_left hlt] at hi
    exact arg i p hi
   ·rw [List.getElem?_append_right (by omega)] at hi
    unfold capP at hi
    rw [List.getElem?_map] at hi
    obtain ⟨x, hx, rfl⟩ := Option.map_eq_some_iff.1 hi
    refine ⟨.pointer (some ⟨g.oa x.1, x.2, none⟩), ?_, RepF.ad _ _ (hcap x (List.mem_of_getElem? hx))⟩
    rw [List.getElem?_toArray, List.getElem?_append_right (by rw [List.length_map]; omega), List.length_map, hlen, List.getElem?_map, hx]; rfl
end
end
section
section
variable [Enc] {d nt : Nat} {e : Option Nat} {S : St} {g g' : G} {a : Act} {w w' : World} {P : Program}
structure Same (g g' : G) : Prop where
 fz : g'.fz = g.fz
 own : g'.own = g.own
 lb : g'.lb = g.lb
theorem Same.symm {g g' : G} (h : Same g g') : Same g' g := ⟨h.fz.symm, h.own.symm, h.lb.symm⟩
section
variable (hnob : ∀ (T : Nat) (x : Dn T), (cells T x).all PV.nob1 = true)
include hnob
theorem nob_F {g g' : G} (hs : Same g g') {p : PV} {v : Value} (h : RepF g p v) : p.nob1 = true → RepF g' p v := by
 induction h with
 | b x => exact fun _ => .b x
 | i k n => exact fun _ => .i k n
 | s x => exact fun _ => .s x
 | nl => exact fun _ => .nl
 | np => exact fun _ => .np
 | ad i off h => exact fun hp => by simp [PV.nob1] at hp
 | fl0 T => exact fun _ => .fl0 T
 | ifcN => exact fun _ => .ifcN
 | ifcS t x => exact fun _ => .ifcS t x
 | clo f caps h => exact fun hp => by simp [PV.nob1] at hp
 | vo i A n c h => exact fun hp => by simp [PV.nob1] at hp
 | fa T x off bk o C V hf hv hr ih =>
  intro _
  refine .fa T x off bk o C V (by rw [hs.fz]; exact hf) hv fun j c hj => ih j c hj ?_
  have := hnob T x
  rw [List.all_eq_true] at this
  exact this c (List.mem_of_getElem? hj)
 | fpN T => exact fun _ => .fpN T
 | fpS T x v h ih => exact fun _ => .fpS T x v (ih rfl)
 | foN T => exact fun _ => .foN T
 | zf => exact fun _ => .zf
 | zm => exact fun _ => .zm
 | slf T i b hT h => exact fun hp => by simp [PV.nob1] at hp
 | foS T xs v h ih => exact fun _ => .foS T xs v (ih rfl)
 | fl T xs A off cap C V hf hc hv hr ih =>
  intro _
  refine .fl T xs A off cap C V (fun hx => ?_) hc hv fun i x hi j c hj => ih i x hi j c hj ?_
  ·rw [hs.fz]; exact hf hx
  ·have := hnob T x
   rw [List.all_eq_true] at this
   exact this c (List.mem_of_getElem? hj)
theorem nob_cells {g g' : G} (hs : Same g g') {C : Array Value} {o : Nat} {cs : List PV} (hn : cs.all PV.nob1 = true) (h : CellsAt g C o cs) : CellsAt g' C o cs := by
 intro j c hj
 obtain ⟨u, h1, h2⟩ := h j c hj
 rw [List.all_eq_true] at hn
 exact ⟨u, h1, nob_F hnob hs h2 (hn c (List.mem_of_getElem? hj))⟩
theorem nob_C {g g' : G} (hs : Same g g') {w : World} {κ : Key} {p : PV} {v : Value} (hn : p.nob1 = true) (h : RepC g w κ p v) : RepC g' w κ p v := by
 cases p with
 | ol T xs =>
  obtain ⟨ws, h1, h2, h3⟩ := h
  refine ⟨ws, ?_, ?_, ?_⟩
  ·exact h1
  ·intro b hb; have := h2 b hb; rw [hs.own]; exact this
  ·intro i x hi j c hj
   obtain ⟨u, h4, h5⟩ := h3 i x hi j c hj
   have := hnob T x
   rw [List.all_eq_true] at this
   exact ⟨u, h4, nob_F hnob hs h5 (this c (List.mem_of_getElem? hj))⟩
 | mp U es =>
  obtain ⟨r, ms, ck, h1, h2, h3, h4, h5⟩ := h
  refine ⟨r, ms, ck, h1, by rw [hs.own]; exact h2, h3, h4, fun i x hi => ?_⟩
  obtain ⟨q, a1, a2, c, a3, a4⟩ := h5 i x hi
  have := hnob U x.2
  rw [List.all_eq_true] at this
  exact ⟨q, a1, a2, c, a3, nob_F hnob hs a4 (this c (by rw [a3]; simp))⟩
 | gone => trivial
 | _ => first | exact nob_F hnob hs h hn | (simp [PV.nob1] at hn; done) | trivial
theorem nob_V {g g' : G} (hs : Same g g') {w : World} {κ : Key} {p : PV} {v : Value} (hn : p.nob = true) (h : RepV g w κ p v) : RepV g' w κ p v := by
 cases p with
 | st cs =>
  obtain ⟨A, h1, h2, h3⟩ := h
  exact ⟨A, h1, h2, nob_cells hnob hs hn h3⟩
 | fa T x off => exact nob_C (w := w) (κ := κ) hnob hs (p := .fa T x off) hn h
 | fp T x => exact nob_C (w := w) (κ := κ) hnob hs (p := .fp T x) hn h
 | fo T x => exact nob_C (w := w) (κ := κ) hnob hs (p := .fo T x) hn h
 | zo k => exact nob_C (w := w) (κ := κ) hnob hs (p := .zo k) hn h
 | slf T i b => simp [PV.nob, PV.nob1] at hn
 | ad b off => simp [PV.nob, PV.nob1] at hn
 | tup vs => exact (show False by have h : RepF g (.tup vs) v := h; cases h).elim
 | clo f caps => simp [PV.nob, PV.nob1] at hn
 | vo i => simp [PV.nob, PV.nob1] at hn
 | b x => exact nob_C (w := w) (κ := κ) hnob hs (p := .b x) hn h
 | i k n => exact nob_C (w := w) (κ := κ) hnob hs (p := .i k n) hn h
 | s x => exact nob_C (w := w) (κ := κ) hnob hs (p := .s x) hn h
 | nl => exact nob_C (w := w) (κ := κ) hnob hs (p := .nl) hn h
 | np => exact nob_C (w := w) (κ := κ) hnob hs (p := .np) hn h
 | ol T xs => exact nob_C (w := w) (κ := κ) hnob hs (p := .ol T xs) hn h
 | mp U es => exact nob_C (w := w) (κ := κ) hnob hs (p := .mp U es) hn h
 | fl T xs => exact nob_C (w := w) (κ := κ) hnob hs (p := .fl T xs) hn h
 | ifc x => exact nob_C (w := w) (κ := κ) hnob hs (p := .ifc x) hn h
 | gone => trivial
theorem nob_E {g g' : G} (hs : Same g g') {w : World} {κ : Nat → Key} {p : PV} {v : Value} (hn : (match p with
  | .st cs => cs.all PV.nob1
  | p => p.nob1) = true) (h : RepE g w κ p v) : RepE g' w κ p v := by
 cases p with
 | st cs =>
  obtain ⟨A, h1, h2, h3⟩ := h
  refine ⟨A, h1, h2, fun j c hj => ?_⟩
  obtain ⟨u, h4, h5⟩ := h3 j c hj
  rw [List.all_eq_true] at hn
  exact ⟨u, h4, nob_C hnob hs (hn c (List.mem_of_getElem? hj)) h5⟩
 | ad b off => simp [PV.nob1] at hn
 | clo f caps => simp [PV.nob1] at hn
 | vo i => simp [PV.nob1] at hn
 | tup vs => exact (show False by have h : RepF g (.tup vs) v := h; cases h).elim
 | gone => trivial
 | b x => exact nob_V (w := w) (κ := κ 0) hnob hs (p := .b x) hn h
 | i k n => exact nob_V (w := w) (κ := κ 0) hnob hs (p := .i k n) hn h
 | s x => exact nob_V (w := w) (κ := κ 0) hnob hs (p := .s x) hn h
 | nl => exact nob_V (w := w) (κ := κ 0) hnob hs (p := .nl) hn h
 | np => exact nob_V (w := w) (κ := κ 0) hnob hs (p := .np) hn h
 | ol T xs => exact nob_V (w := w) (κ := κ 0) hnob hs (p := .ol T xs) hn h
 | mp U es => exact nob_V (w := w) (κ := κ 0) hnob hs (p := .mp U es) hn h
 | fl T xs => exact nob_V (w := w) (κ := κ 0) hnob hs (p := .fl T xs) hn h
 | ifc x => exact nob_V (w := w) (κ := κ 0) hnob hs (p := .ifc x) hn h
 | fa T x off => exact nob_V (w := w) (κ := κ 0) hnob hs (p := .fa T x off) hn h
 | fp T x => exact nob_V (w := w) (κ := κ 0) hnob hs (p := .fp T x) hn h
 | fo T x => exact nob_V (w := w) (κ := κ 0) hnob hs (p := .fo T x) hn h
 | zo k => exact nob_V (w := w) (κ := κ 0) hnob hs (p := .zo k) hn h
 | slf T i b => simp [PV.nob, PV.nob1] at hn
theorem nob_T {g g' : G} (hs : Same g g') {w : World} {κ : Nat → Key} {p : PV} {v : Value} (hn : p.nob = true) (h : RepT g w κ p v) : RepT g' w κ p v := by
 cases p with
 | tup vs =>
  obtain ⟨A, h1, h2, h3⟩ := h
  refine ⟨A, h1, h2, fun i p hi => ?_⟩
  obtain ⟨u, h4, h5⟩ := h3 i p hi
  refine ⟨u, h4, nob_E hnob hs ?_ h5⟩
  have hn : (vs.all fun p => match p with
   | .st cs => cs.all PV.nob1
   | p => p.nob1) = true := hn
  rw [List.all_eq_true] at hn
  exact hn p (List.mem_of_getElem? hi)
 | st cs =>
  obtain ⟨A, h1, h2, h3⟩ := h
  refine ⟨A, h1, h2, fun j c hj => ?_⟩
  obtain ⟨u, h4, h5⟩ := h3 j c hj
  have hn : cs.all PV.nob1 = true := hn
  rw [List.all_eq_true] at hn
  exact ⟨u, h4, nob_C hnob hs (hn c (List.mem_of_getElem? hj)) h5⟩
 | b x => exact nob_V (w := w) (κ := κ 0) hnob hs (p := .b x) hn h
 | i k n => exact nob_V (w := w) (κ := κ 0) hnob hs (p := .i k n) hn h
 | s x => exact nob_V (w := w) (κ := κ 0) hnob hs (p := .s x) hn h
 | nl => exact nob_V (w := w) (κ := κ 0) hnob hs (p := .nl) hn h
 | np => exact nob_V (w := w) (κ := κ 0) hnob hs (p := .np) hn h
 | ol T xs => exact nob_V (w := w) (κ := κ 0) hnob hs (p := .ol T xs) hn h
 | mp U es => exact nob_V (w := w) (κ := κ 0) hnob hs (p := .mp U es) hn h
 | fl T xs => exact nob_V (w := w) (κ := κ 0) hnob hs (p := .fl T xs) hn h
 | ifc x => exact nob_V (w := w) (κ := κ 0) hnob hs (p := .ifc x) hn h
 | fa T x off => exact nob_V (w := w) (κ := κ 0) hnob hs (p := .fa T x off) hn h
 | fp T x => exact nob_V (w := w) (κ := κ 0) hnob hs (p := .fp T x) hn h
 | fo T x => exact nob_V (w := w) (κ := κ 0) hnob hs (p := .fo T x) hn h
 | zo k => exact nob_V (w := w) (κ := κ 0) hnob hs (p := .zo k) hn h
 | slf T i b => simp [PV.nob, PV.nob1] at hn
 | ad b off => simp [PV.nob, PV.nob1] at hn
 | clo f caps => simp [PV.nob, PV.nob1] at hn
 | vo i => simp [PV.nob, PV.nob1] at hn
 | gone => trivial
theorem nob_gl {g g' : G} (hs : Same g g') (h : GlobOk g) : GlobOk g' := by
 refine ⟨fun n T x hn => ?_, fun n k hn => ?_⟩
 ·obtain ⟨C, h1, h2, h3⟩ := h.is n T x hn
  exact ⟨C, by rw [hs.fz]; exact h1, h2, nob_cells hnob hs (hnob T x) h3⟩
 ·obtain ⟨C, m, h1, h2⟩ := h.any n k hn
  exact ⟨C, m, by rw [hs.fz]; exact h1, h2⟩
end
def WS.lt (nt : Nat) : WS → Prop
 | .all t | .cell t _ => t < nt
 | .vl _ => True
theorem repC_T0 {κ : Nat → Key} {p : PV} {v : Value} (h : RepC g w (κ 0) p v) : RepT g w κ p v := by
 cases p with
 | st cs => exact (show False by have h : RepF g (.st cs) v := h; cases h).elim
 | tup vs => exact (show False by have h : RepF g (.tup vs) v := h; cases h).elim
 | ad b off => cases b with
  | loc t => exact (show False by have h : RepF g (.ad (.loc t) off) v := h; cases h).elim
  | obj i => exact h
 | _ => exact h
def G.setVa (g : G) (f : Nat → Option Value) : G := { g with va := f }
theorem same_va (g : G) (f : Nat → Option Value) : Same g (g.setVa f) := ⟨rfl, rfl, rfl⟩
theorem WF.setVa (hnob : ∀ (T : Nat) (x : Dn T), (cells T x).all PV.nob1 = true) {f : Nat → Option Value} (h : WF g w) : WF (g.setVa f) w := ⟨nob_gl hnob (same_va g f) h.gl, h.own, h.fz, h.ob, h.ol, h.inj, h.oe⟩
theorem flat1_F {p : PV} {v : Value} (hp : p.flat1 = true) (h : RepF g p v) : RepF g' p v := by
 cases h <;> first | (simp [PV.flat1] at hp; done) | constructor
theorem ext_rel (hnob : ∀ (T : Nat) (x : Dn T), (cells T x).all PV.nob1 = true) (m : Nat) (h : Rel d nt e S g a w) (t : Nat) :
  ∃ g', Rel d nt e (ext t S) g' a w ∧ ∃ g1, Ext d m g w g1 w ∧ g1.oa = g.oa ∧ g1.no = g.no ∧ g' = g1.setVa g'.va := by exact ⟨g, h, g, .refl _ _ _ _, rfl, rfl, rfl⟩
end
end
section
section
variable [Enc] {xb : Bool} {d nt : Nat} {e : Option Nat} {S : St} {g g' g0 : G} {a : Act} {w w' w0 : World} {P : Program} {m0 : Nat} {F : Fx} {C : CTab}
structure Base0 (e : Option Nat) (m0 : Nat) (g0 : G) (w0 : World) : Prop where
 no : NoOk e m0 g0.no
 own : ∀ b κ, g0.own b = some κ → b < w0.heap.size
 ob : ∀ b b' j, g0.own b = some (.ob b' j) → b' < w0.heap.size
structure Inv (xb : Bool) (d nt : Nat) (e : Option Nat) (m0 : Nat) (g0 : G) (w0 : World) (S : St) (g : G) (a : Act) (w : World) : Prop where
 rel : Rel d nt e S g a w
 ext : Ext d m0 (g0.setVa g.va) w0 g w
 va : xb = false → g.va = g0.va
theorem Ext.go (hb : Base0 e m0 g0 w0) (h : Ext d m0 g0 w0 g w) (hr : Rel d nt e S g a w) (h' : Ext d S.mm.length g w g' w') : Ext d m0 g0 w0 g' w' := by
 cases e with
 | some k =>
  have h1 : m0 = 0 := hb.no.1
  have h2 : S.mm.length = 0 := hr.no.1
  rw [h2] at h'
  subst h1
  exact h.trans h' fun i hi => by omega
 | none =>
  have h1 : m0 = g0.no := hb.no
  have h2 : S.mm.length = g.no := hr.no
  rw [h2] at h'
  have hoa : ∀ i b, b < w0.heap.size → (∀ j, j < m0 → g0.oa j ≠ b) → i < g.no → g.oa i ≠ b := by
   intro i b hb' hj hi
   by_cases hi0 : i < g0.no
   ·rw [h.gr.oa i hi0]; exact hj i (by omega)
   ·have := h.nw i (by omega) hi; omega
  refine ⟨h.gr.trans h'.gr, fun b κ hb' ho => ?_, Nat.le_trans h.hs h'.hs, fun i h3 h4 => ?_, h.sl.trans h'.sl⟩
  ·obtain ⟨h3, h4⟩ := h.own b κ hb' ho
   have h5 : Outer d g.no g b κ := by
    cases κ with
    | obj => exact fun i hi => hoa i b (hb.own _ _ hb') ho hi
    | ob b' j => exact fun i hi => hoa i b' (hb.ob _ _ _ hb') ho hi
    | _ => exact ho
   obtain ⟨h6, h7⟩ := h'.own b κ h3 h5
   exact ⟨h6, h7.trans h4⟩
  ·by_cases hi : i < g.no
   ·rw [h'.gr.oa i hi]; exact h.nw i h3 hi
   ·exact Nat.le_trans h.hs (h'.nw i (by omega) h4)
theorem Inv.goE (hb : Base0 e m0 g0 w0) (hi : Inv xb d nt e m0 g0 w0 S g a w) (h2 : Ext d S.mm.length g w g' w') : Ext d m0 (g0.setVa g'.va) w0 g' w' ∧ (xb = false → g'.va = g0.va) := by
 refine ⟨?_, fun hx => h2.gr.va.trans (hi.va hx)⟩
 rw [h2.gr.va]
 have hb' : Base0 e m0 (g0.setVa g.va) w0 := ⟨hb.no, hb.own, hb.ob⟩
 exact hi.ext.go hb' hi.rel h2
theorem Inv.go (hb : Base0 e m0 g0 w0) (hi : Inv xb d nt e m0 g0 w0 S g a w) {S' : St} {a' : Act} (h1 : Rel d nt e S' g' a' w') (h2 : Ext d S.mm.length g w g' w') : Inv xb d nt e m0 g0 w0 S' g' a' w' :=
 ⟨h1, (hi.goE hb h2).1, (hi.goE hb h2).2⟩
theorem Ext.setVa2 {m : Nat} {w1 : World} (h : Ext d m g w g' w1) (f : Nat → Option Value) : Ext d m (g.setVa f) w (g'.setVa f) w1 := ⟨⟨h.gr.fz, h.gr.no, h.gr.oa, h.gr.fe, rfl, h.gr.oe⟩, h.own, h.hs, h.nw, h.sl⟩
structure FxOk (P : Program) (F : Fx) (e : Option Nat) (nt : Nat) (xb : Bool) : Prop where
 T : TabOk P F.T
 flat : ∀ t z, F.T.flat t = some z → FlatOk P t z
 e : F.e = e.isNone
 nt : F.nt = nt
 x : ∀ t, F.xt t = true → xb = true
theorem Inv.extD (hx : FxOk P F e nt xb) (hb : Base0 e m0 g0 w0) (hi : Inv xb d nt e m0 g0 w0 S g a w) (dst : Option Nat) : ∃ g', Inv xb d nt e m0 g0 w0 (extD F dst S) g' a w := by
 cases dst with
 | none => exact ⟨g, hi⟩
 | some t =>
  unfold KM.extD
  simp only []
  cases ht : F.xt t with
  | false => exact ⟨g, hi⟩
  | true =>
   simp only [cond_true]
   obtain ⟨g', h1, g1, h2, h3, h4, h5⟩ := ext_rel hx.T.enc.nob S.mm.length hi.rel t
   refine ⟨g', h1, ?_, fun hh => by rw [hx.x t ht] at hh; simp at hh⟩
   have hb' : Base0 e m0 (g0.setVa g.va) w0 := ⟨hb.no, hb.own, hb.ob⟩
   have h6 := (hi.ext.go hb' hi.rel h2).setVa2 g'.va
   rw [← h5] at h6
   exact h6
theorem dstOk_lt {dst : Option Nat} (hn : F.nt = nt) (h : dstOk F dst = true) : ∀ t, dst = some t → t < nt := by
 intro t ht
 subst ht
 simp only [dstOk, Nat.blt_eq] at h
 omega
theorem lk_dropR_ex {t : Nat} {l : List (Nat × RV)} {u : Nat} {r : RV} (h : lk (dropR t l) u = some r) : ∃ q, lk l u = some q := by
 induction l with
 | nil => simp [dropR, lk] at h
 | cons x l ih =>
  obtain ⟨v, q⟩ := x
  simp only [dropR] at h
  rw [lk_cons] at h ⊢
  by_cases hv : v = u
  ·exact ⟨q, by simp [hv]⟩
  ·simp only [hv, if_false] at h ⊢
   exact ih h
theorem Rel.keepVD (h : Rel d nt e S g a w) {dst : Option Nat} {v : PV} {r : Value} (h' : Rel d nt e (setD S.noR dst v) g' (a.put dst r) w') : Rel d nt e (setD S.keepV dst v) g' (a.put dst r) w' := by
 cases dst with
 | none => exact h.keepV (S' := S.noR) h' rfl
 | some t =>
  refine ⟨h'.sz, h'.tm, h'.lc, h'.mm, h'.no, fun u q hq => ?_, h'.wf, h'.df, h'.vl⟩
  rcases lk_dropR hq with rfl | ⟨⟨hut, hsrc⟩, hq⟩
  ·obtain ⟨q2, h0⟩ := lk_dropR_ex hq
   obtain ⟨q', h1, _⟩ := lk_keepVs h0
   exact ⟨(h.rt u q' h1).1, trivial⟩
  obtain ⟨q', h1, rfl⟩ := lk_keepVs hq
  clear hq
  obtain ⟨h2, h3⟩ := h.rt u q' h1
  refine ⟨h2, ?_⟩
  have hgt : ∀ x, x ≠ t → (a.put (some t) r).tmps[x]? = a.tmps[x]? := fun x hx => put_ne a t r hx
  have hgd : ∀ x, x ≠ t → (a.put (some t) r).tmps.getD x undef = a.tmps.getD x undef := fun x hx => by simp only [Array.getD_eq_getD_getElem?, hgt x hx]
  have hat : ∀ x, x ≠ t → St.at_ (setD S.keepV (some t) v) (.var x) = S.at_ (.var x) := fun x hx => by
   simp only [St.at_, setD, St.setT, St.keepV]
   rw [lk_cons, if_neg (Ne.symm hx)]
  revert hsrc
  unfold keepVr
  split
  ·rename_i T xs x
   intro hsrc
   have hxt : x ≠ t := beq_false (hsrc _ rfl)
   obtain ⟨_, h4⟩ := h3
   obtain ⟨h5, h6⟩ := h4 _ rfl
   have h7 : lk (setD S.noR (some t) v).tm x = some (.ol T xs) := by
    simp only [setD, St.setT, St.noR]
    rw [lk_cons, if_neg (Ne.symm hxt)]; exact h5
   have h8 := (h'.tm x _ h7).2
   refine ⟨?_, fun s hs => by
    simp only [Option.some.injEq] at hs
    subst hs
    exact ⟨(hat x hxt).trans h5, by simp only [hdr, hgt x hxt, hgd u hut]; exact h6⟩⟩
   have h9 : (a.put (some t) r).tmps.getD x undef = (a.put (some t) r).tmps.getD u undef := by
    rw [hgd x hxt, hgd u hut]
    simp only [hdr] at h6
    rw [Array.getD_eq_getD_getElem? (i := x), h6]; rfl
   rw [h9] at h8
   exact repO_repP h8 trivial
  ·rename_i x T i o
   intro hsrc
   have hxt : x ≠ t := beq_false (hsrc _ rfl)
   obtain ⟨xs, b, len, cap, h4, h5, h6⟩ := h3
   exact ⟨xs, b, len, cap, (hat x hxt).trans h4, by simp only [hdr, hgt x hxt]; exact h5, by rw [hgd u hut]; exact h6⟩
  ·intro _; trivial
theorem evCall_ok {β : Type} {res : β} (hb : Base0 e m0 g0 w0) (hx : FxOk P F e nt xb) (hC : CTabOk P C) {K : St → Option β} (hi : Inv xb d nt e m0 g0 w0 S g a w) {f : FuncId} {dst : Option Nat} {args : List Operand}
  (h : evCall F C f dst args S K = some res) {N : Act → World → Prop} {Q : Exit → Act → World → Prop} (next : ∀ S' g' a' w', K S' = some res → Inv xb d nt e m0 g0 w0 S' g' a' w' → N a' w') :
  Real P f ∧ Calls P f (args.map a.eval).toArray w fun
   | .returned v, w'' => N (a.put dst v) w''
   | .panicked chain, w'' => Q (.panic chain) a w''
   | .outgrown, _ => LetsOut Q := by
 unfold evCall at h
 split at h
 case h_2 => simp at h
 rename_i ps hps
 cases hg : (olOnce S args && dstOk F dst) with
 | false => simp [hg] at h
 | true =>
  simp only [hg, cond_true] at h
  simp only [Bool.and_eq_true] at hg
  have hd := dstOk_lt hx.nt hg.2
  cases hA : C.isA f with
  | true =>
   simp only [hA, cond_true] at h
   obtain ⟨hre, v, hc, hv, hk⟩ := hC.A f ps β _ res hA h
   refine ⟨hre, (call_ran hi.rel hps hg.1 hc hv (.inr ⟨rfl, rfl⟩) hd).mono fun en w' hen => ?_⟩
   obtain ⟨r, g', rfl, h1, h2⟩ := hen
   have hmm : ({ (useOl S args).noR with mm := S.mm } : St) = (useOl S args).noR := by
    have := (useOl_rel args hi.rel).2.1
    rw [← this]; rfl
   refine next _ g' _ w' hk (hi.go hb ?_ h2)
   have h1 : Rel d nt e (setD ({ (useOl S args).noR with mm := S.mm } : St) dst v) g' (a.put dst r) w' := h1
   rw [hmm] at h1
   exact (useOl_rel args hi.rel).1.keepVD h1
  | false =>
   simp only [hA, cond_false] at h
   cases he : F.e with
   | false => simp [he] at h
   | true =>
    simp only [he, cond_true] at h
    have hen : e = none := by
     have h8 := hx.e
     rw [he] at h8
     cases e with
     | none => rfl
     | some k => simp at h8
    obtain ⟨hre, v, M', hc, hv, hk⟩ := hC.B f ps S.mm β _ res hA h
    refine ⟨hre, (call_ran hi.rel hps hg.1 hc hv (.inl ⟨rfl, hen, rfl⟩) hd).mono fun en w' hen => ?_⟩
    obtain ⟨r, g', rfl, h1, h2⟩ := hen
    exact next _ g' _ w' hk (hi.go hb h1 h2)
theorem frzC_rep : ∀ (l : List Bool) (xs : List Operand) (S : St) (g : G) {m : Nat}, Rel d nt e S g a w → ∃ g', Rel d nt e (frzC l xs S) g' a w ∧ Ext d m g w g' w ∧ g'.oa = g.oa ∧ g'.no = g.no ∧ (frzC l xs S).mm = S.mm ∧ OF g g' := by
 intro l
 induction l with
 | nil => intro xs S g m h; exact ⟨g, h, .refl _ _ _ _, rfl, rfl, rfl, .refl g⟩
 | cons b l ih =>
  intro xs S g m h
  cases xs with
  | nil => cases b <;> exact ⟨g, h, .refl _ _ _ _, rfl, rfl, rfl, .refl g⟩
  | cons x r =>
   cases b with
   | false => exact ih r S g h
   | true =>
    obtain ⟨g1, h1, h2, h3, h4, h5, h11⟩ := frzO_rep (m := m) h x
    obtain ⟨g2, h6, h7, h8, h9, h10, h12⟩ := ih r _ g1 (m := m) h1
    exact ⟨g2, h6, h2.trans' h7 h3 h4, h8.trans h3, h9.trans h4, h10.trans h5, h11.trans h12 h7.gr⟩
theorem lk_keepRs {l : List (Nat × RV)} {t : Nat} {r : RV} (h : lk (keepRs l) t = some r) : ∃ q, lk l t = some q ∧ (r = .dead ∨ r = q ∧ ((∃ T xs s, q = .pk T xs (some s)) ∨ ∃ s T i o, q = .el s T i o)) := by
 induction l with
 | nil => simp [keepRs, lk] at h
 | cons x l ih =>
  obtain ⟨u, q⟩ := x
  simp only [keepRs] at h
  rw [lk_cons]
  split at h
  ·rw [lk_cons] at h
   split at h
   ·rename_i hu; rw [if_pos hu]
    exact ⟨_, rfl, .inr ⟨(Option.some.inj h).symm, .inl ⟨_, _, _, rfl⟩⟩⟩
   ·rename_i hu; rw [if_neg hu]; exact ih h
  ·rw [lk_cons] at h
   split at h
   ·rename_i hu; rw [if_pos hu]
    exact ⟨_, rfl, .inr ⟨(Option.some.inj h).symm, .inr ⟨_, _, _, _, rfl⟩⟩⟩
   ·rename_i hu; rw [if_neg hu]; exact ih h
  ·rw [lk_cons] at h
   split at h
   ·rename_i hu; rw [if_pos hu]
    exact ⟨_, rfl, .inl (Option.some.inj h).symm⟩
   ·rename_i hu; rw [if_neg hu]; exact ih h
theorem Rel.addR (h : Rel d nt e S g a w) (h' : Rel d nt e S.noR g' a w') (hlb : g'.lb = g.lb) (hgr : Grow g g') (hh : ∀ b cs, S.cont b = some cs → w'.heap[g.addr b]? = w.heap[g.addr b]?) : Rel d nt e S.keepR g' a w' := by
 have hadr : ∀ b cs, S.cont b = some cs → g'.addr b = g.addr b := fun b cs hb => by
  cases b with
  | loc t => simp only [G.addr, hlb]
  | obj i => exact hgr.oa i (h.mm i cs hb).1
 have hd : ∀ (s : Src) (T : Nat) (xs : List (Dn T)), S.at_ s = some (.ol T xs) → hdr g' a w' s = hdr g a w s := by
  intro s T xs hs
  cases s with
  | var t => rfl
  | vo i => exact congrFun hgr.va i
  | cell b o =>
   simp only [St.at_] at hs
   cases hc : S.cont b with
   | none => simp [hc] at hs
   | some cs =>
    simp only [hdr]
    rw [hadr b cs hc]
    exact cell_heap (a := ⟨g.addr b, o, none⟩) (hh b cs hc)
 refine ⟨h'.sz, h'.tm, h'.lc, h'.mm, h'.no, fun t r hr => ?_, h'.wf, h'.df, h'.vl⟩
 obtain ⟨q, h1, h2⟩ := lk_keepRs hr
 obtain ⟨h3, h4⟩ := h.rt t q h1
 refine ⟨h3, ?_⟩
 rcases h2 with rfl | ⟨rfl, ⟨T, xs, s, rfl⟩ | ⟨s, T, i, o, rfl⟩⟩
 ·trivial
 ·obtain ⟨_, h5⟩ := h4
  obtain ⟨h6, h7⟩ := h5 s rfl
  have h8 : hdr g' a w' s = some (a.tmps.getD t undef) := (hd s T xs h6).trans h7
  refine ⟨?_, fun s' hs' => by simp only [Option.some.injEq] at hs'; subst hs'; exact ⟨h6, h8⟩⟩
  cases s with
  | var u =>
   obtain ⟨h9, h10⟩ := h'.tm u _ h6
   have h8 : a.tmps[u]? = some (a.tmps.getD t undef) := h8
   have h11 : a.tmps.getD u undef = a.tmps.getD t undef := by rw [Array.getD_eq_getD_getElem? (i := u), h8]; rfl
   rw [h11] at h10
   exact repO_repP (κ := .tm d u 0) h10 (by simp [Key.cell])
  | vo i =>
   obtain ⟨u, h9, h10⟩ := h'.vl i _ h6
   have h8 : g'.va i = some (a.tmps.getD t undef) := h8
   rw [h9] at h8
   have h8 := Option.some.inj h8
   subst h8
   exact repO_repP (κ := .vo d i) h10 (by simp [Key.cell])
  | cell b o =>
   simp only [St.at_] at h6
   cases hc : S.cont b with
   | none => simp [hc] at h6
   | some cs =>
    simp only [hc] at h6
    have hc' : S.noR.cont b = some cs := by cases b <;> exact hc
    obtain ⟨_, C, E, h9, h10⟩ := h'.cont hc'
    obtain ⟨u, h11, h12⟩ := h10.2 o _ h6
    have h13 : hdr g' a w' (.cell b o) = some u := by
     show w'.cell? ⟨g'.addr b, o, none⟩ = some u
     rw [cell_of_row w' (g'.addr b) o C E (0, 0) h9]; exact h11
    rw [h13] at h8
    have h8 := Option.some.inj h8
    subst h8
    exact repO_repP (κ := ckey d g' b o) h12 (by cases b <;> simp [ckey, Key.cell])
 ·obtain ⟨xs, b, len, cap, h5, h6, h7⟩ := h4
  exact ⟨xs, b, len, cap, h5, (hd s T xs h5).trans h6, h7⟩
theorem frzK_rep {m : Nat} (h : Rel d nt e S g a w) (k : Nat) : ∃ g', Rel d nt e (frzK S k) g' a w ∧ Ext d m g w g' w ∧ g'.oa = g.oa ∧ g'.no = g.no ∧ (frzK S k).mm = S.mm ∧ (frzK S k).tm = S.tm ∧ OF g g' := by
 unfold frzK
 split
 ·rename_i T xs hk
  obtain ⟨v, h1, h2⟩ := h.vl k _ hk
  have h3 : Rel d nt e { S.noR with vl := S.noR.vl.set k .gone } g a w := h.noR.vlTo rfl fun _ => ⟨v, h1, trivial⟩
  obtain ⟨g', h4, h5, h6, h7, h8, h9, h10, h11⟩ := h3.freeze (m := m) (κ := .vo d k) h2 (Nat.le_refl d) free_vl rfl
  refine ⟨g', ?_, h6, h7, h8, rfl, rfl, h11⟩
  have h12 := h4.vlTo (i := k) (p := .fl T xs) rfl fun _ => ⟨v, by rw [h10.gr.va]; exact h1, h5⟩
  refine h12.congr (fun _ => rfl) (fun _ => rfl) rfl rfl ?_
  show S.vl.set k _ = (S.vl.set k _).set k _
  rw [List.set_set]
 ·exact ⟨g, h.noR, .refl _ _ _ _, rfl, rfl, rfl, rfl, .refl g⟩
theorem frzKs_rep {m : Nat} : ∀ (cs : List PV) {S : St} {g : G}, Rel d nt e S g a w → ∃ g', Rel d nt e (frzKs S cs) g' a w ∧ Ext d m g w g' w ∧ g'.oa = g.oa ∧ g'.no = g.no ∧ (frzKs S cs).mm = S.mm ∧ (frzKs S cs).tm = S.tm ∧ (frzKs S cs).rt = [] ∧ OF g g' := by
 intro cs
 induction cs with
 | nil => intro S g h; exact ⟨g, h.noR, .refl _ _ _ _, rfl, rfl, rfl, rfl, rfl, .refl g⟩
 | cons c r ih =>
  intro S g h
  simp only [frzKs]
  split
  ·rename_i k
   obtain ⟨g1, h1, h2, h3, h4, h5, h6, h7⟩ := frzK_rep (m := m) h k
   obtain ⟨g2, k1, k2, k3, k4, k5, k6, k7, k8⟩ := ih h1
   exact ⟨g2, k1, h2.trans' k2 h3 h4, k3.trans h3, k4.trans h4, k5.trans h5, k6.trans h6, k7, h7.trans k8 k2.gr⟩
  ·exact ih h
theorem seeV_C (h : Rel d nt e S g a w) {c : PV} {κ : Key} {u : Value} (hc : RepC g w κ c u) : RepC g w κ (seeV S c) u := by
 unfold seeV
 split
 ·rename_i k
  split
  ·rename_i T xs hk
   obtain ⟨v, h1, h2⟩ := h.vl k _ hk
   have hc : RepF g (.vo k) u := hc
   cases hc with
   | vo _ A n cc h3 =>
    rw [h3] at h1
    obtain rfl := Option.some.inj h1
    exact h2
  ·exact hc
 ·exact hc
theorem frzVo_rep {m : Nat} (h : Rel d nt e S g a w) (x : Operand) : ∃ g', Rel d nt e (frzVo S x) g' a w ∧ Ext d m g w g' w ∧ g'.oa = g.oa ∧ g'.no = g.no ∧ (frzVo S x).mm = S.mm ∧ OF g g' := by
 have same : ∃ g', Rel d nt e S g' a w ∧ Ext d m g w g' w ∧ g'.oa = g.oa ∧ g'.no = g.no ∧ S.mm = S.mm ∧ OF g g' := ⟨g, h, .refl _ _ _ _, rfl, rfl, rfl, .refl g⟩
 cases x with
 | tmp t =>
  simp only [frzVo]
  split
  ·rename_i k hl
   obtain ⟨g1, h1, h2, h3, h4, h5, h6, h7⟩ := frzK_rep (m := m) h k
   have hl1 : lk (frzK S k).tm t = some (.vo k) := by rw [h6]; exact hl
   obtain ⟨ht, hr⟩ := h1.tm t _ hl1
   have hrt : (frzK S k).rt = [] := by unfold frzK; split <;> rfl
   refine ⟨g1, (h1.setT' (a' := a) (t := t) (p := seeV (frzK S k) (.vo k)) ht rfl rfl (fun _ _ => rfl) (repC_T0 (seeV_C (κ := Key.tm d t 0) h1 hr))).congr (fun u => ?_) (fun _ => rfl) rfl (by simp [St.setT, hrt, dropR]), h2, h3, h4, h5, h7⟩
   show lk ((t, _) :: S.tm) u = lk ((t, _) :: (frzK S k).tm) u
   rw [h6]
  ·rename_i cs hl
   cases hv : cs.any isVo with
   | false => exact same
   | true =>
    simp only [cond_true]
    obtain ⟨g1, h1, h2, h3, h4, h5, h6, hrt, h7⟩ := frzKs_rep (m := m) cs h
    have hl1 : lk (frzKs S cs).tm t = some (.st cs) := by rw [h6]; exact hl
    obtain ⟨ht, A, hA, hs, hc⟩ := h1.tm t _ hl1
    refine ⟨g1, (h1.setT' (a' := a) (t := t) (p := .st (cs.map (seeV (frzKs S cs)))) ht rfl rfl (fun _ _ => rfl) ⟨A, hA, by simpa using hs, fun j c hj => ?_⟩).congr (fun u => ?_) (fun _ => rfl) rfl (by simp [St.setT, hrt, dropR]), h2, h3, h4, h5, h7⟩
    ·simp only [List.getElem?_map, Option.map_eq_some_iff] at hj
     obtain ⟨c0, hj, rfl⟩ := hj
     obtain ⟨u, k1, k2⟩ := hc j c0 hj
     exact ⟨u, k1, seeV_C h1 k2⟩
    ·show lk ((t, _) :: S.tm) u = lk ((t, _) :: (frzKs S cs).tm) u
     rw [h6]
  ·exact same
 | _ => exact same
theorem frzVos_rep {m : Nat} : ∀ (xs : List Operand) {S : St} {g : G}, Rel d nt e S g a w → ∃ g', Rel d nt e (frzVos S xs) g' a w ∧ Ext d m g w g' w ∧ g'.oa = g.oa ∧ g'.no = g.no ∧ (frzVos S xs).mm = S.mm ∧ OF g g' := by
 intro xs
 induction xs with
 | nil => intro S g h; exact ⟨g, h, .refl _ _ _ _, rfl, rfl, rfl, .refl g⟩
 | cons x r ih =>
  intro S g h
  obtain ⟨g1, h1, h2, h3, h4, h5, h6⟩ := frzVo_rep (m := m) h x
  obtain ⟨g2, k1, k2, k3, k4, k5, k6⟩ := ih h1
  exact ⟨g2, k1, h2.trans' k2 h3 h4, k3.trans h3, k4.trans h4, k5.trans h5, h6.trans k6 k2.gr⟩
theorem lnd1_C (hE : EncOk) {g2 g' : G} {w' : World} {p : PV} {v : Value} {κ : Key} (hown : ∀ b, g2.own b = some κ → g'.own b = some κ) (hp : p.lnd1 = true) (h : RepC g2 w' κ p v) : RepC g' w' κ p v := by
 cases p with
 | ol T xs =>
  obtain ⟨vs, h1, h2, h3⟩ := h
  refine ⟨vs, h1, fun b hb => hown b (h2 b hb), fun i x hi j c hj => ?_⟩
  obtain ⟨u, h4, h5⟩ := h3 i x hi j c hj
  have hf : flatT T = true := hp
  have := hE.flat T hf x
  rw [List.all_eq_true] at this
  exact ⟨u, h4, flat1_F (this c (List.mem_of_getElem? hj)) h5⟩
 | b x => exact flat1_F (p := .b x) rfl h
 | i k n => exact flat1_F (p := .i k n) rfl h
 | s x => exact flat1_F (p := .s x) rfl h
 | ifc x => exact flat1_F (p := .ifc x) rfl h
 | _ => simp [PV.lnd1, PV.flat1] at hp
theorem lnd2_E (hE : EncOk) {g2 g' : G} {w' : World} {p : PV} {v : Value} {κ : Nat → Key} (hown : ∀ b j, g2.own b = some (κ j) → g'.own b = some (κ j)) (hp : p.lnd2 = true) (h : RepE g2 w' κ p v) : RepE g' w' κ p v := by
 cases p with
 | st cs =>
  obtain ⟨A, h1, h2, h3⟩ := h
  refine ⟨A, h1, h2, fun j c hj => ?_⟩
  obtain ⟨u, h4, h5⟩ := h3 j c hj
  have : c.lnd1 = true := by
   simp only [PV.lnd2, List.all_eq_true] at hp
   exact hp c (List.mem_of_getElem? hj)
  exact ⟨u, h4, lnd1_C hE (fun b => hown b j) this h5⟩
 | ol T xs => exact lnd1_C (κ := κ 0) (p := .ol T xs) hE (fun b => hown b 0) hp h
 | b x => exact flat1_F (p := .b x) rfl h
 | i k n => exact flat1_F (p := .i k n) rfl h
 | s x => exact flat1_F (p := .s x) rfl h
 | ifc x => exact flat1_F (p := .ifc x) rfl h
 | _ => simp [PV.lnd2, PV.lnd1, PV.flat1] at hp
theorem lnd_T (hE : EncOk) {g2 g' : G} {w' : World} {p : PV} {v : Value} {κ : Nat → Key} (hown : ∀ b j, g2.own b = some (κ j) → g'.own b = some (κ j)) (hp : p.lndV = true) (h : RepT g2 w' κ p v) : RepT g' w' κ p v := by
 cases p with
 | tup vs =>
  obtain ⟨A, h1, h2, h3⟩ := h
  refine ⟨A, h1, h2, fun j c hj => ?_⟩
  obtain ⟨u, h4, h5⟩ := h3 j c hj
  have : c.lnd2 = true := by
   simp only [PV.lndV, List.all_eq_true] at hp
   exact hp c (List.mem_of_getElem? hj)
  exact ⟨u, h4, lnd2_E hE (fun b k => hown b _) this h5⟩
 | st cs => exact lnd2_E (p := .st cs) hE hown hp h
 | ol T xs => exact lnd2_E (p := .ol T xs) hE hown hp h
 | b x => exact flat1_F (p := .b x) rfl h
 | i k n => exact flat1_F (p := .i k n) rfl h
 | s x => exact flat1_F (p := .s x) rfl h
 | ifc x => exact flat1_F (p := .ifc x) rfl h
 | _ => simp [PV.lndV, PV.lnd2, PV.lnd1, PV.flat1] at hp
theorem lndV_noLoc {v : PV} (h : v.lndV = true) : locs v = false := by
 cases v with
 | tup vs =>
  simp only [PV.lndV, List.all_eq_true] at h
  simp only [locs, List.any_eq_false]
  intro p hp
  have := h p hp
  cases p with
  | ad b off => simp [PV.lnd2, PV.lnd1, PV.flat1] at this
  | _ => simp [PV.isLoc]
 | ad b off => simp [PV.lndV, PV.lnd2, PV.lnd1, PV.flat1] at h
 | _ => rfl
def isRt (d : Nat) : Option Key → Bool
 | some (.rt d' _) => Nat.beq d' d
 | _ => false
theorem lend_ran (hE : EncOk) {f : FuncId} {args : List Operand} {ps : List PV} {v : PV} {l : List Bool} (h : Rel d nt e S g a w) (ha : argsOf (frzC l args (frzVos S args)) args = some ps) (hp : ps.all PV.dup = true)
  (hc : Con P false f ps [] v []) (hv : v.lndV = true) {dst : Option Nat} (hd : ∀ t, dst = some t → t < nt) :
  Calls P f (args.map a.eval).toArray w fun en w' => ∃ r g', en = .returned r ∧ Rel d nt e (setD S.keepR dst v) g' (a.put dst r) w' ∧ Ext d S.mm.length g w g' w' := by
 obtain ⟨g1, h1, h2, h3, h4, h5⟩ : ∃ g1, Rel d nt e (frzC l args (frzVos S args)) g1 a w ∧ Ext d 0 g w g1 w ∧ g1.oa = g.oa ∧ g1.no = g.no ∧ OF g g1 := by
  obtain ⟨g1, k1, k2, k3, k4, _, k5⟩ := frzVos_rep (m := 0) args h
  obtain ⟨g2, j1, j2, j3, j4, _, j5⟩ := frzC_rep (m := 0) l args (frzVos S args) g1 k1
  exact ⟨g2, j1, k2.trans' j2 k3 k4, j3.trans k3, j4.trans k4, k5.trans j5 j2.gr⟩
 obtain ⟨hlen, hargs⟩ := argsOf_rep args h1 ha
 have hvals : ∀ i x, args[i]? = some x → (args.map a.eval).toArray[i]? = some (a.eval x) := fun i x hx => by rw [List.getElem?_toArray, List.getElem?_map, hx]; rfl
 have hargs' : ∀ i p, ps[i]? = some p → ∃ u, (args.map a.eval).toArray[i]? = some u ∧ RepV g1 w (.ar (d + 1) i) p u := by
  intro i p hp'
  obtain ⟨x, hx, hxv, _⟩ := hargs i p hp'
  have hdup : p.dup = true := by
   rw [List.all_eq_true] at hp
   exact hp p (List.mem_of_getElem? hp')
  exact ⟨a.eval x, hvals i x hx, dup_TV hdup (opv_rep h1 hxv)⟩
 refine (hc (d + 1) g1 w _ (by simp [hlen]) hargs' (fun i cs hi => by simp at hi) (fun hh => by simp at hh) h1.wf).mono fun en w' hen => ?_
 obtain ⟨r, g2, rfl, hr, _, _, hno2, hw2, hext⟩ := hen
 have hno2 : g2.no = g1.no := hno2 rfl
 -- what was frozen for the call is owned again
 let g3 : G := { g2 with own := fun b => bif isRt (d + 1) (g2.own b) then g2.own b else match g.own b with | some κ => some κ | none => g2.own b, fz := fun b => match g.own b with | some _ => none | none => g2.fz b, lb := g.lb }
 have hfz : ∀ b, g.own b = none → g3.fz b = g2.fz b := fun b hb => by simp only [g3, hb]
 have hfzn : ∀ b κ, g.own b = some κ → g3.fz b = none := fun b κ hb => by simp only [g3, hb]
 have hrt : ∀ b j, g2.own b = some (.rt (d + 1) j) → g3.own b = some (.rt (d + 1) j) := fun b j hb => by
  have : isRt (d + 1) (g2.own b) = true := by rw [hb]; simp [isRt]
  show (bif isRt (d + 1) (g2.own b) then g2.own b else _) = _
  rw [this]; exact hb
 have hownr : ∀ b, (isRt (d + 1) (g2.own b) = true ∧ g3.own b = g2.own b) ∨ (isRt (d + 1) (g2.own b) = false ∧ ((∃ κ, g.own b = some κ ∧ g3.own b = some κ) ∨ (g.own b = none ∧ g3.own b = g2.own b))) := fun b => by
  cases hr : isRt (d + 1) (g2.own b) with
  | true => exact .inl ⟨rfl, by simp only [g3, hr, cond_true]⟩
  | false =>
   refine .inr ⟨rfl, ?_⟩
   cases hg : g.own b with
   | some κ => exact .inl ⟨κ, rfl, by simp only [g3, hr, cond_false, hg]⟩
   | none => exact .inr ⟨rfl, by simp only [g3, hr, cond_false, hg]⟩
 have hgr : Grow g g3 := by
  refine ⟨fun b C hb => ?_, by show g.no ≤ g2.no; rw [hno2, h4]; exact Nat.le_refl _, fun i hi => ?_, fun b C hb => ?_, hext.gr.va.trans h2.gr.va, fun i hi => by
   have k1 := hext.gr.oe i (by rw [h4]; exact hi)
   rw [h3] at k1
   exact k1.trans (h2.gr.oe i hi)⟩
  ·rw [hfz b (h.wf.fz b C hb).1]
   exact hext.gr.fz b C (h2.gr.fz b C hb)
  ·exact (hext.gr.oa i (by rw [h4]; exact hi)).trans (h2.gr.oa i hi)
  ·exact (hext.gr.fe b C (h2.gr.fz b C hb)).trans (h2.gr.fe b C hb)
 have hwf : WF g3 w' := by
  refine ⟨gl_mono hgr h.wf.gl, fun b κ hb => ?_, fun b C hf => ?_, fun b b' j hb => ?_, hw2.ol, hw2.inj, fun i hi => by
   obtain ⟨k0, k1⟩ := hw2.oe i hi
   refine ⟨?_, k1⟩
   rcases hownr (g2.oa i) with ⟨k3, _⟩ | ⟨_, ⟨κ', k3, k4⟩ | ⟨_, k4⟩⟩
   ·rw [k0] at k3; simp [isRt] at k3
   ·have k5 : g2.oa i = g.oa i := by rw [hext.gr.oa i (by rw [← hno2]; exact hi), h3]
    have k6 := (h.wf.oe i (by rw [← h4, ← hno2]; exact hi)).1
    rw [← k5, k3] at k6
    rw [← k6]; exact k4
   ·exact k4.trans k0⟩
  ·rcases hownr b with ⟨_, k1⟩ | ⟨_, ⟨κ', k1, k2⟩ | ⟨_, k1⟩⟩
   ·rw [k1] at hb; exact hw2.own b κ hb
   ·exact Nat.lt_of_lt_of_le (h.wf.own b κ' k1) hext.hs
   ·rw [k1] at hb; exact hw2.own b κ hb
  ·cases hg : g.own b with
   | some κ => rw [hfzn b κ hg] at hf; simp at hf
   | none =>
    rw [hfz b hg] at hf
    obtain ⟨k1, k2⟩ := hw2.fz b C hf
    refine ⟨?_, k2⟩
    rcases hownr b with ⟨k3, _⟩ | ⟨_, ⟨κ', k3, _⟩ | ⟨_, k3⟩⟩
    ·rw [k1] at k3; simp [isRt] at k3
    ·rw [hg] at k3; simp at k3
    ·rw [k3]; exact k1
  ·rcases hownr b with ⟨_, k1⟩ | ⟨_, ⟨κ', k1, k2⟩ | ⟨_, k1⟩⟩
   ·rw [k1] at hb; exact hw2.ob b b' j hb
   ·rw [k2] at hb; rw [Option.some.inj hb] at k1; exact Nat.lt_of_lt_of_le (h.wf.ob b b' j k1) hext.hs
   ·rw [k1] at hb; exact hw2.ob b b' j hb
 have hkeep : ∀ b κ, g.own b = some κ → Outer (d + 1) 0 g1 b κ → g3.own b = some κ ∧ w'.heap[b]? = w.heap[b]? := fun b κ hb ho => by
  have hnr : g2.own b = some κ ∨ g2.own b = none → isRt (d + 1) (g2.own b) = false := fun hh => by
   rcases hh with hh | hh <;> rw [hh]
   ·cases κ with
    | rt d' j =>
     have ho : d' < d + 1 := ho
     have : Nat.beq d' (d + 1) = false := by
      cases hb : Nat.beq d' (d + 1) with
      | true => have := Nat.eq_of_beq_eq_true hb; omega
      | false => rfl
     simp [isRt, this]
    | _ => rfl
   ·rfl
  have fin : isRt (d + 1) (g2.own b) = false → g3.own b = some κ := fun hh => by simp only [g3, hh, cond_false, hb]
  rcases h5 b κ hb with h6 | ⟨C, h6⟩
  ·obtain ⟨k1, k2⟩ := hext.own b κ h6 ho
   exact ⟨fin (hnr (.inl k1)), k2⟩
  ·have h7 := (h1.wf.fz b C h6).2
   have h8 := hw2.fz b C (hext.gr.fz b C h6)
   have h9 := h8.2
   rw [hext.gr.fe b C h6] at h9
   exact ⟨fin (hnr (.inr h8.1)), h9.trans h7.symm⟩
 have hK : Keep (fun b k => ¬ Outer (d + 1) 0 g1 b k) g w g3 w' := ⟨hgr, rfl, fun b k hb hx => hkeep b k hb (Classical.not_not.1 hx)⟩
 have h9 : Rel d nt e S.noR g3 a w' := by
  refine h.noR.keepC hK (by show NoOk e S.mm.length g2.no; rw [hno2, h4]; exact h.no) (fun b k hb hx => ?_) rfl hwf
  cases k with
  | loc d' t => exact ⟨.inr (by simp), fun t' hh => by simp only [Key.loc.injEq] at hh; exact hx (by rw [hh.1]; exact Nat.lt_succ_self d), fun _ _ _ hk => by simp at hk, fun _ _ _ _ hk => by simp at hk, fun _ _ _ _ hk => by simp at hk, fun _ _ hk => by simp at hk⟩
  | tm d' t i => exact ⟨.inr (by simp), fun _ => by simp, fun _ _ _ hk => by simp only [Key.tm.injEq] at hk; exact (hx (by rw [hk.1]; exact Nat.lt_succ_self d)).elim, fun _ _ _ _ hk => by simp at hk, fun _ _ _ _ hk => by simp at hk, fun _ _ hk => by simp at hk⟩
  | lc d' t i => exact ⟨.inr (by simp), fun _ => by simp, fun _ _ _ hk => by simp at hk, fun _ _ _ _ hk => by simp only [Key.lc.injEq] at hk; exact (hx (by rw [hk.1]; exact Nat.lt_succ_self d)).elim, fun _ _ _ _ hk => by simp at hk, fun _ _ hk => by simp at hk⟩
  | vo d' i => exact ⟨.inr (by simp), fun _ => by simp, fun _ _ _ hk => by simp at hk, fun _ _ _ _ hk => by simp at hk, fun _ _ _ _ hk => by simp at hk, fun _ _ hk => by simp only [Key.vo.injEq] at hk; exact (hx (by rw [hk.1]; exact Nat.lt_succ_self d)).elim⟩
  | obj => exact (hx fun i hi => by omega).elim
  | ob b' j => exact (hx fun i hi => by omega).elim
  | _ => exact ⟨.inr (by simp), fun _ => by simp, fun _ _ _ hk => by simp at hk, fun _ _ _ _ hk => by simp at hk, fun _ _ _ _ hk => by simp at hk, fun _ _ hk => by simp at hk⟩
 have hE3 : Ext d S.mm.length g w g3 w' := by
  refine ⟨hgr, fun b κ hb ho => hkeep b κ hb ?_, hext.hs, fun i k1 k2 => ?_, hext.sl⟩
  ·cases κ with
   | obj => intro i hi; omega
   | ob b' j => intro i hi; omega
   | _ => exact Nat.lt_succ_of_lt ho
  ·have k2 : i < g2.no := k2
   rw [hno2, h4] at k2; omega
 have hrT : RepT g3 w' (Key.rt (d + 1)) v r := lnd_T hE hrt hv hr
 have h10 : Rel d nt e S.keepR g3 a w' := h.addR h9 rfl hgr fun b cs hb => by
  obtain ⟨h11, _⟩ := h.cont hb
  refine (hkeep _ _ h11 ?_).2
  cases b with
  | loc t => exact Nat.lt_succ_self d
  | obj i => intro j hj; omega
 obtain ⟨us, hus, hback⟩ := repT_split' hrT
 obtain ⟨g4, k1, k2, k3, k4, k5, k6, k7⟩ := h10.moveCells (m := S.mm.length) v.keys us (fun j => .rt (d + 1) j) (fun j => .tm d (dst.getD 0) j) (fun _ => Nat.le_succ d) (fun _ => Nat.le_refl d)
  (fun _ _ => ⟨fun _ _ _ hk => by simp at hk, fun _ _ _ _ hk => by simp at hk, fun _ _ _ _ hk => by simp at hk, fun _ _ hk => by simp at hk⟩) (fun i j hij => by simpa using hij) (fun i j hij => by simp at hij) hus
 refine ⟨r, g4, rfl, ?_, hE3.trans k2 fun i hi => (h.mm i S.mm[i] (List.getElem?_eq_getElem hi)).1⟩
 have hrT4 : RepT g4 w' (fun j => .tm d (dst.getD 0) j) v r := hback g4 w' _ k7.gr (.inl (lndV_noLoc hv)) k6
 cases dst with
 | none => exact k1
 | some t => exact k1.setT (hd t rfl) hrT4
theorem srcO_eval (h : Rel d nt e S g a w) (x : Operand) : a.eval (srcO S x) = a.eval x := by
 cases x with
 | tmp u =>
  simp only [srcO]
  split
  ·rename_i T xs t hr
   obtain ⟨_, h1⟩ := h.rt u _ hr
   obtain ⟨_, h2⟩ := h1.2 _ rfl
   have h2 : a.tmps[t]? = some (a.tmps.getD u undef) := h2
   show a.tmps.getD t undef = a.tmps.getD u undef
   rw [Array.getD_eq_getD_getElem?, h2]
   rfl
  ·rfl
 | _ => rfl
theorem evFn_ok {β : Type} {res : β} (hb : Base0 e m0 g0 w0) (hx : FxOk P F e nt xb) (hC : CTabOk P C) {K : St → Option β} (hi : Inv xb d nt e m0 g0 w0 S g a w) {f : FuncId} {dst : Option Nat} {args : List Operand}
  (h : evFn F C f dst args S K = some res) {N : Act → World → Prop} {Q : Exit → Act → World → Prop} (next : ∀ S' g' a' w', K S' = some res → Inv xb d nt e m0 g0 w0 S' g' a' w' → N a' w') :
  Real P f ∧ Calls P f (args.map a.eval).toArray w fun
   | .returned v, w'' => N (a.put dst v) w''
   | .panicked chain, w'' => Q (.panic chain) a w''
   | .outgrown, _ => LetsOut Q := by
 unfold evFn at h
 cases hw : C.isW f with
 | true =>
  simp only [hw, cond_true] at h
  simp [evW] at h
 | false =>
 simp only [hw, cond_false] at h
 cases hl : C.lnd f with
 | false =>
  simp only [hl, cond_false] at h
  obtain ⟨g', h1, h2, _, _, h3, _⟩ := frzC_rep (m := S.mm.length) (C.fz f) args S g hi.rel
  exact evCall_ok hb hx hC (hi.go hb h1 h2) h next
 | true =>
  simp only [hl, cond_true] at h
  unfold evLend at h
  split at h
  case h_2 => simp at h
  rename_i ps hps
  cases hg : (ps.all PV.dup && dstOk F dst && C.isA f) with
  | false => simp [hg] at h
  | true =>
   simp only [hg, cond_true] at h
   simp only [Bool.and_eq_true] at hg
   obtain ⟨hre, v, hc, hv, hk⟩ := hC.A f ps β _ res hg.2 h
   cases hvf : v.lndV with
   | false => simp [hvf] at hk
   | true =>
    simp only [hvf, cond_true] at hk
    have heq : args.map a.eval = (args.map (srcO S)).map a.eval := by
     rw [List.map_map]
     exact List.map_congr_left fun x _ => (srcO_eval hi.rel x).symm
    rw [heq]
    refine ⟨hre, (lend_ran hx.T.enc hi.rel hps hg.1.1 hc hvf (dstOk_lt hx.nt hg.1.2)).mono fun en w' hen => ?_⟩
    obtain ⟨r, g', rfl, h1, h2⟩ := hen
    exact next _ g' _ w' hk (hi.go hb h1 h2)
theorem evClo_ok {β : Type} {res : β} (hb : Base0 e m0 g0 w0) (hx : FxOk P F e nt xb) (hC : CTabOk P C) {K : St → Option β} (hi : Inv xb d nt e m0 g0 w0 S g a w) {f : FuncId} {dst : Option Nat} {args : List Operand} {caps : List (Nat × Nat)} (hcap : ∀ x ∈ caps, x.1 < g.no)
  (h : evClo F C f dst args caps S K = some res) {N : Act → World → Prop} {Q : Exit → Act → World → Prop} (next : ∀ S' g' a' w', K S' = some res → Inv xb d nt e m0 g0 w0 S' g' a' w' → N a' w') :
  Real P f ∧ Calls P f ((args.map a.eval) ++ caps.map fun x => Value.pointer (some ⟨g.oa x.1, x.2, none⟩)).toArray w fun
   | .returned v, w'' => N (a.put dst v) w''
   | .panicked chain, w'' => Q (.panic chain) a w''
   | .outgrown, _ => LetsOut Q := by
 unfold evClo at h
 obtain ⟨g', h1, h2, h3, h4, h5, _⟩ := frzC_rep (m := S.mm.length) (C.fz f) args S g hi.rel
 split at h
 case h_2 => simp at h
 rename_i ps hps
 cases hg : ((ps.all fun p => p.dup && !p.isLoc) && (dstOk F dst && F.e)) with
 | false => simp [hg] at h
 | true =>
  simp only [hg, cond_true] at h
  simp only [Bool.and_eq_true] at hg
  cases hA : C.isA f with
  | true => simp [hA] at h
  | false =>
   simp only [hA, cond_false] at h
   have hen : e = none := by
    have h8 := hx.e
    rw [hg.2.2] at h8
    cases e with
    | none => rfl
    | some k => simp at h8
   subst hen
   obtain ⟨hre, v, M', hc, hv, hk⟩ := hC.B f _ _ β _ res hA h
   have e1 : (caps.map fun x => Value.pointer (some ⟨g.oa x.1, x.2, none⟩)) = caps.map fun x => Value.pointer (some ⟨g'.oa x.1, x.2, none⟩) := by rw [h3]
   rw [e1]
   refine ⟨hre, (clo_ran h1 hps hg.1 (fun x hx => by rw [h4]; exact hcap x hx) hc hv (dstOk_lt hx.nt hg.2.1)).mono fun en w' hen => ?_⟩
   obtain ⟨r, g2, rfl, k1, k2⟩ := hen
   have hi' : Inv xb d nt none m0 g0 w0 (frzC (C.fz f) args S) g' a w := (hi.go hb h1 h2)
   exact next _ g2 _ w' hk (hi'.go hb k1 k2)
theorem run_enter {f : FuncId} (h : Real P f) (args : Array Value) : (callFunc f args).run P w = .ok (.enter f args) w := by
 obtain ⟨fn, h1, h2, h3⟩ := h
 have h2' : ¬ fn.name = "runtime.NumGoroutine" := by simpa using h2
 have h3' : ¬ fn.body = none := fun hh => by rw [hh] at h3; simp at h3
 simp [callFunc, h1, h2', h3']
theorem stp_ran {o : Oper} (hx : FxOk P F e nt xb) {S' : St} (h : Rel d nt e S g a w) (ho : stp F o S = some (true, S')) :
  ∃ nx g' w', (execOp a.eval o).run P w = .ok nx w' ∧ (∀ N Q, o.upon P a N Q (.ok nx w') = N (match nx with | .value v => a.put o.dst v | _ => a) w') ∧
   Rel d nt e S' g' (match nx with | .value v => a.put o.dst v | _ => a) w' ∧ Ext d S.mm.length g w g' w' := by
 unfold stp at ho
 split at ho
 ·rename_i t hdst
  cases hb : Nat.blt t F.nt with
  | false => simp [hb] at ho
  | true =>
   simp only [hb, cond_true] at ho
   simp only [Nat.blt_eq] at hb
   obtain ⟨g', v, w', h1, h2, h3⟩ := stp1_ran hx.T hx.flat hx.e (hx.nt ▸ hb) h ho
   exact ⟨.value v, g', w', h1, fun N Q => rfl, by rw [hdst]; exact h2, h3⟩
 ·rename_i hdst
  split at ho
  ·rename_i T x v hop
   simp only [Option.map_eq_some_iff, Prod.mk.injEq, true_and] at ho
   obtain ⟨S1, ho, rfl⟩ := ho
   obtain ⟨g', w', h1, h2, h3⟩ := store_ran hx.T h ho hop
   exact ⟨.skip, g', w', h1, fun N Q => by simp only [Oper.upon, hdst, Act.put], h2, h3⟩
  ·rename_i T m k x hop
   simp only [Option.map_eq_some_iff, Prod.mk.injEq, true_and] at ho
   obtain ⟨S1, ho, rfl⟩ := ho
   obtain ⟨g', w', h1, h2, h3⟩ := mapUpdate_ran hx.T h ho hop
   exact ⟨.skip, g', w', h1, fun N Q => by simp only [Oper.upon, hdst, Act.put], h2, h3⟩
  ·simp at ho
theorem amb_ran {o : Oper} {t : Nat} (hx : FxOk P F e nt xb) (h : Rel d nt e S g a w) (ho : ambS F o S = some t) :
  ∃ b : Bool, (execOp a.eval o).run P w = .ok (.value (.bool b)) w ∧ o.dst = some t ∧ t < nt := by
 unfold ambS at ho
 split at ho
 case h_2 => simp at ho
 rename_i t' hdst
 cases hg : (F.am t' && Nat.blt t' F.nt) with
 | false => simp [hg] at ho
 | true =>
  simp only [hg, cond_true] at ho
  simp only [Bool.and_eq_true, Nat.blt_eq] at hg
  split at ho
  case h_2 => simp at ho
  rename_i op T x y z hop
  have key : ∀ el, F.T.K T = .slice el → nilK y = true → (∃ r, eqOp op true = some r) → (∃ z l k, a.eval x = .slice z l k) → ∃ b : Bool, (execOp a.eval o).run P w = .ok (.value (.bool b)) w := by
   intro el hK hy heq ⟨z1, l, k, hv⟩
   have hy' : a.eval y = .slice none 0 0 := by
    cases y with
    | const v =>
     cases v with
     | slice A n c =>
      cases A with
      | some _ => simp [nilK] at hy
      | none =>
       cases n with
       | succ n => simp [nilK] at hy
       | zero => cases c with
        | succ c => simp [nilK] at hy
        | zero => rfl
     | _ => simp [nilK] at hy
    | _ => simp [nilK] at hy
   have h1 := equal_slice (P := P) (w := w) (hx.T.slice _ _ hK).1 z1 l k
   have h3 := binOp_eql (u := .slice z1 l k) (v := .slice none 0 0) (t := T) trivial
   have hgd : (eqGuard op T x y (.slice z1 l k) (.slice none 0 0)).run P w = .ok () w := eqGuard_plain trivial
   obtain ⟨r, heq⟩ := heq
   cases op <;> simp only [eqOp, reduceCtorEq] at heq
   ·exact ⟨z1.isNone, by simp [execOp, hop, hv, hy', hgd, h3.1, h1]⟩
   ·exact ⟨!z1.isNone, by simp [execOp, hop, hv, hy', hgd, h3.2, h1]⟩
  have fin : ∀ el, F.T.K T = .slice el → nilK y = true → (∃ r, eqOp op true = some r) → (∃ z l k, a.eval x = .slice z l k) → t' = t → ∃ b : Bool, (execOp a.eval o).run P w = .ok (.value (.bool b)) w ∧ o.dst = some t ∧ t < nt := by
   intro el h1 h2 h3 h4 h5
   subst h5
   obtain ⟨b, h6⟩ := key el h1 h2 h3 h4
   exact ⟨b, h6, hdst, hx.nt ▸ hg.2⟩
  split at ho
  ·rename_i el r U o' hK hy heq hxv
   refine fin el hK hy ⟨_, heq⟩ ?_ (Option.some.inj ho)
   have h5 : RepF g (.fo U o') (a.eval x) := opv_dup h hxv rfl (fun _ => .obj)
   generalize a.eval x = v at h5
   cases h5 with
   | foN => exact ⟨_, _, _, rfl⟩
   | foS _ _ _ h6 => cases h6 <;> exact ⟨_, _, _, rfl⟩
  ·rename_i el r U xs hK hy heq hxv
   refine fin el hK hy ⟨_, heq⟩ ?_ (Option.some.inj ho)
   have h5 : RepF g (.fl U xs) (a.eval x) := opv_dup h hxv rfl (fun _ => .obj)
   generalize a.eval x = v at h5
   cases h5 <;> exact ⟨_, _, _, rfl⟩
  ·simp at ho
theorem evOp_ok {β : Type} {res : β} (hb : Base0 e m0 g0 w0) (hx : FxOk P F e nt xb) (hC : CTabOk P C) {K : St → Option β} (hi : Inv xb d nt e m0 g0 w0 S g a w) {o : Oper}
  (h : evOp F C o S K = some res) {N : Act → World → Prop} {Q : Exit → Act → World → Prop} (next : ∀ S' g' a' w', K S' = some res → Inv xb d nt e m0 g0 w0 S' g' a' w' → N a' w') : o.wp P a w N Q := by
 unfold evOp at h
 have hsame : ∀ args : Array Operand, (args.toList.map a.eval).toArray = args.map a.eval := fun args => by rw [← Array.toList_map, Array.toArray_toList]
 split at h
 ·rename_i f args tys hop
  obtain ⟨h1, h2⟩ := evFn_ok (Q := Q) hb hx hC hi h next
  obtain ⟨dst, op, ty, pos, after, guard⟩ := o
  simp only at hop h1 h2
  subst hop
  have h3 : (execOp a.eval ⟨dst, .call { callee := .value (.func f), args, argTypes := tys }, ty, pos, after, guard⟩).run P w = .ok (.enter f (args.toList.map a.eval).toArray) w := by
   have h4 := run_enter (w := w) h1 (#[] ++ args.map a.eval ++ #[])
   rw [execOp_call_go]
   rw [h4, hsame]
   congr 2
   simp
  unfold Oper.wp
  rw [h3]
  exact h2
 ·rename_i t args tys hop
  split at h
  case h_3 => simp at h
  case h_2 =>
   rename_i f cap caps hf
   obtain ⟨h1, h2⟩ := evClo_ok (Q := Q) hb hx hC hi (by
    have h5 := (hi.rel.tm t _ hf).2
    have h6 : RepF g (.clo f (cap :: caps)) (a.tmps.getD t undef) := h5
    generalize a.tmps.getD t undef = v at h6
    cases h6 with
    | clo _ _ hh => exact hh) h next
   obtain ⟨dst, op, ty, pos, after, guard⟩ := o
   simp only at hop h1 h2
   subst hop
   have hv : a.eval (.tmp t) = .func (.func f) #[] ((cap :: caps).map fun x => Value.pointer (some ⟨g.oa x.1, x.2, none⟩)).toArray := by
    have h5 := (hi.rel.tm t _ hf).2
    have h6 : RepF g (.clo f (cap :: caps)) (a.tmps.getD t undef) := h5
    show a.tmps.getD t undef = _
    generalize a.tmps.getD t undef = v at h6
    cases h6
    rfl
   have h3 : (execOp a.eval ⟨dst, .call { callee := .value (.tmp t), args, argTypes := tys }, ty, pos, after, guard⟩).run P w = .ok (.enter f ((args.toList.map a.eval) ++ (cap :: caps).map fun x => Value.pointer (some ⟨g.oa x.1, x.2, none⟩)).toArray) w := by
    have h4 := run_enter (w := w) h1 (#[] ++ args.map a.eval ++ ((cap :: caps).map fun x => Value.pointer (some ⟨g.oa x.1, x.2, none⟩)).toArray)
    have h5 : execOp a.eval ⟨dst, .call { callee := .value (.tmp t), args, argTypes := tys }, ty, pos, after, guard⟩ = callFunc f (#[] ++ args.map a.eval ++ ((cap :: caps).map fun x => Value.pointer (some ⟨g.oa x.1, x.2, none⟩)).toArray) := by
     have h6 : resolve a.eval { callee := .value (.tmp t), args, argTypes := tys } ty = pure { target := .fn (.func f) ((cap :: caps).map fun x => Value.pointer (some ⟨g.oa x.1, x.2, none⟩)).toArray, args := #[] ++ args.map a.eval } := by
      simp only [resolve, hv]; rfl
     show (resolve a.eval { callee := .value (.tmp t), args, argTypes := tys } ty >>= fun d => invoke d.target d.args) = _
     rw [h6]
     rfl
    rw [h5, h4]
    congr 2
    rw [← hsame args]
    simp
   unfold Oper.wp
   rw [h3]
   exact h2
  rename_i f hf
  obtain ⟨h1, h2⟩ := evFn_ok (Q := Q) hb hx hC hi h next
  obtain ⟨dst, op, ty, pos, after, guard⟩ := o
  simp only at hop h1 h2
  subst hop
  have hv : a.eval (.tmp t) = .func (.func f) #[] #[] := by
   have h5 := (hi.rel.tm t _ hf).2
   have h6 : RepF g (.clo f []) (a.tmps.getD t undef) := h5
   show a.tmps.getD t undef = _
   generalize a.tmps.getD t undef = v at h6
   cases h6
   rfl
  have h3 : (execOp a.eval ⟨dst, .call { callee := .value (.tmp t), args, argTypes := tys }, ty, pos, after, guard⟩).run P w = .ok (.enter f (args.toList.map a.eval).toArray) w := by
   have h4 := run_enter (w := w) h1 (#[] ++ args.map a.eval ++ #[])
   have h5 : execOp a.eval ⟨dst, .call { callee := .value (.tmp t), args, argTypes := tys }, ty, pos, after, guard⟩ = callFunc f (#[] ++ args.map a.eval ++ #[]) := by
    have h6 : resolve a.eval { callee := .value (.tmp t), args, argTypes := tys } ty = pure { target := .fn (.func f) #[], args := #[] ++ args.map a.eval } := by
     simp only [resolve, hv]; rfl
    show (resolve a.eval { callee := .value (.tmp t), args, argTypes := tys } ty >>= fun d => invoke d.target d.args) = _
    rw [h6]
    rfl
   rw [h5, h4, hsame]
   congr 2
   simp
  unfold Oper.wp
  rw [h3]
  exact h2
 ·split at h
  ·rename_i c S1 hs
   cases c with
   | false =>
    simp only [cond_false] at h
    split at h
    ·rename_i t ht
     obtain ⟨b, h1, h2, h3⟩ := amb_ran hx hi.rel ht
     obtain ⟨h4, h5⟩ := amb_some.1 h
     have h6 : K (S.setT t (.b b)) = some res := by cases b <;> assumption
     unfold Oper.wp
     rw [h1]
     show N (a.put o.dst (.bool b)) w
     rw [h2]
     exact next _ _ _ _ h6 (hi.go hb (hi.rel.setT h3 (RepF.b b)) (.refl _ _ _ _))
    ·simp at h
   | true =>
    simp only [cond_true] at h
    obtain ⟨nx, g', w', h1, h2, h3, h4⟩ := stp_ran hx hi.rel hs
    unfold Oper.wp
    rw [h1, h2]
    exact next _ _ _ _ h (hi.go hb h3 h4)
  ·simp at h
theorem guardVal_ok {ops : Array Oper} {j t : Nat} {q : Option Bool} {c : Bool} (h : Rel d nt e S g a w) (hg : guardVal ops S j = some (t, q, c)) :
  (q = none ∧ lk S.tm t = some (.b c) ∧ yielded ops a.tmps j = some c) ∨ (q = some false ∧ yielded ops a.tmps j = none) := by
 unfold guardVal at hg
 split at hg
 case h_2 => simp at hg
 rename_i o ho
 split at hg
 case h_2 => simp at hg
 rename_i t' hd
 have hy : ∀ v, a.tmps.getD t' undef = v → t' < nt → yielded ops a.tmps j = (match v with | .bool b => some b | _ => none) := by
  intro v hv ht
  have h1 : a.tmps[t']? = some v := by
   rw [← hv, Array.getD_eq_getD_getElem?, Array.getElem?_eq_getElem (by rw [h.sz]; exact ht)]; rfl
  simp only [yielded, ho, Option.bind_some, hd, h1]
  cases v <;> rfl
 split at hg
 ·rename_i b hb
  simp only [Option.some.injEq, Prod.mk.injEq] at hg
  obtain ⟨rfl, rfl, rfl⟩ := hg
  obtain ⟨h1, h2⟩ := h.tm _ _ hb
  have h3 : a.tmps.getD t' undef = .bool b := by generalize a.tmps.getD t' undef = v at h2; cases h2; rfl
  exact .inl ⟨rfl, hb, hy _ h3 h1⟩
 ·rename_i hb
  simp only [Option.some.injEq, Prod.mk.injEq] at hg
  obtain ⟨rfl, rfl, rfl⟩ := hg
  obtain ⟨h1, h2⟩ := h.tm _ _ hb
  obtain ⟨A, h3, _⟩ := h2
  exact .inr ⟨rfl, hy _ h3 h1⟩
 ·simp at hg
theorem evOps_ok {β : Type} {res : β} (hb : Base0 e m0 g0 w0) (hx : FxOk P F e nt xb) (hC : CTabOk P C) {K : St → Option β} {ops : Array Oper} {Q : Exit → Act → World → Prop} :
  ∀ (r : List Oper) (l : List Nat) {S : St} {g : G} {a : Act} {w : World}, l.map (fun i => ops[i]?) = r.map some → Inv xb d nt e m0 g0 w0 S g a w → evOps F C ops r S K = some res →
   (∀ S' g' a' w', K S' = some res → Inv xb d nt e m0 g0 w0 S' g' a' w' → Q .normal a' w') → wpOps P ops Q l a w := by
 intro r
 induction r with
 | nil =>
  intro l S g a w hl hi h next
  cases l with
  | nil => exact next _ _ _ _ h hi
  | cons i l => simp at hl
 | cons o r ih =>
  intro l S g a w hl hi h next
  cases l with
  | nil => simp at hl
  | cons i l =>
   simp only [List.map_cons, List.cons.injEq] at hl
   obtain ⟨ho, hl⟩ := hl
   simp only [wpOps, ho]
   -- the operation runs
   have run : ∀ {S : St} {a : Act} {w : World} {g : G}, Inv xb d nt e m0 g0 w0 S g a w → (evOp F C o S fun S => evOps F C ops r (extD F o.dst S) K) = some res → o.wp P a w (wpOps P ops Q l) Q :=
    fun hi h => evOp_ok hb hx hC hi h fun S' g' a' w' hk hi' => by
     obtain ⟨g'', hi''⟩ := hi'.extD hx hb o.dst
     exact ih l hl hi'' hk next
   -- it is passed over
   have skip : ∀ {S : St}, Inv xb d nt e m0 g0 w0 S g a w → dstOk F o.dst = true → evOps F C ops r (setD S o.dst (.tup [])) K = some res → wpOps P ops Q l (a.put o.dst undef) w := by
    intro S hi hd h
    refine ih l hl (S := setD S o.dst (.tup [])) (g := g) ⟨?_, hi.ext, hi.va⟩ h next
    cases hdst : o.dst with
    | none => exact hi.rel
    | some t => exact hi.rel.setT (dstOk_lt hx.nt hd t hdst) ⟨#[], rfl, rfl, by simp⟩
   simp only [evOps] at h
   split at h
   ·rename_i hg
    have : Region.wanted o (yielded ops a.tmps) = true := by simp [Region.wanted, hg]
    rw [if_pos this]
    exact .inl (run hi h)
   ·rename_i j want hg
    split at h
    ·rename_i t c hgv
     rcases guardVal_ok hi.rel hgv with ⟨_, h1, h2⟩ | ⟨h1, _⟩
     ·have hset : ∀ c', c' = c → Inv xb d nt e m0 g0 w0 (S.setT t (.b c')) g a w := fun c' hc => by
       subst hc
       obtain ⟨h3, h4⟩ := hi.rel.tm _ _ h1
       exact ⟨hi.rel.setT' h3 rfl rfl (fun _ _ => rfl) h4, hi.ext, hi.va⟩
      cases hd : dstOk F o.dst with
      | false => simp [hd] at h
      | true =>
       simp only [hd, cond_true] at h
       cases c with
       | true =>
        simp only [cond_true] at h
        cases want with
        | true =>
         simp only [cond_true] at h
         have : Region.wanted o (yielded ops a.tmps) = true := by simp [Region.wanted, hg, h2]
         rw [if_pos this]
         exact .inl (run (hset _ rfl) h)
        | false =>
         simp only [cond_false] at h
         have : ¬ Region.wanted o (yielded ops a.tmps) = true := by simp [Region.wanted, hg, h2]
         rw [if_neg this]
         exact skip (hset _ rfl) hd h
       | false =>
        simp only [cond_false] at h
        cases want with
        | true =>
         simp only [cond_true] at h
         have : ¬ Region.wanted o (yielded ops a.tmps) = true := by simp [Region.wanted, hg, h2]
         rw [if_neg this]
         exact skip (hset _ rfl) hd h
        | false =>
         simp only [cond_false] at h
         have : Region.wanted o (yielded ops a.tmps) = true := by simp [Region.wanted, hg, h2]
         rw [if_pos this]
         exact .inl (run (hset _ rfl) h)
     ·simp at h1
    ·rename_i t q c hgv
     rcases guardVal_ok hi.rel hgv with ⟨h1, _⟩ | ⟨_, h2⟩
     ·simp at h1
     ·have : ¬ Region.wanted o (yielded ops a.tmps) = true := by simp [Region.wanted, hg, h2]
      rw [if_neg this]
      cases hd : dstOk F o.dst with
      | false => simp [hd] at h
      | true =>
       simp only [hd, cond_true] at h
       exact skip hi hd h
    ·simp at h
end
end
end Go.KM
