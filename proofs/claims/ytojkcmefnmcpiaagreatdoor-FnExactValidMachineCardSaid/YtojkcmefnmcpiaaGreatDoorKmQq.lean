/- A function's body, and the law that the abstract machine's result is Go's. Conditions: none. -/
import Derived.Test.YtojkcmefnmcpiaaGreatDoorKmOo
import Derived.Test.YtojkcmefnmcpiaaGreatDoorKmSs
import Derived.Test.YtojkcmefnmcpiaaGreatDoorKmUu
import Derived.Test.YtojkcmefnmcpiaaGreatDoorKmUu
namespace Go.KM
open Go
open Fam (Dn dflt)
open Enc (cells sz mkE glob gany u8)
set_option autoImplicit false
set_option linter.unusedVariables false
set_option linter.unusedSimpArgs false
set_option linter.unusedSectionVars false
section
section
variable [Enc] {xb : Bool} {d nt : Nat} {e : Option Nat} {S : St} {g g' g0 : G} {a : Act} {w w' w0 : World} {P : Program} {m0 : Nat} {F : Fx} {C : CTab}
def resF (tmps : Array Value) : ResultVar → Sem Value
 | .tmp t => pure (tmps.getD t undef)
 | .cell a t => do loadVar t (← asAddr (tmps.getD a undef))
theorem results_eq (fn : Func) (tmps : Array Value) : results fn tmps = (do
  let vs ← fn.results.mapM (resF tmps)
  pure (if h : vs.size = 1 then vs[0] else .tuple vs)) := by
 unfold results
 congr 1
def vOf : List Value → Value
 | [v] => v
 | vs => .tuple vs.toArray
theorem run_results {l : List ResultVar} {us : List Value} {fn : Func} (h : fn.results = l.toArray) {tmps : Array Value} {P : Program} {w : World} (hr : (l.mapM (resF tmps)).run P w = .ok us w) :
  (results fn tmps).run P w = .ok (vOf us) w := by
 rw [results_eq, h, List.mapM_toArray, Sem.run_bind, Sem.run_map, hr]
 clear hr
 match us with
 | [] => simp [vOf]
 | [t] => simp [vOf]
 | t :: u :: l => simp [vOf]
def keyOf (d t : Nat) (c : Bool) (i : Nat) : Key := bif c then .lc d t i else .tm d t i
theorem repK_load {T : Tab} (hT : TabOk P T) {ty b : Nat} {C : Array Value} {E : TypeId} {κ : Nat → Key} {cs : List PV} (hb : w.heap[b]? = some (.cells C E (0, 0))) (hk : RepK g w κ cs C) (hl : cs.length = T.cz ty) (hz : 0 < T.cz ty) :
  (isAggK (T.K ty) = true → ∃ v, (loadVar ty ⟨b, 0, none⟩).run P w = .ok v w ∧ RepT g w κ (.st cs) v) ∧
  (isAggK (T.K ty) = false → isUnk (T.K ty) = false → ∀ c, cs = [c] → ∃ v, (loadVar ty ⟨b, 0, none⟩).run P w = .ok v w ∧ RepC g w (κ 0) c v) := by
 constructor
 ·intro ha
  cases hK : T.K ty <;> simp [hK, isAggK] at ha
  obtain ⟨fs, hfs⟩ := hT.struct ty hK
  obtain ⟨i, h7, h8⟩ := hT.cz ty hz
  have hagg : (isAgg ty).run P w = .ok true w := by simp [isAgg, sem_underlying hfs]
  have hC : C.toList.length = T.cz ty := by rw [← hl, ← hk.1]; simp
  have hload := run_loadCells_list (P := P) w ⟨b, 0, none⟩ C.toList (fun j v hj => by
   rw [cell_at hb, Nat.zero_add]; simpa using hj)
  refine ⟨.agg C, ?_, C, rfl, hk.1, hk.2⟩
  rw [hC] at hload
  simp [loadVar, hagg, sizeOf, typeInfo, h7, h8, hload]
 ·intro ha hu c hc
  subst hc
  have hagg := isAgg_false (P := P) (w := w) hT (ty := ty) (by simp [ha, hu])
  obtain ⟨u, h1, h2⟩ := hk.2 0 c rfl
  have hc : w.cell? ⟨b, 0, none⟩ = some u := by rw [cell_of_row w b 0 C E (0, 0) hb]; exact h1
  exact ⟨u, by simp [loadVar, hagg, hc], h2⟩
theorem repC_T {κ : Nat → Key} {c : PV} {v : Value} (hc : c.okc = true) (h : RepC g w (κ 0) c v) : RepT g w κ c v := by
 cases c with
 | ad b off => cases b with
  | loc t => simp [PV.okc, PV.plain, isOl, isLs] at hc
  | obj i => exact h
 | st cs => simp [PV.okc, PV.plain, isOl, isLs] at hc
 | tup cs => simp [PV.okc, PV.plain, isOl, isLs] at hc
 | _ => exact h
theorem resPV_rep (hT : TabOk P F.T) (h : Rel d nt e S g a w) {x : ResultVar} {p : PV} {t : Nat} {c : Bool} (hx : resPV F S x = some (p, t, c)) : ∃ u, (resF a.tmps x).run P w = .ok u w ∧ RepT g w (keyOf d t c) p u := by
 cases x with
 | tmp v =>
  simp only [resPV] at hx
  split at hx
  ·rename_i q hq
   simp only [Option.some.injEq, Prod.mk.injEq] at hx
   obtain ⟨rfl, rfl, rfl⟩ := hx
   exact ⟨_, rfl, (h.tm _ _ hq).2⟩
  ·simp at hx
 | cell v T =>
  simp only [resPV] at hx
  split at hx
  case h_2 => simp at hx
  rename_i t' hv
  split at hx
  case h_2 => simp at hx
  rename_i cs hcs
  cases hg : (Nat.beq cs.length (F.T.cz T) && (Nat.blt 0 (F.T.cz T) && (cs.all PV.okc && !isUnk (F.T.K T)))) with
  | false => simp [hg] at hx
  | true =>
   simp only [hg, cond_true] at hx
   simp only [Bool.and_eq_true, Nat.blt_eq, Bool.not_eq_true'] at hg
   obtain ⟨h1, h2, h3, h4⟩ := hg
   obtain ⟨h5, C, E, h6, h7⟩ := h.lc t' cs hcs
   obtain ⟨h8, h9⟩ := repK_load hT h6 h7 (Nat.eq_of_beq_eq_true h1) h2
   have haddr : a.tmps.getD v undef = .pointer (some ⟨g.lb t', 0, none⟩) := (h.tm v _ hv).2
   have hrun : ∀ r, (loadVar T ⟨g.lb t', 0, none⟩).run P w = .ok r w → (resF a.tmps (.cell v T)).run P w = .ok r w := fun r hr => by
    simp only [resF, haddr, asAddr, pure_bind]; exact hr
   cases ha : isAggK (F.T.K T) with
   | true =>
    simp only [ha, cond_true, Option.some.injEq, Prod.mk.injEq] at hx
    obtain ⟨rfl, rfl, rfl⟩ := hx
    obtain ⟨u, h10, h11⟩ := h8 ha
    exact ⟨u, hrun u h10, h11⟩
   | false =>
    simp only [ha, cond_false] at hx
    split at hx
    ·rename_i q
     simp only [Option.some.injEq, Prod.mk.injEq] at hx
     obtain ⟨rfl, rfl, rfl⟩ := hx
     obtain ⟨u, h10, h11⟩ := h9 ha h4 _ rfl
     exact ⟨u, hrun u h10, repC_T (by simpa using h3) h11⟩
    ·simp at hx
theorem retV_rep (hT : TabOk P F.T) (h : Rel d nt e S g a w) : ∀ (l : List ResultVar) {rs : List (PV × Nat × Bool)}, retV F S l = some rs → ∃ us : List Value, us.length = rs.length ∧ (l.mapM (resF a.tmps)).run P w = .ok us w ∧
  ∀ (j : Nat) (p : PV) (t : Nat) (c : Bool), rs[j]? = some (p, t, c) → ∃ u, us[j]? = some u ∧ RepT g w (keyOf d t c) p u := by
 intro l
 induction l with
 | nil => intro rs hr; simp only [retV, Option.some.injEq] at hr; subst hr; exact ⟨[], rfl, rfl, by simp⟩
 | cons x l ih =>
  intro rs hr
  simp only [retV] at hr
  split at hr
  ·rename_i p qs h1 h2
   simp only [Option.some.injEq] at hr
   subst hr
   obtain ⟨us, h3, h4, h5⟩ := ih h2
   obtain ⟨q, t, c⟩ := p
   obtain ⟨u, h6, h7⟩ := resPV_rep hT h h1
   refine ⟨u :: us, by simp [h3], by simp [List.mapM_cons, h6, h4], fun j p t c hj => ?_⟩
   cases j with
   | zero => simp only [List.getElem?_cons_zero, Option.some.injEq, Prod.mk.injEq] at hj; obtain ⟨rfl, rfl, rfl⟩ := hj; exact ⟨u, rfl, h7⟩
   | succ j => simp only [List.getElem?_cons_succ] at hj ⊢; exact h5 j p t c hj
  ·simp at hr
theorem nodupK_inj : ∀ (rs : List (PV × Nat × Bool)), nodupK rs = true → ∀ (i j : Nat) (p q : PV) (t : Nat) (c : Bool), rs[i]? = some (p, t, c) → rs[j]? = some (q, t, c) → i = j := by
 intro rs
 induction rs with
 | nil => intro _ i j p q t c hi; simp at hi
 | cons x r ih =>
  obtain ⟨px, tx, cx⟩ := x
  intro h i j p q t c hi hj
  simp only [nodupK, Bool.and_eq_true, Bool.not_eq_true', List.any_eq_false] at h
  have hno : ∀ (k : Nat) (q : PV), r[k]? = some (q, tx, cx) → False := fun k q hk => by
   have := h.1 _ (List.mem_of_getElem? hk)
   simp at this
  cases i with
  | zero => cases j with
   | zero => rfl
   | succ j =>
    simp only [List.getElem?_cons_zero, Option.some.injEq, Prod.mk.injEq, List.getElem?_cons_succ] at hi hj
    obtain ⟨_, rfl, rfl⟩ := hi
    exact (hno j q hj).elim
  | succ i => cases j with
   | zero =>
    simp only [List.getElem?_cons_zero, Option.some.injEq, Prod.mk.injEq, List.getElem?_cons_succ] at hi hj
    obtain ⟨_, rfl, rfl⟩ := hj
    exact (hno i p hi).elim
   | succ j =>
    simp only [List.getElem?_cons_succ] at hi hj
    rw [ih h.2 i j p q t c hi hj]
def keyT (d : Nat) : List (PV × Nat × Bool) → Nat → Key
 | (p, t, c) :: r, n => if n < p.ks.length then keyOf d t c n else keyT d r (n - p.ks.length)
 | [], n => .ar d n
theorem keyT_at (d : Nat) : ∀ (rs : List (PV × Nat × Bool)) (i : Nat) {p : PV} {t : Nat} {c : Bool} {j : Nat}, rs[i]? = some (p, t, c) → j < p.ks.length → keyT d rs (offs (rs.map Prod.fst) i + j) = keyOf d t c j := by
 intro rs
 induction rs with
 | nil => intro i p t c j hi; simp at hi
 | cons x r ih =>
  intro i p t c j hi hj
  obtain ⟨q, u, k⟩ := x
  cases i with
  | zero =>
   simp only [List.getElem?_cons_zero, Option.some.injEq, Prod.mk.injEq] at hi
   obtain ⟨rfl, rfl, rfl⟩ := hi
   rw [show offs (((q, u, k) :: r).map Prod.fst) 0 = 0 from rfl, Nat.zero_add]
   simp only [keyT]
   rw [if_pos hj]
  | succ i =>
   simp only [List.getElem?_cons_succ] at hi
   rw [show offs (((q, u, k) :: r).map Prod.fst) (i + 1) = q.ks.length + offs (r.map Prod.fst) i from rfl]
   simp only [keyT]
   rw [if_neg (by omega), show q.ks.length + offs (r.map Prod.fst) i + j - q.ks.length = offs (r.map Prod.fst) i + j by omega]
   exact ih i hi hj
def kTot : List (PV × Nat × Bool) → Nat
 | (p, _, _) :: r => p.ks.length + kTot r
 | [] => 0
theorem keyT_cases (d : Nat) : ∀ (rs : List (PV × Nat × Bool)) (n : Nat), (∃ i p t c j, rs[i]? = some (p, t, c) ∧ j < p.ks.length ∧ n = offs (rs.map Prod.fst) i + j ∧ keyT d rs n = keyOf d t c j) ∨ (kTot rs ≤ n ∧ keyT d rs n = .ar d (n - kTot rs)) := by
 intro rs
 induction rs with
 | nil => intro n; exact .inr ⟨Nat.zero_le _, rfl⟩
 | cons x r ih =>
  intro n
  obtain ⟨q, u, k⟩ := x
  by_cases hlt : n < q.ks.length
  ·refine .inl ⟨0, q, u, k, n, rfl, hlt, by rw [show offs (((q, u, k) :: r).map Prod.fst) 0 = 0 from rfl, Nat.zero_add], ?_⟩
   simp only [keyT]
   rw [if_pos hlt]
  ·have e1 : keyT d ((q, u, k) :: r) n = keyT d r (n - q.ks.length) := by
    simp only [keyT]
    rw [if_neg hlt]
   rcases ih (n - q.ks.length) with ⟨i, p, t, c, j, h1, h2, h3, h4⟩ | ⟨h1, h2⟩
   ·refine .inl ⟨i + 1, p, t, c, j, h1, h2, ?_, by rw [e1, h4]⟩
    rw [show offs (((q, u, k) :: r).map Prod.fst) (i + 1) = q.ks.length + offs (r.map Prod.fst) i from rfl]
    omega
   ·refine .inr ⟨by show q.ks.length + kTot r ≤ n; omega, ?_⟩
    rw [e1, h2]
    show Key.ar d (n - q.ks.length - kTot r) = Key.ar d (n - (q.ks.length + kTot r))
    rw [Nat.sub_sub]
theorem repE_keys {p : PV} {v : Value} {κ κ' : Nat → Key} (hk : ∀ j c, p.ks[j]? = some c → κ j = κ' j) (h : RepE g w κ p v) : RepE g w κ' p v := by
 obtain ⟨h1, h2⟩ := repE_split h
 exact h2 g w κ' (.refl g) (.inr rfl) fun j c hj => by rw [← hk j c hj]; exact h1 j c hj
def Ends (xb : Bool) (d : Nat) (e : Option Nat) (m0 : Nat) (g0 : G) (w0 : World) (Ok : PV → List (List PV) → List PV → Prop) (v : Value) (w : World) : Prop :=
 ∃ pv M' cs' g', Ok pv M' cs' ∧ RepT g' w (Key.rt d) pv v ∧ MemRep g' w M' ∧ NoOk e M'.length g'.no ∧ VlRep d g' w cs' ∧ WF g' w ∧ Ext d m0 (g0.setVa g'.va) w0 g' w ∧ (xb = false → g'.va = g0.va)
theorem localPtr_noLoc {p : PV} (h : localPtr p = false) : p.isLoc = false := by
 cases p with
 | ad b off => cases b <;> simp_all [localPtr, PV.isLoc]
 | _ => rfl
theorem retS_ok {G : Fn} {fn : Func} {β : Type} {Kr : PV → List (List PV) → Option β} {res : β} (hT : TabOk P G.x.T) (hb : Base0 e m0 g0 w0) (hi : Inv xb d nt e m0 g0 w0 S g a w) (hfn : fn.results = G.res.toArray)
  (h : retS G Kr S = some res) : ∃ v, (results fn a.tmps).run P w = .ok v w ∧ Ends xb d e m0 g0 w0 (fun pv M' cs' => Kr pv (bif G.w then [cs'] else M') = some res ∧ pv.noLoc = true) v w := by
 unfold retS at h
 split at h
 case h_2 => simp at h
 rename_i rs hrs
 obtain ⟨us, h1, h2, h3⟩ := retV_rep hT hi.rel G.res hrs
 cases hok : (retOk (rs.map Prod.fst) && (one rs || nodupK rs)) with
 | false => simp [hok] at h
 | true =>
  simp only [hok, cond_true] at h
  simp only [Bool.and_eq_true, Bool.or_eq_true] at hok
  obtain ⟨hok, hnd⟩ := hok
  have hrun := run_results hfn h2
  -- the value reads at keys of its own
  have hread : ∃ κ : Nat → Key, (∀ i j, κ i = κ j → i = j) ∧ (∀ i, (∃ t j, κ i = .tm d t j) ∨ (∃ t j, κ i = .lc d t j) ∨ ∃ j, κ i = .ar d j) ∧ (ret1 (rs.map Prod.fst)).noLoc = true ∧
    RepT g w κ (ret1 (rs.map Prod.fst)) (vOf us) := by
   have tuple : (∀ p, rs ≠ [p]) → ∃ κ : Nat → Key, (∀ i j, κ i = κ j → i = j) ∧ (∀ i, (∃ t j, κ i = .tm d t j) ∨ (∃ t j, κ i = .lc d t j) ∨ ∃ j, κ i = .ar d j) ∧ (ret1 (rs.map Prod.fst)).noLoc = true ∧
     RepT g w κ (ret1 (rs.map Prod.fst)) (vOf us) := by
    intro hne
    have hnd : nodupK rs = true := by
     rcases hnd with h4 | h4
     ·exfalso
      match rs, hne, h4 with
      | [p], hne, _ => exact hne p rfl
     ·exact h4
    have hr1 : ret1 (rs.map Prod.fst) = .tup (rs.map Prod.fst) := by
     match rs, hne with
     | [], _ => rfl
     | [p], h => exact absurd rfl (h p)
     | p :: q :: l, _ => rfl
    have hv1 : (vOf us) = .tuple us.toArray := by
     match us, h1 with
     | [], _ => rfl
     | [t], h =>
      have h : 1 = rs.length := h
      match rs, hne, h with
      | [p], hne, _ => exact absurd rfl (hne p)
     | t :: u :: l, _ => rfl
    have hok' : ∀ (j : Nat) (p : PV) (t : Nat) (c : Bool), rs[j]? = some (p, t, c) → p.okT = true ∧ localPtr p = false := by
     have hall : ((rs.map Prod.fst).all fun p => p.okT && !localPtr p) = true := by
      unfold retOk at hok
      split at hok
      ·rename_i p hp
       exfalso
       match rs, hne, hp with
       | [q], hne, _ => exact hne q rfl
      ·exact hok
     intro j p t c hj
     rw [List.all_eq_true] at hall
     have := hall p (List.mem_map.2 ⟨_, List.mem_of_getElem? hj, rfl⟩)
     simpa using this
    rw [hr1, hv1]
    refine ⟨keyT d rs, fun i j hij => ?_, fun i => ?_, ?_, ⟨_, rfl, by simp [h1], fun j p hj => ?_⟩⟩
    ·rcases keyT_cases d rs i with ⟨x, p, t, c, a, h4, h5, h6, h7⟩ | ⟨h4, h5⟩ <;> rcases keyT_cases d rs j with ⟨x', p', t', c', a', h4', h5', h6', h7'⟩ | ⟨h4', h5'⟩
     ·rw [h7, h7'] at hij
      have : t = t' ∧ c = c' ∧ a = a' := by cases c <;> cases c' <;> simp [keyOf] at hij <;> exact ⟨hij.1, rfl, hij.2⟩
      obtain ⟨rfl, rfl, rfl⟩ := this
      have := nodupK_inj rs hnd x x' p p' t c h4 h4'
      subst this
      rw [h6, h6']
     ·rw [h7, h5'] at hij; cases c <;> simp [keyOf] at hij
     ·rw [h5, h7'] at hij; cases c' <;> simp [keyOf] at hij
     ·rw [h5, h5'] at hij
      simp only [Key.ar.injEq, true_and] at hij
      omega
    ·rcases keyT_cases d rs i with ⟨x, p, t, c, a, h4, h5, h6, h7⟩ | ⟨h4, h5⟩
     ·cases c with
      | false => exact .inl ⟨t, a, by rw [h7]; rfl⟩
      | true => exact .inr (.inl ⟨t, a, by rw [h7]; rfl⟩)
     ·exact .inr (.inr ⟨_, h5⟩)
    ·simp only [PV.noLoc, List.all_eq_true, Bool.not_eq_true']
     intro p hp
     obtain ⟨q, hq, rfl⟩ := List.mem_map.1 hp
     obtain ⟨j, hj⟩ := List.getElem?_of_mem hq
     obtain ⟨p, t, c⟩ := q
     exact localPtr_noLoc (hok' j p t c hj).2
    ·simp only [List.getElem?_map, Option.map_eq_some_iff] at hj
     obtain ⟨q, hj, rfl⟩ := hj
     obtain ⟨p, t, c⟩ := q
     obtain ⟨u, h4, h6⟩ := h3 j p t c hj
     refine ⟨u, by simpa using h4, ?_⟩
     have h7 : RepE g w (keyOf d t c) p u := by
      have := (hok' j p t c hj).1
      cases p with
      | tup vs => simp [PV.okT, PV.dup, PV.plain] at this
      | _ => exact h6
     exact repE_keys (fun k q hk => (keyT_at d rs j hj (List.getElem?_eq_some_iff.1 hk).1).symm) h7
   match rs, h1, h3, hok, tuple with
   | [(p, t, c)], h1, h3, hok, _ =>
    obtain ⟨u, h4, h5⟩ := h3 0 p t c rfl
    have hus : us = [u] := by
     match us, h1, h4 with
     | [x], _, h4 => simpa using h4
    subst hus
    simp only [List.map_cons, List.map_nil, retOk, Bool.and_eq_true, Bool.not_eq_true'] at hok
    refine ⟨keyOf d t c, fun i j hij => by cases c <;> simpa [keyOf] using hij, fun i => by cases c; exact .inl ⟨t, i, rfl⟩; exact .inr (.inl ⟨t, i, rfl⟩), ?_, h5⟩
    show p.noLoc = true
    have h6 := localPtr_noLoc hok.2
    cases p with
    | ad b off => cases b <;> simp_all [PV.isLoc, PV.noLoc]
    | tup vs => simp [PV.okT, PV.dup, PV.plain] at hok
    | _ => rfl
   | [], _, _, _, tuple => exact tuple (by simp)
   | p :: q :: l, _, _, _, tuple => exact tuple (by simp)
  obtain ⟨κ, hinj, hkey, hno, hrep⟩ := hread
  refine ⟨_, hrun, ?_⟩
  -- nothing else is held
  let S0 : St := ⟨[], [], S.mm, [], S.vl⟩
  have hS0 : Rel d nt e S0 g a w := ⟨hi.rel.sz, fun t p hp => by simp [S0, lk] at hp, fun t p hp => by simp [S0, lk] at hp, hi.rel.mm, hi.rel.no, fun t p hp => by simp [S0, lk] at hp, hi.rel.wf, hi.rel.df, hi.rel.vl⟩
  obtain ⟨us, hus, hback⟩ := repT_split hrep
  obtain ⟨g4, h10, h11, h12, h13, h14, h15, h16⟩ := hS0.moveCells (m := S.mm.length) (ret1 (rs.map Prod.fst)).keys us κ (fun j => .rt d j) (fun i => by rcases hkey i with ⟨t, j, h9⟩ | ⟨t, j, h9⟩ | ⟨j, h9⟩ <;> rw [h9] <;> exact Nat.le_refl d) (fun _ => Nat.le_refl d)
   (fun j _ => by
    rcases hkey j with ⟨t, i, h9⟩ | ⟨t, i, h9⟩ | ⟨i, h9⟩ <;> rw [h9]
    ·exact ⟨fun _ _ _ _ hl => by simp [S0, lk] at hl, fun _ _ _ _ hk => by simp at hk, fun _ _ _ _ hk => by simp at hk, fun _ _ hk => by simp at hk⟩
    ·exact ⟨fun _ _ _ hk => by simp at hk, fun _ _ _ _ _ hl => by simp [S0, lk] at hl, fun _ _ _ _ hk => by simp at hk, fun _ _ hk => by simp at hk⟩
    ·exact ⟨fun _ _ _ hk => by simp at hk, fun _ _ _ _ hk => by simp at hk, fun _ _ _ _ hk => by simp at hk, fun _ _ hk => by simp at hk⟩) hinj
   (fun i j hij => by rcases hkey i with ⟨t, k, h9⟩ | ⟨t, k, h9⟩ | ⟨k, h9⟩ <;> rw [h9] at hij <;> simp at hij) hus
  exact ⟨ret1 (rs.map Prod.fst), S.mm, S.vl, g4, ⟨h, hno⟩, hback g4 w _ h11.gr hno h15, h10.mm, h10.no, h10.vl, h10.wf, hi.goE hb h11⟩
end
end
section
section
variable [Enc] {xb : Bool} {d nt : Nat} {e : Option Nat} {S : St} {g g' g0 : G} {a : Act} {w w' w0 : World} {P : Program} {m0 : Nat} {F : Fx} {C : CTab}
def RunsTo (P : Program) (f : FuncId) (k : List Item) (a : Act) (w : World) (R : Value → World → Prop) : Prop :=
 ∀ (b : Frame) (cs : List Frame), b.fn = f → b.kind = .normal → ∃ w' fr v, R v w' ∧ Steps P (lone (b.at a k) cs w) (lone fr cs w') ∧ fr.fn = f ∧ fr.leaving P w' (.returned v)
theorem RunsTo.step {f : FuncId} {k k' : List Item} {R : Value → World → Prop} (h : ∀ (b : Frame) (cs : List Frame), step P (lone (b.at a k) cs w) = .next (lone (b.at a k') cs w)) (h' : RunsTo P f k' a w R) : RunsTo P f k a w R :=
 fun b cs hf hk => let ⟨w', fr, v, h1, h2, h3, h4⟩ := h' b cs hf hk; ⟨w', fr, v, h1, .head (h b cs) h2, h3, h4⟩
theorem RunsTo.region {f : FuncId} {k : List Item} {R : Value → World → Prop} {id : Nat} {ops : Array Oper} (h : wpOps P ops (fun e a w => e = .normal ∧ RunsTo P f k a w R) (List.range ops.size) a w) :
  RunsTo P f (.code (.region id ops false) :: k) a w R := by
 intro b cs hf hk
 obtain ⟨e, a', w', ⟨rfl, h1⟩, h2⟩ := wp_ops _ a w h b k cs
 obtain ⟨w'', fr, v, h3, h4, h5, h6⟩ := h1 b cs hf hk
 exact ⟨w'', fr, v, h3, .head step_region (h2.trans h4), h5, h6⟩
theorem RunsTo.drawn {f : FuncId} {k : List Item} {R : Value → World → Prop} {id : Nat} {ops : Array Oper} (h : ∀ t, wpOps P ops (fun e a w => e = .normal ∧ RunsTo P f k a w R) (Region.schedule (P.follows .mixedOrders) ops t) a { w with drawn := w.drawn + 1 }) :
  RunsTo P f (.code (.region id ops true) :: k) a w R := by
 intro b cs hf hk
 obtain ⟨e, a', w', ⟨rfl, h1⟩, h2⟩ := wp_region_draw (id := id) h b k cs
 obtain ⟨w'', fr, v, h3, h4, h5, h6⟩ := h1 b cs hf hk
 exact ⟨w'', fr, v, h3, h2.trans h4, h5, h6⟩
theorem runsTo_end {f : FuncId} {fn : Func} {v : Value} {R : Value → World → Prop} {k : List Item} (hf : P.funcs[f]? = some fn) (hr : (results fn a.tmps).run P w = .ok v w) (hd : a.defers = []) (hR : R v w) (hk : k = [] ∨ ∃ k', k = .code .ret :: k') :
  RunsTo P f k a w R := by
 intro b cs hb hkind
 rcases hk with rfl | ⟨k', rfl⟩
 ·exact ⟨w, _, v, hR, .one step_end, hb, rfl, hd, hkind, fn, by show P.funcs[b.fn]? = _; rw [hb]; exact hf, hr⟩
 ·exact ⟨w, _, v, hR, .one step_ret, hb, rfl, hd, hkind, fn, by show P.funcs[b.fn]? = _; rw [hb]; exact hf, hr⟩
def itemsOf (k : List TI) : List Item := k.flatMap TI.items
theorem exitT_to : ∀ (k : List TI) (id : Nat) {k' : List TI}, exitT id k = some k' → exitTo id (itemsOf k) = some (itemsOf k') := by
 intro k
 induction k with
 | nil => intro id k' h; simp [exitT] at h
 | cons x k ih =>
  intro id k' h
  cases x with
  | inBlock j =>
   simp only [exitT] at h
   simp only [itemsOf, List.flatMap_cons, TI.items, List.cons_append, List.nil_append, exitTo]
   cases hj : Nat.beq j id with
   | true =>
    simp only [hj, cond_true, Option.some.injEq] at h
    subst h
    rw [Nat.eq_of_beq_eq_true hj]
    simp
   | false =>
    simp only [hj, cond_false] at h
    have hne : (j == id) = false := by
     have := Nat.ne_of_beq_eq_false hj
     simpa using this
    rw [hne]
    exact ih id h
  | code c p => exact ih id h
  | inLoop c p => exact ih id h
  | cut p => exact ih id h
theorem runsTo_strip {f : FuncId} {R : Value → World → Prop} : ∀ (k : List TI), RunsTo P f (itemsOf (strip k)) a w R → RunsTo P f (itemsOf k) a w R := by
 intro k
 induction k with
 | nil => exact id
 | cons x k ih =>
  cases x with
  | inBlock id => exact fun h => .step (fun b cs => step_inBlock) (ih h)
  | _ => exact id
theorem repC_nl {κ : Key} {v : Value} (h : RepF g .nl v) (T : Nat) : RepC g w κ (.ol T []) v ∧ RepF g (.fl T []) v := by
 cases h
 exact ⟨⟨[], ⟨by simp, .inl ⟨rfl, rfl⟩⟩, fun b hb => by simp [Value.ownBlock] at hb, fun i x hi => by simp at hi⟩, .fl0 T⟩
theorem coP_C {c : Co} {p : PV} {κ : Key} {v : Value} (h : RepC g w κ p v) : RepC g w κ (coP c p) v := by
 unfold coP
 split
 ·exact (repC_nl h _).1
 ·exact (repC_nl (κ := κ) (w := w) h _).2
 ·exact h
theorem coP_T {c : Co} {p : PV} {κ : Nat → Key} {v : Value} (h : RepT g w κ p v) : RepT g w κ (coP c p) v := by
 unfold coP
 split
 ·exact (repC_nl (κ := κ 0) h _).1
 ·exact (repC_nl (κ := κ 0) (w := w) h _).2
 ·exact h
theorem coCs_K : ∀ (l : List Co) (cs : List PV), (coCs l cs).length = cs.length ∧ ∀ (j : Nat) (c : PV), (coCs l cs)[j]? = some c → ∃ k p, cs[j]? = some p ∧ c = coP k p := by
 intro l
 induction l with
 | nil => intro cs; cases cs <;> exact ⟨rfl, fun j c hj => ⟨.no, c, hj, by cases c <;> rfl⟩⟩
 | cons k l ih =>
  intro cs
  cases cs with
  | nil => exact ⟨rfl, fun j c hj => by simp [coCs] at hj⟩
  | cons p r =>
   refine ⟨by simp [coCs, (ih r).1], fun j c hj => ?_⟩
   cases j with
   | zero => simp only [coCs, List.getElem?_cons_zero, Option.some.injEq] at hj; exact ⟨k, p, rfl, hj.symm⟩
   | succ j => simp only [coCs, List.getElem?_cons_succ] at hj ⊢; exact (ih r).2 j c hj
theorem lk_keepT (l : List (Nat × PV)) (ts : List (Nat × Co)) {t : Nat} {x : PV} (h : lk (keepT l ts) t = some x) : ∃ c p, lk l t = some p ∧ x = coP c p := by
 induction ts with
 | nil => simp [keepT, lk] at h
 | cons u ts ih =>
  obtain ⟨u, c⟩ := u
  simp only [keepT] at h
  split at h
  ·rename_i y hy
   rw [lk_cons] at h
   split at h
   ·rename_i hut
    subst hut
    exact ⟨c, y, hy, (Option.some.inj h).symm⟩
   ·exact ih h
  ·exact ih h
theorem lk_keepC (l : List (Nat × List PV)) (ts : List (Nat × List Co)) {t : Nat} {x : List PV} (h : lk (keepC l ts) t = some x) : ∃ c p, lk l t = some p ∧ x = coCs c p := by
 induction ts with
 | nil => simp [keepC, lk] at h
 | cons u ts ih =>
  obtain ⟨u, c⟩ := u
  simp only [keepC] at h
  split at h
  ·rename_i y hy
   rw [lk_cons] at h
   split at h
   ·rename_i hut
    subst hut
    exact ⟨c, y, hy, (Option.some.inj h).symm⟩
   ·exact ih h
  ·exact ih h
theorem Inv.keep (h : Inv xb d nt e m0 g0 w0 S g a w) (L : Lv) : Inv xb d nt e m0 g0 w0 (S.keep L) g a w := by
 refine ⟨⟨h.rel.sz, fun t p hp => ?_, fun t cs hp => ?_, h.rel.mm, h.rel.no, fun t r hr => by simp [St.keep, lk] at hr, h.rel.wf, h.rel.df, h.rel.vl⟩, h.ext, h.va⟩
 ·obtain ⟨c, q, h1, rfl⟩ := lk_keepT _ _ hp
  obtain ⟨h2, h3⟩ := h.rel.tm t q h1
  exact ⟨h2, coP_T h3⟩
 ·obtain ⟨c, q, h1, rfl⟩ := lk_keepC _ _ hp
  obtain ⟨h2, C, E, h3, h4, h5⟩ := h.rel.lc t q h1
  obtain ⟨h6, h7⟩ := coCs_K c q
  refine ⟨h2, C, E, h3, by rw [h4, h6], fun j x hj => ?_⟩
  obtain ⟨k, p, h8, rfl⟩ := h7 j x hj
  obtain ⟨u, h9, h10⟩ := h5 j p h8
  exact ⟨u, h9, coP_C h10⟩
theorem Inv.noR (h : Inv xb d nt e m0 g0 w0 S g a w) : Inv xb d nt e m0 g0 w0 S.noR g a w := ⟨h.rel.noR, h.ext, h.va⟩
theorem Inv.drawn (h : Inv xb d nt e m0 g0 w0 S g a w) : Inv xb d nt e m0 g0 w0 S g a { w with drawn := w.drawn + 1 } := by
 have hk : Keep (fun _ _ => False) g w g { w with drawn := w.drawn + 1 } := ⟨.refl g, rfl, fun _ _ hb _ => ⟨hb, rfl⟩⟩
 have hwf : WF g { w with drawn := w.drawn + 1 } := ⟨h.rel.wf.gl, h.rel.wf.own, h.rel.wf.fz, h.rel.wf.ob, h.rel.wf.ol, h.rel.wf.inj, h.rel.wf.oe⟩
 exact ⟨h.rel.keep hk (fun _ => rfl) (fun _ _ hx => hx.elim) (.inr fun b κ hb hc => ⟨rfl, κ, hb, hc⟩) hwf, ⟨h.ext.gr, h.ext.own, h.ext.hs, h.ext.nw, ⟨h.ext.sl.os, h.ext.sl.tape, h.ext.sl.out⟩⟩, h.va⟩
structure FnOk (P : Program) (f : FuncId) (G : Fn) (c : Code) : Prop where
 fn : ∃ fn, P.funcs[f]? = some fn ∧ (fn.name == "runtime.NumGoroutine") = false ∧ fn.body = some c ∧ fn.ntmps = G.x.nt ∧ fn.results = G.res.toArray
 mix : P.follows .mixedOrders = true
section
variable {f : FuncId} {G : Fn} {c0 : Code} {β : Type} {Kr : PV → List (List PV) → Option β} {res : β}
def Good (b : Bool) (Kr : PV → List (List PV) → Option β) (res : β) (pv : PV) (M' : List (List PV)) (cs' : List PV) : Prop := Kr pv (bif b then [cs'] else M') = some res ∧ pv.noLoc = true
theorem steps_ok (hb : Base0 e m0 g0 w0) (hf : FnOk P f G c0) (hx : FxOk P G.x e nt xb) (hC : CTabOk P C) {ihn : List TI → St → Option β}
  (ihn_ok : ∀ k S g a w, Inv xb d nt e m0 g0 w0 S g a w → ihn k S = some res → RunsTo P f (itemsOf k) a w (Ends xb d e m0 g0 w0 (Good G.w Kr res))) :
  ∀ (s : Nat) (k : List TI) (S : St) (g : KM.G) (a : Act) (w : World), Inv xb d nt e m0 g0 w0 S g a w → steps G C Kr ihn s k S = some res → RunsTo P f (itemsOf k) a w (Ends xb d e m0 g0 w0 (Good G.w Kr res)) := by
 obtain ⟨fn, hfn, hname, hbody, hnt, hres⟩ := hf.fn
 intro s
 induction s with
 | zero => intro k S g a w _ h; simp [steps] at h
 | succ s ih =>
  intro k S g a w hi h
  have ret : ∀ {k : List Item}, retS G Kr S = some res → (k = [] ∨ ∃ k', k = .code .ret :: k') → RunsTo P f k a w (Ends xb d e m0 g0 w0 (Good G.w Kr res)) := fun hr hk => by
   obtain ⟨v, h1, h2⟩ := retS_ok hx.T hb hi hres hr
   exact runsTo_end hfn h1 hi.rel.df h2 hk
  cases k with
  | nil => exact ret h (.inl rfl)
  | cons x k =>
   cases x with
   | inBlock id => exact .step (fun b cs => step_inBlock) (ih k S g a w hi h)
   | cut p => exact runsTo_strip k (ihn_ok (strip k) _ g a w (hi.keep _) h)
   | inLoop c p => exact .step (fun b cs => step_inLoop) (ihn_ok _ _ g a w (hi.keep _) h)
   | code c p =>
    cases c with
    | skip => exact .step (fun b cs => step_skip) (ih k S g a w hi h)
    | seq x y => exact .step (fun b cs => step_seq) (ih _ S g a w hi h)
    | block id b => exact .step (fun b cs => step_block) (ih _ S g a w hi h)
    | loop b => exact .step (fun b cs => step_loop) (ihn_ok _ _ g a w (hi.keep _) h)
    | exit id =>
     simp only [steps] at h
     split at h
     ·rename_i k' hk'
      exact .step (fun b cs => step_exit (exitT_to k id hk')) (ih k' S g a w hi h)
     ·simp at h
    | ret => exact ret h (.inr ⟨_, rfl⟩)
    | cond o x y =>
     simp only [steps] at h
     split at h
     case h_2 => simp at h
     rename_i t ho
     refine .step (fun b cs => step_cond (eval_b hi.rel ho)) ?_
     cases hct : G.ct p with
     | true =>
      simp only [hct, cond_true] at h
      cases t with
      | true => exact ih _ S g a w hi h
      | false => exact ih _ S g a w hi h
     | false =>
      simp only [hct, cond_false] at h
      cases t with
      | true => exact ih _ S g a w hi h
      | false => exact ih _ S g a w hi h
    | region id ops dr =>
     simp only [steps] at h
     have fin : ∀ (S' : St) (g' : KM.G) (a' : Act) (w' : World), (bif G.ct p then ihn (strip k) (S'.keep (G.lv p)) else steps G C Kr ihn s k S'.noR) = some res → Inv xb d nt e m0 g0 w0 S' g' a' w' → RunsTo P f (itemsOf k) a' w' (Ends xb d e m0 g0 w0 (Good G.w Kr res)) := by
      intro S' g' a' w' hk hi'
      cases hct : G.ct p with
      | true =>
       simp only [hct, cond_true] at hk
       exact runsTo_strip k (ihn_ok (strip k) _ g' a' w' (hi'.keep _) hk)
      | false =>
       simp only [hct, cond_false] at hk
       exact ih k _ g' a' w' hi'.noR hk
     cases dr with
     | true =>
      simp only [cond_true] at h
      split at h
      case h_2 => simp at h
      rename_i m hm
      cases hbig : Nat.ble 1000 m with
      | true =>
       simp only [hbig, cond_true] at h
       cases hck : drawX G.x ops with
       | false => simp [hck] at h
       | true =>
        simp only [hck, cond_true] at h
        exact .drawn fun t => drawX_ok hb hx hC hf.mix hck (hi.noR.drawn) h fin t
      | false =>
      simp only [hbig, cond_false] at h
      cases hck : (drawOk G.x ops m || (Nat.beq m 0 && drawT ops)) with
      | false => simp [hck] at h
      | true =>
       simp only [hck, cond_true] at h
       simp only [Bool.or_eq_true, Bool.and_eq_true] at hck
       rcases hck with hck | ⟨hm0, hck⟩
       ·exact .drawn fun t => draw_ok hb hx hC hf.mix hck (hi.noR.drawn) rfl h (fun S' g' a' w' hk hi' => ⟨rfl, fin S' g' a' w' hk hi'⟩) t
       ·have hm0 := Nat.eq_of_beq_eq_true hm0
        subst hm0
        exact .drawn fun t => drawT_ok hb hx hC hf.mix hck (hi.noR.drawn) h fin t
     | false =>
      simp only [cond_false] at h
      refine .region (evOps_ok hb hx hC ops.toList (List.range ops.size) ?_ hi.noR h fun S' g' a' w' hk hi' => ⟨rfl, fin S' g' a' w' hk hi'⟩)
      apply List.ext_getElem?
      intro i
      simp only [List.getElem?_map, Array.getElem?_toList]
      by_cases hi : i < ops.size
      ·simp [hi]
      ·simp [hi]
    | _ => simp [steps] at h
theorem ev_ok (hb : Base0 e m0 g0 w0) (hf : FnOk P f G c0) (hx : FxOk P G.x e nt xb) (hC : CTabOk P C) :
  ∀ (n : Nat) (k : List TI) (S : St) (g : KM.G) (a : Act) (w : World), Inv xb d nt e m0 g0 w0 S g a w → ev G C Kr n k S = some res → RunsTo P f (itemsOf k) a w (Ends xb d e m0 g0 w0 (Good G.w Kr res)) := by
 intro n
 induction n with
 | zero => intro k S g a w _ h; simp [ev] at h
 | succ n ih => exact fun k S g a w hi h => steps_ok hb hf hx hC ih 4000 k S g a w hi h
end
def entryL : Nat → List PV → List (Nat × PV)
 | _, [] => []
 | i, p :: r => (i, p) :: entryL (i + 1) r
def entryW (ps : List PV) (M : List (List PV)) (cs : List PV) : St := { tm := entryL 0 ps, lc := [], mm := M, rt := [], vl := cs }
def entry (ps : List PV) (M : List (List PV)) : St := entryW ps M []
def argOk (p : PV) : Bool := (p.dup && !p.isLoc) || isOl p
theorem lk_entryL : ∀ (ps : List PV) (i t : Nat) {p : PV}, lk (entryL i ps) t = some p → i ≤ t ∧ ps[t - i]? = some p := by
 intro ps
 induction ps with
 | nil => intro i t p h; simp [entryL, lk] at h
 | cons q r ih =>
  intro i t p h
  simp only [entryL] at h
  rw [lk_cons] at h
  split at h
  ·rename_i hit
   subst hit
   exact ⟨Nat.le_refl _, by simpa using h⟩
  ·obtain ⟨h1, h2⟩ := ih (i + 1) t h
   refine ⟨by omega, ?_⟩
   have : t - i = (t - (i + 1)) + 1 := by omega
   rw [this, List.getElem?_cons_succ]
   exact h2
theorem fn_soundX {f : FuncId} {G : Fn} {c : Code} {β : Type} {Kr : PV → List (List PV) → Option β} {res : β} {n : Nat} {ps : List PV} {M : List (List PV)} {cs : List PV} {v : PV} {R : List (List PV) → List PV → Prop}
  (hf : FnOk P f G c) (hT : TabOk P G.x.T) (hF : ∀ t z, G.x.T.flat t = some z → FlatOk P t z) (hC : CTabOk P C) (hps : ps.all argOk = true) (hn : ps.length ≤ G.x.nt) (hM : G.x.e = false → M = []) (hX : ∀ t, G.x.xt t = true → xb = true)
  (hK : ∀ pv M2 cs2, Kr pv (bif G.w then [cs2] else M2) = some res → (∀ (g : KM.G) (w : World) (κ : Nat → Key) (r : Value), RepT g w κ pv r → RepT g w κ v r) ∧ R M2 cs2) (h : ev G C Kr n [.code c 1] (entryW ps M cs) = some res) :
  ∀ (d : Nat) (g : KM.G) (w : World) (vals : Array Value), vals.size = ps.length → (∀ i p, ps[i]? = some p → ∃ u, vals[i]? = some u ∧ RepV g w (.ar d i) p u) → MemRep g w M → (G.x.e = true → M.length = g.no) → VlRep d g w cs → WF g w →
  Calls P f vals w fun en w' => ∃ r g' M2 cs2, en = .returned r ∧ R M2 cs2 ∧ RepT g' w' (Key.rt d) v r ∧ MemRep g' w' M2 ∧ (G.x.e = true → M2.length = g'.no) ∧ (G.x.e = false → g'.no = g.no) ∧ VlRep d g' w' cs2 ∧ WF g' w' ∧ Ext d M.length (g.setVa g'.va) w g' w' ∧ (xb = false → g'.va = g.va) := by
 intro d g w vals hvs hvals hMR hMl hVl hwf
 obtain ⟨fn, hfn, hname, hbody, hnt, hres⟩ := hf.fn
 let e : Option Nat := bif G.x.e then none else some g.no
 have he : G.x.e = e.isNone := by cases hh : G.x.e <;> simp [e, hh]
 have hno : NoOk e M.length g.no := by
  cases hh : G.x.e with
  | true => simp only [e, hh, cond_true]; exact hMl hh
  | false => simp only [e, hh, cond_false]; exact ⟨by rw [hM hh]; rfl, rfl⟩
 have hb : Base0 e M.length g w := ⟨hno, hwf.own, hwf.ob⟩
 let a : Act := { tmps := vals ++ Array.replicate (fn.ntmps - vals.size) undef, defers := [] }
 let S0 : St := ⟨[], [], M, [], cs⟩
 have hsz : a.tmps.size = G.x.nt := by
  have : vals.size ≤ fn.ntmps := by rw [hvs, hnt]; exact hn
  simp only [a, Array.size_append, Array.size_replicate]; omega
 have h0 : Rel d G.x.nt e S0 g a w := ⟨hsz, fun t p hp => by simp [S0, lk] at hp, fun t p hp => by simp [S0, lk] at hp, hMR, hno, fun t p hp => by simp [S0, lk] at hp, hwf, rfl, hVl⟩
 have hget : ∀ (i : Nat) (p : PV), ps[i]? = some p → i < vals.size ∧ RepV g w (.ar d i) p (a.tmps.getD i undef) := by
  intro i p hp
  obtain ⟨u, h1, h2⟩ := hvals i p hp
  have hi : i < vals.size := (Array.getElem?_eq_some_iff.1 h1).1
  refine ⟨hi, ?_⟩
  have : a.tmps.getD i undef = u := by
   simp only [a, Array.getD_eq_getD_getElem?, Array.getElem?_append_left hi, h1, Option.getD_some]
  rw [this]; exact h2
 have hall : ∀ (i : Nat) (p : PV), ps[i]? = some p → (p.dup = true ∧ p.isLoc = false) ∨ isOl p = true := by
  intro i p hp
  rw [List.all_eq_true] at hps
  have := hps p (List.mem_of_getElem? hp)
  simpa [argOk] using this
 obtain ⟨g1, h2, h3, h4, h5, h6, h7, h8⟩ := h0.moveCells (m := M.length) (ps.map fun p => bif isOl p then p else .gone) (fun i => a.tmps.getD i undef) (fun i => .ar d i) (fun i => .tm d i 0) (fun _ => Nat.le_refl d) (fun _ => Nat.le_refl d)
  (fun _ _ => ⟨fun _ _ _ hk => by simp at hk, fun _ _ _ _ hk => by simp at hk, fun _ _ _ _ hk => by simp at hk, fun _ _ hk => by simp at hk⟩) (fun i j hij => by simpa using hij) (fun i j hij => by simp at hij)
  (fun i c hi => by
   simp only [List.getElem?_map, Option.map_eq_some_iff] at hi
   obtain ⟨p, hp, rfl⟩ := hi
   cases hol : isOl p with
   | false => trivial
   | true =>
    have := (hget i p hp).2
    cases p with
    | ol T xs => exact this
    | mp U es => exact this
    | _ => simp [isOl, isLs] at hol)
 have hE : Rel d G.x.nt e (entryW ps M cs) g1 a w := by
  refine ⟨hsz, fun t p hp => ?_, fun t p hp => by simp [entryW, lk] at hp, h2.mm, h2.no, fun t p hp => by simp [entryW, lk] at hp, h2.wf, rfl, h2.vl⟩
  obtain ⟨_, h9⟩ := lk_entryL ps 0 t hp
  have h9 : ps[t]? = some p := h9
  obtain ⟨h10, h11⟩ := hget t p h9
  refine ⟨by rw [hvs] at h10; omega, ?_⟩
  cases hol : isOl p with
  | true =>
   have := h7 t p (by simp [h9, hol])
   cases p with
   | ol T xs => exact this
   | mp U es => exact this
   | _ => simp [isOl, isLs] at hol
  | false =>
   have h12 : RepV g1 w (.ar d t) p (a.tmps.getD t undef) := h11.keep h8 fun hh => by rw [hol] at hh; simp at hh
   rcases hall t p h9 with h13 | h13
   ·exact dup_TTV h13.1 h12
   ·rw [hol] at h13; simp at h13
 have hrun := ev_ok (d := d) (Kr := Kr) hb hf ⟨hT, hF, he, rfl, hX⟩ hC n _ _ g1 a w ⟨hE, by rw [h3.gr.va]; exact h3, fun _ => h3.gr.va⟩ h
 intro cs
 let b : Frame := { (default : Frame) with fn := f, kind := .normal }
 have henter : Frame.enter P f vals .normal = b.at a [.code c] := by
  simp [Frame.enter, Frame.at, hfn, hbody, b, a]
 obtain ⟨w', fr, r, ⟨pv, M2, cs2, g', ⟨hk, _⟩, hr, hMR', hno', hVl', hwf', hext, hva⟩, hst, hfr, hlv⟩ := hrun b cs rfl rfl
 obtain ⟨hW, hR⟩ := hK pv M2 cs2 hk
 refine ⟨.returned r, w', fr, ⟨r, g', M2, cs2, rfl, hR, hW _ _ _ _ hr, hMR', fun hh => ?_, fun hh => ?_, hVl', hwf', hext, hva⟩, ?_, hfr, hlv⟩
 ·have hno' := hno'
  simp only [e, hh, cond_true] at hno'
  exact hno'
 ·have hno' := hno'
  simp only [e, hh, cond_false] at hno'
  exact hno'.2
 ·rw [henter]; exact hst
theorem setVa_eq {g : KM.G} {f : Nat → Option Value} (h : f = g.va) : g.setVa f = g := by subst h; rfl
theorem fn_sound {f : FuncId} {G : Fn} {c : Code} {β : Type} {Kr : PV → List (List PV) → Option β} {res : β} {n : Nat} {ps : List PV} {M : List (List PV)} {v : PV} {M' : List (List PV)}
  (hf : FnOk P f G c) (hT : TabOk P G.x.T) (hF : ∀ t z, G.x.T.flat t = some z → FlatOk P t z) (hC : CTabOk P C) (hps : ps.all argOk = true) (hn : ps.length ≤ G.x.nt) (hM : G.x.e = false → M = []) (hX : ∀ t, G.x.xt t = true → false = true) (hw : G.w = false)
  (hK : ∀ pv M2, Kr pv M2 = some res → (∀ (g : KM.G) (w : World) (κ : Nat → Key) (r : Value), RepT g w κ pv r → RepT g w κ v r) ∧ ((∀ (g : KM.G) (w : World), MemRep g w M2 → MemRep g w M') ∧ M2.length = M'.length)) (h : ev G C Kr n [.code c 1] (entry ps M) = some res) : Con P G.x.e f ps M v M' := by
 intro d g w vals h1 h2 h3 h4 h5
 refine (fn_soundX (cs := []) (v := v) (R := fun M2 _ => (∀ (g : KM.G) (w : World), MemRep g w M2 → MemRep g w M') ∧ M2.length = M'.length) hf hT hF hC hps hn hM hX (fun pv M2 cs2 hk => by rw [hw] at hk; exact hK pv M2 hk) h d g w vals h1 h2 h3 h4 (fun i p hi => by simp at hi) h5).mono fun e w' ⟨r, g', M2, cs2, k1, ⟨k2, k3⟩, k4, k5, k6, k7, k8, k9, k10, k11⟩ => ?_
 rw [setVa_eq (k11 rfl)] at k10
 exact ⟨r, g', k1, k4, k2 _ _ k5, fun hh => by rw [← k3]; exact k6 hh, k7, k9, k10⟩
theorem fn_lend {f : FuncId} {G : Fn} {c : Code} {β : Type} {Kr : PV → List (List PV) → Option β} {res : β} {n : Nat} {ps cs cs' : List PV} {v : PV}
  (hf : FnOk P f G c) (hT : TabOk P G.x.T) (hF : ∀ t z, G.x.T.flat t = some z → FlatOk P t z) (hC : CTabOk P C) (hps : ps.all argOk = true) (hn : ps.length ≤ G.x.nt) (he : G.x.e = false) (hX : ∀ t, G.x.xt t = true → false = true) (hw : G.w = true)
  (hK : ∀ pv cs2, Kr pv [cs2] = some res → (∀ (g : KM.G) (w : World) (κ : Nat → Key) (r : Value), RepT g w κ pv r → RepT g w κ v r) ∧ ∀ (d : Nat) (g : KM.G) (w : World), VlRep d g w cs2 → VlRep d g w cs') (h : ev G C Kr n [.code c 1] (entryW ps [] cs) = some res) : ConW P f ps cs v cs' := by
 intro d g w vals h1 h2 h3 h4
 refine (fn_soundX (cs := cs) (v := v) (R := fun _ cs2 => ∀ (d : Nat) (g : KM.G) (w : World), VlRep d g w cs2 → VlRep d g w cs') hf hT hF hC hps hn (fun _ => rfl) hX (fun pv M2 cs2 hk => by rw [hw] at hk; exact hK pv cs2 hk) h d g w vals h1 h2 (fun i cs hi => by simp at hi) (fun hh => by rw [he] at hh; simp at hh) h3 h4).mono fun e w' ⟨r, g', M2, cs2, k1, k2, k4, k5, k6, k7, k8, k9, k10, k11⟩ => ?_
 rw [setVa_eq (k11 rfl)] at k10
 exact ⟨r, g', k1, k4, k2 _ _ _ k8, k7 he, k9, k10⟩
section
variable (hnob : ∀ (T : Nat) (x : Dn T), (cells T x).all PV.nob1 = true)
include hnob
theorem fn_hide {f : FuncId} {G : Fn} {c : Code} {β : Type} {Kr : PV → List (List PV) → Option β} {res : β} {n : Nat} {ps : List PV} {v : PV}
  (hf : FnOk P f G c) (hT : TabOk P G.x.T) (hF : ∀ t z, G.x.T.flat t = some z → FlatOk P t z) (hC : CTabOk P C) (hps : ps.all argOk = true) (hn : ps.length ≤ G.x.nt) (he : G.x.e = true) (hX : ∀ t, G.x.xt t = true → false = true) (hw : G.w = false) (hb : ps.all PV.nob = true) (hv : v.nob = true)
  (hK : ∀ pv M2, Kr pv M2 = some res → ∀ (g : KM.G) (w : World) (κ : Nat → Key) (r : Value), RepT g w κ pv r → RepT g w κ v r) (h : ev G C Kr n [.code c 1] (entry ps []) = some res) : Con P false f ps [] v [] := by
 intro d g w vals h1 h2 h3 h4 h5
 let g0 : KM.G := { g with no := 0 }
 have s0 : Same g g0 := ⟨rfl, rfl, rfl⟩
 have hw0 : WF g0 w := ⟨nob_gl hnob s0 h5.gl, h5.own, h5.fz, h5.ob, fun i hi => absurd hi (Nat.not_lt_zero i), fun i j hi => absurd hi (Nat.not_lt_zero i), fun i hi => absurd hi (Nat.not_lt_zero i)⟩
 refine (fn_soundX (cs := []) (v := v) (R := fun _ _ => True) hf hT hF hC hps hn (fun hh => absurd (he.symm.trans hh) (by simp)) hX (fun pv M2 cs2 hk => by rw [hw] at hk; exact ⟨hK pv M2 hk, trivial⟩) h d g0 w vals h1 (fun i p hi => ?_) (fun i cs hi => by simp at hi) (fun _ => rfl) (fun i p hi => by simp at hi) hw0).mono fun e w' ⟨r, g1, M2, cs2, k1, _, k2, k3, k4, k5, _, k6, k7, k8⟩ => ?_
 ·obtain ⟨u, h6, h7⟩ := h2 i p hi
  rw [List.all_eq_true] at hb
  exact ⟨u, h6, nob_V hnob s0 (hb p (List.mem_of_getElem? hi)) h7⟩
 ·rw [setVa_eq (k8 rfl)] at k7
  let g2 : KM.G := { g1 with no := g.no, oa := g.oa, fe := fun x => match g.own x with | some .obj => g.fe x | _ => g1.fe x }
  have s2 : Same g1 g2 := ⟨rfl, rfl, rfl⟩
  have out : ∀ b, g.own b = some .obj → g1.own b = some .obj ∧ w'.heap[b]? = w.heap[b]? := fun b hb' => k7.own b .obj hb' (fun i hi => absurd hi (Nat.not_lt_zero i))
  have nobj : ∀ b C, g1.fz b = some C → g.own b ≠ some .obj := fun b C hz hh => by
   have := (k6.fz b C hz).1
   rw [(out b hh).1] at this; cases this
  have feN : ∀ b, g.own b ≠ some .obj → g2.fe b = g1.fe b := fun b hb' => by
   show (match g.own b with | some .obj => g.fe b | _ => g1.fe b) = g1.fe b
   split
   ·rename_i hh; exact absurd hh hb'
   ·rfl
  have feO : ∀ i, i < g.no → g2.fe (g.oa i) = g.fe (g.oa i) := fun i hi => by
   show (match g.own (g.oa i) with | some .obj => g.fe (g.oa i) | _ => g1.fe (g.oa i)) = _
   rw [(h5.oe i hi).1]
  refine ⟨r, g2, k1, nob_T hnob s2 hv k2, fun i cs hi => by simp at hi, fun hh => by simp at hh, fun _ => rfl, ⟨nob_gl hnob s2 k6.gl, k6.own, fun b C hz => by
   rw [feN b (nobj b C hz)]; exact k6.fz b C hz, k6.ob, fun i hi => Nat.lt_of_lt_of_le (h5.ol i hi) k7.hs, h5.inj, fun i hi => by
   obtain ⟨q0, C, fr, q1⟩ := h5.oe i hi
   obtain ⟨q2, q3⟩ := out _ q0
   refine ⟨q2, C, fr, ?_⟩
   show w'.heap[g.oa i]? = some (.cells C (g2.fe (g.oa i)).1 fr)
   rw [feO i hi, q3]; exact q1⟩, ?_⟩
  refine ⟨⟨k7.gr.fz, Nat.le_refl _, fun _ _ => rfl, fun b C hz => by
   rw [feN b (nobj b C (k7.gr.fz b C hz))]; exact k7.gr.fe b C hz, k7.gr.va, fun i hi => by rw [feO i hi]⟩, fun b κ hb' ho => k7.own b κ hb' ?_, k7.hs, fun i h1 h2 => absurd (Nat.lt_of_le_of_lt h1 h2) (Nat.lt_irrefl _), k7.sl⟩
  cases κ with
  | obj => exact fun i hi => absurd hi (Nat.not_lt_zero i)
  | ob b' j => exact fun i hi => absurd hi (Nat.not_lt_zero i)
  | _ => exact ho
theorem fn_ext {f : FuncId} {G : Fn} {c : Code} {β : Type} {Kr : PV → List (List PV) → Option β} {res : β} {n : Nat} {ps : List PV} {v : PV}
  (hf : FnOk P f G c) (hT : TabOk P G.x.T) (hF : ∀ t z, G.x.T.flat t = some z → FlatOk P t z) (hC : CTabOk P C) (hps : ps.all argOk = true) (hn : ps.length ≤ G.x.nt) (he : G.x.e = false) (hw : G.w = false) (hv : v.nob = true)
  (hK : ∀ pv, Kr pv [] = some res → ∀ (g : KM.G) (w : World) (κ : Nat → Key) (r : Value), RepT g w κ pv r → RepT g w κ v r) (hK0 : ∀ pv x M, Kr pv (x :: M) ≠ some res) (h : ev G C Kr n [.code c 1] (entry ps []) = some res) : Con P false f ps [] v [] := by
 intro d g w vals h1 h2 h3 h4 h5
 refine (fn_soundX (xb := true) (cs := []) (v := v) (R := fun _ _ => True) hf hT hF hC hps hn (fun _ => rfl) (fun _ _ => rfl) (fun pv M2 cs2 hk => by
  rw [hw] at hk
  cases M2 with
  | nil => exact ⟨hK pv hk, trivial⟩
  | cons x M => exact absurd hk (hK0 pv x M)) h d g w vals h1 h2 (fun i cs hi => by simp at hi) (fun hh => by rw [he] at hh; simp at hh) (fun i p hi => by simp at hi) h5).mono fun e w' ⟨r, g1, M2, cs2, k1, _, k2, k3, k4, k5, _, k6, k7, k8⟩ => ?_
 exact ⟨r, g1.setVa g.va, k1, nob_T hnob (same_va g1 g.va) hv k2, fun i cs hi => by simp at hi, fun hh => by simp at hh, fun _ => k5 he, k6.setVa hnob, ⟨⟨k7.gr.fz, k7.gr.no, k7.gr.oa, k7.gr.fe, rfl, k7.gr.oe⟩, k7.own, k7.hs, k7.nw, k7.sl⟩⟩
end
theorem FnOk.real {f : FuncId} {G : Fn} {c : Code} (h : FnOk P f G c) : Real P f := by
 obtain ⟨fn, h1, h2, h3, _⟩ := h.fn
 exact ⟨fn, h1, h2, by rw [h3]; rfl⟩
end
end
end Go.KM
