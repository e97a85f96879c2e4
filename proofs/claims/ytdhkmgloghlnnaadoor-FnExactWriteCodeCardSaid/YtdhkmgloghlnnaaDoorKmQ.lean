/- A function's body, and the law that the abstract machine's result is Go's. Conditions: none. -/
import Derived.Test.YtdhkmgloghlnnaaDoorKmP
namespace Go.KM
open Go
open Fam (Dn dflt)
open Enc (cells sz mkE glob gany u8)
set_option autoImplicit false
set_option linter.unusedVariables false
set_option linter.unusedSimpArgs false
set_option linter.unusedSectionVars false
section
variable [Enc] {xb : Bool} {d nt : Nat} {e : Option Nat} {S : St} {g g' g0 : G} {a : Act} {w w' w0 : World} {P : Program} {m0 : Nat} {F : Fx} {C : CTab}
def resF (tmps : Array Value) : ResultVar → Sem Value
  | .tmp t => pure (tmps.getD t undef)
  | .cell a t => do loadVar t (← asAddr (tmps.getD a undef))
theorem results_eq (fn : Func) (tmps : Array Value) : results fn tmps = (do
    let vs ← fn.results.mapM (resF tmps)
    pure (if h : vs.size = 1 then vs[0] else .tuple vs)) := by
  unfold results
  congr 1
def vOf : List Value → Value
  | [v] => v
  | vs => .tuple vs.toArray
theorem run_results {l : List ResultVar} {us : List Value} {fn : Func} (h : fn.results = l.toArray) {tmps : Array Value} {P : Program} {w : World} (hr : (l.mapM (resF tmps)).run P w = .ok us w) :
    (results fn tmps).run P w = .ok (vOf us) w := by
  rw [results_eq, h, List.mapM_toArray, Sem.run_bind, Sem.run_map, hr]
  clear hr
  match us with
  | [] => simp [vOf]
  | [t] => simp [vOf]
  | t :: u :: l => simp [vOf]
def keyOf (d t : Nat) (c : Bool) (i : Nat) : Key := bif c then .lc d t i else .tm d t i
theorem repK_load {T : Tab} (hT : TabOk P T) {ty b : Nat} {C : Array Value} {E : TypeId} {κ : Nat → Key} {cs : List PV} (hb : w.heap[b]? = some (.cells C E (0, 0))) (hk : RepK g w κ cs C) (hl : cs.length = T.cz ty) (hz : 0 < T.cz ty) :
    (isAggK (T.K ty) = true → ∃ v, (loadVar ty ⟨b, 0, none⟩).run P w = .ok v w ∧ RepT g w κ (.st cs) v) ∧
    (isAggK (T.K ty) = false → isUnk (T.K ty) = false → ∀ c, cs = [c] → ∃ v, (loadVar ty ⟨b, 0, none⟩).run P w = .ok v w ∧ RepC g w (κ 0) c v) := by
  constructor
  · intro ha
    cases hK : T.K ty <;> simp [hK, isAggK] at ha
    obtain ⟨fs, hfs⟩ := hT.struct ty hK
    obtain ⟨i, h7, h8⟩ := hT.cz ty hz
    have hagg : (isAgg ty).run P w = .ok true w := by simp [isAgg, sem_underlying hfs]
    have hC : C.toList.length = T.cz ty := by rw [← hl, ← hk.1]; simp
    have hload := run_loadCells_list (P := P) w ⟨b, 0, none⟩ C.toList (fun j v hj => by
      rw [cell_at hb, Nat.zero_add]; simpa using hj)
    refine ⟨.agg C, ?_, C, rfl, hk.1, hk.2⟩
    rw [hC] at hload
    simp [loadVar, hagg, sizeOf, typeInfo, h7, h8, hload]
  · intro ha hu c hc
    subst hc
    have hagg := isAgg_false (P := P) (w := w) hT (ty := ty) (by simp [ha, hu])
    obtain ⟨u, h1, h2⟩ := hk.2 0 c rfl
    have hc : w.cell? ⟨b, 0, none⟩ = some u := by rw [cell_of_row w b 0 C E (0, 0) hb]; exact h1
    exact ⟨u, by simp [loadVar, hagg, hc], h2⟩
theorem repC_T {κ : Nat → Key} {c : PV} {v : Value} (hc : c.okc = true) (h : RepC g w (κ 0) c v) : RepT g w κ c v := by
  cases c with
  | ad b off => cases b with
    | loc t => simp [PV.okc, PV.plain, isOl, isLs] at hc
    | obj i => exact h
  | st cs => simp [PV.okc, PV.plain, isOl, isLs] at hc
  | tup cs => simp [PV.okc, PV.plain, isOl, isLs] at hc
  | _ => exact h
theorem resPV_rep (hT : TabOk P F.T) (h : Rel d nt e S g a w) {x : ResultVar} {p : PV} {t : Nat} {c : Bool} (hx : resPV F S x = some (p, t, c)) : ∃ u, (resF a.tmps x).run P w = .ok u w ∧ RepT g w (keyOf d t c) p u := by
  cases x with
  | tmp v =>
    simp only [resPV] at hx
    split at hx
    · rename_i q hq
      simp only [Option.some.injEq, Prod.mk.injEq] at hx
      obtain ⟨rfl, rfl, rfl⟩ := hx
      exact ⟨_, rfl, (h.tm _ _ hq).2⟩
    · simp at hx
  | cell v T =>
    simp only [resPV] at hx
    split at hx
    case h_2 => simp at hx
    rename_i t' hv
    split at hx
    case h_2 => simp at hx
    rename_i cs hcs
    cases hg : (Nat.beq cs.length (F.T.cz T) && (Nat.blt 0 (F.T.cz T) && (cs.all PV.okc && !isUnk (F.T.K T)))) with
    | false => simp [hg] at hx
    | true =>
      simp only [hg, cond_true] at hx
      simp only [Bool.and_eq_true, Nat.blt_eq, Bool.not_eq_true'] at hg
      obtain ⟨h1, h2, h3, h4⟩ := hg
      obtain ⟨h5, C, E, h6, h7⟩ := h.lc t' cs hcs
      obtain ⟨h8, h9⟩ := repK_load hT h6 h7 (Nat.eq_of_beq_eq_true h1) h2
      have haddr : a.tmps.getD v undef = .pointer (some ⟨g.lb t', 0, none⟩) := (h.tm v _ hv).2
      have hrun : ∀ r, (loadVar T ⟨g.lb t', 0, none⟩).run P w = .ok r w → (resF a.tmps (.cell v T)).run P w = .ok r w := fun r hr => by
        simp only [resF, haddr, asAddr, pure_bind]; exact hr
      cases ha : isAggK (F.T.K T) with
      | true =>
        simp only [ha, cond_true, Option.some.injEq, Prod.mk.injEq] at hx
        obtain ⟨rfl, rfl, rfl⟩ := hx
        obtain ⟨u, h10, h11⟩ := h8 ha
        exact ⟨u, hrun u h10, h11⟩
      | false =>
        simp only [ha, cond_false] at hx
        split at hx
        · rename_i q
          simp only [Option.some.injEq, Prod.mk.injEq] at hx
          obtain ⟨rfl, rfl, rfl⟩ := hx
          obtain ⟨u, h10, h11⟩ := h9 ha h4 _ rfl
          exact ⟨u, hrun u h10, repC_T (by simpa using h3) h11⟩
        · simp at hx
theorem retV_rep (hT : TabOk P F.T) (h : Rel d nt e S g a w) : ∀ (l : List ResultVar) {rs : List (PV × Nat × Bool)}, retV F S l = some rs → ∃ us : List Value, us.length = rs.length ∧ (l.mapM (resF a.tmps)).run P w = .ok us w ∧
    ∀ (j : Nat) (p : PV) (t : Nat) (c : Bool), rs[j]? = some (p, t, c) → ∃ u, us[j]? = some u ∧ RepT g w (keyOf d t c) p u := by
  intro l
  induction l with
  | nil => intro rs hr; simp only [retV, Option.some.injEq] at hr; subst hr; exact ⟨[], rfl, rfl, by simp⟩
  | cons x l ih =>
    intro rs hr
    simp only [retV] at hr
    split at hr
    · rename_i p qs h1 h2
      simp only [Option.some.injEq] at hr
      subst hr
      obtain ⟨us, h3, h4, h5⟩ := ih h2
      obtain ⟨q, t, c⟩ := p
      obtain ⟨u, h6, h7⟩ := resPV_rep hT h h1
      refine ⟨u :: us, by simp [h3], by simp [List.mapM_cons, h6, h4], fun j p t c hj => ?_⟩
      cases j with
      | zero => simp only [List.getElem?_cons_zero, Option.some.injEq, Prod.mk.injEq] at hj; obtain ⟨rfl, rfl, rfl⟩ := hj; exact ⟨u, rfl, h7⟩
      | succ j => simp only [List.getElem?_cons_succ] at hj ⊢; exact h5 j p t c hj
    · simp at hr
theorem nodupK_inj : ∀ (rs : List (PV × Nat × Bool)), nodupK rs = true → ∀ (i j : Nat) (p q : PV) (t : Nat) (c : Bool), rs[i]? = some (p, t, c) → rs[j]? = some (q, t, c) → i = j := by
  intro rs
  induction rs with
  | nil => intro _ i j p q t c hi; simp at hi
  | cons x r ih =>
    obtain ⟨px, tx, cx⟩ := x
    intro h i j p q t c hi hj
    simp only [nodupK, Bool.and_eq_true, Bool.not_eq_true', List.any_eq_false] at h
    have hno : ∀ (k : Nat) (q : PV), r[k]? = some (q, tx, cx) → False := fun k q hk => by
      have := h.1 _ (List.mem_of_getElem? hk)
      simp at this
    cases i with
    | zero => cases j with
      | zero => rfl
      | succ j =>
        simp only [List.getElem?_cons_zero, Option.some.injEq, Prod.mk.injEq, List.getElem?_cons_succ] at hi hj
        obtain ⟨_, rfl, rfl⟩ := hi
        exact (hno j q hj).elim
    | succ i => cases j with
      | zero =>
        simp only [List.getElem?_cons_zero, Option.some.injEq, Prod.mk.injEq, List.getElem?_cons_succ] at hi hj
        obtain ⟨_, rfl, rfl⟩ := hj
        exact (hno i p hi).elim
      | succ j =>
        simp only [List.getElem?_cons_succ] at hi hj
        rw [ih h.2 i j p q t c hi hj]
def keyT (d : Nat) : List (PV × Nat × Bool) → Nat → Key
  | (p, t, c) :: r, n => if n < p.ks.length then keyOf d t c n else keyT d r (n - p.ks.length)
  | [], n => .ar d n
theorem keyT_at (d : Nat) : ∀ (rs : List (PV × Nat × Bool)) (i : Nat) {p : PV} {t : Nat} {c : Bool} {j : Nat}, rs[i]? = some (p, t, c) → j < p.ks.length → keyT d rs (offs (rs.map Prod.fst) i + j) = keyOf d t c j := by
  intro rs
  induction rs with
  | nil => intro i p t c j hi; simp at hi
  | cons x r ih =>
    intro i p t c j hi hj
    obtain ⟨q, u, k⟩ := x
    cases i with
    | zero =>
      simp only [List.getElem?_cons_zero, Option.some.injEq, Prod.mk.injEq] at hi
      obtain ⟨rfl, rfl, rfl⟩ := hi
      rw [show offs (((q, u, k) :: r).map Prod.fst) 0 = 0 from rfl, Nat.zero_add]
      simp only [keyT]
      rw [if_pos hj]
    | succ i =>
      simp only [List.getElem?_cons_succ] at hi
      rw [show offs (((q, u, k) :: r).map Prod.fst) (i + 1) = q.ks.length + offs (r.map Prod.fst) i from rfl]
      simp only [keyT]
      rw [if_neg (by omega), show q.ks.length + offs (r.map Prod.fst) i + j - q.ks.length = offs (r.map Prod.fst) i + j by omega]
      exact ih i hi hj
def kTot : List (PV × Nat × Bool) → Nat
  | (p, _, _) :: r => p.ks.length + kTot r
  | [] => 0
theorem keyT_cases (d : Nat) : ∀ (rs : List (PV × Nat × Bool)) (n : Nat), (∃ i p t c j, rs[i]? = some (p, t, c) ∧ j < p.ks.length ∧ n = offs (rs.map Prod.fst) i + j ∧ keyT d rs n = keyOf d t c j) ∨ (kTot rs ≤ n ∧ keyT d rs n = .ar d (n - kTot rs)) := by
  intro rs
  induction rs with
  | nil => intro n; exact .inr ⟨Nat.zero_le _, rfl⟩
  | cons x r ih =>
    intro n
    obtain ⟨q, u, k⟩ := x
    by_cases hlt : n < q.ks.length
    · refine .inl ⟨0, q, u, k, n, rfl, hlt, by rw [show offs (((q, u, k) :: r).map Prod.fst) 0 = 0 from rfl, Nat.zero_add], ?_⟩
      simp only [keyT]
      rw [if_pos hlt]
    · have e1 : keyT d ((q, u, k) :: r) n = keyT d r (n - q.ks.length) := by
        simp only [keyT]
        rw [if_neg hlt]
      rcases ih (n - q.ks.length) with ⟨i, p, t, c, j, h1, h2, h3, h4⟩ | ⟨h1, h2⟩
      · refine .inl ⟨i + 1, p, t, c, j, h1, h2, ?_, by rw [e1, h4]⟩
        rw [show offs (((q, u, k) :: r).map Prod.fst) (i + 1) = q.ks.length + offs (r.map Prod.fst) i from rfl]
        omega
      · refine .inr ⟨by show q.ks.length + kTot r ≤ n; omega, ?_⟩
        rw [e1, h2]
        show Key.ar d (n - q.ks.length - kTot r) = Key.ar d (n - (q.ks.length + kTot r))
        rw [Nat.sub_sub]
theorem repE_keys {p : PV} {v : Value} {κ κ' : Nat → Key} (hk : ∀ j c, p.ks[j]? = some c → κ j = κ' j) (h : RepE g w κ p v) : RepE g w κ' p v := by
  obtain ⟨h1, h2⟩ := repE_split h
  exact h2 g w κ' (.refl g) (.inr rfl) fun j c hj => by rw [← hk j c hj]; exact h1 j c hj
def Ends (xb : Bool) (d : Nat) (e : Option Nat) (m0 : Nat) (g0 : G) (w0 : World) (Ok : PV → List (List PV) → List PV → Prop) (v : Value) (w : World) : Prop :=
  ∃ pv M' cs' g', Ok pv M' cs' ∧ RepT g' w (Key.rt d) pv v ∧ MemRep g' w M' ∧ NoOk e M'.length g'.no ∧ VlRep d g' w cs' ∧ WF g' w ∧ Ext d m0 (g0.setVa g'.va) w0 g' w ∧ (xb = false → g'.va = g0.va)
theorem localPtr_noLoc {p : PV} (h : localPtr p = false) : p.isLoc = false := by
  cases p with
  | ad b off => cases b <;> simp_all [localPtr, PV.isLoc]
  | _ => rfl
theorem retS_ok {G : Fn} {fn : Func} {β : Type} {Kr : PV → List (List PV) → Option β} {res : β} (hT : TabOk P G.x.T) (hb : Base0 e m0 g0 w0) (hi : Inv xb d nt e m0 g0 w0 S g a w) (hfn : fn.results = G.res.toArray)
    (h : retS G Kr S = some res) : ∃ v, (results fn a.tmps).run P w = .ok v w ∧ Ends xb d e m0 g0 w0 (fun pv M' cs' => Kr pv (bif G.w then [cs'] else M') = some res ∧ pv.noLoc = true) v w := by
  unfold retS at h
  split at h
  case h_2 => simp at h
  rename_i rs hrs
  obtain ⟨us, h1, h2, h3⟩ := retV_rep hT hi.rel G.res hrs
  cases hok : (retOk (rs.map Prod.fst) && (one rs || nodupK rs)) with
  | false => simp [hok] at h
  | true =>
    simp only [hok, cond_true] at h
    simp only [Bool.and_eq_true, Bool.or_eq_true] at hok
    obtain ⟨hok, hnd⟩ := hok
    have hrun := run_results hfn h2
    -- the value reads at keys of its own
    have hread : ∃ κ : Nat → Key, (∀ i j, κ i = κ j → i = j) ∧ (∀ i, (∃ t j, κ i = .tm d t j) ∨ (∃ t j, κ i = .lc d t j) ∨ ∃ j, κ i = .ar d j) ∧ (ret1 (rs.map Prod.fst)).noLoc = true ∧
        RepT g w κ (ret1 (rs.map Prod.fst)) (vOf us) := by
      have tuple : (∀ p, rs ≠ [p]) → ∃ κ : Nat → Key, (∀ i j, κ i = κ j → i = j) ∧ (∀ i, (∃ t j, κ i = .tm d t j) ∨ (∃ t j, κ i = .lc d t j) ∨ ∃ j, κ i = .ar d j) ∧ (ret1 (rs.map Prod.fst)).noLoc = true ∧
          RepT g w κ (ret1 (rs.map Prod.fst)) (vOf us) := by
        intro hne
        have hnd : nodupK rs = true := by
          rcases hnd with h4 | h4
          · exfalso
            match rs, hne, h4 with
            | [p], hne, _ => exact hne p rfl
          · exact h4
        have hr1 : ret1 (rs.map Prod.fst) = .tup (rs.map Prod.fst) := by
          match rs, hne with
          | [], _ => rfl
          | [p], h => exact absurd rfl (h p)
          | p :: q :: l, _ => rfl
        have hv1 : (vOf us) = .tuple us.toArray := by
          match us, h1 with
          | [], _ => rfl
          | [t], h =>
            have h : 1 = rs.length := h
            match rs, hne, h with
            | [p], hne, _ => exact absurd rfl (hne p)
          | t :: u :: l, _ => rfl
        have hok' : ∀ (j : Nat) (p : PV) (t : Nat) (c : Bool), rs[j]? = some (p, t, c) → p.okT = true ∧ localPtr p = false := by
          have hall : ((rs.map Prod.fst).all fun p => p.okT && !localPtr p) = true := by
            unfold retOk at hok
            split at hok
            · rename_i p hp
              exfalso
              match rs, hne, hp with
              | [q], hne, _ => exact hne q rfl
            · exact hok
          intro j p t c hj
          rw [List.all_eq_true] at hall
          have := hall p (List.mem_map.2 ⟨_, List.mem_of_getElem? hj, rfl⟩)
          simpa using this
        rw [hr1, hv1]
        refine ⟨keyT d rs, fun i j hij => ?_, fun i => ?_, ?_, ⟨_, rfl, by simp [h1], fun j p hj => ?_⟩⟩
        · rcases keyT_cases d rs i with ⟨x, p, t, c, a, h4, h5, h6, h7⟩ | ⟨h4, h5⟩ <;> rcases keyT_cases d rs j with ⟨x', p', t', c', a', h4', h5', h6', h7'⟩ | ⟨h4', h5'⟩
          · rw [h7, h7'] at hij
            have : t = t' ∧ c = c' ∧ a = a' := by cases c <;> cases c' <;> simp [keyOf] at hij <;> exact ⟨hij.1, rfl, hij.2⟩
            obtain ⟨rfl, rfl, rfl⟩ := this
            have := nodupK_inj rs hnd x x' p p' t c h4 h4'
            subst this
            rw [h6, h6']
          · rw [h7, h5'] at hij; cases c <;> simp [keyOf] at hij
          · rw [h5, h7'] at hij; cases c' <;> simp [keyOf] at hij
          · rw [h5, h5'] at hij
            simp only [Key.ar.injEq, true_and] at hij
            omega
        · rcases keyT_cases d rs i with ⟨x, p, t, c, a, h4, h5, h6, h7⟩ | ⟨h4, h5⟩
          · cases c with
            | false => exact .inl ⟨t, a, by rw [h7]; rfl⟩
            | true => exact .inr (.inl ⟨t, a, by rw [h7]; rfl⟩)
          · exact .inr (.inr ⟨_, h5⟩)
        · simp only [PV.noLoc, List.all_eq_true, Bool.not_eq_true']
          intro p hp
          obtain ⟨q, hq, rfl⟩ := List.mem_map.1 hp
          obtain ⟨j, hj⟩ := List.getElem?_of_mem hq
          obtain ⟨p, t, c⟩ := q
          exact localPtr_noLoc (hok' j p t c hj).2
        · simp only [List.getElem?_map, Option.map_eq_some_iff] at hj
          obtain ⟨q, hj, rfl⟩ := hj
          obtain ⟨p, t, c⟩ := q
          obtain ⟨u, h4, h6⟩ := h3 j p t c hj
          refine ⟨u, by simpa using h4, ?_⟩
          have h7 : RepE g w (keyOf d t c) p u := by
            have := (hok' j p t c hj).1
            cases p with
            | tup vs => simp [PV.okT, PV.dup, PV.plain] at this
            | _ => exact h6
          exact repE_keys (fun k q hk => (keyT_at d rs j hj (List.getElem?_eq_some_iff.1 hk).1).symm) h7
      match rs, h1, h3, hok, tuple with
      | [(p, t, c)], h1, h3, hok, _ =>
        obtain ⟨u, h4, h5⟩ := h3 0 p t c rfl
        have hus : us = [u] := by
          match us, h1, h4 with
          | [x], _, h4 => simpa using h4
        subst hus
        simp only [List.map_cons, List.map_nil, retOk, Bool.and_eq_true, Bool.not_eq_true'] at hok
        refine ⟨keyOf d t c, fun i j hij => by cases c <;> simpa [keyOf] using hij, fun i => by cases c; exact .inl ⟨t, i, rfl⟩; exact .inr (.inl ⟨t, i, rfl⟩), ?_, h5⟩
        show p.noLoc = true
        have h6 := localPtr_noLoc hok.2
        cases p with
        | ad b off => cases b <;> simp_all [PV.isLoc, PV.noLoc]
        | tup vs => simp [PV.okT, PV.dup, PV.plain] at hok
        | _ => rfl
      | [], _, _, _, tuple => exact tuple (by simp)
      | p :: q :: l, _, _, _, tuple => exact tuple (by simp)
    obtain ⟨κ, hinj, hkey, hno, hrep⟩ := hread
    refine ⟨_, hrun, ?_⟩
    -- nothing else is held
    let S0 : St := ⟨[], [], S.mm, [], S.vl⟩
    have hS0 : Rel d nt e S0 g a w := ⟨hi.rel.sz, fun t p hp => by simp [S0, lk] at hp, fun t p hp => by simp [S0, lk] at hp, hi.rel.mm, hi.rel.no, fun t p hp => by simp [S0, lk] at hp, hi.rel.wf, hi.rel.df, hi.rel.vl⟩
    obtain ⟨us, hus, hback⟩ := repT_split hrep
    obtain ⟨g4, h10, h11, h12, h13, h14, h15, h16⟩ := hS0.moveCells (m := S.mm.length) (ret1 (rs.map Prod.fst)).keys us κ (fun j => .rt d j) (fun i => by rcases hkey i with ⟨t, j, h9⟩ | ⟨t, j, h9⟩ | ⟨j, h9⟩ <;> rw [h9] <;> exact Nat.le_refl d) (fun _ => Nat.le_refl d)
      (fun j _ => by
        rcases hkey j with ⟨t, i, h9⟩ | ⟨t, i, h9⟩ | ⟨i, h9⟩ <;> rw [h9]
        · exact ⟨fun _ _ _ _ hl => by simp [S0, lk] at hl, fun _ _ _ _ hk => by simp at hk, fun _ _ _ _ hk => by simp at hk, fun _ _ hk => by simp at hk⟩
        · exact ⟨fun _ _ _ hk => by simp at hk, fun _ _ _ _ _ hl => by simp [S0, lk] at hl, fun _ _ _ _ hk => by simp at hk, fun _ _ hk => by simp at hk⟩
        · exact ⟨fun _ _ _ hk => by simp at hk, fun _ _ _ _ hk => by simp at hk, fun _ _ _ _ hk => by simp at hk, fun _ _ hk => by simp at hk⟩) hinj
      (fun i j hij => by rcases hkey i with ⟨t, k, h9⟩ | ⟨t, k, h9⟩ | ⟨k, h9⟩ <;> rw [h9] at hij <;> simp at hij) hus
    exact ⟨ret1 (rs.map Prod.fst), S.mm, S.vl, g4, ⟨h, hno⟩, hback g4 w _ h11.gr hno h15, h10.mm, h10.no, h10.vl, h10.wf, hi.goE hb h11⟩
end
end Go.KM
