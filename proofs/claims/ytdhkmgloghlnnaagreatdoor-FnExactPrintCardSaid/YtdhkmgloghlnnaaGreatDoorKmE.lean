/- Loads, addresses, lengths of the abstract machine. Conditions: none. -/
import Derived.Test.YtdhkmgloghlnnaaGreatDoorKmD
namespace Go.KM
open Go
open Fam (Dn dflt)
open Enc (cells sz mkE glob gany u8)
set_option autoImplicit false
set_option linter.unusedVariables false
set_option linter.unusedSimpArgs false
set_option linter.unusedSectionVars false
section
variable [Enc] {d nt : Nat} {e : Option Nat} {S : St} {g g' : G} {a : Act} {w w' : World} {P : Program}
theorem bin_ran {T : Tab} (hT : TabOk P T) (hF : ∀ t z, T.flat t = some z → FlatOk P t z) {t m ty yt : Nat} {op : BinOp} {x y : Operand} {p q r : PV} (ht : t < nt) (h : Rel d nt e S g a w)
    (hx : S.opv x = some p) (hy : S.opv y = some q) (ho : binP T op ty p q = some (true, r)) {o : Oper} (hop : o.op = .binOp op ty x y yt) :
    RanQ d nt e m (S.setT t r) g a w t ((execOp a.eval o).run P w) := by
  obtain ⟨v, h1, h2, h3, h4⟩ := bin_run (P := P) hT hF h hx hy ho
  exact ran_valQ h ht (by simp [execOp, hop, h1, h2]) (plain_T h4 h3 _)
theorem un_ran {t m ty : Nat} {op : UnOp} {x : Operand} {p r : PV} (ht : t < nt) (h : Rel d nt e S g a w) (hx : S.opv x = some p) (ho : unP op p = some r) {o : Oper} (hop : o.op = .unOp op ty x) :
    Ran d nt e m (S.setT t r) g a w t ((execOp a.eval o).run P w) := by
  unfold unP at ho
  split at ho <;> simp only [Option.some.injEq, reduceCtorEq] at ho <;> subst ho
  · exact ran_val h ht (v := .int _ _) (by simp [execOp, hop, eval_i h hx, Op.unary, Op.intArith]) (.i _ _)
  · exact ran_val h ht (v := .int _ _) (by simp [execOp, hop, eval_i h hx, Op.unary, Op.intBits]; rfl) (.i _ _)
  · exact ran_val h ht (v := .bool _) (by simp [execOp, hop, eval_b h hx, Op.unary]) (.b _)
theorem convert_ran {F : Fx} (hT : TabOk P F.T) {t m src dst : Nat} {x : Operand} {S' : St} (ht : t < nt) (h : Rel d nt e S g a w) (ho : opConvert F t src dst x S = some S') {o : Oper} (hop : o.op = .convert src dst x) :
    Ran d nt e m S' g a w t ((execOp a.eval o).run P w) := by
  unfold opConvert at ho
  split at ho <;> simp only [Option.some.injEq, reduceCtorEq] at ho <;> subst ho
  · rename_i k1 k k2 n h1 h2 hx
    refine ran_val h ht (v := .int k (k.wrap n)) ?_ (.i _ _)
    simp [execOp, hop, eval_i h hx, convert, sem_underlying (hT.int _ _ h1), sem_underlying (hT.int _ _ h2), Conv.intToInt]
  · rename_i b h1 h2 hx
    refine ran_val h ht (v := .string b) ?_ (.s _)
    simp [execOp, hop, eval_s h hx, convert, sem_underlying (hT.str _ h1), sem_underlying (hT.str _ h2)]
theorem index_ran {F : Fx} (hT : TabOk P F.T) {t m T : Nat} {x i : Operand} {S' : St} (ht : t < nt) (h : Rel d nt e S g a w) (ho : opIndex F t T x i S = some (true, S')) {o : Oper} (hop : o.op = .index T x i) :
    Ran d nt e m S' g a w t ((execOp a.eval o).run P w) := by
  unfold opIndex at ho
  split at ho <;> simp only [Option.some.injEq, Prod.mk.injEq, reduceCtorEq] at ho
  rename_i b n h1 hx hi
  obtain ⟨h2, rfl⟩ := ho
  obtain ⟨k, hk⟩ := int?_eval h hi
  simp only [inB, Bool.and_eq_true, decide_eq_true_eq] at h2
  refine ran_val h ht (v := .int .u8 (bt b n)) ?_ (.i _ _)
  have h3 : n.toNat < b.size := by omega
  have h4 : b[n.toNat]? = some (b.data.toList.getD n.toNat 0) := by
    have : b.data.toList[n.toNat]? = some (b.data.toList[n.toNat]'(by simpa using h3)) := List.getElem?_eq_getElem _
    rw [List.getD_eq_getElem?_getD, this]
    simp only [Option.getD_some]
    rw [getElem?_pos b n.toNat h3]
    rfl
  simp [execOp, hop, eval_s h hx, hk, Instr.index, asIntOf, sem_underlying (hT.str _ h1), h2.1, h4, bt]
theorem cell_at {b : Nat} {C : Array Value} {E : TypeId} {fr : Nat × Nat} (h : w.heap[b]? = some (.cells C E fr)) (o j : Nat) : w.cell? ((⟨b, o, none⟩ : Addr).add j) = C[o + j]? := by
  have hadd : (⟨b, o, none⟩ : Addr).add j = ⟨b, o + j, none⟩ := by unfold Addr.add; split <;> simp_all
  rw [hadd, cell_of_row w b (o + j) C E fr h]
theorem part_get {cs : List PV} {o n j : Nat} {c : PV} (h : (part cs o n)[j]? = some c) : cs[o + j]? = some c ∧ j < n := by
  simp only [part, List.getElem?_take, List.getElem?_drop] at h
  split at h
  · exact ⟨h, by assumption⟩
  · simp at h
theorem plain_all {p : List PV} (h : p.all PV.plain = true) {j : Nat} {c : PV} (hj : p[j]? = some c) : c.plain = true := by
  rw [List.all_eq_true] at h
  exact h c (List.mem_of_getElem? hj)
theorem part_vals {C : Array Value} {o : Nat} {p : List PV} (h : CellsAt g C o p) : ∃ vs : List Value, vs.length = p.length ∧ (∀ j v, vs[j]? = some v → C[o + j]? = some v) ∧ CellsAt g vs.toArray 0 p := by
  refine ⟨(List.range p.length).map fun j => (C[o + j]?).getD undef, by simp, fun j v hj => ?_, fun j c hj => ?_⟩
  · simp only [List.getElem?_map, Option.map_eq_some_iff] at hj
    obtain ⟨j', h1, rfl⟩ := hj
    obtain ⟨h2, h3⟩ := List.getElem?_eq_some_iff.1 h1
    simp only [List.length_range] at h2
    simp only [List.getElem_range] at h3
    subst h3
    obtain ⟨u, h4, _⟩ := h j p[j] (List.getElem?_eq_getElem h2)
    simp [h4]
  · obtain ⟨u, h4, h5⟩ := h j c hj
    refine ⟨u, ?_, h5⟩
    have h6 := (List.getElem?_eq_some_iff.1 hj).1
    simp [h6, h4]
theorem load_part {T : Tab} (hT : TabOk P T) {ty b o : Nat} {C : Array Value} {E : TypeId} {fr : Nat × Nat} {p : List PV} (hb : w.heap[b]? = some (.cells C E fr)) (hp : CellsAt g C o p)
    (hl : p.length = T.cz ty) (hz : 0 < T.cz ty) (hpl : p.all PV.plain = true) (hu : isUnk (T.K ty) = false) (κ : Nat → Key) :
    (isAggK (T.K ty) = true → ∃ v, (loadVar ty ⟨b, o, none⟩).run P w = .ok v w ∧ RepT g w κ (.st p) v) ∧
    (isAggK (T.K ty) = false → ∀ c, p = [c] → ∃ v, (loadVar ty ⟨b, o, none⟩).run P w = .ok v w ∧ RepT g w κ c v) := by
  constructor
  · intro ha
    cases hK : T.K ty <;> simp [hK, isAggK] at ha
    obtain ⟨fs, hfs⟩ := hT.struct ty hK
    obtain ⟨vs, h1, h2, h3⟩ := part_vals hp
    have hagg : (isAgg ty).run P w = .ok true w := by simp [isAgg, sem_underlying hfs]
    obtain ⟨i, h4, h5⟩ := hT.cz ty hz
    have h6 := run_loadCells_list (P := P) w ⟨b, o, none⟩ vs (fun j v hj => by rw [cell_at hb]; exact h2 j v hj)
    refine ⟨.agg vs.toArray, ?_, vs.toArray, rfl, by simpa using h1, fun j c hj => ?_⟩
    case refine_2 => obtain ⟨u, h7, h8⟩ := h3 j c hj; exact ⟨u, by simpa using h7, (plain_key (plain_all hpl hj)).2 h8⟩
    simp [loadVar, hagg, sizeOf, typeInfo, h4, h5, ← hl, ← h1, h6]
  · intro ha c hc
    subst hc
    have hagg : (isAgg ty).run P w = .ok false w := by
      cases hK : T.K ty with
      | int k => simp [isAgg, sem_underlying (hT.int _ _ hK)]
      | bool => simp [isAgg, sem_underlying (hT.bool _ hK)]
      | str => simp [isAgg, sem_underlying (hT.str _ hK)]
      | slice el => simp [isAgg, sem_underlying (hT.slice _ _ hK).1]
      | ptr el => simp [isAgg, sem_underlying (hT.ptr _ _ hK)]
      | iface => obtain ⟨ms, hms⟩ := hT.iface _ hK; simp [isAgg, sem_underlying hms]
      | map el => obtain ⟨k, v, i, hms, _⟩ := hT.map _ _ hK; simp [isAgg, sem_underlying hms]
      | struct => simp [hK, isAggK] at ha
      | other =>
        obtain ⟨td, h1, h2⟩ := hT.other _ hK
        unfold isAgg
        rw [Sem.run_bind, sem_underlying h1]
        cases td <;> first | exact h2.elim | rfl
      | unk => simp [hK, isUnk] at hu
    obtain ⟨u, h1, h2⟩ := hp 0 c rfl
    have hc : w.cell? ⟨b, o, none⟩ = some u := by rw [cell_of_row w b o C E fr hb]; simpa using h1
    refine ⟨u, ?_, plain_T (plain_all hpl (j := 0) rfl) h2 κ⟩
    simp [loadVar, hagg, hc]
theorem loadCs_ran {F : Fx} (hT : TabOk P F.T) {t m ty b o off : Nat} {C : Array Value} {E : TypeId} {fr : Nat × Nat} {cs : List PV} {x : Operand} {S' : St} (ht : t < nt) (h : Rel d nt e S g a w)
    (hb : w.heap[b]? = some (.cells C E fr)) (hc : (part cs off (F.T.cz ty)).all PV.plain = true → CellsAt g C (o + off) (part cs off (F.T.cz ty)))
    (hx : a.eval x = .pointer (some ⟨b, o + off, none⟩)) (ho : opLoadCs F t ty cs off S = some S') {op : Oper} (hop : op.op = .load ty x) :
    RanQ d nt e m S' g a w t ((execOp a.eval op).run P w) := by
  unfold opLoadCs at ho
  cases hg : (Nat.beq (part cs off (F.T.cz ty)).length (F.T.cz ty) && (part cs off (F.T.cz ty)).all PV.plain && !isUnk (F.T.K ty) && Nat.blt 0 (F.T.cz ty)) with
  | false => simp only [hg, cond_false, reduceCtorEq] at ho
  | true =>
    simp only [hg, cond_true] at ho
    simp only [Bool.and_eq_true, Bool.not_eq_true'] at hg
    obtain ⟨⟨⟨h1, h2⟩, h3⟩, h4⟩ := hg
    have h5 := Nat.eq_of_beq_eq_true h1
    have h6 : 0 < F.T.cz ty := by have : 1 ≤ F.T.cz ty := by simpa [Nat.blt, Nat.ble_eq] using h4
                                  omega
    have h7 := load_part (P := P) (w := w) hT (κ := Key.tm d t) hb (hc h2) h5 h6 h2 h3
    have hr : ∀ v, (loadVar ty ⟨b, o + off, none⟩).run P w = .ok v w → (execOp a.eval op).run P w = .ok (.value v) w := by
      intro v hv
      simp [execOp, hop, hx, Instr.loadAt, Instr.sureAddr, hv]
    cases ha : isAggK (F.T.K ty) with
    | true =>
      simp only [ha, cond_true, Option.some.injEq] at ho
      subst ho
      obtain ⟨v, h8, h9⟩ := h7.1 ha
      exact ran_valQ h ht (hr v h8) h9
    | false =>
      simp only [ha, cond_false] at ho
      split at ho
      · rename_i c hp
        simp only [Option.some.injEq] at ho
        subst ho
        obtain ⟨v, h8, h9⟩ := h7.2 ha c hp
        exact ran_valQ h ht (hr v h8) h9
      · simp at ho
theorem eval_fa (h : Rel d nt e S g a w) {x : Operand} {U off : Nat} {y : Dn U} (hx : S.opv x = some (.fa U y off)) :
    ∃ bk o C, a.eval x = .pointer (some ⟨bk, o + off, none⟩) ∧ g.fz bk = some C ∧ CellsAt g C o (cells U y) := repF_fa (opv_dup h hx rfl (fun _ => .obj))
theorem eval_ad (h : Rel d nt e S g a w) {x : Operand} {b : Base} {off : Nat} (hx : S.opv x = some (.ad b off)) : a.eval x = .pointer (some ⟨g.addr b, off, none⟩) := by
  have := opv_dup h hx rfl (fun _ => .obj)
  generalize a.eval x = v at this ⊢
  cases b with
  | loc t => exact this
  | obj i => cases this; rfl
theorem cells_part {A : Array Value} {o off n : Nat} {cs : List PV} (h : CellsAt g A o cs) : CellsAt g A (o + off) (part cs off n) := by
  intro j c hj
  obtain ⟨h1, _⟩ := part_get hj
  obtain ⟨u, h2, h3⟩ := h _ _ h1
  exact ⟨u, by rw [Nat.add_assoc]; exact h2, h3⟩
theorem repK_part {κ : Nat → Key} {cs : List PV} {C : Array Value} (h : RepK g w κ cs C) {off n : Nat} (hp : (part cs off n).all PV.plain = true) : CellsAt g C off (part cs off n) := by
  intro j c hj
  obtain ⟨h1, _⟩ := part_get hj
  obtain ⟨u, h2, h3⟩ := h.2 _ _ h1
  exact ⟨u, h2, (plain_key (plain_all hp hj)).1 h3⟩
theorem src_rep (h : Rel d nt e S g a w) {s : Src} {T : Nat} {xs : List (Dn T)} (hs : S.at_ s = some (.ol T xs)) {v : Value} (hv : hdr g a w s = some v) :
    ∃ κ, RepO g w κ T xs v ∧ κ.cell := by
  cases s with
  | var u =>
    have h1 := (h.tm u _ hs).2
    simp only [hdr] at hv
    refine ⟨Key.tm d u 0, ?_, trivial⟩
    have : a.tmps.getD u undef = v := by simp [Array.getD_eq_getD_getElem?, hv]
    rw [this] at h1; exact h1
  | vo i =>
    obtain ⟨u, h1, h2⟩ := h.vl i _ hs
    have hv : g.va i = some v := hv
    rw [h1] at hv
    obtain rfl := Option.some.inj hv
    exact ⟨_, h2, trivial⟩
  | cell b o =>
    simp only [St.at_] at hs
    cases hb : S.cont b with
    | none => simp [hb] at hs
    | some cs =>
      simp only [hb] at hs
      obtain ⟨_, C, E, h2, h3⟩ := h.cont hb
      obtain ⟨u, h4, h5⟩ := h3.2 o _ hs
      simp only [hdr] at hv
      rw [cell_of_row w (g.addr b) o C E (0, 0) h2, h4] at hv
      simp only [Option.some.injEq] at hv
      subst hv
      refine ⟨_, h5, ?_⟩
      cases b <;> trivial
theorem repO_row {κ : Key} {T : Nat} {xs : List (Dn T)} {b len cap : Nat} (h : RepO g w κ T xs (.slice (some ⟨b, 0, none⟩) len cap)) :
    ∃ C, w.heap[b]? = some (.cells C T (0, 0)) ∧ len = xs.length ∧ xs.length ≤ cap ∧ g.own b = some κ ∧ C.size = cap * sz T ∧ ∀ i x, xs[i]? = some x → CellsAt g C (i * sz T) (cells T x) := by
  obtain ⟨vs, h2, h3, h4⟩ := h
  rcases h2.2 with ⟨h5, h6⟩ | ⟨b', cap', cur, h5, _, h7, h8, _, h9, h10⟩
  · simp at h5
  · simp only [Value.slice.injEq, Option.some.injEq, Addr.mk.injEq, and_true] at h5
    obtain ⟨rfl, rfl, rfl⟩ := h5
    refine ⟨cur, h7, rfl, h8, h3 b rfl, h9, fun i x hi j c hj => ?_⟩
    obtain ⟨y, h11, h12⟩ := h4 i x hi j c hj
    refine ⟨y, ?_, h12⟩
    rw [← h10] at h11
    simp only [List.getElem?_toArray, List.getElem?_take] at h11
    split at h11
    · simpa using h11
    · simp at h11
theorem setCont_len (S : St) (b : Base) (cs : List PV) : (S.setCont b cs).mm.length = S.mm.length := by cases b <;> simp [St.setCont]
theorem Rel.store (h : Rel d nt e S g a w) {b : Base} {cs cs' : List PV} (hb : S.cont b = some cs) (hr : S.rt = []) {C' : Array Value} {E : TypeId} (hw : ∀ k, k ≠ g.addr b → w'.heap[k]? = w.heap[k]?)
    (hs : w'.heap.size = w.heap.size) (hC : w'.heap[g.addr b]? = some (.cells C' E (0, 0))) (hk : RepK g w' (ckey d g b) cs' C') (hsl : Sl w w' := by exact ⟨rfl, rfl, rfl⟩) (hE : ∃ C0, w.heap[g.addr b]? = some (.cells C0 E (0, 0)) := by exact ⟨_, by assumption⟩) :
    Rel d nt e (S.setCont b cs') g a w' ∧ Ext d S.mm.length g w g w' := by
  obtain ⟨ho, _⟩ := h.cont hb
  have hK : Keep (fun k _ => k = g.addr b) g w g w' := ⟨.refl g, rfl, fun k κ hk hx => ⟨hk, hw k hx⟩⟩
  have hne : ∀ k κ, g.own k = some κ → κ.cell → k ≠ g.addr b := fun k κ h1 h2 h3 => by
    subst h3; rw [ho] at h1; simp only [Option.some.injEq] at h1; subst h1; exact bkey_cell d b h2
  constructor
  · refine ⟨h.sz, fun t p hp => ?_, fun t cs2 ht => ?_, fun i cs2 hi => ?_, by rw [setCont_len S b cs']; exact h.no, fun t r hrt => ?_, ⟨h.wf.gl, fun k κ hk' => hs ▸ h.wf.own k κ hk', fun k C hf => ?_, fun k b' j hk' => hs ▸ h.wf.ob k b' j hk', fun i hi => hs ▸ h.wf.ol i hi, h.wf.inj, h.wf.oe_row fun k D T fr hk => ?oe⟩, h.df, fun i p hi => ?_⟩
    case oe =>
      obtain ⟨C0, hC0⟩ := hE
      by_cases hkb : k = g.addr b
      · subst hkb
        rw [hC0] at hk
        cases hk
        exact ⟨_, _, hC⟩
      · exact ⟨_, _, (hw k hkb).trans hk⟩
    · have hp' : lk S.tm t = some p := by cases b <;> exact hp
      obtain ⟨h1, h2⟩ := h.tm t p hp'
      exact ⟨h1, h2.keep hK fun i _ k hk' => hne k _ hk' trivial⟩
    · have old : lk S.lc t = some cs2 → g.lb t ≠ g.addr b → g.own (g.lb t) = some (.loc d t) ∧ ∃ C E, w'.heap[g.lb t]? = some (.cells C E (0, 0)) ∧ RepK g w' (Key.lc d t) cs2 C := by
        intro h1 h2
        obtain ⟨h3, C, E, h4, h5⟩ := h.lc t cs2 h1
        exact ⟨h3, C, E, (hw _ h2).trans h4, h5.keep hK fun j c _ _ k hk' => hne k _ hk' trivial⟩
      cases b with
      | loc u =>
        have ht : lk ((u, cs') :: S.lc) t = some cs2 := ht
        rw [lk_cons] at ht
        by_cases hu : u = t
        · subst hu
          simp only [if_true, Option.some.injEq] at ht
          subst ht
          exact ⟨ho, C', E, hC, hk⟩
        · simp only [hu, if_false] at ht
          refine old ht fun h1 => ?_
          have h2 := (h.lc t cs2 ht).1
          rw [h1, ho] at h2
          simp only [bkey, Option.some.injEq, Key.loc.injEq, true_and] at h2
          exact hu h2
      | obj i =>
        refine old ht fun h1 => ?_
        have h2 := (h.lc t cs2 ht).1
        rw [h1, ho] at h2
        simp [bkey] at h2
    · have old : S.mm[i]? = some cs2 → g.oa i ≠ g.addr b → i < g.no ∧ g.own (g.oa i) = some .obj ∧ ∃ C E, w'.heap[g.oa i]? = some (.cells C E (0, 0)) ∧ RepK g w' (Key.ob (g.oa i)) cs2 C := by
        intro h1 h2
        obtain ⟨h0, h3, C, E, h4, h5⟩ := h.mm i cs2 h1
        exact ⟨h0, h3, C, E, (hw _ h2).trans h4, h5.keep hK fun j c _ _ k hk' => hne k _ hk' trivial⟩
      cases b with
      | loc u =>
        refine old hi fun h1 => ?_
        have h2 := (h.mm i cs2 hi).2.1
        rw [h1, ho] at h2
        simp [bkey] at h2
      | obj u =>
        have hi : (S.mm.set u cs')[i]? = some cs2 := hi
        rw [List.getElem?_set] at hi
        by_cases hu : u = i
        · subst hu
          simp only [if_true] at hi
          split at hi
          · simp only [Option.some.injEq] at hi
            subst hi
            exact ⟨(h.mm u cs hb).1, ho, C', E, hC, hk⟩
          · simp at hi
        · simp only [hu, if_false] at hi
          refine old hi fun h1 => ?_
          exact hu (h.wf.inj _ _ (h.mm i cs2 hi).1 (h.mm u cs hb).1 h1).symm
    · have : lk S.rt t = some r := by cases b <;> exact hrt
      rw [hr] at this; simp [lk] at this
    · obtain ⟨h1, h2⟩ := h.wf.fz k C hf
      refine ⟨h1, ?_⟩
      rw [hw k fun h3 => by rw [h3, ho] at h1; simp at h1]
      exact h2
    · have hi' : S.vl[i]? = some p := by cases b <;> exact hi
      obtain ⟨v, h1, h2⟩ := h.vl i p hi'
      exact ⟨v, h1, h2.keep hK fun _ k hk' => hne k _ hk' trivial⟩
  · refine ⟨.refl g, fun k κ hk' hout => ⟨hk', hw k fun h1 => ?_⟩, by rw [hs]; exact Nat.le_refl _, fun i h1 h2 => by omega, hsl⟩
    subst h1
    rw [ho] at hk'
    simp only [Option.some.injEq] at hk'
    subst hk'
    cases b with
    | loc t => simp [bkey, Outer] at hout
    | obj i =>
      have h2 : i < S.mm.length := by
        have h3 : S.mm[i]? = some cs := hb
        exact (List.getElem?_eq_some_iff.1 h3).1
      exact hout i h2 rfl
theorem Ext.trans {m : Nat} {g1 g2 : G} {w1 w2 : World} (h : Ext d m g w g1 w1) (h' : Ext d m g1 w1 g2 w2) (ho : ∀ i, i < m → i < g.no) : Ext d m g w g2 w2 := by
  refine ⟨h.gr.trans h'.gr, fun b κ hb hout => ?_, Nat.le_trans h.hs h'.hs, fun i h1 h2 => ?_, h.sl.trans h'.sl⟩
  · obtain ⟨h1, h2⟩ := h.own b κ hb hout
    have h3 : Outer d m g1 b κ := by
      cases κ <;> first | exact hout | (intro i hi; rw [h.gr.oa i (ho i hi)]; exact hout i hi)
    obtain ⟨h4, h5⟩ := h'.own b κ h1 h3
    exact ⟨h4, h5.trans h2⟩
  · by_cases h3 : i < g1.no
    · rw [h'.gr.oa i h3]; exact h.nw i h1 h3
    · exact Nat.le_trans h.hs (h'.nw i (by omega) h2)
def OF (g g' : G) : Prop := ∀ b κ, g.own b = some κ → g'.own b = some κ ∨ ∃ C, g'.fz b = some C
theorem OF.refl (g : G) : OF g g := fun _ _ h => .inl h
theorem OF.trans {g1 : G} (h : OF g g1) (h' : OF g1 g') (hg : Grow g1 g') : OF g g' := fun b κ hb => by
  rcases h b κ hb with h1 | ⟨C, h1⟩
  · exact h' b κ h1
  · exact .inr ⟨C, hg.fz b C h1⟩
def G.frz (g : G) (b : Nat) (C : Array Value) (T : TypeId) : G := { g with fe := fun x => if x = b then (T, (0, 0)) else g.fe x, fz := fun x => if x = b then some C else g.fz x, own := fun x => if x = b then none else g.own x }
theorem WF.frz_oe (h : WF g w) {b : Nat} {C C0 : Array Value} {T : TypeId} {fr : Nat × Nat} (hb : w.heap[b]? = some (.cells C0 T fr)) : ∀ i, i < g.no → ((g.frz b C T).fe (g.oa i)).1 = (g.fe (g.oa i)).1 := fun i hi => by
  simp only [G.frz]
  split
  · rename_i hh
    obtain ⟨_, D, fr, h12⟩ := h.oe i hi
    rw [hh, hb] at h12
    rw [hh]
    cases h12
    rfl
  · rfl
theorem WF.frz_oe2 (h : WF g w) {b : Nat} {C C0 : Array Value} {T : TypeId} {fr : Nat × Nat} (hb : w.heap[b]? = some (.cells C0 T fr)) (ho : g.own b ≠ some .obj) : ∀ i, i < (g.frz b C T).no → (g.frz b C T).own ((g.frz b C T).oa i) = some .obj ∧ ∃ D fr, w.heap[(g.frz b C T).oa i]? = some (.cells D ((g.frz b C T).fe ((g.frz b C T).oa i)).1 fr) := fun i hi => by
  obtain ⟨h0, D, fr, h12⟩ := h.oe i hi
  have hne : g.oa i ≠ b := fun hh => by rw [hh] at h0; exact ho h0
  exact ⟨by simp only [G.frz, if_neg hne]; exact h0, D, fr, by rw [show (g.frz b C T).oa i = g.oa i from rfl, h.frz_oe hb i hi]; exact h12⟩
theorem Rel.freeze (h : Rel d nt e S g a w) {m : Nat} {κ : Key} {T : Nat} {xs : List (Dn T)} {v : Value} (ho : RepO g w κ T xs v) (hm : Mine d m g w κ) (hf : Free d S g κ) (hr : S.rt = []) :
    ∃ g', Rel d nt e S g' a w ∧ RepF g' (.fl T xs) v ∧ Ext d m g w g' w ∧ g'.oa = g.oa ∧ g'.no = g.no ∧ g'.lb = g.lb ∧ Keep (fun _ k => k = κ) g w g' w ∧ OF g g' := by
  have ho' := ho
  obtain ⟨vs, h1, h2, h3⟩ := ho
  rcases h1.2 with ⟨h4, h5⟩ | ⟨b, cap, cur, h4, _, h6⟩
  · have : xs = [] := List.eq_nil_of_length_eq_zero h5
    subst this
    subst h4
    exact ⟨g, h, .fl0 T, .refl _ _ _ _, rfl, rfl, rfl, ⟨.refl g, rfl, fun _ _ hb _ => ⟨hb, rfl⟩⟩, .refl g⟩
  · subst h4
    obtain ⟨C, h7, _, h8, h9, h10, h11⟩ := repO_row ho'
    have hoe := h.wf.frz_oe (C := C) h7
    have hgr : Grow g (g.frz b C T) := by
      have hne : ∀ b' C', g.fz b' = some C' → b' ≠ b := fun b' C' hb' hh => by subst hh; have := (h.wf.fz b' C' hb').1; rw [h9] at this; simp at this
      refine ⟨fun b' C' hb' => ?_, Nat.le_refl _, fun _ _ => rfl, fun b' C' hb' => ?_, rfl, hoe⟩
      · simp only [G.frz, if_neg (hne b' C' hb')]; exact hb'
      · simp only [G.frz, if_neg (hne b' C' hb')]
    have hk : Keep (fun b' k => b' = b ∧ k = κ) g w (g.frz b C T) w := ⟨hgr, rfl, fun b' k hb' hx => ⟨by
      have hne : b' ≠ b := fun hh => by subst hh; rw [h9] at hb'; exact hx ⟨rfl, (Option.some.inj hb').symm⟩
      simp only [G.frz, if_neg hne]; exact hb', rfl⟩⟩
    refine ⟨g.frz b C T, h.keep hk (fun _ => rfl) (fun b' k hx => ?_) (.inl hr) ⟨gl_mono hgr h.wf.gl, fun b' k hb' => ?_, fun b' C' hb' => ?_, fun b' b2 j hb' => ?_, h.wf.ol, h.wf.inj, h.wf.frz_oe2 h7 (fun hh => by rw [h9] at hh; cases hh; exact hm.elim)⟩, ?_, ⟨hgr, fun b' k hb' hout => ⟨?_, rfl⟩, Nat.le_refl _, fun i h1 h2 => by simp only [G.frz] at h2; omega, .refl w⟩, rfl, rfl, rfl, ⟨hgr, rfl, fun b' k hb' hx => hk.own b' k hb' fun hh => hx hh.2⟩, fun b' k hb' => ?_⟩
    · obtain ⟨_, rfl⟩ := hx; exact ⟨hm.cell, fun _ => hf⟩
    · simp only [G.frz] at hb'; split at hb'
      · simp at hb'
      · exact h.wf.own _ _ hb'
    · simp only [G.frz] at hb' ⊢
      split at hb'
      · rename_i hh
        simp only [Option.some.injEq] at hb'
        subst hb' hh
        exact ⟨by simp, by simp [h7]⟩
      · rename_i hh
        simp only [hh, if_false]
        exact h.wf.fz _ _ hb'
    · simp only [G.frz] at hb'; split at hb'
      · simp at hb'
      · exact h.wf.ob _ _ _ hb'
    · exact RepF.fl' (bk := b) (off := 0) (cap := cap) (C := C) (fun _ => by simp [G.frz]) h8 fun i x hi => by rw [Nat.zero_add]; exact (h11 i x hi).mono hgr
    · have hne : b' ≠ b := fun hh => by subst hh; rw [h9] at hb'; simp only [Option.some.injEq] at hb'; subst hb'; exact hm.out b' hout
      simp only [G.frz, if_neg hne]; exact hb'
    · by_cases hbb : b' = b
      · subst hbb; exact .inr ⟨C, by simp [G.frz]⟩
      · exact .inl (by simp only [G.frz, if_neg hbb]; exact hb')
theorem repO_repP {κ : Key} {T : Nat} {xs : List (Dn T)} {v : Value} (h : RepO g w κ T xs v) (hc : κ.cell) : RepP g w T xs v := by
  have h' := h
  obtain ⟨vs, h1, h2, h3⟩ := h
  rcases h1.2 with ⟨h4, h5⟩ | ⟨b, cap, cur, h4, _, h6⟩
  · exact .inl ⟨List.eq_nil_of_length_eq_zero h5, h4⟩
  · subst h4
    obtain ⟨C, h7, _, h8, h9, h10, h11⟩ := repO_row h'
    exact .inr ⟨b, 0, cap, C, T, rfl, h8, h7, ⟨κ, h9, hc⟩, fun i x hi => by rw [Nat.zero_add]; exact h11 i x hi⟩
end
end Go.KM
