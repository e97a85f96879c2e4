/- Loads, addresses, lengths of the abstract machine. Conditions: none. -/
import Derived.Test.YtojkcmefnmcpiaaGreatDoorKmBb
import Derived.Laws.Slices
namespace Go.KM
open Go
open Fam (Dn dflt)
open Enc (cells sz mkE glob gany u8)
set_option autoImplicit false
set_option linter.unusedVariables false
set_option linter.unusedSimpArgs false
set_option linter.unusedSectionVars false
section
section
variable [Enc] {d nt : Nat} {e : Option Nat} {S : St} {g g' : G} {a : Act} {w w' : World} {P : Program}
theorem bin_ran {T : Tab} (hT : TabOk P T) (hF : ∀ t z, T.flat t = some z → FlatOk P t z) {t m ty yt : Nat} {op : BinOp} {x y : Operand} {p q r : PV} (ht : t < nt) (h : Rel d nt e S g a w)
  (hx : S.opv x = some p) (hy : S.opv y = some q) (ho : binP T op ty p q = some (true, r)) {o : Oper} (hop : o.op = .binOp op ty x y yt) :
  RanQ d nt e m (S.setT t r) g a w t ((execOp a.eval o).run P w) := by
 obtain ⟨v, h1, h2, h3, h4⟩ := bin_run (P := P) hT hF h hx hy ho
 exact ran_valQ h ht (by simp [execOp, hop, h1, h2]) (plain_T h4 h3 _)
theorem un_ran {t m ty : Nat} {op : UnOp} {x : Operand} {p r : PV} (ht : t < nt) (h : Rel d nt e S g a w) (hx : S.opv x = some p) (ho : unP op p = some r) {o : Oper} (hop : o.op = .unOp op ty x) :
  Ran d nt e m (S.setT t r) g a w t ((execOp a.eval o).run P w) := by
 unfold unP at ho
 split at ho <;> simp only [Option.some.injEq, reduceCtorEq] at ho <;> subst ho
 ·exact ran_val h ht (v := .int _ _) (by simp [execOp, hop, eval_i h hx, Op.unary, Op.intArith]) (.i _ _)
 ·exact ran_val h ht (v := .int _ _) (by simp [execOp, hop, eval_i h hx, Op.unary, Op.intBits]; rfl) (.i _ _)
 ·exact ran_val h ht (v := .bool _) (by simp [execOp, hop, eval_b h hx, Op.unary]) (.b _)
theorem convert_ran {F : Fx} (hT : TabOk P F.T) {t m src dst : Nat} {x : Operand} {S' : St} (ht : t < nt) (h : Rel d nt e S g a w) (ho : opConvert F t src dst x S = some S') {o : Oper} (hop : o.op = .convert src dst x) :
  Ran d nt e m S' g a w t ((execOp a.eval o).run P w) := by
 unfold opConvert at ho
 split at ho <;> simp only [Option.some.injEq, reduceCtorEq] at ho <;> subst ho
 ·rename_i k1 k k2 n h1 h2 hx
  refine ran_val h ht (v := .int k (k.wrap n)) ?_ (.i _ _)
  simp [execOp, hop, eval_i h hx, convert, sem_underlying (hT.int _ _ h1), sem_underlying (hT.int _ _ h2), Conv.intToInt]
 ·rename_i b h1 h2 hx
  refine ran_val h ht (v := .string b) ?_ (.s _)
  simp [execOp, hop, eval_s h hx, convert, sem_underlying (hT.str _ h1), sem_underlying (hT.str _ h2)]
theorem index_ran {F : Fx} (hT : TabOk P F.T) {t m T : Nat} {x i : Operand} {S' : St} (ht : t < nt) (h : Rel d nt e S g a w) (ho : opIndex F t T x i S = some (true, S')) {o : Oper} (hop : o.op = .index T x i) :
  Ran d nt e m S' g a w t ((execOp a.eval o).run P w) := by
 unfold opIndex at ho
 split at ho <;> simp only [Option.some.injEq, Prod.mk.injEq, reduceCtorEq] at ho
 rename_i b n h1 hx hi
 obtain ⟨h2, rfl⟩ := ho
 obtain ⟨k, hk⟩ := int?_eval h hi
 simp only [inB, Bool.and_eq_true, decide_eq_true_eq] at h2
 refine ran_val h ht (v := .int .u8 (bt b n)) ?_ (.i _ _)
 have h3 : n.toNat < b.size := by omega
 have h4 : b[n.toNat]? = some (b.data.toList.getD n.toNat 0) := by
  have : b.data.toList[n.toNat]? = some (b.data.toList[n.toNat]'(by simpa using h3)) := List.getElem?_eq_getElem _
  rw [List.getD_eq_getElem?_getD, this]
  simp only [Option.getD_some]
  rw [getElem?_pos b n.toNat h3]
  rfl
 simp [execOp, hop, eval_s h hx, hk, Instr.index, asIntOf, sem_underlying (hT.str _ h1), h2.1, h4, bt]
theorem cell_at {b : Nat} {C : Array Value} {E : TypeId} {fr : Nat × Nat} (h : w.heap[b]? = some (.cells C E fr)) (o j : Nat) : w.cell? ((⟨b, o, none⟩ : Addr).add j) = C[o + j]? := by
 have hadd : (⟨b, o, none⟩ : Addr).add j = ⟨b, o + j, none⟩ := by unfold Addr.add; split <;> simp_all
 rw [hadd, cell_of_row w b (o + j) C E fr h]
theorem part_get {cs : List PV} {o n j : Nat} {c : PV} (h : (part cs o n)[j]? = some c) : cs[o + j]? = some c ∧ j < n := by
 simp only [part, List.getElem?_take, List.getElem?_drop] at h
 split at h
 ·exact ⟨h, by assumption⟩
 ·simp at h
theorem plain_all {p : List PV} (h : p.all PV.plain = true) {j : Nat} {c : PV} (hj : p[j]? = some c) : c.plain = true := by
 rw [List.all_eq_true] at h
 exact h c (List.mem_of_getElem? hj)
theorem part_vals {C : Array Value} {o : Nat} {p : List PV} (h : CellsAt g C o p) : ∃ vs : List Value, vs.length = p.length ∧ (∀ j v, vs[j]? = some v → C[o + j]? = some v) ∧ CellsAt g vs.toArray 0 p := by
 refine ⟨(List.range p.length).map fun j => (C[o + j]?).getD undef, by simp, fun j v hj => ?_, fun j c hj => ?_⟩
 ·simp only [List.getElem?_map, Option.map_eq_some_iff] at hj
  obtain ⟨j', h1, rfl⟩ := hj
  obtain ⟨h2, h3⟩ := List.getElem?_eq_some_iff.1 h1
  simp only [List.length_range] at h2
  simp only [List.getElem_range] at h3
  subst h3
  obtain ⟨u, h4, _⟩ := h j p[j] (List.getElem?_eq_getElem h2)
  simp [h4]
 ·obtain ⟨u, h4, h5⟩ := h j c hj
  refine ⟨u, ?_, h5⟩
  have h6 := (List.getElem?_eq_some_iff.1 hj).1
  simp [h6, h4]
theorem load_part {T : Tab} (hT : TabOk P T) {ty b o : Nat} {C : Array Value} {E : TypeId} {fr : Nat × Nat} {p : List PV} (hb : w.heap[b]? = some (.cells C E fr)) (hp : CellsAt g C o p)
  (hl : p.length = T.cz ty) (hz : 0 < T.cz ty) (hpl : p.all PV.plain = true) (hu : isUnk (T.K ty) = false) (κ : Nat → Key) :
  (isAggK (T.K ty) = true → ∃ v, (loadVar ty ⟨b, o, none⟩).run P w = .ok v w ∧ RepT g w κ (.st p) v) ∧
  (isAggK (T.K ty) = false → ∀ c, p = [c] → ∃ v, (loadVar ty ⟨b, o, none⟩).run P w = .ok v w ∧ RepT g w κ c v) := by
 constructor
 ·intro ha
  cases hK : T.K ty <;> simp [hK, isAggK] at ha
  obtain ⟨fs, hfs⟩ := hT.struct ty hK
  obtain ⟨vs, h1, h2, h3⟩ := part_vals hp
  have hagg : (isAgg ty).run P w = .ok true w := by simp [isAgg, sem_underlying hfs]
  obtain ⟨i, h4, h5⟩ := hT.cz ty hz
  have h6 := run_loadCells_list (P := P) w ⟨b, o, none⟩ vs (fun j v hj => by rw [cell_at hb]; exact h2 j v hj)
  refine ⟨.agg vs.toArray, ?_, vs.toArray, rfl, by simpa using h1, fun j c hj => ?_⟩
  case refine_2 => obtain ⟨u, h7, h8⟩ := h3 j c hj; exact ⟨u, by simpa using h7, (plain_key (plain_all hpl hj)).2 h8⟩
  simp [loadVar, hagg, sizeOf, typeInfo, h4, h5, ← hl, ← h1, h6]
 ·intro ha c hc
  subst hc
  have hagg : (isAgg ty).run P w = .ok false w := by
   cases hK : T.K ty with
   | int k => simp [isAgg, sem_underlying (hT.int _ _ hK)]
   | bool => simp [isAgg, sem_underlying (hT.bool _ hK)]
   | str => simp [isAgg, sem_underlying (hT.str _ hK)]
   | slice el => simp [isAgg, sem_underlying (hT.slice _ _ hK).1]
   | ptr el => simp [isAgg, sem_underlying (hT.ptr _ _ hK)]
   | iface => obtain ⟨ms, hms⟩ := hT.iface _ hK; simp [isAgg, sem_underlying hms]
   | map el => obtain ⟨k, v, i, hms, _⟩ := hT.map _ _ hK; simp [isAgg, sem_underlying hms]
   | mapP el => obtain ⟨k, v, i, hms, _⟩ := hT.mapP _ _ hK; simp [isAgg, sem_underlying hms]
   | struct => simp [hK, isAggK] at ha
   | other =>
    obtain ⟨td, h1, h2⟩ := hT.other _ hK
    unfold isAgg
    rw [Sem.run_bind, sem_underlying h1]
    cases td <;> first | exact h2.elim | rfl
   | unk => simp [hK, isUnk] at hu
  obtain ⟨u, h1, h2⟩ := hp 0 c rfl
  have hc : w.cell? ⟨b, o, none⟩ = some u := by rw [cell_of_row w b o C E fr hb]; simpa using h1
  refine ⟨u, ?_, plain_T (plain_all hpl (j := 0) rfl) h2 κ⟩
  simp [loadVar, hagg, hc]
theorem loadCs_ran {F : Fx} (hT : TabOk P F.T) {t m ty b o off : Nat} {C : Array Value} {E : TypeId} {fr : Nat × Nat} {cs : List PV} {x : Operand} {S' : St} (ht : t < nt) (h : Rel d nt e S g a w)
  (hb : w.heap[b]? = some (.cells C E fr)) (hc : (part cs off (F.T.cz ty)).all PV.plain = true → CellsAt g C (o + off) (part cs off (F.T.cz ty)))
  (hx : a.eval x = .pointer (some ⟨b, o + off, none⟩)) (ho : opLoadCs F t ty cs off S = some S') {op : Oper} (hop : op.op = .load ty x) :
  RanQ d nt e m S' g a w t ((execOp a.eval op).run P w) := by
 unfold opLoadCs at ho
 cases hg : (Nat.beq (part cs off (F.T.cz ty)).length (F.T.cz ty) && (part cs off (F.T.cz ty)).all PV.plain && !isUnk (F.T.K ty) && Nat.blt 0 (F.T.cz ty)) with
 | false => simp only [hg, cond_false, reduceCtorEq] at ho
 | true =>
  simp only [hg, cond_true] at ho
  simp only [Bool.and_eq_true, Bool.not_eq_true'] at hg
  obtain ⟨⟨⟨h1, h2⟩, h3⟩, h4⟩ := hg
  have h5 := Nat.eq_of_beq_eq_true h1
  have h6 : 0 < F.T.cz ty := by
   have : 1 ≤ F.T.cz ty := by simpa [Nat.blt, Nat.ble_eq] using h4
   omega
  have h7 := load_part (P := P) (w := w) hT (κ := Key.tm d t) hb (hc h2) h5 h6 h2 h3
  have hr : ∀ v, (loadVar ty ⟨b, o + off, none⟩).run P w = .ok v w → (execOp a.eval op).run P w = .ok (.value v) w := by
   intro v hv
   simp [execOp, hop, hx, Instr.loadAt, Instr.sureAddr, hv]
  cases ha : isAggK (F.T.K ty) with
  | true =>
   simp only [ha, cond_true, Option.some.injEq] at ho
   subst ho
   obtain ⟨v, h8, h9⟩ := h7.1 ha
   exact ran_valQ h ht (hr v h8) h9
  | false =>
   simp only [ha, cond_false] at ho
   split at ho
   ·rename_i c hp
    simp only [Option.some.injEq] at ho
    subst ho
    obtain ⟨v, h8, h9⟩ := h7.2 ha c hp
    exact ran_valQ h ht (hr v h8) h9
   ·simp at ho
theorem eval_fa (h : Rel d nt e S g a w) {x : Operand} {U off : Nat} {y : Dn U} (hx : S.opv x = some (.fa U y off)) :
  ∃ bk o C, a.eval x = .pointer (some ⟨bk, o + off, none⟩) ∧ g.fz bk = some C ∧ CellsAt g C o (cells U y) := repF_fa (opv_dup h hx rfl (fun _ => .obj))
theorem eval_ad (h : Rel d nt e S g a w) {x : Operand} {b : Base} {off : Nat} (hx : S.opv x = some (.ad b off)) : a.eval x = .pointer (some ⟨g.addr b, off, none⟩) := by
 have := opv_dup h hx rfl (fun _ => .obj)
 generalize a.eval x = v at this ⊢
 cases b with
 | loc t => exact this
 | obj i => cases this; rfl
theorem cells_part {A : Array Value} {o off n : Nat} {cs : List PV} (h : CellsAt g A o cs) : CellsAt g A (o + off) (part cs off n) := by
 intro j c hj
 obtain ⟨h1, _⟩ := part_get hj
 obtain ⟨u, h2, h3⟩ := h _ _ h1
 exact ⟨u, by rw [Nat.add_assoc]; exact h2, h3⟩
theorem repK_part {κ : Nat → Key} {cs : List PV} {C : Array Value} (h : RepK g w κ cs C) {off n : Nat} (hp : (part cs off n).all PV.plain = true) : CellsAt g C off (part cs off n) := by
 intro j c hj
 obtain ⟨h1, _⟩ := part_get hj
 obtain ⟨u, h2, h3⟩ := h.2 _ _ h1
 exact ⟨u, h2, (plain_key (plain_all hp hj)).1 h3⟩
theorem src_rep (h : Rel d nt e S g a w) {s : Src} {T : Nat} {xs : List (Dn T)} (hs : S.at_ s = some (.ol T xs)) {v : Value} (hv : hdr g a w s = some v) :
  ∃ κ, RepO g w κ T xs v ∧ κ.cell := by
 cases s with
 | var u =>
  have h1 := (h.tm u _ hs).2
  simp only [hdr] at hv
  refine ⟨Key.tm d u 0, ?_, trivial⟩
  have : a.tmps.getD u undef = v := by simp [Array.getD_eq_getD_getElem?, hv]
  rw [this] at h1; exact h1
 | vo i =>
  obtain ⟨u, h1, h2⟩ := h.vl i _ hs
  have hv : g.va i = some v := hv
  rw [h1] at hv
  obtain rfl := Option.some.inj hv
  exact ⟨_, h2, trivial⟩
 | cell b o =>
  simp only [St.at_] at hs
  cases hb : S.cont b with
  | none => simp [hb] at hs
  | some cs =>
   simp only [hb] at hs
   obtain ⟨_, C, E, h2, h3⟩ := h.cont hb
   obtain ⟨u, h4, h5⟩ := h3.2 o _ hs
   simp only [hdr] at hv
   rw [cell_of_row w (g.addr b) o C E (0, 0) h2, h4] at hv
   simp only [Option.some.injEq] at hv
   subst hv
   refine ⟨_, h5, ?_⟩
   cases b <;> trivial
theorem repO_row {κ : Key} {T : Nat} {xs : List (Dn T)} {b len cap : Nat} (h : RepO g w κ T xs (.slice (some ⟨b, 0, none⟩) len cap)) :
  ∃ C, w.heap[b]? = some (.cells C T (0, 0)) ∧ len = xs.length ∧ xs.length ≤ cap ∧ g.own b = some κ ∧ C.size = cap * sz T ∧ ∀ i x, xs[i]? = some x → CellsAt g C (i * sz T) (cells T x) := by
 obtain ⟨vs, h2, h3, h4⟩ := h
 rcases h2.2 with ⟨h5, h6⟩ | ⟨b', cap', cur, h5, _, h7, h8, _, h9, h10⟩
 ·simp at h5
 ·simp only [Value.slice.injEq, Option.some.injEq, Addr.mk.injEq, and_true] at h5
  obtain ⟨rfl, rfl, rfl⟩ := h5
  refine ⟨cur, h7, rfl, h8, h3 b rfl, h9, fun i x hi j c hj => ?_⟩
  obtain ⟨y, h11, h12⟩ := h4 i x hi j c hj
  refine ⟨y, ?_, h12⟩
  rw [← h10] at h11
  simp only [List.getElem?_toArray, List.getElem?_take] at h11
  split at h11
  ·simpa using h11
  ·simp at h11
theorem setCont_len (S : St) (b : Base) (cs : List PV) : (S.setCont b cs).mm.length = S.mm.length := by cases b <;> simp [St.setCont]
theorem Rel.store (h : Rel d nt e S g a w) {b : Base} {cs cs' : List PV} (hb : S.cont b = some cs) (hr : S.rt = []) {C' : Array Value} {E : TypeId} (hw : ∀ k, k ≠ g.addr b → w'.heap[k]? = w.heap[k]?)
  (hs : w'.heap.size = w.heap.size) (hC : w'.heap[g.addr b]? = some (.cells C' E (0, 0))) (hk : RepK g w' (ckey d g b) cs' C') (hsl : Sl w w' := by exact ⟨rfl, rfl, rfl⟩) (hE : ∃ C0, w.heap[g.addr b]? = some (.cells C0 E (0, 0)) := by exact ⟨_, by assumption⟩) :
  Rel d nt e (S.setCont b cs') g a w' ∧ Ext d S.mm.length g w g w' := by
 obtain ⟨ho, _⟩ := h.cont hb
 have hK : Keep (fun k _ => k = g.addr b) g w g w' := ⟨.refl g, rfl, fun k κ hk hx => ⟨hk, hw k hx⟩⟩
 have hne : ∀ k κ, g.own k = some κ → κ.cell → k ≠ g.addr b := fun k κ h1 h2 h3 => by
  subst h3; rw [ho] at h1; simp only [Option.some.injEq] at h1; subst h1; exact bkey_cell d b h2
 constructor
 ·refine ⟨h.sz, fun t p hp => ?_, fun t cs2 ht => ?_, fun i cs2 hi => ?_, by rw [setCont_len S b cs']; exact h.no, fun t r hrt => ?_, ⟨h.wf.gl, fun k κ hk' => hs ▸ h.wf.own k κ hk', fun k C hf => ?_, fun k b' j hk' => hs ▸ h.wf.ob k b' j hk', fun i hi => hs ▸ h.wf.ol i hi, h.wf.inj, h.wf.oe_row fun k D T fr hk => ?oe⟩, h.df, fun i p hi => ?_⟩
  case oe =>
   obtain ⟨C0, hC0⟩ := hE
   by_cases hkb : k = g.addr b
   ·subst hkb
    rw [hC0] at hk
    cases hk
    exact ⟨_, _, hC⟩
   ·exact ⟨_, _, (hw k hkb).trans hk⟩
  ·have hp' : lk S.tm t = some p := by cases b <;> exact hp
   obtain ⟨h1, h2⟩ := h.tm t p hp'
   exact ⟨h1, h2.keep hK fun i _ k hk' => hne k _ hk' trivial⟩
  ·have old : lk S.lc t = some cs2 → g.lb t ≠ g.addr b → g.own (g.lb t) = some (.loc d t) ∧ ∃ C E, w'.heap[g.lb t]? = some (.cells C E (0, 0)) ∧ RepK g w' (Key.lc d t) cs2 C := by
    intro h1 h2
    obtain ⟨h3, C, E, h4, h5⟩ := h.lc t cs2 h1
    exact ⟨h3, C, E, (hw _ h2).trans h4, h5.keep hK fun j c _ _ k hk' => hne k _ hk' trivial⟩
   cases b with
   | loc u =>
    have ht : lk ((u, cs') :: S.lc) t = some cs2 := ht
    rw [lk_cons] at ht
    by_cases hu : u = t
    ·subst hu
     simp only [if_true, Option.some.injEq] at ht
     subst ht
     exact ⟨ho, C', E, hC, hk⟩
    ·simp only [hu, if_false] at ht
     refine old ht fun h1 => ?_
     have h2 := (h.lc t cs2 ht).1
     rw [h1, ho] at h2
     simp only [bkey, Option.some.injEq, Key.loc.injEq, true_and] at h2
     exact hu h2
   | obj i =>
    refine old ht fun h1 => ?_
    have h2 := (h.lc t cs2 ht).1
    rw [h1, ho] at h2
    simp [bkey] at h2
  ·have old : S.mm[i]? = some cs2 → g.oa i ≠ g.addr b → i < g.no ∧ g.own (g.oa i) = some .obj ∧ ∃ C E, w'.heap[g.oa i]? = some (.cells C E (0, 0)) ∧ RepK g w' (Key.ob (g.oa i)) cs2 C := by
    intro h1 h2
    obtain ⟨h0, h3, C, E, h4, h5⟩ := h.mm i cs2 h1
    exact ⟨h0, h3, C, E, (hw _ h2).trans h4, h5.keep hK fun j c _ _ k hk' => hne k _ hk' trivial⟩
   cases b with
   | loc u =>
    refine old hi fun h1 => ?_
    have h2 := (h.mm i cs2 hi).2.1
    rw [h1, ho] at h2
    simp [bkey] at h2
   | obj u =>
    have hi : (S.mm.set u cs')[i]? = some cs2 := hi
    rw [List.getElem?_set] at hi
    by_cases hu : u = i
    ·subst hu
     simp only [if_true] at hi
     split at hi
     ·simp only [Option.some.injEq] at hi
      subst hi
      exact ⟨(h.mm u cs hb).1, ho, C', E, hC, hk⟩
     ·simp at hi
    ·simp only [hu, if_false] at hi
     refine old hi fun h1 => ?_
     exact hu (h.wf.inj _ _ (h.mm i cs2 hi).1 (h.mm u cs hb).1 h1).symm
  ·have : lk S.rt t = some r := by cases b <;> exact hrt
   rw [hr] at this; simp [lk] at this
  ·obtain ⟨h1, h2⟩ := h.wf.fz k C hf
   refine ⟨h1, ?_⟩
   rw [hw k fun h3 => by rw [h3, ho] at h1; simp at h1]
   exact h2
  ·have hi' : S.vl[i]? = some p := by cases b <;> exact hi
   obtain ⟨v, h1, h2⟩ := h.vl i p hi'
   exact ⟨v, h1, h2.keep hK fun _ k hk' => hne k _ hk' trivial⟩
 ·refine ⟨.refl g, fun k κ hk' hout => ⟨hk', hw k fun h1 => ?_⟩, by rw [hs]; exact Nat.le_refl _, fun i h1 h2 => by omega, hsl⟩
  subst h1
  rw [ho] at hk'
  simp only [Option.some.injEq] at hk'
  subst hk'
  cases b with
  | loc t => simp [bkey, Outer] at hout
  | obj i =>
   have h2 : i < S.mm.length := by
    have h3 : S.mm[i]? = some cs := hb
    exact (List.getElem?_eq_some_iff.1 h3).1
   exact hout i h2 rfl
theorem Ext.trans {m : Nat} {g1 g2 : G} {w1 w2 : World} (h : Ext d m g w g1 w1) (h' : Ext d m g1 w1 g2 w2) (ho : ∀ i, i < m → i < g.no) : Ext d m g w g2 w2 := by
 refine ⟨h.gr.trans h'.gr, fun b κ hb hout => ?_, Nat.le_trans h.hs h'.hs, fun i h1 h2 => ?_, h.sl.trans h'.sl⟩
 ·obtain ⟨h1, h2⟩ := h.own b κ hb hout
  have h3 : Outer d m g1 b κ := by
   cases κ <;> first | exact hout | (intro i hi; rw [h.gr.oa i (ho i hi)]; exact hout i hi)
  obtain ⟨h4, h5⟩ := h'.own b κ h1 h3
  exact ⟨h4, h5.trans h2⟩
 ·by_cases h3 : i < g1.no
  ·rw [h'.gr.oa i h3]; exact h.nw i h1 h3
  ·exact Nat.le_trans h.hs (h'.nw i (by omega) h2)
def OF (g g' : G) : Prop := ∀ b κ, g.own b = some κ → g'.own b = some κ ∨ ∃ C, g'.fz b = some C
theorem OF.refl (g : G) : OF g g := fun _ _ h => .inl h
theorem OF.trans {g1 : G} (h : OF g g1) (h' : OF g1 g') (hg : Grow g1 g') : OF g g' := fun b κ hb => by
 rcases h b κ hb with h1 | ⟨C, h1⟩
 ·exact h' b κ h1
 ·exact .inr ⟨C, hg.fz b C h1⟩
def G.frz (g : G) (b : Nat) (C : Array Value) (T : TypeId) : G := { g with fe := fun x => if x = b then (T, (0, 0)) else g.fe x, fz := fun x => if x = b then some C else g.fz x, own := fun x => if x = b then none else g.own x }
theorem WF.frz_oe (h : WF g w) {b : Nat} {C C0 : Array Value} {T : TypeId} {fr : Nat × Nat} (hb : w.heap[b]? = some (.cells C0 T fr)) : ∀ i, i < g.no → ((g.frz b C T).fe (g.oa i)).1 = (g.fe (g.oa i)).1 := fun i hi => by
 simp only [G.frz]
 split
 ·rename_i hh
  obtain ⟨_, D, fr, h12⟩ := h.oe i hi
  rw [hh, hb] at h12
  rw [hh]
  cases h12
  rfl
 ·rfl
theorem WF.frz_oe2 (h : WF g w) {b : Nat} {C C0 : Array Value} {T : TypeId} {fr : Nat × Nat} (hb : w.heap[b]? = some (.cells C0 T fr)) (ho : g.own b ≠ some .obj) : ∀ i, i < (g.frz b C T).no → (g.frz b C T).own ((g.frz b C T).oa i) = some .obj ∧ ∃ D fr, w.heap[(g.frz b C T).oa i]? = some (.cells D ((g.frz b C T).fe ((g.frz b C T).oa i)).1 fr) := fun i hi => by
 obtain ⟨h0, D, fr, h12⟩ := h.oe i hi
 have hne : g.oa i ≠ b := fun hh => by rw [hh] at h0; exact ho h0
 exact ⟨by simp only [G.frz, if_neg hne]; exact h0, D, fr, by rw [show (g.frz b C T).oa i = g.oa i from rfl, h.frz_oe hb i hi]; exact h12⟩
theorem Rel.freeze (h : Rel d nt e S g a w) {m : Nat} {κ : Key} {T : Nat} {xs : List (Dn T)} {v : Value} (ho : RepO g w κ T xs v) (hm : Mine d m g w κ) (hf : Free d S g κ) (hr : S.rt = []) :
  ∃ g', Rel d nt e S g' a w ∧ RepF g' (.fl T xs) v ∧ Ext d m g w g' w ∧ g'.oa = g.oa ∧ g'.no = g.no ∧ g'.lb = g.lb ∧ Keep (fun _ k => k = κ) g w g' w ∧ OF g g' := by
 have ho' := ho
 obtain ⟨vs, h1, h2, h3⟩ := ho
 rcases h1.2 with ⟨h4, h5⟩ | ⟨b, cap, cur, h4, _, h6⟩
 ·have : xs = [] := List.eq_nil_of_length_eq_zero h5
  subst this
  subst h4
  exact ⟨g, h, .fl0 T, .refl _ _ _ _, rfl, rfl, rfl, ⟨.refl g, rfl, fun _ _ hb _ => ⟨hb, rfl⟩⟩, .refl g⟩
 ·subst h4
  obtain ⟨C, h7, _, h8, h9, h10, h11⟩ := repO_row ho'
  have hoe := h.wf.frz_oe (C := C) h7
  have hgr : Grow g (g.frz b C T) := by
   have hne : ∀ b' C', g.fz b' = some C' → b' ≠ b := fun b' C' hb' hh => by subst hh; have := (h.wf.fz b' C' hb').1; rw [h9] at this; simp at this
   refine ⟨fun b' C' hb' => ?_, Nat.le_refl _, fun _ _ => rfl, fun b' C' hb' => ?_, rfl, hoe⟩
   ·simp only [G.frz, if_neg (hne b' C' hb')]; exact hb'
   ·simp only [G.frz, if_neg (hne b' C' hb')]
  have hk : Keep (fun b' k => b' = b ∧ k = κ) g w (g.frz b C T) w := ⟨hgr, rfl, fun b' k hb' hx => ⟨by
   have hne : b' ≠ b := fun hh => by subst hh; rw [h9] at hb'; exact hx ⟨rfl, (Option.some.inj hb').symm⟩
   simp only [G.frz, if_neg hne]; exact hb', rfl⟩⟩
  refine ⟨g.frz b C T, h.keep hk (fun _ => rfl) (fun b' k hx => ?_) (.inl hr) ⟨gl_mono hgr h.wf.gl, fun b' k hb' => ?_, fun b' C' hb' => ?_, fun b' b2 j hb' => ?_, h.wf.ol, h.wf.inj, h.wf.frz_oe2 h7 (fun hh => by rw [h9] at hh; cases hh; exact hm.elim)⟩, ?_, ⟨hgr, fun b' k hb' hout => ⟨?_, rfl⟩, Nat.le_refl _, fun i h1 h2 => by simp only [G.frz] at h2; omega, .refl w⟩, rfl, rfl, rfl, ⟨hgr, rfl, fun b' k hb' hx => hk.own b' k hb' fun hh => hx hh.2⟩, fun b' k hb' => ?_⟩
  ·obtain ⟨_, rfl⟩ := hx; exact ⟨hm.cell, fun _ => hf⟩
  ·simp only [G.frz] at hb'; split at hb'
   ·simp at hb'
   ·exact h.wf.own _ _ hb'
  ·simp only [G.frz] at hb' ⊢
   split at hb'
   ·rename_i hh
    simp only [Option.some.injEq] at hb'
    subst hb' hh
    exact ⟨by simp, by simp [h7]⟩
   ·rename_i hh
    simp only [hh, if_false]
    exact h.wf.fz _ _ hb'
  ·simp only [G.frz] at hb'; split at hb'
   ·simp at hb'
   ·exact h.wf.ob _ _ _ hb'
  ·exact RepF.fl' (bk := b) (off := 0) (cap := cap) (C := C) (fun _ => by simp [G.frz]) h8 fun i x hi => by rw [Nat.zero_add]; exact (h11 i x hi).mono hgr
  ·have hne : b' ≠ b := fun hh => by subst hh; rw [h9] at hb'; simp only [Option.some.injEq] at hb'; subst hb'; exact hm.out b' hout
   simp only [G.frz, if_neg hne]; exact hb'
  ·by_cases hbb : b' = b
   ·subst hbb; exact .inr ⟨C, by simp [G.frz]⟩
   ·exact .inl (by simp only [G.frz, if_neg hbb]; exact hb')
theorem repO_repP {κ : Key} {T : Nat} {xs : List (Dn T)} {v : Value} (h : RepO g w κ T xs v) (hc : κ.cell) : RepP g w T xs v := by
 have h' := h
 obtain ⟨vs, h1, h2, h3⟩ := h
 rcases h1.2 with ⟨h4, h5⟩ | ⟨b, cap, cur, h4, _, h6⟩
 ·exact .inl ⟨List.eq_nil_of_length_eq_zero h5, h4⟩
 ·subst h4
  obtain ⟨C, h7, _, h8, h9, h10, h11⟩ := repO_row h'
  exact .inr ⟨b, 0, cap, C, T, rfl, h8, h7, ⟨κ, h9, hc⟩, fun i x hi => by rw [Nat.zero_add]; exact h11 i x hi⟩
end
end
section
section
variable [Enc] {d nt : Nat} {e : Option Nat} {S : St} {g g' : G} {a : Act} {w w' : World} {P : Program}
theorem splice_get {cs : List PV} {o : Nat} {vs : List PV} (h : o + vs.length ≤ cs.length) (j : Nat) :
  (splice cs o vs)[j]? = if o ≤ j ∧ j < o + vs.length then vs[j - o]? else cs[j]? := by
 simp only [splice]
 by_cases h1 : j < o
 ·rw [List.append_assoc, List.getElem?_append_left (by simp; omega), List.getElem?_take]
  simp [h1]; omega
 ·by_cases h2 : j < o + vs.length
  ·rw [List.append_assoc, List.getElem?_append_right (by simp; omega), List.getElem?_append_left (by simp; omega)]
   have : (cs.take o).length = o := by simp; omega
   simp [this, h2]; omega
  ·rw [List.getElem?_append_right (by simp; omega), List.getElem?_drop]
   have : (cs.take o ++ vs).length = o + vs.length := by simp; omega
   rw [this]
   have h3 : o + vs.length + (j - (o + vs.length)) = j := by omega
   simp [h3, h2]
theorem splice_len {cs : List PV} {o : Nat} {vs : List PV} (h : o + vs.length ≤ cs.length) : (splice cs o vs).length = cs.length := by
 simp [splice]; omega
theorem splice1_len {cs : List PV} {o : Nat} {x : PV} (h : o < cs.length) : (splice cs o [x]).length = cs.length := splice_len (show o + 1 ≤ cs.length by omega)
theorem splice1_get {cs : List PV} {o : Nat} {x : PV} (h : o < cs.length) (j : Nat) : (splice cs o [x])[j]? = if j = o then some x else cs[j]? := by
 rw [splice_get (show o + 1 ≤ cs.length by omega)]
 by_cases hj : j = o
 ·subst hj; simp
 ·have : ¬ (o ≤ j ∧ j < o + [x].length) := by simp; omega
  rw [if_neg this, if_neg hj]
theorem ckey_mine (h : Rel d nt e S g a w) {b : Base} {cs : List PV} (hb : S.cont b = some cs) (j : Nat) : Mine d S.mm.length g w (ckey d g b j) := by
 cases b with
 | loc t => exact Nat.le_refl d
 | obj i =>
  have h1 : S.mm[i]? = some cs := hb
  exact ⟨⟨i, (List.getElem?_eq_some_iff.1 h1).1, rfl⟩, h.wf.ol i (h.mm i cs h1).1⟩
theorem setCont_cont (S : St) {b : Base} {cs cs' : List PV} (hb : S.cont b = some cs) : (S.setCont b cs').cont b = some cs' := by
 cases b with
 | loc t => show lk ((t, cs') :: S.lc) t = _; rw [lk_cons, if_pos rfl]
 | obj i =>
  have h1 : S.mm[i]? = some cs := hb
  show (S.mm.set i cs')[i]? = _
  rw [List.getElem?_set]; simp [(List.getElem?_eq_some_iff.1 h1).1]
theorem free_cell {w : World} (h : Rel d nt e S g a w) {b : Base} {cs : List PV} (hb : S.cont b = some cs) {j : Nat} (hj : ∀ c, cs[j]? = some c → isOl c = false) : Free d S g (ckey d g b j) := by
 cases b with
 | loc t =>
  refine ⟨fun _ _ _ hk => by simp [ckey] at hk, fun t' cs2 j' c hk hl hc => ?_, fun _ _ _ _ hk => by simp [ckey] at hk, fun _ _ hk => by simp [ckey] at hk⟩
  simp only [ckey, Key.lc.injEq, true_and] at hk
  obtain ⟨rfl, rfl⟩ := hk
  have : cs2 = cs := by have h2 : lk S.lc t = some cs := hb; rw [hl] at h2; simpa using h2
  subst this
  exact hj c hc
 | obj i =>
  refine ⟨fun _ _ _ hk => by simp [ckey] at hk, fun _ _ _ _ hk => by simp [ckey] at hk, fun k cs2 j' c hk hl hc => ?_, fun _ _ hk => by simp [ckey] at hk⟩
  simp only [ckey, Key.ob.injEq] at hk
  obtain ⟨h1, rfl⟩ := hk
  have h2 : S.mm[i]? = some cs := hb
  have h3 := h.wf.inj _ _ (h.mm i cs h2).1 (h.mm k cs2 hl).1 h1
  subst h3
  have : cs2 = cs := by rw [hl] at h2; simpa using h2
  subst this
  exact hj c hc
theorem Rel.cellTo (h : Rel d nt e S g a w) {b : Base} {cs : List PV} (hb : S.cont b = some cs) (hr : S.rt = []) {off : Nat} (hle : off < cs.length) {c : PV}
  (hc : ∀ C E v, w.heap[g.addr b]? = some (.cells C E (0, 0)) → C[off]? = some v → RepC g w (ckey d g b off) c v) : Rel d nt e (S.setCont b (splice cs off [c])) g a w := by
 obtain ⟨_, C, E, h1, h2⟩ := h.cont hb
 refine (h.store hb hr (fun _ _ => rfl) rfl h1 ⟨by rw [splice1_len hle]; exact h2.1, fun j c' hj => ?_⟩).1
 rw [splice1_get hle] at hj
 by_cases hj' : j = off
 ·subst hj'
  simp only [if_true, Option.some.injEq] at hj
  subst hj
  have hlt : j < C.size := by rw [h2.1]; exact hle
  exact ⟨C[j], Array.getElem?_eq_getElem hlt, hc C E _ h1 (Array.getElem?_eq_getElem hlt)⟩
 ·simp only [hj', if_false] at hj
  exact h2.2 j c' hj
theorem splice_splice {cs : List PV} {o : Nat} {x y : PV} (h : o < cs.length) : splice (splice cs o [x]) o [y] = splice cs o [y] := by
 apply List.ext_getElem?
 intro j
 rw [splice1_get (by rw [splice1_len h]; exact h), splice1_get h, splice1_get h]
 split <;> rfl
theorem setCont_setCont (S : St) (b : Base) (x y : List PV) (t : Nat) : (∀ c, lk ((S.setCont b x).setCont b y).lc t = c ↔ lk (S.setCont b y).lc t = c) := by
 intro c
 cases b with
 | loc u =>
  show lk ((u, y) :: (u, x) :: S.lc) t = c ↔ lk ((u, y) :: S.lc) t = c
  rw [lk_cons, lk_cons, lk_cons]
  split <;> rfl
 | obj u => rfl
theorem Rel.congr {S' : St} (h : Rel d nt e S g a w) (h1 : ∀ t, lk S'.tm t = lk S.tm t) (h2 : ∀ t, lk S'.lc t = lk S.lc t) (h3 : S'.mm = S.mm) (h4 : S'.rt = S.rt) (h0 : S'.vl = S.vl := by first | rfl | (cases b <;> rfl) | (cases bs <;> rfl)) : Rel d nt e S' g a w := by
 refine ⟨h.sz, fun t p hp => h.tm t p (by rw [← h1]; exact hp), fun t cs ht => h.lc t cs (by rw [← h2]; exact ht), by rw [h3]; exact h.mm, by rw [h3]; exact h.no, fun t r hr => ?_, h.wf, h.df, by rw [h0]; exact h.vl⟩
 rw [h4] at hr
 obtain ⟨h5, h6⟩ := h.rt t r hr
 refine ⟨h5, ?_⟩
 have hat : ∀ s, S'.at_ s = S.at_ s := by
  intro s
  cases s with
  | var u => simp only [St.at_, h1]
  | cell b o => cases b <;> simp only [St.at_, St.cont, h2, h3]
  | vo i => simp only [St.at_, h0]
 cases r with
 | pk T xs src => exact ⟨h6.1, fun s hs => ⟨(hat s).trans (h6.2 s hs).1, (h6.2 s hs).2⟩⟩
 | el s T i off =>
  obtain ⟨xs, b, len, cap, h7, h8⟩ := h6
  exact ⟨xs, b, len, cap, (hat s).trans h7, h8⟩
 | sl s T lo hi =>
  obtain ⟨xs, q8, q9, q10, q11⟩ := h6
  exact ⟨xs, (hat s).trans q8, q9, q10, q11.imp id fun ⟨q, b, len, cap, cap', q12, q13⟩ => ⟨q, b, len, cap, cap', q12, q13⟩⟩
 | mr s =>
  obtain ⟨U, es, h7, h8⟩ := h6
  exact ⟨U, es, (hat s).trans h7, h8⟩
 | dead => trivial
theorem loadOl_ran {F : Fx} {t ty off U : Nat} {b : Base} {cs : List PV} {xs : List (Dn U)} {x : Operand} {S' : St} (ht : t < nt) (h : Rel d nt e S g a w)
  (hb : S.cont b = some cs) (hc : cs[off]? = some (.ol U xs)) (hx : S.opv x = some (.ad b off)) (hagg : (isAgg ty).run P w = .ok false w) (ho : opLoadOl F t b cs off U xs S = some S')
  {op : Oper} (hop : op.op = .load ty x) : RanQ d nt e S.mm.length S' g a w t ((execOp a.eval op).run P w) := by
 obtain ⟨hk, C, E, h1, h2⟩ := h.cont hb
 obtain ⟨v, h3, h4⟩ := h2.2 off _ hc
 have h4 : RepO g w (ckey d g b off) U xs v := h4
 have hcell : w.cell? ⟨g.addr b, off, none⟩ = some v := by rw [cell_of_row w _ off C E (0, 0) h1]; exact h3
 have hr : (execOp a.eval op).run P w = .ok (.value v) w := by
  simp [execOp, hop, eval_ad h hx, Instr.loadAt, Instr.sureAddr, loadVar, hagg, hcell]
 have hle : off < cs.length := (List.getElem?_eq_some_iff.1 hc).1
 have hcont : S.noR.cont b = some cs := by cases b <;> exact hb
 have hmm : (S.noR.setCont b (splice cs off [.gone])).mm.length = S.mm.length := by rw [setCont_len]; rfl
 have h5 : Rel d nt e (S.noR.setCont b (splice cs off [.gone])) g a w := h.noR.cellTo hcont rfl hle fun _ _ _ _ _ => trivial
 have hcont' := setCont_cont S.noR (cs' := splice cs off [.gone]) hcont
 have hfree : Free d (S.noR.setCont b (splice cs off [.gone])) g (ckey d g b off) :=
  free_cell h5 hcont' fun c hc' => by
   rw [splice1_get hle, if_pos rfl] at hc'
   simp only [Option.some.injEq] at hc'
   subst hc'; rfl
 have hm := ckey_mine h5 hcont' off
 rw [hmm] at hm
 unfold opLoadOl at ho
 split at ho <;> simp only [Option.some.injEq] at ho <;> subst ho
 ·have h6 : (S.setCont b (splice cs off [.gone])).noR = S.noR.setCont b (splice cs off [.gone]) := by cases b <;> rfl
  rw [h6]
  obtain ⟨g', h7, h8, h9, _⟩ := h5.move h4 hm (mine_tm (t := t) (i := 0)) hfree
  exact ⟨g', v, hr, h7.setT ht h8, h9⟩
 ·have h6 : (S.setCont b (splice cs off [.fl U xs])).noR = S.noR.setCont b (splice cs off [.fl U xs]) := by cases b <;> rfl
  rw [h6]
  obtain ⟨g', h7, h8, h9, h10, h11, h12, _⟩ := h5.freeze h4 hm hfree (by cases b <;> rfl)
  have haddr : g'.addr b = g.addr b := by cases b <;> simp only [G.addr, h10, h12]
  have h13 := h7.cellTo (c := .fl U xs) (off := off) hcont' (by cases b <;> rfl) (by rw [splice1_len hle]; exact hle) fun C' E' v' h14 h15 => by
   rw [haddr, h1] at h14
   simp only [Option.some.injEq, Obj.cells.injEq] at h14
   obtain ⟨rfl, _⟩ := h14
   rw [h3] at h15
   simp only [Option.some.injEq] at h15
   subst h15
   exact h8
  rw [splice_splice hle] at h13
  have h14 : Rel d nt e (S.noR.setCont b (splice cs off [.fl U xs])) g' a w := by
   refine h13.congr (fun _ => by cases b <;> rfl) (fun u => ?_) ?_ (by cases b <;> rfl)
   ·exact (((setCont_setCont S.noR b _ _ u) _).1 rfl)
   ·cases b with
    | loc u => rfl
    | obj u => show S.mm.set u _ = (S.mm.set u _).set u _; rw [List.set_set]
  exact ⟨g', v, hr, h14.setT ht h8, h9⟩
 ·refine ran_refQ h ht hr ⟨repO_repP h4 (by cases b <;> trivial), fun s hs => ?_⟩ fun s hs => ?_
  ·simp only [Option.some.injEq] at hs
   subst hs
   refine ⟨?_, hcell⟩
   simp only [St.at_, hb]
   exact hc
  ·simp only [RV.src, Option.some.injEq] at hs
   subst hs
   rfl
theorem Rel.keepC' {X : Nat → Key → Prop} {e' : Option Nat} (h : Rel d nt e S g a w) (hk : Keep X g w g' w') (hno : NoOk e' S.mm.length g'.no)
  (hX : ∀ b κ, g.own b = some κ → X b κ → (S.mm = [] ∨ κ ≠ .obj) ∧ (∀ t cs, lk S.lc t = some cs → κ ≠ .loc d t) ∧ Free d S g κ) (hr : S.rt = []) (hw : WF g' w') : Rel d nt e' S g' a w' := by
 refine ⟨h.sz, fun t p hp => ?_, fun t cs ht => ?_, fun i cs hi => ?_, hno, fun t r hr' => by rw [hr] at hr'; simp [lk] at hr', hw, h.df, fun i p hi => ?_⟩
 ·obtain ⟨h1, h2⟩ := h.tm t p hp
  exact ⟨h1, h2.keep hk fun i hi b hb hx => by have := (hX _ _ hb hx).2.2.tm t p i rfl hp; simp [this] at hi⟩
 ·obtain ⟨h1, C, E, h2, h3⟩ := h.lc t cs ht
  have h4 := hk.own _ _ h1 fun hx => (hX _ _ h1 hx).2.1 t cs ht rfl
  rw [hk.lb]
  exact ⟨h4.1, C, E, h4.2.trans h2, h3.keep hk fun j c hj hi b hb hx => by have := (hX _ _ hb hx).2.2.lc t cs j c rfl ht hj; simp [this] at hi⟩
 ·obtain ⟨h0, h1, C, E, h2, h3⟩ := h.mm i cs hi
  have h4 := hk.own _ _ h1 fun hx => by
   rcases (hX _ _ h1 hx).1 with h5 | h5
   ·rw [h5] at hi; simp at hi
   ·exact h5 rfl
  rw [hk.gr.oa i h0]
  exact ⟨Nat.lt_of_lt_of_le h0 hk.gr.no, h4.1, C, E, h4.2.trans h2, h3.keep hk fun j c hj hi' b hb hx => by have := (hX _ _ hb hx).2.2.mm i cs j c rfl hi hj; simp [this] at hi'⟩
 ·obtain ⟨v, h1, h2⟩ := h.vl i p hi
  exact ⟨v, by rw [hk.gr.va]; exact h1, h2.keep hk fun ho b hb hx => by have := (hX _ _ hb hx).2.2.vl i p rfl hi; simp [this] at ho⟩
theorem Rel.freezeCells {m : Nat} (h : Rel d nt e S g a w) (hrt : S.rt = []) (cs : List PV) (us : Nat → Value) (κ : Nat → Key) (hm : ∀ j, Mine d m g w (κ j)) (hf : ∀ j, j < cs.length → Free d S g (κ j)) (hi : ∀ i j, κ i = κ j → i = j)
  (hok : cs.all PV.okf = true) (hr : ∀ j c, cs[j]? = some c → RepC g w (κ j) c (us j)) :
  ∃ g', Rel d nt e S g' a w ∧ Ext d m g w g' w ∧ g'.oa = g.oa ∧ g'.no = g.no ∧ g'.lb = g.lb ∧ (∀ j c, cs[j]? = some c → RepF g' c.fz (us j)) ∧ OF g g' ∧ Keep (fun _ k => ∃ j, k = κ j) g w g' w := by
 have key : ∀ n, n ≤ cs.length → ∃ g', Rel d nt e S g' a w ∧ Ext d m g w g' w ∧ g'.oa = g.oa ∧ g'.no = g.no ∧ g'.lb = g.lb ∧ (∀ j c, cs[j]? = some c → j < n → RepF g' c.fz (us j)) ∧ (∀ j c, cs[j]? = some c → n ≤ j → RepC g' w (κ j) c (us j)) ∧ OF g g' ∧ Keep (fun _ k => ∃ j, k = κ j) g w g' w := by
  intro n
  induction n with
  | zero => exact fun _ => ⟨g, h, .refl _ _ _ _, rfl, rfl, rfl, fun _ _ _ hj => by omega, fun j c hj _ => hr j c hj, .refl g, ⟨.refl g, rfl, fun _ _ hb _ => ⟨hb, rfl⟩⟩⟩
  | succ n ih =>
   intro hn
   obtain ⟨g1, h1, h2, h3, h4, h5, h6, h7, h0, hkp⟩ := ih (by omega)
   have hc : cs[n]? = some cs[n] := List.getElem?_eq_getElem (by omega)
   have hcn := h7 n _ hc (Nat.le_refl n)
   have hokn : cs[n].okf = true := by rw [List.all_eq_true] at hok; exact hok _ (List.getElem_mem _)
   cases hol : isOl cs[n] with
   | false =>
    have hpl : cs[n].plain = true := by
     have hls : isLs cs[n] = false := by
      generalize cs[n] = c at hol
      cases c <;> first | rfl | simp [isOl] at hol
     simpa [PV.okf, hls] using hokn
    refine ⟨g1, h1, h2, h3, h4, h5, fun j c hj hjn => ?_, fun j c hj hjn => h7 j c hj (by omega), h0, hkp⟩
    by_cases hjn' : j = n
    ·subst hjn'
     rw [hc] at hj
     simp only [Option.some.injEq] at hj
     subst hj
     have : (cs[j]).fz = cs[j] := by generalize cs[j] = c at hol; cases c <;> first | rfl | simp [isOl, isLs] at hol
     rw [this]
     exact (plain_key hpl).1 hcn
    ·exact h6 j c hj (by omega)
   | true =>
    cases hcc : cs[n] with
    | ol T xs =>
     rw [hcc] at hcn hc
     obtain ⟨g2, h8, h9, h10, h11, h12, h13, h14, h15⟩ := h1.freeze (m := m) (show RepO g1 w (κ n) T xs (us n) from hcn) (mine_g h3 (hm n)) (free_g h3 (hf n (by omega))) hrt
     refine ⟨g2, h8, h2.trans' h10 h3 h4, h11.trans h3, h12.trans h4, h13.trans h5, fun j c hj hjn => ?_, fun j c hj hjn => ?_, h0.trans h15 h14.gr, ⟨hkp.gr.trans h14.gr, h14.lb.trans hkp.lb, fun b k hb hx => ?_⟩⟩
     ·by_cases hjn' : j = n
      ·subst hjn'
       rw [hc] at hj
       simp only [Option.some.injEq] at hj
       subst hj
       exact h9
      ·exact (h6 j c hj (by omega)).mono h14.gr
     ·exact (h7 j c hj (by omega)).keep h14 fun _ b _ hx => by have := hi _ _ hx; omega
     ·obtain ⟨h16, h17⟩ := hkp.own b k hb hx
      obtain ⟨h18, h19⟩ := h14.own b k h16 fun hh => hx ⟨n, hh⟩
      exact ⟨h18, h19.trans h17⟩
    | mp U es => rw [hcc] at hokn; simp [PV.okf, PV.plain, isLs] at hokn
    | _ => rw [hcc] at hol; simp [isOl, isLs] at hol
 obtain ⟨g', h1, h2, h3, h4, h5, h6, _, h7, h8⟩ := key cs.length (Nat.le_refl _)
 exact ⟨g', h1, h2, h3, h4, h5, fun j c hj => h6 j c hj (List.getElem?_eq_some_iff.1 hj).1, h7, h8⟩
theorem fz_plain {c : PV} (hc : c.okf = true) : c.fz.plain = true := by cases c <;> first | rfl | simpa [PV.okf, PV.fz, isOl, isLs] using hc
theorem isAgg_false {T : Tab} (hT : TabOk P T) {ty : Nat} (h : (isAggK (T.K ty) || isUnk (T.K ty)) = false) : (isAgg ty).run P w = .ok false w := by
 simp only [Bool.or_eq_false_iff] at h
 cases hK : T.K ty with
 | int k => simp [isAgg, sem_underlying (hT.int _ _ hK)]
 | bool => simp [isAgg, sem_underlying (hT.bool _ hK)]
 | str => simp [isAgg, sem_underlying (hT.str _ hK)]
 | slice el => simp [isAgg, sem_underlying (hT.slice _ _ hK).1]
 | ptr el => simp [isAgg, sem_underlying (hT.ptr _ _ hK)]
 | iface => obtain ⟨ms, hms⟩ := hT.iface _ hK; simp [isAgg, sem_underlying hms]
 | map el => obtain ⟨k, v, i, hms, _⟩ := hT.map _ _ hK; simp [isAgg, sem_underlying hms]
 | mapP el => obtain ⟨k, v, i, hms, _⟩ := hT.mapP _ _ hK; simp [isAgg, sem_underlying hms]
 | struct => simp [hK, isAggK] at h
 | other =>
  obtain ⟨td, h1, h2⟩ := hT.other _ hK
  unfold isAgg
  rw [Sem.run_bind, sem_underlying h1]
  cases td <;> first | exact h2.elim | rfl
 | unk => simp [hK, isUnk] at h
theorem opr_tmp {x : Operand} {r : RV} (h : S.opr x = some r) : ∃ t, x = .tmp t ∧ lk S.rt t = some r := by
 cases x with
 | tmp t =>
  refine ⟨t, rfl, ?_⟩
  simp only [St.opr] at h
  split at h
  ·simp at h
  ·exact h
 | _ => simp [St.opr] at h
theorem ckey_inj (d : Nat) (g : G) (b : Base) {i j : Nat} (h : ckey d g b i = ckey d g b j) : i = j := by cases b <;> simpa [ckey] using h
theorem ckey_tm (d : Nat) (g : G) (b : Base) (i t j k : Nat) : ckey d g b i ≠ .tm d t j := by cases b <;> simp [ckey]
theorem lk_keepVs {l : List (Nat × RV)} {t : Nat} {r : RV} (h : lk (keepVs l) t = some r) : ∃ q, lk l t = some q ∧ r = keepVr q := by
 induction l with
 | nil => simp [keepVs, lk] at h
 | cons x l ih =>
  obtain ⟨u, q⟩ := x
  simp only [keepVs] at h
  rw [lk_cons] at h ⊢
  split at h
  ·rename_i hu; rw [if_pos hu]; exact ⟨q, rfl, (Option.some.inj h).symm⟩
  ·rename_i hu; rw [if_neg hu]; exact ih h
theorem Rel.keepV (h : Rel d nt e S g a w) {S' : St} (h' : Rel d nt e S' g' a w') (ht : S'.tm = S.tm) : Rel d nt e { S' with rt := keepVs S.rt } g' a w' := by
 refine ⟨h'.sz, h'.tm, h'.lc, h'.mm, h'.no, fun t r hr => ?_, h'.wf, h'.df, h'.vl⟩
 obtain ⟨q, h1, rfl⟩ := lk_keepVs hr
 obtain ⟨h2, h3⟩ := h.rt t q h1
 refine ⟨h2, ?_⟩
 have hat : ∀ u, St.at_ { S' with rt := keepVs S.rt } (.var u) = S.at_ (.var u) := fun u => by simp only [St.at_, ht]
 unfold keepVr
 split
 ·rename_i T xs u
  obtain ⟨_, h4⟩ := h3
  obtain ⟨h5, h6⟩ := h4 _ rfl
  have h7 : lk S'.tm u = some (.ol T xs) := by rw [ht]; exact h5
  refine ⟨?_, fun s hs => by simp only [Option.some.injEq] at hs; subst hs; exact ⟨(hat u).trans h5, h6⟩⟩
  have h8 := (h'.tm u _ h7).2
  have h9 : a.tmps.getD u undef = a.tmps.getD t undef := by
   simp only [hdr] at h6
   rw [Array.getD_eq_getD_getElem? (i := u), h6]; rfl
  rw [h9] at h8
  exact repO_repP h8 trivial
 ·rename_i u T i o
  obtain ⟨xs, b, len, cap, h4, h5⟩ := h3
  exact ⟨xs, b, len, cap, (hat u).trans h4, h5⟩
 ·trivial
theorem loadSt_ran {F : Fx} (hT : TabOk P F.T) {t ty off : Nat} {b : Base} {cs : List PV} {x : Operand} {S' : St} (ht : t < nt) (h : Rel d nt e S g a w)
  (hb : S.cont b = some cs) (hx : S.opv x = some (.ad b off)) (ho : opLoadSt F t ty b cs off S = some S') {op : Oper} (hop : op.op = .load ty x) :
  RanQ d nt e S.mm.length S' g a w t ((execOp a.eval op).run P w) := by
 obtain ⟨hk, C, E, h1, h2⟩ := h.cont hb
 unfold opLoadSt at ho
 cases hg : (Nat.beq (part cs off (F.T.cz ty)).length (F.T.cz ty) && (part cs off (F.T.cz ty)).all PV.okc && isAggK (F.T.K ty) && Nat.blt 0 (F.T.cz ty)) with
 | false => simp only [hg, cond_false, reduceCtorEq] at ho
 | true =>
  simp only [hg, cond_true] at ho
  simp only [Bool.and_eq_true] at hg
  obtain ⟨⟨⟨h3, h4⟩, h5⟩, h6⟩ := hg
  have hl := Nat.eq_of_beq_eq_true h3
  have hz : 0 < F.T.cz ty := by
   have : 1 ≤ F.T.cz ty := by simpa [Nat.blt, Nat.ble_eq] using h6
   omega
  generalize hp : part cs off (F.T.cz ty) = p at ho hl h4
  have hle : off + p.length ≤ cs.length := by
   have : p.length = min (F.T.cz ty) (cs.length - off) := by rw [← hp]; simp [part]
   omega
  cases hK : F.T.K ty <;> simp [hK, isAggK] at h5
  obtain ⟨fs, hfs⟩ := hT.struct ty hK
  obtain ⟨i, h7, h8⟩ := hT.cz ty hz
  have hagg : (isAgg ty).run P w = .ok true w := by simp [isAgg, sem_underlying hfs]
  -- the values
  obtain ⟨vs, hv1, hv2⟩ : ∃ vs : List Value, vs.length = p.length ∧ ∀ j, j < p.length → ∃ u, vs[j]? = some u ∧ C[off + j]? = some u := by
   refine ⟨(List.range p.length).map fun j => (C[off + j]?).getD undef, by simp, fun j hj => ?_⟩
   have hlt : off + j < C.size := by rw [h2.1]; omega
   exact ⟨C[off + j], by simp [hj, Array.getElem?_eq_getElem hlt], Array.getElem?_eq_getElem hlt⟩
  have hload := run_loadCells_list (P := P) w ⟨g.addr b, off, none⟩ vs (fun j v hj => by
   have hj' := (List.getElem?_eq_some_iff.1 hj).1
   obtain ⟨u, h9, h10⟩ := hv2 j (by omega)
   rw [hj] at h9
   simp only [Option.some.injEq] at h9
   rw [cell_at h1, h10, h9])
  have hr : (execOp a.eval op).run P w = .ok (.value (.agg vs.toArray)) w := by
   simp [execOp, hop, eval_ad h hx, Instr.loadAt, Instr.sureAddr, loadVar, hagg, sizeOf, typeInfo, h7, h8, ← hl, ← hv1, hload]
  -- the cells are gone
  have hcont : S.noR.cont b = some cs := by cases b <;> exact hb
  have hlg : off + (List.replicate p.length PV.gone).length ≤ cs.length := by simpa using hle
  have hget : ∀ j, (splice cs off (List.replicate p.length PV.gone))[j]? = if off ≤ j ∧ j < off + p.length then some .gone else cs[j]? := by
   intro j
   rw [splice_get hlg]
   simp only [List.length_replicate]
   split
   ·rw [List.getElem?_replicate, if_pos (by omega)]
   ·rfl
  have h9 : Rel d nt e (S.noR.setCont b (splice cs off (List.replicate p.length .gone))) g a w := by
   refine (h.noR.store hcont rfl (fun _ _ => rfl) rfl h1 ⟨by rw [splice_len hlg]; exact h2.1, fun j c hj => ?_⟩).1
   rw [hget] at hj
   split at hj
   ·simp only [Option.some.injEq] at hj
    subst hj
    have hlt : j < C.size := by rw [h2.1]; omega
    exact ⟨C[j], Array.getElem?_eq_getElem hlt, trivial⟩
   ·exact h2.2 j c hj
  have hcont' := setCont_cont S.noR (cs' := splice cs off (List.replicate p.length .gone)) hcont
  have hmm : (S.noR.setCont b (splice cs off (List.replicate p.length .gone))).mm.length = S.mm.length := by rw [setCont_len]; rfl
  have hm : ∀ j, Mine d S.mm.length g w (ckey d g b j) := fun j => by have := ckey_mine h9 hcont' j; rw [hmm] at this; exact this
  have hpget : ∀ j c, p[j]? = some c → cs[off + j]? = some c := fun j c hj => by rw [← hp] at hj; exact (part_get hj).1
  split at ho
  ·obtain ⟨g', h10, h11, h12, h13, h14, h15, _⟩ := h9.moveCells (m := S.mm.length) p (fun j => (vs[j]?).getD undef) (fun j => ckey d g b (off + j)) (fun j => .tm d t j) (fun j => hm _) (fun _ => mine_tm)
    (fun j hj => free_cell h9 hcont' fun c hc => by rw [hget, if_pos (by omega)] at hc; simp only [Option.some.injEq] at hc; subst hc; rfl)
    (fun i j hij => by have := ckey_inj d g b hij; omega) (fun i j => ckey_tm d g b _ t j 0) (fun j c hj => by
     obtain ⟨u, h16, h17⟩ := h2.2 _ c (hpget j c hj)
     have hj' := (List.getElem?_eq_some_iff.1 hj).1
     obtain ⟨u', h18, h19⟩ := hv2 j hj'
     rw [h16] at h19
     simp only [Option.some.injEq] at h19
     subst h19
     simp only [h18, Option.getD_some]
     exact h17)
   simp only [Option.some.injEq] at ho
   subst ho
   have h16 : (S.setCont b (splice cs off (List.replicate p.length .gone))).keepV = { (S.noR.setCont b (splice cs off (List.replicate p.length .gone))) with rt := keepVs S.rt } := by cases b <;> rfl
   rw [h16]
   have h10 := h.keepV h10 (by cases b <;> rfl)
   refine ⟨g', _, hr, h10.setT ht ⟨vs.toArray, rfl, by simpa using hv1, fun j c hj => ?_⟩, h11⟩
   have hj' := (List.getElem?_eq_some_iff.1 hj).1
   obtain ⟨u', h18, _⟩ := hv2 j hj'
   have := h15 j c hj
   simp only [h18, Option.getD_some] at this
   exact ⟨u', by simpa using h18, this⟩
  ·cases hokf : p.all PV.okf with
   | false => simp [hokf] at ho
   | true =>
   simp only [hokf, cond_true] at ho
   obtain ⟨g', h10, h11, h12, h13, h14, h15, _⟩ := h9.freezeCells (m := S.mm.length) (by cases b <;> rfl) p (fun j => (vs[j]?).getD undef) (fun j => ckey d g b (off + j)) (fun j => hm _)
    (fun j hj => free_cell h9 hcont' fun c hc => by rw [hget, if_pos (by omega)] at hc; simp only [Option.some.injEq] at hc; subst hc; rfl)
    (fun i j hij => by have := ckey_inj d g b hij; omega) hokf (fun j c hj => by
     obtain ⟨u, h16, h17⟩ := h2.2 _ c (hpget j c hj)
     have hj' := (List.getElem?_eq_some_iff.1 hj).1
     obtain ⟨u', h18, h19⟩ := hv2 j hj'
     rw [h16] at h19
     simp only [Option.some.injEq] at h19
     subst h19
     simp only [h18, Option.getD_some]
     exact h17)
   simp only [Option.some.injEq] at ho
   subst ho
   have h16 : (S.setCont b (splice cs off (List.replicate p.length .gone))).keepV = { (S.noR.setCont b (splice cs off (List.replicate p.length .gone))) with rt := keepVs S.rt } := by cases b <;> rfl
   rw [h16]
   have h10 := h.keepV h10 (by cases b <;> rfl)
   refine ⟨g', _, hr, h10.setT ht ⟨vs.toArray, rfl, by simpa using hv1, fun j c hj => ?_⟩, h11⟩
   simp only [List.getElem?_map, Option.map_eq_some_iff] at hj
   obtain ⟨c', hj, rfl⟩ := hj
   have hj' := (List.getElem?_eq_some_iff.1 hj).1
   obtain ⟨u', h18, _⟩ := hv2 j hj'
   have := h15 j c' hj
   simp only [h18, Option.getD_some] at this
   exact ⟨u', by simpa using h18, (plain_key (fz_plain (by rw [List.all_eq_true] at hokf; exact hokf _ (List.mem_of_getElem? hj)))).2 this⟩
  ·simp at ho
theorem load_ran {F : Fx} (hT : TabOk P F.T) {t ty : Nat} {x : Operand} {S' : St} (ht : t < nt) (h : Rel d nt e S g a w) (ho : opLoad F t ty x S = some S') {op : Oper} (hop : op.op = .load ty x) :
  RanQ d nt e S.mm.length S' g a w t ((execOp a.eval op).run P w) := by
 unfold opLoad at ho
 split at ho
 ·-- an element of an owned list
  rename_i s U i off hx
  obtain ⟨u, rfl, hu⟩ := opr_tmp hx
  split at ho
  ·rename_i V xs hs
   cases hUV : Nat.beq U V with
   | false => simp [hUV] at ho
   | true =>
    simp only [hUV, cond_true] at ho
    have := Nat.eq_of_beq_eq_true hUV
    subst this
    obtain ⟨_, xs', b, len, cap, h1, h2, h3, h4⟩ := h.rt u _ hu
    rw [hs] at h1
    simp only [Option.some.injEq, PV.ol.injEq, heq_eq_eq, true_and] at h1
    subst h1
    obtain ⟨κ, h5, h6⟩ := src_rep h hs h2
    obtain ⟨C, h7, _, h8, h9, h10, h11⟩ := repO_row h5
    have hget : xs[i]? = some (xs.getD i (dflt U)) := by rw [List.getD_eq_getElem?_getD, List.getElem?_eq_getElem h3]; rfl
    refine loadCs_ran hT ht h h7 (o := i * sz U) (off := off) (fun _ => cells_part (h11 i _ hget)) (show a.eval (.tmp u) = _ from h4) ho hop
  ·simp at ho
 ·simp at ho
 ·split at ho
  ·rename_i U y off hx
   obtain ⟨bk, o, C, h1, h2, h3⟩ := eval_fa h hx
   obtain ⟨_, h4⟩ := h.wf.fz _ _ h2
   exact loadCs_ran hT ht h h4 (o := o) (off := off) (fun _ => cells_part h3) h1 ho hop
  ·rename_i b off hx
   split at ho
   ·rename_i cs hb
    obtain ⟨_, C, E, h1, h2⟩ := h.cont hb
    split at ho
    ·rename_i U xs hagg hp
     have hc : cs[off]? = some (.ol U xs) := by
      have : (part cs off (F.T.cz ty))[0]? = some (.ol U xs) := by rw [hp]; rfl
      simpa using (part_get this).1
     exact loadOl_ran ht h hb hc hx (isAgg_false hT hagg) ho hop
    ·rename_i U es hagg hp
     have hc : cs[off]? = some (.mp U es) := by
      have : (part cs off (F.T.cz ty))[0]? = some (.mp U es) := by rw [hp]; rfl
      simpa using (part_get this).1
     obtain ⟨v, h3, _⟩ := h2.2 off _ hc
     have hcell : w.cell? ⟨g.addr b, off, none⟩ = some v := by rw [cell_of_row w _ off C E (0, 0) h1]; exact h3
     have hagg := isAgg_false hT hagg (w := w)
     have hr : (execOp a.eval op).run P w = .ok (.value v) w := by
      simp [execOp, hop, eval_ad h hx, Instr.loadAt, Instr.sureAddr, loadVar, hagg, hcell]
     unfold opLoadMp at ho
     split at ho
     ·simp only [Option.some.injEq] at ho
      subst ho
      refine ran_refQ h ht hr ⟨U, es, ?_, hcell⟩ fun s hs => ?_
      ·simp only [St.at_, hb]; exact hc
      ·simp only [RV.src, Option.some.injEq] at hs
       subst hs
       rfl
     ·simp at ho
    ·cases hpl : (part cs off (F.T.cz ty)).all PV.plain with
     | true =>
      simp only [hpl, cond_true] at ho
      refine loadCs_ran hT ht h h1 (o := 0) (off := off) (fun hpl => ?_) ?_ ho hop
      ·rw [Nat.zero_add]; exact repK_part h2 hpl
      ·rw [Nat.zero_add]; exact eval_ad h hx
     | false =>
      simp only [hpl, cond_false] at ho
      exact loadSt_ran hT ht h hb hx ho hop
   ·simp at ho
  ·simp at ho
end
end
section
section
variable [Enc] {d nt : Nat} {e : Option Nat} {S : St} {g g' : G} {a : Act} {w w' : World} {P : Program}
theorem addr_add (b o n : Nat) : (⟨b, o, none⟩ : Addr).add n = ⟨b, o + n, none⟩ := by unfold Addr.add; split <;> simp_all
theorem fieldAt_run {T : Tab} (hT : TabOk P T) {ty f o n b off : Nat} (h : T.off ty f = some (o, n)) : (Instr.fieldAt ty (.pointer (some ⟨b, off, none⟩)) f).run P w = .ok (.pointer (some ⟨b, off + o, none⟩)) w := by
 obtain ⟨fs, fd, i, h1, h2, h3, h4, h5, h6⟩ := hT.off _ _ _ _ h
 have hn : ¬ n = 0 := by omega
 unfold Instr.fieldAt
 rw [Sem.run_bind, sem_underlying h1]
 simp only [Result.andThen_ok, h2, Instr.sureAddr, pure_bind]
 rw [Sem.run_bind]
 simp only [fieldPlace, sizeOf, typeInfo, Sem.run_bind, run_program, Result.andThen_ok, h4, Sem.run_pure, h5, Sem.run_ite, if_neg hn, addr_add, h3]
theorem fieldAddr_ran {F : Fx} (hT : TabOk P F.T) {t m ty f : Nat} {x : Operand} {S' : St} (ht : t < nt) (h : Rel d nt e S g a w) (ho : opFieldAddr F t ty x f S = some S') {o : Oper} (hop : o.op = .fieldAddr ty x f) :
  RanQ d nt e m S' g a w t ((execOp a.eval o).run P w) := by
 unfold opFieldAddr at ho
 split at ho
 ·simp at ho
 ·rename_i of n hoff
  have hr : ∀ b off, a.eval x = .pointer (some ⟨b, off, none⟩) → (execOp a.eval o).run P w = .ok (.value (.pointer (some ⟨b, off + of, none⟩))) w := by
   intro b off hx
   simp [execOp, hop, hx, fieldAt_run hT hoff]
  split at ho
  ·rename_i s U i off hx
   cases hs : s.isVar t with
   | true => simp [hs] at ho
   | false =>
    simp only [hs, cond_false, Option.some.injEq] at ho
    subst ho
    obtain ⟨u, rfl, hu⟩ := opr_tmp hx
    obtain ⟨_, xs', b, len, cap, h1, h2, h3, h4⟩ := h.rt u _ hu
    refine ran_refQ h ht (hr _ _ h4) ⟨xs', b, len, cap, h1, h2, h3, by rw [Nat.add_assoc]⟩ fun s' hs' => ?_
    simp only [RV.src, Option.some.injEq] at hs'
    subst hs'; exact hs
  ·simp at ho
  ·split at ho
   ·rename_i b off hx
    simp only [Option.some.injEq] at ho
    subst ho
    have h1 := eval_ad h hx
    refine ran_valQ h ht (hr _ _ h1) ?_
    have h2 := opv_dup h hx rfl (Key.tm d t)
    cases b with
    | loc u => rfl
    | obj i => rw [h1] at h2; cases h2; rename_i hi; exact .ad i _ hi
   ·rename_i U y off hx
    simp only [Option.some.injEq] at ho
    subst ho
    obtain ⟨bk, o', C, h1, h2, h3⟩ := eval_fa h hx
    refine ran_valQ h ht (hr _ _ h1) ?_
    show RepF g (.fa U y (off + of)) _
    rw [Nat.add_assoc]
    exact RepF.fa' h2 h3
   ·simp at ho
theorem elem_eq {t el : Nat} (h : P.underlying t = some (.slice el)) : P.elem t = el := by simp [Program.elem, h]
theorem indexAt_run {T : Tab} (hT : TabOk P T) {ty el b off len cap : Nat} {k : IntKind} {n : Int} (h : T.K ty = .slice el) (h0 : 0 ≤ n) (h1 : n < len) :
  (Instr.indexAt ty (.slice (some ⟨b, off, none⟩) len cap) (.int k n)).run P w = .ok (.pointer (some ⟨b, off + n.toNat * sz el, none⟩)) w := by
 obtain ⟨h2, h3, h4, i, z, h5, h6, _⟩ := hT.slice _ _ h
 have h7 := elem_eq h2
 rw [run_indexAt_slice w ty _ len cap k n (by rw [h7]; exact h2), if_pos ⟨h0, h1⟩, h7]
 simp [sizeOf, typeInfo, h5, h6, addr_add]
theorem repF_fl {T : Nat} {xs : List (Dn T)} {v : Value} (h : RepF g (.fl T xs) v) : (xs = [] ∧ v = .slice none 0 0) ∨
  ∃ A off cap C, v = .slice (some A) xs.length cap ∧ (xs ≠ [] → A = ⟨A.block, off, none⟩ ∧ g.fz A.block = some C) ∧ xs.length ≤ cap ∧ ∀ i x, xs[i]? = some x → CellsAt g C (off + i * sz T) (cells T x) := by
 cases h with
 | fl0 => exact .inl ⟨rfl, rfl⟩
 | fl _ _ A off cap C V hf hc hv hr => exact .inr ⟨A, off, cap, C, rfl, hf, hc, fun i x hi j c hj => ⟨V i j, hv i x hi j c hj, hr i x hi j c hj⟩⟩
theorem eval_fl (h : Rel d nt e S g a w) {x : Operand} {T : Nat} {xs : List (Dn T)} (hx : S.opv x = some (.fl T xs)) : RepF g (.fl T xs) (a.eval x) := opv_dup h hx rfl (fun _ => .obj)
theorem eval_vo (h : Rel d nt e S g a w) {x : Operand} {k : Nat} (hx : S.opv x = some (.vo k)) : g.va k = some (a.eval x) := by
 have h1 : RepF g (.vo k) (a.eval x) := opv_dup h hx rfl (fun _ => .obj)
 generalize a.eval x = v at h1
 cases h1 with
 | vo _ _ _ _ h2 => exact h2
theorem inB_lt {n : Int} {m : Nat} (h : inB n m = true) : 0 ≤ n ∧ n < m := by simpa [inB] using h
theorem repF_fo {T : Nat} {o : Option (List (Dn T))} {v : Value} (h : RepF g (.fo T o) v) : RepF g (.fl T (o.getD [])) v := by
 cases h with
 | foN => exact .fl0 T
 | foS _ xs _ h => exact h
theorem fol_fl (h : Rel d nt e S g a w) {x : Operand} {T : Nat} {xs : List (Dn T)} (hx : (S.opv x).map PV.fol = some (.fl T xs)) : RepF g (.fl T xs) (a.eval x) := by
 obtain ⟨p, hp, hq⟩ := Option.map_eq_some_iff.1 hx
 cases p with
 | fo U o =>
  simp only [PV.fol] at hq
  rw [← hq]
  exact repF_fo (opv_dup h hp rfl (fun _ => .obj))
 | _ => simp only [PV.fol] at hq; first | (cases hq; done) | (rw [hq] at hp; exact eval_fl h hp)
theorem fol_ol {x : Option PV} {T : Nat} {xs : List (Dn T)} (hx : x.map PV.fol = some (.ol T xs)) : x = some (.ol T xs) := by
 obtain ⟨p, rfl, hq⟩ := Option.map_eq_some_iff.1 hx
 cases p <;> simp only [PV.fol] at hq <;> first | (cases hq; done) | rw [hq]
theorem fol_vo {x : Option PV} {k : Nat} (hx : x.map PV.fol = some (.vo k)) : x = some (.vo k) := by
 obtain ⟨p, rfl, hq⟩ := Option.map_eq_some_iff.1 hx
 cases p <;> simp only [PV.fol] at hq <;> first | (cases hq; done) | rw [hq]
theorem indexAddr_ran {F : Fx} (hT : TabOk P F.T) {t m ty : Nat} {x i : Operand} {S' : St} (ht : t < nt) (h : Rel d nt e S g a w) (ho : opIndexAddr F t ty x i S = some (true, S')) {o : Oper} (hop : o.op = .indexAddr ty x i) :
  RanQ d nt e m S' g a w t ((execOp a.eval o).run P w) := by
 unfold opIndexAddr at ho
 split at ho
 ·rename_i el n hK hi
  obtain ⟨k, hk⟩ := int?_eval h hi
  have hr : ∀ b off len cap, a.eval x = .slice (some ⟨b, off, none⟩) len cap → 0 ≤ n → n < len → (execOp a.eval o).run P w = .ok (.value (.pointer (some ⟨b, off + n.toNat * sz el, none⟩))) w := by
   intro b off len cap hx h0 h1
   simp [execOp, hop, hx, hk, indexAt_run hT hK h0 h1]
  split at ho
  ·rename_i U xs s hx
   cases hg : (Nat.beq U el && !s.isVar t) with
   | false => simp [hg] at ho
   | true =>
    simp only [hg, cond_true, Option.some.injEq, Prod.mk.injEq] at ho
    simp only [Bool.and_eq_true, Bool.not_eq_true'] at hg
    obtain ⟨hU, hs⟩ := hg
    have := Nat.eq_of_beq_eq_true hU
    subst this
    obtain ⟨h1, rfl⟩ := ho
    obtain ⟨h2, h3⟩ := inB_lt h1
    obtain ⟨u, rfl, hu⟩ := opr_tmp hx
    obtain ⟨_, h4, h5⟩ := h.rt u _ hu
    obtain ⟨h6, h7⟩ := h5 s rfl
    obtain ⟨κ, h8, h9⟩ := src_rep h h6 h7
    obtain ⟨vs, h10, h11⟩ := h8
    rcases h10.2 with ⟨h12, h13⟩ | ⟨b, cap, cur, h12, _⟩
    ·omega
    ·refine ran_refQ h ht (hr b 0 _ cap h12 h2 h3) ⟨xs, b, _, cap, h6, by rw [h7, h12], by omega, by simp⟩ fun s' hs' => ?_
     simp only [RV.src, Option.some.injEq] at hs'
     subst hs'; exact hs
  ·simp at ho
  ·split at ho
   ·rename_i U xs hx
    cases hU : Nat.beq U el with
    | false => simp [hU] at ho
    | true =>
     simp only [hU, cond_true, Option.some.injEq, Prod.mk.injEq] at ho
     have := Nat.eq_of_beq_eq_true hU
     subst this
     obtain ⟨h1, rfl⟩ := ho
     obtain ⟨h2, h3⟩ := inB_lt h1
     rcases repF_fl (fol_fl h hx) with ⟨h4, _⟩ | ⟨A, off, cap, C, h4, h5, h6, h7⟩
     ·subst h4; simp at h3; omega
     ·obtain ⟨h8, h9⟩ := h5 (fun hh => by subst hh; simp at h3; omega)
      rw [h8] at h4
      refine ran_valQ h ht (hr _ _ _ _ h4 h2 h3) (RepF.fa' (off := 0) h9 (h7 n.toNat _ ?_))
      rw [List.getD_eq_getElem?_getD, List.getElem?_eq_getElem (by omega)]; rfl
   ·rename_i U xs hx
    replace hx := fol_ol hx
    split at ho
    ·rename_i u _
     cases hg : (Nat.beq U el && !Nat.beq u t) with
     | false => simp [hg] at ho
     | true =>
      simp only [hg, cond_true, Option.some.injEq, Prod.mk.injEq] at ho
      simp only [Bool.and_eq_true, Bool.not_eq_true'] at hg
      obtain ⟨hU, hs⟩ := hg
      have := Nat.eq_of_beq_eq_true hU
      subst this
      obtain ⟨h1, rfl⟩ := ho
      obtain ⟨h2, h3⟩ := inB_lt h1
      have hx : lk S.tm u = some (.ol U xs) := hx
      have hlt := (h.tm u _ hx).1
      have h7 : hdr g a w (.var u) = some (a.tmps.getD u undef) := by
       show a.tmps[u]? = _
       rw [Array.getD_eq_getD_getElem?, Array.getElem?_eq_getElem (by rw [h.sz]; exact hlt)]
       rfl
      have h6 : S.at_ (.var u) = some (.ol U xs) := hx
      obtain ⟨κ, h8, h9⟩ := src_rep h h6 h7
      obtain ⟨vs, h10, h11⟩ := h8
      rcases h10.2 with ⟨h12, h13⟩ | ⟨b, cap, cur, h12, _⟩
      ·omega
      ·refine ran_refQ h ht (hr b 0 _ cap h12 h2 h3) ⟨xs, b, _, cap, h6, by rw [h7, h12], by omega, by simp⟩ fun s' hs' => ?_
       simp only [RV.src, Option.some.injEq] at hs'
       subst hs'; exact hs
    ·simp at ho
   ·rename_i k hx
    replace hx := fol_vo hx
    split at ho
    ·rename_i U xs hk'
     cases hg : Nat.beq U el with
     | false => simp [hg] at ho
     | true =>
      simp only [hg, cond_true, Option.some.injEq, Prod.mk.injEq] at ho
      have := Nat.eq_of_beq_eq_true hg
      subst this
      obtain ⟨h1, rfl⟩ := ho
      obtain ⟨h2, h3⟩ := inB_lt h1
      have h7 : hdr g a w (.vo k) = some (a.eval x) := eval_vo h hx
      have h6 : S.at_ (.vo k) = some (.ol U xs) := hk'
      obtain ⟨κ, h8, h9⟩ := src_rep h h6 h7
      obtain ⟨vs, h10, h11⟩ := h8
      rcases h10.2 with ⟨h12, h13⟩ | ⟨b, cap, cur, h12, _⟩
      ·omega
      ·refine ran_refQ h ht (hr b 0 _ cap h12 h2 h3) ⟨xs, b, _, cap, h6, by rw [h7, h12], by omega, by simp⟩ fun s' hs' => ?_
       simp only [RV.src, Option.some.injEq] at hs'
       subst hs'; rfl
    ·simp at ho
   ·simp at ho
 ·simp at ho
theorem bounds_run (h : Rel d nt e S g a w) {lo hi : Option Operand} {l r : Int} {n cap : Nat} (isS : Bool) (hl : loOf S lo = some l) (hh : hiOf S n hi = some r) (hn : n ≤ cap) (hb : inS l r n = true) :
  (Instr.sliceBounds isS n cap (lo.map a.eval) (hi.map a.eval) none).run P w = .ok (l.toNat, r.toNat, cap) w := by
 simp only [inS, Bool.and_eq_true, decide_eq_true_eq] at hb
 obtain ⟨⟨h1, h2⟩, h3, h4⟩ := hb
 have hlo : lo = none ∧ l = 0 ∨ ∃ o k, lo = some o ∧ a.eval o = .int k l := by
  cases lo with
  | none => simp only [loOf, Option.some.injEq] at hl; exact .inl ⟨rfl, hl.symm⟩
  | some o => obtain ⟨k, hk⟩ := int?_eval h hl; exact .inr ⟨o, k, rfl, hk⟩
 have hhi : hi = none ∧ r = n ∨ ∃ o k, hi = some o ∧ a.eval o = .int k r := by
  cases hi with
  | none => simp only [hiOf, Option.some.injEq] at hh; exact .inl ⟨rfl, hh.symm⟩
  | some o => obtain ⟨k, hk⟩ := int?_eval h hh; exact .inr ⟨o, k, rfl, hk⟩
 have e1 : (r.toNat : Int) = r := Int.toNat_of_nonneg h1
 rcases hlo with ⟨rfl, rfl⟩ | ⟨ol, kl, rfl, h5⟩ <;> rcases hhi with ⟨rfl, rfl⟩ | ⟨oh, kh, rfl, h6⟩
 ·simp [Instr.sliceBounds]
 ·simp only [Instr.sliceBounds, Option.map_none, Option.map_some, h6, pure_bind, Sem.run_bind]
  rw [run_sliceBound w kh r cap _ h1 (by omega)]
  simp
 ·simp only [Instr.sliceBounds, Option.map_none, Option.map_some, h5, pure_bind, Sem.run_bind, Sem.run_pure, Result.andThen_ok]
  rw [run_sliceBound w kl l n _ h3 h4]
  simp
 ·simp only [Instr.sliceBounds, Option.map_none, Option.map_some, h5, h6, pure_bind, Sem.run_bind, Sem.run_pure, Result.andThen_ok]
  rw [run_sliceBound w kh r cap _ h1 (by omega)]
  simp only [Result.andThen_ok, Sem.run_bind, Sem.run_pure]
  rw [run_sliceBound w kl l r.toNat _ h3 (by omega)]
  simp
theorem sub_get {α : Type} (xs : List α) (l r : Int) (h3 : 0 ≤ l) (i : Nat) (x : α) (hi : (sub xs l r)[i]? = some x) : xs[l.toNat + i]? = some x := by
 simp only [sub, List.getElem?_drop, List.getElem?_take] at hi
 split at hi
 ·exact hi
 ·simp at hi
theorem sub_len {α : Type} (xs : List α) {l r : Int} (h : inS l r xs.length = true) : (sub xs l r).length = r.toNat - l.toNat := by
 simp only [inS, Bool.and_eq_true, decide_eq_true_eq] at h
 simp [sub]; omega
theorem slice_run {T : Tab} (hT : TabOk P T) (h : Rel d nt e S g a w) {ty el : Nat} (hK : T.K ty = .slice el) {lo hi : Option Operand} {l r : Int} {ao : Option Addr} {n cap : Nat} (hl : loOf S lo = some l) (hh : hiOf S n hi = some r) (hn : n ≤ cap) (hb : inS l r n = true) :
  (Instr.sliceAt ty (.slice ao n cap) (lo.map a.eval) (hi.map a.eval) none).run P w = .ok (.slice (if cap = l.toNat then ao else ao.map (·.add (l.toNat * sz el))) (r.toNat - l.toNat) (cap - l.toNat)) w := by
 obtain ⟨h2, h3, h4, i, z, h5, h6, _⟩ := hT.slice _ _ hK
 have h7 := elem_eq h2
 rw [run_sliceAt_slice w ty _ _ _ _ (by rw [h7]; exact h2), run_slice_any w ty ao n cap (by rw [h7]; exact h2), bounds_run h true hl hh hn hb, h7]
 simp [sizeOf, typeInfo, h5, h6, sliced]
theorem sliced_row {b off cap n l r : Nat} (hlr : l ≤ r) (hr : r ≤ n) (hn : n ≤ cap) (s : Nat) :
  ∃ off' , (Value.slice (if cap = l then some ⟨b, off, none⟩ else (some (⟨b, off, none⟩ : Addr)).map (·.add (l * s))) (r - l) (cap - l)) = .slice (some ⟨b, off', none⟩) (r - l) (cap - l) ∧ (l < r → off' = off + l * s) := by
 by_cases hc : cap = l
 ·exact ⟨off, by rw [if_pos hc], fun h => by omega⟩
 ·exact ⟨off + l * s, by rw [if_neg hc]; simp only [Option.map_some, addr_add], fun _ => rfl⟩
theorem sliceOl_ran {F : Fx} (hT : TabOk P F.T) {t m ty u U : Nat} {xs : List (Dn U)} {x : Operand} {hi : Option Operand} {r : Int} (ht : t < nt) (h : Rel d nt e S g a w) (hx : lk S.tm u = some (.ol U xs)) (hxe : a.eval x = a.eval (.tmp u))
  (hK : F.T.K ty = .slice U) (hh : hiOf S xs.length hi = some r) (hb : inS 0 r xs.length = true) {o : Oper} (hop : o.op = .slice ty x none hi none) :
  RanQ d nt e m ((S.setT u .gone).setT t (.ol U (xs.take r.toNat))) g a w t ((execOp a.eval o).run P w) := by
 have hex : ∀ v, (Instr.sliceAt ty (a.eval (.tmp u)) ((none : Option Operand).map a.eval) (hi.map a.eval) none).run P w = .ok v w → (execOp a.eval o).run P w = .ok (.value v) w := by
  intro v hv
  have hv : (Instr.sliceAt ty (a.eval (.tmp u)) none (hi.map a.eval) none).run P w = .ok v w := hv
  simp [execOp, hop, hxe, hv]
 have hb' := hb
 simp only [inS, Bool.and_eq_true, decide_eq_true_eq] at hb'
 obtain ⟨hu, hrep⟩ := h.tm u _ hx
 have hrep : RepO g w (Key.tm d u 0) U xs (a.tmps.getD u undef) := hrep
 -- the shorter list, at the same key
 have hrow := hrep
 obtain ⟨vs, h1, h2, h3⟩ := hrow
 have e0 : r.toNat ≤ xs.length := by omega
 have hshort : ∃ v', (execOp a.eval o).run P w = .ok (.value v') w ∧ RepO g w (Key.tm d u 0) U (xs.take r.toNat) v' := by
  rcases h1.2 with ⟨h4, h5⟩ | ⟨b, cap, cur, h4, h5, h6, h7, h8, h9, h10⟩
  ·have hx0 : xs = [] := List.eq_nil_of_length_eq_zero h5
   subst hx0
   have h11 := slice_run (P := P) (w := w) (lo := none) hT h hK (ao := none) (cap := 0) (l := 0) rfl hh (Nat.le_refl _) hb
   have e2 : r.toNat = 0 := by simp at hb'; omega
   refine ⟨_, hex _ (by rw [show a.eval (.tmp u) = _ from h4]; exact h11), ?_⟩
   rw [h4] at hrep
   simpa [e2] using hrep
  ·have h11 := slice_run (P := P) (w := w) (lo := none) hT h hK (ao := some ⟨b, 0, none⟩) (cap := cap) (l := 0) rfl hh h7 hb
   refine ⟨_, hex _ (by rw [show a.eval (.tmp u) = _ from h4]; exact h11), ?_⟩
   have e3 : (xs.take r.toNat).length = r.toNat := by simp; omega
   have e4 : (if cap = (0 : Int).toNat then some (⟨b, 0, none⟩ : Addr) else (some (⟨b, 0, none⟩ : Addr)).map (·.add ((0 : Int).toNat * sz U))) = some ⟨b, 0, none⟩ := by
    simp only [Int.toNat_zero, Nat.zero_mul, Option.map_some, addr_add, Nat.add_zero, ite_self]
   rw [e4]
   simp only [Int.toNat_zero, Nat.sub_zero]
   refine ⟨vs.take (r.toNat * sz U), ⟨by rw [e3, List.length_take, h1.1]; exact Nat.min_eq_left (Nat.mul_le_mul_right _ e0), .inr ⟨b, cap, cur, by rw [e3], h5, h6, by omega, h8, h9, ?_⟩⟩, fun b' hb'' => h2 b' (by rw [h4]; exact hb''), fun i x hi j c hj => ?_⟩
   ·rw [e3, ← h10, List.take_take, Nat.min_eq_left (Nat.mul_le_mul_right _ e0)]
   ·have hi2 : i < r.toNat ∧ xs[i]? = some x := by
     rw [List.getElem?_take] at hi
     split at hi
     ·exact ⟨by assumption, hi⟩
     ·simp at hi
    obtain ⟨y, h12, h13⟩ := h3 i x hi2.2 j c hj
    refine ⟨y, ?_, h13⟩
    have hj' : j < sz U := by have := (List.getElem?_eq_some_iff.1 hj).1; rw [hT.enc.len] at this; exact this
    have hlt : i * sz U + j < r.toNat * sz U := by
     have : (i + 1) * sz U ≤ r.toNat * sz U := Nat.mul_le_mul_right _ hi2.1
     rw [Nat.add_mul, Nat.one_mul] at this; omega
    simp only [List.getElem?_toArray] at h12 ⊢
    rw [List.getElem?_take, if_pos hlt]; exact h12
 obtain ⟨v', h14, h15⟩ := hshort
 obtain ⟨g', h16, h17, h18, _⟩ := (h.gone hu).move (m := m) (κ' := .tm d t 0) h15 mine_tm mine_tm free_gone
 exact ⟨g', v', h14, h16.setT ht h17, h18⟩
theorem slice_ran0 {F : Fx} (hT : TabOk P F.T) {t m ty : Nat} {x : Operand} {lo hi : Option Operand} {S' : St} (ht : t < nt) (h : Rel d nt e S g a w) (ho : opSlice0 F t ty x lo hi S = some (true, S')) {o : Oper} (hop : o.op = .slice ty x lo hi none) :
  RanQ d nt e m S' g a w t ((execOp a.eval o).run P w) := by
 have hex : ∀ v, (Instr.sliceAt ty (a.eval x) (lo.map a.eval) (hi.map a.eval) none).run P w = .ok v w → (execOp a.eval o).run P w = .ok (.value v) w := by
  intro v hv; simp [execOp, hop, hv]
 unfold opSlice0 at ho
 split at ho
 ·rename_i U xs src hx
  obtain ⟨u, rfl, hu⟩ := opr_tmp hx
  split at ho
  ·rename_i el l r hK hl hh
   cases hU : Nat.beq U el with
   | false => simp [hU] at ho
   | true =>
    simp only [hU, cond_true, Option.some.injEq, Prod.mk.injEq] at ho
    have := Nat.eq_of_beq_eq_true hU
    subst this
    obtain ⟨hb, rfl⟩ := ho
    obtain ⟨_, h4, _⟩ := h.rt u _ hu
    have hb' := hb
    simp only [inS, Bool.and_eq_true, decide_eq_true_eq] at hb'
    rcases h4 with ⟨rfl, h5⟩ | ⟨b, off, cap, C, E, h5, h6, h7, h8, h9⟩
    ·have h10 : a.eval (.tmp u) = .slice none 0 0 := h5
     have h11 := slice_run (P := P) (w := w) hT h hK (ao := none) (cap := 0) hl hh (Nat.le_refl _) hb
     have e1 : l.toNat = 0 := by simp at hb'; omega
     have e2 : r.toNat = 0 := by simp at hb'; omega
     refine ran_refQ h ht (hex _ (by rw [h10]; exact h11)) ⟨.inl ⟨by simp [sub], by simp [e1, e2]⟩, fun s hs => by simp at hs⟩ fun s hs => by simp [RV.src] at hs
    ·have h10 : a.eval (.tmp u) = .slice (some ⟨b, off, none⟩) xs.length cap := h5
     have h11 := slice_run (P := P) (w := w) hT h hK (ao := some ⟨b, off, none⟩) (cap := cap) hl hh h6 hb
     obtain ⟨off', h12, h13⟩ := sliced_row (b := b) (off := off) (cap := cap) (n := xs.length) (l := l.toNat) (r := r.toNat) (by omega) (by omega) h6 (sz U)
     refine ran_refQ h ht (hex _ (by rw [h10]; exact h11)) ⟨.inr ⟨b, off', cap - l.toNat, C, E, ?_, by rw [sub_len xs hb]; omega, h7, h8, fun i x hi => ?_⟩, fun s hs => by simp at hs⟩ fun s hs => by simp [RV.src] at hs
     ·rw [h12, sub_len xs hb]
     ·have hi' := (List.getElem?_eq_some_iff.1 hi).1
      rw [sub_len xs hb] at hi'
      rw [h13 (by omega)]
      have := h9 _ _ (sub_get xs l r hb'.2.1 i x hi)
      rw [Nat.add_mul, ← Nat.add_assoc] at this
      exact this
  ·simp at ho
 ·simp at ho
 ·split at ho
  ·rename_i b hx
   split at ho
   ·rename_i l r hK hl hh
    simp only [Option.some.injEq, Prod.mk.injEq] at ho
    obtain ⟨hb, rfl⟩ := ho
    refine ran_valQ h ht (v := .string (b.extract l.toNat r.toNat)) (hex _ ?_) (.s _)
    rw [run_sliceAt_string w ty _ _ _ _ (hT.str _ hK), eval_s h hx]
    simp only [Instr.slice, Sem.run_bind, sem_underlying (hT.str _ hK), Result.andThen_ok]
    have := bounds_run (P := P) (w := w) h (n := b.size) (cap := b.size) false hl hh (Nat.le_refl _) hb
    simp [this]
   ·simp at ho
  ·rename_i U xs hx
   split at ho
   ·rename_i el l r hK hl hh
    cases hU : Nat.beq U el with
    | false => simp [hU] at ho
    | true =>
     simp only [hU, cond_true, Option.some.injEq, Prod.mk.injEq] at ho
     have := Nat.eq_of_beq_eq_true hU
     subst this
     obtain ⟨hb, rfl⟩ := ho
     have hb' := hb
     simp only [inS, Bool.and_eq_true, decide_eq_true_eq] at hb'
     rcases repF_fl (eval_fl h hx) with ⟨rfl, h5⟩ | ⟨A, off, cap, C, h5, h7, h6, h9⟩
     ·have h11 := slice_run (P := P) (w := w) hT h hK (ao := none) (cap := 0) hl hh (Nat.le_refl _) hb
      have e1 : l.toNat = 0 := by simp at hb'; omega
      have e2 : r.toNat = 0 := by simp at hb'; omega
      refine ran_valQ h ht (hex _ (by rw [h5]; exact h11)) ?_
      simp only [e1, e2, sub, List.take_nil, List.drop_nil, Option.map_none, ite_self]
      exact .fl0 U
     ·by_cases hn : xs = []
      ·subst hn
       have h11 := slice_run (P := P) (w := w) hT h hK (ao := some A) (cap := cap) hl hh h6 hb
       have e1 : l.toNat = 0 := by simp at hb'; omega
       have e2 : r.toNat = 0 := by simp at hb'; omega
       refine ran_valQ h ht (hex _ (by rw [h5]; exact h11)) ?_
       simp only [e1, e2, sub, List.take_nil, List.drop_nil, Option.map_some, Nat.sub_self, Nat.sub_zero]
       have key : ∀ (B : Addr), RepF g (.fl U ([] : List (Dn U))) (.slice (some B) 0 cap) := fun B => .fl U [] B 0 cap #[] (fun _ _ => undef) (fun hh => (hh rfl).elim) (Nat.zero_le _) (fun i x hi => by simp at hi) (fun i x hi => by simp at hi)
       split
       ·exact key _
       ·exact key _
      ·obtain ⟨h8, h10⟩ := h7 hn
       generalize hbk : A.block = b at h8 h10
       subst h8
       have h11 := slice_run (P := P) (w := w) hT h hK (ao := some ⟨b, off, none⟩) (cap := cap) hl hh h6 hb
       obtain ⟨off', h12, h13⟩ := sliced_row (b := b) (off := off) (cap := cap) (n := xs.length) (l := l.toNat) (r := r.toNat) (by omega) (by omega) h6 (sz U)
       refine ran_valQ h ht (hex _ (by rw [h5]; exact h11)) ?_
       rw [h12, ← sub_len xs hb]
       refine RepF.fl' (fun _ => h10) (by rw [sub_len xs hb]; omega) fun i x hi => ?_
       have hi' := (List.getElem?_eq_some_iff.1 hi).1
       rw [sub_len xs hb] at hi'
       rw [h13 (by omega)]
       have := h9 _ _ (sub_get xs l r hb'.2.1 i x hi)
       rw [Nat.add_mul, ← Nat.add_assoc] at this
       exact this
   ·simp at ho
  ·rename_i U xs hx
   split at ho
   ·rename_i el r u hK hh _
    cases hU : Nat.beq U el with
    | false => simp [hU] at ho
    | true =>
     simp only [hU, cond_true, Option.some.injEq, Prod.mk.injEq] at ho
     have := Nat.eq_of_beq_eq_true hU
     subst this
     obtain ⟨hb, rfl⟩ := ho
     have hb' := hb
     simp only [inS, Bool.and_eq_true, decide_eq_true_eq] at hb'
     exact sliceOl_ran hT ht h hx rfl hK hh hb hop
   ·simp at ho
  ·simp at ho
theorem slice_ran {F : Fx} (hT : TabOk P F.T) {t m ty : Nat} {x : Operand} {lo hi : Option Operand} {S' : St} (ht : t < nt) (h : Rel d nt e S g a w) (ho : opSlice F t ty x lo hi S = some (true, S')) {o : Oper} (hop : o.op = .slice ty x lo hi none) :
  RanQ d nt e m S' g a w t ((execOp a.eval o).run P w) := by
 unfold opSlice at ho
 split at ho
 ·rename_i U xs u hx
  cases htk : isTake (F.md t) with
  | false => rw [htk] at ho; exact slice_ran0 hT ht h ho hop
  | true =>
   simp only [htk, cond_true] at ho
   split at ho
   ·rename_i el r hK hh
    cases hU : Nat.beq U el with
    | false => simp [hU] at ho
    | true =>
     simp only [hU, cond_true, Option.some.injEq, Prod.mk.injEq] at ho
     have := Nat.eq_of_beq_eq_true hU
     subst this
     obtain ⟨hb, rfl⟩ := ho
     obtain ⟨y, rfl, hy⟩ := opr_tmp hx
     obtain ⟨_, h1, h2⟩ := h.rt y _ hy
     obtain ⟨h3, h4⟩ := h2 _ rfl
     have h4 : a.tmps[u]? = some (a.tmps.getD y undef) := h4
     refine sliceOl_ran hT ht h h3 ?_ hK hh hb hop
     show a.tmps.getD y undef = a.tmps.getD u undef
     rw [Array.getD_eq_getD_getElem? (i := u), h4]; rfl
   ·simp at ho
 ·exact slice_ran0 hT ht h ho hop
theorem execLen (o : Oper) {x : Operand} {T : Nat} {args : Array Operand} {tys : Array TypeId} (hop : o.op = .call { callee := .builtin .len, args := args, argTypes := tys }) (ha : args.toList = [x]) (ht : tys.toList = [T]) {v : Value}
  (hr : (Builtin.len_ #[T] o.type #[a.eval x]).run P w = .ok v w) : (execOp a.eval o).run P w = .ok (.value v) w := by
 have h1 : args = #[x] := by rw [← Array.toArray_toList (xs := args), ha]
 have h2 : tys = #[T] := by rw [← Array.toArray_toList (xs := tys), ht]
 subst h1 h2
 simp [execOp, hop, resolve, invoke, builtin, hr]
theorem len_ran {F : Fx} (hT : TabOk P F.T) {t m ty : Nat} {x : Operand} {S' : St} (ht : t < nt) (h : Rel d nt e S g a w) (ho : opLen F t ty x S = some S') {o : Oper} {args : Array Operand} {tys : Array TypeId}
  (hop : o.op = .call { callee := .builtin .len, args := args, argTypes := tys }) (ha : args.toList = [x]) (hty : tys.toList = [ty]) : RanQ d nt e m S' g a w t ((execOp a.eval o).run P w) := by
 have hsl : ∀ (el : Nat) (ao : Option Addr) (n c : Nat), F.T.K ty = .slice el → a.eval x = .slice ao n c → (execOp a.eval o).run P w = .ok (.value (.int .i64 n)) w := by
  intro el ao n c hK hx
  have h2 := (hT.slice _ _ hK).1
  refine execLen o hop ha hty ?_
  rw [hx, run_len_slice w ty _ ao n c (by rw [elem_eq h2]; exact h2)]
  rfl
 unfold opLen at ho
 split at ho
 ·rename_i el U xs src hK hx
  simp only [Option.some.injEq] at ho
  subst ho
  obtain ⟨u, rfl, hu⟩ := opr_tmp hx
  obtain ⟨_, h4, _⟩ := h.rt u _ hu
  rcases h4 with ⟨rfl, h5⟩ | ⟨b, off, cap, C, E, h5, _⟩
  ·exact ran_valQ h ht (hsl _ _ _ _ hK h5) (.i _ _)
  ·exact ran_valQ h ht (hsl _ _ _ _ hK h5) (.i _ _)
 ·simp at ho
 ·rename_i hK _
  split at ho <;> simp only [Option.some.injEq, reduceCtorEq] at ho
  subst ho
  rename_i b hx
  refine ran_valQ h ht (v := .int .i64 b.size) (execLen o hop ha hty ?_) (.i _ _)
  rw [eval_s h hx]
  simp [Builtin.len_, sem_underlying (hT.str _ hK), goInt]
 ·rename_i el hK _
  split at ho <;> first | (simp only [reduceCtorEq] at ho; done) | (simp only [Option.some.injEq] at ho; subst ho) | skip
  ·rename_i U xs hx
   rcases repF_fl (eval_fl h hx) with ⟨rfl, h5⟩ | ⟨b, off, cap, C, h5, _⟩
   ·exact ran_valQ h ht (hsl _ _ _ _ hK h5) (.i _ _)
   ·exact ran_valQ h ht (hsl _ _ _ _ hK h5) (.i _ _)
  ·rename_i U xs hx
   have h1 := opv_rep h hx
   have h2 : ∃ ao c, a.eval x = .slice ao xs.length c := by
    generalize a.eval x = v at h1
    obtain ⟨vs, h3, _⟩ : RepO g w _ U xs v := h1
    rcases h3.2 with ⟨h4, h5⟩ | ⟨b, cap, cur, h4, _⟩
    ·exact ⟨none, 0, by rw [h4, h5]⟩
    ·exact ⟨_, _, h4⟩
   obtain ⟨ao, c, h3⟩ := h2
   exact ran_valQ h ht (hsl _ _ _ _ hK h3) (.i _ _)
  ·rename_i hx
   exact ran_valQ h ht (hsl _ _ _ _ hK (eval_nl h hx)) (.i _ _)
  ·rename_i k hx
   split at ho
   ·rename_i U xs hk
    simp only [Option.some.injEq] at ho
    subst ho
    obtain ⟨v, h4, h5⟩ := h.vl k _ hk
    have h6 := eval_vo h hx
    rw [h4] at h6
    obtain rfl := Option.some.inj h6
    obtain ⟨vs, h3, _⟩ : RepO g w _ U xs (a.eval x) := h5
    rcases h3.2 with ⟨h7, h8⟩ | ⟨b, cap, cur, h7, _⟩
    ·exact ran_valQ h ht (hsl _ none _ 0 hK (by rw [h7, h8])) (.i _ _)
    ·exact ran_valQ h ht (hsl _ _ _ _ hK h7) (.i _ _)
   ·simp at ho
 ·simp at ho
end
end
end Go.KM
